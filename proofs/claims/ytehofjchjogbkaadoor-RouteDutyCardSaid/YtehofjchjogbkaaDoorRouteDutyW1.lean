/-
  Written by program (gen.py) from the IR of the dump: each function computes its model.
-/
import Derived.Test.YtehofjchjogbkaaDoorRouteDutyW0
namespace Go.Proofs.YtehofjchjogbkaaDoor.W
open Go Go.RowKit Go.Pu Go.Gw Go.Proofs Go.Proofs.YtehofjchjogbkaaDoor.M
set_option linter.unusedVariables false
set_option linter.unusedSimpArgs false
variable {Dw : Prop}

set_option maxRecDepth 4000 in
set_option maxHeartbeats 4000000 in
theorem cal_Zone_parts_c (w : World) {A : Nat → Prop} (hA : ∀ b, w.heap.size ≤ b → A b) (z : cal_Zone) (v_z : Value) (h_z : Sl A w v_z z.changes) {r : (List cal_part)} (hm : cal_Zone_parts z = some r) : Ret Tryd.prog 48 #[.agg #[.int .i64 z.offset, v_z]] w fun v w' => ∃ s0, v = s0 ∧ Ownd 99 w w' s0 r ∧ Kp Dw w w' := by
  unfold cal_Zone_parts at hm
  refine enter Tryd.func48 rfl Tryd.ntmps48 rfl ?_
  have hA0 := hA
  have hB := Nat.le_refl w.heap.size
  have hK : Tr Dw w.heap.size A w A w := Tr.refl (Dw := Dw) hA
  have hH : Hp w.heap.size A w [] := Hp.nil
  refine C_seq ?_
  refine C_region ?_
  refine V_box rfl rfl ?_
  intro b3 w4 h5
  have hk7 := h5.kp (Dw := Dw)
  have h6 : El (α := cal_Zone) A w4 b3 0 z := h5.el hA ⟨[.int .i64 z.offset], _, rfl, rfl, ⟨_, rfl, h_z⟩⟩
  have ht8 := Kp.tr (Dw := Dw) hk7 hA hB
  replace hH := Hp.kp (Dw := Dw) hH hk7
  replace h_z := Sl.tr (Dw := Dw) h_z ht8
  replace hK := Tr.trans (Dw := Dw) hK ht8
  replace hB := Nat.le_trans hB ht8.ex.size
  replace hA := ht8.new
  refine V_y (Y_assign rfl) rfl rfl rfl ?_
  refine V_to (fun _ _ => rfl) ?_
  refine C_seq ?_
  refine C_region ?_
  have h9 := El_cal_Zone_0 h6
  refine V_y (Y_fieldAddr Tryd.underlying42 rfl Tryd.sizeOf3 (by decide) rfl) rfl rfl rfl ?_
  refine V_y (Y_load (El.int h9) Tryd.isAgg3 rfl) rfl rfl rfl ?_
  refine V_y (Y_build Tryd.underlying99 Tryd.zeroValue99 (Tryd_places99 _ Tryd.underlying99) rfl (by with_unfolding_all rfl)) rfl rfl rfl ?_
  refine V_buildOwnH (Dw := Dw) (cells := #[.int .i64 0, .int .i64 3000001, .int .i64 z.offset]) (l := ([(⟨0, 3000001, z.offset⟩ : cal_part)] : List cal_part)) (len := 1) hH Tryd.underlying96 Tryd.sizeOf99 Tryd.zeroValue99 rfl (by kernel_rfl) (show (1 * 3 : Nat) ≠ 0 by decide) (show (1 * 3 : Nat) ≤ 2 ^ 24 by decide) hB hA ⟨[.int .i64 0, .int .i64 3000001, .int .i64 z.offset], _, rfl, ⟨[.int .i64 0], _, rfl, rfl, ⟨[.int .i64 3000001], _, rfl, rfl, rfl⟩⟩, rfl⟩ rfl rfl ?_
  intro v10 w11 A14 hH16 ht15
  replace h6 := El.tr (Dw := Dw) h6 ht15
  replace h9 := El.tr (Dw := Dw) h9 ht15
  replace hK := Tr.trans (Dw := Dw) hK ht15
  replace hB := Nat.le_trans hB ht15.ex.size
  replace hA := ht15.new
  replace hH : Hp w.heap.size A14 w11 (obS (α := cal_part) 99 v10 ([(⟨0, 3000001, z.offset⟩ : cal_part)] : List cal_part) :: []) := hH16
  refine V_y (Y_assign rfl) rfl rfl rfl ?_
  refine V_to (fun _ _ => rfl) ?_
  refine C_seq ?_
  refine C_seq ?_
  refine C_region ?_
  have h17 := El_cal_Zone_1 h6
  refine V_y (Y_fieldAddr Tryd.underlying42 rfl Tryd.sizeOf40 (by decide) rfl) rfl rfl rfl ?_
  obtain ⟨v18, h19, h20⟩ := El.list h17
  refine V_y (Y_load h19 Tryd.isAgg40 rfl) rfl rfl rfl ?_
  refine V_y (Y_lenSl h20 rfl Tryd.underlying40 rfl) rfl rfl rfl ?_
  refine V_y (Y_move rfl) rfl rfl rfl ?_
  refine V_to (fun _ _ => rfl) ?_
  have hn45 := Sl.le h20
  obtain ⟨o21, ho21, hm⟩ := Option.bind_eq_some_iff.1 hm
  refine C_cutG (ι := ((List cal_part) × Value × (Nat → Prop))) (fun ⟨s22, v28, A30⟩ => [(3, v28)]) (fun ⟨s22, v28, A30⟩ => fun w' => o21 = .fin s22 ∧ Hp w.heap.size A30 w' (obS (α := cal_part) 99 v28 s22 :: []) ∧ Tr Dw w.heap.size A14 w11 A30 w') ?_ ?_
  · refine C_block ?_
    refine C_range ho21 (fun k24 s32 a w' => ∃ i : (Value × (Nat → Prop)), Has ⟨35, [], none⟩ a ([(3, i.1), (11, v18), (12, .int .i64 (z.changes.length : Int)), (13, .int .i64 (k24 : Int))]) ∧ Hp w.heap.size i.2 w' (obS (α := cal_part) 99 i.1 s32 :: []) ∧ Tr Dw w.heap.size A14 w11 i.2 w') (fun a ha => ⟨(v10, A14), ha.sub ⟨rfl, rfl, rfl, rfl, trivial⟩, ⟨hH, Tr.refl (Dw := Dw) hA⟩⟩) ?_
    rintro K k24 s32 a w33 ⟨⟨v34, A36⟩, ha86, hH37, hr23⟩ hle41 K44 h43
    refine C_of ?_ ha86
    replace h20 := Sl.tr (Dw := Dw) h20 hr23
    replace hK := Tr.trans (Dw := Dw) hK hr23
    replace hB := Nat.le_trans hB hr23.ex.size
    replace hA := hr23.new
    replace hH : Hp w.heap.size A36 w33 (obS (α := cal_part) 99 v34 s32 :: []) := hH37
    refine C_seq (C_region (V_y (Y_lss rfl rfl) rfl rfl rfl (V_to (fun _ _ => rfl) ?_)))
    refine C_seq ?_
    refine C_cond rfl (fun hc46 => ?_) (fun hc46 => ?_)
    · have hlt42 := lt_of_dec hc46
      obtain ⟨x38, h39, h40⟩ := K44 hlt42
      refine C_skip_to (fun _ _ => rfl) ?_
      refine C_seq ?_
      refine C_block ?_
      refine C_seq ?_
      refine C_region ?_
      obtain ⟨x47, hx47, h39⟩ := Option.bind_eq_some_iff.1 h39
      refine V_indexAddr h20 hx47 Tryd.underlying40 Tryd.sizeOf94 rfl rfl rfl ?_
      intro b48 o49 h50
      obtain ⟨h51, _⟩ := El_cal_Change h50
      refine V_y (Y_loadA h51 Tryd.isAgg94 Tryd.sizeOf94 rfl) rfl rfl rfl ?_
      refine V_alloc Tryd.zeroValue94 rfl ?_
      intro b52 w53 h54
      refine V_storeNew h54 Tryd.sizeOf94 rfl rfl rfl rfl (by exact (List.forall_mem_cons.2 ⟨rfl, (List.forall_mem_cons.2 ⟨rfl, (fun _ h => nomatch h)⟩)⟩)) ?_
      intro w55 h56
      have hk58 := h56.kp (Dw := Dw)
      have h57 : El (α := cal_Change) A36 w55 b52 0 x47 := h56.el hA ⟨[.int .i64 x47.at_], _, rfl, rfl, rfl⟩
      have ht59 := Kp.tr (Dw := Dw) hk58 hA hB
      replace hH := Hp.kp (Dw := Dw) hH hk58
      replace h20 := Sl.tr (Dw := Dw) h20 ht59
      replace h50 := El.tr (Dw := Dw) h50 ht59
      replace hK := Tr.trans (Dw := Dw) hK ht59
      replace hr23 := Tr.trans (Dw := Dw) hr23 ht59
      replace hB := Nat.le_trans hB ht59.ex.size
      replace hA := ht59.new
      refine V_to (fun _ _ => rfl) ?_
      refine C_seq ?_
      refine C_region ?_
      refine V_y (Y_move rfl) rfl rfl rfl ?_
      refine V_y (Y_move rfl) rfl rfl rfl ?_
      refine V_y (Y_lenSl (Hp.any (α := cal_part) (e := 99) (v := v34) (l := s32) hH (i := 0) rfl) rfl Tryd.underlying96 rfl) rfl rfl rfl ?_
      refine V_y (Y_subI rfl rfl) rfl rfl rfl ?_
      have h60 := El_cal_Change_0 h57
      refine V_y (Y_fieldAddr Tryd.underlying94 rfl Tryd.sizeOf3 (by decide) rfl) rfl rfl rfl ?_
      refine V_y (Y_load (El.int h60) Tryd.isAgg3 rfl) rfl rfl rfl ?_
      obtain ⟨x61, hx61, h39⟩ := Option.bind_eq_some_iff.1 h39
      refine V_indexAddrH (α := cal_part) (e := 99) (v := v34) (l := s32) hH (i := 0) rfl hx61 Tryd.underlying96 Tryd.sizeOf99 rfl rfl rfl ?_
      intro b62 o63 h64 hl65
      have h66 := El_cal_part_1 h64
      refine V_y (Y_fieldAddr Tryd.underlying99 rfl Tryd.sizeOf3 (by decide) rfl) rfl rfl rfl ?_
      obtain ⟨x67, hx67, h39⟩ := Option.bind_eq_some_iff.1 h39
      refine V_storeFH (Dw := Dw) (α := cal_part) (e := 99) (v := v34) (l := s32) (foff := 1) hH (i := 0) rfl hl65 hx61 hx67 (fun _ h => by obtain ⟨_, _, rfl, rfl, ⟨_, _, rfl, rfl, rfl⟩⟩ := h; exact ⟨[_], _, rfl, rfl, ⟨[_], _, rfl, rfl, rfl⟩⟩) Tryd.sizeOf3 rfl (by simp [Value.cells, Value.oneCell']) (by decide) hB hA (congrArg (fun z => some (Value.pointer (some ⟨_, z, none⟩))) (by simp [Nat.add_assoc])) rfl ?_
      intro w68 hH69 ht70
      replace h20 := Sl.tr (Dw := Dw) h20 ht70
      replace h57 := El.tr (Dw := Dw) h57 ht70
      replace h60 := El.tr (Dw := Dw) h60 ht70
      replace hK := Tr.trans (Dw := Dw) hK ht70
      replace hr23 := Tr.trans (Dw := Dw) hr23 ht70
      replace hB := Nat.le_trans hB ht70.ex.size
      replace hA := ht70.new
      replace hH : Hp w.heap.size A36 w68 (obS (α := cal_part) 99 v34 x67 :: []) := hH69
      refine V_to (fun _ _ => rfl) ?_
      refine C_region ?_
      refine V_y (Y_move rfl) rfl rfl rfl ?_
      have h71 := El_cal_Change_0 h57
      refine V_y (Y_fieldAddr Tryd.underlying94 rfl Tryd.sizeOf3 (by decide) rfl) rfl rfl rfl ?_
      refine V_y (Y_load (El.int h71) Tryd.isAgg3 rfl) rfl rfl rfl ?_
      have h72 := El_cal_Change_1 h57
      refine V_y (Y_fieldAddr Tryd.underlying94 rfl Tryd.sizeOf3 (by decide) rfl) rfl rfl rfl ?_
      refine V_y (Y_load (El.int h72) Tryd.isAgg3 rfl) rfl rfl rfl ?_
      refine V_y (Y_build Tryd.underlying99 Tryd.zeroValue99 (Tryd_places99 _ Tryd.underlying99) rfl (by with_unfolding_all rfl)) rfl rfl rfl ?_
      refine V_buildSlice (Dw := Dw) (cells := #[.int .i64 x47.at_, .int .i64 3000001, .int .i64 x47.offset]) (l := ([(⟨x47.at_, 3000001, x47.offset⟩ : cal_part)] : List cal_part)) (len := 1) Tryd.underlying96 Tryd.sizeOf99 Tryd.zeroValue99 rfl (by kernel_rfl) (show (1 * 3 : Nat) ≠ 0 by decide) (show (1 * 3 : Nat) ≤ 2 ^ 24 by decide) hA ⟨[.int .i64 x47.at_, .int .i64 3000001, .int .i64 x47.offset], _, rfl, ⟨[.int .i64 x47.at_], _, rfl, rfl, ⟨[.int .i64 3000001], _, rfl, rfl, rfl⟩⟩, rfl⟩ rfl rfl ?_
      intro v73 w74 hk76 h75
      have ht77 := Kp.tr (Dw := Dw) hk76 hA hB
      replace hH := Hp.kp (Dw := Dw) hH hk76
      replace h20 := Sl.tr (Dw := Dw) h20 ht77
      replace h57 := El.tr (Dw := Dw) h57 ht77
      replace h71 := El.tr (Dw := Dw) h71 ht77
      replace h72 := El.tr (Dw := Dw) h72 ht77
      replace hK := Tr.trans (Dw := Dw) hK ht77
      replace hr23 := Tr.trans (Dw := Dw) hr23 ht77
      replace hB := Nat.le_trans hB ht77.ex.size
      replace hA := ht77.new
      obtain ⟨x78, hx78, h39⟩ := Option.bind_eq_some_iff.1 h39
      refine V_appendH (Dw := Dw) (e := 99) (v := v34) (l := x67) (ti := Tryd.t99) (bytes := 24) (lim := 5864062014805) hH (i := 0) rfl h75 hx78 Tryd.underlying96 Tryd_info99 rfl rfl rfl rfl (by decide) (by decide) (by decide) hB hA rfl rfl rfl ?_
      intro v79 w80 A81 hH82 ht83
      replace h20 := Sl.tr (Dw := Dw) h20 ht83
      replace h57 := El.tr (Dw := Dw) h57 ht83
      replace h71 := El.tr (Dw := Dw) h71 ht83
      replace h72 := El.tr (Dw := Dw) h72 ht83
      replace h75 := Sl.tr (Dw := Dw) h75 ht83
      replace hK := Tr.trans (Dw := Dw) hK ht83
      replace hr23 := Tr.trans (Dw := Dw) hr23 ht83
      replace hB := Nat.le_trans hB ht83.ex.size
      replace hA := ht83.new
      replace hH : Hp w.heap.size A81 w80 (obS (α := cal_part) 99 v79 x78 :: []) := hH82
      refine V_y (Y_assign rfl) rfl rfl rfl ?_
      refine V_to (fun _ _ => rfl) ?_
      refine C_region ?_
      refine V_y (Y_addI rfl rfl) rfl rfl rfl ?_
      refine V_y (Y_move rfl) rfl rfl rfl ?_
      obtain rfl := Option.some.inj h39
      refine V_end (fun a ha84 => ?_)
      exact ⟨x78, hlt42, h40, ⟨(v79, A81), ha84.sub ⟨rfl, rfl, rfl, (congrArg (fun z => some (Value.int .i64 z)) (w64_succ hlt42 hn45)), trivial⟩, ⟨hH, hr23⟩⟩⟩
    · refine C_exit (fun a ha85 => ?_)
      exact ⟨(s32, v34, A36), ha85.sub ⟨rfl, trivial⟩, ⟨(h43 (eq_of_dec hle41 hc46)).symm, hH, hr23⟩⟩
  rintro ⟨s22, v28, A30⟩ w25 ⟨rfl, hH31, hk26⟩ a ha27
  rw [Lp.andThen_fin] at hm
  replace hK := Tr.trans (Dw := Dw) hK hk26
  replace hB := Nat.le_trans hB hk26.ex.size
  replace hA := hk26.new
  replace hH : Hp w.heap.size A30 w25 (obS (α := cal_part) 99 v28 s22 :: []) := hH31
  refine C_at (n := ⟨35, [], none⟩) (fun _ _ => rfl) ?_ ha27
  refine C_seq ?_
  refine C_region ?_
  refine V_y (Y_move rfl) rfl rfl rfl ?_
  refine V_y (Y_assign rfl) rfl rfl rfl ?_
  refine V_to (fun _ _ => rfl) ?_
  obtain rfl := Option.some.inj hm
  refine C_ret ?_
  try simp only [↓inBlock_ret, ↓then_ret]
  exact retQ rfl (Res.one Tryd.results48 rfl) ⟨v28, rfl, (Hp.ownd hH (i := 0) rfl), hK.kp⟩

set_option maxRecDepth 4000 in
set_option maxHeartbeats 4000000 in
theorem cal_floor_c (w : World) (a_ : Int) (b : Int) {r : Int} (hm : cal_floor a_ b = some r) : Ret Tryd.prog 51 #[.int .i64 a_, .int .i64 b] w fun v w' => v = .int .i64 r ∧ w = w' := by
  unfold cal_floor at hm
  refine enter Tryd.func51 rfl Tryd.ntmps51 rfl ?_
  refine C_seq ?_
  refine C_region ?_
  refine V_y (Y_assign rfl) rfl rfl rfl ?_
  refine V_to (fun _ _ => rfl) ?_
  refine C_seq ?_
  refine C_region ?_
  refine V_y (Y_move rfl) rfl rfl rfl ?_
  refine V_y (Y_move rfl) rfl rfl rfl ?_
  obtain ⟨x1, hx1, hm⟩ := Option.bind_eq_some_iff.1 hm
  refine V_y (Y_quo hx1 rfl rfl) rfl rfl rfl ?_
  refine V_y (Y_assign rfl) rfl rfl rfl ?_
  refine V_to (fun _ _ => rfl) ?_
  refine C_seq ?_
  refine C_seq ?_
  refine C_region ?_
  refine V_y (Y_move rfl) rfl rfl rfl ?_
  refine V_y (Y_move rfl) rfl rfl rfl ?_
  obtain ⟨x2, hx2, hm⟩ := Option.bind_eq_some_iff.1 hm
  refine V_y (Y_rem hx2 rfl rfl) rfl rfl rfl ?_
  refine V_y (Y_lss rfl rfl) rfl rfl rfl ?_
  refine V_to (fun _ _ => rfl) ?_
  obtain ⟨s4, ho3, hm⟩ := Option.bind_eq_some_iff.1 hm
  refine C_cutG (ι := Unit) (fun (_ : Unit) => [(5, .int .i64 s4)]) (fun (_ : Unit) => fun w' => w = w') ?_ ?_
  · refine C_cond rfl (fun hc9 => ?_) (fun hc9 => ?_)
    · rw [if_pos hc9] at ho3
      refine C_region ?_
      refine V_y (Y_move rfl) rfl rfl rfl ?_
      refine V_y (Y_subI rfl rfl) rfl rfl rfl ?_
      refine V_y (Y_assign rfl) rfl rfl rfl ?_
      obtain rfl := Option.some.inj ho3
      refine V_end (fun a ha10 => ?_)
      exact ⟨(), ha10.sub ⟨rfl, trivial⟩, rfl⟩
    · rw [if_neg (nt hc9)] at ho3
      obtain rfl := Option.some.inj ho3
      refine C_skip (fun a ha11 => ?_)
      exact ⟨(), ha11.sub ⟨rfl, trivial⟩, rfl⟩
  rintro _ _ rfl a ha8
  refine C_at (n := ⟨16, [], none⟩) (fun _ _ => rfl) ?_ ha8
  refine C_seq ?_
  refine C_region ?_
  refine V_y (Y_move rfl) rfl rfl rfl ?_
  refine V_y (Y_assign rfl) rfl rfl rfl ?_
  refine V_to (fun _ _ => rfl) ?_
  obtain rfl := Option.some.inj hm
  refine C_ret ?_
  try simp only [↓inBlock_ret, ↓then_ret]
  exact retQ rfl (Res.one Tryd.results51 rfl) ⟨rfl, rfl⟩

set_option maxRecDepth 4000 in
set_option maxHeartbeats 4000000 in
theorem slices_BinarySearchFunc_Lcal_Special_cal_Special_int_c (w : World) {A : Nat → Prop} (hA : ∀ b, w.heap.size ≤ b → A b) (x : (List cal_Special)) (v_x : Value) (h_x : Sl A w v_x x) (target : Int) (cmp : cal_Special → Int → Option Int) (cmp_f : FuncId) (cmp_a cmp_c : Array Value) (cmp_call : ∀ (args : Array Value) (w : World), (callFunc cmp_f args).run Tryd.prog w = .ok (.enter cmp_f args) w) (cmp_spec : ∀ (w1 : World) (A1 : Nat → Prop), Tr Dw w.heap.size A w A1 w1 → (∀ b, w1.heap.size ≤ b → A1 b) → ∀ (y0 : cal_Special) (v1 : Value) (h2 : Sl A1 w1 v1 y0.shifts) (y1 : Int) (r : Int), cmp y0 y1 = some r → Ret Tryd.prog cmp_f (cmp_a ++ #[.agg #[.int .i64 y0.day, v1], .int .i64 y1] ++ cmp_c) w1 fun v w' => v = .int .i64 r ∧ Kp Dw w1 w') {r : (Int × Bool)} (hm : slices_BinarySearchFunc_Lcal_Special_cal_Special_int x target cmp = some r) : Ret Tryd.prog 60 #[v_x, .int .i64 target, .func (.func cmp_f) cmp_a cmp_c] w fun v w' => v = .tuple #[.int .i64 r.1, .bool r.2] ∧ Kp Dw w w' := by
  unfold slices_BinarySearchFunc_Lcal_Special_cal_Special_int at hm
  refine enter Tryd.func60 rfl Tryd.ntmps60 rfl ?_
  have hA0 := hA
  have hB := Nat.le_refl w.heap.size
  have hK : Tr Dw w.heap.size A w A w := Tr.refl (Dw := Dw) hA
  have hH : Hp w.heap.size A w [] := Hp.nil
  refine C_seq ?_
  refine C_region ?_
  refine V_y (Y_assign rfl) rfl rfl rfl ?_
  refine V_y (Y_assign rfl) rfl rfl rfl ?_
  refine V_to (fun _ _ => rfl) ?_
  refine C_seq ?_
  refine C_region ?_
  refine V_y (Y_move rfl) rfl rfl rfl ?_
  refine V_y (Y_lenSl h_x rfl Tryd.underlying44 rfl) rfl rfl rfl ?_
  refine V_y (Y_assign rfl) rfl rfl rfl ?_
  refine V_to (fun _ _ => rfl) ?_
  refine C_seq ?_
  refine C_region ?_
  refine V_y (Y_move rfl) rfl rfl rfl ?_
  refine V_y (Y_assign rfl) rfl rfl rfl ?_
  refine V_y (Y_assign rfl) rfl rfl rfl ?_
  refine V_to (fun _ _ => rfl) ?_
  refine C_seq ?_
  obtain ⟨o3, ho3, hm⟩ := Option.bind_eq_some_iff.1 hm
  refine C_cutG (ι := ((Int × Int) × (Nat → Prop))) (fun ⟨s4, A10⟩ => [(0, v_x), (1, .int .i64 target), (2, .func (.func cmp_f) cmp_a cmp_c), (8, .int .i64 (x.length : Int)), (9, .int .i64 s4.1)]) (fun ⟨s4, A10⟩ => fun w' => o3 = .fin s4 ∧ Hp w.heap.size A10 w' ([]) ∧ Tr Dw w.heap.size A w A10 w') ?_ ?_
  · refine C_block ?_
    refine C_while ho3 (fun s12 a w' => ∃ i : (Nat → Prop), Has ⟨49, [], none⟩ a ([(0, v_x), (1, .int .i64 target), (2, .func (.func cmp_f) cmp_a cmp_c), (8, .int .i64 (x.length : Int)), (9, .int .i64 s12.1), (10, .int .i64 s12.2)]) ∧ Hp w.heap.size i w' ([]) ∧ Tr Dw w.heap.size A w i w') (fun a ha => ⟨A, ha.sub ⟨rfl, rfl, rfl, rfl, rfl, rfl, trivial⟩, ⟨hH, Tr.refl (Dw := Dw) hA⟩⟩) ?_
    rintro K s12 a w13 ⟨A14, ha56, hH15, hr5⟩ K22
    refine C_of ?_ ha56
    replace h_x := Sl.tr (Dw := Dw) h_x hr5
    replace hK := Tr.trans (Dw := Dw) hK hr5
    replace hB := Nat.le_trans hB hr5.ex.size
    replace hA := hr5.new
    replace hH : Hp w.heap.size A14 w13 ([]) := hH15
    obtain ⟨x16, h17, h18⟩ := K22
    refine C_seq ?_
    refine C_seq ?_
    refine C_region ?_
    refine V_y (Y_move rfl) rfl rfl rfl ?_
    refine V_y (Y_move rfl) rfl rfl rfl ?_
    refine V_y (Y_lss rfl rfl) rfl rfl rfl ?_
    refine V_to (fun _ _ => rfl) ?_
    refine C_cond rfl (fun hc23 => ?_) (fun hc23 => ?_)
    · rw [if_pos hc23] at h17
      refine C_skip_to (fun _ _ => rfl) ?_
      obtain ⟨s25, ho24, h17⟩ := Option.bind_eq_some_iff.1 h17
      refine C_cutG (ι := (Nat → Prop)) (fun (A30 : (Nat → Prop)) => [(0, v_x), (1, .int .i64 target), (2, .func (.func cmp_f) cmp_a cmp_c), (8, .int .i64 (x.length : Int)), (9, .int .i64 s25.1), (10, .int .i64 s25.2)]) (fun (A30 : (Nat → Prop)) => fun w' => Hp w.heap.size A30 w' ([]) ∧ Tr Dw w.heap.size A14 w13 A30 w') ?_ ?_
      · have hr26 : Tr Dw w.heap.size A14 w13 A14 w13 := Tr.refl (Dw := Dw) hA
        refine C_block ?_
        refine C_seq ?_
        refine C_region ?_
        refine V_y (Y_move rfl) rfl rfl rfl ?_
        refine V_y (Y_move rfl) rfl rfl rfl ?_
        refine V_y (Y_addI rfl rfl) rfl rfl rfl ?_
        refine V_y (Y_convI Tryd.underlying3 Tryd.underlying110 rfl) rfl rfl rfl ?_
        obtain ⟨x32, hx32, ho24⟩ := Option.bind_eq_some_iff.1 ho24
        refine V_y (Y_shr hx32 rfl rfl) rfl rfl rfl ?_
        refine V_y (Y_convI Tryd.underlying110 Tryd.underlying3 rfl) rfl rfl rfl ?_
        refine V_y (Y_assign rfl) rfl rfl rfl ?_
        refine V_to (fun _ _ => rfl) ?_
        refine C_seq ?_
        refine C_region ?_
        refine V_y (Y_move rfl) rfl rfl rfl ?_
        refine V_y (Y_move rfl) rfl rfl rfl ?_
        refine V_y (Y_move rfl) rfl rfl rfl ?_
        obtain ⟨x33, hx33, ho24⟩ := Option.bind_eq_some_iff.1 ho24
        refine V_indexAddr h_x hx33 Tryd.underlying44 Tryd.sizeOf77 rfl rfl rfl ?_
        intro b34 o35 h36
        obtain ⟨v37, h39, h38⟩ := El_cal_Special h36
        refine V_y (Y_loadA h39 Tryd.isAgg77 Tryd.sizeOf77 rfl) rfl rfl rfl ?_
        refine V_y (Y_move rfl) rfl rfl rfl ?_
        obtain ⟨x40, hx40, ho24⟩ := Option.bind_eq_some_iff.1 ho24
        refine V_call cmp_call rfl rfl rfl rfl (cmp_spec w13 _ hK hA x33 v37 h38 target _ hx40) ?_
        rintro _ w41 ⟨rfl, hk42⟩
        have ht43 := Kp.tr (Dw := Dw) hk42 hA hB
        replace hH := Hp.kp (Dw := Dw) hH hk42
        replace h_x := Sl.tr (Dw := Dw) h_x ht43
        replace h36 := El.tr (Dw := Dw) h36 ht43
        replace h38 := Sl.tr (Dw := Dw) h38 ht43
        replace hK := Tr.trans (Dw := Dw) hK ht43
        replace hr5 := Tr.trans (Dw := Dw) hr5 ht43
        replace hr26 := Tr.trans (Dw := Dw) hr26 ht43
        replace hB := Nat.le_trans hB ht43.ex.size
        replace hA := ht43.new
        refine V_y (Y_lss rfl rfl) rfl rfl rfl ?_
        refine V_to (fun _ _ => rfl) ?_
        obtain ⟨s45, ho44, ho24⟩ := Option.bind_eq_some_iff.1 ho24
        refine C_cutG (ι := Unit) (fun (_ : Unit) => [(0, v_x), (1, .int .i64 target), (2, .func (.func cmp_f) cmp_a cmp_c), (8, .int .i64 (x.length : Int)), (9, .int .i64 s45.1), (10, .int .i64 s45.2)]) (fun (_ : Unit) => fun w' => w41 = w') ?_ ?_
        · refine C_cond rfl (fun hc50 => ?_) (fun hc50 => ?_)
          · rw [if_pos hc50] at ho44
            refine C_region ?_
            refine V_y (Y_move rfl) rfl rfl rfl ?_
            refine V_y (Y_addI rfl rfl) rfl rfl rfl ?_
            refine V_y (Y_assign rfl) rfl rfl rfl ?_
            obtain rfl := Option.some.inj ho44
            refine V_end (fun a ha51 => ?_)
            exact ⟨(), ha51.sub ⟨rfl, rfl, rfl, rfl, rfl, rfl, trivial⟩, rfl⟩
          · rw [if_neg (nt hc50)] at ho44
            refine C_region ?_
            refine V_y (Y_move rfl) rfl rfl rfl ?_
            refine V_y (Y_assign rfl) rfl rfl rfl ?_
            obtain rfl := Option.some.inj ho44
            refine V_end (fun a ha52 => ?_)
            exact ⟨(), ha52.sub ⟨rfl, rfl, rfl, rfl, rfl, rfl, trivial⟩, rfl⟩
        rintro _ _ rfl a ha49
        obtain rfl := Option.some.inj ho24
        exact ⟨A14, ha49.sub ⟨rfl, rfl, rfl, rfl, rfl, rfl, trivial⟩, ⟨hH, hr26⟩⟩
      rintro A30 w27 ⟨hH31, hk28⟩ a ha29
      replace h_x := Sl.tr (Dw := Dw) h_x hk28
      replace hK := Tr.trans (Dw := Dw) hK hk28
      replace hr5 := Tr.trans (Dw := Dw) hr5 hk28
      replace hB := Nat.le_trans hB hk28.ex.size
      replace hA := hk28.new
      replace hH : Hp w.heap.size A30 w27 ([]) := hH31
      obtain rfl := Option.some.inj h17
      exact ⟨(s25.1, s25.2), h18, ⟨A30, ha29.sub ⟨rfl, rfl, rfl, rfl, rfl, rfl, trivial⟩, ⟨hH, hr5⟩⟩⟩
    · rw [if_neg (nt hc23)] at h17
      obtain rfl := Option.some.inj h17
      refine C_exit (fun a ha55 => ?_)
      exact ⟨((s12.1, s12.2), A14), ha55.sub ⟨rfl, rfl, rfl, rfl, rfl, trivial⟩, ⟨h18.symm, hH, hr5⟩⟩
  rintro ⟨s4, A10⟩ w7 ⟨rfl, hH11, hk8⟩ a ha9
  rw [Lp.andThen_fin] at hm
  replace h_x := Sl.tr (Dw := Dw) h_x hk8
  replace hK := Tr.trans (Dw := Dw) hK hk8
  replace hB := Nat.le_trans hB hk8.ex.size
  replace hA := hk8.new
  replace hH : Hp w.heap.size A10 w7 ([]) := hH11
  refine C_at (n := ⟨49, [], none⟩) (fun _ _ => rfl) ?_ ha9
  refine C_seq ?_
  obtain ⟨s58, ho57, hm⟩ := Option.bind_eq_some_iff.1 hm
  refine C_cutG (ι := (Nat → Prop)) (fun (A63 : (Nat → Prop)) => [(6, .int .i64 s58.1), (7, .bool s58.2)]) (fun (A63 : (Nat → Prop)) => fun w' => Hp w.heap.size A63 w' ([]) ∧ Tr Dw w.heap.size A10 w7 A63 w') ?_ ?_
  · have hr59 : Tr Dw w.heap.size A10 w7 A10 w7 := Tr.refl (Dw := Dw) hA
    refine C_region ?_
    refine V_y (Y_move rfl) rfl rfl rfl ?_
    refine V_y (Y_move rfl) rfl rfl rfl ?_
    refine V_y (Y_move rfl) rfl rfl rfl ?_
    refine V_y (Y_lss rfl rfl) rfl rfl rfl ?_
    refine V_y (Y_move rfl) rfl rfl rfl ?_
    rcases Bool.eq_false_or_eq_true (decide (s4.1 < (x.length : Int))) with hc65 | hc65
    · rw [if_pos hc65] at ho57
      refine V_ge rfl rfl rfl hc65 ?_
      refine V_y (Y_move rfl) rfl rfl rfl ?_
      refine V_ge rfl rfl rfl hc65 ?_
      refine V_y (Y_move rfl) rfl rfl rfl ?_
      refine V_ge rfl rfl rfl hc65 ?_
      refine V_y (Y_move rfl) rfl rfl rfl ?_
      refine V_ge rfl rfl rfl hc65 ?_
      obtain ⟨x66, hx66, ho57⟩ := Option.bind_eq_some_iff.1 ho57
      refine V_indexAddr h_x hx66 Tryd.underlying44 Tryd.sizeOf77 rfl rfl rfl ?_
      intro b67 o68 h69
      refine V_ge rfl rfl rfl hc65 ?_
      obtain ⟨v70, h72, h71⟩ := El_cal_Special h69
      refine V_y (Y_loadA h72 Tryd.isAgg77 Tryd.sizeOf77 rfl) rfl rfl rfl ?_
      refine V_ge rfl rfl rfl hc65 ?_
      refine V_y (Y_move rfl) rfl rfl rfl ?_
      refine V_ge rfl rfl rfl hc65 ?_
      obtain ⟨x73, hx73, ho57⟩ := Option.bind_eq_some_iff.1 ho57
      refine V_call cmp_call rfl rfl rfl rfl (cmp_spec w7 _ hK hA x66 v70 h71 target _ hx73) ?_
      rintro _ w74 ⟨rfl, hk75⟩
      have ht76 := Kp.tr (Dw := Dw) hk75 hA hB
      replace hH := Hp.kp (Dw := Dw) hH hk75
      replace h_x := Sl.tr (Dw := Dw) h_x ht76
      replace h69 := El.tr (Dw := Dw) h69 ht76
      replace h71 := Sl.tr (Dw := Dw) h71 ht76
      replace hK := Tr.trans (Dw := Dw) hK ht76
      replace hr59 := Tr.trans (Dw := Dw) hr59 ht76
      replace hB := Nat.le_trans hB ht76.ex.size
      replace hA := ht76.new
      refine V_ge rfl rfl rfl hc65 ?_
      refine V_y (Y_eql rfl rfl) rfl rfl rfl ?_
      refine V_y (Y_pick_te rfl hc65 rfl) rfl rfl rfl ?_
      refine V_y (Y_assign rfl) rfl rfl rfl ?_
      refine V_y (Y_assign rfl) rfl rfl rfl ?_
      obtain rfl := Option.some.inj ho57
      refine V_end (fun a ha77 => ?_)
      exact ⟨A10, ha77.sub ⟨rfl, rfl, trivial⟩, ⟨hH, hr59⟩⟩
    · rw [if_neg (nt hc65)] at ho57
      refine V_gn rfl rfl rfl hc65 rfl rfl rfl ?_
      refine V_gn rfl rfl rfl hc65 rfl rfl rfl ?_
      refine V_gn rfl rfl rfl hc65 rfl rfl rfl ?_
      refine V_gn rfl rfl rfl hc65 rfl rfl rfl ?_
      refine V_gn rfl rfl rfl hc65 rfl rfl rfl ?_
      refine V_gn rfl rfl rfl hc65 rfl rfl rfl ?_
      refine V_gn rfl rfl rfl hc65 rfl rfl rfl ?_
      refine V_gn rfl rfl rfl hc65 rfl rfl rfl ?_
      refine V_y (Y_pick_fe rfl hc65 rfl) rfl rfl rfl ?_
      refine V_y (Y_assign rfl) rfl rfl rfl ?_
      refine V_y (Y_assign rfl) rfl rfl rfl ?_
      obtain rfl := Option.some.inj ho57
      refine V_end (fun a ha78 => ?_)
      exact ⟨A10, ha78.sub ⟨rfl, rfl, trivial⟩, ⟨hH, hr59⟩⟩
  rintro A63 w60 ⟨hH64, hk61⟩ a ha62
  replace hK := Tr.trans (Dw := Dw) hK hk61
  replace hB := Nat.le_trans hB hk61.ex.size
  replace hA := hk61.new
  replace hH : Hp w.heap.size A63 w60 ([]) := hH64
  refine C_at (n := ⟨49, [], none⟩) (fun _ _ => rfl) ?_ ha62
  obtain rfl := Option.some.inj hm
  refine C_ret ?_
  try simp only [↓inBlock_ret, ↓then_ret]
  exact retQ rfl (Res.two Tryd.results60 rfl rfl) ⟨rfl, hK.kp⟩

set_option maxRecDepth 4000 in
set_option maxHeartbeats 4000000 in
theorem cal_Calendar_shiftsOf_1_c (w : World) {A : Nat → Prop} (hA : ∀ b, w.heap.size ≤ b → A b) (s : cal_Special) (v_s : Value) (h_s : Sl A w v_s s.shifts) (d : Int) {r : Int} (hm : cal_Calendar_shiftsOf_1 s d = some r) : Ret Tryd.prog 61 #[.agg #[.int .i64 s.day, v_s], .int .i64 d] w fun v w' => v = .int .i64 r ∧ Kp Dw w w' := by
  unfold cal_Calendar_shiftsOf_1 at hm
  refine enter Tryd.func61 rfl Tryd.ntmps61 rfl ?_
  have hA0 := hA
  have hB := Nat.le_refl w.heap.size
  have hK : Tr Dw w.heap.size A w A w := Tr.refl (Dw := Dw) hA
  have hH : Hp w.heap.size A w [] := Hp.nil
  refine C_seq ?_
  refine C_region ?_
  refine V_box rfl rfl ?_
  intro b3 w4 h5
  have hk7 := h5.kp (Dw := Dw)
  have h6 : El (α := cal_Special) A w4 b3 0 s := h5.el hA ⟨[.int .i64 s.day], _, rfl, rfl, ⟨_, rfl, h_s⟩⟩
  have ht8 := Kp.tr (Dw := Dw) hk7 hA hB
  replace hH := Hp.kp (Dw := Dw) hH hk7
  replace h_s := Sl.tr (Dw := Dw) h_s ht8
  replace hK := Tr.trans (Dw := Dw) hK ht8
  replace hB := Nat.le_trans hB ht8.ex.size
  replace hA := ht8.new
  refine V_y (Y_assign rfl) rfl rfl rfl ?_
  refine V_to (fun _ _ => rfl) ?_
  refine C_seq ?_
  refine C_region ?_
  have h9 := El_cal_Special_0 h6
  refine V_y (Y_fieldAddr Tryd.underlying77 rfl Tryd.sizeOf3 (by decide) rfl) rfl rfl rfl ?_
  refine V_y (Y_load (El.int h9) Tryd.isAgg3 rfl) rfl rfl rfl ?_
  refine V_y (Y_move rfl) rfl rfl rfl ?_
  refine V_call Tryd.call59 rfl rfl rfl rfl (cmp_Compare_int_c w4 s.day d) ?_
  rintro _ _ ⟨rfl, rfl⟩
  refine V_y (Y_assign rfl) rfl rfl rfl ?_
  refine V_to (fun _ _ => rfl) ?_
  obtain rfl := Option.some.inj hm
  refine C_ret ?_
  try simp only [↓inBlock_ret, ↓then_ret]
  exact retQ rfl (Res.one Tryd.results61 rfl) ⟨rfl, hK.kp⟩

set_option maxRecDepth 4000 in
set_option maxHeartbeats 4000000 in
theorem slices_Clone_Lcal_Shift_cal_Shift_c (w : World) {A : Nat → Prop} (hA : ∀ b, w.heap.size ≤ b → A b) (s : (List cal_Shift)) (v_s : Value) (h_s : Sl A w v_s s) {r : (List cal_Shift)} (hm : slices_Clone_Lcal_Shift_cal_Shift s = some r) : Ret Tryd.prog 62 #[v_s] w fun v w' => ∃ s0, v = s0 ∧ Ownd 89 w w' s0 r ∧ Kp Dw w w' := by
  unfold slices_Clone_Lcal_Shift_cal_Shift at hm
  refine enter Tryd.func62 rfl Tryd.ntmps62 rfl ?_
  have hA0 := hA
  have hB := Nat.le_refl w.heap.size
  have hK : Tr Dw w.heap.size A w A w := Tr.refl (Dw := Dw) hA
  have hH : Hp w.heap.size A w [] := Hp.nil
  rcases Sl.split h_s with ⟨rfl, rfl⟩ | ⟨a0, n0, c0, rfl⟩
  · replace hm : some ([] : (List cal_Shift)) = some r := by simpa [appendL] using hm
    refine C_seq ?_
    refine C_region ?_
    refine V_y (Y_assign rfl) rfl rfl rfl ?_
    refine V_to (fun _ _ => rfl) ?_
    refine C_seq ?_
    refine C_seq ?_
    refine C_region ?_
    refine V_y (Y_move rfl) rfl rfl rfl ?_
    refine V_y (Y_eqlNilT rfl rfl Tryd.underlying43) rfl rfl rfl ?_
    refine V_to (fun _ _ => rfl) ?_
    refine C_cond rfl (fun hc => ?_) (fun hc => ?_)
    · refine C_seq ?_
      refine C_region ?_
      refine V_y (Y_assign rfl) rfl rfl rfl ?_
      refine V_to (fun _ _ => rfl) ?_
      obtain rfl := Option.some.inj hm
      replace hH : Hp w.heap.size A w (obS (α := cal_Shift) 89 (.slice none 0 0) ([] : (List cal_Shift)) :: []) := Hp.addNil (α := cal_Shift) (e := 89) hH
      refine C_ret ?_
      try simp only [↓inBlock_ret, ↓then_ret]
      exact retQ rfl (Res.one Tryd.results62 rfl) ⟨.slice none 0 0, rfl, (Hp.ownd hH (i := 0) rfl), hK.kp⟩
    · exact absurd hc (by decide)
  · refine C_seq ?_
    refine C_region ?_
    refine V_y (Y_assign rfl) rfl rfl rfl ?_
    refine V_to (fun _ _ => rfl) ?_
    refine C_seq ?_
    refine C_seq ?_
    refine C_region ?_
    refine V_y (Y_move rfl) rfl rfl rfl ?_
    refine V_y (Y_eqlNilF rfl rfl Tryd.underlying43) rfl rfl rfl ?_
    refine V_to (fun _ _ => rfl) ?_
    refine C_cond rfl (fun hc => ?_) (fun hc => ?_)
    · exact absurd hc (by decide)
    · refine C_skip_to (fun _ _ => rfl) ?_
      refine C_seq ?_
      refine C_region ?_
      refine V_buildOwn0H (Dw := Dw) (α := cal_Shift) hH Tryd.underlying43 Tryd.sizeOf89 hB hA rfl ?_
      intro v3 w4 A5 hH6 ht7
      replace h_s := Sl.tr (Dw := Dw) h_s ht7
      replace hK := Tr.trans (Dw := Dw) hK ht7
      replace hB := Nat.le_trans hB ht7.ex.size
      replace hA := ht7.new
      replace hH : Hp w.heap.size A5 w4 (obS (α := cal_Shift) 89 v3 ([] : List cal_Shift) :: []) := hH6
      refine V_y (Y_move rfl) rfl rfl rfl ?_
      obtain ⟨x8, hx8, hm⟩ := Option.bind_eq_some_iff.1 hm
      refine V_appendH (Dw := Dw) (e := 89) (v := v3) (l := ([] : List cal_Shift)) (ti := Tryd.t89) (bytes := 24) (lim := 5864062014805) hH (i := 0) rfl h_s hx8 Tryd.underlying43 Tryd_info89 rfl rfl rfl rfl (by decide) (by decide) (by decide) hB hA rfl rfl rfl ?_
      intro v9 w10 A11 hH12 ht13
      replace h_s := Sl.tr (Dw := Dw) h_s ht13
      replace hK := Tr.trans (Dw := Dw) hK ht13
      replace hB := Nat.le_trans hB ht13.ex.size
      replace hA := ht13.new
      replace hH : Hp w.heap.size A11 w10 (obS (α := cal_Shift) 89 v9 x8 :: []) := hH12
      refine V_y (Y_assign rfl) rfl rfl rfl ?_
      refine V_to (fun _ _ => rfl) ?_
      obtain rfl := Option.some.inj hm
      refine C_ret ?_
      try simp only [↓inBlock_ret, ↓then_ret]
      exact retQ rfl (Res.one Tryd.results62 rfl) ⟨v9, rfl, (Hp.ownd hH (i := 0) rfl), hK.kp⟩

set_option maxRecDepth 4000 in
set_option maxHeartbeats 4000000 in
theorem cal_Calendar_shiftsOf_c (w : World) {A : Nat → Prop} (hA : ∀ b, w.heap.size ≤ b → A b) (c : cal_Calendar) (v_c0 : Value) (h_c0 : Sl A w v_c0 c.zone.changes) (v_c1 : Value) (h_c1 : Sl A w v_c1 c.week) (v_c2 : Value) (h_c2 : Sl A w v_c2 c.specials) (day : Int) {r : (List cal_Shift)} (hm : cal_Calendar_shiftsOf c day = some r) : Ret Tryd.prog 50 #[.agg #[.int .i64 c.zone.offset, v_c0, v_c1, v_c2], .int .i64 day] w fun v w' => ∃ s0, v = s0 ∧ Ownd 89 w w' s0 r ∧ Kp Dw w w' := by
  unfold cal_Calendar_shiftsOf at hm
  refine enter Tryd.func50 rfl Tryd.ntmps50 rfl ?_
  have hA0 := hA
  have hB := Nat.le_refl w.heap.size
  have hK : Tr Dw w.heap.size A w A w := Tr.refl (Dw := Dw) hA
  have hH : Hp w.heap.size A w [] := Hp.nil
  refine C_seq ?_
  refine C_region ?_
  refine V_box rfl rfl ?_
  intro b7 w9 h10
  have hk12 := h10.kp (Dw := Dw)
  have h11 : El (α := cal_Calendar) A w9 b7 0 c := h10.el hA ⟨[.int .i64 c.zone.offset, v_c0], _, rfl, ⟨[.int .i64 c.zone.offset], _, rfl, rfl, ⟨_, rfl, h_c0⟩⟩, ⟨[v_c1], _, rfl, ⟨_, rfl, h_c1⟩, ⟨_, rfl, h_c2⟩⟩⟩
  have ht13 := Kp.tr (Dw := Dw) hk12 hA hB
  replace hH := Hp.kp (Dw := Dw) hH hk12
  replace h_c0 := Sl.tr (Dw := Dw) h_c0 ht13
  replace h_c1 := Sl.tr (Dw := Dw) h_c1 ht13
  replace h_c2 := Sl.tr (Dw := Dw) h_c2 ht13
  replace hK := Tr.trans (Dw := Dw) hK ht13
  replace hB := Nat.le_trans hB ht13.ex.size
  replace hA := ht13.new
  refine V_y (Y_assign rfl) rfl rfl rfl ?_
  refine V_to (fun _ _ => rfl) ?_
  refine C_seq ?_
  refine C_region ?_
  have h14 := El_cal_Calendar_2 h11
  refine V_y (Y_fieldAddr Tryd.underlying46 rfl Tryd.sizeOf44 (by decide) rfl) rfl rfl rfl ?_
  obtain ⟨v15, h16, h17⟩ := El.list h14
  refine V_y (Y_load h16 Tryd.isAgg44 rfl) rfl rfl rfl ?_
  refine V_y (Y_move rfl) rfl rfl rfl ?_
  obtain ⟨x20, hx20, hm⟩ := Option.bind_eq_some_iff.1 hm
  refine V_call Tryd.call60 rfl rfl rfl rfl (slices_BinarySearchFunc_Lcal_Special_cal_Special_int_c (Dw := Dw) w9 hA c.specials v15 h17 day (fun y31 y32 => cal_Calendar_shiftsOf_1 y31 y32) 61 #[] #[] Tryd.call61 (fun w27 A28 ht29 h30 y21 v22 h23 y24 r25 h26 => (cal_Calendar_shiftsOf_1_c (Dw := Dw) w27 h30 y21 v22 h23 y24  h26).mono (fun _ _ h => ⟨h.1, h.2⟩)) hx20) ?_
  rintro _ w33 ⟨rfl, hk34⟩
  have ht35 := Kp.tr (Dw := Dw) hk34 hA hB
  replace hH := Hp.kp (Dw := Dw) hH hk34
  replace h11 := El.tr (Dw := Dw) h11 ht35
  replace h14 := El.tr (Dw := Dw) h14 ht35
  replace h17 := Sl.tr (Dw := Dw) h17 ht35
  replace hK := Tr.trans (Dw := Dw) hK ht35
  replace hB := Nat.le_trans hB ht35.ex.size
  replace hA := ht35.new
  refine V_y (Y_move rfl) rfl rfl rfl ?_
  refine V_y (Y_extract rfl rfl) rfl rfl rfl ?_
  refine V_y (Y_extract rfl rfl) rfl rfl rfl ?_
  refine V_y (Y_assign rfl) rfl rfl rfl ?_
  refine V_y (Y_assign rfl) rfl rfl rfl ?_
  refine V_to (fun _ _ => rfl) ?_
  refine C_seq ?_
  refine C_seq ?_
  refine C_region ?_
  refine V_y (Y_move rfl) rfl rfl rfl ?_
  refine V_to (fun _ _ => rfl) ?_
  refine C_cond rfl (fun hc36 => ?_) (fun hc36 => ?_)
  · rw [if_pos hc36] at hm
    refine C_seq ?_
    refine C_region ?_
    have h37 := El_cal_Calendar_2 h11
    refine V_y (Y_fieldAddr Tryd.underlying46 rfl Tryd.sizeOf44 (by decide) rfl) rfl rfl rfl ?_
    obtain ⟨v38, h39, h40⟩ := El.list h37
    refine V_y (Y_load h39 Tryd.isAgg44 rfl) rfl rfl rfl ?_
    refine V_y (Y_move rfl) rfl rfl rfl ?_
    obtain ⟨x41, hx41, hm⟩ := Option.bind_eq_some_iff.1 hm
    refine V_indexAddr h40 hx41 Tryd.underlying44 Tryd.sizeOf77 rfl rfl rfl ?_
    intro b42 o43 h44
    have h45 := El_cal_Special_1 h44
    refine V_y (Y_fieldAddr Tryd.underlying77 rfl Tryd.sizeOf43 (by decide) rfl) rfl rfl rfl ?_
    obtain ⟨v46, h47, h48⟩ := El.list h45
    refine V_y (Y_load h47 Tryd.isAgg43 rfl) rfl rfl rfl ?_
    obtain ⟨x49, hx49, hm⟩ := Option.bind_eq_some_iff.1 hm
    refine V_call Tryd.call62 rfl rfl rfl rfl (slices_Clone_Lcal_Shift_cal_Shift_c (Dw := Dw) w33 hA x41.shifts v46 h48 hx49) ?_
    rintro v50 w52 ⟨_, rfl, h51, hk53⟩
    obtain ⟨A54, ht55, hH56⟩ := Hp.addOwnd (Dw := Dw) hH hB hA hk53 h51
    replace h11 := El.tr (Dw := Dw) h11 ht55
    replace h37 := El.tr (Dw := Dw) h37 ht55
    replace h40 := Sl.tr (Dw := Dw) h40 ht55
    replace h44 := El.tr (Dw := Dw) h44 ht55
    replace h45 := El.tr (Dw := Dw) h45 ht55
    replace h48 := Sl.tr (Dw := Dw) h48 ht55
    replace hK := Tr.trans (Dw := Dw) hK ht55
    replace hB := Nat.le_trans hB ht55.ex.size
    replace hA := ht55.new
    replace hH : Hp w.heap.size A54 w52 (obS (α := cal_Shift) 89 v50 x49 :: []) := hH56
    refine V_y (Y_assign rfl) rfl rfl rfl ?_
    refine V_to (fun _ _ => rfl) ?_
    obtain rfl := Option.some.inj hm
    refine C_ret ?_
    try simp only [↓inBlock_ret, ↓then_ret]
    exact retQ rfl (Res.one Tryd.results50 rfl) ⟨v50, rfl, (Hp.ownd hH (i := 0) rfl), hK.kp⟩
  · rw [if_neg (nt hc36)] at hm
    refine C_skip_to (fun _ _ => rfl) ?_
    refine C_seq ?_
    refine C_region ?_
    refine V_y (Y_assign rfl) rfl rfl rfl ?_
    refine V_to (fun _ _ => rfl) ?_
    refine C_seq ?_
    refine C_seq ?_
    refine C_region ?_
    have h57 := El_cal_Calendar_1 h11
    refine V_y (Y_fieldAddr Tryd.underlying46 rfl Tryd.sizeOf43 (by decide) rfl) rfl rfl rfl ?_
    obtain ⟨v58, h59, h60⟩ := El.list h57
    refine V_y (Y_load h59 Tryd.isAgg43 rfl) rfl rfl rfl ?_
    refine V_y (Y_lenSl h60 rfl Tryd.underlying43 rfl) rfl rfl rfl ?_
    refine V_y (Y_move rfl) rfl rfl rfl ?_
    refine V_to (fun _ _ => rfl) ?_
    replace hH : Hp w.heap.size A w33 (obS (α := cal_Shift) 89 (.slice none 0 0) ([] : (List cal_Shift)) :: []) := Hp.addNil (α := cal_Shift) (e := 89) hH
    have hn85 := Sl.le h60
    obtain ⟨o61, ho61, hm⟩ := Option.bind_eq_some_iff.1 hm
    refine C_cutG (ι := ((List cal_Shift) × Value × (Nat → Prop))) (fun ⟨s62, v68, A70⟩ => [(7, v68)]) (fun ⟨s62, v68, A70⟩ => fun w' => o61 = .fin s62 ∧ Hp w.heap.size A70 w' (obS (α := cal_Shift) 89 v68 s62 :: []) ∧ Tr Dw w.heap.size A w33 A70 w') ?_ ?_
    · refine C_block ?_
      refine C_range ho61 (fun k64 s72 a w' => ∃ i : (Value × (Nat → Prop)), Has ⟨50, [], none⟩ a ([(1, .int .i64 day), (7, i.1), (26, v58), (27, .int .i64 (c.week.length : Int)), (28, .int .i64 (k64 : Int))]) ∧ Hp w.heap.size i.2 w' (obS (α := cal_Shift) 89 i.1 s72 :: []) ∧ Tr Dw w.heap.size A w33 i.2 w') (fun a ha => ⟨(.slice none 0 0, A), ha.sub ⟨rfl, rfl, rfl, rfl, rfl, trivial⟩, ⟨hH, Tr.refl (Dw := Dw) hA⟩⟩) ?_
      rintro K k64 s72 a w73 ⟨⟨v74, A76⟩, ha144, hH77, hr63⟩ hle81 K84 h83
      refine C_of ?_ ha144
      replace h60 := Sl.tr (Dw := Dw) h60 hr63
      replace hK := Tr.trans (Dw := Dw) hK hr63
      replace hB := Nat.le_trans hB hr63.ex.size
      replace hA := hr63.new
      replace hH : Hp w.heap.size A76 w73 (obS (α := cal_Shift) 89 v74 s72 :: []) := hH77
      refine C_seq (C_region (V_y (Y_lss rfl rfl) rfl rfl rfl (V_to (fun _ _ => rfl) ?_)))
      refine C_seq ?_
      refine C_cond rfl (fun hc86 => ?_) (fun hc86 => ?_)
      · have hlt82 := lt_of_dec hc86
        obtain ⟨x78, h79, h80⟩ := K84 hlt82
        refine C_skip_to (fun _ _ => rfl) ?_
        refine C_seq ?_
        obtain ⟨s88, ho87, h79⟩ := Option.bind_eq_some_iff.1 h79
        refine C_cutG (ι := (Value × (Nat → Prop))) (fun ⟨v90, A95⟩ => [(1, .int .i64 day), (7, v90), (26, v58), (27, .int .i64 (c.week.length : Int)), (28, .int .i64 (k64 : Int))]) (fun ⟨v90, A95⟩ => fun w' => Hp w.heap.size A95 w' (obS (α := cal_Shift) 89 v90 s88 :: []) ∧ Tr Dw w.heap.size A76 w73 A95 w') ?_ ?_
        · have hr89 : Tr Dw w.heap.size A76 w73 A76 w73 := Tr.refl (Dw := Dw) hA
          refine C_block ?_
          refine C_seq ?_
          refine C_region ?_
          obtain ⟨x97, hx97, ho87⟩ := Option.bind_eq_some_iff.1 ho87
          refine V_indexAddr h60 hx97 Tryd.underlying43 Tryd.sizeOf89 rfl rfl rfl ?_
          intro b98 o99 h100
          obtain ⟨h101, _⟩ := El_cal_Shift h100
          refine V_y (Y_loadA h101 Tryd.isAgg89 Tryd.sizeOf89 rfl) rfl rfl rfl ?_
          refine V_alloc Tryd.zeroValue89 rfl ?_
          intro b102 w103 h104
          refine V_storeNew h104 Tryd.sizeOf89 rfl rfl rfl rfl (by exact (List.forall_mem_cons.2 ⟨rfl, (List.forall_mem_cons.2 ⟨rfl, (List.forall_mem_cons.2 ⟨rfl, (fun _ h => nomatch h)⟩)⟩)⟩)) ?_
          intro w105 h106
          have hk108 := h106.kp (Dw := Dw)
          have h107 : El (α := cal_Shift) A76 w105 b102 0 x97 := h106.el hA ⟨[.int .i64 x97.day], _, rfl, rfl, ⟨[.int .i64 x97.from_], _, rfl, rfl, rfl⟩⟩
          have ht109 := Kp.tr (Dw := Dw) hk108 hA hB
          replace hH := Hp.kp (Dw := Dw) hH hk108
          replace h60 := Sl.tr (Dw := Dw) h60 ht109
          replace h100 := El.tr (Dw := Dw) h100 ht109
          replace hK := Tr.trans (Dw := Dw) hK ht109
          replace hr63 := Tr.trans (Dw := Dw) hr63 ht109
          replace hr89 := Tr.trans (Dw := Dw) hr89 ht109
          replace hB := Nat.le_trans hB ht109.ex.size
          replace hA := ht109.new
          refine V_to (fun _ _ => rfl) ?_
          refine C_seq ?_
          refine C_region_q (Dw := Dw) Tryd_mixed (by kernel_rfl) ?_
          have h110 := El_cal_Shift_0 h107
          refine VQ_y (fun w' hw' => Y_fieldAddr Tryd.underlying89 rfl Tryd.sizeOf3 (by decide) rfl) rfl rfl rfl ?_
          refine VQ_y (fun w' hw' => Y_load (El.int (El.kp (Dw := Dw) h110 hw')) Tryd.isAgg3 rfl) rfl rfl rfl ?_
          refine VQ_y (fun w' hw' => Y_move rfl) rfl rfl rfl ?_
          refine VQ_y (fun w' hw' => Y_move rfl) rfl rfl rfl ?_
          obtain ⟨x111, hx111, ho87⟩ := Option.bind_eq_some_iff.1 ho87
          refine VQ_call (.int .i64 x111) Tryd.call51 rfl rfl rfl rfl (fun w' hw' => (cal_floor_c w' day 7 hx111).mono (fun _ _ h => ⟨h.1, h.2 ▸ hw'⟩)) ?_
          refine VQ_y (fun w' hw' => Y_mulI rfl rfl) rfl rfl rfl ?_
          refine VQ_y (fun w' hw' => Y_subI rfl rfl) rfl rfl rfl ?_
          refine VQ_y (fun w' hw' => Y_eql rfl rfl) rfl rfl rfl ?_
          refine VQ_to (fun _ _ => rfl) (fun w112 hk113 => ?_)
          have ht114 := Kp.tr (Dw := Dw) hk113 hA hB
          replace hH := Hp.kp (Dw := Dw) hH hk113
          replace h60 := Sl.tr (Dw := Dw) h60 ht114
          replace h107 := El.tr (Dw := Dw) h107 ht114
          replace hK := Tr.trans (Dw := Dw) hK ht114
          replace hr63 := Tr.trans (Dw := Dw) hr63 ht114
          replace hr89 := Tr.trans (Dw := Dw) hr89 ht114
          replace hB := Nat.le_trans hB ht114.ex.size
          replace hA := ht114.new
          obtain ⟨s116, ho115, ho87⟩ := Option.bind_eq_some_iff.1 ho87
          refine C_cutG (ι := (Value × (Nat → Prop))) (fun ⟨v118, A123⟩ => [(1, .int .i64 day), (7, v118), (26, v58), (27, .int .i64 (c.week.length : Int)), (28, .int .i64 (k64 : Int))]) (fun ⟨v118, A123⟩ => fun w' => Hp w.heap.size A123 w' (obS (α := cal_Shift) 89 v118 s116 :: []) ∧ Tr Dw w.heap.size A76 w112 A123 w') ?_ ?_
          · have hr117 : Tr Dw w.heap.size A76 w112 A76 w112 := Tr.refl (Dw := Dw) hA
            refine C_cond rfl (fun hc125 => ?_) (fun hc125 => ?_)
            · rw [if_pos hc125] at ho115
              refine C_region ?_
              refine V_y (Y_move rfl) rfl rfl rfl ?_
              have h126 := El_cal_Shift_1 h107
              refine V_y (Y_fieldAddr Tryd.underlying89 rfl Tryd.sizeOf3 (by decide) rfl) rfl rfl rfl ?_
              refine V_y (Y_load (El.int h126) Tryd.isAgg3 rfl) rfl rfl rfl ?_
              have h127 := El_cal_Shift_2 h107
              refine V_y (Y_fieldAddr Tryd.underlying89 rfl Tryd.sizeOf3 (by decide) rfl) rfl rfl rfl ?_
              refine V_y (Y_load (El.int h127) Tryd.isAgg3 rfl) rfl rfl rfl ?_
              refine V_y (Y_build Tryd.underlying89 Tryd.zeroValue89 (Tryd_places89 _ Tryd.underlying89) rfl (by with_unfolding_all rfl)) rfl rfl rfl ?_
              refine V_buildSlice (Dw := Dw) (cells := #[.int .i64 0, .int .i64 x97.from_, .int .i64 x97.to_]) (l := ([(⟨0, x97.from_, x97.to_⟩ : cal_Shift)] : List cal_Shift)) (len := 1) Tryd.underlying43 Tryd.sizeOf89 Tryd.zeroValue89 rfl (by kernel_rfl) (show (1 * 3 : Nat) ≠ 0 by decide) (show (1 * 3 : Nat) ≤ 2 ^ 24 by decide) hA ⟨[.int .i64 0, .int .i64 x97.from_, .int .i64 x97.to_], _, rfl, ⟨[.int .i64 0], _, rfl, rfl, ⟨[.int .i64 x97.from_], _, rfl, rfl, rfl⟩⟩, rfl⟩ rfl rfl ?_
              intro v128 w129 hk131 h130
              have ht132 := Kp.tr (Dw := Dw) hk131 hA hB
              replace hH := Hp.kp (Dw := Dw) hH hk131
              replace h60 := Sl.tr (Dw := Dw) h60 ht132
              replace h107 := El.tr (Dw := Dw) h107 ht132
              replace h126 := El.tr (Dw := Dw) h126 ht132
              replace h127 := El.tr (Dw := Dw) h127 ht132
              replace hK := Tr.trans (Dw := Dw) hK ht132
              replace hr63 := Tr.trans (Dw := Dw) hr63 ht132
              replace hr89 := Tr.trans (Dw := Dw) hr89 ht132
              replace hr117 := Tr.trans (Dw := Dw) hr117 ht132
              replace hB := Nat.le_trans hB ht132.ex.size
              replace hA := ht132.new
              obtain ⟨x133, hx133, ho115⟩ := Option.bind_eq_some_iff.1 ho115
              refine V_appendH (Dw := Dw) (e := 89) (v := v74) (l := s72) (ti := Tryd.t89) (bytes := 24) (lim := 5864062014805) hH (i := 0) rfl h130 hx133 Tryd.underlying43 Tryd_info89 rfl rfl rfl rfl (by decide) (by decide) (by decide) hB hA rfl rfl rfl ?_
              intro v134 w135 A136 hH137 ht138
              replace h60 := Sl.tr (Dw := Dw) h60 ht138
              replace h107 := El.tr (Dw := Dw) h107 ht138
              replace h126 := El.tr (Dw := Dw) h126 ht138
              replace h127 := El.tr (Dw := Dw) h127 ht138
              replace h130 := Sl.tr (Dw := Dw) h130 ht138
              replace hK := Tr.trans (Dw := Dw) hK ht138
              replace hr63 := Tr.trans (Dw := Dw) hr63 ht138
              replace hr89 := Tr.trans (Dw := Dw) hr89 ht138
              replace hr117 := Tr.trans (Dw := Dw) hr117 ht138
              replace hB := Nat.le_trans hB ht138.ex.size
              replace hA := ht138.new
              replace hH : Hp w.heap.size A136 w135 (obS (α := cal_Shift) 89 v134 x133 :: []) := hH137
              refine V_y (Y_assign rfl) rfl rfl rfl ?_
              obtain rfl := Option.some.inj ho115
              refine V_end (fun a ha139 => ?_)
              exact ⟨(v134, A136), ha139.sub ⟨rfl, rfl, rfl, rfl, rfl, trivial⟩, ⟨hH, hr117⟩⟩
            · rw [if_neg (nt hc125)] at ho115
              obtain rfl := Option.some.inj ho115
              refine C_skip (fun a ha140 => ?_)
              exact ⟨(v74, A76), ha140.sub ⟨rfl, rfl, rfl, rfl, rfl, trivial⟩, ⟨hH, hr117⟩⟩
          rintro ⟨v118, A123⟩ w120 ⟨hH124, hk121⟩ a ha122
          replace h60 := Sl.tr (Dw := Dw) h60 hk121
          replace hK := Tr.trans (Dw := Dw) hK hk121
          replace hr63 := Tr.trans (Dw := Dw) hr63 hk121
          replace hr89 := Tr.trans (Dw := Dw) hr89 hk121
          replace hB := Nat.le_trans hB hk121.ex.size
          replace hA := hk121.new
          replace hH : Hp w.heap.size A123 w120 (obS (α := cal_Shift) 89 v118 s116 :: []) := hH124
          obtain rfl := Option.some.inj ho87
          exact ⟨(v118, A123), ha122.sub ⟨rfl, rfl, rfl, rfl, rfl, trivial⟩, ⟨hH, hr89⟩⟩
        rintro ⟨v90, A95⟩ w92 ⟨hH96, hk93⟩ a ha94
        replace h60 := Sl.tr (Dw := Dw) h60 hk93
        replace hK := Tr.trans (Dw := Dw) hK hk93
        replace hr63 := Tr.trans (Dw := Dw) hr63 hk93
        replace hB := Nat.le_trans hB hk93.ex.size
        replace hA := hk93.new
        replace hH : Hp w.heap.size A95 w92 (obS (α := cal_Shift) 89 v90 s88 :: []) := hH96
        refine C_at (n := ⟨50, [], none⟩) (fun _ _ => rfl) ?_ ha94
        refine C_region ?_
        refine V_y (Y_addI rfl rfl) rfl rfl rfl ?_
        refine V_y (Y_move rfl) rfl rfl rfl ?_
        obtain rfl := Option.some.inj h79
        refine V_end (fun a ha142 => ?_)
        exact ⟨s88, hlt82, h80, ⟨(v90, A95), ha142.sub ⟨rfl, rfl, rfl, rfl, (congrArg (fun z => some (Value.int .i64 z)) (w64_succ hlt82 hn85)), trivial⟩, ⟨hH, hr63⟩⟩⟩
      · refine C_exit (fun a ha143 => ?_)
        exact ⟨(s72, v74, A76), ha143.sub ⟨rfl, trivial⟩, ⟨(h83 (eq_of_dec hle81 hc86)).symm, hH, hr63⟩⟩
    rintro ⟨s62, v68, A70⟩ w65 ⟨rfl, hH71, hk66⟩ a ha67
    rw [Lp.andThen_fin] at hm
    replace hK := Tr.trans (Dw := Dw) hK hk66
    replace hB := Nat.le_trans hB hk66.ex.size
    replace hA := hk66.new
    replace hH : Hp w.heap.size A70 w65 (obS (α := cal_Shift) 89 v68 s62 :: []) := hH71
    refine C_at (n := ⟨50, [], none⟩) (fun _ _ => rfl) ?_ ha67
    refine C_seq ?_
    refine C_region ?_
    refine V_y (Y_move rfl) rfl rfl rfl ?_
    refine V_y (Y_assign rfl) rfl rfl rfl ?_
    refine V_to (fun _ _ => rfl) ?_
    obtain rfl := Option.some.inj hm
    refine C_ret ?_
    try simp only [↓inBlock_ret, ↓then_ret]
    exact retQ rfl (Res.one Tryd.results50 rfl) ⟨v68, rfl, (Hp.ownd hH (i := 0) rfl), hK.kp⟩

set_option maxRecDepth 4000 in
set_option maxHeartbeats 4000000 in
theorem cal_Calendar_shifts_1_1_c (w : World) {A : Nat → Prop} {B : Nat} (hB : B ≤ w.heap.size) (hA : ∀ b, w.heap.size ≤ b → A b) (day : Int) (p1 : cal_Calendar) (b_p1 : Nat) (h_p1 : El A w b_p1 0 p1) (p2 : cal_part) (b_p2 : Nat) (h_p2 : El A w b_p2 0 p2) (p3 : Int) (b_p3 : Nat) (h_p3 : El A w b_p3 0 p3) (p4 : Int) (b_p4 : Nat) (h_p4 : El A w b_p4 0 p4) {p5_S : Type} (p5 : cal_Span → p5_S → Option (Bool × p5_S)) (p5_Y : p5_S → Ob) (p5_v : Value) (p5_one : p5_v.cells.toList = [p5_v]) (p5_s : p5_S) (p5_spec : ∀ (w2 : World) (A2 : Nat → Prop) (L2 : List Ob) (x : cal_Span) (z : p5_S) (b : Bool) (z2 : p5_S), B ≤ w2.heap.size → (∀ b, w2.heap.size ≤ b → A2 b) → Tr Dw B A w A2 w2 → Hp B A2 w2 (p5_Y z :: L2) → p5 x z = some (b, z2) → CallV Tryd.prog p5_v [.agg #[.int .i64 x.from_, .int .i64 x.to_]] w2 fun v w3 => v = .bool b ∧ ∃ A3, Tr Dw B A2 w2 A3 w3 ∧ Hp B A3 w3 (p5_Y z2 :: L2)) (b_p5 : Nat) (h_p5 : Vb A w b_p5 p5_v) {L : List Ob} (hH : Hp B A w (p5_Y p5_s :: L)) {r : (Bool × p5_S)} (hm : cal_Calendar_shifts_1_1 day p1 p2 p3 p4 p5 p5_s = some r) : Ret Tryd.prog 49 #[.int .i64 day, .pointer (some ⟨b_p1, 0, none⟩), .pointer (some ⟨b_p2, 0, none⟩), .pointer (some ⟨b_p3, 0, none⟩), .pointer (some ⟨b_p4, 0, none⟩), .pointer (some ⟨b_p5, 0, none⟩)] w fun v w' => ∃ A1 : Nat → Prop, v = .bool r.1 ∧ Hp B A1 w' (p5_Y r.2 :: L) ∧ Tr Dw B A w A1 w' := by
  unfold cal_Calendar_shifts_1_1 at hm
  refine enter Tryd.func49 rfl Tryd.ntmps49 rfl ?_
  have hK : Tr Dw B A w A w := Tr.refl (Dw := Dw) hA
  refine C_seq ?_
  refine C_region ?_
  refine V_y (Y_assign rfl) rfl rfl rfl ?_
  refine V_to (fun _ _ => rfl) ?_
  refine C_seq ?_
  refine C_seq ?_
  refine C_region ?_
  obtain ⟨v1, v3, v5, h7, h2, h4, h6⟩ := El_cal_Calendar h_p1
  refine V_y (Y_loadA h7 Tryd.isAgg46 Tryd.sizeOf46 rfl) rfl rfl rfl ?_
  refine V_y (Y_move rfl) rfl rfl rfl ?_
  obtain ⟨x8, hx8, hm⟩ := Option.bind_eq_some_iff.1 hm
  refine V_call Tryd.call50 rfl rfl rfl rfl (cal_Calendar_shiftsOf_c (Dw := Dw) w hA p1 v1 h2 v3 h4 v5 h6 day hx8) ?_
  rintro v9 w11 ⟨_, rfl, h10, hk12⟩
  obtain ⟨A13, ht14, hH15⟩ := Hp.addOwnd (Dw := Dw) hH hB hA hk12 h10
  replace h_p1 := El.tr (Dw := Dw) h_p1 ht14
  replace h_p2 := El.tr (Dw := Dw) h_p2 ht14
  replace h_p3 := El.tr (Dw := Dw) h_p3 ht14
  replace h_p4 := El.tr (Dw := Dw) h_p4 ht14
  replace h_p5 := Vb.tr (Dw := Dw) h_p5 ht14
  replace h2 := Sl.tr (Dw := Dw) h2 ht14
  replace h4 := Sl.tr (Dw := Dw) h4 ht14
  replace h6 := Sl.tr (Dw := Dw) h6 ht14
  replace hK := Tr.trans (Dw := Dw) hK ht14
  replace hB := Nat.le_trans hB ht14.ex.size
  replace hA := ht14.new
  replace hH : Hp B A13 w11 (obS (α := cal_Shift) 89 v9 x8 :: p5_Y p5_s :: L) := hH15
  refine V_y (Y_lenSl (Hp.any (α := cal_Shift) (e := 89) (v := v9) (l := x8) hH (i := 0) rfl) rfl Tryd.underlying43 rfl) rfl rfl rfl ?_
  refine V_y (Y_move rfl) rfl rfl rfl ?_
  refine V_to (fun _ _ => rfl) ?_
  have hn36 := Hp.le (α := cal_Shift) (e := 89) (v := v9) (l := x8) hH (i := 0) rfl
  obtain ⟨o16, ho16, hm⟩ := Option.bind_eq_some_iff.1 hm
  refine C_cutG (ι := (p5_S × (Nat → Prop))) (fun ⟨s17, A23⟩ => []) (fun ⟨s17, A23⟩ => fun w' => o16 = .fin s17 ∧ Hp B A23 w' (obS (α := cal_Shift) 89 v9 x8 :: p5_Y s17 :: L) ∧ Tr Dw B A13 w11 A23 w') ?_ ?_
  · refine C_block ?_
    refine C_range ho16 (fun k19 s25 a w' => ∃ i : (Nat → Prop), Has ⟨50, [], none⟩ a ([(0, .int .i64 day), (2, .pointer (some ⟨b_p2, 0, none⟩)), (3, .pointer (some ⟨b_p3, 0, none⟩)), (4, .pointer (some ⟨b_p4, 0, none⟩)), (5, .pointer (some ⟨b_p5, 0, none⟩)), (14, v9), (15, .int .i64 (x8.length : Int)), (16, .int .i64 (k19 : Int))]) ∧ Hp B i w' (obS (α := cal_Shift) 89 v9 x8 :: p5_Y s25 :: L) ∧ Tr Dw B A13 w11 i w') (fun a ha => ⟨A13, ha.sub ⟨rfl, rfl, rfl, rfl, rfl, rfl, rfl, rfl, trivial⟩, ⟨hH, Tr.refl (Dw := Dw) hA⟩⟩) ?_
    rintro K k19 s25 a w26 ⟨A27, ha85, hH28, hr18⟩ hle32 K35 h34
    refine C_of ?_ ha85
    replace h_p2 := El.tr (Dw := Dw) h_p2 hr18
    replace h_p3 := El.tr (Dw := Dw) h_p3 hr18
    replace h_p4 := El.tr (Dw := Dw) h_p4 hr18
    replace h_p5 := Vb.tr (Dw := Dw) h_p5 hr18
    replace hK := Tr.trans (Dw := Dw) hK hr18
    replace hB := Nat.le_trans hB hr18.ex.size
    replace hA := hr18.new
    replace hH : Hp B A27 w26 (obS (α := cal_Shift) 89 v9 x8 :: p5_Y s25 :: L) := hH28
    refine C_seq (C_region (V_y (Y_lss rfl rfl) rfl rfl rfl (V_to (fun _ _ => rfl) ?_)))
    refine C_seq ?_
    refine C_cond rfl (fun hc37 => ?_) (fun hc37 => ?_)
    · have hlt33 := lt_of_dec hc37
      obtain ⟨x29, h30, h31⟩ := K35 hlt33
      refine C_skip_to (fun _ _ => rfl) ?_
      refine C_seq ?_
      refine C_block ?_
      refine C_seq ?_
      refine C_region ?_
      obtain ⟨x38, hx38, h30⟩ := Option.bind_eq_some_iff.1 h30
      refine V_indexAddrH (α := cal_Shift) (e := 89) (v := v9) (l := x8) hH (i := 0) rfl hx38 Tryd.underlying43 Tryd.sizeOf89 rfl rfl rfl ?_
      intro b39 o40 h41 hl42
      obtain ⟨h43, _⟩ := El_cal_Shift h41
      refine V_y (Y_loadA h43 Tryd.isAgg89 Tryd.sizeOf89 rfl) rfl rfl rfl ?_
      refine V_alloc Tryd.zeroValue89 rfl ?_
      intro b44 w45 h46
      refine V_storeNew h46 Tryd.sizeOf89 rfl rfl rfl rfl (by exact (List.forall_mem_cons.2 ⟨rfl, (List.forall_mem_cons.2 ⟨rfl, (List.forall_mem_cons.2 ⟨rfl, (fun _ h => nomatch h)⟩)⟩)⟩)) ?_
      intro w47 h48
      have hk50 := h48.kp (Dw := Dw)
      have h49 : El (α := cal_Shift) A27 w47 b44 0 x38 := h48.el hA ⟨[.int .i64 x38.day], _, rfl, rfl, ⟨[.int .i64 x38.from_], _, rfl, rfl, rfl⟩⟩
      have ht51 := Kp.tr (Dw := Dw) hk50 hA hB
      replace hH := Hp.kp (Dw := Dw) hH hk50
      replace h_p2 := El.tr (Dw := Dw) h_p2 ht51
      replace h_p3 := El.tr (Dw := Dw) h_p3 ht51
      replace h_p4 := El.tr (Dw := Dw) h_p4 ht51
      replace h_p5 := Vb.tr (Dw := Dw) h_p5 ht51
      replace h41 := El.kp (Dw := Dw) h41 hk50
      replace hK := Tr.trans (Dw := Dw) hK ht51
      replace hr18 := Tr.trans (Dw := Dw) hr18 ht51
      replace hB := Nat.le_trans hB ht51.ex.size
      replace hA := ht51.new
      refine V_to (fun _ _ => rfl) ?_
      refine C_seq ?_
      refine C_region ?_
      refine V_y (Y_move rfl) rfl rfl rfl ?_
      refine V_y (Y_mulI rfl rfl) rfl rfl rfl ?_
      have h52 := El_cal_part_2 h_p2
      refine V_y (Y_fieldAddr Tryd.underlying99 rfl Tryd.sizeOf3 (by decide) rfl) rfl rfl rfl ?_
      refine V_y (Y_load (El.int h52) Tryd.isAgg3 rfl) rfl rfl rfl ?_
      refine V_y (Y_subI rfl rfl) rfl rfl rfl ?_
      refine V_y (Y_assign rfl) rfl rfl rfl ?_
      refine V_to (fun _ _ => rfl) ?_
      refine C_seq ?_
      refine C_region ?_
      refine V_y (Y_load (El.int h_p3) Tryd.isAgg3 rfl) rfl rfl rfl ?_
      refine V_y (Y_move rfl) rfl rfl rfl ?_
      have h53 := El_cal_Shift_1 h49
      refine V_y (Y_fieldAddr Tryd.underlying89 rfl Tryd.sizeOf3 (by decide) rfl) rfl rfl rfl ?_
      refine V_y (Y_load (El.int h53) Tryd.isAgg3 rfl) rfl rfl rfl ?_
      refine V_y (Y_addI rfl rfl) rfl rfl rfl ?_
      refine V_y (Y_max2 rfl rfl) rfl rfl rfl ?_
      refine V_y (Y_load (El.int h_p4) Tryd.isAgg3 rfl) rfl rfl rfl ?_
      refine V_y (Y_move rfl) rfl rfl rfl ?_
      have h54 := El_cal_Shift_2 h49
      refine V_y (Y_fieldAddr Tryd.underlying89 rfl Tryd.sizeOf3 (by decide) rfl) rfl rfl rfl ?_
      refine V_y (Y_load (El.int h54) Tryd.isAgg3 rfl) rfl rfl rfl ?_
      refine V_y (Y_addI rfl rfl) rfl rfl rfl ?_
      refine V_y (Y_min2 rfl rfl) rfl rfl rfl ?_
      refine V_y (Y_build Tryd.underlying80 Tryd.zeroValue80 (Tryd_places80 _ Tryd.underlying80) rfl (by with_unfolding_all rfl)) rfl rfl rfl ?_
      refine V_alloc Tryd.zeroValue80 rfl ?_
      intro b55 w56 h57
      refine V_storeNew h57 Tryd.sizeOf80 rfl rfl rfl rfl (by exact (List.forall_mem_cons.2 ⟨rfl, (List.forall_mem_cons.2 ⟨rfl, (fun _ h => nomatch h)⟩)⟩)) ?_
      intro w58 h59
      have hk61 := h59.kp (Dw := Dw)
      have h60 : El (α := cal_Span) A27 w58 b55 0 (⟨(if p3 < w64 ((w64 ((w64 (day * 1440)) - p2.offset)) + x38.from_) then w64 ((w64 ((w64 (day * 1440)) - p2.offset)) + x38.from_) else p3), (if w64 ((w64 ((w64 (day * 1440)) - p2.offset)) + x38.to_) < p4 then w64 ((w64 ((w64 (day * 1440)) - p2.offset)) + x38.to_) else p4)⟩ : cal_Span) := h59.el hA ⟨[.int .i64 (if p3 < w64 ((w64 ((w64 (day * 1440)) - p2.offset)) + x38.from_) then w64 ((w64 ((w64 (day * 1440)) - p2.offset)) + x38.from_) else p3)], _, rfl, rfl, rfl⟩
      have ht62 := Kp.tr (Dw := Dw) hk61 hA hB
      replace hH := Hp.kp (Dw := Dw) hH hk61
      replace h_p2 := El.tr (Dw := Dw) h_p2 ht62
      replace h_p3 := El.tr (Dw := Dw) h_p3 ht62
      replace h_p4 := El.tr (Dw := Dw) h_p4 ht62
      replace h_p5 := Vb.tr (Dw := Dw) h_p5 ht62
      replace h49 := El.tr (Dw := Dw) h49 ht62
      replace h53 := El.tr (Dw := Dw) h53 ht62
      replace h54 := El.tr (Dw := Dw) h54 ht62
      replace hK := Tr.trans (Dw := Dw) hK ht62
      replace hr18 := Tr.trans (Dw := Dw) hr18 ht62
      replace hB := Nat.le_trans hB ht62.ex.size
      replace hA := ht62.new
      refine V_to (fun _ _ => rfl) ?_
      refine C_seq ?_
      obtain ⟨s64, ho63, h30⟩ := Option.bind_eq_some_iff.1 h30
      refine C_cutG (ι := (Nat → Prop)) (fun (A69 : (Nat → Prop)) => [(0, .int .i64 day), (2, .pointer (some ⟨b_p2, 0, none⟩)), (3, .pointer (some ⟨b_p3, 0, none⟩)), (4, .pointer (some ⟨b_p4, 0, none⟩)), (5, .pointer (some ⟨b_p5, 0, none⟩)), (14, v9), (15, .int .i64 (x8.length : Int)), (16, .int .i64 (k19 : Int)), (48, .bool s64.1)]) (fun (A69 : (Nat → Prop)) => fun w' => Hp B A69 w' (obS (α := cal_Shift) 89 v9 x8 :: p5_Y s64.2 :: L) ∧ Tr Dw B A27 w58 A69 w') ?_ ?_
      · have hr65 : Tr Dw B A27 w58 A27 w58 := Tr.refl (Dw := Dw) hA
        refine C_region ?_
        have h71 := El_cal_Span_0 h60
        refine V_y (Y_fieldAddr Tryd.underlying80 rfl Tryd.sizeOf3 (by decide) rfl) rfl rfl rfl ?_
        refine V_y (Y_load (El.int h71) Tryd.isAgg3 rfl) rfl rfl rfl ?_
        have h72 := El_cal_Span_1 h60
        refine V_y (Y_fieldAddr Tryd.underlying80 rfl Tryd.sizeOf3 (by decide) rfl) rfl rfl rfl ?_
        refine V_y (Y_load (El.int h72) Tryd.isAgg3 rfl) rfl rfl rfl ?_
        refine V_y (Y_lss rfl rfl) rfl rfl rfl ?_
        refine V_y (Y_move rfl) rfl rfl rfl ?_
        rcases Bool.eq_false_or_eq_true (decide (((⟨(if p3 < w64 ((w64 ((w64 (day * 1440)) - p2.offset)) + x38.from_) then w64 ((w64 ((w64 (day * 1440)) - p2.offset)) + x38.from_) else p3), (if w64 ((w64 ((w64 (day * 1440)) - p2.offset)) + x38.to_) < p4 then w64 ((w64 ((w64 (day * 1440)) - p2.offset)) + x38.to_) else p4)⟩ : cal_Span).from_) < ((⟨(if p3 < w64 ((w64 ((w64 (day * 1440)) - p2.offset)) + x38.from_) then w64 ((w64 ((w64 (day * 1440)) - p2.offset)) + x38.from_) else p3), (if w64 ((w64 ((w64 (day * 1440)) - p2.offset)) + x38.to_) < p4 then w64 ((w64 ((w64 (day * 1440)) - p2.offset)) + x38.to_) else p4)⟩ : cal_Span).to_))) with hc73 | hc73
        · rw [if_pos hc73] at ho63
          refine V_ge rfl rfl rfl hc73 ?_
          refine V_y (Y_load h_p5.2.2 Tryd.isAgg78 rfl) rfl rfl rfl ?_
          refine V_ge rfl rfl rfl hc73 ?_
          obtain ⟨h74, _⟩ := El_cal_Span h60
          refine V_y (Y_loadA h74 Tryd.isAgg80 Tryd.sizeOf80 rfl) rfl rfl rfl ?_
          refine V_ge rfl rfl rfl hc73 ?_
          obtain ⟨x75, hx75, ho63⟩ := Option.bind_eq_some_iff.1 ho63
          replace hH : Hp B A27 w58 (p5_Y s25 :: obS (α := cal_Shift) 89 v9 x8 :: L) := Hp.front hH (i := 1) rfl
          refine V_callV rfl rfl rfl (p5_spec w58 _ _ (⟨(if p3 < w64 ((w64 ((w64 (day * 1440)) - p2.offset)) + x38.from_) then w64 ((w64 ((w64 (day * 1440)) - p2.offset)) + x38.from_) else p3), (if w64 ((w64 ((w64 (day * 1440)) - p2.offset)) + x38.to_) < p4 then w64 ((w64 ((w64 (day * 1440)) - p2.offset)) + x38.to_) else p4)⟩ : cal_Span) _ x75.1 x75.2 hB hA hK hH hx75) ?_
          rintro _ w76 ⟨rfl, A77, ht79, hH78⟩
          replace h_p2 := El.tr (Dw := Dw) h_p2 ht79
          replace h_p3 := El.tr (Dw := Dw) h_p3 ht79
          replace h_p4 := El.tr (Dw := Dw) h_p4 ht79
          replace h_p5 := Vb.tr (Dw := Dw) h_p5 ht79
          replace h60 := El.tr (Dw := Dw) h60 ht79
          replace h71 := El.tr (Dw := Dw) h71 ht79
          replace h72 := El.tr (Dw := Dw) h72 ht79
          replace hK := Tr.trans (Dw := Dw) hK ht79
          replace hr18 := Tr.trans (Dw := Dw) hr18 ht79
          replace hr65 := Tr.trans (Dw := Dw) hr65 ht79
          replace hB := Nat.le_trans hB ht79.ex.size
          replace hA := ht79.new
          replace hH : Hp B A77 w76 (p5_Y x75.2 :: obS (α := cal_Shift) 89 v9 x8 :: L) := hH78
          refine V_ge rfl rfl rfl hc73 ?_
          refine V_y (Y_not rfl) rfl rfl rfl ?_
          refine V_y (Y_pick_te rfl hc73 rfl) rfl rfl rfl ?_
          obtain rfl := Option.some.inj ho63
          refine V_end (fun a ha80 => ?_)
          replace hH : Hp B A77 w76 (obS (α := cal_Shift) 89 v9 x8 :: p5_Y x75.2 :: L) := Hp.front hH (i := 1) rfl
          exact ⟨A77, ha80.sub ⟨rfl, rfl, rfl, rfl, rfl, rfl, rfl, rfl, rfl, trivial⟩, ⟨hH, hr65⟩⟩
        · rw [if_neg (nt hc73)] at ho63
          refine V_gn rfl rfl rfl hc73 rfl rfl rfl ?_
          refine V_gn rfl rfl rfl hc73 rfl rfl rfl ?_
          refine V_gn rfl rfl rfl hc73 rfl rfl rfl ?_
          refine V_gn rfl rfl rfl hc73 rfl rfl rfl ?_
          refine V_y (Y_pick_fe rfl hc73 rfl) rfl rfl rfl ?_
          obtain rfl := Option.some.inj ho63
          refine V_end (fun a ha81 => ?_)
          exact ⟨A27, ha81.sub ⟨rfl, rfl, rfl, rfl, rfl, rfl, rfl, rfl, rfl, trivial⟩, ⟨hH, hr65⟩⟩
      rintro A69 w66 ⟨hH70, hk67⟩ a ha68
      replace h_p2 := El.tr (Dw := Dw) h_p2 hk67
      replace h_p3 := El.tr (Dw := Dw) h_p3 hk67
      replace h_p4 := El.tr (Dw := Dw) h_p4 hk67
      replace h_p5 := Vb.tr (Dw := Dw) h_p5 hk67
      replace hK := Tr.trans (Dw := Dw) hK hk67
      replace hr18 := Tr.trans (Dw := Dw) hr18 hk67
      replace hB := Nat.le_trans hB hk67.ex.size
      replace hA := hk67.new
      replace hH : Hp B A69 w66 (obS (α := cal_Shift) 89 v9 x8 :: p5_Y s64.2 :: L) := hH70
      refine C_at (n := ⟨50, [], none⟩) (fun _ _ => rfl) ?_ ha68
      refine C_cond rfl (fun hc82 => ?_) (fun hc82 => ?_)
      · rw [if_pos hc82] at h30
        refine C_seq ?_
        refine C_region ?_
        refine V_y (Y_assign rfl) rfl rfl rfl ?_
        refine V_to (fun _ _ => rfl) ?_
        obtain rfl := Option.some.inj h30
        obtain rfl := (h31 : Lp.rt _ = _)
        rw [Lp.andThen_rt] at hm
        obtain rfl := Option.some.inj hm
        replace hH : Hp B A69 w66 (p5_Y s64.2 :: obS (α := cal_Shift) 89 v9 x8 :: L) := Hp.front hH (i := 1) rfl
        replace hH : Hp B A69 w66 (p5_Y s64.2 :: L) := Hp.drop hH (i := 1) rfl
        refine C_ret ?_
        try simp only [↓inBlock_ret, ↓then_ret]
        exact retQ rfl (Res.one Tryd.results49 rfl) ⟨A69, rfl, hH, hK⟩
      · rw [if_neg (nt hc82)] at h30
        refine C_skip_to (fun _ _ => rfl) ?_
        refine C_region ?_
        refine V_y (Y_addI rfl rfl) rfl rfl rfl ?_
        refine V_y (Y_move rfl) rfl rfl rfl ?_
        obtain rfl := Option.some.inj h30
        refine V_end (fun a ha83 => ?_)
        exact ⟨s64.2, hlt33, h31, ⟨A69, ha83.sub ⟨rfl, rfl, rfl, rfl, rfl, rfl, rfl, (congrArg (fun z => some (Value.int .i64 z)) (w64_succ hlt33 hn36)), trivial⟩, ⟨hH, hr18⟩⟩⟩
    · refine C_exit (fun a ha84 => ?_)
      exact ⟨(s25, A27), ha84.sub trivial, ⟨(h34 (eq_of_dec hle32 hc37)).symm, hH, hr18⟩⟩
  rintro ⟨s17, A23⟩ w20 ⟨rfl, hH24, hk21⟩ a ha22
  rw [Lp.andThen_fin] at hm
  replace hK := Tr.trans (Dw := Dw) hK hk21
  replace hB := Nat.le_trans hB hk21.ex.size
  replace hA := hk21.new
  replace hH : Hp B A23 w20 (obS (α := cal_Shift) 89 v9 x8 :: p5_Y s17 :: L) := hH24
  refine C_at (n := ⟨50, [], none⟩) (fun _ _ => rfl) ?_ ha22
  refine C_seq ?_
  refine C_region ?_
  refine V_y (Y_assign rfl) rfl rfl rfl ?_
  refine V_to (fun _ _ => rfl) ?_
  obtain rfl := Option.some.inj hm
  replace hH : Hp B A23 w20 (p5_Y s17 :: obS (α := cal_Shift) 89 v9 x8 :: L) := Hp.front hH (i := 1) rfl
  replace hH : Hp B A23 w20 (p5_Y s17 :: L) := Hp.drop hH (i := 1) rfl
  refine C_ret ?_
  try simp only [↓inBlock_ret, ↓then_ret]
  exact retQ rfl (Res.one Tryd.results49 rfl) ⟨A23, rfl, hH, hK⟩

set_option maxRecDepth 4000 in
set_option maxHeartbeats 4000000 in
theorem cal_Calendar_shifts_1_c (w : World) {A : Nat → Prop} {B : Nat} (hB : B ≤ w.heap.size) (hA : ∀ b, w.heap.size ≤ b → A b) {yield_S : Type} (yield : cal_Span → yield_S → Option (Bool × yield_S)) (yield_Y : yield_S → Ob) (yield_v : Value) (yield_one : yield_v.cells.toList = [yield_v]) (yield_s : yield_S) (yield_spec : ∀ (w2 : World) (A2 : Nat → Prop) (L2 : List Ob) (x : cal_Span) (z : yield_S) (b : Bool) (z2 : yield_S), B ≤ w2.heap.size → (∀ b, w2.heap.size ≤ b → A2 b) → Tr Dw B A w A2 w2 → Hp B A2 w2 (yield_Y z :: L2) → yield x z = some (b, z2) → CallV Tryd.prog yield_v [.agg #[.int .i64 x.from_, .int .i64 x.to_]] w2 fun v w3 => v = .bool b ∧ ∃ A3, Tr Dw B A2 w2 A3 w3 ∧ Hp B A3 w3 (yield_Y z2 :: L2)) (p1 : cal_Calendar) (b_p1 : Nat) (h_p1 : El A w b_p1 0 p1) (p2 : Int) (b_p2 : Nat) (h_p2 : El A w b_p2 0 p2) (p3 : Int) (b_p3 : Nat) (h_p3 : El A w b_p3 0 p3) {L : List Ob} (hH : Hp B A w (yield_Y yield_s :: L)) {r : yield_S} (hm : cal_Calendar_shifts_1 yield yield_s p1 p2 p3 = some r) : Ret Tryd.prog 47 #[yield_v, .pointer (some ⟨b_p1, 0, none⟩), .pointer (some ⟨b_p2, 0, none⟩), .pointer (some ⟨b_p3, 0, none⟩)] w fun v w' => ∃ A1 : Nat → Prop, v = .tuple #[] ∧ Hp B A1 w' (yield_Y r :: L) ∧ Tr Dw B A w A1 w' := by
  unfold cal_Calendar_shifts_1 at hm
  refine enter Tryd.func47 rfl Tryd.ntmps47 rfl ?_
  have hK : Tr Dw B A w A w := Tr.refl (Dw := Dw) hA
  refine C_seq ?_
  refine C_region ?_
  refine V_box rfl rfl ?_
  intro b1 w2 h3
  have hk4 := h3.kp (Dw := Dw)
  have h5 : Vb A w2 b1 yield_v := h3.vb hA yield_one
  have ht6 := Kp.tr (Dw := Dw) hk4 hA hB
  replace hH := Hp.kp (Dw := Dw) hH hk4
  replace h_p1 := El.tr (Dw := Dw) h_p1 ht6
  replace h_p2 := El.tr (Dw := Dw) h_p2 ht6
  replace h_p3 := El.tr (Dw := Dw) h_p3 ht6
  replace hK := Tr.trans (Dw := Dw) hK ht6
  replace hB := Nat.le_trans hB ht6.ex.size
  replace hA := ht6.new
  refine V_to (fun _ _ => rfl) ?_
  refine C_seq ?_
  refine C_region ?_
  have h7 := El_cal_Calendar_0 h_p1
  refine V_y (Y_fieldAddr Tryd.underlying46 rfl Tryd.sizeOf42 (by decide) rfl) rfl rfl rfl ?_
  obtain ⟨v8, h10, h9⟩ := El_cal_Zone h7
  refine V_y (Y_loadA h10 Tryd.isAgg42 Tryd.sizeOf42 rfl) rfl rfl rfl ?_
  obtain ⟨x11, hx11, hm⟩ := Option.bind_eq_some_iff.1 hm
  refine V_call Tryd.call48 rfl rfl rfl rfl (cal_Zone_parts_c (Dw := Dw) w2 hA p1.zone v8 h9 hx11) ?_
  rintro v12 w14 ⟨_, rfl, h13, hk15⟩
  obtain ⟨A16, ht17, hH18⟩ := Hp.addOwnd (Dw := Dw) hH hB hA hk15 h13
  replace h_p1 := El.tr (Dw := Dw) h_p1 ht17
  replace h_p2 := El.tr (Dw := Dw) h_p2 ht17
  replace h_p3 := El.tr (Dw := Dw) h_p3 ht17
  replace h5 := Vb.tr (Dw := Dw) h5 ht17
  replace h7 := El.tr (Dw := Dw) h7 ht17
  replace h9 := Sl.tr (Dw := Dw) h9 ht17
  replace hK := Tr.trans (Dw := Dw) hK ht17
  replace hB := Nat.le_trans hB ht17.ex.size
  replace hA := ht17.new
  replace hH : Hp B A16 w14 (obS (α := cal_part) 99 v12 x11 :: yield_Y yield_s :: L) := hH18
  refine V_y (Y_lenSl (Hp.any (α := cal_part) (e := 99) (v := v12) (l := x11) hH (i := 0) rfl) rfl Tryd.underlying96 rfl) rfl rfl rfl ?_
  refine V_y (Y_move rfl) rfl rfl rfl ?_
  refine V_to (fun _ _ => rfl) ?_
  have hn39 := Hp.le (α := cal_part) (e := 99) (v := v12) (l := x11) hH (i := 0) rfl
  obtain ⟨o19, ho19, hm⟩ := Option.bind_eq_some_iff.1 hm
  refine C_cutG (ι := (yield_S × (Nat → Prop))) (fun ⟨s20, A26⟩ => []) (fun ⟨s20, A26⟩ => fun w' => o19 = .fin s20 ∧ Hp B A26 w' (obS (α := cal_part) 99 v12 x11 :: yield_Y s20 :: L) ∧ Tr Dw B A16 w14 A26 w') ?_ ?_
  · refine C_block ?_
    refine C_range ho19 (fun k22 s28 a w' => ∃ i : (Nat → Prop), Has ⟨52, [], none⟩ a ([(1, .pointer (some ⟨b_p1, 0, none⟩)), (2, .pointer (some ⟨b_p2, 0, none⟩)), (3, .pointer (some ⟨b_p3, 0, none⟩)), (4, .pointer (some ⟨b1, 0, none⟩)), (13, v12), (14, .int .i64 (x11.length : Int)), (15, .int .i64 (k22 : Int))]) ∧ Hp B i w' (obS (α := cal_part) 99 v12 x11 :: yield_Y s28 :: L) ∧ Tr Dw B A16 w14 i w') (fun a ha => ⟨A16, ha.sub ⟨rfl, rfl, rfl, rfl, rfl, rfl, rfl, trivial⟩, ⟨hH, Tr.refl (Dw := Dw) hA⟩⟩) ?_
    rintro K k22 s28 a w29 ⟨A30, ha119, hH31, hr21⟩ hle35 K38 h37
    refine C_of ?_ ha119
    replace h_p1 := El.tr (Dw := Dw) h_p1 hr21
    replace h_p2 := El.tr (Dw := Dw) h_p2 hr21
    replace h_p3 := El.tr (Dw := Dw) h_p3 hr21
    replace h5 := Vb.tr (Dw := Dw) h5 hr21
    replace hK := Tr.trans (Dw := Dw) hK hr21
    replace hB := Nat.le_trans hB hr21.ex.size
    replace hA := hr21.new
    replace hH : Hp B A30 w29 (obS (α := cal_part) 99 v12 x11 :: yield_Y s28 :: L) := hH31
    refine C_seq (C_region (V_y (Y_lss rfl rfl) rfl rfl rfl (V_to (fun _ _ => rfl) ?_)))
    refine C_seq ?_
    refine C_cond rfl (fun hc40 => ?_) (fun hc40 => ?_)
    · have hlt36 := lt_of_dec hc40
      obtain ⟨x32, h33, h34⟩ := K38 hlt36
      refine C_skip_to (fun _ _ => rfl) ?_
      refine C_seq ?_
      obtain ⟨o41, ho41, h33⟩ := Option.bind_eq_some_iff.1 h33
      refine C_cutG (ι := (yield_S × (Nat → Prop))) (fun ⟨s42, A47⟩ => [(1, .pointer (some ⟨b_p1, 0, none⟩)), (2, .pointer (some ⟨b_p2, 0, none⟩)), (3, .pointer (some ⟨b_p3, 0, none⟩)), (4, .pointer (some ⟨b1, 0, none⟩)), (13, v12), (14, .int .i64 (x11.length : Int)), (15, .int .i64 (k22 : Int))]) (fun ⟨s42, A47⟩ => fun w' => o41 = .fin s42 ∧ Hp B A47 w' (obS (α := cal_part) 99 v12 x11 :: yield_Y s42 :: L) ∧ Tr Dw B A30 w29 A47 w') ?_ ?_
      · have hr43 : Tr Dw B A30 w29 A30 w29 := Tr.refl (Dw := Dw) hA
        refine C_block ?_
        refine C_seq ?_
        refine C_region ?_
        obtain ⟨x49, hx49, ho41⟩ := Option.bind_eq_some_iff.1 ho41
        refine V_indexAddrH (α := cal_part) (e := 99) (v := v12) (l := x11) hH (i := 0) rfl hx49 Tryd.underlying96 Tryd.sizeOf99 rfl rfl rfl ?_
        intro b50 o51 h52 hl53
        obtain ⟨h54, _⟩ := El_cal_part h52
        refine V_y (Y_loadA h54 Tryd.isAgg99 Tryd.sizeOf99 rfl) rfl rfl rfl ?_
        refine V_alloc Tryd.zeroValue99 rfl ?_
        intro b55 w56 h57
        refine V_storeNew h57 Tryd.sizeOf99 rfl rfl rfl rfl (by exact (List.forall_mem_cons.2 ⟨rfl, (List.forall_mem_cons.2 ⟨rfl, (List.forall_mem_cons.2 ⟨rfl, (fun _ h => nomatch h)⟩)⟩)⟩)) ?_
        intro w58 h59
        have hk61 := h59.kp (Dw := Dw)
        have h60 : El (α := cal_part) A30 w58 b55 0 x49 := h59.el hA ⟨[.int .i64 x49.from_], _, rfl, rfl, ⟨[.int .i64 x49.to_], _, rfl, rfl, rfl⟩⟩
        have ht62 := Kp.tr (Dw := Dw) hk61 hA hB
        replace hH := Hp.kp (Dw := Dw) hH hk61
        replace h_p1 := El.tr (Dw := Dw) h_p1 ht62
        replace h_p2 := El.tr (Dw := Dw) h_p2 ht62
        replace h_p3 := El.tr (Dw := Dw) h_p3 ht62
        replace h5 := Vb.tr (Dw := Dw) h5 ht62
        replace h52 := El.kp (Dw := Dw) h52 hk61
        replace hK := Tr.trans (Dw := Dw) hK ht62
        replace hr21 := Tr.trans (Dw := Dw) hr21 ht62
        replace hr43 := Tr.trans (Dw := Dw) hr43 ht62
        replace hB := Nat.le_trans hB ht62.ex.size
        replace hA := ht62.new
        refine V_to (fun _ _ => rfl) ?_
        refine C_seq ?_
        refine C_region_def (Dw := Dw) (B := B) (k := 8) [(7, 3, .int .i64 0), (8, 3, .int .i64 0)] [(22, 3), (26, 7)] Tryd_mixed (by kernel_rfl) rfl ⟨⟨_, _, _, rfl, by simp⟩, Tryd.zeroValue3, ⟨⟨_, _, _, rfl, by simp⟩, Tryd.zeroValue3, trivial⟩⟩ ⟨⟨_, _, _, rfl, by decide, by decide⟩, by decide, rfl, Tryd.sizeOf3, ⟨⟨_, _, _, rfl, by decide, by decide⟩, by decide, rfl, Tryd.sizeOf3, trivial⟩⟩ rfl rfl (by decide) hH hB hA ?_
        simp only [List.take]
        refine VQ_y (fun w' hw' => Y_load (El.int (El.kp (Dw := Dw) h_p2 hw')) Tryd.isAgg3 rfl) rfl rfl rfl ?_
        have h70 := El_cal_part_0 h60
        refine VQ_y (fun w' hw' => Y_fieldAddr Tryd.underlying99 rfl Tryd.sizeOf3 (by decide) rfl) rfl rfl rfl ?_
        refine VQ_y (fun w' hw' => Y_load (El.int (El.kp (Dw := Dw) h70 hw')) Tryd.isAgg3 rfl) rfl rfl rfl ?_
        refine VQ_y (fun w' hw' => Y_max2 rfl rfl) rfl rfl rfl ?_
        refine VQ_y (fun w' hw' => Y_load (El.int (El.kp (Dw := Dw) h_p3 hw')) Tryd.isAgg3 rfl) rfl rfl rfl ?_
        have h71 := El_cal_part_1 h60
        refine VQ_y (fun w' hw' => Y_fieldAddr Tryd.underlying99 rfl Tryd.sizeOf3 (by decide) rfl) rfl rfl rfl ?_
        refine VQ_y (fun w' hw' => Y_load (El.int (El.kp (Dw := Dw) h71 hw')) Tryd.isAgg3 rfl) rfl rfl rfl ?_
        refine VQ_y (fun w' hw' => Y_min2 rfl rfl) rfl rfl rfl ?_
        refine VQ_end fun a ha => ⟨_, [.int .i64 (if p2 < x49.from_ then x49.from_ else p2), .int .i64 (if x49.to_ < p3 then x49.to_ else p3)], ha, rfl, rfl, ⟨rfl, (by simp [Value.cells, Value.oneCell']), ⟨rfl, (by simp [Value.cells, Value.oneCell']), trivial⟩⟩, fun b63 w65 A66 hH67 ht68 a ha69 => ?_⟩
        replace h_p1 := El.tr (Dw := Dw) h_p1 ht68
        replace h_p2 := El.tr (Dw := Dw) h_p2 ht68
        replace h_p3 := El.tr (Dw := Dw) h_p3 ht68
        replace h5 := Vb.tr (Dw := Dw) h5 ht68
        replace h60 := El.tr (Dw := Dw) h60 ht68
        replace h70 := El.tr (Dw := Dw) h70 ht68
        replace h71 := El.tr (Dw := Dw) h71 ht68
        replace hK := Tr.trans (Dw := Dw) hK ht68
        replace hr21 := Tr.trans (Dw := Dw) hr21 ht68
        replace hr43 := Tr.trans (Dw := Dw) hr43 ht68
        replace hB := Nat.le_trans hB ht68.ex.size
        replace hA := ht68.new
        replace hH : Hp B A66 w65 (obC (b63 0) [.int .i64 (if p2 < x49.from_ then x49.from_ else p2)] 3 :: obC (b63 1) [.int .i64 (if x49.to_ < p3 then x49.to_ else p3)] 3 :: obS (α := cal_part) 99 v12 x11 :: yield_Y s28 :: L) := hH67
        obtain ⟨A72, ht73, h74, hH75⟩ := Hp.freezeC (Dw := Dw) (α := Int) (x := (if p2 < x49.from_ then x49.from_ else p2)) hH (i := 0) rfl hA (by exact rfl)
        replace h_p1 := El.tr (Dw := Dw) h_p1 ht73
        replace h_p2 := El.tr (Dw := Dw) h_p2 ht73
        replace h_p3 := El.tr (Dw := Dw) h_p3 ht73
        replace h5 := Vb.tr (Dw := Dw) h5 ht73
        replace h60 := El.tr (Dw := Dw) h60 ht73
        replace h70 := El.tr (Dw := Dw) h70 ht73
        replace h71 := El.tr (Dw := Dw) h71 ht73
        replace hK := Tr.trans (Dw := Dw) hK ht73
        replace hr21 := Tr.trans (Dw := Dw) hr21 ht73
        replace hr43 := Tr.trans (Dw := Dw) hr43 ht73
        replace hB := Nat.le_trans hB ht73.ex.size
        replace hA := ht73.new
        replace hH : Hp B A72 w65 (obC (b63 1) [.int .i64 (if x49.to_ < p3 then x49.to_ else p3)] 3 :: obS (α := cal_part) 99 v12 x11 :: yield_Y s28 :: L) := hH75
        obtain ⟨A76, ht77, h78, hH79⟩ := Hp.freezeC (Dw := Dw) (α := Int) (x := (if x49.to_ < p3 then x49.to_ else p3)) hH (i := 0) rfl hA (by exact rfl)
        replace h_p1 := El.tr (Dw := Dw) h_p1 ht77
        replace h_p2 := El.tr (Dw := Dw) h_p2 ht77
        replace h_p3 := El.tr (Dw := Dw) h_p3 ht77
        replace h5 := Vb.tr (Dw := Dw) h5 ht77
        replace h60 := El.tr (Dw := Dw) h60 ht77
        replace h70 := El.tr (Dw := Dw) h70 ht77
        replace h71 := El.tr (Dw := Dw) h71 ht77
        replace h74 := El.tr (Dw := Dw) h74 ht77
        replace hK := Tr.trans (Dw := Dw) hK ht77
        replace hr21 := Tr.trans (Dw := Dw) hr21 ht77
        replace hr43 := Tr.trans (Dw := Dw) hr43 ht77
        replace hB := Nat.le_trans hB ht77.ex.size
        replace hA := ht77.new
        replace hH : Hp B A76 w65 (obS (α := cal_part) 99 v12 x11 :: yield_Y s28 :: L) := hH79
        refine C_at (n := ⟨52, [], none⟩) (fun _ _ => rfl) ?_ ha69
        refine C_seq ?_
        refine C_region ?_
        refine V_y (Y_makeFunc rfl rfl) rfl rfl rfl ?_
        refine V_y (Y_assign rfl) rfl rfl rfl ?_
        refine V_to (fun _ _ => rfl) ?_
        refine C_seq ?_
        refine C_seq ?_
        refine C_region ?_
        refine V_y (Y_load (El.int h74) Tryd.isAgg3 rfl) rfl rfl rfl ?_
        refine V_y (Y_load (El.int h78) Tryd.isAgg3 rfl) rfl rfl rfl ?_
        refine V_y (Y_geq rfl rfl) rfl rfl rfl ?_
        refine V_to (fun _ _ => rfl) ?_
        refine C_cond rfl (fun hc80 => ?_) (fun hc80 => ?_)
        · rw [if_pos hc80] at ho41
          obtain rfl := Option.some.inj ho41
          refine C_exit (fun a ha81 => ?_)
          exact ⟨(s28, A76), ha81.sub ⟨rfl, rfl, rfl, rfl, rfl, rfl, rfl, trivial⟩, ⟨rfl, hH, hr43⟩⟩
        · rw [if_neg (nt hc80)] at ho41
          refine C_skip_to (fun _ _ => rfl) ?_
          refine C_seq ?_
          refine C_region ?_
          refine V_y (Y_load (El.int h74) Tryd.isAgg3 rfl) rfl rfl rfl ?_
          have h82 := El_cal_part_2 h60
          refine V_y (Y_fieldAddr Tryd.underlying99 rfl Tryd.sizeOf3 (by decide) rfl) rfl rfl rfl ?_
          refine V_y (Y_load (El.int h82) Tryd.isAgg3 rfl) rfl rfl rfl ?_
          refine V_y (Y_addI rfl rfl) rfl rfl rfl ?_
          obtain ⟨x83, hx83, ho41⟩ := Option.bind_eq_some_iff.1 ho41
          refine V_call Tryd.call51 rfl rfl rfl rfl (cal_floor_c w65 (w64 ((if p2 < x49.from_ then x49.from_ else p2) + x49.offset)) 1440 hx83) ?_
          rintro _ _ ⟨rfl, rfl⟩
          refine V_y (Y_subI rfl rfl) rfl rfl rfl ?_
          refine V_y (Y_assign rfl) rfl rfl rfl ?_
          refine V_to (fun _ _ => rfl) ?_
          obtain ⟨o84, ho84, ho41⟩ := Option.bind_eq_some_iff.1 ho41
          refine C_cutG (ι := ((Int × yield_S) × (Nat → Prop))) (fun ⟨s85, A91⟩ => [(1, .pointer (some ⟨b_p1, 0, none⟩)), (2, .pointer (some ⟨b_p2, 0, none⟩)), (3, .pointer (some ⟨b_p3, 0, none⟩)), (4, .pointer (some ⟨b1, 0, none⟩)), (13, v12), (14, .int .i64 (x11.length : Int)), (15, .int .i64 (k22 : Int))]) (fun ⟨s85, A91⟩ => fun w' => o84 = .fin s85 ∧ Hp B A91 w' (obS (α := cal_part) 99 v12 x11 :: yield_Y s85.2 :: L) ∧ Tr Dw B A76 w65 A91 w') ?_ ?_
          · refine C_block ?_
            refine C_while ho84 (fun s93 a w' => ∃ i : (Nat → Prop), Has ⟨52, [], none⟩ a ([(1, .pointer (some ⟨b_p1, 0, none⟩)), (2, .pointer (some ⟨b_p2, 0, none⟩)), (3, .pointer (some ⟨b_p3, 0, none⟩)), (4, .pointer (some ⟨b1, 0, none⟩)), (6, .pointer (some ⟨b55, 0, none⟩)), (8, .pointer (some ⟨(b63 1), 0, none⟩)), (9, .func (.func 49) #[] #[.pointer (some ⟨b_p1, 0, none⟩), .pointer (some ⟨b55, 0, none⟩), .pointer (some ⟨(b63 0), 0, none⟩), .pointer (some ⟨(b63 1), 0, none⟩), .pointer (some ⟨b1, 0, none⟩)]), (10, .int .i64 s93.1), (13, v12), (14, .int .i64 (x11.length : Int)), (15, .int .i64 (k22 : Int))]) ∧ Hp B i w' (obS (α := cal_part) 99 v12 x11 :: yield_Y s93.2 :: L) ∧ Tr Dw B A76 w65 i w') (fun a ha => ⟨A76, ha.sub ⟨rfl, rfl, rfl, rfl, rfl, rfl, rfl, rfl, rfl, rfl, rfl, trivial⟩, ⟨hH, Tr.refl (Dw := Dw) hA⟩⟩) ?_
            rintro K s93 a w94 ⟨A95, ha115, hH96, hr86⟩ K103
            refine C_of ?_ ha115
            replace h_p1 := El.tr (Dw := Dw) h_p1 hr86
            replace h_p2 := El.tr (Dw := Dw) h_p2 hr86
            replace h_p3 := El.tr (Dw := Dw) h_p3 hr86
            replace h5 := Vb.tr (Dw := Dw) h5 hr86
            replace h60 := El.tr (Dw := Dw) h60 hr86
            replace h78 := El.tr (Dw := Dw) h78 hr86
            replace h74 := El.tr (Dw := Dw) h74 hr86
            replace hK := Tr.trans (Dw := Dw) hK hr86
            replace hr21 := Tr.trans (Dw := Dw) hr21 hr86
            replace hr43 := Tr.trans (Dw := Dw) hr43 hr86
            replace hB := Nat.le_trans hB hr86.ex.size
            replace hA := hr86.new
            replace hH : Hp B A95 w94 (obS (α := cal_part) 99 v12 x11 :: yield_Y s93.2 :: L) := hH96
            obtain ⟨x97, h98, h99⟩ := K103
            refine C_seq ?_
            refine C_seq ?_
            refine C_region ?_
            refine V_y (Y_move rfl) rfl rfl rfl ?_
            refine V_y (Y_load (El.int h78) Tryd.isAgg3 rfl) rfl rfl rfl ?_
            refine V_y (Y_subI rfl rfl) rfl rfl rfl ?_
            have h104 := El_cal_part_2 h60
            refine V_y (Y_fieldAddr Tryd.underlying99 rfl Tryd.sizeOf3 (by decide) rfl) rfl rfl rfl ?_
            refine V_y (Y_load (El.int h104) Tryd.isAgg3 rfl) rfl rfl rfl ?_
            refine V_y (Y_addI rfl rfl) rfl rfl rfl ?_
            obtain ⟨x105, hx105, h98⟩ := Option.bind_eq_some_iff.1 h98
            refine V_call Tryd.call51 rfl rfl rfl rfl (cal_floor_c w94 (w64 ((w64 ((if x49.to_ < p3 then x49.to_ else p3) - 1)) + x49.offset)) 1440 hx105) ?_
            rintro _ _ ⟨rfl, rfl⟩
            refine V_y (Y_leq rfl rfl) rfl rfl rfl ?_
            refine V_to (fun _ _ => rfl) ?_
            refine C_cond rfl (fun hc106 => ?_) (fun hc106 => ?_)
            · rw [if_pos hc106] at h98
              refine C_skip_to (fun _ _ => rfl) ?_
              refine C_seq ?_
              refine C_block ?_
              refine C_seq ?_
              refine C_region ?_
              refine V_y (Y_move rfl) rfl rfl rfl ?_
              refine V_y (Y_move rfl) rfl rfl rfl ?_
              replace hH : Hp B A95 w94 (yield_Y s93.2 :: obS (α := cal_part) 99 v12 x11 :: L) := Hp.front hH (i := 1) rfl
              obtain ⟨x107, hx107, h98⟩ := Option.bind_eq_some_iff.1 h98
              refine V_call Tryd.call49 rfl rfl rfl rfl (cal_Calendar_shifts_1_1_c (Dw := Dw) w94 hB hA s93.1 p1 b_p1 h_p1 x49 b55 h60 (if p2 < x49.from_ then x49.from_ else p2) (b63 0) h74 (if x49.to_ < p3 then x49.to_ else p3) (b63 1) h78 yield yield_Y yield_v yield_one s93.2 (fun w2 A2 L2 x2 z2 b2 z3 h1 h2 h3 => yield_spec w2 A2 L2 x2 z2 b2 z3 h1 h2 (Tr.trans (Dw := Dw) hK h3)) b1 h5 hH hx107) ?_
              rintro _ w108 ⟨A109, rfl, hH110, ht111⟩
              replace h_p1 := El.tr (Dw := Dw) h_p1 ht111
              replace h_p2 := El.tr (Dw := Dw) h_p2 ht111
              replace h_p3 := El.tr (Dw := Dw) h_p3 ht111
              replace h5 := Vb.tr (Dw := Dw) h5 ht111
              replace h60 := El.tr (Dw := Dw) h60 ht111
              replace h78 := El.tr (Dw := Dw) h78 ht111
              replace h74 := El.tr (Dw := Dw) h74 ht111
              replace hK := Tr.trans (Dw := Dw) hK ht111
              replace hr21 := Tr.trans (Dw := Dw) hr21 ht111
              replace hr43 := Tr.trans (Dw := Dw) hr43 ht111
              replace hr86 := Tr.trans (Dw := Dw) hr86 ht111
              replace hB := Nat.le_trans hB ht111.ex.size
              replace hA := ht111.new
              replace hH : Hp B A109 w108 (yield_Y x107.2 :: obS (α := cal_part) 99 v12 x11 :: L) := hH110
              refine V_y (Y_not rfl) rfl rfl rfl ?_
              refine V_to (fun _ _ => rfl) ?_
              refine C_cond rfl (fun hc112 => ?_) (fun hc112 => ?_)
              · rw [if_pos hc112] at h98
                obtain rfl := Option.some.inj h98
                obtain rfl := (h99 : Lp.rt _ = _)
                rw [Lp.andThen_rt] at ho41
                obtain rfl := Option.some.inj ho41
                rw [Lp.andThen_rt] at h33
                obtain rfl := Option.some.inj h33
                obtain rfl := (h34 : Lp.rt _ = _)
                rw [Lp.andThen_rt] at hm
                obtain rfl := Option.some.inj hm
                replace hH : Hp B A109 w108 (yield_Y x107.2 :: L) := Hp.drop hH (i := 1) rfl
                refine C_ret ?_
                try simp only [↓inBlock_ret, ↓then_ret]
                exact retQ rfl (Res.zero Tryd.results47) ⟨A109, rfl, hH, hK⟩
              · rw [if_neg (nt hc112)] at h98
                refine C_skip_to (fun _ _ => rfl) ?_
                refine C_region ?_
                refine V_y (Y_move rfl) rfl rfl rfl ?_
                refine V_y (Y_addI rfl rfl) rfl rfl rfl ?_
                refine V_y (Y_assign rfl) rfl rfl rfl ?_
                obtain rfl := Option.some.inj h98
                refine V_end (fun a ha113 => ?_)
                replace hH : Hp B A109 w108 (obS (α := cal_part) 99 v12 x11 :: yield_Y x107.2 :: L) := Hp.front hH (i := 1) rfl
                exact ⟨(w64 (s93.1 + 1), x107.2), h99, ⟨A109, ha113.sub ⟨rfl, rfl, rfl, rfl, rfl, rfl, rfl, rfl, rfl, rfl, rfl, trivial⟩, ⟨hH, hr86⟩⟩⟩
            · rw [if_neg (nt hc106)] at h98
              obtain rfl := Option.some.inj h98
              refine C_exit (fun a ha114 => ?_)
              exact ⟨((s93.1, s93.2), A95), ha114.sub ⟨rfl, rfl, rfl, rfl, rfl, rfl, rfl, trivial⟩, ⟨h99.symm, hH, hr86⟩⟩
          rintro ⟨s85, A91⟩ w88 ⟨rfl, hH92, hk89⟩ a ha90
          rw [Lp.andThen_fin] at ho41
          replace h_p1 := El.tr (Dw := Dw) h_p1 hk89
          replace h_p2 := El.tr (Dw := Dw) h_p2 hk89
          replace h_p3 := El.tr (Dw := Dw) h_p3 hk89
          replace h5 := Vb.tr (Dw := Dw) h5 hk89
          replace hK := Tr.trans (Dw := Dw) hK hk89
          replace hr21 := Tr.trans (Dw := Dw) hr21 hk89
          replace hr43 := Tr.trans (Dw := Dw) hr43 hk89
          replace hB := Nat.le_trans hB hk89.ex.size
          replace hA := hk89.new
          replace hH : Hp B A91 w88 (obS (α := cal_part) 99 v12 x11 :: yield_Y s85.2 :: L) := hH92
          obtain rfl := Option.some.inj ho41
          exact ⟨(s85.2, A91), ha90.sub ⟨rfl, rfl, rfl, rfl, rfl, rfl, rfl, trivial⟩, ⟨rfl, hH, hr43⟩⟩
      rintro ⟨s42, A47⟩ w44 ⟨rfl, hH48, hk45⟩ a ha46
      rw [Lp.andThen_fin] at h33
      replace h_p1 := El.tr (Dw := Dw) h_p1 hk45
      replace h_p2 := El.tr (Dw := Dw) h_p2 hk45
      replace h_p3 := El.tr (Dw := Dw) h_p3 hk45
      replace h5 := Vb.tr (Dw := Dw) h5 hk45
      replace hK := Tr.trans (Dw := Dw) hK hk45
      replace hr21 := Tr.trans (Dw := Dw) hr21 hk45
      replace hB := Nat.le_trans hB hk45.ex.size
      replace hA := hk45.new
      replace hH : Hp B A47 w44 (obS (α := cal_part) 99 v12 x11 :: yield_Y s42 :: L) := hH48
      refine C_at (n := ⟨52, [], none⟩) (fun _ _ => rfl) ?_ ha46
      refine C_region ?_
      refine V_y (Y_addI rfl rfl) rfl rfl rfl ?_
      refine V_y (Y_move rfl) rfl rfl rfl ?_
      obtain rfl := Option.some.inj h33
      refine V_end (fun a ha117 => ?_)
      exact ⟨s42, hlt36, h34, ⟨A47, ha117.sub ⟨rfl, rfl, rfl, rfl, rfl, rfl, (congrArg (fun z => some (Value.int .i64 z)) (w64_succ hlt36 hn39)), trivial⟩, ⟨hH, hr21⟩⟩⟩
    · refine C_exit (fun a ha118 => ?_)
      exact ⟨(s28, A30), ha118.sub trivial, ⟨(h37 (eq_of_dec hle35 hc40)).symm, hH, hr21⟩⟩
  rintro ⟨s20, A26⟩ w23 ⟨rfl, hH27, hk24⟩ a ha25
  rw [Lp.andThen_fin] at hm
  replace hK := Tr.trans (Dw := Dw) hK hk24
  replace hB := Nat.le_trans hB hk24.ex.size
  replace hA := hk24.new
  replace hH : Hp B A26 w23 (obS (α := cal_part) 99 v12 x11 :: yield_Y s20 :: L) := hH27
  obtain rfl := Option.some.inj hm
  replace hH : Hp B A26 w23 (yield_Y s20 :: obS (α := cal_part) 99 v12 x11 :: L) := Hp.front hH (i := 1) rfl
  replace hH : Hp B A26 w23 (yield_Y s20 :: L) := Hp.drop hH (i := 1) rfl
  try simp only [↓inBlock_ret, ↓then_ret]
  exact normQ (retQ rfl (Res.zero Tryd.results47) ⟨A26, rfl, hH, hK⟩ a ha25)

set_option maxRecDepth 4000 in
set_option maxHeartbeats 4000000 in
theorem cal_Calendar_open_1_c (w : World) {A : Nat → Prop} {B : Nat} (hB : B ≤ w.heap.size) (hA : ∀ b, w.heap.size ≤ b → A b) {yield_S : Type} (yield : cal_Span → yield_S → Option (Bool × yield_S)) (yield_Y : yield_S → Ob) (yield_v : Value) (yield_one : yield_v.cells.toList = [yield_v]) (yield_s : yield_S) (yield_spec : ∀ (w2 : World) (A2 : Nat → Prop) (L2 : List Ob) (x : cal_Span) (z : yield_S) (b : Bool) (z2 : yield_S), B ≤ w2.heap.size → (∀ b, w2.heap.size ≤ b → A2 b) → Tr Dw B A w A2 w2 → Hp B A2 w2 (yield_Y z :: L2) → yield x z = some (b, z2) → CallV Tryd.prog yield_v [.agg #[.int .i64 x.from_, .int .i64 x.to_]] w2 fun v w3 => v = .bool b ∧ ∃ A3, Tr Dw B A2 w2 A3 w3 ∧ Hp B A3 w3 (yield_Y z2 :: L2)) (p1 : cal_Calendar) (b_p1 : Nat) (h_p1 : El A w b_p1 0 p1) (p2 : Int) (b_p2 : Nat) (h_p2 : El A w b_p2 0 p2) (p3 : Int) (b_p3 : Nat) (h_p3 : El A w b_p3 0 p3) {L : List Ob} (hH : Hp B A w (yield_Y yield_s :: L)) {r : yield_S} (hm : cal_Calendar_open_1 yield yield_s p1 p2 p3 = some r) : Ret Tryd.prog 38 #[yield_v, .pointer (some ⟨b_p1, 0, none⟩), .pointer (some ⟨b_p2, 0, none⟩), .pointer (some ⟨b_p3, 0, none⟩)] w fun v w' => ∃ A1 : Nat → Prop, v = .tuple #[] ∧ Hp B A1 w' (yield_Y r :: L) ∧ Tr Dw B A w A1 w' := by
  unfold cal_Calendar_open_1 at hm
  refine enterM Tryd.func38 rfl Tryd.ntmps38 rfl ?_
  have hK : Tr Dw B A w A w := Tr.refl (Dw := Dw) hA
  refine C_seq ?_
  refine C_region ?_
  refine V_box rfl rfl ?_
  intro b1 w2 h3
  have hk4 := h3.kp (Dw := Dw)
  have h5 : Vb A w2 b1 yield_v := h3.vb hA yield_one
  have ht6 := Kp.tr (Dw := Dw) hk4 hA hB
  replace hH := Hp.kp (Dw := Dw) hH hk4
  replace h_p1 := El.tr (Dw := Dw) h_p1 ht6
  replace h_p2 := El.tr (Dw := Dw) h_p2 ht6
  replace h_p3 := El.tr (Dw := Dw) h_p3 ht6
  replace hK := Tr.trans (Dw := Dw) hK ht6
  replace hB := Nat.le_trans hB ht6.ex.size
  replace hA := ht6.new
  refine V_to (fun _ _ => rfl) ?_
  refine C_seq ?_
  refine C_region ?_
  refine V_y (Y_build Tryd.underlying80 Tryd.zeroValue80 (Tryd_places80 _ Tryd.underlying80) rfl (by with_unfolding_all rfl)) rfl rfl rfl ?_
  refine V_allocH (Dw := Dw) (B := B) hH Tryd.zeroValue80 hB hA rfl ?_
  intro b7 w9 A10 hH11 ht12
  replace h_p1 := El.tr (Dw := Dw) h_p1 ht12
  replace h_p2 := El.tr (Dw := Dw) h_p2 ht12
  replace h_p3 := El.tr (Dw := Dw) h_p3 ht12
  replace h5 := Vb.tr (Dw := Dw) h5 ht12
  replace hK := Tr.trans (Dw := Dw) hK ht12
  replace hB := Nat.le_trans hB ht12.ex.size
  replace hA := ht12.new
  replace hH : Hp B A10 w9 (obC b7 [.int .i64 0, .int .i64 0] 80 :: yield_Y yield_s :: L) := hH11
  refine V_storeC (Dw := Dw) (off := 0) (ds := [.int .i64 (-1), .int .i64 (-1)]) hH (i := 0) rfl Tryd.sizeOf80 rfl (Nat.le_of_ble_eq_true rfl) (by simp [Value.cells, Value.oneCell']) rfl hB hA rfl rfl ?_
  intro w13 hH14 ht15
  replace h_p1 := El.tr (Dw := Dw) h_p1 ht15
  replace h_p2 := El.tr (Dw := Dw) h_p2 ht15
  replace h_p3 := El.tr (Dw := Dw) h_p3 ht15
  replace h5 := Vb.tr (Dw := Dw) h5 ht15
  replace hK := Tr.trans (Dw := Dw) hK ht15
  replace hB := Nat.le_trans hB ht15.ex.size
  replace hA := ht15.new
  replace hH : Hp B A10 w13 (obC b7 [.int .i64 (-1), .int .i64 (-1)] 80 :: yield_Y yield_s :: L) := hH14
  refine V_to (fun _ _ => rfl) ?_
  refine C_seq ?_
  refine C_seq ?_
  refine C_region ?_
  obtain ⟨v16, v18, v20, h22, h17, h19, h21⟩ := El_cal_Calendar h_p1
  refine V_y (Y_loadA h22 Tryd.isAgg46 Tryd.sizeOf46 rfl) rfl rfl rfl ?_
  refine V_y (Y_load (El.int h_p2) Tryd.isAgg3 rfl) rfl rfl rfl ?_
  refine V_y (Y_load (El.int h_p3) Tryd.isAgg3 rfl) rfl rfl rfl ?_
  obtain ⟨x23, hx23, hm⟩ := Option.bind_eq_some_iff.1 hm
  refine V_call Tryd.call39 rfl rfl rfl rfl (cal_Calendar_shifts_c (Dw := Dw) w13 hA p1 v16 h17 v18 h19 v20 h21 p2 p3 hx23) ?_
  rintro _ w30 ⟨b24, b26, b28, rfl, h25, h27, h29, hk31⟩
  have ht32 := Kp.tr (Dw := Dw) hk31 hA hB
  replace hH := Hp.kp (Dw := Dw) hH hk31
  replace h_p1 := El.tr (Dw := Dw) h_p1 ht32
  replace h_p2 := El.tr (Dw := Dw) h_p2 ht32
  replace h_p3 := El.tr (Dw := Dw) h_p3 ht32
  replace h5 := Vb.tr (Dw := Dw) h5 ht32
  replace h17 := Sl.tr (Dw := Dw) h17 ht32
  replace h19 := Sl.tr (Dw := Dw) h19 ht32
  replace h21 := Sl.tr (Dw := Dw) h21 ht32
  replace hK := Tr.trans (Dw := Dw) hK ht32
  replace hB := Nat.le_trans hB ht32.ex.size
  replace hA := ht32.new
  refine V_to (fun _ _ => rfl) ?_
  have hH37 : Hp B A10 w30 ((fun (s34 : (cal_Span × yield_S)) => obE (fun (i : Unit) => [obC b7 [.int .i64 s34.1.from_, .int .i64 s34.1.to_] 80, yield_Y s34.2])) ((⟨(-1), (-1)⟩ : cal_Span), yield_s) :: L) := Hp.pack (F := fun (i : Unit) => [obC b7 [.int .i64 ((⟨(-1), (-1)⟩ : cal_Span), yield_s).1.from_, .int .i64 ((⟨(-1), (-1)⟩ : cal_Span), yield_s).1.to_] 80, yield_Y ((⟨(-1), (-1)⟩ : cal_Span), yield_s).2]) () hH
  obtain ⟨z33, hz33, hm⟩ := Option.bind_eq_some_iff.1 hm
  refine C_cutN (ι := Nat × (Nat → Prop)) (fun i => ⟨41, [{ target := .collected i.1, args := #[] }], none⟩) (fun i => [(4, .pointer (some ⟨b1, 0, none⟩)), (5, .pointer (some ⟨b7, 0, none⟩))]) (fun i w' => z33.2 ≠ some 0 ∧ Hp B i.2 w' ((fun (s34 : (cal_Span × yield_S)) => obE (fun (i : Unit) => [obC b7 [.int .i64 s34.1.from_, .int .i64 s34.1.to_] 80, yield_Y s34.2])) z33.1 :: obO i.1 (.deferred (some [])) :: L) ∧ Tr Dw B A10 w30 i.2 w') ?_ ?_
  · refine C_block ?_
    refine C_rangeFunc (Dw := Dw) (B := B) (A := A10) (L := L) (X := cal_Span) (fun (x43 : cal_Span) => [.agg #[.int .i64 x43.from_, .int .i64 x43.to_]]) (fun (s34 : (cal_Span × yield_S)) => obE (fun (i : Unit) => [obC b7 [.int .i64 s34.1.from_, .int .i64 s34.1.to_] 80, yield_Y s34.2])) (fun (x43 : cal_Span) (s35 : (cal_Span × yield_S)) => Option.bind (α := Lp _ _) (Option.bind (α := Lp _ _) (Option.bind (α := Lp _ _) (if (decide (s35.1.from_ < 0)) = true then some (.fin (x43, s35.2)) else Option.bind (α := Lp _ _) (if (decide (x43.from_ ≤ s35.1.to_)) = true then some (.fin ((⟨s35.1.from_, (if s35.1.to_ < x43.to_ then x43.to_ else s35.1.to_)⟩ : cal_Span), s35.2)) else Option.bind (yield s35.1 s35.2) fun x110 => if (!x110.1) = true then some (.rt ((s35.1, x110.2), some 0)) else some (.fin (x43, x110.2))) fun o96 => o96.andThen (fun y => some (.rt y)) fun s97 => some (.fin (s97.1, s97.2))) fun o81 => o81.andThen (fun y => some (.rt y)) fun s82 => some (.fin (s82.1, s82.2))) fun o73 => o73.andThen (fun y => some (.rt y)) fun s74 => some (.fin (s74.1, s74.2))) fun o65 => o65.andThen (fun y => some y) fun s66 => some ((s66.1, s66.2), none)) (fun k => if k = 0 then .ret else .exit 0) (s0 := ((⟨(-1), (-1)⟩ : cal_Span), yield_s)) (zf := z33) rfl rfl rfl (by decide) (fun _ => rfl) hB hA hH37 47 _ rfl Tryd.call47 ?_ ?_ ?_ ?_
    · intro Ys yv w1 A1 L1 h1 h2 h3 h4 h0 h5
      exact (cal_Calendar_shifts_1_c (Dw := Dw) w1 h1 h2 (yieldB (fun (x43 : cal_Span) (s35 : (cal_Span × yield_S)) => Option.bind (α := Lp _ _) (Option.bind (α := Lp _ _) (Option.bind (α := Lp _ _) (if (decide (s35.1.from_ < 0)) = true then some (.fin (x43, s35.2)) else Option.bind (α := Lp _ _) (if (decide (x43.from_ ≤ s35.1.to_)) = true then some (.fin ((⟨s35.1.from_, (if s35.1.to_ < x43.to_ then x43.to_ else s35.1.to_)⟩ : cal_Span), s35.2)) else Option.bind (yield s35.1 s35.2) fun x110 => if (!x110.1) = true then some (.rt ((s35.1, x110.2), some 0)) else some (.fin (x43, x110.2))) fun o96 => o96.andThen (fun y => some (.rt y)) fun s97 => some (.fin (s97.1, s97.2))) fun o81 => o81.andThen (fun y => some (.rt y)) fun s82 => some (.fin (s82.1, s82.2))) fun o73 => o73.andThen (fun y => some (.rt y)) fun s74 => some (.fin (s74.1, s74.2))) fun o65 => o65.andThen (fun y => some y) fun s66 => some ((s66.1, s66.2), none))) Ys yv h0 (((⟨(-1), (-1)⟩ : cal_Span), yield_s), none) h5 x23.1 b24 (El.tr (Dw := Dw) h25 h3) x23.2.1 b26 (El.tr (Dw := Dw) h27 h3) x23.2.2 b28 (El.tr (Dw := Dw) h29 h3) h4 hz33).mono fun _ _ ⟨A3, _, hh, tt⟩ => ⟨A3, tt, hh⟩
    · intro l38 rc39 w40 A41 L42 x43 s35 s36 j44 hst45 hB46 hA47 ht48 hH49 h50
      obtain ⟨_, hH49⟩ := Hp.open hH49
      replace h5 := Vb.tr (Dw := Dw) h5 ht48
      replace h25 := El.tr (Dw := Dw) h25 ht48
      replace h27 := El.tr (Dw := Dw) h27 ht48
      replace h29 := El.tr (Dw := Dw) h29 ht48
      replace hK := Tr.trans (Dw := Dw) hK ht48
      replace hB := Nat.le_trans hB ht48.ex.size
      replace hA := ht48.new
      replace hH : Hp B A41 w40 (obC b7 [.int .i64 s35.1.from_, .int .i64 s35.1.to_] 80 :: yield_Y s35.2 :: obO l38 (.loop rc39) :: L42) := hH49
      have hr51 : Tr Dw B A41 w40 A41 w40 := Tr.refl (Dw := Dw) hA
      show C _ _ _ _ _ _
      refine C_region ?_
      refine V_alloc Tryd.zeroValue80 rfl ?_
      intro b53 w54 h55
      refine V_storeNew h55 Tryd.sizeOf80 rfl rfl rfl rfl (by exact (List.forall_mem_cons.2 ⟨rfl, (List.forall_mem_cons.2 ⟨rfl, (fun _ h => nomatch h)⟩)⟩)) ?_
      intro w56 h57
      have hk59 := h57.kp (Dw := Dw)
      have h58 : El (α := cal_Span) A41 w56 b53 0 x43 := h57.el hA ⟨[.int .i64 x43.from_], _, rfl, rfl, rfl⟩
      have ht60 := Kp.tr (Dw := Dw) hk59 hA hB
      replace hH := Hp.kp (Dw := Dw) hH hk59
      replace h5 := Vb.tr (Dw := Dw) h5 ht60
      replace h25 := El.tr (Dw := Dw) h25 ht60
      replace h27 := El.tr (Dw := Dw) h27 ht60
      replace h29 := El.tr (Dw := Dw) h29 ht60
      replace hK := Tr.trans (Dw := Dw) hK ht60
      replace hr51 := Tr.trans (Dw := Dw) hr51 ht60
      replace hB := Nat.le_trans hB ht60.ex.size
      replace hA := ht60.new
      refine V_end (fun a ha61 => ?_)
      refine begin_at (Dw := Dw) hH (i := 2) rfl hst45 hB hA (fun w62 hH63 ht64 => ?_) ha61
      replace h5 := Vb.tr (Dw := Dw) h5 ht64
      replace h58 := El.tr (Dw := Dw) h58 ht64
      replace hK := Tr.trans (Dw := Dw) hK ht64
      replace hr51 := Tr.trans (Dw := Dw) hr51 ht64
      replace hB := Nat.le_trans hB ht64.ex.size
      replace hA := ht64.new
      replace hH : Hp B A41 w62 (obC b7 [.int .i64 s35.1.from_, .int .i64 s35.1.to_] 80 :: yield_Y s35.2 :: obO l38 (.loop { rc39 with state := .busy }) :: L42) := hH63
      obtain ⟨o65, ho65, h50⟩ := Option.bind_eq_some_iff.1 h50
      refine C_cutG (ι := ((cal_Span × yield_S) × (Nat → Prop))) (fun ⟨s66, A71⟩ => []) (fun ⟨s66, A71⟩ => fun w' => o65 = .fin s66 ∧ Hp B A71 w' (obC b7 [.int .i64 s66.1.from_, .int .i64 s66.1.to_] 80 :: yield_Y s66.2 :: obO l38 (.loop { rc39 with state := .busy }) :: L42) ∧ Tr Dw B A41 w62 A71 w') ?_ ?_
      · have hr67 : Tr Dw B A41 w62 A41 w62 := Tr.refl (Dw := Dw) hA
        refine C_block ?_
        obtain ⟨o73, ho73, ho65⟩ := Option.bind_eq_some_iff.1 ho65
        refine C_cutG (ι := ((cal_Span × yield_S) × (Nat → Prop))) (fun ⟨s74, A79⟩ => []) (fun ⟨s74, A79⟩ => fun w' => o73 = .fin s74 ∧ Hp B A79 w' (obC b7 [.int .i64 s74.1.from_, .int .i64 s74.1.to_] 80 :: yield_Y s74.2 :: obO l38 (.loop { rc39 with state := .busy }) :: L42) ∧ Tr Dw B A41 w62 A79 w') ?_ ?_
        · have hr75 : Tr Dw B A41 w62 A41 w62 := Tr.refl (Dw := Dw) hA
          refine C_block ?_
          refine C_seq ?_
          refine C_region ?_
          refine V_y (Y_fieldAddrC (off2 := 0) Tryd.underlying80 rfl Tryd.sizeOf3 (by decide) rfl rfl) rfl rfl rfl ?_
          refine V_y (Y_load (Hp.cell (j := 0) hH (i := 0) rfl rfl) Tryd.isAgg3 rfl) rfl rfl rfl ?_
          refine V_y (Y_lss rfl rfl) rfl rfl rfl ?_
          refine V_y (Y_assign rfl) rfl rfl rfl ?_
          refine V_to (fun _ _ => rfl) ?_
          obtain ⟨o81, ho81, ho73⟩ := Option.bind_eq_some_iff.1 ho73
          refine C_cutG (ι := ((cal_Span × yield_S) × (Nat → Prop))) (fun ⟨s82, A87⟩ => []) (fun ⟨s82, A87⟩ => fun w' => o81 = .fin s82 ∧ Hp B A87 w' (obC b7 [.int .i64 s82.1.from_, .int .i64 s82.1.to_] 80 :: yield_Y s82.2 :: obO l38 (.loop { rc39 with state := .busy }) :: L42) ∧ Tr Dw B A41 w62 A87 w') ?_ ?_
          · have hr83 : Tr Dw B A41 w62 A41 w62 := Tr.refl (Dw := Dw) hA
            refine C_cond rfl (fun hc89 => ?_) (fun hc89 => ?_)
            · rw [if_pos hc89] at ho81
              refine C_region ?_
              obtain ⟨h90, _⟩ := El_cal_Span h58
              refine V_y (Y_loadA h90 Tryd.isAgg80 Tryd.sizeOf80 rfl) rfl rfl rfl ?_
              refine V_storeC (Dw := Dw) (off := 0) (ds := [.int .i64 x43.from_, .int .i64 x43.to_]) hH (i := 0) rfl Tryd.sizeOf80 rfl (Nat.le_of_ble_eq_true rfl) (by simp [Value.cells, Value.oneCell']) rfl hB hA rfl rfl ?_
              intro w91 hH92 ht93
              replace h5 := Vb.tr (Dw := Dw) h5 ht93
              replace h58 := El.tr (Dw := Dw) h58 ht93
              replace hK := Tr.trans (Dw := Dw) hK ht93
              replace hr51 := Tr.trans (Dw := Dw) hr51 ht93
              replace hr67 := Tr.trans (Dw := Dw) hr67 ht93
              replace hr75 := Tr.trans (Dw := Dw) hr75 ht93
              replace hr83 := Tr.trans (Dw := Dw) hr83 ht93
              replace hB := Nat.le_trans hB ht93.ex.size
              replace hA := ht93.new
              replace hH : Hp B A41 w91 (obC b7 [.int .i64 x43.from_, .int .i64 x43.to_] 80 :: yield_Y s35.2 :: obO l38 (.loop { rc39 with state := .busy }) :: L42) := hH92
              obtain rfl := Option.some.inj ho81
              refine V_end (fun a ha94 => ?_)
              exact ⟨((x43, s35.2), A41), ha94.sub trivial, ⟨rfl, hH, hr83⟩⟩
            · rw [if_neg (nt hc89)] at ho81
              refine C_seq ?_
              refine C_region ?_
              have h95 := El_cal_Span_0 h58
              refine V_y (Y_fieldAddr Tryd.underlying80 rfl Tryd.sizeOf3 (by decide) rfl) rfl rfl rfl ?_
              refine V_y (Y_load (El.int h95) Tryd.isAgg3 rfl) rfl rfl rfl ?_
              refine V_y (Y_fieldAddrC (off2 := 1) Tryd.underlying80 rfl Tryd.sizeOf3 (by decide) rfl rfl) rfl rfl rfl ?_
              refine V_y (Y_load (Hp.cell (j := 1) hH (i := 0) rfl rfl) Tryd.isAgg3 rfl) rfl rfl rfl ?_
              refine V_y (Y_leq rfl rfl) rfl rfl rfl ?_
              refine V_y (Y_assign rfl) rfl rfl rfl ?_
              refine V_to (fun _ _ => rfl) ?_
              obtain ⟨o96, ho96, ho81⟩ := Option.bind_eq_some_iff.1 ho81
              refine C_cutG (ι := ((cal_Span × yield_S) × (Nat → Prop))) (fun ⟨s97, A102⟩ => []) (fun ⟨s97, A102⟩ => fun w' => o96 = .fin s97 ∧ Hp B A102 w' (obC b7 [.int .i64 s97.1.from_, .int .i64 s97.1.to_] 80 :: yield_Y s97.2 :: obO l38 (.loop { rc39 with state := .busy }) :: L42) ∧ Tr Dw B A41 w62 A102 w') ?_ ?_
              · have hr98 : Tr Dw B A41 w62 A41 w62 := Tr.refl (Dw := Dw) hA
                refine C_cond rfl (fun hc104 => ?_) (fun hc104 => ?_)
                · rw [if_pos hc104] at ho96
                  refine C_region ?_
                  refine V_y (Y_fieldAddrC (off2 := 1) Tryd.underlying80 rfl Tryd.sizeOf3 (by decide) rfl rfl) rfl rfl rfl ?_
                  refine V_y (Y_load (Hp.cell (j := 1) hH (i := 0) rfl rfl) Tryd.isAgg3 rfl) rfl rfl rfl ?_
                  have h105 := El_cal_Span_1 h58
                  refine V_y (Y_fieldAddr Tryd.underlying80 rfl Tryd.sizeOf3 (by decide) rfl) rfl rfl rfl ?_
                  refine V_y (Y_load (El.int h105) Tryd.isAgg3 rfl) rfl rfl rfl ?_
                  refine V_y (Y_max2 rfl rfl) rfl rfl rfl ?_
                  refine V_y (Y_fieldAddrC (off2 := 1) Tryd.underlying80 rfl Tryd.sizeOf3 (by decide) rfl rfl) rfl rfl rfl ?_
                  refine V_storeC (Dw := Dw) (off := 1) (ds := [.int .i64 s35.1.from_, .int .i64 (if s35.1.to_ < x43.to_ then x43.to_ else s35.1.to_)]) hH (i := 0) rfl Tryd.sizeOf3 rfl (Nat.le_of_ble_eq_true rfl) (by simp [Value.cells, Value.oneCell']) rfl hB hA rfl rfl ?_
                  intro w106 hH107 ht108
                  replace h5 := Vb.tr (Dw := Dw) h5 ht108
                  replace h58 := El.tr (Dw := Dw) h58 ht108
                  replace h105 := El.tr (Dw := Dw) h105 ht108
                  replace hK := Tr.trans (Dw := Dw) hK ht108
                  replace hr51 := Tr.trans (Dw := Dw) hr51 ht108
                  replace hr67 := Tr.trans (Dw := Dw) hr67 ht108
                  replace hr75 := Tr.trans (Dw := Dw) hr75 ht108
                  replace hr83 := Tr.trans (Dw := Dw) hr83 ht108
                  replace hr98 := Tr.trans (Dw := Dw) hr98 ht108
                  replace hB := Nat.le_trans hB ht108.ex.size
                  replace hA := ht108.new
                  replace hH : Hp B A41 w106 (obC b7 [.int .i64 s35.1.from_, .int .i64 (if s35.1.to_ < x43.to_ then x43.to_ else s35.1.to_)] 80 :: yield_Y s35.2 :: obO l38 (.loop { rc39 with state := .busy }) :: L42) := hH107
                  obtain rfl := Option.some.inj ho96
                  refine V_end (fun a ha109 => ?_)
                  exact ⟨(((⟨s35.1.from_, (if s35.1.to_ < x43.to_ then x43.to_ else s35.1.to_)⟩ : cal_Span), s35.2), A41), ha109.sub trivial, ⟨rfl, hH, hr98⟩⟩
                · rw [if_neg (nt hc104)] at ho96
                  refine C_seq ?_
                  refine C_seq ?_
                  refine C_region ?_
                  refine V_y (Y_load h5.2.2 Tryd.isAgg78 rfl) rfl rfl rfl ?_
                  refine V_y (Y_loadA (Hp.part (off := 0) (n := 2) (ds := [.int .i64 s35.1.from_, .int .i64 s35.1.to_]) hH (i := 0) rfl rfl) Tryd.isAgg80 Tryd.sizeOf80 rfl) rfl rfl rfl ?_
                  obtain ⟨x110, hx110, ho96⟩ := Option.bind_eq_some_iff.1 ho96
                  replace hH : Hp B A41 w62 (yield_Y s35.2 :: obC b7 [.int .i64 s35.1.from_, .int .i64 s35.1.to_] 80 :: obO l38 (.loop { rc39 with state := .busy }) :: L42) := Hp.front hH (i := 1) rfl
                  refine V_callV rfl rfl rfl (yield_spec w62 _ _ s35.1 _ x110.1 x110.2 hB hA hK hH hx110) ?_
                  rintro _ w111 ⟨rfl, A112, ht114, hH113⟩
                  replace h5 := Vb.tr (Dw := Dw) h5 ht114
                  replace h58 := El.tr (Dw := Dw) h58 ht114
                  replace hK := Tr.trans (Dw := Dw) hK ht114
                  replace hr51 := Tr.trans (Dw := Dw) hr51 ht114
                  replace hr67 := Tr.trans (Dw := Dw) hr67 ht114
                  replace hr75 := Tr.trans (Dw := Dw) hr75 ht114
                  replace hr83 := Tr.trans (Dw := Dw) hr83 ht114
                  replace hr98 := Tr.trans (Dw := Dw) hr98 ht114
                  replace hB := Nat.le_trans hB ht114.ex.size
                  replace hA := ht114.new
                  replace hH : Hp B A112 w111 (yield_Y x110.2 :: obC b7 [.int .i64 s35.1.from_, .int .i64 s35.1.to_] 80 :: obO l38 (.loop { rc39 with state := .busy }) :: L42) := hH113
                  refine V_y (Y_not rfl) rfl rfl rfl ?_
                  refine V_to (fun _ _ => rfl) ?_
                  refine C_cond rfl (fun hc115 => ?_) (fun hc115 => ?_)
                  · rw [if_pos hc115] at ho96
                    obtain rfl := Option.some.inj ho96
                    rw [Lp.andThen_rt] at ho81
                    obtain rfl := Option.some.inj ho81
                    rw [Lp.andThen_rt] at ho73
                    obtain rfl := Option.some.inj ho73
                    rw [Lp.andThen_rt] at ho65
                    obtain rfl := Option.some.inj ho65
                    rw [Lp.andThen_rt] at h50
                    obtain ⟨rfl, rfl⟩ := Prod.mk.inj (Option.some.inj h50)
                    refine C_ret (fun a ha116 => ?_)
                    replace hH : Hp B A112 w111 (obO l38 (.loop { rc39 with state := .busy }) :: yield_Y x110.2 :: obC b7 [.int .i64 s35.1.from_, .int .i64 s35.1.to_] 80 :: L42) := Hp.front hH (i := 2) rfl
                    replace hH : Hp B A112 w111 (yield_Y x110.2 :: obO l38 (.loop { rc39 with state := .busy }) :: obC b7 [.int .i64 s35.1.from_, .int .i64 s35.1.to_] 80 :: L42) := Hp.front hH (i := 1) rfl
                    replace hH : Hp B A112 w111 (obC b7 [.int .i64 s35.1.from_, .int .i64 s35.1.to_] 80 :: yield_Y x110.2 :: obO l38 (.loop { rc39 with state := .busy }) :: L42) := Hp.front hH (i := 2) rfl
                    exact ⟨rfl, A112, hr51, Hp.pack (F := fun (i : Unit) => [obC b7 [.int .i64 (s35.1, x110.2).1.from_, .int .i64 (s35.1, x110.2).1.to_] 80, yield_Y (s35.1, x110.2).2]) () hH⟩
                  · rw [if_neg (nt hc115)] at ho96
                    refine C_skip_to (fun _ _ => rfl) ?_
                    refine C_region ?_
                    obtain ⟨h117, _⟩ := El_cal_Span h58
                    refine V_y (Y_loadA h117 Tryd.isAgg80 Tryd.sizeOf80 rfl) rfl rfl rfl ?_
                    refine V_storeC (Dw := Dw) (off := 0) (ds := [.int .i64 x43.from_, .int .i64 x43.to_]) hH (i := 1) rfl Tryd.sizeOf80 rfl (Nat.le_of_ble_eq_true rfl) (by simp [Value.cells, Value.oneCell']) rfl hB hA rfl rfl ?_
                    intro w118 hH119 ht120
                    replace h58 := El.tr (Dw := Dw) h58 ht120
                    replace hK := Tr.trans (Dw := Dw) hK ht120
                    replace hr51 := Tr.trans (Dw := Dw) hr51 ht120
                    replace hr67 := Tr.trans (Dw := Dw) hr67 ht120
                    replace hr75 := Tr.trans (Dw := Dw) hr75 ht120
                    replace hr83 := Tr.trans (Dw := Dw) hr83 ht120
                    replace hr98 := Tr.trans (Dw := Dw) hr98 ht120
                    replace hB := Nat.le_trans hB ht120.ex.size
                    replace hA := ht120.new
                    replace hH : Hp B A112 w118 (yield_Y x110.2 :: obC b7 [.int .i64 x43.from_, .int .i64 x43.to_] 80 :: obO l38 (.loop { rc39 with state := .busy }) :: L42) := hH119
                    obtain rfl := Option.some.inj ho96
                    refine V_end (fun a ha121 => ?_)
                    replace hH : Hp B A112 w118 (obO l38 (.loop { rc39 with state := .busy }) :: yield_Y x110.2 :: obC b7 [.int .i64 x43.from_, .int .i64 x43.to_] 80 :: L42) := Hp.front hH (i := 2) rfl
                    replace hH : Hp B A112 w118 (yield_Y x110.2 :: obO l38 (.loop { rc39 with state := .busy }) :: obC b7 [.int .i64 x43.from_, .int .i64 x43.to_] 80 :: L42) := Hp.front hH (i := 1) rfl
                    replace hH : Hp B A112 w118 (obC b7 [.int .i64 x43.from_, .int .i64 x43.to_] 80 :: yield_Y x110.2 :: obO l38 (.loop { rc39 with state := .busy }) :: L42) := Hp.front hH (i := 2) rfl
                    exact ⟨((x43, x110.2), A112), ha121.sub trivial, ⟨rfl, hH, hr98⟩⟩
              rintro ⟨s97, A102⟩ w99 ⟨rfl, hH103, hk100⟩ a ha101
              rw [Lp.andThen_fin] at ho81
              replace hK := Tr.trans (Dw := Dw) hK hk100
              replace hr51 := Tr.trans (Dw := Dw) hr51 hk100
              replace hr67 := Tr.trans (Dw := Dw) hr67 hk100
              replace hr75 := Tr.trans (Dw := Dw) hr75 hk100
              replace hr83 := Tr.trans (Dw := Dw) hr83 hk100
              replace hB := Nat.le_trans hB hk100.ex.size
              replace hA := hk100.new
              replace hH : Hp B A102 w99 (obC b7 [.int .i64 s97.1.from_, .int .i64 s97.1.to_] 80 :: yield_Y s97.2 :: obO l38 (.loop { rc39 with state := .busy }) :: L42) := hH103
              obtain rfl := Option.some.inj ho81
              exact ⟨((s97.1, s97.2), A102), ha101.sub trivial, ⟨rfl, hH, hr83⟩⟩
          rintro ⟨s82, A87⟩ w84 ⟨rfl, hH88, hk85⟩ a ha86
          rw [Lp.andThen_fin] at ho73
          replace hK := Tr.trans (Dw := Dw) hK hk85
          replace hr51 := Tr.trans (Dw := Dw) hr51 hk85
          replace hr67 := Tr.trans (Dw := Dw) hr67 hk85
          replace hr75 := Tr.trans (Dw := Dw) hr75 hk85
          replace hB := Nat.le_trans hB hk85.ex.size
          replace hA := hk85.new
          replace hH : Hp B A87 w84 (obC b7 [.int .i64 s82.1.from_, .int .i64 s82.1.to_] 80 :: yield_Y s82.2 :: obO l38 (.loop { rc39 with state := .busy }) :: L42) := hH88
          obtain rfl := Option.some.inj ho73
          exact ⟨((s82.1, s82.2), A87), ha86.sub trivial, ⟨rfl, hH, hr75⟩⟩
        rintro ⟨s74, A79⟩ w76 ⟨rfl, hH80, hk77⟩ a ha78
        rw [Lp.andThen_fin] at ho65
        replace hK := Tr.trans (Dw := Dw) hK hk77
        replace hr51 := Tr.trans (Dw := Dw) hr51 hk77
        replace hr67 := Tr.trans (Dw := Dw) hr67 hk77
        replace hB := Nat.le_trans hB hk77.ex.size
        replace hA := hk77.new
        replace hH : Hp B A79 w76 (obC b7 [.int .i64 s74.1.from_, .int .i64 s74.1.to_] 80 :: yield_Y s74.2 :: obO l38 (.loop { rc39 with state := .busy }) :: L42) := hH80
        obtain rfl := Option.some.inj ho65
        exact ⟨((s74.1, s74.2), A79), ha78.sub trivial, ⟨rfl, hH, hr67⟩⟩
      rintro ⟨s66, A71⟩ w68 ⟨rfl, hH72, hk69⟩ a ha70
      rw [Lp.andThen_fin] at h50
      replace hK := Tr.trans (Dw := Dw) hK hk69
      replace hr51 := Tr.trans (Dw := Dw) hr51 hk69
      replace hB := Nat.le_trans hB hk69.ex.size
      replace hA := hk69.new
      replace hH : Hp B A71 w68 (obC b7 [.int .i64 s66.1.from_, .int .i64 s66.1.to_] 80 :: yield_Y s66.2 :: obO l38 (.loop { rc39 with state := .busy }) :: L42) := hH72
      obtain ⟨rfl, rfl⟩ := Prod.mk.inj (Option.some.inj h50)
      exact ⟨rfl, A71, hr51, Hp.pack (F := fun (i : Unit) => [obC b7 [.int .i64 (s66.1, s66.2).1.from_, .int .i64 (s66.1, s66.2).1.to_] 80, yield_Y (s66.1, s66.2).2]) () hH⟩
    · intro hc131 D126 w127 A128 ht129 hH130 a ha132
      exact ⟨(D126, A128), ha132.sub ⟨rfl, rfl, trivial⟩, (by rw [hc131]; simp), hH130, ht129⟩
    · intro k133 hc131 D126 w127 A128 ht129 hH130
      by_cases hc134 : k133 = 0
      · subst hc134
        rw [if_pos hc131] at hm
        obtain ⟨_, hH130⟩ := Hp.open hH130
        replace hK := Tr.trans (Dw := Dw) hK ht129
        replace hB := Nat.le_trans hB ht129.ex.size
        replace hA := ht129.new
        replace hH : Hp B A128 w127 (obC b7 [.int .i64 z33.1.1.from_, .int .i64 z33.1.1.to_] 80 :: yield_Y z33.1.2 :: obO D126 (.deferred (some [])) :: L) := hH130
        show C _ _ .ret _ _ _
        obtain rfl := Option.some.inj hm
        have h135 := Hp.obj hH (i := 2) (b := D126) rfl
        obtain ⟨hH136, ht137⟩ := Hp.put (Dw := Dw) (.deferred none) hH (i := 2) (b := D126) rfl hB hA
        replace hK := Tr.trans (Dw := Dw) hK ht137
        replace hB := Nat.le_trans hB ht137.ex.size
        replace hA := ht137.new
        replace hH : Hp B A128 (World.putObj w127 D126 (.deferred none)) (obC b7 [.int .i64 z33.1.1.from_, .int .i64 z33.1.1.to_] 80 :: yield_Y z33.1.2 :: obO D126 (.deferred none) :: L) := hH136
        replace hH : Hp B A128 (World.putObj w127 D126 (.deferred none)) (yield_Y z33.1.2 :: obC b7 [.int .i64 z33.1.1.from_, .int .i64 z33.1.1.to_] 80 :: obO D126 (.deferred none) :: L) := Hp.front hH (i := 1) rfl
        replace hH : Hp B A128 (World.putObj w127 D126 (.deferred none)) (yield_Y z33.1.2 :: obO D126 (.deferred none) :: L) := Hp.drop hH (i := 1) rfl
        replace hH : Hp B A128 (World.putObj w127 D126 (.deferred none)) (yield_Y z33.1.2 :: L) := Hp.drop hH (i := 1) rfl
        refine C_ret ?_
        try simp only [↓inBlock_ret, ↓then_ret]
        exact retM1 rfl h135 (Res.zero Tryd.results38) ⟨A128, rfl, hH, hK⟩
      · show C _ _ (if k133 = 0 then _ else _) _ _ _
        rw [if_neg hc134]
        refine C_exit fun a ha132 => ?_
        show Exit.inBlock _ _ _ _ _
        rw [Exit.inBlock, if_pos rfl]
        exact ⟨(D126, A128), ha132.sub ⟨rfl, rfl, trivial⟩, (by rw [hc131]; simpa using hc134), hH130, ht129⟩
  rintro ⟨D126, A128⟩ w127 ⟨hc138, hH130, ht129⟩ a ha132
  rw [if_neg hc138] at hm
  obtain ⟨_, hH130⟩ := Hp.open hH130
  replace h5 := Vb.tr (Dw := Dw) h5 ht129
  replace hK := Tr.trans (Dw := Dw) hK ht129
  replace hB := Nat.le_trans hB ht129.ex.size
  replace hA := ht129.new
  replace hH : Hp B A128 w127 (obC b7 [.int .i64 z33.1.1.from_, .int .i64 z33.1.1.to_] 80 :: yield_Y z33.1.2 :: obO D126 (.deferred (some [])) :: L) := hH130
  refine C_at (n := ⟨41, [{ target := .collected D126, args := #[] }], none⟩) (fun _ _ => rfl) ?_ ha132
  refine C_seq ?_
  refine C_region ?_
  refine V_y (Y_fieldAddrC (off2 := 0) Tryd.underlying80 rfl Tryd.sizeOf3 (by decide) rfl rfl) rfl rfl rfl ?_
  refine V_y (Y_load (Hp.cell (j := 0) hH (i := 0) rfl rfl) Tryd.isAgg3 rfl) rfl rfl rfl ?_
  refine V_y (Y_geq rfl rfl) rfl rfl rfl ?_
  refine V_to (fun _ _ => rfl) ?_
  obtain ⟨s140, ho139, hm⟩ := Option.bind_eq_some_iff.1 hm
  refine C_cutG (ι := (Nat → Prop)) (fun (A145 : (Nat → Prop)) => []) (fun (A145 : (Nat → Prop)) => fun w' => Hp B A145 w' (obC b7 [.int .i64 z33.1.1.from_, .int .i64 z33.1.1.to_] 80 :: yield_Y s140 :: obO D126 (.deferred (some [])) :: L) ∧ Tr Dw B A128 w127 A145 w') ?_ ?_
  · have hr141 : Tr Dw B A128 w127 A128 w127 := Tr.refl (Dw := Dw) hA
    refine C_cond rfl (fun hc147 => ?_) (fun hc147 => ?_)
    · rw [if_pos hc147] at ho139
      refine C_region ?_
      refine V_y (Y_load h5.2.2 Tryd.isAgg78 rfl) rfl rfl rfl ?_
      refine V_y (Y_loadA (Hp.part (off := 0) (n := 2) (ds := [.int .i64 z33.1.1.from_, .int .i64 z33.1.1.to_]) hH (i := 0) rfl rfl) Tryd.isAgg80 Tryd.sizeOf80 rfl) rfl rfl rfl ?_
      obtain ⟨x148, hx148, ho139⟩ := Option.bind_eq_some_iff.1 ho139
      replace hH : Hp B A128 w127 (yield_Y z33.1.2 :: obC b7 [.int .i64 z33.1.1.from_, .int .i64 z33.1.1.to_] 80 :: obO D126 (.deferred (some [])) :: L) := Hp.front hH (i := 1) rfl
      refine V_callV rfl rfl rfl (yield_spec w127 _ _ z33.1.1 _ x148.1 x148.2 hB hA hK hH hx148) ?_
      rintro _ w149 ⟨rfl, A150, ht152, hH151⟩
      replace h5 := Vb.tr (Dw := Dw) h5 ht152
      replace hK := Tr.trans (Dw := Dw) hK ht152
      replace hr141 := Tr.trans (Dw := Dw) hr141 ht152
      replace hB := Nat.le_trans hB ht152.ex.size
      replace hA := ht152.new
      replace hH : Hp B A150 w149 (yield_Y x148.2 :: obC b7 [.int .i64 z33.1.1.from_, .int .i64 z33.1.1.to_] 80 :: obO D126 (.deferred (some [])) :: L) := hH151
      obtain rfl := Option.some.inj ho139
      refine V_end (fun a ha153 => ?_)
      replace hH : Hp B A150 w149 (obO D126 (.deferred (some [])) :: yield_Y x148.2 :: obC b7 [.int .i64 z33.1.1.from_, .int .i64 z33.1.1.to_] 80 :: L) := Hp.front hH (i := 2) rfl
      replace hH : Hp B A150 w149 (yield_Y x148.2 :: obO D126 (.deferred (some [])) :: obC b7 [.int .i64 z33.1.1.from_, .int .i64 z33.1.1.to_] 80 :: L) := Hp.front hH (i := 1) rfl
      replace hH : Hp B A150 w149 (obC b7 [.int .i64 z33.1.1.from_, .int .i64 z33.1.1.to_] 80 :: yield_Y x148.2 :: obO D126 (.deferred (some [])) :: L) := Hp.front hH (i := 2) rfl
      exact ⟨A150, ha153.sub trivial, ⟨hH, hr141⟩⟩
    · rw [if_neg (nt hc147)] at ho139
      obtain rfl := Option.some.inj ho139
      refine C_skip (fun a ha154 => ?_)
      exact ⟨A128, ha154.sub trivial, ⟨hH, hr141⟩⟩
  rintro A145 w142 ⟨hH146, hk143⟩ a ha144
  replace hK := Tr.trans (Dw := Dw) hK hk143
  replace hB := Nat.le_trans hB hk143.ex.size
  replace hA := hk143.new
  replace hH : Hp B A145 w142 (obC b7 [.int .i64 z33.1.1.from_, .int .i64 z33.1.1.to_] 80 :: yield_Y s140 :: obO D126 (.deferred (some [])) :: L) := hH146
  obtain rfl := Option.some.inj hm
  have h156 := Hp.obj hH (i := 2) (b := D126) rfl
  obtain ⟨hH157, ht158⟩ := Hp.put (Dw := Dw) (.deferred none) hH (i := 2) (b := D126) rfl hB hA
  replace hK := Tr.trans (Dw := Dw) hK ht158
  replace hB := Nat.le_trans hB ht158.ex.size
  replace hA := ht158.new
  replace hH : Hp B A145 (World.putObj w142 D126 (.deferred none)) (obC b7 [.int .i64 z33.1.1.from_, .int .i64 z33.1.1.to_] 80 :: yield_Y s140 :: obO D126 (.deferred none) :: L) := hH157
  replace hH : Hp B A145 (World.putObj w142 D126 (.deferred none)) (yield_Y s140 :: obC b7 [.int .i64 z33.1.1.from_, .int .i64 z33.1.1.to_] 80 :: obO D126 (.deferred none) :: L) := Hp.front hH (i := 1) rfl
  replace hH : Hp B A145 (World.putObj w142 D126 (.deferred none)) (yield_Y s140 :: obO D126 (.deferred none) :: L) := Hp.drop hH (i := 1) rfl
  replace hH : Hp B A145 (World.putObj w142 D126 (.deferred none)) (yield_Y s140 :: L) := Hp.drop hH (i := 1) rfl
  try simp only [↓inBlock_ret, ↓then_ret]
  exact normM (retM1 rfl h156 (Res.zero Tryd.results38) ⟨A145, rfl, hH, hK⟩ a ha144)

set_option maxRecDepth 4000 in
set_option maxHeartbeats 4000000 in
theorem cal_Open_c (w : World) {A : Nat → Prop} (hA : ∀ b, w.heap.size ≤ b → A b) (c : cal_Calendar) (v_c0 : Value) (h_c0 : Sl A w v_c0 c.zone.changes) (v_c1 : Value) (h_c1 : Sl A w v_c1 c.week) (v_c2 : Value) (h_c2 : Sl A w v_c2 c.specials) (m : Int) {r : (Bool × Int)} (hm : cal_Open c m = some r) : Ret Tryd.prog 12 #[.agg #[.int .i64 c.zone.offset, v_c0, v_c1, v_c2], .int .i64 m] w fun v w' => v = .tuple #[.bool r.1, .int .i64 r.2] ∧ Kp Dw w w' := by
  unfold cal_Open at hm
  refine enterM Tryd.func12 rfl Tryd.ntmps12 rfl ?_
  have hA0 := hA
  have hB := Nat.le_refl w.heap.size
  have hK : Tr Dw w.heap.size A w A w := Tr.refl (Dw := Dw) hA
  have hH : Hp w.heap.size A w [] := Hp.nil
  refine C_seq ?_
  refine C_region ?_
  refine V_box rfl rfl ?_
  intro b7 w9 h10
  have hk12 := h10.kp (Dw := Dw)
  have h11 : El (α := cal_Calendar) A w9 b7 0 c := h10.el hA ⟨[.int .i64 c.zone.offset, v_c0], _, rfl, ⟨[.int .i64 c.zone.offset], _, rfl, rfl, ⟨_, rfl, h_c0⟩⟩, ⟨[v_c1], _, rfl, ⟨_, rfl, h_c1⟩, ⟨_, rfl, h_c2⟩⟩⟩
  have ht13 := Kp.tr (Dw := Dw) hk12 hA hB
  replace hH := Hp.kp (Dw := Dw) hH hk12
  replace h_c0 := Sl.tr (Dw := Dw) h_c0 ht13
  replace h_c1 := Sl.tr (Dw := Dw) h_c1 ht13
  replace h_c2 := Sl.tr (Dw := Dw) h_c2 ht13
  replace hK := Tr.trans (Dw := Dw) hK ht13
  replace hB := Nat.le_trans hB ht13.ex.size
  replace hA := ht13.new
  refine V_allocH (Dw := Dw) (B := w.heap.size) hH Tryd.zeroValue4 hB hA rfl ?_
  intro b14 w15 A16 hH17 ht18
  replace h_c0 := Sl.tr (Dw := Dw) h_c0 ht18
  replace h_c1 := Sl.tr (Dw := Dw) h_c1 ht18
  replace h_c2 := Sl.tr (Dw := Dw) h_c2 ht18
  replace h11 := El.tr (Dw := Dw) h11 ht18
  replace hK := Tr.trans (Dw := Dw) hK ht18
  replace hB := Nat.le_trans hB ht18.ex.size
  replace hA := ht18.new
  replace hH : Hp w.heap.size A16 w15 (obC b14 [.bool false] 4 :: []) := hH17
  refine V_allocH (Dw := Dw) (B := w.heap.size) hH Tryd.zeroValue25 hB hA rfl ?_
  intro b19 w20 A21 hH22 ht23
  replace h_c0 := Sl.tr (Dw := Dw) h_c0 ht23
  replace h_c1 := Sl.tr (Dw := Dw) h_c1 ht23
  replace h_c2 := Sl.tr (Dw := Dw) h_c2 ht23
  replace h11 := El.tr (Dw := Dw) h11 ht23
  replace hK := Tr.trans (Dw := Dw) hK ht23
  replace hB := Nat.le_trans hB ht23.ex.size
  replace hA := ht23.new
  replace hH : Hp w.heap.size A21 w20 (obC b19 [.int .i64 0] 25 :: obC b14 [.bool false] 4 :: []) := hH22
  refine V_to (fun _ _ => rfl) ?_
  refine C_seq ?_
  refine C_seq ?_
  refine C_region ?_
  obtain ⟨v24, v26, v28, h30, h25, h27, h29⟩ := El_cal_Calendar h11
  refine V_y (Y_loadA h30 Tryd.isAgg46 Tryd.sizeOf46 rfl) rfl rfl rfl ?_
  obtain ⟨x31, hx31, hm⟩ := Option.bind_eq_some_iff.1 hm
  refine V_call Tryd.call22 rfl rfl rfl rfl (cal_CheckCalendar_c (Dw := Dw) w20 hA c v24 h25 v26 h27 v28 h29 hx31) ?_
  rintro _ w33 ⟨rfl, hk34⟩
  have ht35 := Kp.tr (Dw := Dw) hk34 hA hB
  replace hH := Hp.kp (Dw := Dw) hH hk34
  replace h11 := El.tr (Dw := Dw) h11 ht35
  replace h25 := Sl.tr (Dw := Dw) h25 ht35
  replace h27 := Sl.tr (Dw := Dw) h27 ht35
  replace h29 := Sl.tr (Dw := Dw) h29 ht35
  replace hK := Tr.trans (Dw := Dw) hK ht35
  replace hB := Nat.le_trans hB ht35.ex.size
  replace hA := ht35.new
  refine V_y (Y_move rfl) rfl rfl rfl ?_
  refine V_call Tryd.call24 rfl rfl rfl rfl (cal_moment_c w33 m) ?_
  rintro _ _ ⟨rfl, rfl⟩
  refine V_buildSlice (Dw := Dw) (cells := #[.int .i64 x31, .int .i64 (cal_moment m)]) (l := ([x31, (cal_moment m)] : List Int)) (len := 2) Tryd.underlying55 Tryd.sizeOf25 Tryd.zeroValue25 rfl (by generalize ((cal_moment m) : Int) = z40; kernel_rfl) (show (2 * 1 : Nat) ≠ 0 by decide) (show (2 * 1 : Nat) ≤ 2 ^ 24 by decide) hA ⟨[.int .i64 x31], _, rfl, rfl, ⟨[.int .i64 (cal_moment m)], _, rfl, rfl, rfl⟩⟩ rfl rfl ?_
  intro v36 w37 hk39 h38
  have ht41 := Kp.tr (Dw := Dw) hk39 hA hB
  replace hH := Hp.kp (Dw := Dw) hH hk39
  replace h11 := El.tr (Dw := Dw) h11 ht41
  replace h25 := Sl.tr (Dw := Dw) h25 ht41
  replace h27 := Sl.tr (Dw := Dw) h27 ht41
  replace h29 := Sl.tr (Dw := Dw) h29 ht41
  replace hK := Tr.trans (Dw := Dw) hK ht41
  replace hB := Nat.le_trans hB ht41.ex.size
  replace hA := ht41.new
  obtain ⟨x42, hx42, hm⟩ := Option.bind_eq_some_iff.1 hm
  refine V_call Tryd.call9 rfl rfl rfl rfl (cmp_Or_api_Errno_c w37 ([x31, (cal_moment m)] : List Int) v36 h38 hx42) ?_
  rintro _ _ ⟨rfl, rfl⟩
  refine V_y (Y_assign rfl) rfl rfl rfl ?_
  refine V_to (fun _ _ => rfl) ?_
  refine C_seq ?_
  refine C_region ?_
  refine V_y (Y_move rfl) rfl rfl rfl ?_
  refine V_y (Y_neq rfl rfl) rfl rfl rfl ?_
  refine V_to (fun _ _ => rfl) ?_
  refine C_cond rfl (fun hc43 => ?_) (fun hc43 => ?_)
  · rw [if_pos hc43] at hm
    refine C_seq ?_
    refine C_region ?_
    refine V_y (Y_move rfl) rfl rfl rfl ?_
    refine V_storeC (Dw := Dw) (off := 0) (ds := [.bool false]) hH (i := 1) rfl Tryd.sizeOf4 rfl (Nat.le_of_ble_eq_true rfl) (by simp [Value.cells, Value.oneCell']) rfl hB hA rfl rfl ?_
    intro w44 hH45 ht46
    replace h11 := El.tr (Dw := Dw) h11 ht46
    replace hK := Tr.trans (Dw := Dw) hK ht46
    replace hB := Nat.le_trans hB ht46.ex.size
    replace hA := ht46.new
    replace hH : Hp w.heap.size A21 w44 (obC b19 [.int .i64 0] 25 :: obC b14 [.bool false] 4 :: []) := hH45
    refine V_storeC (Dw := Dw) (off := 0) (ds := [.int .i64 x42]) hH (i := 0) rfl Tryd.sizeOf25 rfl (Nat.le_of_ble_eq_true rfl) (by simp [Value.cells, Value.oneCell']) rfl hB hA rfl rfl ?_
    intro w47 hH48 ht49
    replace h11 := El.tr (Dw := Dw) h11 ht49
    replace hK := Tr.trans (Dw := Dw) hK ht49
    replace hB := Nat.le_trans hB ht49.ex.size
    replace hA := ht49.new
    replace hH : Hp w.heap.size A21 w47 (obC b19 [.int .i64 x42] 25 :: obC b14 [.bool false] 4 :: []) := hH48
    refine V_to (fun _ _ => rfl) ?_
    obtain rfl := Option.some.inj hm
    refine C_ret ?_
    try simp only [↓inBlock_ret, ↓then_ret]
    exact retM rfl (Res.l2 Tryd.results12 (RL.cell rfl (loadVar_one (Hp.cell (j := 0) hH (i := 1) rfl rfl) Tryd.isAgg4)) (RL.cell rfl (loadVar_one (Hp.cell (j := 0) hH (i := 0) rfl rfl) Tryd.isAgg25))) ⟨rfl, hK.kp⟩
  · rw [if_neg (nt hc43)] at hm
    refine C_skip_to (fun _ _ => rfl) ?_
    refine C_seq ?_
    refine C_seq ?_
    refine C_region ?_
    obtain ⟨v50, v52, v54, h56, h51, h53, h55⟩ := El_cal_Calendar h11
    refine V_y (Y_loadA h56 Tryd.isAgg46 Tryd.sizeOf46 rfl) rfl rfl rfl ?_
    refine V_y (Y_move rfl) rfl rfl rfl ?_
    refine V_y (Y_move rfl) rfl rfl rfl ?_
    refine V_y (Y_addI rfl rfl) rfl rfl rfl ?_
    obtain ⟨x57, hx57, hm⟩ := Option.bind_eq_some_iff.1 hm
    refine V_call Tryd.call25 rfl rfl rfl rfl (cal_Calendar_open_c (Dw := Dw) w37 hA c v50 h51 v52 h53 v54 h55 m (w64 (m + 1)) hx57) ?_
    rintro _ w65 ⟨b58, b60, b62, rfl, h59, h61, h63, hk66⟩
    have ht67 := Kp.tr (Dw := Dw) hk66 hA hB
    replace hH := Hp.kp (Dw := Dw) hH hk66
    replace h11 := El.tr (Dw := Dw) h11 ht67
    replace h51 := Sl.tr (Dw := Dw) h51 ht67
    replace h53 := Sl.tr (Dw := Dw) h53 ht67
    replace h55 := Sl.tr (Dw := Dw) h55 ht67
    replace hK := Tr.trans (Dw := Dw) hK ht67
    replace hB := Nat.le_trans hB ht67.ex.size
    replace hA := ht67.new
    refine V_to (fun _ _ => rfl) ?_
    have hH72 : Hp w.heap.size A21 w65 ((fun (s69 : (Int × Bool)) => obE (fun (i : Unit) => [obC b19 [.int .i64 s69.1] 25, obC b14 [.bool s69.2] 4])) (0, false) :: []) := Hp.pack (F := fun (i : Unit) => [obC b19 [.int .i64 (0, false).1] 25, obC b14 [.bool (0, false).2] 4]) () hH
    obtain ⟨z68, hz68, hm⟩ := Option.bind_eq_some_iff.1 hm
    refine C_cutN (ι := Nat × (Nat → Prop)) (fun i => ⟨22, [{ target := .collected i.1, args := #[] }], none⟩) (fun i => [(4, .pointer (some ⟨b14, 0, none⟩)), (5, .pointer (some ⟨b19, 0, none⟩))]) (fun i w' => z68.2 ≠ some 0 ∧ Hp w.heap.size i.2 w' ((fun (s69 : (Int × Bool)) => obE (fun (i : Unit) => [obC b19 [.int .i64 s69.1] 25, obC b14 [.bool s69.2] 4])) z68.1 :: obO i.1 (.deferred (some [])) :: []) ∧ Tr Dw w.heap.size A21 w65 i.2 w') ?_ ?_
    · refine C_block ?_
      refine C_rangeFunc (Dw := Dw) (B := w.heap.size) (A := A21) (L := []) (X := cal_Span) (fun (x78 : cal_Span) => [.agg #[.int .i64 x78.from_, .int .i64 x78.to_]]) (fun (s69 : (Int × Bool)) => obE (fun (i : Unit) => [obC b19 [.int .i64 s69.1] 25, obC b14 [.bool s69.2] 4])) (fun (x78 : cal_Span) (s70 : (Int × Bool)) => some ((0, true), some 0)) (fun k => if k = 0 then .ret else .exit 0) (s0 := (0, false)) (zf := z68) rfl rfl rfl (by decide) (fun _ => rfl) hB hA hH72 38 _ rfl Tryd.call38 ?_ ?_ ?_ ?_
      · intro Ys yv w1 A1 L1 h1 h2 h3 h4 h0 h5
        exact (cal_Calendar_open_1_c (Dw := Dw) w1 h1 h2 (yieldB (fun (x78 : cal_Span) (s70 : (Int × Bool)) => some ((0, true), some 0))) Ys yv h0 ((0, false), none) h5 x57.1 b58 (El.tr (Dw := Dw) h59 h3) x57.2.1 b60 (El.tr (Dw := Dw) h61 h3) x57.2.2 b62 (El.tr (Dw := Dw) h63 h3) h4 hz68).mono fun _ _ ⟨A3, _, hh, tt⟩ => ⟨A3, tt, hh⟩
      · intro l73 rc74 w75 A76 L77 x78 s70 s71 j79 hst80 hB81 hA82 ht83 hH84 h85
        obtain ⟨_, hH84⟩ := Hp.open hH84
        replace h59 := El.tr (Dw := Dw) h59 ht83
        replace h61 := El.tr (Dw := Dw) h61 ht83
        replace h63 := El.tr (Dw := Dw) h63 ht83
        replace hK := Tr.trans (Dw := Dw) hK ht83
        replace hB := Nat.le_trans hB ht83.ex.size
        replace hA := ht83.new
        replace hH : Hp w.heap.size A76 w75 (obC b19 [.int .i64 s70.1] 25 :: obC b14 [.bool s70.2] 4 :: obO l73 (.loop rc74) :: L77) := hH84
        have hr86 : Tr Dw w.heap.size A76 w75 A76 w75 := Tr.refl (Dw := Dw) hA
        show C _ _ _ _ _ _
        refine C_skip (fun a ha88 => ?_)
        refine begin_at (Dw := Dw) hH (i := 2) rfl hst80 hB hA (fun w89 hH90 ht91 => ?_) ha88
        replace hK := Tr.trans (Dw := Dw) hK ht91
        replace hr86 := Tr.trans (Dw := Dw) hr86 ht91
        replace hB := Nat.le_trans hB ht91.ex.size
        replace hA := ht91.new
        replace hH : Hp w.heap.size A76 w89 (obC b19 [.int .i64 s70.1] 25 :: obC b14 [.bool s70.2] 4 :: obO l73 (.loop { rc74 with state := .busy }) :: L77) := hH90
        refine C_block ?_
        refine C_seq ?_
        refine C_region ?_
        refine V_storeC (Dw := Dw) (off := 0) (ds := [.bool true]) hH (i := 1) rfl Tryd.sizeOf4 rfl (Nat.le_of_ble_eq_true rfl) (by simp [Value.cells, Value.oneCell']) rfl hB hA rfl rfl ?_
        intro w92 hH93 ht94
        replace hK := Tr.trans (Dw := Dw) hK ht94
        replace hr86 := Tr.trans (Dw := Dw) hr86 ht94
        replace hB := Nat.le_trans hB ht94.ex.size
        replace hA := ht94.new
        replace hH : Hp w.heap.size A76 w92 (obC b19 [.int .i64 s70.1] 25 :: obC b14 [.bool true] 4 :: obO l73 (.loop { rc74 with state := .busy }) :: L77) := hH93
        refine V_storeC (Dw := Dw) (off := 0) (ds := [.int .i64 0]) hH (i := 0) rfl Tryd.sizeOf25 rfl (Nat.le_of_ble_eq_true rfl) (by simp [Value.cells, Value.oneCell']) rfl hB hA rfl rfl ?_
        intro w95 hH96 ht97
        replace hK := Tr.trans (Dw := Dw) hK ht97
        replace hr86 := Tr.trans (Dw := Dw) hr86 ht97
        replace hB := Nat.le_trans hB ht97.ex.size
        replace hA := ht97.new
        replace hH : Hp w.heap.size A76 w95 (obC b19 [.int .i64 0] 25 :: obC b14 [.bool true] 4 :: obO l73 (.loop { rc74 with state := .busy }) :: L77) := hH96
        refine V_to (fun _ _ => rfl) ?_
        obtain ⟨rfl, rfl⟩ := Prod.mk.inj (Option.some.inj h85)
        refine C_ret (fun a ha98 => ?_)
        exact ⟨rfl, A76, hr86, Hp.pack (F := fun (i : Unit) => [obC b19 [.int .i64 (0, true).1] 25, obC b14 [.bool (0, true).2] 4]) () hH⟩
      · intro hc104 D99 w100 A101 ht102 hH103 a ha105
        exact ⟨(D99, A101), ha105.sub ⟨rfl, rfl, trivial⟩, (by rw [hc104]; simp), hH103, ht102⟩
      · intro k106 hc104 D99 w100 A101 ht102 hH103
        by_cases hc107 : k106 = 0
        · subst hc107
          rw [if_pos hc104] at hm
          obtain ⟨_, hH103⟩ := Hp.open hH103
          replace hK := Tr.trans (Dw := Dw) hK ht102
          replace hB := Nat.le_trans hB ht102.ex.size
          replace hA := ht102.new
          replace hH : Hp w.heap.size A101 w100 (obC b19 [.int .i64 z68.1.1] 25 :: obC b14 [.bool z68.1.2] 4 :: obO D99 (.deferred (some [])) :: []) := hH103
          show C _ _ .ret _ _ _
          obtain rfl := Option.some.inj hm
          have h108 := Hp.obj hH (i := 2) (b := D99) rfl
          obtain ⟨hH109, ht110⟩ := Hp.put (Dw := Dw) (.deferred none) hH (i := 2) (b := D99) rfl hB hA
          replace hK := Tr.trans (Dw := Dw) hK ht110
          replace hB := Nat.le_trans hB ht110.ex.size
          replace hA := ht110.new
          replace hH : Hp w.heap.size A101 (World.putObj w100 D99 (.deferred none)) (obC b19 [.int .i64 z68.1.1] 25 :: obC b14 [.bool z68.1.2] 4 :: obO D99 (.deferred none) :: []) := hH109
          refine C_ret ?_
          try simp only [↓inBlock_ret, ↓then_ret]
          exact retM1 rfl h108 (Res.l2 Tryd.results12 (RL.cell rfl (loadVar_one (Hp.cell (j := 0) hH (i := 1) rfl rfl) Tryd.isAgg4)) (RL.cell rfl (loadVar_one (Hp.cell (j := 0) hH (i := 0) rfl rfl) Tryd.isAgg25))) ⟨rfl, hK.kp⟩
        · show C _ _ (if k106 = 0 then _ else _) _ _ _
          rw [if_neg hc107]
          refine C_exit fun a ha105 => ?_
          show Exit.inBlock _ _ _ _ _
          rw [Exit.inBlock, if_pos rfl]
          exact ⟨(D99, A101), ha105.sub ⟨rfl, rfl, trivial⟩, (by rw [hc104]; simpa using hc107), hH103, ht102⟩
    rintro ⟨D99, A101⟩ w100 ⟨hc111, hH103, ht102⟩ a ha105
    rw [if_neg hc111] at hm
    obtain ⟨_, hH103⟩ := Hp.open hH103
    replace hK := Tr.trans (Dw := Dw) hK ht102
    replace hB := Nat.le_trans hB ht102.ex.size
    replace hA := ht102.new
    replace hH : Hp w.heap.size A101 w100 (obC b19 [.int .i64 z68.1.1] 25 :: obC b14 [.bool z68.1.2] 4 :: obO D99 (.deferred (some [])) :: []) := hH103
    refine C_at (n := ⟨22, [{ target := .collected D99, args := #[] }], none⟩) (fun _ _ => rfl) ?_ ha105
    refine C_seq ?_
    refine C_region ?_
    refine V_storeC (Dw := Dw) (off := 0) (ds := [.bool false]) hH (i := 1) rfl Tryd.sizeOf4 rfl (Nat.le_of_ble_eq_true rfl) (by simp [Value.cells, Value.oneCell']) rfl hB hA rfl rfl ?_
    intro w112 hH113 ht114
    replace hK := Tr.trans (Dw := Dw) hK ht114
    replace hB := Nat.le_trans hB ht114.ex.size
    replace hA := ht114.new
    replace hH : Hp w.heap.size A101 w112 (obC b19 [.int .i64 z68.1.1] 25 :: obC b14 [.bool false] 4 :: obO D99 (.deferred (some [])) :: []) := hH113
    refine V_storeC (Dw := Dw) (off := 0) (ds := [.int .i64 0]) hH (i := 0) rfl Tryd.sizeOf25 rfl (Nat.le_of_ble_eq_true rfl) (by simp [Value.cells, Value.oneCell']) rfl hB hA rfl rfl ?_
    intro w115 hH116 ht117
    replace hK := Tr.trans (Dw := Dw) hK ht117
    replace hB := Nat.le_trans hB ht117.ex.size
    replace hA := ht117.new
    replace hH : Hp w.heap.size A101 w115 (obC b19 [.int .i64 0] 25 :: obC b14 [.bool false] 4 :: obO D99 (.deferred (some [])) :: []) := hH116
    refine V_to (fun _ _ => rfl) ?_
    obtain rfl := Option.some.inj hm
    have h118 := Hp.obj hH (i := 2) (b := D99) rfl
    obtain ⟨hH119, ht120⟩ := Hp.put (Dw := Dw) (.deferred none) hH (i := 2) (b := D99) rfl hB hA
    replace hK := Tr.trans (Dw := Dw) hK ht120
    replace hB := Nat.le_trans hB ht120.ex.size
    replace hA := ht120.new
    replace hH : Hp w.heap.size A101 (World.putObj w115 D99 (.deferred none)) (obC b19 [.int .i64 0] 25 :: obC b14 [.bool false] 4 :: obO D99 (.deferred none) :: []) := hH119
    refine C_ret ?_
    try simp only [↓inBlock_ret, ↓then_ret]
    exact retM1 rfl h118 (Res.l2 Tryd.results12 (RL.cell rfl (loadVar_one (Hp.cell (j := 0) hH (i := 1) rfl rfl) Tryd.isAgg4)) (RL.cell rfl (loadVar_one (Hp.cell (j := 0) hH (i := 0) rfl rfl) Tryd.isAgg25))) ⟨rfl, hK.kp⟩

end Go.Proofs.YtehofjchjogbkaaDoor.W
