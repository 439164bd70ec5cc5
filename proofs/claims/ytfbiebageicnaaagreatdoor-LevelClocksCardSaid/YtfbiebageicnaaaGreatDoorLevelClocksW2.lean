import Derived.Test.YtfbiebageicnaaaGreatDoorLevelClocksW1
namespace Go.Proofs.YtfbiebageicnaaaGreatDoor.W
open Go Go.RowKit Go.Pu Go.Gw Go.Proofs Go.Proofs.YtfbiebageicnaaaGreatDoor.M
set_option linter.unusedVariables false
set_option linter.unusedSimpArgs false
variable {Dw : Prop}
set_option maxRecDepth 4000 in
set_option maxHeartbeats 4000000 in
theorem level_keeper_begin_c (w : World) {A : Nat → Prop} {B : Nat} (hB : B ≤ w.heap.size) (hA : ∀ b, w.heap.size ≤ b → A b) (k_ : level_keeper) (b_k_ : Nat) (v_k_0 : Value) (h_k_0 : Sl A w v_k_0 k_.policy.pauses) (v_k_1 : Value) (h_k_1 : Sl A w v_k_1 k_.policy.levels) (v_k_2 : Value) (at_ : Int) (kind : Int) {L : List Ob} (hH : Hp B A w (obC b_k_ [v_k_0, v_k_1, .int .i64 k_.level, v_k_2] 38 :: obPS (ob_level_running) 44 v_k_2 k_.clocks :: L)) {r : level_keeper} (hm : level_keeper_begin k_ at_ kind = some r) : Ret Tryz.prog 61 #[.pointer (some ⟨b_k_, 0, none⟩), .int .i64 at_, .int .i64 kind] w fun v w' => ∃ u1_0, ∃ u1_1, ∃ u1_2, ∃ A1 : Nat → Prop, v = .tuple #[] ∧ Sl A1 w' u1_0 r.policy.pauses ∧ Sl A1 w' u1_1 r.policy.levels ∧ Hp B A1 w' (obC b_k_ [u1_0, u1_1, .int .i64 r.level, u1_2] 38 :: obPS (ob_level_running) 44 u1_2 r.clocks :: L) ∧ Tr Dw B A w A1 w' := by
 unfold level_keeper_begin at hm
 refine enter Tryz.func61 rfl Tryz.ntmps61 rfl ?_
 have hK : Tr Dw B A w A w := Tr.refl (Dw := Dw) hA
 refine C_seq ?_
 refine C_region ?_
 refine V_y (Y_move rfl) rfl rfl rfl ?_
 refine V_y (Y_move rfl) rfl rfl rfl ?_
 obtain ⟨x7, hx7, hm⟩ := Option.bind_eq_some_iff.1 hm
 refine V_call Tryz.call78 rfl rfl rfl rfl (level_keeper_target_c (Dw := Dw) w (A := fun _ => True) (fun _ _ => trivial) k_ b_k_ (Hp.el (α := level_keeper) (x := k_) hH (i := 0) rfl ⟨_, _, _, rfl, Hp.psOne (f := ob_level_running) (e := 44) (v := v_k_2) (cs := k_.clocks) hH (i := 1) rfl, (Sl.any h_k_0), (Sl.any h_k_1)⟩) kind hx7) ?_
 rintro _ w9 ⟨rfl, hk10⟩
 have ht11 := Kp.tr (Dw := Dw) hk10 hA hB
 replace hH := Hp.kp (Dw := Dw) hH hk10
 replace h_k_0 := Sl.tr (Dw := Dw) h_k_0 ht11
 replace h_k_1 := Sl.tr (Dw := Dw) h_k_1 ht11
 replace hK := Tr.trans (Dw := Dw) hK ht11
 replace hB := Nat.le_trans hB ht11.ex.size
 replace hA := ht11.new
 refine V_y (Y_move rfl) rfl rfl rfl ?_
 refine V_y (Y_extract rfl rfl) rfl rfl rfl ?_
 refine V_y (Y_extract rfl rfl) rfl rfl rfl ?_
 refine V_alloc Tryz.zeroValue49 rfl ?_
 intro b12 w13 h14
 refine V_storeNew h14 Tryz.sizeOf49 rfl rfl rfl rfl (by exact (List.forall_mem_cons.2 ⟨rfl, (List.forall_mem_cons.2 ⟨rfl, (List.forall_mem_cons.2 ⟨rfl, (fun _ h => nomatch h)⟩)⟩)⟩)) ?_
 intro w15 h16
 have hk18 := h16.kp (Dw := Dw)
 have h17 : El (α := level_Target) A w15 b12 0 x7.1 := h16.el hA ⟨[.int .i64 x7.1.kind], _, rfl, rfl, ⟨[.int .i64 x7.1.minutes], _, rfl, rfl, rfl⟩⟩
 have ht19 := Kp.tr (Dw := Dw) hk18 hA hB
 replace hH := Hp.kp (Dw := Dw) hH hk18
 replace h_k_0 := Sl.tr (Dw := Dw) h_k_0 ht19
 replace h_k_1 := Sl.tr (Dw := Dw) h_k_1 ht19
 replace hK := Tr.trans (Dw := Dw) hK ht19
 replace hB := Nat.le_trans hB ht19.ex.size
 replace hA := ht19.new
 refine V_y (Y_assign rfl) rfl rfl rfl ?_
 refine V_to (fun _ _ => rfl) ?_
 refine C_seq ?_
 refine C_seq ?_
 refine C_region ?_
 refine V_y (Y_move rfl) rfl rfl rfl ?_
 refine V_y (Y_not rfl) rfl rfl rfl ?_
 refine V_to (fun _ _ => rfl) ?_
 refine C_cond rfl (fun hc20 => ?_) (fun hc20 => ?_)
 ·rw [if_pos hc20] at hm
  obtain rfl := Option.some.inj hm
  refine C_ret ?_
  try simp only [↓inBlock_ret, ↓then_ret]
  exact retQ rfl (Res.zero Tryz.results61) ⟨v_k_0, v_k_1, v_k_2, A, rfl, h_k_0, h_k_1, hH, hK⟩
 ·rw [if_neg (nt hc20)] at hm
  refine C_skip_to (fun _ _ => rfl) ?_
  refine C_seq ?_
  refine C_region_qt (Dw := Dw) 11 Tryz_mixed (by kernel_rfl) ?_
  simp only [List.take, List.drop]
  refine VQ_y (fun w' hw' => Y_move rfl) rfl rfl rfl ?_
  refine VQ_y (fun w' hw' => Y_move rfl) rfl rfl rfl ?_
  refine VQ_y (fun w' hw' => Y_nilCheck rfl) rfl rfl rfl ?_
  refine VQ_y (fun w' hw' => Y_fieldAddrC (off2 := 2) Tryz.underlying38 rfl Tryz.sizeOf3 (by decide) rfl rfl) rfl rfl rfl ?_
  refine VQ_y (fun w' hw' => Y_load ((World.cell?_of_block (hw'.block _ (World.block_lt_of_cell? _ _ (Hp.cell (j := 2) hH (i := 0) rfl rfl)))).trans (Hp.cell (j := 2) hH (i := 0) rfl rfl)) Tryz.isAgg3 rfl) rfl rfl rfl ?_
  have h21 := El_level_Target_1 h17
  refine VQ_y (fun w' hw' => Y_fieldAddr Tryz.underlying49 rfl Tryz.sizeOf3 (by decide) rfl) rfl rfl rfl ?_
  refine VQ_y (fun w' hw' => Y_load (El.int (El.kp (Dw := Dw) h21 hw')) Tryz.isAgg3 rfl) rfl rfl rfl ?_
  refine VQ_y (fun w' hw' => Y_move rfl) rfl rfl rfl ?_
  refine VQ_y (fun w' hw' => Y_build Tryz.underlying47 Tryz.zeroValue47 (Tryz_places47 _ Tryz.underlying47) rfl (by with_unfolding_all rfl)) rfl rfl rfl ?_
  obtain ⟨h22, _⟩ := El_level_Target h17
  refine VQ_y (fun w' hw' => Y_loadA (At.kp (Dw := Dw) h22 hw' h17.2.1) Tryz.isAgg49 Tryz.sizeOf49 rfl) rfl rfl rfl ?_
  refine VQ_y (fun w' hw' => Y_build (cells := #[.int .i64 kind, .int .i64 k_.level, .int .i64 x7.1.minutes, .int .i64 at_, .int .i64 (-1), .int .i64 0, .slice none 0 0, .int .i64 x7.1.kind, .int .i64 x7.1.minutes, .int .i64 x7.1.calendar, .bool false]) Tryz.underlying51 Tryz.zeroValue51 (Tryz_places51 _ Tryz.underlying51) rfl (by generalize (x7.1.calendar : Int) = z23; generalize (x7.1.minutes : Int) = z24; generalize (x7.1.kind : Int) = z25; generalize (k_.level : Int) = z26; kernel_rfl)) rfl rfl rfl ?_
  refine VQ_tail (fun w27 hk28 => ?_)
  try simp only [List.take, List.drop]
  have ht29 := Kp.tr (Dw := Dw) hk28 hA hB
  replace hH := Hp.kp (Dw := Dw) hH hk28
  replace h_k_0 := Sl.tr (Dw := Dw) h_k_0 ht29
  replace h_k_1 := Sl.tr (Dw := Dw) h_k_1 ht29
  replace hK := Tr.trans (Dw := Dw) hK ht29
  replace hB := Nat.le_trans hB ht29.ex.size
  replace hA := ht29.new
  refine V_boxH (Dw := Dw) (B := B) hH rfl hB hA rfl ?_
  intro b30 w31 A32 hH33 ht34
  replace h_k_0 := Sl.tr (Dw := Dw) h_k_0 ht34
  replace h_k_1 := Sl.tr (Dw := Dw) h_k_1 ht34
  replace hK := Tr.trans (Dw := Dw) hK ht34
  replace hB := Nat.le_trans hB ht34.ex.size
  replace hA := ht34.new
  replace hH : Hp B A32 w31 (obC b30 [.int .i64 kind, .int .i64 k_.level, .int .i64 x7.1.minutes, .int .i64 at_, .int .i64 (-1), .int .i64 0, .slice none 0 0, .int .i64 x7.1.kind, .int .i64 x7.1.minutes, .int .i64 x7.1.calendar, .bool false] 51 :: obC b_k_ [v_k_0, v_k_1, .int .i64 k_.level, v_k_2] 38 :: obPS (ob_level_running) 44 v_k_2 k_.clocks :: L) := hH33
  refine V_y (Y_assign rfl) rfl rfl rfl ?_
  refine V_to (fun _ _ => rfl) ?_
  refine C_region ?_
  refine V_y (Y_move rfl) rfl rfl rfl ?_
  refine V_y (Y_move rfl) rfl rfl rfl ?_
  refine V_y (Y_nilCheck rfl) rfl rfl rfl ?_
  refine V_y (Y_fieldAddrC (off2 := 3) Tryz.underlying38 rfl Tryz.sizeOf36 (by decide) rfl rfl) rfl rfl rfl ?_
  refine V_y (Y_load (Hp.cell (j := 3) hH (i := 1) rfl rfl) Tryz.isAgg36 rfl) rfl rfl rfl ?_
  refine V_y (Y_move rfl) rfl rfl rfl ?_
  replace hH : Hp B A32 w31 (obS (α := level_Piece) 67 (.slice none 0 0) ([] : (List level_Piece)) :: obC b30 [.int .i64 kind, .int .i64 k_.level, .int .i64 x7.1.minutes, .int .i64 at_, .int .i64 (-1), .int .i64 0, .slice none 0 0, .int .i64 x7.1.kind, .int .i64 x7.1.minutes, .int .i64 x7.1.calendar, .bool false] 51 :: obC b_k_ [v_k_0, v_k_1, .int .i64 k_.level, v_k_2] 38 :: obPS (ob_level_running) 44 v_k_2 k_.clocks :: L) := Hp.addNil (α := level_Piece) (e := 67) hH
  replace hH : Hp B A32 w31 (obC b30 [.int .i64 kind, .int .i64 k_.level, .int .i64 x7.1.minutes, .int .i64 at_, .int .i64 (-1), .int .i64 0, .slice none 0 0, .int .i64 x7.1.kind, .int .i64 x7.1.minutes, .int .i64 x7.1.calendar, .bool false] 51 :: obS (α := level_Piece) 67 (.slice none 0 0) ([] : (List level_Piece)) :: obC b_k_ [v_k_0, v_k_1, .int .i64 k_.level, v_k_2] 38 :: obPS (ob_level_running) 44 v_k_2 k_.clocks :: L) := Hp.front hH (i := 1) rfl
  replace hH : Hp B A32 w31 (ob_level_running b30 (⟨(⟨kind, k_.level, x7.1.minutes, at_, (-1), 0, ([] : (List level_Piece))⟩ : level_Clock), x7.1, false⟩ : level_running) :: obC b_k_ [v_k_0, v_k_1, .int .i64 k_.level, v_k_2] 38 :: obPS (ob_level_running) 44 v_k_2 k_.clocks :: L) := Hp.pack (F := obF_level_running b30 (⟨(⟨kind, k_.level, x7.1.minutes, at_, (-1), 0, ([] : (List level_Piece))⟩ : level_Clock), x7.1, false⟩ : level_running)) (.slice none 0 0) hH
  refine V_buildSlice (Dw := Dw) (l := [(⟨b30⟩ : Ptr)]) (len := 1) Tryz.underlying36 Tryz.sizeOf44 Tryz.zeroValue44 rfl (by with_unfolding_all rfl) (by decide) (by decide) hA ⟨[.pointer (some ⟨b30, 0, none⟩)], _, rfl, rfl, rfl⟩ rfl rfl ?_
  intro v35 w36 hk38 h37
  have ht39 := Kp.tr (Dw := Dw) hk38 hA hB
  replace hH := Hp.kp (Dw := Dw) hH hk38
  replace h_k_0 := Sl.tr (Dw := Dw) h_k_0 ht39
  replace h_k_1 := Sl.tr (Dw := Dw) h_k_1 ht39
  replace hK := Tr.trans (Dw := Dw) hK ht39
  replace hB := Nat.le_trans hB ht39.ex.size
  replace hA := ht39.new
  obtain ⟨x40, hx40, hm⟩ := Option.bind_eq_some_iff.1 hm
  refine V_appendPS (Dw := Dw) (f := ob_level_running) (e := 44) (v := v_k_2) (cs := k_.clocks) (c := (⟨(⟨kind, k_.level, x7.1.minutes, at_, (-1), 0, ([] : (List level_Piece))⟩ : level_Clock), x7.1, false⟩ : level_running)) (ti := Tryz.t44) (bytes := 8) (lim := 17592186044416) hH (i := 1) rfl h37 hx40 Tryz.underlying36 Tryz_info44 rfl rfl rfl rfl (by decide) (by decide) hB hA rfl rfl rfl ?_
  intro v41 w42 A43 hH44 ht45
  replace h_k_0 := Sl.tr (Dw := Dw) h_k_0 ht45
  replace h_k_1 := Sl.tr (Dw := Dw) h_k_1 ht45
  replace hK := Tr.trans (Dw := Dw) hK ht45
  replace hB := Nat.le_trans hB ht45.ex.size
  replace hA := ht45.new
  replace hH : Hp B A43 w42 (obC b_k_ [v_k_0, v_k_1, .int .i64 k_.level, v_k_2] 38 :: obPS (ob_level_running) 44 v41 x40 :: L) := hH44
  refine V_y (Y_nilCheck rfl) rfl rfl rfl ?_
  refine V_y (Y_fieldAddrC (off2 := 3) Tryz.underlying38 rfl Tryz.sizeOf36 (by decide) rfl rfl) rfl rfl rfl ?_
  have h51 : (v41).oneCell' = true := Hp.psOne (f := ob_level_running) (e := 44) (v := v41) (cs := x40) hH (i := 1) rfl
  refine V_storeC (Dw := Dw) (off := 3) (ds := [v_k_0, v_k_1, .int .i64 k_.level, v41]) hH (i := 0) rfl Tryz.sizeOf36 (by rw [← Array.length_toList, Value.cells_one h51]; rfl) (Nat.le_of_ble_eq_true rfl) (by intro u hu; rw [Value.cells_one h51] at hu; simp at hu; subst hu; assumption) (by rw [Value.cells_one h51]; rfl) hB hA rfl rfl ?_
  intro w46 hH47 ht48
  replace h_k_0 := Sl.tr (Dw := Dw) h_k_0 ht48
  replace h_k_1 := Sl.tr (Dw := Dw) h_k_1 ht48
  replace hK := Tr.trans (Dw := Dw) hK ht48
  replace hH : Hp B A43 w46 (obC b_k_ [v_k_0, v_k_1, .int .i64 k_.level, v41] 38 :: obPS (ob_level_running) 44 v41 x40 :: L) := hH47
  refine V_end (fun a ha52 => ?_)
  obtain rfl := Option.some.inj hm
  try simp only [↓inBlock_ret, ↓then_ret]
  exact normQ (retQ rfl (Res.zero Tryz.results61) ⟨v_k_0, v_k_1, v41, A43, rfl, h_k_0, h_k_1, hH, hK⟩ a ha52)
set_option maxRecDepth 4000 in
set_option maxHeartbeats 4000000 in
theorem slices_Index_Lint_int_c (w : World) {A : Nat → Prop} (s : (List Int)) (v_s : Value) (h_s : Sl A w v_s s) (v : Int) {r : Int} (hm : slices_Index_Lint_int s v = some r) : Ret Tryz.prog 68 #[v_s, .int .i64 v] w fun v w' => v = .int .i64 r ∧ w = w' := by
 unfold slices_Index_Lint_int at hm
 refine enter Tryz.func68 rfl Tryz.ntmps68 rfl ?_
 refine C_seq ?_
 refine C_region ?_
 refine V_y (Y_assign rfl) rfl rfl rfl ?_
 refine V_to (fun _ _ => rfl) ?_
 refine C_seq ?_
 refine C_seq ?_
 refine C_region ?_
 refine V_y (Y_move rfl) rfl rfl rfl ?_
 refine V_y (Y_lenSl h_s rfl Tryz.underlying22 rfl) rfl rfl rfl ?_
 refine V_y (Y_move rfl) rfl rfl rfl ?_
 refine V_to (fun _ _ => rfl) ?_
 have hn19 := Sl.le h_s
 obtain ⟨o3, ho3, hm⟩ := Option.bind_eq_some_iff.1 hm
 refine C_cutG (ι := Unit) (fun (s4 : Unit) => []) (fun (s4 : Unit) => fun w' => o3 = .fin s4 ∧ w = w') ?_ ?_
 ·refine C_block ?_
  refine C_range ho3 (fun k6 _ a w' => ∃ i : Unit, Has ⟨19, [], none⟩ a ([(0, v_s), (1, .int .i64 v), (7, .int .i64 (s.length : Int)), (8, .int .i64 (k6 : Int))]) ∧ w = w') (fun a ha => ⟨(), ha.sub ⟨rfl, rfl, rfl, rfl, trivial⟩, rfl⟩) ?_
  rintro K k6 _ a _ ⟨_, ha28, rfl⟩ hle15 K18 h17
  refine C_of ?_ ha28
  refine C_seq (C_region (V_y (Y_lss rfl rfl) rfl rfl rfl (V_to (fun _ _ => rfl) ?_)))
  refine C_seq ?_
  refine C_cond rfl (fun hc20 => ?_) (fun hc20 => ?_)
  ·have hlt16 := lt_of_dec hc20
   obtain ⟨x12, h13, h14⟩ := K18 hlt16
   refine C_skip_to (fun _ _ => rfl) ?_
   refine C_seq ?_
   refine C_block ?_
   refine C_seq ?_
   refine C_region ?_
   refine V_y (Y_move rfl) rfl rfl rfl ?_
   refine V_y (Y_assign rfl) rfl rfl rfl ?_
   refine V_to (fun _ _ => rfl) ?_
   refine C_seq ?_
   refine C_region ?_
   refine V_y (Y_move rfl) rfl rfl rfl ?_
   refine V_y (Y_move rfl) rfl rfl rfl ?_
   refine V_y (Y_move rfl) rfl rfl rfl ?_
   obtain ⟨x21, hx21, h13⟩ := Option.bind_eq_some_iff.1 h13
   refine V_indexAddr h_s hx21 Tryz.underlying22 Tryz.sizeOf3 rfl rfl rfl ?_
   intro b22 o23 h24
   refine V_y (Y_load (El.int h24) Tryz.isAgg3 rfl) rfl rfl rfl ?_
   refine V_y (Y_eql rfl rfl) rfl rfl rfl ?_
   refine V_to (fun _ _ => rfl) ?_
   refine C_cond rfl (fun hc25 => ?_) (fun hc25 => ?_)
   ·rw [if_pos hc25] at h13
    refine C_seq ?_
    refine C_region ?_
    refine V_y (Y_move rfl) rfl rfl rfl ?_
    refine V_y (Y_assign rfl) rfl rfl rfl ?_
    refine V_to (fun _ _ => rfl) ?_
    obtain rfl := Option.some.inj h13
    obtain rfl := (h14 : Lp.rt _ = _)
    rw [Lp.andThen_rt] at hm
    obtain rfl := Option.some.inj hm
    refine C_ret ?_
    try simp only [↓inBlock_ret, ↓then_ret]
    exact retQ rfl (Res.one Tryz.results68 rfl) ⟨rfl, rfl⟩
   ·rw [if_neg (nt hc25)] at h13
    refine C_skip_to (fun _ _ => rfl) ?_
    refine C_region ?_
    refine V_y (Y_addI rfl rfl) rfl rfl rfl ?_
    refine V_y (Y_move rfl) rfl rfl rfl ?_
    obtain rfl := Option.some.inj h13
    refine V_end (fun a ha26 => ?_)
    exact ⟨(), hlt16, h14, ⟨(), ha26.sub ⟨rfl, rfl, rfl, (congrArg (fun z => some (Value.int .i64 z)) (w64_succ hlt16 hn19)), trivial⟩, rfl⟩⟩
  ·refine C_exit (fun a ha27 => ?_)
   exact ⟨(), ha27.sub trivial, ⟨(h17 (eq_of_dec hle15 hc20)).symm, rfl⟩⟩
 rintro s4 _ ⟨rfl, rfl⟩ a ha9
 rw [Lp.andThen_fin] at hm
 refine C_at (n := ⟨19, [], none⟩) (fun _ _ => rfl) ?_ ha9
 refine C_seq ?_
 refine C_region ?_
 refine V_y (Y_assign rfl) rfl rfl rfl ?_
 refine V_to (fun _ _ => rfl) ?_
 obtain rfl := Option.some.inj hm
 refine C_ret ?_
 try simp only [↓inBlock_ret, ↓then_ret]
 exact retQ rfl (Res.one Tryz.results68 rfl) ⟨rfl, rfl⟩
set_option maxRecDepth 4000 in
set_option maxHeartbeats 4000000 in
theorem slices_Contains_Lint_int_c (w : World) {A : Nat → Prop} (s : (List Int)) (v_s : Value) (h_s : Sl A w v_s s) (v : Int) {r : Bool} (hm : slices_Contains_Lint_int s v = some r) : Ret Tryz.prog 15 #[v_s, .int .i64 v] w fun v w' => v = .bool r ∧ w = w' := by
 unfold slices_Contains_Lint_int at hm
 refine enter Tryz.func15 rfl Tryz.ntmps15 rfl ?_
 refine C_seq ?_
 refine C_region ?_
 refine V_y (Y_assign rfl) rfl rfl rfl ?_
 refine V_to (fun _ _ => rfl) ?_
 refine C_seq ?_
 refine C_region ?_
 refine V_y (Y_move rfl) rfl rfl rfl ?_
 refine V_y (Y_move rfl) rfl rfl rfl ?_
 obtain ⟨x3, hx3, hm⟩ := Option.bind_eq_some_iff.1 hm
 refine V_call Tryz.call68 rfl rfl rfl rfl (slices_Index_Lint_int_c w s v_s h_s v hx3) ?_
 rintro _ _ ⟨rfl, rfl⟩
 refine V_y (Y_geq rfl rfl) rfl rfl rfl ?_
 refine V_y (Y_assign rfl) rfl rfl rfl ?_
 refine V_to (fun _ _ => rfl) ?_
 obtain rfl := Option.some.inj hm
 refine C_ret ?_
 try simp only [↓inBlock_ret, ↓then_ret]
 exact retQ rfl (Res.one Tryz.results15 rfl) ⟨rfl, rfl⟩
set_option maxRecDepth 4000 in
set_option maxHeartbeats 4000000 in
theorem level_keeper_runs_1_c (w : World) {A : Nat → Prop} (hA : ∀ b, w.heap.size ≤ b → A b) (r_ : level_running) (b_r_ : Nat) (h_r_ : El A w b_r_ 0 r_) (p1 : (List Int)) (b_p1 : Nat) (h_p1 : El A w b_p1 0 p1) {r : Bool} (hm : level_keeper_runs_1 r_ p1 = some r) : Ret Tryz.prog 80 #[.pointer (some ⟨b_r_, 0, none⟩), .pointer (some ⟨b_p1, 0, none⟩)] w fun v w' => v = .bool r ∧ Kp Dw w w' := by
 unfold level_keeper_runs_1 at hm
 refine enter Tryz.func80 rfl Tryz.ntmps80 rfl ?_
 have hA0 := hA
 have hB := Nat.le_refl w.heap.size
 have hK : Tr Dw w.heap.size A w A w := Tr.refl (Dw := Dw) hA
 have hH : Hp w.heap.size A w [] := Hp.nil
 refine C_seq ?_
 refine C_region ?_
 refine V_y (Y_assign rfl) rfl rfl rfl ?_
 refine V_to (fun _ _ => rfl) ?_
 refine C_seq ?_
 refine C_region_q (Dw := Dw) Tryz_mixed (by kernel_rfl) ?_
 refine VQ_y (fun w' hw' => Y_move rfl) rfl rfl rfl ?_
 refine VQ_y (fun w' hw' => Y_nilCheck rfl) rfl rfl rfl ?_
 have h1 := El_level_running_0 h_r_
 refine VQ_y (fun w' hw' => Y_fieldAddr Tryz.underlying51 rfl Tryz.sizeOf47 (by decide) rfl) rfl rfl rfl ?_
 have h2 := El_level_Clock_5 h1
 refine VQ_y (fun w' hw' => Y_fieldAddr Tryz.underlying47 rfl Tryz.sizeOf3 (by decide) rfl) rfl rfl rfl ?_
 refine VQ_y (fun w' hw' => Y_load (El.int (El.kp (Dw := Dw) h2 hw')) Tryz.isAgg3 rfl) rfl rfl rfl ?_
 refine VQ_y (fun w' hw' => Y_eql rfl rfl) rfl rfl rfl ?_
 refine VQ_y (fun w' hw' => Y_move rfl) rfl rfl rfl ?_
 obtain ⟨s4, hs4, hm⟩ := Option.bind_eq_some_iff.1 hm
 refine VQ_cut 8 (fun _ : Unit => [(18, .bool s4)]) (fun _ => True) ?_ ?_
 ·simp only [List.take, List.drop]
  rcases Bool.eq_false_or_eq_true (r_.clock.end_ == 0) with hc3 | hc3
  ·rw [if_pos hc3] at hs4
   refine VQ_ge rfl rfl rfl hc3 ?_
   obtain ⟨v5, h6, h7⟩ := El.list h_p1
   refine VQ_y (fun w' hw' => Y_load ((World.cell?_of_block (hw'.block _ (World.block_lt_of_cell? _ _ h6))).trans h6) Tryz.isAgg22 rfl) rfl rfl rfl ?_
   refine VQ_ge rfl rfl rfl hc3 ?_
   refine VQ_y (fun w' hw' => Y_move rfl) rfl rfl rfl ?_
   refine VQ_ge rfl rfl rfl hc3 ?_
   refine VQ_y (fun w' hw' => Y_nilCheck rfl) rfl rfl rfl ?_
   refine VQ_ge rfl rfl rfl hc3 ?_
   have h8 := El_level_running_0 h_r_
   refine VQ_y (fun w' hw' => Y_fieldAddr Tryz.underlying51 rfl Tryz.sizeOf47 (by decide) rfl) rfl rfl rfl ?_
   refine VQ_ge rfl rfl rfl hc3 ?_
   have h9 := El_level_Clock_0 h8
   refine VQ_y (fun w' hw' => Y_fieldAddr Tryz.underlying47 rfl Tryz.sizeOf3 (by decide) rfl) rfl rfl rfl ?_
   refine VQ_ge rfl rfl rfl hc3 ?_
   refine VQ_y (fun w' hw' => Y_load (El.int (El.kp (Dw := Dw) h9 hw')) Tryz.isAgg3 rfl) rfl rfl rfl ?_
   refine VQ_ge rfl rfl rfl hc3 ?_
   obtain ⟨x10, hx10, hs4⟩ := Option.bind_eq_some_iff.1 hs4
   refine VQ_call (.bool x10) Tryz.call15 rfl rfl rfl rfl (fun w' hw' => (slices_Contains_Lint_int_c w' p1 v5 (Sl.kp (Dw := Dw) h7 hw') r_.clock.kind hx10).mono (fun _ _ h => ⟨h.1, h.2 ▸ hw'⟩)) ?_
   refine VQ_y (fun _ _ => Y_pick_te rfl hc3 rfl) rfl rfl rfl ?_
   obtain rfl := Option.some.inj hs4
   exact VQ_end fun a ha => ⟨(), ha.sub ⟨rfl, trivial⟩, trivial⟩
  ·rw [if_neg (nt hc3)] at hs4
   refine VQ_gn rfl rfl rfl hc3 rfl rfl rfl ?_
   refine VQ_gn rfl rfl rfl hc3 rfl rfl rfl ?_
   refine VQ_gn rfl rfl rfl hc3 rfl rfl rfl ?_
   refine VQ_gn rfl rfl rfl hc3 rfl rfl rfl ?_
   refine VQ_gn rfl rfl rfl hc3 rfl rfl rfl ?_
   refine VQ_gn rfl rfl rfl hc3 rfl rfl rfl ?_
   refine VQ_gn rfl rfl rfl hc3 rfl rfl rfl ?_
   refine VQ_y (fun _ _ => Y_pick_fe rfl hc3 rfl) rfl rfl rfl ?_
   obtain rfl := Option.some.inj hs4
   exact VQ_end fun a ha => ⟨(), ha.sub ⟨rfl, trivial⟩, trivial⟩
 simp only [List.take, List.drop]
 rintro _ _
 refine VQ_y (fun w' hw' => Y_assign rfl) rfl rfl rfl ?_
 refine VQ_to (fun _ _ => rfl) (fun w11 hk12 => ?_)
 have ht13 := Kp.tr (Dw := Dw) hk12 hA hB
 replace hK := Tr.trans (Dw := Dw) hK ht13
 obtain rfl := Option.some.inj hm
 refine C_ret ?_
 try simp only [↓inBlock_ret, ↓then_ret]
 exact retQ rfl (Res.one Tryz.results80 rfl) ⟨rfl, hK.kp⟩
set_option maxRecDepth 4000 in
set_option maxHeartbeats 4000000 in
theorem slices_IndexFunc_L_level_running_level_running_c (w : World) (cs : List level_running) (ps : List Ptr) (v_s : Value) (h_s : Sl (fun _ => True) w v_s ps) (hl : ps.length = cs.length) (hel : PtrEl w ps cs) (f : level_running → Option Bool) (f_f : FuncId) (f_a f_c : Array Value) (f_call : ∀ (args : Array Value) (w : World), (callFunc f_f args).run Tryz.prog w = .ok (.enter f_f args) w) (f_spec : ∀ (w1 : World), Kp Dw w w1 → ∀ (b : Nat) (y0 : level_running), El (fun _ => True) w1 b 0 y0 → ∀ (r : Bool), f y0 = some r → Ret Tryz.prog f_f (f_a ++ #[.pointer (some ⟨b, 0, none⟩)] ++ f_c) w1 fun v w' => v = .bool r ∧ Kp Dw w1 w') {r : Int} (hm : slices_IndexFunc_L_level_running_level_running cs f = some r) : Ret Tryz.prog 86 #[v_s, .func (.func f_f) f_a f_c] w fun v w' => v = .int .i64 r ∧ Kp Dw w w' := by
 unfold slices_IndexFunc_L_level_running_level_running at hm
 refine enter Tryz.func86 rfl Tryz.ntmps86 rfl ?_
 refine C_seq ?_
 refine C_region ?_
 refine V_y (Y_assign rfl) rfl rfl rfl ?_
 refine V_to (fun _ _ => rfl) ?_
 refine C_seq ?_
 refine C_seq ?_
 refine C_region ?_
 refine V_y (Y_move rfl) rfl rfl rfl ?_
 refine V_y (Y_lenSl h_s rfl Tryz.underlying36 rfl) rfl rfl rfl ?_
 refine V_y (Y_move rfl) rfl rfl rfl ?_
 refine V_to (fun _ _ => rfl) ?_
 have hn23 : cs.length ≤ maxLen := hl ▸ Sl.le h_s
 have hv7 : (some (Value.int .i64 (ps.length : Int))) = some (Value.int .i64 (cs.length : Int)) := by rw [hl]
 obtain ⟨o3, ho3, hm⟩ := Option.bind_eq_some_iff.1 hm
 refine C_cutG (ι := Unit) (fun (s4 : Unit) => []) (fun (s4 : Unit) => fun w' => o3 = .fin s4 ∧ Kp Dw w w') ?_ ?_
 ·refine C_block ?_
  refine C_range ho3 (fun k6 _ a w' => ∃ i : Unit, Has ⟨19, [], none⟩ a ([(0, v_s), (1, .func (.func f_f) f_a f_c), (7, .int .i64 (cs.length : Int)), (8, .int .i64 (k6 : Int))]) ∧ Kp Dw w w') (fun a ha => ⟨(), ha.sub ⟨rfl, rfl, hv7, rfl, trivial⟩, Kp.refl (Dw := Dw) _⟩) ?_
  rintro K k6 _ a w13 ⟨_, ha41, hk0⟩ hle19 K22 h21
  refine C_of ?_ ha41
  refine C_seq (C_region (V_y (Y_lss rfl rfl) rfl rfl rfl (V_to (fun _ _ => rfl) ?_)))
  refine C_seq ?_
  refine C_cond rfl (fun hc24 => ?_) (fun hc24 => ?_)
  ·have hlt20 := lt_of_dec hc24
   obtain ⟨x16, h17, h18⟩ := K22 hlt20
   refine C_skip_to (fun _ _ => rfl) ?_
   refine C_seq ?_
   refine C_block ?_
   refine C_seq ?_
   refine C_region ?_
   refine V_y (Y_move rfl) rfl rfl rfl ?_
   refine V_y (Y_assign rfl) rfl rfl rfl ?_
   refine V_to (fun _ _ => rfl) ?_
   refine C_seq ?_
   refine C_region ?_
   refine V_y (Y_move rfl) rfl rfl rfl ?_
   refine V_y (Y_move rfl) rfl rfl rfl ?_
   refine V_y (Y_move rfl) rfl rfl rfl ?_
   obtain ⟨x25, hx25, h17⟩ := Option.bind_eq_some_iff.1 h17
   have hcx : cs[k6]? = some x25 := by
    have := (idx_some hx25).2.2
    rwa [Int.toNat_natCast] at this
   have hpl : k6 < ps.length := by omega
   have hpx : ps[k6]? = some ps[k6] := List.getElem?_eq_getElem hpl
   have hpi : idx ps (k6 : Int) = some ps[k6] := by
    unfold idx
    rw [if_pos (by omega), Int.toNat_natCast]
    exact hpx
   refine V_indexAddr (Sl.kp (Dw := Dw) h_s hk0) hpi Tryz.underlying36 Tryz.sizeOf44 rfl rfl rfl ?_
   intro b26 o27 h28
   refine V_y (Y_load h28.ptr Tryz.isAgg44 rfl) rfl rfl rfl ?_
   obtain ⟨x34, hx34, h17⟩ := Option.bind_eq_some_iff.1 h17
   refine V_call f_call rfl rfl rfl rfl (f_spec w13 hk0 _ x25 (El.kp (Dw := Dw) (hel k6 _ x25 hpx hcx) hk0) _ hx34) ?_
   rintro _ w35 ⟨rfl, hk36⟩
   replace hk0 := Kp.trans (Dw := Dw) hk0 hk36
   refine V_to (fun _ _ => rfl) ?_
   refine C_cond rfl (fun hc38 => ?_) (fun hc38 => ?_)
   ·rw [if_pos hc38] at h17
    refine C_seq ?_
    refine C_region ?_
    refine V_y (Y_move rfl) rfl rfl rfl ?_
    refine V_y (Y_assign rfl) rfl rfl rfl ?_
    refine V_to (fun _ _ => rfl) ?_
    obtain rfl := Option.some.inj h17
    obtain rfl := (h18 : Lp.rt _ = _)
    rw [Lp.andThen_rt] at hm
    obtain rfl := Option.some.inj hm
    refine C_ret ?_
    try simp only [↓inBlock_ret, ↓then_ret]
    exact retQ rfl (Res.one Tryz.results86 rfl) ⟨rfl, hk0⟩
   ·rw [if_neg (nt hc38)] at h17
    refine C_skip_to (fun _ _ => rfl) ?_
    refine C_region ?_
    refine V_y (Y_addI rfl rfl) rfl rfl rfl ?_
    refine V_y (Y_move rfl) rfl rfl rfl ?_
    obtain rfl := Option.some.inj h17
    refine V_end (fun a ha39 => ?_)
    exact ⟨(), hlt20, h18, ⟨(), ha39.sub ⟨rfl, rfl, rfl, (congrArg (fun z => some (Value.int .i64 z)) (w64_succ hlt20 hn23)), trivial⟩, hk0⟩⟩
  ·refine C_exit (fun a ha40 => ?_)
   exact ⟨(), ha40.sub trivial, ⟨(h21 (eq_of_dec hle19 hc24)).symm, hk0⟩⟩
 rintro s4 w7 ⟨rfl, hk0⟩ a ha9
 rw [Lp.andThen_fin] at hm
 refine C_at (n := ⟨19, [], none⟩) (fun _ _ => rfl) ?_ ha9
 refine C_seq ?_
 refine C_region ?_
 refine V_y (Y_assign rfl) rfl rfl rfl ?_
 refine V_to (fun _ _ => rfl) ?_
 obtain rfl := Option.some.inj hm
 refine C_ret ?_
 try simp only [↓inBlock_ret, ↓then_ret]
 exact retQ rfl (Res.one Tryz.results86 rfl) ⟨rfl, hk0⟩
set_option maxRecDepth 4000 in
set_option maxHeartbeats 4000000 in
theorem slices_ContainsFunc_L_level_running_level_running_c (w : World) (cs : List level_running) (ps : List Ptr) (v_s : Value) (h_s : Sl (fun _ => True) w v_s ps) (hl : ps.length = cs.length) (hel : PtrEl w ps cs) (f : level_running → Option Bool) (f_f : FuncId) (f_a f_c : Array Value) (f_call : ∀ (args : Array Value) (w : World), (callFunc f_f args).run Tryz.prog w = .ok (.enter f_f args) w) (f_spec : ∀ (w1 : World), Kp Dw w w1 → ∀ (b : Nat) (y0 : level_running), El (fun _ => True) w1 b 0 y0 → ∀ (r : Bool), f y0 = some r → Ret Tryz.prog f_f (f_a ++ #[.pointer (some ⟨b, 0, none⟩)] ++ f_c) w1 fun v w' => v = .bool r ∧ Kp Dw w1 w') {r : Bool} (hm : slices_ContainsFunc_L_level_running_level_running cs f = some r) : Ret Tryz.prog 79 #[v_s, .func (.func f_f) f_a f_c] w fun v w' => v = .bool r ∧ Kp Dw w w' := by
 unfold slices_ContainsFunc_L_level_running_level_running at hm
 refine enter Tryz.func79 rfl Tryz.ntmps79 rfl ?_
 refine C_seq ?_
 refine C_region ?_
 refine V_y (Y_assign rfl) rfl rfl rfl ?_
 refine V_to (fun _ _ => rfl) ?_
 refine C_seq ?_
 refine C_region ?_
 refine V_y (Y_move rfl) rfl rfl rfl ?_
 refine V_y (Y_move rfl) rfl rfl rfl ?_
 obtain ⟨x3, hx3, hm⟩ := Option.bind_eq_some_iff.1 hm
 refine V_call Tryz.call86 rfl rfl rfl rfl (slices_IndexFunc_L_level_running_level_running_c w cs ps v_s h_s hl hel f f_f f_a f_c f_call f_spec hx3) ?_
 rintro _ w4 ⟨rfl, hk5⟩
 refine V_y (Y_geq rfl rfl) rfl rfl rfl ?_
 refine V_y (Y_assign rfl) rfl rfl rfl ?_
 refine V_to (fun _ _ => rfl) ?_
 obtain rfl := Option.some.inj hm
 refine C_ret ?_
 try simp only [↓inBlock_ret, ↓then_ret]
 exact retQ rfl (Res.one Tryz.results79 rfl) ⟨rfl, hk5⟩
set_option maxRecDepth 4000 in
set_option maxHeartbeats 4000000 in
theorem level_keeper_runs_c (w : World) {A : Nat → Prop} {B : Nat} (hB : B ≤ w.heap.size) (hA : ∀ b, w.heap.size ≤ b → A b) (k_ : level_keeper) (b_k_ : Nat) (v_k_0 : Value) (h_k_0 : Sl A w v_k_0 k_.policy.pauses) (v_k_1 : Value) (h_k_1 : Sl A w v_k_1 k_.policy.levels) (v_k_2 : Value) (kinds : List Int) (v_kinds : Value) (h_kinds : Sl A w v_kinds kinds) {L : List Ob} (hH : Hp B A w (obC b_k_ [v_k_0, v_k_1, .int .i64 k_.level, v_k_2] 38 :: obPS (ob_level_running) 44 v_k_2 k_.clocks :: L)) {r : Bool} (hm : level_keeper_runs k_ kinds = some r) : Ret Tryz.prog 62 #[.pointer (some ⟨b_k_, 0, none⟩), v_kinds] w fun v w' => ∃ A1 : Nat → Prop, v = .bool r ∧ Hp B A1 w' (obC b_k_ [v_k_0, v_k_1, .int .i64 k_.level, v_k_2] 38 :: obPS (ob_level_running) 44 v_k_2 k_.clocks :: L) ∧ Tr Dw B A w A1 w' := by
 unfold level_keeper_runs at hm
 refine enter Tryz.func62 rfl Tryz.ntmps62 rfl ?_
 refine C_seq ?_
 refine C_region ?_
 refine V_box rfl rfl ?_
 intro b14 w15 h16
 have h27 : (v_kinds).oneCell' = true := by obtain ⟨_, _, e, _⟩ := Sl.form h_kinds; rw [e]; rfl
 have hk24 : Kp Dw w w15 := h16.kp
 have h23 : El (α := List Int) (fun _ => True) w15 b14 0 kinds := h16.el (fun _ _ => trivial) (by rw [Value.cells_one h27]; exact ⟨_, rfl, h_kinds.any⟩)
 have hH1 := Hp.kp (Dw := Dw) hH hk24
 obtain ⟨ps, hl, hs, hel⟩ := Hp.psEls (f := ob_level_running) (e := 44) (v := v_k_2) (cs := k_.clocks) hH1 (i := 1) rfl (fun b c L' h => obEl_level_running h)
 refine V_y (Y_assign rfl) rfl rfl rfl ?_
 refine V_to (fun _ _ => rfl) ?_
 refine C_seq ?_
 refine C_region ?_
 refine V_y (Y_move rfl) rfl rfl rfl ?_
 refine V_y (Y_nilCheck rfl) rfl rfl rfl ?_
 refine V_y (Y_fieldAddrC (off2 := 3) Tryz.underlying38 rfl Tryz.sizeOf36 (by decide) rfl rfl) rfl rfl rfl ?_
 refine V_y (Y_load (Hp.cell (j := 3) hH1 (i := 0) rfl rfl) Tryz.isAgg36 rfl) rfl rfl rfl ?_
 refine V_y (Y_makeFunc rfl rfl) rfl rfl rfl ?_
 obtain ⟨x6, hx6, hm⟩ := Option.bind_eq_some_iff.1 hm
 refine V_call Tryz.call79 rfl rfl rfl rfl (slices_ContainsFunc_L_level_running_level_running_c (Dw := Dw) w15 k_.clocks ps v_k_2 hs hl hel (fun y => level_keeper_runs_1 y kinds) 80 #[] #[.pointer (some ⟨b14, 0, none⟩)] Tryz.call80 (fun w1 hk b y hy r hr => level_keeper_runs_1_c (Dw := Dw) w1 (A := fun _ => True) (fun _ _ => trivial) y b hy kinds b14 (El.kp (Dw := Dw) h23 hk) hr) hx6) ?_
 rintro _ w2 ⟨rfl, hk2⟩
 refine V_y (Y_assign rfl) rfl rfl rfl ?_
 refine V_to (fun _ _ => rfl) ?_
 obtain rfl := Option.some.inj hm
 have hk3 := Kp.trans (Dw := Dw) hk24 hk2
 refine C_ret ?_
 try simp only [↓inBlock_ret, ↓then_ret]
 exact retQ rfl (Res.one Tryz.results62 rfl) ⟨A, rfl, Hp.kp (Dw := Dw) hH hk3, Kp.tr (Dw := Dw) hk3 hA hB⟩
set_option maxRecDepth 4000 in
set_option maxHeartbeats 4000000 in
theorem level_keeper_point_2_c (w : World) {A : Nat → Prop} {B : Nat} (hB : B ≤ w.heap.size) (hA : ∀ b, w.heap.size ≤ b → A b) (r_ : level_running) (b_r_ : Nat) (v_r_ : Value) (p1 : Bool) (b_p1 : Nat) (h_p1 : El A w b_p1 0 p1) (p2 : level_Point) (b_p2 : Nat) (h_p2 : El A w b_p2 0 p2) {L : List Ob} (hH : Hp B A w (obC b_r_ [.int .i64 r_.clock.kind, .int .i64 r_.clock.level, .int .i64 r_.clock.minutes, .int .i64 r_.clock.start, .int .i64 r_.clock.stop, .int .i64 r_.clock.end_, v_r_, .int .i64 r_.target.kind, .int .i64 r_.target.minutes, .int .i64 r_.target.calendar, .bool r_.goes] 51 :: obS (α := level_Piece) 67 v_r_ r_.clock.pieces :: L)) {r : level_running} (hm : level_keeper_point_2 r_ p1 p2 = some r) : Ret Tryz.prog 63 #[.pointer (some ⟨b_r_, 0, none⟩), .pointer (some ⟨b_p1, 0, none⟩), .pointer (some ⟨b_p2, 0, none⟩)] w fun v w' => ∃ u1_0, ∃ A1 : Nat → Prop, v = .tuple #[] ∧ Hp B A1 w' (obC b_r_ [.int .i64 r.clock.kind, .int .i64 r.clock.level, .int .i64 r.clock.minutes, .int .i64 r.clock.start, .int .i64 r.clock.stop, .int .i64 r.clock.end_, u1_0, .int .i64 r.target.kind, .int .i64 r.target.minutes, .int .i64 r.target.calendar, .bool r.goes] 51 :: obS (α := level_Piece) 67 u1_0 r.clock.pieces :: L) ∧ Tr Dw B A w A1 w' := by
 unfold level_keeper_point_2 at hm
 refine enter Tryz.func63 rfl Tryz.ntmps63 rfl ?_
 have hK : Tr Dw B A w A w := Tr.refl (Dw := Dw) hA
 refine C_seq ?_
 refine C_region ?_
 refine V_y (Y_load (El.bool h_p1) Tryz.isAgg4 rfl) rfl rfl rfl ?_
 refine V_to (fun _ _ => rfl) ?_
 obtain ⟨s4, ho3, hm⟩ := Option.bind_eq_some_iff.1 hm
 refine C_cutG (ι := (Value × (Nat → Prop))) (fun ⟨v6, A12⟩ => []) (fun ⟨v6, A12⟩ => fun w' => Hp B A12 w' (obC b_r_ [.int .i64 s4.clock.kind, .int .i64 s4.clock.level, .int .i64 s4.clock.minutes, .int .i64 s4.clock.start, .int .i64 s4.clock.stop, .int .i64 s4.clock.end_, v6, .int .i64 s4.target.kind, .int .i64 s4.target.minutes, .int .i64 s4.target.calendar, .bool s4.goes] 51 :: obS (α := level_Piece) 67 v6 s4.clock.pieces :: L) ∧ Tr Dw B A w A12 w') ?_ ?_
 ·have hr5 : Tr Dw B A w A w := Tr.refl (Dw := Dw) hA
  refine C_cond rfl (fun hc14 => ?_) (fun hc14 => ?_)
  ·rw [if_pos hc14] at ho3
   refine C_region ?_
   refine V_y (Y_move rfl) rfl rfl rfl ?_
   have h15 := El_level_Point_0 h_p2
   refine V_y (Y_fieldAddr Tryz.underlying41 rfl Tryz.sizeOf3 (by decide) rfl) rfl rfl rfl ?_
   refine V_y (Y_load (El.int h15) Tryz.isAgg3 rfl) rfl rfl rfl ?_
   replace hH : Hp B A w (obS (α := level_Piece) 67 v_r_ r_.clock.pieces :: obC b_r_ [.int .i64 r_.clock.kind, .int .i64 r_.clock.level, .int .i64 r_.clock.minutes, .int .i64 r_.clock.start, .int .i64 r_.clock.stop, .int .i64 r_.clock.end_, v_r_, .int .i64 r_.target.kind, .int .i64 r_.target.minutes, .int .i64 r_.target.calendar, .bool r_.goes] 51 :: L) := Hp.front hH (i := 1) rfl
   replace hH : Hp B A w (obC b_r_ [.int .i64 r_.clock.kind, .int .i64 r_.clock.level, .int .i64 r_.clock.minutes, .int .i64 r_.clock.start, .int .i64 r_.clock.stop, .int .i64 r_.clock.end_, v_r_, .int .i64 r_.target.kind, .int .i64 r_.target.minutes, .int .i64 r_.target.calendar, .bool r_.goes] 51 :: obS (α := level_Piece) 67 v_r_ r_.clock.pieces :: L) := Hp.front hH (i := 1) rfl
   obtain ⟨x16, hx16, ho3⟩ := Option.bind_eq_some_iff.1 ho3
   refine V_call Tryz.call64 rfl rfl rfl rfl (level_running_cut_c (Dw := Dw) w hB hA r_ b_r_ v_r_ p2.at_ hH hx16) ?_
   rintro _ w19 ⟨v17, A20, rfl, hH21, ht22⟩
   replace hr5 := Tr.trans (Dw := Dw) hr5 ht22
   replace hH : Hp B A20 w19 (obC b_r_ [.int .i64 x16.clock.kind, .int .i64 x16.clock.level, .int .i64 x16.clock.minutes, .int .i64 x16.clock.start, .int .i64 x16.clock.stop, .int .i64 x16.clock.end_, v17, .int .i64 x16.target.kind, .int .i64 x16.target.minutes, .int .i64 x16.target.calendar, .bool x16.goes] 51 :: obS (α := level_Piece) 67 v17 x16.clock.pieces :: L) := hH21
   obtain rfl := Option.some.inj ho3
   refine V_end (fun a ha23 => ?_)
   exact ⟨(v17, A20), ha23.sub trivial, ⟨hH, hr5⟩⟩
  ·rw [if_neg (nt hc14)] at ho3
   refine C_seq ?_
   refine C_region ?_
   refine V_y (Y_move rfl) rfl rfl rfl ?_
   refine V_y (Y_nilCheck rfl) rfl rfl rfl ?_
   refine V_y (Y_fieldAddrC (off2 := 10) Tryz.underlying51 rfl Tryz.sizeOf4 (by decide) rfl rfl) rfl rfl rfl ?_
   refine V_y (Y_load (Hp.cell (j := 10) hH (i := 0) rfl rfl) Tryz.isAgg4 rfl) rfl rfl rfl ?_
   refine V_y (Y_not rfl) rfl rfl rfl ?_
   refine V_to (fun _ _ => rfl) ?_
   obtain ⟨s25, ho24, ho3⟩ := Option.bind_eq_some_iff.1 ho3
   refine C_cutG (ι := (Value × (Nat → Prop))) (fun ⟨v27, A32⟩ => []) (fun ⟨v27, A32⟩ => fun w' => Hp B A32 w' (obC b_r_ [.int .i64 s25.clock.kind, .int .i64 s25.clock.level, .int .i64 s25.clock.minutes, .int .i64 s25.clock.start, .int .i64 s25.clock.stop, .int .i64 s25.clock.end_, v27, .int .i64 s25.target.kind, .int .i64 s25.target.minutes, .int .i64 s25.target.calendar, .bool s25.goes] 51 :: obS (α := level_Piece) 67 v27 s25.clock.pieces :: L) ∧ Tr Dw B A w A32 w') ?_ ?_
   ·have hr26 : Tr Dw B A w A w := Tr.refl (Dw := Dw) hA
    refine C_cond rfl (fun hc34 => ?_) (fun hc34 => ?_)
    ·rw [if_pos hc34] at ho24
     refine C_region ?_
     refine V_y (Y_move rfl) rfl rfl rfl ?_
     have h35 := El_level_Point_0 h_p2
     refine V_y (Y_fieldAddr Tryz.underlying41 rfl Tryz.sizeOf3 (by decide) rfl) rfl rfl rfl ?_
     refine V_y (Y_load (El.int h35) Tryz.isAgg3 rfl) rfl rfl rfl ?_
     replace hH : Hp B A w (obS (α := level_Piece) 67 v_r_ r_.clock.pieces :: obC b_r_ [.int .i64 r_.clock.kind, .int .i64 r_.clock.level, .int .i64 r_.clock.minutes, .int .i64 r_.clock.start, .int .i64 r_.clock.stop, .int .i64 r_.clock.end_, v_r_, .int .i64 r_.target.kind, .int .i64 r_.target.minutes, .int .i64 r_.target.calendar, .bool r_.goes] 51 :: L) := Hp.front hH (i := 1) rfl
     replace hH : Hp B A w (obC b_r_ [.int .i64 r_.clock.kind, .int .i64 r_.clock.level, .int .i64 r_.clock.minutes, .int .i64 r_.clock.start, .int .i64 r_.clock.stop, .int .i64 r_.clock.end_, v_r_, .int .i64 r_.target.kind, .int .i64 r_.target.minutes, .int .i64 r_.target.calendar, .bool r_.goes] 51 :: obS (α := level_Piece) 67 v_r_ r_.clock.pieces :: L) := Hp.front hH (i := 1) rfl
     obtain ⟨x36, hx36, ho24⟩ := Option.bind_eq_some_iff.1 ho24
     refine V_call Tryz.call65 rfl rfl rfl rfl (level_running_on_c (Dw := Dw) w hB hA r_ b_r_ v_r_ p2.at_ hH hx36) ?_
     rintro _ w39 ⟨v37, A40, rfl, hH41, ht42⟩
     replace hr26 := Tr.trans (Dw := Dw) hr26 ht42
     replace hH : Hp B A40 w39 (obC b_r_ [.int .i64 x36.clock.kind, .int .i64 x36.clock.level, .int .i64 x36.clock.minutes, .int .i64 x36.clock.start, .int .i64 x36.clock.stop, .int .i64 x36.clock.end_, v37, .int .i64 x36.target.kind, .int .i64 x36.target.minutes, .int .i64 x36.target.calendar, .bool x36.goes] 51 :: obS (α := level_Piece) 67 v37 x36.clock.pieces :: L) := hH41
     obtain rfl := Option.some.inj ho24
     refine V_end (fun a ha43 => ?_)
     exact ⟨(v37, A40), ha43.sub trivial, ⟨hH, hr26⟩⟩
    ·rw [if_neg (nt hc34)] at ho24
     obtain rfl := Option.some.inj ho24
     refine C_skip (fun a ha44 => ?_)
     exact ⟨(v_r_, A), ha44.sub trivial, ⟨hH, hr26⟩⟩
   rintro ⟨v27, A32⟩ w29 ⟨hH33, hk30⟩ a ha31
   replace hr5 := Tr.trans (Dw := Dw) hr5 hk30
   replace hA := hk30.new
   replace hH : Hp B A32 w29 (obC b_r_ [.int .i64 s25.clock.kind, .int .i64 s25.clock.level, .int .i64 s25.clock.minutes, .int .i64 s25.clock.start, .int .i64 s25.clock.stop, .int .i64 s25.clock.end_, v27, .int .i64 s25.target.kind, .int .i64 s25.target.minutes, .int .i64 s25.target.calendar, .bool s25.goes] 51 :: obS (α := level_Piece) 67 v27 s25.clock.pieces :: L) := hH33
   obtain rfl := Option.some.inj ho3
   exact ⟨(v27, A32), ha31.sub trivial, ⟨hH, hr5⟩⟩
 rintro ⟨v6, A12⟩ w9 ⟨hH13, hk10⟩ a ha11
 replace hK := Tr.trans (Dw := Dw) hK hk10
 replace hA := hk10.new
 replace hH : Hp B A12 w9 (obC b_r_ [.int .i64 s4.clock.kind, .int .i64 s4.clock.level, .int .i64 s4.clock.minutes, .int .i64 s4.clock.start, .int .i64 s4.clock.stop, .int .i64 s4.clock.end_, v6, .int .i64 s4.target.kind, .int .i64 s4.target.minutes, .int .i64 s4.target.calendar, .bool s4.goes] 51 :: obS (α := level_Piece) 67 v6 s4.clock.pieces :: L) := hH13
 obtain rfl := Option.some.inj hm
 try simp only [↓inBlock_ret, ↓then_ret]
 exact normQ (retQ rfl (Res.zero Tryz.results63) ⟨v6, A12, rfl, hH, hK⟩ a ha11)
set_option maxRecDepth 4000 in
set_option maxHeartbeats 4000000 in
theorem level_keeper_point_c (w : World) {A : Nat → Prop} {B : Nat} (hB : B ≤ w.heap.size) (hA : ∀ b, w.heap.size ≤ b → A b) (k_ : level_keeper) (b_k_ : Nat) (v_k_0 : Value) (h_k_0 : Sl A w v_k_0 k_.policy.pauses) (v_k_1 : Value) (h_k_1 : Sl A w v_k_1 k_.policy.levels) (v_k_2 : Value) (p : level_Point) (v_p : Value) (h_p : Sl A w v_p p.values) (before : Option level_Point) (v_before : Value) (h_before : OEl A w v_before before) {L : List Ob} (hH : Hp B A w (obC b_k_ [v_k_0, v_k_1, .int .i64 k_.level, v_k_2] 38 :: obPS (ob_level_running) 44 v_k_2 k_.clocks :: L)) {r : level_keeper} (hm : level_keeper_point k_ p before = some r) : Ret Tryz.prog 10 #[.pointer (some ⟨b_k_, 0, none⟩), .agg #[.int .i64 p.at_, .int .i64 p.kind, .int .i64 p.who, .int .i64 p.status, .int .i64 p.priority, v_p], v_before] w fun v w' => ∃ u1_0, ∃ u1_1, ∃ u1_2, ∃ A1 : Nat → Prop, v = .tuple #[] ∧ Sl A1 w' u1_0 r.policy.pauses ∧ Sl A1 w' u1_1 r.policy.levels ∧ Hp B A1 w' (obC b_k_ [u1_0, u1_1, .int .i64 r.level, u1_2] 38 :: obPS (ob_level_running) 44 u1_2 r.clocks :: L) ∧ Tr Dw B A w A1 w' := by
 unfold level_keeper_point at hm
 refine enter Tryz.func10 rfl Tryz.ntmps10 rfl ?_
 have hK : Tr Dw B A w A w := Tr.refl (Dw := Dw) hA
 refine C_seq ?_
 refine C_region ?_
 refine V_box rfl rfl ?_
 intro b9 w10 h11
 have hk13 := h11.kp (Dw := Dw)
 have h12 : El (α := level_Point) A w10 b9 0 p := h11.el hA ⟨[.int .i64 p.at_], _, rfl, rfl, ⟨[.int .i64 p.kind], _, rfl, rfl, ⟨[.int .i64 p.who], _, rfl, rfl, ⟨[.int .i64 p.status], _, rfl, rfl, ⟨[.int .i64 p.priority], _, rfl, rfl, ⟨_, rfl, h_p⟩⟩⟩⟩⟩⟩
 have ht14 := Kp.tr (Dw := Dw) hk13 hA hB
 replace hH := Hp.kp (Dw := Dw) hH hk13
 replace h_before := OEl.tr (Dw := Dw) h_before ht14
 replace h_k_0 := Sl.tr (Dw := Dw) h_k_0 ht14
 replace h_k_1 := Sl.tr (Dw := Dw) h_k_1 ht14
 replace hK := Tr.trans (Dw := Dw) hK ht14
 replace hB := Nat.le_trans hB ht14.ex.size
 replace hA := ht14.new
 refine V_to (fun _ _ => rfl) ?_
 refine C_seq ?_
 refine C_region ?_
 have h15 := El_level_Point_3 h12
 refine V_y (Y_fieldAddr Tryz.underlying41 rfl Tryz.sizeOf3 (by decide) rfl) rfl rfl rfl ?_
 refine V_y (Y_load (El.int h15) Tryz.isAgg3 rfl) rfl rfl rfl ?_
 refine V_y (Y_eql rfl rfl) rfl rfl rfl ?_
 refine V_y (Y_move rfl) rfl rfl rfl ?_
 refine V_cut 4 (fun _ : Unit => [(0, .pointer (some ⟨b_k_, 0, none⟩)), (2, v_before), (4, .pointer (some ⟨b9, 0, none⟩)), (18, .bool ((p.status == 5) || (p.status == 6)))]) (fun _ w' => w10 = w') ?_ ?_
 ·simp only [List.take, List.drop]
  rcases Bool.eq_false_or_eq_true (p.status == 5) with hc16 | hc16
  ·refine V_gn rfl rfl rfl hc16 rfl rfl rfl ?_
   refine V_gn rfl rfl rfl hc16 rfl rfl rfl ?_
   refine V_gn rfl rfl rfl hc16 rfl rfl rfl ?_
   refine V_y (Y_pick_te rfl hc16 rfl) rfl rfl rfl ?_
   exact V_end fun a ha => ⟨(), ha.sub ⟨rfl, rfl, rfl, (by rw [hc16]; rfl), trivial⟩, rfl⟩
  ·refine V_ge rfl rfl rfl hc16 ?_
   have h18 := El_level_Point_3 h12
   refine V_y (Y_fieldAddr Tryz.underlying41 rfl Tryz.sizeOf3 (by decide) rfl) rfl rfl rfl ?_
   refine V_ge rfl rfl rfl hc16 ?_
   refine V_y (Y_load (El.int h18) Tryz.isAgg3 rfl) rfl rfl rfl ?_
   refine V_ge rfl rfl rfl hc16 ?_
   refine V_y (Y_eql rfl rfl) rfl rfl rfl ?_
   refine V_y (Y_pick_fe rfl hc16 rfl) rfl rfl rfl ?_
   exact V_end fun a ha => ⟨(), ha.sub ⟨rfl, rfl, rfl, (by rw [hc16]; rfl), trivial⟩, rfl⟩
 simp only [List.take, List.drop]
 rintro _ _ rfl
 refine V_alloc Tryz.zeroValue4 rfl ?_
 intro b19 w20 h21
 refine V_storeNew h21 Tryz.sizeOf4 rfl rfl rfl rfl (by simp [Value.cells, Value.oneCell']) ?_
 intro w22 h23
 have hk25 := h23.kp (Dw := Dw)
 have h24 : El (α := Bool) A w22 b19 0 ((p.status == 5) || (p.status == 6)) := h23.el hA rfl
 have ht26 := Kp.tr (Dw := Dw) hk25 hA hB
 replace hH := Hp.kp (Dw := Dw) hH hk25
 replace h_before := OEl.tr (Dw := Dw) h_before ht26
 replace h12 := El.tr (Dw := Dw) h12 ht26
 replace h_k_0 := Sl.tr (Dw := Dw) h_k_0 ht26
 replace h_k_1 := Sl.tr (Dw := Dw) h_k_1 ht26
 replace hK := Tr.trans (Dw := Dw) hK ht26
 replace hB := Nat.le_trans hB ht26.ex.size
 replace hA := ht26.new
 refine V_to (fun _ _ => rfl) ?_
 refine C_seq ?_
 refine C_region ?_
 have h27 := El_level_Point_1 h12
 refine V_y (Y_fieldAddr Tryz.underlying41 rfl Tryz.sizeOf3 (by decide) rfl) rfl rfl rfl ?_
 refine V_y (Y_load (El.int h27) Tryz.isAgg3 rfl) rfl rfl rfl ?_
 refine V_y (Y_eql rfl rfl) rfl rfl rfl ?_
 refine V_y (Y_move rfl) rfl rfl rfl ?_
 refine V_cut 4 (fun _ : Unit => [(0, .pointer (some ⟨b_k_, 0, none⟩)), (2, v_before), (4, .pointer (some ⟨b9, 0, none⟩)), (6, .pointer (some ⟨b19, 0, none⟩)), (26, .bool ((p.kind == 2) && (decide ((0 : Int) < p.who))))]) (fun _ w' => w22 = w') ?_ ?_
 ·simp only [List.take, List.drop]
  rcases Bool.eq_false_or_eq_true (p.kind == 2) with hc28 | hc28
  ·refine V_ge rfl rfl rfl hc28 ?_
   have h30 := El_level_Point_2 h12
   refine V_y (Y_fieldAddr Tryz.underlying41 rfl Tryz.sizeOf3 (by decide) rfl) rfl rfl rfl ?_
   refine V_ge rfl rfl rfl hc28 ?_
   refine V_y (Y_load (El.int h30) Tryz.isAgg3 rfl) rfl rfl rfl ?_
   refine V_ge rfl rfl rfl hc28 ?_
   refine V_y (Y_gtr rfl rfl) rfl rfl rfl ?_
   refine V_y (Y_pick_te rfl hc28 rfl) rfl rfl rfl ?_
   exact V_end fun a ha => ⟨(), ha.sub ⟨rfl, rfl, rfl, rfl, (by rw [hc28]; rfl), trivial⟩, rfl⟩
  ·refine V_gn rfl rfl rfl hc28 rfl rfl rfl ?_
   refine V_gn rfl rfl rfl hc28 rfl rfl rfl ?_
   refine V_gn rfl rfl rfl hc28 rfl rfl rfl ?_
   refine V_y (Y_pick_fe rfl hc28 rfl) rfl rfl rfl ?_
   exact V_end fun a ha => ⟨(), ha.sub ⟨rfl, rfl, rfl, rfl, (by rw [hc28]; rfl), trivial⟩, rfl⟩
 simp only [List.take, List.drop]
 rintro _ _ rfl
 refine V_alloc Tryz.zeroValue4 rfl ?_
 intro b31 w33 h34
 refine V_storeNew h34 Tryz.sizeOf4 rfl rfl rfl rfl (by simp [Value.cells, Value.oneCell']) ?_
 intro w35 h36
 have hk38 := h36.kp (Dw := Dw)
 have h37 : El (α := Bool) A w35 b31 0 ((p.kind == 2) && (decide ((0 : Int) < p.who))) := h36.el hA rfl
 have ht39 := Kp.tr (Dw := Dw) hk38 hA hB
 replace hH := Hp.kp (Dw := Dw) hH hk38
 replace h_before := OEl.tr (Dw := Dw) h_before ht39
 replace h12 := El.tr (Dw := Dw) h12 ht39
 replace h24 := El.tr (Dw := Dw) h24 ht39
 replace h_k_0 := Sl.tr (Dw := Dw) h_k_0 ht39
 replace h_k_1 := Sl.tr (Dw := Dw) h_k_1 ht39
 replace hK := Tr.trans (Dw := Dw) hK ht39
 replace hB := Nat.le_trans hB ht39.ex.size
 replace hA := ht39.new
 refine V_to (fun _ _ => rfl) ?_
 refine C_seq ?_
 refine C_region ?_
 refine V_y (Y_move rfl) rfl rfl rfl ?_
 refine V_y (Y_makeFunc rfl rfl) rfl rfl rfl ?_
 replace hH : Hp B A w35 (obPS (ob_level_running) 44 v_k_2 k_.clocks :: obC b_k_ [v_k_0, v_k_1, .int .i64 k_.level, v_k_2] 38 :: L) := Hp.front hH (i := 1) rfl
 replace hH : Hp B A w35 (obC b_k_ [v_k_0, v_k_1, .int .i64 k_.level, v_k_2] 38 :: obPS (ob_level_running) 44 v_k_2 k_.clocks :: L) := Hp.front hH (i := 1) rfl
 obtain ⟨x40, hx40, hm⟩ := Option.bind_eq_some_iff.1 hm
 have hone := (Hp.psOne (f := ob_level_running) (e := 44) (v := v_k_2) (cs := k_.clocks) hH (i := 1) rfl)
 refine V_call Tryz.call56 rfl rfl rfl rfl (level_keeper_each_c (Dw := Dw) w35 hB hA v_k_0 v_k_1 k_.level v_k_2 b_k_ k_.clocks _ 57 #[] #[.pointer (some ⟨b9, 0, none⟩), .pointer (some ⟨b19, 0, none⟩), .pointer (some ⟨b31, 0, none⟩)] Tryz.call57 (fun w1 A1 ht hB1 hA1 b x v M y hH1 hm1 => level_keeper_point_1_c (Dw := Dw) w1 hB1 hA1 x b v p b9 (El.tr (Dw := Dw) h12 ht) ((p.status == 5) || (p.status == 6)) b19 (El.tr (Dw := Dw) h24 ht) ((p.kind == 2) && (decide ((0 : Int) < p.who))) b31 (El.tr (Dw := Dw) h37 ht) hH1 hm1) hH hx40) ?_
 rintro _ w41 ⟨A42, rfl, hH43, ht44⟩
 replace h_before := OEl.tr (Dw := Dw) h_before ht44
 replace h12 := El.tr (Dw := Dw) h12 ht44
 replace h_k_0 := Sl.tr (Dw := Dw) h_k_0 ht44
 replace h_k_1 := Sl.tr (Dw := Dw) h_k_1 ht44
 replace hK := Tr.trans (Dw := Dw) hK ht44
 replace hB := Nat.le_trans hB ht44.ex.size
 replace hA := ht44.new
 replace hH : Hp B A42 w41 (obC b_k_ [v_k_0, v_k_1, .int .i64 k_.level, v_k_2] 38 :: obPS (ob_level_running) 44 v_k_2 x40 :: L) := hH43
 refine V_to (fun _ _ => rfl) ?_
 refine C_seq ?_
 refine C_seq ?_
 refine C_region_q (Dw := Dw) Tryz_mixed (by kernel_rfl) ?_
 refine VQ_y (fun w' hw' => Y_move rfl) rfl rfl rfl ?_
 refine VQ_y (fun w' hw' => Y_nilCheck rfl) rfl rfl rfl ?_
 refine VQ_y (fun w' hw' => Y_fieldAddrC (off2 := 0) Tryz.underlying38 rfl Tryz.sizeOf25 (by decide) rfl rfl) rfl rfl rfl ?_
 refine VQ_y (fun w' hw' => Y_loadA (At.kp (Dw := Dw) (Hp.part (off := 0) (n := 2) (ds := [v_k_0, v_k_1]) hH (i := 0) rfl rfl) hw' (Array.getElem?_eq_some_iff.1 (Hp.cells hH (i := 0) rfl).2.1).1) Tryz.isAgg25 Tryz.sizeOf25 rfl) rfl rfl rfl ?_
 have h45 := El_level_Point_4 h12
 refine VQ_y (fun w' hw' => Y_fieldAddr Tryz.underlying41 rfl Tryz.sizeOf3 (by decide) rfl) rfl rfl rfl ?_
 refine VQ_y (fun w' hw' => Y_load (El.int (El.kp (Dw := Dw) h45 hw')) Tryz.isAgg3 rfl) rfl rfl rfl ?_
 have h46 := El_level_Point_5 h12
 refine VQ_y (fun w' hw' => Y_fieldAddr Tryz.underlying41 rfl Tryz.sizeOf39 (by decide) rfl) rfl rfl rfl ?_
 obtain ⟨v47, h48, h49⟩ := El.list h46
 refine VQ_y (fun w' hw' => Y_load ((World.cell?_of_block (hw'.block _ (World.block_lt_of_cell? _ _ h48))).trans h48) Tryz.isAgg39 rfl) rfl rfl rfl ?_
 obtain ⟨x50, hx50, hm⟩ := Option.bind_eq_some_iff.1 hm
 refine VQ_call (.int .i64 x50) Tryz.call59 rfl rfl rfl rfl (fun w' hw' => (level_Policy_levelOf_c (Dw := Dw) w' (fun b hb => hA b (Nat.le_trans hw'.size hb)) k_.policy v_k_0 (Sl.kp (Dw := Dw) h_k_0 hw') v_k_1 (Sl.kp (Dw := Dw) h_k_1 hw') p.priority p.values v47 (Sl.kp (Dw := Dw) h49 hw') hx50).mono (fun _ _ h => ⟨h.1, Kp.trans (Dw := Dw) hw' h.2⟩)) ?_
 refine VQ_y (fun w' hw' => Y_assign rfl) rfl rfl rfl ?_
 refine VQ_to (fun _ _ => rfl) (fun w51 hk52 => ?_)
 have ht53 := Kp.tr (Dw := Dw) hk52 hA hB
 replace hH := Hp.kp (Dw := Dw) hH hk52
 replace h_before := OEl.tr (Dw := Dw) h_before ht53
 replace h12 := El.tr (Dw := Dw) h12 ht53
 replace h_k_0 := Sl.tr (Dw := Dw) h_k_0 ht53
 replace h_k_1 := Sl.tr (Dw := Dw) h_k_1 ht53
 replace hK := Tr.trans (Dw := Dw) hK ht53
 replace hB := Nat.le_trans hB ht53.ex.size
 replace hA := ht53.new
 refine C_seq ?_
 refine C_region ?_
 refine V_y (Y_move rfl) rfl rfl rfl ?_
 refine V_y (Y_move rfl) rfl rfl rfl ?_
 refine V_y (Y_nilCheck rfl) rfl rfl rfl ?_
 refine V_y (Y_fieldAddrC (off2 := 2) Tryz.underlying38 rfl Tryz.sizeOf3 (by decide) rfl rfl) rfl rfl rfl ?_
 refine V_y (Y_load (Hp.cell (j := 2) hH (i := 0) rfl rfl) Tryz.isAgg3 rfl) rfl rfl rfl ?_
 refine V_y (Y_neq rfl rfl) rfl rfl rfl ?_
 refine V_to (fun _ _ => rfl) ?_
 obtain ⟨s55, ho54, hm⟩ := Option.bind_eq_some_iff.1 hm
 refine C_cutG (ι := (Value × Value × Value × (Nat → Prop))) (fun ⟨v57, v59, v61, A66⟩ => [(0, .pointer (some ⟨b_k_, 0, none⟩)), (2, v_before), (4, .pointer (some ⟨b9, 0, none⟩))]) (fun ⟨v57, v59, v61, A66⟩ => fun w' => Sl A66 w' v57 s55.policy.pauses ∧ Sl A66 w' v59 s55.policy.levels ∧ Hp B A66 w' (obC b_k_ [v57, v59, .int .i64 s55.level, v61] 38 :: obPS (ob_level_running) 44 v61 s55.clocks :: L) ∧ Tr Dw B A42 w51 A66 w') ?_ ?_
 ·have hr56 : Tr Dw B A42 w51 A42 w51 := Tr.refl (Dw := Dw) hA
  refine C_cond rfl (fun hc68 => ?_) (fun hc68 => ?_)
  ·rw [if_pos hc68] at ho54
   refine C_region ?_
   refine V_y (Y_move rfl) rfl rfl rfl ?_
   have h69 := El_level_Point_0 h12
   refine V_y (Y_fieldAddr Tryz.underlying41 rfl Tryz.sizeOf3 (by decide) rfl) rfl rfl rfl ?_
   refine V_y (Y_load (El.int h69) Tryz.isAgg3 rfl) rfl rfl rfl ?_
   refine V_y (Y_move rfl) rfl rfl rfl ?_
   replace hH : Hp B A42 w51 (obPS (ob_level_running) 44 v_k_2 x40 :: obC b_k_ [v_k_0, v_k_1, .int .i64 k_.level, v_k_2] 38 :: L) := Hp.front hH (i := 1) rfl
   replace hH : Hp B A42 w51 (obC b_k_ [v_k_0, v_k_1, .int .i64 k_.level, v_k_2] 38 :: obPS (ob_level_running) 44 v_k_2 x40 :: L) := Hp.front hH (i := 1) rfl
   obtain ⟨x70, hx70, ho54⟩ := Option.bind_eq_some_iff.1 ho54
   refine V_call Tryz.call60 rfl rfl rfl rfl (level_keeper_choose_c (Dw := Dw) w51 hB hA (⟨k_.policy, k_.level, x40⟩ : level_keeper) b_k_ v_k_0 h_k_0 v_k_1 h_k_1 v_k_2 p.at_ x50 hH hx70) ?_
   rintro _ w77 ⟨v71, v73, v75, A78, rfl, h72, h74, hH79, ht80⟩
   replace h_before := OEl.tr (Dw := Dw) h_before ht80
   replace hr56 := Tr.trans (Dw := Dw) hr56 ht80
   replace hH : Hp B A78 w77 (obC b_k_ [v71, v73, .int .i64 x70.level, v75] 38 :: obPS (ob_level_running) 44 v75 x70.clocks :: L) := hH79
   obtain rfl := Option.some.inj ho54
   refine V_end (fun a ha81 => ?_)
   exact ⟨(v71, v73, v75, A78), ha81.sub ⟨rfl, rfl, rfl, trivial⟩, ⟨h72, h74, hH, hr56⟩⟩
  ·rw [if_neg (nt hc68)] at ho54
   obtain rfl := Option.some.inj ho54
   refine C_skip (fun a ha82 => ?_)
   exact ⟨(v_k_0, v_k_1, v_k_2, A42), ha82.sub ⟨rfl, rfl, rfl, trivial⟩, ⟨h_k_0, h_k_1, hH, hr56⟩⟩
 rintro ⟨v57, v59, v61, A66⟩ w63 ⟨h58, h60, hH67, hk64⟩ a ha65
 replace h_before := OEl.tr (Dw := Dw) h_before hk64
 replace h12 := El.tr (Dw := Dw) h12 hk64
 replace hK := Tr.trans (Dw := Dw) hK hk64
 replace hB := Nat.le_trans hB hk64.ex.size
 replace hA := hk64.new
 replace hH : Hp B A66 w63 (obC b_k_ [v57, v59, .int .i64 s55.level, v61] 38 :: obPS (ob_level_running) 44 v61 s55.clocks :: L) := hH67
 refine C_at (n := ⟨120, [], none⟩) (fun _ _ => rfl) ?_ ha65
 refine C_seq ?_
 refine C_seq ?_
 refine C_region ?_
 have h83 := El_level_Point_3 h12
 refine V_y (Y_fieldAddr Tryz.underlying41 rfl Tryz.sizeOf3 (by decide) rfl) rfl rfl rfl ?_
 refine V_y (Y_load (El.int h83) Tryz.isAgg3 rfl) rfl rfl rfl ?_
 refine V_y (Y_neq rfl rfl) rfl rfl rfl ?_
 refine V_to (fun _ _ => rfl) ?_
 obtain ⟨s85, ho84, hm⟩ := Option.bind_eq_some_iff.1 hm
 refine C_cutG (ι := (Value × Value × Value × (Nat → Prop))) (fun ⟨v87, v89, v91, A96⟩ => [(0, .pointer (some ⟨b_k_, 0, none⟩)), (4, .pointer (some ⟨b9, 0, none⟩))]) (fun ⟨v87, v89, v91, A96⟩ => fun w' => Sl A96 w' v87 s85.policy.pauses ∧ Sl A96 w' v89 s85.policy.levels ∧ Hp B A96 w' (obC b_k_ [v87, v89, .int .i64 s85.level, v91] 38 :: obPS (ob_level_running) 44 v91 s85.clocks :: L) ∧ Tr Dw B A66 w63 A96 w') ?_ ?_
 ·have hr86 : Tr Dw B A66 w63 A66 w63 := Tr.refl (Dw := Dw) hA
  refine C_cond rfl (fun hc98 => ?_) (fun hc98 => ?_)
  ·rw [if_pos hc98] at ho84
   refine C_seq ?_
   refine C_seq ?_
   refine C_region ?_
   refine V_y (Y_move rfl) rfl rfl rfl ?_
   refine V_y (Y_eqlOP h_before Tryz.underlying43 rfl rfl) rfl rfl rfl ?_
   refine V_to (fun _ _ => rfl) ?_
   obtain ⟨s100, ho99, ho84⟩ := Option.bind_eq_some_iff.1 ho84
   refine C_cutG (ι := (Value × Value × Value × (Nat → Prop))) (fun ⟨v102, v104, v106, A111⟩ => [(0, .pointer (some ⟨b_k_, 0, none⟩)), (2, v_before), (4, .pointer (some ⟨b9, 0, none⟩))]) (fun ⟨v102, v104, v106, A111⟩ => fun w' => Sl A111 w' v102 s100.policy.pauses ∧ Sl A111 w' v104 s100.policy.levels ∧ Hp B A111 w' (obC b_k_ [v102, v104, .int .i64 s100.level, v106] 38 :: obPS (ob_level_running) 44 v106 s100.clocks :: L) ∧ Tr Dw B A66 w63 A111 w') ?_ ?_
   ·have hr101 : Tr Dw B A66 w63 A66 w63 := Tr.refl (Dw := Dw) hA
    refine C_cond rfl (fun hc113 => ?_) (fun hc113 => ?_)
    ·rw [if_pos hc113] at ho99
     refine C_region ?_
     refine V_y (Y_move rfl) rfl rfl rfl ?_
     have h114 := El_level_Point_0 h12
     refine V_y (Y_fieldAddr Tryz.underlying41 rfl Tryz.sizeOf3 (by decide) rfl) rfl rfl rfl ?_
     refine V_y (Y_load (El.int h114) Tryz.isAgg3 rfl) rfl rfl rfl ?_
     replace hH : Hp B A66 w63 (obPS (ob_level_running) 44 v61 s55.clocks :: obC b_k_ [v57, v59, .int .i64 s55.level, v61] 38 :: L) := Hp.front hH (i := 1) rfl
     replace hH : Hp B A66 w63 (obC b_k_ [v57, v59, .int .i64 s55.level, v61] 38 :: obPS (ob_level_running) 44 v61 s55.clocks :: L) := Hp.front hH (i := 1) rfl
     obtain ⟨x115, hx115, ho99⟩ := Option.bind_eq_some_iff.1 ho99
     refine V_call Tryz.call61 rfl rfl rfl rfl (level_keeper_begin_c (Dw := Dw) w63 hB hA s55 b_k_ v57 h58 v59 h60 v61 p.at_ 1 hH hx115) ?_
     rintro _ w122 ⟨v116, v118, v120, A123, rfl, h117, h119, hH124, ht125⟩
     replace h_before := OEl.tr (Dw := Dw) h_before ht125
     replace hr101 := Tr.trans (Dw := Dw) hr101 ht125
     replace hH : Hp B A123 w122 (obC b_k_ [v116, v118, .int .i64 x115.level, v120] 38 :: obPS (ob_level_running) 44 v120 x115.clocks :: L) := hH124
     obtain rfl := Option.some.inj ho99
     refine V_end (fun a ha126 => ?_)
     exact ⟨(v116, v118, v120, A123), ha126.sub ⟨rfl, rfl, rfl, trivial⟩, ⟨h117, h119, hH, hr101⟩⟩
    ·rw [if_neg (nt hc113)] at ho99
     obtain rfl := Option.some.inj ho99
     refine C_skip (fun a ha127 => ?_)
     exact ⟨(v57, v59, v61, A66), ha127.sub ⟨rfl, rfl, rfl, trivial⟩, ⟨h58, h60, hH, hr101⟩⟩
   rintro ⟨v102, v104, v106, A111⟩ w108 ⟨h103, h105, hH112, hk109⟩ a ha110
   replace h_before := OEl.tr (Dw := Dw) h_before hk109
   replace h12 := El.tr (Dw := Dw) h12 hk109
   replace hr86 := Tr.trans (Dw := Dw) hr86 hk109
   replace hB := Nat.le_trans hB hk109.ex.size
   replace hA := hk109.new
   replace hH : Hp B A111 w108 (obC b_k_ [v102, v104, .int .i64 s100.level, v106] 38 :: obPS (ob_level_running) 44 v106 s100.clocks :: L) := hH112
   refine C_at (n := ⟨120, [], none⟩) (fun _ _ => rfl) ?_ ha110
   refine C_seq ?_
   refine C_seq ?_
   obtain ⟨s129, ho128, ho84⟩ := Option.bind_eq_some_iff.1 ho84
   refine C_cutG (ι := (Nat → Prop)) (fun (A134 : (Nat → Prop)) => [(0, .pointer (some ⟨b_k_, 0, none⟩)), (2, v_before), (4, .pointer (some ⟨b9, 0, none⟩)), (72, .bool s129)]) (fun (A134 : (Nat → Prop)) => fun w' => Hp B A134 w' (obC b_k_ [v102, v104, .int .i64 s100.level, v106] 38 :: obPS (ob_level_running) 44 v106 s100.clocks :: L) ∧ Tr Dw B A111 w108 A134 w') ?_ ?_
   ·have hr130 : Tr Dw B A111 w108 A111 w108 := Tr.refl (Dw := Dw) hA
    refine C_region ?_
    have h136 := El_level_Point_1 h12
    refine V_y (Y_fieldAddr Tryz.underlying41 rfl Tryz.sizeOf3 (by decide) rfl) rfl rfl rfl ?_
    refine V_y (Y_load (El.int h136) Tryz.isAgg3 rfl) rfl rfl rfl ?_
    refine V_y (Y_eql rfl rfl) rfl rfl rfl ?_
    refine V_y (Y_move rfl) rfl rfl rfl ?_
    rcases Bool.eq_false_or_eq_true (p.kind == 2) with hc137 | hc137
    ·rw [if_pos hc137] at ho128
     refine V_ge rfl rfl rfl hc137 ?_
     have h138 := El_level_Point_2 h12
     refine V_y (Y_fieldAddr Tryz.underlying41 rfl Tryz.sizeOf3 (by decide) rfl) rfl rfl rfl ?_
     refine V_ge rfl rfl rfl hc137 ?_
     refine V_y (Y_load (El.int h138) Tryz.isAgg3 rfl) rfl rfl rfl ?_
     refine V_ge rfl rfl rfl hc137 ?_
     refine V_y (Y_eql rfl rfl) rfl rfl rfl ?_
     refine V_y (Y_pick_te rfl hc137 rfl) rfl rfl rfl ?_
     refine V_y (Y_move rfl) rfl rfl rfl ?_
     rcases Bool.eq_false_or_eq_true (p.who == 0) with hc139 | hc139
     ·rw [if_pos hc139] at ho128
      refine V_ge rfl rfl rfl hc139 ?_
      refine V_y (Y_move rfl) rfl rfl rfl ?_
      refine V_ge rfl rfl rfl hc139 ?_
      refine V_buildSlice (Dw := Dw) (l := ([1, 2] : List Int)) (len := 2) Tryz.underlying22 Tryz.sizeOf3 Tryz.zeroValue3 rfl (by with_unfolding_all rfl) (show (2 * 1 : Nat) ≠ 0 by decide) (show (2 * 1 : Nat) ≤ 2 ^ 24 by decide) hA ⟨[.int .i64 1], _, rfl, rfl, ⟨[.int .i64 2], _, rfl, rfl, rfl⟩⟩ rfl rfl ?_
      intro v140 w141 hk143 h142
      have ht144 := Kp.tr (Dw := Dw) hk143 hA hB
      replace hH := Hp.kp (Dw := Dw) hH hk143
      replace h_before := OEl.tr (Dw := Dw) h_before ht144
      replace h103 := Sl.tr (Dw := Dw) h103 ht144
      replace h105 := Sl.tr (Dw := Dw) h105 ht144
      replace hr130 := Tr.trans (Dw := Dw) hr130 ht144
      replace hB := Nat.le_trans hB ht144.ex.size
      replace hA := ht144.new
      refine V_ge rfl rfl rfl hc139 ?_
      replace hH : Hp B A111 w141 (obPS (ob_level_running) 44 v106 s100.clocks :: obC b_k_ [v102, v104, .int .i64 s100.level, v106] 38 :: L) := Hp.front hH (i := 1) rfl
      replace hH : Hp B A111 w141 (obC b_k_ [v102, v104, .int .i64 s100.level, v106] 38 :: obPS (ob_level_running) 44 v106 s100.clocks :: L) := Hp.front hH (i := 1) rfl
      obtain ⟨x145, hx145, ho128⟩ := Option.bind_eq_some_iff.1 ho128
      refine V_call Tryz.call62 rfl rfl rfl rfl (level_keeper_runs_c (Dw := Dw) w141 hB hA s100 b_k_ v102 h103 v104 h105 v106 ([1, 2] : List Int) v140 h142 hH hx145) ?_
      rintro _ w146 ⟨A147, rfl, hH148, ht149⟩
      replace h_before := OEl.tr (Dw := Dw) h_before ht149
      replace hr130 := Tr.trans (Dw := Dw) hr130 ht149
      replace hH : Hp B A147 w146 (obC b_k_ [v102, v104, .int .i64 s100.level, v106] 38 :: obPS (ob_level_running) 44 v106 s100.clocks :: L) := hH148
      refine V_ge rfl rfl rfl hc139 ?_
      refine V_y (Y_not rfl) rfl rfl rfl ?_
      refine V_y (Y_pick_te rfl hc139 rfl) rfl rfl rfl ?_
      obtain rfl := Option.some.inj ho128
      refine V_end (fun a ha150 => ?_)
      exact ⟨A147, ha150.sub ⟨rfl, rfl, rfl, rfl, trivial⟩, ⟨hH, hr130⟩⟩
     ·rw [if_neg (nt hc139)] at ho128
      refine V_gn rfl rfl rfl hc139 rfl rfl rfl ?_
      refine V_gn rfl rfl rfl hc139 rfl rfl rfl ?_
      refine V_gn rfl rfl rfl hc139 rfl rfl rfl ?_
      refine V_gn rfl rfl rfl hc139 rfl rfl rfl ?_
      refine V_y (Y_pick_fe rfl hc139 rfl) rfl rfl rfl ?_
      obtain rfl := Option.some.inj ho128
      refine V_end (fun a ha151 => ?_)
      exact ⟨A111, ha151.sub ⟨rfl, rfl, rfl, rfl, trivial⟩, ⟨hH, hr130⟩⟩
    ·rw [if_neg (nt hc137)] at ho128
     refine V_gn rfl rfl rfl hc137 rfl rfl rfl ?_
     refine V_gn rfl rfl rfl hc137 rfl rfl rfl ?_
     refine V_gn rfl rfl rfl hc137 rfl rfl rfl ?_
     refine V_y (Y_pick_fe rfl hc137 rfl) rfl rfl rfl ?_
     refine V_y (Y_move rfl) rfl rfl rfl ?_
     have hc152 : (false : Bool) = false := rfl
     refine V_gn rfl rfl rfl hc152 rfl rfl rfl ?_
     refine V_gn rfl rfl rfl hc152 rfl rfl rfl ?_
     refine V_gn rfl rfl rfl hc152 rfl rfl rfl ?_
     refine V_gn rfl rfl rfl hc152 rfl rfl rfl ?_
     refine V_y (Y_pick_fe rfl hc152 rfl) rfl rfl rfl ?_
     obtain rfl := Option.some.inj ho128
     refine V_end (fun a ha153 => ?_)
     exact ⟨A111, ha153.sub ⟨rfl, rfl, rfl, rfl, trivial⟩, ⟨hH, hr130⟩⟩
   rintro A134 w131 ⟨hH135, hk132⟩ a ha133
   replace h_before := OEl.tr (Dw := Dw) h_before hk132
   replace h12 := El.tr (Dw := Dw) h12 hk132
   replace h103 := Sl.tr (Dw := Dw) h103 hk132
   replace h105 := Sl.tr (Dw := Dw) h105 hk132
   replace hr86 := Tr.trans (Dw := Dw) hr86 hk132
   replace hB := Nat.le_trans hB hk132.ex.size
   replace hA := hk132.new
   replace hH : Hp B A134 w131 (obC b_k_ [v102, v104, .int .i64 s100.level, v106] 38 :: obPS (ob_level_running) 44 v106 s100.clocks :: L) := hH135
   refine C_at (n := ⟨120, [], none⟩) (fun _ _ => rfl) ?_ ha133
   obtain ⟨s155, ho154, ho84⟩ := Option.bind_eq_some_iff.1 ho84
   refine C_cutG (ι := (Value × Value × Value × (Nat → Prop))) (fun ⟨v157, v159, v161, A166⟩ => [(0, .pointer (some ⟨b_k_, 0, none⟩)), (2, v_before), (4, .pointer (some ⟨b9, 0, none⟩))]) (fun ⟨v157, v159, v161, A166⟩ => fun w' => Sl A166 w' v157 s155.policy.pauses ∧ Sl A166 w' v159 s155.policy.levels ∧ Hp B A166 w' (obC b_k_ [v157, v159, .int .i64 s155.level, v161] 38 :: obPS (ob_level_running) 44 v161 s155.clocks :: L) ∧ Tr Dw B A134 w131 A166 w') ?_ ?_
   ·have hr156 : Tr Dw B A134 w131 A134 w131 := Tr.refl (Dw := Dw) hA
    refine C_cond rfl (fun hc168 => ?_) (fun hc168 => ?_)
    ·rw [if_pos hc168] at ho154
     refine C_region ?_
     refine V_y (Y_move rfl) rfl rfl rfl ?_
     have h169 := El_level_Point_0 h12
     refine V_y (Y_fieldAddr Tryz.underlying41 rfl Tryz.sizeOf3 (by decide) rfl) rfl rfl rfl ?_
     refine V_y (Y_load (El.int h169) Tryz.isAgg3 rfl) rfl rfl rfl ?_
     replace hH : Hp B A134 w131 (obPS (ob_level_running) 44 v106 s100.clocks :: obC b_k_ [v102, v104, .int .i64 s100.level, v106] 38 :: L) := Hp.front hH (i := 1) rfl
     replace hH : Hp B A134 w131 (obC b_k_ [v102, v104, .int .i64 s100.level, v106] 38 :: obPS (ob_level_running) 44 v106 s100.clocks :: L) := Hp.front hH (i := 1) rfl
     obtain ⟨x170, hx170, ho154⟩ := Option.bind_eq_some_iff.1 ho154
     refine V_call Tryz.call61 rfl rfl rfl rfl (level_keeper_begin_c (Dw := Dw) w131 hB hA s100 b_k_ v102 h103 v104 h105 v106 p.at_ 2 hH hx170) ?_
     rintro _ w177 ⟨v171, v173, v175, A178, rfl, h172, h174, hH179, ht180⟩
     replace h_before := OEl.tr (Dw := Dw) h_before ht180
     replace hr156 := Tr.trans (Dw := Dw) hr156 ht180
     replace hH : Hp B A178 w177 (obC b_k_ [v171, v173, .int .i64 x170.level, v175] 38 :: obPS (ob_level_running) 44 v175 x170.clocks :: L) := hH179
     obtain rfl := Option.some.inj ho154
     refine V_end (fun a ha181 => ?_)
     exact ⟨(v171, v173, v175, A178), ha181.sub ⟨rfl, rfl, rfl, trivial⟩, ⟨h172, h174, hH, hr156⟩⟩
    ·rw [if_neg (nt hc168)] at ho154
     obtain rfl := Option.some.inj ho154
     refine C_skip (fun a ha182 => ?_)
     exact ⟨(v102, v104, v106, A134), ha182.sub ⟨rfl, rfl, rfl, trivial⟩, ⟨h103, h105, hH, hr156⟩⟩
   rintro ⟨v157, v159, v161, A166⟩ w163 ⟨h158, h160, hH167, hk164⟩ a ha165
   replace h_before := OEl.tr (Dw := Dw) h_before hk164
   replace h12 := El.tr (Dw := Dw) h12 hk164
   replace hr86 := Tr.trans (Dw := Dw) hr86 hk164
   replace hB := Nat.le_trans hB hk164.ex.size
   replace hA := hk164.new
   replace hH : Hp B A166 w163 (obC b_k_ [v157, v159, .int .i64 s155.level, v161] 38 :: obPS (ob_level_running) 44 v161 s155.clocks :: L) := hH167
   refine C_at (n := ⟨120, [], none⟩) (fun _ _ => rfl) ?_ ha165
   refine C_seq ?_
   refine C_region ?_
   refine V_y (Y_move rfl) rfl rfl rfl ?_
   refine V_y (Y_eqlOP h_before Tryz.underlying43 rfl rfl) rfl rfl rfl ?_
   refine V_y (Y_move rfl) rfl rfl rfl ?_
   obtain ⟨s184, hs184, ho84⟩ := Option.bind_eq_some_iff.1 ho84
   refine V_cut 6 (fun _ : Unit => [(0, .pointer (some ⟨b_k_, 0, none⟩)), (2, v_before), (4, .pointer (some ⟨b9, 0, none⟩)), (85, .bool s184)]) (fun _ w' => w163 = w') ?_ ?_
   ·simp only [List.take, List.drop]
    rcases Bool.eq_false_or_eq_true (before.isNone) with hc183 | hc183
    ·rw [if_pos hc183] at hs184
     refine V_gn rfl rfl rfl hc183 rfl rfl rfl ?_
     refine V_gn rfl rfl rfl hc183 rfl rfl rfl ?_
     refine V_gn rfl rfl rfl hc183 rfl rfl rfl ?_
     refine V_gn rfl rfl rfl hc183 rfl rfl rfl ?_
     refine V_gn rfl rfl rfl hc183 rfl rfl rfl ?_
     refine V_y (Y_pick_te rfl hc183 rfl) rfl rfl rfl ?_
     obtain rfl := Option.some.inj hs184
     exact V_end fun a ha => ⟨(), ha.sub ⟨rfl, rfl, rfl, rfl, trivial⟩, rfl⟩
    ·rw [if_neg (nt hc183)] at hs184
     refine V_ge rfl rfl rfl hc183 ?_
     refine V_y (Y_move rfl) rfl rfl rfl ?_
     refine V_ge rfl rfl rfl hc183 ?_
     obtain ⟨x185, hx185, hs184⟩ := Option.bind_eq_some_iff.1 hs184
     obtain ⟨b186, o187, h188, h189⟩ := OEl.get h_before hx185
     refine V_y (Y_nilCheck (congrArg some h188)) rfl rfl rfl ?_
     refine V_ge rfl rfl rfl hc183 ?_
     have h190 := El_level_Point_3 h189
     refine V_y (Y_fieldAddr Tryz.underlying41 rfl Tryz.sizeOf3 (by decide) rfl) rfl rfl rfl ?_
     refine V_ge rfl rfl rfl hc183 ?_
     refine V_y (Y_load (El.int h190) Tryz.isAgg3 rfl) rfl rfl rfl ?_
     refine V_ge rfl rfl rfl hc183 ?_
     refine V_y (Y_eql rfl rfl) rfl rfl rfl ?_
     refine V_y (Y_pick_fe rfl hc183 rfl) rfl rfl rfl ?_
     obtain rfl := Option.some.inj hs184
     exact V_end fun a ha => ⟨(), ha.sub ⟨rfl, rfl, rfl, rfl, trivial⟩, rfl⟩
   simp only [List.take, List.drop]
   rintro _ _ rfl
   refine V_y (Y_move rfl) rfl rfl rfl ?_
   obtain ⟨s192, hs192, ho84⟩ := Option.bind_eq_some_iff.1 ho84
   refine V_cut 6 (fun _ : Unit => [(0, .pointer (some ⟨b_k_, 0, none⟩)), (4, .pointer (some ⟨b9, 0, none⟩)), (92, .bool s192)]) (fun _ w' => w163 = w') ?_ ?_
   ·simp only [List.take, List.drop]
    rcases Bool.eq_false_or_eq_true (s184) with hc191 | hc191
    ·rw [if_pos hc191] at hs192
     refine V_gn rfl rfl rfl hc191 rfl rfl rfl ?_
     refine V_gn rfl rfl rfl hc191 rfl rfl rfl ?_
     refine V_gn rfl rfl rfl hc191 rfl rfl rfl ?_
     refine V_gn rfl rfl rfl hc191 rfl rfl rfl ?_
     refine V_gn rfl rfl rfl hc191 rfl rfl rfl ?_
     refine V_y (Y_pick_te rfl hc191 rfl) rfl rfl rfl ?_
     obtain rfl := Option.some.inj hs192
     exact V_end fun a ha => ⟨(), ha.sub ⟨rfl, rfl, rfl, trivial⟩, rfl⟩
    ·rw [if_neg (nt hc191)] at hs192
     refine V_ge rfl rfl rfl hc191 ?_
     refine V_y (Y_move rfl) rfl rfl rfl ?_
     refine V_ge rfl rfl rfl hc191 ?_
     obtain ⟨x193, hx193, hs192⟩ := Option.bind_eq_some_iff.1 hs192
     obtain ⟨b194, o195, h196, h197⟩ := OEl.get h_before hx193
     refine V_y (Y_nilCheck (congrArg some h196)) rfl rfl rfl ?_
     refine V_ge rfl rfl rfl hc191 ?_
     have h198 := El_level_Point_3 h197
     refine V_y (Y_fieldAddr Tryz.underlying41 rfl Tryz.sizeOf3 (by decide) rfl) rfl rfl rfl ?_
     refine V_ge rfl rfl rfl hc191 ?_
     refine V_y (Y_load (El.int h198) Tryz.isAgg3 rfl) rfl rfl rfl ?_
     refine V_ge rfl rfl rfl hc191 ?_
     refine V_y (Y_eql rfl rfl) rfl rfl rfl ?_
     refine V_y (Y_pick_fe rfl hc191 rfl) rfl rfl rfl ?_
     obtain rfl := Option.some.inj hs192
     exact V_end fun a ha => ⟨(), ha.sub ⟨rfl, rfl, rfl, trivial⟩, rfl⟩
   simp only [List.take, List.drop]
   rintro _ _ rfl
   refine V_y (Y_assign rfl) rfl rfl rfl ?_
   refine V_to (fun _ _ => rfl) ?_
   refine C_seq ?_
   obtain ⟨s200, ho199, ho84⟩ := Option.bind_eq_some_iff.1 ho84
   refine C_cutG (ι := (Nat → Prop)) (fun (A205 : (Nat → Prop)) => [(0, .pointer (some ⟨b_k_, 0, none⟩)), (4, .pointer (some ⟨b9, 0, none⟩)), (104, .bool s200)]) (fun (A205 : (Nat → Prop)) => fun w' => Hp B A205 w' (obC b_k_ [v157, v159, .int .i64 s155.level, v161] 38 :: obPS (ob_level_running) 44 v161 s155.clocks :: L) ∧ Tr Dw B A166 w163 A205 w') ?_ ?_
   ·have hr201 : Tr Dw B A166 w163 A166 w163 := Tr.refl (Dw := Dw) hA
    refine C_region ?_
    refine V_y (Y_move rfl) rfl rfl rfl ?_
    refine V_y (Y_move rfl) rfl rfl rfl ?_
    rcases Bool.eq_false_or_eq_true (s192) with hc207 | hc207
    ·rw [if_pos hc207] at ho199
     refine V_ge rfl rfl rfl hc207 ?_
     have h208 := El_level_Point_3 h12
     refine V_y (Y_fieldAddr Tryz.underlying41 rfl Tryz.sizeOf3 (by decide) rfl) rfl rfl rfl ?_
     refine V_ge rfl rfl rfl hc207 ?_
     refine V_y (Y_load (El.int h208) Tryz.isAgg3 rfl) rfl rfl rfl ?_
     refine V_ge rfl rfl rfl hc207 ?_
     refine V_y (Y_neq rfl rfl) rfl rfl rfl ?_
     refine V_y (Y_pick_te rfl hc207 rfl) rfl rfl rfl ?_
     refine V_y (Y_move rfl) rfl rfl rfl ?_
     rcases Bool.eq_false_or_eq_true (p.status != 5) with hc209 | hc209
     ·rw [if_pos hc209] at ho199
      refine V_ge rfl rfl rfl hc209 ?_
      refine V_y (Y_move rfl) rfl rfl rfl ?_
      refine V_ge rfl rfl rfl hc209 ?_
      refine V_buildSlice (Dw := Dw) (l := ([3] : List Int)) (len := 1) Tryz.underlying22 Tryz.sizeOf3 Tryz.zeroValue3 rfl (by with_unfolding_all rfl) (show (1 * 1 : Nat) ≠ 0 by decide) (show (1 * 1 : Nat) ≤ 2 ^ 24 by decide) hA ⟨[.int .i64 3], _, rfl, rfl, rfl⟩ rfl rfl ?_
      intro v210 w211 hk213 h212
      have ht214 := Kp.tr (Dw := Dw) hk213 hA hB
      replace hH := Hp.kp (Dw := Dw) hH hk213
      replace h158 := Sl.tr (Dw := Dw) h158 ht214
      replace h160 := Sl.tr (Dw := Dw) h160 ht214
      replace hr201 := Tr.trans (Dw := Dw) hr201 ht214
      replace hB := Nat.le_trans hB ht214.ex.size
      replace hA := ht214.new
      refine V_ge rfl rfl rfl hc209 ?_
      replace hH : Hp B A166 w211 (obPS (ob_level_running) 44 v161 s155.clocks :: obC b_k_ [v157, v159, .int .i64 s155.level, v161] 38 :: L) := Hp.front hH (i := 1) rfl
      replace hH : Hp B A166 w211 (obC b_k_ [v157, v159, .int .i64 s155.level, v161] 38 :: obPS (ob_level_running) 44 v161 s155.clocks :: L) := Hp.front hH (i := 1) rfl
      obtain ⟨x215, hx215, ho199⟩ := Option.bind_eq_some_iff.1 ho199
      refine V_call Tryz.call62 rfl rfl rfl rfl (level_keeper_runs_c (Dw := Dw) w211 hB hA s155 b_k_ v157 h158 v159 h160 v161 ([3] : List Int) v210 h212 hH hx215) ?_
      rintro _ w216 ⟨A217, rfl, hH218, ht219⟩
      replace hr201 := Tr.trans (Dw := Dw) hr201 ht219
      replace hH : Hp B A217 w216 (obC b_k_ [v157, v159, .int .i64 s155.level, v161] 38 :: obPS (ob_level_running) 44 v161 s155.clocks :: L) := hH218
      refine V_ge rfl rfl rfl hc209 ?_
      refine V_y (Y_not rfl) rfl rfl rfl ?_
      refine V_y (Y_pick_te rfl hc209 rfl) rfl rfl rfl ?_
      obtain rfl := Option.some.inj ho199
      refine V_end (fun a ha220 => ?_)
      exact ⟨A217, ha220.sub ⟨rfl, rfl, rfl, trivial⟩, ⟨hH, hr201⟩⟩
     ·rw [if_neg (nt hc209)] at ho199
      refine V_gn rfl rfl rfl hc209 rfl rfl rfl ?_
      refine V_gn rfl rfl rfl hc209 rfl rfl rfl ?_
      refine V_gn rfl rfl rfl hc209 rfl rfl rfl ?_
      refine V_gn rfl rfl rfl hc209 rfl rfl rfl ?_
      refine V_y (Y_pick_fe rfl hc209 rfl) rfl rfl rfl ?_
      obtain rfl := Option.some.inj ho199
      refine V_end (fun a ha221 => ?_)
      exact ⟨A166, ha221.sub ⟨rfl, rfl, rfl, trivial⟩, ⟨hH, hr201⟩⟩
    ·rw [if_neg (nt hc207)] at ho199
     refine V_gn rfl rfl rfl hc207 rfl rfl rfl ?_
     refine V_gn rfl rfl rfl hc207 rfl rfl rfl ?_
     refine V_gn rfl rfl rfl hc207 rfl rfl rfl ?_
     refine V_y (Y_pick_fe rfl hc207 rfl) rfl rfl rfl ?_
     refine V_y (Y_move rfl) rfl rfl rfl ?_
     have hc222 : (false : Bool) = false := rfl
     refine V_gn rfl rfl rfl hc222 rfl rfl rfl ?_
     refine V_gn rfl rfl rfl hc222 rfl rfl rfl ?_
     refine V_gn rfl rfl rfl hc222 rfl rfl rfl ?_
     refine V_gn rfl rfl rfl hc222 rfl rfl rfl ?_
     refine V_y (Y_pick_fe rfl hc222 rfl) rfl rfl rfl ?_
     obtain rfl := Option.some.inj ho199
     refine V_end (fun a ha223 => ?_)
     exact ⟨A166, ha223.sub ⟨rfl, rfl, rfl, trivial⟩, ⟨hH, hr201⟩⟩
   rintro A205 w202 ⟨hH206, hk203⟩ a ha204
   replace h12 := El.tr (Dw := Dw) h12 hk203
   replace h158 := Sl.tr (Dw := Dw) h158 hk203
   replace h160 := Sl.tr (Dw := Dw) h160 hk203
   replace hr86 := Tr.trans (Dw := Dw) hr86 hk203
   replace hB := Nat.le_trans hB hk203.ex.size
   replace hA := hk203.new
   replace hH : Hp B A205 w202 (obC b_k_ [v157, v159, .int .i64 s155.level, v161] 38 :: obPS (ob_level_running) 44 v161 s155.clocks :: L) := hH206
   refine C_at (n := ⟨120, [], none⟩) (fun _ _ => rfl) ?_ ha204
   obtain ⟨s225, ho224, ho84⟩ := Option.bind_eq_some_iff.1 ho84
   refine C_cutG (ι := (Value × Value × Value × (Nat → Prop))) (fun ⟨v227, v229, v231, A236⟩ => [(0, .pointer (some ⟨b_k_, 0, none⟩)), (4, .pointer (some ⟨b9, 0, none⟩))]) (fun ⟨v227, v229, v231, A236⟩ => fun w' => Sl A236 w' v227 s225.policy.pauses ∧ Sl A236 w' v229 s225.policy.levels ∧ Hp B A236 w' (obC b_k_ [v227, v229, .int .i64 s225.level, v231] 38 :: obPS (ob_level_running) 44 v231 s225.clocks :: L) ∧ Tr Dw B A205 w202 A236 w') ?_ ?_
   ·have hr226 : Tr Dw B A205 w202 A205 w202 := Tr.refl (Dw := Dw) hA
    refine C_cond rfl (fun hc238 => ?_) (fun hc238 => ?_)
    ·rw [if_pos hc238] at ho224
     refine C_region ?_
     refine V_y (Y_move rfl) rfl rfl rfl ?_
     have h239 := El_level_Point_0 h12
     refine V_y (Y_fieldAddr Tryz.underlying41 rfl Tryz.sizeOf3 (by decide) rfl) rfl rfl rfl ?_
     refine V_y (Y_load (El.int h239) Tryz.isAgg3 rfl) rfl rfl rfl ?_
     replace hH : Hp B A205 w202 (obPS (ob_level_running) 44 v161 s155.clocks :: obC b_k_ [v157, v159, .int .i64 s155.level, v161] 38 :: L) := Hp.front hH (i := 1) rfl
     replace hH : Hp B A205 w202 (obC b_k_ [v157, v159, .int .i64 s155.level, v161] 38 :: obPS (ob_level_running) 44 v161 s155.clocks :: L) := Hp.front hH (i := 1) rfl
     obtain ⟨x240, hx240, ho224⟩ := Option.bind_eq_some_iff.1 ho224
     refine V_call Tryz.call61 rfl rfl rfl rfl (level_keeper_begin_c (Dw := Dw) w202 hB hA s155 b_k_ v157 h158 v159 h160 v161 p.at_ 3 hH hx240) ?_
     rintro _ w247 ⟨v241, v243, v245, A248, rfl, h242, h244, hH249, ht250⟩
     replace hr226 := Tr.trans (Dw := Dw) hr226 ht250
     replace hH : Hp B A248 w247 (obC b_k_ [v241, v243, .int .i64 x240.level, v245] 38 :: obPS (ob_level_running) 44 v245 x240.clocks :: L) := hH249
     obtain rfl := Option.some.inj ho224
     refine V_end (fun a ha251 => ?_)
     exact ⟨(v241, v243, v245, A248), ha251.sub ⟨rfl, rfl, trivial⟩, ⟨h242, h244, hH, hr226⟩⟩
    ·rw [if_neg (nt hc238)] at ho224
     obtain rfl := Option.some.inj ho224
     refine C_skip (fun a ha252 => ?_)
     exact ⟨(v157, v159, v161, A205), ha252.sub ⟨rfl, rfl, trivial⟩, ⟨h158, h160, hH, hr226⟩⟩
   rintro ⟨v227, v229, v231, A236⟩ w233 ⟨h228, h230, hH237, hk234⟩ a ha235
   replace hr86 := Tr.trans (Dw := Dw) hr86 hk234
   replace hA := hk234.new
   replace hH : Hp B A236 w233 (obC b_k_ [v227, v229, .int .i64 s225.level, v231] 38 :: obPS (ob_level_running) 44 v231 s225.clocks :: L) := hH237
   obtain rfl := Option.some.inj ho84
   exact ⟨(v227, v229, v231, A236), ha235.sub ⟨rfl, rfl, trivial⟩, ⟨h228, h230, hH, hr86⟩⟩
  ·rw [if_neg (nt hc98)] at ho84
   obtain rfl := Option.some.inj ho84
   refine C_skip (fun a ha254 => ?_)
   exact ⟨(v57, v59, v61, A66), ha254.sub ⟨rfl, rfl, trivial⟩, ⟨h58, h60, hH, hr86⟩⟩
 rintro ⟨v87, v89, v91, A96⟩ w93 ⟨h88, h90, hH97, hk94⟩ a ha95
 replace h12 := El.tr (Dw := Dw) h12 hk94
 replace hK := Tr.trans (Dw := Dw) hK hk94
 replace hB := Nat.le_trans hB hk94.ex.size
 replace hA := hk94.new
 replace hH : Hp B A96 w93 (obC b_k_ [v87, v89, .int .i64 s85.level, v91] 38 :: obPS (ob_level_running) 44 v91 s85.clocks :: L) := hH97
 refine C_at (n := ⟨120, [], none⟩) (fun _ _ => rfl) ?_ ha95
 refine C_seq ?_
 refine C_region_chz (Dw := Dw) A96 8 [(1, 0), (1, 1), (1, 2), (1, 3), (0, 4), (1, 5), (1, 6), (2, 7)] [(4, 9)] Tryz_mixed (by kernel_rfl) (fun w255 hk256 => ?_)
 have ht257 := Kp.tr (Dw := Dw) hk256 hA hB
 replace hH := Hp.kp (Dw := Dw) hH hk256
 replace h12 := El.tr (Dw := Dw) h12 ht257
 replace h88 := Sl.tr (Dw := Dw) h88 ht257
 replace h90 := Sl.tr (Dw := Dw) h90 ht257
 replace hK := Tr.trans (Dw := Dw) hK ht257
 replace hB := Nat.le_trans hB ht257.ex.size
 replace hA := ht257.new
 refine CHZ_q2 (Dw := Dw) rfl ?_
 refine VQ_y (fun w' hw' => Y_move rfl) rfl rfl rfl ?_
 refine VQ_CHZ (Dw := Dw) ?_
 refine CHZ_q2 (Dw := Dw) rfl ?_
 refine VQ_y (fun w' hw' => Y_nilCheck rfl) rfl rfl rfl ?_
 refine VQ_CHZ (Dw := Dw) ?_
 refine CHZ_q2 (Dw := Dw) rfl ?_
 refine VQ_y (fun w' hw' => Y_fieldAddrC (off2 := 0) Tryz.underlying38 rfl Tryz.sizeOf25 (by decide) rfl rfl) rfl rfl rfl ?_
 refine VQ_CHZ (Dw := Dw) ?_
 refine CHZ_q2 (Dw := Dw) rfl ?_
 refine VQ_y (fun w' hw' => Y_fieldAddrC (off2 := 0) Tryz.underlying25 rfl Tryz.sizeOf22 (by decide) rfl rfl) rfl rfl rfl ?_
 refine VQ_CHZ (Dw := Dw) ?_
 refine CHZ_q1 (Dw := Dw) rfl ?_
 refine VQ_y (fun w' hw' => Y_load ((World.cell?_of_block (hw'.block _ (World.block_lt_of_cell? _ _ (Hp.cell (j := 0) hH (i := 0) rfl rfl)))).trans (Hp.cell (j := 0) hH (i := 0) rfl rfl)) Tryz.isAgg22 rfl) rfl rfl rfl ?_
 refine VQ_CHZ (Dw := Dw) ?_
 refine CHZ_q2 (Dw := Dw) rfl ?_
 have h258 := El_level_Point_3 h12
 refine VQ_y (fun w' hw' => Y_fieldAddr Tryz.underlying41 rfl Tryz.sizeOf3 (by decide) rfl) rfl rfl rfl ?_
 refine VQ_CHZ (Dw := Dw) ?_
 refine CHZ_q2 (Dw := Dw) rfl ?_
 refine VQ_y (fun w' hw' => Y_load (El.int (El.keep h258 (XA.ex hw'))) Tryz.isAgg3 rfl) rfl rfl rfl ?_
 refine VQ_CHZ (Dw := Dw) ?_
 refine CHZ_l1 (Dw := Dw) (k := 0) [(2, 8), (2, 7), (4, 9)] rfl ?_ rfl ?_
 ·refine CH_l1 (Dw := Dw) (k := 0) rfl ?_
  refine V_allocHk (Dw := Dw) (B := B) hH Tryz.zeroValue4 hB hA rfl ?_
  intro b259 w260 A261 hk264 hH262 ht263
  replace h12 := El.tr (Dw := Dw) h12 ht263
  replace h88 := Sl.tr (Dw := Dw) h88 ht263
  replace h90 := Sl.tr (Dw := Dw) h90 ht263
  replace hK := Tr.trans (Dw := Dw) hK ht263
  replace hB := Nat.le_trans hB ht263.ex.size
  replace hA := ht263.new
  replace hH : Hp B A261 w260 (obC b259 [.bool false] 4 :: obC b_k_ [v87, v89, .int .i64 s85.level, v91] 38 :: obPS (ob_level_running) 44 v91 s85.clocks :: L) := hH262
  refine V_CH (Dw := Dw) (hk264) ?_
  refine CH_l1 (Dw := Dw) (k := 0) rfl ?_
  obtain ⟨x265, hx265, hm⟩ := Option.bind_eq_some_iff.1 hm
  refine V_call Tryz.call15 rfl rfl rfl rfl (slices_Contains_Lint_int_c w260 s85.policy.pauses v87 h88 p.status hx265) ?_
  rintro _ _ ⟨rfl, rfl⟩
  refine V_CH (Dw := Dw) (Kp.refl (Dw := Dw) _) ?_
  refine CH_l1 (Dw := Dw) (k := 2) rfl ?_
  refine V_storeC (Dw := Dw) (off := 0) (ds := [.bool x265]) hH (i := 0) rfl Tryz.sizeOf4 rfl (Nat.le_of_ble_eq_true rfl) (by simp [Value.cells, Value.oneCell']) rfl hB hA rfl rfl ?_
  intro w266 hH267 ht268
  replace h12 := El.tr (Dw := Dw) h12 ht268
  replace h88 := Sl.tr (Dw := Dw) h88 ht268
  replace h90 := Sl.tr (Dw := Dw) h90 ht268
  replace hK := Tr.trans (Dw := Dw) hK ht268
  replace hB := Nat.le_trans hB ht268.ex.size
  replace hA := ht268.new
  replace hH : Hp B A261 w266 (obC b259 [.bool x265] 4 :: obC b_k_ [v87, v89, .int .i64 s85.level, v91] 38 :: obPS (ob_level_running) 44 v91 s85.clocks :: L) := hH267
  obtain ⟨A269, ht270, h271, hH272⟩ := Hp.freezeC (Dw := Dw) (α := Bool) (x := x265) hH (i := 0) rfl hA (by exact rfl)
  replace h12 := El.tr (Dw := Dw) h12 ht270
  replace h88 := Sl.tr (Dw := Dw) h88 ht270
  replace h90 := Sl.tr (Dw := Dw) h90 ht270
  replace hK := Tr.trans (Dw := Dw) hK ht270
  replace hB := Nat.le_trans hB ht270.ex.size
  replace hA := ht270.new
  replace hH : Hp B A269 w266 (obC b_k_ [v87, v89, .int .i64 s85.level, v91] 38 :: obPS (ob_level_running) 44 v91 s85.clocks :: L) := hH272
  refine V_CHw (Dw := Dw) ?_
  refine CH_tail (Dw := Dw) ?_
  show V _ _ _ _ [] _ _
  refine V_to (fun _ _ => rfl) ?_
  refine C_region ?_
  refine V_y (Y_move rfl) rfl rfl rfl ?_
  refine V_y (Y_makeFunc rfl rfl) rfl rfl rfl ?_
  replace hH : Hp B A269 w266 (obPS (ob_level_running) 44 v91 s85.clocks :: obC b_k_ [v87, v89, .int .i64 s85.level, v91] 38 :: L) := Hp.front hH (i := 1) rfl
  replace hH : Hp B A269 w266 (obC b_k_ [v87, v89, .int .i64 s85.level, v91] 38 :: obPS (ob_level_running) 44 v91 s85.clocks :: L) := Hp.front hH (i := 1) rfl
  obtain ⟨x273, hx273, hm⟩ := Option.bind_eq_some_iff.1 hm
  have hone := (Hp.psOne (f := ob_level_running) (e := 44) (v := v91) (cs := s85.clocks) hH (i := 1) rfl)
  refine V_call Tryz.call56 rfl rfl rfl rfl (level_keeper_each_c (Dw := Dw) w266 hB hA v87 v89 s85.level v91 b_k_ s85.clocks _ 63 #[] #[.pointer (some ⟨b259, 0, none⟩), .pointer (some ⟨b9, 0, none⟩)] Tryz.call63 (fun w1 A1 ht hB1 hA1 b x v M y hH1 hm1 => level_keeper_point_2_c (Dw := Dw) w1 hB1 hA1 x b v x265 b259 (El.tr (Dw := Dw) h271 ht) p b9 (El.tr (Dw := Dw) h12 ht) hH1 hm1) hH hx273) ?_
  rintro _ w274 ⟨A275, rfl, hH276, ht277⟩
  replace h88 := Sl.tr (Dw := Dw) h88 ht277
  replace h90 := Sl.tr (Dw := Dw) h90 ht277
  replace hK := Tr.trans (Dw := Dw) hK ht277
  replace hH : Hp B A275 w274 (obC b_k_ [v87, v89, .int .i64 s85.level, v91] 38 :: obPS (ob_level_running) 44 v91 x273 :: L) := hH276
  refine V_end (fun a ha278 => ?_)
  obtain rfl := Option.some.inj hm
  try simp only [↓inBlock_ret, ↓then_ret]
  exact normQ (retQ rfl (Res.zero Tryz.results10) ⟨v87, v89, v91, A275, rfl, h88, h90, hH, hK⟩ a ha278)
 obtain ⟨x279, hx279, hm⟩ := Option.bind_eq_some_iff.1 hm
 refine V_call Tryz.call15 rfl rfl rfl rfl (slices_Contains_Lint_int_c w255 s85.policy.pauses v87 h88 p.status hx279) ?_
 rintro _ _ ⟨rfl, rfl⟩
 refine V_CHZ (Dw := Dw) (Kp.refl (Dw := Dw) _) ?_
 refine CHZ_nil (Dw := Dw) ?_
 refine CH_l1 (Dw := Dw) (k := 0) rfl ?_
 refine V_allocHk (Dw := Dw) (B := B) hH Tryz.zeroValue4 hB hA rfl ?_
 intro b280 w281 A282 hk285 hH283 ht284
 replace h12 := El.tr (Dw := Dw) h12 ht284
 replace h88 := Sl.tr (Dw := Dw) h88 ht284
 replace h90 := Sl.tr (Dw := Dw) h90 ht284
 replace hK := Tr.trans (Dw := Dw) hK ht284
 replace hB := Nat.le_trans hB ht284.ex.size
 replace hA := ht284.new
 replace hH : Hp B A282 w281 (obC b280 [.bool false] 4 :: obC b_k_ [v87, v89, .int .i64 s85.level, v91] 38 :: obPS (ob_level_running) 44 v91 s85.clocks :: L) := hH283
 refine V_CH (Dw := Dw) (hk285) ?_
 refine CH_l1 (Dw := Dw) (k := 2) rfl ?_
 refine V_storeC (Dw := Dw) (off := 0) (ds := [.bool x279]) hH (i := 0) rfl Tryz.sizeOf4 rfl (Nat.le_of_ble_eq_true rfl) (by simp [Value.cells, Value.oneCell']) rfl hB hA rfl rfl ?_
 intro w286 hH287 ht288
 replace h12 := El.tr (Dw := Dw) h12 ht288
 replace h88 := Sl.tr (Dw := Dw) h88 ht288
 replace h90 := Sl.tr (Dw := Dw) h90 ht288
 replace hK := Tr.trans (Dw := Dw) hK ht288
 replace hB := Nat.le_trans hB ht288.ex.size
 replace hA := ht288.new
 replace hH : Hp B A282 w286 (obC b280 [.bool x279] 4 :: obC b_k_ [v87, v89, .int .i64 s85.level, v91] 38 :: obPS (ob_level_running) 44 v91 s85.clocks :: L) := hH287
 obtain ⟨A289, ht290, h291, hH292⟩ := Hp.freezeC (Dw := Dw) (α := Bool) (x := x279) hH (i := 0) rfl hA (by exact rfl)
 replace h12 := El.tr (Dw := Dw) h12 ht290
 replace h88 := Sl.tr (Dw := Dw) h88 ht290
 replace h90 := Sl.tr (Dw := Dw) h90 ht290
 replace hK := Tr.trans (Dw := Dw) hK ht290
 replace hB := Nat.le_trans hB ht290.ex.size
 replace hA := ht290.new
 replace hH : Hp B A289 w286 (obC b_k_ [v87, v89, .int .i64 s85.level, v91] 38 :: obPS (ob_level_running) 44 v91 s85.clocks :: L) := hH292
 refine V_CHw (Dw := Dw) ?_
 refine CH_tail (Dw := Dw) ?_
 show V _ _ _ _ [] _ _
 refine V_to (fun _ _ => rfl) ?_
 refine C_region ?_
 refine V_y (Y_move rfl) rfl rfl rfl ?_
 refine V_y (Y_makeFunc rfl rfl) rfl rfl rfl ?_
 replace hH : Hp B A289 w286 (obPS (ob_level_running) 44 v91 s85.clocks :: obC b_k_ [v87, v89, .int .i64 s85.level, v91] 38 :: L) := Hp.front hH (i := 1) rfl
 replace hH : Hp B A289 w286 (obC b_k_ [v87, v89, .int .i64 s85.level, v91] 38 :: obPS (ob_level_running) 44 v91 s85.clocks :: L) := Hp.front hH (i := 1) rfl
 obtain ⟨x293, hx293, hm⟩ := Option.bind_eq_some_iff.1 hm
 have hone := (Hp.psOne (f := ob_level_running) (e := 44) (v := v91) (cs := s85.clocks) hH (i := 1) rfl)
 refine V_call Tryz.call56 rfl rfl rfl rfl (level_keeper_each_c (Dw := Dw) w286 hB hA v87 v89 s85.level v91 b_k_ s85.clocks _ 63 #[] #[.pointer (some ⟨b280, 0, none⟩), .pointer (some ⟨b9, 0, none⟩)] Tryz.call63 (fun w1 A1 ht hB1 hA1 b x v M y hH1 hm1 => level_keeper_point_2_c (Dw := Dw) w1 hB1 hA1 x b v x279 b280 (El.tr (Dw := Dw) h291 ht) p b9 (El.tr (Dw := Dw) h12 ht) hH1 hm1) hH hx293) ?_
 rintro _ w294 ⟨A295, rfl, hH296, ht297⟩
 replace h88 := Sl.tr (Dw := Dw) h88 ht297
 replace h90 := Sl.tr (Dw := Dw) h90 ht297
 replace hK := Tr.trans (Dw := Dw) hK ht297
 replace hH : Hp B A295 w294 (obC b_k_ [v87, v89, .int .i64 s85.level, v91] 38 :: obPS (ob_level_running) 44 v91 x293 :: L) := hH296
 refine V_end (fun a ha298 => ?_)
 obtain rfl := Option.some.inj hm
 try simp only [↓inBlock_ret, ↓then_ret]
 exact normQ (retQ rfl (Res.zero Tryz.results10) ⟨v87, v89, v91, A295, rfl, h88, h90, hH, hK⟩ a ha298)
set_option maxRecDepth 4000 in
set_option maxHeartbeats 4000000 in
theorem level_Clocks_c (w : World) {A : Nat → Prop} {B : Nat} (hB : B ≤ w.heap.size) (hA : ∀ b, w.heap.size ≤ b → A b) (p : level_Policy) (v_p0 : Value) (h_p0 : Sl A w v_p0 p.pauses) (v_p1 : Value) (h_p1 : Sl A w v_p1 p.levels) (l : (List level_Point)) (v_l : Value) (h_l : Sl A w v_l l) {L : List Ob} (hH : Hp B A w (L)) {r : ((List level_Clock) × Int)} (hm : level_Clocks p l = some r) : Ret Tryz.prog 4 #[.agg #[v_p0, v_p1], v_l] w fun v w' => ∃ s0, ∃ A1 : Nat → Prop, v = .tuple #[s0, .int .i64 r.2] ∧ Hp B A1 w' (obS (α := level_Clock) 47 s0 r.1 :: L) ∧ Tr Dw B A w A1 w' := by
 unfold level_Clocks at hm
 refine enter Tryz.func4 rfl Tryz.ntmps4 rfl ?_
 have hK : Tr Dw B A w A w := Tr.refl (Dw := Dw) hA
 refine C_seq ?_
 refine C_region ?_
 refine V_box rfl rfl ?_
 intro b7 w9 h10
 have hk12 := h10.kp (Dw := Dw)
 have h11 : El (α := level_Policy) A w9 b7 0 p := h10.el hA ⟨[v_p0], _, rfl, ⟨_, rfl, h_p0⟩, ⟨_, rfl, h_p1⟩⟩
 have ht13 := Kp.tr (Dw := Dw) hk12 hA hB
 replace hH := Hp.kp (Dw := Dw) hH hk12
 replace h_l := Sl.tr (Dw := Dw) h_l ht13
 replace hK := Tr.trans (Dw := Dw) hK ht13
 replace hB := Nat.le_trans hB ht13.ex.size
 replace hA := ht13.new
 refine V_y (Y_assign rfl) rfl rfl rfl ?_
 refine V_y (Y_assign rfl) rfl rfl rfl ?_
 refine V_to (fun _ _ => rfl) ?_
 refine C_seq ?_
 refine C_seq ?_
 refine C_region ?_
 obtain ⟨v14, v16, h18, h15, h17⟩ := El_level_Policy h11
 refine V_y (Y_loadA h18 Tryz.isAgg25 Tryz.sizeOf25 rfl) rfl rfl rfl ?_
 obtain ⟨x19, hx19, hm⟩ := Option.bind_eq_some_iff.1 hm
 refine V_call Tryz.call9 rfl rfl rfl rfl (level_CheckPolicy_c (Dw := Dw) w9 hA p v14 h15 v16 h17 hx19) ?_
 rintro _ w20 ⟨rfl, hk21⟩
 have ht22 := Kp.tr (Dw := Dw) hk21 hA hB
 replace hH := Hp.kp (Dw := Dw) hH hk21
 replace h_l := Sl.tr (Dw := Dw) h_l ht22
 replace h11 := El.tr (Dw := Dw) h11 ht22
 replace hK := Tr.trans (Dw := Dw) hK ht22
 replace hB := Nat.le_trans hB ht22.ex.size
 replace hA := ht22.new
 refine V_y (Y_assign rfl) rfl rfl rfl ?_
 refine V_to (fun _ _ => rfl) ?_
 refine C_seq ?_
 refine C_region ?_
 refine V_y (Y_move rfl) rfl rfl rfl ?_
 refine V_y (Y_neq rfl rfl) rfl rfl rfl ?_
 refine V_to (fun _ _ => rfl) ?_
 refine C_cond rfl (fun hc23 => ?_) (fun hc23 => ?_)
 ·rw [if_pos hc23] at hm
  refine C_seq ?_
  refine C_region ?_
  refine V_y (Y_move rfl) rfl rfl rfl ?_
  refine V_y (Y_assign rfl) rfl rfl rfl ?_
  refine V_y (Y_assign rfl) rfl rfl rfl ?_
  refine V_to (fun _ _ => rfl) ?_
  obtain rfl := Option.some.inj hm
  replace hH : Hp B A w20 (obS (α := level_Clock) 47 (.slice none 0 0) ([] : (List level_Clock)) :: L) := Hp.addNil (α := level_Clock) (e := 47) hH
  refine C_ret ?_
  try simp only [↓inBlock_ret, ↓then_ret]
  exact retQ rfl (Res.two Tryz.results4 rfl rfl) ⟨.slice none 0 0, A, rfl, hH, hK⟩
 ·rw [if_neg (nt hc23)] at hm
  refine C_skip_to (fun _ _ => rfl) ?_
  refine C_seq ?_
  refine C_seq ?_
  refine C_region ?_
  refine V_y (Y_move rfl) rfl rfl rfl ?_
  obtain ⟨x24, hx24, hm⟩ := Option.bind_eq_some_iff.1 hm
  refine V_call Tryz.call7 rfl rfl rfl rfl (level_CheckHistory_c (Dw := Dw) w20 hA l v_l h_l hx24) ?_
  rintro _ w25 ⟨rfl, hk26⟩
  have ht27 := Kp.tr (Dw := Dw) hk26 hA hB
  replace hH := Hp.kp (Dw := Dw) hH hk26
  replace h_l := Sl.tr (Dw := Dw) h_l ht27
  replace h11 := El.tr (Dw := Dw) h11 ht27
  replace hK := Tr.trans (Dw := Dw) hK ht27
  replace hB := Nat.le_trans hB ht27.ex.size
  replace hA := ht27.new
  refine V_y (Y_assign rfl) rfl rfl rfl ?_
  refine V_to (fun _ _ => rfl) ?_
  refine C_seq ?_
  refine C_region ?_
  refine V_y (Y_move rfl) rfl rfl rfl ?_
  refine V_y (Y_neq rfl rfl) rfl rfl rfl ?_
  refine V_to (fun _ _ => rfl) ?_
  refine C_cond rfl (fun hc28 => ?_) (fun hc28 => ?_)
  ·rw [if_pos hc28] at hm
   refine C_seq ?_
   refine C_region ?_
   refine V_y (Y_move rfl) rfl rfl rfl ?_
   refine V_y (Y_assign rfl) rfl rfl rfl ?_
   refine V_y (Y_assign rfl) rfl rfl rfl ?_
   refine V_to (fun _ _ => rfl) ?_
   obtain rfl := Option.some.inj hm
   replace hH : Hp B A w25 (obS (α := level_Clock) 47 (.slice none 0 0) ([] : (List level_Clock)) :: L) := Hp.addNil (α := level_Clock) (e := 47) hH
   refine C_ret ?_
   try simp only [↓inBlock_ret, ↓then_ret]
   exact retQ rfl (Res.two Tryz.results4 rfl rfl) ⟨.slice none 0 0, A, rfl, hH, hK⟩
  ·rw [if_neg (nt hc28)] at hm
   refine C_skip_to (fun _ _ => rfl) ?_
   refine C_seq ?_
   refine C_region ?_
   obtain ⟨v29, v31, h33, h30, h32⟩ := El_level_Policy h11
   refine V_y (Y_loadA h33 Tryz.isAgg25 Tryz.sizeOf25 rfl) rfl rfl rfl ?_
   refine V_y (Y_build (cells := #[v29, v31, .int .i64 (-1), .slice none 0 0]) Tryz.underlying38 Tryz.zeroValue38 (Tryz_places38 _ Tryz.underlying38) rfl (by obtain ⟨a34, c35, e36, _⟩ := Sl.form h30; subst e36; obtain ⟨a37, c38, e39, _⟩ := Sl.form h32; subst e39; kernel_rfl)) rfl rfl rfl ?_
   refine V_boxH (Dw := Dw) (B := B) hH rfl hB hA rfl ?_
   intro b40 w41 A42 hH43 ht44
   replace h_l := Sl.tr (Dw := Dw) h_l ht44
   replace h30 := Sl.tr (Dw := Dw) h30 ht44
   replace h32 := Sl.tr (Dw := Dw) h32 ht44
   replace hK := Tr.trans (Dw := Dw) hK ht44
   replace hB := Nat.le_trans hB ht44.ex.size
   replace hA := ht44.new
   replace hH : Hp B A42 w41 (obC b40 [v29, v31, .int .i64 (-1), .slice none 0 0] 38 :: L) := hH43
   refine V_y (Y_assign rfl) rfl rfl rfl ?_
   refine V_to (fun _ _ => rfl) ?_
   refine C_seq ?_
   refine C_seq ?_
   refine C_region ?_
   refine V_y (Y_move rfl) rfl rfl rfl ?_
   refine V_y (Y_lenSl h_l rfl Tryz.underlying26 rfl) rfl rfl rfl ?_
   refine V_y (Y_move rfl) rfl rfl rfl ?_
   refine V_to (fun _ _ => rfl) ?_
   replace hH : Hp B A42 w41 (obPS (ob_level_running) 44 (.slice none 0 0) ([] : (List level_running)) :: obC b40 [v29, v31, .int .i64 (-1), .slice none 0 0] 38 :: L) := Hp.psNil hH
   have hn77 := Sl.le h_l
   obtain ⟨o45, ho45, hm⟩ := Option.bind_eq_some_iff.1 hm
   refine C_cutG (ι := (level_keeper × Value × Value × Value × (Nat → Prop))) (fun ⟨s46, v52, v54, v56, A58⟩ => [(8, .pointer (some ⟨b40, 0, none⟩))]) (fun ⟨s46, v52, v54, v56, A58⟩ => fun w' => o45 = .fin s46 ∧ Sl A58 w' v52 s46.policy.pauses ∧ Sl A58 w' v54 s46.policy.levels ∧ Hp B A58 w' (obPS (ob_level_running) 44 v56 s46.clocks :: obC b40 [v52, v54, .int .i64 s46.level, v56] 38 :: L) ∧ Tr Dw B A42 w41 A58 w') ?_ ?_
   ·refine C_block ?_
    refine C_range ho45 (fun k48 s60 a w' => ∃ i : (Value × Value × Value × (Nat → Prop)), Has ⟨65, [], none⟩ a ([(1, v_l), (8, .pointer (some ⟨b40, 0, none⟩)), (27, v_l), (28, .int .i64 (l.length : Int)), (29, .int .i64 (k48 : Int))]) ∧ Sl i.2.2.2 w' i.1 s60.policy.pauses ∧ Sl i.2.2.2 w' i.2.1 s60.policy.levels ∧ Hp B i.2.2.2 w' (obPS (ob_level_running) 44 i.2.2.1 s60.clocks :: obC b40 [i.1, i.2.1, .int .i64 s60.level, i.2.2.1] 38 :: L) ∧ Tr Dw B A42 w41 i.2.2.2 w') (fun a ha => ⟨(v29, v31, .slice none 0 0, A42), ha.sub ⟨rfl, rfl, rfl, rfl, rfl, trivial⟩, ⟨h30, h32, hH, Tr.refl (Dw := Dw) hA⟩⟩) ?_
    rintro K k48 s60 a w61 ⟨⟨v62, v64, v66, A68⟩, ha166, h63, h65, hH69, hr47⟩ hle73 K76 h75
    refine C_of ?_ ha166
    replace h_l := Sl.tr (Dw := Dw) h_l hr47
    replace hB := Nat.le_trans hB hr47.ex.size
    replace hA := hr47.new
    replace hH : Hp B A68 w61 (obPS (ob_level_running) 44 v66 s60.clocks :: obC b40 [v62, v64, .int .i64 s60.level, v66] 38 :: L) := hH69
    refine C_seq (C_region (V_y (Y_lss rfl rfl) rfl rfl rfl (V_to (fun _ _ => rfl) ?_)))
    refine C_seq ?_
    refine C_cond rfl (fun hc78 => ?_) (fun hc78 => ?_)
    ·have hlt74 := lt_of_dec hc78
     obtain ⟨x70, h71, h72⟩ := K76 hlt74
     refine C_skip_to (fun _ _ => rfl) ?_
     refine C_seq ?_
     obtain ⟨s80, ho79, h71⟩ := Option.bind_eq_some_iff.1 h71
     refine C_cutG (ι := (Value × Value × Value × (Nat → Prop))) (fun ⟨v82, v84, v86, A91⟩ => [(1, v_l), (8, .pointer (some ⟨b40, 0, none⟩)), (27, v_l), (28, .int .i64 (l.length : Int)), (29, .int .i64 (k48 : Int))]) (fun ⟨v82, v84, v86, A91⟩ => fun w' => Sl A91 w' v82 s80.policy.pauses ∧ Sl A91 w' v84 s80.policy.levels ∧ Hp B A91 w' (obPS (ob_level_running) 44 v86 s80.clocks :: obC b40 [v82, v84, .int .i64 s80.level, v86] 38 :: L) ∧ Tr Dw B A68 w61 A91 w') ?_ ?_
     ·have hr81 : Tr Dw B A68 w61 A68 w61 := Tr.refl (Dw := Dw) hA
      refine C_block ?_
      refine C_seq ?_
      refine C_region ?_
      refine V_y (Y_move rfl) rfl rfl rfl ?_
      obtain ⟨x93, hx93, ho79⟩ := Option.bind_eq_some_iff.1 ho79
      refine V_indexAddr h_l hx93 Tryz.underlying26 Tryz.sizeOf41 rfl rfl rfl ?_
      intro b94 o95 h96
      obtain ⟨v97, h99, h98⟩ := El_level_Point h96
      refine V_y (Y_loadA h99 Tryz.isAgg41 Tryz.sizeOf41 rfl) rfl rfl rfl ?_
      refine V_alloc Tryz.zeroValue41 rfl ?_
      intro b100 w101 h102
      refine V_y (Y_assign rfl) rfl rfl rfl ?_
      have h107 : (v97).oneCell' = true := by obtain ⟨_, _, e, _⟩ := Sl.form h98; rw [e]; rfl
      refine V_storeNew h102 Tryz.sizeOf41 rfl rfl rfl rfl (by exact (List.forall_mem_cons.2 ⟨rfl, (List.forall_mem_cons.2 ⟨rfl, (List.forall_mem_cons.2 ⟨rfl, (List.forall_mem_cons.2 ⟨rfl, (List.forall_mem_cons.2 ⟨rfl, (List.forall_mem_cons.2 ⟨h107, (fun _ h => nomatch h)⟩)⟩)⟩)⟩)⟩)⟩)) ?_
      intro w103 h104
      have hk109 := h104.kp (Dw := Dw)
      have h108 : El (α := level_Point) A68 w103 b100 0 x93 := h104.el hA ⟨[.int .i64 x93.at_], _, rfl, rfl, ⟨[.int .i64 x93.kind], _, rfl, rfl, ⟨[.int .i64 x93.who], _, rfl, rfl, ⟨[.int .i64 x93.status], _, rfl, rfl, ⟨[.int .i64 x93.priority], _, rfl, rfl, ⟨_, rfl, h98⟩⟩⟩⟩⟩⟩
      have ht110 := Kp.tr (Dw := Dw) hk109 hA hB
      replace hH := Hp.kp (Dw := Dw) hH hk109
      replace h_l := Sl.tr (Dw := Dw) h_l ht110
      replace h63 := Sl.tr (Dw := Dw) h63 ht110
      replace h65 := Sl.tr (Dw := Dw) h65 ht110
      replace hr81 := Tr.trans (Dw := Dw) hr81 ht110
      replace hB := Nat.le_trans hB ht110.ex.size
      replace hA := ht110.new
      refine V_to (fun _ _ => rfl) ?_
      refine C_seq ?_
      refine C_region ?_
      refine V_y (Y_move rfl) rfl rfl rfl ?_
      refine V_y (Y_eql rfl rfl) rfl rfl rfl ?_
      refine V_to (fun _ _ => rfl) ?_
      obtain ⟨s112, ho111, ho79⟩ := Option.bind_eq_some_iff.1 ho79
      refine C_cutG (ι := (Value × Value × Value × (Nat → Prop))) (fun ⟨v114, v116, v118, A123⟩ => [(1, v_l), (8, .pointer (some ⟨b40, 0, none⟩)), (27, v_l), (28, .int .i64 (l.length : Int)), (29, .int .i64 (k48 : Int))]) (fun ⟨v114, v116, v118, A123⟩ => fun w' => Sl A123 w' v114 s112.policy.pauses ∧ Sl A123 w' v116 s112.policy.levels ∧ Hp B A123 w' (obPS (ob_level_running) 44 v118 s112.clocks :: obC b40 [v114, v116, .int .i64 s112.level, v118] 38 :: L) ∧ Tr Dw B A68 w103 A123 w') ?_ ?_
      ·have hr113 : Tr Dw B A68 w103 A68 w103 := Tr.refl (Dw := Dw) hA
       refine C_cond rfl (fun hc125 => ?_) (fun hc125 => ?_)
       ·rw [if_pos hc125] at ho111
        refine C_region ?_
        refine V_y (Y_move rfl) rfl rfl rfl ?_
        obtain ⟨v126, h128, h127⟩ := El_level_Point h108
        refine V_y (Y_loadA h128 Tryz.isAgg41 Tryz.sizeOf41 rfl) rfl rfl rfl ?_
        replace hH : Hp B A68 w103 (obC b40 [v62, v64, .int .i64 s60.level, v66] 38 :: obPS (ob_level_running) 44 v66 s60.clocks :: L) := Hp.front hH (i := 1) rfl
        obtain ⟨x129, hx129, ho111⟩ := Option.bind_eq_some_iff.1 ho111
        refine V_call Tryz.call10 rfl rfl rfl rfl (level_keeper_point_c (Dw := Dw) w103 hB hA s60 b40 v62 h63 v64 h65 v66 x93 v126 h127 (none : Option level_Point) (.pointer none) rfl hH hx129) ?_
        rintro _ w136 ⟨v130, v132, v134, A137, rfl, h131, h133, hH138, ht139⟩
        replace hr113 := Tr.trans (Dw := Dw) hr113 ht139
        replace hH : Hp B A137 w136 (obC b40 [v130, v132, .int .i64 x129.level, v134] 38 :: obPS (ob_level_running) 44 v134 x129.clocks :: L) := hH138
        obtain rfl := Option.some.inj ho111
        refine V_end (fun a ha140 => ?_)
        replace hH : Hp B A137 w136 (obPS (ob_level_running) 44 v134 x129.clocks :: obC b40 [v130, v132, .int .i64 x129.level, v134] 38 :: L) := Hp.front hH (i := 1) rfl
        exact ⟨(v130, v132, v134, A137), ha140.sub ⟨rfl, rfl, rfl, rfl, rfl, trivial⟩, ⟨h131, h133, hH, hr113⟩⟩
       ·rw [if_neg (nt hc125)] at ho111
        refine C_region_qt (Dw := Dw) 6 Tryz_mixed (by kernel_rfl) ?_
        simp only [List.take, List.drop]
        refine VQ_y (fun w' hw' => Y_move rfl) rfl rfl rfl ?_
        obtain ⟨v141, h143, h142⟩ := El_level_Point h108
        refine VQ_y (fun w' hw' => Y_loadA (At.kp (Dw := Dw) h143 hw' h108.2.1) Tryz.isAgg41 Tryz.sizeOf41 rfl) rfl rfl rfl ?_
        refine VQ_y (fun w' hw' => Y_move rfl) rfl rfl rfl ?_
        refine VQ_y (fun w' hw' => Y_move rfl) rfl rfl rfl ?_
        refine VQ_y (fun w' hw' => Y_subI rfl rfl) rfl rfl rfl ?_
        obtain ⟨x144, hx144, ho111⟩ := Option.bind_eq_some_iff.1 ho111
        refine VQ_indexAddr h_l hx144 Tryz.underlying26 Tryz.sizeOf41 rfl rfl rfl ?_
        intro b145 o146 h147
        refine VQ_tail (fun w148 hk149 => ?_)
        try simp only [List.take, List.drop]
        have ht150 := Kp.tr (Dw := Dw) hk149 hA hB
        replace hH := Hp.kp (Dw := Dw) hH hk149
        replace h142 := Sl.tr (Dw := Dw) h142 ht150
        replace h147 := El.tr (Dw := Dw) h147 ht150
        replace h63 := Sl.tr (Dw := Dw) h63 ht150
        replace h65 := Sl.tr (Dw := Dw) h65 ht150
        replace hr113 := Tr.trans (Dw := Dw) hr113 ht150
        replace hB := Nat.le_trans hB ht150.ex.size
        replace hA := ht150.new
        replace hH : Hp B A68 w148 (obC b40 [v62, v64, .int .i64 s60.level, v66] 38 :: obPS (ob_level_running) 44 v66 s60.clocks :: L) := Hp.front hH (i := 1) rfl
        obtain ⟨x151, hx151, ho111⟩ := Option.bind_eq_some_iff.1 ho111
        refine V_call Tryz.call10 rfl rfl rfl rfl (level_keeper_point_c (Dw := Dw) w148 hB hA s60 b40 v62 h63 v64 h65 v66 x93 v141 h142 (some x144) (.pointer (some ⟨b145, o146, none⟩)) (show OEl _ _ _ (some _) from ⟨_, _, rfl, h147⟩) hH hx151) ?_
        rintro _ w158 ⟨v152, v154, v156, A159, rfl, h153, h155, hH160, ht161⟩
        replace hr113 := Tr.trans (Dw := Dw) hr113 ht161
        replace hH : Hp B A159 w158 (obC b40 [v152, v154, .int .i64 x151.level, v156] 38 :: obPS (ob_level_running) 44 v156 x151.clocks :: L) := hH160
        obtain rfl := Option.some.inj ho111
        refine V_end (fun a ha162 => ?_)
        replace hH : Hp B A159 w158 (obPS (ob_level_running) 44 v156 x151.clocks :: obC b40 [v152, v154, .int .i64 x151.level, v156] 38 :: L) := Hp.front hH (i := 1) rfl
        exact ⟨(v152, v154, v156, A159), ha162.sub ⟨rfl, rfl, rfl, rfl, rfl, trivial⟩, ⟨h153, h155, hH, hr113⟩⟩
      rintro ⟨v114, v116, v118, A123⟩ w120 ⟨h115, h117, hH124, hk121⟩ a ha122
      replace hr81 := Tr.trans (Dw := Dw) hr81 hk121
      replace hA := hk121.new
      replace hH : Hp B A123 w120 (obPS (ob_level_running) 44 v118 s112.clocks :: obC b40 [v114, v116, .int .i64 s112.level, v118] 38 :: L) := hH124
      obtain rfl := Option.some.inj ho79
      exact ⟨(v114, v116, v118, A123), ha122.sub ⟨rfl, rfl, rfl, rfl, rfl, trivial⟩, ⟨h115, h117, hH, hr81⟩⟩
     rintro ⟨v82, v84, v86, A91⟩ w88 ⟨h83, h85, hH92, hk89⟩ a ha90
     replace hr47 := Tr.trans (Dw := Dw) hr47 hk89
     replace hA := hk89.new
     replace hH : Hp B A91 w88 (obPS (ob_level_running) 44 v86 s80.clocks :: obC b40 [v82, v84, .int .i64 s80.level, v86] 38 :: L) := hH92
     refine C_at (n := ⟨65, [], none⟩) (fun _ _ => rfl) ?_ ha90
     refine C_region ?_
     refine V_y (Y_addI rfl rfl) rfl rfl rfl ?_
     refine V_y (Y_move rfl) rfl rfl rfl ?_
     obtain rfl := Option.some.inj h71
     refine V_end (fun a ha164 => ?_)
     exact ⟨s80, hlt74, h72, ⟨(v82, v84, v86, A91), ha164.sub ⟨rfl, rfl, rfl, rfl, (congrArg (fun z => some (Value.int .i64 z)) (w64_succ hlt74 hn77)), trivial⟩, ⟨h83, h85, hH, hr47⟩⟩⟩
    ·refine C_exit (fun a ha165 => ?_)
     exact ⟨(s60, v62, v64, v66, A68), ha165.sub ⟨rfl, trivial⟩, ⟨(h75 (eq_of_dec hle73 hc78)).symm, h63, h65, hH, hr47⟩⟩
   rintro ⟨s46, v52, v54, v56, A58⟩ w49 ⟨rfl, h53, h55, hH59, hk50⟩ a ha51
   rw [Lp.andThen_fin] at hm
   replace hK := Tr.trans (Dw := Dw) hK hk50
   replace hB := Nat.le_trans hB hk50.ex.size
   replace hA := hk50.new
   replace hH : Hp B A58 w49 (obPS (ob_level_running) 44 v56 s46.clocks :: obC b40 [v52, v54, .int .i64 s46.level, v56] 38 :: L) := hH59
   refine C_at (n := ⟨65, [], none⟩) (fun _ _ => rfl) ?_ ha51
   refine C_seq ?_
   refine C_region ?_
   refine V_y (Y_assign rfl) rfl rfl rfl ?_
   refine V_to (fun _ _ => rfl) ?_
   refine C_seq ?_
   refine C_seq ?_
   refine C_region ?_
   refine V_y (Y_move rfl) rfl rfl rfl ?_
   refine V_y (Y_nilCheck rfl) rfl rfl rfl ?_
   refine V_y (Y_fieldAddrC (off2 := 3) Tryz.underlying38 rfl Tryz.sizeOf36 (by decide) rfl rfl) rfl rfl rfl ?_
   refine V_y (Y_load (Hp.cell (j := 3) hH (i := 1) rfl rfl) Tryz.isAgg36 rfl) rfl rfl rfl ?_
   refine V_y (Y_lenPS (Hp.psForm (f := ob_level_running) (e := 44) (v := v56) (cs := s46.clocks) hH (i := 0) rfl) rfl Tryz.underlying36 rfl) rfl rfl rfl ?_
   refine V_y (Y_move rfl) rfl rfl rfl ?_
   refine V_to (fun _ _ => rfl) ?_
   replace hH : Hp B A58 w49 (obPD (ob_level_running) 44 v56 s46.clocks 0 :: obC b40 [v52, v54, .int .i64 s46.level, v56] 38 :: L) := Hp.toPD hH (i := 0) rfl
   replace hH : Hp B A58 w49 (obS (α := level_Clock) 47 (.slice none 0 0) ([] : (List level_Clock)) :: obPD (ob_level_running) 44 v56 s46.clocks 0 :: obC b40 [v52, v54, .int .i64 s46.level, v56] 38 :: L) := Hp.addNil (α := level_Clock) (e := 47) hH
   have hn191 := Hp.pdLe (f := ob_level_running) (e := 44) (v := v56) (cs := s46.clocks) (k := 0) hH (i := 1) rfl
   obtain ⟨o167, ho167, hm⟩ := Option.bind_eq_some_iff.1 hm
   refine C_cutG (ι := ((List level_Clock) × Value × (Nat → Prop))) (fun ⟨s168, v174, A176⟩ => [(11, v174)]) (fun ⟨s168, v174, A176⟩ => fun w' => o167 = .fin s168 ∧ Hp B A176 w' (obS (α := level_Clock) 47 v174 s168 :: obC b40 [v52, v54, .int .i64 s46.level, v56] 38 :: L) ∧ Tr Dw B A58 w49 A176 w') ?_ ?_
   ·refine C_block ?_
    refine C_range ho167 (fun k170 s178 a w' => ∃ i : (Value × (Nat → Prop)), Has ⟨65, [], none⟩ a ([(11, i.1), (50, v56), (51, .int .i64 (s46.clocks.length : Int)), (52, .int .i64 (k170 : Int))]) ∧ Hp B i.2 w' (obS (α := level_Clock) 47 i.1 s178 :: obPD (ob_level_running) 44 v56 s46.clocks k170 :: obC b40 [v52, v54, .int .i64 s46.level, v56] 38 :: L) ∧ Tr Dw B A58 w49 i.2 w') (fun a ha => ⟨(.slice none 0 0, A58), ha.sub ⟨rfl, rfl, rfl, rfl, trivial⟩, ⟨hH, Tr.refl (Dw := Dw) hA⟩⟩) ?_
    rintro K k170 s178 a w179 ⟨⟨v180, A182⟩, ha223, hH183, hr169⟩ hle187 K190 h189
    refine C_of ?_ ha223
    replace hB := Nat.le_trans hB hr169.ex.size
    replace hA := hr169.new
    replace hH : Hp B A182 w179 (obS (α := level_Clock) 47 v180 s178 :: obPD (ob_level_running) 44 v56 s46.clocks k170 :: obC b40 [v52, v54, .int .i64 s46.level, v56] 38 :: L) := hH183
    refine C_seq (C_region (V_y (Y_lss rfl rfl) rfl rfl rfl (V_to (fun _ _ => rfl) ?_)))
    refine C_seq ?_
    refine C_cond rfl (fun hc192 => ?_) (fun hc192 => ?_)
    ·have hlt188 := lt_of_dec hc192
     obtain ⟨x184, h185, h186⟩ := K190 hlt188
     refine C_skip_to (fun _ _ => rfl) ?_
     refine C_seq ?_
     refine C_block ?_
     refine C_seq ?_
     refine C_region ?_
     obtain ⟨x193, hx193, h185⟩ := Option.bind_eq_some_iff.1 h185
     refine V_indexAddrPD (f := ob_level_running) (e := 44) (v := v56) (cs := s46.clocks) (ix := k170) hH (i := 1) rfl hx193 Tryz.underlying36 Tryz.sizeOf44 rfl rfl rfl ?_
     intro b194 o195 b197 h196 hH
     obtain ⟨v199, hH201⟩ := Hp.open (F := obF_level_running b197 x193) hH
     replace hH : Hp B A182 w179 (obC b197 [.int .i64 x193.clock.kind, .int .i64 x193.clock.level, .int .i64 x193.clock.minutes, .int .i64 x193.clock.start, .int .i64 x193.clock.stop, .int .i64 x193.clock.end_, v199, .int .i64 x193.target.kind, .int .i64 x193.target.minutes, .int .i64 x193.target.calendar, .bool x193.goes] 51 :: obS (α := level_Piece) 67 v199 x193.clock.pieces :: obS (α := level_Clock) 47 v180 s178 :: obPD (ob_level_running) 44 v56 s46.clocks (k170 + 1) :: obC b40 [v52, v54, .int .i64 s46.level, v56] 38 :: L) := hH201
     refine V_y (Y_load h196 Tryz.isAgg44 rfl) rfl rfl rfl ?_
     refine V_y (Y_assign rfl) rfl rfl rfl ?_
     refine V_to (fun _ _ => rfl) ?_
     refine C_region ?_
     refine V_y (Y_move rfl) rfl rfl rfl ?_
     refine V_y (Y_move rfl) rfl rfl rfl ?_
     refine V_y (Y_nilCheck rfl) rfl rfl rfl ?_
     refine V_y (Y_fieldAddrC (off2 := 0) Tryz.underlying51 rfl Tryz.sizeOf47 (by decide) rfl rfl) rfl rfl rfl ?_
     refine V_y (Y_loadA (Hp.part (off := 0) (n := 7) (ds := [.int .i64 x193.clock.kind, .int .i64 x193.clock.level, .int .i64 x193.clock.minutes, .int .i64 x193.clock.start, .int .i64 x193.clock.stop, .int .i64 x193.clock.end_, v199]) hH (i := 0) rfl rfl) Tryz.isAgg47 Tryz.sizeOf47 rfl) rfl rfl rfl ?_
     obtain ⟨A202, ht203, h204, hH205⟩ := Hp.freeze (Dw := Dw) (α := level_Piece) (v := v199) (l := x193.clock.pieces) hH (i := 1) rfl hA
     replace hr169 := Tr.trans (Dw := Dw) hr169 ht203
     replace hB := Nat.le_trans hB ht203.ex.size
     replace hA := ht203.new
     replace hH : Hp B A202 w179 (obC b197 [.int .i64 x193.clock.kind, .int .i64 x193.clock.level, .int .i64 x193.clock.minutes, .int .i64 x193.clock.start, .int .i64 x193.clock.stop, .int .i64 x193.clock.end_, v199, .int .i64 x193.target.kind, .int .i64 x193.target.minutes, .int .i64 x193.target.calendar, .bool x193.goes] 51 :: obS (α := level_Clock) 47 v180 s178 :: obPD (ob_level_running) 44 v56 s46.clocks (k170 + 1) :: obC b40 [v52, v54, .int .i64 s46.level, v56] 38 :: L) := hH205
     refine V_buildSlice (Dw := Dw) (cells := #[.int .i64 x193.clock.kind, .int .i64 x193.clock.level, .int .i64 x193.clock.minutes, .int .i64 x193.clock.start, .int .i64 x193.clock.stop, .int .i64 x193.clock.end_, v199]) (l := ([x193.clock] : List level_Clock)) (len := 1) Tryz.underlying27 Tryz.sizeOf47 Tryz.zeroValue47 rfl (by obtain ⟨a211, c212, e213, _⟩ := Sl.form h204; subst e213; kernel_rfl) (show (1 * 7 : Nat) ≠ 0 by decide) (show (1 * 7 : Nat) ≤ 2 ^ 24 by decide) hA ⟨[.int .i64 x193.clock.kind, .int .i64 x193.clock.level, .int .i64 x193.clock.minutes, .int .i64 x193.clock.start, .int .i64 x193.clock.stop, .int .i64 x193.clock.end_, v199], _, rfl, ⟨[.int .i64 x193.clock.kind], _, rfl, rfl, ⟨[.int .i64 x193.clock.level], _, rfl, rfl, ⟨[.int .i64 x193.clock.minutes], _, rfl, rfl, ⟨[.int .i64 x193.clock.start], _, rfl, rfl, ⟨[.int .i64 x193.clock.stop], _, rfl, rfl, ⟨[.int .i64 x193.clock.end_], _, rfl, rfl, ⟨_, rfl, h204⟩⟩⟩⟩⟩⟩⟩, rfl⟩ rfl rfl ?_
     intro v207 w208 hk210 h209
     have ht214 := Kp.tr (Dw := Dw) hk210 hA hB
     replace hH := Hp.kp (Dw := Dw) hH hk210
     replace hr169 := Tr.trans (Dw := Dw) hr169 ht214
     replace hB := Nat.le_trans hB ht214.ex.size
     replace hA := ht214.new
     obtain ⟨x215, hx215, h185⟩ := Option.bind_eq_some_iff.1 h185
     refine V_appendH (Dw := Dw) (e := 47) (v := v180) (l := s178) (ti := Tryz.t47) (bytes := 72) (lim := 1954687338268) hH (i := 1) rfl h209 hx215 Tryz.underlying27 Tryz_info47 rfl rfl rfl rfl (by decide) (by decide) (by decide) hB hA rfl rfl rfl ?_
     intro v216 w217 A218 hH219 ht220
     replace hr169 := Tr.trans (Dw := Dw) hr169 ht220
     replace hH : Hp B A218 w217 (obC b197 [.int .i64 x193.clock.kind, .int .i64 x193.clock.level, .int .i64 x193.clock.minutes, .int .i64 x193.clock.start, .int .i64 x193.clock.stop, .int .i64 x193.clock.end_, v199, .int .i64 x193.target.kind, .int .i64 x193.target.minutes, .int .i64 x193.target.calendar, .bool x193.goes] 51 :: obS (α := level_Clock) 47 v216 x215 :: obPD (ob_level_running) 44 v56 s46.clocks (k170 + 1) :: obC b40 [v52, v54, .int .i64 s46.level, v56] 38 :: L) := hH219
     refine V_y (Y_assign rfl) rfl rfl rfl ?_
     refine V_to (fun _ _ => rfl) ?_
     refine C_region ?_
     refine V_y (Y_addI rfl rfl) rfl rfl rfl ?_
     refine V_y (Y_move rfl) rfl rfl rfl ?_
     obtain rfl := Option.some.inj h185
     refine V_end (fun a ha221 => ?_)
     replace hH : Hp B A218 w217 (obC b40 [v52, v54, .int .i64 s46.level, v56] 38 :: obC b197 [.int .i64 x193.clock.kind, .int .i64 x193.clock.level, .int .i64 x193.clock.minutes, .int .i64 x193.clock.start, .int .i64 x193.clock.stop, .int .i64 x193.clock.end_, v199, .int .i64 x193.target.kind, .int .i64 x193.target.minutes, .int .i64 x193.target.calendar, .bool x193.goes] 51 :: obS (α := level_Clock) 47 v216 x215 :: obPD (ob_level_running) 44 v56 s46.clocks (k170 + 1) :: L) := Hp.front hH (i := 3) rfl
     replace hH : Hp B A218 w217 (obPD (ob_level_running) 44 v56 s46.clocks (k170 + 1) :: obC b40 [v52, v54, .int .i64 s46.level, v56] 38 :: obC b197 [.int .i64 x193.clock.kind, .int .i64 x193.clock.level, .int .i64 x193.clock.minutes, .int .i64 x193.clock.start, .int .i64 x193.clock.stop, .int .i64 x193.clock.end_, v199, .int .i64 x193.target.kind, .int .i64 x193.target.minutes, .int .i64 x193.target.calendar, .bool x193.goes] 51 :: obS (α := level_Clock) 47 v216 x215 :: L) := Hp.front hH (i := 3) rfl
     replace hH : Hp B A218 w217 (obS (α := level_Clock) 47 v216 x215 :: obPD (ob_level_running) 44 v56 s46.clocks (k170 + 1) :: obC b40 [v52, v54, .int .i64 s46.level, v56] 38 :: obC b197 [.int .i64 x193.clock.kind, .int .i64 x193.clock.level, .int .i64 x193.clock.minutes, .int .i64 x193.clock.start, .int .i64 x193.clock.stop, .int .i64 x193.clock.end_, v199, .int .i64 x193.target.kind, .int .i64 x193.target.minutes, .int .i64 x193.target.calendar, .bool x193.goes] 51 :: L) := Hp.front hH (i := 3) rfl
     replace hH : Hp B A218 w217 (obS (α := level_Clock) 47 v216 x215 :: obPD (ob_level_running) 44 v56 s46.clocks (k170 + 1) :: obC b40 [v52, v54, .int .i64 s46.level, v56] 38 :: L) := Hp.drop hH (i := 3) rfl
     exact ⟨x215, hlt188, h186, ⟨(v216, A218), ha221.sub ⟨rfl, rfl, rfl, (congrArg (fun z => some (Value.int .i64 z)) (w64_succ hlt188 hn191)), trivial⟩, ⟨hH, hr169⟩⟩⟩
    ·refine C_exit (fun a ha222 => ?_)
     replace hH : Hp B A182 w179 (obC b40 [v52, v54, .int .i64 s46.level, v56] 38 :: obS (α := level_Clock) 47 v180 s178 :: obPD (ob_level_running) 44 v56 s46.clocks k170 :: L) := Hp.front hH (i := 2) rfl
     replace hH : Hp B A182 w179 (obS (α := level_Clock) 47 v180 s178 :: obC b40 [v52, v54, .int .i64 s46.level, v56] 38 :: obPD (ob_level_running) 44 v56 s46.clocks k170 :: L) := Hp.front hH (i := 1) rfl
     replace hH : Hp B A182 w179 (obS (α := level_Clock) 47 v180 s178 :: obC b40 [v52, v54, .int .i64 s46.level, v56] 38 :: L) := Hp.drop hH (i := 2) rfl
     exact ⟨(s178, v180, A182), ha222.sub ⟨rfl, trivial⟩, ⟨(h189 (eq_of_dec hle187 hc192)).symm, hH, hr169⟩⟩
   rintro ⟨s168, v174, A176⟩ w171 ⟨rfl, hH177, hk172⟩ a ha173
   rw [Lp.andThen_fin] at hm
   replace hK := Tr.trans (Dw := Dw) hK hk172
   replace hA := hk172.new
   replace hH : Hp B A176 w171 (obS (α := level_Clock) 47 v174 s168 :: obC b40 [v52, v54, .int .i64 s46.level, v56] 38 :: L) := hH177
   refine C_at (n := ⟨65, [], none⟩) (fun _ _ => rfl) ?_ ha173
   refine C_seq ?_
   refine C_region ?_
   refine V_y (Y_move rfl) rfl rfl rfl ?_
   refine V_y (Y_assign rfl) rfl rfl rfl ?_
   refine V_y (Y_assign rfl) rfl rfl rfl ?_
   refine V_to (fun _ _ => rfl) ?_
   obtain rfl := Option.some.inj hm
   replace hH : Hp B A176 w171 (obS (α := level_Clock) 47 v174 s168 :: L) := Hp.drop hH (i := 1) rfl
   refine C_ret ?_
   try simp only [↓inBlock_ret, ↓then_ret]
   exact retQ rfl (Res.two Tryz.results4 rfl rfl) ⟨v174, A176, rfl, hH, hK⟩
def Tryz_strings_Trim_lay_ren : Go.Shelf.Ren := ⟨fun | 119 => 108 | 120 => 105 | 137 => 107 | 151 => 100 | 152 => 104 | 160 => 87 | 197 => 99 | 217 => 111 | 224 => 109 | 225 => 110 | 227 => 91 | 228 => 98 | 231 => 89 | 232 => 90 | 233 => 92 | 234 => 93 | 235 => 94 | 236 => 95 | 260 => 103 | 266 => 112 | 271 => 101 | n => n, fun | 0 => 0 | 1 => 1 | 2 => 2 | 3 => 3 | 4 => 4 | 5 => 5 | 6 => 6 | 7 => 7 | 8 => 8 | 9 => 9 | 10 => 10 | 11 => 11 | 12 => 12 | 13 => 13 | 14 => 14 | 15 => 15 | 16 => 16 | 17 => 17 | 18 => 18 | 19 => 19 | 20 => 20 | 21 => 21 | 23 => 188 | 27 => 212 | 28 => 22 | 29 => 57 | 30 => 173 | 31 => 99 | 34 => 108 | 40 => 197 | 41 => 198 | 46 => 206 | 51 => 220 | 55 => 210 | 63 => 201 | 64 => 203 | 73 => 170 | 80 => 213 | 81 => 219 | 101 => 102 | 104 => 165 | 105 => 199 | 106 => 200 | 111 => 61 | 114 => 211 | 115 => 190 | 116 => 191 | 117 => 192 | 118 => 193 | 119 => 205 | 122 => 189 | 123 => 194 | 124 => 195 | 127 => 224 | 137 => 207 | 138 => 208 | 139 => 209 | 155 => 204 | 164 => 233 | 238 => 214 | 239 => 215 | 240 => 216 | 241 => 217 | 242 => 218 | 243 => 221 | 244 => 222 | 245 => 223 | 246 => 225 | 247 => 226 | 248 => 227 | 249 => 228 | n => n, fun | 1 => 2 | 3 => 0 | 4 => 1 | n => n⟩
theorem Tryz_strings_Trim_lay : Go.Proofs.Lays.n160 Tryz.prog Tryz_strings_Trim_lay_ren := {
 mixed := by kernel_rfl,
 f119 := Tryz.func108.trans (congrArg some (by kernel_rfl)),
 f120 := Tryz.func105.trans (congrArg some (by kernel_rfl)),
 f137 := Tryz.func107.trans (congrArg some (by kernel_rfl)),
 f151 := Tryz.func100.trans (congrArg some (by kernel_rfl)),
 f152 := Tryz.func104.trans (congrArg some (by kernel_rfl)),
 f160 := Tryz.func87.trans (congrArg some (by kernel_rfl)),
 f197 := Tryz.func99.trans (congrArg some (by kernel_rfl)),
 f217 := Tryz.func111.trans (congrArg some (by kernel_rfl)),
 f224 := Tryz.func109.trans (congrArg some (by kernel_rfl)),
 f225 := Tryz.func110.trans (congrArg some (by kernel_rfl)),
 f227 := Tryz.func91.trans (congrArg some (by kernel_rfl)),
 f228 := Tryz.func98.trans (congrArg some (by kernel_rfl)),
 f231 := Tryz.func89.trans (congrArg some (by kernel_rfl)),
 f232 := Tryz.func90.trans (congrArg some (by kernel_rfl)),
 f233 := Tryz.func92.trans (congrArg some (by kernel_rfl)),
 f234 := Tryz.func93.trans (congrArg some (by kernel_rfl)),
 f235 := Tryz.func94.trans (congrArg some (by kernel_rfl)),
 f236 := Tryz.func95.trans (congrArg some (by kernel_rfl)),
 f260 := Tryz.func103.trans (congrArg some (by kernel_rfl)),
 f266 := Tryz.func112.trans (congrArg some (by kernel_rfl)),
 f271 := Tryz.func101.trans (congrArg some (by kernel_rfl)),
 t0 := Tryz.underlying0,
 a0 := Tryz.isAgg0,
 z0 := Tryz.sizeOf0,
 v0 := Tryz.zeroValue0,
 t3 := Tryz.underlying3,
 a3 := Tryz.isAgg3,
 z3 := Tryz.sizeOf3,
 v3 := Tryz.zeroValue3,
 t4 := Tryz.underlying4,
 a4 := Tryz.isAgg4,
 z4 := Tryz.sizeOf4,
 v4 := Tryz.zeroValue4,
 t5 := Tryz.underlying5,
 a5 := Tryz.isAgg5,
 z5 := Tryz.sizeOf5,
 v5 := Tryz.zeroValue5,
 t9 := Tryz.underlying9,
 a9 := Tryz.isAgg9,
 z9 := Tryz.sizeOf9,
 v9 := Tryz.zeroValue9,
 t21 := Tryz.underlying21,
 a21 := Tryz.isAgg21,
 z21 := Tryz.sizeOf21,
 v21 := Tryz.zeroValue21,
 t46 := Tryz.underlying206,
 a46 := Tryz.isAgg206,
 z46 := Tryz.sizeOf206,
 v46 := Tryz.zeroValue206,
 t105 := Tryz.underlying199,
 a105 := Tryz.isAgg199,
 z105 := Tryz.sizeOf199,
 v105 := Tryz.zeroValue199,
 t116 := Tryz.underlying191,
 a116 := Tryz.isAgg191,
 z116 := Tryz.sizeOf191,
 t117 := Tryz.underlying192,
 a117 := Tryz.isAgg192,
 z117 := Tryz.sizeOf192,
 v117 := Tryz.zeroValue192,
 t119 := Tryz.underlying205,
 a119 := Tryz.isAgg205,
 z119 := Tryz.sizeOf205,
 t124 := Tryz.underlying195,
 a124 := Tryz.isAgg195,
 z124 := Tryz.sizeOf195,
 v124 := Tryz.zeroValue195,
 t138 := Tryz.underlying208,
 a138 := Tryz.isAgg208,
 z138 := Tryz.sizeOf208,
 v138 := Tryz.zeroValue208,
 t139 := Tryz.underlying209,
 a139 := Tryz.isAgg209,
 z139 := Tryz.sizeOf209,
 v139 := Tryz.zeroValue209,
 g3 := by kernel_rfl,
 g4 := by kernel_rfl }
theorem strings_Trim_c (w : World) {A : Nat → Prop} (hA : ∀ b, w.heap.size ≤ b → A b) (s : ByteArray) (cutset : ByteArray) {r : ByteArray} (hm : strings_Trim s cutset = some r) : Ret Tryz.prog 87 #[.string s, .string cutset] w fun v w' => v = .string r ∧ Kp False w w' := by
 unfold strings_Trim at hm
 split at hm
 case isFalse => cases hm
 rename_i h
 obtain rfl := Option.some.inj hm
 refine Calls.mono (Go.Proofs.Any.strings_Trim_laid Tryz_strings_Trim_lay (by kernel_rfl) s cutset w h.1 h.2.1 (Go.Proofs.ascii_of_all h.2.2)) ?_
 rintro _ w' ⟨rfl, hk⟩
 exact ⟨_, rfl, rfl, .of hk⟩
set_option maxRecDepth 4000 in
set_option maxHeartbeats 4000000 in
theorem portref2_IsName_c (w : World) {A : Nat → Prop} (hA : ∀ b, w.heap.size ≤ b → A b) (s : ByteArray) {r : Bool} (hm : portref2_IsName s = some r) : Ret Tryz.prog 81 #[.string s] w fun v w' => v = .bool r ∧ Kp False w w' := by
 unfold portref2_IsName at hm
 refine enter Tryz.func81 rfl Tryz.ntmps81 rfl ?_
 have hA0 := hA
 have hB := Nat.le_refl w.heap.size
 have hK : Tr False w.heap.size A w A w := Tr.refl (Dw := False) hA
 have hH : Hp w.heap.size A w [] := Hp.nil
 refine C_seq ?_
 refine C_region ?_
 refine V_y (Y_assign rfl) rfl rfl rfl ?_
 refine V_to (fun _ _ => rfl) ?_
 refine C_seq ?_
 obtain ⟨s2, ho1, hm⟩ := Option.bind_eq_some_iff.1 hm
 refine C_cutG (ι := (Nat → Prop)) (fun (A7 : (Nat → Prop)) => [(2, .bool s2)]) (fun (A7 : (Nat → Prop)) => fun w' => Hp w.heap.size A7 w' ([]) ∧ Tr False w.heap.size A w A7 w') ?_ ?_
 ·have hr3 : Tr False w.heap.size A w A w := Tr.refl (Dw := False) hA
  refine C_region ?_
  refine V_y (Y_move rfl) rfl rfl rfl ?_
  refine V_y (Y_lenStr rfl Tryz.underlying9 rfl) rfl rfl rfl ?_
  refine V_y (Y_geq rfl rfl) rfl rfl rfl ?_
  refine V_y (Y_move rfl) rfl rfl rfl ?_
  rcases Bool.eq_false_or_eq_true (decide ((1 : Int) ≤ (s.size : Int))) with hc9 | hc9
  ·rw [if_pos hc9] at ho1
   refine V_ge rfl rfl rfl hc9 ?_
   refine V_y (Y_move rfl) rfl rfl rfl ?_
   refine V_ge rfl rfl rfl hc9 ?_
   refine V_y (Y_lenStr rfl Tryz.underlying9 rfl) rfl rfl rfl ?_
   refine V_ge rfl rfl rfl hc9 ?_
   refine V_y (Y_leq rfl rfl) rfl rfl rfl ?_
   refine V_y (Y_pick_te rfl hc9 rfl) rfl rfl rfl ?_
   refine V_y (Y_move rfl) rfl rfl rfl ?_
   rcases Bool.eq_false_or_eq_true (decide ((s.size : Int) ≤ 20)) with hc10 | hc10
   ·rw [if_pos hc10] at ho1
    refine V_ge rfl rfl rfl hc10 ?_
    refine V_y (Y_move rfl) rfl rfl rfl ?_
    refine V_ge rfl rfl rfl hc10 ?_
    obtain ⟨x11, hx11, ho1⟩ := Option.bind_eq_some_iff.1 ho1
    refine V_call Tryz.call87 rfl rfl rfl rfl (strings_Trim_c w hA s (⟨#[97, 98, 99, 100, 101, 102, 103, 104, 105, 106, 107, 108, 109, 110, 111, 112, 113, 114, 115, 116, 117, 118, 119, 120, 121, 122, 48, 49, 50, 51, 52, 53, 54, 55, 56, 57, 95]⟩ : ByteArray) hx11) ?_
    rintro _ w12 ⟨rfl, hk13⟩
    have ht14 := Kp.tr (Dw := False) hk13 hA hB
    replace hH := Hp.kp (Dw := False) hH hk13
    replace hr3 := Tr.trans (Dw := False) hr3 ht14
    refine V_ge rfl rfl rfl hc10 ?_
    refine V_y (Y_seql rfl rfl) rfl rfl rfl ?_
    refine V_y (Y_pick_te rfl hc10 rfl) rfl rfl rfl ?_
    refine V_y (Y_assign rfl) rfl rfl rfl ?_
    obtain rfl := Option.some.inj ho1
    refine V_end (fun a ha15 => ?_)
    exact ⟨A, ha15.sub ⟨rfl, trivial⟩, ⟨hH, hr3⟩⟩
   ·rw [if_neg (nt hc10)] at ho1
    refine V_gn rfl rfl rfl hc10 rfl rfl rfl ?_
    refine V_gn rfl rfl rfl hc10 rfl rfl rfl ?_
    refine V_gn rfl rfl rfl hc10 rfl rfl rfl ?_
    refine V_y (Y_pick_fe rfl hc10 rfl) rfl rfl rfl ?_
    refine V_y (Y_assign rfl) rfl rfl rfl ?_
    obtain rfl := Option.some.inj ho1
    refine V_end (fun a ha16 => ?_)
    exact ⟨A, ha16.sub ⟨rfl, trivial⟩, ⟨hH, hr3⟩⟩
  ·rw [if_neg (nt hc9)] at ho1
   refine V_gn rfl rfl rfl hc9 rfl rfl rfl ?_
   refine V_gn rfl rfl rfl hc9 rfl rfl rfl ?_
   refine V_gn rfl rfl rfl hc9 rfl rfl rfl ?_
   refine V_y (Y_pick_fe rfl hc9 rfl) rfl rfl rfl ?_
   refine V_y (Y_move rfl) rfl rfl rfl ?_
   have hc17 : (false : Bool) = false := rfl
   refine V_gn rfl rfl rfl hc17 rfl rfl rfl ?_
   refine V_gn rfl rfl rfl hc17 rfl rfl rfl ?_
   refine V_gn rfl rfl rfl hc17 rfl rfl rfl ?_
   refine V_y (Y_pick_fe rfl hc17 rfl) rfl rfl rfl ?_
   refine V_y (Y_assign rfl) rfl rfl rfl ?_
   obtain rfl := Option.some.inj ho1
   refine V_end (fun a ha18 => ?_)
   exact ⟨A, ha18.sub ⟨rfl, trivial⟩, ⟨hH, hr3⟩⟩
 rintro A7 w4 ⟨hH8, hk5⟩ a ha6
 replace hK := Tr.trans (Dw := False) hK hk5
 replace hA := hk5.new
 replace hH : Hp w.heap.size A7 w4 ([]) := hH8
 refine C_at (n := ⟨16, [], none⟩) (fun _ _ => rfl) ?_ ha6
 obtain rfl := Option.some.inj hm
 refine C_ret ?_
 try simp only [↓inBlock_ret, ↓then_ret]
 exact retQ rfl (Res.one Tryz.results81 rfl) ⟨rfl, hK.kp⟩
set_option maxRecDepth 4000 in
set_option maxHeartbeats 4000000 in
theorem slices_ContainsFunc_Llevel_Level_level_Level_c (w : World) {A : Nat → Prop} (hA : ∀ b, w.heap.size ≤ b → A b) (s : (List level_Level)) (v_s : Value) (h_s : Sl A w v_s s) (f : level_Level → Option Bool) (f_f : FuncId) (f_a f_c : Array Value) (f_call : ∀ (args : Array Value) (w : World), (callFunc f_f args).run Tryz.prog w = .ok (.enter f_f args) w) (f_spec : ∀ (w1 : World) (A1 : Nat → Prop), Tr Dw w.heap.size A w A1 w1 → (∀ b, w1.heap.size ≤ b → A1 b) → ∀ (y0 : level_Level) (v1 : Value) (h2 : Sl A1 w1 v1 y0.tests) (v3 : Value) (h4 : Sl A1 w1 v3 y0.targets) (r : Bool), f y0 = some r → Ret Tryz.prog f_f (f_a ++ #[.agg #[.string y0.name, v1, v3]] ++ f_c) w1 fun v w' => v = .bool r ∧ Kp Dw w1 w') {r : Bool} (hm : slices_ContainsFunc_Llevel_Level_level_Level s f = some r) : Ret Tryz.prog 82 #[v_s, .func (.func f_f) f_a f_c] w fun v w' => v = .bool r ∧ Kp Dw w w' := by
 unfold slices_ContainsFunc_Llevel_Level_level_Level at hm
 refine enter Tryz.func82 rfl Tryz.ntmps82 rfl ?_
 have hA0 := hA
 have hB := Nat.le_refl w.heap.size
 have hK : Tr Dw w.heap.size A w A w := Tr.refl (Dw := Dw) hA
 have hH : Hp w.heap.size A w [] := Hp.nil
 refine C_seq ?_
 refine C_region ?_
 refine V_y (Y_assign rfl) rfl rfl rfl ?_
 refine V_to (fun _ _ => rfl) ?_
 refine C_seq ?_
 refine C_region ?_
 refine V_y (Y_move rfl) rfl rfl rfl ?_
 refine V_y (Y_move rfl) rfl rfl rfl ?_
 obtain ⟨x3, hx3, hm⟩ := Option.bind_eq_some_iff.1 hm
 refine V_call Tryz.call69 rfl rfl rfl rfl (slices_IndexFunc_Llevel_Level_level_Level_c (Dw := Dw) w hA s v_s h_s f f_f f_a f_c f_call (fun w1 A1 ht => f_spec w1 A1 (Tr.trans (Dw := Dw) hK (Tr.lower (Dw := Dw) ht hB))) hx3) ?_
 rintro _ w4 ⟨rfl, hk5⟩
 have ht6 := Kp.tr (Dw := Dw) hk5 hA hB
 replace hK := Tr.trans (Dw := Dw) hK ht6
 refine V_y (Y_geq rfl rfl) rfl rfl rfl ?_
 refine V_y (Y_assign rfl) rfl rfl rfl ?_
 refine V_to (fun _ _ => rfl) ?_
 obtain rfl := Option.some.inj hm
 refine C_ret ?_
 try simp only [↓inBlock_ret, ↓then_ret]
 exact retQ rfl (Res.one Tryz.results82 rfl) ⟨rfl, hK.kp⟩
set_option maxRecDepth 4000 in
set_option maxHeartbeats 4000000 in
theorem portref2_levelFault_1_c (w : World) {A : Nat → Prop} (hA : ∀ b, w.heap.size ≤ b → A b) (y : level_Level) (v_y0 : Value) (h_y0 : Sl A w v_y0 y.tests) (v_y1 : Value) (h_y1 : Sl A w v_y1 y.targets) (p1 : level_Level) (b_p1 : Nat) (h_p1 : El A w b_p1 0 p1) {r : Bool} (hm : portref2_levelFault_1 y p1 = some r) : Ret Tryz.prog 83 #[.agg #[.string y.name, v_y0, v_y1], .pointer (some ⟨b_p1, 0, none⟩)] w fun v w' => v = .bool r ∧ Kp Dw w w' := by
 unfold portref2_levelFault_1 at hm
 refine enter Tryz.func83 rfl Tryz.ntmps83 rfl ?_
 have hA0 := hA
 have hB := Nat.le_refl w.heap.size
 have hK : Tr Dw w.heap.size A w A w := Tr.refl (Dw := Dw) hA
 have hH : Hp w.heap.size A w [] := Hp.nil
 refine C_seq ?_
 refine C_region ?_
 refine V_box rfl rfl ?_
 intro b5 w6 h7
 have hk9 := h7.kp (Dw := Dw)
 have h8 : El (α := level_Level) A w6 b5 0 y := h7.el hA ⟨[.string y.name], _, rfl, rfl, ⟨[v_y0], _, rfl, ⟨_, rfl, h_y0⟩, ⟨_, rfl, h_y1⟩⟩⟩
 have ht10 := Kp.tr (Dw := Dw) hk9 hA hB
 replace h_p1 := El.tr (Dw := Dw) h_p1 ht10
 replace hK := Tr.trans (Dw := Dw) hK ht10
 refine V_y (Y_assign rfl) rfl rfl rfl ?_
 refine V_to (fun _ _ => rfl) ?_
 refine C_seq ?_
 refine C_region ?_
 have h11 := El_level_Level_0 h8
 refine V_y (Y_fieldAddr Tryz.underlying147 rfl Tryz.sizeOf9 (by decide) rfl) rfl rfl rfl ?_
 refine V_y (Y_load (El.str h11) Tryz.isAgg9 rfl) rfl rfl rfl ?_
 have h12 := El_level_Level_0 h_p1
 refine V_y (Y_fieldAddr Tryz.underlying147 rfl Tryz.sizeOf9 (by decide) rfl) rfl rfl rfl ?_
 refine V_y (Y_load (El.str h12) Tryz.isAgg9 rfl) rfl rfl rfl ?_
 refine V_y (Y_seql rfl rfl) rfl rfl rfl ?_
 refine V_y (Y_assign rfl) rfl rfl rfl ?_
 refine V_to (fun _ _ => rfl) ?_
 obtain rfl := Option.some.inj hm
 refine C_ret ?_
 try simp only [↓inBlock_ret, ↓then_ret]
 exact retQ rfl (Res.one Tryz.results83 rfl) ⟨rfl, hK.kp⟩
set_option maxRecDepth 4000 in
set_option maxHeartbeats 4000000 in
theorem portref2_IsMoment_c (w : World) (m : Int) : Ret Tryz.prog 53 #[.int .i64 m] w fun v w' => v = .bool (portref2_IsMoment m) ∧ w = w' := by
 generalize hm : portref2_IsMoment m = r
 unfold portref2_IsMoment at hm
 refine enter Tryz.func53 rfl Tryz.ntmps53 rfl ?_
 refine C_seq ?_
 refine C_region ?_
 refine V_y (Y_assign rfl) rfl rfl rfl ?_
 refine V_to (fun _ _ => rfl) ?_
 refine C_seq ?_
 refine C_region ?_
 refine V_y (Y_move rfl) rfl rfl rfl ?_
 refine V_y (Y_geq rfl rfl) rfl rfl rfl ?_
 refine V_y (Y_move rfl) rfl rfl rfl ?_
 refine V_cut 3 (fun _ : Unit => [(8, .bool ((decide ((0 : Int) ≤ m)) && (decide (m ≤ 3000000))))]) (fun _ w' => w = w') ?_ ?_
 ·simp only [List.take, List.drop]
  rcases Bool.eq_false_or_eq_true (decide ((0 : Int) ≤ m)) with hc1 | hc1
  ·refine V_ge rfl rfl rfl hc1 ?_
   refine V_y (Y_move rfl) rfl rfl rfl ?_
   refine V_ge rfl rfl rfl hc1 ?_
   refine V_y (Y_leq rfl rfl) rfl rfl rfl ?_
   refine V_y (Y_pick_te rfl hc1 rfl) rfl rfl rfl ?_
   exact V_end fun a ha => ⟨(), ha.sub ⟨(by rw [hc1]; rfl), trivial⟩, rfl⟩
  ·refine V_gn rfl rfl rfl hc1 rfl rfl rfl ?_
   refine V_gn rfl rfl rfl hc1 rfl rfl rfl ?_
   refine V_y (Y_pick_fe rfl hc1 rfl) rfl rfl rfl ?_
   exact V_end fun a ha => ⟨(), ha.sub ⟨(by rw [hc1]; rfl), trivial⟩, rfl⟩
 simp only [List.take, List.drop]
 rintro _ _ rfl
 refine V_y (Y_assign rfl) rfl rfl rfl ?_
 refine V_to (fun _ _ => rfl) ?_
 obtain rfl := hm
 refine C_ret ?_
 try simp only [↓inBlock_ret, ↓then_ret]
 exact retQ rfl (Res.one Tryz.results53 rfl) ⟨rfl, rfl⟩
set_option maxRecDepth 4000 in
set_option maxHeartbeats 4000000 in
theorem portref2_lowByte_1_c (w : World) (r_ : Int) : Ret Tryz.prog 97 #[.int .i32 r_] w fun v w' => v = .bool (portref2_lowByte_1 r_) ∧ w = w' := by
 generalize hm : portref2_lowByte_1 r_ = r
 unfold portref2_lowByte_1 at hm
 refine enter Tryz.func97 rfl Tryz.ntmps97 rfl ?_
 refine C_seq ?_
 refine C_region ?_
 refine V_y (Y_assign rfl) rfl rfl rfl ?_
 refine V_to (fun _ _ => rfl) ?_
 refine C_seq ?_
 refine C_region ?_
 refine V_y (Y_move rfl) rfl rfl rfl ?_
 refine V_y (Y_lss rfl rfl) rfl rfl rfl ?_
 refine V_y (Y_move rfl) rfl rfl rfl ?_
 refine V_cut 3 (fun _ : Unit => [(8, .bool ((decide (r_ < 32)) || (r_ == 127)))]) (fun _ w' => w = w') ?_ ?_
 ·simp only [List.take, List.drop]
  rcases Bool.eq_false_or_eq_true (decide (r_ < 32)) with hc1 | hc1
  ·refine V_gn rfl rfl rfl hc1 rfl rfl rfl ?_
   refine V_gn rfl rfl rfl hc1 rfl rfl rfl ?_
   refine V_y (Y_pick_te rfl hc1 rfl) rfl rfl rfl ?_
   exact V_end fun a ha => ⟨(), ha.sub ⟨(by rw [hc1]; rfl), trivial⟩, rfl⟩
  ·refine V_ge rfl rfl rfl hc1 ?_
   refine V_y (Y_move rfl) rfl rfl rfl ?_
   refine V_ge rfl rfl rfl hc1 ?_
   refine V_y (Y_eql rfl rfl) rfl rfl rfl ?_
   refine V_y (Y_pick_fe rfl hc1 rfl) rfl rfl rfl ?_
   exact V_end fun a ha => ⟨(), ha.sub ⟨(by rw [hc1]; rfl), trivial⟩, rfl⟩
 simp only [List.take, List.drop]
 rintro _ _ rfl
 refine V_y (Y_assign rfl) rfl rfl rfl ?_
 refine V_to (fun _ _ => rfl) ?_
 obtain rfl := hm
 refine C_ret ?_
 try simp only [↓inBlock_ret, ↓then_ret]
 exact retQ rfl (Res.one Tryz.results97 rfl) ⟨rfl, rfl⟩
set_option maxRecDepth 4000 in
set_option maxHeartbeats 4000000 in
theorem portref2_lowByte_c (w : World) {A : Nat → Prop} (hA : ∀ b, w.heap.size ≤ b → A b) (s : ByteArray) {r : Bool} (hm : portref2_lowByte s = some r) : Ret Tryz.prog 88 #[.string s] w fun v w' => v = .bool r ∧ Kp False w w' := by
 unfold portref2_lowByte at hm
 refine enter Tryz.func88 rfl Tryz.ntmps88 rfl ?_
 have hA0 := hA
 have hB := Nat.le_refl w.heap.size
 have hK : Tr False w.heap.size A w A w := Tr.refl (Dw := False) hA
 have hH : Hp w.heap.size A w [] := Hp.nil
 refine C_seq ?_
 refine C_region ?_
 refine V_y (Y_assign rfl) rfl rfl rfl ?_
 refine V_to (fun _ _ => rfl) ?_
 refine C_seq ?_
 refine C_region ?_
 refine V_y (Y_move rfl) rfl rfl rfl ?_
 refine V_call Tryz.call96 rfl rfl rfl rfl (contains_wrap (Go.Proofs.Any.strings_ContainsFunc_grows Tryz_contains_lay 97 #[] (fun args w => Tryz.call97 args w) (fun y => portref2_lowByte_1 (y : Int)) s w (fun W x _ _ => Calls.mono (portref2_lowByte_1_c W (x : Int)) fun _ _ h => contains_fn h))) ?_
 rintro _ w1 ⟨rfl, hk2⟩
 have ht3 := Kp.tr (Dw := False) hk2 hA hB
 replace hK := Tr.trans (Dw := False) hK ht3
 refine V_y (Y_assign rfl) rfl rfl rfl ?_
 refine V_to (fun _ _ => rfl) ?_
 obtain rfl := Option.some.inj hm
 refine C_ret ?_
 try simp only [↓inBlock_ret, ↓then_ret]
 exact retQ rfl (Res.one Tryz.results88 rfl) ⟨rfl, hK.kp⟩
end Go.Proofs.YtfbiebageicnaaaGreatDoor.W
