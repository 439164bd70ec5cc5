import Derived.Test.YtfbiebageicnaaaGreatDoorLevelClocksW5
namespace Go.Proofs.YtfbiebageicnaaaGreatDoor.W
open Go Go.RowKit Go.Pu Go.Gw Go.Proofs Go.Proofs.YtfbiebageicnaaaGreatDoor.M
set_option linter.unusedVariables false
set_option linter.unusedSimpArgs false
variable {Dw : Prop}
set_option maxRecDepth 4000 in
set_option maxHeartbeats 4000000 in
theorem slices_EqualFunc_Llevel_Clock_Llevel_Clock_level_Clock_level_Clock_c (w : World) {A : Nat → Prop} (hA : ∀ b, w.heap.size ≤ b → A b) (s1 : (List level_Clock)) (v_s1 : Value) (h_s1 : Sl A w v_s1 s1) (s2 : (List level_Clock)) (v_s2 : Value) (h_s2 : Sl A w v_s2 s2) (eq : level_Clock → level_Clock → Option Bool) (eq_f : FuncId) (eq_a eq_c : Array Value) (eq_call : ∀ (args : Array Value) (w : World), (callFunc eq_f args).run Tryz.prog w = .ok (.enter eq_f args) w) (eq_spec : ∀ (w1 : World) (A1 : Nat → Prop), Tr Dw w.heap.size A w A1 w1 → (∀ b, w1.heap.size ≤ b → A1 b) → ∀ (y0 : level_Clock) (v1 : Value) (h2 : Sl A1 w1 v1 y0.pieces) (y1 : level_Clock) (v3 : Value) (h4 : Sl A1 w1 v3 y1.pieces) (r : Bool), eq y0 y1 = some r → Ret Tryz.prog eq_f (eq_a ++ #[.agg #[.int .i64 y0.kind, .int .i64 y0.level, .int .i64 y0.minutes, .int .i64 y0.start, .int .i64 y0.stop, .int .i64 y0.end_, v1], .agg #[.int .i64 y1.kind, .int .i64 y1.level, .int .i64 y1.minutes, .int .i64 y1.start, .int .i64 y1.stop, .int .i64 y1.end_, v3]] ++ eq_c) w1 fun v w' => v = .bool r ∧ Kp Dw w1 w') {r : Bool} (hm : slices_EqualFunc_Llevel_Clock_Llevel_Clock_level_Clock_level_Clock s1 s2 eq = some r) : Ret Tryz.prog 50 #[v_s1, v_s2, .func (.func eq_f) eq_a eq_c] w fun v w' => v = .bool r ∧ Kp Dw w w' := by
 unfold slices_EqualFunc_Llevel_Clock_Llevel_Clock_level_Clock_level_Clock at hm
 refine enter Tryz.func50 rfl Tryz.ntmps50 rfl ?_
 have hA0 := hA
 have hB := Nat.le_refl w.heap.size
 have hK : Tr Dw w.heap.size A w A w := Tr.refl (Dw := Dw) hA
 have hH : Hp w.heap.size A w [] := Hp.nil
 refine C_seq ?_
 refine C_region ?_
 refine V_y (Y_assign rfl) rfl rfl rfl ?_
 refine V_to (fun _ _ => rfl) ?_
 refine C_seq ?_
 refine C_seq ?_
 refine C_region ?_
 refine V_y (Y_move rfl) rfl rfl rfl ?_
 refine V_y (Y_lenSl h_s1 rfl Tryz.underlying27 rfl) rfl rfl rfl ?_
 refine V_y (Y_move rfl) rfl rfl rfl ?_
 refine V_y (Y_lenSl h_s2 rfl Tryz.underlying27 rfl) rfl rfl rfl ?_
 refine V_y (Y_neq rfl rfl) rfl rfl rfl ?_
 refine V_to (fun _ _ => rfl) ?_
 refine C_cond rfl (fun hc5 => ?_) (fun hc5 => ?_)
 ·rw [if_pos hc5] at hm
  refine C_seq ?_
  refine C_region ?_
  refine V_y (Y_assign rfl) rfl rfl rfl ?_
  refine V_to (fun _ _ => rfl) ?_
  obtain rfl := Option.some.inj hm
  refine C_ret ?_
  try simp only [↓inBlock_ret, ↓then_ret]
  exact retQ rfl (Res.one Tryz.results50 rfl) ⟨rfl, hK.kp⟩
 ·rw [if_neg (nt hc5)] at hm
  refine C_skip_to (fun _ _ => rfl) ?_
  refine C_seq ?_
  refine C_seq ?_
  refine C_region ?_
  refine V_y (Y_move rfl) rfl rfl rfl ?_
  refine V_y (Y_lenSl h_s1 rfl Tryz.underlying27 rfl) rfl rfl rfl ?_
  refine V_y (Y_move rfl) rfl rfl rfl ?_
  refine V_to (fun _ _ => rfl) ?_
  have hn27 := Sl.le h_s1
  obtain ⟨o6, ho6, hm⟩ := Option.bind_eq_some_iff.1 hm
  refine C_cutG (ι := (Unit × (Nat → Prop))) (fun ⟨s7, A13⟩ => []) (fun ⟨s7, A13⟩ => fun w' => o6 = .fin s7 ∧ Hp w.heap.size A13 w' ([]) ∧ Tr Dw w.heap.size A w A13 w') ?_ ?_
  ·refine C_block ?_
   refine C_range ho6 (fun k9 _ a w' => ∃ i : (Nat → Prop), Has ⟨32, [], none⟩ a ([(1, v_s2), (2, .func (.func eq_f) eq_a eq_c), (15, v_s1), (16, .int .i64 (s1.length : Int)), (17, .int .i64 (k9 : Int))]) ∧ Hp w.heap.size i w' ([]) ∧ Tr Dw w.heap.size A w i w') (fun a ha => ⟨A, ha.sub ⟨rfl, rfl, rfl, rfl, rfl, trivial⟩, ⟨hH, Tr.refl (Dw := Dw) hA⟩⟩) ?_
   rintro K k9 _ a w17 ⟨A18, ha78, hH19, hr8⟩ hle23 K26 h25
   refine C_of ?_ ha78
   replace h_s2 := Sl.tr (Dw := Dw) h_s2 hr8
   replace h_s1 := Sl.tr (Dw := Dw) h_s1 hr8
   replace hK := Tr.trans (Dw := Dw) hK hr8
   replace hB := Nat.le_trans hB hr8.ex.size
   replace hA := hr8.new
   replace hH : Hp w.heap.size A18 w17 ([]) := hH19
   refine C_seq (C_region (V_y (Y_lss rfl rfl) rfl rfl rfl (V_to (fun _ _ => rfl) ?_)))
   refine C_seq ?_
   refine C_cond rfl (fun hc28 => ?_) (fun hc28 => ?_)
   ·have hlt24 := lt_of_dec hc28
    obtain ⟨x20, h21, h22⟩ := K26 hlt24
    refine C_skip_to (fun _ _ => rfl) ?_
    refine C_seq ?_
    refine C_block ?_
    refine C_seq ?_
    refine C_region ?_
    refine V_y (Y_move rfl) rfl rfl rfl ?_
    obtain ⟨x29, hx29, h21⟩ := Option.bind_eq_some_iff.1 h21
    refine V_indexAddr h_s1 hx29 Tryz.underlying27 Tryz.sizeOf47 rfl rfl rfl ?_
    intro b30 o31 h32
    obtain ⟨v33, h35, h34⟩ := El_level_Clock h32
    refine V_y (Y_loadA h35 Tryz.isAgg47 Tryz.sizeOf47 rfl) rfl rfl rfl ?_
    refine V_alloc Tryz.zeroValue47 rfl ?_
    intro b36 w37 h38
    refine V_y (Y_assign rfl) rfl rfl rfl ?_
    have h43 : (v33).oneCell' = true := by obtain ⟨_, _, e, _⟩ := Sl.form h34; rw [e]; rfl
    refine V_storeNew h38 Tryz.sizeOf47 rfl rfl rfl rfl (by exact (List.forall_mem_cons.2 ⟨rfl, (List.forall_mem_cons.2 ⟨rfl, (List.forall_mem_cons.2 ⟨rfl, (List.forall_mem_cons.2 ⟨rfl, (List.forall_mem_cons.2 ⟨rfl, (List.forall_mem_cons.2 ⟨rfl, (List.forall_mem_cons.2 ⟨h43, (fun _ h => nomatch h)⟩)⟩)⟩)⟩)⟩)⟩)⟩)) ?_
    intro w39 h40
    have hk45 := h40.kp (Dw := Dw)
    have h44 : El (α := level_Clock) A18 w39 b36 0 x29 := h40.el hA ⟨[.int .i64 x29.kind], _, rfl, rfl, ⟨[.int .i64 x29.level], _, rfl, rfl, ⟨[.int .i64 x29.minutes], _, rfl, rfl, ⟨[.int .i64 x29.start], _, rfl, rfl, ⟨[.int .i64 x29.stop], _, rfl, rfl, ⟨[.int .i64 x29.end_], _, rfl, rfl, ⟨_, rfl, h34⟩⟩⟩⟩⟩⟩⟩
    have ht46 := Kp.tr (Dw := Dw) hk45 hA hB
    replace hH := Hp.kp (Dw := Dw) hH hk45
    replace h_s2 := Sl.tr (Dw := Dw) h_s2 ht46
    replace hK := Tr.trans (Dw := Dw) hK ht46
    replace hr8 := Tr.trans (Dw := Dw) hr8 ht46
    replace hB := Nat.le_trans hB ht46.ex.size
    replace hA := ht46.new
    refine V_to (fun _ _ => rfl) ?_
    refine C_seq ?_
    refine C_region ?_
    refine V_y (Y_move rfl) rfl rfl rfl ?_
    refine V_y (Y_move rfl) rfl rfl rfl ?_
    obtain ⟨x47, hx47, h21⟩ := Option.bind_eq_some_iff.1 h21
    refine V_indexAddr h_s2 hx47 Tryz.underlying27 Tryz.sizeOf47 rfl rfl rfl ?_
    intro b48 o49 h50
    obtain ⟨v51, h53, h52⟩ := El_level_Clock h50
    refine V_y (Y_loadA h53 Tryz.isAgg47 Tryz.sizeOf47 rfl) rfl rfl rfl ?_
    refine V_alloc Tryz.zeroValue47 rfl ?_
    intro b54 w55 h56
    have h61 : (v51).oneCell' = true := by obtain ⟨_, _, e, _⟩ := Sl.form h52; rw [e]; rfl
    refine V_storeNew h56 Tryz.sizeOf47 rfl rfl rfl rfl (by exact (List.forall_mem_cons.2 ⟨rfl, (List.forall_mem_cons.2 ⟨rfl, (List.forall_mem_cons.2 ⟨rfl, (List.forall_mem_cons.2 ⟨rfl, (List.forall_mem_cons.2 ⟨rfl, (List.forall_mem_cons.2 ⟨rfl, (List.forall_mem_cons.2 ⟨h61, (fun _ h => nomatch h)⟩)⟩)⟩)⟩)⟩)⟩)⟩)) ?_
    intro w57 h58
    have hk63 := h58.kp (Dw := Dw)
    have h62 : El (α := level_Clock) A18 w57 b54 0 x47 := h58.el hA ⟨[.int .i64 x47.kind], _, rfl, rfl, ⟨[.int .i64 x47.level], _, rfl, rfl, ⟨[.int .i64 x47.minutes], _, rfl, rfl, ⟨[.int .i64 x47.start], _, rfl, rfl, ⟨[.int .i64 x47.stop], _, rfl, rfl, ⟨[.int .i64 x47.end_], _, rfl, rfl, ⟨_, rfl, h52⟩⟩⟩⟩⟩⟩⟩
    have ht64 := Kp.tr (Dw := Dw) hk63 hA hB
    replace hH := Hp.kp (Dw := Dw) hH hk63
    replace h44 := El.tr (Dw := Dw) h44 ht64
    replace hK := Tr.trans (Dw := Dw) hK ht64
    replace hr8 := Tr.trans (Dw := Dw) hr8 ht64
    replace hB := Nat.le_trans hB ht64.ex.size
    replace hA := ht64.new
    refine V_to (fun _ _ => rfl) ?_
    refine C_seq ?_
    refine C_region ?_
    refine V_y (Y_move rfl) rfl rfl rfl ?_
    obtain ⟨v65, h67, h66⟩ := El_level_Clock h44
    refine V_y (Y_loadA h67 Tryz.isAgg47 Tryz.sizeOf47 rfl) rfl rfl rfl ?_
    obtain ⟨v68, h70, h69⟩ := El_level_Clock h62
    refine V_y (Y_loadA h70 Tryz.isAgg47 Tryz.sizeOf47 rfl) rfl rfl rfl ?_
    obtain ⟨x71, hx71, h21⟩ := Option.bind_eq_some_iff.1 h21
    refine V_call eq_call rfl rfl rfl rfl (eq_spec w57 _ hK hA x29 v65 h66 x47 v68 h69 _ hx71) ?_
    rintro _ w72 ⟨rfl, hk73⟩
    have ht74 := Kp.tr (Dw := Dw) hk73 hA hB
    replace hH := Hp.kp (Dw := Dw) hH hk73
    replace hK := Tr.trans (Dw := Dw) hK ht74
    replace hr8 := Tr.trans (Dw := Dw) hr8 ht74
    refine V_y (Y_not rfl) rfl rfl rfl ?_
    refine V_to (fun _ _ => rfl) ?_
    refine C_cond rfl (fun hc75 => ?_) (fun hc75 => ?_)
    ·rw [if_pos hc75] at h21
     refine C_seq ?_
     refine C_region ?_
     refine V_y (Y_assign rfl) rfl rfl rfl ?_
     refine V_to (fun _ _ => rfl) ?_
     obtain rfl := Option.some.inj h21
     obtain rfl := (h22 : Lp.rt _ = _)
     rw [Lp.andThen_rt] at hm
     obtain rfl := Option.some.inj hm
     refine C_ret ?_
     try simp only [↓inBlock_ret, ↓then_ret]
     exact retQ rfl (Res.one Tryz.results50 rfl) ⟨rfl, hK.kp⟩
    ·rw [if_neg (nt hc75)] at h21
     refine C_skip_to (fun _ _ => rfl) ?_
     refine C_region ?_
     refine V_y (Y_addI rfl rfl) rfl rfl rfl ?_
     refine V_y (Y_move rfl) rfl rfl rfl ?_
     obtain rfl := Option.some.inj h21
     refine V_end (fun a ha76 => ?_)
     exact ⟨(), hlt24, h22, ⟨A18, ha76.sub ⟨rfl, rfl, rfl, rfl, (congrArg (fun z => some (Value.int .i64 z)) (w64_succ hlt24 hn27)), trivial⟩, ⟨hH, hr8⟩⟩⟩
   ·refine C_exit (fun a ha77 => ?_)
    exact ⟨((), A18), ha77.sub trivial, ⟨(h25 (eq_of_dec hle23 hc28)).symm, hH, hr8⟩⟩
  rintro ⟨s7, A13⟩ w10 ⟨rfl, hH14, hk11⟩ a ha12
  rw [Lp.andThen_fin] at hm
  replace hK := Tr.trans (Dw := Dw) hK hk11
  replace hA := hk11.new
  replace hH : Hp w.heap.size A13 w10 ([]) := hH14
  refine C_at (n := ⟨32, [], none⟩) (fun _ _ => rfl) ?_ ha12
  refine C_seq ?_
  refine C_region ?_
  refine V_y (Y_assign rfl) rfl rfl rfl ?_
  refine V_to (fun _ _ => rfl) ?_
  obtain rfl := Option.some.inj hm
  refine C_ret ?_
  try simp only [↓inBlock_ret, ↓then_ret]
  exact retQ rfl (Res.one Tryz.results50 rfl) ⟨rfl, hK.kp⟩
set_option maxRecDepth 4000 in
set_option maxHeartbeats 4000000 in
theorem slices_Equal_Llevel_Piece_level_Piece_c (w : World) {A : Nat → Prop} (hA : ∀ b, w.heap.size ≤ b → A b) (s1 : (List level_Piece)) (v_s1 : Value) (h_s1 : Sl A w v_s1 s1) (s2 : (List level_Piece)) (v_s2 : Value) (h_s2 : Sl A w v_s2 s2) {r : Bool} (hm : slices_Equal_Llevel_Piece_level_Piece s1 s2 = some r) : Ret Tryz.prog 73 #[v_s1, v_s2] w fun v w' => v = .bool r ∧ Kp Dw w w' := by
 unfold slices_Equal_Llevel_Piece_level_Piece at hm
 refine enter Tryz.func73 rfl Tryz.ntmps73 rfl ?_
 have hA0 := hA
 have hB := Nat.le_refl w.heap.size
 have hK : Tr Dw w.heap.size A w A w := Tr.refl (Dw := Dw) hA
 have hH : Hp w.heap.size A w [] := Hp.nil
 refine C_seq ?_
 refine C_region ?_
 refine V_y (Y_assign rfl) rfl rfl rfl ?_
 refine V_to (fun _ _ => rfl) ?_
 refine C_seq ?_
 refine C_seq ?_
 refine C_region ?_
 refine V_y (Y_move rfl) rfl rfl rfl ?_
 refine V_y (Y_lenSl h_s1 rfl Tryz.underlying45 rfl) rfl rfl rfl ?_
 refine V_y (Y_move rfl) rfl rfl rfl ?_
 refine V_y (Y_lenSl h_s2 rfl Tryz.underlying45 rfl) rfl rfl rfl ?_
 refine V_y (Y_neq rfl rfl) rfl rfl rfl ?_
 refine V_to (fun _ _ => rfl) ?_
 refine C_cond rfl (fun hc5 => ?_) (fun hc5 => ?_)
 ·rw [if_pos hc5] at hm
  refine C_seq ?_
  refine C_region ?_
  refine V_y (Y_assign rfl) rfl rfl rfl ?_
  refine V_to (fun _ _ => rfl) ?_
  obtain rfl := Option.some.inj hm
  refine C_ret ?_
  try simp only [↓inBlock_ret, ↓then_ret]
  exact retQ rfl (Res.one Tryz.results73 rfl) ⟨rfl, hK.kp⟩
 ·rw [if_neg (nt hc5)] at hm
  refine C_skip_to (fun _ _ => rfl) ?_
  refine C_seq ?_
  refine C_seq ?_
  refine C_region ?_
  refine V_y (Y_move rfl) rfl rfl rfl ?_
  refine V_y (Y_lenSl h_s1 rfl Tryz.underlying45 rfl) rfl rfl rfl ?_
  refine V_y (Y_move rfl) rfl rfl rfl ?_
  refine V_to (fun _ _ => rfl) ?_
  have hn27 := Sl.le h_s1
  obtain ⟨o6, ho6, hm⟩ := Option.bind_eq_some_iff.1 hm
  refine C_cutG (ι := (Unit × (Nat → Prop))) (fun ⟨s7, A13⟩ => []) (fun ⟨s7, A13⟩ => fun w' => o6 = .fin s7 ∧ Hp w.heap.size A13 w' ([]) ∧ Tr Dw w.heap.size A w A13 w') ?_ ?_
  ·refine C_block ?_
   refine C_range ho6 (fun k9 _ a w' => ∃ i : (Nat → Prop), Has ⟨26, [], none⟩ a ([(0, v_s1), (1, v_s2), (12, .int .i64 (s1.length : Int)), (13, .int .i64 (k9 : Int))]) ∧ Hp w.heap.size i w' ([]) ∧ Tr Dw w.heap.size A w i w') (fun a ha => ⟨A, ha.sub ⟨rfl, rfl, rfl, rfl, trivial⟩, ⟨hH, Tr.refl (Dw := Dw) hA⟩⟩) ?_
   rintro K k9 _ a w17 ⟨A18, ha45, hH19, hr8⟩ hle23 K26 h25
   refine C_of ?_ ha45
   replace h_s1 := Sl.tr (Dw := Dw) h_s1 hr8
   replace h_s2 := Sl.tr (Dw := Dw) h_s2 hr8
   replace hK := Tr.trans (Dw := Dw) hK hr8
   replace hB := Nat.le_trans hB hr8.ex.size
   replace hA := hr8.new
   replace hH : Hp w.heap.size A18 w17 ([]) := hH19
   refine C_seq (C_region (V_y (Y_lss rfl rfl) rfl rfl rfl (V_to (fun _ _ => rfl) ?_)))
   refine C_seq ?_
   refine C_cond rfl (fun hc28 => ?_) (fun hc28 => ?_)
   ·have hlt24 := lt_of_dec hc28
    obtain ⟨x20, h21, h22⟩ := K26 hlt24
    refine C_skip_to (fun _ _ => rfl) ?_
    refine C_seq ?_
    refine C_block ?_
    refine C_seq ?_
    refine C_region ?_
    refine V_y (Y_move rfl) rfl rfl rfl ?_
    refine V_y (Y_assign rfl) rfl rfl rfl ?_
    refine V_to (fun _ _ => rfl) ?_
    refine C_seq ?_
    refine C_region_q (Dw := Dw) Tryz_mixed (by kernel_rfl) ?_
    refine VQ_y (fun w' hw' => Y_move rfl) rfl rfl rfl ?_
    refine VQ_y (fun w' hw' => Y_move rfl) rfl rfl rfl ?_
    obtain ⟨x29, hx29, h21⟩ := Option.bind_eq_some_iff.1 h21
    refine VQ_indexAddr h_s1 hx29 Tryz.underlying45 Tryz.sizeOf67 rfl rfl rfl ?_
    intro b30 o31 h32
    obtain ⟨h33, _⟩ := El_level_Piece h32
    refine VQ_y (fun w' hw' => Y_loadA (At.kp (Dw := Dw) h33 hw' h32.2.1) Tryz.isAgg67 Tryz.sizeOf67 rfl) rfl rfl rfl ?_
    refine VQ_y (fun w' hw' => Y_move rfl) rfl rfl rfl ?_
    refine VQ_y (fun w' hw' => Y_move rfl) rfl rfl rfl ?_
    obtain ⟨x34, hx34, h21⟩ := Option.bind_eq_some_iff.1 h21
    refine VQ_indexAddr h_s2 hx34 Tryz.underlying45 Tryz.sizeOf67 rfl rfl rfl ?_
    intro b35 o36 h37
    obtain ⟨h38, _⟩ := El_level_Piece h37
    refine VQ_y (fun w' hw' => Y_loadA (At.kp (Dw := Dw) h38 hw' h37.2.1) Tryz.isAgg67 Tryz.sizeOf67 rfl) rfl rfl rfl ?_
    refine VQ_y (fun w' hw' => Y_neqA (fun w => Tryz_eqt67_10000 x29.from_ x29.to_ x29.calendar x34.from_ x34.to_ x34.calendar w) Tryz_eqg67 rfl rfl) rfl rfl rfl ?_
    refine VQ_to (fun _ _ => rfl) (fun w39 hk40 => ?_)
    have ht41 := Kp.tr (Dw := Dw) hk40 hA hB
    replace hH := Hp.kp (Dw := Dw) hH hk40
    replace hK := Tr.trans (Dw := Dw) hK ht41
    replace hr8 := Tr.trans (Dw := Dw) hr8 ht41
    refine C_cond rfl (fun hc42 => ?_) (fun hc42 => ?_)
    ·rw [if_pos hc42] at h21
     refine C_seq ?_
     refine C_region ?_
     refine V_y (Y_assign rfl) rfl rfl rfl ?_
     refine V_to (fun _ _ => rfl) ?_
     obtain rfl := Option.some.inj h21
     obtain rfl := (h22 : Lp.rt _ = _)
     rw [Lp.andThen_rt] at hm
     obtain rfl := Option.some.inj hm
     refine C_ret ?_
     try simp only [↓inBlock_ret, ↓then_ret]
     exact retQ rfl (Res.one Tryz.results73 rfl) ⟨rfl, hK.kp⟩
    ·rw [if_neg (nt hc42)] at h21
     refine C_skip_to (fun _ _ => rfl) ?_
     refine C_region ?_
     refine V_y (Y_addI rfl rfl) rfl rfl rfl ?_
     refine V_y (Y_move rfl) rfl rfl rfl ?_
     obtain rfl := Option.some.inj h21
     refine V_end (fun a ha43 => ?_)
     exact ⟨(), hlt24, h22, ⟨A18, ha43.sub ⟨rfl, rfl, rfl, (congrArg (fun z => some (Value.int .i64 z)) (w64_succ hlt24 hn27)), trivial⟩, ⟨hH, hr8⟩⟩⟩
   ·refine C_exit (fun a ha44 => ?_)
    exact ⟨((), A18), ha44.sub trivial, ⟨(h25 (eq_of_dec hle23 hc28)).symm, hH, hr8⟩⟩
  rintro ⟨s7, A13⟩ w10 ⟨rfl, hH14, hk11⟩ a ha12
  rw [Lp.andThen_fin] at hm
  replace hK := Tr.trans (Dw := Dw) hK hk11
  replace hA := hk11.new
  replace hH : Hp w.heap.size A13 w10 ([]) := hH14
  refine C_at (n := ⟨26, [], none⟩) (fun _ _ => rfl) ?_ ha12
  refine C_seq ?_
  refine C_region ?_
  refine V_y (Y_assign rfl) rfl rfl rfl ?_
  refine V_to (fun _ _ => rfl) ?_
  obtain rfl := Option.some.inj hm
  refine C_ret ?_
  try simp only [↓inBlock_ret, ↓then_ret]
  exact retQ rfl (Res.one Tryz.results73 rfl) ⟨rfl, hK.kp⟩
set_option maxRecDepth 4000 in
set_option maxHeartbeats 4000000 in
theorem portref2_alikeClock_c (w : World) {A : Nat → Prop} (hA : ∀ b, w.heap.size ≤ b → A b) (a_ : level_Clock) (v_a_ : Value) (h_a_ : Sl A w v_a_ a_.pieces) (b : level_Clock) (v_b : Value) (h_b : Sl A w v_b b.pieces) {r : Bool} (hm : portref2_alikeClock a_ b = some r) : Ret Tryz.prog 51 #[.agg #[.int .i64 a_.kind, .int .i64 a_.level, .int .i64 a_.minutes, .int .i64 a_.start, .int .i64 a_.stop, .int .i64 a_.end_, v_a_], .agg #[.int .i64 b.kind, .int .i64 b.level, .int .i64 b.minutes, .int .i64 b.start, .int .i64 b.stop, .int .i64 b.end_, v_b]] w fun v w' => v = .bool r ∧ Kp Dw w w' := by
 unfold portref2_alikeClock at hm
 refine enter Tryz.func51 rfl Tryz.ntmps51 rfl ?_
 have hA0 := hA
 have hB := Nat.le_refl w.heap.size
 have hK : Tr Dw w.heap.size A w A w := Tr.refl (Dw := Dw) hA
 have hH : Hp w.heap.size A w [] := Hp.nil
 refine C_seq ?_
 refine C_region ?_
 refine V_box rfl rfl ?_
 intro b5 w6 h7
 have hk9 := h7.kp (Dw := Dw)
 have h8 : El (α := level_Clock) A w6 b5 0 a_ := h7.el hA ⟨[.int .i64 a_.kind], _, rfl, rfl, ⟨[.int .i64 a_.level], _, rfl, rfl, ⟨[.int .i64 a_.minutes], _, rfl, rfl, ⟨[.int .i64 a_.start], _, rfl, rfl, ⟨[.int .i64 a_.stop], _, rfl, rfl, ⟨[.int .i64 a_.end_], _, rfl, rfl, ⟨_, rfl, h_a_⟩⟩⟩⟩⟩⟩⟩
 have ht10 := Kp.tr (Dw := Dw) hk9 hA hB
 replace hH := Hp.kp (Dw := Dw) hH hk9
 replace h_b := Sl.tr (Dw := Dw) h_b ht10
 replace hK := Tr.trans (Dw := Dw) hK ht10
 replace hB := Nat.le_trans hB ht10.ex.size
 replace hA := ht10.new
 refine V_box rfl rfl ?_
 intro b11 w12 h13
 have hk15 := h13.kp (Dw := Dw)
 have h14 : El (α := level_Clock) A w12 b11 0 b := h13.el hA ⟨[.int .i64 b.kind], _, rfl, rfl, ⟨[.int .i64 b.level], _, rfl, rfl, ⟨[.int .i64 b.minutes], _, rfl, rfl, ⟨[.int .i64 b.start], _, rfl, rfl, ⟨[.int .i64 b.stop], _, rfl, rfl, ⟨[.int .i64 b.end_], _, rfl, rfl, ⟨_, rfl, h_b⟩⟩⟩⟩⟩⟩⟩
 have ht16 := Kp.tr (Dw := Dw) hk15 hA hB
 replace hH := Hp.kp (Dw := Dw) hH hk15
 replace h8 := El.tr (Dw := Dw) h8 ht16
 replace hK := Tr.trans (Dw := Dw) hK ht16
 replace hB := Nat.le_trans hB ht16.ex.size
 replace hA := ht16.new
 refine V_y (Y_assign rfl) rfl rfl rfl ?_
 refine V_to (fun _ _ => rfl) ?_
 refine C_seq ?_
 obtain ⟨s18, ho17, hm⟩ := Option.bind_eq_some_iff.1 hm
 refine C_cutG (ι := (Nat → Prop)) (fun (A23 : (Nat → Prop)) => [(4, .bool s18)]) (fun (A23 : (Nat → Prop)) => fun w' => Hp w.heap.size A23 w' ([]) ∧ Tr Dw w.heap.size A w12 A23 w') ?_ ?_
 ·have hr19 : Tr Dw w.heap.size A w12 A w12 := Tr.refl (Dw := Dw) hA
  refine C_region ?_
  have h25 := El_level_Clock_0 h8
  refine V_y (Y_fieldAddr Tryz.underlying47 rfl Tryz.sizeOf3 (by decide) rfl) rfl rfl rfl ?_
  refine V_y (Y_load (El.int h25) Tryz.isAgg3 rfl) rfl rfl rfl ?_
  have h26 := El_level_Clock_0 h14
  refine V_y (Y_fieldAddr Tryz.underlying47 rfl Tryz.sizeOf3 (by decide) rfl) rfl rfl rfl ?_
  refine V_y (Y_load (El.int h26) Tryz.isAgg3 rfl) rfl rfl rfl ?_
  refine V_y (Y_eql rfl rfl) rfl rfl rfl ?_
  refine V_y (Y_move rfl) rfl rfl rfl ?_
  rcases Bool.eq_false_or_eq_true (a_.kind == b.kind) with hc27 | hc27
  ·rw [if_pos hc27] at ho17
   refine V_ge rfl rfl rfl hc27 ?_
   have h28 := El_level_Clock_1 h8
   refine V_y (Y_fieldAddr Tryz.underlying47 rfl Tryz.sizeOf3 (by decide) rfl) rfl rfl rfl ?_
   refine V_ge rfl rfl rfl hc27 ?_
   refine V_y (Y_load (El.int h28) Tryz.isAgg3 rfl) rfl rfl rfl ?_
   refine V_ge rfl rfl rfl hc27 ?_
   have h29 := El_level_Clock_1 h14
   refine V_y (Y_fieldAddr Tryz.underlying47 rfl Tryz.sizeOf3 (by decide) rfl) rfl rfl rfl ?_
   refine V_ge rfl rfl rfl hc27 ?_
   refine V_y (Y_load (El.int h29) Tryz.isAgg3 rfl) rfl rfl rfl ?_
   refine V_ge rfl rfl rfl hc27 ?_
   refine V_y (Y_eql rfl rfl) rfl rfl rfl ?_
   refine V_y (Y_pick_te rfl hc27 rfl) rfl rfl rfl ?_
   refine V_y (Y_move rfl) rfl rfl rfl ?_
   rcases Bool.eq_false_or_eq_true (a_.level == b.level) with hc30 | hc30
   ·rw [if_pos hc30] at ho17
    refine V_ge rfl rfl rfl hc30 ?_
    have h31 := El_level_Clock_2 h8
    refine V_y (Y_fieldAddr Tryz.underlying47 rfl Tryz.sizeOf3 (by decide) rfl) rfl rfl rfl ?_
    refine V_ge rfl rfl rfl hc30 ?_
    refine V_y (Y_load (El.int h31) Tryz.isAgg3 rfl) rfl rfl rfl ?_
    refine V_ge rfl rfl rfl hc30 ?_
    have h32 := El_level_Clock_2 h14
    refine V_y (Y_fieldAddr Tryz.underlying47 rfl Tryz.sizeOf3 (by decide) rfl) rfl rfl rfl ?_
    refine V_ge rfl rfl rfl hc30 ?_
    refine V_y (Y_load (El.int h32) Tryz.isAgg3 rfl) rfl rfl rfl ?_
    refine V_ge rfl rfl rfl hc30 ?_
    refine V_y (Y_eql rfl rfl) rfl rfl rfl ?_
    refine V_y (Y_pick_te rfl hc30 rfl) rfl rfl rfl ?_
    refine V_y (Y_move rfl) rfl rfl rfl ?_
    rcases Bool.eq_false_or_eq_true (a_.minutes == b.minutes) with hc33 | hc33
    ·rw [if_pos hc33] at ho17
     refine V_ge rfl rfl rfl hc33 ?_
     have h34 := El_level_Clock_3 h8
     refine V_y (Y_fieldAddr Tryz.underlying47 rfl Tryz.sizeOf3 (by decide) rfl) rfl rfl rfl ?_
     refine V_ge rfl rfl rfl hc33 ?_
     refine V_y (Y_load (El.int h34) Tryz.isAgg3 rfl) rfl rfl rfl ?_
     refine V_ge rfl rfl rfl hc33 ?_
     have h35 := El_level_Clock_3 h14
     refine V_y (Y_fieldAddr Tryz.underlying47 rfl Tryz.sizeOf3 (by decide) rfl) rfl rfl rfl ?_
     refine V_ge rfl rfl rfl hc33 ?_
     refine V_y (Y_load (El.int h35) Tryz.isAgg3 rfl) rfl rfl rfl ?_
     refine V_ge rfl rfl rfl hc33 ?_
     refine V_y (Y_eql rfl rfl) rfl rfl rfl ?_
     refine V_y (Y_pick_te rfl hc33 rfl) rfl rfl rfl ?_
     refine V_y (Y_move rfl) rfl rfl rfl ?_
     rcases Bool.eq_false_or_eq_true (a_.start == b.start) with hc36 | hc36
     ·rw [if_pos hc36] at ho17
      refine V_ge rfl rfl rfl hc36 ?_
      have h37 := El_level_Clock_4 h8
      refine V_y (Y_fieldAddr Tryz.underlying47 rfl Tryz.sizeOf3 (by decide) rfl) rfl rfl rfl ?_
      refine V_ge rfl rfl rfl hc36 ?_
      refine V_y (Y_load (El.int h37) Tryz.isAgg3 rfl) rfl rfl rfl ?_
      refine V_ge rfl rfl rfl hc36 ?_
      have h38 := El_level_Clock_4 h14
      refine V_y (Y_fieldAddr Tryz.underlying47 rfl Tryz.sizeOf3 (by decide) rfl) rfl rfl rfl ?_
      refine V_ge rfl rfl rfl hc36 ?_
      refine V_y (Y_load (El.int h38) Tryz.isAgg3 rfl) rfl rfl rfl ?_
      refine V_ge rfl rfl rfl hc36 ?_
      refine V_y (Y_eql rfl rfl) rfl rfl rfl ?_
      refine V_y (Y_pick_te rfl hc36 rfl) rfl rfl rfl ?_
      refine V_y (Y_move rfl) rfl rfl rfl ?_
      rcases Bool.eq_false_or_eq_true (a_.stop == b.stop) with hc39 | hc39
      ·rw [if_pos hc39] at ho17
       refine V_ge rfl rfl rfl hc39 ?_
       have h40 := El_level_Clock_5 h8
       refine V_y (Y_fieldAddr Tryz.underlying47 rfl Tryz.sizeOf3 (by decide) rfl) rfl rfl rfl ?_
       refine V_ge rfl rfl rfl hc39 ?_
       refine V_y (Y_load (El.int h40) Tryz.isAgg3 rfl) rfl rfl rfl ?_
       refine V_ge rfl rfl rfl hc39 ?_
       have h41 := El_level_Clock_5 h14
       refine V_y (Y_fieldAddr Tryz.underlying47 rfl Tryz.sizeOf3 (by decide) rfl) rfl rfl rfl ?_
       refine V_ge rfl rfl rfl hc39 ?_
       refine V_y (Y_load (El.int h41) Tryz.isAgg3 rfl) rfl rfl rfl ?_
       refine V_ge rfl rfl rfl hc39 ?_
       refine V_y (Y_eql rfl rfl) rfl rfl rfl ?_
       refine V_y (Y_pick_te rfl hc39 rfl) rfl rfl rfl ?_
       refine V_y (Y_move rfl) rfl rfl rfl ?_
       rcases Bool.eq_false_or_eq_true (a_.end_ == b.end_) with hc42 | hc42
       ·rw [if_pos hc42] at ho17
        refine V_ge rfl rfl rfl hc42 ?_
        have h43 := El_level_Clock_6 h8
        refine V_y (Y_fieldAddr Tryz.underlying47 rfl Tryz.sizeOf45 (by decide) rfl) rfl rfl rfl ?_
        refine V_ge rfl rfl rfl hc42 ?_
        obtain ⟨v44, h45, h46⟩ := El.list h43
        refine V_y (Y_load h45 Tryz.isAgg45 rfl) rfl rfl rfl ?_
        refine V_ge rfl rfl rfl hc42 ?_
        have h47 := El_level_Clock_6 h14
        refine V_y (Y_fieldAddr Tryz.underlying47 rfl Tryz.sizeOf45 (by decide) rfl) rfl rfl rfl ?_
        refine V_ge rfl rfl rfl hc42 ?_
        obtain ⟨v48, h49, h50⟩ := El.list h47
        refine V_y (Y_load h49 Tryz.isAgg45 rfl) rfl rfl rfl ?_
        refine V_ge rfl rfl rfl hc42 ?_
        obtain ⟨x51, hx51, ho17⟩ := Option.bind_eq_some_iff.1 ho17
        refine V_call Tryz.call73 rfl rfl rfl rfl (slices_Equal_Llevel_Piece_level_Piece_c (Dw := Dw) w12 hA a_.pieces v44 h46 b.pieces v48 h50 hx51) ?_
        rintro _ w52 ⟨rfl, hk53⟩
        have ht54 := Kp.tr (Dw := Dw) hk53 hA hB
        replace hH := Hp.kp (Dw := Dw) hH hk53
        replace hr19 := Tr.trans (Dw := Dw) hr19 ht54
        refine V_y (Y_pick_te rfl hc42 rfl) rfl rfl rfl ?_
        refine V_y (Y_assign rfl) rfl rfl rfl ?_
        obtain rfl := Option.some.inj ho17
        refine V_end (fun a ha55 => ?_)
        exact ⟨A, ha55.sub ⟨rfl, trivial⟩, ⟨hH, hr19⟩⟩
       ·rw [if_neg (nt hc42)] at ho17
        refine V_gn rfl rfl rfl hc42 rfl rfl rfl ?_
        refine V_gn rfl rfl rfl hc42 rfl rfl rfl ?_
        refine V_gn rfl rfl rfl hc42 rfl rfl rfl ?_
        refine V_gn rfl rfl rfl hc42 rfl rfl rfl ?_
        refine V_gn rfl rfl rfl hc42 rfl rfl rfl ?_
        refine V_y (Y_pick_fe rfl hc42 rfl) rfl rfl rfl ?_
        refine V_y (Y_assign rfl) rfl rfl rfl ?_
        obtain rfl := Option.some.inj ho17
        refine V_end (fun a ha56 => ?_)
        exact ⟨A, ha56.sub ⟨rfl, trivial⟩, ⟨hH, hr19⟩⟩
      ·rw [if_neg (nt hc39)] at ho17
       refine V_gn rfl rfl rfl hc39 rfl rfl rfl ?_
       refine V_gn rfl rfl rfl hc39 rfl rfl rfl ?_
       refine V_gn rfl rfl rfl hc39 rfl rfl rfl ?_
       refine V_gn rfl rfl rfl hc39 rfl rfl rfl ?_
       refine V_gn rfl rfl rfl hc39 rfl rfl rfl ?_
       refine V_y (Y_pick_fe rfl hc39 rfl) rfl rfl rfl ?_
       refine V_y (Y_move rfl) rfl rfl rfl ?_
       have hc57 : (false : Bool) = false := rfl
       refine V_gn rfl rfl rfl hc57 rfl rfl rfl ?_
       refine V_gn rfl rfl rfl hc57 rfl rfl rfl ?_
       refine V_gn rfl rfl rfl hc57 rfl rfl rfl ?_
       refine V_gn rfl rfl rfl hc57 rfl rfl rfl ?_
       refine V_gn rfl rfl rfl hc57 rfl rfl rfl ?_
       refine V_y (Y_pick_fe rfl hc57 rfl) rfl rfl rfl ?_
       refine V_y (Y_assign rfl) rfl rfl rfl ?_
       obtain rfl := Option.some.inj ho17
       refine V_end (fun a ha58 => ?_)
       exact ⟨A, ha58.sub ⟨rfl, trivial⟩, ⟨hH, hr19⟩⟩
     ·rw [if_neg (nt hc36)] at ho17
      refine V_gn rfl rfl rfl hc36 rfl rfl rfl ?_
      refine V_gn rfl rfl rfl hc36 rfl rfl rfl ?_
      refine V_gn rfl rfl rfl hc36 rfl rfl rfl ?_
      refine V_gn rfl rfl rfl hc36 rfl rfl rfl ?_
      refine V_gn rfl rfl rfl hc36 rfl rfl rfl ?_
      refine V_y (Y_pick_fe rfl hc36 rfl) rfl rfl rfl ?_
      refine V_y (Y_move rfl) rfl rfl rfl ?_
      have hc59 : (false : Bool) = false := rfl
      refine V_gn rfl rfl rfl hc59 rfl rfl rfl ?_
      refine V_gn rfl rfl rfl hc59 rfl rfl rfl ?_
      refine V_gn rfl rfl rfl hc59 rfl rfl rfl ?_
      refine V_gn rfl rfl rfl hc59 rfl rfl rfl ?_
      refine V_gn rfl rfl rfl hc59 rfl rfl rfl ?_
      refine V_y (Y_pick_fe rfl hc59 rfl) rfl rfl rfl ?_
      refine V_y (Y_move rfl) rfl rfl rfl ?_
      have hc60 : (false : Bool) = false := rfl
      refine V_gn rfl rfl rfl hc60 rfl rfl rfl ?_
      refine V_gn rfl rfl rfl hc60 rfl rfl rfl ?_
      refine V_gn rfl rfl rfl hc60 rfl rfl rfl ?_
      refine V_gn rfl rfl rfl hc60 rfl rfl rfl ?_
      refine V_gn rfl rfl rfl hc60 rfl rfl rfl ?_
      refine V_y (Y_pick_fe rfl hc60 rfl) rfl rfl rfl ?_
      refine V_y (Y_assign rfl) rfl rfl rfl ?_
      obtain rfl := Option.some.inj ho17
      refine V_end (fun a ha61 => ?_)
      exact ⟨A, ha61.sub ⟨rfl, trivial⟩, ⟨hH, hr19⟩⟩
    ·rw [if_neg (nt hc33)] at ho17
     refine V_gn rfl rfl rfl hc33 rfl rfl rfl ?_
     refine V_gn rfl rfl rfl hc33 rfl rfl rfl ?_
     refine V_gn rfl rfl rfl hc33 rfl rfl rfl ?_
     refine V_gn rfl rfl rfl hc33 rfl rfl rfl ?_
     refine V_gn rfl rfl rfl hc33 rfl rfl rfl ?_
     refine V_y (Y_pick_fe rfl hc33 rfl) rfl rfl rfl ?_
     refine V_y (Y_move rfl) rfl rfl rfl ?_
     have hc62 : (false : Bool) = false := rfl
     refine V_gn rfl rfl rfl hc62 rfl rfl rfl ?_
     refine V_gn rfl rfl rfl hc62 rfl rfl rfl ?_
     refine V_gn rfl rfl rfl hc62 rfl rfl rfl ?_
     refine V_gn rfl rfl rfl hc62 rfl rfl rfl ?_
     refine V_gn rfl rfl rfl hc62 rfl rfl rfl ?_
     refine V_y (Y_pick_fe rfl hc62 rfl) rfl rfl rfl ?_
     refine V_y (Y_move rfl) rfl rfl rfl ?_
     have hc63 : (false : Bool) = false := rfl
     refine V_gn rfl rfl rfl hc63 rfl rfl rfl ?_
     refine V_gn rfl rfl rfl hc63 rfl rfl rfl ?_
     refine V_gn rfl rfl rfl hc63 rfl rfl rfl ?_
     refine V_gn rfl rfl rfl hc63 rfl rfl rfl ?_
     refine V_gn rfl rfl rfl hc63 rfl rfl rfl ?_
     refine V_y (Y_pick_fe rfl hc63 rfl) rfl rfl rfl ?_
     refine V_y (Y_move rfl) rfl rfl rfl ?_
     have hc64 : (false : Bool) = false := rfl
     refine V_gn rfl rfl rfl hc64 rfl rfl rfl ?_
     refine V_gn rfl rfl rfl hc64 rfl rfl rfl ?_
     refine V_gn rfl rfl rfl hc64 rfl rfl rfl ?_
     refine V_gn rfl rfl rfl hc64 rfl rfl rfl ?_
     refine V_gn rfl rfl rfl hc64 rfl rfl rfl ?_
     refine V_y (Y_pick_fe rfl hc64 rfl) rfl rfl rfl ?_
     refine V_y (Y_assign rfl) rfl rfl rfl ?_
     obtain rfl := Option.some.inj ho17
     refine V_end (fun a ha65 => ?_)
     exact ⟨A, ha65.sub ⟨rfl, trivial⟩, ⟨hH, hr19⟩⟩
   ·rw [if_neg (nt hc30)] at ho17
    refine V_gn rfl rfl rfl hc30 rfl rfl rfl ?_
    refine V_gn rfl rfl rfl hc30 rfl rfl rfl ?_
    refine V_gn rfl rfl rfl hc30 rfl rfl rfl ?_
    refine V_gn rfl rfl rfl hc30 rfl rfl rfl ?_
    refine V_gn rfl rfl rfl hc30 rfl rfl rfl ?_
    refine V_y (Y_pick_fe rfl hc30 rfl) rfl rfl rfl ?_
    refine V_y (Y_move rfl) rfl rfl rfl ?_
    have hc66 : (false : Bool) = false := rfl
    refine V_gn rfl rfl rfl hc66 rfl rfl rfl ?_
    refine V_gn rfl rfl rfl hc66 rfl rfl rfl ?_
    refine V_gn rfl rfl rfl hc66 rfl rfl rfl ?_
    refine V_gn rfl rfl rfl hc66 rfl rfl rfl ?_
    refine V_gn rfl rfl rfl hc66 rfl rfl rfl ?_
    refine V_y (Y_pick_fe rfl hc66 rfl) rfl rfl rfl ?_
    refine V_y (Y_move rfl) rfl rfl rfl ?_
    have hc67 : (false : Bool) = false := rfl
    refine V_gn rfl rfl rfl hc67 rfl rfl rfl ?_
    refine V_gn rfl rfl rfl hc67 rfl rfl rfl ?_
    refine V_gn rfl rfl rfl hc67 rfl rfl rfl ?_
    refine V_gn rfl rfl rfl hc67 rfl rfl rfl ?_
    refine V_gn rfl rfl rfl hc67 rfl rfl rfl ?_
    refine V_y (Y_pick_fe rfl hc67 rfl) rfl rfl rfl ?_
    refine V_y (Y_move rfl) rfl rfl rfl ?_
    have hc68 : (false : Bool) = false := rfl
    refine V_gn rfl rfl rfl hc68 rfl rfl rfl ?_
    refine V_gn rfl rfl rfl hc68 rfl rfl rfl ?_
    refine V_gn rfl rfl rfl hc68 rfl rfl rfl ?_
    refine V_gn rfl rfl rfl hc68 rfl rfl rfl ?_
    refine V_gn rfl rfl rfl hc68 rfl rfl rfl ?_
    refine V_y (Y_pick_fe rfl hc68 rfl) rfl rfl rfl ?_
    refine V_y (Y_move rfl) rfl rfl rfl ?_
    have hc69 : (false : Bool) = false := rfl
    refine V_gn rfl rfl rfl hc69 rfl rfl rfl ?_
    refine V_gn rfl rfl rfl hc69 rfl rfl rfl ?_
    refine V_gn rfl rfl rfl hc69 rfl rfl rfl ?_
    refine V_gn rfl rfl rfl hc69 rfl rfl rfl ?_
    refine V_gn rfl rfl rfl hc69 rfl rfl rfl ?_
    refine V_y (Y_pick_fe rfl hc69 rfl) rfl rfl rfl ?_
    refine V_y (Y_assign rfl) rfl rfl rfl ?_
    obtain rfl := Option.some.inj ho17
    refine V_end (fun a ha70 => ?_)
    exact ⟨A, ha70.sub ⟨rfl, trivial⟩, ⟨hH, hr19⟩⟩
  ·rw [if_neg (nt hc27)] at ho17
   refine V_gn rfl rfl rfl hc27 rfl rfl rfl ?_
   refine V_gn rfl rfl rfl hc27 rfl rfl rfl ?_
   refine V_gn rfl rfl rfl hc27 rfl rfl rfl ?_
   refine V_gn rfl rfl rfl hc27 rfl rfl rfl ?_
   refine V_gn rfl rfl rfl hc27 rfl rfl rfl ?_
   refine V_y (Y_pick_fe rfl hc27 rfl) rfl rfl rfl ?_
   refine V_y (Y_move rfl) rfl rfl rfl ?_
   have hc71 : (false : Bool) = false := rfl
   refine V_gn rfl rfl rfl hc71 rfl rfl rfl ?_
   refine V_gn rfl rfl rfl hc71 rfl rfl rfl ?_
   refine V_gn rfl rfl rfl hc71 rfl rfl rfl ?_
   refine V_gn rfl rfl rfl hc71 rfl rfl rfl ?_
   refine V_gn rfl rfl rfl hc71 rfl rfl rfl ?_
   refine V_y (Y_pick_fe rfl hc71 rfl) rfl rfl rfl ?_
   refine V_y (Y_move rfl) rfl rfl rfl ?_
   have hc72 : (false : Bool) = false := rfl
   refine V_gn rfl rfl rfl hc72 rfl rfl rfl ?_
   refine V_gn rfl rfl rfl hc72 rfl rfl rfl ?_
   refine V_gn rfl rfl rfl hc72 rfl rfl rfl ?_
   refine V_gn rfl rfl rfl hc72 rfl rfl rfl ?_
   refine V_gn rfl rfl rfl hc72 rfl rfl rfl ?_
   refine V_y (Y_pick_fe rfl hc72 rfl) rfl rfl rfl ?_
   refine V_y (Y_move rfl) rfl rfl rfl ?_
   have hc73 : (false : Bool) = false := rfl
   refine V_gn rfl rfl rfl hc73 rfl rfl rfl ?_
   refine V_gn rfl rfl rfl hc73 rfl rfl rfl ?_
   refine V_gn rfl rfl rfl hc73 rfl rfl rfl ?_
   refine V_gn rfl rfl rfl hc73 rfl rfl rfl ?_
   refine V_gn rfl rfl rfl hc73 rfl rfl rfl ?_
   refine V_y (Y_pick_fe rfl hc73 rfl) rfl rfl rfl ?_
   refine V_y (Y_move rfl) rfl rfl rfl ?_
   have hc74 : (false : Bool) = false := rfl
   refine V_gn rfl rfl rfl hc74 rfl rfl rfl ?_
   refine V_gn rfl rfl rfl hc74 rfl rfl rfl ?_
   refine V_gn rfl rfl rfl hc74 rfl rfl rfl ?_
   refine V_gn rfl rfl rfl hc74 rfl rfl rfl ?_
   refine V_gn rfl rfl rfl hc74 rfl rfl rfl ?_
   refine V_y (Y_pick_fe rfl hc74 rfl) rfl rfl rfl ?_
   refine V_y (Y_move rfl) rfl rfl rfl ?_
   have hc75 : (false : Bool) = false := rfl
   refine V_gn rfl rfl rfl hc75 rfl rfl rfl ?_
   refine V_gn rfl rfl rfl hc75 rfl rfl rfl ?_
   refine V_gn rfl rfl rfl hc75 rfl rfl rfl ?_
   refine V_gn rfl rfl rfl hc75 rfl rfl rfl ?_
   refine V_gn rfl rfl rfl hc75 rfl rfl rfl ?_
   refine V_y (Y_pick_fe rfl hc75 rfl) rfl rfl rfl ?_
   refine V_y (Y_assign rfl) rfl rfl rfl ?_
   obtain rfl := Option.some.inj ho17
   refine V_end (fun a ha76 => ?_)
   exact ⟨A, ha76.sub ⟨rfl, trivial⟩, ⟨hH, hr19⟩⟩
 rintro A23 w20 ⟨hH24, hk21⟩ a ha22
 replace hK := Tr.trans (Dw := Dw) hK hk21
 replace hA := hk21.new
 replace hH : Hp w.heap.size A23 w20 ([]) := hH24
 refine C_at (n := ⟨52, [], none⟩) (fun _ _ => rfl) ?_ ha22
 obtain rfl := Option.some.inj hm
 refine C_ret ?_
 try simp only [↓inBlock_ret, ↓then_ret]
 exact retQ rfl (Res.one Tryz.results51 rfl) ⟨rfl, hK.kp⟩
set_option maxRecDepth 4000 in
set_option maxHeartbeats 4000000 in
theorem portref2_Alike_c (w : World) {A : Nat → Prop} (hA : ∀ b, w.heap.size ≤ b → A b) (a_ : (List level_Clock)) (v_a_ : Value) (h_a_ : Sl A w v_a_ a_) (b : (List level_Clock)) (v_b : Value) (h_b : Sl A w v_b b) {r : Bool} (hm : portref2_Alike a_ b = some r) : Ret Tryz.prog 6 #[.iface 27 v_a_, .iface 27 v_b] w fun v w' => v = .bool r ∧ Kp Dw w w' := by
 unfold portref2_Alike at hm
 refine enter Tryz.func6 rfl Tryz.ntmps6 rfl ?_
 have hA0 := hA
 have hB := Nat.le_refl w.heap.size
 have hK : Tr Dw w.heap.size A w A w := Tr.refl (Dw := Dw) hA
 have hH : Hp w.heap.size A w [] := Hp.nil
 refine C_seq ?_
 refine C_region ?_
 refine V_y (Y_assign rfl) rfl rfl rfl ?_
 refine V_to (fun _ _ => rfl) ?_
 refine C_seq ?_
 refine C_seq ?_
 refine C_region ?_
 refine V_y (Y_move rfl) rfl rfl rfl ?_
 refine V_to (fun _ _ => rfl) ?_
 refine C_block ?_
 refine C_seq ?_
 refine C_region ?_
 refine V_y (Y_asNS Tryz.underlying74 Tryz.zeroValue74 (by decide) rfl) rfl rfl rfl ?_
 refine V_y (Y_extract rfl rfl) rfl rfl rfl ?_
 refine V_y (Y_extract rfl rfl) rfl rfl rfl ?_
 refine V_to (fun _ _ => rfl) ?_
 refine C_cond rfl (fun hc => ?_) (fun hc => ?_)
 ·exact absurd hc (by decide)
 ·refine C_seq ?_
  refine C_region ?_
  refine V_y (Y_asNL Tryz.underlying86 Tryz.zeroValue86 (by decide) rfl) rfl rfl rfl ?_
  refine V_y (Y_extract rfl rfl) rfl rfl rfl ?_
  refine V_y (Y_extract rfl rfl) rfl rfl rfl ?_
  refine V_to (fun _ _ => rfl) ?_
  refine C_cond rfl (fun hc => ?_) (fun hc => ?_)
  ·exact absurd hc (by decide)
  ·refine C_seq ?_
   refine C_region ?_
   refine V_y (Y_asNL Tryz.underlying96 Tryz.zeroValue96 (by decide) rfl) rfl rfl rfl ?_
   refine V_y (Y_extract rfl rfl) rfl rfl rfl ?_
   refine V_y (Y_extract rfl rfl) rfl rfl rfl ?_
   refine V_to (fun _ _ => rfl) ?_
   refine C_cond rfl (fun hc => ?_) (fun hc => ?_)
   ·exact absurd hc (by decide)
   ·refine C_seq ?_
    refine C_region ?_
    refine V_y (Y_asNS Tryz.underlying106 Tryz.zeroValue106 (by decide) rfl) rfl rfl rfl ?_
    refine V_y (Y_extract rfl rfl) rfl rfl rfl ?_
    refine V_y (Y_extract rfl rfl) rfl rfl rfl ?_
    refine V_to (fun _ _ => rfl) ?_
    refine C_cond rfl (fun hc => ?_) (fun hc => ?_)
    ·exact absurd hc (by decide)
    ·refine C_seq ?_
     refine C_region ?_
     refine V_y (Y_asNS Tryz.underlying120 Tryz.zeroValue120 (by decide) rfl) rfl rfl rfl ?_
     refine V_y (Y_extract rfl rfl) rfl rfl rfl ?_
     refine V_y (Y_extract rfl rfl) rfl rfl rfl ?_
     refine V_to (fun _ _ => rfl) ?_
     refine C_cond rfl (fun hc => ?_) (fun hc => ?_)
     ·exact absurd hc (by decide)
     ·refine C_seq ?_
      refine C_region ?_
      refine V_y (Y_asNL Tryz.underlying126 Tryz.zeroValue126 (by decide) rfl) rfl rfl rfl ?_
      refine V_y (Y_extract rfl rfl) rfl rfl rfl ?_
      refine V_y (Y_extract rfl rfl) rfl rfl rfl ?_
      refine V_to (fun _ _ => rfl) ?_
      refine C_cond rfl (fun hc => ?_) (fun hc => ?_)
      ·exact absurd hc (by decide)
      ·refine C_seq ?_
       refine C_region ?_
       refine V_y (Y_asNL Tryz.underlying136 Tryz.zeroValue136 (by decide) rfl) rfl rfl rfl ?_
       refine V_y (Y_extract rfl rfl) rfl rfl rfl ?_
       refine V_y (Y_extract rfl rfl) rfl rfl rfl ?_
       refine V_to (fun _ _ => rfl) ?_
       refine C_cond rfl (fun hc => ?_) (fun hc => ?_)
       ·exact absurd hc (by decide)
       ·refine C_seq ?_
        refine C_region ?_
        refine V_y (Y_asNS Tryz.underlying25 Tryz.zeroValue25 (by decide) rfl) rfl rfl rfl ?_
        refine V_y (Y_extract rfl rfl) rfl rfl rfl ?_
        refine V_y (Y_extract rfl rfl) rfl rfl rfl ?_
        refine V_to (fun _ _ => rfl) ?_
        refine C_cond rfl (fun hc => ?_) (fun hc => ?_)
        ·exact absurd hc (by decide)
        ·refine C_seq ?_
         refine C_region ?_
         refine V_y (Y_asNL Tryz.underlying26 Tryz.zeroValue26 (by decide) rfl) rfl rfl rfl ?_
         refine V_y (Y_extract rfl rfl) rfl rfl rfl ?_
         refine V_y (Y_extract rfl rfl) rfl rfl rfl ?_
         refine V_to (fun _ _ => rfl) ?_
         refine C_cond rfl (fun hc => ?_) (fun hc => ?_)
         ·exact absurd hc (by decide)
         ·refine C_seq ?_
          refine C_region ?_
          refine V_y (Y_asIL Tryz.underlying27 rfl) rfl rfl rfl ?_
          refine V_y (Y_extract rfl rfl) rfl rfl rfl ?_
          refine V_y (Y_extract rfl rfl) rfl rfl rfl ?_
          refine V_to (fun _ _ => rfl) ?_
          refine C_cond rfl (fun hc => ?_) (fun hc => ?_)
          ·refine C_seq ?_
           refine C_region ?_
           refine V_y (Y_assign rfl) rfl rfl rfl ?_
           refine V_to (fun _ _ => rfl) ?_
           refine C_seq ?_
           refine C_region ?_
           refine V_y (Y_move rfl) rfl rfl rfl ?_
           refine V_y (Y_asIL Tryz.underlying27 rfl) rfl rfl rfl ?_
           refine V_y (Y_move rfl) rfl rfl rfl ?_
           refine V_y (Y_extract rfl rfl) rfl rfl rfl ?_
           refine V_y (Y_extract rfl rfl) rfl rfl rfl ?_
           refine V_y (Y_assign rfl) rfl rfl rfl ?_
           refine V_y (Y_assign rfl) rfl rfl rfl ?_
           refine V_to (fun _ _ => rfl) ?_
           refine C_seq ?_
           obtain ⟨s6, ho5, hm⟩ := Option.bind_eq_some_iff.1 hm
           refine C_cutG (ι := (Nat → Prop)) (fun (A12 : (Nat → Prop)) => [(4, .bool s6)]) (fun (A12 : (Nat → Prop)) => fun w' => Hp w.heap.size A12 w' ([]) ∧ Tr Dw w.heap.size A w A12 w') ?_ ?_
           ·have hr7 : Tr Dw w.heap.size A w A w := Tr.refl (Dw := Dw) hA
            refine C_region ?_
            refine V_y (Y_move rfl) rfl rfl rfl ?_
            refine V_y (Y_move rfl) rfl rfl rfl ?_
            have hc14 : (true : Bool) = true := rfl
            refine V_ge rfl rfl rfl hc14 ?_
            refine V_y (Y_move rfl) rfl rfl rfl ?_
            refine V_ge rfl rfl rfl hc14 ?_
            refine V_y (Y_move rfl) rfl rfl rfl ?_
            refine V_ge rfl rfl rfl hc14 ?_
            obtain ⟨x17, hx17, ho5⟩ := Option.bind_eq_some_iff.1 ho5
            refine V_call Tryz.call50 rfl rfl rfl rfl (slices_EqualFunc_Llevel_Clock_Llevel_Clock_level_Clock_level_Clock_c (Dw := Dw) w hA a_ v_a_ h_a_ b v_b h_b (fun y30 y31 => portref2_alikeClock y30 y31) 51 #[] #[] Tryz.call51 (fun w26 A27 ht28 h29 y18 v19 h20 y21 v22 h23 r24 h25 => (portref2_alikeClock_c (Dw := Dw) w26 h29 y18 v19 h20 y21 v22 h23  h25).mono (fun _ _ h => ⟨h.1, h.2⟩)) hx17) ?_
            rintro _ w33 ⟨rfl, hk34⟩
            have ht35 := Kp.tr (Dw := Dw) hk34 hA hB
            replace hH := Hp.kp (Dw := Dw) hH hk34
            replace hr7 := Tr.trans (Dw := Dw) hr7 ht35
            refine V_y (Y_pick_te rfl hc14 rfl) rfl rfl rfl ?_
            refine V_y (Y_assign rfl) rfl rfl rfl ?_
            obtain rfl := Option.some.inj ho5
            refine V_end (fun a ha36 => ?_)
            exact ⟨A, ha36.sub ⟨rfl, trivial⟩, ⟨hH, hr7⟩⟩
           rintro A12 w9 ⟨hH13, hk10⟩ a ha11
           replace hK := Tr.trans (Dw := Dw) hK hk10
           replace hA := hk10.new
           replace hH : Hp w.heap.size A12 w9 ([]) := hH13
           refine C_at (n := ⟨248, [], none⟩) (fun _ _ => rfl) ?_ ha11
           obtain rfl := Option.some.inj hm
           refine C_ret ?_
           try simp only [↓inBlock_ret, ↓then_ret]
           exact retQ rfl (Res.one Tryz.results6 rfl) ⟨rfl, hK.kp⟩
          ·exact absurd hc (by decide)
set_option maxRecDepth 4000 in
set_option maxHeartbeats 4000000 in
theorem portlaw2_LevelClocks_c (w : World) {A : Nat → Prop} (hA : ∀ b, w.heap.size ≤ b → A b) (p : level_Policy) (v_p0 : Value) (h_p0 : Sl A w v_p0 p.pauses) (v_p1 : Value) (h_p1 : Sl A w v_p1 p.levels) (l : (List level_Point)) (v_l : Value) (h_l : Sl A w v_l l) {r : Bool} (hm : portlaw2_LevelClocks p l = some r) : Ret Tryz.prog 3 #[.agg #[v_p0, v_p1], v_l] w fun v w' => v = .bool r ∧ Kp False w w' := by
 unfold portlaw2_LevelClocks at hm
 refine enter Tryz.func3 rfl Tryz.ntmps3 rfl ?_
 have hA0 := hA
 have hB := Nat.le_refl w.heap.size
 have hK : Tr False w.heap.size A w A w := Tr.refl (Dw := False) hA
 have hH : Hp w.heap.size A w [] := Hp.nil
 refine C_seq ?_
 refine C_region ?_
 refine V_box rfl rfl ?_
 intro b7 w9 h10
 have hk12 := h10.kp (Dw := False)
 have h11 : El (α := level_Policy) A w9 b7 0 p := h10.el hA ⟨[v_p0], _, rfl, ⟨_, rfl, h_p0⟩, ⟨_, rfl, h_p1⟩⟩
 have ht13 := Kp.tr (Dw := False) hk12 hA hB
 replace hH := Hp.kp (Dw := False) hH hk12
 replace h_l := Sl.tr (Dw := False) h_l ht13
 replace hK := Tr.trans (Dw := False) hK ht13
 replace hB := Nat.le_trans hB ht13.ex.size
 replace hA := ht13.new
 refine V_y (Y_assign rfl) rfl rfl rfl ?_
 refine V_to (fun _ _ => rfl) ?_
 refine C_seq ?_
 refine C_region ?_
 obtain ⟨v14, v16, h18, h15, h17⟩ := El_level_Policy h11
 refine V_y (Y_loadA h18 Tryz.isAgg25 Tryz.sizeOf25 rfl) rfl rfl rfl ?_
 refine V_y (Y_move rfl) rfl rfl rfl ?_
 obtain ⟨x19, hx19, hm⟩ := Option.bind_eq_some_iff.1 hm
 refine V_call Tryz.call4 rfl rfl rfl rfl (level_Clocks_c (Dw := False) w9 hB hA p v14 h15 v16 h17 l v_l h_l hH hx19) ?_
 rintro _ w22 ⟨v20, A23, rfl, hH24, ht25⟩
 replace h_l := Sl.tr (Dw := False) h_l ht25
 replace h11 := El.tr (Dw := False) h11 ht25
 replace hK := Tr.trans (Dw := False) hK ht25
 replace hB := Nat.le_trans hB ht25.ex.size
 replace hA := ht25.new
 replace hH : Hp w.heap.size A23 w22 (obS (α := level_Clock) 47 v20 x19.1 :: []) := hH24
 refine V_y (Y_move rfl) rfl rfl rfl ?_
 refine V_y (Y_extract rfl rfl) rfl rfl rfl ?_
 refine V_y (Y_extract rfl rfl) rfl rfl rfl ?_
 refine V_y (Y_assign rfl) rfl rfl rfl ?_
 refine V_y (Y_assign rfl) rfl rfl rfl ?_
 refine V_to (fun _ _ => rfl) ?_
 refine C_seq ?_
 refine C_region ?_
 obtain ⟨v26, v28, h30, h27, h29⟩ := El_level_Policy h11
 refine V_y (Y_loadA h30 Tryz.isAgg25 Tryz.sizeOf25 rfl) rfl rfl rfl ?_
 refine V_y (Y_move rfl) rfl rfl rfl ?_
 obtain ⟨x31, hx31, hm⟩ := Option.bind_eq_some_iff.1 hm
 refine V_call Tryz.call5 rfl rfl rfl rfl (portref2_ClocksOf_c w22 hB hA p v26 h27 v28 h29 l v_l h_l hH hx31) ?_
 rintro _ w34 ⟨v32, A35, rfl, hH36, ht37⟩
 replace h_l := Sl.tr (Dw := False) h_l ht37
 replace hK := Tr.trans (Dw := False) hK ht37
 replace hB := Nat.le_trans hB ht37.ex.size
 replace hA := ht37.new
 replace hH : Hp w.heap.size A35 w34 (obS (α := level_Clock) 47 v32 x31.1 :: obS (α := level_Clock) 47 v20 x19.1 :: []) := hH36
 refine V_y (Y_move rfl) rfl rfl rfl ?_
 refine V_y (Y_extract rfl rfl) rfl rfl rfl ?_
 refine V_y (Y_extract rfl rfl) rfl rfl rfl ?_
 refine V_y (Y_assign rfl) rfl rfl rfl ?_
 refine V_y (Y_assign rfl) rfl rfl rfl ?_
 refine V_to (fun _ _ => rfl) ?_
 refine C_seq ?_
 obtain ⟨A38, ht39, h40, hH41⟩ := Hp.freeze (Dw := False) (α := level_Clock) (v := v20) (l := x19.1) hH (i := 1) rfl hA
 replace h_l := Sl.tr (Dw := False) h_l ht39
 replace hK := Tr.trans (Dw := False) hK ht39
 replace hB := Nat.le_trans hB ht39.ex.size
 replace hA := ht39.new
 replace hH : Hp w.heap.size A38 w34 (obS (α := level_Clock) 47 v32 x31.1 :: []) := hH41
 obtain ⟨A43, ht44, h45, hH46⟩ := Hp.freeze (Dw := False) (α := level_Clock) (v := v32) (l := x31.1) hH (i := 0) rfl hA
 replace h_l := Sl.tr (Dw := False) h_l ht44
 replace h40 := Sl.tr (Dw := False) h40 ht44
 replace hK := Tr.trans (Dw := False) hK ht44
 replace hB := Nat.le_trans hB ht44.ex.size
 replace hA := ht44.new
 replace hH : Hp w.heap.size A43 w34 ([]) := hH46
 obtain ⟨s49, ho48, hm⟩ := Option.bind_eq_some_iff.1 hm
 refine C_cutG (ι := (Nat → Prop)) (fun (A54 : (Nat → Prop)) => [(4, .bool s49)]) (fun (A54 : (Nat → Prop)) => fun w' => Hp w.heap.size A54 w' ([]) ∧ Tr False w.heap.size A43 w34 A54 w') ?_ ?_
 ·have hr50 : Tr False w.heap.size A43 w34 A43 w34 := Tr.refl (Dw := False) hA
  refine C_region ?_
  refine V_y (Y_move rfl) rfl rfl rfl ?_
  refine V_y (Y_move rfl) rfl rfl rfl ?_
  refine V_y (Y_eql rfl rfl) rfl rfl rfl ?_
  refine V_y (Y_move rfl) rfl rfl rfl ?_
  rcases Bool.eq_false_or_eq_true (x19.2 == x31.2) with hc56 | hc56
  ·rw [if_pos hc56] at ho48
   refine V_ge rfl rfl rfl hc56 ?_
   refine V_y (Y_move rfl) rfl rfl rfl ?_
   refine V_ge rfl rfl rfl hc56 ?_
   refine V_y (Y_mkIL Tryz.underlying27 rfl) rfl rfl rfl ?_
   refine V_ge rfl rfl rfl hc56 ?_
   refine V_y (Y_move rfl) rfl rfl rfl ?_
   refine V_ge rfl rfl rfl hc56 ?_
   refine V_y (Y_mkIL Tryz.underlying27 rfl) rfl rfl rfl ?_
   refine V_ge rfl rfl rfl hc56 ?_
   obtain ⟨x57, hx57, ho48⟩ := Option.bind_eq_some_iff.1 ho48
   refine V_call Tryz.call6 rfl rfl rfl rfl (portref2_Alike_c (Dw := False) w34 hA x19.1 v20 h40 x31.1 v32 h45 hx57) ?_
   rintro _ w58 ⟨rfl, hk59⟩
   have ht60 := Kp.tr (Dw := False) hk59 hA hB
   replace hH := Hp.kp (Dw := False) hH hk59
   replace h_l := Sl.tr (Dw := False) h_l ht60
   replace hr50 := Tr.trans (Dw := False) hr50 ht60
   replace hB := Nat.le_trans hB ht60.ex.size
   replace hA := ht60.new
   refine V_y (Y_pick_te rfl hc56 rfl) rfl rfl rfl ?_
   refine V_y (Y_move rfl) rfl rfl rfl ?_
   rcases Bool.eq_false_or_eq_true (x57) with hc61 | hc61
   ·rw [if_pos hc61] at ho48
    refine V_ge rfl rfl rfl hc61 ?_
    refine V_y (Y_move rfl) rfl rfl rfl ?_
    refine V_ge rfl rfl rfl hc61 ?_
    obtain ⟨x62, hx62, ho48⟩ := Option.bind_eq_some_iff.1 ho48
    refine V_call Tryz.call7 rfl rfl rfl rfl (level_CheckHistory_c (Dw := False) w58 hA l v_l h_l hx62) ?_
    rintro _ w63 ⟨rfl, hk64⟩
    have ht65 := Kp.tr (Dw := False) hk64 hA hB
    replace hH := Hp.kp (Dw := False) hH hk64
    replace h_l := Sl.tr (Dw := False) h_l ht65
    replace hr50 := Tr.trans (Dw := False) hr50 ht65
    replace hB := Nat.le_trans hB ht65.ex.size
    replace hA := ht65.new
    refine V_ge rfl rfl rfl hc61 ?_
    refine V_y (Y_move rfl) rfl rfl rfl ?_
    refine V_ge rfl rfl rfl hc61 ?_
    obtain ⟨x66, hx66, ho48⟩ := Option.bind_eq_some_iff.1 ho48
    refine V_call Tryz.call8 rfl rfl rfl rfl (portref2_HistoryFault_c (Dw := False) w63 hA l v_l h_l hx66) ?_
    rintro _ w67 ⟨rfl, hk68⟩
    have ht69 := Kp.tr (Dw := False) hk68 hA hB
    replace hH := Hp.kp (Dw := False) hH hk68
    replace hr50 := Tr.trans (Dw := False) hr50 ht69
    refine V_ge rfl rfl rfl hc61 ?_
    refine V_y (Y_eql rfl rfl) rfl rfl rfl ?_
    refine V_y (Y_pick_te rfl hc61 rfl) rfl rfl rfl ?_
    refine V_y (Y_assign rfl) rfl rfl rfl ?_
    obtain rfl := Option.some.inj ho48
    refine V_end (fun a ha70 => ?_)
    exact ⟨A43, ha70.sub ⟨rfl, trivial⟩, ⟨hH, hr50⟩⟩
   ·rw [if_neg (nt hc61)] at ho48
    refine V_gn rfl rfl rfl hc61 rfl rfl rfl ?_
    refine V_gn rfl rfl rfl hc61 rfl rfl rfl ?_
    refine V_gn rfl rfl rfl hc61 rfl rfl rfl ?_
    refine V_gn rfl rfl rfl hc61 rfl rfl rfl ?_
    refine V_gn rfl rfl rfl hc61 rfl rfl rfl ?_
    refine V_y (Y_pick_fe rfl hc61 rfl) rfl rfl rfl ?_
    refine V_y (Y_assign rfl) rfl rfl rfl ?_
    obtain rfl := Option.some.inj ho48
    refine V_end (fun a ha71 => ?_)
    exact ⟨A43, ha71.sub ⟨rfl, trivial⟩, ⟨hH, hr50⟩⟩
  ·rw [if_neg (nt hc56)] at ho48
   refine V_gn rfl rfl rfl hc56 rfl rfl rfl ?_
   refine V_gn rfl rfl rfl hc56 rfl rfl rfl ?_
   refine V_gn rfl rfl rfl hc56 rfl rfl rfl ?_
   refine V_gn rfl rfl rfl hc56 rfl rfl rfl ?_
   refine V_gn rfl rfl rfl hc56 rfl rfl rfl ?_
   refine V_y (Y_pick_fe rfl hc56 rfl) rfl rfl rfl ?_
   refine V_y (Y_move rfl) rfl rfl rfl ?_
   have hc72 : (false : Bool) = false := rfl
   refine V_gn rfl rfl rfl hc72 rfl rfl rfl ?_
   refine V_gn rfl rfl rfl hc72 rfl rfl rfl ?_
   refine V_gn rfl rfl rfl hc72 rfl rfl rfl ?_
   refine V_gn rfl rfl rfl hc72 rfl rfl rfl ?_
   refine V_gn rfl rfl rfl hc72 rfl rfl rfl ?_
   refine V_y (Y_pick_fe rfl hc72 rfl) rfl rfl rfl ?_
   refine V_y (Y_assign rfl) rfl rfl rfl ?_
   obtain rfl := Option.some.inj ho48
   refine V_end (fun a ha73 => ?_)
   exact ⟨A43, ha73.sub ⟨rfl, trivial⟩, ⟨hH, hr50⟩⟩
 rintro A54 w51 ⟨hH55, hk52⟩ a ha53
 replace hK := Tr.trans (Dw := False) hK hk52
 replace hA := hk52.new
 replace hH : Hp w.heap.size A54 w51 ([]) := hH55
 refine C_at (n := ⟨38, [], none⟩) (fun _ _ => rfl) ?_ ha53
 obtain rfl := Option.some.inj hm
 refine C_ret ?_
 try simp only [↓inBlock_ret, ↓then_ret]
 exact retQ rfl (Res.one Tryz.results3 rfl) ⟨rfl, hK.kp⟩
end Go.Proofs.YtfbiebageicnaaaGreatDoor.W
