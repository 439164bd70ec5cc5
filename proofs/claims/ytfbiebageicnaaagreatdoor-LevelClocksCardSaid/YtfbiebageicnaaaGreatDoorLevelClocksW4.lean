import Derived.Test.YtfbiebageicnaaaGreatDoorLevelClocksW3
namespace Go.Proofs.YtfbiebageicnaaaGreatDoor.W
open Go Go.RowKit Go.Pu Go.Gw Go.Proofs Go.Proofs.YtfbiebageicnaaaGreatDoor.M
set_option linter.unusedVariables false
set_option linter.unusedSimpArgs false
variable {Dw : Prop}
set_option maxRecDepth 4000 in
set_option maxHeartbeats 4000000 in
theorem portref2_targetOf_c (w : World) {A : Nat → Prop} (hA : ∀ b, w.heap.size ≤ b → A b) (p : level_Policy) (v_p0 : Value) (h_p0 : Sl A w v_p0 p.pauses) (v_p1 : Value) (h_p1 : Sl A w v_p1 p.levels) (l : Int) (kind : Int) {r : (level_Target × Bool)} (hm : portref2_targetOf p l kind = some r) : Ret Tryz.prog 19 #[.agg #[v_p0, v_p1], .int .i64 l, .int .i64 kind] w fun v w' => v = .tuple #[.agg #[.int .i64 r.1.kind, .int .i64 r.1.minutes, .int .i64 r.1.calendar], .bool r.2] ∧ Kp Dw w w' := by
 unfold portref2_targetOf at hm
 refine enter Tryz.func19 rfl Tryz.ntmps19 rfl ?_
 have hA0 := hA
 have hB := Nat.le_refl w.heap.size
 have hK : Tr Dw w.heap.size A w A w := Tr.refl (Dw := Dw) hA
 have hH : Hp w.heap.size A w [] := Hp.nil
 refine C_seq ?_
 refine C_region ?_
 refine V_box rfl rfl ?_
 intro b5 w6 h7
 have hk9 := h7.kp (Dw := Dw)
 have h8 : El (α := level_Policy) A w6 b5 0 p := h7.el hA ⟨[v_p0], _, rfl, ⟨_, rfl, h_p0⟩, ⟨_, rfl, h_p1⟩⟩
 have ht10 := Kp.tr (Dw := Dw) hk9 hA hB
 replace hH := Hp.kp (Dw := Dw) hH hk9
 replace hK := Tr.trans (Dw := Dw) hK ht10
 replace hB := Nat.le_trans hB ht10.ex.size
 replace hA := ht10.new
 refine V_allocH (Dw := Dw) (B := w.heap.size) hH Tryz.zeroValue49 hB hA rfl ?_
 intro b11 w12 A13 hH14 ht15
 replace h8 := El.tr (Dw := Dw) h8 ht15
 replace hK := Tr.trans (Dw := Dw) hK ht15
 replace hB := Nat.le_trans hB ht15.ex.size
 replace hA := ht15.new
 replace hH : Hp w.heap.size A13 w12 (obC b11 [.int .i64 0, .int .i64 0, .int .i64 0] 49 :: []) := hH14
 refine V_y (Y_assign rfl) rfl rfl rfl ?_
 refine V_to (fun _ _ => rfl) ?_
 refine C_seq ?_
 refine C_seq ?_
 refine C_region ?_
 refine V_y (Y_move rfl) rfl rfl rfl ?_
 refine V_y (Y_lss rfl rfl) rfl rfl rfl ?_
 refine V_to (fun _ _ => rfl) ?_
 refine C_cond rfl (fun hc16 => ?_) (fun hc16 => ?_)
 ·rw [if_pos hc16] at hm
  refine C_seq ?_
  refine C_region ?_
  refine V_y (Y_build Tryz.underlying49 Tryz.zeroValue49 (Tryz_places49 _ Tryz.underlying49) rfl (by with_unfolding_all rfl)) rfl rfl rfl ?_
  refine V_storeC (Dw := Dw) (off := 0) (ds := [.int .i64 0, .int .i64 0, .int .i64 0]) hH (i := 0) rfl Tryz.sizeOf49 rfl (Nat.le_of_ble_eq_true rfl) (by simp [Value.cells, Value.oneCell']) rfl hB hA rfl rfl ?_
  intro w17 hH18 ht19
  replace hK := Tr.trans (Dw := Dw) hK ht19
  replace hH : Hp w.heap.size A13 w17 (obC b11 [.int .i64 0, .int .i64 0, .int .i64 0] 49 :: []) := hH18
  refine V_y (Y_assign rfl) rfl rfl rfl ?_
  refine V_to (fun _ _ => rfl) ?_
  obtain rfl := Option.some.inj hm
  refine C_ret ?_
  try simp only [↓inBlock_ret, ↓then_ret]
  exact retQ rfl (Res.l2 Tryz.results19 (RL.cell rfl (loadVar_agg (Hp.part (off := 0) (n := 3) (ds := [.int .i64 0, .int .i64 0, .int .i64 0]) hH (i := 0) rfl rfl) Tryz.isAgg49 Tryz.sizeOf49)) (RL.tmp rfl)) ⟨rfl, hK.kp⟩
 ·rw [if_neg (nt hc16)] at hm
  refine C_skip_to (fun _ _ => rfl) ?_
  refine C_seq ?_
  refine C_seq ?_
  refine C_region ?_
  have h20 := El_level_Policy_1 h8
  refine V_y (Y_fieldAddr Tryz.underlying25 rfl Tryz.sizeOf23 (by decide) rfl) rfl rfl rfl ?_
  obtain ⟨v21, h22, h23⟩ := El.list h20
  refine V_y (Y_load h22 Tryz.isAgg23 rfl) rfl rfl rfl ?_
  refine V_y (Y_move rfl) rfl rfl rfl ?_
  obtain ⟨x24, hx24, hm⟩ := Option.bind_eq_some_iff.1 hm
  refine V_indexAddr h23 hx24 Tryz.underlying23 Tryz.sizeOf147 rfl rfl rfl ?_
  intro b25 o26 h27
  have h28 := El_level_Level_2 h27
  refine V_y (Y_fieldAddr Tryz.underlying147 rfl Tryz.sizeOf145 (by decide) rfl) rfl rfl rfl ?_
  obtain ⟨v29, h30, h31⟩ := El.list h28
  refine V_y (Y_load h30 Tryz.isAgg145 rfl) rfl rfl rfl ?_
  refine V_y (Y_lenSl h31 rfl Tryz.underlying145 rfl) rfl rfl rfl ?_
  refine V_y (Y_move rfl) rfl rfl rfl ?_
  refine V_to (fun _ _ => rfl) ?_
  have hn52 := Sl.le h31
  obtain ⟨o32, ho32, hm⟩ := Option.bind_eq_some_iff.1 hm
  refine C_cutG (ι := (level_Target × (Nat → Prop))) (fun ⟨s33, A39⟩ => [(6, .pointer (some ⟨b11, 0, none⟩))]) (fun ⟨s33, A39⟩ => fun w' => o32 = .fin s33 ∧ Hp w.heap.size A39 w' (obC b11 [.int .i64 s33.kind, .int .i64 s33.minutes, .int .i64 s33.calendar] 49 :: []) ∧ Tr Dw w.heap.size A13 w12 A39 w') ?_ ?_
  ·refine C_block ?_
   refine C_range ho32 (fun k35 s41 a w' => ∃ i : (Nat → Prop), Has ⟨31, [], none⟩ a ([(2, .int .i64 kind), (6, .pointer (some ⟨b11, 0, none⟩)), (18, v29), (19, .int .i64 (x24.targets.length : Int)), (20, .int .i64 (k35 : Int))]) ∧ Hp w.heap.size i w' (obC b11 [.int .i64 s41.kind, .int .i64 s41.minutes, .int .i64 s41.calendar] 49 :: []) ∧ Tr Dw w.heap.size A13 w12 i w') (fun a ha => ⟨A13, ha.sub ⟨rfl, rfl, rfl, rfl, rfl, trivial⟩, ⟨hH, Tr.refl (Dw := Dw) hA⟩⟩) ?_
   rintro K k35 s41 a w42 ⟨A43, ha75, hH44, hr34⟩ hle48 K51 h50
   refine C_of ?_ ha75
   replace h31 := Sl.tr (Dw := Dw) h31 hr34
   replace hK := Tr.trans (Dw := Dw) hK hr34
   replace hB := Nat.le_trans hB hr34.ex.size
   replace hA := hr34.new
   replace hH : Hp w.heap.size A43 w42 (obC b11 [.int .i64 s41.kind, .int .i64 s41.minutes, .int .i64 s41.calendar] 49 :: []) := hH44
   refine C_seq (C_region (V_y (Y_lss rfl rfl) rfl rfl rfl (V_to (fun _ _ => rfl) ?_)))
   refine C_seq ?_
   refine C_cond rfl (fun hc53 => ?_) (fun hc53 => ?_)
   ·have hlt49 := lt_of_dec hc53
    obtain ⟨x45, h46, h47⟩ := K51 hlt49
    refine C_skip_to (fun _ _ => rfl) ?_
    refine C_seq ?_
    refine C_block ?_
    refine C_seq ?_
    refine C_region ?_
    obtain ⟨x54, hx54, h46⟩ := Option.bind_eq_some_iff.1 h46
    refine V_indexAddr h31 hx54 Tryz.underlying145 Tryz.sizeOf49 rfl rfl rfl ?_
    intro b55 o56 h57
    obtain ⟨h58, _⟩ := El_level_Target h57
    refine V_y (Y_loadA h58 Tryz.isAgg49 Tryz.sizeOf49 rfl) rfl rfl rfl ?_
    refine V_alloc Tryz.zeroValue49 rfl ?_
    intro b59 w60 h61
    refine V_storeNew h61 Tryz.sizeOf49 rfl rfl rfl rfl (by exact (List.forall_mem_cons.2 ⟨rfl, (List.forall_mem_cons.2 ⟨rfl, (List.forall_mem_cons.2 ⟨rfl, (fun _ h => nomatch h)⟩)⟩)⟩)) ?_
    intro w62 h63
    have hk65 := h63.kp (Dw := Dw)
    have h64 : El (α := level_Target) A43 w62 b59 0 x54 := h63.el hA ⟨[.int .i64 x54.kind], _, rfl, rfl, ⟨[.int .i64 x54.minutes], _, rfl, rfl, rfl⟩⟩
    have ht66 := Kp.tr (Dw := Dw) hk65 hA hB
    replace hH := Hp.kp (Dw := Dw) hH hk65
    replace hK := Tr.trans (Dw := Dw) hK ht66
    replace hr34 := Tr.trans (Dw := Dw) hr34 ht66
    replace hB := Nat.le_trans hB ht66.ex.size
    replace hA := ht66.new
    refine V_to (fun _ _ => rfl) ?_
    refine C_seq ?_
    refine C_region ?_
    have h67 := El_level_Target_0 h64
    refine V_y (Y_fieldAddr Tryz.underlying49 rfl Tryz.sizeOf3 (by decide) rfl) rfl rfl rfl ?_
    refine V_y (Y_load (El.int h67) Tryz.isAgg3 rfl) rfl rfl rfl ?_
    refine V_y (Y_move rfl) rfl rfl rfl ?_
    refine V_y (Y_eql rfl rfl) rfl rfl rfl ?_
    refine V_to (fun _ _ => rfl) ?_
    refine C_cond rfl (fun hc68 => ?_) (fun hc68 => ?_)
    ·rw [if_pos hc68] at h46
     refine C_seq ?_
     refine C_region ?_
     obtain ⟨h69, _⟩ := El_level_Target h64
     refine V_y (Y_loadA h69 Tryz.isAgg49 Tryz.sizeOf49 rfl) rfl rfl rfl ?_
     refine V_storeC (Dw := Dw) (off := 0) (ds := [.int .i64 x54.kind, .int .i64 x54.minutes, .int .i64 x54.calendar]) hH (i := 0) rfl Tryz.sizeOf49 rfl (Nat.le_of_ble_eq_true rfl) (by simp [Value.cells, Value.oneCell']) rfl hB hA rfl rfl ?_
     intro w70 hH71 ht72
     replace hK := Tr.trans (Dw := Dw) hK ht72
     replace hH : Hp w.heap.size A43 w70 (obC b11 [.int .i64 x54.kind, .int .i64 x54.minutes, .int .i64 x54.calendar] 49 :: []) := hH71
     refine V_y (Y_assign rfl) rfl rfl rfl ?_
     refine V_to (fun _ _ => rfl) ?_
     obtain rfl := Option.some.inj h46
     obtain rfl := (h47 : Lp.rt _ = _)
     rw [Lp.andThen_rt] at hm
     obtain rfl := Option.some.inj hm
     refine C_ret ?_
     try simp only [↓inBlock_ret, ↓then_ret]
     exact retQ rfl (Res.l2 Tryz.results19 (RL.cell rfl (loadVar_agg (Hp.part (off := 0) (n := 3) (ds := [.int .i64 x54.kind, .int .i64 x54.minutes, .int .i64 x54.calendar]) hH (i := 0) rfl rfl) Tryz.isAgg49 Tryz.sizeOf49)) (RL.tmp rfl)) ⟨rfl, hK.kp⟩
    ·rw [if_neg (nt hc68)] at h46
     refine C_skip_to (fun _ _ => rfl) ?_
     refine C_region ?_
     refine V_y (Y_addI rfl rfl) rfl rfl rfl ?_
     refine V_y (Y_move rfl) rfl rfl rfl ?_
     obtain rfl := Option.some.inj h46
     refine V_end (fun a ha73 => ?_)
     exact ⟨s41, hlt49, h47, ⟨A43, ha73.sub ⟨rfl, rfl, rfl, rfl, (congrArg (fun z => some (Value.int .i64 z)) (w64_succ hlt49 hn52)), trivial⟩, ⟨hH, hr34⟩⟩⟩
   ·refine C_exit (fun a ha74 => ?_)
    exact ⟨(s41, A43), ha74.sub ⟨rfl, trivial⟩, ⟨(h50 (eq_of_dec hle48 hc53)).symm, hH, hr34⟩⟩
  rintro ⟨s33, A39⟩ w36 ⟨rfl, hH40, hk37⟩ a ha38
  rw [Lp.andThen_fin] at hm
  replace hK := Tr.trans (Dw := Dw) hK hk37
  replace hB := Nat.le_trans hB hk37.ex.size
  replace hA := hk37.new
  replace hH : Hp w.heap.size A39 w36 (obC b11 [.int .i64 s33.kind, .int .i64 s33.minutes, .int .i64 s33.calendar] 49 :: []) := hH40
  refine C_at (n := ⟨31, [], none⟩) (fun _ _ => rfl) ?_ ha38
  refine C_seq ?_
  refine C_region ?_
  refine V_y (Y_build Tryz.underlying49 Tryz.zeroValue49 (Tryz_places49 _ Tryz.underlying49) rfl (by with_unfolding_all rfl)) rfl rfl rfl ?_
  refine V_storeC (Dw := Dw) (off := 0) (ds := [.int .i64 0, .int .i64 0, .int .i64 0]) hH (i := 0) rfl Tryz.sizeOf49 rfl (Nat.le_of_ble_eq_true rfl) (by simp [Value.cells, Value.oneCell']) rfl hB hA rfl rfl ?_
  intro w76 hH77 ht78
  replace hK := Tr.trans (Dw := Dw) hK ht78
  replace hH : Hp w.heap.size A39 w76 (obC b11 [.int .i64 0, .int .i64 0, .int .i64 0] 49 :: []) := hH77
  refine V_y (Y_assign rfl) rfl rfl rfl ?_
  refine V_to (fun _ _ => rfl) ?_
  obtain rfl := Option.some.inj hm
  refine C_ret ?_
  try simp only [↓inBlock_ret, ↓then_ret]
  exact retQ rfl (Res.l2 Tryz.results19 (RL.cell rfl (loadVar_agg (Hp.part (off := 0) (n := 3) (ds := [.int .i64 0, .int .i64 0, .int .i64 0]) hH (i := 0) rfl rfl) Tryz.isAgg49 Tryz.sizeOf49)) (RL.tmp rfl)) ⟨rfl, hK.kp⟩
set_option maxRecDepth 4000 in
set_option maxHeartbeats 4000000 in
theorem portref2_ClocksOf_1_1_c (w : World) {A : Nat → Prop} (hA : ∀ b, w.heap.size ≤ b → A b) (t : portref2_ticking) (b_t : Nat) (h_t : El A w b_t 0 t) (p1 : (List Int)) (b_p1 : Nat) (h_p1 : El A w b_p1 0 p1) {r : Bool} (hm : portref2_ClocksOf_1_1 t p1 = some r) : Ret Tryz.prog 14 #[.pointer (some ⟨b_t, 0, none⟩), .pointer (some ⟨b_p1, 0, none⟩)] w fun v w' => v = .bool r ∧ Kp Dw w w' := by
 unfold portref2_ClocksOf_1_1 at hm
 refine enter Tryz.func14 rfl Tryz.ntmps14 rfl ?_
 have hA0 := hA
 have hB := Nat.le_refl w.heap.size
 have hK : Tr Dw w.heap.size A w A w := Tr.refl (Dw := Dw) hA
 have hH : Hp w.heap.size A w [] := Hp.nil
 refine C_seq ?_
 refine C_region ?_
 refine V_y (Y_assign rfl) rfl rfl rfl ?_
 refine V_to (fun _ _ => rfl) ?_
 refine C_seq ?_
 refine C_region_q (Dw := Dw) Tryz_mixed (by kernel_rfl) ?_
 refine VQ_y (fun w' hw' => Y_move rfl) rfl rfl rfl ?_
 refine VQ_y (fun w' hw' => Y_nilCheck rfl) rfl rfl rfl ?_
 have h1 := El_portref2_ticking_0 h_t
 refine VQ_y (fun w' hw' => Y_fieldAddr Tryz.underlying56 rfl Tryz.sizeOf47 (by decide) rfl) rfl rfl rfl ?_
 have h2 := El_level_Clock_4 h1
 refine VQ_y (fun w' hw' => Y_fieldAddr Tryz.underlying47 rfl Tryz.sizeOf3 (by decide) rfl) rfl rfl rfl ?_
 refine VQ_y (fun w' hw' => Y_load (El.int (El.kp (Dw := Dw) h2 hw')) Tryz.isAgg3 rfl) rfl rfl rfl ?_
 refine VQ_y (fun w' hw' => Y_lss rfl rfl) rfl rfl rfl ?_
 refine VQ_y (fun w' hw' => Y_move rfl) rfl rfl rfl ?_
 obtain ⟨s4, hs4, hm⟩ := Option.bind_eq_some_iff.1 hm
 refine VQ_cut 8 (fun _ : Unit => [(18, .bool s4)]) (fun _ => True) ?_ ?_
 ·simp only [List.take, List.drop]
  rcases Bool.eq_false_or_eq_true (decide (t.c.stop < 0)) with hc3 | hc3
  ·rw [if_pos hc3] at hs4
   refine VQ_ge rfl rfl rfl hc3 ?_
   obtain ⟨v5, h6, h7⟩ := El.list h_p1
   refine VQ_y (fun w' hw' => Y_load ((World.cell?_of_block (hw'.block _ (World.block_lt_of_cell? _ _ h6))).trans h6) Tryz.isAgg22 rfl) rfl rfl rfl ?_
   refine VQ_ge rfl rfl rfl hc3 ?_
   refine VQ_y (fun w' hw' => Y_move rfl) rfl rfl rfl ?_
   refine VQ_ge rfl rfl rfl hc3 ?_
   refine VQ_y (fun w' hw' => Y_nilCheck rfl) rfl rfl rfl ?_
   refine VQ_ge rfl rfl rfl hc3 ?_
   have h8 := El_portref2_ticking_0 h_t
   refine VQ_y (fun w' hw' => Y_fieldAddr Tryz.underlying56 rfl Tryz.sizeOf47 (by decide) rfl) rfl rfl rfl ?_
   refine VQ_ge rfl rfl rfl hc3 ?_
   have h9 := El_level_Clock_0 h8
   refine VQ_y (fun w' hw' => Y_fieldAddr Tryz.underlying47 rfl Tryz.sizeOf3 (by decide) rfl) rfl rfl rfl ?_
   refine VQ_ge rfl rfl rfl hc3 ?_
   refine VQ_y (fun w' hw' => Y_load (El.int (El.kp (Dw := Dw) h9 hw')) Tryz.isAgg3 rfl) rfl rfl rfl ?_
   refine VQ_ge rfl rfl rfl hc3 ?_
   obtain ⟨x10, hx10, hs4⟩ := Option.bind_eq_some_iff.1 hs4
   refine VQ_call (.bool x10) Tryz.call15 rfl rfl rfl rfl (fun w' hw' => (slices_Contains_Lint_int_c w' p1 v5 (Sl.kp (Dw := Dw) h7 hw') t.c.kind hx10).mono (fun _ _ h => ⟨h.1, h.2 ▸ hw'⟩)) ?_
   refine VQ_y (fun _ _ => Y_pick_te rfl hc3 rfl) rfl rfl rfl ?_
   obtain rfl := Option.some.inj hs4
   exact VQ_end fun a ha => ⟨(), ha.sub ⟨rfl, trivial⟩, trivial⟩
  ·rw [if_neg (nt hc3)] at hs4
   refine VQ_gn rfl rfl rfl hc3 rfl rfl rfl ?_
   refine VQ_gn rfl rfl rfl hc3 rfl rfl rfl ?_
   refine VQ_gn rfl rfl rfl hc3 rfl rfl rfl ?_
   refine VQ_gn rfl rfl rfl hc3 rfl rfl rfl ?_
   refine VQ_gn rfl rfl rfl hc3 rfl rfl rfl ?_
   refine VQ_gn rfl rfl rfl hc3 rfl rfl rfl ?_
   refine VQ_gn rfl rfl rfl hc3 rfl rfl rfl ?_
   refine VQ_y (fun _ _ => Y_pick_fe rfl hc3 rfl) rfl rfl rfl ?_
   obtain rfl := Option.some.inj hs4
   exact VQ_end fun a ha => ⟨(), ha.sub ⟨rfl, trivial⟩, trivial⟩
 simp only [List.take, List.drop]
 rintro _ _
 refine VQ_y (fun w' hw' => Y_assign rfl) rfl rfl rfl ?_
 refine VQ_to (fun _ _ => rfl) (fun w11 hk12 => ?_)
 have ht13 := Kp.tr (Dw := Dw) hk12 hA hB
 replace hK := Tr.trans (Dw := Dw) hK ht13
 obtain rfl := Option.some.inj hm
 refine C_ret ?_
 try simp only [↓inBlock_ret, ↓then_ret]
 exact retQ rfl (Res.one Tryz.results14 rfl) ⟨rfl, hK.kp⟩
set_option maxRecDepth 4000 in
set_option maxHeartbeats 4000000 in
theorem slices_IndexFunc_L_portref2_ticking_portref2_ticking_c (w : World) (cs : List portref2_ticking) (ps : List Ptr) (v_s : Value) (h_s : Sl (fun _ => True) w v_s ps) (hl : ps.length = cs.length) (hel : PtrEl w ps cs) (f : portref2_ticking → Option Bool) (f_f : FuncId) (f_a f_c : Array Value) (f_call : ∀ (args : Array Value) (w : World), (callFunc f_f args).run Tryz.prog w = .ok (.enter f_f args) w) (f_spec : ∀ (w1 : World), Kp Dw w w1 → ∀ (b : Nat) (y0 : portref2_ticking), El (fun _ => True) w1 b 0 y0 → ∀ (r : Bool), f y0 = some r → Ret Tryz.prog f_f (f_a ++ #[.pointer (some ⟨b, 0, none⟩)] ++ f_c) w1 fun v w' => v = .bool r ∧ Kp Dw w1 w') {r : Int} (hm : slices_IndexFunc_L_portref2_ticking_portref2_ticking cs f = some r) : Ret Tryz.prog 67 #[v_s, .func (.func f_f) f_a f_c] w fun v w' => v = .int .i64 r ∧ Kp Dw w w' := by
 unfold slices_IndexFunc_L_portref2_ticking_portref2_ticking at hm
 refine enter Tryz.func67 rfl Tryz.ntmps67 rfl ?_
 refine C_seq ?_
 refine C_region ?_
 refine V_y (Y_assign rfl) rfl rfl rfl ?_
 refine V_to (fun _ _ => rfl) ?_
 refine C_seq ?_
 refine C_seq ?_
 refine C_region ?_
 refine V_y (Y_move rfl) rfl rfl rfl ?_
 refine V_y (Y_lenSl h_s rfl Tryz.underlying52 rfl) rfl rfl rfl ?_
 refine V_y (Y_move rfl) rfl rfl rfl ?_
 refine V_to (fun _ _ => rfl) ?_
 have hn23 : cs.length ≤ maxLen := hl ▸ Sl.le h_s
 have hv7 : (some (Value.int .i64 (ps.length : Int))) = some (Value.int .i64 (cs.length : Int)) := by rw [hl]
 obtain ⟨o3, ho3, hm⟩ := Option.bind_eq_some_iff.1 hm
 refine C_cutG (ι := Unit) (fun (s4 : Unit) => []) (fun (s4 : Unit) => fun w' => o3 = .fin s4 ∧ Kp Dw w w') ?_ ?_
 ·refine C_block ?_
  refine C_range ho3 (fun k6 _ a w' => ∃ i : Unit, Has ⟨19, [], none⟩ a ([(0, v_s), (1, .func (.func f_f) f_a f_c), (7, .int .i64 (cs.length : Int)), (8, .int .i64 (k6 : Int))]) ∧ Kp Dw w w') (fun a ha => ⟨(), ha.sub ⟨rfl, rfl, hv7, rfl, trivial⟩, Kp.refl (Dw := Dw) _⟩) ?_
  rintro K k6 _ a w13 ⟨_, ha41, hk0⟩ hle19 K22 h21
  refine C_of ?_ ha41
  refine C_seq (C_region (V_y (Y_lss rfl rfl) rfl rfl rfl (V_to (fun _ _ => rfl) ?_)))
  refine C_seq ?_
  refine C_cond rfl (fun hc24 => ?_) (fun hc24 => ?_)
  ·have hlt20 := lt_of_dec hc24
   obtain ⟨x16, h17, h18⟩ := K22 hlt20
   refine C_skip_to (fun _ _ => rfl) ?_
   refine C_seq ?_
   refine C_block ?_
   refine C_seq ?_
   refine C_region ?_
   refine V_y (Y_move rfl) rfl rfl rfl ?_
   refine V_y (Y_assign rfl) rfl rfl rfl ?_
   refine V_to (fun _ _ => rfl) ?_
   refine C_seq ?_
   refine C_region ?_
   refine V_y (Y_move rfl) rfl rfl rfl ?_
   refine V_y (Y_move rfl) rfl rfl rfl ?_
   refine V_y (Y_move rfl) rfl rfl rfl ?_
   obtain ⟨x25, hx25, h17⟩ := Option.bind_eq_some_iff.1 h17
   have hcx : cs[k6]? = some x25 := by
    have := (idx_some hx25).2.2
    rwa [Int.toNat_natCast] at this
   have hpl : k6 < ps.length := by omega
   have hpx : ps[k6]? = some ps[k6] := List.getElem?_eq_getElem hpl
   have hpi : idx ps (k6 : Int) = some ps[k6] := by
    unfold idx
    rw [if_pos (by omega), Int.toNat_natCast]
    exact hpx
   refine V_indexAddr (Sl.kp (Dw := Dw) h_s hk0) hpi Tryz.underlying52 Tryz.sizeOf54 rfl rfl rfl ?_
   intro b26 o27 h28
   refine V_y (Y_load h28.ptr Tryz.isAgg54 rfl) rfl rfl rfl ?_
   obtain ⟨x34, hx34, h17⟩ := Option.bind_eq_some_iff.1 h17
   refine V_call f_call rfl rfl rfl rfl (f_spec w13 hk0 _ x25 (El.kp (Dw := Dw) (hel k6 _ x25 hpx hcx) hk0) _ hx34) ?_
   rintro _ w35 ⟨rfl, hk36⟩
   replace hk0 := Kp.trans (Dw := Dw) hk0 hk36
   refine V_to (fun _ _ => rfl) ?_
   refine C_cond rfl (fun hc38 => ?_) (fun hc38 => ?_)
   ·rw [if_pos hc38] at h17
    refine C_seq ?_
    refine C_region ?_
    refine V_y (Y_move rfl) rfl rfl rfl ?_
    refine V_y (Y_assign rfl) rfl rfl rfl ?_
    refine V_to (fun _ _ => rfl) ?_
    obtain rfl := Option.some.inj h17
    obtain rfl := (h18 : Lp.rt _ = _)
    rw [Lp.andThen_rt] at hm
    obtain rfl := Option.some.inj hm
    refine C_ret ?_
    try simp only [↓inBlock_ret, ↓then_ret]
    exact retQ rfl (Res.one Tryz.results67 rfl) ⟨rfl, hk0⟩
   ·rw [if_neg (nt hc38)] at h17
    refine C_skip_to (fun _ _ => rfl) ?_
    refine C_region ?_
    refine V_y (Y_addI rfl rfl) rfl rfl rfl ?_
    refine V_y (Y_move rfl) rfl rfl rfl ?_
    obtain rfl := Option.some.inj h17
    refine V_end (fun a ha39 => ?_)
    exact ⟨(), hlt20, h18, ⟨(), ha39.sub ⟨rfl, rfl, rfl, (congrArg (fun z => some (Value.int .i64 z)) (w64_succ hlt20 hn23)), trivial⟩, hk0⟩⟩
  ·refine C_exit (fun a ha40 => ?_)
   exact ⟨(), ha40.sub trivial, ⟨(h21 (eq_of_dec hle19 hc24)).symm, hk0⟩⟩
 rintro s4 w7 ⟨rfl, hk0⟩ a ha9
 rw [Lp.andThen_fin] at hm
 refine C_at (n := ⟨19, [], none⟩) (fun _ _ => rfl) ?_ ha9
 refine C_seq ?_
 refine C_region ?_
 refine V_y (Y_assign rfl) rfl rfl rfl ?_
 refine V_to (fun _ _ => rfl) ?_
 obtain rfl := Option.some.inj hm
 refine C_ret ?_
 try simp only [↓inBlock_ret, ↓then_ret]
 exact retQ rfl (Res.one Tryz.results67 rfl) ⟨rfl, hk0⟩
set_option maxRecDepth 4000 in
set_option maxHeartbeats 4000000 in
theorem slices_ContainsFunc_L_portref2_ticking_portref2_ticking_c (w : World) (cs : List portref2_ticking) (ps : List Ptr) (v_s : Value) (h_s : Sl (fun _ => True) w v_s ps) (hl : ps.length = cs.length) (hel : PtrEl w ps cs) (f : portref2_ticking → Option Bool) (f_f : FuncId) (f_a f_c : Array Value) (f_call : ∀ (args : Array Value) (w : World), (callFunc f_f args).run Tryz.prog w = .ok (.enter f_f args) w) (f_spec : ∀ (w1 : World), Kp Dw w w1 → ∀ (b : Nat) (y0 : portref2_ticking), El (fun _ => True) w1 b 0 y0 → ∀ (r : Bool), f y0 = some r → Ret Tryz.prog f_f (f_a ++ #[.pointer (some ⟨b, 0, none⟩)] ++ f_c) w1 fun v w' => v = .bool r ∧ Kp Dw w1 w') {r : Bool} (hm : slices_ContainsFunc_L_portref2_ticking_portref2_ticking cs f = some r) : Ret Tryz.prog 13 #[v_s, .func (.func f_f) f_a f_c] w fun v w' => v = .bool r ∧ Kp Dw w w' := by
 unfold slices_ContainsFunc_L_portref2_ticking_portref2_ticking at hm
 refine enter Tryz.func13 rfl Tryz.ntmps13 rfl ?_
 refine C_seq ?_
 refine C_region ?_
 refine V_y (Y_assign rfl) rfl rfl rfl ?_
 refine V_to (fun _ _ => rfl) ?_
 refine C_seq ?_
 refine C_region ?_
 refine V_y (Y_move rfl) rfl rfl rfl ?_
 refine V_y (Y_move rfl) rfl rfl rfl ?_
 obtain ⟨x3, hx3, hm⟩ := Option.bind_eq_some_iff.1 hm
 refine V_call Tryz.call67 rfl rfl rfl rfl (slices_IndexFunc_L_portref2_ticking_portref2_ticking_c w cs ps v_s h_s hl hel f f_f f_a f_c f_call f_spec hx3) ?_
 rintro _ w4 ⟨rfl, hk5⟩
 refine V_y (Y_geq rfl rfl) rfl rfl rfl ?_
 refine V_y (Y_assign rfl) rfl rfl rfl ?_
 refine V_to (fun _ _ => rfl) ?_
 obtain rfl := Option.some.inj hm
 refine C_ret ?_
 try simp only [↓inBlock_ret, ↓then_ret]
 exact retQ rfl (Res.one Tryz.results13 rfl) ⟨rfl, hk5⟩
set_option maxRecDepth 4000 in
set_option maxHeartbeats 4000000 in
theorem portref2_ClocksOf_1_c (w : World) {A : Nat → Prop} {B : Nat} (hB : B ≤ w.heap.size) (hA : ∀ b, w.heap.size ≤ b → A b) (kinds : List Int) (v_kinds : Value) (h_kinds : Sl A w v_kinds kinds) (all : List portref2_ticking) (b_all : Nat) (v_all : Value) {L : List Ob} (hH : Hp B A w (obC b_all [v_all] 52 :: obPS (ob_portref2_ticking) 54 v_all all :: L)) {r : Bool} (hm : portref2_ClocksOf_1 kinds all = some r) : Ret Tryz.prog 12 #[v_kinds, .pointer (some ⟨b_all, 0, none⟩)] w fun v w' => ∃ A1 : Nat → Prop, v = .bool r ∧ Hp B A1 w' (obC b_all [v_all] 52 :: obPS (ob_portref2_ticking) 54 v_all all :: L) ∧ Tr Dw B A w A1 w' := by
 unfold portref2_ClocksOf_1 at hm
 refine enter Tryz.func12 rfl Tryz.ntmps12 rfl ?_
 refine C_seq ?_
 refine C_region ?_
 refine V_box rfl rfl ?_
 intro b14 w15 h16
 have h27 : (v_kinds).oneCell' = true := by obtain ⟨_, _, e, _⟩ := Sl.form h_kinds; rw [e]; rfl
 have hk24 : Kp Dw w w15 := h16.kp
 have h23 : El (α := List Int) (fun _ => True) w15 b14 0 kinds := h16.el (fun _ _ => trivial) (by rw [Value.cells_one h27]; exact ⟨_, rfl, h_kinds.any⟩)
 have hH1 := Hp.kp (Dw := Dw) hH hk24
 obtain ⟨ps, hl, hs, hel⟩ := Hp.psEls (f := ob_portref2_ticking) (e := 54) (v := v_all) (cs := all) hH1 (i := 1) rfl (fun b c L' h => obEl_portref2_ticking h)
 refine V_y (Y_assign rfl) rfl rfl rfl ?_
 refine V_to (fun _ _ => rfl) ?_
 refine C_seq ?_
 refine C_region ?_
 refine V_y (Y_load (Hp.cell (j := 0) hH1 (i := 0) rfl rfl) Tryz.isAgg52 rfl) rfl rfl rfl ?_
 refine V_y (Y_makeFunc rfl rfl) rfl rfl rfl ?_
 obtain ⟨x6, hx6, hm⟩ := Option.bind_eq_some_iff.1 hm
 refine V_call Tryz.call13 rfl rfl rfl rfl (slices_ContainsFunc_L_portref2_ticking_portref2_ticking_c (Dw := Dw) w15 all ps v_all hs hl hel (fun y => portref2_ClocksOf_1_1 y kinds) 14 #[] #[.pointer (some ⟨b14, 0, none⟩)] Tryz.call14 (fun w1 hk b y hy r hr => portref2_ClocksOf_1_1_c (Dw := Dw) w1 (A := fun _ => True) (fun _ _ => trivial) y b hy kinds b14 (El.kp (Dw := Dw) h23 hk) hr) hx6) ?_
 rintro _ w2 ⟨rfl, hk2⟩
 refine V_y (Y_assign rfl) rfl rfl rfl ?_
 refine V_to (fun _ _ => rfl) ?_
 obtain rfl := Option.some.inj hm
 have hk3 := Kp.trans (Dw := Dw) hk24 hk2
 refine C_ret ?_
 try simp only [↓inBlock_ret, ↓then_ret]
 exact retQ rfl (Res.one Tryz.results12 rfl) ⟨A, rfl, Hp.kp (Dw := Dw) hH hk3, Kp.tr (Dw := Dw) hk3 hA hB⟩
end Go.Proofs.YtfbiebageicnaaaGreatDoor.W
