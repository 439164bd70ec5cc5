/-
  Written by program (gen.py) from the IR of the dump: each function computes its model.
-/
import Derived.Test.YtnaoklncjnplfaaDoorRouteOrdersW0
namespace Go.Proofs.YtnaoklncjnplfaaDoor.W
open Go Go.RowKit Go.Pu Go.Gw Go.Proofs Go.Proofs.YtnaoklncjnplfaaDoor.M
set_option linter.unusedVariables false
set_option linter.unusedSimpArgs false
variable {Dw : Prop}

set_option maxRecDepth 4000 in
set_option maxHeartbeats 4000000 in
theorem portref2_orderOf_1_c (w : World) {A : Nat → Prop} (hA : ∀ b, w.heap.size ≤ b → A b) (a_ : Int) (b : Int) (p2 : (List route_Work)) (b_p2 : Nat) (h_p2 : El A w b_p2 0 p2) {r : Int} (hm : portref2_orderOf_1 a_ b p2 = some r) : Ret Tryd.prog 22 #[.int .i64 a_, .int .i64 b, .pointer (some ⟨b_p2, 0, none⟩)] w fun v w' => v = .int .i64 r ∧ Kp Dw w w' := by
  unfold portref2_orderOf_1 at hm
  refine enter Tryd.func22 rfl Tryd.ntmps22 rfl ?_
  have hA0 := hA
  have hB := Nat.le_refl w.heap.size
  have hK : Tr Dw w.heap.size A w A w := Tr.refl (Dw := Dw) hA
  have hH : Hp w.heap.size A w [] := Hp.nil
  refine C_seq ?_
  refine C_region ?_
  refine V_y (Y_assign rfl) rfl rfl rfl ?_
  refine V_to (fun _ _ => rfl) ?_
  refine C_seq ?_
  refine C_region_def (Dw := Dw) (B := w.heap.size) (k := 8) [(6, 33, .agg #[.int .i64 0, .int .i64 0, .int .i64 0, .int .i64 0, .int .i64 0, .slice none 0 0]), (7, 33, .agg #[.int .i64 0, .int .i64 0, .int .i64 0, .int .i64 0, .int .i64 0, .slice none 0 0])] [(11, 3), (15, 7)] Tryd_mixed (by kernel_rfl) rfl ⟨⟨_, _, _, rfl, by simp⟩, Tryd.zeroValue33, ⟨⟨_, _, _, rfl, by simp⟩, Tryd.zeroValue33, trivial⟩⟩ ⟨⟨_, _, _, rfl, by decide, by decide⟩, by decide, rfl, Tryd.sizeOf33, ⟨⟨_, _, _, rfl, by decide, by decide⟩, by decide, rfl, Tryd.sizeOf33, trivial⟩⟩ rfl rfl (by decide) hH hB hA ?_
  simp only [List.take]
  obtain ⟨v7, h8, h9⟩ := El.list h_p2
  refine VQ_y (fun w' hw' => Y_load ((World.cell?_of_block (hw'.block _ (World.block_lt_of_cell? _ _ h8))).trans h8) Tryd.isAgg22 rfl) rfl rfl rfl ?_
  refine VQ_y (fun w' hw' => Y_move rfl) rfl rfl rfl ?_
  obtain ⟨x10, hx10, hm⟩ := Option.bind_eq_some_iff.1 hm
  refine VQ_indexAddr h9 hx10 Tryd.underlying22 Tryd.sizeOf33 rfl rfl rfl ?_
  intro b11 o12 h13
  obtain ⟨v14, h16, h15⟩ := El_route_Work h13
  refine VQ_y (fun w' hw' => Y_loadA (At.kp (Dw := Dw) h16 hw' h13.2.1) Tryd.isAgg33 Tryd.sizeOf33 rfl) rfl rfl rfl ?_
  obtain ⟨v17, h18, h19⟩ := El.list h_p2
  refine VQ_y (fun w' hw' => Y_load ((World.cell?_of_block (hw'.block _ (World.block_lt_of_cell? _ _ h18))).trans h18) Tryd.isAgg22 rfl) rfl rfl rfl ?_
  refine VQ_y (fun w' hw' => Y_move rfl) rfl rfl rfl ?_
  obtain ⟨x20, hx20, hm⟩ := Option.bind_eq_some_iff.1 hm
  refine VQ_indexAddr h19 hx20 Tryd.underlying22 Tryd.sizeOf33 rfl rfl rfl ?_
  intro b21 o22 h23
  obtain ⟨v24, h26, h25⟩ := El_route_Work h23
  refine VQ_y (fun w' hw' => Y_loadA (At.kp (Dw := Dw) h26 hw' h23.2.1) Tryd.isAgg33 Tryd.sizeOf33 rfl) rfl rfl rfl ?_
  have h29 : (v24).oneCell' = true := by obtain ⟨_, _, e, _⟩ := Sl.form h25; rw [e]; rfl
  have h32 : (v14).oneCell' = true := by obtain ⟨_, _, e, _⟩ := Sl.form h15; rw [e]; rfl
  refine VQ_end fun a ha => ⟨_, [.agg #[.int .i64 x10.ticket, .int .i64 x10.weight, .int .i64 x10.urgency, .int .i64 x10.since, .int .i64 x10.former, v14], .agg #[.int .i64 x20.ticket, .int .i64 x20.weight, .int .i64 x20.urgency, .int .i64 x20.since, .int .i64 x20.former, v24]], ha, rfl, rfl, ⟨rfl, (by exact (List.forall_mem_cons.2 ⟨rfl, (List.forall_mem_cons.2 ⟨rfl, (List.forall_mem_cons.2 ⟨rfl, (List.forall_mem_cons.2 ⟨rfl, (List.forall_mem_cons.2 ⟨rfl, (List.forall_mem_cons.2 ⟨h32, (fun _ h => nomatch h)⟩)⟩)⟩)⟩)⟩)⟩)), ⟨rfl, (by exact (List.forall_mem_cons.2 ⟨rfl, (List.forall_mem_cons.2 ⟨rfl, (List.forall_mem_cons.2 ⟨rfl, (List.forall_mem_cons.2 ⟨rfl, (List.forall_mem_cons.2 ⟨rfl, (List.forall_mem_cons.2 ⟨h29, (fun _ h => nomatch h)⟩)⟩)⟩)⟩)⟩)⟩)), trivial⟩⟩, fun b1 w2 A3 hH4 ht5 a ha6 => ?_⟩
  replace h_p2 := El.tr (Dw := Dw) h_p2 ht5
  replace h9 := Sl.tr (Dw := Dw) h9 ht5
  replace h13 := El.tr (Dw := Dw) h13 ht5
  replace h15 := Sl.tr (Dw := Dw) h15 ht5
  replace h19 := Sl.tr (Dw := Dw) h19 ht5
  replace h23 := El.tr (Dw := Dw) h23 ht5
  replace h25 := Sl.tr (Dw := Dw) h25 ht5
  replace hK := Tr.trans (Dw := Dw) hK ht5
  replace hB := Nat.le_trans hB ht5.ex.size
  replace hA := ht5.new
  replace hH : Hp w.heap.size A3 w2 (obC (b1 0) [.int .i64 x10.ticket, .int .i64 x10.weight, .int .i64 x10.urgency, .int .i64 x10.since, .int .i64 x10.former, v14] 33 :: obC (b1 1) [.int .i64 x20.ticket, .int .i64 x20.weight, .int .i64 x20.urgency, .int .i64 x20.since, .int .i64 x20.former, v24] 33 :: []) := hH4
  obtain ⟨A33, ht34, h35, hH36⟩ := Hp.freezeC (Dw := Dw) (α := route_Work) (x := x10) hH (i := 0) rfl hA (by exact ⟨[.int .i64 x10.ticket], _, rfl, rfl, ⟨[.int .i64 x10.weight], _, rfl, rfl, ⟨[.int .i64 x10.urgency], _, rfl, rfl, ⟨[.int .i64 x10.since], _, rfl, rfl, ⟨[.int .i64 x10.former], _, rfl, rfl, ⟨_, rfl, h15⟩⟩⟩⟩⟩⟩)
  replace h_p2 := El.tr (Dw := Dw) h_p2 ht34
  replace h9 := Sl.tr (Dw := Dw) h9 ht34
  replace h13 := El.tr (Dw := Dw) h13 ht34
  replace h15 := Sl.tr (Dw := Dw) h15 ht34
  replace h19 := Sl.tr (Dw := Dw) h19 ht34
  replace h23 := El.tr (Dw := Dw) h23 ht34
  replace h25 := Sl.tr (Dw := Dw) h25 ht34
  replace hK := Tr.trans (Dw := Dw) hK ht34
  replace hB := Nat.le_trans hB ht34.ex.size
  replace hA := ht34.new
  replace hH : Hp w.heap.size A33 w2 (obC (b1 1) [.int .i64 x20.ticket, .int .i64 x20.weight, .int .i64 x20.urgency, .int .i64 x20.since, .int .i64 x20.former, v24] 33 :: []) := hH36
  obtain ⟨A37, ht38, h39, hH40⟩ := Hp.freezeC (Dw := Dw) (α := route_Work) (x := x20) hH (i := 0) rfl hA (by exact ⟨[.int .i64 x20.ticket], _, rfl, rfl, ⟨[.int .i64 x20.weight], _, rfl, rfl, ⟨[.int .i64 x20.urgency], _, rfl, rfl, ⟨[.int .i64 x20.since], _, rfl, rfl, ⟨[.int .i64 x20.former], _, rfl, rfl, ⟨_, rfl, h25⟩⟩⟩⟩⟩⟩)
  replace h_p2 := El.tr (Dw := Dw) h_p2 ht38
  replace h9 := Sl.tr (Dw := Dw) h9 ht38
  replace h13 := El.tr (Dw := Dw) h13 ht38
  replace h15 := Sl.tr (Dw := Dw) h15 ht38
  replace h19 := Sl.tr (Dw := Dw) h19 ht38
  replace h23 := El.tr (Dw := Dw) h23 ht38
  replace h25 := Sl.tr (Dw := Dw) h25 ht38
  replace h35 := El.tr (Dw := Dw) h35 ht38
  replace hK := Tr.trans (Dw := Dw) hK ht38
  replace hB := Nat.le_trans hB ht38.ex.size
  replace hA := ht38.new
  replace hH : Hp w.heap.size A37 w2 ([]) := hH40
  refine C_at (n := ⟨33, [], none⟩) (fun _ _ => rfl) ?_ ha6
  refine C_seq ?_
  refine C_region_qt (Dw := Dw) 15 Tryd_mixed (by kernel_rfl) ?_
  simp only [List.take, List.drop]
  have h41 := El_route_Work_2 h39
  refine VQ_y (fun w' hw' => Y_fieldAddr Tryd.underlying33 rfl Tryd.sizeOf3 (by decide) rfl) rfl rfl rfl ?_
  refine VQ_y (fun w' hw' => Y_load (El.int (El.kp (Dw := Dw) h41 hw')) Tryd.isAgg3 rfl) rfl rfl rfl ?_
  have h42 := El_route_Work_2 h35
  refine VQ_y (fun w' hw' => Y_fieldAddr Tryd.underlying33 rfl Tryd.sizeOf3 (by decide) rfl) rfl rfl rfl ?_
  refine VQ_y (fun w' hw' => Y_load (El.int (El.kp (Dw := Dw) h42 hw')) Tryd.isAgg3 rfl) rfl rfl rfl ?_
  refine VQ_call (.int .i64 (cmp_Compare_int x20.urgency x10.urgency)) Tryd.call18 rfl rfl rfl rfl (fun w' hw' => (cmp_Compare_int_c w' x20.urgency x10.urgency).mono (fun _ _ h => ⟨h.1, h.2 ▸ hw'⟩)) ?_
  have h43 := El_route_Work_3 h35
  refine VQ_y (fun w' hw' => Y_fieldAddr Tryd.underlying33 rfl Tryd.sizeOf3 (by decide) rfl) rfl rfl rfl ?_
  refine VQ_y (fun w' hw' => Y_load (El.int (El.kp (Dw := Dw) h43 hw')) Tryd.isAgg3 rfl) rfl rfl rfl ?_
  have h44 := El_route_Work_3 h39
  refine VQ_y (fun w' hw' => Y_fieldAddr Tryd.underlying33 rfl Tryd.sizeOf3 (by decide) rfl) rfl rfl rfl ?_
  refine VQ_y (fun w' hw' => Y_load (El.int (El.kp (Dw := Dw) h44 hw')) Tryd.isAgg3 rfl) rfl rfl rfl ?_
  refine VQ_call (.int .i64 (cmp_Compare_int x10.since x20.since)) Tryd.call18 rfl rfl rfl rfl (fun w' hw' => (cmp_Compare_int_c w' x10.since x20.since).mono (fun _ _ h => ⟨h.1, h.2 ▸ hw'⟩)) ?_
  have h45 := El_route_Work_0 h35
  refine VQ_y (fun w' hw' => Y_fieldAddr Tryd.underlying33 rfl Tryd.sizeOf3 (by decide) rfl) rfl rfl rfl ?_
  refine VQ_y (fun w' hw' => Y_load (El.int (El.kp (Dw := Dw) h45 hw')) Tryd.isAgg3 rfl) rfl rfl rfl ?_
  have h46 := El_route_Work_0 h39
  refine VQ_y (fun w' hw' => Y_fieldAddr Tryd.underlying33 rfl Tryd.sizeOf3 (by decide) rfl) rfl rfl rfl ?_
  refine VQ_y (fun w' hw' => Y_load (El.int (El.kp (Dw := Dw) h46 hw')) Tryd.isAgg3 rfl) rfl rfl rfl ?_
  refine VQ_call (.int .i64 (cmp_Compare_int x10.ticket x20.ticket)) Tryd.call18 rfl rfl rfl rfl (fun w' hw' => (cmp_Compare_int_c w' x10.ticket x20.ticket).mono (fun _ _ h => ⟨h.1, h.2 ▸ hw'⟩)) ?_
  refine VQ_tail (fun w47 hk48 => ?_)
  try simp only [List.take, List.drop]
  have ht49 := Kp.tr (Dw := Dw) hk48 hA hB
  replace hH := Hp.kp (Dw := Dw) hH hk48
  replace h35 := El.tr (Dw := Dw) h35 ht49
  replace h39 := El.tr (Dw := Dw) h39 ht49
  replace h41 := El.tr (Dw := Dw) h41 ht49
  replace h42 := El.tr (Dw := Dw) h42 ht49
  replace h43 := El.tr (Dw := Dw) h43 ht49
  replace h44 := El.tr (Dw := Dw) h44 ht49
  replace h45 := El.tr (Dw := Dw) h45 ht49
  replace h46 := El.tr (Dw := Dw) h46 ht49
  replace hK := Tr.trans (Dw := Dw) hK ht49
  replace hB := Nat.le_trans hB ht49.ex.size
  replace hA := ht49.new
  refine V_buildSlice (Dw := Dw) (l := ([(cmp_Compare_int x20.urgency x10.urgency), (cmp_Compare_int x10.since x20.since), (cmp_Compare_int x10.ticket x20.ticket)] : List Int)) (len := 3) Tryd.underlying23 Tryd.sizeOf3 Tryd.zeroValue3 rfl (by with_unfolding_all rfl) (by decide) (by decide) hA ⟨[.int .i64 (cmp_Compare_int x20.urgency x10.urgency)], _, rfl, rfl, ⟨[.int .i64 (cmp_Compare_int x10.since x20.since)], _, rfl, rfl, ⟨[.int .i64 (cmp_Compare_int x10.ticket x20.ticket)], _, rfl, rfl, rfl⟩⟩⟩ rfl rfl ?_
  intro v50 w51 hk53 h52
  have ht54 := Kp.tr (Dw := Dw) hk53 hA hB
  replace hH := Hp.kp (Dw := Dw) hH hk53
  replace h35 := El.tr (Dw := Dw) h35 ht54
  replace h39 := El.tr (Dw := Dw) h39 ht54
  replace h41 := El.tr (Dw := Dw) h41 ht54
  replace h42 := El.tr (Dw := Dw) h42 ht54
  replace h43 := El.tr (Dw := Dw) h43 ht54
  replace h44 := El.tr (Dw := Dw) h44 ht54
  replace h45 := El.tr (Dw := Dw) h45 ht54
  replace h46 := El.tr (Dw := Dw) h46 ht54
  replace hK := Tr.trans (Dw := Dw) hK ht54
  replace hB := Nat.le_trans hB ht54.ex.size
  replace hA := ht54.new
  obtain ⟨x55, hx55, hm⟩ := Option.bind_eq_some_iff.1 hm
  refine V_call Tryd.call17 rfl rfl rfl rfl (cmp_Or_int_c w51 ([(cmp_Compare_int x20.urgency x10.urgency), (cmp_Compare_int x10.since x20.since), (cmp_Compare_int x10.ticket x20.ticket)] : List Int) v50 h52 hx55) ?_
  rintro _ _ ⟨rfl, rfl⟩
  refine V_y (Y_assign rfl) rfl rfl rfl ?_
  refine V_to (fun _ _ => rfl) ?_
  obtain rfl := Option.some.inj hm
  refine C_ret ?_
  try simp only [↓inBlock_ret, ↓then_ret]
  exact retQ rfl (Res.one Tryd.results22 rfl) ⟨rfl, hK.kp⟩

set_option maxRecDepth 4000 in
set_option maxHeartbeats 4000000 in
theorem portref2_orderOf_c (w : World) {A : Nat → Prop} (hA : ∀ b, w.heap.size ≤ b → A b) (l : (List route_Work)) (v_l : Value) (h_l : Sl A w v_l l) {r : (List Int)} (hm : portref2_orderOf l = some r) : Ret Tryd.prog 10 #[v_l] w fun v w' => ∃ s0, v = s0 ∧ Ownd 3 w w' s0 r ∧ Kp Dw w w' := by
  unfold portref2_orderOf at hm
  refine enter Tryd.func10 rfl Tryd.ntmps10 rfl ?_
  have hA0 := hA
  have hB := Nat.le_refl w.heap.size
  have hK : Tr Dw w.heap.size A w A w := Tr.refl (Dw := Dw) hA
  have hH : Hp w.heap.size A w [] := Hp.nil
  refine C_seq ?_
  refine C_region ?_
  refine V_box rfl rfl ?_
  intro b3 w4 h5
  have h10 : (v_l).oneCell' = true := by obtain ⟨_, _, e, _⟩ := Sl.form h_l; rw [e]; rfl
  have hk7 := h5.kp (Dw := Dw)
  have h6 : El (α := (List route_Work)) A w4 b3 0 l := h5.el hA (by rw [Value.cells_one h10]; exact ⟨_, rfl, h_l⟩)
  have ht11 := Kp.tr (Dw := Dw) hk7 hA hB
  replace hH := Hp.kp (Dw := Dw) hH hk7
  replace h_l := Sl.tr (Dw := Dw) h_l ht11
  replace hK := Tr.trans (Dw := Dw) hK ht11
  replace hB := Nat.le_trans hB ht11.ex.size
  replace hA := ht11.new
  refine V_y (Y_assign rfl) rfl rfl rfl ?_
  refine V_to (fun _ _ => rfl) ?_
  refine C_seq ?_
  refine C_region ?_
  obtain ⟨v12, h13, h14⟩ := El.list h6
  refine V_y (Y_load h13 Tryd.isAgg22 rfl) rfl rfl rfl ?_
  have hn15 := Sl.le h14
  refine V_y (Y_lenSl h14 rfl Tryd.underlying22 rfl) rfl rfl rfl ?_
  obtain ⟨x16, hx16, hm⟩ := Option.bind_eq_some_iff.1 hm
  refine V_makeH (Dw := Dw) (e := 3) (ti := Tryd.t3) hH hx16 (fun _ _ => rfl) Tryd.underlying23 Tryd_info3 rfl rfl rfl (by decide) (by decide) hB hA rfl rfl rfl ?_
  intro v17 w18 A19 hH20 ht21
  replace h6 := El.tr (Dw := Dw) h6 ht21
  replace h14 := Sl.tr (Dw := Dw) h14 ht21
  replace hK := Tr.trans (Dw := Dw) hK ht21
  replace hB := Nat.le_trans hB ht21.ex.size
  replace hA := ht21.new
  replace hH : Hp w.heap.size A19 w18 (obS (α := Int) 3 v17 x16 :: []) := hH20
  refine V_y (Y_assign rfl) rfl rfl rfl ?_
  refine V_to (fun _ _ => rfl) ?_
  refine C_seq ?_
  refine C_seq ?_
  refine C_region ?_
  obtain ⟨v22, h23, h24⟩ := El.list h6
  refine V_y (Y_load h23 Tryd.isAgg22 rfl) rfl rfl rfl ?_
  have hn25 := Sl.le h24
  refine V_y (Y_lenSl h24 rfl Tryd.underlying22 rfl) rfl rfl rfl ?_
  refine V_y (Y_move rfl) rfl rfl rfl ?_
  refine V_to (fun _ _ => rfl) ?_
  obtain ⟨o26, ho26, hm⟩ := Option.bind_eq_some_iff.1 hm
  refine C_cutG (ι := ((List Int) × Value × (Nat → Prop))) (fun ⟨s27, v33, A35⟩ => [(1, .pointer (some ⟨b3, 0, none⟩)), (3, v33)]) (fun ⟨s27, v33, A35⟩ => fun w' => o26 = .fin s27 ∧ Hp w.heap.size A35 w' (obS (α := Int) 3 v33 s27 :: []) ∧ Tr Dw w.heap.size A19 w18 A35 w') ?_ ?_
  · refine C_block ?_
    refine C_range ho26 (fun k29 s37 a w' => ∃ i : (Value × (Nat → Prop)), Has ⟨22, [], none⟩ a ([(1, .pointer (some ⟨b3, 0, none⟩)), (3, i.1), (9, .int .i64 (l.length : Int)), (10, .int .i64 (k29 : Int))]) ∧ Hp w.heap.size i.2 w' (obS (α := Int) 3 i.1 s37 :: []) ∧ Tr Dw w.heap.size A19 w18 i.2 w') (fun a ha => ⟨(v17, A19), ha.sub ⟨rfl, rfl, rfl, rfl, trivial⟩, ⟨hH, Tr.refl (Dw := Dw) hA⟩⟩) ?_
    rintro K k29 s37 a w38 ⟨⟨v39, A41⟩, ha63, hH42, hr28⟩ hle46 K49 h48
    refine C_of ?_ ha63
    replace h6 := El.tr (Dw := Dw) h6 hr28
    replace hK := Tr.trans (Dw := Dw) hK hr28
    replace hB := Nat.le_trans hB hr28.ex.size
    replace hA := hr28.new
    replace hH : Hp w.heap.size A41 w38 (obS (α := Int) 3 v39 s37 :: []) := hH42
    refine C_seq (C_region (V_y (Y_lss rfl rfl) rfl rfl rfl (V_to (fun _ _ => rfl) ?_)))
    refine C_seq ?_
    refine C_cond rfl (fun hc51 => ?_) (fun hc51 => ?_)
    · have hlt47 := lt_of_dec hc51
      obtain ⟨x43, h44, h45⟩ := K49 hlt47
      refine C_skip_to (fun _ _ => rfl) ?_
      refine C_seq ?_
      refine C_block ?_
      refine C_seq ?_
      refine C_region ?_
      refine V_y (Y_move rfl) rfl rfl rfl ?_
      refine V_y (Y_assign rfl) rfl rfl rfl ?_
      refine V_to (fun _ _ => rfl) ?_
      refine C_region ?_
      refine V_y (Y_move rfl) rfl rfl rfl ?_
      refine V_y (Y_move rfl) rfl rfl rfl ?_
      refine V_y (Y_move rfl) rfl rfl rfl ?_
      obtain ⟨x52, hx52, h44⟩ := Option.bind_eq_some_iff.1 h44
      refine V_indexAddrH (α := Int) (e := 3) (v := v39) (l := s37) hH (i := 0) rfl hx52 Tryd.underlying23 Tryd.sizeOf3 rfl rfl rfl ?_
      intro b53 o54 h55 hl56
      obtain ⟨x57, hx57, h44⟩ := Option.bind_eq_some_iff.1 h44
      refine V_storeH (Dw := Dw) (α := Int) (e := 3) (v := v39) (l := s37) hH (i := 0) rfl hl56 hx57 rfl Tryd.sizeOf3 rfl hB hA rfl rfl ?_
      intro w58 hH59 ht60
      replace h6 := El.tr (Dw := Dw) h6 ht60
      replace hK := Tr.trans (Dw := Dw) hK ht60
      replace hr28 := Tr.trans (Dw := Dw) hr28 ht60
      replace hB := Nat.le_trans hB ht60.ex.size
      replace hA := ht60.new
      replace hH : Hp w.heap.size A41 w58 (obS (α := Int) 3 v39 x57 :: []) := hH59
      refine V_to (fun _ _ => rfl) ?_
      refine C_region ?_
      refine V_y (Y_addI rfl rfl) rfl rfl rfl ?_
      refine V_y (Y_move rfl) rfl rfl rfl ?_
      obtain rfl := Option.some.inj h44
      refine V_end (fun a ha61 => ?_)
      exact ⟨x57, hlt47, h45, ⟨(v39, A41), ha61.sub ⟨rfl, rfl, rfl, (congrArg (fun z => some (Value.int .i64 z)) (w64_succ hlt47 hn25)), trivial⟩, ⟨hH, hr28⟩⟩⟩
    · refine C_exit (fun a ha62 => ?_)
      exact ⟨(s37, v39, A41), ha62.sub ⟨rfl, rfl, trivial⟩, ⟨(h48 (eq_of_dec hle46 hc51)).symm, hH, hr28⟩⟩
  rintro ⟨s27, v33, A35⟩ w30 ⟨rfl, hH36, hk31⟩ a ha32
  rw [Lp.andThen_fin] at hm
  replace h6 := El.tr (Dw := Dw) h6 hk31
  replace hK := Tr.trans (Dw := Dw) hK hk31
  replace hB := Nat.le_trans hB hk31.ex.size
  replace hA := hk31.new
  replace hH : Hp w.heap.size A35 w30 (obS (α := Int) 3 v33 s27 :: []) := hH36
  refine C_at (n := ⟨22, [], none⟩) (fun _ _ => rfl) ?_ ha32
  refine C_seq ?_
  refine C_region ?_
  refine V_y (Y_move rfl) rfl rfl rfl ?_
  refine V_y (Y_makeFunc rfl rfl) rfl rfl rfl ?_
  obtain ⟨x64, hx64, hm⟩ := Option.bind_eq_some_iff.1 hm
  refine V_call Tryd.call15 rfl rfl rfl rfl (Tryd_sf15 (Dw := Dw) Tryd.call22 (fun w70 ht71 h72 p74 q75 c76 h73 => by exact (portref2_orderOf_1_c (Dw := True) w70 h72 p74 q75 l b3 (El.tr (Dw := True) h6 ht71) h73).mono fun _ _ h => ⟨h.1, h.2⟩) hH (i := 0) rfl hB hA hx64) ?_
  rintro _ w65 ⟨rfl, hH66, ht67⟩
  replace h6 := El.tr (Dw := Dw) h6 ht67
  replace hK := Tr.trans (Dw := Dw) hK ht67
  replace hB := Nat.le_trans hB ht67.ex.size
  replace hA := ht67.new
  replace hH : Hp w.heap.size A35 w65 (obS (α := Int) 3 v33 x64 :: []) := hH66
  refine V_to (fun _ _ => rfl) ?_
  refine C_seq ?_
  refine C_region ?_
  refine V_y (Y_move rfl) rfl rfl rfl ?_
  refine V_y (Y_assign rfl) rfl rfl rfl ?_
  refine V_to (fun _ _ => rfl) ?_
  obtain rfl := Option.some.inj hm
  refine C_ret ?_
  try simp only [↓inBlock_ret, ↓then_ret]
  exact retQ rfl (Res.one Tryd.results10 rfl) ⟨v33, rfl, (Hp.ownd hH (i := 0) rfl), hK.kp⟩

set_option maxRecDepth 4000 in
set_option maxHeartbeats 4000000 in
theorem portref2_OrderOf_c (w : World) {A : Nat → Prop} (hA : ∀ b, w.heap.size ≤ b → A b) (l : (List route_Work)) (v_l : Value) (h_l : Sl A w v_l l) {r : ((List Int) × Int)} (hm : portref2_OrderOf l = some r) : Ret Tryd.prog 5 #[v_l] w fun v w' => ∃ s0, v = .tuple #[s0, .int .i64 r.2] ∧ Ownd 3 w w' s0 r.1 ∧ Kp False w w' := by
  unfold portref2_OrderOf at hm
  refine enter Tryd.func5 rfl Tryd.ntmps5 rfl ?_
  have hA0 := hA
  have hB := Nat.le_refl w.heap.size
  have hK : Tr False w.heap.size A w A w := Tr.refl (Dw := False) hA
  have hH : Hp w.heap.size A w [] := Hp.nil
  refine C_seq ?_
  refine C_region ?_
  refine V_y (Y_assign rfl) rfl rfl rfl ?_
  refine V_y (Y_assign rfl) rfl rfl rfl ?_
  refine V_to (fun _ _ => rfl) ?_
  refine C_seq ?_
  refine C_seq ?_
  refine C_region ?_
  refine V_y (Y_move rfl) rfl rfl rfl ?_
  obtain ⟨x3, hx3, hm⟩ := Option.bind_eq_some_iff.1 hm
  refine V_call Tryd.call9 rfl rfl rfl rfl (portref2_WorkFault_c w hA l v_l h_l hx3) ?_
  rintro _ w4 ⟨rfl, hk5⟩
  have ht6 := Kp.tr (Dw := False) hk5 hA hB
  replace hH := Hp.kp (Dw := False) hH hk5
  replace h_l := Sl.tr (Dw := False) h_l ht6
  replace hK := Tr.trans (Dw := False) hK ht6
  replace hB := Nat.le_trans hB ht6.ex.size
  replace hA := ht6.new
  refine V_y (Y_assign rfl) rfl rfl rfl ?_
  refine V_to (fun _ _ => rfl) ?_
  refine C_seq ?_
  refine C_region ?_
  refine V_y (Y_move rfl) rfl rfl rfl ?_
  refine V_y (Y_neq rfl rfl) rfl rfl rfl ?_
  refine V_to (fun _ _ => rfl) ?_
  refine C_cond rfl (fun hc7 => ?_) (fun hc7 => ?_)
  · rw [if_pos hc7] at hm
    refine C_seq ?_
    refine C_region ?_
    refine V_y (Y_move rfl) rfl rfl rfl ?_
    refine V_y (Y_assign rfl) rfl rfl rfl ?_
    refine V_y (Y_assign rfl) rfl rfl rfl ?_
    refine V_to (fun _ _ => rfl) ?_
    obtain rfl := Option.some.inj hm
    replace hH : Hp w.heap.size A w4 (obS (α := Int) 3 (.slice none 0 0) ([] : (List Int)) :: []) := Hp.addNil (α := Int) (e := 3) hH
    refine C_ret ?_
    try simp only [↓inBlock_ret, ↓then_ret]
    exact retQ rfl (Res.two Tryd.results5 rfl rfl) ⟨.slice none 0 0, rfl, (Hp.ownd hH (i := 0) rfl), hK.kp⟩
  · rw [if_neg (nt hc7)] at hm
    refine C_skip_to (fun _ _ => rfl) ?_
    refine C_seq ?_
    refine C_region ?_
    refine V_y (Y_move rfl) rfl rfl rfl ?_
    obtain ⟨x8, hx8, hm⟩ := Option.bind_eq_some_iff.1 hm
    refine V_call Tryd.call10 rfl rfl rfl rfl (portref2_orderOf_c (Dw := False) w4 hA l v_l h_l hx8) ?_
    rintro v9 w11 ⟨_, rfl, h10, hk12⟩
    obtain ⟨A13, ht14, hH15⟩ := Hp.addOwnd (Dw := False) hH hB hA hk12 h10
    replace h_l := Sl.tr (Dw := False) h_l ht14
    replace hK := Tr.trans (Dw := False) hK ht14
    replace hB := Nat.le_trans hB ht14.ex.size
    replace hA := ht14.new
    replace hH : Hp w.heap.size A13 w11 (obS (α := Int) 3 v9 x8 :: []) := hH15
    refine V_y (Y_assign rfl) rfl rfl rfl ?_
    refine V_y (Y_assign rfl) rfl rfl rfl ?_
    refine V_to (fun _ _ => rfl) ?_
    obtain rfl := Option.some.inj hm
    refine C_ret ?_
    try simp only [↓inBlock_ret, ↓then_ret]
    exact retQ rfl (Res.two Tryd.results5 rfl rfl) ⟨v9, rfl, (Hp.ownd hH (i := 0) rfl), hK.kp⟩

set_option maxRecDepth 4000 in
set_option maxHeartbeats 4000000 in
theorem slices_Equal_Lint_int_c (w : World) {A : Nat → Prop} (hA : ∀ b, w.heap.size ≤ b → A b) (s1 : (List Int)) (v_s1 : Value) (h_s1 : Sl A w v_s1 s1) (s2 : (List Int)) (v_s2 : Value) (h_s2 : Sl A w v_s2 s2) {r : Bool} (hm : slices_Equal_Lint_int s1 s2 = some r) : Ret Tryd.prog 6 #[v_s1, v_s2] w fun v w' => v = .bool r ∧ Kp Dw w w' := by
  unfold slices_Equal_Lint_int at hm
  refine enter Tryd.func6 rfl Tryd.ntmps6 rfl ?_
  have hA0 := hA
  have hB := Nat.le_refl w.heap.size
  have hK : Tr Dw w.heap.size A w A w := Tr.refl (Dw := Dw) hA
  have hH : Hp w.heap.size A w [] := Hp.nil
  refine C_seq ?_
  refine C_region ?_
  refine V_y (Y_assign rfl) rfl rfl rfl ?_
  refine V_to (fun _ _ => rfl) ?_
  refine C_seq ?_
  refine C_seq ?_
  refine C_region ?_
  refine V_y (Y_move rfl) rfl rfl rfl ?_
  refine V_y (Y_lenSl h_s1 rfl Tryd.underlying23 rfl) rfl rfl rfl ?_
  refine V_y (Y_move rfl) rfl rfl rfl ?_
  refine V_y (Y_lenSl h_s2 rfl Tryd.underlying23 rfl) rfl rfl rfl ?_
  refine V_y (Y_neq rfl rfl) rfl rfl rfl ?_
  refine V_to (fun _ _ => rfl) ?_
  refine C_cond rfl (fun hc5 => ?_) (fun hc5 => ?_)
  · rw [if_pos hc5] at hm
    refine C_seq ?_
    refine C_region ?_
    refine V_y (Y_assign rfl) rfl rfl rfl ?_
    refine V_to (fun _ _ => rfl) ?_
    obtain rfl := Option.some.inj hm
    refine C_ret ?_
    try simp only [↓inBlock_ret, ↓then_ret]
    exact retQ rfl (Res.one Tryd.results6 rfl) ⟨rfl, hK.kp⟩
  · rw [if_neg (nt hc5)] at hm
    refine C_skip_to (fun _ _ => rfl) ?_
    refine C_seq ?_
    refine C_seq ?_
    refine C_region ?_
    refine V_y (Y_move rfl) rfl rfl rfl ?_
    refine V_y (Y_lenSl h_s1 rfl Tryd.underlying23 rfl) rfl rfl rfl ?_
    refine V_y (Y_move rfl) rfl rfl rfl ?_
    refine V_to (fun _ _ => rfl) ?_
    have hn27 := Sl.le h_s1
    obtain ⟨o6, ho6, hm⟩ := Option.bind_eq_some_iff.1 hm
    refine C_cutG (ι := (Unit × (Nat → Prop))) (fun ⟨s7, A13⟩ => []) (fun ⟨s7, A13⟩ => fun w' => o6 = .fin s7 ∧ Hp w.heap.size A13 w' ([]) ∧ Tr Dw w.heap.size A w A13 w') ?_ ?_
    · refine C_block ?_
      refine C_range ho6 (fun k9 _ a w' => ∃ i : (Nat → Prop), Has ⟨26, [], none⟩ a ([(0, v_s1), (1, v_s2), (12, .int .i64 (s1.length : Int)), (13, .int .i64 (k9 : Int))]) ∧ Hp w.heap.size i w' ([]) ∧ Tr Dw w.heap.size A w i w') (fun a ha => ⟨A, ha.sub ⟨rfl, rfl, rfl, rfl, trivial⟩, ⟨hH, Tr.refl (Dw := Dw) hA⟩⟩) ?_
      rintro K k9 _ a w17 ⟨A18, ha43, hH19, hr8⟩ hle23 K26 h25
      refine C_of ?_ ha43
      replace h_s1 := Sl.tr (Dw := Dw) h_s1 hr8
      replace h_s2 := Sl.tr (Dw := Dw) h_s2 hr8
      replace hK := Tr.trans (Dw := Dw) hK hr8
      replace hB := Nat.le_trans hB hr8.ex.size
      replace hA := hr8.new
      replace hH : Hp w.heap.size A18 w17 ([]) := hH19
      refine C_seq (C_region (V_y (Y_lss rfl rfl) rfl rfl rfl (V_to (fun _ _ => rfl) ?_)))
      refine C_seq ?_
      refine C_cond rfl (fun hc28 => ?_) (fun hc28 => ?_)
      · have hlt24 := lt_of_dec hc28
        obtain ⟨x20, h21, h22⟩ := K26 hlt24
        refine C_skip_to (fun _ _ => rfl) ?_
        refine C_seq ?_
        refine C_block ?_
        refine C_seq ?_
        refine C_region ?_
        refine V_y (Y_move rfl) rfl rfl rfl ?_
        refine V_y (Y_assign rfl) rfl rfl rfl ?_
        refine V_to (fun _ _ => rfl) ?_
        refine C_seq ?_
        refine C_region_q (Dw := Dw) Tryd_mixed (by kernel_rfl) ?_
        refine VQ_y (fun w' hw' => Y_move rfl) rfl rfl rfl ?_
        refine VQ_y (fun w' hw' => Y_move rfl) rfl rfl rfl ?_
        obtain ⟨x29, hx29, h21⟩ := Option.bind_eq_some_iff.1 h21
        refine VQ_indexAddr h_s1 hx29 Tryd.underlying23 Tryd.sizeOf3 rfl rfl rfl ?_
        intro b30 o31 h32
        refine VQ_y (fun w' hw' => Y_load (El.int (El.kp (Dw := Dw) h32 hw')) Tryd.isAgg3 rfl) rfl rfl rfl ?_
        refine VQ_y (fun w' hw' => Y_move rfl) rfl rfl rfl ?_
        refine VQ_y (fun w' hw' => Y_move rfl) rfl rfl rfl ?_
        obtain ⟨x33, hx33, h21⟩ := Option.bind_eq_some_iff.1 h21
        refine VQ_indexAddr h_s2 hx33 Tryd.underlying23 Tryd.sizeOf3 rfl rfl rfl ?_
        intro b34 o35 h36
        refine VQ_y (fun w' hw' => Y_load (El.int (El.kp (Dw := Dw) h36 hw')) Tryd.isAgg3 rfl) rfl rfl rfl ?_
        refine VQ_y (fun w' hw' => Y_neq rfl rfl) rfl rfl rfl ?_
        refine VQ_to (fun _ _ => rfl) (fun w37 hk38 => ?_)
        have ht39 := Kp.tr (Dw := Dw) hk38 hA hB
        replace hH := Hp.kp (Dw := Dw) hH hk38
        replace h_s1 := Sl.tr (Dw := Dw) h_s1 ht39
        replace h_s2 := Sl.tr (Dw := Dw) h_s2 ht39
        replace hK := Tr.trans (Dw := Dw) hK ht39
        replace hr8 := Tr.trans (Dw := Dw) hr8 ht39
        replace hB := Nat.le_trans hB ht39.ex.size
        replace hA := ht39.new
        refine C_cond rfl (fun hc40 => ?_) (fun hc40 => ?_)
        · rw [if_pos hc40] at h21
          refine C_seq ?_
          refine C_region ?_
          refine V_y (Y_assign rfl) rfl rfl rfl ?_
          refine V_to (fun _ _ => rfl) ?_
          obtain rfl := Option.some.inj h21
          obtain rfl := (h22 : Lp.rt _ = _)
          rw [Lp.andThen_rt] at hm
          obtain rfl := Option.some.inj hm
          refine C_ret ?_
          try simp only [↓inBlock_ret, ↓then_ret]
          exact retQ rfl (Res.one Tryd.results6 rfl) ⟨rfl, hK.kp⟩
        · rw [if_neg (nt hc40)] at h21
          refine C_skip_to (fun _ _ => rfl) ?_
          refine C_region ?_
          refine V_y (Y_addI rfl rfl) rfl rfl rfl ?_
          refine V_y (Y_move rfl) rfl rfl rfl ?_
          obtain rfl := Option.some.inj h21
          refine V_end (fun a ha41 => ?_)
          exact ⟨(), hlt24, h22, ⟨A18, ha41.sub ⟨rfl, rfl, rfl, (congrArg (fun z => some (Value.int .i64 z)) (w64_succ hlt24 hn27)), trivial⟩, ⟨hH, hr8⟩⟩⟩
      · refine C_exit (fun a ha42 => ?_)
        exact ⟨((), A18), ha42.sub trivial, ⟨(h25 (eq_of_dec hle23 hc28)).symm, hH, hr8⟩⟩
    rintro ⟨s7, A13⟩ w10 ⟨rfl, hH14, hk11⟩ a ha12
    rw [Lp.andThen_fin] at hm
    replace hK := Tr.trans (Dw := Dw) hK hk11
    replace hB := Nat.le_trans hB hk11.ex.size
    replace hA := hk11.new
    replace hH : Hp w.heap.size A13 w10 ([]) := hH14
    refine C_at (n := ⟨26, [], none⟩) (fun _ _ => rfl) ?_ ha12
    refine C_seq ?_
    refine C_region ?_
    refine V_y (Y_assign rfl) rfl rfl rfl ?_
    refine V_to (fun _ _ => rfl) ?_
    obtain rfl := Option.some.inj hm
    refine C_ret ?_
    try simp only [↓inBlock_ret, ↓then_ret]
    exact retQ rfl (Res.one Tryd.results6 rfl) ⟨rfl, hK.kp⟩

set_option maxRecDepth 4000 in
set_option maxHeartbeats 4000000 in
theorem portlaw2_RouteOrders_c (w : World) {A : Nat → Prop} (hA : ∀ b, w.heap.size ≤ b → A b) (l : (List route_Work)) (v_l : Value) (h_l : Sl A w v_l l) {r : Bool} (hm : portlaw2_RouteOrders l = some r) : Ret Tryd.prog 3 #[v_l] w fun v w' => v = .bool r ∧ Kp False w w' := by
  unfold portlaw2_RouteOrders at hm
  refine enter Tryd.func3 rfl Tryd.ntmps3 rfl ?_
  have hA0 := hA
  have hB := Nat.le_refl w.heap.size
  have hK : Tr False w.heap.size A w A w := Tr.refl (Dw := False) hA
  have hH : Hp w.heap.size A w [] := Hp.nil
  refine C_seq ?_
  refine C_region ?_
  refine V_y (Y_assign rfl) rfl rfl rfl ?_
  refine V_to (fun _ _ => rfl) ?_
  refine C_seq ?_
  refine C_region ?_
  refine V_y (Y_move rfl) rfl rfl rfl ?_
  obtain ⟨x3, hx3, hm⟩ := Option.bind_eq_some_iff.1 hm
  refine V_call Tryd.call4 rfl rfl rfl rfl (route_Order_c (Dw := False) w hA l v_l h_l hx3) ?_
  rintro _ w6 ⟨v4, rfl, h5, hk7⟩
  obtain ⟨A8, ht9, hH10⟩ := Hp.addOwnd (Dw := False) hH hB hA hk7 h5
  replace h_l := Sl.tr (Dw := False) h_l ht9
  replace hK := Tr.trans (Dw := False) hK ht9
  replace hB := Nat.le_trans hB ht9.ex.size
  replace hA := ht9.new
  replace hH : Hp w.heap.size A8 w6 (obS (α := Int) 3 v4 x3.1 :: []) := hH10
  refine V_y (Y_move rfl) rfl rfl rfl ?_
  refine V_y (Y_extract rfl rfl) rfl rfl rfl ?_
  refine V_y (Y_extract rfl rfl) rfl rfl rfl ?_
  refine V_y (Y_assign rfl) rfl rfl rfl ?_
  refine V_y (Y_assign rfl) rfl rfl rfl ?_
  refine V_to (fun _ _ => rfl) ?_
  refine C_seq ?_
  refine C_region ?_
  refine V_y (Y_move rfl) rfl rfl rfl ?_
  obtain ⟨x11, hx11, hm⟩ := Option.bind_eq_some_iff.1 hm
  refine V_call Tryd.call5 rfl rfl rfl rfl (portref2_OrderOf_c w6 hA l v_l h_l hx11) ?_
  rintro _ w14 ⟨v12, rfl, h13, hk15⟩
  obtain ⟨A16, ht17, hH18⟩ := Hp.addOwnd (Dw := False) hH hB hA hk15 h13
  replace h_l := Sl.tr (Dw := False) h_l ht17
  replace hK := Tr.trans (Dw := False) hK ht17
  replace hB := Nat.le_trans hB ht17.ex.size
  replace hA := ht17.new
  replace hH : Hp w.heap.size A16 w14 (obS (α := Int) 3 v12 x11.1 :: obS (α := Int) 3 v4 x3.1 :: []) := hH18
  refine V_y (Y_move rfl) rfl rfl rfl ?_
  refine V_y (Y_extract rfl rfl) rfl rfl rfl ?_
  refine V_y (Y_extract rfl rfl) rfl rfl rfl ?_
  refine V_y (Y_assign rfl) rfl rfl rfl ?_
  refine V_y (Y_assign rfl) rfl rfl rfl ?_
  refine V_to (fun _ _ => rfl) ?_
  refine C_seq ?_
  obtain ⟨s20, ho19, hm⟩ := Option.bind_eq_some_iff.1 hm
  refine C_cutG (ι := (Nat → Prop)) (fun (A25 : (Nat → Prop)) => [(2, .bool s20)]) (fun (A25 : (Nat → Prop)) => fun w' => Hp w.heap.size A25 w' (obS (α := Int) 3 v12 x11.1 :: obS (α := Int) 3 v4 x3.1 :: []) ∧ Tr False w.heap.size A16 w14 A25 w') ?_ ?_
  · have hr21 : Tr False w.heap.size A16 w14 A16 w14 := Tr.refl (Dw := False) hA
    refine C_region ?_
    refine V_y (Y_move rfl) rfl rfl rfl ?_
    refine V_y (Y_move rfl) rfl rfl rfl ?_
    refine V_y (Y_eql rfl rfl) rfl rfl rfl ?_
    refine V_y (Y_move rfl) rfl rfl rfl ?_
    rcases Bool.eq_false_or_eq_true (x3.2 == x11.2) with hc27 | hc27
    · rw [if_pos hc27] at ho19
      refine V_ge rfl rfl rfl hc27 ?_
      refine V_y (Y_move rfl) rfl rfl rfl ?_
      refine V_ge rfl rfl rfl hc27 ?_
      refine V_y (Y_move rfl) rfl rfl rfl ?_
      refine V_ge rfl rfl rfl hc27 ?_
      obtain ⟨x28, hx28, ho19⟩ := Option.bind_eq_some_iff.1 ho19
      refine V_call Tryd.call6 rfl rfl rfl rfl (slices_Equal_Lint_int_c (Dw := False) w14 (A := fun _ => True) (fun _ _ => trivial) x3.1 v4 (Hp.any (α := Int) (e := 3) (v := v4) (l := x3.1) hH (i := 1) rfl) x11.1 v12 (Hp.any (α := Int) (e := 3) (v := v12) (l := x11.1) hH (i := 0) rfl) hx28) ?_
      rintro _ w29 ⟨rfl, hk30⟩
      have ht31 := Kp.tr (Dw := False) hk30 hA hB
      replace hH := Hp.kp (Dw := False) hH hk30
      replace hK := Tr.trans (Dw := False) hK ht31
      replace hr21 := Tr.trans (Dw := False) hr21 ht31
      replace hB := Nat.le_trans hB ht31.ex.size
      replace hA := ht31.new
      refine V_y (Y_pick_te rfl hc27 rfl) rfl rfl rfl ?_
      refine V_y (Y_assign rfl) rfl rfl rfl ?_
      obtain rfl := Option.some.inj ho19
      refine V_end (fun a ha32 => ?_)
      exact ⟨A16, ha32.sub ⟨rfl, trivial⟩, ⟨hH, hr21⟩⟩
    · rw [if_neg (nt hc27)] at ho19
      refine V_gn rfl rfl rfl hc27 rfl rfl rfl ?_
      refine V_gn rfl rfl rfl hc27 rfl rfl rfl ?_
      refine V_gn rfl rfl rfl hc27 rfl rfl rfl ?_
      refine V_y (Y_pick_fe rfl hc27 rfl) rfl rfl rfl ?_
      refine V_y (Y_assign rfl) rfl rfl rfl ?_
      obtain rfl := Option.some.inj ho19
      refine V_end (fun a ha33 => ?_)
      exact ⟨A16, ha33.sub ⟨rfl, trivial⟩, ⟨hH, hr21⟩⟩
  rintro A25 w22 ⟨hH26, hk23⟩ a ha24
  replace hK := Tr.trans (Dw := False) hK hk23
  replace hB := Nat.le_trans hB hk23.ex.size
  replace hA := hk23.new
  replace hH : Hp w.heap.size A25 w22 (obS (α := Int) 3 v12 x11.1 :: obS (α := Int) 3 v4 x3.1 :: []) := hH26
  refine C_at (n := ⟨25, [], none⟩) (fun _ _ => rfl) ?_ ha24
  obtain rfl := Option.some.inj hm
  refine C_ret ?_
  try simp only [↓inBlock_ret, ↓then_ret]
  exact retQ rfl (Res.one Tryd.results3 rfl) ⟨rfl, hK.kp⟩

end Go.Proofs.YtnaoklncjnplfaaDoor.W
