/-
  Written by program (gen.py) from the IR of the dump: each function computes its model.
-/
import Derived.Test.YtgmenjhmnjhgoaaDoorRouteMatchesW2
namespace Go.Proofs.YtgmenjhmnjhgoaaDoor.W
open Go Go.RowKit Go.Pu Go.Gw Go.Proofs Go.Proofs.YtgmenjhmnjhgoaaDoor.M
set_option linter.unusedVariables false
set_option linter.unusedSimpArgs false
variable {Dw : Prop}

set_option maxRecDepth 4000 in
set_option maxHeartbeats 4000000 in
theorem portref2_orderOf_1_c (w : World) {A : Nat → Prop} (hA : ∀ b, w.heap.size ≤ b → A b) (a_ : Int) (b : Int) (p2 : (List route_Work)) (b_p2 : Nat) (h_p2 : El A w b_p2 0 p2) {r : Int} (hm : portref2_orderOf_1 a_ b p2 = some r) : Ret Tryd.prog 34 #[.int .i64 a_, .int .i64 b, .pointer (some ⟨b_p2, 0, none⟩)] w fun v w' => v = .int .i64 r ∧ Kp Dw w w' := by
  unfold portref2_orderOf_1 at hm
  refine enter Tryd.func34 rfl Tryd.ntmps34 rfl ?_
  have hA0 := hA
  have hB := Nat.le_refl w.heap.size
  have hK : Tr Dw w.heap.size A w A w := Tr.refl (Dw := Dw) hA
  have hH : Hp w.heap.size A w [] := Hp.nil
  refine C_seq ?_
  refine C_region ?_
  refine V_y (Y_assign rfl) rfl rfl rfl ?_
  refine V_to (fun _ _ => rfl) ?_
  refine C_seq ?_
  refine C_region_def (Dw := Dw) (B := w.heap.size) (k := 8) [(6, 36, .agg #[.int .i64 0, .int .i64 0, .int .i64 0, .int .i64 0, .int .i64 0, .slice none 0 0]), (7, 36, .agg #[.int .i64 0, .int .i64 0, .int .i64 0, .int .i64 0, .int .i64 0, .slice none 0 0])] [(11, 3), (15, 7)] Tryd_mixed (by kernel_rfl) rfl ⟨⟨_, _, _, rfl, by simp⟩, Tryd.zeroValue36, ⟨⟨_, _, _, rfl, by simp⟩, Tryd.zeroValue36, trivial⟩⟩ ⟨⟨_, _, _, rfl, by decide, by decide⟩, by decide, rfl, Tryd.sizeOf36, ⟨⟨_, _, _, rfl, by decide, by decide⟩, by decide, rfl, Tryd.sizeOf36, trivial⟩⟩ rfl rfl (by decide) hH hB hA ?_
  simp only [List.take]
  obtain ⟨v7, h8, h9⟩ := El.list h_p2
  refine VQ_y (fun w' hw' => Y_load ((World.cell?_of_block (hw'.block _ (World.block_lt_of_cell? _ _ h8))).trans h8) Tryd.isAgg23 rfl) rfl rfl rfl ?_
  refine VQ_y (fun w' hw' => Y_move rfl) rfl rfl rfl ?_
  obtain ⟨x10, hx10, hm⟩ := Option.bind_eq_some_iff.1 hm
  refine VQ_indexAddr h9 hx10 Tryd.underlying23 Tryd.sizeOf36 rfl rfl rfl ?_
  intro b11 o12 h13
  obtain ⟨v14, h16, h15⟩ := El_route_Work h13
  refine VQ_y (fun w' hw' => Y_loadA (At.kp (Dw := Dw) h16 hw' h13.2.1) Tryd.isAgg36 Tryd.sizeOf36 rfl) rfl rfl rfl ?_
  obtain ⟨v17, h18, h19⟩ := El.list h_p2
  refine VQ_y (fun w' hw' => Y_load ((World.cell?_of_block (hw'.block _ (World.block_lt_of_cell? _ _ h18))).trans h18) Tryd.isAgg23 rfl) rfl rfl rfl ?_
  refine VQ_y (fun w' hw' => Y_move rfl) rfl rfl rfl ?_
  obtain ⟨x20, hx20, hm⟩ := Option.bind_eq_some_iff.1 hm
  refine VQ_indexAddr h19 hx20 Tryd.underlying23 Tryd.sizeOf36 rfl rfl rfl ?_
  intro b21 o22 h23
  obtain ⟨v24, h26, h25⟩ := El_route_Work h23
  refine VQ_y (fun w' hw' => Y_loadA (At.kp (Dw := Dw) h26 hw' h23.2.1) Tryd.isAgg36 Tryd.sizeOf36 rfl) rfl rfl rfl ?_
  have h29 : (v24).oneCell' = true := by obtain ⟨_, _, e, _⟩ := Sl.form h25; rw [e]; rfl
  have h32 : (v14).oneCell' = true := by obtain ⟨_, _, e, _⟩ := Sl.form h15; rw [e]; rfl
  refine VQ_end fun a ha => ⟨_, [.agg #[.int .i64 x10.ticket, .int .i64 x10.weight, .int .i64 x10.urgency, .int .i64 x10.since, .int .i64 x10.former, v14], .agg #[.int .i64 x20.ticket, .int .i64 x20.weight, .int .i64 x20.urgency, .int .i64 x20.since, .int .i64 x20.former, v24]], ha, rfl, rfl, ⟨rfl, (by exact (List.forall_mem_cons.2 ⟨rfl, (List.forall_mem_cons.2 ⟨rfl, (List.forall_mem_cons.2 ⟨rfl, (List.forall_mem_cons.2 ⟨rfl, (List.forall_mem_cons.2 ⟨rfl, (List.forall_mem_cons.2 ⟨h32, (fun _ h => nomatch h)⟩)⟩)⟩)⟩)⟩)⟩)), ⟨rfl, (by exact (List.forall_mem_cons.2 ⟨rfl, (List.forall_mem_cons.2 ⟨rfl, (List.forall_mem_cons.2 ⟨rfl, (List.forall_mem_cons.2 ⟨rfl, (List.forall_mem_cons.2 ⟨rfl, (List.forall_mem_cons.2 ⟨h29, (fun _ h => nomatch h)⟩)⟩)⟩)⟩)⟩)⟩)), trivial⟩⟩, fun b1 w2 A3 hH4 ht5 a ha6 => ?_⟩
  replace h_p2 := El.tr (Dw := Dw) h_p2 ht5
  replace h9 := Sl.tr (Dw := Dw) h9 ht5
  replace h13 := El.tr (Dw := Dw) h13 ht5
  replace h15 := Sl.tr (Dw := Dw) h15 ht5
  replace h19 := Sl.tr (Dw := Dw) h19 ht5
  replace h23 := El.tr (Dw := Dw) h23 ht5
  replace h25 := Sl.tr (Dw := Dw) h25 ht5
  replace hK := Tr.trans (Dw := Dw) hK ht5
  replace hB := Nat.le_trans hB ht5.ex.size
  replace hA := ht5.new
  replace hH : Hp w.heap.size A3 w2 (obC (b1 0) [.int .i64 x10.ticket, .int .i64 x10.weight, .int .i64 x10.urgency, .int .i64 x10.since, .int .i64 x10.former, v14] 36 :: obC (b1 1) [.int .i64 x20.ticket, .int .i64 x20.weight, .int .i64 x20.urgency, .int .i64 x20.since, .int .i64 x20.former, v24] 36 :: []) := hH4
  obtain ⟨A33, ht34, h35, hH36⟩ := Hp.freezeC (Dw := Dw) (α := route_Work) (x := x10) hH (i := 0) rfl hA (by exact ⟨[.int .i64 x10.ticket], _, rfl, rfl, ⟨[.int .i64 x10.weight], _, rfl, rfl, ⟨[.int .i64 x10.urgency], _, rfl, rfl, ⟨[.int .i64 x10.since], _, rfl, rfl, ⟨[.int .i64 x10.former], _, rfl, rfl, ⟨_, rfl, h15⟩⟩⟩⟩⟩⟩)
  replace h_p2 := El.tr (Dw := Dw) h_p2 ht34
  replace h9 := Sl.tr (Dw := Dw) h9 ht34
  replace h13 := El.tr (Dw := Dw) h13 ht34
  replace h15 := Sl.tr (Dw := Dw) h15 ht34
  replace h19 := Sl.tr (Dw := Dw) h19 ht34
  replace h23 := El.tr (Dw := Dw) h23 ht34
  replace h25 := Sl.tr (Dw := Dw) h25 ht34
  replace hK := Tr.trans (Dw := Dw) hK ht34
  replace hB := Nat.le_trans hB ht34.ex.size
  replace hA := ht34.new
  replace hH : Hp w.heap.size A33 w2 (obC (b1 1) [.int .i64 x20.ticket, .int .i64 x20.weight, .int .i64 x20.urgency, .int .i64 x20.since, .int .i64 x20.former, v24] 36 :: []) := hH36
  obtain ⟨A37, ht38, h39, hH40⟩ := Hp.freezeC (Dw := Dw) (α := route_Work) (x := x20) hH (i := 0) rfl hA (by exact ⟨[.int .i64 x20.ticket], _, rfl, rfl, ⟨[.int .i64 x20.weight], _, rfl, rfl, ⟨[.int .i64 x20.urgency], _, rfl, rfl, ⟨[.int .i64 x20.since], _, rfl, rfl, ⟨[.int .i64 x20.former], _, rfl, rfl, ⟨_, rfl, h25⟩⟩⟩⟩⟩⟩)
  replace h_p2 := El.tr (Dw := Dw) h_p2 ht38
  replace h9 := Sl.tr (Dw := Dw) h9 ht38
  replace h13 := El.tr (Dw := Dw) h13 ht38
  replace h15 := Sl.tr (Dw := Dw) h15 ht38
  replace h19 := Sl.tr (Dw := Dw) h19 ht38
  replace h23 := El.tr (Dw := Dw) h23 ht38
  replace h25 := Sl.tr (Dw := Dw) h25 ht38
  replace h35 := El.tr (Dw := Dw) h35 ht38
  replace hK := Tr.trans (Dw := Dw) hK ht38
  replace hB := Nat.le_trans hB ht38.ex.size
  replace hA := ht38.new
  replace hH : Hp w.heap.size A37 w2 ([]) := hH40
  refine C_at (n := ⟨33, [], none⟩) (fun _ _ => rfl) ?_ ha6
  refine C_seq ?_
  refine C_region_qt (Dw := Dw) 15 Tryd_mixed (by kernel_rfl) ?_
  simp only [List.take, List.drop]
  have h41 := El_route_Work_2 h39
  refine VQ_y (fun w' hw' => Y_fieldAddr Tryd.underlying36 rfl Tryd.sizeOf3 (by decide) rfl) rfl rfl rfl ?_
  refine VQ_y (fun w' hw' => Y_load (El.int (El.kp (Dw := Dw) h41 hw')) Tryd.isAgg3 rfl) rfl rfl rfl ?_
  have h42 := El_route_Work_2 h35
  refine VQ_y (fun w' hw' => Y_fieldAddr Tryd.underlying36 rfl Tryd.sizeOf3 (by decide) rfl) rfl rfl rfl ?_
  refine VQ_y (fun w' hw' => Y_load (El.int (El.kp (Dw := Dw) h42 hw')) Tryd.isAgg3 rfl) rfl rfl rfl ?_
  refine VQ_call (.int .i64 (cmp_Compare_int x20.urgency x10.urgency)) Tryd.call27 rfl rfl rfl rfl (fun w' hw' => (cmp_Compare_int_c w' x20.urgency x10.urgency).mono (fun _ _ h => ⟨h.1, h.2 ▸ hw'⟩)) ?_
  have h43 := El_route_Work_3 h35
  refine VQ_y (fun w' hw' => Y_fieldAddr Tryd.underlying36 rfl Tryd.sizeOf3 (by decide) rfl) rfl rfl rfl ?_
  refine VQ_y (fun w' hw' => Y_load (El.int (El.kp (Dw := Dw) h43 hw')) Tryd.isAgg3 rfl) rfl rfl rfl ?_
  have h44 := El_route_Work_3 h39
  refine VQ_y (fun w' hw' => Y_fieldAddr Tryd.underlying36 rfl Tryd.sizeOf3 (by decide) rfl) rfl rfl rfl ?_
  refine VQ_y (fun w' hw' => Y_load (El.int (El.kp (Dw := Dw) h44 hw')) Tryd.isAgg3 rfl) rfl rfl rfl ?_
  refine VQ_call (.int .i64 (cmp_Compare_int x10.since x20.since)) Tryd.call27 rfl rfl rfl rfl (fun w' hw' => (cmp_Compare_int_c w' x10.since x20.since).mono (fun _ _ h => ⟨h.1, h.2 ▸ hw'⟩)) ?_
  have h45 := El_route_Work_0 h35
  refine VQ_y (fun w' hw' => Y_fieldAddr Tryd.underlying36 rfl Tryd.sizeOf3 (by decide) rfl) rfl rfl rfl ?_
  refine VQ_y (fun w' hw' => Y_load (El.int (El.kp (Dw := Dw) h45 hw')) Tryd.isAgg3 rfl) rfl rfl rfl ?_
  have h46 := El_route_Work_0 h39
  refine VQ_y (fun w' hw' => Y_fieldAddr Tryd.underlying36 rfl Tryd.sizeOf3 (by decide) rfl) rfl rfl rfl ?_
  refine VQ_y (fun w' hw' => Y_load (El.int (El.kp (Dw := Dw) h46 hw')) Tryd.isAgg3 rfl) rfl rfl rfl ?_
  refine VQ_call (.int .i64 (cmp_Compare_int x10.ticket x20.ticket)) Tryd.call27 rfl rfl rfl rfl (fun w' hw' => (cmp_Compare_int_c w' x10.ticket x20.ticket).mono (fun _ _ h => ⟨h.1, h.2 ▸ hw'⟩)) ?_
  refine VQ_tail (fun w47 hk48 => ?_)
  try simp only [List.take, List.drop]
  have ht49 := Kp.tr (Dw := Dw) hk48 hA hB
  replace hH := Hp.kp (Dw := Dw) hH hk48
  replace h35 := El.tr (Dw := Dw) h35 ht49
  replace h39 := El.tr (Dw := Dw) h39 ht49
  replace h41 := El.tr (Dw := Dw) h41 ht49
  replace h42 := El.tr (Dw := Dw) h42 ht49
  replace h43 := El.tr (Dw := Dw) h43 ht49
  replace h44 := El.tr (Dw := Dw) h44 ht49
  replace h45 := El.tr (Dw := Dw) h45 ht49
  replace h46 := El.tr (Dw := Dw) h46 ht49
  replace hK := Tr.trans (Dw := Dw) hK ht49
  replace hB := Nat.le_trans hB ht49.ex.size
  replace hA := ht49.new
  refine V_buildSlice (Dw := Dw) (cells := #[.int .i64 (cmp_Compare_int x20.urgency x10.urgency), .int .i64 (cmp_Compare_int x10.since x20.since), .int .i64 (cmp_Compare_int x10.ticket x20.ticket)]) (l := ([(cmp_Compare_int x20.urgency x10.urgency), (cmp_Compare_int x10.since x20.since), (cmp_Compare_int x10.ticket x20.ticket)] : List Int)) (len := 3) Tryd.underlying24 Tryd.sizeOf3 Tryd.zeroValue3 rfl (by generalize ((cmp_Compare_int x20.urgency x10.urgency) : Int) = z54; generalize ((cmp_Compare_int x10.ticket x20.ticket) : Int) = z55; generalize ((cmp_Compare_int x10.since x20.since) : Int) = z56; kernel_rfl) (show (3 * 1 : Nat) ≠ 0 by decide) (show (3 * 1 : Nat) ≤ 2 ^ 24 by decide) hA ⟨[.int .i64 (cmp_Compare_int x20.urgency x10.urgency)], _, rfl, rfl, ⟨[.int .i64 (cmp_Compare_int x10.since x20.since)], _, rfl, rfl, ⟨[.int .i64 (cmp_Compare_int x10.ticket x20.ticket)], _, rfl, rfl, rfl⟩⟩⟩ rfl rfl ?_
  intro v50 w51 hk53 h52
  have ht57 := Kp.tr (Dw := Dw) hk53 hA hB
  replace hH := Hp.kp (Dw := Dw) hH hk53
  replace h35 := El.tr (Dw := Dw) h35 ht57
  replace h39 := El.tr (Dw := Dw) h39 ht57
  replace h41 := El.tr (Dw := Dw) h41 ht57
  replace h42 := El.tr (Dw := Dw) h42 ht57
  replace h43 := El.tr (Dw := Dw) h43 ht57
  replace h44 := El.tr (Dw := Dw) h44 ht57
  replace h45 := El.tr (Dw := Dw) h45 ht57
  replace h46 := El.tr (Dw := Dw) h46 ht57
  replace hK := Tr.trans (Dw := Dw) hK ht57
  replace hB := Nat.le_trans hB ht57.ex.size
  replace hA := ht57.new
  obtain ⟨x58, hx58, hm⟩ := Option.bind_eq_some_iff.1 hm
  refine V_call Tryd.call26 rfl rfl rfl rfl (cmp_Or_int_c w51 ([(cmp_Compare_int x20.urgency x10.urgency), (cmp_Compare_int x10.since x20.since), (cmp_Compare_int x10.ticket x20.ticket)] : List Int) v50 h52 hx58) ?_
  rintro _ _ ⟨rfl, rfl⟩
  refine V_y (Y_assign rfl) rfl rfl rfl ?_
  refine V_to (fun _ _ => rfl) ?_
  obtain rfl := Option.some.inj hm
  refine C_ret ?_
  try simp only [↓inBlock_ret, ↓then_ret]
  exact retQ rfl (Res.one Tryd.results34 rfl) ⟨rfl, hK.kp⟩

set_option maxRecDepth 4000 in
set_option maxHeartbeats 4000000 in
theorem portref2_orderOf_c (w : World) {A : Nat → Prop} (hA : ∀ b, w.heap.size ≤ b → A b) (l : (List route_Work)) (v_l : Value) (h_l : Sl A w v_l l) {r : (List Int)} (hm : portref2_orderOf l = some r) : Ret Tryd.prog 17 #[v_l] w fun v w' => ∃ s0, v = s0 ∧ Ownd 3 w w' s0 r ∧ Kp Dw w w' := by
  unfold portref2_orderOf at hm
  refine enter Tryd.func17 rfl Tryd.ntmps17 rfl ?_
  have hA0 := hA
  have hB := Nat.le_refl w.heap.size
  have hK : Tr Dw w.heap.size A w A w := Tr.refl (Dw := Dw) hA
  have hH : Hp w.heap.size A w [] := Hp.nil
  refine C_seq ?_
  refine C_region ?_
  refine V_box rfl rfl ?_
  intro b3 w4 h5
  have h10 : (v_l).oneCell' = true := by obtain ⟨_, _, e, _⟩ := Sl.form h_l; rw [e]; rfl
  have hk7 := h5.kp (Dw := Dw)
  have h6 : El (α := (List route_Work)) A w4 b3 0 l := h5.el hA (by rw [Value.cells_one h10]; exact ⟨_, rfl, h_l⟩)
  have ht11 := Kp.tr (Dw := Dw) hk7 hA hB
  replace hH := Hp.kp (Dw := Dw) hH hk7
  replace h_l := Sl.tr (Dw := Dw) h_l ht11
  replace hK := Tr.trans (Dw := Dw) hK ht11
  replace hB := Nat.le_trans hB ht11.ex.size
  replace hA := ht11.new
  refine V_y (Y_assign rfl) rfl rfl rfl ?_
  refine V_to (fun _ _ => rfl) ?_
  refine C_seq ?_
  refine C_region ?_
  obtain ⟨v12, h13, h14⟩ := El.list h6
  refine V_y (Y_load h13 Tryd.isAgg23 rfl) rfl rfl rfl ?_
  have hn15 := Sl.le h14
  refine V_y (Y_lenSl h14 rfl Tryd.underlying23 rfl) rfl rfl rfl ?_
  obtain ⟨x16, hx16, hm⟩ := Option.bind_eq_some_iff.1 hm
  refine V_makeH (Dw := Dw) (e := 3) (ti := Tryd.t3) hH hx16 (fun _ _ => rfl) Tryd.underlying24 Tryd_info3 rfl rfl rfl (by decide) (by decide) hB hA rfl rfl rfl ?_
  intro v17 w18 A19 hH20 ht21
  replace h6 := El.tr (Dw := Dw) h6 ht21
  replace h14 := Sl.tr (Dw := Dw) h14 ht21
  replace hK := Tr.trans (Dw := Dw) hK ht21
  replace hB := Nat.le_trans hB ht21.ex.size
  replace hA := ht21.new
  replace hH : Hp w.heap.size A19 w18 (obS (α := Int) 3 v17 x16 :: []) := hH20
  refine V_y (Y_assign rfl) rfl rfl rfl ?_
  refine V_to (fun _ _ => rfl) ?_
  refine C_seq ?_
  refine C_seq ?_
  refine C_region ?_
  obtain ⟨v22, h23, h24⟩ := El.list h6
  refine V_y (Y_load h23 Tryd.isAgg23 rfl) rfl rfl rfl ?_
  have hn25 := Sl.le h24
  refine V_y (Y_lenSl h24 rfl Tryd.underlying23 rfl) rfl rfl rfl ?_
  refine V_y (Y_move rfl) rfl rfl rfl ?_
  refine V_to (fun _ _ => rfl) ?_
  obtain ⟨o26, ho26, hm⟩ := Option.bind_eq_some_iff.1 hm
  refine C_cutG (ι := ((List Int) × Value × (Nat → Prop))) (fun ⟨s27, v33, A35⟩ => [(1, .pointer (some ⟨b3, 0, none⟩)), (3, v33)]) (fun ⟨s27, v33, A35⟩ => fun w' => o26 = .fin s27 ∧ Hp w.heap.size A35 w' (obS (α := Int) 3 v33 s27 :: []) ∧ Tr Dw w.heap.size A19 w18 A35 w') ?_ ?_
  · refine C_block ?_
    refine C_range ho26 (fun k29 s37 a w' => ∃ i : (Value × (Nat → Prop)), Has ⟨22, [], none⟩ a ([(1, .pointer (some ⟨b3, 0, none⟩)), (3, i.1), (9, .int .i64 (l.length : Int)), (10, .int .i64 (k29 : Int))]) ∧ Hp w.heap.size i.2 w' (obS (α := Int) 3 i.1 s37 :: []) ∧ Tr Dw w.heap.size A19 w18 i.2 w') (fun a ha => ⟨(v17, A19), ha.sub ⟨rfl, rfl, rfl, rfl, trivial⟩, ⟨hH, Tr.refl (Dw := Dw) hA⟩⟩) ?_
    rintro K k29 s37 a w38 ⟨⟨v39, A41⟩, ha63, hH42, hr28⟩ hle46 K49 h48
    refine C_of ?_ ha63
    replace h6 := El.tr (Dw := Dw) h6 hr28
    replace hK := Tr.trans (Dw := Dw) hK hr28
    replace hB := Nat.le_trans hB hr28.ex.size
    replace hA := hr28.new
    replace hH : Hp w.heap.size A41 w38 (obS (α := Int) 3 v39 s37 :: []) := hH42
    refine C_seq (C_region (V_y (Y_lss rfl rfl) rfl rfl rfl (V_to (fun _ _ => rfl) ?_)))
    refine C_seq ?_
    refine C_cond rfl (fun hc51 => ?_) (fun hc51 => ?_)
    · have hlt47 := lt_of_dec hc51
      obtain ⟨x43, h44, h45⟩ := K49 hlt47
      refine C_skip_to (fun _ _ => rfl) ?_
      refine C_seq ?_
      refine C_block ?_
      refine C_seq ?_
      refine C_region ?_
      refine V_y (Y_move rfl) rfl rfl rfl ?_
      refine V_y (Y_assign rfl) rfl rfl rfl ?_
      refine V_to (fun _ _ => rfl) ?_
      refine C_region ?_
      refine V_y (Y_move rfl) rfl rfl rfl ?_
      refine V_y (Y_move rfl) rfl rfl rfl ?_
      refine V_y (Y_move rfl) rfl rfl rfl ?_
      obtain ⟨x52, hx52, h44⟩ := Option.bind_eq_some_iff.1 h44
      refine V_indexAddrH (α := Int) (e := 3) (v := v39) (l := s37) hH (i := 0) rfl hx52 Tryd.underlying24 Tryd.sizeOf3 rfl rfl rfl ?_
      intro b53 o54 h55 hl56
      obtain ⟨x57, hx57, h44⟩ := Option.bind_eq_some_iff.1 h44
      refine V_storeH (Dw := Dw) (α := Int) (e := 3) (v := v39) (l := s37) hH (i := 0) rfl hl56 hx57 rfl Tryd.sizeOf3 rfl hB hA rfl rfl ?_
      intro w58 hH59 ht60
      replace h6 := El.tr (Dw := Dw) h6 ht60
      replace hK := Tr.trans (Dw := Dw) hK ht60
      replace hr28 := Tr.trans (Dw := Dw) hr28 ht60
      replace hB := Nat.le_trans hB ht60.ex.size
      replace hA := ht60.new
      replace hH : Hp w.heap.size A41 w58 (obS (α := Int) 3 v39 x57 :: []) := hH59
      refine V_to (fun _ _ => rfl) ?_
      refine C_region ?_
      refine V_y (Y_addI rfl rfl) rfl rfl rfl ?_
      refine V_y (Y_move rfl) rfl rfl rfl ?_
      obtain rfl := Option.some.inj h44
      refine V_end (fun a ha61 => ?_)
      exact ⟨x57, hlt47, h45, ⟨(v39, A41), ha61.sub ⟨rfl, rfl, rfl, (congrArg (fun z => some (Value.int .i64 z)) (w64_succ hlt47 hn25)), trivial⟩, ⟨hH, hr28⟩⟩⟩
    · refine C_exit (fun a ha62 => ?_)
      exact ⟨(s37, v39, A41), ha62.sub ⟨rfl, rfl, trivial⟩, ⟨(h48 (eq_of_dec hle46 hc51)).symm, hH, hr28⟩⟩
  rintro ⟨s27, v33, A35⟩ w30 ⟨rfl, hH36, hk31⟩ a ha32
  rw [Lp.andThen_fin] at hm
  replace h6 := El.tr (Dw := Dw) h6 hk31
  replace hK := Tr.trans (Dw := Dw) hK hk31
  replace hB := Nat.le_trans hB hk31.ex.size
  replace hA := hk31.new
  replace hH : Hp w.heap.size A35 w30 (obS (α := Int) 3 v33 s27 :: []) := hH36
  refine C_at (n := ⟨22, [], none⟩) (fun _ _ => rfl) ?_ ha32
  refine C_seq ?_
  refine C_region ?_
  refine V_y (Y_move rfl) rfl rfl rfl ?_
  refine V_y (Y_makeFunc rfl rfl) rfl rfl rfl ?_
  obtain ⟨x64, hx64, hm⟩ := Option.bind_eq_some_iff.1 hm
  refine V_call Tryd.call24 rfl rfl rfl rfl (Tryd_sf24 (Dw := Dw) Tryd.call34 (fun w70 ht71 h72 p74 q75 c76 h73 => by exact (portref2_orderOf_1_c (Dw := True) w70 h72 p74 q75 l b3 (El.tr (Dw := True) h6 ht71) h73).mono fun _ _ h => ⟨h.1, h.2⟩) hH (i := 0) rfl hB hA hx64) ?_
  rintro _ w65 ⟨rfl, hH66, ht67⟩
  replace h6 := El.tr (Dw := Dw) h6 ht67
  replace hK := Tr.trans (Dw := Dw) hK ht67
  replace hB := Nat.le_trans hB ht67.ex.size
  replace hA := ht67.new
  replace hH : Hp w.heap.size A35 w65 (obS (α := Int) 3 v33 x64 :: []) := hH66
  refine V_to (fun _ _ => rfl) ?_
  refine C_seq ?_
  refine C_region ?_
  refine V_y (Y_move rfl) rfl rfl rfl ?_
  refine V_y (Y_assign rfl) rfl rfl rfl ?_
  refine V_to (fun _ _ => rfl) ?_
  obtain rfl := Option.some.inj hm
  refine C_ret ?_
  try simp only [↓inBlock_ret, ↓then_ret]
  exact retQ rfl (Res.one Tryd.results17 rfl) ⟨v33, rfl, (Hp.ownd hH (i := 0) rfl), hK.kp⟩

set_option maxRecDepth 4000 in
set_option maxHeartbeats 4000000 in
theorem slices_IndexFunc_Lint_int_c (w : World) {A : Nat → Prop} (hA : ∀ b, w.heap.size ≤ b → A b) (s : (List Int)) (v_s : Value) (h_s : Sl A w v_s s) (f : Int → Option Bool) (f_f : FuncId) (f_a f_c : Array Value) (f_call : ∀ (args : Array Value) (w : World), (callFunc f_f args).run Tryd.prog w = .ok (.enter f_f args) w) (f_spec : ∀ (w1 : World) (A1 : Nat → Prop), Tr Dw w.heap.size A w A1 w1 → (∀ b, w1.heap.size ≤ b → A1 b) → ∀ (y0 : Int) (r : Bool), f y0 = some r → Ret Tryd.prog f_f (f_a ++ #[.int .i64 y0] ++ f_c) w1 fun v w' => v = .bool r ∧ Kp Dw w1 w') {r : Int} (hm : slices_IndexFunc_Lint_int s f = some r) : Ret Tryd.prog 46 #[v_s, .func (.func f_f) f_a f_c] w fun v w' => v = .int .i64 r ∧ Kp Dw w w' := by
  unfold slices_IndexFunc_Lint_int at hm
  refine enter Tryd.func46 rfl Tryd.ntmps46 rfl ?_
  have hA0 := hA
  have hB := Nat.le_refl w.heap.size
  have hK : Tr Dw w.heap.size A w A w := Tr.refl (Dw := Dw) hA
  have hH : Hp w.heap.size A w [] := Hp.nil
  refine C_seq ?_
  refine C_region ?_
  refine V_y (Y_assign rfl) rfl rfl rfl ?_
  refine V_to (fun _ _ => rfl) ?_
  refine C_seq ?_
  refine C_seq ?_
  refine C_region ?_
  refine V_y (Y_move rfl) rfl rfl rfl ?_
  refine V_y (Y_lenSl h_s rfl Tryd.underlying24 rfl) rfl rfl rfl ?_
  refine V_y (Y_move rfl) rfl rfl rfl ?_
  refine V_to (fun _ _ => rfl) ?_
  have hn23 := Sl.le h_s
  obtain ⟨o3, ho3, hm⟩ := Option.bind_eq_some_iff.1 hm
  refine C_cutG (ι := (Unit × (Nat → Prop))) (fun ⟨s4, A10⟩ => []) (fun ⟨s4, A10⟩ => fun w' => o3 = .fin s4 ∧ Hp w.heap.size A10 w' ([]) ∧ Tr Dw w.heap.size A w A10 w') ?_ ?_
  · refine C_block ?_
    refine C_range ho3 (fun k6 _ a w' => ∃ i : (Nat → Prop), Has ⟨19, [], none⟩ a ([(0, v_s), (1, .func (.func f_f) f_a f_c), (7, .int .i64 (s.length : Int)), (8, .int .i64 (k6 : Int))]) ∧ Hp w.heap.size i w' ([]) ∧ Tr Dw w.heap.size A w i w') (fun a ha => ⟨A, ha.sub ⟨rfl, rfl, rfl, rfl, trivial⟩, ⟨hH, Tr.refl (Dw := Dw) hA⟩⟩) ?_
    rintro K k6 _ a w13 ⟨A14, ha36, hH15, hr5⟩ hle19 K22 h21
    refine C_of ?_ ha36
    replace h_s := Sl.tr (Dw := Dw) h_s hr5
    replace hK := Tr.trans (Dw := Dw) hK hr5
    replace hB := Nat.le_trans hB hr5.ex.size
    replace hA := hr5.new
    replace hH : Hp w.heap.size A14 w13 ([]) := hH15
    refine C_seq (C_region (V_y (Y_lss rfl rfl) rfl rfl rfl (V_to (fun _ _ => rfl) ?_)))
    refine C_seq ?_
    refine C_cond rfl (fun hc24 => ?_) (fun hc24 => ?_)
    · have hlt20 := lt_of_dec hc24
      obtain ⟨x16, h17, h18⟩ := K22 hlt20
      refine C_skip_to (fun _ _ => rfl) ?_
      refine C_seq ?_
      refine C_block ?_
      refine C_seq ?_
      refine C_region ?_
      refine V_y (Y_move rfl) rfl rfl rfl ?_
      refine V_y (Y_assign rfl) rfl rfl rfl ?_
      refine V_to (fun _ _ => rfl) ?_
      refine C_seq ?_
      refine C_region ?_
      refine V_y (Y_move rfl) rfl rfl rfl ?_
      refine V_y (Y_move rfl) rfl rfl rfl ?_
      refine V_y (Y_move rfl) rfl rfl rfl ?_
      obtain ⟨x25, hx25, h17⟩ := Option.bind_eq_some_iff.1 h17
      refine V_indexAddr h_s hx25 Tryd.underlying24 Tryd.sizeOf3 rfl rfl rfl ?_
      intro b26 o27 h28
      refine V_y (Y_load (El.int h28) Tryd.isAgg3 rfl) rfl rfl rfl ?_
      obtain ⟨x29, hx29, h17⟩ := Option.bind_eq_some_iff.1 h17
      refine V_call f_call rfl rfl rfl rfl (f_spec w13 _ hK hA x25 _ hx29) ?_
      rintro _ w30 ⟨rfl, hk31⟩
      have ht32 := Kp.tr (Dw := Dw) hk31 hA hB
      replace hH := Hp.kp (Dw := Dw) hH hk31
      replace h_s := Sl.tr (Dw := Dw) h_s ht32
      replace h28 := El.tr (Dw := Dw) h28 ht32
      replace hK := Tr.trans (Dw := Dw) hK ht32
      replace hr5 := Tr.trans (Dw := Dw) hr5 ht32
      replace hB := Nat.le_trans hB ht32.ex.size
      replace hA := ht32.new
      refine V_to (fun _ _ => rfl) ?_
      refine C_cond rfl (fun hc33 => ?_) (fun hc33 => ?_)
      · rw [if_pos hc33] at h17
        refine C_seq ?_
        refine C_region ?_
        refine V_y (Y_move rfl) rfl rfl rfl ?_
        refine V_y (Y_assign rfl) rfl rfl rfl ?_
        refine V_to (fun _ _ => rfl) ?_
        obtain rfl := Option.some.inj h17
        obtain rfl := (h18 : Lp.rt _ = _)
        rw [Lp.andThen_rt] at hm
        obtain rfl := Option.some.inj hm
        refine C_ret ?_
        try simp only [↓inBlock_ret, ↓then_ret]
        exact retQ rfl (Res.one Tryd.results46 rfl) ⟨rfl, hK.kp⟩
      · rw [if_neg (nt hc33)] at h17
        refine C_skip_to (fun _ _ => rfl) ?_
        refine C_region ?_
        refine V_y (Y_addI rfl rfl) rfl rfl rfl ?_
        refine V_y (Y_move rfl) rfl rfl rfl ?_
        obtain rfl := Option.some.inj h17
        refine V_end (fun a ha34 => ?_)
        exact ⟨(), hlt20, h18, ⟨A14, ha34.sub ⟨rfl, rfl, rfl, (congrArg (fun z => some (Value.int .i64 z)) (w64_succ hlt20 hn23)), trivial⟩, ⟨hH, hr5⟩⟩⟩
    · refine C_exit (fun a ha35 => ?_)
      exact ⟨((), A14), ha35.sub trivial, ⟨(h21 (eq_of_dec hle19 hc24)).symm, hH, hr5⟩⟩
  rintro ⟨s4, A10⟩ w7 ⟨rfl, hH11, hk8⟩ a ha9
  rw [Lp.andThen_fin] at hm
  replace hK := Tr.trans (Dw := Dw) hK hk8
  replace hB := Nat.le_trans hB hk8.ex.size
  replace hA := hk8.new
  replace hH : Hp w.heap.size A10 w7 ([]) := hH11
  refine C_at (n := ⟨19, [], none⟩) (fun _ _ => rfl) ?_ ha9
  refine C_seq ?_
  refine C_region ?_
  refine V_y (Y_assign rfl) rfl rfl rfl ?_
  refine V_to (fun _ _ => rfl) ?_
  obtain rfl := Option.some.inj hm
  refine C_ret ?_
  try simp only [↓inBlock_ret, ↓then_ret]
  exact retQ rfl (Res.one Tryd.results46 rfl) ⟨rfl, hK.kp⟩

set_option maxRecDepth 4000 in
set_option maxHeartbeats 4000000 in
theorem slices_ContainsFunc_Lint_int_c (w : World) {A : Nat → Prop} (hA : ∀ b, w.heap.size ≤ b → A b) (s : (List Int)) (v_s : Value) (h_s : Sl A w v_s s) (f : Int → Option Bool) (f_f : FuncId) (f_a f_c : Array Value) (f_call : ∀ (args : Array Value) (w : World), (callFunc f_f args).run Tryd.prog w = .ok (.enter f_f args) w) (f_spec : ∀ (w1 : World) (A1 : Nat → Prop), Tr Dw w.heap.size A w A1 w1 → (∀ b, w1.heap.size ≤ b → A1 b) → ∀ (y0 : Int) (r : Bool), f y0 = some r → Ret Tryd.prog f_f (f_a ++ #[.int .i64 y0] ++ f_c) w1 fun v w' => v = .bool r ∧ Kp Dw w1 w') {r : Bool} (hm : slices_ContainsFunc_Lint_int s f = some r) : Ret Tryd.prog 36 #[v_s, .func (.func f_f) f_a f_c] w fun v w' => v = .bool r ∧ Kp Dw w w' := by
  unfold slices_ContainsFunc_Lint_int at hm
  refine enter Tryd.func36 rfl Tryd.ntmps36 rfl ?_
  have hA0 := hA
  have hB := Nat.le_refl w.heap.size
  have hK : Tr Dw w.heap.size A w A w := Tr.refl (Dw := Dw) hA
  have hH : Hp w.heap.size A w [] := Hp.nil
  refine C_seq ?_
  refine C_region ?_
  refine V_y (Y_assign rfl) rfl rfl rfl ?_
  refine V_to (fun _ _ => rfl) ?_
  refine C_seq ?_
  refine C_region ?_
  refine V_y (Y_move rfl) rfl rfl rfl ?_
  refine V_y (Y_move rfl) rfl rfl rfl ?_
  obtain ⟨x3, hx3, hm⟩ := Option.bind_eq_some_iff.1 hm
  refine V_call Tryd.call46 rfl rfl rfl rfl (slices_IndexFunc_Lint_int_c (Dw := Dw) w hA s v_s h_s f f_f f_a f_c f_call (fun w1 A1 ht => f_spec w1 A1 (Tr.trans (Dw := Dw) hK (Tr.lower (Dw := Dw) ht hB))) hx3) ?_
  rintro _ w4 ⟨rfl, hk5⟩
  have ht6 := Kp.tr (Dw := Dw) hk5 hA hB
  replace hH := Hp.kp (Dw := Dw) hH hk5
  replace h_s := Sl.tr (Dw := Dw) h_s ht6
  replace hK := Tr.trans (Dw := Dw) hK ht6
  replace hB := Nat.le_trans hB ht6.ex.size
  replace hA := ht6.new
  refine V_y (Y_geq rfl rfl) rfl rfl rfl ?_
  refine V_y (Y_assign rfl) rfl rfl rfl ?_
  refine V_to (fun _ _ => rfl) ?_
  obtain rfl := Option.some.inj hm
  refine C_ret ?_
  try simp only [↓inBlock_ret, ↓then_ret]
  exact retQ rfl (Res.one Tryd.results36 rfl) ⟨rfl, hK.kp⟩

set_option maxRecDepth 4000 in
set_option maxHeartbeats 4000000 in
theorem portref2_fits_2_c (w : World) (n : Int) : Ret Tryd.prog 37 #[.int .i64 n] w fun v w' => v = .bool (portref2_fits_2 n) ∧ w = w' := by
  generalize hm : portref2_fits_2 n = r
  unfold portref2_fits_2 at hm
  refine enter Tryd.func37 rfl Tryd.ntmps37 rfl ?_
  refine C_seq ?_
  refine C_region ?_
  refine V_y (Y_assign rfl) rfl rfl rfl ?_
  refine V_to (fun _ _ => rfl) ?_
  refine C_seq ?_
  refine C_region ?_
  refine V_y (Y_move rfl) rfl rfl rfl ?_
  refine V_y (Y_lss rfl rfl) rfl rfl rfl ?_
  refine V_y (Y_assign rfl) rfl rfl rfl ?_
  refine V_to (fun _ _ => rfl) ?_
  obtain rfl := hm
  refine C_ret ?_
  try simp only [↓inBlock_ret, ↓then_ret]
  exact retQ rfl (Res.one Tryd.results37 rfl) ⟨rfl, rfl⟩

set_option maxRecDepth 4000 in
set_option maxHeartbeats 4000000 in
theorem portref2_able_1_c (w : World) {A : Nat → Prop} (hA : ∀ b, w.heap.size ≤ b → A b) (s : route_Skill) (p1 : route_Skill) (b_p1 : Nat) (h_p1 : El A w b_p1 0 p1) {r : Bool} (hm : portref2_able_1 s p1 = some r) : Ret Tryd.prog 39 #[.agg #[.string s.name, .int .i64 s.rank], .pointer (some ⟨b_p1, 0, none⟩)] w fun v w' => v = .bool r ∧ Kp Dw w w' := by
  unfold portref2_able_1 at hm
  refine enter Tryd.func39 rfl Tryd.ntmps39 rfl ?_
  have hA0 := hA
  have hB := Nat.le_refl w.heap.size
  have hK : Tr Dw w.heap.size A w A w := Tr.refl (Dw := Dw) hA
  have hH : Hp w.heap.size A w [] := Hp.nil
  refine C_seq ?_
  refine C_region ?_
  refine V_box rfl rfl ?_
  intro b1 w2 h3
  have hk5 := h3.kp (Dw := Dw)
  have h4 : El (α := route_Skill) A w2 b1 0 s := h3.el hA ⟨[.string s.name], _, rfl, rfl, rfl⟩
  have ht6 := Kp.tr (Dw := Dw) hk5 hA hB
  replace hH := Hp.kp (Dw := Dw) hH hk5
  replace h_p1 := El.tr (Dw := Dw) h_p1 ht6
  replace hK := Tr.trans (Dw := Dw) hK ht6
  replace hB := Nat.le_trans hB ht6.ex.size
  replace hA := ht6.new
  refine V_y (Y_assign rfl) rfl rfl rfl ?_
  refine V_to (fun _ _ => rfl) ?_
  refine C_seq ?_
  refine C_region ?_
  have h7 := El_route_Skill_0 h4
  refine V_y (Y_fieldAddr Tryd.underlying62 rfl Tryd.sizeOf9 (by decide) rfl) rfl rfl rfl ?_
  refine V_y (Y_load (El.str h7) Tryd.isAgg9 rfl) rfl rfl rfl ?_
  have h8 := El_route_Skill_0 h_p1
  refine V_y (Y_fieldAddr Tryd.underlying62 rfl Tryd.sizeOf9 (by decide) rfl) rfl rfl rfl ?_
  refine V_y (Y_load (El.str h8) Tryd.isAgg9 rfl) rfl rfl rfl ?_
  refine V_y (Y_seql rfl rfl) rfl rfl rfl ?_
  refine V_y (Y_move rfl) rfl rfl rfl ?_
  refine V_cut 6 (fun _ : Unit => [(15, .bool ((strEq s.name p1.name) && (decide (p1.rank ≤ s.rank))))]) (fun _ w' => w2 = w') ?_ ?_
  · simp only [List.take, List.drop]
    rcases Bool.eq_false_or_eq_true (strEq s.name p1.name) with hc9 | hc9
    · refine V_ge rfl rfl rfl hc9 ?_
      have h11 := El_route_Skill_1 h4
      refine V_y (Y_fieldAddr Tryd.underlying62 rfl Tryd.sizeOf3 (by decide) rfl) rfl rfl rfl ?_
      refine V_ge rfl rfl rfl hc9 ?_
      refine V_y (Y_load (El.int h11) Tryd.isAgg3 rfl) rfl rfl rfl ?_
      refine V_ge rfl rfl rfl hc9 ?_
      have h12 := El_route_Skill_1 h_p1
      refine V_y (Y_fieldAddr Tryd.underlying62 rfl Tryd.sizeOf3 (by decide) rfl) rfl rfl rfl ?_
      refine V_ge rfl rfl rfl hc9 ?_
      refine V_y (Y_load (El.int h12) Tryd.isAgg3 rfl) rfl rfl rfl ?_
      refine V_ge rfl rfl rfl hc9 ?_
      refine V_y (Y_geq rfl rfl) rfl rfl rfl ?_
      refine V_y (Y_pick_te rfl hc9 rfl) rfl rfl rfl ?_
      exact V_end fun a ha => ⟨(), ha.sub ⟨(by rw [hc9]; rfl), trivial⟩, rfl⟩
    · refine V_gn rfl rfl rfl hc9 rfl rfl rfl ?_
      refine V_gn rfl rfl rfl hc9 rfl rfl rfl ?_
      refine V_gn rfl rfl rfl hc9 rfl rfl rfl ?_
      refine V_gn rfl rfl rfl hc9 rfl rfl rfl ?_
      refine V_gn rfl rfl rfl hc9 rfl rfl rfl ?_
      refine V_y (Y_pick_fe rfl hc9 rfl) rfl rfl rfl ?_
      exact V_end fun a ha => ⟨(), ha.sub ⟨(by rw [hc9]; rfl), trivial⟩, rfl⟩
  simp only [List.take, List.drop]
  rintro _ _ rfl
  refine V_y (Y_assign rfl) rfl rfl rfl ?_
  refine V_to (fun _ _ => rfl) ?_
  obtain rfl := Option.some.inj hm
  refine C_ret ?_
  try simp only [↓inBlock_ret, ↓then_ret]
  exact retQ rfl (Res.one Tryd.results39 rfl) ⟨rfl, hK.kp⟩

set_option maxRecDepth 4000 in
set_option maxHeartbeats 4000000 in
theorem portref2_able_c (w : World) {A : Nat → Prop} (hA : ∀ b, w.heap.size ≤ b → A b) (p : route_Person) (v_p : Value) (h_p : Sl A w v_p p.skills) (needs : (List route_Skill)) (v_needs : Value) (h_needs : Sl A w v_needs needs) {r : Bool} (hm : portref2_able p needs = some r) : Ret Tryd.prog 19 #[.agg #[.int .i64 p.no, .int .i64 p.capacity, .int .i64 p.calendar, v_p], v_needs] w fun v w' => v = .bool r ∧ Kp Dw w w' := by
  unfold portref2_able at hm
  refine enter Tryd.func19 rfl Tryd.ntmps19 rfl ?_
  have hA0 := hA
  have hB := Nat.le_refl w.heap.size
  have hK : Tr Dw w.heap.size A w A w := Tr.refl (Dw := Dw) hA
  have hH : Hp w.heap.size A w [] := Hp.nil
  refine C_seq ?_
  refine C_region ?_
  refine V_box rfl rfl ?_
  intro b5 w6 h7
  have hk9 := h7.kp (Dw := Dw)
  have h8 : El (α := route_Person) A w6 b5 0 p := h7.el hA ⟨[.int .i64 p.no], _, rfl, rfl, ⟨[.int .i64 p.capacity], _, rfl, rfl, ⟨[.int .i64 p.calendar], _, rfl, rfl, ⟨_, rfl, h_p⟩⟩⟩⟩
  have ht10 := Kp.tr (Dw := Dw) hk9 hA hB
  replace hH := Hp.kp (Dw := Dw) hH hk9
  replace h_p := Sl.tr (Dw := Dw) h_p ht10
  replace h_needs := Sl.tr (Dw := Dw) h_needs ht10
  replace hK := Tr.trans (Dw := Dw) hK ht10
  replace hB := Nat.le_trans hB ht10.ex.size
  replace hA := ht10.new
  refine V_y (Y_assign rfl) rfl rfl rfl ?_
  refine V_to (fun _ _ => rfl) ?_
  refine C_seq ?_
  refine C_seq ?_
  refine C_region ?_
  refine V_y (Y_move rfl) rfl rfl rfl ?_
  refine V_y (Y_lenSl h_needs rfl Tryd.underlying34 rfl) rfl rfl rfl ?_
  refine V_y (Y_move rfl) rfl rfl rfl ?_
  refine V_to (fun _ _ => rfl) ?_
  have hn31 := Sl.le h_needs
  obtain ⟨o11, ho11, hm⟩ := Option.bind_eq_some_iff.1 hm
  refine C_cutG (ι := (Unit × (Nat → Prop))) (fun ⟨s12, A18⟩ => []) (fun ⟨s12, A18⟩ => fun w' => o11 = .fin s12 ∧ Hp w.heap.size A18 w' ([]) ∧ Tr Dw w.heap.size A w6 A18 w') ?_ ?_
  · refine C_block ?_
    refine C_range ho11 (fun k14 _ a w' => ∃ i : (Nat → Prop), Has ⟨19, [], none⟩ a ([(2, .pointer (some ⟨b5, 0, none⟩)), (7, v_needs), (8, .int .i64 (needs.length : Int)), (9, .int .i64 (k14 : Int))]) ∧ Hp w.heap.size i w' ([]) ∧ Tr Dw w.heap.size A w6 i w') (fun a ha => ⟨A, ha.sub ⟨rfl, rfl, rfl, rfl, trivial⟩, ⟨hH, Tr.refl (Dw := Dw) hA⟩⟩) ?_
    rintro K k14 _ a w21 ⟨A22, ha66, hH23, hr13⟩ hle27 K30 h29
    refine C_of ?_ ha66
    replace h8 := El.tr (Dw := Dw) h8 hr13
    replace h_needs := Sl.tr (Dw := Dw) h_needs hr13
    replace hK := Tr.trans (Dw := Dw) hK hr13
    replace hB := Nat.le_trans hB hr13.ex.size
    replace hA := hr13.new
    replace hH : Hp w.heap.size A22 w21 ([]) := hH23
    refine C_seq (C_region (V_y (Y_lss rfl rfl) rfl rfl rfl (V_to (fun _ _ => rfl) ?_)))
    refine C_seq ?_
    refine C_cond rfl (fun hc32 => ?_) (fun hc32 => ?_)
    · have hlt28 := lt_of_dec hc32
      obtain ⟨x24, h25, h26⟩ := K30 hlt28
      refine C_skip_to (fun _ _ => rfl) ?_
      refine C_seq ?_
      refine C_block ?_
      refine C_seq ?_
      refine C_region ?_
      obtain ⟨x33, hx33, h25⟩ := Option.bind_eq_some_iff.1 h25
      refine V_indexAddr h_needs hx33 Tryd.underlying34 Tryd.sizeOf62 rfl rfl rfl ?_
      intro b34 o35 h36
      obtain ⟨h37, _⟩ := El_route_Skill h36
      refine V_y (Y_loadA h37 Tryd.isAgg62 Tryd.sizeOf62 rfl) rfl rfl rfl ?_
      refine V_alloc Tryd.zeroValue62 rfl ?_
      intro b38 w39 h40
      refine V_storeNew h40 Tryd.sizeOf62 rfl rfl rfl rfl (by exact (List.forall_mem_cons.2 ⟨rfl, (List.forall_mem_cons.2 ⟨rfl, (fun _ h => nomatch h)⟩)⟩)) ?_
      intro w41 h42
      have hk44 := h42.kp (Dw := Dw)
      have h43 : El (α := route_Skill) A22 w41 b38 0 x33 := h42.el hA ⟨[.string x33.name], _, rfl, rfl, rfl⟩
      have ht45 := Kp.tr (Dw := Dw) hk44 hA hB
      replace hH := Hp.kp (Dw := Dw) hH hk44
      replace h8 := El.tr (Dw := Dw) h8 ht45
      replace h_needs := Sl.tr (Dw := Dw) h_needs ht45
      replace h36 := El.tr (Dw := Dw) h36 ht45
      replace hK := Tr.trans (Dw := Dw) hK ht45
      replace hr13 := Tr.trans (Dw := Dw) hr13 ht45
      replace hB := Nat.le_trans hB ht45.ex.size
      replace hA := ht45.new
      refine V_to (fun _ _ => rfl) ?_
      refine C_seq ?_
      refine C_region ?_
      have h46 := El_route_Person_3 h8
      refine V_y (Y_fieldAddr Tryd.underlying43 rfl Tryd.sizeOf34 (by decide) rfl) rfl rfl rfl ?_
      obtain ⟨v47, h48, h49⟩ := El.list h46
      refine V_y (Y_load h48 Tryd.isAgg34 rfl) rfl rfl rfl ?_
      refine V_y (Y_makeFunc rfl rfl) rfl rfl rfl ?_
      obtain ⟨x51, hx51, h25⟩ := Option.bind_eq_some_iff.1 h25
      refine V_call Tryd.call38 rfl rfl rfl rfl (slices_ContainsFunc_Lroute_Skill_route_Skill_c (Dw := Dw) w41 hA p.skills v47 h49 (fun y59 => portref2_able_1 y59 x33) 39 #[] #[.pointer (some ⟨b38, 0, none⟩)] Tryd.call39 (fun w55 A56 ht57 h58 y52 r53 h54 => (portref2_able_1_c (Dw := Dw) w55 h58 y52 x33 b38 (El.tr (Dw := Dw) h43 ht57) h54).mono (fun _ _ h => ⟨h.1, h.2⟩)) hx51) ?_
      rintro _ w60 ⟨rfl, hk61⟩
      have ht62 := Kp.tr (Dw := Dw) hk61 hA hB
      replace hH := Hp.kp (Dw := Dw) hH hk61
      replace h8 := El.tr (Dw := Dw) h8 ht62
      replace h_needs := Sl.tr (Dw := Dw) h_needs ht62
      replace h43 := El.tr (Dw := Dw) h43 ht62
      replace h46 := El.tr (Dw := Dw) h46 ht62
      replace h49 := Sl.tr (Dw := Dw) h49 ht62
      replace hK := Tr.trans (Dw := Dw) hK ht62
      replace hr13 := Tr.trans (Dw := Dw) hr13 ht62
      replace hB := Nat.le_trans hB ht62.ex.size
      replace hA := ht62.new
      refine V_y (Y_not rfl) rfl rfl rfl ?_
      refine V_to (fun _ _ => rfl) ?_
      refine C_cond rfl (fun hc63 => ?_) (fun hc63 => ?_)
      · rw [if_pos hc63] at h25
        refine C_seq ?_
        refine C_region ?_
        refine V_y (Y_assign rfl) rfl rfl rfl ?_
        refine V_to (fun _ _ => rfl) ?_
        obtain rfl := Option.some.inj h25
        obtain rfl := (h26 : Lp.rt _ = _)
        rw [Lp.andThen_rt] at hm
        obtain rfl := Option.some.inj hm
        refine C_ret ?_
        try simp only [↓inBlock_ret, ↓then_ret]
        exact retQ rfl (Res.one Tryd.results19 rfl) ⟨rfl, hK.kp⟩
      · rw [if_neg (nt hc63)] at h25
        refine C_skip_to (fun _ _ => rfl) ?_
        refine C_region ?_
        refine V_y (Y_addI rfl rfl) rfl rfl rfl ?_
        refine V_y (Y_move rfl) rfl rfl rfl ?_
        obtain rfl := Option.some.inj h25
        refine V_end (fun a ha64 => ?_)
        exact ⟨(), hlt28, h26, ⟨A22, ha64.sub ⟨rfl, rfl, rfl, (congrArg (fun z => some (Value.int .i64 z)) (w64_succ hlt28 hn31)), trivial⟩, ⟨hH, hr13⟩⟩⟩
    · refine C_exit (fun a ha65 => ?_)
      exact ⟨((), A22), ha65.sub trivial, ⟨(h29 (eq_of_dec hle27 hc32)).symm, hH, hr13⟩⟩
  rintro ⟨s12, A18⟩ w15 ⟨rfl, hH19, hk16⟩ a ha17
  rw [Lp.andThen_fin] at hm
  replace hK := Tr.trans (Dw := Dw) hK hk16
  replace hB := Nat.le_trans hB hk16.ex.size
  replace hA := hk16.new
  replace hH : Hp w.heap.size A18 w15 ([]) := hH19
  refine C_at (n := ⟨19, [], none⟩) (fun _ _ => rfl) ?_ ha17
  refine C_seq ?_
  refine C_region ?_
  refine V_y (Y_assign rfl) rfl rfl rfl ?_
  refine V_to (fun _ _ => rfl) ?_
  obtain rfl := Option.some.inj hm
  refine C_ret ?_
  try simp only [↓inBlock_ret, ↓then_ret]
  exact retQ rfl (Res.one Tryd.results19 rfl) ⟨rfl, hK.kp⟩

set_option maxRecDepth 4000 in
set_option maxHeartbeats 4000000 in
theorem portref2_fits_1F_c (REC : Int → List Bool → List route_Person → List Int → List route_Work → List (List Int) → Option (Bool × List Bool × List (List Int))) (REC_c : ∀ (w : World) {A : Nat → Prop} {B : Nat} (hB : B ≤ w.heap.size) (hA : ∀ b, w.heap.size ≤ b → A b) (w_ : Int) (seen : List Bool) (v_seen : Value) (people : List route_Person) (b_people : Nat) (h_people : El A w b_people 0 people) (room : List Int) (b_room : Nat) (v_room : Value) (l : List route_Work) (b_l : Nat) (h_l : El A w b_l 0 l) (has : List (List Int)) (b_has : Nat) (v_has : Value) (b_place : Nat) (h_place : Vb A w b_place (.func (.func 35) #[] #[.pointer (some ⟨b_people, 0, none⟩), .pointer (some ⟨b_room, 0, none⟩), .pointer (some ⟨b_l, 0, none⟩), .pointer (some ⟨b_has, 0, none⟩), .pointer (some ⟨b_place, 0, none⟩)])) (vs : List Sv) (hl : vs.length = has.length) {L : List Ob} (hH : Hp B A w (obS (α := Sv) 24 v_has vs :: obZ (α := Int) 3 vs has :: obS (α := Bool) 4 v_seen seen :: obC b_room [v_room] 24 :: obS (α := Int) 3 v_room room :: obC b_has [v_has] 59 :: L)) {r : Bool × List Bool × List (List Int)} (hm : REC w_ seen people room l has = some r), Ret Tryd.prog 35 #[.int .i64 w_, v_seen, .pointer (some ⟨b_people, 0, none⟩), .pointer (some ⟨b_room, 0, none⟩), .pointer (some ⟨b_l, 0, none⟩), .pointer (some ⟨b_has, 0, none⟩), .pointer (some ⟨b_place, 0, none⟩)] w fun v w' => ∃ vs' : List Sv, ∃ A1 : Nat → Prop, v = .bool r.1 ∧ vs'.length = r.2.2.length ∧ (r.1 = false → vs' = vs) ∧ Hp B A1 w' (obS (α := Sv) 24 v_has vs' :: obZ (α := Int) 3 vs' r.2.2 :: obS (α := Bool) 4 v_seen r.2.1 :: obC b_room [v_room] 24 :: obS (α := Int) 3 v_room room :: obC b_has [v_has] 59 :: L) ∧ Tr Dw B A w A1 w') (w : World) {A : Nat → Prop} {B : Nat} (hB : B ≤ w.heap.size) (hA : ∀ b, w.heap.size ≤ b → A b) (w_ : Int) (seen : List Bool) (v_seen : Value) (people : List route_Person) (b_people : Nat) (h_people : El A w b_people 0 people) (room : List Int) (b_room : Nat) (v_room : Value) (l : List route_Work) (b_l : Nat) (h_l : El A w b_l 0 l) (has : List (List Int)) (b_has : Nat) (v_has : Value) (b_place : Nat) (h_place : Vb A w b_place (.func (.func 35) #[] #[.pointer (some ⟨b_people, 0, none⟩), .pointer (some ⟨b_room, 0, none⟩), .pointer (some ⟨b_l, 0, none⟩), .pointer (some ⟨b_has, 0, none⟩), .pointer (some ⟨b_place, 0, none⟩)])) (vs : List Sv) (hl : vs.length = has.length) {L : List Ob} (hH : Hp B A w (obS (α := Sv) 24 v_has vs :: obZ (α := Int) 3 vs has :: obS (α := Bool) 4 v_seen seen :: obC b_room [v_room] 24 :: obS (α := Int) 3 v_room room :: obC b_has [v_has] 59 :: L)) {r : Bool × List Bool × List (List Int)} (hm : portref2_fits_1F REC w_ seen people room l has = some r) : Ret Tryd.prog 35 #[.int .i64 w_, v_seen, .pointer (some ⟨b_people, 0, none⟩), .pointer (some ⟨b_room, 0, none⟩), .pointer (some ⟨b_l, 0, none⟩), .pointer (some ⟨b_has, 0, none⟩), .pointer (some ⟨b_place, 0, none⟩)] w fun v w' => ∃ vs' : List Sv, ∃ A1 : Nat → Prop, v = .bool r.1 ∧ vs'.length = r.2.2.length ∧ (r.1 = false → vs' = vs) ∧ Hp B A1 w' (obS (α := Sv) 24 v_has vs' :: obZ (α := Int) 3 vs' r.2.2 :: obS (α := Bool) 4 v_seen r.2.1 :: obC b_room [v_room] 24 :: obS (α := Int) 3 v_room room :: obC b_has [v_has] 59 :: L) ∧ Tr Dw B A w A1 w' := by
  unfold portref2_fits_1F at hm
  refine enter Tryd.func35 rfl Tryd.ntmps35 rfl ?_
  have hK : Tr Dw B A w A w := Tr.refl (Dw := Dw) hA
  refine C_seq ?_
  refine C_region ?_
  refine V_y (Y_assign rfl) rfl rfl rfl ?_
  refine V_to (fun _ _ => rfl) ?_
  refine C_seq ?_
  refine C_seq ?_
  refine C_region ?_
  obtain ⟨v3, h4, h5⟩ := El.list h_people
  refine V_y (Y_load h4 Tryd.isAgg22 rfl) rfl rfl rfl ?_
  refine V_y (Y_lenSl h5 rfl Tryd.underlying22 rfl) rfl rfl rfl ?_
  refine V_y (Y_move rfl) rfl rfl rfl ?_
  refine V_to (fun _ _ => rfl) ?_
  have hn30 := Sl.le h5
  obtain ⟨o6, ho6, hm⟩ := Option.bind_eq_some_iff.1 hm
  refine C_cutG (ι := (((List (List Int)) × (List Bool)) × (Nat → Prop))) (fun ⟨s7, A15⟩ => []) (fun ⟨s7, A15⟩ => fun w' => o6 = .fin s7 ∧ vs.length = s7.1.length ∧ Hp B A15 w' (obS (α := Sv) 24 v_has vs :: obZ (α := Int) 3 vs s7.1 :: obS (α := Bool) 4 v_seen s7.2 :: obC b_room [v_room] 24 :: obS (α := Int) 3 v_room room :: obC b_has [v_has] 59 :: L) ∧ Tr Dw B A w A15 w') ?_ ?_
  · refine C_block ?_
    refine C_range ho6 (fun k9 s17 a w' => ∃ i : (Nat → Prop), Has ⟨88, [], none⟩ a ([(0, .int .i64 w_), (1, v_seen), (3, .pointer (some ⟨b_room, 0, none⟩)), (4, .pointer (some ⟨b_l, 0, none⟩)), (5, .pointer (some ⟨b_has, 0, none⟩)), (6, .pointer (some ⟨b_place, 0, none⟩)), (14, v3), (15, .int .i64 (people.length : Int)), (16, .int .i64 (k9 : Int))]) ∧ vs.length = s17.1.length ∧ Hp B i w' (obS (α := Sv) 24 v_has vs :: obZ (α := Int) 3 vs s17.1 :: obS (α := Bool) 4 v_seen s17.2 :: obC b_room [v_room] 24 :: obS (α := Int) 3 v_room room :: obC b_has [v_has] 59 :: L) ∧ Tr Dw B A w i w') (fun a ha => ⟨A, ha.sub ⟨rfl, rfl, rfl, rfl, rfl, rfl, rfl, rfl, rfl, trivial⟩, ⟨hl, hH, Tr.refl (Dw := Dw) hA⟩⟩) ?_
    rintro K k9 s17 a w18 ⟨A21, ha157, hl17, hH22, hr8⟩ hle26 K29 h28
    refine C_of ?_ ha157
    replace h_place := Vb.tr (Dw := Dw) h_place hr8
    replace h_people := El.tr (Dw := Dw) h_people hr8
    replace h_l := El.tr (Dw := Dw) h_l hr8
    replace h5 := Sl.tr (Dw := Dw) h5 hr8
    replace hK := Tr.trans (Dw := Dw) hK hr8
    replace hB := Nat.le_trans hB hr8.ex.size
    replace hA := hr8.new
    replace hH : Hp B A21 w18 (obS (α := Sv) 24 v_has vs :: obZ (α := Int) 3 vs s17.1 :: obS (α := Bool) 4 v_seen s17.2 :: obC b_room [v_room] 24 :: obS (α := Int) 3 v_room room :: obC b_has [v_has] 59 :: L) := hH22
    refine C_seq (C_region (V_y (Y_lss rfl rfl) rfl rfl rfl (V_to (fun _ _ => rfl) ?_)))
    refine C_seq ?_
    refine C_cond rfl (fun hc31 => ?_) (fun hc31 => ?_)
    · have hlt27 := lt_of_dec hc31
      obtain ⟨x23, h24, h25⟩ := K29 hlt27
      refine C_skip_to (fun _ _ => rfl) ?_
      refine C_seq ?_
      obtain ⟨o32, ho32, h24⟩ := Option.bind_eq_some_iff.1 h24
      refine C_cutG (ι := (((List (List Int)) × (List Bool)) × (Nat → Prop))) (fun ⟨s33, A40⟩ => [(0, .int .i64 w_), (1, v_seen), (3, .pointer (some ⟨b_room, 0, none⟩)), (4, .pointer (some ⟨b_l, 0, none⟩)), (5, .pointer (some ⟨b_has, 0, none⟩)), (6, .pointer (some ⟨b_place, 0, none⟩)), (14, v3), (15, .int .i64 (people.length : Int)), (16, .int .i64 (k9 : Int))]) (fun ⟨s33, A40⟩ => fun w' => o32 = .fin s33 ∧ vs.length = s33.1.length ∧ Hp B A40 w' (obS (α := Sv) 24 v_has vs :: obZ (α := Int) 3 vs s33.1 :: obS (α := Bool) 4 v_seen s33.2 :: obC b_room [v_room] 24 :: obS (α := Int) 3 v_room room :: obC b_has [v_has] 59 :: L) ∧ Tr Dw B A21 w18 A40 w') ?_ ?_
      · have hr34 : Tr Dw B A21 w18 A21 w18 := Tr.refl (Dw := Dw) hA
        refine C_block ?_
        refine C_seq ?_
        refine C_region ?_
        refine V_y (Y_move rfl) rfl rfl rfl ?_
        obtain ⟨x42, hx42, ho32⟩ := Option.bind_eq_some_iff.1 ho32
        refine V_indexAddr h5 hx42 Tryd.underlying22 Tryd.sizeOf43 rfl rfl rfl ?_
        intro b43 o44 h45
        obtain ⟨v46, h48, h47⟩ := El_route_Person h45
        refine V_y (Y_loadA h48 Tryd.isAgg43 Tryd.sizeOf43 rfl) rfl rfl rfl ?_
        refine V_alloc Tryd.zeroValue43 rfl ?_
        intro b49 w50 h51
        refine V_y (Y_assign rfl) rfl rfl rfl ?_
        have h56 : (v46).oneCell' = true := by obtain ⟨_, _, e, _⟩ := Sl.form h47; rw [e]; rfl
        refine V_storeNew h51 Tryd.sizeOf43 rfl rfl rfl rfl (by exact (List.forall_mem_cons.2 ⟨rfl, (List.forall_mem_cons.2 ⟨rfl, (List.forall_mem_cons.2 ⟨rfl, (List.forall_mem_cons.2 ⟨h56, (fun _ h => nomatch h)⟩)⟩)⟩)⟩)) ?_
        intro w52 h53
        have hk58 := h53.kp (Dw := Dw)
        have h57 : El (α := route_Person) A21 w52 b49 0 x42 := h53.el hA ⟨[.int .i64 x42.no], _, rfl, rfl, ⟨[.int .i64 x42.capacity], _, rfl, rfl, ⟨[.int .i64 x42.calendar], _, rfl, rfl, ⟨_, rfl, h47⟩⟩⟩⟩
        have ht59 := Kp.tr (Dw := Dw) hk58 hA hB
        replace hH := Hp.kp (Dw := Dw) hH hk58
        replace h_place := Vb.tr (Dw := Dw) h_place ht59
        replace h_people := El.tr (Dw := Dw) h_people ht59
        replace h_l := El.tr (Dw := Dw) h_l ht59
        replace h5 := Sl.tr (Dw := Dw) h5 ht59
        replace h47 := Sl.tr (Dw := Dw) h47 ht59
        replace hK := Tr.trans (Dw := Dw) hK ht59
        replace hr8 := Tr.trans (Dw := Dw) hr8 ht59
        replace hr34 := Tr.trans (Dw := Dw) hr34 ht59
        replace hB := Nat.le_trans hB ht59.ex.size
        replace hA := ht59.new
        refine V_to (fun _ _ => rfl) ?_
        refine C_seq ?_
        refine C_seq ?_
        refine C_region_q (Dw := Dw) Tryd_mixed (by kernel_rfl) ?_
        refine VQ_y (fun w' hw' => Y_move rfl) rfl rfl rfl ?_
        refine VQ_y (fun w' hw' => Y_move rfl) rfl rfl rfl ?_
        obtain ⟨x60, hx60, ho32⟩ := Option.bind_eq_some_iff.1 ho32
        refine VQ_indexAddrH (α := Bool) (e := 4) (v := v_seen) (l := s17.2) hH (i := 2) rfl hx60 Tryd.underlying39 Tryd.sizeOf4 rfl rfl rfl ?_
        intro b61 o62 h63 hl64
        refine VQ_y (fun w' hw' => Y_load (El.bool (El.kp (Dw := Dw) h63 hw')) Tryd.isAgg4 rfl) rfl rfl rfl ?_
        refine VQ_y (fun w' hw' => Y_move rfl) rfl rfl rfl ?_
        obtain ⟨s66, hs66, ho32⟩ := Option.bind_eq_some_iff.1 ho32
        refine VQ_cut 6 (fun _ : Unit => [(0, .int .i64 w_), (1, v_seen), (3, .pointer (some ⟨b_room, 0, none⟩)), (4, .pointer (some ⟨b_l, 0, none⟩)), (5, .pointer (some ⟨b_has, 0, none⟩)), (6, .pointer (some ⟨b_place, 0, none⟩)), (10, .int .i64 (k9 : Int)), (11, .pointer (some ⟨b49, 0, none⟩)), (14, v3), (15, .int .i64 (people.length : Int)), (16, .int .i64 (k9 : Int)), (31, .bool s66)]) (fun _ => True) ?_ ?_
        · simp only [List.take, List.drop]
          rcases Bool.eq_false_or_eq_true (x60) with hc65 | hc65
          · rw [if_pos hc65] at hs66
            refine VQ_gn rfl rfl rfl hc65 rfl rfl rfl ?_
            refine VQ_gn rfl rfl rfl hc65 rfl rfl rfl ?_
            refine VQ_gn rfl rfl rfl hc65 rfl rfl rfl ?_
            refine VQ_gn rfl rfl rfl hc65 rfl rfl rfl ?_
            refine VQ_gn rfl rfl rfl hc65 rfl rfl rfl ?_
            refine VQ_y (fun _ _ => Y_pick_te rfl hc65 rfl) rfl rfl rfl ?_
            obtain rfl := Option.some.inj hs66
            exact VQ_end fun a ha => ⟨(), ha.sub ⟨rfl, rfl, rfl, rfl, rfl, rfl, rfl, rfl, rfl, rfl, rfl, rfl, trivial⟩, trivial⟩
          · rw [if_neg (nt hc65)] at hs66
            refine VQ_ge rfl rfl rfl hc65 ?_
            refine VQ_y (fun w' hw' => Y_load ((World.cell?_of_block (hw'.block _ (World.block_lt_of_cell? _ _ (Hp.cell (j := 0) hH (i := 3) rfl rfl)))).trans (Hp.cell (j := 0) hH (i := 3) rfl rfl)) Tryd.isAgg24 rfl) rfl rfl rfl ?_
            refine VQ_ge rfl rfl rfl hc65 ?_
            refine VQ_y (fun w' hw' => Y_move rfl) rfl rfl rfl ?_
            refine VQ_ge rfl rfl rfl hc65 ?_
            obtain ⟨x70, hx70, hs66⟩ := Option.bind_eq_some_iff.1 hs66
            refine VQ_indexAddrH (α := Int) (e := 3) (v := v_room) (l := room) hH (i := 4) rfl hx70 Tryd.underlying24 Tryd.sizeOf3 rfl rfl rfl ?_
            intro b71 o72 h73 hl73
            refine VQ_ge rfl rfl rfl hc65 ?_
            refine VQ_y (fun w' hw' => Y_load (El.int (El.kp (Dw := Dw) h73 hw')) Tryd.isAgg3 rfl) rfl rfl rfl ?_
            refine VQ_ge rfl rfl rfl hc65 ?_
            refine VQ_y (fun w' hw' => Y_leq rfl rfl) rfl rfl rfl ?_
            refine VQ_y (fun _ _ => Y_pick_fe rfl hc65 rfl) rfl rfl rfl ?_
            obtain rfl := Option.some.inj hs66
            exact VQ_end fun a ha => ⟨(), ha.sub ⟨rfl, rfl, rfl, rfl, rfl, rfl, rfl, rfl, rfl, rfl, rfl, rfl, trivial⟩, trivial⟩
        simp only [List.take, List.drop]
        rintro _ _
        refine VQ_y (fun w' hw' => Y_move rfl) rfl rfl rfl ?_
        obtain ⟨s75, hs75, ho32⟩ := Option.bind_eq_some_iff.1 ho32
        refine VQ_cut 9 (fun _ : Unit => [(0, .int .i64 w_), (1, v_seen), (3, .pointer (some ⟨b_room, 0, none⟩)), (4, .pointer (some ⟨b_l, 0, none⟩)), (5, .pointer (some ⟨b_has, 0, none⟩)), (6, .pointer (some ⟨b_place, 0, none⟩)), (10, .int .i64 (k9 : Int)), (14, v3), (15, .int .i64 (people.length : Int)), (16, .int .i64 (k9 : Int)), (41, .bool s75)]) (fun _ => True) ?_ ?_
        · simp only [List.take, List.drop]
          rcases Bool.eq_false_or_eq_true (s66) with hc74 | hc74
          · rw [if_pos hc74] at hs75
            refine VQ_gn rfl rfl rfl hc74 rfl rfl rfl ?_
            refine VQ_gn rfl rfl rfl hc74 rfl rfl rfl ?_
            refine VQ_gn rfl rfl rfl hc74 rfl rfl rfl ?_
            refine VQ_gn rfl rfl rfl hc74 rfl rfl rfl ?_
            refine VQ_gn rfl rfl rfl hc74 rfl rfl rfl ?_
            refine VQ_gn rfl rfl rfl hc74 rfl rfl rfl ?_
            refine VQ_gn rfl rfl rfl hc74 rfl rfl rfl ?_
            refine VQ_gn rfl rfl rfl hc74 rfl rfl rfl ?_
            refine VQ_y (fun _ _ => Y_pick_te rfl hc74 rfl) rfl rfl rfl ?_
            obtain rfl := Option.some.inj hs75
            exact VQ_end fun a ha => ⟨(), ha.sub ⟨rfl, rfl, rfl, rfl, rfl, rfl, rfl, rfl, rfl, rfl, rfl, trivial⟩, trivial⟩
          · rw [if_neg (nt hc74)] at hs75
            refine VQ_ge rfl rfl rfl hc74 ?_
            obtain ⟨v76, h78, h77⟩ := El_route_Person h57
            refine VQ_y (fun w' hw' => Y_loadA (At.kp (Dw := Dw) h78 hw' h57.2.1) Tryd.isAgg43 Tryd.sizeOf43 rfl) rfl rfl rfl ?_
            refine VQ_ge rfl rfl rfl hc74 ?_
            obtain ⟨v79, h80, h81⟩ := El.list h_l
            refine VQ_y (fun w' hw' => Y_load ((World.cell?_of_block (hw'.block _ (World.block_lt_of_cell? _ _ h80))).trans h80) Tryd.isAgg23 rfl) rfl rfl rfl ?_
            refine VQ_ge rfl rfl rfl hc74 ?_
            refine VQ_y (fun w' hw' => Y_move rfl) rfl rfl rfl ?_
            refine VQ_ge rfl rfl rfl hc74 ?_
            obtain ⟨x82, hx82, hs75⟩ := Option.bind_eq_some_iff.1 hs75
            refine VQ_indexAddr h81 hx82 Tryd.underlying23 Tryd.sizeOf36 rfl rfl rfl ?_
            intro b83 o84 h85
            refine VQ_ge rfl rfl rfl hc74 ?_
            have h86 := El_route_Work_5 h85
            refine VQ_y (fun w' hw' => Y_fieldAddr Tryd.underlying36 rfl Tryd.sizeOf34 (by decide) rfl) rfl rfl rfl ?_
            refine VQ_ge rfl rfl rfl hc74 ?_
            obtain ⟨v87, h88, h89⟩ := El.list h86
            refine VQ_y (fun w' hw' => Y_load ((World.cell?_of_block (hw'.block _ (World.block_lt_of_cell? _ _ h88))).trans h88) Tryd.isAgg34 rfl) rfl rfl rfl ?_
            refine VQ_ge rfl rfl rfl hc74 ?_
            obtain ⟨x90, hx90, hs75⟩ := Option.bind_eq_some_iff.1 hs75
            refine VQ_call (.bool x90) Tryd.call19 rfl rfl rfl rfl (fun w' hw' => (portref2_able_c (Dw := Dw) w' (fun b hb => hA b (Nat.le_trans hw'.size hb)) x42 v76 (Sl.kp (Dw := Dw) h77 hw') x82.needs v87 (Sl.kp (Dw := Dw) h89 hw') hx90).mono (fun _ _ h => ⟨h.1, Kp.trans (Dw := Dw) hw' h.2⟩)) ?_
            refine VQ_ge rfl rfl rfl hc74 ?_
            refine VQ_y (fun w' hw' => Y_not rfl) rfl rfl rfl ?_
            refine VQ_y (fun _ _ => Y_pick_fe rfl hc74 rfl) rfl rfl rfl ?_
            obtain rfl := Option.some.inj hs75
            exact VQ_end fun a ha => ⟨(), ha.sub ⟨rfl, rfl, rfl, rfl, rfl, rfl, rfl, rfl, rfl, rfl, rfl, trivial⟩, trivial⟩
        simp only [List.take, List.drop]
        rintro _ _
        refine VQ_to (fun _ _ => rfl) (fun w91 hk92 => ?_)
        have ht93 := Kp.tr (Dw := Dw) hk92 hA hB
        replace hH := Hp.kp (Dw := Dw) hH hk92
        replace h_place := Vb.tr (Dw := Dw) h_place ht93
        replace h_people := El.tr (Dw := Dw) h_people ht93
        replace h_l := El.tr (Dw := Dw) h_l ht93
        replace h5 := Sl.tr (Dw := Dw) h5 ht93
        replace hK := Tr.trans (Dw := Dw) hK ht93
        replace hr8 := Tr.trans (Dw := Dw) hr8 ht93
        replace hr34 := Tr.trans (Dw := Dw) hr34 ht93
        replace hB := Nat.le_trans hB ht93.ex.size
        replace hA := ht93.new
        refine C_cond rfl (fun hc94 => ?_) (fun hc94 => ?_)
        · rw [if_pos hc94] at ho32
          obtain rfl := Option.some.inj ho32
          refine C_exit (fun a ha95 => ?_)
          exact ⟨((s17.1, s17.2), A21), ha95.sub ⟨rfl, rfl, rfl, rfl, rfl, rfl, rfl, rfl, rfl, trivial⟩, ⟨rfl, hl17, hH, hr34⟩⟩
        · rw [if_neg (nt hc94)] at ho32
          refine C_skip_to (fun _ _ => rfl) ?_
          refine C_seq ?_
          refine C_region ?_
          refine V_y (Y_move rfl) rfl rfl rfl ?_
          refine V_y (Y_move rfl) rfl rfl rfl ?_
          refine V_indexAddrH (α := Bool) (e := 4) (v := v_seen) (l := s17.2) hH (i := 2) rfl hx60 Tryd.underlying39 Tryd.sizeOf4 rfl rfl rfl ?_
          intro b96 o97 h98 hl99
          obtain ⟨x100, hx100, ho32⟩ := Option.bind_eq_some_iff.1 ho32
          refine V_storeH (Dw := Dw) (α := Bool) (e := 4) (v := v_seen) (l := s17.2) hH (i := 2) rfl hl99 hx100 rfl Tryd.sizeOf4 rfl hB hA rfl rfl ?_
          intro w101 hH102 ht103
          replace h_place := Vb.tr (Dw := Dw) h_place ht103
          replace h_people := El.tr (Dw := Dw) h_people ht103
          replace h_l := El.tr (Dw := Dw) h_l ht103
          replace h5 := Sl.tr (Dw := Dw) h5 ht103
          replace hK := Tr.trans (Dw := Dw) hK ht103
          replace hr8 := Tr.trans (Dw := Dw) hr8 ht103
          replace hr34 := Tr.trans (Dw := Dw) hr34 ht103
          replace hB := Nat.le_trans hB ht103.ex.size
          replace hA := ht103.new
          replace hH : Hp B A21 w101 (obS (α := Sv) 24 v_has vs :: obZ (α := Int) 3 vs s17.1 :: obS (α := Bool) 4 v_seen x100 :: obC b_room [v_room] 24 :: obS (α := Int) 3 v_room room :: obC b_has [v_has] 59 :: L) := hH102
          refine V_to (fun _ _ => rfl) ?_
          refine C_seq ?_
          refine C_seq ?_
          refine C_region_q (Dw := Dw) Tryd_mixed (by kernel_rfl) ?_
          refine VQ_y (fun w' hw' => Y_load ((World.cell?_of_block (hw'.block _ (World.block_lt_of_cell? _ _ (Hp.cell (j := 0) hH (i := 5) rfl rfl)))).trans (Hp.cell (j := 0) hH (i := 5) rfl rfl)) Tryd.isAgg59 rfl) rfl rfl rfl ?_
          refine VQ_y (fun w' hw' => Y_move rfl) rfl rfl rfl ?_
          obtain ⟨x104, hx104, ho32⟩ := Option.bind_eq_some_iff.1 ho32
          obtain ⟨y129, hy130⟩ := ssIdx hx104 hl17
          refine VQ_indexAddrH (α := Sv) (e := 24) (v := v_has) (l := vs) hH (i := 0) rfl hy130 Tryd.underlying59 Tryd.sizeOf24 rfl rfl rfl ?_
          intro b105 o106 h107 hl108
          have h111 : Sl (α := Int) (fun _ => True) w101 y129.v x104 := (Hp.zTake hH (i := 1) rfl hx104 hy130).any (i := 0) rfl
          refine VQ_y (fun w' hw' => Y_load (El.sv (El.kp (Dw := Dw) h107 hw')) Tryd.isAgg24 rfl) rfl rfl rfl ?_
          refine VQ_y (fun w' hw' => Y_lenSl h111 rfl Tryd.underlying24 rfl) rfl rfl rfl ?_
          refine VQ_y (fun w' hw' => Y_load ((World.cell?_of_block (hw'.block _ (World.block_lt_of_cell? _ _ (Hp.cell (j := 0) hH (i := 3) rfl rfl)))).trans (Hp.cell (j := 0) hH (i := 3) rfl rfl)) Tryd.isAgg24 rfl) rfl rfl rfl ?_
          refine VQ_y (fun w' hw' => Y_move rfl) rfl rfl rfl ?_
          obtain ⟨x115, hx115, ho32⟩ := Option.bind_eq_some_iff.1 ho32
          refine VQ_indexAddrH (α := Int) (e := 3) (v := v_room) (l := room) hH (i := 4) rfl hx115 Tryd.underlying24 Tryd.sizeOf3 rfl rfl rfl ?_
          intro b116 o117 h118 hl118
          refine VQ_y (fun w' hw' => Y_load (El.int (El.kp (Dw := Dw) h118 hw')) Tryd.isAgg3 rfl) rfl rfl rfl ?_
          refine VQ_y (fun w' hw' => Y_lss rfl rfl) rfl rfl rfl ?_
          refine VQ_to (fun _ _ => rfl) (fun w119 hk120 => ?_)
          have ht121 := Kp.tr (Dw := Dw) hk120 hA hB
          replace hH := Hp.kp (Dw := Dw) hH hk120
          replace h_place := Vb.tr (Dw := Dw) h_place ht121
          replace h_people := El.tr (Dw := Dw) h_people ht121
          replace h_l := El.tr (Dw := Dw) h_l ht121
          replace h5 := Sl.tr (Dw := Dw) h5 ht121
          replace hK := Tr.trans (Dw := Dw) hK ht121
          replace hr8 := Tr.trans (Dw := Dw) hr8 ht121
          replace hr34 := Tr.trans (Dw := Dw) hr34 ht121
          replace hB := Nat.le_trans hB ht121.ex.size
          replace hA := ht121.new
          refine C_cond rfl (fun hc122 => ?_) (fun hc122 => ?_)
          · rw [if_pos hc122] at ho32
            refine C_seq ?_
            refine C_region_ch (Dw := Dw) (fun k => A21 k ∨ k = b_has) 11 [(1, 0), (1, 1), (1, 2), (1, 3), (1, 4), (0, 5), (1, 6), (2, 7), (3, 8), (1, 9), (4, 10)] Tryd_mixed (by kernel_rfl) (fun w132 hk133 => ?_)
            have ht134 := Kp.tr (Dw := Dw) hk133 hA hB
            replace hH := Hp.kp (Dw := Dw) hH hk133
            replace h_place := Vb.tr (Dw := Dw) h_place ht134
            replace h_people := El.tr (Dw := Dw) h_people ht134
            replace h_l := El.tr (Dw := Dw) h_l ht134
            replace h5 := Sl.tr (Dw := Dw) h5 ht134
            replace hK := Tr.trans (Dw := Dw) hK ht134
            replace hr8 := Tr.trans (Dw := Dw) hr8 ht134
            replace hr34 := Tr.trans (Dw := Dw) hr34 ht134
            replace hB := Nat.le_trans hB ht134.ex.size
            replace hA := ht134.new
            refine CH_q2 (Dw := Dw) rfl ?_
            refine VQ_y (fun w' hw' => Y_load ((World.cell?_of_block (hw'.2 _ (World.block_lt_of_cell? _ _ (Hp.cell (j := 0) hH (i := 5) rfl rfl)) (Or.inr rfl))).trans (Hp.cell (j := 0) hH (i := 5) rfl rfl)) Tryd.isAgg59 rfl) rfl rfl rfl ?_
            refine VQ_CH (Dw := Dw) ?_
            refine CH_q2 (Dw := Dw) rfl ?_
            refine VQ_y (fun w' hw' => Y_move rfl) rfl rfl rfl ?_
            refine VQ_CH (Dw := Dw) ?_
            refine CH_q2 (Dw := Dw) rfl ?_
            refine VQ_y (fun w' hw' => Y_load ((World.cell?_of_block (hw'.2 _ (World.block_lt_of_cell? _ _ (Hp.cell (j := 0) hH (i := 5) rfl rfl)) (Or.inr rfl))).trans (Hp.cell (j := 0) hH (i := 5) rfl rfl)) Tryd.isAgg59 rfl) rfl rfl rfl ?_
            refine VQ_CH (Dw := Dw) ?_
            refine CH_q2 (Dw := Dw) rfl ?_
            refine VQ_y (fun w' hw' => Y_move rfl) rfl rfl rfl ?_
            refine VQ_CH (Dw := Dw) ?_
            refine CH_q2 (Dw := Dw) rfl ?_
            refine VQ_indexAddrH (α := Sv) (e := 24) (v := v_has) (l := vs) hH (i := 0) rfl hy130 Tryd.underlying59 Tryd.sizeOf24 rfl rfl rfl ?_
            intro b125 o126 h127 hl128
            refine VQ_CH (Dw := Dw) ?_
            refine CH_q1 (Dw := Dw) rfl ?_
            refine VQ_y (fun w' hw' => Y_load (El.sv (El.kp (Dw := Dw) h127 hw')) Tryd.isAgg24 rfl) rfl rfl rfl ?_
            refine VQ_CH (Dw := Dw) ?_
            refine CH_q2 (Dw := Dw) rfl ?_
            refine VQ_y (fun w' hw' => Y_move rfl) rfl rfl rfl ?_
            refine VQ_CH (Dw := Dw) ?_
            refine CH_l1 (Dw := Dw) (k := 0) rfl ?_
            refine V_buildSlice (Dw := Dw) (l := ([w_] : List Int)) (len := 1) Tryd.underlying24 Tryd.sizeOf3 Tryd.zeroValue3 rfl (by with_unfolding_all rfl) (show (1 * 1 : Nat) ≠ 0 by decide) (show (1 * 1 : Nat) ≤ 2 ^ 24 by decide) hA ⟨[.int .i64 w_], _, rfl, rfl, rfl⟩ rfl rfl ?_
            intro v135 w136 hk138 h137
            have ht139 := Kp.tr (Dw := Dw) hk138 hA hB
            replace hH := Hp.kp (Dw := Dw) hH hk138
            replace h_place := Vb.tr (Dw := Dw) h_place ht139
            replace h_people := El.tr (Dw := Dw) h_people ht139
            replace h_l := El.tr (Dw := Dw) h_l ht139
            replace h5 := Sl.tr (Dw := Dw) h5 ht139
            replace hK := Tr.trans (Dw := Dw) hK ht139
            replace hr8 := Tr.trans (Dw := Dw) hr8 ht139
            replace hr34 := Tr.trans (Dw := Dw) hr34 ht139
            replace hB := Nat.le_trans hB ht139.ex.size
            replace hA := ht139.new
            refine V_CH (Dw := Dw) hk138 ?_
            refine CH_l1 (Dw := Dw) (k := 1) rfl ?_
            replace hH : Hp B A21 w136 (obS (α := Int) 3 y129.v x104 :: obS (α := Sv) 24 v_has vs :: obZX (α := Int) 3 vs s17.1 (Int.toNat (k9 : Int)) :: obS (α := Bool) 4 v_seen x100 :: obC b_room [v_room] 24 :: obS (α := Int) 3 v_room room :: obC b_has [v_has] 59 :: L) := Hp.zTake hH (i := 1) rfl hx104 hy130
            have hH7 := hH
            obtain ⟨x140, hx140, ho32⟩ := Option.bind_eq_some_iff.1 ho32
            refine V_appendHs (Dw := Dw) (e := 3) (v := y129.v) (l := x104) (ti := Tryd.t3) (bytes := 8) (lim := 17592186044416) hH (i := 0) rfl h137 hx140 Tryd.underlying24 Tryd_info3 rfl rfl rfl rfl (by decide) (by decide) (by decide) hB hA rfl rfl rfl ?_
            intro v141 w142 A143 hH144 ht145 hs145
            replace h_place := Vb.tr (Dw := Dw) h_place ht145
            replace h_people := El.tr (Dw := Dw) h_people ht145
            replace h_l := El.tr (Dw := Dw) h_l ht145
            replace h5 := Sl.tr (Dw := Dw) h5 ht145
            replace hK := Tr.trans (Dw := Dw) hK ht145
            replace hr8 := Tr.trans (Dw := Dw) hr8 ht145
            replace hr34 := Tr.trans (Dw := Dw) hr34 ht145
            replace hB := Nat.le_trans hB ht145.ex.size
            replace hA := ht145.new
            replace hH : Hp B A143 w142 (obS (α := Int) 3 v141 x140 :: obS (α := Sv) 24 v_has vs :: obZX (α := Int) 3 vs s17.1 (Int.toNat (k9 : Int)) :: obS (α := Bool) 4 v_seen x100 :: obC b_room [v_room] 24 :: obS (α := Int) 3 v_room room :: obC b_has [v_has] 59 :: L) := hH144
            refine V_CHx (Dw := Dw) (XA.addS hs145 (Hp.ownOff (α := Int) (e := 3) (v := y129.v) (l := x104) hH7 (i := 0) rfl (j := 6) rfl (by decide))) ?_
            refine CH_q2 (Dw := Dw) rfl ?_
            refine VQ_indexAddrH (α := Sv) (e := 24) (v := v_has) (l := vs) hH (i := 1) rfl hy130 Tryd.underlying59 Tryd.sizeOf24 rfl rfl rfl ?_
            intro b146 o147 h148 hl149
            refine VQ_CH (Dw := Dw) ?_
            refine CH_l1 (Dw := Dw) (k := 2) rfl ?_
            replace hH : Hp B A143 w142 (obS (α := Sv) 24 v_has vs :: obS (α := Int) 3 v141 x140 :: obZX (α := Int) 3 vs s17.1 (Int.toNat (k9 : Int)) :: obS (α := Bool) 4 v_seen x100 :: obC b_room [v_room] 24 :: obS (α := Int) 3 v_room room :: obC b_has [v_has] 59 :: L) := Hp.front hH (i := 1) rfl
            obtain ⟨x150, hx150, ho32⟩ := Option.bind_eq_some_iff.1 ho32
            refine V_storeSS (Dw := Dw) (p := y129) (α := Int) (e := 24) (e2 := 3) (v := v_has) (vs := vs) (l := s17.1) (ix := (k9 : Int)) (nv := v141) (c' := x140) hH hl17 hy130 hl149 hx150 Tryd.sizeOf24 rfl hB hA rfl rfl ?_
            intro w151 hH152 ht153
            replace h_place := Vb.tr (Dw := Dw) h_place ht153
            replace h_people := El.tr (Dw := Dw) h_people ht153
            replace h_l := El.tr (Dw := Dw) h_l ht153
            replace h5 := Sl.tr (Dw := Dw) h5 ht153
            replace hK := Tr.trans (Dw := Dw) hK ht153
            replace hr8 := Tr.trans (Dw := Dw) hr8 ht153
            replace hr34 := Tr.trans (Dw := Dw) hr34 ht153
            replace hB := Nat.le_trans hB ht153.ex.size
            replace hA := ht153.new
            refine V_CHw (Dw := Dw) ?_
            refine CH_tail (Dw := Dw) ?_
            show V _ _ _ _ [] _ _
            obtain ⟨vs2, hl2, hH⟩ := Hp.ssOpen (α := Int) (e := 24) (e2 := 3) (v := v_has) (l := x150) hH152 (i := 0) rfl
            replace hH : Hp B A143 w151 (obS (α := Sv) 24 v_has vs2 :: obZ (α := Int) 3 vs2 x150 :: obS (α := Bool) 4 v_seen x100 :: obC b_room [v_room] 24 :: obS (α := Int) 3 v_room room :: obC b_has [v_has] 59 :: L) := hH
            refine V_to (fun _ _ => rfl) ?_
            refine C_seq ?_
            refine C_region ?_
            refine V_y (Y_assign rfl) rfl rfl rfl ?_
            refine V_to (fun _ _ => rfl) ?_
            obtain rfl := Option.some.inj ho32
            rw [Lp.andThen_rt] at h24
            obtain rfl := Option.some.inj h24
            obtain rfl := (h25 : Lp.rt _ = _)
            rw [Lp.andThen_rt] at hm
            obtain rfl := Option.some.inj hm
            refine C_ret ?_
            try simp only [↓inBlock_ret, ↓then_ret]
            exact retQ rfl (Res.one Tryd.results35 rfl) ⟨vs2, A143, rfl, hl2, (fun h => nomatch h), hH, hK⟩
          · rw [if_neg (nt hc122)] at ho32
            refine C_skip_to (fun _ _ => rfl) ?_
            refine C_seq ?_
            refine C_region ?_
            refine V_y (Y_load (Hp.cell (j := 0) hH (i := 5) rfl rfl) Tryd.isAgg59 rfl) rfl rfl rfl ?_
            refine V_y (Y_move rfl) rfl rfl rfl ?_
            refine V_indexAddrH (α := Sv) (e := 24) (v := v_has) (l := vs) hH (i := 0) rfl hy130 Tryd.underlying59 Tryd.sizeOf24 rfl rfl rfl ?_
            intro b155 o156 h157 hl158
            refine V_y (Y_load (El.sv h157) Tryd.isAgg24 rfl) rfl rfl rfl ?_
            have h159 : Sl (α := Int) (fun _ => True) w119 y129.v x104 := (Hp.zTake hH (i := 1) rfl hx104 hy130).any (i := 0) rfl
            refine V_y (Y_lenSl h159 rfl Tryd.underlying24 rfl) rfl rfl rfl ?_
            refine V_y (Y_move rfl) rfl rfl rfl ?_
            refine V_to (fun _ _ => rfl) ?_
            have hn160 := Sl.le h159
            obtain ⟨o161, ho161, ho32⟩ := Option.bind_eq_some_iff.1 ho32
            have hr164 : Tr Dw B A21 w119 A21 w119 := Tr.refl (Dw := Dw) hA
            refine C_block ?_
            refine C_range ho161 (fun k170 s171 a w' => ∃ i : (Nat → Prop), Has ⟨88, [], none⟩ a ([(0, .int .i64 w_), (1, v_seen), (3, .pointer (some ⟨b_room, 0, none⟩)), (4, .pointer (some ⟨b_l, 0, none⟩)), (5, .pointer (some ⟨b_has, 0, none⟩)), (6, .pointer (some ⟨b_place, 0, none⟩)), (10, .int .i64 (k9 : Int)), (14, v3), (15, .int .i64 (people.length : Int)), (16, .int .i64 (k9 : Int)), (68, y129.v), (69, .int .i64 (x104.length : Int)), (70, .int .i64 (k170 : Int))]) ∧ vs.length = s171.1.length ∧ Hp B i w' (obS (α := Sv) 24 v_has vs :: obZ (α := Int) 3 vs s171.1 :: obS (α := Bool) 4 v_seen s171.2 :: obC b_room [v_room] 24 :: obS (α := Int) 3 v_room room :: obC b_has [v_has] 59 :: L) ∧ Tr Dw B A21 w119 i w') (fun a ha => ⟨A21, ha.sub ⟨rfl, rfl, rfl, rfl, rfl, rfl, rfl, rfl, rfl, rfl, rfl, rfl, rfl, trivial⟩, ⟨hl17, hH, Tr.refl (Dw := Dw) hA⟩⟩) ?_
            rintro K' k170 s171 a w172 ⟨A173, ha174, hl171, hH175, hr176⟩ hle177 K178 h179
            refine C_of ?_ ha174
            replace h_place := Vb.tr (Dw := Dw) h_place hr176
            replace h_people := El.tr (Dw := Dw) h_people hr176
            replace h_l := El.tr (Dw := Dw) h_l hr176
            replace h5 := Sl.tr (Dw := Dw) h5 hr176
            replace hK := Tr.trans (Dw := Dw) hK hr176
            replace hr8 := Tr.trans (Dw := Dw) hr8 hr176
            replace hr34 := Tr.trans (Dw := Dw) hr34 hr176
            replace hB := Nat.le_trans hB hr176.ex.size
            replace hA := hr176.new
            replace hH : Hp B A173 w172 (obS (α := Sv) 24 v_has vs :: obZ (α := Int) 3 vs s171.1 :: obS (α := Bool) 4 v_seen s171.2 :: obC b_room [v_room] 24 :: obS (α := Int) 3 v_room room :: obC b_has [v_has] 59 :: L) := hH175
            refine C_seq (C_region (V_y (Y_lss rfl rfl) rfl rfl rfl (V_to (fun _ _ => rfl) ?_)))
            refine C_seq ?_
            refine C_cond rfl (fun hc180 => ?_) (fun hc180 => ?_)
            · have hlt181 := lt_of_dec hc180
              obtain ⟨x182, h183, h184⟩ := K178 hlt181
              refine C_skip_to (fun _ _ => rfl) ?_
              refine C_seq ?_
              refine C_block ?_
              refine C_seq ?_
              refine C_region ?_
              refine V_y (Y_move rfl) rfl rfl rfl ?_
              obtain ⟨x185, hx185, h183⟩ := Option.bind_eq_some_iff.1 h183
              obtain ⟨x186, hx186, h183⟩ := Option.bind_eq_some_iff.1 h183
              have hz187 := Hp.zTake hH (i := 1) rfl hx185 hy130
              refine V_indexAddrH (α := Int) (e := 3) (v := y129.v) (l := x185) hz187 (i := 0) rfl hx186 Tryd.underlying24 Tryd.sizeOf3 rfl rfl rfl ?_
              intro b188 o189 h190 hl191
              refine V_y (Y_load (El.int h190) Tryd.isAgg3 rfl) rfl rfl rfl ?_
              refine V_y (Y_assign rfl) rfl rfl rfl ?_
              refine V_y (Y_assign rfl) rfl rfl rfl ?_
              refine V_to (fun _ _ => rfl) ?_
              refine C_seq ?_
              refine C_region ?_
              refine V_y (Y_load h_place.2.2 Tryd.isAgg57 rfl) rfl rfl rfl ?_
              refine V_y (Y_move rfl) rfl rfl rfl ?_
              refine V_y (Y_move rfl) rfl rfl rfl ?_
              obtain ⟨x192, hx192, h183⟩ := Option.bind_eq_some_iff.1 h183
              refine V_call Tryd.call35 rfl rfl rfl rfl (REC_c w172 hB hA x186 s171.2 v_seen people b_people h_people room b_room v_room l b_l h_l s171.1 b_has v_has b_place h_place vs hl171 hH hx192) ?_
              rintro _ w193 ⟨vs194, A195, rfl, hl196, hv197, hH198, ht199⟩
              replace h_place := Vb.tr (Dw := Dw) h_place ht199
              replace h_people := El.tr (Dw := Dw) h_people ht199
              replace h_l := El.tr (Dw := Dw) h_l ht199
              replace h5 := Sl.tr (Dw := Dw) h5 ht199
              replace hK := Tr.trans (Dw := Dw) hK ht199
              replace hr8 := Tr.trans (Dw := Dw) hr8 ht199
              replace hr34 := Tr.trans (Dw := Dw) hr34 ht199
              replace hr176 := Tr.trans (Dw := Dw) hr176 ht199
              replace hB := Nat.le_trans hB ht199.ex.size
              replace hA := ht199.new
              replace hH : Hp B A195 w193 (obS (α := Sv) 24 v_has vs194 :: obZ (α := Int) 3 vs194 x192.2.2 :: obS (α := Bool) 4 v_seen x192.2.1 :: obC b_room [v_room] 24 :: obS (α := Int) 3 v_room room :: obC b_has [v_has] 59 :: L) := hH198
              refine V_to (fun _ _ => rfl) ?_
              refine C_cond rfl (fun hc200 => ?_) (fun hc200 => ?_)
              · rw [if_pos hc200] at h183
                refine C_seq ?_
                refine C_region ?_
                refine V_y (Y_load (Hp.cell (j := 0) hH (i := 5) rfl rfl) Tryd.isAgg59 rfl) rfl rfl rfl ?_
                refine V_y (Y_move rfl) rfl rfl rfl ?_
                obtain ⟨x201, hx201, h183⟩ := Option.bind_eq_some_iff.1 h183
                obtain ⟨y202, hy203⟩ := ssIdx hx201 hl196
                refine V_indexAddrH (α := Sv) (e := 24) (v := v_has) (l := vs194) hH (i := 0) rfl hy203 Tryd.underlying59 Tryd.sizeOf24 rfl rfl rfl ?_
                intro b204 o205 h206 hl207
                refine V_y (Y_load (El.sv h206) Tryd.isAgg24 rfl) rfl rfl rfl ?_
                refine V_y (Y_move rfl) rfl rfl rfl ?_
                refine V_y (Y_move rfl) rfl rfl rfl ?_
                obtain ⟨x208, hx208, h183⟩ := Option.bind_eq_some_iff.1 h183
                obtain ⟨z209, hz210⟩ : ∃ z, idx x201 (k170 : Int) = some z := by
                  have := hx208
                  unfold setI at this
                  split at this
                  · rename_i h
                    unfold idx
                    rw [if_pos h.1]
                    exact ⟨_, List.getElem?_eq_getElem h.2⟩
                  · cases this
                replace hH : Hp B A195 w193 (obS (α := Int) 3 y202.v x201 :: obS (α := Sv) 24 v_has vs194 :: obZX (α := Int) 3 vs194 x192.2.2 (Int.toNat (k9 : Int)) :: obS (α := Bool) 4 v_seen x192.2.1 :: obC b_room [v_room] 24 :: obS (α := Int) 3 v_room room :: obC b_has [v_has] 59 :: L) := Hp.zTake hH (i := 1) rfl hx201 hy203
                refine V_indexAddrH (α := Int) (e := 3) (v := y202.v) (l := x201) hH (i := 0) rfl hz210 Tryd.underlying24 Tryd.sizeOf3 rfl rfl rfl ?_
                intro b211 o212 h213 hl214
                refine V_storeH (Dw := Dw) (α := Int) (e := 3) (v := y202.v) (l := x201) hH (i := 0) rfl hl214 hx208 rfl Tryd.sizeOf3 rfl hB hA rfl rfl ?_
                intro w215 hH216 ht217
                replace h_place := Vb.tr (Dw := Dw) h_place ht217
                replace h_people := El.tr (Dw := Dw) h_people ht217
                replace h_l := El.tr (Dw := Dw) h_l ht217
                replace h5 := Sl.tr (Dw := Dw) h5 ht217
                replace hK := Tr.trans (Dw := Dw) hK ht217
                replace hr8 := Tr.trans (Dw := Dw) hr8 ht217
                replace hr34 := Tr.trans (Dw := Dw) hr34 ht217
                replace hr176 := Tr.trans (Dw := Dw) hr176 ht217
                replace hB := Nat.le_trans hB ht217.ex.size
                replace hA := ht217.new
                obtain ⟨x218, hx218, h183⟩ := Option.bind_eq_some_iff.1 h183
                replace hH : Hp B A195 w215 (obS (α := Int) 3 y202.v x208 :: obS (α := Sv) 24 v_has vs194 :: obZX (α := Int) 3 vs194 x192.2.2 (Int.toNat (k9 : Int)) :: obS (α := Bool) 4 v_seen x192.2.1 :: obC b_room [v_room] 24 :: obS (α := Int) 3 v_room room :: obC b_has [v_has] 59 :: L) := hH216
                have hH219 := Hp.ssBackW (ix := (k9 : Int)) (y := y202) hH (i := 2) (j := 0) (k := 0) rfl rfl rfl hx201 hy203 hl196 hx218
                obtain ⟨vs2, hl2, hH⟩ := Hp.ssOpen (α := Int) (e := 24) (e2 := 3) (v := v_has) (l := x218) hH219 (i := 0) rfl
                replace hH : Hp B A195 w215 (obS (α := Sv) 24 v_has vs2 :: obZ (α := Int) 3 vs2 x218 :: obS (α := Bool) 4 v_seen x192.2.1 :: obC b_room [v_room] 24 :: obS (α := Int) 3 v_room room :: obC b_has [v_has] 59 :: L) := hH
                refine V_to (fun _ _ => rfl) ?_
                refine C_seq ?_
                refine C_region ?_
                refine V_y (Y_assign rfl) rfl rfl rfl ?_
                refine V_to (fun _ _ => rfl) ?_
                obtain rfl := Option.some.inj h183
                obtain rfl := (h184 : Lp.rt _ = _)
                rw [Lp.andThen_rt] at ho32
                obtain rfl := Option.some.inj ho32
                rw [Lp.andThen_rt] at h24
                obtain rfl := Option.some.inj h24
                obtain rfl := (h25 : Lp.rt _ = _)
                rw [Lp.andThen_rt] at hm
                obtain rfl := Option.some.inj hm
                refine C_ret ?_
                try simp only [↓inBlock_ret, ↓then_ret]
                exact retQ rfl (Res.one Tryd.results35 rfl) ⟨vs2, A195, rfl, hl2, (fun h => nomatch h), hH, hK⟩
              · rw [if_neg (nt hc200)] at h183
                obtain rfl := hv197 hc200
                refine C_skip_to (fun _ _ => rfl) ?_
                refine C_region ?_
                refine V_y (Y_addI rfl rfl) rfl rfl rfl ?_
                refine V_y (Y_move rfl) rfl rfl rfl ?_
                obtain rfl := Option.some.inj h183
                refine V_end (fun a ha220 => ?_)
                exact ⟨(x192.2.2, x192.2.1), hlt181, h184, ⟨A195, ha220.sub ⟨rfl, rfl, rfl, rfl, rfl, rfl, rfl, rfl, rfl, rfl, rfl, rfl, (congrArg (fun z => some (Value.int .i64 z)) (w64_succ hlt181 hn160)), trivial⟩, ⟨hl196, hH, hr176⟩⟩⟩
            · refine C_exit (fun a ha221 => ?_)
              obtain rfl := (h179 (eq_of_dec hle177 hc180)).symm
              rw [Lp.andThen_fin] at ho32
              obtain rfl := Option.some.inj ho32
              exact ⟨((s171.1, s171.2), A173), ha221.sub ⟨rfl, rfl, rfl, rfl, rfl, rfl, rfl, rfl, rfl, trivial⟩, ⟨rfl, hl171, hH, hr34⟩⟩
      rintro ⟨s33, A40⟩ w37 ⟨rfl, hl33, hH41, hk38⟩ a ha39
      rw [Lp.andThen_fin] at h24
      replace h_place := Vb.tr (Dw := Dw) h_place hk38
      replace h_people := El.tr (Dw := Dw) h_people hk38
      replace h_l := El.tr (Dw := Dw) h_l hk38
      replace h5 := Sl.tr (Dw := Dw) h5 hk38
      replace hK := Tr.trans (Dw := Dw) hK hk38
      replace hr8 := Tr.trans (Dw := Dw) hr8 hk38
      replace hB := Nat.le_trans hB hk38.ex.size
      replace hA := hk38.new
      replace hH : Hp B A40 w37 (obS (α := Sv) 24 v_has vs :: obZ (α := Int) 3 vs s33.1 :: obS (α := Bool) 4 v_seen s33.2 :: obC b_room [v_room] 24 :: obS (α := Int) 3 v_room room :: obC b_has [v_has] 59 :: L) := hH41
      refine C_at (n := ⟨88, [], none⟩) (fun _ _ => rfl) ?_ ha39
      refine C_region ?_
      refine V_y (Y_addI rfl rfl) rfl rfl rfl ?_
      refine V_y (Y_move rfl) rfl rfl rfl ?_
      obtain rfl := Option.some.inj h24
      refine V_end (fun a ha155 => ?_)
      exact ⟨(s33.1, s33.2), hlt27, h25, ⟨A40, ha155.sub ⟨rfl, rfl, rfl, rfl, rfl, rfl, rfl, rfl, (congrArg (fun z => some (Value.int .i64 z)) (w64_succ hlt27 hn30)), trivial⟩, ⟨hl33, hH, hr8⟩⟩⟩
    · refine C_exit (fun a ha156 => ?_)
      exact ⟨((s17.1, s17.2), A21), ha156.sub trivial, ⟨(h28 (eq_of_dec hle26 hc31)).symm, hl17, hH, hr8⟩⟩
  rintro ⟨s7, A15⟩ w10 ⟨rfl, hl7, hH16, hk11⟩ a ha12
  rw [Lp.andThen_fin] at hm
  replace hK := Tr.trans (Dw := Dw) hK hk11
  replace hB := Nat.le_trans hB hk11.ex.size
  replace hA := hk11.new
  replace hH : Hp B A15 w10 (obS (α := Sv) 24 v_has vs :: obZ (α := Int) 3 vs s7.1 :: obS (α := Bool) 4 v_seen s7.2 :: obC b_room [v_room] 24 :: obS (α := Int) 3 v_room room :: obC b_has [v_has] 59 :: L) := hH16
  refine C_at (n := ⟨88, [], none⟩) (fun _ _ => rfl) ?_ ha12
  refine C_seq ?_
  refine C_region ?_
  refine V_y (Y_assign rfl) rfl rfl rfl ?_
  refine V_to (fun _ _ => rfl) ?_
  obtain rfl := Option.some.inj hm
  refine C_ret ?_
  try simp only [↓inBlock_ret, ↓then_ret]
  exact retQ rfl (Res.one Tryd.results35 rfl) ⟨vs, A15, rfl, hl7, (fun _ => rfl), hH, hK⟩
theorem portref2_fits_1N_c (n : Nat) : ∀ (w : World) {A : Nat → Prop} {B : Nat} (hB : B ≤ w.heap.size) (hA : ∀ b, w.heap.size ≤ b → A b) (w_ : Int) (seen : List Bool) (v_seen : Value) (people : List route_Person) (b_people : Nat) (h_people : El A w b_people 0 people) (room : List Int) (b_room : Nat) (v_room : Value) (l : List route_Work) (b_l : Nat) (h_l : El A w b_l 0 l) (has : List (List Int)) (b_has : Nat) (v_has : Value) (b_place : Nat) (h_place : Vb A w b_place (.func (.func 35) #[] #[.pointer (some ⟨b_people, 0, none⟩), .pointer (some ⟨b_room, 0, none⟩), .pointer (some ⟨b_l, 0, none⟩), .pointer (some ⟨b_has, 0, none⟩), .pointer (some ⟨b_place, 0, none⟩)])) (vs : List Sv) (hl : vs.length = has.length) {L : List Ob} (hH : Hp B A w (obS (α := Sv) 24 v_has vs :: obZ (α := Int) 3 vs has :: obS (α := Bool) 4 v_seen seen :: obC b_room [v_room] 24 :: obS (α := Int) 3 v_room room :: obC b_has [v_has] 59 :: L)) {r : Bool × List Bool × List (List Int)} (hm : portref2_fits_1N n w_ seen people room l has = some r), Ret Tryd.prog 35 #[.int .i64 w_, v_seen, .pointer (some ⟨b_people, 0, none⟩), .pointer (some ⟨b_room, 0, none⟩), .pointer (some ⟨b_l, 0, none⟩), .pointer (some ⟨b_has, 0, none⟩), .pointer (some ⟨b_place, 0, none⟩)] w fun v w' => ∃ vs' : List Sv, ∃ A1 : Nat → Prop, v = .bool r.1 ∧ vs'.length = r.2.2.length ∧ (r.1 = false → vs' = vs) ∧ Hp B A1 w' (obS (α := Sv) 24 v_has vs' :: obZ (α := Int) 3 vs' r.2.2 :: obS (α := Bool) 4 v_seen r.2.1 :: obC b_room [v_room] 24 :: obS (α := Int) 3 v_room room :: obC b_has [v_has] 59 :: L) ∧ Tr Dw B A w A1 w' := by
  induction n with
  | zero =>
    intros
    rename_i hm
    exact absurd hm (fun h => by cases (show (none : Option (Bool × List Bool × List (List Int))) = some _ from h))
  | succ n ih => exact portref2_fits_1F_c (portref2_fits_1N n) ih
theorem portref2_fits_1_c (w : World) {A : Nat → Prop} {B : Nat} (hB : B ≤ w.heap.size) (hA : ∀ b, w.heap.size ≤ b → A b) (w_ : Int) (seen : List Bool) (v_seen : Value) (people : List route_Person) (b_people : Nat) (h_people : El A w b_people 0 people) (room : List Int) (b_room : Nat) (v_room : Value) (l : List route_Work) (b_l : Nat) (h_l : El A w b_l 0 l) (has : List (List Int)) (b_has : Nat) (v_has : Value) (b_place : Nat) (h_place : Vb A w b_place (.func (.func 35) #[] #[.pointer (some ⟨b_people, 0, none⟩), .pointer (some ⟨b_room, 0, none⟩), .pointer (some ⟨b_l, 0, none⟩), .pointer (some ⟨b_has, 0, none⟩), .pointer (some ⟨b_place, 0, none⟩)])) {L : List Ob} (hH : Hp B A w (obS (α := Bool) 4 v_seen seen :: obC b_room [v_room] 24 :: obS (α := Int) 3 v_room room :: obC b_has [v_has] 59 :: obSS (α := Int) 24 3 v_has has :: L)) {r : Bool × List Bool × List (List Int)} (hm : portref2_fits_1 w_ seen people room l has = some r) : Ret Tryd.prog 35 #[.int .i64 w_, v_seen, .pointer (some ⟨b_people, 0, none⟩), .pointer (some ⟨b_room, 0, none⟩), .pointer (some ⟨b_l, 0, none⟩), .pointer (some ⟨b_has, 0, none⟩), .pointer (some ⟨b_place, 0, none⟩)] w fun v w' => ∃ A1 : Nat → Prop, v = .bool r.1 ∧ Hp B A1 w' (obS (α := Bool) 4 v_seen r.2.1 :: obC b_room [v_room] 24 :: obS (α := Int) 3 v_room room :: obC b_has [v_has] 59 :: obSS (α := Int) 24 3 v_has r.2.2 :: L) ∧ Tr Dw B A w A1 w' := by
  obtain ⟨vs, hl, h1⟩ := Hp.ssOpen (α := Int) (e := 24) (e2 := 3) (v := v_has) (l := has) hH (i := 4) rfl
  refine Ret.mono (portref2_fits_1N_c (Dw := Dw) _ w hB hA w_ seen v_seen people b_people h_people room b_room v_room l b_l h_l has b_has v_has b_place h_place vs hl h1 hm) ?_
  rintro _ w' ⟨vs', A1, rfl, hl', _, h2, ht⟩
  have h3 := Hp.ssPack (α := Int) (e := 24) (e2 := 3) (v := v_has) (l := r.2.2) h2 hl'
  refine ⟨A1, rfl, ?_, ht⟩
  exact h3.perm (by
    refine (List.Perm.swap _ _ _).trans (.cons _ ?_)
    refine (List.Perm.swap _ _ _).trans (.cons _ ?_)
    refine (List.Perm.swap _ _ _).trans (.cons _ ?_)
    exact List.Perm.swap _ _ _)


set_option maxRecDepth 4000 in
set_option maxHeartbeats 4000000 in
theorem portref2_fits_c (w : World) {A : Nat → Prop} (hA : ∀ b, w.heap.size ≤ b → A b) (people : (List route_Person)) (v_people : Value) (h_people : Sl A w v_people people) (l : (List route_Work)) (v_l : Value) (h_l : Sl A w v_l l) (fixed : (List Int)) (v_fixed : Value) (h_fixed : Sl A w v_fixed fixed) {r : Bool} (hm : portref2_fits people l fixed = some r) : Ret Tryd.prog 18 #[v_people, v_l, v_fixed] w fun v w' => v = .bool r ∧ Kp Dw w w' := by
  unfold portref2_fits at hm
  refine enter Tryd.func18 rfl Tryd.ntmps18 rfl ?_
  have hA0 := hA
  have hB := Nat.le_refl w.heap.size
  have hK : Tr Dw w.heap.size A w A w := Tr.refl (Dw := Dw) hA
  have hH : Hp w.heap.size A w [] := Hp.nil
  refine C_seq ?_
  refine C_region ?_
  refine V_box rfl rfl ?_
  intro b7 w9 h10
  have h15 : (v_people).oneCell' = true := by obtain ⟨_, _, e, _⟩ := Sl.form h_people; rw [e]; rfl
  have hk12 := h10.kp (Dw := Dw)
  have h11 : El (α := (List route_Person)) A w9 b7 0 people := h10.el hA (by rw [Value.cells_one h15]; exact ⟨_, rfl, h_people⟩)
  have ht16 := Kp.tr (Dw := Dw) hk12 hA hB
  replace hH := Hp.kp (Dw := Dw) hH hk12
  replace h_people := Sl.tr (Dw := Dw) h_people ht16
  replace h_l := Sl.tr (Dw := Dw) h_l ht16
  replace h_fixed := Sl.tr (Dw := Dw) h_fixed ht16
  replace hK := Tr.trans (Dw := Dw) hK ht16
  replace hB := Nat.le_trans hB ht16.ex.size
  replace hA := ht16.new
  refine V_box rfl rfl ?_
  intro b17 w18 h19
  have h24 : (v_l).oneCell' = true := by obtain ⟨_, _, e, _⟩ := Sl.form h_l; rw [e]; rfl
  have hk21 := h19.kp (Dw := Dw)
  have h20 : El (α := (List route_Work)) A w18 b17 0 l := h19.el hA (by rw [Value.cells_one h24]; exact ⟨_, rfl, h_l⟩)
  have ht25 := Kp.tr (Dw := Dw) hk21 hA hB
  replace hH := Hp.kp (Dw := Dw) hH hk21
  replace h_people := Sl.tr (Dw := Dw) h_people ht25
  replace h_l := Sl.tr (Dw := Dw) h_l ht25
  replace h_fixed := Sl.tr (Dw := Dw) h_fixed ht25
  replace h11 := El.tr (Dw := Dw) h11 ht25
  replace hK := Tr.trans (Dw := Dw) hK ht25
  replace hB := Nat.le_trans hB ht25.ex.size
  replace hA := ht25.new
  refine V_y (Y_assign rfl) rfl rfl rfl ?_
  refine V_to (fun _ _ => rfl) ?_
  refine C_seq ?_
  refine C_region ?_
  obtain ⟨v26, h27, h28⟩ := El.list h11
  refine V_y (Y_load h27 Tryd.isAgg22 rfl) rfl rfl rfl ?_
  refine V_y (Y_lenSl h28 rfl Tryd.underlying22 rfl) rfl rfl rfl ?_
  obtain ⟨x29, hx29, hm⟩ := Option.bind_eq_some_iff.1 hm
  refine V_makeH (Dw := Dw) (e := 3) (ti := Tryd.t3) hH hx29 (fun _ _ => rfl) Tryd.underlying24 Tryd_info3 rfl rfl rfl (by decide) (by decide) hB hA rfl rfl rfl ?_
  intro v30 w31 A32 hH33 ht34
  replace h_fixed := Sl.tr (Dw := Dw) h_fixed ht34
  replace h11 := El.tr (Dw := Dw) h11 ht34
  replace h20 := El.tr (Dw := Dw) h20 ht34
  replace h28 := Sl.tr (Dw := Dw) h28 ht34
  replace hK := Tr.trans (Dw := Dw) hK ht34
  replace hB := Nat.le_trans hB ht34.ex.size
  replace hA := ht34.new
  replace hH : Hp w.heap.size A32 w31 (obS (α := Int) 3 v30 x29 :: []) := hH33
  refine V_allocH (Dw := Dw) (B := w.heap.size) hH Tryd.zeroValue24 hB hA rfl ?_
  intro b35 w36 A37 hH38 ht39
  replace h_fixed := Sl.tr (Dw := Dw) h_fixed ht39
  replace h11 := El.tr (Dw := Dw) h11 ht39
  replace h20 := El.tr (Dw := Dw) h20 ht39
  replace h28 := Sl.tr (Dw := Dw) h28 ht39
  replace hK := Tr.trans (Dw := Dw) hK ht39
  replace hB := Nat.le_trans hB ht39.ex.size
  replace hA := ht39.new
  replace hH : Hp w.heap.size A37 w36 (obC b35 [.slice none 0 0] 24 :: obS (α := Int) 3 v30 x29 :: []) := hH38
  have h45 : (v30).oneCell' = true := by obtain ⟨_, _, e, _⟩ := Sl.form (Hp.any (α := Int) (e := 3) (v := v30) (l := x29) hH (i := 1) rfl); rw [e]; rfl
  refine V_storeC (Dw := Dw) (off := 0) (ds := [v30]) hH (i := 0) rfl Tryd.sizeOf24 (by rw [← Array.length_toList, Value.cells_one h45]; rfl) (Nat.le_of_ble_eq_true rfl) (by intro u hu; rw [Value.cells_one h45] at hu; simp at hu; subst hu; assumption) (by rw [Value.cells_one h45]; rfl) hB hA rfl rfl ?_
  intro w40 hH41 ht42
  replace h_fixed := Sl.tr (Dw := Dw) h_fixed ht42
  replace h11 := El.tr (Dw := Dw) h11 ht42
  replace h20 := El.tr (Dw := Dw) h20 ht42
  replace h28 := Sl.tr (Dw := Dw) h28 ht42
  replace hK := Tr.trans (Dw := Dw) hK ht42
  replace hB := Nat.le_trans hB ht42.ex.size
  replace hA := ht42.new
  replace hH : Hp w.heap.size A37 w40 (obC b35 [v30] 24 :: obS (α := Int) 3 v30 x29 :: []) := hH41
  refine V_to (fun _ _ => rfl) ?_
  refine C_seq ?_
  refine C_seq ?_
  refine C_region ?_
  obtain ⟨v46, h47, h48⟩ := El.list h11
  refine V_y (Y_load h47 Tryd.isAgg22 rfl) rfl rfl rfl ?_
  refine V_y (Y_lenSl h48 rfl Tryd.underlying22 rfl) rfl rfl rfl ?_
  refine V_y (Y_move rfl) rfl rfl rfl ?_
  refine V_to (fun _ _ => rfl) ?_
  have hn73 := Sl.le h48
  obtain ⟨o49, ho49, hm⟩ := Option.bind_eq_some_iff.1 hm
  refine C_cutG (ι := ((List Int) × Value × (Nat → Prop))) (fun ⟨s50, v56, A58⟩ => [(2, v_fixed), (3, .pointer (some ⟨b7, 0, none⟩)), (4, .pointer (some ⟨b17, 0, none⟩)), (7, .pointer (some ⟨b35, 0, none⟩))]) (fun ⟨s50, v56, A58⟩ => fun w' => o49 = .fin s50 ∧ Hp w.heap.size A58 w' (obC b35 [v56] 24 :: obS (α := Int) 3 v56 s50 :: []) ∧ Tr Dw w.heap.size A37 w40 A58 w') ?_ ?_
  · refine C_block ?_
    refine C_range ho49 (fun k52 s60 a w' => ∃ i : (Value × (Nat → Prop)), Has ⟨75, [], none⟩ a ([(2, v_fixed), (3, .pointer (some ⟨b7, 0, none⟩)), (4, .pointer (some ⟨b17, 0, none⟩)), (7, .pointer (some ⟨b35, 0, none⟩)), (20, v46), (21, .int .i64 (people.length : Int)), (22, .int .i64 (k52 : Int))]) ∧ Hp w.heap.size i.2 w' (obC b35 [i.1] 24 :: obS (α := Int) 3 i.1 s60 :: []) ∧ Tr Dw w.heap.size A37 w40 i.2 w') (fun a ha => ⟨(v30, A37), ha.sub ⟨rfl, rfl, rfl, rfl, rfl, rfl, rfl, trivial⟩, ⟨hH, Tr.refl (Dw := Dw) hA⟩⟩) ?_
    rintro K k52 s60 a w61 ⟨⟨v62, A64⟩, ha105, hH65, hr51⟩ hle69 K72 h71
    refine C_of ?_ ha105
    replace h_fixed := Sl.tr (Dw := Dw) h_fixed hr51
    replace h11 := El.tr (Dw := Dw) h11 hr51
    replace h20 := El.tr (Dw := Dw) h20 hr51
    replace h48 := Sl.tr (Dw := Dw) h48 hr51
    replace hK := Tr.trans (Dw := Dw) hK hr51
    replace hB := Nat.le_trans hB hr51.ex.size
    replace hA := hr51.new
    replace hH : Hp w.heap.size A64 w61 (obC b35 [v62] 24 :: obS (α := Int) 3 v62 s60 :: []) := hH65
    refine C_seq (C_region (V_y (Y_lss rfl rfl) rfl rfl rfl (V_to (fun _ _ => rfl) ?_)))
    refine C_seq ?_
    refine C_cond rfl (fun hc74 => ?_) (fun hc74 => ?_)
    · have hlt70 := lt_of_dec hc74
      obtain ⟨x66, h67, h68⟩ := K72 hlt70
      refine C_skip_to (fun _ _ => rfl) ?_
      refine C_seq ?_
      refine C_block ?_
      refine C_seq ?_
      refine C_region ?_
      refine V_y (Y_move rfl) rfl rfl rfl ?_
      obtain ⟨x75, hx75, h67⟩ := Option.bind_eq_some_iff.1 h67
      refine V_indexAddr h48 hx75 Tryd.underlying22 Tryd.sizeOf43 rfl rfl rfl ?_
      intro b76 o77 h78
      obtain ⟨v79, h81, h80⟩ := El_route_Person h78
      refine V_y (Y_loadA h81 Tryd.isAgg43 Tryd.sizeOf43 rfl) rfl rfl rfl ?_
      refine V_alloc Tryd.zeroValue43 rfl ?_
      intro b82 w83 h84
      refine V_y (Y_assign rfl) rfl rfl rfl ?_
      have h89 : (v79).oneCell' = true := by obtain ⟨_, _, e, _⟩ := Sl.form h80; rw [e]; rfl
      refine V_storeNew h84 Tryd.sizeOf43 rfl rfl rfl rfl (by exact (List.forall_mem_cons.2 ⟨rfl, (List.forall_mem_cons.2 ⟨rfl, (List.forall_mem_cons.2 ⟨rfl, (List.forall_mem_cons.2 ⟨h89, (fun _ h => nomatch h)⟩)⟩)⟩)⟩)) ?_
      intro w85 h86
      have hk91 := h86.kp (Dw := Dw)
      have h90 : El (α := route_Person) A64 w85 b82 0 x75 := h86.el hA ⟨[.int .i64 x75.no], _, rfl, rfl, ⟨[.int .i64 x75.capacity], _, rfl, rfl, ⟨[.int .i64 x75.calendar], _, rfl, rfl, ⟨_, rfl, h80⟩⟩⟩⟩
      have ht92 := Kp.tr (Dw := Dw) hk91 hA hB
      replace hH := Hp.kp (Dw := Dw) hH hk91
      replace h_fixed := Sl.tr (Dw := Dw) h_fixed ht92
      replace h11 := El.tr (Dw := Dw) h11 ht92
      replace h20 := El.tr (Dw := Dw) h20 ht92
      replace h48 := Sl.tr (Dw := Dw) h48 ht92
      replace h78 := El.tr (Dw := Dw) h78 ht92
      replace h80 := Sl.tr (Dw := Dw) h80 ht92
      replace hK := Tr.trans (Dw := Dw) hK ht92
      replace hr51 := Tr.trans (Dw := Dw) hr51 ht92
      replace hB := Nat.le_trans hB ht92.ex.size
      replace hA := ht92.new
      refine V_to (fun _ _ => rfl) ?_
      refine C_region ?_
      refine V_y (Y_load (Hp.cell (j := 0) hH (i := 0) rfl rfl) Tryd.isAgg24 rfl) rfl rfl rfl ?_
      refine V_y (Y_move rfl) rfl rfl rfl ?_
      have h93 := El_route_Person_1 h90
      refine V_y (Y_fieldAddr Tryd.underlying43 rfl Tryd.sizeOf3 (by decide) rfl) rfl rfl rfl ?_
      refine V_y (Y_load (El.int h93) Tryd.isAgg3 rfl) rfl rfl rfl ?_
      obtain ⟨x94, hx94, h67⟩ := Option.bind_eq_some_iff.1 h67
      refine V_indexAddrH (α := Int) (e := 3) (v := v62) (l := s60) hH (i := 1) rfl hx94 Tryd.underlying24 Tryd.sizeOf3 rfl rfl rfl ?_
      intro b95 o96 h97 hl98
      obtain ⟨x99, hx99, h67⟩ := Option.bind_eq_some_iff.1 h67
      refine V_storeH (Dw := Dw) (α := Int) (e := 3) (v := v62) (l := s60) hH (i := 1) rfl hl98 hx99 rfl Tryd.sizeOf3 rfl hB hA rfl rfl ?_
      intro w100 hH101 ht102
      replace h_fixed := Sl.tr (Dw := Dw) h_fixed ht102
      replace h11 := El.tr (Dw := Dw) h11 ht102
      replace h20 := El.tr (Dw := Dw) h20 ht102
      replace h48 := Sl.tr (Dw := Dw) h48 ht102
      replace h90 := El.tr (Dw := Dw) h90 ht102
      replace h93 := El.tr (Dw := Dw) h93 ht102
      replace hK := Tr.trans (Dw := Dw) hK ht102
      replace hr51 := Tr.trans (Dw := Dw) hr51 ht102
      replace hB := Nat.le_trans hB ht102.ex.size
      replace hA := ht102.new
      replace hH : Hp w.heap.size A64 w100 (obC b35 [v62] 24 :: obS (α := Int) 3 v62 x99 :: []) := hH101
      refine V_to (fun _ _ => rfl) ?_
      refine C_region ?_
      refine V_y (Y_addI rfl rfl) rfl rfl rfl ?_
      refine V_y (Y_move rfl) rfl rfl rfl ?_
      obtain rfl := Option.some.inj h67
      refine V_end (fun a ha103 => ?_)
      exact ⟨x99, hlt70, h68, ⟨(v62, A64), ha103.sub ⟨rfl, rfl, rfl, rfl, rfl, rfl, (congrArg (fun z => some (Value.int .i64 z)) (w64_succ hlt70 hn73)), trivial⟩, ⟨hH, hr51⟩⟩⟩
    · refine C_exit (fun a ha104 => ?_)
      exact ⟨(s60, v62, A64), ha104.sub ⟨rfl, rfl, rfl, rfl, trivial⟩, ⟨(h71 (eq_of_dec hle69 hc74)).symm, hH, hr51⟩⟩
  rintro ⟨s50, v56, A58⟩ w53 ⟨rfl, hH59, hk54⟩ a ha55
  rw [Lp.andThen_fin] at hm
  replace h_fixed := Sl.tr (Dw := Dw) h_fixed hk54
  replace h11 := El.tr (Dw := Dw) h11 hk54
  replace h20 := El.tr (Dw := Dw) h20 hk54
  replace hK := Tr.trans (Dw := Dw) hK hk54
  replace hB := Nat.le_trans hB hk54.ex.size
  replace hA := hk54.new
  replace hH : Hp w.heap.size A58 w53 (obC b35 [v56] 24 :: obS (α := Int) 3 v56 s50 :: []) := hH59
  refine C_at (n := ⟨75, [], none⟩) (fun _ _ => rfl) ?_ ha55
  refine C_seq ?_
  refine C_region ?_
  refine V_y (Y_assign rfl) rfl rfl rfl ?_
  refine V_to (fun _ _ => rfl) ?_
  refine C_seq ?_
  refine C_seq ?_
  refine C_region ?_
  refine V_y (Y_move rfl) rfl rfl rfl ?_
  refine V_y (Y_lenSl h_fixed rfl Tryd.underlying24 rfl) rfl rfl rfl ?_
  refine V_y (Y_move rfl) rfl rfl rfl ?_
  refine V_to (fun _ _ => rfl) ?_
  replace hH : Hp w.heap.size A58 w53 (obS (α := Int) 3 (.slice none 0 0) ([] : (List Int)) :: obC b35 [v56] 24 :: obS (α := Int) 3 v56 s50 :: []) := Hp.addNil (α := Int) (e := 3) hH
  have hn134 := Sl.le h_fixed
  obtain ⟨o106, ho106, hm⟩ := Option.bind_eq_some_iff.1 hm
  refine C_cutG (ι := (((List Int) × (List Int)) × Value × Value × (Nat → Prop))) (fun ⟨s107, v113, v115, A117⟩ => [(3, .pointer (some ⟨b7, 0, none⟩)), (4, .pointer (some ⟨b17, 0, none⟩)), (7, .pointer (some ⟨b35, 0, none⟩)), (10, v113)]) (fun ⟨s107, v113, v115, A117⟩ => fun w' => o106 = .fin s107 ∧ Hp w.heap.size A117 w' (obS (α := Int) 3 v113 s107.1 :: obC b35 [v115] 24 :: obS (α := Int) 3 v115 s107.2 :: []) ∧ Tr Dw w.heap.size A58 w53 A117 w') ?_ ?_
  · refine C_block ?_
    refine C_range ho106 (fun k109 s119 a w' => ∃ i : (Value × Value × (Nat → Prop)), Has ⟨75, [], none⟩ a ([(3, .pointer (some ⟨b7, 0, none⟩)), (4, .pointer (some ⟨b17, 0, none⟩)), (7, .pointer (some ⟨b35, 0, none⟩)), (10, i.1), (33, v_fixed), (34, .int .i64 (fixed.length : Int)), (35, .int .i64 (k109 : Int))]) ∧ Hp w.heap.size i.2.2 w' (obS (α := Int) 3 i.1 s119.1 :: obC b35 [i.2.1] 24 :: obS (α := Int) 3 i.2.1 s119.2 :: []) ∧ Tr Dw w.heap.size A58 w53 i.2.2 w') (fun a ha => ⟨(.slice none 0 0, v56, A58), ha.sub ⟨rfl, rfl, rfl, rfl, rfl, rfl, rfl, trivial⟩, ⟨hH, Tr.refl (Dw := Dw) hA⟩⟩) ?_
    rintro K k109 s119 a w120 ⟨⟨v121, v123, A125⟩, ha208, hH126, hr108⟩ hle130 K133 h132
    refine C_of ?_ ha208
    replace h11 := El.tr (Dw := Dw) h11 hr108
    replace h20 := El.tr (Dw := Dw) h20 hr108
    replace h_fixed := Sl.tr (Dw := Dw) h_fixed hr108
    replace hK := Tr.trans (Dw := Dw) hK hr108
    replace hB := Nat.le_trans hB hr108.ex.size
    replace hA := hr108.new
    replace hH : Hp w.heap.size A125 w120 (obS (α := Int) 3 v121 s119.1 :: obC b35 [v123] 24 :: obS (α := Int) 3 v123 s119.2 :: []) := hH126
    refine C_seq (C_region (V_y (Y_lss rfl rfl) rfl rfl rfl (V_to (fun _ _ => rfl) ?_)))
    refine C_seq ?_
    refine C_cond rfl (fun hc135 => ?_) (fun hc135 => ?_)
    · have hlt131 := lt_of_dec hc135
      obtain ⟨x127, h128, h129⟩ := K133 hlt131
      refine C_skip_to (fun _ _ => rfl) ?_
      refine C_seq ?_
      obtain ⟨s137, ho136, h128⟩ := Option.bind_eq_some_iff.1 h128
      refine C_cutG (ι := (Value × Value × (Nat → Prop))) (fun ⟨v139, v141, A146⟩ => [(3, .pointer (some ⟨b7, 0, none⟩)), (4, .pointer (some ⟨b17, 0, none⟩)), (7, .pointer (some ⟨b35, 0, none⟩)), (10, v139), (33, v_fixed), (34, .int .i64 (fixed.length : Int)), (35, .int .i64 (k109 : Int))]) (fun ⟨v139, v141, A146⟩ => fun w' => Hp w.heap.size A146 w' (obS (α := Int) 3 v139 s137.1 :: obC b35 [v141] 24 :: obS (α := Int) 3 v141 s137.2 :: []) ∧ Tr Dw w.heap.size A125 w120 A146 w') ?_ ?_
      · have hr138 : Tr Dw w.heap.size A125 w120 A125 w120 := Tr.refl (Dw := Dw) hA
        refine C_block ?_
        refine C_seq ?_
        refine C_region ?_
        refine V_y (Y_move rfl) rfl rfl rfl ?_
        obtain ⟨x148, hx148, ho136⟩ := Option.bind_eq_some_iff.1 ho136
        refine V_indexAddr h_fixed hx148 Tryd.underlying24 Tryd.sizeOf3 rfl rfl rfl ?_
        intro b149 o150 h151
        refine V_y (Y_load (El.int h151) Tryd.isAgg3 rfl) rfl rfl rfl ?_
        refine V_y (Y_assign rfl) rfl rfl rfl ?_
        refine V_y (Y_assign rfl) rfl rfl rfl ?_
        refine V_to (fun _ _ => rfl) ?_
        refine C_seq ?_
        refine C_region ?_
        refine V_y (Y_move rfl) rfl rfl rfl ?_
        refine V_y (Y_geq rfl rfl) rfl rfl rfl ?_
        refine V_to (fun _ _ => rfl) ?_
        obtain ⟨s153, ho152, ho136⟩ := Option.bind_eq_some_iff.1 ho136
        refine C_cutG (ι := (Value × Value × (Nat → Prop))) (fun ⟨v155, v157, A162⟩ => [(3, .pointer (some ⟨b7, 0, none⟩)), (4, .pointer (some ⟨b17, 0, none⟩)), (7, .pointer (some ⟨b35, 0, none⟩)), (10, v155), (33, v_fixed), (34, .int .i64 (fixed.length : Int)), (35, .int .i64 (k109 : Int))]) (fun ⟨v155, v157, A162⟩ => fun w' => Hp w.heap.size A162 w' (obS (α := Int) 3 v155 s153.1 :: obC b35 [v157] 24 :: obS (α := Int) 3 v157 s153.2 :: []) ∧ Tr Dw w.heap.size A125 w120 A162 w') ?_ ?_
        · have hr154 : Tr Dw w.heap.size A125 w120 A125 w120 := Tr.refl (Dw := Dw) hA
          refine C_cond rfl (fun hc164 => ?_) (fun hc164 => ?_)
          · rw [if_pos hc164] at ho152
            refine C_region ?_
            refine V_y (Y_load (Hp.cell (j := 0) hH (i := 1) rfl rfl) Tryd.isAgg24 rfl) rfl rfl rfl ?_
            refine V_y (Y_move rfl) rfl rfl rfl ?_
            obtain ⟨x165, hx165, ho152⟩ := Option.bind_eq_some_iff.1 ho152
            refine V_indexAddrH (α := Int) (e := 3) (v := v123) (l := s119.2) hH (i := 2) rfl hx165 Tryd.underlying24 Tryd.sizeOf3 rfl rfl rfl ?_
            intro b166 o167 h168 hl169
            refine V_y (Y_load (El.int h168) Tryd.isAgg3 rfl) rfl rfl rfl ?_
            refine V_y (Y_subI rfl rfl) rfl rfl rfl ?_
            refine V_indexAddrH (α := Int) (e := 3) (v := v123) (l := s119.2) hH (i := 2) rfl hx165 Tryd.underlying24 Tryd.sizeOf3 rfl rfl rfl ?_
            intro b170 o171 h172 hl173
            obtain ⟨x174, hx174, ho152⟩ := Option.bind_eq_some_iff.1 ho152
            refine V_storeH (Dw := Dw) (α := Int) (e := 3) (v := v123) (l := s119.2) hH (i := 2) rfl hl173 hx174 rfl Tryd.sizeOf3 rfl hB hA rfl rfl ?_
            intro w175 hH176 ht177
            replace h11 := El.tr (Dw := Dw) h11 ht177
            replace h20 := El.tr (Dw := Dw) h20 ht177
            replace h_fixed := Sl.tr (Dw := Dw) h_fixed ht177
            replace hK := Tr.trans (Dw := Dw) hK ht177
            replace hr108 := Tr.trans (Dw := Dw) hr108 ht177
            replace hr138 := Tr.trans (Dw := Dw) hr138 ht177
            replace hr154 := Tr.trans (Dw := Dw) hr154 ht177
            replace hB := Nat.le_trans hB ht177.ex.size
            replace hA := ht177.new
            replace hH : Hp w.heap.size A125 w175 (obS (α := Int) 3 v121 s119.1 :: obC b35 [v123] 24 :: obS (α := Int) 3 v123 x174 :: []) := hH176
            obtain rfl := Option.some.inj ho152
            refine V_end (fun a ha178 => ?_)
            exact ⟨(v121, v123, A125), ha178.sub ⟨rfl, rfl, rfl, rfl, rfl, rfl, rfl, trivial⟩, ⟨hH, hr154⟩⟩
          · rw [if_neg (nt hc164)] at ho152
            refine C_seq ?_
            refine C_region ?_
            refine V_y (Y_move rfl) rfl rfl rfl ?_
            refine V_y (Y_eql rfl rfl) rfl rfl rfl ?_
            refine V_to (fun _ _ => rfl) ?_
            obtain ⟨s180, ho179, ho152⟩ := Option.bind_eq_some_iff.1 ho152
            refine C_cutG (ι := (Value × (Nat → Prop))) (fun ⟨v182, A187⟩ => [(3, .pointer (some ⟨b7, 0, none⟩)), (4, .pointer (some ⟨b17, 0, none⟩)), (7, .pointer (some ⟨b35, 0, none⟩)), (10, v182), (33, v_fixed), (34, .int .i64 (fixed.length : Int)), (35, .int .i64 (k109 : Int))]) (fun ⟨v182, A187⟩ => fun w' => Hp w.heap.size A187 w' (obS (α := Int) 3 v182 s180 :: obC b35 [v123] 24 :: obS (α := Int) 3 v123 s119.2 :: []) ∧ Tr Dw w.heap.size A125 w120 A187 w') ?_ ?_
            · have hr181 : Tr Dw w.heap.size A125 w120 A125 w120 := Tr.refl (Dw := Dw) hA
              refine C_cond rfl (fun hc189 => ?_) (fun hc189 => ?_)
              · rw [if_pos hc189] at ho179
                refine C_region ?_
                refine V_y (Y_move rfl) rfl rfl rfl ?_
                refine V_y (Y_move rfl) rfl rfl rfl ?_
                refine V_buildSlice (Dw := Dw) (cells := #[.int .i64 (k109 : Int)]) (l := ([(k109 : Int)] : List Int)) (len := 1) Tryd.underlying24 Tryd.sizeOf3 Tryd.zeroValue3 rfl (by generalize ((k109 : Int) : Int) = z194; kernel_rfl) (show (1 * 1 : Nat) ≠ 0 by decide) (show (1 * 1 : Nat) ≤ 2 ^ 24 by decide) hA ⟨[.int .i64 (k109 : Int)], _, rfl, rfl, rfl⟩ rfl rfl ?_
                intro v190 w191 hk193 h192
                have ht195 := Kp.tr (Dw := Dw) hk193 hA hB
                replace hH := Hp.kp (Dw := Dw) hH hk193
                replace h11 := El.tr (Dw := Dw) h11 ht195
                replace h20 := El.tr (Dw := Dw) h20 ht195
                replace h_fixed := Sl.tr (Dw := Dw) h_fixed ht195
                replace hK := Tr.trans (Dw := Dw) hK ht195
                replace hr108 := Tr.trans (Dw := Dw) hr108 ht195
                replace hr138 := Tr.trans (Dw := Dw) hr138 ht195
                replace hr154 := Tr.trans (Dw := Dw) hr154 ht195
                replace hr181 := Tr.trans (Dw := Dw) hr181 ht195
                replace hB := Nat.le_trans hB ht195.ex.size
                replace hA := ht195.new
                obtain ⟨x196, hx196, ho179⟩ := Option.bind_eq_some_iff.1 ho179
                refine V_appendH (Dw := Dw) (e := 3) (v := v121) (l := s119.1) (ti := Tryd.t3) (bytes := 8) (lim := 17592186044416) hH (i := 0) rfl h192 hx196 Tryd.underlying24 Tryd_info3 rfl rfl rfl rfl (by decide) (by decide) (by decide) hB hA rfl rfl rfl ?_
                intro v197 w198 A199 hH200 ht201
                replace h11 := El.tr (Dw := Dw) h11 ht201
                replace h20 := El.tr (Dw := Dw) h20 ht201
                replace h_fixed := Sl.tr (Dw := Dw) h_fixed ht201
                replace h192 := Sl.tr (Dw := Dw) h192 ht201
                replace hK := Tr.trans (Dw := Dw) hK ht201
                replace hr108 := Tr.trans (Dw := Dw) hr108 ht201
                replace hr138 := Tr.trans (Dw := Dw) hr138 ht201
                replace hr154 := Tr.trans (Dw := Dw) hr154 ht201
                replace hr181 := Tr.trans (Dw := Dw) hr181 ht201
                replace hB := Nat.le_trans hB ht201.ex.size
                replace hA := ht201.new
                replace hH : Hp w.heap.size A199 w198 (obS (α := Int) 3 v197 x196 :: obC b35 [v123] 24 :: obS (α := Int) 3 v123 s119.2 :: []) := hH200
                refine V_y (Y_assign rfl) rfl rfl rfl ?_
                obtain rfl := Option.some.inj ho179
                refine V_end (fun a ha202 => ?_)
                exact ⟨(v197, A199), ha202.sub ⟨rfl, rfl, rfl, rfl, rfl, rfl, rfl, trivial⟩, ⟨hH, hr181⟩⟩
              · rw [if_neg (nt hc189)] at ho179
                obtain rfl := Option.some.inj ho179
                refine C_skip (fun a ha203 => ?_)
                exact ⟨(v121, A125), ha203.sub ⟨rfl, rfl, rfl, rfl, rfl, rfl, rfl, trivial⟩, ⟨hH, hr181⟩⟩
            rintro ⟨v182, A187⟩ w184 ⟨hH188, hk185⟩ a ha186
            replace h11 := El.tr (Dw := Dw) h11 hk185
            replace h20 := El.tr (Dw := Dw) h20 hk185
            replace h_fixed := Sl.tr (Dw := Dw) h_fixed hk185
            replace hK := Tr.trans (Dw := Dw) hK hk185
            replace hr108 := Tr.trans (Dw := Dw) hr108 hk185
            replace hr138 := Tr.trans (Dw := Dw) hr138 hk185
            replace hr154 := Tr.trans (Dw := Dw) hr154 hk185
            replace hB := Nat.le_trans hB hk185.ex.size
            replace hA := hk185.new
            replace hH : Hp w.heap.size A187 w184 (obS (α := Int) 3 v182 s180 :: obC b35 [v123] 24 :: obS (α := Int) 3 v123 s119.2 :: []) := hH188
            obtain rfl := Option.some.inj ho152
            exact ⟨(v182, v123, A187), ha186.sub ⟨rfl, rfl, rfl, rfl, rfl, rfl, rfl, trivial⟩, ⟨hH, hr154⟩⟩
        rintro ⟨v155, v157, A162⟩ w159 ⟨hH163, hk160⟩ a ha161
        replace h11 := El.tr (Dw := Dw) h11 hk160
        replace h20 := El.tr (Dw := Dw) h20 hk160
        replace h_fixed := Sl.tr (Dw := Dw) h_fixed hk160
        replace hK := Tr.trans (Dw := Dw) hK hk160
        replace hr108 := Tr.trans (Dw := Dw) hr108 hk160
        replace hr138 := Tr.trans (Dw := Dw) hr138 hk160
        replace hB := Nat.le_trans hB hk160.ex.size
        replace hA := hk160.new
        replace hH : Hp w.heap.size A162 w159 (obS (α := Int) 3 v155 s153.1 :: obC b35 [v157] 24 :: obS (α := Int) 3 v157 s153.2 :: []) := hH163
        obtain rfl := Option.some.inj ho136
        exact ⟨(v155, v157, A162), ha161.sub ⟨rfl, rfl, rfl, rfl, rfl, rfl, rfl, trivial⟩, ⟨hH, hr138⟩⟩
      rintro ⟨v139, v141, A146⟩ w143 ⟨hH147, hk144⟩ a ha145
      replace h11 := El.tr (Dw := Dw) h11 hk144
      replace h20 := El.tr (Dw := Dw) h20 hk144
      replace h_fixed := Sl.tr (Dw := Dw) h_fixed hk144
      replace hK := Tr.trans (Dw := Dw) hK hk144
      replace hr108 := Tr.trans (Dw := Dw) hr108 hk144
      replace hB := Nat.le_trans hB hk144.ex.size
      replace hA := hk144.new
      replace hH : Hp w.heap.size A146 w143 (obS (α := Int) 3 v139 s137.1 :: obC b35 [v141] 24 :: obS (α := Int) 3 v141 s137.2 :: []) := hH147
      refine C_at (n := ⟨75, [], none⟩) (fun _ _ => rfl) ?_ ha145
      refine C_region ?_
      refine V_y (Y_addI rfl rfl) rfl rfl rfl ?_
      refine V_y (Y_move rfl) rfl rfl rfl ?_
      obtain rfl := Option.some.inj h128
      refine V_end (fun a ha206 => ?_)
      exact ⟨(s137.1, s137.2), hlt131, h129, ⟨(v139, v141, A146), ha206.sub ⟨rfl, rfl, rfl, rfl, rfl, rfl, (congrArg (fun z => some (Value.int .i64 z)) (w64_succ hlt131 hn134)), trivial⟩, ⟨hH, hr108⟩⟩⟩
    · refine C_exit (fun a ha207 => ?_)
      exact ⟨((s119.1, s119.2), v121, v123, A125), ha207.sub ⟨rfl, rfl, rfl, rfl, trivial⟩, ⟨(h132 (eq_of_dec hle130 hc135)).symm, hH, hr108⟩⟩
  rintro ⟨s107, v113, v115, A117⟩ w110 ⟨rfl, hH118, hk111⟩ a ha112
  rw [Lp.andThen_fin] at hm
  replace h11 := El.tr (Dw := Dw) h11 hk111
  replace h20 := El.tr (Dw := Dw) h20 hk111
  replace hK := Tr.trans (Dw := Dw) hK hk111
  replace hB := Nat.le_trans hB hk111.ex.size
  replace hA := hk111.new
  replace hH : Hp w.heap.size A117 w110 (obS (α := Int) 3 v113 s107.1 :: obC b35 [v115] 24 :: obS (α := Int) 3 v115 s107.2 :: []) := hH118
  refine C_at (n := ⟨75, [], none⟩) (fun _ _ => rfl) ?_ ha112
  refine C_seq ?_
  refine C_region ?_
  obtain ⟨v209, h210, h211⟩ := El.list h11
  refine V_y (Y_load h210 Tryd.isAgg22 rfl) rfl rfl rfl ?_
  refine V_y (Y_lenSl h211 rfl Tryd.underlying22 rfl) rfl rfl rfl ?_
  obtain ⟨x212, hx212, hm⟩ := Option.bind_eq_some_iff.1 hm
  refine V_makeSS (Dw := Dw) (α := Int) (e := 24) (e2 := 3) (ti := Tryd.t24) hH hx212 rfl Tryd.underlying59 Tryd_info24 rfl rfl rfl (by decide) (by decide) hB hA rfl rfl rfl ?_
  intro v213 w214 A215 hH216 ht217
  replace h11 := El.tr (Dw := Dw) h11 ht217
  replace h20 := El.tr (Dw := Dw) h20 ht217
  replace h211 := Sl.tr (Dw := Dw) h211 ht217
  replace hK := Tr.trans (Dw := Dw) hK ht217
  replace hB := Nat.le_trans hB ht217.ex.size
  replace hA := ht217.new
  replace hH : Hp w.heap.size A215 w214 (obSS (α := Int) 24 3 v213 x212 :: obS (α := Int) 3 v113 s107.1 :: obC b35 [v115] 24 :: obS (α := Int) 3 v115 s107.2 :: []) := hH216
  refine V_allocH (Dw := Dw) (B := w.heap.size) hH Tryd.zeroValue59 hB hA rfl ?_
  intro b218 w219 A220 hH221 ht222
  replace h11 := El.tr (Dw := Dw) h11 ht222
  replace h20 := El.tr (Dw := Dw) h20 ht222
  replace h211 := Sl.tr (Dw := Dw) h211 ht222
  replace hK := Tr.trans (Dw := Dw) hK ht222
  replace hB := Nat.le_trans hB ht222.ex.size
  replace hA := ht222.new
  replace hH : Hp w.heap.size A220 w219 (obC b218 [.slice none 0 0] 59 :: obSS (α := Int) 24 3 v213 x212 :: obS (α := Int) 3 v113 s107.1 :: obC b35 [v115] 24 :: obS (α := Int) 3 v115 s107.2 :: []) := hH221
  have h228 : (v213).oneCell' = true := by obtain ⟨_, _, e, _⟩ := Sl.form (Hp.anySS (α := Int) (e := 24) (v := v213) (l := x212) hH (i := 1) rfl); rw [e]; rfl
  refine V_storeC (Dw := Dw) (off := 0) (ds := [v213]) hH (i := 0) rfl Tryd.sizeOf59 (by rw [← Array.length_toList, Value.cells_one h228]; rfl) (Nat.le_of_ble_eq_true rfl) (by intro u hu; rw [Value.cells_one h228] at hu; simp at hu; subst hu; assumption) (by rw [Value.cells_one h228]; rfl) hB hA rfl rfl ?_
  intro w223 hH224 ht225
  replace h11 := El.tr (Dw := Dw) h11 ht225
  replace h20 := El.tr (Dw := Dw) h20 ht225
  replace h211 := Sl.tr (Dw := Dw) h211 ht225
  replace hK := Tr.trans (Dw := Dw) hK ht225
  replace hB := Nat.le_trans hB ht225.ex.size
  replace hA := ht225.new
  replace hH : Hp w.heap.size A220 w223 (obC b218 [v213] 59 :: obSS (α := Int) 24 3 v213 x212 :: obS (α := Int) 3 v113 s107.1 :: obC b35 [v115] 24 :: obS (α := Int) 3 v115 s107.2 :: []) := hH224
  refine V_to (fun _ _ => rfl) ?_
  refine C_seq ?_
  refine C_region ?_
  refine V_alloc Tryd.zeroValue57 rfl ?_
  intro b229 w230 h231
  refine V_to (fun _ _ => rfl) ?_
  refine C_seq ?_
  refine C_region ?_
  refine V_y (Y_makeFunc rfl rfl) rfl rfl rfl ?_
  refine V_storeNew h231 Tryd.sizeOf57 rfl rfl rfl rfl (by simp [Value.cells, Value.oneCell']) ?_
  intro w232 h233
  have hk234 := h233.kp (Dw := Dw)
  have h235 : Vb A220 w232 b229 (.func (.func 35) #[] #[.pointer (some ⟨b7, 0, none⟩), .pointer (some ⟨b35, 0, none⟩), .pointer (some ⟨b17, 0, none⟩), .pointer (some ⟨b218, 0, none⟩), .pointer (some ⟨b229, 0, none⟩)]) := h233.vb hA rfl
  have ht236 := Kp.tr (Dw := Dw) hk234 hA hB
  replace hH := Hp.kp (Dw := Dw) hH hk234
  replace h11 := El.tr (Dw := Dw) h11 ht236
  replace h20 := El.tr (Dw := Dw) h20 ht236
  replace hK := Tr.trans (Dw := Dw) hK ht236
  replace hB := Nat.le_trans hB ht236.ex.size
  replace hA := ht236.new
  refine V_to (fun _ _ => rfl) ?_
  refine C_seq ?_
  refine C_seq ?_
  refine C_region ?_
  refine V_y (Y_load (Hp.cell (j := 0) hH (i := 3) rfl rfl) Tryd.isAgg24 rfl) rfl rfl rfl ?_
  obtain ⟨x238, hx238, hm⟩ := Option.bind_eq_some_iff.1 hm
  refine V_call Tryd.call36 rfl rfl rfl rfl (slices_ContainsFunc_Lint_int_c (Dw := Dw) w232 (A := fun _ => True) (fun _ _ => trivial) s107.2 v115 (Hp.any (α := Int) (e := 3) (v := v115) (l := s107.2) hH (i := 4) rfl) (fun y246 => some (portref2_fits_2 y246)) 37 #[] #[] Tryd.call37 (fun w242 A243 ht244 h245 y239 r240 h241 => (portref2_fits_2_c w242  y239 ).mono (fun _ _ h => ⟨h.1.trans (by rw [← Option.some.inj h241]), h.2 ▸ Kp.refl (Dw := Dw) _⟩)) hx238) ?_
  rintro _ w247 ⟨rfl, hk248⟩
  have ht249 := Kp.tr (Dw := Dw) hk248 hA hB
  replace hH := Hp.kp (Dw := Dw) hH hk248
  replace h11 := El.tr (Dw := Dw) h11 ht249
  replace h235 := Vb.tr (Dw := Dw) h235 ht249
  replace h20 := El.tr (Dw := Dw) h20 ht249
  replace hK := Tr.trans (Dw := Dw) hK ht249
  replace hB := Nat.le_trans hB ht249.ex.size
  replace hA := ht249.new
  refine V_to (fun _ _ => rfl) ?_
  refine C_cond rfl (fun hc250 => ?_) (fun hc250 => ?_)
  · rw [if_pos hc250] at hm
    refine C_seq ?_
    refine C_region ?_
    refine V_y (Y_assign rfl) rfl rfl rfl ?_
    refine V_to (fun _ _ => rfl) ?_
    obtain rfl := Option.some.inj hm
    refine C_ret ?_
    try simp only [↓inBlock_ret, ↓then_ret]
    exact retQ rfl (Res.one Tryd.results18 rfl) ⟨rfl, hK.kp⟩
  · rw [if_neg (nt hc250)] at hm
    refine C_skip_to (fun _ _ => rfl) ?_
    refine C_seq ?_
    refine C_seq ?_
    refine C_region ?_
    refine V_y (Y_move rfl) rfl rfl rfl ?_
    refine V_y (Y_lenSl (Hp.any (α := Int) (e := 3) (v := v113) (l := s107.1) hH (i := 2) rfl) rfl Tryd.underlying24 rfl) rfl rfl rfl ?_
    refine V_y (Y_move rfl) rfl rfl rfl ?_
    refine V_to (fun _ _ => rfl) ?_
    have hn275 := Hp.le (α := Int) (e := 3) (v := v113) (l := s107.1) hH (i := 2) rfl
    obtain ⟨o251, ho251, hm⟩ := Option.bind_eq_some_iff.1 hm
    refine C_cutG (ι := ((List (List Int)) × Value × (Nat → Prop))) (fun ⟨s252, v258, A260⟩ => []) (fun ⟨s252, v258, A260⟩ => fun w' => o251 = .fin s252 ∧ Hp w.heap.size A260 w' (obC b218 [v258] 59 :: obSS (α := Int) 24 3 v258 s252 :: obS (α := Int) 3 v113 s107.1 :: obC b35 [v115] 24 :: obS (α := Int) 3 v115 s107.2 :: []) ∧ Tr Dw w.heap.size A220 w247 A260 w') ?_ ?_
    · refine C_block ?_
      refine C_range ho251 (fun k254 s262 a w' => ∃ i : (Value × (Nat → Prop)), Has ⟨75, [], none⟩ a ([(3, .pointer (some ⟨b7, 0, none⟩)), (14, .pointer (some ⟨b229, 0, none⟩)), (61, v113), (62, .int .i64 (s107.1.length : Int)), (63, .int .i64 (k254 : Int))]) ∧ Hp w.heap.size i.2 w' (obC b218 [i.1] 59 :: obSS (α := Int) 24 3 i.1 s262 :: obS (α := Int) 3 v113 s107.1 :: obC b35 [v115] 24 :: obS (α := Int) 3 v115 s107.2 :: []) ∧ Tr Dw w.heap.size A220 w247 i.2 w') (fun a ha => ⟨(v213, A220), ha.sub ⟨rfl, rfl, rfl, rfl, rfl, trivial⟩, ⟨hH, Tr.refl (Dw := Dw) hA⟩⟩) ?_
      rintro K k254 s262 a w263 ⟨⟨v264, A266⟩, ha307, hH267, hr253⟩ hle271 K274 h273
      refine C_of ?_ ha307
      replace h11 := El.tr (Dw := Dw) h11 hr253
      replace h235 := Vb.tr (Dw := Dw) h235 hr253
      replace h20 := El.tr (Dw := Dw) h20 hr253
      replace hK := Tr.trans (Dw := Dw) hK hr253
      replace hB := Nat.le_trans hB hr253.ex.size
      replace hA := hr253.new
      replace hH : Hp w.heap.size A266 w263 (obC b218 [v264] 59 :: obSS (α := Int) 24 3 v264 s262 :: obS (α := Int) 3 v113 s107.1 :: obC b35 [v115] 24 :: obS (α := Int) 3 v115 s107.2 :: []) := hH267
      refine C_seq (C_region (V_y (Y_lss rfl rfl) rfl rfl rfl (V_to (fun _ _ => rfl) ?_)))
      refine C_seq ?_
      refine C_cond rfl (fun hc276 => ?_) (fun hc276 => ?_)
      · have hlt272 := lt_of_dec hc276
        obtain ⟨x268, h269, h270⟩ := K274 hlt272
        refine C_skip_to (fun _ _ => rfl) ?_
        refine C_seq ?_
        refine C_block ?_
        refine C_seq ?_
        refine C_region ?_
        obtain ⟨x277, hx277, h269⟩ := Option.bind_eq_some_iff.1 h269
        refine V_indexAddrH (α := Int) (e := 3) (v := v113) (l := s107.1) hH (i := 2) rfl hx277 Tryd.underlying24 Tryd.sizeOf3 rfl rfl rfl ?_
        intro b278 o279 h280 hl281
        refine V_y (Y_load (El.int h280) Tryd.isAgg3 rfl) rfl rfl rfl ?_
        refine V_y (Y_assign rfl) rfl rfl rfl ?_
        refine V_to (fun _ _ => rfl) ?_
        refine C_seq ?_
        refine C_region_ch (Dw := Dw) A266 7 [(1, 0), (1, 1), (1, 2), (1, 3), (2, 4), (4, 5), (1, 6)] Tryd_mixed (by kernel_rfl) (fun w282 hk283 => ?_)
        have ht284 := Kp.tr (Dw := Dw) hk283 hA hB
        replace hH := Hp.kp (Dw := Dw) hH hk283
        replace h11 := El.tr (Dw := Dw) h11 ht284
        replace h235 := Vb.tr (Dw := Dw) h235 ht284
        replace h20 := El.tr (Dw := Dw) h20 ht284
        replace hK := Tr.trans (Dw := Dw) hK ht284
        replace hr253 := Tr.trans (Dw := Dw) hr253 ht284
        replace hB := Nat.le_trans hB ht284.ex.size
        replace hA := ht284.new
        refine CH_q2 (Dw := Dw) rfl ?_
        refine VQ_y (fun w' hw' => Y_load (((World.cell?_of_block (hw'.2 _ h235.2.1 h235.1)).trans h235.2.2)) Tryd.isAgg57 rfl) rfl rfl rfl ?_
        refine VQ_CH (Dw := Dw) ?_
        refine CH_q2 (Dw := Dw) rfl ?_
        refine VQ_y (fun w' hw' => Y_move rfl) rfl rfl rfl ?_
        refine VQ_CH (Dw := Dw) ?_
        refine CH_q2 (Dw := Dw) rfl ?_
        obtain ⟨v285, h286, h287⟩ := El.list h11
        refine VQ_y (fun w' hw' => Y_load ((World.cell?_of_block (hw'.2 _ h11.2.1 h11.1)).trans h286) Tryd.isAgg22 rfl) rfl rfl rfl ?_
        refine VQ_CH (Dw := Dw) ?_
        refine CH_q2 (Dw := Dw) rfl ?_
        refine VQ_y (fun w' hw' => Y_lenSl h287 rfl Tryd.underlying22 rfl) rfl rfl rfl ?_
        refine VQ_CH (Dw := Dw) ?_
        refine CH_l1 (Dw := Dw) (k := 0) rfl ?_
        obtain ⟨x288, hx288, h269⟩ := Option.bind_eq_some_iff.1 h269
        refine V_makeH (Dw := Dw) (B := w282.heap.size) (L := []) (e := 4) (ti := Tryd.t4) Hp.nil hx288 (fun _ _ => rfl) Tryd.underlying39 Tryd_info4 rfl rfl rfl (by decide) (by decide) (Nat.le_refl _) hA rfl rfl rfl ?_
        intro v289 w290 A291 hH292 ht293
        have hk294 : Kp Dw w282 w290 := ht293.below
        have hH295 := Hp.join (Dw := Dw) hH hB ht293 hH292
        have ht296 := Tr.lower (Dw := Dw) ht293 hB
        replace h11 := El.tr (Dw := Dw) h11 ht296
        replace h235 := Vb.tr (Dw := Dw) h235 ht296
        replace h20 := El.tr (Dw := Dw) h20 ht296
        replace h287 := Sl.tr (Dw := Dw) h287 ht296
        replace hK := Tr.trans (Dw := Dw) hK ht296
        replace hr253 := Tr.trans (Dw := Dw) hr253 ht296
        replace hB := Nat.le_trans hB ht296.ex.size
        replace hA := ht296.new
        replace hH : Hp w.heap.size A291 w290 (obS (α := Bool) 4 v289 x288 :: obC b218 [v264] 59 :: obSS (α := Int) 24 3 v264 s262 :: obS (α := Int) 3 v113 s107.1 :: obC b35 [v115] 24 :: obS (α := Int) 3 v115 s107.2 :: []) := hH295
        refine V_CH (Dw := Dw) (hk294) ?_
        refine CH_l1 (Dw := Dw) (k := 2) rfl ?_
        replace hH : Hp w.heap.size A291 w290 (obSS (α := Int) 24 3 v264 s262 :: obS (α := Bool) 4 v289 x288 :: obC b218 [v264] 59 :: obS (α := Int) 3 v113 s107.1 :: obC b35 [v115] 24 :: obS (α := Int) 3 v115 s107.2 :: []) := Hp.front hH (i := 2) rfl
        replace hH : Hp w.heap.size A291 w290 (obC b218 [v264] 59 :: obSS (α := Int) 24 3 v264 s262 :: obS (α := Bool) 4 v289 x288 :: obS (α := Int) 3 v113 s107.1 :: obC b35 [v115] 24 :: obS (α := Int) 3 v115 s107.2 :: []) := Hp.front hH (i := 2) rfl
        replace hH : Hp w.heap.size A291 w290 (obS (α := Int) 3 v115 s107.2 :: obC b218 [v264] 59 :: obSS (α := Int) 24 3 v264 s262 :: obS (α := Bool) 4 v289 x288 :: obS (α := Int) 3 v113 s107.1 :: obC b35 [v115] 24 :: []) := Hp.front hH (i := 5) rfl
        replace hH : Hp w.heap.size A291 w290 (obC b35 [v115] 24 :: obS (α := Int) 3 v115 s107.2 :: obC b218 [v264] 59 :: obSS (α := Int) 24 3 v264 s262 :: obS (α := Bool) 4 v289 x288 :: obS (α := Int) 3 v113 s107.1 :: []) := Hp.front hH (i := 5) rfl
        replace hH : Hp w.heap.size A291 w290 (obS (α := Bool) 4 v289 x288 :: obC b35 [v115] 24 :: obS (α := Int) 3 v115 s107.2 :: obC b218 [v264] 59 :: obSS (α := Int) 24 3 v264 s262 :: obS (α := Int) 3 v113 s107.1 :: []) := Hp.front hH (i := 4) rfl
        obtain ⟨x297, hx297, h269⟩ := Option.bind_eq_some_iff.1 h269
        refine V_call Tryd.call35 rfl rfl rfl rfl (portref2_fits_1_c (Dw := Dw) w290 hB hA x277 x288 v289 people b7 h11 s107.2 b35 v115 l b17 h20 s262 b218 v264 b229 h235 hH hx297) ?_
        rintro _ w300 ⟨A301, rfl, hH302, ht303⟩
        replace h11 := El.tr (Dw := Dw) h11 ht303
        replace h235 := Vb.tr (Dw := Dw) h235 ht303
        replace h20 := El.tr (Dw := Dw) h20 ht303
        replace h287 := Sl.tr (Dw := Dw) h287 ht303
        replace hK := Tr.trans (Dw := Dw) hK ht303
        replace hr253 := Tr.trans (Dw := Dw) hr253 ht303
        replace hB := Nat.le_trans hB ht303.ex.size
        replace hA := ht303.new
        replace hH : Hp w.heap.size A301 w300 (obS (α := Bool) 4 v289 x297.2.1 :: obC b35 [v115] 24 :: obS (α := Int) 3 v115 s107.2 :: obC b218 [v264] 59 :: obSS (α := Int) 24 3 v264 x297.2.2 :: obS (α := Int) 3 v113 s107.1 :: []) := hH302
        refine V_CHw (Dw := Dw) ?_
        refine CH_q2 (Dw := Dw) rfl ?_
        refine VQ_y (fun w' hw' => Y_not rfl) rfl rfl rfl ?_
        refine VQ_CH (Dw := Dw) ?_
        refine CH_tail (Dw := Dw) ?_
        show V _ _ _ _ [] _ _
        refine V_to (fun _ _ => rfl) ?_
        refine C_cond rfl (fun hc304 => ?_) (fun hc304 => ?_)
        · rw [if_pos hc304] at h269
          refine C_seq ?_
          refine C_region ?_
          refine V_y (Y_assign rfl) rfl rfl rfl ?_
          refine V_to (fun _ _ => rfl) ?_
          obtain rfl := Option.some.inj h269
          obtain rfl := (h270 : Lp.rt _ = _)
          rw [Lp.andThen_rt] at hm
          obtain rfl := Option.some.inj hm
          refine C_ret ?_
          try simp only [↓inBlock_ret, ↓then_ret]
          exact retQ rfl (Res.one Tryd.results18 rfl) ⟨rfl, hK.kp⟩
        · rw [if_neg (nt hc304)] at h269
          refine C_skip_to (fun _ _ => rfl) ?_
          refine C_region ?_
          refine V_y (Y_addI rfl rfl) rfl rfl rfl ?_
          refine V_y (Y_move rfl) rfl rfl rfl ?_
          obtain rfl := Option.some.inj h269
          refine V_end (fun a ha305 => ?_)
          replace hH : Hp w.heap.size A301 w300 (obS (α := Int) 3 v115 s107.2 :: obS (α := Bool) 4 v289 x297.2.1 :: obC b35 [v115] 24 :: obC b218 [v264] 59 :: obSS (α := Int) 24 3 v264 x297.2.2 :: obS (α := Int) 3 v113 s107.1 :: []) := Hp.front hH (i := 2) rfl
          replace hH : Hp w.heap.size A301 w300 (obC b35 [v115] 24 :: obS (α := Int) 3 v115 s107.2 :: obS (α := Bool) 4 v289 x297.2.1 :: obC b218 [v264] 59 :: obSS (α := Int) 24 3 v264 x297.2.2 :: obS (α := Int) 3 v113 s107.1 :: []) := Hp.front hH (i := 2) rfl
          replace hH : Hp w.heap.size A301 w300 (obS (α := Int) 3 v113 s107.1 :: obC b35 [v115] 24 :: obS (α := Int) 3 v115 s107.2 :: obS (α := Bool) 4 v289 x297.2.1 :: obC b218 [v264] 59 :: obSS (α := Int) 24 3 v264 x297.2.2 :: []) := Hp.front hH (i := 5) rfl
          replace hH : Hp w.heap.size A301 w300 (obSS (α := Int) 24 3 v264 x297.2.2 :: obS (α := Int) 3 v113 s107.1 :: obC b35 [v115] 24 :: obS (α := Int) 3 v115 s107.2 :: obS (α := Bool) 4 v289 x297.2.1 :: obC b218 [v264] 59 :: []) := Hp.front hH (i := 5) rfl
          replace hH : Hp w.heap.size A301 w300 (obC b218 [v264] 59 :: obSS (α := Int) 24 3 v264 x297.2.2 :: obS (α := Int) 3 v113 s107.1 :: obC b35 [v115] 24 :: obS (α := Int) 3 v115 s107.2 :: obS (α := Bool) 4 v289 x297.2.1 :: []) := Hp.front hH (i := 5) rfl
          replace hH : Hp w.heap.size A301 w300 (obC b218 [v264] 59 :: obSS (α := Int) 24 3 v264 x297.2.2 :: obS (α := Int) 3 v113 s107.1 :: obC b35 [v115] 24 :: obS (α := Int) 3 v115 s107.2 :: []) := Hp.drop hH (i := 5) rfl
          exact ⟨x297.2.2, hlt272, h270, ⟨(v264, A301), ha305.sub ⟨rfl, rfl, rfl, rfl, (congrArg (fun z => some (Value.int .i64 z)) (w64_succ hlt272 hn275)), trivial⟩, ⟨hH, hr253⟩⟩⟩
      · refine C_exit (fun a ha306 => ?_)
        exact ⟨(s262, v264, A266), ha306.sub trivial, ⟨(h273 (eq_of_dec hle271 hc276)).symm, hH, hr253⟩⟩
    rintro ⟨s252, v258, A260⟩ w255 ⟨rfl, hH261, hk256⟩ a ha257
    rw [Lp.andThen_fin] at hm
    replace hK := Tr.trans (Dw := Dw) hK hk256
    replace hB := Nat.le_trans hB hk256.ex.size
    replace hA := hk256.new
    replace hH : Hp w.heap.size A260 w255 (obC b218 [v258] 59 :: obSS (α := Int) 24 3 v258 s252 :: obS (α := Int) 3 v113 s107.1 :: obC b35 [v115] 24 :: obS (α := Int) 3 v115 s107.2 :: []) := hH261
    refine C_at (n := ⟨75, [], none⟩) (fun _ _ => rfl) ?_ ha257
    refine C_seq ?_
    refine C_region ?_
    refine V_y (Y_assign rfl) rfl rfl rfl ?_
    refine V_to (fun _ _ => rfl) ?_
    obtain rfl := Option.some.inj hm
    refine C_ret ?_
    try simp only [↓inBlock_ret, ↓then_ret]
    exact retQ rfl (Res.one Tryd.results18 rfl) ⟨rfl, hK.kp⟩

end Go.Proofs.YtgmenjhmnjhgoaaDoor.W
