/-
  Written by program (gen.py) from the IR of the dump: each function computes its model.
-/
import Derived.Test.YtnjlojicebcikaaGreatClockSharesW0
namespace Go.Proofs.YtnjlojicebcikaaGreat.W
open Go Go.RowKit Go.Pu Go.Gw Go.Proofs Go.Proofs.YtnjlojicebcikaaGreat.M
set_option linter.unusedVariables false
set_option linter.unusedSimpArgs false
variable {Dw : Prop}

set_option maxRecDepth 4000 in
set_option maxHeartbeats 4000000 in
theorem cmp_Or_api_Errno_c (w : World) {A : Nat → Prop} (vals : (List Int)) (v_vals : Value) (h_vals : Sl A w v_vals vals) {r : Int} (hm : cmp_Or_api_Errno vals = some r) : Ret Tryz.prog 9 #[v_vals] w fun v w' => v = .int .i64 r ∧ w = w' := by
  unfold cmp_Or_api_Errno at hm
  refine enter Tryz.func9 rfl Tryz.ntmps9 rfl ?_
  refine C_seq ?_
  refine C_region ?_
  refine V_as rfl rfl ?_
  refine V_to (fun _ _ => rfl) ?_
  refine C_seq ?_
  refine C_region ?_
  refine V_as rfl rfl ?_
  refine V_to (fun _ _ => rfl) ?_
  refine C_seq ?_
  refine C_seq ?_
  refine C_region ?_
  refine V_mv rfl rfl ?_
  refine V_y (Y_lenSl h_vals rfl Tryz.underlying58 rfl) rfl rfl rfl ?_
  refine V_mv rfl rfl ?_
  refine V_to (fun _ _ => rfl) ?_
  have hn19 := Sl.le h_vals
  obtain ⟨o3, ho3, hm⟩ := Option.bind_eq_some_iff.1 hm
  refine C_cutG (ι := Unit) (fun (s4 : Unit) => [(3, .int .i64 0)]) (fun (s4 : Unit) => fun w' => o3 = .fin s4 ∧ w = w') ?_ ?_
  · refine C_block ?_
    refine C_range ho3 (fun k6 _ a w' => ∃ i : Unit, Has ⟨18, [], none⟩ a ([(3, .int .i64 0), (6, v_vals), (7, .int .i64 (vals.length : Int)), (8, .int .i64 (k6 : Int))]) ∧ w = w') (fun a ha => ⟨(), ha.sub ⟨rfl, rfl, rfl, rfl, trivial⟩, rfl⟩) ?_
    rintro K k6 _ a _ ⟨_, ha28, rfl⟩ hle15 K18 h17
    refine C_of ?_ ha28
    refine C_seq (C_region (V_y (Y_lss rfl rfl) rfl rfl rfl (V_to (fun _ _ => rfl) ?_)))
    refine C_seq ?_
    refine C_cond rfl (fun hc20 => ?_) (fun hc20 => ?_)
    · have hlt16 := lt_of_dec hc20
      obtain ⟨x12, h13, h14⟩ := K18 hlt16
      refine C_skip_to (fun _ _ => rfl) ?_
      refine C_seq ?_
      refine C_block ?_
      refine C_seq ?_
      refine C_region ?_
      obtain ⟨x21, hx21, h13⟩ := Option.bind_eq_some_iff.1 h13
      refine V_indexAddr h_vals hx21 Tryz.underlying58 Tryz.sizeOf25 rfl rfl rfl ?_
      intro b22 o23 h24
      refine V_y (Y_load (El.int h24) Tryz.isAgg25 rfl) rfl rfl rfl ?_
      refine V_as rfl rfl ?_
      refine V_to (fun _ _ => rfl) ?_
      refine C_seq ?_
      refine C_region ?_
      refine V_mv rfl rfl ?_
      refine V_mv rfl rfl ?_
      refine V_y (Y_neq rfl rfl) rfl rfl rfl ?_
      refine V_to (fun _ _ => rfl) ?_
      refine C_cond rfl (fun hc25 => ?_) (fun hc25 => ?_)
      · rw [if_pos hc25] at h13
        refine C_seq ?_
        refine C_region ?_
        refine V_mv rfl rfl ?_
        refine V_as rfl rfl ?_
        refine V_to (fun _ _ => rfl) ?_
        obtain rfl := Option.some.inj h13
        obtain rfl := (h14 : Lp.rt _ = _)
        rw [Lp.andThen_rt] at hm
        obtain rfl := Option.some.inj hm
        refine C_ret ?_
        try simp only [↓inBlock_ret, ↓then_ret]
        exact retQ rfl (Res.one Tryz.results9 rfl) ⟨rfl, rfl⟩
      · rw [if_neg (nt hc25)] at h13
        refine C_skip_to (fun _ _ => rfl) ?_
        refine C_region ?_
        refine V_y (Y_addI rfl rfl) rfl rfl rfl ?_
        refine V_mv rfl rfl ?_
        obtain rfl := Option.some.inj h13
        refine V_end (fun a ha26 => ?_)
        exact ⟨(), hlt16, h14, ⟨(), ha26.sub ⟨rfl, rfl, rfl, (congrArg (fun z => some (Value.int .i64 z)) (w64_succ hlt16 hn19)), trivial⟩, rfl⟩⟩
    · refine C_exit (fun a ha27 => ?_)
      exact ⟨(), ha27.sub ⟨rfl, trivial⟩, ⟨(h17 (eq_of_dec hle15 hc20)).symm, rfl⟩⟩
  rintro s4 _ ⟨rfl, rfl⟩ a ha9
  rw [Lp.andThen_fin] at hm
  refine C_at (n := ⟨18, [], none⟩) (fun _ _ => rfl) ?_ ha9
  refine C_seq ?_
  refine C_region ?_
  refine V_mv rfl rfl ?_
  refine V_as rfl rfl ?_
  refine V_to (fun _ _ => rfl) ?_
  obtain rfl := Option.some.inj hm
  refine C_ret ?_
  try simp only [↓inBlock_ret, ↓then_ret]
  exact retQ rfl (Res.one Tryz.results9 rfl) ⟨rfl, rfl⟩

set_option maxRecDepth 4000 in
set_option maxHeartbeats 4000000 in
theorem slices_BinarySearchFunc_Llevel_Share_level_Share_level_Clock_c (w : World) {A : Nat → Prop} (hA : ∀ b, w.heap.size ≤ b → A b) (x : (List level_Share)) (v_x : Value) (h_x : Sl A w v_x x) (target : level_Clock) (v_target : Value) (h_target : Sl A w v_target target.pieces) (cmp : level_Share → level_Clock → Option Int) (cmp_f : FuncId) (cmp_a cmp_c : Array Value) (cmp_call : ∀ (args : Array Value) (w : World), (callFunc cmp_f args).run Tryz.prog w = .ok (.enter cmp_f args) w) (cmp_spec : ∀ (w1 : World) (A1 : Nat → Prop), Tr Dw w.heap.size A w A1 w1 → (∀ b, w1.heap.size ≤ b → A1 b) → ∀ (y0 : level_Share) (y1 : level_Clock) (v1 : Value) (h2 : Sl A1 w1 v1 y1.pieces) (r : Int), cmp y0 y1 = some r → Ret Tryz.prog cmp_f (cmp_a ++ #[.agg #[.int .i64 y0.level, .int .i64 y0.kind, .int .i64 y0.running, .int .i64 y0.kept, .int .i64 y0.broken, .int .i64 y0.gone], .agg #[.int .i64 y1.kind, .int .i64 y1.level, .int .i64 y1.minutes, .int .i64 y1.start, .int .i64 y1.stop, .int .i64 y1.end_, v1]] ++ cmp_c) w1 fun v w' => v = .int .i64 r ∧ Kp Dw w1 w') {r : (Int × Bool)} (hm : slices_BinarySearchFunc_Llevel_Share_level_Share_level_Clock x target cmp = some r) : Ret Tryz.prog 12 #[v_x, .agg #[.int .i64 target.kind, .int .i64 target.level, .int .i64 target.minutes, .int .i64 target.start, .int .i64 target.stop, .int .i64 target.end_, v_target], .func (.func cmp_f) cmp_a cmp_c] w fun v w' => v = .tuple #[.int .i64 r.1, .bool r.2] ∧ Kp Dw w w' := by
  unfold slices_BinarySearchFunc_Llevel_Share_level_Share_level_Clock at hm
  refine enter Tryz.func12 rfl Tryz.ntmps12 rfl ?_
  have hA0 := hA
  have hB := Nat.le_refl w.heap.size
  have hK : Tr Dw w.heap.size A w A w := Tr.refl (Dw := Dw) hA
  have hH : Hp w.heap.size A w [] := Hp.nil
  refine C_seq ?_
  refine C_region ?_
  refine V_box rfl rfl ?_
  intro b5 w6 h7
  have hk9 := h7.kp (Dw := Dw)
  have h8 : El (α := level_Clock) A w6 b5 0 target := h7.el hA ⟨[.int .i64 target.kind], _, rfl, rfl, ⟨[.int .i64 target.level], _, rfl, rfl, ⟨[.int .i64 target.minutes], _, rfl, rfl, ⟨[.int .i64 target.start], _, rfl, rfl, ⟨[.int .i64 target.stop], _, rfl, rfl, ⟨[.int .i64 target.end_], _, rfl, rfl, ⟨_, rfl, h_target⟩⟩⟩⟩⟩⟩⟩
  have ht10 := Kp.tr hk9 hA hB
  replace hH := Hp.kp hH hk9
  replace h_x := Sl.tr h_x ht10
  replace h_target := Sl.tr h_target ht10
  replace hK := Tr.trans hK ht10
  replace hB := Nat.le_trans hB ht10.ex.size
  replace hA := ht10.new
  refine V_as rfl rfl ?_
  refine V_as rfl rfl ?_
  refine V_to (fun _ _ => rfl) ?_
  refine C_seq ?_
  refine C_region ?_
  refine V_mv rfl rfl ?_
  refine V_y (Y_lenSl h_x rfl Tryz.underlying24 rfl) rfl rfl rfl ?_
  refine V_as rfl rfl ?_
  refine V_to (fun _ _ => rfl) ?_
  refine C_seq ?_
  refine C_region ?_
  refine V_mv rfl rfl ?_
  refine V_as rfl rfl ?_
  refine V_as rfl rfl ?_
  refine V_to (fun _ _ => rfl) ?_
  refine C_seq ?_
  obtain ⟨o11, ho11, hm⟩ := Option.bind_eq_some_iff.1 hm
  refine C_cutG (ι := ((Int × Int) × (Nat → Prop))) (fun ⟨s12, A18⟩ => [(0, v_x), (2, .func (.func cmp_f) cmp_a cmp_c), (4, .pointer (some ⟨b5, 0, none⟩)), (8, .int .i64 (x.length : Int)), (9, .int .i64 s12.1)]) (fun ⟨s12, A18⟩ => fun w' => o11 = .fin s12 ∧ Hp w.heap.size A18 w' ([]) ∧ Tr Dw w.heap.size A w6 A18 w') ?_ ?_
  · refine C_block ?_
    refine C_while ho11 (fun s20 a w' => ∃ i : (Nat → Prop), Has ⟨49, [], none⟩ a ([(0, v_x), (2, .func (.func cmp_f) cmp_a cmp_c), (4, .pointer (some ⟨b5, 0, none⟩)), (8, .int .i64 (x.length : Int)), (9, .int .i64 s20.1), (10, .int .i64 s20.2)]) ∧ Hp w.heap.size i w' ([]) ∧ Tr Dw w.heap.size A w6 i w') (fun a ha => ⟨A, ha.sub ⟨rfl, rfl, rfl, rfl, rfl, rfl, trivial⟩, ⟨hH, Tr.refl (Dw := Dw) hA⟩⟩) ?_
    rintro K s20 a w21 ⟨A22, ha65, hH23, hr13⟩ K30
    refine C_of ?_ ha65
    replace h_x := Sl.tr h_x hr13
    replace h8 := El.tr h8 hr13
    replace hK := Tr.trans hK hr13
    replace hB := Nat.le_trans hB hr13.ex.size
    replace hA := hr13.new
    replace hH : Hp w.heap.size A22 w21 ([]) := hH23
    obtain ⟨x24, h25, h26⟩ := K30
    refine C_seq ?_
    refine C_seq ?_
    refine C_region ?_
    refine V_mv rfl rfl ?_
    refine V_mv rfl rfl ?_
    refine V_y (Y_lss rfl rfl) rfl rfl rfl ?_
    refine V_to (fun _ _ => rfl) ?_
    refine C_cond rfl (fun hc31 => ?_) (fun hc31 => ?_)
    · rw [if_pos hc31] at h25
      refine C_skip_to (fun _ _ => rfl) ?_
      obtain ⟨s33, ho32, h25⟩ := Option.bind_eq_some_iff.1 h25
      refine C_cutG (ι := (Nat → Prop)) (fun (A38 : (Nat → Prop)) => [(0, v_x), (2, .func (.func cmp_f) cmp_a cmp_c), (4, .pointer (some ⟨b5, 0, none⟩)), (8, .int .i64 (x.length : Int)), (9, .int .i64 s33.1), (10, .int .i64 s33.2)]) (fun (A38 : (Nat → Prop)) => fun w' => Hp w.heap.size A38 w' ([]) ∧ Tr Dw w.heap.size A22 w21 A38 w') ?_ ?_
      · have hr34 : Tr Dw w.heap.size A22 w21 A22 w21 := Tr.refl (Dw := Dw) hA
        refine C_block ?_
        refine C_seq ?_
        refine C_region ?_
        refine V_mv rfl rfl ?_
        refine V_mv rfl rfl ?_
        refine V_y (Y_addI rfl rfl) rfl rfl rfl ?_
        refine V_y (Y_convI Tryz.underlying3 Tryz.underlying72 rfl) rfl rfl rfl ?_
        obtain ⟨x40, hx40, ho32⟩ := Option.bind_eq_some_iff.1 ho32
        refine V_y (Y_shr hx40 rfl rfl) rfl rfl rfl ?_
        refine V_y (Y_convI Tryz.underlying72 Tryz.underlying3 rfl) rfl rfl rfl ?_
        refine V_as rfl rfl ?_
        refine V_to (fun _ _ => rfl) ?_
        refine C_seq ?_
        refine C_region_q (Dw := Dw) Tryz_mixed (by kernel_rfl) ?_
        refine VQ_y (fun w' hw' => Y_move rfl) rfl rfl rfl ?_
        refine VQ_y (fun w' hw' => Y_move rfl) rfl rfl rfl ?_
        refine VQ_y (fun w' hw' => Y_move rfl) rfl rfl rfl ?_
        obtain ⟨x41, hx41, ho32⟩ := Option.bind_eq_some_iff.1 ho32
        refine VQ_indexAddr h_x hx41 Tryz.underlying24 Tryz.sizeOf32 rfl rfl rfl ?_
        intro b42 o43 h44
        obtain ⟨h45, _⟩ := El_level_Share h44
        refine VQ_y (fun w' hw' => Y_loadA (At.kp (Dw := Dw) h45 hw' h44.2.1) Tryz.isAgg32 Tryz.sizeOf32 rfl) rfl rfl rfl ?_
        obtain ⟨v46, h48, h47⟩ := El_level_Clock h8
        refine VQ_y (fun w' hw' => Y_loadA (At.kp (Dw := Dw) h48 hw' h8.2.1) Tryz.isAgg39 Tryz.sizeOf39 rfl) rfl rfl rfl ?_
        obtain ⟨x49, hx49, ho32⟩ := Option.bind_eq_some_iff.1 ho32
        refine VQ_call (.int .i64 x49) cmp_call rfl rfl rfl rfl (fun w' hw' => (cmp_spec w' _ (Tr.trans hK (Kp.tr (Dw := Dw) hw' hA hB)) (fun b hb => hA b (Nat.le_trans hw'.size hb)) x41 target v46 (Sl.kp (Dw := Dw) h47 hw') _ hx49).mono fun _ _ h => ⟨h.1, Kp.trans (Dw := Dw) hw' h.2⟩) ?_
        refine VQ_y (fun w' hw' => Y_lss rfl rfl) rfl rfl rfl ?_
        refine VQ_to (fun _ _ => rfl) (fun w50 hk51 => ?_)
        have ht52 := Kp.tr hk51 hA hB
        replace hH := Hp.kp hH hk51
        replace h_x := Sl.tr h_x ht52
        replace h8 := El.tr h8 ht52
        replace hK := Tr.trans hK ht52
        replace hr13 := Tr.trans hr13 ht52
        replace hr34 := Tr.trans hr34 ht52
        replace hB := Nat.le_trans hB ht52.ex.size
        replace hA := ht52.new
        obtain ⟨s54, ho53, ho32⟩ := Option.bind_eq_some_iff.1 ho32
        refine C_cutG (ι := Unit) (fun (_ : Unit) => [(0, v_x), (2, .func (.func cmp_f) cmp_a cmp_c), (4, .pointer (some ⟨b5, 0, none⟩)), (8, .int .i64 (x.length : Int)), (9, .int .i64 s54.1), (10, .int .i64 s54.2)]) (fun (_ : Unit) => fun w' => w50 = w') ?_ ?_
        · refine C_cond rfl (fun hc59 => ?_) (fun hc59 => ?_)
          · rw [if_pos hc59] at ho53
            refine C_region ?_
            refine V_mv rfl rfl ?_
            refine V_y (Y_addI rfl rfl) rfl rfl rfl ?_
            refine V_as rfl rfl ?_
            obtain rfl := Option.some.inj ho53
            refine V_end (fun a ha60 => ?_)
            exact ⟨(), ha60.sub ⟨rfl, rfl, rfl, rfl, rfl, rfl, trivial⟩, rfl⟩
          · rw [if_neg (nt hc59)] at ho53
            refine C_region ?_
            refine V_mv rfl rfl ?_
            refine V_as rfl rfl ?_
            obtain rfl := Option.some.inj ho53
            refine V_end (fun a ha61 => ?_)
            exact ⟨(), ha61.sub ⟨rfl, rfl, rfl, rfl, rfl, rfl, trivial⟩, rfl⟩
        rintro _ _ rfl a ha58
        obtain rfl := Option.some.inj ho32
        exact ⟨A22, ha58.sub ⟨rfl, rfl, rfl, rfl, rfl, rfl, trivial⟩, ⟨hH, hr34⟩⟩
      rintro A38 w35 ⟨hH39, hk36⟩ a ha37
      replace h_x := Sl.tr h_x hk36
      replace h8 := El.tr h8 hk36
      replace hK := Tr.trans hK hk36
      replace hr13 := Tr.trans hr13 hk36
      replace hB := Nat.le_trans hB hk36.ex.size
      replace hA := hk36.new
      replace hH : Hp w.heap.size A38 w35 ([]) := hH39
      obtain rfl := Option.some.inj h25
      exact ⟨(s33.1, s33.2), h26, ⟨A38, ha37.sub ⟨rfl, rfl, rfl, rfl, rfl, rfl, trivial⟩, ⟨hH, hr13⟩⟩⟩
    · rw [if_neg (nt hc31)] at h25
      obtain rfl := Option.some.inj h25
      refine C_exit (fun a ha64 => ?_)
      exact ⟨((s20.1, s20.2), A22), ha64.sub ⟨rfl, rfl, rfl, rfl, rfl, trivial⟩, ⟨h26.symm, hH, hr13⟩⟩
  rintro ⟨s12, A18⟩ w15 ⟨rfl, hH19, hk16⟩ a ha17
  rw [Lp.andThen_fin] at hm
  replace h_x := Sl.tr h_x hk16
  replace h8 := El.tr h8 hk16
  replace hK := Tr.trans hK hk16
  replace hB := Nat.le_trans hB hk16.ex.size
  replace hA := hk16.new
  replace hH : Hp w.heap.size A18 w15 ([]) := hH19
  refine C_at (n := ⟨49, [], none⟩) (fun _ _ => rfl) ?_ ha17
  refine C_seq ?_
  refine C_region_q (Dw := Dw) Tryz_mixed (by kernel_rfl) ?_
  refine VQ_y (fun w' hw' => Y_move rfl) rfl rfl rfl ?_
  refine VQ_y (fun w' hw' => Y_move rfl) rfl rfl rfl ?_
  refine VQ_y (fun w' hw' => Y_move rfl) rfl rfl rfl ?_
  refine VQ_y (fun w' hw' => Y_lss rfl rfl) rfl rfl rfl ?_
  refine VQ_y (fun w' hw' => Y_move rfl) rfl rfl rfl ?_
  obtain ⟨s67, hs67, hm⟩ := Option.bind_eq_some_iff.1 hm
  refine VQ_cut 9 (fun _ : Unit => [(35, .int .i64 s12.1), (48, .bool s67)]) (fun _ => True) ?_ ?_
  · simp only [List.take, List.drop]
    rcases Bool.eq_false_or_eq_true (decide (s12.1 < (x.length : Int))) with hc66 | hc66
    · rw [if_pos hc66] at hs67
      refine VQ_ge rfl rfl rfl hc66 ?_
      refine VQ_y (fun w' hw' => Y_move rfl) rfl rfl rfl ?_
      refine VQ_ge rfl rfl rfl hc66 ?_
      refine VQ_y (fun w' hw' => Y_move rfl) rfl rfl rfl ?_
      refine VQ_ge rfl rfl rfl hc66 ?_
      refine VQ_y (fun w' hw' => Y_move rfl) rfl rfl rfl ?_
      refine VQ_ge rfl rfl rfl hc66 ?_
      obtain ⟨x68, hx68, hs67⟩ := Option.bind_eq_some_iff.1 hs67
      refine VQ_indexAddr h_x hx68 Tryz.underlying24 Tryz.sizeOf32 rfl rfl rfl ?_
      intro b69 o70 h71
      refine VQ_ge rfl rfl rfl hc66 ?_
      obtain ⟨h72, _⟩ := El_level_Share h71
      refine VQ_y (fun w' hw' => Y_loadA (At.kp (Dw := Dw) h72 hw' h71.2.1) Tryz.isAgg32 Tryz.sizeOf32 rfl) rfl rfl rfl ?_
      refine VQ_ge rfl rfl rfl hc66 ?_
      obtain ⟨v73, h75, h74⟩ := El_level_Clock h8
      refine VQ_y (fun w' hw' => Y_loadA (At.kp (Dw := Dw) h75 hw' h8.2.1) Tryz.isAgg39 Tryz.sizeOf39 rfl) rfl rfl rfl ?_
      refine VQ_ge rfl rfl rfl hc66 ?_
      obtain ⟨x76, hx76, hs67⟩ := Option.bind_eq_some_iff.1 hs67
      refine VQ_call (.int .i64 x76) cmp_call rfl rfl rfl rfl (fun w' hw' => (cmp_spec w' _ (Tr.trans hK (Kp.tr (Dw := Dw) hw' hA hB)) (fun b hb => hA b (Nat.le_trans hw'.size hb)) x68 target v73 (Sl.kp (Dw := Dw) h74 hw') _ hx76).mono fun _ _ h => ⟨h.1, Kp.trans (Dw := Dw) hw' h.2⟩) ?_
      refine VQ_ge rfl rfl rfl hc66 ?_
      refine VQ_y (fun w' hw' => Y_eql rfl rfl) rfl rfl rfl ?_
      refine VQ_y (fun _ _ => Y_pick_te rfl hc66 rfl) rfl rfl rfl ?_
      obtain rfl := Option.some.inj hs67
      exact VQ_end fun a ha => ⟨(), ha.sub ⟨rfl, rfl, trivial⟩, trivial⟩
    · rw [if_neg (nt hc66)] at hs67
      refine VQ_gn rfl rfl rfl hc66 rfl rfl rfl ?_
      refine VQ_gn rfl rfl rfl hc66 rfl rfl rfl ?_
      refine VQ_gn rfl rfl rfl hc66 rfl rfl rfl ?_
      refine VQ_gn rfl rfl rfl hc66 rfl rfl rfl ?_
      refine VQ_gn rfl rfl rfl hc66 rfl rfl rfl ?_
      refine VQ_gn rfl rfl rfl hc66 rfl rfl rfl ?_
      refine VQ_gn rfl rfl rfl hc66 rfl rfl rfl ?_
      refine VQ_gn rfl rfl rfl hc66 rfl rfl rfl ?_
      refine VQ_y (fun _ _ => Y_pick_fe rfl hc66 rfl) rfl rfl rfl ?_
      obtain rfl := Option.some.inj hs67
      exact VQ_end fun a ha => ⟨(), ha.sub ⟨rfl, rfl, trivial⟩, trivial⟩
  simp only [List.take, List.drop]
  rintro _ _
  refine VQ_y (fun w' hw' => Y_assign rfl) rfl rfl rfl ?_
  refine VQ_y (fun w' hw' => Y_assign rfl) rfl rfl rfl ?_
  refine VQ_to (fun _ _ => rfl) (fun w77 hk78 => ?_)
  have ht79 := Kp.tr hk78 hA hB
  replace hH := Hp.kp hH hk78
  replace hK := Tr.trans hK ht79
  replace hB := Nat.le_trans hB ht79.ex.size
  replace hA := ht79.new
  obtain rfl := Option.some.inj hm
  refine C_ret ?_
  try simp only [↓inBlock_ret, ↓then_ret]
  exact retQ rfl (Res.two Tryz.results12 rfl rfl) ⟨rfl, hK.kp⟩

set_option maxRecDepth 4000 in
set_option maxHeartbeats 4000000 in
theorem level_Shares_1_c (w : World) {A : Nat → Prop} (hA : ∀ b, w.heap.size ≤ b → A b) (s : level_Share) (c : level_Clock) (v_c : Value) (h_c : Sl A w v_c c.pieces) {r : Int} (hm : level_Shares_1 s c = some r) : Ret Tryz.prog 13 #[.agg #[.int .i64 s.level, .int .i64 s.kind, .int .i64 s.running, .int .i64 s.kept, .int .i64 s.broken, .int .i64 s.gone], .agg #[.int .i64 c.kind, .int .i64 c.level, .int .i64 c.minutes, .int .i64 c.start, .int .i64 c.stop, .int .i64 c.end_, v_c]] w fun v w' => v = .int .i64 r ∧ Kp Dw w w' := by
  unfold level_Shares_1 at hm
  refine enter Tryz.func13 rfl Tryz.ntmps13 rfl ?_
  have hA0 := hA
  have hB := Nat.le_refl w.heap.size
  have hK : Tr Dw w.heap.size A w A w := Tr.refl (Dw := Dw) hA
  have hH : Hp w.heap.size A w [] := Hp.nil
  refine C_seq ?_
  refine C_region ?_
  refine V_box rfl rfl ?_
  intro b3 w4 h5
  have hk7 := h5.kp (Dw := Dw)
  have h6 : El (α := level_Share) A w4 b3 0 s := h5.el hA ⟨[.int .i64 s.level], _, rfl, rfl, ⟨[.int .i64 s.kind], _, rfl, rfl, ⟨[.int .i64 s.running], _, rfl, rfl, ⟨[.int .i64 s.kept], _, rfl, rfl, ⟨[.int .i64 s.broken], _, rfl, rfl, rfl⟩⟩⟩⟩⟩
  have ht8 := Kp.tr hk7 hA hB
  replace hH := Hp.kp hH hk7
  replace h_c := Sl.tr h_c ht8
  replace hK := Tr.trans hK ht8
  replace hB := Nat.le_trans hB ht8.ex.size
  replace hA := ht8.new
  refine V_box rfl rfl ?_
  intro b9 w10 h11
  have hk13 := h11.kp (Dw := Dw)
  have h12 : El (α := level_Clock) A w10 b9 0 c := h11.el hA ⟨[.int .i64 c.kind], _, rfl, rfl, ⟨[.int .i64 c.level], _, rfl, rfl, ⟨[.int .i64 c.minutes], _, rfl, rfl, ⟨[.int .i64 c.start], _, rfl, rfl, ⟨[.int .i64 c.stop], _, rfl, rfl, ⟨[.int .i64 c.end_], _, rfl, rfl, ⟨_, rfl, h_c⟩⟩⟩⟩⟩⟩⟩
  have ht14 := Kp.tr hk13 hA hB
  replace hH := Hp.kp hH hk13
  replace h_c := Sl.tr h_c ht14
  replace h6 := El.tr h6 ht14
  replace hK := Tr.trans hK ht14
  replace hB := Nat.le_trans hB ht14.ex.size
  replace hA := ht14.new
  refine V_as rfl rfl ?_
  refine V_to (fun _ _ => rfl) ?_
  refine C_seq ?_
  refine C_region_qt (Dw := Dw) 10 Tryz_mixed (by kernel_rfl) ?_
  simp only [List.take, List.drop]
  have h15 := El_level_Share_0 h6
  refine VQ_y (fun w' hw' => Y_fieldAddr Tryz.underlying32 rfl Tryz.sizeOf3 (by decide) rfl) rfl rfl rfl ?_
  refine VQ_y (fun w' hw' => Y_load (El.int (El.kp (Dw := Dw) h15 hw')) Tryz.isAgg3 rfl) rfl rfl rfl ?_
  have h16 := El_level_Clock_1 h12
  refine VQ_y (fun w' hw' => Y_fieldAddr Tryz.underlying39 rfl Tryz.sizeOf3 (by decide) rfl) rfl rfl rfl ?_
  refine VQ_y (fun w' hw' => Y_load (El.int (El.kp (Dw := Dw) h16 hw')) Tryz.isAgg3 rfl) rfl rfl rfl ?_
  refine VQ_call (.int .i64 (cmp_Compare_int s.level c.level)) Tryz.call15 rfl rfl rfl rfl (fun w' hw' => (cmp_Compare_int_c w' s.level c.level).mono (fun _ _ h => ⟨h.1, h.2 ▸ hw'⟩)) ?_
  have h17 := El_level_Share_1 h6
  refine VQ_y (fun w' hw' => Y_fieldAddr Tryz.underlying32 rfl Tryz.sizeOf3 (by decide) rfl) rfl rfl rfl ?_
  refine VQ_y (fun w' hw' => Y_load (El.int (El.kp (Dw := Dw) h17 hw')) Tryz.isAgg3 rfl) rfl rfl rfl ?_
  have h18 := El_level_Clock_0 h12
  refine VQ_y (fun w' hw' => Y_fieldAddr Tryz.underlying39 rfl Tryz.sizeOf3 (by decide) rfl) rfl rfl rfl ?_
  refine VQ_y (fun w' hw' => Y_load (El.int (El.kp (Dw := Dw) h18 hw')) Tryz.isAgg3 rfl) rfl rfl rfl ?_
  refine VQ_call (.int .i64 (cmp_Compare_int s.kind c.kind)) Tryz.call15 rfl rfl rfl rfl (fun w' hw' => (cmp_Compare_int_c w' s.kind c.kind).mono (fun _ _ h => ⟨h.1, h.2 ▸ hw'⟩)) ?_
  refine VQ_tail (fun w19 hk20 => ?_)
  try simp only [List.take, List.drop]
  have ht21 := Kp.tr hk20 hA hB
  replace hH := Hp.kp hH hk20
  replace h6 := El.tr h6 ht21
  replace h12 := El.tr h12 ht21
  replace h15 := El.tr h15 ht21
  replace h16 := El.tr h16 ht21
  replace h17 := El.tr h17 ht21
  replace h18 := El.tr h18 ht21
  replace hK := Tr.trans hK ht21
  replace hB := Nat.le_trans hB ht21.ex.size
  replace hA := ht21.new
  refine V_buildSlice (Dw := Dw) (cells := #[.int .i64 (cmp_Compare_int s.level c.level), .int .i64 (cmp_Compare_int s.kind c.kind)]) (l := ([(cmp_Compare_int s.level c.level), (cmp_Compare_int s.kind c.kind)] : List Int)) (len := 2) Tryz.underlying48 Tryz.sizeOf3 Tryz.zeroValue3 rfl (by generalize ((cmp_Compare_int s.level c.level) : Int) = z26; generalize ((cmp_Compare_int s.kind c.kind) : Int) = z27; kernel_rfl) (show (2 * 1 : Nat) ≠ 0 by decide) (show (2 * 1 : Nat) ≤ 2 ^ 24 by decide) hA ⟨[.int .i64 (cmp_Compare_int s.level c.level)], _, rfl, rfl, ⟨[.int .i64 (cmp_Compare_int s.kind c.kind)], _, rfl, rfl, rfl⟩⟩ rfl rfl ?_
  intro v22 w23 hk25 h24
  have ht28 := Kp.tr hk25 hA hB
  replace hH := Hp.kp hH hk25
  replace h6 := El.tr h6 ht28
  replace h12 := El.tr h12 ht28
  replace h15 := El.tr h15 ht28
  replace h16 := El.tr h16 ht28
  replace h17 := El.tr h17 ht28
  replace h18 := El.tr h18 ht28
  replace hK := Tr.trans hK ht28
  replace hB := Nat.le_trans hB ht28.ex.size
  replace hA := ht28.new
  obtain ⟨x29, hx29, hm⟩ := Option.bind_eq_some_iff.1 hm
  refine V_call Tryz.call14 rfl rfl rfl rfl (cmp_Or_int_c w23 ([(cmp_Compare_int s.level c.level), (cmp_Compare_int s.kind c.kind)] : List Int) v22 h24 hx29) ?_
  rintro _ _ ⟨rfl, rfl⟩
  refine V_as rfl rfl ?_
  refine V_to (fun _ _ => rfl) ?_
  obtain rfl := Option.some.inj hm
  refine C_ret ?_
  try simp only [↓inBlock_ret, ↓then_ret]
  exact retQ rfl (Res.one Tryz.results13 rfl) ⟨rfl, hK.kp⟩

theorem Tryz_ovl35 : Tryz.prog.funcs[35]? = some Tryz.f35 := by kernel_rfl
theorem Tryz_ovln35 : Extern.findNext Tryz.f35 = none := by kernel_rfl
theorem Tryz_ovlf35 : Extern.find Tryz.f35 = some (Extern.SlicesOverlaps.overlaps #[24, 24] #[4]) := by kernel_rfl
theorem Tryz_ovlb35 : (Tryz.f35.name == "runtime.NumGoroutine") = false ∧ Tryz.f35.body.isNone = true := by constructor <;> kernel_rfl
set_option maxRecDepth 4000 in
set_option maxHeartbeats 4000000 in
theorem slices_Insert_Llevel_Share_level_Share_c (w : World) {A : Nat → Prop} {B : Nat} {L : List Ob} {i : Nat} {v v_vs : Value} {l vs r : List level_Share} (k : Int) (hH : Hp B A w (obS (α := level_Share) 32 v_vs vs :: L)) (hi : L[i]? = some (obS (α := level_Share) 32 v l)) (hB : B ≤ w.heap.size) (hA : ∀ b, w.heap.size ≤ b → A b) (hr : slices_Insert_Llevel_Share_level_Share l k vs = some r) :
    Ret Tryz.prog 16 #[v, .int .i64 k, v_vs] w fun u w' => ∃ v' A1, u = v' ∧ Hp B A1 w' (L.set i (obS (α := level_Share) 32 v' r)) ∧ Tr Dw B A w A1 w' := by
  unfold slices_Insert_Llevel_Share_level_Share at hr
  split at hr
  case isFalse => cases hr
  rename_i hcond
  obtain ⟨hk0, hkl, hne, hlim⟩ := hcond
  obtain rfl := Option.some.inj hr
  obtain ⟨i0, rfl⟩ : ∃ i0 : Nat, k = (i0 : Int) := ⟨k.toNat, by omega⟩
  rw [Int.toNat_natCast]
  have hil : i0 ≤ l.length := by omega
  have hm0 : 0 < vs.length := List.length_pos_iff.2 hne
  have hmax : l.length + vs.length ≤ maxLen := Nat.le_trans hlim (by decide)
  have hbytes : (l.length + vs.length) * 48 ≤ 140737488355328 := Nat.le_trans (Nat.mul_le_mul_right _ hlim) (by decide)
  have e1 : w64 ((l.length : Int) + (vs.length : Int)) = ((l.length + vs.length : Nat) : Int) := by rw [w64_id (by omega) (by omega)]; omega
  have e2 : w64 (((l.length + vs.length : Nat) : Int) - (i0 : Int)) = ((l.length + vs.length - i0 : Nat) : Int) := by rw [w64_id (by omega) (by omega)]; omega
  have e3 : w64 ((i0 : Int) + (vs.length : Int)) = ((i0 + vs.length : Nat) : Int) := by rw [w64_id (by omega) (by omega)]; omega
  have hiL : i < L.length := (List.getElem?_eq_some_iff.1 hi).1
  have hi1 : (obS (α := level_Share) 32 v_vs vs :: L)[i + 1]? = some (obS (α := level_Share) 32 v l) := by simpa using hi
  obtain ⟨a, cap, rfl, hlc, hlm⟩ := Hp.formS hH hi1
  obtain ⟨b, capv, _, hvv, _⟩ := Hp.openS hH (i := 0) rfl hne hA
  subst hvv
  refine enter Tryz.func16 rfl Tryz.ntmps16 rfl ?_
  refine C_seq ?_
  refine C_region ?_
  refine V_as rfl rfl ?_
  refine V_to (fun _ _ => rfl) ?_
  refine C_seq ?_
  refine C_region ?_
  refine V_mv rfl rfl ?_
  refine V_mv rfl rfl ?_
  refine V_y (Y_sliceLL (sz := 6) (lo := (i0 : Int)) (k := .i64) ⟨a, l.length, cap, i0, l.length, rfl, rfl, rfl, hil, Nat.le_refl _, hlc, rfl⟩ Tryz.underlying24 Tryz.sizeOf32 rfl rfl) rfl rfl rfl ?_
  refine V_to (fun _ _ => rfl) ?_
  refine C_seq ?_
  refine C_region ?_
  refine V_mv rfl rfl ?_
  refine V_y (Y_lenS (a := some ⟨b, 0, none⟩) (len := vs.length) (cap := capv) rfl Tryz.underlying24 rfl) rfl rfl rfl ?_
  refine V_as rfl rfl ?_
  refine V_to (fun _ _ => rfl) ?_
  refine C_seq ?_
  refine C_seq ?_
  refine C_region ?_
  refine V_mv rfl rfl ?_
  refine V_y (Y_eql rfl rfl) rfl rfl rfl ?_
  refine V_to (fun _ _ => rfl) ?_
  refine C_cond rfl (fun hc => ?_) (fun _ => ?_)
  · have : ((vs.length : Int) == 0) = true := hc
    rw [beq_iff_eq] at this
    omega
  refine C_skip_to (fun _ _ => rfl) ?_
  refine C_seq ?_
  refine C_region ?_
  refine V_mv rfl rfl ?_
  refine V_y (Y_lenS (a := a) (len := l.length) (cap := cap) rfl Tryz.underlying24 rfl) rfl rfl rfl ?_
  refine V_as rfl rfl ?_
  refine V_to (fun _ _ => rfl) ?_
  refine C_seq ?_
  refine C_seq ?_
  refine C_region ?_
  refine V_mv rfl rfl ?_
  refine V_mv rfl rfl ?_
  refine V_y (Y_eql rfl rfl) rfl rfl rfl ?_
  refine V_to (fun _ _ => rfl) ?_
  refine C_cond rfl (fun hc => ?_) (fun hc => ?_)
  · have hil2 : i0 = l.length := by
      have : ((i0 : Int) == (l.length : Int)) = true := hc
      rw [beq_iff_eq] at this
      omega
    obtain ⟨A1, ht1, h_vs, hH1⟩ := Hp.freeze (Dw := Dw) hH (i := 0) rfl hA
    replace hH1 : Hp B A1 w L := hH1
    refine C_seq ?_
    refine C_region ?_
    refine V_mv rfl rfl ?_
    refine V_mv rfl rfl ?_
    refine V_appendH (Dw := Dw) (e := 32) (l := l) (m := vs) (r := l ++ vs) (ti := Tryz.t32) (bytes := 48) (lim := 2932031007402) hH1 hi h_vs (by unfold appendL; rw [if_pos hlim]) Tryz.underlying24 Tryz_info32 rfl rfl rfl rfl (by decide) (by decide) (by decide) hB ht1.new rfl rfl rfl ?_
    intro v2 w2 A2 hH2 ht2
    refine V_as rfl rfl ?_
    refine V_to (fun _ _ => rfl) ?_
    refine C_ret ?_
    try simp only [↓inBlock_ret, ↓then_ret]
    refine retQ rfl (Res.one Tryz.results16 rfl) ⟨v2, A2, rfl, ?_, ht1.trans ht2⟩
    rw [hil2, List.take_length, List.drop_length, List.append_nil]
    exact hH2
  have hil2 : i0 < l.length := by
    have : ((i0 : Int) == (l.length : Int)) = false := hc
    rw [beq_eq_false_iff_ne] at this
    omega
  have hlne : l ≠ [] := fun h => by rw [h] at hil2; cases hil2
  refine C_skip_to (fun _ _ => rfl) ?_
  obtain ⟨g, cap', cur, hv, hH1, h5, h6, h7, h8⟩ := Hp.openS hH hi1 hlne hA
  simp only [Value.slice.injEq, true_and] at hv
  obtain ⟨rfl, rfl⟩ := hv
  have hbg := Hp.rowsApart hH hi1 (j := 0) rfl (Nat.succ_ne_zero i)
  obtain ⟨curv, hgv, hcv, hrv, hlv⟩ := Hp.rowAt hH (j := 0) rfl
  have hls := h8.len
  rw [List.length_take, show (GoT.cells level_Share) = 6 from rfl] at hls
  have hlsv := hrv.len
  rw [show (GoT.cells level_Share) = 6 from rfl] at h7 h8 hlsv hcv hrv
  have hcurl : cur.toList.length = cap * 6 := by rw [Array.length_toList]; exact h7
  replace hH1 : Hp B A w (obS (α := level_Share) 32 (.slice (some ⟨b, 0, none⟩) vs.length capv) vs :: L.set i (obO g (.cells cur 32 (0, 0)))) := hH1
  have hgx : ∀ (X : Ob), (obS (α := level_Share) 32 (.slice (some ⟨b, 0, none⟩) vs.length capv) vs :: L.set i X)[i + 1]? = some X := fun X => by simp [hiL]
  -- what the end of the old row holds
  have htail : ((cur.toList.drop (i0 * 6)).take (l.length * 6 - i0 * 6)).length = (l.length - i0) * 6 := by
    rw [List.length_take, List.length_drop, hcurl, Nat.sub_mul]
    have : l.length * 6 ≤ cap * 6 := Nat.mul_le_mul_right _ h5
    omega
  have hone : ∀ u ∈ (cur.toList.drop (i0 * 6)).take (l.length * 6 - i0 * 6), u.oneCell' = true := fun u hu => by
    refine h8.one u ?_
    rw [← List.drop_take] at hu
    exact List.mem_of_mem_drop hu
  have hi6 : i0 * 6 ≤ l.length * 6 := Nat.mul_le_mul_right _ hil
  have hc6 : l.length * 6 ≤ cap * 6 := Nat.mul_le_mul_right _ h5
  refine C_seq ?_
  refine C_seq ?_
  refine C_region ?_
  refine V_mv rfl rfl ?_
  refine V_mv rfl rfl ?_
  refine V_y (Y_addI rfl rfl) rfl rfl rfl ?_
  rw [e1]
  refine V_mv rfl rfl ?_
  refine V_y (Y_cap (a := some ⟨g, 0, none⟩) (len := l.length) (cap := cap) rfl Tryz.underlying24 rfl) rfl rfl rfl ?_
  refine V_y (Y_gtr rfl rfl) rfl rfl rfl ?_
  refine V_to (fun _ _ => rfl) ?_
  refine C_cond rfl (fun hc2 => ?_) (fun hc2 => ?_)
  · have hroom : cap < l.length + vs.length := by
      have : decide ((cap : Int) < ((l.length + vs.length : Nat) : Int)) = true := hc2
      have := of_decide_eq_true this
      omega
    have hsz : i0 + (l.length + vs.length - i0) = l.length + vs.length := by omega
    refine C_seq ?_
    refine C_region ?_
    refine V_mv rfl rfl ?_
    refine V_mv rfl rfl ?_
    refine V_y (Y_slHi (sz := 6) (g := g) (len := l.length) (cap := cap) (hi := i0) (k := .i64) (by omega) Tryz.underlying24 Tryz.sizeOf32 rfl rfl) rfl rfl rfl ?_
    refine V_mv rfl rfl ?_
    refine V_mv rfl rfl ?_
    refine V_y (Y_addI rfl rfl) rfl rfl rfl ?_
    rw [e1]
    refine V_mv rfl rfl ?_
    refine V_y (Y_subI rfl rfl) rfl rfl rfl ?_
    rw [e2]
    refine V_appendZ (Dw := Dw) (g := g) (sLen := i0) (sCap := cap) (k := l.length + vs.length - i0) (size := 6) (bytes := 48) (ti := Tryz.t32) (olds := cur.toList.take (i0 * 6)) hH1 Tryz.underlying24 Tryz.underlying3 Tryz_info32 rfl rfl rfl rfl (by decide) (by omega) (by omega) (by omega) (by rw [hsz]; exact hbytes) (by rw [List.length_take, hcurl]; omega) (fun j u hj => by
      rw [List.getElem?_take] at hj
      split at hj
      case isFalse => cases hj
      rw [Nat.zero_add]
      exact row_cell (Hp.objAt hH1 (hgx _)) hj) hB hA rfl rfl rfl ?_
    rw [hsz]
    intro g2 cap2 row w1 A1 hH2 ht1 hc2' hm2 hrs hrt
    have hrl : row.toList.length = cap2 * 6 := by rw [Array.length_toList]; exact hrs
    have hc26 : (l.length + vs.length) * 6 ≤ cap2 * 6 := Nat.mul_le_mul_right _ hc2'
    rw [Nat.add_mul] at hc26
    have hB1 := Nat.le_trans hB ht1.ex.size
    have hA1 := ht1.new
    refine V_as rfl rfl ?_
    refine V_to (fun _ _ => rfl) ?_
    refine C_seq ?_
    refine C_region ?_
    refine V_mv rfl rfl ?_
    refine V_mv rfl rfl ?_
    refine V_y (Y_slLo (sz := 6) (g := g2) (o := 0) (len := l.length + vs.length) (cap := cap2) (lo := i0) (k := .i64) (by omega) (by omega) hc2' Tryz.underlying24 Tryz.sizeOf32 rfl rfl) rfl rfl rfl ?_
    refine V_mv rfl rfl ?_
    obtain ⟨curw, hgw, hcw, hrw, _⟩ := Hp.rowAt hH2 (j := 1) rfl
    have hlsw := hrw.len
    rw [show (GoT.cells level_Share) = 6 from rfl] at hrw hlsw
    refine V_copyO (Dw := Dw) (g := g2) (o := 0 + i0 * 6) (N := vs.length) (size := 6) (a := ⟨b, 0, none⟩) (ii := Tryz.t32) (cs := curw.toList.take (vs.length * 6)) hH2 (i := 0) rfl Tryz.underlying24 Tryz_info32 rfl rfl rfl (Nat.min_eq_left (by omega)) hlsw (fun j u hj => by
      rw [List.getElem?_take] at hj
      split at hj
      case isFalse => cases hj
      rw [add_none, Nat.zero_add]
      exact row_cell hgw hj) (by rw [hlsw, ← Array.length_toList, hrl]; omega) hrw.one hB1 hA1 rfl ?_
    intro w2 hH3 ht2
    replace hH3 : Hp B A1 w2 (obO g2 (.cells (row.toList.take (0 + i0 * 6) ++ curw.toList.take (vs.length * 6) ++ row.toList.drop (0 + i0 * 6 + (curw.toList.take (vs.length * 6)).length)).toArray 32 (0, 0)) :: obS (α := level_Share) 32 (.slice (some ⟨b, 0, none⟩) vs.length capv) vs :: L.set i (obO g (.cells cur 32 (0, 0)))) := hH3
    rw [hlsw, Nat.zero_add] at hH3
    have hB2 := Nat.le_trans hB1 ht2.ex.size
    have hA2 := ht2.new
    have hx1 := ins_grow (X := cur.toList) (R := row.toList) (p := i0 * 6) (q := vs.length * 6) (nn := l.length * 6) (ds := curw.toList.take (vs.length * 6)) (R1 := row.toList.take (i0 * 6) ++ curw.toList.take (vs.length * 6) ++ row.toList.drop (i0 * 6 + vs.length * 6)) hi6 (by omega) (by omega) hrt hlsw rfl
    generalize row.toList.take (i0 * 6) ++ curw.toList.take (vs.length * 6) ++ row.toList.drop (i0 * 6 + vs.length * 6) = R1 at hH3 hx1
    refine V_to (fun _ _ => rfl) ?_
    refine C_seq ?_
    refine C_region_qt (Dw := Dw) 8 Tryz_mixed (by kernel_rfl) ?_
    refine VQ_y (fun w' hw' => Y_move rfl) rfl rfl rfl ?_
    refine VQ_y (fun w' hw' => Y_move rfl) rfl rfl rfl ?_
    refine VQ_y (fun w' hw' => Y_move rfl) rfl rfl rfl ?_
    refine VQ_y (fun w' hw' => Y_addI rfl rfl) rfl rfl rfl ?_
    rw [e3]
    refine VQ_y (fun w' hw' => Y_slLo (sz := 6) (g := g2) (o := 0) (len := l.length + vs.length) (cap := cap2) (lo := i0 + vs.length) (k := .i64) (by omega) (by omega) hc2' Tryz.underlying24 Tryz.sizeOf32 rfl rfl) rfl rfl rfl ?_
    refine VQ_y (fun w' hw' => Y_move rfl) rfl rfl rfl ?_
    refine VQ_y (fun w' hw' => Y_move rfl) rfl rfl rfl ?_
    refine VQ_y (fun w' hw' => Y_slLo (sz := 6) (g := g) (o := 0) (len := l.length) (cap := cap) (lo := i0) (k := .i64) (by omega) (by omega) h5 Tryz.underlying24 Tryz.sizeOf32 rfl rfl) rfl rfl rfl ?_
    refine VQ_tail (fun w3 hk3 => ?_)
    have ht3 := Kp.tr hk3 hA2 hB2
    replace hH3 := Hp.kp (Dw := Dw) hH3 hk3
    have hB3 := Nat.le_trans hB2 ht3.ex.size
    have hA3 := ht3.new
    refine V_copyO (Dw := Dw) (g := g2) (o := 0 + (i0 + vs.length) * 6) (N := l.length - i0) (size := 6) (a := ⟨g, 0 + i0 * 6, none⟩) (ii := Tryz.t32) (cs := (cur.toList.drop (i0 * 6)).take (l.length * 6 - i0 * 6)) hH3 (i := 0) rfl Tryz.underlying24 Tryz_info32 rfl rfl rfl (by rw [show l.length + vs.length - (i0 + vs.length) = l.length - i0 by omega]; exact Nat.min_eq_left (Nat.le_refl _)) htail (fun j u hj => by
      rw [List.getElem?_take] at hj
      split at hj
      case isFalse => cases hj
      rw [List.getElem?_drop] at hj
      rw [add_none, Nat.zero_add]
      exact row_cell (Hp.objAt hH3 (i := i + 2) (g := g) (o := .cells cur 32 (0, 0)) (by simp [hiL])) hj) (by rw [htail, ← Array.length_toList, List.toList_toArray, hx1.2, hrl, Nat.add_mul, Nat.sub_mul]; omega) hone hB3 hA3 rfl ?_
    intro w4 hH4 ht4
    rw [Nat.zero_add, List.toList_toArray, Nat.add_mul] at hH4
    replace hH4 : Hp B A1 w4 (obO g2 (.cells (R1.take (i0 * 6 + vs.length * 6) ++ (cur.toList.drop (i0 * 6)).take (l.length * 6 - i0 * 6) ++ R1.drop (i0 * 6 + vs.length * 6 + ((cur.toList.drop (i0 * 6)).take (l.length * 6 - i0 * 6)).length)).toArray 32 (0, 0)) :: obS (α := level_Share) 32 (.slice (some ⟨b, 0, none⟩) vs.length capv) vs :: L.set i (obO g (.cells cur 32 (0, 0)))) := hH4
    have hA4 := ht4.new
    have htAll := ((ht1.trans ht2).trans ht3).trans ht4
    have hrep := rows_insert (i0 := i0) (h8.keep htAll.ex) (hrw.keep ((ht2.trans ht3).trans ht4).ex)
    rw [show (GoT.cells level_Share) = 6 from rfl, ← hx1.1] at hrep
    have hlr : (l.take i0 ++ vs ++ l.drop i0).length = l.length + vs.length := by simp only [List.length_append, List.length_take, List.length_drop]; omega
    have hH5 := Hp.closeS (α := level_Share) (e := 32) (l := l.take i0 ++ vs ++ l.drop i0) (cap := cap2) hH4 (i := 0) rfl hA4 (by rw [hlr]; exact hc2') hm2 (by
      rw [← Array.length_toList, List.toList_toArray, List.length_append, List.length_append, List.length_take, List.length_drop, htail, hx1.2, hrl, show (GoT.cells level_Share) = 6 from rfl, Nat.sub_mul]
      omega) (by rw [hlr, List.toList_toArray, show (GoT.cells level_Share) = 6 from rfl, Nat.add_mul]; exact hrep)
    rw [hlr] at hH5
    have hH6 := (Hp.drop hH5 (i := 1) rfl).takes hiL
    refine V_to (fun _ _ => rfl) ?_
    refine C_seq ?_
    refine C_region ?_
    refine V_mv rfl rfl ?_
    refine V_as rfl rfl ?_
    refine V_to (fun _ _ => rfl) ?_
    refine C_ret ?_
    try simp only [↓inBlock_ret, ↓then_ret]
    exact retQ rfl (Res.one Tryz.results16 rfl) ⟨_, A1, rfl, hH6, htAll⟩
  have hroom : l.length + vs.length ≤ cap := by
    have : decide ((cap : Int) < ((l.length + vs.length : Nat) : Int)) = false := hc2
    have := of_decide_eq_false this
    omega
  have hr6 : (l.length + vs.length) * 6 ≤ cap * 6 := Nat.mul_le_mul_right _ hroom
  rw [Nat.add_mul] at hr6
  have hx1 := fun (ds : List Value) (hd : ds.length = vs.length * 6) => ins_place (X := cur.toList) (p := i0 * 6) (q := vs.length * 6) (nn := l.length * 6) (ds := ds) (X1 := cur.toList.take (i0 * 6 + vs.length * 6) ++ (cur.toList.drop (i0 * 6)).take (l.length * 6 - i0 * 6) ++ cur.toList.drop (i0 * 6 + vs.length * 6 + ((cur.toList.drop (i0 * 6)).take (l.length * 6 - i0 * 6)).length)) hi6 (by omega) hd rfl
  refine C_skip_to (fun _ _ => rfl) ?_
  refine C_seq ?_
  refine C_region ?_
  refine V_mv rfl rfl ?_
  refine V_mv rfl rfl ?_
  refine V_mv rfl rfl ?_
  refine V_y (Y_addI rfl rfl) rfl rfl rfl ?_
  rw [e1]
  refine V_y (Y_slHi (sz := 6) (g := g) (len := l.length) (cap := cap) (hi := l.length + vs.length) (k := .i64) hroom Tryz.underlying24 Tryz.sizeOf32 rfl rfl) rfl rfl rfl ?_
  refine V_as rfl rfl ?_
  refine V_to (fun _ _ => rfl) ?_
  refine C_seq ?_
  refine C_seq ?_
  refine C_region ?_
  refine V_mv rfl rfl ?_
  refine V_mv rfl rfl ?_
  refine V_mv rfl rfl ?_
  refine V_mv rfl rfl ?_
  refine V_y (Y_addI rfl rfl) rfl rfl rfl ?_
  rw [e3]
  refine V_y (Y_slLo (sz := 6) (g := g) (o := 0) (len := l.length + vs.length) (cap := cap) (lo := i0 + vs.length) (k := .i64) (by omega) (by omega) hroom Tryz.underlying24 Tryz.sizeOf32 rfl rfl) rfl rfl rfl ?_
  refine V_y (Y_ext Tryz_ovl35 Tryz_ovlb35.1 Tryz_ovlb35.2 Tryz_ovln35 Tryz_ovlf35 rfl rfl (Go.Lib.run_overlaps_apart w 24 4 32 Tryz.underlying24 6 Tryz.sizeOf32 ⟨b, 0, none⟩ ⟨g, 0 + (i0 + vs.length) * 6, none⟩ vs.length capv (l.length + vs.length - (i0 + vs.length)) (cap - (i0 + vs.length)) hbg 32 32 (capv * 6) (cap * 6) (by simp [World.shape?, hgv, hcv]) (by simp [World.shape?, Hp.objAt hH1 (hgx _), h7]) (by omega) (by simp [World.frozen?, hgv]) (by simp [World.frozen?, hgv]))) rfl rfl rfl ?_
  refine V_y (Y_not rfl) rfl rfl rfl ?_
  refine V_to (fun _ _ => rfl) ?_
  refine C_true rfl ?_
  refine C_seq ?_
  refine C_region_qt (Dw := Dw) 8 Tryz_mixed (by kernel_rfl) ?_
  refine VQ_y (fun w' hw' => Y_move rfl) rfl rfl rfl ?_
  refine VQ_y (fun w' hw' => Y_move rfl) rfl rfl rfl ?_
  refine VQ_y (fun w' hw' => Y_move rfl) rfl rfl rfl ?_
  refine VQ_y (fun w' hw' => Y_addI rfl rfl) rfl rfl rfl ?_
  rw [e3]
  refine VQ_y (fun w' hw' => Y_slLo (sz := 6) (g := g) (o := 0) (len := l.length + vs.length) (cap := cap) (lo := i0 + vs.length) (k := .i64) (by omega) (by omega) hroom Tryz.underlying24 Tryz.sizeOf32 rfl rfl) rfl rfl rfl ?_
  refine VQ_y (fun w' hw' => Y_move rfl) rfl rfl rfl ?_
  refine VQ_y (fun w' hw' => Y_move rfl) rfl rfl rfl ?_
  refine VQ_y (fun w' hw' => Y_slLo (sz := 6) (g := g) (o := 0) (len := l.length + vs.length) (cap := cap) (lo := i0) (k := .i64) (by omega) (by omega) hroom Tryz.underlying24 Tryz.sizeOf32 rfl rfl) rfl rfl rfl ?_
  refine VQ_tail (fun w1 hk1 => ?_)
  have ht1 := Kp.tr hk1 hA hB
  replace hH1 := Hp.kp (Dw := Dw) hH1 hk1
  have hB1 := Nat.le_trans hB ht1.ex.size
  have hA1 := ht1.new
  refine V_copyO (Dw := Dw) (g := g) (o := 0 + (i0 + vs.length) * 6) (N := l.length - i0) (size := 6) (a := ⟨g, 0 + i0 * 6, none⟩) (ii := Tryz.t32) (cs := (cur.toList.drop (i0 * 6)).take (l.length * 6 - i0 * 6)) hH1 (i := i + 1) (hgx _) Tryz.underlying24 Tryz_info32 rfl rfl rfl (by rw [show l.length + vs.length - (i0 + vs.length) = l.length - i0 by omega]; exact Nat.min_eq_right (by omega)) htail (fun j u hj => by
    rw [List.getElem?_take] at hj
    split at hj
    case isFalse => cases hj
    rw [List.getElem?_drop] at hj
    rw [add_none, Nat.zero_add]
    exact row_cell (Hp.objAt hH1 (hgx _)) hj) (by rw [htail, ← Array.length_toList, hcurl, Nat.add_mul, Nat.sub_mul]; omega) hone hB1 hA1 rfl ?_
  intro w2 hH2 ht2
  rw [Nat.zero_add, Nat.add_mul, List.set_cons_succ, List.set_set] at hH2
  generalize cur.toList.take (i0 * 6 + vs.length * 6) ++ (cur.toList.drop (i0 * 6)).take (l.length * 6 - i0 * 6) ++ cur.toList.drop (i0 * 6 + vs.length * 6 + ((cur.toList.drop (i0 * 6)).take (l.length * 6 - i0 * 6)).length) = X1 at hH2 hx1
  have hB2 := Nat.le_trans hB1 ht2.ex.size
  have hA2 := ht2.new
  refine V_to (fun _ _ => rfl) ?_
  refine C_seq ?_
  refine C_region ?_
  refine V_mv rfl rfl ?_
  refine V_mv rfl rfl ?_
  refine V_y (Y_slLo (sz := 6) (g := g) (o := 0) (len := l.length + vs.length) (cap := cap) (lo := i0) (k := .i64) (by omega) (by omega) hroom Tryz.underlying24 Tryz.sizeOf32 rfl rfl) rfl rfl rfl ?_
  refine V_mv rfl rfl ?_
  obtain ⟨curw, hgw, hcw, hrw, _⟩ := Hp.rowAt hH2 (j := 0) rfl
  have hlsw := hrw.len
  rw [show (GoT.cells level_Share) = 6 from rfl] at hrw hlsw
  replace hx1 := hx1 _ hlsw
  refine V_copyO (Dw := Dw) (g := g) (o := 0 + i0 * 6) (N := vs.length) (size := 6) (a := ⟨b, 0, none⟩) (ii := Tryz.t32) (cs := curw.toList.take (vs.length * 6)) hH2 (i := i + 1) (hgx _) Tryz.underlying24 Tryz_info32 rfl rfl rfl (Nat.min_eq_left (by omega)) hlsw (fun j u hj => by
    rw [List.getElem?_take] at hj
    split at hj
    case isFalse => cases hj
    rw [add_none, Nat.zero_add]
    exact row_cell hgw hj) (by rw [hlsw, ← Array.length_toList, List.toList_toArray, hx1.2, hcurl]; omega) hrw.one hB2 hA2 rfl ?_
  intro w3 hH3 ht3
  rw [hlsw, Nat.zero_add, List.toList_toArray, List.set_cons_succ, List.set_set] at hH3
  have hA3 := ht3.new
  have htAll := (ht1.trans ht2).trans ht3
  have hrep := rows_insert (i0 := i0) (h8.keep htAll.ex) (hrw.keep ht3.ex)
  rw [show (GoT.cells level_Share) = 6 from rfl, ← hx1.1] at hrep
  have hlr : (l.take i0 ++ vs ++ l.drop i0).length = l.length + vs.length := by simp only [List.length_append, List.length_take, List.length_drop]; omega
  have hH5 := Hp.closeS (α := level_Share) (e := 32) (l := l.take i0 ++ vs ++ l.drop i0) (cap := cap) hH3 (i := i + 1) (hgx _) hA3 (by rw [hlr]; exact hroom) h6 (by
    rw [← Array.length_toList, List.toList_toArray, List.length_append, List.length_append, List.length_take, List.length_drop, hlsw, hx1.2, hcurl, show (GoT.cells level_Share) = 6 from rfl]
    omega) (by rw [hlr, List.toList_toArray, show (GoT.cells level_Share) = 6 from rfl, Nat.add_mul]; exact hrep)
  rw [hlr, List.set_cons_succ, List.set_set] at hH5
  have hH6 := Hp.drop hH5 (i := 0) rfl
  refine V_to (fun _ _ => rfl) ?_
  refine C_seq ?_
  refine C_region ?_
  refine V_mv rfl rfl ?_
  refine V_as rfl rfl ?_
  refine V_to (fun _ _ => rfl) ?_
  refine C_ret ?_
  try simp only [↓inBlock_ret, ↓then_ret]
  exact retQ rfl (Res.one Tryz.results16 rfl) ⟨_, A, rfl, hH6, htAll⟩

set_option maxRecDepth 4000 in
set_option maxHeartbeats 4000000 in
theorem cal_stretch_c (w : World) (from_ : Int) (to_ : Int) : Ret Tryz.prog 54 #[.int .i64 from_, .int .i64 to_] w fun v w' => v = .int .i64 (cal_stretch from_ to_) ∧ w = w' := by
  generalize hm : cal_stretch from_ to_ = r
  unfold cal_stretch at hm
  refine enter Tryz.func54 rfl Tryz.ntmps54 rfl ?_
  refine C_seq ?_
  refine C_region ?_
  refine V_as rfl rfl ?_
  refine V_to (fun _ _ => rfl) ?_
  refine C_seq ?_
  refine C_block ?_
  refine C_seq ?_
  refine C_region ?_
  refine V_mv rfl rfl ?_
  refine V_call Tryz.call50 rfl rfl rfl rfl (cal_within_c w from_ 0 3000000) ?_
  rintro _ _ ⟨rfl, rfl⟩
  refine V_y (Y_not rfl) rfl rfl rfl ?_
  refine V_mv rfl rfl ?_
  refine V_cut 4 (fun _ : Unit => [(0, .int .i64 from_), (1, .int .i64 to_), (13, .bool ((!(cal_within from_ 0 3000000)) || (!(cal_within to_ 0 3000001))))]) (fun _ w' => w = w') ?_ ?_
  · simp only [List.take, List.drop]
    rcases Bool.eq_false_or_eq_true (!(cal_within from_ 0 3000000)) with hc1 | hc1
    · refine V_gn rfl rfl rfl hc1 rfl rfl rfl ?_
      refine V_gn rfl rfl rfl hc1 rfl rfl rfl ?_
      refine V_gn rfl rfl rfl hc1 rfl rfl rfl ?_
      refine V_y (Y_pick_te rfl hc1 rfl) rfl rfl rfl ?_
      exact V_end fun a ha => ⟨(), ha.sub ⟨rfl, rfl, (by rw [hc1]; rfl), trivial⟩, rfl⟩
    · refine V_ge rfl rfl rfl hc1 ?_
      refine V_mv rfl rfl ?_
      refine V_ge rfl rfl rfl hc1 ?_
      refine V_call Tryz.call50 rfl rfl rfl rfl (cal_within_c w to_ 0 3000001) ?_
      rintro _ _ ⟨rfl, rfl⟩
      refine V_ge rfl rfl rfl hc1 ?_
      refine V_y (Y_not rfl) rfl rfl rfl ?_
      refine V_y (Y_pick_fe rfl hc1 rfl) rfl rfl rfl ?_
      exact V_end fun a ha => ⟨(), ha.sub ⟨rfl, rfl, (by rw [hc1]; rfl), trivial⟩, rfl⟩
  simp only [List.take, List.drop]
  rintro _ _ rfl
  refine V_as rfl rfl ?_
  refine V_to (fun _ _ => rfl) ?_
  refine C_cond rfl (fun hc3 => ?_) (fun hc3 => ?_)
  · rw [if_pos hc3] at hm
    refine C_seq ?_
    refine C_region ?_
    refine V_as rfl rfl ?_
    refine V_to (fun _ _ => rfl) ?_
    obtain rfl := hm
    refine C_ret ?_
    try simp only [↓inBlock_ret, ↓then_ret]
    exact retQ rfl (Res.one Tryz.results54 rfl) ⟨rfl, rfl⟩
  · rw [if_neg (nt hc3)] at hm
    refine C_seq ?_
    refine C_region ?_
    refine V_mv rfl rfl ?_
    refine V_mv rfl rfl ?_
    refine V_y (Y_gtr rfl rfl) rfl rfl rfl ?_
    refine V_as rfl rfl ?_
    refine V_to (fun _ _ => rfl) ?_
    refine C_cond rfl (fun hc4 => ?_) (fun hc4 => ?_)
    · rw [if_pos hc4] at hm
      refine C_seq ?_
      refine C_region ?_
      refine V_as rfl rfl ?_
      refine V_to (fun _ _ => rfl) ?_
      obtain rfl := hm
      refine C_ret ?_
      try simp only [↓inBlock_ret, ↓then_ret]
      exact retQ rfl (Res.one Tryz.results54 rfl) ⟨rfl, rfl⟩
    · rw [if_neg (nt hc4)] at hm
      refine C_skip_to (fun _ _ => rfl) ?_
      refine C_seq ?_
      refine C_region ?_
      refine V_as rfl rfl ?_
      refine V_to (fun _ _ => rfl) ?_
      obtain rfl := hm
      refine C_ret ?_
      try simp only [↓inBlock_ret, ↓then_ret]
      exact retQ rfl (Res.one Tryz.results54 rfl) ⟨rfl, rfl⟩

set_option maxRecDepth 4000 in
set_option maxHeartbeats 4000000 in
theorem cal_Calendar_open_c (w : World) {A : Nat → Prop} (hA : ∀ b, w.heap.size ≤ b → A b) (c : cal_Calendar) (v_c0 : Value) (h_c0 : Sl A w v_c0 c.zone.changes) (v_c1 : Value) (h_c1 : Sl A w v_c1 c.week) (v_c2 : Value) (h_c2 : Sl A w v_c2 c.specials) (from_ : Int) (to_ : Int) {r : (cal_Calendar × Int × Int)} (hm : cal_Calendar_open c from_ to_ = some r) : Ret Tryz.prog 55 #[.agg #[.int .i64 c.zone.offset, v_c0, v_c1, v_c2], .int .i64 from_, .int .i64 to_] w fun v w' => ∃ c0 c1 c2, v = .func (.func 79) #[] #[.pointer (some ⟨c0, 0, none⟩), .pointer (some ⟨c1, 0, none⟩), .pointer (some ⟨c2, 0, none⟩)] ∧ El A w' c0 0 r.1 ∧ El A w' c1 0 r.2.1 ∧ El A w' c2 0 r.2.2 ∧ Kp Dw w w' := by
  unfold cal_Calendar_open at hm
  refine enter Tryz.func55 rfl Tryz.ntmps55 rfl ?_
  have hA0 := hA
  have hB := Nat.le_refl w.heap.size
  have hK : Tr Dw w.heap.size A w A w := Tr.refl (Dw := Dw) hA
  have hH : Hp w.heap.size A w [] := Hp.nil
  refine C_seq ?_
  refine C_region ?_
  refine V_box rfl rfl ?_
  intro b7 w9 h10
  have hk12 := h10.kp (Dw := Dw)
  have h11 : El (α := cal_Calendar) A w9 b7 0 c := h10.el hA ⟨[.int .i64 c.zone.offset, v_c0], _, rfl, ⟨[.int .i64 c.zone.offset], _, rfl, rfl, ⟨_, rfl, h_c0⟩⟩, ⟨[v_c1], _, rfl, ⟨_, rfl, h_c1⟩, ⟨_, rfl, h_c2⟩⟩⟩
  have ht13 := Kp.tr hk12 hA hB
  replace hH := Hp.kp hH hk12
  replace h_c0 := Sl.tr h_c0 ht13
  replace h_c1 := Sl.tr h_c1 ht13
  replace h_c2 := Sl.tr h_c2 ht13
  replace hK := Tr.trans hK ht13
  replace hB := Nat.le_trans hB ht13.ex.size
  replace hA := ht13.new
  refine V_box rfl rfl ?_
  intro b14 w15 h16
  have hk18 := h16.kp (Dw := Dw)
  have h17 : El (α := Int) A w15 b14 0 from_ := h16.el hA rfl
  have ht19 := Kp.tr hk18 hA hB
  replace hH := Hp.kp hH hk18
  replace h_c0 := Sl.tr h_c0 ht19
  replace h_c1 := Sl.tr h_c1 ht19
  replace h_c2 := Sl.tr h_c2 ht19
  replace h11 := El.tr h11 ht19
  replace hK := Tr.trans hK ht19
  replace hB := Nat.le_trans hB ht19.ex.size
  replace hA := ht19.new
  refine V_box rfl rfl ?_
  intro b20 w21 h22
  have hk24 := h22.kp (Dw := Dw)
  have h23 : El (α := Int) A w21 b20 0 to_ := h22.el hA rfl
  have ht25 := Kp.tr hk24 hA hB
  replace hH := Hp.kp hH hk24
  replace h_c0 := Sl.tr h_c0 ht25
  replace h_c1 := Sl.tr h_c1 ht25
  replace h_c2 := Sl.tr h_c2 ht25
  replace h11 := El.tr h11 ht25
  replace h17 := El.tr h17 ht25
  replace hK := Tr.trans hK ht25
  replace hB := Nat.le_trans hB ht25.ex.size
  replace hA := ht25.new
  refine V_as rfl rfl ?_
  refine V_to (fun _ _ => rfl) ?_
  refine C_seq ?_
  refine C_region ?_
  refine V_y (Y_makeFunc rfl rfl) rfl rfl rfl ?_
  refine V_as rfl rfl ?_
  refine V_to (fun _ _ => rfl) ?_
  obtain rfl := Option.some.inj hm
  refine C_ret ?_
  try simp only [↓inBlock_ret, ↓then_ret]
  exact retQ rfl (Res.one Tryz.results55 rfl) ⟨b7, b14, b20, rfl, (El.out (Dw := Dw) h11 hA0 hK), (El.out (Dw := Dw) h17 hA0 hK), (El.out (Dw := Dw) h23 hA0 hK), hK.kp⟩

set_option maxRecDepth 4000 in
set_option maxHeartbeats 4000000 in
theorem cal_Calendar_shifts_c (w : World) {A : Nat → Prop} (hA : ∀ b, w.heap.size ≤ b → A b) (c : cal_Calendar) (v_c0 : Value) (h_c0 : Sl A w v_c0 c.zone.changes) (v_c1 : Value) (h_c1 : Sl A w v_c1 c.week) (v_c2 : Value) (h_c2 : Sl A w v_c2 c.specials) (from_ : Int) (to_ : Int) {r : (cal_Calendar × Int × Int)} (hm : cal_Calendar_shifts c from_ to_ = some r) : Ret Tryz.prog 80 #[.agg #[.int .i64 c.zone.offset, v_c0, v_c1, v_c2], .int .i64 from_, .int .i64 to_] w fun v w' => ∃ c0 c1 c2, v = .func (.func 93) #[] #[.pointer (some ⟨c0, 0, none⟩), .pointer (some ⟨c1, 0, none⟩), .pointer (some ⟨c2, 0, none⟩)] ∧ El A w' c0 0 r.1 ∧ El A w' c1 0 r.2.1 ∧ El A w' c2 0 r.2.2 ∧ Kp Dw w w' := by
  unfold cal_Calendar_shifts at hm
  refine enter Tryz.func80 rfl Tryz.ntmps80 rfl ?_
  have hA0 := hA
  have hB := Nat.le_refl w.heap.size
  have hK : Tr Dw w.heap.size A w A w := Tr.refl (Dw := Dw) hA
  have hH : Hp w.heap.size A w [] := Hp.nil
  refine C_seq ?_
  refine C_region ?_
  refine V_box rfl rfl ?_
  intro b7 w9 h10
  have hk12 := h10.kp (Dw := Dw)
  have h11 : El (α := cal_Calendar) A w9 b7 0 c := h10.el hA ⟨[.int .i64 c.zone.offset, v_c0], _, rfl, ⟨[.int .i64 c.zone.offset], _, rfl, rfl, ⟨_, rfl, h_c0⟩⟩, ⟨[v_c1], _, rfl, ⟨_, rfl, h_c1⟩, ⟨_, rfl, h_c2⟩⟩⟩
  have ht13 := Kp.tr hk12 hA hB
  replace hH := Hp.kp hH hk12
  replace h_c0 := Sl.tr h_c0 ht13
  replace h_c1 := Sl.tr h_c1 ht13
  replace h_c2 := Sl.tr h_c2 ht13
  replace hK := Tr.trans hK ht13
  replace hB := Nat.le_trans hB ht13.ex.size
  replace hA := ht13.new
  refine V_box rfl rfl ?_
  intro b14 w15 h16
  have hk18 := h16.kp (Dw := Dw)
  have h17 : El (α := Int) A w15 b14 0 from_ := h16.el hA rfl
  have ht19 := Kp.tr hk18 hA hB
  replace hH := Hp.kp hH hk18
  replace h_c0 := Sl.tr h_c0 ht19
  replace h_c1 := Sl.tr h_c1 ht19
  replace h_c2 := Sl.tr h_c2 ht19
  replace h11 := El.tr h11 ht19
  replace hK := Tr.trans hK ht19
  replace hB := Nat.le_trans hB ht19.ex.size
  replace hA := ht19.new
  refine V_box rfl rfl ?_
  intro b20 w21 h22
  have hk24 := h22.kp (Dw := Dw)
  have h23 : El (α := Int) A w21 b20 0 to_ := h22.el hA rfl
  have ht25 := Kp.tr hk24 hA hB
  replace hH := Hp.kp hH hk24
  replace h_c0 := Sl.tr h_c0 ht25
  replace h_c1 := Sl.tr h_c1 ht25
  replace h_c2 := Sl.tr h_c2 ht25
  replace h11 := El.tr h11 ht25
  replace h17 := El.tr h17 ht25
  replace hK := Tr.trans hK ht25
  replace hB := Nat.le_trans hB ht25.ex.size
  replace hA := ht25.new
  refine V_as rfl rfl ?_
  refine V_to (fun _ _ => rfl) ?_
  refine C_seq ?_
  refine C_region ?_
  refine V_y (Y_makeFunc rfl rfl) rfl rfl rfl ?_
  refine V_as rfl rfl ?_
  refine V_to (fun _ _ => rfl) ?_
  obtain rfl := Option.some.inj hm
  refine C_ret ?_
  try simp only [↓inBlock_ret, ↓then_ret]
  exact retQ rfl (Res.one Tryz.results80 rfl) ⟨b7, b14, b20, rfl, (El.out (Dw := Dw) h11 hA0 hK), (El.out (Dw := Dw) h17 hA0 hK), (El.out (Dw := Dw) h23 hA0 hK), hK.kp⟩

set_option maxRecDepth 4000 in
set_option maxHeartbeats 4000000 in
theorem cal_Zone_parts_c (w : World) {A : Nat → Prop} (hA : ∀ b, w.heap.size ≤ b → A b) (z : cal_Zone) (v_z : Value) (h_z : Sl A w v_z z.changes) {r : (List cal_part)} (hm : cal_Zone_parts z = some r) : Ret Tryz.prog 94 #[.agg #[.int .i64 z.offset, v_z]] w fun v w' => ∃ s0, v = s0 ∧ Ownd 136 w w' s0 r ∧ Kp Dw w w' := by
  unfold cal_Zone_parts at hm
  refine enter Tryz.func94 rfl Tryz.ntmps94 rfl ?_
  have hA0 := hA
  have hB := Nat.le_refl w.heap.size
  have hK : Tr Dw w.heap.size A w A w := Tr.refl (Dw := Dw) hA
  have hH : Hp w.heap.size A w [] := Hp.nil
  refine C_seq ?_
  refine C_region ?_
  refine V_box rfl rfl ?_
  intro b3 w4 h5
  have hk7 := h5.kp (Dw := Dw)
  have h6 : El (α := cal_Zone) A w4 b3 0 z := h5.el hA ⟨[.int .i64 z.offset], _, rfl, rfl, ⟨_, rfl, h_z⟩⟩
  have ht8 := Kp.tr hk7 hA hB
  replace hH := Hp.kp hH hk7
  replace h_z := Sl.tr h_z ht8
  replace hK := Tr.trans hK ht8
  replace hB := Nat.le_trans hB ht8.ex.size
  replace hA := ht8.new
  refine V_as rfl rfl ?_
  refine V_to (fun _ _ => rfl) ?_
  refine C_seq ?_
  refine C_region ?_
  have h9 := El_cal_Zone_0 h6
  refine V_y (Y_fieldAddr Tryz.underlying62 rfl Tryz.sizeOf3 (by decide) rfl) rfl rfl rfl ?_
  refine V_y (Y_load (El.int h9) Tryz.isAgg3 rfl) rfl rfl rfl ?_
  refine V_y (Y_build Tryz.underlying136 Tryz.zeroValue136 (Tryz_places136 _ Tryz.underlying136) rfl (by with_unfolding_all rfl)) rfl rfl rfl ?_
  refine V_buildOwnH (Dw := Dw) (cells := #[.int .i64 0, .int .i64 3000001, .int .i64 z.offset]) (l := ([(⟨0, 3000001, z.offset⟩ : cal_part)] : List cal_part)) (len := 1) hH Tryz.underlying133 Tryz.sizeOf136 Tryz.zeroValue136 rfl (by kernel_rfl) (show (1 * 3 : Nat) ≠ 0 by decide) (show (1 * 3 : Nat) ≤ 2 ^ 24 by decide) hB hA ⟨[.int .i64 0, .int .i64 3000001, .int .i64 z.offset], _, rfl, ⟨[.int .i64 0], _, rfl, rfl, ⟨[.int .i64 3000001], _, rfl, rfl, rfl⟩⟩, rfl⟩ rfl rfl ?_
  intro v10 w11 A14 hH16 ht15
  replace h6 := El.tr h6 ht15
  replace h9 := El.tr h9 ht15
  replace hK := Tr.trans hK ht15
  replace hB := Nat.le_trans hB ht15.ex.size
  replace hA := ht15.new
  replace hH : Hp w.heap.size A14 w11 (obS (α := cal_part) 136 v10 ([(⟨0, 3000001, z.offset⟩ : cal_part)] : List cal_part) :: []) := hH16
  refine V_as rfl rfl ?_
  refine V_to (fun _ _ => rfl) ?_
  refine C_seq ?_
  refine C_seq ?_
  refine C_region ?_
  have h17 := El_cal_Zone_1 h6
  refine V_y (Y_fieldAddr Tryz.underlying62 rfl Tryz.sizeOf60 (by decide) rfl) rfl rfl rfl ?_
  obtain ⟨v18, h19, h20⟩ := El.list h17
  refine V_y (Y_load h19 Tryz.isAgg60 rfl) rfl rfl rfl ?_
  refine V_y (Y_lenSl h20 rfl Tryz.underlying60 rfl) rfl rfl rfl ?_
  refine V_mv rfl rfl ?_
  refine V_to (fun _ _ => rfl) ?_
  have hn45 := Sl.le h20
  obtain ⟨o21, ho21, hm⟩ := Option.bind_eq_some_iff.1 hm
  refine C_cutG (ι := ((List cal_part) × Value × (Nat → Prop))) (fun ⟨s22, v28, A30⟩ => [(3, v28)]) (fun ⟨s22, v28, A30⟩ => fun w' => o21 = .fin s22 ∧ Hp w.heap.size A30 w' (obS (α := cal_part) 136 v28 s22 :: []) ∧ Tr Dw w.heap.size A14 w11 A30 w') ?_ ?_
  · refine C_block ?_
    refine C_range ho21 (fun k24 s32 a w' => ∃ i : (Value × (Nat → Prop)), Has ⟨35, [], none⟩ a ([(3, i.1), (11, v18), (12, .int .i64 (z.changes.length : Int)), (13, .int .i64 (k24 : Int))]) ∧ Hp w.heap.size i.2 w' (obS (α := cal_part) 136 i.1 s32 :: []) ∧ Tr Dw w.heap.size A14 w11 i.2 w') (fun a ha => ⟨(v10, A14), ha.sub ⟨rfl, rfl, rfl, rfl, trivial⟩, ⟨hH, Tr.refl (Dw := Dw) hA⟩⟩) ?_
    rintro K k24 s32 a w33 ⟨⟨v34, A36⟩, ha86, hH37, hr23⟩ hle41 K44 h43
    refine C_of ?_ ha86
    replace h20 := Sl.tr h20 hr23
    replace hK := Tr.trans hK hr23
    replace hB := Nat.le_trans hB hr23.ex.size
    replace hA := hr23.new
    replace hH : Hp w.heap.size A36 w33 (obS (α := cal_part) 136 v34 s32 :: []) := hH37
    refine C_seq (C_region (V_y (Y_lss rfl rfl) rfl rfl rfl (V_to (fun _ _ => rfl) ?_)))
    refine C_seq ?_
    refine C_cond rfl (fun hc46 => ?_) (fun hc46 => ?_)
    · have hlt42 := lt_of_dec hc46
      obtain ⟨x38, h39, h40⟩ := K44 hlt42
      refine C_skip_to (fun _ _ => rfl) ?_
      refine C_seq ?_
      refine C_block ?_
      refine C_seq ?_
      refine C_region ?_
      obtain ⟨x47, hx47, h39⟩ := Option.bind_eq_some_iff.1 h39
      refine V_indexAddr h20 hx47 Tryz.underlying60 Tryz.sizeOf116 rfl rfl rfl ?_
      intro b48 o49 h50
      obtain ⟨h51, _⟩ := El_cal_Change h50
      refine V_y (Y_loadA h51 Tryz.isAgg116 Tryz.sizeOf116 rfl) rfl rfl rfl ?_
      refine V_alloc Tryz.zeroValue116 rfl ?_
      intro b52 w53 h54
      refine V_storeNew h54 Tryz.sizeOf116 rfl rfl rfl rfl (by exact (List.forall_mem_cons.2 ⟨rfl, (List.forall_mem_cons.2 ⟨rfl, (fun _ h => nomatch h)⟩)⟩)) ?_
      intro w55 h56
      have hk58 := h56.kp (Dw := Dw)
      have h57 : El (α := cal_Change) A36 w55 b52 0 x47 := h56.el hA ⟨[.int .i64 x47.at_], _, rfl, rfl, rfl⟩
      have ht59 := Kp.tr hk58 hA hB
      replace hH := Hp.kp hH hk58
      replace h20 := Sl.tr h20 ht59
      replace h50 := El.tr h50 ht59
      replace hK := Tr.trans hK ht59
      replace hr23 := Tr.trans hr23 ht59
      replace hB := Nat.le_trans hB ht59.ex.size
      replace hA := ht59.new
      refine V_to (fun _ _ => rfl) ?_
      refine C_seq ?_
      refine C_region ?_
      refine V_mv rfl rfl ?_
      refine V_mv rfl rfl ?_
      refine V_y (Y_lenSl (Hp.any (α := cal_part) (e := 136) (v := v34) (l := s32) hH (i := 0) rfl) rfl Tryz.underlying133 rfl) rfl rfl rfl ?_
      refine V_y (Y_subI rfl rfl) rfl rfl rfl ?_
      have h60 := El_cal_Change_0 h57
      refine V_y (Y_fieldAddr Tryz.underlying116 rfl Tryz.sizeOf3 (by decide) rfl) rfl rfl rfl ?_
      refine V_y (Y_load (El.int h60) Tryz.isAgg3 rfl) rfl rfl rfl ?_
      obtain ⟨x61, hx61, h39⟩ := Option.bind_eq_some_iff.1 h39
      refine V_indexAddrH (α := cal_part) (e := 136) (v := v34) (l := s32) hH (i := 0) rfl hx61 Tryz.underlying133 Tryz.sizeOf136 rfl rfl rfl ?_
      intro b62 o63 h64 hl65
      have h66 := El_cal_part_1 h64
      refine V_y (Y_fieldAddr Tryz.underlying136 rfl Tryz.sizeOf3 (by decide) rfl) rfl rfl rfl ?_
      obtain ⟨x67, hx67, h39⟩ := Option.bind_eq_some_iff.1 h39
      refine V_storeFH (Dw := Dw) (α := cal_part) (e := 136) (v := v34) (l := s32) (foff := 1) hH (i := 0) rfl hl65 hx61 hx67 (fun _ h => by obtain ⟨_, _, rfl, rfl, ⟨_, _, rfl, rfl, rfl⟩⟩ := h; exact ⟨[_], _, rfl, rfl, ⟨[_], _, rfl, rfl, rfl⟩⟩) Tryz.sizeOf3 rfl (by simp [Value.cells, Value.oneCell']) (by decide) hB hA (congrArg (fun z => some (Value.pointer (some ⟨_, z, none⟩))) (by simp [Nat.add_assoc])) rfl ?_
      intro w68 hH69 ht70
      replace h20 := Sl.tr h20 ht70
      replace h57 := El.tr h57 ht70
      replace h60 := El.tr h60 ht70
      replace hK := Tr.trans hK ht70
      replace hr23 := Tr.trans hr23 ht70
      replace hB := Nat.le_trans hB ht70.ex.size
      replace hA := ht70.new
      replace hH : Hp w.heap.size A36 w68 (obS (α := cal_part) 136 v34 x67 :: []) := hH69
      refine V_to (fun _ _ => rfl) ?_
      refine C_region ?_
      refine V_mv rfl rfl ?_
      have h71 := El_cal_Change_0 h57
      refine V_y (Y_fieldAddr Tryz.underlying116 rfl Tryz.sizeOf3 (by decide) rfl) rfl rfl rfl ?_
      refine V_y (Y_load (El.int h71) Tryz.isAgg3 rfl) rfl rfl rfl ?_
      have h72 := El_cal_Change_1 h57
      refine V_y (Y_fieldAddr Tryz.underlying116 rfl Tryz.sizeOf3 (by decide) rfl) rfl rfl rfl ?_
      refine V_y (Y_load (El.int h72) Tryz.isAgg3 rfl) rfl rfl rfl ?_
      refine V_y (Y_build Tryz.underlying136 Tryz.zeroValue136 (Tryz_places136 _ Tryz.underlying136) rfl (by with_unfolding_all rfl)) rfl rfl rfl ?_
      refine V_buildSlice (Dw := Dw) (cells := #[.int .i64 x47.at_, .int .i64 3000001, .int .i64 x47.offset]) (l := ([(⟨x47.at_, 3000001, x47.offset⟩ : cal_part)] : List cal_part)) (len := 1) Tryz.underlying133 Tryz.sizeOf136 Tryz.zeroValue136 rfl (by kernel_rfl) (show (1 * 3 : Nat) ≠ 0 by decide) (show (1 * 3 : Nat) ≤ 2 ^ 24 by decide) hA ⟨[.int .i64 x47.at_, .int .i64 3000001, .int .i64 x47.offset], _, rfl, ⟨[.int .i64 x47.at_], _, rfl, rfl, ⟨[.int .i64 3000001], _, rfl, rfl, rfl⟩⟩, rfl⟩ rfl rfl ?_
      intro v73 w74 hk76 h75
      have ht77 := Kp.tr hk76 hA hB
      replace hH := Hp.kp hH hk76
      replace h20 := Sl.tr h20 ht77
      replace h57 := El.tr h57 ht77
      replace h71 := El.tr h71 ht77
      replace h72 := El.tr h72 ht77
      replace hK := Tr.trans hK ht77
      replace hr23 := Tr.trans hr23 ht77
      replace hB := Nat.le_trans hB ht77.ex.size
      replace hA := ht77.new
      obtain ⟨x78, hx78, h39⟩ := Option.bind_eq_some_iff.1 h39
      refine V_appendH (Dw := Dw) (e := 136) (v := v34) (l := x67) (ti := Tryz.t136) (bytes := 24) (lim := 5864062014805) hH (i := 0) rfl h75 hx78 Tryz.underlying133 Tryz_info136 rfl rfl rfl rfl (by decide) (by decide) (by decide) hB hA rfl rfl rfl ?_
      intro v79 w80 A81 hH82 ht83
      replace h20 := Sl.tr h20 ht83
      replace h57 := El.tr h57 ht83
      replace h71 := El.tr h71 ht83
      replace h72 := El.tr h72 ht83
      replace h75 := Sl.tr h75 ht83
      replace hK := Tr.trans hK ht83
      replace hr23 := Tr.trans hr23 ht83
      replace hB := Nat.le_trans hB ht83.ex.size
      replace hA := ht83.new
      replace hH : Hp w.heap.size A81 w80 (obS (α := cal_part) 136 v79 x78 :: []) := hH82
      refine V_as rfl rfl ?_
      refine V_to (fun _ _ => rfl) ?_
      refine C_region ?_
      refine V_y (Y_addI rfl rfl) rfl rfl rfl ?_
      refine V_mv rfl rfl ?_
      obtain rfl := Option.some.inj h39
      refine V_end (fun a ha84 => ?_)
      exact ⟨x78, hlt42, h40, ⟨(v79, A81), ha84.sub ⟨rfl, rfl, rfl, (congrArg (fun z => some (Value.int .i64 z)) (w64_succ hlt42 hn45)), trivial⟩, ⟨hH, hr23⟩⟩⟩
    · refine C_exit (fun a ha85 => ?_)
      exact ⟨(s32, v34, A36), ha85.sub ⟨rfl, trivial⟩, ⟨(h43 (eq_of_dec hle41 hc46)).symm, hH, hr23⟩⟩
  rintro ⟨s22, v28, A30⟩ w25 ⟨rfl, hH31, hk26⟩ a ha27
  rw [Lp.andThen_fin] at hm
  replace hK := Tr.trans hK hk26
  replace hB := Nat.le_trans hB hk26.ex.size
  replace hA := hk26.new
  replace hH : Hp w.heap.size A30 w25 (obS (α := cal_part) 136 v28 s22 :: []) := hH31
  refine C_at (n := ⟨35, [], none⟩) (fun _ _ => rfl) ?_ ha27
  refine C_seq ?_
  refine C_region ?_
  refine V_mv rfl rfl ?_
  refine V_as rfl rfl ?_
  refine V_to (fun _ _ => rfl) ?_
  obtain rfl := Option.some.inj hm
  refine C_ret ?_
  try simp only [↓inBlock_ret, ↓then_ret]
  exact retQ rfl (Res.one Tryz.results94 rfl) ⟨v28, rfl, (Hp.ownd hH (i := 0) rfl), hK.kp⟩

set_option maxRecDepth 4000 in
set_option maxHeartbeats 4000000 in
theorem cal_floor_c (w : World) (a_ : Int) (b : Int) {r : Int} (hm : cal_floor a_ b = some r) : Ret Tryz.prog 97 #[.int .i64 a_, .int .i64 b] w fun v w' => v = .int .i64 r ∧ w = w' := by
  unfold cal_floor at hm
  refine enter Tryz.func97 rfl Tryz.ntmps97 rfl ?_
  refine C_seq ?_
  refine C_region ?_
  refine V_as rfl rfl ?_
  refine V_to (fun _ _ => rfl) ?_
  refine C_seq ?_
  refine C_region ?_
  refine V_mv rfl rfl ?_
  refine V_mv rfl rfl ?_
  obtain ⟨x1, hx1, hm⟩ := Option.bind_eq_some_iff.1 hm
  refine V_y (Y_quo hx1 rfl rfl) rfl rfl rfl ?_
  refine V_as rfl rfl ?_
  refine V_to (fun _ _ => rfl) ?_
  refine C_seq ?_
  refine C_seq ?_
  refine C_region ?_
  refine V_mv rfl rfl ?_
  refine V_mv rfl rfl ?_
  obtain ⟨x2, hx2, hm⟩ := Option.bind_eq_some_iff.1 hm
  refine V_y (Y_rem hx2 rfl rfl) rfl rfl rfl ?_
  refine V_y (Y_lss rfl rfl) rfl rfl rfl ?_
  refine V_to (fun _ _ => rfl) ?_
  obtain ⟨s4, ho3, hm⟩ := Option.bind_eq_some_iff.1 hm
  refine C_cutG (ι := Unit) (fun (_ : Unit) => [(5, .int .i64 s4)]) (fun (_ : Unit) => fun w' => w = w') ?_ ?_
  · refine C_cond rfl (fun hc9 => ?_) (fun hc9 => ?_)
    · rw [if_pos hc9] at ho3
      refine C_region ?_
      refine V_mv rfl rfl ?_
      refine V_y (Y_subI rfl rfl) rfl rfl rfl ?_
      refine V_as rfl rfl ?_
      obtain rfl := Option.some.inj ho3
      refine V_end (fun a ha10 => ?_)
      exact ⟨(), ha10.sub ⟨rfl, trivial⟩, rfl⟩
    · rw [if_neg (nt hc9)] at ho3
      obtain rfl := Option.some.inj ho3
      refine C_skip (fun a ha11 => ?_)
      exact ⟨(), ha11.sub ⟨rfl, trivial⟩, rfl⟩
  rintro _ _ rfl a ha8
  refine C_at (n := ⟨16, [], none⟩) (fun _ _ => rfl) ?_ ha8
  refine C_seq ?_
  refine C_region ?_
  refine V_mv rfl rfl ?_
  refine V_as rfl rfl ?_
  refine V_to (fun _ _ => rfl) ?_
  obtain rfl := Option.some.inj hm
  refine C_ret ?_
  try simp only [↓inBlock_ret, ↓then_ret]
  exact retQ rfl (Res.one Tryz.results97 rfl) ⟨rfl, rfl⟩

set_option maxRecDepth 4000 in
set_option maxHeartbeats 4000000 in
theorem slices_BinarySearchFunc_Lcal_Special_cal_Special_int_c (w : World) {A : Nat → Prop} (hA : ∀ b, w.heap.size ≤ b → A b) (x : (List cal_Special)) (v_x : Value) (h_x : Sl A w v_x x) (target : Int) (cmp : cal_Special → Int → Option Int) (cmp_f : FuncId) (cmp_a cmp_c : Array Value) (cmp_call : ∀ (args : Array Value) (w : World), (callFunc cmp_f args).run Tryz.prog w = .ok (.enter cmp_f args) w) (cmp_spec : ∀ (w1 : World) (A1 : Nat → Prop), Tr Dw w.heap.size A w A1 w1 → (∀ b, w1.heap.size ≤ b → A1 b) → ∀ (y0 : cal_Special) (v1 : Value) (h2 : Sl A1 w1 v1 y0.shifts) (y1 : Int) (r : Int), cmp y0 y1 = some r → Ret Tryz.prog cmp_f (cmp_a ++ #[.agg #[.int .i64 y0.day, v1], .int .i64 y1] ++ cmp_c) w1 fun v w' => v = .int .i64 r ∧ Kp Dw w1 w') {r : (Int × Bool)} (hm : slices_BinarySearchFunc_Lcal_Special_cal_Special_int x target cmp = some r) : Ret Tryz.prog 104 #[v_x, .int .i64 target, .func (.func cmp_f) cmp_a cmp_c] w fun v w' => v = .tuple #[.int .i64 r.1, .bool r.2] ∧ Kp Dw w w' := by
  unfold slices_BinarySearchFunc_Lcal_Special_cal_Special_int at hm
  refine enter Tryz.func104 rfl Tryz.ntmps104 rfl ?_
  have hA0 := hA
  have hB := Nat.le_refl w.heap.size
  have hK : Tr Dw w.heap.size A w A w := Tr.refl (Dw := Dw) hA
  have hH : Hp w.heap.size A w [] := Hp.nil
  refine C_seq ?_
  refine C_region ?_
  refine V_as rfl rfl ?_
  refine V_as rfl rfl ?_
  refine V_to (fun _ _ => rfl) ?_
  refine C_seq ?_
  refine C_region ?_
  refine V_mv rfl rfl ?_
  refine V_y (Y_lenSl h_x rfl Tryz.underlying64 rfl) rfl rfl rfl ?_
  refine V_as rfl rfl ?_
  refine V_to (fun _ _ => rfl) ?_
  refine C_seq ?_
  refine C_region ?_
  refine V_mv rfl rfl ?_
  refine V_as rfl rfl ?_
  refine V_as rfl rfl ?_
  refine V_to (fun _ _ => rfl) ?_
  refine C_seq ?_
  obtain ⟨o3, ho3, hm⟩ := Option.bind_eq_some_iff.1 hm
  refine C_cutG (ι := ((Int × Int) × (Nat → Prop))) (fun ⟨s4, A10⟩ => [(0, v_x), (1, .int .i64 target), (2, .func (.func cmp_f) cmp_a cmp_c), (8, .int .i64 (x.length : Int)), (9, .int .i64 s4.1)]) (fun ⟨s4, A10⟩ => fun w' => o3 = .fin s4 ∧ Hp w.heap.size A10 w' ([]) ∧ Tr Dw w.heap.size A w A10 w') ?_ ?_
  · refine C_block ?_
    refine C_while ho3 (fun s12 a w' => ∃ i : (Nat → Prop), Has ⟨49, [], none⟩ a ([(0, v_x), (1, .int .i64 target), (2, .func (.func cmp_f) cmp_a cmp_c), (8, .int .i64 (x.length : Int)), (9, .int .i64 s12.1), (10, .int .i64 s12.2)]) ∧ Hp w.heap.size i w' ([]) ∧ Tr Dw w.heap.size A w i w') (fun a ha => ⟨A, ha.sub ⟨rfl, rfl, rfl, rfl, rfl, rfl, trivial⟩, ⟨hH, Tr.refl (Dw := Dw) hA⟩⟩) ?_
    rintro K s12 a w13 ⟨A14, ha56, hH15, hr5⟩ K22
    refine C_of ?_ ha56
    replace h_x := Sl.tr h_x hr5
    replace hK := Tr.trans hK hr5
    replace hB := Nat.le_trans hB hr5.ex.size
    replace hA := hr5.new
    replace hH : Hp w.heap.size A14 w13 ([]) := hH15
    obtain ⟨x16, h17, h18⟩ := K22
    refine C_seq ?_
    refine C_seq ?_
    refine C_region ?_
    refine V_mv rfl rfl ?_
    refine V_mv rfl rfl ?_
    refine V_y (Y_lss rfl rfl) rfl rfl rfl ?_
    refine V_to (fun _ _ => rfl) ?_
    refine C_cond rfl (fun hc23 => ?_) (fun hc23 => ?_)
    · rw [if_pos hc23] at h17
      refine C_skip_to (fun _ _ => rfl) ?_
      obtain ⟨s25, ho24, h17⟩ := Option.bind_eq_some_iff.1 h17
      refine C_cutG (ι := (Nat → Prop)) (fun (A30 : (Nat → Prop)) => [(0, v_x), (1, .int .i64 target), (2, .func (.func cmp_f) cmp_a cmp_c), (8, .int .i64 (x.length : Int)), (9, .int .i64 s25.1), (10, .int .i64 s25.2)]) (fun (A30 : (Nat → Prop)) => fun w' => Hp w.heap.size A30 w' ([]) ∧ Tr Dw w.heap.size A14 w13 A30 w') ?_ ?_
      · have hr26 : Tr Dw w.heap.size A14 w13 A14 w13 := Tr.refl (Dw := Dw) hA
        refine C_block ?_
        refine C_seq ?_
        refine C_region ?_
        refine V_mv rfl rfl ?_
        refine V_mv rfl rfl ?_
        refine V_y (Y_addI rfl rfl) rfl rfl rfl ?_
        refine V_y (Y_convI Tryz.underlying3 Tryz.underlying72 rfl) rfl rfl rfl ?_
        obtain ⟨x32, hx32, ho24⟩ := Option.bind_eq_some_iff.1 ho24
        refine V_y (Y_shr hx32 rfl rfl) rfl rfl rfl ?_
        refine V_y (Y_convI Tryz.underlying72 Tryz.underlying3 rfl) rfl rfl rfl ?_
        refine V_as rfl rfl ?_
        refine V_to (fun _ _ => rfl) ?_
        refine C_seq ?_
        refine C_region ?_
        refine V_mv rfl rfl ?_
        refine V_mv rfl rfl ?_
        refine V_mv rfl rfl ?_
        obtain ⟨x33, hx33, ho24⟩ := Option.bind_eq_some_iff.1 ho24
        refine V_indexAddr h_x hx33 Tryz.underlying64 Tryz.sizeOf88 rfl rfl rfl ?_
        intro b34 o35 h36
        obtain ⟨v37, h39, h38⟩ := El_cal_Special h36
        refine V_y (Y_loadA h39 Tryz.isAgg88 Tryz.sizeOf88 rfl) rfl rfl rfl ?_
        refine V_mv rfl rfl ?_
        obtain ⟨x40, hx40, ho24⟩ := Option.bind_eq_some_iff.1 ho24
        refine V_call cmp_call rfl rfl rfl rfl (cmp_spec w13 _ hK hA x33 v37 h38 target _ hx40) ?_
        rintro _ w41 ⟨rfl, hk42⟩
        have ht43 := Kp.tr hk42 hA hB
        replace hH := Hp.kp hH hk42
        replace h_x := Sl.tr h_x ht43
        replace h36 := El.tr h36 ht43
        replace h38 := Sl.tr h38 ht43
        replace hK := Tr.trans hK ht43
        replace hr5 := Tr.trans hr5 ht43
        replace hr26 := Tr.trans hr26 ht43
        replace hB := Nat.le_trans hB ht43.ex.size
        replace hA := ht43.new
        refine V_y (Y_lss rfl rfl) rfl rfl rfl ?_
        refine V_to (fun _ _ => rfl) ?_
        obtain ⟨s45, ho44, ho24⟩ := Option.bind_eq_some_iff.1 ho24
        refine C_cutG (ι := Unit) (fun (_ : Unit) => [(0, v_x), (1, .int .i64 target), (2, .func (.func cmp_f) cmp_a cmp_c), (8, .int .i64 (x.length : Int)), (9, .int .i64 s45.1), (10, .int .i64 s45.2)]) (fun (_ : Unit) => fun w' => w41 = w') ?_ ?_
        · refine C_cond rfl (fun hc50 => ?_) (fun hc50 => ?_)
          · rw [if_pos hc50] at ho44
            refine C_region ?_
            refine V_mv rfl rfl ?_
            refine V_y (Y_addI rfl rfl) rfl rfl rfl ?_
            refine V_as rfl rfl ?_
            obtain rfl := Option.some.inj ho44
            refine V_end (fun a ha51 => ?_)
            exact ⟨(), ha51.sub ⟨rfl, rfl, rfl, rfl, rfl, rfl, trivial⟩, rfl⟩
          · rw [if_neg (nt hc50)] at ho44
            refine C_region ?_
            refine V_mv rfl rfl ?_
            refine V_as rfl rfl ?_
            obtain rfl := Option.some.inj ho44
            refine V_end (fun a ha52 => ?_)
            exact ⟨(), ha52.sub ⟨rfl, rfl, rfl, rfl, rfl, rfl, trivial⟩, rfl⟩
        rintro _ _ rfl a ha49
        obtain rfl := Option.some.inj ho24
        exact ⟨A14, ha49.sub ⟨rfl, rfl, rfl, rfl, rfl, rfl, trivial⟩, ⟨hH, hr26⟩⟩
      rintro A30 w27 ⟨hH31, hk28⟩ a ha29
      replace h_x := Sl.tr h_x hk28
      replace hK := Tr.trans hK hk28
      replace hr5 := Tr.trans hr5 hk28
      replace hB := Nat.le_trans hB hk28.ex.size
      replace hA := hk28.new
      replace hH : Hp w.heap.size A30 w27 ([]) := hH31
      obtain rfl := Option.some.inj h17
      exact ⟨(s25.1, s25.2), h18, ⟨A30, ha29.sub ⟨rfl, rfl, rfl, rfl, rfl, rfl, trivial⟩, ⟨hH, hr5⟩⟩⟩
    · rw [if_neg (nt hc23)] at h17
      obtain rfl := Option.some.inj h17
      refine C_exit (fun a ha55 => ?_)
      exact ⟨((s12.1, s12.2), A14), ha55.sub ⟨rfl, rfl, rfl, rfl, rfl, trivial⟩, ⟨h18.symm, hH, hr5⟩⟩
  rintro ⟨s4, A10⟩ w7 ⟨rfl, hH11, hk8⟩ a ha9
  rw [Lp.andThen_fin] at hm
  replace h_x := Sl.tr h_x hk8
  replace hK := Tr.trans hK hk8
  replace hB := Nat.le_trans hB hk8.ex.size
  replace hA := hk8.new
  replace hH : Hp w.heap.size A10 w7 ([]) := hH11
  refine C_at (n := ⟨49, [], none⟩) (fun _ _ => rfl) ?_ ha9
  refine C_seq ?_
  obtain ⟨s58, ho57, hm⟩ := Option.bind_eq_some_iff.1 hm
  refine C_cutG (ι := (Nat → Prop)) (fun (A63 : (Nat → Prop)) => [(6, .int .i64 s58.1), (7, .bool s58.2)]) (fun (A63 : (Nat → Prop)) => fun w' => Hp w.heap.size A63 w' ([]) ∧ Tr Dw w.heap.size A10 w7 A63 w') ?_ ?_
  · have hr59 : Tr Dw w.heap.size A10 w7 A10 w7 := Tr.refl (Dw := Dw) hA
    refine C_region ?_
    refine V_mv rfl rfl ?_
    refine V_mv rfl rfl ?_
    refine V_mv rfl rfl ?_
    refine V_y (Y_lss rfl rfl) rfl rfl rfl ?_
    refine V_mv rfl rfl ?_
    rcases Bool.eq_false_or_eq_true (decide (s4.1 < (x.length : Int))) with hc65 | hc65
    · rw [if_pos hc65] at ho57
      refine V_ge rfl rfl rfl hc65 ?_
      refine V_mv rfl rfl ?_
      refine V_ge rfl rfl rfl hc65 ?_
      refine V_mv rfl rfl ?_
      refine V_ge rfl rfl rfl hc65 ?_
      refine V_mv rfl rfl ?_
      refine V_ge rfl rfl rfl hc65 ?_
      obtain ⟨x66, hx66, ho57⟩ := Option.bind_eq_some_iff.1 ho57
      refine V_indexAddr h_x hx66 Tryz.underlying64 Tryz.sizeOf88 rfl rfl rfl ?_
      intro b67 o68 h69
      refine V_ge rfl rfl rfl hc65 ?_
      obtain ⟨v70, h72, h71⟩ := El_cal_Special h69
      refine V_y (Y_loadA h72 Tryz.isAgg88 Tryz.sizeOf88 rfl) rfl rfl rfl ?_
      refine V_ge rfl rfl rfl hc65 ?_
      refine V_mv rfl rfl ?_
      refine V_ge rfl rfl rfl hc65 ?_
      obtain ⟨x73, hx73, ho57⟩ := Option.bind_eq_some_iff.1 ho57
      refine V_call cmp_call rfl rfl rfl rfl (cmp_spec w7 _ hK hA x66 v70 h71 target _ hx73) ?_
      rintro _ w74 ⟨rfl, hk75⟩
      have ht76 := Kp.tr hk75 hA hB
      replace hH := Hp.kp hH hk75
      replace h_x := Sl.tr h_x ht76
      replace h69 := El.tr h69 ht76
      replace h71 := Sl.tr h71 ht76
      replace hK := Tr.trans hK ht76
      replace hr59 := Tr.trans hr59 ht76
      replace hB := Nat.le_trans hB ht76.ex.size
      replace hA := ht76.new
      refine V_ge rfl rfl rfl hc65 ?_
      refine V_y (Y_eql rfl rfl) rfl rfl rfl ?_
      refine V_y (Y_pick_te rfl hc65 rfl) rfl rfl rfl ?_
      refine V_as rfl rfl ?_
      refine V_as rfl rfl ?_
      obtain rfl := Option.some.inj ho57
      refine V_end (fun a ha77 => ?_)
      exact ⟨A10, ha77.sub ⟨rfl, rfl, trivial⟩, ⟨hH, hr59⟩⟩
    · rw [if_neg (nt hc65)] at ho57
      refine V_gn rfl rfl rfl hc65 rfl rfl rfl ?_
      refine V_gn rfl rfl rfl hc65 rfl rfl rfl ?_
      refine V_gn rfl rfl rfl hc65 rfl rfl rfl ?_
      refine V_gn rfl rfl rfl hc65 rfl rfl rfl ?_
      refine V_gn rfl rfl rfl hc65 rfl rfl rfl ?_
      refine V_gn rfl rfl rfl hc65 rfl rfl rfl ?_
      refine V_gn rfl rfl rfl hc65 rfl rfl rfl ?_
      refine V_gn rfl rfl rfl hc65 rfl rfl rfl ?_
      refine V_y (Y_pick_fe rfl hc65 rfl) rfl rfl rfl ?_
      refine V_as rfl rfl ?_
      refine V_as rfl rfl ?_
      obtain rfl := Option.some.inj ho57
      refine V_end (fun a ha78 => ?_)
      exact ⟨A10, ha78.sub ⟨rfl, rfl, trivial⟩, ⟨hH, hr59⟩⟩
  rintro A63 w60 ⟨hH64, hk61⟩ a ha62
  replace hK := Tr.trans hK hk61
  replace hB := Nat.le_trans hB hk61.ex.size
  replace hA := hk61.new
  replace hH : Hp w.heap.size A63 w60 ([]) := hH64
  refine C_at (n := ⟨49, [], none⟩) (fun _ _ => rfl) ?_ ha62
  obtain rfl := Option.some.inj hm
  refine C_ret ?_
  try simp only [↓inBlock_ret, ↓then_ret]
  exact retQ rfl (Res.two Tryz.results104 rfl rfl) ⟨rfl, hK.kp⟩

set_option maxRecDepth 4000 in
set_option maxHeartbeats 4000000 in
theorem cal_Calendar_shiftsOf_1_c (w : World) {A : Nat → Prop} (hA : ∀ b, w.heap.size ≤ b → A b) (s : cal_Special) (v_s : Value) (h_s : Sl A w v_s s.shifts) (d : Int) {r : Int} (hm : cal_Calendar_shiftsOf_1 s d = some r) : Ret Tryz.prog 105 #[.agg #[.int .i64 s.day, v_s], .int .i64 d] w fun v w' => v = .int .i64 r ∧ Kp Dw w w' := by
  unfold cal_Calendar_shiftsOf_1 at hm
  refine enter Tryz.func105 rfl Tryz.ntmps105 rfl ?_
  have hA0 := hA
  have hB := Nat.le_refl w.heap.size
  have hK : Tr Dw w.heap.size A w A w := Tr.refl (Dw := Dw) hA
  have hH : Hp w.heap.size A w [] := Hp.nil
  refine C_seq ?_
  refine C_region ?_
  refine V_box rfl rfl ?_
  intro b3 w4 h5
  have hk7 := h5.kp (Dw := Dw)
  have h6 : El (α := cal_Special) A w4 b3 0 s := h5.el hA ⟨[.int .i64 s.day], _, rfl, rfl, ⟨_, rfl, h_s⟩⟩
  have ht8 := Kp.tr hk7 hA hB
  replace hH := Hp.kp hH hk7
  replace h_s := Sl.tr h_s ht8
  replace hK := Tr.trans hK ht8
  replace hB := Nat.le_trans hB ht8.ex.size
  replace hA := ht8.new
  refine V_as rfl rfl ?_
  refine V_to (fun _ _ => rfl) ?_
  refine C_seq ?_
  refine C_region ?_
  have h9 := El_cal_Special_0 h6
  refine V_y (Y_fieldAddr Tryz.underlying88 rfl Tryz.sizeOf3 (by decide) rfl) rfl rfl rfl ?_
  refine V_y (Y_load (El.int h9) Tryz.isAgg3 rfl) rfl rfl rfl ?_
  refine V_mv rfl rfl ?_
  refine V_call Tryz.call15 rfl rfl rfl rfl (cmp_Compare_int_c w4 s.day d) ?_
  rintro _ _ ⟨rfl, rfl⟩
  refine V_as rfl rfl ?_
  refine V_to (fun _ _ => rfl) ?_
  obtain rfl := Option.some.inj hm
  refine C_ret ?_
  try simp only [↓inBlock_ret, ↓then_ret]
  exact retQ rfl (Res.one Tryz.results105 rfl) ⟨rfl, hK.kp⟩

set_option maxRecDepth 4000 in
set_option maxHeartbeats 4000000 in
theorem slices_Clone_Lcal_Shift_cal_Shift_c (w : World) {A : Nat → Prop} (hA : ∀ b, w.heap.size ≤ b → A b) (s : (List cal_Shift)) (v_s : Value) (h_s : Sl A w v_s s) {r : (List cal_Shift)} (hm : slices_Clone_Lcal_Shift_cal_Shift s = some r) : Ret Tryz.prog 106 #[v_s] w fun v w' => ∃ s0, v = s0 ∧ Ownd 118 w w' s0 r ∧ Kp Dw w w' := by
  unfold slices_Clone_Lcal_Shift_cal_Shift at hm
  refine enter Tryz.func106 rfl Tryz.ntmps106 rfl ?_
  have hA0 := hA
  have hB := Nat.le_refl w.heap.size
  have hK : Tr Dw w.heap.size A w A w := Tr.refl (Dw := Dw) hA
  have hH : Hp w.heap.size A w [] := Hp.nil
  rcases Sl.split h_s with ⟨rfl, rfl⟩ | ⟨a0, n0, c0, rfl⟩
  · replace hm : some ([] : (List cal_Shift)) = some r := by simpa [appendL] using hm
    refine C_seq ?_
    refine C_region ?_
    refine V_as rfl rfl ?_
    refine V_to (fun _ _ => rfl) ?_
    refine C_seq ?_
    refine C_seq ?_
    refine C_region ?_
    refine V_mv rfl rfl ?_
    refine V_y (Y_eqlNilT rfl rfl Tryz.underlying63) rfl rfl rfl ?_
    refine V_to (fun _ _ => rfl) ?_
    refine C_cond rfl (fun hc => ?_) (fun hc => ?_)
    · refine C_seq ?_
      refine C_region ?_
      refine V_as rfl rfl ?_
      refine V_to (fun _ _ => rfl) ?_
      obtain rfl := Option.some.inj hm
      replace hH : Hp w.heap.size A w (obS (α := cal_Shift) 118 (.slice none 0 0) ([] : (List cal_Shift)) :: []) := Hp.addNil (α := cal_Shift) (e := 118) hH
      refine C_ret ?_
      try simp only [↓inBlock_ret, ↓then_ret]
      exact retQ rfl (Res.one Tryz.results106 rfl) ⟨.slice none 0 0, rfl, (Hp.ownd hH (i := 0) rfl), hK.kp⟩
    · exact absurd hc (by decide)
  · refine C_seq ?_
    refine C_region ?_
    refine V_as rfl rfl ?_
    refine V_to (fun _ _ => rfl) ?_
    refine C_seq ?_
    refine C_seq ?_
    refine C_region ?_
    refine V_mv rfl rfl ?_
    refine V_y (Y_eqlNilF rfl rfl Tryz.underlying63) rfl rfl rfl ?_
    refine V_to (fun _ _ => rfl) ?_
    refine C_cond rfl (fun hc => ?_) (fun hc => ?_)
    · exact absurd hc (by decide)
    · refine C_skip_to (fun _ _ => rfl) ?_
      refine C_seq ?_
      refine C_region ?_
      refine V_buildOwn0H (Dw := Dw) (α := cal_Shift) hH Tryz.underlying63 Tryz.sizeOf118 hB hA rfl ?_
      intro v3 w4 A5 hH6 ht7
      replace h_s := Sl.tr h_s ht7
      replace hK := Tr.trans hK ht7
      replace hB := Nat.le_trans hB ht7.ex.size
      replace hA := ht7.new
      replace hH : Hp w.heap.size A5 w4 (obS (α := cal_Shift) 118 v3 ([] : List cal_Shift) :: []) := hH6
      refine V_mv rfl rfl ?_
      obtain ⟨x8, hx8, hm⟩ := Option.bind_eq_some_iff.1 hm
      refine V_appendH (Dw := Dw) (e := 118) (v := v3) (l := ([] : List cal_Shift)) (ti := Tryz.t118) (bytes := 24) (lim := 5864062014805) hH (i := 0) rfl h_s hx8 Tryz.underlying63 Tryz_info118 rfl rfl rfl rfl (by decide) (by decide) (by decide) hB hA rfl rfl rfl ?_
      intro v9 w10 A11 hH12 ht13
      replace h_s := Sl.tr h_s ht13
      replace hK := Tr.trans hK ht13
      replace hB := Nat.le_trans hB ht13.ex.size
      replace hA := ht13.new
      replace hH : Hp w.heap.size A11 w10 (obS (α := cal_Shift) 118 v9 x8 :: []) := hH12
      refine V_as rfl rfl ?_
      refine V_to (fun _ _ => rfl) ?_
      obtain rfl := Option.some.inj hm
      refine C_ret ?_
      try simp only [↓inBlock_ret, ↓then_ret]
      exact retQ rfl (Res.one Tryz.results106 rfl) ⟨v9, rfl, (Hp.ownd hH (i := 0) rfl), hK.kp⟩

set_option maxRecDepth 4000 in
set_option maxHeartbeats 4000000 in
theorem cal_Calendar_shiftsOf_c (w : World) {A : Nat → Prop} (hA : ∀ b, w.heap.size ≤ b → A b) (c : cal_Calendar) (v_c0 : Value) (h_c0 : Sl A w v_c0 c.zone.changes) (v_c1 : Value) (h_c1 : Sl A w v_c1 c.week) (v_c2 : Value) (h_c2 : Sl A w v_c2 c.specials) (day : Int) {r : (List cal_Shift)} (hm : cal_Calendar_shiftsOf c day = some r) : Ret Tryz.prog 96 #[.agg #[.int .i64 c.zone.offset, v_c0, v_c1, v_c2], .int .i64 day] w fun v w' => ∃ s0, v = s0 ∧ Ownd 118 w w' s0 r ∧ Kp Dw w w' := by
  unfold cal_Calendar_shiftsOf at hm
  refine enter Tryz.func96 rfl Tryz.ntmps96 rfl ?_
  have hA0 := hA
  have hB := Nat.le_refl w.heap.size
  have hK : Tr Dw w.heap.size A w A w := Tr.refl (Dw := Dw) hA
  have hH : Hp w.heap.size A w [] := Hp.nil
  refine C_seq ?_
  refine C_region ?_
  refine V_box rfl rfl ?_
  intro b7 w9 h10
  have hk12 := h10.kp (Dw := Dw)
  have h11 : El (α := cal_Calendar) A w9 b7 0 c := h10.el hA ⟨[.int .i64 c.zone.offset, v_c0], _, rfl, ⟨[.int .i64 c.zone.offset], _, rfl, rfl, ⟨_, rfl, h_c0⟩⟩, ⟨[v_c1], _, rfl, ⟨_, rfl, h_c1⟩, ⟨_, rfl, h_c2⟩⟩⟩
  have ht13 := Kp.tr hk12 hA hB
  replace hH := Hp.kp hH hk12
  replace h_c0 := Sl.tr h_c0 ht13
  replace h_c1 := Sl.tr h_c1 ht13
  replace h_c2 := Sl.tr h_c2 ht13
  replace hK := Tr.trans hK ht13
  replace hB := Nat.le_trans hB ht13.ex.size
  replace hA := ht13.new
  refine V_as rfl rfl ?_
  refine V_to (fun _ _ => rfl) ?_
  refine C_seq ?_
  refine C_region ?_
  have h14 := El_cal_Calendar_2 h11
  refine V_y (Y_fieldAddr Tryz.underlying66 rfl Tryz.sizeOf64 (by decide) rfl) rfl rfl rfl ?_
  obtain ⟨v15, h16, h17⟩ := El.list h14
  refine V_y (Y_load h16 Tryz.isAgg64 rfl) rfl rfl rfl ?_
  refine V_mv rfl rfl ?_
  obtain ⟨x20, hx20, hm⟩ := Option.bind_eq_some_iff.1 hm
  refine V_call Tryz.call104 rfl rfl rfl rfl (slices_BinarySearchFunc_Lcal_Special_cal_Special_int_c (Dw := Dw) w9 hA c.specials v15 h17 day (fun y31 y32 => cal_Calendar_shiftsOf_1 y31 y32) 105 #[] #[] Tryz.call105 (fun w27 A28 ht29 h30 y21 v22 h23 y24 r25 h26 => (cal_Calendar_shiftsOf_1_c (Dw := Dw) w27 h30 y21 v22 h23 y24  h26).mono (fun _ _ h => ⟨h.1, h.2⟩)) hx20) ?_
  rintro _ w33 ⟨rfl, hk34⟩
  have ht35 := Kp.tr hk34 hA hB
  replace hH := Hp.kp hH hk34
  replace h11 := El.tr h11 ht35
  replace h14 := El.tr h14 ht35
  replace h17 := Sl.tr h17 ht35
  replace hK := Tr.trans hK ht35
  replace hB := Nat.le_trans hB ht35.ex.size
  replace hA := ht35.new
  refine V_mv rfl rfl ?_
  refine V_y (Y_extract rfl rfl) rfl rfl rfl ?_
  refine V_y (Y_extract rfl rfl) rfl rfl rfl ?_
  refine V_as rfl rfl ?_
  refine V_as rfl rfl ?_
  refine V_to (fun _ _ => rfl) ?_
  refine C_seq ?_
  refine C_seq ?_
  refine C_region ?_
  refine V_mv rfl rfl ?_
  refine V_to (fun _ _ => rfl) ?_
  refine C_cond rfl (fun hc36 => ?_) (fun hc36 => ?_)
  · rw [if_pos hc36] at hm
    refine C_seq ?_
    refine C_region ?_
    have h37 := El_cal_Calendar_2 h11
    refine V_y (Y_fieldAddr Tryz.underlying66 rfl Tryz.sizeOf64 (by decide) rfl) rfl rfl rfl ?_
    obtain ⟨v38, h39, h40⟩ := El.list h37
    refine V_y (Y_load h39 Tryz.isAgg64 rfl) rfl rfl rfl ?_
    refine V_mv rfl rfl ?_
    obtain ⟨x41, hx41, hm⟩ := Option.bind_eq_some_iff.1 hm
    refine V_indexAddr h40 hx41 Tryz.underlying64 Tryz.sizeOf88 rfl rfl rfl ?_
    intro b42 o43 h44
    have h45 := El_cal_Special_1 h44
    refine V_y (Y_fieldAddr Tryz.underlying88 rfl Tryz.sizeOf63 (by decide) rfl) rfl rfl rfl ?_
    obtain ⟨v46, h47, h48⟩ := El.list h45
    refine V_y (Y_load h47 Tryz.isAgg63 rfl) rfl rfl rfl ?_
    obtain ⟨x49, hx49, hm⟩ := Option.bind_eq_some_iff.1 hm
    refine V_call Tryz.call106 rfl rfl rfl rfl (slices_Clone_Lcal_Shift_cal_Shift_c (Dw := Dw) w33 hA x41.shifts v46 h48 hx49) ?_
    rintro v50 w52 ⟨_, rfl, h51, hk53⟩
    obtain ⟨A54, ht55, hH56⟩ := Hp.addOwnd (Dw := Dw) hH hB hA hk53 h51
    replace h11 := El.tr h11 ht55
    replace h37 := El.tr h37 ht55
    replace h40 := Sl.tr h40 ht55
    replace h44 := El.tr h44 ht55
    replace h45 := El.tr h45 ht55
    replace h48 := Sl.tr h48 ht55
    replace hK := Tr.trans hK ht55
    replace hB := Nat.le_trans hB ht55.ex.size
    replace hA := ht55.new
    replace hH : Hp w.heap.size A54 w52 (obS (α := cal_Shift) 118 v50 x49 :: []) := hH56
    refine V_as rfl rfl ?_
    refine V_to (fun _ _ => rfl) ?_
    obtain rfl := Option.some.inj hm
    refine C_ret ?_
    try simp only [↓inBlock_ret, ↓then_ret]
    exact retQ rfl (Res.one Tryz.results96 rfl) ⟨v50, rfl, (Hp.ownd hH (i := 0) rfl), hK.kp⟩
  · rw [if_neg (nt hc36)] at hm
    refine C_skip_to (fun _ _ => rfl) ?_
    refine C_seq ?_
    refine C_region ?_
    refine V_as rfl rfl ?_
    refine V_to (fun _ _ => rfl) ?_
    refine C_seq ?_
    refine C_seq ?_
    refine C_region ?_
    have h57 := El_cal_Calendar_1 h11
    refine V_y (Y_fieldAddr Tryz.underlying66 rfl Tryz.sizeOf63 (by decide) rfl) rfl rfl rfl ?_
    obtain ⟨v58, h59, h60⟩ := El.list h57
    refine V_y (Y_load h59 Tryz.isAgg63 rfl) rfl rfl rfl ?_
    refine V_y (Y_lenSl h60 rfl Tryz.underlying63 rfl) rfl rfl rfl ?_
    refine V_mv rfl rfl ?_
    refine V_to (fun _ _ => rfl) ?_
    replace hH : Hp w.heap.size A w33 (obS (α := cal_Shift) 118 (.slice none 0 0) ([] : (List cal_Shift)) :: []) := Hp.addNil (α := cal_Shift) (e := 118) hH
    have hn85 := Sl.le h60
    obtain ⟨o61, ho61, hm⟩ := Option.bind_eq_some_iff.1 hm
    refine C_cutG (ι := ((List cal_Shift) × Value × (Nat → Prop))) (fun ⟨s62, v68, A70⟩ => [(7, v68)]) (fun ⟨s62, v68, A70⟩ => fun w' => o61 = .fin s62 ∧ Hp w.heap.size A70 w' (obS (α := cal_Shift) 118 v68 s62 :: []) ∧ Tr Dw w.heap.size A w33 A70 w') ?_ ?_
    · refine C_block ?_
      refine C_range ho61 (fun k64 s72 a w' => ∃ i : (Value × (Nat → Prop)), Has ⟨50, [], none⟩ a ([(1, .int .i64 day), (7, i.1), (26, v58), (27, .int .i64 (c.week.length : Int)), (28, .int .i64 (k64 : Int))]) ∧ Hp w.heap.size i.2 w' (obS (α := cal_Shift) 118 i.1 s72 :: []) ∧ Tr Dw w.heap.size A w33 i.2 w') (fun a ha => ⟨(.slice none 0 0, A), ha.sub ⟨rfl, rfl, rfl, rfl, rfl, trivial⟩, ⟨hH, Tr.refl (Dw := Dw) hA⟩⟩) ?_
      rintro K k64 s72 a w73 ⟨⟨v74, A76⟩, ha144, hH77, hr63⟩ hle81 K84 h83
      refine C_of ?_ ha144
      replace h60 := Sl.tr h60 hr63
      replace hK := Tr.trans hK hr63
      replace hB := Nat.le_trans hB hr63.ex.size
      replace hA := hr63.new
      replace hH : Hp w.heap.size A76 w73 (obS (α := cal_Shift) 118 v74 s72 :: []) := hH77
      refine C_seq (C_region (V_y (Y_lss rfl rfl) rfl rfl rfl (V_to (fun _ _ => rfl) ?_)))
      refine C_seq ?_
      refine C_cond rfl (fun hc86 => ?_) (fun hc86 => ?_)
      · have hlt82 := lt_of_dec hc86
        obtain ⟨x78, h79, h80⟩ := K84 hlt82
        refine C_skip_to (fun _ _ => rfl) ?_
        refine C_seq ?_
        obtain ⟨s88, ho87, h79⟩ := Option.bind_eq_some_iff.1 h79
        refine C_cutG (ι := (Value × (Nat → Prop))) (fun ⟨v90, A95⟩ => [(1, .int .i64 day), (7, v90), (26, v58), (27, .int .i64 (c.week.length : Int)), (28, .int .i64 (k64 : Int))]) (fun ⟨v90, A95⟩ => fun w' => Hp w.heap.size A95 w' (obS (α := cal_Shift) 118 v90 s88 :: []) ∧ Tr Dw w.heap.size A76 w73 A95 w') ?_ ?_
        · have hr89 : Tr Dw w.heap.size A76 w73 A76 w73 := Tr.refl (Dw := Dw) hA
          refine C_block ?_
          refine C_seq ?_
          refine C_region ?_
          obtain ⟨x97, hx97, ho87⟩ := Option.bind_eq_some_iff.1 ho87
          refine V_indexAddr h60 hx97 Tryz.underlying63 Tryz.sizeOf118 rfl rfl rfl ?_
          intro b98 o99 h100
          obtain ⟨h101, _⟩ := El_cal_Shift h100
          refine V_y (Y_loadA h101 Tryz.isAgg118 Tryz.sizeOf118 rfl) rfl rfl rfl ?_
          refine V_alloc Tryz.zeroValue118 rfl ?_
          intro b102 w103 h104
          refine V_storeNew h104 Tryz.sizeOf118 rfl rfl rfl rfl (by exact (List.forall_mem_cons.2 ⟨rfl, (List.forall_mem_cons.2 ⟨rfl, (List.forall_mem_cons.2 ⟨rfl, (fun _ h => nomatch h)⟩)⟩)⟩)) ?_
          intro w105 h106
          have hk108 := h106.kp (Dw := Dw)
          have h107 : El (α := cal_Shift) A76 w105 b102 0 x97 := h106.el hA ⟨[.int .i64 x97.day], _, rfl, rfl, ⟨[.int .i64 x97.from_], _, rfl, rfl, rfl⟩⟩
          have ht109 := Kp.tr hk108 hA hB
          replace hH := Hp.kp hH hk108
          replace h60 := Sl.tr h60 ht109
          replace h100 := El.tr h100 ht109
          replace hK := Tr.trans hK ht109
          replace hr63 := Tr.trans hr63 ht109
          replace hr89 := Tr.trans hr89 ht109
          replace hB := Nat.le_trans hB ht109.ex.size
          replace hA := ht109.new
          refine V_to (fun _ _ => rfl) ?_
          refine C_seq ?_
          refine C_region_q (Dw := Dw) Tryz_mixed (by kernel_rfl) ?_
          have h110 := El_cal_Shift_0 h107
          refine VQ_y (fun w' hw' => Y_fieldAddr Tryz.underlying118 rfl Tryz.sizeOf3 (by decide) rfl) rfl rfl rfl ?_
          refine VQ_y (fun w' hw' => Y_load (El.int (El.kp (Dw := Dw) h110 hw')) Tryz.isAgg3 rfl) rfl rfl rfl ?_
          refine VQ_y (fun w' hw' => Y_move rfl) rfl rfl rfl ?_
          refine VQ_y (fun w' hw' => Y_move rfl) rfl rfl rfl ?_
          obtain ⟨x111, hx111, ho87⟩ := Option.bind_eq_some_iff.1 ho87
          refine VQ_call (.int .i64 x111) Tryz.call97 rfl rfl rfl rfl (fun w' hw' => (cal_floor_c w' day 7 hx111).mono (fun _ _ h => ⟨h.1, h.2 ▸ hw'⟩)) ?_
          refine VQ_y (fun w' hw' => Y_mulI rfl rfl) rfl rfl rfl ?_
          refine VQ_y (fun w' hw' => Y_subI rfl rfl) rfl rfl rfl ?_
          refine VQ_y (fun w' hw' => Y_eql rfl rfl) rfl rfl rfl ?_
          refine VQ_to (fun _ _ => rfl) (fun w112 hk113 => ?_)
          have ht114 := Kp.tr hk113 hA hB
          replace hH := Hp.kp hH hk113
          replace h60 := Sl.tr h60 ht114
          replace h107 := El.tr h107 ht114
          replace hK := Tr.trans hK ht114
          replace hr63 := Tr.trans hr63 ht114
          replace hr89 := Tr.trans hr89 ht114
          replace hB := Nat.le_trans hB ht114.ex.size
          replace hA := ht114.new
          obtain ⟨s116, ho115, ho87⟩ := Option.bind_eq_some_iff.1 ho87
          refine C_cutG (ι := (Value × (Nat → Prop))) (fun ⟨v118, A123⟩ => [(1, .int .i64 day), (7, v118), (26, v58), (27, .int .i64 (c.week.length : Int)), (28, .int .i64 (k64 : Int))]) (fun ⟨v118, A123⟩ => fun w' => Hp w.heap.size A123 w' (obS (α := cal_Shift) 118 v118 s116 :: []) ∧ Tr Dw w.heap.size A76 w112 A123 w') ?_ ?_
          · have hr117 : Tr Dw w.heap.size A76 w112 A76 w112 := Tr.refl (Dw := Dw) hA
            refine C_cond rfl (fun hc125 => ?_) (fun hc125 => ?_)
            · rw [if_pos hc125] at ho115
              refine C_region ?_
              refine V_mv rfl rfl ?_
              have h126 := El_cal_Shift_1 h107
              refine V_y (Y_fieldAddr Tryz.underlying118 rfl Tryz.sizeOf3 (by decide) rfl) rfl rfl rfl ?_
              refine V_y (Y_load (El.int h126) Tryz.isAgg3 rfl) rfl rfl rfl ?_
              have h127 := El_cal_Shift_2 h107
              refine V_y (Y_fieldAddr Tryz.underlying118 rfl Tryz.sizeOf3 (by decide) rfl) rfl rfl rfl ?_
              refine V_y (Y_load (El.int h127) Tryz.isAgg3 rfl) rfl rfl rfl ?_
              refine V_y (Y_build Tryz.underlying118 Tryz.zeroValue118 (Tryz_places118 _ Tryz.underlying118) rfl (by with_unfolding_all rfl)) rfl rfl rfl ?_
              refine V_buildSlice (Dw := Dw) (cells := #[.int .i64 0, .int .i64 x97.from_, .int .i64 x97.to_]) (l := ([(⟨0, x97.from_, x97.to_⟩ : cal_Shift)] : List cal_Shift)) (len := 1) Tryz.underlying63 Tryz.sizeOf118 Tryz.zeroValue118 rfl (by kernel_rfl) (show (1 * 3 : Nat) ≠ 0 by decide) (show (1 * 3 : Nat) ≤ 2 ^ 24 by decide) hA ⟨[.int .i64 0, .int .i64 x97.from_, .int .i64 x97.to_], _, rfl, ⟨[.int .i64 0], _, rfl, rfl, ⟨[.int .i64 x97.from_], _, rfl, rfl, rfl⟩⟩, rfl⟩ rfl rfl ?_
              intro v128 w129 hk131 h130
              have ht132 := Kp.tr hk131 hA hB
              replace hH := Hp.kp hH hk131
              replace h60 := Sl.tr h60 ht132
              replace h107 := El.tr h107 ht132
              replace h126 := El.tr h126 ht132
              replace h127 := El.tr h127 ht132
              replace hK := Tr.trans hK ht132
              replace hr63 := Tr.trans hr63 ht132
              replace hr89 := Tr.trans hr89 ht132
              replace hr117 := Tr.trans hr117 ht132
              replace hB := Nat.le_trans hB ht132.ex.size
              replace hA := ht132.new
              obtain ⟨x133, hx133, ho115⟩ := Option.bind_eq_some_iff.1 ho115
              refine V_appendH (Dw := Dw) (e := 118) (v := v74) (l := s72) (ti := Tryz.t118) (bytes := 24) (lim := 5864062014805) hH (i := 0) rfl h130 hx133 Tryz.underlying63 Tryz_info118 rfl rfl rfl rfl (by decide) (by decide) (by decide) hB hA rfl rfl rfl ?_
              intro v134 w135 A136 hH137 ht138
              replace h60 := Sl.tr h60 ht138
              replace h107 := El.tr h107 ht138
              replace h126 := El.tr h126 ht138
              replace h127 := El.tr h127 ht138
              replace h130 := Sl.tr h130 ht138
              replace hK := Tr.trans hK ht138
              replace hr63 := Tr.trans hr63 ht138
              replace hr89 := Tr.trans hr89 ht138
              replace hr117 := Tr.trans hr117 ht138
              replace hB := Nat.le_trans hB ht138.ex.size
              replace hA := ht138.new
              replace hH : Hp w.heap.size A136 w135 (obS (α := cal_Shift) 118 v134 x133 :: []) := hH137
              refine V_as rfl rfl ?_
              obtain rfl := Option.some.inj ho115
              refine V_end (fun a ha139 => ?_)
              exact ⟨(v134, A136), ha139.sub ⟨rfl, rfl, rfl, rfl, rfl, trivial⟩, ⟨hH, hr117⟩⟩
            · rw [if_neg (nt hc125)] at ho115
              obtain rfl := Option.some.inj ho115
              refine C_skip (fun a ha140 => ?_)
              exact ⟨(v74, A76), ha140.sub ⟨rfl, rfl, rfl, rfl, rfl, trivial⟩, ⟨hH, hr117⟩⟩
          rintro ⟨v118, A123⟩ w120 ⟨hH124, hk121⟩ a ha122
          replace h60 := Sl.tr h60 hk121
          replace hK := Tr.trans hK hk121
          replace hr63 := Tr.trans hr63 hk121
          replace hr89 := Tr.trans hr89 hk121
          replace hB := Nat.le_trans hB hk121.ex.size
          replace hA := hk121.new
          replace hH : Hp w.heap.size A123 w120 (obS (α := cal_Shift) 118 v118 s116 :: []) := hH124
          obtain rfl := Option.some.inj ho87
          exact ⟨(v118, A123), ha122.sub ⟨rfl, rfl, rfl, rfl, rfl, trivial⟩, ⟨hH, hr89⟩⟩
        rintro ⟨v90, A95⟩ w92 ⟨hH96, hk93⟩ a ha94
        replace h60 := Sl.tr h60 hk93
        replace hK := Tr.trans hK hk93
        replace hr63 := Tr.trans hr63 hk93
        replace hB := Nat.le_trans hB hk93.ex.size
        replace hA := hk93.new
        replace hH : Hp w.heap.size A95 w92 (obS (α := cal_Shift) 118 v90 s88 :: []) := hH96
        refine C_at (n := ⟨50, [], none⟩) (fun _ _ => rfl) ?_ ha94
        refine C_region ?_
        refine V_y (Y_addI rfl rfl) rfl rfl rfl ?_
        refine V_mv rfl rfl ?_
        obtain rfl := Option.some.inj h79
        refine V_end (fun a ha142 => ?_)
        exact ⟨s88, hlt82, h80, ⟨(v90, A95), ha142.sub ⟨rfl, rfl, rfl, rfl, (congrArg (fun z => some (Value.int .i64 z)) (w64_succ hlt82 hn85)), trivial⟩, ⟨hH, hr63⟩⟩⟩
      · refine C_exit (fun a ha143 => ?_)
        exact ⟨(s72, v74, A76), ha143.sub ⟨rfl, trivial⟩, ⟨(h83 (eq_of_dec hle81 hc86)).symm, hH, hr63⟩⟩
    rintro ⟨s62, v68, A70⟩ w65 ⟨rfl, hH71, hk66⟩ a ha67
    rw [Lp.andThen_fin] at hm
    replace hK := Tr.trans hK hk66
    replace hB := Nat.le_trans hB hk66.ex.size
    replace hA := hk66.new
    replace hH : Hp w.heap.size A70 w65 (obS (α := cal_Shift) 118 v68 s62 :: []) := hH71
    refine C_at (n := ⟨50, [], none⟩) (fun _ _ => rfl) ?_ ha67
    refine C_seq ?_
    refine C_region ?_
    refine V_mv rfl rfl ?_
    refine V_as rfl rfl ?_
    refine V_to (fun _ _ => rfl) ?_
    obtain rfl := Option.some.inj hm
    refine C_ret ?_
    try simp only [↓inBlock_ret, ↓then_ret]
    exact retQ rfl (Res.one Tryz.results96 rfl) ⟨v68, rfl, (Hp.ownd hH (i := 0) rfl), hK.kp⟩

set_option maxRecDepth 4000 in
set_option maxHeartbeats 4000000 in
theorem cal_Calendar_shifts_1_1_c (w : World) {A : Nat → Prop} {B : Nat} (hB : B ≤ w.heap.size) (hA : ∀ b, w.heap.size ≤ b → A b) (day : Int) (p1 : cal_Calendar) (b_p1 : Nat) (h_p1 : El A w b_p1 0 p1) (p2 : cal_part) (b_p2 : Nat) (h_p2 : El A w b_p2 0 p2) (p3 : Int) (b_p3 : Nat) (h_p3 : El A w b_p3 0 p3) (p4 : Int) (b_p4 : Nat) (h_p4 : El A w b_p4 0 p4) {p5_S : Type} (p5 : cal_Span → p5_S → Option (Bool × p5_S)) (p5_Y : p5_S → Ob) (p5_v : Value) (p5_one : p5_v.cells.toList = [p5_v]) (p5_s : p5_S) (p5_spec : ∀ (w2 : World) (A2 : Nat → Prop) (L2 : List Ob) (x : cal_Span) (z : p5_S) (b : Bool) (z2 : p5_S), B ≤ w2.heap.size → (∀ b, w2.heap.size ≤ b → A2 b) → Tr Dw B A w A2 w2 → Hp B A2 w2 (p5_Y z :: L2) → p5 x z = some (b, z2) → CallV Tryz.prog p5_v [.agg #[.int .i64 x.from_, .int .i64 x.to_]] w2 fun v w3 => v = .bool b ∧ ∃ A3, Tr Dw B A2 w2 A3 w3 ∧ Hp B A3 w3 (p5_Y z2 :: L2)) (b_p5 : Nat) (h_p5 : Vb A w b_p5 p5_v) {L : List Ob} (hH : Hp B A w (p5_Y p5_s :: L)) {r : (Bool × p5_S)} (hm : cal_Calendar_shifts_1_1 day p1 p2 p3 p4 p5 p5_s = some r) : Ret Tryz.prog 95 #[.int .i64 day, .pointer (some ⟨b_p1, 0, none⟩), .pointer (some ⟨b_p2, 0, none⟩), .pointer (some ⟨b_p3, 0, none⟩), .pointer (some ⟨b_p4, 0, none⟩), .pointer (some ⟨b_p5, 0, none⟩)] w fun v w' => ∃ A1 : Nat → Prop, v = .bool r.1 ∧ Hp B A1 w' (p5_Y r.2 :: L) ∧ Tr Dw B A w A1 w' := by
  unfold cal_Calendar_shifts_1_1 at hm
  refine enter Tryz.func95 rfl Tryz.ntmps95 rfl ?_
  have hK : Tr Dw B A w A w := Tr.refl (Dw := Dw) hA
  refine C_seq ?_
  refine C_region ?_
  refine V_as rfl rfl ?_
  refine V_to (fun _ _ => rfl) ?_
  refine C_seq ?_
  refine C_seq ?_
  refine C_region ?_
  obtain ⟨v1, v3, v5, h7, h2, h4, h6⟩ := El_cal_Calendar h_p1
  refine V_y (Y_loadA h7 Tryz.isAgg66 Tryz.sizeOf66 rfl) rfl rfl rfl ?_
  refine V_mv rfl rfl ?_
  obtain ⟨x8, hx8, hm⟩ := Option.bind_eq_some_iff.1 hm
  refine V_call Tryz.call96 rfl rfl rfl rfl (cal_Calendar_shiftsOf_c (Dw := Dw) w hA p1 v1 h2 v3 h4 v5 h6 day hx8) ?_
  rintro v9 w11 ⟨_, rfl, h10, hk12⟩
  obtain ⟨A13, ht14, hH15⟩ := Hp.addOwnd (Dw := Dw) hH hB hA hk12 h10
  replace h_p1 := El.tr h_p1 ht14
  replace h_p2 := El.tr h_p2 ht14
  replace h_p3 := El.tr h_p3 ht14
  replace h_p4 := El.tr h_p4 ht14
  replace h_p5 := Vb.tr (Dw := Dw) h_p5 ht14
  replace h2 := Sl.tr h2 ht14
  replace h4 := Sl.tr h4 ht14
  replace h6 := Sl.tr h6 ht14
  replace hK := Tr.trans hK ht14
  replace hB := Nat.le_trans hB ht14.ex.size
  replace hA := ht14.new
  replace hH : Hp B A13 w11 (obS (α := cal_Shift) 118 v9 x8 :: p5_Y p5_s :: L) := hH15
  refine V_y (Y_lenSl (Hp.any (α := cal_Shift) (e := 118) (v := v9) (l := x8) hH (i := 0) rfl) rfl Tryz.underlying63 rfl) rfl rfl rfl ?_
  refine V_mv rfl rfl ?_
  refine V_to (fun _ _ => rfl) ?_
  have hn36 := Hp.le (α := cal_Shift) (e := 118) (v := v9) (l := x8) hH (i := 0) rfl
  obtain ⟨o16, ho16, hm⟩ := Option.bind_eq_some_iff.1 hm
  refine C_cutG (ι := (p5_S × (Nat → Prop))) (fun ⟨s17, A23⟩ => []) (fun ⟨s17, A23⟩ => fun w' => o16 = .fin s17 ∧ Hp B A23 w' (obS (α := cal_Shift) 118 v9 x8 :: p5_Y s17 :: L) ∧ Tr Dw B A13 w11 A23 w') ?_ ?_
  · refine C_block ?_
    refine C_range ho16 (fun k19 s25 a w' => ∃ i : (Nat → Prop), Has ⟨50, [], none⟩ a ([(0, .int .i64 day), (2, .pointer (some ⟨b_p2, 0, none⟩)), (3, .pointer (some ⟨b_p3, 0, none⟩)), (4, .pointer (some ⟨b_p4, 0, none⟩)), (5, .pointer (some ⟨b_p5, 0, none⟩)), (14, v9), (15, .int .i64 (x8.length : Int)), (16, .int .i64 (k19 : Int))]) ∧ Hp B i w' (obS (α := cal_Shift) 118 v9 x8 :: p5_Y s25 :: L) ∧ Tr Dw B A13 w11 i w') (fun a ha => ⟨A13, ha.sub ⟨rfl, rfl, rfl, rfl, rfl, rfl, rfl, rfl, trivial⟩, ⟨hH, Tr.refl (Dw := Dw) hA⟩⟩) ?_
    rintro K k19 s25 a w26 ⟨A27, ha85, hH28, hr18⟩ hle32 K35 h34
    refine C_of ?_ ha85
    replace h_p2 := El.tr h_p2 hr18
    replace h_p3 := El.tr h_p3 hr18
    replace h_p4 := El.tr h_p4 hr18
    replace h_p5 := Vb.tr (Dw := Dw) h_p5 hr18
    replace hK := Tr.trans hK hr18
    replace hB := Nat.le_trans hB hr18.ex.size
    replace hA := hr18.new
    replace hH : Hp B A27 w26 (obS (α := cal_Shift) 118 v9 x8 :: p5_Y s25 :: L) := hH28
    refine C_seq (C_region (V_y (Y_lss rfl rfl) rfl rfl rfl (V_to (fun _ _ => rfl) ?_)))
    refine C_seq ?_
    refine C_cond rfl (fun hc37 => ?_) (fun hc37 => ?_)
    · have hlt33 := lt_of_dec hc37
      obtain ⟨x29, h30, h31⟩ := K35 hlt33
      refine C_skip_to (fun _ _ => rfl) ?_
      refine C_seq ?_
      refine C_block ?_
      refine C_seq ?_
      refine C_region ?_
      obtain ⟨x38, hx38, h30⟩ := Option.bind_eq_some_iff.1 h30
      refine V_indexAddrH (α := cal_Shift) (e := 118) (v := v9) (l := x8) hH (i := 0) rfl hx38 Tryz.underlying63 Tryz.sizeOf118 rfl rfl rfl ?_
      intro b39 o40 h41 hl42
      obtain ⟨h43, _⟩ := El_cal_Shift h41
      refine V_y (Y_loadA h43 Tryz.isAgg118 Tryz.sizeOf118 rfl) rfl rfl rfl ?_
      refine V_alloc Tryz.zeroValue118 rfl ?_
      intro b44 w45 h46
      refine V_storeNew h46 Tryz.sizeOf118 rfl rfl rfl rfl (by exact (List.forall_mem_cons.2 ⟨rfl, (List.forall_mem_cons.2 ⟨rfl, (List.forall_mem_cons.2 ⟨rfl, (fun _ h => nomatch h)⟩)⟩)⟩)) ?_
      intro w47 h48
      have hk50 := h48.kp (Dw := Dw)
      have h49 : El (α := cal_Shift) A27 w47 b44 0 x38 := h48.el hA ⟨[.int .i64 x38.day], _, rfl, rfl, ⟨[.int .i64 x38.from_], _, rfl, rfl, rfl⟩⟩
      have ht51 := Kp.tr hk50 hA hB
      replace hH := Hp.kp hH hk50
      replace h_p2 := El.tr h_p2 ht51
      replace h_p3 := El.tr h_p3 ht51
      replace h_p4 := El.tr h_p4 ht51
      replace h_p5 := Vb.tr (Dw := Dw) h_p5 ht51
      replace h41 := El.kp (Dw := Dw) h41 hk50
      replace hK := Tr.trans hK ht51
      replace hr18 := Tr.trans hr18 ht51
      replace hB := Nat.le_trans hB ht51.ex.size
      replace hA := ht51.new
      refine V_to (fun _ _ => rfl) ?_
      refine C_seq ?_
      refine C_region ?_
      refine V_mv rfl rfl ?_
      refine V_y (Y_mulI rfl rfl) rfl rfl rfl ?_
      have h52 := El_cal_part_2 h_p2
      refine V_y (Y_fieldAddr Tryz.underlying136 rfl Tryz.sizeOf3 (by decide) rfl) rfl rfl rfl ?_
      refine V_y (Y_load (El.int h52) Tryz.isAgg3 rfl) rfl rfl rfl ?_
      refine V_y (Y_subI rfl rfl) rfl rfl rfl ?_
      refine V_as rfl rfl ?_
      refine V_to (fun _ _ => rfl) ?_
      refine C_seq ?_
      refine C_region ?_
      refine V_y (Y_load (El.int h_p3) Tryz.isAgg3 rfl) rfl rfl rfl ?_
      refine V_mv rfl rfl ?_
      have h53 := El_cal_Shift_1 h49
      refine V_y (Y_fieldAddr Tryz.underlying118 rfl Tryz.sizeOf3 (by decide) rfl) rfl rfl rfl ?_
      refine V_y (Y_load (El.int h53) Tryz.isAgg3 rfl) rfl rfl rfl ?_
      refine V_y (Y_addI rfl rfl) rfl rfl rfl ?_
      refine V_y (Y_max2 rfl rfl) rfl rfl rfl ?_
      refine V_y (Y_load (El.int h_p4) Tryz.isAgg3 rfl) rfl rfl rfl ?_
      refine V_mv rfl rfl ?_
      have h54 := El_cal_Shift_2 h49
      refine V_y (Y_fieldAddr Tryz.underlying118 rfl Tryz.sizeOf3 (by decide) rfl) rfl rfl rfl ?_
      refine V_y (Y_load (El.int h54) Tryz.isAgg3 rfl) rfl rfl rfl ?_
      refine V_y (Y_addI rfl rfl) rfl rfl rfl ?_
      refine V_y (Y_min2 rfl rfl) rfl rfl rfl ?_
      refine V_y (Y_build Tryz.underlying94 Tryz.zeroValue94 (Tryz_places94 _ Tryz.underlying94) rfl (by with_unfolding_all rfl)) rfl rfl rfl ?_
      refine V_alloc Tryz.zeroValue94 rfl ?_
      intro b55 w56 h57
      refine V_storeNew h57 Tryz.sizeOf94 rfl rfl rfl rfl (by exact (List.forall_mem_cons.2 ⟨rfl, (List.forall_mem_cons.2 ⟨rfl, (fun _ h => nomatch h)⟩)⟩)) ?_
      intro w58 h59
      have hk61 := h59.kp (Dw := Dw)
      have h60 : El (α := cal_Span) A27 w58 b55 0 (⟨(if p3 < w64 ((w64 ((w64 (day * 1440)) - p2.offset)) + x38.from_) then w64 ((w64 ((w64 (day * 1440)) - p2.offset)) + x38.from_) else p3), (if w64 ((w64 ((w64 (day * 1440)) - p2.offset)) + x38.to_) < p4 then w64 ((w64 ((w64 (day * 1440)) - p2.offset)) + x38.to_) else p4)⟩ : cal_Span) := h59.el hA ⟨[.int .i64 (if p3 < w64 ((w64 ((w64 (day * 1440)) - p2.offset)) + x38.from_) then w64 ((w64 ((w64 (day * 1440)) - p2.offset)) + x38.from_) else p3)], _, rfl, rfl, rfl⟩
      have ht62 := Kp.tr hk61 hA hB
      replace hH := Hp.kp hH hk61
      replace h_p2 := El.tr h_p2 ht62
      replace h_p3 := El.tr h_p3 ht62
      replace h_p4 := El.tr h_p4 ht62
      replace h_p5 := Vb.tr (Dw := Dw) h_p5 ht62
      replace h49 := El.tr h49 ht62
      replace h53 := El.tr h53 ht62
      replace h54 := El.tr h54 ht62
      replace hK := Tr.trans hK ht62
      replace hr18 := Tr.trans hr18 ht62
      replace hB := Nat.le_trans hB ht62.ex.size
      replace hA := ht62.new
      refine V_to (fun _ _ => rfl) ?_
      refine C_seq ?_
      obtain ⟨s64, ho63, h30⟩ := Option.bind_eq_some_iff.1 h30
      refine C_cutG (ι := (Nat → Prop)) (fun (A69 : (Nat → Prop)) => [(0, .int .i64 day), (2, .pointer (some ⟨b_p2, 0, none⟩)), (3, .pointer (some ⟨b_p3, 0, none⟩)), (4, .pointer (some ⟨b_p4, 0, none⟩)), (5, .pointer (some ⟨b_p5, 0, none⟩)), (14, v9), (15, .int .i64 (x8.length : Int)), (16, .int .i64 (k19 : Int)), (48, .bool s64.1)]) (fun (A69 : (Nat → Prop)) => fun w' => Hp B A69 w' (obS (α := cal_Shift) 118 v9 x8 :: p5_Y s64.2 :: L) ∧ Tr Dw B A27 w58 A69 w') ?_ ?_
      · have hr65 : Tr Dw B A27 w58 A27 w58 := Tr.refl (Dw := Dw) hA
        refine C_region ?_
        have h71 := El_cal_Span_0 h60
        refine V_y (Y_fieldAddr Tryz.underlying94 rfl Tryz.sizeOf3 (by decide) rfl) rfl rfl rfl ?_
        refine V_y (Y_load (El.int h71) Tryz.isAgg3 rfl) rfl rfl rfl ?_
        have h72 := El_cal_Span_1 h60
        refine V_y (Y_fieldAddr Tryz.underlying94 rfl Tryz.sizeOf3 (by decide) rfl) rfl rfl rfl ?_
        refine V_y (Y_load (El.int h72) Tryz.isAgg3 rfl) rfl rfl rfl ?_
        refine V_y (Y_lss rfl rfl) rfl rfl rfl ?_
        refine V_mv rfl rfl ?_
        rcases Bool.eq_false_or_eq_true (decide (((⟨(if p3 < w64 ((w64 ((w64 (day * 1440)) - p2.offset)) + x38.from_) then w64 ((w64 ((w64 (day * 1440)) - p2.offset)) + x38.from_) else p3), (if w64 ((w64 ((w64 (day * 1440)) - p2.offset)) + x38.to_) < p4 then w64 ((w64 ((w64 (day * 1440)) - p2.offset)) + x38.to_) else p4)⟩ : cal_Span).from_) < ((⟨(if p3 < w64 ((w64 ((w64 (day * 1440)) - p2.offset)) + x38.from_) then w64 ((w64 ((w64 (day * 1440)) - p2.offset)) + x38.from_) else p3), (if w64 ((w64 ((w64 (day * 1440)) - p2.offset)) + x38.to_) < p4 then w64 ((w64 ((w64 (day * 1440)) - p2.offset)) + x38.to_) else p4)⟩ : cal_Span).to_))) with hc73 | hc73
        · rw [if_pos hc73] at ho63
          refine V_ge rfl rfl rfl hc73 ?_
          refine V_y (Y_load h_p5.2.2 Tryz.isAgg121 rfl) rfl rfl rfl ?_
          refine V_ge rfl rfl rfl hc73 ?_
          obtain ⟨h74, _⟩ := El_cal_Span h60
          refine V_y (Y_loadA h74 Tryz.isAgg94 Tryz.sizeOf94 rfl) rfl rfl rfl ?_
          refine V_ge rfl rfl rfl hc73 ?_
          obtain ⟨x75, hx75, ho63⟩ := Option.bind_eq_some_iff.1 ho63
          replace hH : Hp B A27 w58 (p5_Y s25 :: obS (α := cal_Shift) 118 v9 x8 :: L) := Hp.front hH (i := 1) rfl
          refine V_callV rfl rfl rfl (p5_spec w58 _ _ (⟨(if p3 < w64 ((w64 ((w64 (day * 1440)) - p2.offset)) + x38.from_) then w64 ((w64 ((w64 (day * 1440)) - p2.offset)) + x38.from_) else p3), (if w64 ((w64 ((w64 (day * 1440)) - p2.offset)) + x38.to_) < p4 then w64 ((w64 ((w64 (day * 1440)) - p2.offset)) + x38.to_) else p4)⟩ : cal_Span) _ x75.1 x75.2 hB hA hK hH hx75) ?_
          rintro _ w76 ⟨rfl, A77, ht79, hH78⟩
          replace h_p2 := El.tr h_p2 ht79
          replace h_p3 := El.tr h_p3 ht79
          replace h_p4 := El.tr h_p4 ht79
          replace h_p5 := Vb.tr (Dw := Dw) h_p5 ht79
          replace h60 := El.tr h60 ht79
          replace h71 := El.tr h71 ht79
          replace h72 := El.tr h72 ht79
          replace hK := Tr.trans hK ht79
          replace hr18 := Tr.trans hr18 ht79
          replace hr65 := Tr.trans hr65 ht79
          replace hB := Nat.le_trans hB ht79.ex.size
          replace hA := ht79.new
          replace hH : Hp B A77 w76 (p5_Y x75.2 :: obS (α := cal_Shift) 118 v9 x8 :: L) := hH78
          refine V_ge rfl rfl rfl hc73 ?_
          refine V_y (Y_not rfl) rfl rfl rfl ?_
          refine V_y (Y_pick_te rfl hc73 rfl) rfl rfl rfl ?_
          obtain rfl := Option.some.inj ho63
          refine V_end (fun a ha80 => ?_)
          replace hH : Hp B A77 w76 (obS (α := cal_Shift) 118 v9 x8 :: p5_Y x75.2 :: L) := Hp.front hH (i := 1) rfl
          exact ⟨A77, ha80.sub ⟨rfl, rfl, rfl, rfl, rfl, rfl, rfl, rfl, rfl, trivial⟩, ⟨hH, hr65⟩⟩
        · rw [if_neg (nt hc73)] at ho63
          refine V_gn rfl rfl rfl hc73 rfl rfl rfl ?_
          refine V_gn rfl rfl rfl hc73 rfl rfl rfl ?_
          refine V_gn rfl rfl rfl hc73 rfl rfl rfl ?_
          refine V_gn rfl rfl rfl hc73 rfl rfl rfl ?_
          refine V_y (Y_pick_fe rfl hc73 rfl) rfl rfl rfl ?_
          obtain rfl := Option.some.inj ho63
          refine V_end (fun a ha81 => ?_)
          exact ⟨A27, ha81.sub ⟨rfl, rfl, rfl, rfl, rfl, rfl, rfl, rfl, rfl, trivial⟩, ⟨hH, hr65⟩⟩
      rintro A69 w66 ⟨hH70, hk67⟩ a ha68
      replace h_p2 := El.tr h_p2 hk67
      replace h_p3 := El.tr h_p3 hk67
      replace h_p4 := El.tr h_p4 hk67
      replace h_p5 := Vb.tr (Dw := Dw) h_p5 hk67
      replace hK := Tr.trans hK hk67
      replace hr18 := Tr.trans hr18 hk67
      replace hB := Nat.le_trans hB hk67.ex.size
      replace hA := hk67.new
      replace hH : Hp B A69 w66 (obS (α := cal_Shift) 118 v9 x8 :: p5_Y s64.2 :: L) := hH70
      refine C_at (n := ⟨50, [], none⟩) (fun _ _ => rfl) ?_ ha68
      refine C_cond rfl (fun hc82 => ?_) (fun hc82 => ?_)
      · rw [if_pos hc82] at h30
        refine C_seq ?_
        refine C_region ?_
        refine V_as rfl rfl ?_
        refine V_to (fun _ _ => rfl) ?_
        obtain rfl := Option.some.inj h30
        obtain rfl := (h31 : Lp.rt _ = _)
        rw [Lp.andThen_rt] at hm
        obtain rfl := Option.some.inj hm
        replace hH : Hp B A69 w66 (p5_Y s64.2 :: obS (α := cal_Shift) 118 v9 x8 :: L) := Hp.front hH (i := 1) rfl
        replace hH : Hp B A69 w66 (p5_Y s64.2 :: L) := Hp.drop hH (i := 1) rfl
        refine C_ret ?_
        try simp only [↓inBlock_ret, ↓then_ret]
        exact retQ rfl (Res.one Tryz.results95 rfl) ⟨A69, rfl, hH, hK⟩
      · rw [if_neg (nt hc82)] at h30
        refine C_skip_to (fun _ _ => rfl) ?_
        refine C_region ?_
        refine V_y (Y_addI rfl rfl) rfl rfl rfl ?_
        refine V_mv rfl rfl ?_
        obtain rfl := Option.some.inj h30
        refine V_end (fun a ha83 => ?_)
        exact ⟨s64.2, hlt33, h31, ⟨A69, ha83.sub ⟨rfl, rfl, rfl, rfl, rfl, rfl, rfl, (congrArg (fun z => some (Value.int .i64 z)) (w64_succ hlt33 hn36)), trivial⟩, ⟨hH, hr18⟩⟩⟩
    · refine C_exit (fun a ha84 => ?_)
      exact ⟨(s25, A27), ha84.sub trivial, ⟨(h34 (eq_of_dec hle32 hc37)).symm, hH, hr18⟩⟩
  rintro ⟨s17, A23⟩ w20 ⟨rfl, hH24, hk21⟩ a ha22
  rw [Lp.andThen_fin] at hm
  replace hK := Tr.trans hK hk21
  replace hB := Nat.le_trans hB hk21.ex.size
  replace hA := hk21.new
  replace hH : Hp B A23 w20 (obS (α := cal_Shift) 118 v9 x8 :: p5_Y s17 :: L) := hH24
  refine C_at (n := ⟨50, [], none⟩) (fun _ _ => rfl) ?_ ha22
  refine C_seq ?_
  refine C_region ?_
  refine V_as rfl rfl ?_
  refine V_to (fun _ _ => rfl) ?_
  obtain rfl := Option.some.inj hm
  replace hH : Hp B A23 w20 (p5_Y s17 :: obS (α := cal_Shift) 118 v9 x8 :: L) := Hp.front hH (i := 1) rfl
  replace hH : Hp B A23 w20 (p5_Y s17 :: L) := Hp.drop hH (i := 1) rfl
  refine C_ret ?_
  try simp only [↓inBlock_ret, ↓then_ret]
  exact retQ rfl (Res.one Tryz.results95 rfl) ⟨A23, rfl, hH, hK⟩

set_option maxRecDepth 4000 in
set_option maxHeartbeats 4000000 in
theorem cal_Calendar_shifts_1_c (w : World) {A : Nat → Prop} {B : Nat} (hB : B ≤ w.heap.size) (hA : ∀ b, w.heap.size ≤ b → A b) {yield_S : Type} (yield : cal_Span → yield_S → Option (Bool × yield_S)) (yield_Y : yield_S → Ob) (yield_v : Value) (yield_one : yield_v.cells.toList = [yield_v]) (yield_s : yield_S) (yield_spec : ∀ (w2 : World) (A2 : Nat → Prop) (L2 : List Ob) (x : cal_Span) (z : yield_S) (b : Bool) (z2 : yield_S), B ≤ w2.heap.size → (∀ b, w2.heap.size ≤ b → A2 b) → Tr Dw B A w A2 w2 → Hp B A2 w2 (yield_Y z :: L2) → yield x z = some (b, z2) → CallV Tryz.prog yield_v [.agg #[.int .i64 x.from_, .int .i64 x.to_]] w2 fun v w3 => v = .bool b ∧ ∃ A3, Tr Dw B A2 w2 A3 w3 ∧ Hp B A3 w3 (yield_Y z2 :: L2)) (p1 : cal_Calendar) (b_p1 : Nat) (h_p1 : El A w b_p1 0 p1) (p2 : Int) (b_p2 : Nat) (h_p2 : El A w b_p2 0 p2) (p3 : Int) (b_p3 : Nat) (h_p3 : El A w b_p3 0 p3) {L : List Ob} (hH : Hp B A w (yield_Y yield_s :: L)) {r : yield_S} (hm : cal_Calendar_shifts_1 yield yield_s p1 p2 p3 = some r) : Ret Tryz.prog 93 #[yield_v, .pointer (some ⟨b_p1, 0, none⟩), .pointer (some ⟨b_p2, 0, none⟩), .pointer (some ⟨b_p3, 0, none⟩)] w fun v w' => ∃ A1 : Nat → Prop, v = .tuple #[] ∧ Hp B A1 w' (yield_Y r :: L) ∧ Tr Dw B A w A1 w' := by
  unfold cal_Calendar_shifts_1 at hm
  refine enter Tryz.func93 rfl Tryz.ntmps93 rfl ?_
  have hK : Tr Dw B A w A w := Tr.refl (Dw := Dw) hA
  refine C_seq ?_
  refine C_region ?_
  refine V_box rfl rfl ?_
  intro b1 w2 h3
  have hk4 := h3.kp (Dw := Dw)
  have h5 : Vb A w2 b1 yield_v := h3.vb hA yield_one
  have ht6 := Kp.tr hk4 hA hB
  replace hH := Hp.kp hH hk4
  replace h_p1 := El.tr h_p1 ht6
  replace h_p2 := El.tr h_p2 ht6
  replace h_p3 := El.tr h_p3 ht6
  replace hK := Tr.trans hK ht6
  replace hB := Nat.le_trans hB ht6.ex.size
  replace hA := ht6.new
  refine V_to (fun _ _ => rfl) ?_
  refine C_seq ?_
  refine C_region ?_
  have h7 := El_cal_Calendar_0 h_p1
  refine V_y (Y_fieldAddr Tryz.underlying66 rfl Tryz.sizeOf62 (by decide) rfl) rfl rfl rfl ?_
  obtain ⟨v8, h10, h9⟩ := El_cal_Zone h7
  refine V_y (Y_loadA h10 Tryz.isAgg62 Tryz.sizeOf62 rfl) rfl rfl rfl ?_
  obtain ⟨x11, hx11, hm⟩ := Option.bind_eq_some_iff.1 hm
  refine V_call Tryz.call94 rfl rfl rfl rfl (cal_Zone_parts_c (Dw := Dw) w2 hA p1.zone v8 h9 hx11) ?_
  rintro v12 w14 ⟨_, rfl, h13, hk15⟩
  obtain ⟨A16, ht17, hH18⟩ := Hp.addOwnd (Dw := Dw) hH hB hA hk15 h13
  replace h_p1 := El.tr h_p1 ht17
  replace h_p2 := El.tr h_p2 ht17
  replace h_p3 := El.tr h_p3 ht17
  replace h5 := Vb.tr (Dw := Dw) h5 ht17
  replace h7 := El.tr h7 ht17
  replace h9 := Sl.tr h9 ht17
  replace hK := Tr.trans hK ht17
  replace hB := Nat.le_trans hB ht17.ex.size
  replace hA := ht17.new
  replace hH : Hp B A16 w14 (obS (α := cal_part) 136 v12 x11 :: yield_Y yield_s :: L) := hH18
  refine V_y (Y_lenSl (Hp.any (α := cal_part) (e := 136) (v := v12) (l := x11) hH (i := 0) rfl) rfl Tryz.underlying133 rfl) rfl rfl rfl ?_
  refine V_mv rfl rfl ?_
  refine V_to (fun _ _ => rfl) ?_
  have hn39 := Hp.le (α := cal_part) (e := 136) (v := v12) (l := x11) hH (i := 0) rfl
  obtain ⟨o19, ho19, hm⟩ := Option.bind_eq_some_iff.1 hm
  refine C_cutG (ι := (yield_S × (Nat → Prop))) (fun ⟨s20, A26⟩ => []) (fun ⟨s20, A26⟩ => fun w' => o19 = .fin s20 ∧ Hp B A26 w' (obS (α := cal_part) 136 v12 x11 :: yield_Y s20 :: L) ∧ Tr Dw B A16 w14 A26 w') ?_ ?_
  · refine C_block ?_
    refine C_range ho19 (fun k22 s28 a w' => ∃ i : (Nat → Prop), Has ⟨52, [], none⟩ a ([(1, .pointer (some ⟨b_p1, 0, none⟩)), (2, .pointer (some ⟨b_p2, 0, none⟩)), (3, .pointer (some ⟨b_p3, 0, none⟩)), (4, .pointer (some ⟨b1, 0, none⟩)), (13, v12), (14, .int .i64 (x11.length : Int)), (15, .int .i64 (k22 : Int))]) ∧ Hp B i w' (obS (α := cal_part) 136 v12 x11 :: yield_Y s28 :: L) ∧ Tr Dw B A16 w14 i w') (fun a ha => ⟨A16, ha.sub ⟨rfl, rfl, rfl, rfl, rfl, rfl, rfl, trivial⟩, ⟨hH, Tr.refl (Dw := Dw) hA⟩⟩) ?_
    rintro K k22 s28 a w29 ⟨A30, ha119, hH31, hr21⟩ hle35 K38 h37
    refine C_of ?_ ha119
    replace h_p1 := El.tr h_p1 hr21
    replace h_p2 := El.tr h_p2 hr21
    replace h_p3 := El.tr h_p3 hr21
    replace h5 := Vb.tr (Dw := Dw) h5 hr21
    replace hK := Tr.trans hK hr21
    replace hB := Nat.le_trans hB hr21.ex.size
    replace hA := hr21.new
    replace hH : Hp B A30 w29 (obS (α := cal_part) 136 v12 x11 :: yield_Y s28 :: L) := hH31
    refine C_seq (C_region (V_y (Y_lss rfl rfl) rfl rfl rfl (V_to (fun _ _ => rfl) ?_)))
    refine C_seq ?_
    refine C_cond rfl (fun hc40 => ?_) (fun hc40 => ?_)
    · have hlt36 := lt_of_dec hc40
      obtain ⟨x32, h33, h34⟩ := K38 hlt36
      refine C_skip_to (fun _ _ => rfl) ?_
      refine C_seq ?_
      obtain ⟨o41, ho41, h33⟩ := Option.bind_eq_some_iff.1 h33
      refine C_cutG (ι := (yield_S × (Nat → Prop))) (fun ⟨s42, A47⟩ => [(1, .pointer (some ⟨b_p1, 0, none⟩)), (2, .pointer (some ⟨b_p2, 0, none⟩)), (3, .pointer (some ⟨b_p3, 0, none⟩)), (4, .pointer (some ⟨b1, 0, none⟩)), (13, v12), (14, .int .i64 (x11.length : Int)), (15, .int .i64 (k22 : Int))]) (fun ⟨s42, A47⟩ => fun w' => o41 = .fin s42 ∧ Hp B A47 w' (obS (α := cal_part) 136 v12 x11 :: yield_Y s42 :: L) ∧ Tr Dw B A30 w29 A47 w') ?_ ?_
      · have hr43 : Tr Dw B A30 w29 A30 w29 := Tr.refl (Dw := Dw) hA
        refine C_block ?_
        refine C_seq ?_
        refine C_region ?_
        obtain ⟨x49, hx49, ho41⟩ := Option.bind_eq_some_iff.1 ho41
        refine V_indexAddrH (α := cal_part) (e := 136) (v := v12) (l := x11) hH (i := 0) rfl hx49 Tryz.underlying133 Tryz.sizeOf136 rfl rfl rfl ?_
        intro b50 o51 h52 hl53
        obtain ⟨h54, _⟩ := El_cal_part h52
        refine V_y (Y_loadA h54 Tryz.isAgg136 Tryz.sizeOf136 rfl) rfl rfl rfl ?_
        refine V_alloc Tryz.zeroValue136 rfl ?_
        intro b55 w56 h57
        refine V_storeNew h57 Tryz.sizeOf136 rfl rfl rfl rfl (by exact (List.forall_mem_cons.2 ⟨rfl, (List.forall_mem_cons.2 ⟨rfl, (List.forall_mem_cons.2 ⟨rfl, (fun _ h => nomatch h)⟩)⟩)⟩)) ?_
        intro w58 h59
        have hk61 := h59.kp (Dw := Dw)
        have h60 : El (α := cal_part) A30 w58 b55 0 x49 := h59.el hA ⟨[.int .i64 x49.from_], _, rfl, rfl, ⟨[.int .i64 x49.to_], _, rfl, rfl, rfl⟩⟩
        have ht62 := Kp.tr hk61 hA hB
        replace hH := Hp.kp hH hk61
        replace h_p1 := El.tr h_p1 ht62
        replace h_p2 := El.tr h_p2 ht62
        replace h_p3 := El.tr h_p3 ht62
        replace h5 := Vb.tr (Dw := Dw) h5 ht62
        replace h52 := El.kp (Dw := Dw) h52 hk61
        replace hK := Tr.trans hK ht62
        replace hr21 := Tr.trans hr21 ht62
        replace hr43 := Tr.trans hr43 ht62
        replace hB := Nat.le_trans hB ht62.ex.size
        replace hA := ht62.new
        refine V_to (fun _ _ => rfl) ?_
        refine C_seq ?_
        refine C_region_def (Dw := Dw) (B := B) (k := 8) [(7, 3, .int .i64 0), (8, 3, .int .i64 0)] [(22, 3), (26, 7)] Tryz_mixed (by kernel_rfl) rfl ⟨⟨_, _, _, rfl, by simp⟩, Tryz.zeroValue3, ⟨⟨_, _, _, rfl, by simp⟩, Tryz.zeroValue3, trivial⟩⟩ ⟨⟨_, _, _, rfl, by decide, by decide⟩, by decide, rfl, Tryz.sizeOf3, ⟨⟨_, _, _, rfl, by decide, by decide⟩, by decide, rfl, Tryz.sizeOf3, trivial⟩⟩ rfl rfl (by decide) hH hB hA ?_
        simp only [List.take]
        refine VQ_y (fun w' hw' => Y_load (El.int (El.kp (Dw := Dw) h_p2 hw')) Tryz.isAgg3 rfl) rfl rfl rfl ?_
        have h70 := El_cal_part_0 h60
        refine VQ_y (fun w' hw' => Y_fieldAddr Tryz.underlying136 rfl Tryz.sizeOf3 (by decide) rfl) rfl rfl rfl ?_
        refine VQ_y (fun w' hw' => Y_load (El.int (El.kp (Dw := Dw) h70 hw')) Tryz.isAgg3 rfl) rfl rfl rfl ?_
        refine VQ_y (fun w' hw' => Y_max2 rfl rfl) rfl rfl rfl ?_
        refine VQ_y (fun w' hw' => Y_load (El.int (El.kp (Dw := Dw) h_p3 hw')) Tryz.isAgg3 rfl) rfl rfl rfl ?_
        have h71 := El_cal_part_1 h60
        refine VQ_y (fun w' hw' => Y_fieldAddr Tryz.underlying136 rfl Tryz.sizeOf3 (by decide) rfl) rfl rfl rfl ?_
        refine VQ_y (fun w' hw' => Y_load (El.int (El.kp (Dw := Dw) h71 hw')) Tryz.isAgg3 rfl) rfl rfl rfl ?_
        refine VQ_y (fun w' hw' => Y_min2 rfl rfl) rfl rfl rfl ?_
        refine VQ_end fun a ha => ⟨_, [.int .i64 (if p2 < x49.from_ then x49.from_ else p2), .int .i64 (if x49.to_ < p3 then x49.to_ else p3)], ha, rfl, rfl, ⟨rfl, (by simp [Value.cells, Value.oneCell']), ⟨rfl, (by simp [Value.cells, Value.oneCell']), trivial⟩⟩, fun b63 w65 A66 hH67 ht68 a ha69 => ?_⟩
        replace h_p1 := El.tr h_p1 ht68
        replace h_p2 := El.tr h_p2 ht68
        replace h_p3 := El.tr h_p3 ht68
        replace h5 := Vb.tr (Dw := Dw) h5 ht68
        replace h60 := El.tr h60 ht68
        replace h70 := El.tr h70 ht68
        replace h71 := El.tr h71 ht68
        replace hK := Tr.trans hK ht68
        replace hr21 := Tr.trans hr21 ht68
        replace hr43 := Tr.trans hr43 ht68
        replace hB := Nat.le_trans hB ht68.ex.size
        replace hA := ht68.new
        replace hH : Hp B A66 w65 (obC (b63 0) [.int .i64 (if p2 < x49.from_ then x49.from_ else p2)] 3 :: obC (b63 1) [.int .i64 (if x49.to_ < p3 then x49.to_ else p3)] 3 :: obS (α := cal_part) 136 v12 x11 :: yield_Y s28 :: L) := hH67
        obtain ⟨A72, ht73, h74, hH75⟩ := Hp.freezeC (Dw := Dw) (α := Int) (x := (if p2 < x49.from_ then x49.from_ else p2)) hH (i := 0) rfl hA (by exact rfl)
        replace h_p1 := El.tr h_p1 ht73
        replace h_p2 := El.tr h_p2 ht73
        replace h_p3 := El.tr h_p3 ht73
        replace h5 := Vb.tr (Dw := Dw) h5 ht73
        replace h60 := El.tr h60 ht73
        replace h70 := El.tr h70 ht73
        replace h71 := El.tr h71 ht73
        replace hK := Tr.trans hK ht73
        replace hr21 := Tr.trans hr21 ht73
        replace hr43 := Tr.trans hr43 ht73
        replace hB := Nat.le_trans hB ht73.ex.size
        replace hA := ht73.new
        replace hH : Hp B A72 w65 (obC (b63 1) [.int .i64 (if x49.to_ < p3 then x49.to_ else p3)] 3 :: obS (α := cal_part) 136 v12 x11 :: yield_Y s28 :: L) := hH75
        obtain ⟨A76, ht77, h78, hH79⟩ := Hp.freezeC (Dw := Dw) (α := Int) (x := (if x49.to_ < p3 then x49.to_ else p3)) hH (i := 0) rfl hA (by exact rfl)
        replace h_p1 := El.tr h_p1 ht77
        replace h_p2 := El.tr h_p2 ht77
        replace h_p3 := El.tr h_p3 ht77
        replace h5 := Vb.tr (Dw := Dw) h5 ht77
        replace h60 := El.tr h60 ht77
        replace h70 := El.tr h70 ht77
        replace h71 := El.tr h71 ht77
        replace h74 := El.tr h74 ht77
        replace hK := Tr.trans hK ht77
        replace hr21 := Tr.trans hr21 ht77
        replace hr43 := Tr.trans hr43 ht77
        replace hB := Nat.le_trans hB ht77.ex.size
        replace hA := ht77.new
        replace hH : Hp B A76 w65 (obS (α := cal_part) 136 v12 x11 :: yield_Y s28 :: L) := hH79
        refine C_at (n := ⟨52, [], none⟩) (fun _ _ => rfl) ?_ ha69
        refine C_seq ?_
        refine C_region ?_
        refine V_y (Y_makeFunc rfl rfl) rfl rfl rfl ?_
        refine V_as rfl rfl ?_
        refine V_to (fun _ _ => rfl) ?_
        refine C_seq ?_
        refine C_seq ?_
        refine C_region ?_
        refine V_y (Y_load (El.int h74) Tryz.isAgg3 rfl) rfl rfl rfl ?_
        refine V_y (Y_load (El.int h78) Tryz.isAgg3 rfl) rfl rfl rfl ?_
        refine V_y (Y_geq rfl rfl) rfl rfl rfl ?_
        refine V_to (fun _ _ => rfl) ?_
        refine C_cond rfl (fun hc80 => ?_) (fun hc80 => ?_)
        · rw [if_pos hc80] at ho41
          obtain rfl := Option.some.inj ho41
          refine C_exit (fun a ha81 => ?_)
          exact ⟨(s28, A76), ha81.sub ⟨rfl, rfl, rfl, rfl, rfl, rfl, rfl, trivial⟩, ⟨rfl, hH, hr43⟩⟩
        · rw [if_neg (nt hc80)] at ho41
          refine C_skip_to (fun _ _ => rfl) ?_
          refine C_seq ?_
          refine C_region ?_
          refine V_y (Y_load (El.int h74) Tryz.isAgg3 rfl) rfl rfl rfl ?_
          have h82 := El_cal_part_2 h60
          refine V_y (Y_fieldAddr Tryz.underlying136 rfl Tryz.sizeOf3 (by decide) rfl) rfl rfl rfl ?_
          refine V_y (Y_load (El.int h82) Tryz.isAgg3 rfl) rfl rfl rfl ?_
          refine V_y (Y_addI rfl rfl) rfl rfl rfl ?_
          obtain ⟨x83, hx83, ho41⟩ := Option.bind_eq_some_iff.1 ho41
          refine V_call Tryz.call97 rfl rfl rfl rfl (cal_floor_c w65 (w64 ((if p2 < x49.from_ then x49.from_ else p2) + x49.offset)) 1440 hx83) ?_
          rintro _ _ ⟨rfl, rfl⟩
          refine V_y (Y_subI rfl rfl) rfl rfl rfl ?_
          refine V_as rfl rfl ?_
          refine V_to (fun _ _ => rfl) ?_
          obtain ⟨o84, ho84, ho41⟩ := Option.bind_eq_some_iff.1 ho41
          refine C_cutG (ι := ((Int × yield_S) × (Nat → Prop))) (fun ⟨s85, A91⟩ => [(1, .pointer (some ⟨b_p1, 0, none⟩)), (2, .pointer (some ⟨b_p2, 0, none⟩)), (3, .pointer (some ⟨b_p3, 0, none⟩)), (4, .pointer (some ⟨b1, 0, none⟩)), (13, v12), (14, .int .i64 (x11.length : Int)), (15, .int .i64 (k22 : Int))]) (fun ⟨s85, A91⟩ => fun w' => o84 = .fin s85 ∧ Hp B A91 w' (obS (α := cal_part) 136 v12 x11 :: yield_Y s85.2 :: L) ∧ Tr Dw B A76 w65 A91 w') ?_ ?_
          · refine C_block ?_
            refine C_while ho84 (fun s93 a w' => ∃ i : (Nat → Prop), Has ⟨52, [], none⟩ a ([(1, .pointer (some ⟨b_p1, 0, none⟩)), (2, .pointer (some ⟨b_p2, 0, none⟩)), (3, .pointer (some ⟨b_p3, 0, none⟩)), (4, .pointer (some ⟨b1, 0, none⟩)), (6, .pointer (some ⟨b55, 0, none⟩)), (8, .pointer (some ⟨(b63 1), 0, none⟩)), (9, .func (.func 95) #[] #[.pointer (some ⟨b_p1, 0, none⟩), .pointer (some ⟨b55, 0, none⟩), .pointer (some ⟨(b63 0), 0, none⟩), .pointer (some ⟨(b63 1), 0, none⟩), .pointer (some ⟨b1, 0, none⟩)]), (10, .int .i64 s93.1), (13, v12), (14, .int .i64 (x11.length : Int)), (15, .int .i64 (k22 : Int))]) ∧ Hp B i w' (obS (α := cal_part) 136 v12 x11 :: yield_Y s93.2 :: L) ∧ Tr Dw B A76 w65 i w') (fun a ha => ⟨A76, ha.sub ⟨rfl, rfl, rfl, rfl, rfl, rfl, rfl, rfl, rfl, rfl, rfl, trivial⟩, ⟨hH, Tr.refl (Dw := Dw) hA⟩⟩) ?_
            rintro K s93 a w94 ⟨A95, ha115, hH96, hr86⟩ K103
            refine C_of ?_ ha115
            replace h_p1 := El.tr h_p1 hr86
            replace h_p2 := El.tr h_p2 hr86
            replace h_p3 := El.tr h_p3 hr86
            replace h5 := Vb.tr (Dw := Dw) h5 hr86
            replace h60 := El.tr h60 hr86
            replace h78 := El.tr h78 hr86
            replace h74 := El.tr h74 hr86
            replace hK := Tr.trans hK hr86
            replace hr21 := Tr.trans hr21 hr86
            replace hr43 := Tr.trans hr43 hr86
            replace hB := Nat.le_trans hB hr86.ex.size
            replace hA := hr86.new
            replace hH : Hp B A95 w94 (obS (α := cal_part) 136 v12 x11 :: yield_Y s93.2 :: L) := hH96
            obtain ⟨x97, h98, h99⟩ := K103
            refine C_seq ?_
            refine C_seq ?_
            refine C_region ?_
            refine V_mv rfl rfl ?_
            refine V_y (Y_load (El.int h78) Tryz.isAgg3 rfl) rfl rfl rfl ?_
            refine V_y (Y_subI rfl rfl) rfl rfl rfl ?_
            have h104 := El_cal_part_2 h60
            refine V_y (Y_fieldAddr Tryz.underlying136 rfl Tryz.sizeOf3 (by decide) rfl) rfl rfl rfl ?_
            refine V_y (Y_load (El.int h104) Tryz.isAgg3 rfl) rfl rfl rfl ?_
            refine V_y (Y_addI rfl rfl) rfl rfl rfl ?_
            obtain ⟨x105, hx105, h98⟩ := Option.bind_eq_some_iff.1 h98
            refine V_call Tryz.call97 rfl rfl rfl rfl (cal_floor_c w94 (w64 ((w64 ((if x49.to_ < p3 then x49.to_ else p3) - 1)) + x49.offset)) 1440 hx105) ?_
            rintro _ _ ⟨rfl, rfl⟩
            refine V_y (Y_leq rfl rfl) rfl rfl rfl ?_
            refine V_to (fun _ _ => rfl) ?_
            refine C_cond rfl (fun hc106 => ?_) (fun hc106 => ?_)
            · rw [if_pos hc106] at h98
              refine C_skip_to (fun _ _ => rfl) ?_
              refine C_seq ?_
              refine C_block ?_
              refine C_seq ?_
              refine C_region ?_
              refine V_mv rfl rfl ?_
              refine V_mv rfl rfl ?_
              replace hH : Hp B A95 w94 (yield_Y s93.2 :: obS (α := cal_part) 136 v12 x11 :: L) := Hp.front hH (i := 1) rfl
              obtain ⟨x107, hx107, h98⟩ := Option.bind_eq_some_iff.1 h98
              refine V_call Tryz.call95 rfl rfl rfl rfl (cal_Calendar_shifts_1_1_c (Dw := Dw) w94 hB hA s93.1 p1 b_p1 h_p1 x49 b55 h60 (if p2 < x49.from_ then x49.from_ else p2) (b63 0) h74 (if x49.to_ < p3 then x49.to_ else p3) (b63 1) h78 yield yield_Y yield_v yield_one s93.2 (fun w2 A2 L2 x2 z2 b2 z3 h1 h2 h3 => yield_spec w2 A2 L2 x2 z2 b2 z3 h1 h2 (Tr.trans hK h3)) b1 h5 hH hx107) ?_
              rintro _ w108 ⟨A109, rfl, hH110, ht111⟩
              replace h_p1 := El.tr h_p1 ht111
              replace h_p2 := El.tr h_p2 ht111
              replace h_p3 := El.tr h_p3 ht111
              replace h5 := Vb.tr (Dw := Dw) h5 ht111
              replace h60 := El.tr h60 ht111
              replace h78 := El.tr h78 ht111
              replace h74 := El.tr h74 ht111
              replace hK := Tr.trans hK ht111
              replace hr21 := Tr.trans hr21 ht111
              replace hr43 := Tr.trans hr43 ht111
              replace hr86 := Tr.trans hr86 ht111
              replace hB := Nat.le_trans hB ht111.ex.size
              replace hA := ht111.new
              replace hH : Hp B A109 w108 (yield_Y x107.2 :: obS (α := cal_part) 136 v12 x11 :: L) := hH110
              refine V_y (Y_not rfl) rfl rfl rfl ?_
              refine V_to (fun _ _ => rfl) ?_
              refine C_cond rfl (fun hc112 => ?_) (fun hc112 => ?_)
              · rw [if_pos hc112] at h98
                obtain rfl := Option.some.inj h98
                obtain rfl := (h99 : Lp.rt _ = _)
                rw [Lp.andThen_rt] at ho41
                obtain rfl := Option.some.inj ho41
                rw [Lp.andThen_rt] at h33
                obtain rfl := Option.some.inj h33
                obtain rfl := (h34 : Lp.rt _ = _)
                rw [Lp.andThen_rt] at hm
                obtain rfl := Option.some.inj hm
                replace hH : Hp B A109 w108 (yield_Y x107.2 :: L) := Hp.drop hH (i := 1) rfl
                refine C_ret ?_
                try simp only [↓inBlock_ret, ↓then_ret]
                exact retQ rfl (Res.zero Tryz.results93) ⟨A109, rfl, hH, hK⟩
              · rw [if_neg (nt hc112)] at h98
                refine C_skip_to (fun _ _ => rfl) ?_
                refine C_region ?_
                refine V_mv rfl rfl ?_
                refine V_y (Y_addI rfl rfl) rfl rfl rfl ?_
                refine V_as rfl rfl ?_
                obtain rfl := Option.some.inj h98
                refine V_end (fun a ha113 => ?_)
                replace hH : Hp B A109 w108 (obS (α := cal_part) 136 v12 x11 :: yield_Y x107.2 :: L) := Hp.front hH (i := 1) rfl
                exact ⟨(w64 (s93.1 + 1), x107.2), h99, ⟨A109, ha113.sub ⟨rfl, rfl, rfl, rfl, rfl, rfl, rfl, rfl, rfl, rfl, rfl, trivial⟩, ⟨hH, hr86⟩⟩⟩
            · rw [if_neg (nt hc106)] at h98
              obtain rfl := Option.some.inj h98
              refine C_exit (fun a ha114 => ?_)
              exact ⟨((s93.1, s93.2), A95), ha114.sub ⟨rfl, rfl, rfl, rfl, rfl, rfl, rfl, trivial⟩, ⟨h99.symm, hH, hr86⟩⟩
          rintro ⟨s85, A91⟩ w88 ⟨rfl, hH92, hk89⟩ a ha90
          rw [Lp.andThen_fin] at ho41
          replace h_p1 := El.tr h_p1 hk89
          replace h_p2 := El.tr h_p2 hk89
          replace h_p3 := El.tr h_p3 hk89
          replace h5 := Vb.tr (Dw := Dw) h5 hk89
          replace hK := Tr.trans hK hk89
          replace hr21 := Tr.trans hr21 hk89
          replace hr43 := Tr.trans hr43 hk89
          replace hB := Nat.le_trans hB hk89.ex.size
          replace hA := hk89.new
          replace hH : Hp B A91 w88 (obS (α := cal_part) 136 v12 x11 :: yield_Y s85.2 :: L) := hH92
          obtain rfl := Option.some.inj ho41
          exact ⟨(s85.2, A91), ha90.sub ⟨rfl, rfl, rfl, rfl, rfl, rfl, rfl, trivial⟩, ⟨rfl, hH, hr43⟩⟩
      rintro ⟨s42, A47⟩ w44 ⟨rfl, hH48, hk45⟩ a ha46
      rw [Lp.andThen_fin] at h33
      replace h_p1 := El.tr h_p1 hk45
      replace h_p2 := El.tr h_p2 hk45
      replace h_p3 := El.tr h_p3 hk45
      replace h5 := Vb.tr (Dw := Dw) h5 hk45
      replace hK := Tr.trans hK hk45
      replace hr21 := Tr.trans hr21 hk45
      replace hB := Nat.le_trans hB hk45.ex.size
      replace hA := hk45.new
      replace hH : Hp B A47 w44 (obS (α := cal_part) 136 v12 x11 :: yield_Y s42 :: L) := hH48
      refine C_at (n := ⟨52, [], none⟩) (fun _ _ => rfl) ?_ ha46
      refine C_region ?_
      refine V_y (Y_addI rfl rfl) rfl rfl rfl ?_
      refine V_mv rfl rfl ?_
      obtain rfl := Option.some.inj h33
      refine V_end (fun a ha117 => ?_)
      exact ⟨s42, hlt36, h34, ⟨A47, ha117.sub ⟨rfl, rfl, rfl, rfl, rfl, rfl, (congrArg (fun z => some (Value.int .i64 z)) (w64_succ hlt36 hn39)), trivial⟩, ⟨hH, hr21⟩⟩⟩
    · refine C_exit (fun a ha118 => ?_)
      exact ⟨(s28, A30), ha118.sub trivial, ⟨(h37 (eq_of_dec hle35 hc40)).symm, hH, hr21⟩⟩
  rintro ⟨s20, A26⟩ w23 ⟨rfl, hH27, hk24⟩ a ha25
  rw [Lp.andThen_fin] at hm
  replace hK := Tr.trans hK hk24
  replace hB := Nat.le_trans hB hk24.ex.size
  replace hA := hk24.new
  replace hH : Hp B A26 w23 (obS (α := cal_part) 136 v12 x11 :: yield_Y s20 :: L) := hH27
  obtain rfl := Option.some.inj hm
  replace hH : Hp B A26 w23 (yield_Y s20 :: obS (α := cal_part) 136 v12 x11 :: L) := Hp.front hH (i := 1) rfl
  replace hH : Hp B A26 w23 (yield_Y s20 :: L) := Hp.drop hH (i := 1) rfl
  try simp only [↓inBlock_ret, ↓then_ret]
  exact normQ (retQ rfl (Res.zero Tryz.results93) ⟨A26, rfl, hH, hK⟩ a ha25)

end Go.Proofs.YtnjlojicebcikaaGreat.W
