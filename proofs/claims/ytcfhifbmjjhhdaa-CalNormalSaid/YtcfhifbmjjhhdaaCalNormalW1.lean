/-
  Written by program (gen.py) from the IR of the dump: each function computes its model.
-/
import Derived.Test.YtcfhifbmjjhhdaaCalNormalW0
namespace Go.Proofs.Ytcfhifbmjjhhdaa.W
open Go Go.RowKit Go.Pu Go.Gw Go.Proofs Go.Proofs.Ytcfhifbmjjhhdaa.M
set_option linter.unusedVariables false
set_option linter.unusedSimpArgs false
variable {Dw : Prop}

set_option maxRecDepth 4000 in
set_option maxHeartbeats 4000000 in
theorem slices_Equal_Lcal_Span_cal_Span_c (w : World) {A : Nat → Prop} (hA : ∀ b, w.heap.size ≤ b → A b) (s1 : (List cal_Span)) (v_s1 : Value) (h_s1 : Sl A w v_s1 s1) (s2 : (List cal_Span)) (v_s2 : Value) (h_s2 : Sl A w v_s2 s2) {r : Bool} (hm : slices_Equal_Lcal_Span_cal_Span s1 s2 = some r) : Ret Try.prog 10 #[v_s1, v_s2] w fun v w' => v = .bool r ∧ Kp Dw w w' := by
  unfold slices_Equal_Lcal_Span_cal_Span at hm
  refine enter Try.func10 rfl Try.ntmps10 rfl ?_
  have hA0 := hA
  have hB := Nat.le_refl w.heap.size
  have hK : Tr Dw w.heap.size A w A w := Tr.refl (Dw := Dw) hA
  have hH : Hp w.heap.size A w [] := Hp.nil
  refine C_seq ?_
  refine C_region ?_
  refine V_y (Y_assign rfl) rfl rfl rfl ?_
  refine V_to (fun _ _ => rfl) ?_
  refine C_seq ?_
  refine C_seq ?_
  refine C_region ?_
  refine V_y (Y_move rfl) rfl rfl rfl ?_
  refine V_y (Y_lenSl h_s1 rfl Try.underlying34 rfl) rfl rfl rfl ?_
  refine V_y (Y_move rfl) rfl rfl rfl ?_
  refine V_y (Y_lenSl h_s2 rfl Try.underlying34 rfl) rfl rfl rfl ?_
  refine V_y (Y_neq rfl rfl) rfl rfl rfl ?_
  refine V_to (fun _ _ => rfl) ?_
  refine C_cond rfl (fun hc5 => ?_) (fun hc5 => ?_)
  · rw [if_pos hc5] at hm
    refine C_seq ?_
    refine C_region ?_
    refine V_y (Y_assign rfl) rfl rfl rfl ?_
    refine V_to (fun _ _ => rfl) ?_
    obtain rfl := Option.some.inj hm
    refine C_ret ?_
    try simp only [↓inBlock_ret, ↓then_ret]
    exact retQ rfl (Res.one Try.results10 rfl) ⟨rfl, hK.kp⟩
  · rw [if_neg (nt hc5)] at hm
    refine C_skip_to (fun _ _ => rfl) ?_
    refine C_seq ?_
    refine C_seq ?_
    refine C_region ?_
    refine V_y (Y_move rfl) rfl rfl rfl ?_
    refine V_y (Y_lenSl h_s1 rfl Try.underlying34 rfl) rfl rfl rfl ?_
    refine V_y (Y_move rfl) rfl rfl rfl ?_
    refine V_to (fun _ _ => rfl) ?_
    have hn27 := Sl.le h_s1
    obtain ⟨o6, ho6, hm⟩ := Option.bind_eq_some_iff.1 hm
    refine C_cutG (ι := (Unit × (Nat → Prop))) (fun ⟨s7, A13⟩ => []) (fun ⟨s7, A13⟩ => fun w' => o6 = .fin s7 ∧ Hp w.heap.size A13 w' ([]) ∧ Tr Dw w.heap.size A w A13 w') ?_ ?_
    · refine C_block ?_
      refine C_range ho6 (fun k9 _ a w' => ∃ i : (Nat → Prop), Has ⟨26, [], none⟩ a ([(0, v_s1), (1, v_s2), (12, .int .i64 (s1.length : Int)), (13, .int .i64 (k9 : Int))]) ∧ Hp w.heap.size i w' ([]) ∧ Tr Dw w.heap.size A w i w') (fun a ha => ⟨A, ha.sub ⟨rfl, rfl, rfl, rfl, trivial⟩, ⟨hH, Tr.refl (Dw := Dw) hA⟩⟩) ?_
      rintro K k9 _ a w17 ⟨A18, ha45, hH19, hr8⟩ hle23 K26 h25
      refine C_of ?_ ha45
      replace h_s1 := Sl.tr (Dw := Dw) h_s1 hr8
      replace h_s2 := Sl.tr (Dw := Dw) h_s2 hr8
      replace hK := Tr.trans (Dw := Dw) hK hr8
      replace hB := Nat.le_trans hB hr8.ex.size
      replace hA := hr8.new
      replace hH : Hp w.heap.size A18 w17 ([]) := hH19
      refine C_seq (C_region (V_y (Y_lss rfl rfl) rfl rfl rfl (V_to (fun _ _ => rfl) ?_)))
      refine C_seq ?_
      refine C_cond rfl (fun hc28 => ?_) (fun hc28 => ?_)
      · have hlt24 := lt_of_dec hc28
        obtain ⟨x20, h21, h22⟩ := K26 hlt24
        refine C_skip_to (fun _ _ => rfl) ?_
        refine C_seq ?_
        refine C_block ?_
        refine C_seq ?_
        refine C_region ?_
        refine V_y (Y_move rfl) rfl rfl rfl ?_
        refine V_y (Y_assign rfl) rfl rfl rfl ?_
        refine V_to (fun _ _ => rfl) ?_
        refine C_seq ?_
        refine C_region_q (Dw := Dw) Try_mixed (by kernel_rfl) ?_
        refine VQ_y (fun w' hw' => Y_move rfl) rfl rfl rfl ?_
        refine VQ_y (fun w' hw' => Y_move rfl) rfl rfl rfl ?_
        obtain ⟨x29, hx29, h21⟩ := Option.bind_eq_some_iff.1 h21
        refine VQ_indexAddr h_s1 hx29 Try.underlying34 Try.sizeOf39 rfl rfl rfl ?_
        intro b30 o31 h32
        obtain ⟨h33, _⟩ := El_cal_Span h32
        refine VQ_y (fun w' hw' => Y_loadA (At.kp (Dw := Dw) h33 hw' h32.2.1) Try.isAgg39 Try.sizeOf39 rfl) rfl rfl rfl ?_
        refine VQ_y (fun w' hw' => Y_move rfl) rfl rfl rfl ?_
        refine VQ_y (fun w' hw' => Y_move rfl) rfl rfl rfl ?_
        obtain ⟨x34, hx34, h21⟩ := Option.bind_eq_some_iff.1 h21
        refine VQ_indexAddr h_s2 hx34 Try.underlying34 Try.sizeOf39 rfl rfl rfl ?_
        intro b35 o36 h37
        obtain ⟨h38, _⟩ := El_cal_Span h37
        refine VQ_y (fun w' hw' => Y_loadA (At.kp (Dw := Dw) h38 hw' h37.2.1) Try.isAgg39 Try.sizeOf39 rfl) rfl rfl rfl ?_
        refine VQ_y (fun w' hw' => Y_neqA (fun w => Try_eqt39_10000 x29.from_ x29.to_ x34.from_ x34.to_ w) Try_eqg39 rfl rfl) rfl rfl rfl ?_
        refine VQ_to (fun _ _ => rfl) (fun w39 hk40 => ?_)
        have ht41 := Kp.tr (Dw := Dw) hk40 hA hB
        replace hH := Hp.kp (Dw := Dw) hH hk40
        replace h_s1 := Sl.tr (Dw := Dw) h_s1 ht41
        replace h_s2 := Sl.tr (Dw := Dw) h_s2 ht41
        replace hK := Tr.trans (Dw := Dw) hK ht41
        replace hr8 := Tr.trans (Dw := Dw) hr8 ht41
        replace hB := Nat.le_trans hB ht41.ex.size
        replace hA := ht41.new
        refine C_cond rfl (fun hc42 => ?_) (fun hc42 => ?_)
        · rw [if_pos hc42] at h21
          refine C_seq ?_
          refine C_region ?_
          refine V_y (Y_assign rfl) rfl rfl rfl ?_
          refine V_to (fun _ _ => rfl) ?_
          obtain rfl := Option.some.inj h21
          obtain rfl := (h22 : Lp.rt _ = _)
          rw [Lp.andThen_rt] at hm
          obtain rfl := Option.some.inj hm
          refine C_ret ?_
          try simp only [↓inBlock_ret, ↓then_ret]
          exact retQ rfl (Res.one Try.results10 rfl) ⟨rfl, hK.kp⟩
        · rw [if_neg (nt hc42)] at h21
          refine C_skip_to (fun _ _ => rfl) ?_
          refine C_region ?_
          refine V_y (Y_addI rfl rfl) rfl rfl rfl ?_
          refine V_y (Y_move rfl) rfl rfl rfl ?_
          obtain rfl := Option.some.inj h21
          refine V_end (fun a ha43 => ?_)
          exact ⟨(), hlt24, h22, ⟨A18, ha43.sub ⟨rfl, rfl, rfl, (congrArg (fun z => some (Value.int .i64 z)) (w64_succ hlt24 hn27)), trivial⟩, ⟨hH, hr8⟩⟩⟩
      · refine C_exit (fun a ha44 => ?_)
        exact ⟨((), A18), ha44.sub trivial, ⟨(h25 (eq_of_dec hle23 hc28)).symm, hH, hr8⟩⟩
    rintro ⟨s7, A13⟩ w10 ⟨rfl, hH14, hk11⟩ a ha12
    rw [Lp.andThen_fin] at hm
    replace hK := Tr.trans (Dw := Dw) hK hk11
    replace hB := Nat.le_trans hB hk11.ex.size
    replace hA := hk11.new
    replace hH : Hp w.heap.size A13 w10 ([]) := hH14
    refine C_at (n := ⟨26, [], none⟩) (fun _ _ => rfl) ?_ ha12
    refine C_seq ?_
    refine C_region ?_
    refine V_y (Y_assign rfl) rfl rfl rfl ?_
    refine V_to (fun _ _ => rfl) ?_
    obtain rfl := Option.some.inj hm
    refine C_ret ?_
    try simp only [↓inBlock_ret, ↓then_ret]
    exact retQ rfl (Res.one Try.results10 rfl) ⟨rfl, hK.kp⟩

set_option maxRecDepth 4000 in
set_option maxHeartbeats 4000000 in
theorem cal_CheckSpans_c (w : World) {A : Nat → Prop} (hA : ∀ b, w.heap.size ≤ b → A b) (l : (List cal_Span)) (v_l : Value) (h_l : Sl A w v_l l) {r : Int} (hm : cal_CheckSpans l = some r) : Ret Try.prog 11 #[v_l] w fun v w' => v = .int .i64 r ∧ Kp Dw w w' := by
  unfold cal_CheckSpans at hm
  refine enter Try.func11 rfl Try.ntmps11 rfl ?_
  have hA0 := hA
  have hB := Nat.le_refl w.heap.size
  have hK : Tr Dw w.heap.size A w A w := Tr.refl (Dw := Dw) hA
  have hH : Hp w.heap.size A w [] := Hp.nil
  refine C_seq ?_
  refine C_region ?_
  refine V_y (Y_assign rfl) rfl rfl rfl ?_
  refine V_to (fun _ _ => rfl) ?_
  refine C_seq ?_
  refine C_seq ?_
  refine C_region ?_
  refine V_y (Y_move rfl) rfl rfl rfl ?_
  refine V_y (Y_lenSl h_l rfl Try.underlying34 rfl) rfl rfl rfl ?_
  refine V_y (Y_gtr rfl rfl) rfl rfl rfl ?_
  refine V_to (fun _ _ => rfl) ?_
  refine C_cond rfl (fun hc3 => ?_) (fun hc3 => ?_)
  · rw [if_pos hc3] at hm
    refine C_seq ?_
    refine C_region ?_
    refine V_y (Y_assign rfl) rfl rfl rfl ?_
    refine V_to (fun _ _ => rfl) ?_
    obtain rfl := Option.some.inj hm
    refine C_ret ?_
    try simp only [↓inBlock_ret, ↓then_ret]
    exact retQ rfl (Res.one Try.results11 rfl) ⟨rfl, hK.kp⟩
  · rw [if_neg (nt hc3)] at hm
    refine C_skip_to (fun _ _ => rfl) ?_
    refine C_seq ?_
    refine C_seq ?_
    refine C_region ?_
    refine V_y (Y_move rfl) rfl rfl rfl ?_
    refine V_y (Y_lenSl h_l rfl Try.underlying34 rfl) rfl rfl rfl ?_
    refine V_y (Y_move rfl) rfl rfl rfl ?_
    refine V_to (fun _ _ => rfl) ?_
    have hn25 := Sl.le h_l
    obtain ⟨o4, ho4, hm⟩ := Option.bind_eq_some_iff.1 hm
    refine C_cutG (ι := (Unit × (Nat → Prop))) (fun ⟨s5, A12⟩ => []) (fun ⟨s5, A12⟩ => fun w' => o4 = .fin s5 ∧ Hp w.heap.size A12 w' ([]) ∧ Tr Dw w.heap.size A w A12 w') ?_ ?_
    · refine C_block ?_
      refine C_range ho4 (fun k7 _ a w' => ∃ i : (Nat → Prop), Has ⟨35, [], none⟩ a ([(0, v_l), (9, v_l), (10, .int .i64 (l.length : Int)), (11, .int .i64 (k7 : Int))]) ∧ Hp w.heap.size i w' ([]) ∧ Tr Dw w.heap.size A w i w') (fun a ha => ⟨A, ha.sub ⟨rfl, rfl, rfl, rfl, trivial⟩, ⟨hH, Tr.refl (Dw := Dw) hA⟩⟩) ?_
      rintro K k7 _ a w15 ⟨A16, ha60, hH17, hr6⟩ hle21 K24 h23
      refine C_of ?_ ha60
      replace h_l := Sl.tr (Dw := Dw) h_l hr6
      replace hK := Tr.trans (Dw := Dw) hK hr6
      replace hB := Nat.le_trans hB hr6.ex.size
      replace hA := hr6.new
      replace hH : Hp w.heap.size A16 w15 ([]) := hH17
      refine C_seq (C_region (V_y (Y_lss rfl rfl) rfl rfl rfl (V_to (fun _ _ => rfl) ?_)))
      refine C_seq ?_
      refine C_cond rfl (fun hc26 => ?_) (fun hc26 => ?_)
      · have hlt22 := lt_of_dec hc26
        obtain ⟨x18, h19, h20⟩ := K24 hlt22
        refine C_skip_to (fun _ _ => rfl) ?_
        refine C_seq ?_
        refine C_block ?_
        refine C_seq ?_
        refine C_region ?_
        refine V_y (Y_move rfl) rfl rfl rfl ?_
        obtain ⟨x27, hx27, h19⟩ := Option.bind_eq_some_iff.1 h19
        refine V_indexAddr h_l hx27 Try.underlying34 Try.sizeOf39 rfl rfl rfl ?_
        intro b28 o29 h30
        obtain ⟨h31, _⟩ := El_cal_Span h30
        refine V_y (Y_loadA h31 Try.isAgg39 Try.sizeOf39 rfl) rfl rfl rfl ?_
        refine V_alloc Try.zeroValue39 rfl ?_
        intro b32 w33 h34
        refine V_y (Y_assign rfl) rfl rfl rfl ?_
        refine V_storeNew h34 Try.sizeOf39 rfl rfl rfl rfl (by exact (List.forall_mem_cons.2 ⟨rfl, (List.forall_mem_cons.2 ⟨rfl, (fun _ h => nomatch h)⟩)⟩)) ?_
        intro w35 h36
        have hk38 := h36.kp (Dw := Dw)
        have h37 : El (α := cal_Span) A16 w35 b32 0 x27 := h36.el hA ⟨[.int .i64 x27.from_], _, rfl, rfl, rfl⟩
        have ht39 := Kp.tr (Dw := Dw) hk38 hA hB
        replace hH := Hp.kp (Dw := Dw) hH hk38
        replace h_l := Sl.tr (Dw := Dw) h_l ht39
        replace h30 := El.tr (Dw := Dw) h30 ht39
        replace hK := Tr.trans (Dw := Dw) hK ht39
        replace hr6 := Tr.trans (Dw := Dw) hr6 ht39
        replace hB := Nat.le_trans hB ht39.ex.size
        replace hA := ht39.new
        refine V_to (fun _ _ => rfl) ?_
        refine C_seq ?_
        refine C_seq ?_
        refine C_region ?_
        obtain ⟨h40, _⟩ := El_cal_Span h37
        refine V_y (Y_loadA h40 Try.isAgg39 Try.sizeOf39 rfl) rfl rfl rfl ?_
        obtain ⟨x41, hx41, h19⟩ := Option.bind_eq_some_iff.1 h19
        refine V_call Try.call28 rfl rfl rfl rfl (cal_checkSpan_c (Dw := Dw) w35 hA x27 hx41) ?_
        rintro _ w42 ⟨rfl, hk43⟩
        have ht44 := Kp.tr (Dw := Dw) hk43 hA hB
        replace hH := Hp.kp (Dw := Dw) hH hk43
        replace h_l := Sl.tr (Dw := Dw) h_l ht44
        replace h37 := El.tr (Dw := Dw) h37 ht44
        replace hK := Tr.trans (Dw := Dw) hK ht44
        replace hr6 := Tr.trans (Dw := Dw) hr6 ht44
        replace hB := Nat.le_trans hB ht44.ex.size
        replace hA := ht44.new
        refine V_y (Y_assign rfl) rfl rfl rfl ?_
        refine V_to (fun _ _ => rfl) ?_
        refine C_seq ?_
        refine C_region ?_
        refine V_y (Y_move rfl) rfl rfl rfl ?_
        refine V_y (Y_neq rfl rfl) rfl rfl rfl ?_
        refine V_to (fun _ _ => rfl) ?_
        refine C_cond rfl (fun hc45 => ?_) (fun hc45 => ?_)
        · rw [if_pos hc45] at h19
          refine C_seq ?_
          refine C_region ?_
          refine V_y (Y_move rfl) rfl rfl rfl ?_
          refine V_y (Y_assign rfl) rfl rfl rfl ?_
          refine V_to (fun _ _ => rfl) ?_
          obtain rfl := Option.some.inj h19
          obtain rfl := (h20 : Lp.rt _ = _)
          rw [Lp.andThen_rt] at hm
          obtain rfl := Option.some.inj hm
          refine C_ret ?_
          try simp only [↓inBlock_ret, ↓then_ret]
          exact retQ rfl (Res.one Try.results11 rfl) ⟨rfl, hK.kp⟩
        · rw [if_neg (nt hc45)] at h19
          refine C_skip_to (fun _ _ => rfl) ?_
          refine C_seq ?_
          refine C_region_q (Dw := Dw) Try_mixed (by kernel_rfl) ?_
          refine VQ_y (fun w' hw' => Y_move rfl) rfl rfl rfl ?_
          refine VQ_y (fun w' hw' => Y_gtr rfl rfl) rfl rfl rfl ?_
          refine VQ_y (fun w' hw' => Y_move rfl) rfl rfl rfl ?_
          obtain ⟨s47, hs47, h19⟩ := Option.bind_eq_some_iff.1 h19
          refine VQ_cut 10 (fun _ : Unit => [(0, v_l), (9, v_l), (10, .int .i64 (l.length : Int)), (11, .int .i64 (k7 : Int)), (33, .bool s47)]) (fun _ => True) ?_ ?_
          · simp only [List.take, List.drop]
            rcases Bool.eq_false_or_eq_true (decide ((0 : Int) < (k7 : Int))) with hc46 | hc46
            · rw [if_pos hc46] at hs47
              refine VQ_ge rfl rfl rfl hc46 ?_
              have h48 := El_cal_Span_0 h37
              refine VQ_y (fun w' hw' => Y_fieldAddr Try.underlying39 rfl Try.sizeOf3 (by decide) rfl) rfl rfl rfl ?_
              refine VQ_ge rfl rfl rfl hc46 ?_
              refine VQ_y (fun w' hw' => Y_load (El.int (El.kp (Dw := Dw) h48 hw')) Try.isAgg3 rfl) rfl rfl rfl ?_
              refine VQ_ge rfl rfl rfl hc46 ?_
              refine VQ_y (fun w' hw' => Y_move rfl) rfl rfl rfl ?_
              refine VQ_ge rfl rfl rfl hc46 ?_
              refine VQ_y (fun w' hw' => Y_move rfl) rfl rfl rfl ?_
              refine VQ_ge rfl rfl rfl hc46 ?_
              refine VQ_y (fun w' hw' => Y_subI rfl rfl) rfl rfl rfl ?_
              refine VQ_ge rfl rfl rfl hc46 ?_
              obtain ⟨x49, hx49, hs47⟩ := Option.bind_eq_some_iff.1 hs47
              refine VQ_indexAddr h_l hx49 Try.underlying34 Try.sizeOf39 rfl rfl rfl ?_
              intro b50 o51 h52
              refine VQ_ge rfl rfl rfl hc46 ?_
              have h53 := El_cal_Span_1 h52
              refine VQ_y (fun w' hw' => Y_fieldAddr Try.underlying39 rfl Try.sizeOf3 (by decide) rfl) rfl rfl rfl ?_
              refine VQ_ge rfl rfl rfl hc46 ?_
              refine VQ_y (fun w' hw' => Y_load (El.int (El.kp (Dw := Dw) h53 hw')) Try.isAgg3 rfl) rfl rfl rfl ?_
              refine VQ_ge rfl rfl rfl hc46 ?_
              refine VQ_y (fun w' hw' => Y_leq rfl rfl) rfl rfl rfl ?_
              refine VQ_y (fun _ _ => Y_pick_te rfl hc46 rfl) rfl rfl rfl ?_
              obtain rfl := Option.some.inj hs47
              exact VQ_end fun a ha => ⟨(), ha.sub ⟨rfl, rfl, rfl, rfl, rfl, trivial⟩, trivial⟩
            · rw [if_neg (nt hc46)] at hs47
              refine VQ_gn rfl rfl rfl hc46 rfl rfl rfl ?_
              refine VQ_gn rfl rfl rfl hc46 rfl rfl rfl ?_
              refine VQ_gn rfl rfl rfl hc46 rfl rfl rfl ?_
              refine VQ_gn rfl rfl rfl hc46 rfl rfl rfl ?_
              refine VQ_gn rfl rfl rfl hc46 rfl rfl rfl ?_
              refine VQ_gn rfl rfl rfl hc46 rfl rfl rfl ?_
              refine VQ_gn rfl rfl rfl hc46 rfl rfl rfl ?_
              refine VQ_gn rfl rfl rfl hc46 rfl rfl rfl ?_
              refine VQ_gn rfl rfl rfl hc46 rfl rfl rfl ?_
              refine VQ_y (fun _ _ => Y_pick_fe rfl hc46 rfl) rfl rfl rfl ?_
              obtain rfl := Option.some.inj hs47
              exact VQ_end fun a ha => ⟨(), ha.sub ⟨rfl, rfl, rfl, rfl, rfl, trivial⟩, trivial⟩
          simp only [List.take, List.drop]
          rintro _ _
          refine VQ_to (fun _ _ => rfl) (fun w54 hk55 => ?_)
          have ht56 := Kp.tr (Dw := Dw) hk55 hA hB
          replace hH := Hp.kp (Dw := Dw) hH hk55
          replace h_l := Sl.tr (Dw := Dw) h_l ht56
          replace hK := Tr.trans (Dw := Dw) hK ht56
          replace hr6 := Tr.trans (Dw := Dw) hr6 ht56
          replace hB := Nat.le_trans hB ht56.ex.size
          replace hA := ht56.new
          refine C_cond rfl (fun hc57 => ?_) (fun hc57 => ?_)
          · rw [if_pos hc57] at h19
            refine C_seq ?_
            refine C_region ?_
            refine V_y (Y_assign rfl) rfl rfl rfl ?_
            refine V_to (fun _ _ => rfl) ?_
            obtain rfl := Option.some.inj h19
            obtain rfl := (h20 : Lp.rt _ = _)
            rw [Lp.andThen_rt] at hm
            obtain rfl := Option.some.inj hm
            refine C_ret ?_
            try simp only [↓inBlock_ret, ↓then_ret]
            exact retQ rfl (Res.one Try.results11 rfl) ⟨rfl, hK.kp⟩
          · rw [if_neg (nt hc57)] at h19
            refine C_skip_to (fun _ _ => rfl) ?_
            refine C_region ?_
            refine V_y (Y_addI rfl rfl) rfl rfl rfl ?_
            refine V_y (Y_move rfl) rfl rfl rfl ?_
            obtain rfl := Option.some.inj h19
            refine V_end (fun a ha58 => ?_)
            exact ⟨(), hlt22, h20, ⟨A16, ha58.sub ⟨rfl, rfl, rfl, (congrArg (fun z => some (Value.int .i64 z)) (w64_succ hlt22 hn25)), trivial⟩, ⟨hH, hr6⟩⟩⟩
      · refine C_exit (fun a ha59 => ?_)
        exact ⟨((), A16), ha59.sub trivial, ⟨(h23 (eq_of_dec hle21 hc26)).symm, hH, hr6⟩⟩
    rintro ⟨s5, A12⟩ w9 ⟨rfl, hH13, hk10⟩ a ha11
    rw [Lp.andThen_fin] at hm
    replace hK := Tr.trans (Dw := Dw) hK hk10
    replace hB := Nat.le_trans hB hk10.ex.size
    replace hA := hk10.new
    replace hH : Hp w.heap.size A12 w9 ([]) := hH13
    refine C_at (n := ⟨35, [], none⟩) (fun _ _ => rfl) ?_ ha11
    refine C_seq ?_
    refine C_region ?_
    refine V_y (Y_assign rfl) rfl rfl rfl ?_
    refine V_to (fun _ _ => rfl) ?_
    obtain rfl := Option.some.inj hm
    refine C_ret ?_
    try simp only [↓inBlock_ret, ↓then_ret]
    exact retQ rfl (Res.one Try.results11 rfl) ⟨rfl, hK.kp⟩

set_option maxRecDepth 4000 in
set_option maxHeartbeats 4000000 in
theorem portref2_SpansFault_c (w : World) {A : Nat → Prop} (hA : ∀ b, w.heap.size ≤ b → A b) (l : (List cal_Span)) (v_l : Value) (h_l : Sl A w v_l l) {r : Int} (hm : portref2_SpansFault l = some r) : Ret Try.prog 12 #[v_l] w fun v w' => v = .int .i64 r ∧ Kp Dw w w' := by
  unfold portref2_SpansFault at hm
  refine enter Try.func12 rfl Try.ntmps12 rfl ?_
  have hA0 := hA
  have hB := Nat.le_refl w.heap.size
  have hK : Tr Dw w.heap.size A w A w := Tr.refl (Dw := Dw) hA
  have hH : Hp w.heap.size A w [] := Hp.nil
  refine C_seq ?_
  refine C_region ?_
  refine V_y (Y_assign rfl) rfl rfl rfl ?_
  refine V_to (fun _ _ => rfl) ?_
  refine C_seq ?_
  refine C_seq ?_
  refine C_region ?_
  refine V_y (Y_move rfl) rfl rfl rfl ?_
  refine V_y (Y_lenSl h_l rfl Try.underlying34 rfl) rfl rfl rfl ?_
  refine V_y (Y_gtr rfl rfl) rfl rfl rfl ?_
  refine V_to (fun _ _ => rfl) ?_
  refine C_cond rfl (fun hc3 => ?_) (fun hc3 => ?_)
  · rw [if_pos hc3] at hm
    refine C_seq ?_
    refine C_region ?_
    refine V_y (Y_assign rfl) rfl rfl rfl ?_
    refine V_to (fun _ _ => rfl) ?_
    obtain rfl := Option.some.inj hm
    refine C_ret ?_
    try simp only [↓inBlock_ret, ↓then_ret]
    exact retQ rfl (Res.one Try.results12 rfl) ⟨rfl, hK.kp⟩
  · rw [if_neg (nt hc3)] at hm
    refine C_skip_to (fun _ _ => rfl) ?_
    refine C_seq ?_
    refine C_seq ?_
    refine C_region ?_
    refine V_y (Y_move rfl) rfl rfl rfl ?_
    refine V_y (Y_lenSl h_l rfl Try.underlying34 rfl) rfl rfl rfl ?_
    refine V_y (Y_move rfl) rfl rfl rfl ?_
    refine V_to (fun _ _ => rfl) ?_
    have hn25 := Sl.le h_l
    obtain ⟨o4, ho4, hm⟩ := Option.bind_eq_some_iff.1 hm
    refine C_cutG (ι := (Unit × (Nat → Prop))) (fun ⟨s5, A12⟩ => []) (fun ⟨s5, A12⟩ => fun w' => o4 = .fin s5 ∧ Hp w.heap.size A12 w' ([]) ∧ Tr Dw w.heap.size A w A12 w') ?_ ?_
    · refine C_block ?_
      refine C_range ho4 (fun k7 _ a w' => ∃ i : (Nat → Prop), Has ⟨35, [], none⟩ a ([(0, v_l), (9, v_l), (10, .int .i64 (l.length : Int)), (11, .int .i64 (k7 : Int))]) ∧ Hp w.heap.size i w' ([]) ∧ Tr Dw w.heap.size A w i w') (fun a ha => ⟨A, ha.sub ⟨rfl, rfl, rfl, rfl, trivial⟩, ⟨hH, Tr.refl (Dw := Dw) hA⟩⟩) ?_
      rintro K k7 _ a w15 ⟨A16, ha60, hH17, hr6⟩ hle21 K24 h23
      refine C_of ?_ ha60
      replace h_l := Sl.tr (Dw := Dw) h_l hr6
      replace hK := Tr.trans (Dw := Dw) hK hr6
      replace hB := Nat.le_trans hB hr6.ex.size
      replace hA := hr6.new
      replace hH : Hp w.heap.size A16 w15 ([]) := hH17
      refine C_seq (C_region (V_y (Y_lss rfl rfl) rfl rfl rfl (V_to (fun _ _ => rfl) ?_)))
      refine C_seq ?_
      refine C_cond rfl (fun hc26 => ?_) (fun hc26 => ?_)
      · have hlt22 := lt_of_dec hc26
        obtain ⟨x18, h19, h20⟩ := K24 hlt22
        refine C_skip_to (fun _ _ => rfl) ?_
        refine C_seq ?_
        refine C_block ?_
        refine C_seq ?_
        refine C_region ?_
        refine V_y (Y_move rfl) rfl rfl rfl ?_
        obtain ⟨x27, hx27, h19⟩ := Option.bind_eq_some_iff.1 h19
        refine V_indexAddr h_l hx27 Try.underlying34 Try.sizeOf39 rfl rfl rfl ?_
        intro b28 o29 h30
        obtain ⟨h31, _⟩ := El_cal_Span h30
        refine V_y (Y_loadA h31 Try.isAgg39 Try.sizeOf39 rfl) rfl rfl rfl ?_
        refine V_alloc Try.zeroValue39 rfl ?_
        intro b32 w33 h34
        refine V_y (Y_assign rfl) rfl rfl rfl ?_
        refine V_storeNew h34 Try.sizeOf39 rfl rfl rfl rfl (by exact (List.forall_mem_cons.2 ⟨rfl, (List.forall_mem_cons.2 ⟨rfl, (fun _ h => nomatch h)⟩)⟩)) ?_
        intro w35 h36
        have hk38 := h36.kp (Dw := Dw)
        have h37 : El (α := cal_Span) A16 w35 b32 0 x27 := h36.el hA ⟨[.int .i64 x27.from_], _, rfl, rfl, rfl⟩
        have ht39 := Kp.tr (Dw := Dw) hk38 hA hB
        replace hH := Hp.kp (Dw := Dw) hH hk38
        replace h_l := Sl.tr (Dw := Dw) h_l ht39
        replace h30 := El.tr (Dw := Dw) h30 ht39
        replace hK := Tr.trans (Dw := Dw) hK ht39
        replace hr6 := Tr.trans (Dw := Dw) hr6 ht39
        replace hB := Nat.le_trans hB ht39.ex.size
        replace hA := ht39.new
        refine V_to (fun _ _ => rfl) ?_
        refine C_seq ?_
        refine C_seq ?_
        refine C_region ?_
        obtain ⟨h40, _⟩ := El_cal_Span h37
        refine V_y (Y_loadA h40 Try.isAgg39 Try.sizeOf39 rfl) rfl rfl rfl ?_
        obtain ⟨x41, hx41, h19⟩ := Option.bind_eq_some_iff.1 h19
        refine V_call Try.call31 rfl rfl rfl rfl (portref2_spanFault_c (Dw := Dw) w35 hA x27 hx41) ?_
        rintro _ w42 ⟨rfl, hk43⟩
        have ht44 := Kp.tr (Dw := Dw) hk43 hA hB
        replace hH := Hp.kp (Dw := Dw) hH hk43
        replace h_l := Sl.tr (Dw := Dw) h_l ht44
        replace h37 := El.tr (Dw := Dw) h37 ht44
        replace hK := Tr.trans (Dw := Dw) hK ht44
        replace hr6 := Tr.trans (Dw := Dw) hr6 ht44
        replace hB := Nat.le_trans hB ht44.ex.size
        replace hA := ht44.new
        refine V_y (Y_assign rfl) rfl rfl rfl ?_
        refine V_to (fun _ _ => rfl) ?_
        refine C_seq ?_
        refine C_region ?_
        refine V_y (Y_move rfl) rfl rfl rfl ?_
        refine V_y (Y_neq rfl rfl) rfl rfl rfl ?_
        refine V_to (fun _ _ => rfl) ?_
        refine C_cond rfl (fun hc45 => ?_) (fun hc45 => ?_)
        · rw [if_pos hc45] at h19
          refine C_seq ?_
          refine C_region ?_
          refine V_y (Y_move rfl) rfl rfl rfl ?_
          refine V_y (Y_assign rfl) rfl rfl rfl ?_
          refine V_to (fun _ _ => rfl) ?_
          obtain rfl := Option.some.inj h19
          obtain rfl := (h20 : Lp.rt _ = _)
          rw [Lp.andThen_rt] at hm
          obtain rfl := Option.some.inj hm
          refine C_ret ?_
          try simp only [↓inBlock_ret, ↓then_ret]
          exact retQ rfl (Res.one Try.results12 rfl) ⟨rfl, hK.kp⟩
        · rw [if_neg (nt hc45)] at h19
          refine C_skip_to (fun _ _ => rfl) ?_
          refine C_seq ?_
          refine C_region_q (Dw := Dw) Try_mixed (by kernel_rfl) ?_
          refine VQ_y (fun w' hw' => Y_move rfl) rfl rfl rfl ?_
          refine VQ_y (fun w' hw' => Y_gtr rfl rfl) rfl rfl rfl ?_
          refine VQ_y (fun w' hw' => Y_move rfl) rfl rfl rfl ?_
          obtain ⟨s47, hs47, h19⟩ := Option.bind_eq_some_iff.1 h19
          refine VQ_cut 10 (fun _ : Unit => [(0, v_l), (9, v_l), (10, .int .i64 (l.length : Int)), (11, .int .i64 (k7 : Int)), (33, .bool s47)]) (fun _ => True) ?_ ?_
          · simp only [List.take, List.drop]
            rcases Bool.eq_false_or_eq_true (decide ((0 : Int) < (k7 : Int))) with hc46 | hc46
            · rw [if_pos hc46] at hs47
              refine VQ_ge rfl rfl rfl hc46 ?_
              have h48 := El_cal_Span_0 h37
              refine VQ_y (fun w' hw' => Y_fieldAddr Try.underlying39 rfl Try.sizeOf3 (by decide) rfl) rfl rfl rfl ?_
              refine VQ_ge rfl rfl rfl hc46 ?_
              refine VQ_y (fun w' hw' => Y_load (El.int (El.kp (Dw := Dw) h48 hw')) Try.isAgg3 rfl) rfl rfl rfl ?_
              refine VQ_ge rfl rfl rfl hc46 ?_
              refine VQ_y (fun w' hw' => Y_move rfl) rfl rfl rfl ?_
              refine VQ_ge rfl rfl rfl hc46 ?_
              refine VQ_y (fun w' hw' => Y_move rfl) rfl rfl rfl ?_
              refine VQ_ge rfl rfl rfl hc46 ?_
              refine VQ_y (fun w' hw' => Y_subI rfl rfl) rfl rfl rfl ?_
              refine VQ_ge rfl rfl rfl hc46 ?_
              obtain ⟨x49, hx49, hs47⟩ := Option.bind_eq_some_iff.1 hs47
              refine VQ_indexAddr h_l hx49 Try.underlying34 Try.sizeOf39 rfl rfl rfl ?_
              intro b50 o51 h52
              refine VQ_ge rfl rfl rfl hc46 ?_
              have h53 := El_cal_Span_1 h52
              refine VQ_y (fun w' hw' => Y_fieldAddr Try.underlying39 rfl Try.sizeOf3 (by decide) rfl) rfl rfl rfl ?_
              refine VQ_ge rfl rfl rfl hc46 ?_
              refine VQ_y (fun w' hw' => Y_load (El.int (El.kp (Dw := Dw) h53 hw')) Try.isAgg3 rfl) rfl rfl rfl ?_
              refine VQ_ge rfl rfl rfl hc46 ?_
              refine VQ_y (fun w' hw' => Y_leq rfl rfl) rfl rfl rfl ?_
              refine VQ_y (fun _ _ => Y_pick_te rfl hc46 rfl) rfl rfl rfl ?_
              obtain rfl := Option.some.inj hs47
              exact VQ_end fun a ha => ⟨(), ha.sub ⟨rfl, rfl, rfl, rfl, rfl, trivial⟩, trivial⟩
            · rw [if_neg (nt hc46)] at hs47
              refine VQ_gn rfl rfl rfl hc46 rfl rfl rfl ?_
              refine VQ_gn rfl rfl rfl hc46 rfl rfl rfl ?_
              refine VQ_gn rfl rfl rfl hc46 rfl rfl rfl ?_
              refine VQ_gn rfl rfl rfl hc46 rfl rfl rfl ?_
              refine VQ_gn rfl rfl rfl hc46 rfl rfl rfl ?_
              refine VQ_gn rfl rfl rfl hc46 rfl rfl rfl ?_
              refine VQ_gn rfl rfl rfl hc46 rfl rfl rfl ?_
              refine VQ_gn rfl rfl rfl hc46 rfl rfl rfl ?_
              refine VQ_gn rfl rfl rfl hc46 rfl rfl rfl ?_
              refine VQ_y (fun _ _ => Y_pick_fe rfl hc46 rfl) rfl rfl rfl ?_
              obtain rfl := Option.some.inj hs47
              exact VQ_end fun a ha => ⟨(), ha.sub ⟨rfl, rfl, rfl, rfl, rfl, trivial⟩, trivial⟩
          simp only [List.take, List.drop]
          rintro _ _
          refine VQ_to (fun _ _ => rfl) (fun w54 hk55 => ?_)
          have ht56 := Kp.tr (Dw := Dw) hk55 hA hB
          replace hH := Hp.kp (Dw := Dw) hH hk55
          replace h_l := Sl.tr (Dw := Dw) h_l ht56
          replace hK := Tr.trans (Dw := Dw) hK ht56
          replace hr6 := Tr.trans (Dw := Dw) hr6 ht56
          replace hB := Nat.le_trans hB ht56.ex.size
          replace hA := ht56.new
          refine C_cond rfl (fun hc57 => ?_) (fun hc57 => ?_)
          · rw [if_pos hc57] at h19
            refine C_seq ?_
            refine C_region ?_
            refine V_y (Y_assign rfl) rfl rfl rfl ?_
            refine V_to (fun _ _ => rfl) ?_
            obtain rfl := Option.some.inj h19
            obtain rfl := (h20 : Lp.rt _ = _)
            rw [Lp.andThen_rt] at hm
            obtain rfl := Option.some.inj hm
            refine C_ret ?_
            try simp only [↓inBlock_ret, ↓then_ret]
            exact retQ rfl (Res.one Try.results12 rfl) ⟨rfl, hK.kp⟩
          · rw [if_neg (nt hc57)] at h19
            refine C_skip_to (fun _ _ => rfl) ?_
            refine C_region ?_
            refine V_y (Y_addI rfl rfl) rfl rfl rfl ?_
            refine V_y (Y_move rfl) rfl rfl rfl ?_
            obtain rfl := Option.some.inj h19
            refine V_end (fun a ha58 => ?_)
            exact ⟨(), hlt22, h20, ⟨A16, ha58.sub ⟨rfl, rfl, rfl, (congrArg (fun z => some (Value.int .i64 z)) (w64_succ hlt22 hn25)), trivial⟩, ⟨hH, hr6⟩⟩⟩
      · refine C_exit (fun a ha59 => ?_)
        exact ⟨((), A16), ha59.sub trivial, ⟨(h23 (eq_of_dec hle21 hc26)).symm, hH, hr6⟩⟩
    rintro ⟨s5, A12⟩ w9 ⟨rfl, hH13, hk10⟩ a ha11
    rw [Lp.andThen_fin] at hm
    replace hK := Tr.trans (Dw := Dw) hK hk10
    replace hB := Nat.le_trans hB hk10.ex.size
    replace hA := hk10.new
    replace hH : Hp w.heap.size A12 w9 ([]) := hH13
    refine C_at (n := ⟨35, [], none⟩) (fun _ _ => rfl) ?_ ha11
    refine C_seq ?_
    refine C_region ?_
    refine V_y (Y_assign rfl) rfl rfl rfl ?_
    refine V_to (fun _ _ => rfl) ?_
    obtain rfl := Option.some.inj hm
    refine C_ret ?_
    try simp only [↓inBlock_ret, ↓then_ret]
    exact retQ rfl (Res.one Try.results12 rfl) ⟨rfl, hK.kp⟩

set_option maxRecDepth 4000 in
set_option maxHeartbeats 4000000 in
theorem portlaw2_CalNormal_c (w : World) {A : Nat → Prop} (hA : ∀ b, w.heap.size ≤ b → A b) (l : (List cal_Span)) (v_l : Value) (h_l : Sl A w v_l l) {r : Bool} (hm : portlaw2_CalNormal l = some r) : Ret Try.prog 4 #[v_l] w fun v w' => v = .bool r ∧ Kp Dw w w' := by
  unfold portlaw2_CalNormal at hm
  refine enter Try.func4 rfl Try.ntmps4 rfl ?_
  have hA0 := hA
  have hB := Nat.le_refl w.heap.size
  have hK : Tr Dw w.heap.size A w A w := Tr.refl (Dw := Dw) hA
  have hH : Hp w.heap.size A w [] := Hp.nil
  refine C_seq ?_
  refine C_region ?_
  refine V_y (Y_assign rfl) rfl rfl rfl ?_
  refine V_to (fun _ _ => rfl) ?_
  refine C_seq ?_
  refine C_region ?_
  refine V_y (Y_move rfl) rfl rfl rfl ?_
  obtain ⟨x3, hx3, hm⟩ := Option.bind_eq_some_iff.1 hm
  refine V_call Try.call8 rfl rfl rfl rfl (cal_Normal_c (Dw := Dw) w hA l v_l h_l hx3) ?_
  rintro _ w6 ⟨v4, rfl, h5, hk7⟩
  obtain ⟨A8, ht9, hH10⟩ := Hp.addOwnd (Dw := Dw) hH hB hA hk7 h5
  replace h_l := Sl.tr (Dw := Dw) h_l ht9
  replace hK := Tr.trans (Dw := Dw) hK ht9
  replace hB := Nat.le_trans hB ht9.ex.size
  replace hA := ht9.new
  replace hH : Hp w.heap.size A8 w6 (obS (α := cal_Span) 39 v4 x3.1 :: []) := hH10
  refine V_y (Y_move rfl) rfl rfl rfl ?_
  refine V_y (Y_extract rfl rfl) rfl rfl rfl ?_
  refine V_y (Y_extract rfl rfl) rfl rfl rfl ?_
  refine V_y (Y_assign rfl) rfl rfl rfl ?_
  refine V_y (Y_assign rfl) rfl rfl rfl ?_
  refine V_to (fun _ _ => rfl) ?_
  refine C_seq ?_
  refine C_region ?_
  refine V_y (Y_move rfl) rfl rfl rfl ?_
  obtain ⟨x11, hx11, hm⟩ := Option.bind_eq_some_iff.1 hm
  refine V_call Try.call9 rfl rfl rfl rfl (portref2_NormalOf_c (Dw := Dw) w6 hA l v_l h_l hx11) ?_
  rintro _ w14 ⟨v12, rfl, h13, hk15⟩
  obtain ⟨A16, ht17, hH18⟩ := Hp.addOwnd (Dw := Dw) hH hB hA hk15 h13
  replace h_l := Sl.tr (Dw := Dw) h_l ht17
  replace hK := Tr.trans (Dw := Dw) hK ht17
  replace hB := Nat.le_trans hB ht17.ex.size
  replace hA := ht17.new
  replace hH : Hp w.heap.size A16 w14 (obS (α := cal_Span) 39 v12 x11.1 :: obS (α := cal_Span) 39 v4 x3.1 :: []) := hH18
  refine V_y (Y_move rfl) rfl rfl rfl ?_
  refine V_y (Y_extract rfl rfl) rfl rfl rfl ?_
  refine V_y (Y_extract rfl rfl) rfl rfl rfl ?_
  refine V_y (Y_assign rfl) rfl rfl rfl ?_
  refine V_y (Y_assign rfl) rfl rfl rfl ?_
  refine V_to (fun _ _ => rfl) ?_
  refine C_seq ?_
  obtain ⟨s20, ho19, hm⟩ := Option.bind_eq_some_iff.1 hm
  refine C_cutG (ι := (Nat → Prop)) (fun (A25 : (Nat → Prop)) => [(2, .bool s20)]) (fun (A25 : (Nat → Prop)) => fun w' => Hp w.heap.size A25 w' (obS (α := cal_Span) 39 v12 x11.1 :: obS (α := cal_Span) 39 v4 x3.1 :: []) ∧ Tr Dw w.heap.size A16 w14 A25 w') ?_ ?_
  · have hr21 : Tr Dw w.heap.size A16 w14 A16 w14 := Tr.refl (Dw := Dw) hA
    refine C_region ?_
    refine V_y (Y_move rfl) rfl rfl rfl ?_
    refine V_y (Y_move rfl) rfl rfl rfl ?_
    refine V_y (Y_eql rfl rfl) rfl rfl rfl ?_
    refine V_y (Y_move rfl) rfl rfl rfl ?_
    rcases Bool.eq_false_or_eq_true (x3.2 == x11.2) with hc27 | hc27
    · rw [if_pos hc27] at ho19
      refine V_ge rfl rfl rfl hc27 ?_
      refine V_y (Y_move rfl) rfl rfl rfl ?_
      refine V_ge rfl rfl rfl hc27 ?_
      refine V_y (Y_move rfl) rfl rfl rfl ?_
      refine V_ge rfl rfl rfl hc27 ?_
      obtain ⟨x28, hx28, ho19⟩ := Option.bind_eq_some_iff.1 ho19
      refine V_call Try.call10 rfl rfl rfl rfl (slices_Equal_Lcal_Span_cal_Span_c (Dw := Dw) w14 (A := fun _ => True) (fun _ _ => trivial) x3.1 v4 (Hp.any (α := cal_Span) (e := 39) (v := v4) (l := x3.1) hH (i := 1) rfl) x11.1 v12 (Hp.any (α := cal_Span) (e := 39) (v := v12) (l := x11.1) hH (i := 0) rfl) hx28) ?_
      rintro _ w29 ⟨rfl, hk30⟩
      have ht31 := Kp.tr (Dw := Dw) hk30 hA hB
      replace hH := Hp.kp (Dw := Dw) hH hk30
      replace h_l := Sl.tr (Dw := Dw) h_l ht31
      replace hK := Tr.trans (Dw := Dw) hK ht31
      replace hr21 := Tr.trans (Dw := Dw) hr21 ht31
      replace hB := Nat.le_trans hB ht31.ex.size
      replace hA := ht31.new
      refine V_y (Y_pick_te rfl hc27 rfl) rfl rfl rfl ?_
      refine V_y (Y_move rfl) rfl rfl rfl ?_
      rcases Bool.eq_false_or_eq_true (x28) with hc32 | hc32
      · rw [if_pos hc32] at ho19
        refine V_ge rfl rfl rfl hc32 ?_
        refine V_y (Y_move rfl) rfl rfl rfl ?_
        refine V_ge rfl rfl rfl hc32 ?_
        obtain ⟨x33, hx33, ho19⟩ := Option.bind_eq_some_iff.1 ho19
        refine V_call Try.call11 rfl rfl rfl rfl (cal_CheckSpans_c (Dw := Dw) w29 hA l v_l h_l hx33) ?_
        rintro _ w34 ⟨rfl, hk35⟩
        have ht36 := Kp.tr (Dw := Dw) hk35 hA hB
        replace hH := Hp.kp (Dw := Dw) hH hk35
        replace h_l := Sl.tr (Dw := Dw) h_l ht36
        replace hK := Tr.trans (Dw := Dw) hK ht36
        replace hr21 := Tr.trans (Dw := Dw) hr21 ht36
        replace hB := Nat.le_trans hB ht36.ex.size
        replace hA := ht36.new
        refine V_ge rfl rfl rfl hc32 ?_
        refine V_y (Y_move rfl) rfl rfl rfl ?_
        refine V_ge rfl rfl rfl hc32 ?_
        obtain ⟨x37, hx37, ho19⟩ := Option.bind_eq_some_iff.1 ho19
        refine V_call Try.call12 rfl rfl rfl rfl (portref2_SpansFault_c (Dw := Dw) w34 hA l v_l h_l hx37) ?_
        rintro _ w38 ⟨rfl, hk39⟩
        have ht40 := Kp.tr (Dw := Dw) hk39 hA hB
        replace hH := Hp.kp (Dw := Dw) hH hk39
        replace h_l := Sl.tr (Dw := Dw) h_l ht40
        replace hK := Tr.trans (Dw := Dw) hK ht40
        replace hr21 := Tr.trans (Dw := Dw) hr21 ht40
        replace hB := Nat.le_trans hB ht40.ex.size
        replace hA := ht40.new
        refine V_ge rfl rfl rfl hc32 ?_
        refine V_y (Y_eql rfl rfl) rfl rfl rfl ?_
        refine V_y (Y_pick_te rfl hc32 rfl) rfl rfl rfl ?_
        refine V_y (Y_assign rfl) rfl rfl rfl ?_
        obtain rfl := Option.some.inj ho19
        refine V_end (fun a ha41 => ?_)
        exact ⟨A16, ha41.sub ⟨rfl, trivial⟩, ⟨hH, hr21⟩⟩
      · rw [if_neg (nt hc32)] at ho19
        refine V_gn rfl rfl rfl hc32 rfl rfl rfl ?_
        refine V_gn rfl rfl rfl hc32 rfl rfl rfl ?_
        refine V_gn rfl rfl rfl hc32 rfl rfl rfl ?_
        refine V_gn rfl rfl rfl hc32 rfl rfl rfl ?_
        refine V_gn rfl rfl rfl hc32 rfl rfl rfl ?_
        refine V_y (Y_pick_fe rfl hc32 rfl) rfl rfl rfl ?_
        refine V_y (Y_assign rfl) rfl rfl rfl ?_
        obtain rfl := Option.some.inj ho19
        refine V_end (fun a ha42 => ?_)
        exact ⟨A16, ha42.sub ⟨rfl, trivial⟩, ⟨hH, hr21⟩⟩
    · rw [if_neg (nt hc27)] at ho19
      refine V_gn rfl rfl rfl hc27 rfl rfl rfl ?_
      refine V_gn rfl rfl rfl hc27 rfl rfl rfl ?_
      refine V_gn rfl rfl rfl hc27 rfl rfl rfl ?_
      refine V_y (Y_pick_fe rfl hc27 rfl) rfl rfl rfl ?_
      refine V_y (Y_move rfl) rfl rfl rfl ?_
      rcases Bool.eq_false_or_eq_true (false) with hc43 | hc43
      · rw [if_pos hc43] at ho19
        refine V_ge rfl rfl rfl hc43 ?_
        refine V_y (Y_move rfl) rfl rfl rfl ?_
        refine V_ge rfl rfl rfl hc43 ?_
        obtain ⟨x44, hx44, ho19⟩ := Option.bind_eq_some_iff.1 ho19
        refine V_call Try.call11 rfl rfl rfl rfl (cal_CheckSpans_c (Dw := Dw) w14 hA l v_l h_l hx44) ?_
        rintro _ w45 ⟨rfl, hk46⟩
        have ht47 := Kp.tr (Dw := Dw) hk46 hA hB
        replace hH := Hp.kp (Dw := Dw) hH hk46
        replace h_l := Sl.tr (Dw := Dw) h_l ht47
        replace hK := Tr.trans (Dw := Dw) hK ht47
        replace hr21 := Tr.trans (Dw := Dw) hr21 ht47
        replace hB := Nat.le_trans hB ht47.ex.size
        replace hA := ht47.new
        refine V_ge rfl rfl rfl hc43 ?_
        refine V_y (Y_move rfl) rfl rfl rfl ?_
        refine V_ge rfl rfl rfl hc43 ?_
        obtain ⟨x48, hx48, ho19⟩ := Option.bind_eq_some_iff.1 ho19
        refine V_call Try.call12 rfl rfl rfl rfl (portref2_SpansFault_c (Dw := Dw) w45 hA l v_l h_l hx48) ?_
        rintro _ w49 ⟨rfl, hk50⟩
        have ht51 := Kp.tr (Dw := Dw) hk50 hA hB
        replace hH := Hp.kp (Dw := Dw) hH hk50
        replace h_l := Sl.tr (Dw := Dw) h_l ht51
        replace hK := Tr.trans (Dw := Dw) hK ht51
        replace hr21 := Tr.trans (Dw := Dw) hr21 ht51
        replace hB := Nat.le_trans hB ht51.ex.size
        replace hA := ht51.new
        refine V_ge rfl rfl rfl hc43 ?_
        refine V_y (Y_eql rfl rfl) rfl rfl rfl ?_
        refine V_y (Y_pick_te rfl hc43 rfl) rfl rfl rfl ?_
        refine V_y (Y_assign rfl) rfl rfl rfl ?_
        obtain rfl := Option.some.inj ho19
        refine V_end (fun a ha52 => ?_)
        exact ⟨A16, ha52.sub ⟨rfl, trivial⟩, ⟨hH, hr21⟩⟩
      · rw [if_neg (nt hc43)] at ho19
        refine V_gn rfl rfl rfl hc43 rfl rfl rfl ?_
        refine V_gn rfl rfl rfl hc43 rfl rfl rfl ?_
        refine V_gn rfl rfl rfl hc43 rfl rfl rfl ?_
        refine V_gn rfl rfl rfl hc43 rfl rfl rfl ?_
        refine V_gn rfl rfl rfl hc43 rfl rfl rfl ?_
        refine V_y (Y_pick_fe rfl hc43 rfl) rfl rfl rfl ?_
        refine V_y (Y_assign rfl) rfl rfl rfl ?_
        obtain rfl := Option.some.inj ho19
        refine V_end (fun a ha53 => ?_)
        exact ⟨A16, ha53.sub ⟨rfl, trivial⟩, ⟨hH, hr21⟩⟩
  rintro A25 w22 ⟨hH26, hk23⟩ a ha24
  replace hK := Tr.trans (Dw := Dw) hK hk23
  replace hB := Nat.le_trans hB hk23.ex.size
  replace hA := hk23.new
  replace hH : Hp w.heap.size A25 w22 (obS (α := cal_Span) 39 v12 x11.1 :: obS (α := cal_Span) 39 v4 x3.1 :: []) := hH26
  refine C_at (n := ⟨32, [], none⟩) (fun _ _ => rfl) ?_ ha24
  obtain rfl := Option.some.inj hm
  refine C_ret ?_
  try simp only [↓inBlock_ret, ↓then_ret]
  exact retQ rfl (Res.one Try.results4 rfl) ⟨rfl, hK.kp⟩

end Go.Proofs.Ytcfhifbmjjhhdaa.W
