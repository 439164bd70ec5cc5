/-
  Written by program (gen.py) from the IR of the dump: each function computes its model.
-/
import Derived.Test.YtjjdbhfigpmciaaStaffDemandsW3
namespace Go.Proofs.Ytjjdbhfigpmciaa.W
open Go Go.RowKit Go.Pu Go.Gw Go.Proofs Go.Proofs.Ytjjdbhfigpmciaa.M
set_option linter.unusedVariables false
set_option linter.unusedSimpArgs false

set_option maxRecDepth 4000 in
set_option maxHeartbeats 4000000 in
theorem portref2_least_c (w : World) {A : Nat → Prop} (hA : ∀ b, w.heap.size ≤ b → A b) (l : staff_Load) (p : staff_Promise) {r : Int} (hm : portref2_least l p = some r) : Ret Try.prog 21 #[.agg #[.int .i64 l.calls, .int .i64 l.length, .int .i64 l.span], .agg #[.int .i64 p.share, .int .i64 p.of, .int .i64 p.wait, .int .i64 p.parts]] w fun v w' => v = .int .i64 r ∧ Kp w w' := by
  unfold portref2_least at hm
  refine enter Try.func21 rfl Try.ntmps21 rfl ?_
  have hA0 := hA
  have hB := Nat.le_refl w.heap.size
  have hK : Tr w.heap.size A w A w := Tr.refl hA
  have hH : Hp w.heap.size A w [] := Hp.nil
  refine C_seq ?_
  refine C_region ?_
  refine V_box rfl rfl ?_
  intro b1 w2 h3
  have hk5 := h3.kp
  have h4 : El (α := staff_Load) A w2 b1 0 l := h3.el hA ⟨[.int .i64 l.calls], _, rfl, rfl, ⟨[.int .i64 l.length], _, rfl, rfl, rfl⟩⟩
  have ht6 := Kp.tr hk5 hA hB
  replace hH := Hp.kp hH hk5
  replace hK := Tr.trans hK ht6
  replace hB := Nat.le_trans hB ht6.ex.size
  replace hA := ht6.new
  refine V_box rfl rfl ?_
  intro b7 w9 h10
  have hk12 := h10.kp
  have h11 : El (α := staff_Promise) A w9 b7 0 p := h10.el hA ⟨[.int .i64 p.share], _, rfl, rfl, ⟨[.int .i64 p.of], _, rfl, rfl, ⟨[.int .i64 p.wait], _, rfl, rfl, rfl⟩⟩⟩
  have ht13 := Kp.tr hk12 hA hB
  replace hH := Hp.kp hH hk12
  replace h4 := El.tr h4 ht13
  replace hK := Tr.trans hK ht13
  replace hB := Nat.le_trans hB ht13.ex.size
  replace hA := ht13.new
  refine V_y (Y_assign rfl) rfl rfl rfl ?_
  refine V_to (fun _ _ => rfl) ?_
  refine C_seq ?_
  refine C_seq ?_
  refine C_region ?_
  refine V_y (Y_move rfl) rfl rfl rfl ?_
  refine V_to (fun _ _ => rfl) ?_
  obtain ⟨o14, ho14, hm⟩ := Option.bind_eq_some_iff.1 hm
  refine C_cutG (ι := (Int × (Nat → Prop))) (fun ⟨s15, A21⟩ => []) (fun ⟨s15, A21⟩ => fun w' => o14 = .fin s15 ∧ Hp w.heap.size A21 w' ([]) ∧ Tr w.heap.size A w9 A21 w') ?_ ?_
  · refine C_block ?_
    refine C_while ho14 (fun s23 a w' => ∃ i : (Nat → Prop), Has ⟨15, [], none⟩ a ([(2, .pointer (some ⟨b1, 0, none⟩)), (3, .pointer (some ⟨b7, 0, none⟩)), (6, .int .i64 s23)]) ∧ Hp w.heap.size i w' ([]) ∧ Tr w.heap.size A w9 i w') (fun a ha => ⟨A, ha.sub ⟨rfl, rfl, rfl, trivial⟩, ⟨hH, Tr.refl hA⟩⟩) ?_
    rintro K s23 a w24 ⟨A25, ha44, hH26, hr16⟩ K33
    refine C_of ?_ ha44
    replace h4 := El.tr h4 hr16
    replace h11 := El.tr h11 hr16
    replace hK := Tr.trans hK hr16
    replace hB := Nat.le_trans hB hr16.ex.size
    replace hA := hr16.new
    replace hH : Hp w.heap.size A25 w24 ([]) := hH26
    obtain ⟨x27, h28, h29⟩ := K33
    refine C_seq ?_
    refine C_region ?_
    refine V_y (Y_lss rfl rfl) rfl rfl rfl ?_
    refine V_to (fun _ _ => rfl) ?_
    refine C_seq ?_
    refine C_cond rfl (fun hc34 => ?_) (fun hc34 => ?_)
    · rw [if_pos hc34] at h28
      refine C_skip_to (fun _ _ => rfl) ?_
      refine C_seq ?_
      refine C_block ?_
      refine C_seq ?_
      refine C_region ?_
      refine V_y (Y_move rfl) rfl rfl rfl ?_
      refine V_y (Y_assign rfl) rfl rfl rfl ?_
      refine V_to (fun _ _ => rfl) ?_
      refine C_seq ?_
      refine C_region ?_
      obtain ⟨h35, _⟩ := El_staff_Load h4
      refine V_y (Y_loadA h35 Try.isAgg23 Try.sizeOf23 rfl) rfl rfl rfl ?_
      obtain ⟨h36, _⟩ := El_staff_Promise h11
      refine V_y (Y_loadA h36 Try.isAgg25 Try.sizeOf25 rfl) rfl rfl rfl ?_
      refine V_y (Y_move rfl) rfl rfl rfl ?_
      obtain ⟨x37, hx37, h28⟩ := Option.bind_eq_some_iff.1 h28
      refine V_call Try.call19 rfl rfl rfl rfl (portref2_keeps_c w24 hA l p s23 hx37) ?_
      rintro _ w38 ⟨rfl, hk39⟩
      have ht40 := Kp.tr hk39 hA hB
      replace hH := Hp.kp hH hk39
      replace h4 := El.tr h4 ht40
      replace h11 := El.tr h11 ht40
      replace hK := Tr.trans hK ht40
      replace hr16 := Tr.trans hr16 ht40
      replace hB := Nat.le_trans hB ht40.ex.size
      replace hA := ht40.new
      refine V_to (fun _ _ => rfl) ?_
      refine C_cond rfl (fun hc41 => ?_) (fun hc41 => ?_)
      · rw [if_pos hc41] at h28
        refine C_seq ?_
        refine C_region ?_
        refine V_y (Y_move rfl) rfl rfl rfl ?_
        refine V_y (Y_assign rfl) rfl rfl rfl ?_
        refine V_to (fun _ _ => rfl) ?_
        obtain rfl := Option.some.inj h28
        obtain rfl := (h29 : Lp.rt _ = _)
        rw [Lp.andThen_rt] at hm
        obtain rfl := Option.some.inj hm
        refine C_ret ?_
        try simp only [↓inBlock_ret, ↓then_ret]
        exact retQ rfl (Res.one Try.results21 rfl) ⟨rfl, hK.kp⟩
      · rw [if_neg (nt hc41)] at h28
        refine C_skip_to (fun _ _ => rfl) ?_
        refine C_region ?_
        refine V_y (Y_addI rfl rfl) rfl rfl rfl ?_
        refine V_y (Y_move rfl) rfl rfl rfl ?_
        obtain rfl := Option.some.inj h28
        refine V_end (fun a ha42 => ?_)
        exact ⟨w64 (s23 + 1), h29, ⟨A25, ha42.sub ⟨rfl, rfl, rfl, trivial⟩, ⟨hH, hr16⟩⟩⟩
    · rw [if_neg (nt hc34)] at h28
      obtain rfl := Option.some.inj h28
      refine C_exit (fun a ha43 => ?_)
      exact ⟨(s23, A25), ha43.sub trivial, ⟨h29.symm, hH, hr16⟩⟩
  rintro ⟨s15, A21⟩ w18 ⟨rfl, hH22, hk19⟩ a ha20
  rw [Lp.andThen_fin] at hm
  replace hK := Tr.trans hK hk19
  replace hB := Nat.le_trans hB hk19.ex.size
  replace hA := hk19.new
  replace hH : Hp w.heap.size A21 w18 ([]) := hH22
  refine C_at (n := ⟨15, [], none⟩) (fun _ _ => rfl) ?_ ha20
  refine C_seq ?_
  refine C_region ?_
  refine V_y (Y_assign rfl) rfl rfl rfl ?_
  refine V_to (fun _ _ => rfl) ?_
  obtain rfl := Option.some.inj hm
  refine C_ret ?_
  try simp only [↓inBlock_ret, ↓then_ret]
  exact retQ rfl (Res.one Try.results21 rfl) ⟨rfl, hK.kp⟩

set_option maxRecDepth 4000 in
set_option maxHeartbeats 4000000 in
theorem portref2_DemandOf_c (w : World) {A : Nat → Prop} (hA : ∀ b, w.heap.size ≤ b → A b) (l : (List staff_Load)) (v_l : Value) (h_l : Sl A w v_l l) (p : staff_Promise) {r : ((List Int) × Int)} (hm : portref2_DemandOf l p = some r) : Ret Try.prog 10 #[v_l, .agg #[.int .i64 p.share, .int .i64 p.of, .int .i64 p.wait, .int .i64 p.parts]] w fun v w' => ∃ s0, v = .tuple #[s0, .int .i64 r.2] ∧ Ownd 3 w w' s0 r.1 ∧ Kp w w' := by
  unfold portref2_DemandOf at hm
  refine enter Try.func10 rfl Try.ntmps10 rfl ?_
  have hA0 := hA
  have hB := Nat.le_refl w.heap.size
  have hK : Tr w.heap.size A w A w := Tr.refl hA
  have hH : Hp w.heap.size A w [] := Hp.nil
  refine C_seq ?_
  refine C_region ?_
  refine V_box rfl rfl ?_
  intro b3 w4 h5
  have hk7 := h5.kp
  have h6 : El (α := staff_Promise) A w4 b3 0 p := h5.el hA ⟨[.int .i64 p.share], _, rfl, rfl, ⟨[.int .i64 p.of], _, rfl, rfl, ⟨[.int .i64 p.wait], _, rfl, rfl, rfl⟩⟩⟩
  have ht8 := Kp.tr hk7 hA hB
  replace hH := Hp.kp hH hk7
  replace h_l := Sl.tr h_l ht8
  replace hK := Tr.trans hK ht8
  replace hB := Nat.le_trans hB ht8.ex.size
  replace hA := ht8.new
  refine V_y (Y_assign rfl) rfl rfl rfl ?_
  refine V_y (Y_assign rfl) rfl rfl rfl ?_
  refine V_to (fun _ _ => rfl) ?_
  refine C_seq ?_
  refine C_seq ?_
  refine C_region ?_
  refine V_y (Y_move rfl) rfl rfl rfl ?_
  refine V_y (Y_lenSl h_l rfl Try.underlying32 rfl) rfl rfl rfl ?_
  refine V_y (Y_gtr rfl rfl) rfl rfl rfl ?_
  refine V_to (fun _ _ => rfl) ?_
  refine C_cond rfl (fun hc9 => ?_) (fun hc9 => ?_)
  · rw [if_pos hc9] at hm
    refine C_seq ?_
    refine C_region ?_
    refine V_y (Y_assign rfl) rfl rfl rfl ?_
    refine V_y (Y_assign rfl) rfl rfl rfl ?_
    refine V_to (fun _ _ => rfl) ?_
    obtain rfl := Option.some.inj hm
    replace hH : Hp w.heap.size A w4 (obS (α := Int) 3 (.slice none 0 0) ([] : (List Int)) :: []) := Hp.addNil (α := Int) (e := 3) hH
    refine C_ret ?_
    try simp only [↓inBlock_ret, ↓then_ret]
    exact retQ rfl (Res.two Try.results10 rfl rfl) ⟨.slice none 0 0, rfl, (Hp.ownd hH (i := 0) rfl), hK.kp⟩
  · rw [if_neg (nt hc9)] at hm
    refine C_skip_to (fun _ _ => rfl) ?_
    refine C_seq ?_
    refine C_seq ?_
    refine C_region ?_
    refine V_y (Y_move rfl) rfl rfl rfl ?_
    refine V_y (Y_lenSl h_l rfl Try.underlying32 rfl) rfl rfl rfl ?_
    refine V_y (Y_move rfl) rfl rfl rfl ?_
    refine V_to (fun _ _ => rfl) ?_
    have hn30 := Sl.le h_l
    obtain ⟨o10, ho10, hm⟩ := Option.bind_eq_some_iff.1 hm
    refine C_cutG (ι := (Unit × (Nat → Prop))) (fun ⟨s11, A17⟩ => [(0, v_l), (3, .pointer (some ⟨b3, 0, none⟩))]) (fun ⟨s11, A17⟩ => fun w' => o10 = .fin s11 ∧ Hp w.heap.size A17 w' ([]) ∧ Tr w.heap.size A w4 A17 w') ?_ ?_
    · refine C_block ?_
      refine C_range ho10 (fun k13 _ a w' => ∃ i : (Nat → Prop), Has ⟨51, [], none⟩ a ([(0, v_l), (3, .pointer (some ⟨b3, 0, none⟩)), (17, v_l), (18, .int .i64 (l.length : Int)), (19, .int .i64 (k13 : Int))]) ∧ Hp w.heap.size i w' ([]) ∧ Tr w.heap.size A w4 i w') (fun a ha => ⟨A, ha.sub ⟨rfl, rfl, rfl, rfl, rfl, trivial⟩, ⟨hH, Tr.refl hA⟩⟩) ?_
      rintro K k13 _ a w20 ⟨A21, ha53, hH22, hr12⟩ hle26 K29 h28
      refine C_of ?_ ha53
      replace h_l := Sl.tr h_l hr12
      replace h6 := El.tr h6 hr12
      replace hK := Tr.trans hK hr12
      replace hB := Nat.le_trans hB hr12.ex.size
      replace hA := hr12.new
      replace hH : Hp w.heap.size A21 w20 ([]) := hH22
      refine C_seq (C_region (V_y (Y_lss rfl rfl) rfl rfl rfl (V_to (fun _ _ => rfl) ?_)))
      refine C_seq ?_
      refine C_cond rfl (fun hc31 => ?_) (fun hc31 => ?_)
      · have hlt27 := lt_of_dec hc31
        obtain ⟨x23, h24, h25⟩ := K29 hlt27
        refine C_skip_to (fun _ _ => rfl) ?_
        refine C_seq ?_
        refine C_block ?_
        refine C_seq ?_
        refine C_region ?_
        obtain ⟨x32, hx32, h24⟩ := Option.bind_eq_some_iff.1 h24
        refine V_indexAddr h_l hx32 Try.underlying32 Try.sizeOf23 rfl rfl rfl ?_
        intro b33 o34 h35
        obtain ⟨h36, _⟩ := El_staff_Load h35
        refine V_y (Y_loadA h36 Try.isAgg23 Try.sizeOf23 rfl) rfl rfl rfl ?_
        refine V_alloc Try.zeroValue23 rfl ?_
        intro b37 w38 h39
        refine V_storeNew h39 Try.sizeOf23 rfl rfl rfl rfl (by exact (List.forall_mem_cons.2 ⟨rfl, (List.forall_mem_cons.2 ⟨rfl, (List.forall_mem_cons.2 ⟨rfl, (fun _ h => nomatch h)⟩)⟩)⟩)) ?_
        intro w40 h41
        have hk43 := h41.kp
        have h42 : El (α := staff_Load) A21 w40 b37 0 x32 := h41.el hA ⟨[.int .i64 x32.calls], _, rfl, rfl, ⟨[.int .i64 x32.length], _, rfl, rfl, rfl⟩⟩
        have ht44 := Kp.tr hk43 hA hB
        replace hH := Hp.kp hH hk43
        replace h_l := Sl.tr h_l ht44
        replace h6 := El.tr h6 ht44
        replace h35 := El.tr h35 ht44
        replace hK := Tr.trans hK ht44
        replace hr12 := Tr.trans hr12 ht44
        replace hB := Nat.le_trans hB ht44.ex.size
        replace hA := ht44.new
        refine V_to (fun _ _ => rfl) ?_
        refine C_seq ?_
        refine C_region ?_
        obtain ⟨h45, _⟩ := El_staff_Load h42
        refine V_y (Y_loadA h45 Try.isAgg23 Try.sizeOf23 rfl) rfl rfl rfl ?_
        obtain ⟨x46, hx46, h24⟩ := Option.bind_eq_some_iff.1 h24
        refine V_call Try.call20 rfl rfl rfl rfl (portref2_LoadFault_c w40 hA x32 hx46) ?_
        rintro _ w47 ⟨rfl, hk48⟩
        have ht49 := Kp.tr hk48 hA hB
        replace hH := Hp.kp hH hk48
        replace h_l := Sl.tr h_l ht49
        replace h6 := El.tr h6 ht49
        replace h42 := El.tr h42 ht49
        replace hK := Tr.trans hK ht49
        replace hr12 := Tr.trans hr12 ht49
        replace hB := Nat.le_trans hB ht49.ex.size
        replace hA := ht49.new
        refine V_y (Y_assign rfl) rfl rfl rfl ?_
        refine V_to (fun _ _ => rfl) ?_
        refine C_seq ?_
        refine C_region ?_
        refine V_y (Y_move rfl) rfl rfl rfl ?_
        refine V_y (Y_neq rfl rfl) rfl rfl rfl ?_
        refine V_to (fun _ _ => rfl) ?_
        refine C_cond rfl (fun hc50 => ?_) (fun hc50 => ?_)
        · rw [if_pos hc50] at h24
          refine C_seq ?_
          refine C_region ?_
          refine V_y (Y_move rfl) rfl rfl rfl ?_
          refine V_y (Y_assign rfl) rfl rfl rfl ?_
          refine V_y (Y_assign rfl) rfl rfl rfl ?_
          refine V_to (fun _ _ => rfl) ?_
          obtain rfl := Option.some.inj h24
          obtain rfl := (h25 : Lp.rt _ = _)
          rw [Lp.andThen_rt] at hm
          obtain rfl := Option.some.inj hm
          replace hH : Hp w.heap.size A21 w47 (obS (α := Int) 3 (.slice none 0 0) ([] : (List Int)) :: []) := Hp.addNil (α := Int) (e := 3) hH
          refine C_ret ?_
          try simp only [↓inBlock_ret, ↓then_ret]
          exact retQ rfl (Res.two Try.results10 rfl rfl) ⟨.slice none 0 0, rfl, (Hp.ownd hH (i := 0) rfl), hK.kp⟩
        · rw [if_neg (nt hc50)] at h24
          refine C_skip_to (fun _ _ => rfl) ?_
          refine C_region ?_
          refine V_y (Y_addI rfl rfl) rfl rfl rfl ?_
          refine V_y (Y_move rfl) rfl rfl rfl ?_
          obtain rfl := Option.some.inj h24
          refine V_end (fun a ha51 => ?_)
          exact ⟨(), hlt27, h25, ⟨A21, ha51.sub ⟨rfl, rfl, rfl, rfl, (congrArg (fun z => some (Value.int .i64 z)) (w64_succ hlt27 hn30)), trivial⟩, ⟨hH, hr12⟩⟩⟩
      · refine C_exit (fun a ha52 => ?_)
        exact ⟨((), A21), ha52.sub ⟨rfl, rfl, trivial⟩, ⟨(h28 (eq_of_dec hle26 hc31)).symm, hH, hr12⟩⟩
    rintro ⟨s11, A17⟩ w14 ⟨rfl, hH18, hk15⟩ a ha16
    rw [Lp.andThen_fin] at hm
    replace h_l := Sl.tr h_l hk15
    replace h6 := El.tr h6 hk15
    replace hK := Tr.trans hK hk15
    replace hB := Nat.le_trans hB hk15.ex.size
    replace hA := hk15.new
    replace hH : Hp w.heap.size A17 w14 ([]) := hH18
    refine C_at (n := ⟨51, [], none⟩) (fun _ _ => rfl) ?_ ha16
    refine C_seq ?_
    refine C_seq ?_
    refine C_region ?_
    obtain ⟨h54, _⟩ := El_staff_Promise h6
    refine V_y (Y_loadA h54 Try.isAgg25 Try.sizeOf25 rfl) rfl rfl rfl ?_
    obtain ⟨x55, hx55, hm⟩ := Option.bind_eq_some_iff.1 hm
    refine V_call Try.call18 rfl rfl rfl rfl (portref2_PromiseFault_c w14 hA p hx55) ?_
    rintro _ w56 ⟨rfl, hk57⟩
    have ht58 := Kp.tr hk57 hA hB
    replace hH := Hp.kp hH hk57
    replace h_l := Sl.tr h_l ht58
    replace h6 := El.tr h6 ht58
    replace hK := Tr.trans hK ht58
    replace hB := Nat.le_trans hB ht58.ex.size
    replace hA := ht58.new
    refine V_y (Y_assign rfl) rfl rfl rfl ?_
    refine V_to (fun _ _ => rfl) ?_
    refine C_seq ?_
    refine C_region ?_
    refine V_y (Y_move rfl) rfl rfl rfl ?_
    refine V_y (Y_neq rfl rfl) rfl rfl rfl ?_
    refine V_to (fun _ _ => rfl) ?_
    refine C_cond rfl (fun hc59 => ?_) (fun hc59 => ?_)
    · rw [if_pos hc59] at hm
      refine C_seq ?_
      refine C_region ?_
      refine V_y (Y_move rfl) rfl rfl rfl ?_
      refine V_y (Y_assign rfl) rfl rfl rfl ?_
      refine V_y (Y_assign rfl) rfl rfl rfl ?_
      refine V_to (fun _ _ => rfl) ?_
      obtain rfl := Option.some.inj hm
      replace hH : Hp w.heap.size A17 w56 (obS (α := Int) 3 (.slice none 0 0) ([] : (List Int)) :: []) := Hp.addNil (α := Int) (e := 3) hH
      refine C_ret ?_
      try simp only [↓inBlock_ret, ↓then_ret]
      exact retQ rfl (Res.two Try.results10 rfl rfl) ⟨.slice none 0 0, rfl, (Hp.ownd hH (i := 0) rfl), hK.kp⟩
    · rw [if_neg (nt hc59)] at hm
      refine C_skip_to (fun _ _ => rfl) ?_
      refine C_seq ?_
      refine C_region ?_
      refine V_y (Y_assign rfl) rfl rfl rfl ?_
      refine V_to (fun _ _ => rfl) ?_
      refine C_seq ?_
      refine C_seq ?_
      refine C_region ?_
      refine V_y (Y_move rfl) rfl rfl rfl ?_
      refine V_y (Y_lenSl h_l rfl Try.underlying32 rfl) rfl rfl rfl ?_
      refine V_y (Y_move rfl) rfl rfl rfl ?_
      refine V_to (fun _ _ => rfl) ?_
      replace hH : Hp w.heap.size A17 w56 (obS (α := Int) 3 (.slice none 0 0) ([] : (List Int)) :: []) := Hp.addNil (α := Int) (e := 3) hH
      have hn85 := Sl.le h_l
      obtain ⟨o60, ho60, hm⟩ := Option.bind_eq_some_iff.1 hm
      refine C_cutG (ι := ((List Int) × Value × (Nat → Prop))) (fun ⟨s61, v68, A70⟩ => [(10, v68)]) (fun ⟨s61, v68, A70⟩ => fun w' => o60 = .fin s61 ∧ Hp w.heap.size A70 w' (obS (α := Int) 3 v68 s61 :: []) ∧ Tr w.heap.size A17 w56 A70 w') ?_ ?_
      · refine C_block ?_
        refine C_range ho60 (fun k63 s72 a w' => ∃ i : (Value × (Nat → Prop)), Has ⟨51, [], none⟩ a ([(3, .pointer (some ⟨b3, 0, none⟩)), (10, i.1), (34, v_l), (35, .int .i64 (l.length : Int)), (36, .int .i64 (k63 : Int))]) ∧ Hp w.heap.size i.2 w' (obS (α := Int) 3 i.1 s72 :: []) ∧ Tr w.heap.size A17 w56 i.2 w') (fun a ha => ⟨(.slice none 0 0, A17), ha.sub ⟨rfl, rfl, rfl, rfl, rfl, trivial⟩, ⟨hH, Tr.refl hA⟩⟩) ?_
        rintro K k63 s72 a w73 ⟨⟨v74, A76⟩, ha120, hH77, hr62⟩ hle81 K84 h83
        refine C_of ?_ ha120
        replace h6 := El.tr h6 hr62
        replace h_l := Sl.tr h_l hr62
        replace hK := Tr.trans hK hr62
        replace hB := Nat.le_trans hB hr62.ex.size
        replace hA := hr62.new
        replace hH : Hp w.heap.size A76 w73 (obS (α := Int) 3 v74 s72 :: []) := hH77
        refine C_seq (C_region (V_y (Y_lss rfl rfl) rfl rfl rfl (V_to (fun _ _ => rfl) ?_)))
        refine C_seq ?_
        refine C_cond rfl (fun hc86 => ?_) (fun hc86 => ?_)
        · have hlt82 := lt_of_dec hc86
          obtain ⟨x78, h79, h80⟩ := K84 hlt82
          refine C_skip_to (fun _ _ => rfl) ?_
          refine C_seq ?_
          refine C_block ?_
          refine C_seq ?_
          refine C_region ?_
          obtain ⟨x87, hx87, h79⟩ := Option.bind_eq_some_iff.1 h79
          refine V_indexAddr h_l hx87 Try.underlying32 Try.sizeOf23 rfl rfl rfl ?_
          intro b88 o89 h90
          obtain ⟨h91, _⟩ := El_staff_Load h90
          refine V_y (Y_loadA h91 Try.isAgg23 Try.sizeOf23 rfl) rfl rfl rfl ?_
          refine V_alloc Try.zeroValue23 rfl ?_
          intro b92 w93 h94
          refine V_storeNew h94 Try.sizeOf23 rfl rfl rfl rfl (by exact (List.forall_mem_cons.2 ⟨rfl, (List.forall_mem_cons.2 ⟨rfl, (List.forall_mem_cons.2 ⟨rfl, (fun _ h => nomatch h)⟩)⟩)⟩)) ?_
          intro w95 h96
          have hk98 := h96.kp
          have h97 : El (α := staff_Load) A76 w95 b92 0 x87 := h96.el hA ⟨[.int .i64 x87.calls], _, rfl, rfl, ⟨[.int .i64 x87.length], _, rfl, rfl, rfl⟩⟩
          have ht99 := Kp.tr hk98 hA hB
          replace hH := Hp.kp hH hk98
          replace h6 := El.tr h6 ht99
          replace h_l := Sl.tr h_l ht99
          replace h90 := El.tr h90 ht99
          replace hK := Tr.trans hK ht99
          replace hr62 := Tr.trans hr62 ht99
          replace hB := Nat.le_trans hB ht99.ex.size
          replace hA := ht99.new
          refine V_to (fun _ _ => rfl) ?_
          refine C_seq ?_
          refine C_region ?_
          obtain ⟨h100, _⟩ := El_staff_Load h97
          refine V_y (Y_loadA h100 Try.isAgg23 Try.sizeOf23 rfl) rfl rfl rfl ?_
          obtain ⟨h101, _⟩ := El_staff_Promise h6
          refine V_y (Y_loadA h101 Try.isAgg25 Try.sizeOf25 rfl) rfl rfl rfl ?_
          obtain ⟨x102, hx102, h79⟩ := Option.bind_eq_some_iff.1 h79
          refine V_call Try.call21 rfl rfl rfl rfl (portref2_least_c w95 hA x87 p hx102) ?_
          rintro _ w103 ⟨rfl, hk104⟩
          have ht105 := Kp.tr hk104 hA hB
          replace hH := Hp.kp hH hk104
          replace h6 := El.tr h6 ht105
          replace h_l := Sl.tr h_l ht105
          replace h97 := El.tr h97 ht105
          replace hK := Tr.trans hK ht105
          replace hr62 := Tr.trans hr62 ht105
          replace hB := Nat.le_trans hB ht105.ex.size
          replace hA := ht105.new
          refine V_y (Y_assign rfl) rfl rfl rfl ?_
          refine V_to (fun _ _ => rfl) ?_
          refine C_seq ?_
          refine C_seq ?_
          refine C_region ?_
          refine V_y (Y_move rfl) rfl rfl rfl ?_
          refine V_y (Y_lss rfl rfl) rfl rfl rfl ?_
          refine V_to (fun _ _ => rfl) ?_
          refine C_cond rfl (fun hc106 => ?_) (fun hc106 => ?_)
          · rw [if_pos hc106] at h79
            refine C_seq ?_
            refine C_region ?_
            refine V_y (Y_assign rfl) rfl rfl rfl ?_
            refine V_y (Y_assign rfl) rfl rfl rfl ?_
            refine V_to (fun _ _ => rfl) ?_
            obtain rfl := Option.some.inj h79
            obtain rfl := (h80 : Lp.rt _ = _)
            rw [Lp.andThen_rt] at hm
            obtain rfl := Option.some.inj hm
            replace hH : Hp w.heap.size A76 w103 (obS (α := Int) 3 (.slice none 0 0) ([] : (List Int)) :: obS (α := Int) 3 v74 s72 :: []) := Hp.addNil (α := Int) (e := 3) hH
            refine C_ret ?_
            try simp only [↓inBlock_ret, ↓then_ret]
            exact retQ rfl (Res.two Try.results10 rfl rfl) ⟨.slice none 0 0, rfl, (Hp.ownd hH (i := 0) rfl), hK.kp⟩
          · rw [if_neg (nt hc106)] at h79
            refine C_skip_to (fun _ _ => rfl) ?_
            refine C_region ?_
            refine V_y (Y_move rfl) rfl rfl rfl ?_
            refine V_y (Y_move rfl) rfl rfl rfl ?_
            refine V_buildSlice (l := ([x102] : List Int)) (len := 1) Try.underlying33 Try.sizeOf3 Try.zeroValue3 rfl (by with_unfolding_all rfl) (by decide) (by decide) hA ⟨[.int .i64 x102], _, rfl, rfl, rfl⟩ rfl rfl ?_
            intro v107 w108 hk110 h109
            have ht111 := Kp.tr hk110 hA hB
            replace hH := Hp.kp hH hk110
            replace h6 := El.tr h6 ht111
            replace h_l := Sl.tr h_l ht111
            replace hK := Tr.trans hK ht111
            replace hr62 := Tr.trans hr62 ht111
            replace hB := Nat.le_trans hB ht111.ex.size
            replace hA := ht111.new
            obtain ⟨x112, hx112, h79⟩ := Option.bind_eq_some_iff.1 h79
            refine V_appendH (e := 3) (v := v74) (l := s72) (ti := Try.t3) (bytes := 8) (lim := 17592186044416) hH (i := 0) rfl h109 hx112 Try.underlying33 Try_info3 rfl rfl rfl rfl (by decide) (by decide) (by decide) hB hA rfl rfl rfl ?_
            intro v113 w114 A115 hH116 ht117
            replace h6 := El.tr h6 ht117
            replace h_l := Sl.tr h_l ht117
            replace h109 := Sl.tr h109 ht117
            replace hK := Tr.trans hK ht117
            replace hr62 := Tr.trans hr62 ht117
            replace hB := Nat.le_trans hB ht117.ex.size
            replace hA := ht117.new
            replace hH : Hp w.heap.size A115 w114 (obS (α := Int) 3 v113 x112 :: []) := hH116
            refine V_y (Y_assign rfl) rfl rfl rfl ?_
            refine V_to (fun _ _ => rfl) ?_
            refine C_region ?_
            refine V_y (Y_addI rfl rfl) rfl rfl rfl ?_
            refine V_y (Y_move rfl) rfl rfl rfl ?_
            obtain rfl := Option.some.inj h79
            refine V_end (fun a ha118 => ?_)
            exact ⟨x112, hlt82, h80, ⟨(v113, A115), ha118.sub ⟨rfl, rfl, rfl, rfl, (congrArg (fun z => some (Value.int .i64 z)) (w64_succ hlt82 hn85)), trivial⟩, ⟨hH, hr62⟩⟩⟩
        · refine C_exit (fun a ha119 => ?_)
          exact ⟨(s72, v74, A76), ha119.sub ⟨rfl, trivial⟩, ⟨(h83 (eq_of_dec hle81 hc86)).symm, hH, hr62⟩⟩
      rintro ⟨s61, v68, A70⟩ w65 ⟨rfl, hH71, hk66⟩ a ha67
      rw [Lp.andThen_fin] at hm
      replace hK := Tr.trans hK hk66
      replace hB := Nat.le_trans hB hk66.ex.size
      replace hA := hk66.new
      replace hH : Hp w.heap.size A70 w65 (obS (α := Int) 3 v68 s61 :: []) := hH71
      refine C_at (n := ⟨51, [], none⟩) (fun _ _ => rfl) ?_ ha67
      refine C_seq ?_
      refine C_region ?_
      refine V_y (Y_move rfl) rfl rfl rfl ?_
      refine V_y (Y_assign rfl) rfl rfl rfl ?_
      refine V_y (Y_assign rfl) rfl rfl rfl ?_
      refine V_to (fun _ _ => rfl) ?_
      obtain rfl := Option.some.inj hm
      refine C_ret ?_
      try simp only [↓inBlock_ret, ↓then_ret]
      exact retQ rfl (Res.two Try.results10 rfl rfl) ⟨v68, rfl, (Hp.ownd hH (i := 0) rfl), hK.kp⟩

set_option maxRecDepth 4000 in
set_option maxHeartbeats 4000000 in
theorem slices_Equal_Lint_int_c (w : World) {A : Nat → Prop} (hA : ∀ b, w.heap.size ≤ b → A b) (s1 : (List Int)) (v_s1 : Value) (h_s1 : Sl A w v_s1 s1) (s2 : (List Int)) (v_s2 : Value) (h_s2 : Sl A w v_s2 s2) {r : Bool} (hm : slices_Equal_Lint_int s1 s2 = some r) : Ret Try.prog 11 #[v_s1, v_s2] w fun v w' => v = .bool r ∧ Kp w w' := by
  unfold slices_Equal_Lint_int at hm
  refine enter Try.func11 rfl Try.ntmps11 rfl ?_
  have hA0 := hA
  have hB := Nat.le_refl w.heap.size
  have hK : Tr w.heap.size A w A w := Tr.refl hA
  have hH : Hp w.heap.size A w [] := Hp.nil
  refine C_seq ?_
  refine C_region ?_
  refine V_y (Y_assign rfl) rfl rfl rfl ?_
  refine V_to (fun _ _ => rfl) ?_
  refine C_seq ?_
  refine C_seq ?_
  refine C_region ?_
  refine V_y (Y_move rfl) rfl rfl rfl ?_
  refine V_y (Y_lenSl h_s1 rfl Try.underlying33 rfl) rfl rfl rfl ?_
  refine V_y (Y_move rfl) rfl rfl rfl ?_
  refine V_y (Y_lenSl h_s2 rfl Try.underlying33 rfl) rfl rfl rfl ?_
  refine V_y (Y_neq rfl rfl) rfl rfl rfl ?_
  refine V_to (fun _ _ => rfl) ?_
  refine C_cond rfl (fun hc5 => ?_) (fun hc5 => ?_)
  · rw [if_pos hc5] at hm
    refine C_seq ?_
    refine C_region ?_
    refine V_y (Y_assign rfl) rfl rfl rfl ?_
    refine V_to (fun _ _ => rfl) ?_
    obtain rfl := Option.some.inj hm
    refine C_ret ?_
    try simp only [↓inBlock_ret, ↓then_ret]
    exact retQ rfl (Res.one Try.results11 rfl) ⟨rfl, hK.kp⟩
  · rw [if_neg (nt hc5)] at hm
    refine C_skip_to (fun _ _ => rfl) ?_
    refine C_seq ?_
    refine C_seq ?_
    refine C_region ?_
    refine V_y (Y_move rfl) rfl rfl rfl ?_
    refine V_y (Y_lenSl h_s1 rfl Try.underlying33 rfl) rfl rfl rfl ?_
    refine V_y (Y_move rfl) rfl rfl rfl ?_
    refine V_to (fun _ _ => rfl) ?_
    have hn27 := Sl.le h_s1
    obtain ⟨o6, ho6, hm⟩ := Option.bind_eq_some_iff.1 hm
    refine C_cutG (ι := (Unit × (Nat → Prop))) (fun ⟨s7, A13⟩ => []) (fun ⟨s7, A13⟩ => fun w' => o6 = .fin s7 ∧ Hp w.heap.size A13 w' ([]) ∧ Tr w.heap.size A w A13 w') ?_ ?_
    · refine C_block ?_
      refine C_range ho6 (fun k9 _ a w' => ∃ i : (Nat → Prop), Has ⟨26, [], none⟩ a ([(0, v_s1), (1, v_s2), (12, .int .i64 (s1.length : Int)), (13, .int .i64 (k9 : Int))]) ∧ Hp w.heap.size i w' ([]) ∧ Tr w.heap.size A w i w') (fun a ha => ⟨A, ha.sub ⟨rfl, rfl, rfl, rfl, trivial⟩, ⟨hH, Tr.refl hA⟩⟩) ?_
      rintro K k9 _ a w17 ⟨A18, ha43, hH19, hr8⟩ hle23 K26 h25
      refine C_of ?_ ha43
      replace h_s1 := Sl.tr h_s1 hr8
      replace h_s2 := Sl.tr h_s2 hr8
      replace hK := Tr.trans hK hr8
      replace hB := Nat.le_trans hB hr8.ex.size
      replace hA := hr8.new
      replace hH : Hp w.heap.size A18 w17 ([]) := hH19
      refine C_seq (C_region (V_y (Y_lss rfl rfl) rfl rfl rfl (V_to (fun _ _ => rfl) ?_)))
      refine C_seq ?_
      refine C_cond rfl (fun hc28 => ?_) (fun hc28 => ?_)
      · have hlt24 := lt_of_dec hc28
        obtain ⟨x20, h21, h22⟩ := K26 hlt24
        refine C_skip_to (fun _ _ => rfl) ?_
        refine C_seq ?_
        refine C_block ?_
        refine C_seq ?_
        refine C_region ?_
        refine V_y (Y_move rfl) rfl rfl rfl ?_
        refine V_y (Y_assign rfl) rfl rfl rfl ?_
        refine V_to (fun _ _ => rfl) ?_
        refine C_seq ?_
        refine C_region_q Try_mixed (by kernel_rfl) ?_
        refine VQ_y (fun w' hw' => Y_move rfl) rfl rfl rfl ?_
        refine VQ_y (fun w' hw' => Y_move rfl) rfl rfl rfl ?_
        obtain ⟨x29, hx29, h21⟩ := Option.bind_eq_some_iff.1 h21
        refine VQ_indexAddr h_s1 hx29 Try.underlying33 Try.sizeOf3 rfl rfl rfl ?_
        intro b30 o31 h32
        refine VQ_y (fun w' hw' => Y_load (El.int (El.kp h32 hw')) Try.isAgg3 rfl) rfl rfl rfl ?_
        refine VQ_y (fun w' hw' => Y_move rfl) rfl rfl rfl ?_
        refine VQ_y (fun w' hw' => Y_move rfl) rfl rfl rfl ?_
        obtain ⟨x33, hx33, h21⟩ := Option.bind_eq_some_iff.1 h21
        refine VQ_indexAddr h_s2 hx33 Try.underlying33 Try.sizeOf3 rfl rfl rfl ?_
        intro b34 o35 h36
        refine VQ_y (fun w' hw' => Y_load (El.int (El.kp h36 hw')) Try.isAgg3 rfl) rfl rfl rfl ?_
        refine VQ_y (fun w' hw' => Y_neq rfl rfl) rfl rfl rfl ?_
        refine VQ_to (fun _ _ => rfl) (fun w37 hk38 => ?_)
        have ht39 := Kp.tr hk38 hA hB
        replace hH := Hp.kp hH hk38
        replace h_s1 := Sl.tr h_s1 ht39
        replace h_s2 := Sl.tr h_s2 ht39
        replace hK := Tr.trans hK ht39
        replace hr8 := Tr.trans hr8 ht39
        replace hB := Nat.le_trans hB ht39.ex.size
        replace hA := ht39.new
        refine C_cond rfl (fun hc40 => ?_) (fun hc40 => ?_)
        · rw [if_pos hc40] at h21
          refine C_seq ?_
          refine C_region ?_
          refine V_y (Y_assign rfl) rfl rfl rfl ?_
          refine V_to (fun _ _ => rfl) ?_
          obtain rfl := Option.some.inj h21
          obtain rfl := (h22 : Lp.rt _ = _)
          rw [Lp.andThen_rt] at hm
          obtain rfl := Option.some.inj hm
          refine C_ret ?_
          try simp only [↓inBlock_ret, ↓then_ret]
          exact retQ rfl (Res.one Try.results11 rfl) ⟨rfl, hK.kp⟩
        · rw [if_neg (nt hc40)] at h21
          refine C_skip_to (fun _ _ => rfl) ?_
          refine C_region ?_
          refine V_y (Y_addI rfl rfl) rfl rfl rfl ?_
          refine V_y (Y_move rfl) rfl rfl rfl ?_
          obtain rfl := Option.some.inj h21
          refine V_end (fun a ha41 => ?_)
          exact ⟨(), hlt24, h22, ⟨A18, ha41.sub ⟨rfl, rfl, rfl, (congrArg (fun z => some (Value.int .i64 z)) (w64_succ hlt24 hn27)), trivial⟩, ⟨hH, hr8⟩⟩⟩
      · refine C_exit (fun a ha42 => ?_)
        exact ⟨((), A18), ha42.sub trivial, ⟨(h25 (eq_of_dec hle23 hc28)).symm, hH, hr8⟩⟩
    rintro ⟨s7, A13⟩ w10 ⟨rfl, hH14, hk11⟩ a ha12
    rw [Lp.andThen_fin] at hm
    replace hK := Tr.trans hK hk11
    replace hB := Nat.le_trans hB hk11.ex.size
    replace hA := hk11.new
    replace hH : Hp w.heap.size A13 w10 ([]) := hH14
    refine C_at (n := ⟨26, [], none⟩) (fun _ _ => rfl) ?_ ha12
    refine C_seq ?_
    refine C_region ?_
    refine V_y (Y_assign rfl) rfl rfl rfl ?_
    refine V_to (fun _ _ => rfl) ?_
    obtain rfl := Option.some.inj hm
    refine C_ret ?_
    try simp only [↓inBlock_ret, ↓then_ret]
    exact retQ rfl (Res.one Try.results11 rfl) ⟨rfl, hK.kp⟩

set_option maxRecDepth 4000 in
set_option maxHeartbeats 4000000 in
theorem portlaw2_StaffDemands_c (w : World) {A : Nat → Prop} (hA : ∀ b, w.heap.size ≤ b → A b) (l : (List staff_Load)) (v_l : Value) (h_l : Sl A w v_l l) (p : staff_Promise) {r : Bool} (hm : portlaw2_StaffDemands l p = some r) : Ret Try.prog 4 #[v_l, .agg #[.int .i64 p.share, .int .i64 p.of, .int .i64 p.wait, .int .i64 p.parts]] w fun v w' => v = .bool r ∧ Kp w w' := by
  unfold portlaw2_StaffDemands at hm
  refine enter Try.func4 rfl Try.ntmps4 rfl ?_
  have hA0 := hA
  have hB := Nat.le_refl w.heap.size
  have hK : Tr w.heap.size A w A w := Tr.refl hA
  have hH : Hp w.heap.size A w [] := Hp.nil
  refine C_seq ?_
  refine C_region ?_
  refine V_box rfl rfl ?_
  intro b3 w4 h5
  have hk7 := h5.kp
  have h6 : El (α := staff_Promise) A w4 b3 0 p := h5.el hA ⟨[.int .i64 p.share], _, rfl, rfl, ⟨[.int .i64 p.of], _, rfl, rfl, ⟨[.int .i64 p.wait], _, rfl, rfl, rfl⟩⟩⟩
  have ht8 := Kp.tr hk7 hA hB
  replace hH := Hp.kp hH hk7
  replace h_l := Sl.tr h_l ht8
  replace hK := Tr.trans hK ht8
  replace hB := Nat.le_trans hB ht8.ex.size
  replace hA := ht8.new
  refine V_y (Y_assign rfl) rfl rfl rfl ?_
  refine V_to (fun _ _ => rfl) ?_
  refine C_seq ?_
  refine C_region ?_
  refine V_y (Y_move rfl) rfl rfl rfl ?_
  obtain ⟨h9, _⟩ := El_staff_Promise h6
  refine V_y (Y_loadA h9 Try.isAgg25 Try.sizeOf25 rfl) rfl rfl rfl ?_
  obtain ⟨x10, hx10, hm⟩ := Option.bind_eq_some_iff.1 hm
  refine V_call Try.call9 rfl rfl rfl rfl (staff_Demand_c w4 hA l v_l h_l p hx10) ?_
  rintro _ w13 ⟨v11, rfl, h12, hk14⟩
  obtain ⟨A15, ht16, hH17⟩ := Hp.addOwnd hH hB hA hk14 h12
  replace h_l := Sl.tr h_l ht16
  replace h6 := El.tr h6 ht16
  replace hK := Tr.trans hK ht16
  replace hB := Nat.le_trans hB ht16.ex.size
  replace hA := ht16.new
  replace hH : Hp w.heap.size A15 w13 (obS (α := Int) 3 v11 x10.1 :: []) := hH17
  refine V_y (Y_move rfl) rfl rfl rfl ?_
  refine V_y (Y_extract rfl rfl) rfl rfl rfl ?_
  refine V_y (Y_extract rfl rfl) rfl rfl rfl ?_
  refine V_y (Y_assign rfl) rfl rfl rfl ?_
  refine V_y (Y_assign rfl) rfl rfl rfl ?_
  refine V_to (fun _ _ => rfl) ?_
  refine C_seq ?_
  refine C_region ?_
  refine V_y (Y_move rfl) rfl rfl rfl ?_
  obtain ⟨h18, _⟩ := El_staff_Promise h6
  refine V_y (Y_loadA h18 Try.isAgg25 Try.sizeOf25 rfl) rfl rfl rfl ?_
  obtain ⟨x19, hx19, hm⟩ := Option.bind_eq_some_iff.1 hm
  refine V_call Try.call10 rfl rfl rfl rfl (portref2_DemandOf_c w13 hA l v_l h_l p hx19) ?_
  rintro _ w22 ⟨v20, rfl, h21, hk23⟩
  obtain ⟨A24, ht25, hH26⟩ := Hp.addOwnd hH hB hA hk23 h21
  replace h_l := Sl.tr h_l ht25
  replace h6 := El.tr h6 ht25
  replace hK := Tr.trans hK ht25
  replace hB := Nat.le_trans hB ht25.ex.size
  replace hA := ht25.new
  replace hH : Hp w.heap.size A24 w22 (obS (α := Int) 3 v20 x19.1 :: obS (α := Int) 3 v11 x10.1 :: []) := hH26
  refine V_y (Y_move rfl) rfl rfl rfl ?_
  refine V_y (Y_extract rfl rfl) rfl rfl rfl ?_
  refine V_y (Y_extract rfl rfl) rfl rfl rfl ?_
  refine V_y (Y_assign rfl) rfl rfl rfl ?_
  refine V_y (Y_assign rfl) rfl rfl rfl ?_
  refine V_to (fun _ _ => rfl) ?_
  refine C_seq ?_
  obtain ⟨s28, ho27, hm⟩ := Option.bind_eq_some_iff.1 hm
  refine C_cutG (ι := (Nat → Prop)) (fun (A33 : (Nat → Prop)) => [(4, .bool s28)]) (fun (A33 : (Nat → Prop)) => fun w' => Hp w.heap.size A33 w' (obS (α := Int) 3 v20 x19.1 :: obS (α := Int) 3 v11 x10.1 :: []) ∧ Tr w.heap.size A24 w22 A33 w') ?_ ?_
  · have hr29 : Tr w.heap.size A24 w22 A24 w22 := Tr.refl hA
    refine C_region ?_
    refine V_y (Y_move rfl) rfl rfl rfl ?_
    refine V_y (Y_move rfl) rfl rfl rfl ?_
    refine V_y (Y_eql rfl rfl) rfl rfl rfl ?_
    refine V_y (Y_move rfl) rfl rfl rfl ?_
    rcases Bool.eq_false_or_eq_true (x10.2 == x19.2) with hc35 | hc35
    · rw [if_pos hc35] at ho27
      refine V_ge rfl rfl rfl hc35 ?_
      refine V_y (Y_move rfl) rfl rfl rfl ?_
      refine V_ge rfl rfl rfl hc35 ?_
      refine V_y (Y_move rfl) rfl rfl rfl ?_
      refine V_ge rfl rfl rfl hc35 ?_
      obtain ⟨x36, hx36, ho27⟩ := Option.bind_eq_some_iff.1 ho27
      refine V_call Try.call11 rfl rfl rfl rfl (slices_Equal_Lint_int_c w22 (A := fun _ => True) (fun _ _ => trivial) x10.1 v11 (Hp.any (α := Int) (e := 3) (v := v11) (l := x10.1) hH (i := 1) rfl) x19.1 v20 (Hp.any (α := Int) (e := 3) (v := v20) (l := x19.1) hH (i := 0) rfl) hx36) ?_
      rintro _ w37 ⟨rfl, hk38⟩
      have ht39 := Kp.tr hk38 hA hB
      replace hH := Hp.kp hH hk38
      replace hK := Tr.trans hK ht39
      replace hr29 := Tr.trans hr29 ht39
      replace hB := Nat.le_trans hB ht39.ex.size
      replace hA := ht39.new
      refine V_y (Y_pick_te rfl hc35 rfl) rfl rfl rfl ?_
      refine V_y (Y_assign rfl) rfl rfl rfl ?_
      obtain rfl := Option.some.inj ho27
      refine V_end (fun a ha40 => ?_)
      exact ⟨A24, ha40.sub ⟨rfl, trivial⟩, ⟨hH, hr29⟩⟩
    · rw [if_neg (nt hc35)] at ho27
      refine V_gn rfl rfl rfl hc35 rfl rfl rfl ?_
      refine V_gn rfl rfl rfl hc35 rfl rfl rfl ?_
      refine V_gn rfl rfl rfl hc35 rfl rfl rfl ?_
      refine V_y (Y_pick_fe rfl hc35 rfl) rfl rfl rfl ?_
      refine V_y (Y_assign rfl) rfl rfl rfl ?_
      obtain rfl := Option.some.inj ho27
      refine V_end (fun a ha41 => ?_)
      exact ⟨A24, ha41.sub ⟨rfl, trivial⟩, ⟨hH, hr29⟩⟩
  rintro A33 w30 ⟨hH34, hk31⟩ a ha32
  replace hK := Tr.trans hK hk31
  replace hB := Nat.le_trans hB hk31.ex.size
  replace hA := hk31.new
  replace hH : Hp w.heap.size A33 w30 (obS (α := Int) 3 v20 x19.1 :: obS (α := Int) 3 v11 x10.1 :: []) := hH34
  refine C_at (n := ⟨29, [], none⟩) (fun _ _ => rfl) ?_ ha32
  obtain rfl := Option.some.inj hm
  refine C_ret ?_
  try simp only [↓inBlock_ret, ↓then_ret]
  exact retQ rfl (Res.one Try.results4 rfl) ⟨rfl, hK.kp⟩

end Go.Proofs.Ytjjdbhfigpmciaa.W
