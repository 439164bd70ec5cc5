/-
  Written by program (gen.py) from the IR of the dump: each function computes its model.
-/
import Derived.Test.YtigplgkbilmabaaDoorRouteNeedsW1
namespace Go.Proofs.YtigplgkbilmabaaDoor.W
open Go Go.RowKit Go.Pu Go.Gw Go.Proofs Go.Proofs.YtigplgkbilmabaaDoor.M
set_option linter.unusedVariables false
set_option linter.unusedSimpArgs false

set_option maxRecDepth 4000 in
set_option maxHeartbeats 4000000 in
theorem portref2_able_c (w : World) {A : Nat → Prop} (hA : ∀ b, w.heap.size ≤ b → A b) (p : route_Person) (v_p : Value) (h_p : Sl A w v_p p.skills) (needs : (List route_Skill)) (v_needs : Value) (h_needs : Sl A w v_needs needs) {r : Bool} (hm : portref2_able p needs = some r) : Ret Tryd.prog 37 #[.agg #[.int .i64 p.no, .int .i64 p.capacity, .int .i64 p.calendar, v_p], v_needs] w fun v w' => v = .bool r ∧ Kp w w' := by
  unfold portref2_able at hm
  refine enter Tryd.func37 rfl Tryd.ntmps37 rfl ?_
  have hA0 := hA
  have hB := Nat.le_refl w.heap.size
  have hK : Tr w.heap.size A w A w := Tr.refl hA
  have hH : Hp w.heap.size A w [] := Hp.nil
  refine C_seq ?_
  refine C_region ?_
  refine V_box rfl rfl ?_
  intro b5 w6 h7
  have hk9 := h7.kp
  have h8 : El (α := route_Person) A w6 b5 0 p := h7.el hA ⟨[.int .i64 p.no], _, rfl, rfl, ⟨[.int .i64 p.capacity], _, rfl, rfl, ⟨[.int .i64 p.calendar], _, rfl, rfl, ⟨_, rfl, h_p⟩⟩⟩⟩
  have ht10 := Kp.tr hk9 hA hB
  replace hH := Hp.kp hH hk9
  replace h_p := Sl.tr h_p ht10
  replace h_needs := Sl.tr h_needs ht10
  replace hK := Tr.trans hK ht10
  replace hB := Nat.le_trans hB ht10.ex.size
  replace hA := ht10.new
  refine V_y (Y_assign rfl) rfl rfl rfl ?_
  refine V_to (fun _ _ => rfl) ?_
  refine C_seq ?_
  refine C_seq ?_
  refine C_region ?_
  refine V_y (Y_move rfl) rfl rfl rfl ?_
  refine V_y (Y_lenSl h_needs rfl Tryd.underlying33 rfl) rfl rfl rfl ?_
  refine V_y (Y_move rfl) rfl rfl rfl ?_
  refine V_to (fun _ _ => rfl) ?_
  have hn31 := Sl.le h_needs
  obtain ⟨o11, ho11, hm⟩ := Option.bind_eq_some_iff.1 hm
  refine C_cutG (ι := (Unit × (Nat → Prop))) (fun ⟨s12, A18⟩ => []) (fun ⟨s12, A18⟩ => fun w' => o11 = .fin s12 ∧ Hp w.heap.size A18 w' ([]) ∧ Tr w.heap.size A w6 A18 w') ?_ ?_
  · refine C_block ?_
    refine C_range ho11 (fun k14 _ a w' => ∃ i : (Nat → Prop), Has ⟨19, [], none⟩ a ([(2, .pointer (some ⟨b5, 0, none⟩)), (7, v_needs), (8, .int .i64 (needs.length : Int)), (9, .int .i64 (k14 : Int))]) ∧ Hp w.heap.size i w' ([]) ∧ Tr w.heap.size A w6 i w') (fun a ha => ⟨A, ha.sub ⟨rfl, rfl, rfl, rfl, trivial⟩, ⟨hH, Tr.refl hA⟩⟩) ?_
    rintro K k14 _ a w21 ⟨A22, ha66, hH23, hr13⟩ hle27 K30 h29
    refine C_of ?_ ha66
    replace h8 := El.tr h8 hr13
    replace h_needs := Sl.tr h_needs hr13
    replace hK := Tr.trans hK hr13
    replace hB := Nat.le_trans hB hr13.ex.size
    replace hA := hr13.new
    replace hH : Hp w.heap.size A22 w21 ([]) := hH23
    refine C_seq (C_region (V_y (Y_lss rfl rfl) rfl rfl rfl (V_to (fun _ _ => rfl) ?_)))
    refine C_seq ?_
    refine C_cond rfl (fun hc32 => ?_) (fun hc32 => ?_)
    · have hlt28 := lt_of_dec hc32
      obtain ⟨x24, h25, h26⟩ := K30 hlt28
      refine C_skip_to (fun _ _ => rfl) ?_
      refine C_seq ?_
      refine C_block ?_
      refine C_seq ?_
      refine C_region ?_
      obtain ⟨x33, hx33, h25⟩ := Option.bind_eq_some_iff.1 h25
      refine V_indexAddr h_needs hx33 Tryd.underlying33 Tryd.sizeOf42 rfl rfl rfl ?_
      intro b34 o35 h36
      obtain ⟨h37, _⟩ := El_route_Skill h36
      refine V_y (Y_loadA h37 Tryd.isAgg42 Tryd.sizeOf42 rfl) rfl rfl rfl ?_
      refine V_alloc Tryd.zeroValue42 rfl ?_
      intro b38 w39 h40
      refine V_storeNew h40 Tryd.sizeOf42 rfl rfl rfl rfl (by exact (List.forall_mem_cons.2 ⟨rfl, (List.forall_mem_cons.2 ⟨rfl, (fun _ h => nomatch h)⟩)⟩)) ?_
      intro w41 h42
      have hk44 := h42.kp
      have h43 : El (α := route_Skill) A22 w41 b38 0 x33 := h42.el hA ⟨[.string x33.name], _, rfl, rfl, rfl⟩
      have ht45 := Kp.tr hk44 hA hB
      replace hH := Hp.kp hH hk44
      replace h8 := El.tr h8 ht45
      replace h_needs := Sl.tr h_needs ht45
      replace h36 := El.tr h36 ht45
      replace hK := Tr.trans hK ht45
      replace hr13 := Tr.trans hr13 ht45
      replace hB := Nat.le_trans hB ht45.ex.size
      replace hA := ht45.new
      refine V_to (fun _ _ => rfl) ?_
      refine C_seq ?_
      refine C_region ?_
      have h46 := El_route_Person_3 h8
      refine V_y (Y_fieldAddr Tryd.underlying46 rfl Tryd.sizeOf33 (by decide) rfl) rfl rfl rfl ?_
      obtain ⟨v47, h48, h49⟩ := El.list h46
      refine V_y (Y_load h48 Tryd.isAgg33 rfl) rfl rfl rfl ?_
      refine V_y (Y_makeFunc rfl rfl) rfl rfl rfl ?_
      obtain ⟨x51, hx51, h25⟩ := Option.bind_eq_some_iff.1 h25
      refine V_call Tryd.call46 rfl rfl rfl rfl (slices_ContainsFunc_Lroute_Skill_route_Skill_c w41 hA p.skills v47 h49 (fun y59 => portref2_able_1 y59 x33) 49 #[] #[.pointer (some ⟨b38, 0, none⟩)] Tryd.call49 (fun w55 A56 ht57 h58 y52 r53 h54 => (portref2_able_1_c w55 h58 y52 x33 b38 (El.tr h43 ht57) h54).mono (fun _ _ h => ⟨h.1, h.2⟩)) hx51) ?_
      rintro _ w60 ⟨rfl, hk61⟩
      have ht62 := Kp.tr hk61 hA hB
      replace hH := Hp.kp hH hk61
      replace h8 := El.tr h8 ht62
      replace h_needs := Sl.tr h_needs ht62
      replace h43 := El.tr h43 ht62
      replace h46 := El.tr h46 ht62
      replace h49 := Sl.tr h49 ht62
      replace hK := Tr.trans hK ht62
      replace hr13 := Tr.trans hr13 ht62
      replace hB := Nat.le_trans hB ht62.ex.size
      replace hA := ht62.new
      refine V_y (Y_not rfl) rfl rfl rfl ?_
      refine V_to (fun _ _ => rfl) ?_
      refine C_cond rfl (fun hc63 => ?_) (fun hc63 => ?_)
      · rw [if_pos hc63] at h25
        refine C_seq ?_
        refine C_region ?_
        refine V_y (Y_assign rfl) rfl rfl rfl ?_
        refine V_to (fun _ _ => rfl) ?_
        obtain rfl := Option.some.inj h25
        obtain rfl := (h26 : Lp.rt _ = _)
        rw [Lp.andThen_rt] at hm
        obtain rfl := Option.some.inj hm
        refine C_ret ?_
        try simp only [↓inBlock_ret, ↓then_ret]
        exact retQ rfl (Res.one Tryd.results37 rfl) ⟨rfl, hK.kp⟩
      · rw [if_neg (nt hc63)] at h25
        refine C_skip_to (fun _ _ => rfl) ?_
        refine C_region ?_
        refine V_y (Y_addI rfl rfl) rfl rfl rfl ?_
        refine V_y (Y_move rfl) rfl rfl rfl ?_
        obtain rfl := Option.some.inj h25
        refine V_end (fun a ha64 => ?_)
        exact ⟨(), hlt28, h26, ⟨A22, ha64.sub ⟨rfl, rfl, rfl, (congrArg (fun z => some (Value.int .i64 z)) (w64_succ hlt28 hn31)), trivial⟩, ⟨hH, hr13⟩⟩⟩
    · refine C_exit (fun a ha65 => ?_)
      exact ⟨((), A22), ha65.sub trivial, ⟨(h29 (eq_of_dec hle27 hc32)).symm, hH, hr13⟩⟩
  rintro ⟨s12, A18⟩ w15 ⟨rfl, hH19, hk16⟩ a ha17
  rw [Lp.andThen_fin] at hm
  replace hK := Tr.trans hK hk16
  replace hB := Nat.le_trans hB hk16.ex.size
  replace hA := hk16.new
  replace hH : Hp w.heap.size A18 w15 ([]) := hH19
  refine C_at (n := ⟨19, [], none⟩) (fun _ _ => rfl) ?_ ha17
  refine C_seq ?_
  refine C_region ?_
  refine V_y (Y_assign rfl) rfl rfl rfl ?_
  refine V_to (fun _ _ => rfl) ?_
  obtain rfl := Option.some.inj hm
  refine C_ret ?_
  try simp only [↓inBlock_ret, ↓then_ret]
  exact retQ rfl (Res.one Tryd.results37 rfl) ⟨rfl, hK.kp⟩

set_option maxRecDepth 4000 in
set_option maxHeartbeats 4000000 in
theorem portref2_AbleOf_c (w : World) {A : Nat → Prop} (hA : ∀ b, w.heap.size ≤ b → A b) (people : (List route_Person)) (v_people : Value) (h_people : Sl A w v_people people) (needs : (List route_Skill)) (v_needs : Value) (h_needs : Sl A w v_needs needs) {r : ((List Int) × Int)} (hm : portref2_AbleOf people needs = some r) : Ret Tryd.prog 15 #[v_people, v_needs] w fun v w' => ∃ s0, v = .tuple #[s0, .int .i64 r.2] ∧ Ownd 3 w w' s0 r.1 ∧ Kp w w' := by
  unfold portref2_AbleOf at hm
  refine enter Tryd.func15 rfl Tryd.ntmps15 rfl ?_
  have hA0 := hA
  have hB := Nat.le_refl w.heap.size
  have hK : Tr w.heap.size A w A w := Tr.refl hA
  have hH : Hp w.heap.size A w [] := Hp.nil
  refine C_seq ?_
  refine C_region ?_
  refine V_y (Y_assign rfl) rfl rfl rfl ?_
  refine V_y (Y_assign rfl) rfl rfl rfl ?_
  refine V_to (fun _ _ => rfl) ?_
  refine C_seq ?_
  refine C_seq ?_
  refine C_region ?_
  refine V_y (Y_move rfl) rfl rfl rfl ?_
  obtain ⟨x5, hx5, hm⟩ := Option.bind_eq_some_iff.1 hm
  refine V_call Tryd.call23 rfl rfl rfl rfl (portref2_PeopleFault_c w hA people v_people h_people hx5) ?_
  rintro _ w6 ⟨rfl, hk7⟩
  have ht8 := Kp.tr hk7 hA hB
  replace hH := Hp.kp hH hk7
  replace h_people := Sl.tr h_people ht8
  replace h_needs := Sl.tr h_needs ht8
  replace hK := Tr.trans hK ht8
  replace hB := Nat.le_trans hB ht8.ex.size
  replace hA := ht8.new
  refine V_y (Y_assign rfl) rfl rfl rfl ?_
  refine V_to (fun _ _ => rfl) ?_
  refine C_seq ?_
  refine C_region ?_
  refine V_y (Y_move rfl) rfl rfl rfl ?_
  refine V_y (Y_neq rfl rfl) rfl rfl rfl ?_
  refine V_to (fun _ _ => rfl) ?_
  refine C_cond rfl (fun hc9 => ?_) (fun hc9 => ?_)
  · rw [if_pos hc9] at hm
    refine C_seq ?_
    refine C_region ?_
    refine V_y (Y_move rfl) rfl rfl rfl ?_
    refine V_y (Y_assign rfl) rfl rfl rfl ?_
    refine V_y (Y_assign rfl) rfl rfl rfl ?_
    refine V_to (fun _ _ => rfl) ?_
    obtain rfl := Option.some.inj hm
    replace hH : Hp w.heap.size A w6 (obS (α := Int) 3 (.slice none 0 0) ([] : (List Int)) :: []) := Hp.addNil (α := Int) (e := 3) hH
    refine C_ret ?_
    try simp only [↓inBlock_ret, ↓then_ret]
    exact retQ rfl (Res.two Tryd.results15 rfl rfl) ⟨.slice none 0 0, rfl, (Hp.ownd hH (i := 0) rfl), hK.kp⟩
  · rw [if_neg (nt hc9)] at hm
    refine C_skip_to (fun _ _ => rfl) ?_
    refine C_seq ?_
    refine C_seq ?_
    refine C_region ?_
    refine V_y (Y_move rfl) rfl rfl rfl ?_
    obtain ⟨x10, hx10, hm⟩ := Option.bind_eq_some_iff.1 hm
    refine V_call Tryd.call36 rfl rfl rfl rfl (portref2_skillsFault_c w6 hA needs v_needs h_needs hx10) ?_
    rintro _ w11 ⟨rfl, hk12⟩
    have ht13 := Kp.tr hk12 hA hB
    replace hH := Hp.kp hH hk12
    replace h_people := Sl.tr h_people ht13
    replace h_needs := Sl.tr h_needs ht13
    replace hK := Tr.trans hK ht13
    replace hB := Nat.le_trans hB ht13.ex.size
    replace hA := ht13.new
    refine V_y (Y_assign rfl) rfl rfl rfl ?_
    refine V_to (fun _ _ => rfl) ?_
    refine C_seq ?_
    refine C_region ?_
    refine V_y (Y_move rfl) rfl rfl rfl ?_
    refine V_y (Y_neq rfl rfl) rfl rfl rfl ?_
    refine V_to (fun _ _ => rfl) ?_
    refine C_cond rfl (fun hc14 => ?_) (fun hc14 => ?_)
    · rw [if_pos hc14] at hm
      refine C_seq ?_
      refine C_region ?_
      refine V_y (Y_move rfl) rfl rfl rfl ?_
      refine V_y (Y_assign rfl) rfl rfl rfl ?_
      refine V_y (Y_assign rfl) rfl rfl rfl ?_
      refine V_to (fun _ _ => rfl) ?_
      obtain rfl := Option.some.inj hm
      replace hH : Hp w.heap.size A w11 (obS (α := Int) 3 (.slice none 0 0) ([] : (List Int)) :: []) := Hp.addNil (α := Int) (e := 3) hH
      refine C_ret ?_
      try simp only [↓inBlock_ret, ↓then_ret]
      exact retQ rfl (Res.two Tryd.results15 rfl rfl) ⟨.slice none 0 0, rfl, (Hp.ownd hH (i := 0) rfl), hK.kp⟩
    · rw [if_neg (nt hc14)] at hm
      refine C_skip_to (fun _ _ => rfl) ?_
      refine C_seq ?_
      refine C_region ?_
      refine V_y (Y_assign rfl) rfl rfl rfl ?_
      refine V_to (fun _ _ => rfl) ?_
      refine C_seq ?_
      refine C_seq ?_
      refine C_region ?_
      refine V_y (Y_move rfl) rfl rfl rfl ?_
      refine V_y (Y_lenSl h_people rfl Tryd.underlying22 rfl) rfl rfl rfl ?_
      refine V_y (Y_move rfl) rfl rfl rfl ?_
      refine V_to (fun _ _ => rfl) ?_
      replace hH : Hp w.heap.size A w11 (obS (α := Int) 3 (.slice none 0 0) ([] : (List Int)) :: []) := Hp.addNil (α := Int) (e := 3) hH
      have hn39 := Sl.le h_people
      obtain ⟨o15, ho15, hm⟩ := Option.bind_eq_some_iff.1 hm
      refine C_cutG (ι := ((List Int) × Value × (Nat → Prop))) (fun ⟨s16, v22, A24⟩ => [(8, v22)]) (fun ⟨s16, v22, A24⟩ => fun w' => o15 = .fin s16 ∧ Hp w.heap.size A24 w' (obS (α := Int) 3 v22 s16 :: []) ∧ Tr w.heap.size A w11 A24 w') ?_ ?_
      · refine C_block ?_
        refine C_range ho15 (fun k18 s26 a w' => ∃ i : (Value × (Nat → Prop)), Has ⟨37, [], none⟩ a ([(1, v_needs), (8, i.1), (21, v_people), (22, .int .i64 (people.length : Int)), (23, .int .i64 (k18 : Int))]) ∧ Hp w.heap.size i.2 w' (obS (α := Int) 3 i.1 s26 :: []) ∧ Tr w.heap.size A w11 i.2 w') (fun a ha => ⟨(.slice none 0 0, A), ha.sub ⟨rfl, rfl, rfl, rfl, rfl, trivial⟩, ⟨hH, Tr.refl hA⟩⟩) ?_
        rintro K k18 s26 a w27 ⟨⟨v28, A30⟩, ha103, hH31, hr17⟩ hle35 K38 h37
        refine C_of ?_ ha103
        replace h_needs := Sl.tr h_needs hr17
        replace h_people := Sl.tr h_people hr17
        replace hK := Tr.trans hK hr17
        replace hB := Nat.le_trans hB hr17.ex.size
        replace hA := hr17.new
        replace hH : Hp w.heap.size A30 w27 (obS (α := Int) 3 v28 s26 :: []) := hH31
        refine C_seq (C_region (V_y (Y_lss rfl rfl) rfl rfl rfl (V_to (fun _ _ => rfl) ?_)))
        refine C_seq ?_
        refine C_cond rfl (fun hc40 => ?_) (fun hc40 => ?_)
        · have hlt36 := lt_of_dec hc40
          obtain ⟨x32, h33, h34⟩ := K38 hlt36
          refine C_skip_to (fun _ _ => rfl) ?_
          refine C_seq ?_
          obtain ⟨s42, ho41, h33⟩ := Option.bind_eq_some_iff.1 h33
          refine C_cutG (ι := (Value × (Nat → Prop))) (fun ⟨v44, A49⟩ => [(1, v_needs), (8, v44), (21, v_people), (22, .int .i64 (people.length : Int)), (23, .int .i64 (k18 : Int))]) (fun ⟨v44, A49⟩ => fun w' => Hp w.heap.size A49 w' (obS (α := Int) 3 v44 s42 :: []) ∧ Tr w.heap.size A30 w27 A49 w') ?_ ?_
          · have hr43 : Tr w.heap.size A30 w27 A30 w27 := Tr.refl hA
            refine C_block ?_
            refine C_seq ?_
            refine C_region ?_
            refine V_y (Y_move rfl) rfl rfl rfl ?_
            obtain ⟨x51, hx51, ho41⟩ := Option.bind_eq_some_iff.1 ho41
            refine V_indexAddr h_people hx51 Tryd.underlying22 Tryd.sizeOf46 rfl rfl rfl ?_
            intro b52 o53 h54
            obtain ⟨v55, h57, h56⟩ := El_route_Person h54
            refine V_y (Y_loadA h57 Tryd.isAgg46 Tryd.sizeOf46 rfl) rfl rfl rfl ?_
            refine V_alloc Tryd.zeroValue46 rfl ?_
            intro b58 w59 h60
            refine V_y (Y_assign rfl) rfl rfl rfl ?_
            have h65 : (v55).oneCell' = true := by obtain ⟨_, _, e, _⟩ := Sl.form h56; rw [e]; rfl
            refine V_storeNew h60 Tryd.sizeOf46 rfl rfl rfl rfl (by exact (List.forall_mem_cons.2 ⟨rfl, (List.forall_mem_cons.2 ⟨rfl, (List.forall_mem_cons.2 ⟨rfl, (List.forall_mem_cons.2 ⟨h65, (fun _ h => nomatch h)⟩)⟩)⟩)⟩)) ?_
            intro w61 h62
            have hk67 := h62.kp
            have h66 : El (α := route_Person) A30 w61 b58 0 x51 := h62.el hA ⟨[.int .i64 x51.no], _, rfl, rfl, ⟨[.int .i64 x51.capacity], _, rfl, rfl, ⟨[.int .i64 x51.calendar], _, rfl, rfl, ⟨_, rfl, h56⟩⟩⟩⟩
            have ht68 := Kp.tr hk67 hA hB
            replace hH := Hp.kp hH hk67
            replace h_needs := Sl.tr h_needs ht68
            replace h_people := Sl.tr h_people ht68
            replace h54 := El.tr h54 ht68
            replace h56 := Sl.tr h56 ht68
            replace hK := Tr.trans hK ht68
            replace hr17 := Tr.trans hr17 ht68
            replace hr43 := Tr.trans hr43 ht68
            replace hB := Nat.le_trans hB ht68.ex.size
            replace hA := ht68.new
            refine V_to (fun _ _ => rfl) ?_
            refine C_seq ?_
            refine C_region ?_
            obtain ⟨v69, h71, h70⟩ := El_route_Person h66
            refine V_y (Y_loadA h71 Tryd.isAgg46 Tryd.sizeOf46 rfl) rfl rfl rfl ?_
            refine V_y (Y_move rfl) rfl rfl rfl ?_
            obtain ⟨x72, hx72, ho41⟩ := Option.bind_eq_some_iff.1 ho41
            refine V_call Tryd.call37 rfl rfl rfl rfl (portref2_able_c w61 hA x51 v69 h70 needs v_needs h_needs hx72) ?_
            rintro _ w73 ⟨rfl, hk74⟩
            have ht75 := Kp.tr hk74 hA hB
            replace hH := Hp.kp hH hk74
            replace h_needs := Sl.tr h_needs ht75
            replace h_people := Sl.tr h_people ht75
            replace h66 := El.tr h66 ht75
            replace h70 := Sl.tr h70 ht75
            replace hK := Tr.trans hK ht75
            replace hr17 := Tr.trans hr17 ht75
            replace hr43 := Tr.trans hr43 ht75
            replace hB := Nat.le_trans hB ht75.ex.size
            replace hA := ht75.new
            refine V_to (fun _ _ => rfl) ?_
            obtain ⟨s77, ho76, ho41⟩ := Option.bind_eq_some_iff.1 ho41
            refine C_cutG (ι := (Value × (Nat → Prop))) (fun ⟨v79, A84⟩ => [(1, v_needs), (8, v79), (21, v_people), (22, .int .i64 (people.length : Int)), (23, .int .i64 (k18 : Int))]) (fun ⟨v79, A84⟩ => fun w' => Hp w.heap.size A84 w' (obS (α := Int) 3 v79 s77 :: []) ∧ Tr w.heap.size A30 w73 A84 w') ?_ ?_
            · have hr78 : Tr w.heap.size A30 w73 A30 w73 := Tr.refl hA
              refine C_cond rfl (fun hc86 => ?_) (fun hc86 => ?_)
              · rw [if_pos hc86] at ho76
                refine C_region ?_
                refine V_y (Y_move rfl) rfl rfl rfl ?_
                refine V_y (Y_move rfl) rfl rfl rfl ?_
                refine V_buildSlice (l := ([(k18 : Int)] : List Int)) (len := 1) Tryd.underlying24 Tryd.sizeOf3 Tryd.zeroValue3 rfl (by with_unfolding_all rfl) (by decide) (by decide) hA ⟨[.int .i64 (k18 : Int)], _, rfl, rfl, rfl⟩ rfl rfl ?_
                intro v87 w88 hk90 h89
                have ht91 := Kp.tr hk90 hA hB
                replace hH := Hp.kp hH hk90
                replace h_needs := Sl.tr h_needs ht91
                replace h_people := Sl.tr h_people ht91
                replace hK := Tr.trans hK ht91
                replace hr17 := Tr.trans hr17 ht91
                replace hr43 := Tr.trans hr43 ht91
                replace hr78 := Tr.trans hr78 ht91
                replace hB := Nat.le_trans hB ht91.ex.size
                replace hA := ht91.new
                obtain ⟨x92, hx92, ho76⟩ := Option.bind_eq_some_iff.1 ho76
                refine V_appendH (e := 3) (v := v28) (l := s26) (ti := Tryd.t3) (bytes := 8) (lim := 17592186044416) hH (i := 0) rfl h89 hx92 Tryd.underlying24 Tryd_info3 rfl rfl rfl rfl (by decide) (by decide) (by decide) hB hA rfl rfl rfl ?_
                intro v93 w94 A95 hH96 ht97
                replace h_needs := Sl.tr h_needs ht97
                replace h_people := Sl.tr h_people ht97
                replace h89 := Sl.tr h89 ht97
                replace hK := Tr.trans hK ht97
                replace hr17 := Tr.trans hr17 ht97
                replace hr43 := Tr.trans hr43 ht97
                replace hr78 := Tr.trans hr78 ht97
                replace hB := Nat.le_trans hB ht97.ex.size
                replace hA := ht97.new
                replace hH : Hp w.heap.size A95 w94 (obS (α := Int) 3 v93 x92 :: []) := hH96
                refine V_y (Y_assign rfl) rfl rfl rfl ?_
                obtain rfl := Option.some.inj ho76
                refine V_end (fun a ha98 => ?_)
                exact ⟨(v93, A95), ha98.sub ⟨rfl, rfl, rfl, rfl, rfl, trivial⟩, ⟨hH, hr78⟩⟩
              · rw [if_neg (nt hc86)] at ho76
                obtain rfl := Option.some.inj ho76
                refine C_skip (fun a ha99 => ?_)
                exact ⟨(v28, A30), ha99.sub ⟨rfl, rfl, rfl, rfl, rfl, trivial⟩, ⟨hH, hr78⟩⟩
            rintro ⟨v79, A84⟩ w81 ⟨hH85, hk82⟩ a ha83
            replace h_needs := Sl.tr h_needs hk82
            replace h_people := Sl.tr h_people hk82
            replace hK := Tr.trans hK hk82
            replace hr17 := Tr.trans hr17 hk82
            replace hr43 := Tr.trans hr43 hk82
            replace hB := Nat.le_trans hB hk82.ex.size
            replace hA := hk82.new
            replace hH : Hp w.heap.size A84 w81 (obS (α := Int) 3 v79 s77 :: []) := hH85
            obtain rfl := Option.some.inj ho41
            exact ⟨(v79, A84), ha83.sub ⟨rfl, rfl, rfl, rfl, rfl, trivial⟩, ⟨hH, hr43⟩⟩
          rintro ⟨v44, A49⟩ w46 ⟨hH50, hk47⟩ a ha48
          replace h_needs := Sl.tr h_needs hk47
          replace h_people := Sl.tr h_people hk47
          replace hK := Tr.trans hK hk47
          replace hr17 := Tr.trans hr17 hk47
          replace hB := Nat.le_trans hB hk47.ex.size
          replace hA := hk47.new
          replace hH : Hp w.heap.size A49 w46 (obS (α := Int) 3 v44 s42 :: []) := hH50
          refine C_at (n := ⟨37, [], none⟩) (fun _ _ => rfl) ?_ ha48
          refine C_region ?_
          refine V_y (Y_addI rfl rfl) rfl rfl rfl ?_
          refine V_y (Y_move rfl) rfl rfl rfl ?_
          obtain rfl := Option.some.inj h33
          refine V_end (fun a ha101 => ?_)
          exact ⟨s42, hlt36, h34, ⟨(v44, A49), ha101.sub ⟨rfl, rfl, rfl, rfl, (congrArg (fun z => some (Value.int .i64 z)) (w64_succ hlt36 hn39)), trivial⟩, ⟨hH, hr17⟩⟩⟩
        · refine C_exit (fun a ha102 => ?_)
          exact ⟨(s26, v28, A30), ha102.sub ⟨rfl, trivial⟩, ⟨(h37 (eq_of_dec hle35 hc40)).symm, hH, hr17⟩⟩
      rintro ⟨s16, v22, A24⟩ w19 ⟨rfl, hH25, hk20⟩ a ha21
      rw [Lp.andThen_fin] at hm
      replace hK := Tr.trans hK hk20
      replace hB := Nat.le_trans hB hk20.ex.size
      replace hA := hk20.new
      replace hH : Hp w.heap.size A24 w19 (obS (α := Int) 3 v22 s16 :: []) := hH25
      refine C_at (n := ⟨37, [], none⟩) (fun _ _ => rfl) ?_ ha21
      refine C_seq ?_
      refine C_region ?_
      refine V_y (Y_move rfl) rfl rfl rfl ?_
      refine V_y (Y_assign rfl) rfl rfl rfl ?_
      refine V_y (Y_assign rfl) rfl rfl rfl ?_
      refine V_to (fun _ _ => rfl) ?_
      obtain rfl := Option.some.inj hm
      refine C_ret ?_
      try simp only [↓inBlock_ret, ↓then_ret]
      exact retQ rfl (Res.two Tryd.results15 rfl rfl) ⟨v22, rfl, (Hp.ownd hH (i := 0) rfl), hK.kp⟩

set_option maxRecDepth 4000 in
set_option maxHeartbeats 4000000 in
theorem slices_Equal_Lroute_Skill_route_Skill_c (w : World) {A : Nat → Prop} (hA : ∀ b, w.heap.size ≤ b → A b) (s1 : (List route_Skill)) (v_s1 : Value) (h_s1 : Sl A w v_s1 s1) (s2 : (List route_Skill)) (v_s2 : Value) (h_s2 : Sl A w v_s2 s2) {r : Bool} (hm : slices_Equal_Lroute_Skill_route_Skill s1 s2 = some r) : Ret Tryd.prog 16 #[v_s1, v_s2] w fun v w' => v = .bool r ∧ Kp w w' := by
  unfold slices_Equal_Lroute_Skill_route_Skill at hm
  refine enter Tryd.func16 rfl Tryd.ntmps16 rfl ?_
  have hA0 := hA
  have hB := Nat.le_refl w.heap.size
  have hK : Tr w.heap.size A w A w := Tr.refl hA
  have hH : Hp w.heap.size A w [] := Hp.nil
  refine C_seq ?_
  refine C_region ?_
  refine V_y (Y_assign rfl) rfl rfl rfl ?_
  refine V_to (fun _ _ => rfl) ?_
  refine C_seq ?_
  refine C_seq ?_
  refine C_region ?_
  refine V_y (Y_move rfl) rfl rfl rfl ?_
  refine V_y (Y_lenSl h_s1 rfl Tryd.underlying33 rfl) rfl rfl rfl ?_
  refine V_y (Y_move rfl) rfl rfl rfl ?_
  refine V_y (Y_lenSl h_s2 rfl Tryd.underlying33 rfl) rfl rfl rfl ?_
  refine V_y (Y_neq rfl rfl) rfl rfl rfl ?_
  refine V_to (fun _ _ => rfl) ?_
  refine C_cond rfl (fun hc5 => ?_) (fun hc5 => ?_)
  · rw [if_pos hc5] at hm
    refine C_seq ?_
    refine C_region ?_
    refine V_y (Y_assign rfl) rfl rfl rfl ?_
    refine V_to (fun _ _ => rfl) ?_
    obtain rfl := Option.some.inj hm
    refine C_ret ?_
    try simp only [↓inBlock_ret, ↓then_ret]
    exact retQ rfl (Res.one Tryd.results16 rfl) ⟨rfl, hK.kp⟩
  · rw [if_neg (nt hc5)] at hm
    refine C_skip_to (fun _ _ => rfl) ?_
    refine C_seq ?_
    refine C_seq ?_
    refine C_region ?_
    refine V_y (Y_move rfl) rfl rfl rfl ?_
    refine V_y (Y_lenSl h_s1 rfl Tryd.underlying33 rfl) rfl rfl rfl ?_
    refine V_y (Y_move rfl) rfl rfl rfl ?_
    refine V_to (fun _ _ => rfl) ?_
    have hn27 := Sl.le h_s1
    obtain ⟨o6, ho6, hm⟩ := Option.bind_eq_some_iff.1 hm
    refine C_cutG (ι := (Unit × (Nat → Prop))) (fun ⟨s7, A13⟩ => []) (fun ⟨s7, A13⟩ => fun w' => o6 = .fin s7 ∧ Hp w.heap.size A13 w' ([]) ∧ Tr w.heap.size A w A13 w') ?_ ?_
    · refine C_block ?_
      refine C_range ho6 (fun k9 _ a w' => ∃ i : (Nat → Prop), Has ⟨26, [], none⟩ a ([(0, v_s1), (1, v_s2), (12, .int .i64 (s1.length : Int)), (13, .int .i64 (k9 : Int))]) ∧ Hp w.heap.size i w' ([]) ∧ Tr w.heap.size A w i w') (fun a ha => ⟨A, ha.sub ⟨rfl, rfl, rfl, rfl, trivial⟩, ⟨hH, Tr.refl hA⟩⟩) ?_
      rintro K k9 _ a w17 ⟨A18, ha45, hH19, hr8⟩ hle23 K26 h25
      refine C_of ?_ ha45
      replace h_s1 := Sl.tr h_s1 hr8
      replace h_s2 := Sl.tr h_s2 hr8
      replace hK := Tr.trans hK hr8
      replace hB := Nat.le_trans hB hr8.ex.size
      replace hA := hr8.new
      replace hH : Hp w.heap.size A18 w17 ([]) := hH19
      refine C_seq (C_region (V_y (Y_lss rfl rfl) rfl rfl rfl (V_to (fun _ _ => rfl) ?_)))
      refine C_seq ?_
      refine C_cond rfl (fun hc28 => ?_) (fun hc28 => ?_)
      · have hlt24 := lt_of_dec hc28
        obtain ⟨x20, h21, h22⟩ := K26 hlt24
        refine C_skip_to (fun _ _ => rfl) ?_
        refine C_seq ?_
        refine C_block ?_
        refine C_seq ?_
        refine C_region ?_
        refine V_y (Y_move rfl) rfl rfl rfl ?_
        refine V_y (Y_assign rfl) rfl rfl rfl ?_
        refine V_to (fun _ _ => rfl) ?_
        refine C_seq ?_
        refine C_region_q Tryd_mixed (by kernel_rfl) ?_
        refine VQ_y (fun w' hw' => Y_move rfl) rfl rfl rfl ?_
        refine VQ_y (fun w' hw' => Y_move rfl) rfl rfl rfl ?_
        obtain ⟨x29, hx29, h21⟩ := Option.bind_eq_some_iff.1 h21
        refine VQ_indexAddr h_s1 hx29 Tryd.underlying33 Tryd.sizeOf42 rfl rfl rfl ?_
        intro b30 o31 h32
        obtain ⟨h33, _⟩ := El_route_Skill h32
        refine VQ_y (fun w' hw' => Y_loadA (At.kp h33 hw' h32.2.1) Tryd.isAgg42 Tryd.sizeOf42 rfl) rfl rfl rfl ?_
        refine VQ_y (fun w' hw' => Y_move rfl) rfl rfl rfl ?_
        refine VQ_y (fun w' hw' => Y_move rfl) rfl rfl rfl ?_
        obtain ⟨x34, hx34, h21⟩ := Option.bind_eq_some_iff.1 h21
        refine VQ_indexAddr h_s2 hx34 Tryd.underlying33 Tryd.sizeOf42 rfl rfl rfl ?_
        intro b35 o36 h37
        obtain ⟨h38, _⟩ := El_route_Skill h37
        refine VQ_y (fun w' hw' => Y_loadA (At.kp h38 hw' h37.2.1) Tryd.isAgg42 Tryd.sizeOf42 rfl) rfl rfl rfl ?_
        refine VQ_y (fun w' hw' => Y_neqA (fun w => Tryd_eqt42_10000 x29.name x29.rank x34.name x34.rank w) Tryd_eqg42 rfl rfl) rfl rfl rfl ?_
        refine VQ_to (fun _ _ => rfl) (fun w39 hk40 => ?_)
        have ht41 := Kp.tr hk40 hA hB
        replace hH := Hp.kp hH hk40
        replace h_s1 := Sl.tr h_s1 ht41
        replace h_s2 := Sl.tr h_s2 ht41
        replace hK := Tr.trans hK ht41
        replace hr8 := Tr.trans hr8 ht41
        replace hB := Nat.le_trans hB ht41.ex.size
        replace hA := ht41.new
        refine C_cond rfl (fun hc42 => ?_) (fun hc42 => ?_)
        · rw [if_pos hc42] at h21
          refine C_seq ?_
          refine C_region ?_
          refine V_y (Y_assign rfl) rfl rfl rfl ?_
          refine V_to (fun _ _ => rfl) ?_
          obtain rfl := Option.some.inj h21
          obtain rfl := (h22 : Lp.rt _ = _)
          rw [Lp.andThen_rt] at hm
          obtain rfl := Option.some.inj hm
          refine C_ret ?_
          try simp only [↓inBlock_ret, ↓then_ret]
          exact retQ rfl (Res.one Tryd.results16 rfl) ⟨rfl, hK.kp⟩
        · rw [if_neg (nt hc42)] at h21
          refine C_skip_to (fun _ _ => rfl) ?_
          refine C_region ?_
          refine V_y (Y_addI rfl rfl) rfl rfl rfl ?_
          refine V_y (Y_move rfl) rfl rfl rfl ?_
          obtain rfl := Option.some.inj h21
          refine V_end (fun a ha43 => ?_)
          exact ⟨(), hlt24, h22, ⟨A18, ha43.sub ⟨rfl, rfl, rfl, (congrArg (fun z => some (Value.int .i64 z)) (w64_succ hlt24 hn27)), trivial⟩, ⟨hH, hr8⟩⟩⟩
      · refine C_exit (fun a ha44 => ?_)
        exact ⟨((), A18), ha44.sub trivial, ⟨(h25 (eq_of_dec hle23 hc28)).symm, hH, hr8⟩⟩
    rintro ⟨s7, A13⟩ w10 ⟨rfl, hH14, hk11⟩ a ha12
    rw [Lp.andThen_fin] at hm
    replace hK := Tr.trans hK hk11
    replace hB := Nat.le_trans hB hk11.ex.size
    replace hA := hk11.new
    replace hH : Hp w.heap.size A13 w10 ([]) := hH14
    refine C_at (n := ⟨26, [], none⟩) (fun _ _ => rfl) ?_ ha12
    refine C_seq ?_
    refine C_region ?_
    refine V_y (Y_assign rfl) rfl rfl rfl ?_
    refine V_to (fun _ _ => rfl) ?_
    obtain rfl := Option.some.inj hm
    refine C_ret ?_
    try simp only [↓inBlock_ret, ↓then_ret]
    exact retQ rfl (Res.one Tryd.results16 rfl) ⟨rfl, hK.kp⟩

set_option maxRecDepth 4000 in
set_option maxHeartbeats 4000000 in
theorem slices_Equal_Lint_int_c (w : World) {A : Nat → Prop} (hA : ∀ b, w.heap.size ≤ b → A b) (s1 : (List Int)) (v_s1 : Value) (h_s1 : Sl A w v_s1 s1) (s2 : (List Int)) (v_s2 : Value) (h_s2 : Sl A w v_s2 s2) {r : Bool} (hm : slices_Equal_Lint_int s1 s2 = some r) : Ret Tryd.prog 9 #[v_s1, v_s2] w fun v w' => v = .bool r ∧ Kp w w' := by
  unfold slices_Equal_Lint_int at hm
  refine enter Tryd.func9 rfl Tryd.ntmps9 rfl ?_
  have hA0 := hA
  have hB := Nat.le_refl w.heap.size
  have hK : Tr w.heap.size A w A w := Tr.refl hA
  have hH : Hp w.heap.size A w [] := Hp.nil
  refine C_seq ?_
  refine C_region ?_
  refine V_y (Y_assign rfl) rfl rfl rfl ?_
  refine V_to (fun _ _ => rfl) ?_
  refine C_seq ?_
  refine C_seq ?_
  refine C_region ?_
  refine V_y (Y_move rfl) rfl rfl rfl ?_
  refine V_y (Y_lenSl h_s1 rfl Tryd.underlying24 rfl) rfl rfl rfl ?_
  refine V_y (Y_move rfl) rfl rfl rfl ?_
  refine V_y (Y_lenSl h_s2 rfl Tryd.underlying24 rfl) rfl rfl rfl ?_
  refine V_y (Y_neq rfl rfl) rfl rfl rfl ?_
  refine V_to (fun _ _ => rfl) ?_
  refine C_cond rfl (fun hc5 => ?_) (fun hc5 => ?_)
  · rw [if_pos hc5] at hm
    refine C_seq ?_
    refine C_region ?_
    refine V_y (Y_assign rfl) rfl rfl rfl ?_
    refine V_to (fun _ _ => rfl) ?_
    obtain rfl := Option.some.inj hm
    refine C_ret ?_
    try simp only [↓inBlock_ret, ↓then_ret]
    exact retQ rfl (Res.one Tryd.results9 rfl) ⟨rfl, hK.kp⟩
  · rw [if_neg (nt hc5)] at hm
    refine C_skip_to (fun _ _ => rfl) ?_
    refine C_seq ?_
    refine C_seq ?_
    refine C_region ?_
    refine V_y (Y_move rfl) rfl rfl rfl ?_
    refine V_y (Y_lenSl h_s1 rfl Tryd.underlying24 rfl) rfl rfl rfl ?_
    refine V_y (Y_move rfl) rfl rfl rfl ?_
    refine V_to (fun _ _ => rfl) ?_
    have hn27 := Sl.le h_s1
    obtain ⟨o6, ho6, hm⟩ := Option.bind_eq_some_iff.1 hm
    refine C_cutG (ι := (Unit × (Nat → Prop))) (fun ⟨s7, A13⟩ => []) (fun ⟨s7, A13⟩ => fun w' => o6 = .fin s7 ∧ Hp w.heap.size A13 w' ([]) ∧ Tr w.heap.size A w A13 w') ?_ ?_
    · refine C_block ?_
      refine C_range ho6 (fun k9 _ a w' => ∃ i : (Nat → Prop), Has ⟨26, [], none⟩ a ([(0, v_s1), (1, v_s2), (12, .int .i64 (s1.length : Int)), (13, .int .i64 (k9 : Int))]) ∧ Hp w.heap.size i w' ([]) ∧ Tr w.heap.size A w i w') (fun a ha => ⟨A, ha.sub ⟨rfl, rfl, rfl, rfl, trivial⟩, ⟨hH, Tr.refl hA⟩⟩) ?_
      rintro K k9 _ a w17 ⟨A18, ha43, hH19, hr8⟩ hle23 K26 h25
      refine C_of ?_ ha43
      replace h_s1 := Sl.tr h_s1 hr8
      replace h_s2 := Sl.tr h_s2 hr8
      replace hK := Tr.trans hK hr8
      replace hB := Nat.le_trans hB hr8.ex.size
      replace hA := hr8.new
      replace hH : Hp w.heap.size A18 w17 ([]) := hH19
      refine C_seq (C_region (V_y (Y_lss rfl rfl) rfl rfl rfl (V_to (fun _ _ => rfl) ?_)))
      refine C_seq ?_
      refine C_cond rfl (fun hc28 => ?_) (fun hc28 => ?_)
      · have hlt24 := lt_of_dec hc28
        obtain ⟨x20, h21, h22⟩ := K26 hlt24
        refine C_skip_to (fun _ _ => rfl) ?_
        refine C_seq ?_
        refine C_block ?_
        refine C_seq ?_
        refine C_region ?_
        refine V_y (Y_move rfl) rfl rfl rfl ?_
        refine V_y (Y_assign rfl) rfl rfl rfl ?_
        refine V_to (fun _ _ => rfl) ?_
        refine C_seq ?_
        refine C_region_q Tryd_mixed (by kernel_rfl) ?_
        refine VQ_y (fun w' hw' => Y_move rfl) rfl rfl rfl ?_
        refine VQ_y (fun w' hw' => Y_move rfl) rfl rfl rfl ?_
        obtain ⟨x29, hx29, h21⟩ := Option.bind_eq_some_iff.1 h21
        refine VQ_indexAddr h_s1 hx29 Tryd.underlying24 Tryd.sizeOf3 rfl rfl rfl ?_
        intro b30 o31 h32
        refine VQ_y (fun w' hw' => Y_load (El.int (El.kp h32 hw')) Tryd.isAgg3 rfl) rfl rfl rfl ?_
        refine VQ_y (fun w' hw' => Y_move rfl) rfl rfl rfl ?_
        refine VQ_y (fun w' hw' => Y_move rfl) rfl rfl rfl ?_
        obtain ⟨x33, hx33, h21⟩ := Option.bind_eq_some_iff.1 h21
        refine VQ_indexAddr h_s2 hx33 Tryd.underlying24 Tryd.sizeOf3 rfl rfl rfl ?_
        intro b34 o35 h36
        refine VQ_y (fun w' hw' => Y_load (El.int (El.kp h36 hw')) Tryd.isAgg3 rfl) rfl rfl rfl ?_
        refine VQ_y (fun w' hw' => Y_neq rfl rfl) rfl rfl rfl ?_
        refine VQ_to (fun _ _ => rfl) (fun w37 hk38 => ?_)
        have ht39 := Kp.tr hk38 hA hB
        replace hH := Hp.kp hH hk38
        replace h_s1 := Sl.tr h_s1 ht39
        replace h_s2 := Sl.tr h_s2 ht39
        replace hK := Tr.trans hK ht39
        replace hr8 := Tr.trans hr8 ht39
        replace hB := Nat.le_trans hB ht39.ex.size
        replace hA := ht39.new
        refine C_cond rfl (fun hc40 => ?_) (fun hc40 => ?_)
        · rw [if_pos hc40] at h21
          refine C_seq ?_
          refine C_region ?_
          refine V_y (Y_assign rfl) rfl rfl rfl ?_
          refine V_to (fun _ _ => rfl) ?_
          obtain rfl := Option.some.inj h21
          obtain rfl := (h22 : Lp.rt _ = _)
          rw [Lp.andThen_rt] at hm
          obtain rfl := Option.some.inj hm
          refine C_ret ?_
          try simp only [↓inBlock_ret, ↓then_ret]
          exact retQ rfl (Res.one Tryd.results9 rfl) ⟨rfl, hK.kp⟩
        · rw [if_neg (nt hc40)] at h21
          refine C_skip_to (fun _ _ => rfl) ?_
          refine C_region ?_
          refine V_y (Y_addI rfl rfl) rfl rfl rfl ?_
          refine V_y (Y_move rfl) rfl rfl rfl ?_
          obtain rfl := Option.some.inj h21
          refine V_end (fun a ha41 => ?_)
          exact ⟨(), hlt24, h22, ⟨A18, ha41.sub ⟨rfl, rfl, rfl, (congrArg (fun z => some (Value.int .i64 z)) (w64_succ hlt24 hn27)), trivial⟩, ⟨hH, hr8⟩⟩⟩
      · refine C_exit (fun a ha42 => ?_)
        exact ⟨((), A18), ha42.sub trivial, ⟨(h25 (eq_of_dec hle23 hc28)).symm, hH, hr8⟩⟩
    rintro ⟨s7, A13⟩ w10 ⟨rfl, hH14, hk11⟩ a ha12
    rw [Lp.andThen_fin] at hm
    replace hK := Tr.trans hK hk11
    replace hB := Nat.le_trans hB hk11.ex.size
    replace hA := hk11.new
    replace hH : Hp w.heap.size A13 w10 ([]) := hH14
    refine C_at (n := ⟨26, [], none⟩) (fun _ _ => rfl) ?_ ha12
    refine C_seq ?_
    refine C_region ?_
    refine V_y (Y_assign rfl) rfl rfl rfl ?_
    refine V_to (fun _ _ => rfl) ?_
    obtain rfl := Option.some.inj hm
    refine C_ret ?_
    try simp only [↓inBlock_ret, ↓then_ret]
    exact retQ rfl (Res.one Tryd.results9 rfl) ⟨rfl, hK.kp⟩

set_option maxRecDepth 4000 in
set_option maxHeartbeats 4000000 in
theorem portlaw2_RouteNeeds_c (w : World) {A : Nat → Prop} (hA : ∀ b, w.heap.size ≤ b → A b) (people : (List route_Person)) (v_people : Value) (h_people : Sl A w v_people people) (w_ : route_Work) (v_w_ : Value) (h_w_ : Sl A w v_w_ w_.needs) (steps : (List route_Step)) (v_steps : Value) (h_steps : Sl A w v_steps steps) (m : Int) {r : Bool} (hm : portlaw2_RouteNeeds people w_ steps m = some r) : Ret Tryd.prog 4 #[v_people, .agg #[.int .i64 w_.ticket, .int .i64 w_.weight, .int .i64 w_.urgency, .int .i64 w_.since, .int .i64 w_.former, v_w_], v_steps, .int .i64 m] w fun v w' => v = .bool r ∧ Kp w w' := by
  unfold portlaw2_RouteNeeds at hm
  refine enter Tryd.func4 rfl Tryd.ntmps4 rfl ?_
  have hA0 := hA
  have hB := Nat.le_refl w.heap.size
  have hK : Tr w.heap.size A w A w := Tr.refl hA
  have hH : Hp w.heap.size A w [] := Hp.nil
  refine C_seq ?_
  refine C_region ?_
  refine V_box rfl rfl ?_
  intro b7 w9 h10
  have hk12 := h10.kp
  have h11 : El (α := route_Work) A w9 b7 0 w_ := h10.el hA ⟨[.int .i64 w_.ticket], _, rfl, rfl, ⟨[.int .i64 w_.weight], _, rfl, rfl, ⟨[.int .i64 w_.urgency], _, rfl, rfl, ⟨[.int .i64 w_.since], _, rfl, rfl, ⟨[.int .i64 w_.former], _, rfl, rfl, ⟨_, rfl, h_w_⟩⟩⟩⟩⟩⟩
  have ht13 := Kp.tr hk12 hA hB
  replace hH := Hp.kp hH hk12
  replace h_people := Sl.tr h_people ht13
  replace h_w_ := Sl.tr h_w_ ht13
  replace h_steps := Sl.tr h_steps ht13
  replace hK := Tr.trans hK ht13
  replace hB := Nat.le_trans hB ht13.ex.size
  replace hA := ht13.new
  refine V_y (Y_assign rfl) rfl rfl rfl ?_
  refine V_to (fun _ _ => rfl) ?_
  refine C_seq ?_
  refine C_region ?_
  obtain ⟨v14, h16, h15⟩ := El_route_Work h11
  refine V_y (Y_loadA h16 Tryd.isAgg35 Tryd.sizeOf35 rfl) rfl rfl rfl ?_
  refine V_y (Y_move rfl) rfl rfl rfl ?_
  refine V_y (Y_move rfl) rfl rfl rfl ?_
  obtain ⟨x17, hx17, hm⟩ := Option.bind_eq_some_iff.1 hm
  refine V_call Tryd.call12 rfl rfl rfl rfl (route_NeedsAt_c w9 hA w_ v14 h15 steps v_steps h_steps m hx17) ?_
  rintro _ w20 ⟨v18, rfl, h19, hk21⟩
  obtain ⟨A22, ht23, hH24⟩ := Hp.addOwnd hH hB hA hk21 h19
  replace h_people := Sl.tr h_people ht23
  replace h_steps := Sl.tr h_steps ht23
  replace h11 := El.tr h11 ht23
  replace h15 := Sl.tr h15 ht23
  replace hK := Tr.trans hK ht23
  replace hB := Nat.le_trans hB ht23.ex.size
  replace hA := ht23.new
  replace hH : Hp w.heap.size A22 w20 (obS (α := route_Skill) 42 v18 x17.1 :: []) := hH24
  refine V_y (Y_move rfl) rfl rfl rfl ?_
  refine V_y (Y_extract rfl rfl) rfl rfl rfl ?_
  refine V_y (Y_extract rfl rfl) rfl rfl rfl ?_
  refine V_y (Y_assign rfl) rfl rfl rfl ?_
  refine V_y (Y_assign rfl) rfl rfl rfl ?_
  refine V_to (fun _ _ => rfl) ?_
  refine C_seq ?_
  refine C_region ?_
  obtain ⟨v25, h27, h26⟩ := El_route_Work h11
  refine V_y (Y_loadA h27 Tryd.isAgg35 Tryd.sizeOf35 rfl) rfl rfl rfl ?_
  refine V_y (Y_move rfl) rfl rfl rfl ?_
  refine V_y (Y_move rfl) rfl rfl rfl ?_
  obtain ⟨x28, hx28, hm⟩ := Option.bind_eq_some_iff.1 hm
  refine V_call Tryd.call13 rfl rfl rfl rfl (portref2_NeedsOf_c w20 hA w_ v25 h26 steps v_steps h_steps m hx28) ?_
  rintro _ w31 ⟨v29, rfl, h30, hk32⟩
  have ht33 := Kp.tr hk32 hA hB
  replace hH := Hp.kp hH hk32
  replace h_people := Sl.tr h_people ht33
  replace h_steps := Sl.tr h_steps ht33
  replace h11 := El.tr h11 ht33
  replace h26 := Sl.tr h26 ht33
  replace hK := Tr.trans hK ht33
  replace hB := Nat.le_trans hB ht33.ex.size
  replace hA := ht33.new
  refine V_y (Y_move rfl) rfl rfl rfl ?_
  refine V_y (Y_extract rfl rfl) rfl rfl rfl ?_
  refine V_y (Y_extract rfl rfl) rfl rfl rfl ?_
  refine V_y (Y_assign rfl) rfl rfl rfl ?_
  refine V_y (Y_assign rfl) rfl rfl rfl ?_
  refine V_to (fun _ _ => rfl) ?_
  refine C_seq ?_
  refine C_region ?_
  refine V_y (Y_move rfl) rfl rfl rfl ?_
  have h34 := El_route_Work_5 h11
  refine V_y (Y_fieldAddr Tryd.underlying35 rfl Tryd.sizeOf33 (by decide) rfl) rfl rfl rfl ?_
  obtain ⟨v35, h36, h37⟩ := El.list h34
  refine V_y (Y_load h36 Tryd.isAgg33 rfl) rfl rfl rfl ?_
  obtain ⟨x38, hx38, hm⟩ := Option.bind_eq_some_iff.1 hm
  refine V_call Tryd.call14 rfl rfl rfl rfl (route_Able_c w31 hA people v_people h_people w_.needs v35 h37 hx38) ?_
  rintro _ w41 ⟨v39, rfl, h40, hk42⟩
  obtain ⟨A43, ht44, hH45⟩ := Hp.addOwnd hH hB hA hk42 h40
  replace h_people := Sl.tr h_people ht44
  replace h11 := El.tr h11 ht44
  replace h30 := Sl.tr h30 ht44
  replace h34 := El.tr h34 ht44
  replace h37 := Sl.tr h37 ht44
  replace hK := Tr.trans hK ht44
  replace hB := Nat.le_trans hB ht44.ex.size
  replace hA := ht44.new
  replace hH : Hp w.heap.size A43 w41 (obS (α := Int) 3 v39 x38.1 :: obS (α := route_Skill) 42 v18 x17.1 :: []) := hH45
  refine V_y (Y_move rfl) rfl rfl rfl ?_
  refine V_y (Y_extract rfl rfl) rfl rfl rfl ?_
  refine V_y (Y_extract rfl rfl) rfl rfl rfl ?_
  refine V_y (Y_assign rfl) rfl rfl rfl ?_
  refine V_y (Y_assign rfl) rfl rfl rfl ?_
  refine V_to (fun _ _ => rfl) ?_
  refine C_seq ?_
  refine C_region ?_
  refine V_y (Y_move rfl) rfl rfl rfl ?_
  have h46 := El_route_Work_5 h11
  refine V_y (Y_fieldAddr Tryd.underlying35 rfl Tryd.sizeOf33 (by decide) rfl) rfl rfl rfl ?_
  obtain ⟨v47, h48, h49⟩ := El.list h46
  refine V_y (Y_load h48 Tryd.isAgg33 rfl) rfl rfl rfl ?_
  obtain ⟨x50, hx50, hm⟩ := Option.bind_eq_some_iff.1 hm
  refine V_call Tryd.call15 rfl rfl rfl rfl (portref2_AbleOf_c w41 hA people v_people h_people w_.needs v47 h49 hx50) ?_
  rintro _ w53 ⟨v51, rfl, h52, hk54⟩
  obtain ⟨A55, ht56, hH57⟩ := Hp.addOwnd hH hB hA hk54 h52
  replace h_people := Sl.tr h_people ht56
  replace h11 := El.tr h11 ht56
  replace h30 := Sl.tr h30 ht56
  replace h46 := El.tr h46 ht56
  replace h49 := Sl.tr h49 ht56
  replace hK := Tr.trans hK ht56
  replace hB := Nat.le_trans hB ht56.ex.size
  replace hA := ht56.new
  replace hH : Hp w.heap.size A55 w53 (obS (α := Int) 3 v51 x50.1 :: obS (α := Int) 3 v39 x38.1 :: obS (α := route_Skill) 42 v18 x17.1 :: []) := hH57
  refine V_y (Y_move rfl) rfl rfl rfl ?_
  refine V_y (Y_extract rfl rfl) rfl rfl rfl ?_
  refine V_y (Y_extract rfl rfl) rfl rfl rfl ?_
  refine V_y (Y_assign rfl) rfl rfl rfl ?_
  refine V_y (Y_assign rfl) rfl rfl rfl ?_
  refine V_to (fun _ _ => rfl) ?_
  refine C_seq ?_
  obtain ⟨s59, ho58, hm⟩ := Option.bind_eq_some_iff.1 hm
  refine C_cutG (ι := (Nat → Prop)) (fun (A64 : (Nat → Prop)) => [(8, .bool s59)]) (fun (A64 : (Nat → Prop)) => fun w' => Hp w.heap.size A64 w' (obS (α := Int) 3 v51 x50.1 :: obS (α := Int) 3 v39 x38.1 :: obS (α := route_Skill) 42 v18 x17.1 :: []) ∧ Tr w.heap.size A55 w53 A64 w') ?_ ?_
  · have hr60 : Tr w.heap.size A55 w53 A55 w53 := Tr.refl hA
    refine C_region ?_
    refine V_y (Y_move rfl) rfl rfl rfl ?_
    refine V_y (Y_move rfl) rfl rfl rfl ?_
    refine V_y (Y_eql rfl rfl) rfl rfl rfl ?_
    refine V_y (Y_move rfl) rfl rfl rfl ?_
    rcases Bool.eq_false_or_eq_true (x17.2 == x28.2) with hc66 | hc66
    · rw [if_pos hc66] at ho58
      refine V_ge rfl rfl rfl hc66 ?_
      refine V_y (Y_move rfl) rfl rfl rfl ?_
      refine V_ge rfl rfl rfl hc66 ?_
      refine V_y (Y_move rfl) rfl rfl rfl ?_
      refine V_ge rfl rfl rfl hc66 ?_
      refine V_y (Y_eql rfl rfl) rfl rfl rfl ?_
      refine V_y (Y_pick_te rfl hc66 rfl) rfl rfl rfl ?_
      refine V_y (Y_move rfl) rfl rfl rfl ?_
      rcases Bool.eq_false_or_eq_true (x38.2 == x50.2) with hc67 | hc67
      · rw [if_pos hc67] at ho58
        refine V_ge rfl rfl rfl hc67 ?_
        refine V_y (Y_move rfl) rfl rfl rfl ?_
        refine V_ge rfl rfl rfl hc67 ?_
        refine V_y (Y_move rfl) rfl rfl rfl ?_
        refine V_ge rfl rfl rfl hc67 ?_
        obtain ⟨x68, hx68, ho58⟩ := Option.bind_eq_some_iff.1 ho58
        refine V_call Tryd.call16 rfl rfl rfl rfl (slices_Equal_Lroute_Skill_route_Skill_c w53 (A := fun _ => True) (fun _ _ => trivial) x17.1 v18 (Hp.any (α := route_Skill) (e := 42) (v := v18) (l := x17.1) hH (i := 2) rfl) x28.1 v29 (Sl.any h30) hx68) ?_
        rintro _ w69 ⟨rfl, hk70⟩
        have ht71 := Kp.tr hk70 hA hB
        replace hH := Hp.kp hH hk70
        replace h30 := Sl.tr h30 ht71
        replace hK := Tr.trans hK ht71
        replace hr60 := Tr.trans hr60 ht71
        replace hB := Nat.le_trans hB ht71.ex.size
        replace hA := ht71.new
        refine V_y (Y_pick_te rfl hc67 rfl) rfl rfl rfl ?_
        refine V_y (Y_move rfl) rfl rfl rfl ?_
        rcases Bool.eq_false_or_eq_true (x68) with hc72 | hc72
        · rw [if_pos hc72] at ho58
          refine V_ge rfl rfl rfl hc72 ?_
          refine V_y (Y_move rfl) rfl rfl rfl ?_
          refine V_ge rfl rfl rfl hc72 ?_
          refine V_y (Y_move rfl) rfl rfl rfl ?_
          refine V_ge rfl rfl rfl hc72 ?_
          obtain ⟨x73, hx73, ho58⟩ := Option.bind_eq_some_iff.1 ho58
          refine V_call Tryd.call9 rfl rfl rfl rfl (slices_Equal_Lint_int_c w69 (A := fun _ => True) (fun _ _ => trivial) x38.1 v39 (Hp.any (α := Int) (e := 3) (v := v39) (l := x38.1) hH (i := 1) rfl) x50.1 v51 (Hp.any (α := Int) (e := 3) (v := v51) (l := x50.1) hH (i := 0) rfl) hx73) ?_
          rintro _ w74 ⟨rfl, hk75⟩
          have ht76 := Kp.tr hk75 hA hB
          replace hH := Hp.kp hH hk75
          replace h30 := Sl.tr h30 ht76
          replace hK := Tr.trans hK ht76
          replace hr60 := Tr.trans hr60 ht76
          replace hB := Nat.le_trans hB ht76.ex.size
          replace hA := ht76.new
          refine V_y (Y_pick_te rfl hc72 rfl) rfl rfl rfl ?_
          refine V_y (Y_assign rfl) rfl rfl rfl ?_
          obtain rfl := Option.some.inj ho58
          refine V_end (fun a ha77 => ?_)
          exact ⟨A55, ha77.sub ⟨rfl, trivial⟩, ⟨hH, hr60⟩⟩
        · rw [if_neg (nt hc72)] at ho58
          refine V_gn rfl rfl rfl hc72 rfl rfl rfl ?_
          refine V_gn rfl rfl rfl hc72 rfl rfl rfl ?_
          refine V_gn rfl rfl rfl hc72 rfl rfl rfl ?_
          refine V_y (Y_pick_fe rfl hc72 rfl) rfl rfl rfl ?_
          refine V_y (Y_assign rfl) rfl rfl rfl ?_
          obtain rfl := Option.some.inj ho58
          refine V_end (fun a ha78 => ?_)
          exact ⟨A55, ha78.sub ⟨rfl, trivial⟩, ⟨hH, hr60⟩⟩
      · rw [if_neg (nt hc67)] at ho58
        refine V_gn rfl rfl rfl hc67 rfl rfl rfl ?_
        refine V_gn rfl rfl rfl hc67 rfl rfl rfl ?_
        refine V_gn rfl rfl rfl hc67 rfl rfl rfl ?_
        refine V_y (Y_pick_fe rfl hc67 rfl) rfl rfl rfl ?_
        refine V_y (Y_move rfl) rfl rfl rfl ?_
        rcases Bool.eq_false_or_eq_true (false) with hc79 | hc79
        · rw [if_pos hc79] at ho58
          refine V_ge rfl rfl rfl hc79 ?_
          refine V_y (Y_move rfl) rfl rfl rfl ?_
          refine V_ge rfl rfl rfl hc79 ?_
          refine V_y (Y_move rfl) rfl rfl rfl ?_
          refine V_ge rfl rfl rfl hc79 ?_
          obtain ⟨x80, hx80, ho58⟩ := Option.bind_eq_some_iff.1 ho58
          refine V_call Tryd.call9 rfl rfl rfl rfl (slices_Equal_Lint_int_c w53 (A := fun _ => True) (fun _ _ => trivial) x38.1 v39 (Hp.any (α := Int) (e := 3) (v := v39) (l := x38.1) hH (i := 1) rfl) x50.1 v51 (Hp.any (α := Int) (e := 3) (v := v51) (l := x50.1) hH (i := 0) rfl) hx80) ?_
          rintro _ w81 ⟨rfl, hk82⟩
          have ht83 := Kp.tr hk82 hA hB
          replace hH := Hp.kp hH hk82
          replace h30 := Sl.tr h30 ht83
          replace hK := Tr.trans hK ht83
          replace hr60 := Tr.trans hr60 ht83
          replace hB := Nat.le_trans hB ht83.ex.size
          replace hA := ht83.new
          refine V_y (Y_pick_te rfl hc79 rfl) rfl rfl rfl ?_
          refine V_y (Y_assign rfl) rfl rfl rfl ?_
          obtain rfl := Option.some.inj ho58
          refine V_end (fun a ha84 => ?_)
          exact ⟨A55, ha84.sub ⟨rfl, trivial⟩, ⟨hH, hr60⟩⟩
        · rw [if_neg (nt hc79)] at ho58
          refine V_gn rfl rfl rfl hc79 rfl rfl rfl ?_
          refine V_gn rfl rfl rfl hc79 rfl rfl rfl ?_
          refine V_gn rfl rfl rfl hc79 rfl rfl rfl ?_
          refine V_y (Y_pick_fe rfl hc79 rfl) rfl rfl rfl ?_
          refine V_y (Y_assign rfl) rfl rfl rfl ?_
          obtain rfl := Option.some.inj ho58
          refine V_end (fun a ha85 => ?_)
          exact ⟨A55, ha85.sub ⟨rfl, trivial⟩, ⟨hH, hr60⟩⟩
    · rw [if_neg (nt hc66)] at ho58
      refine V_gn rfl rfl rfl hc66 rfl rfl rfl ?_
      refine V_gn rfl rfl rfl hc66 rfl rfl rfl ?_
      refine V_gn rfl rfl rfl hc66 rfl rfl rfl ?_
      refine V_y (Y_pick_fe rfl hc66 rfl) rfl rfl rfl ?_
      refine V_y (Y_move rfl) rfl rfl rfl ?_
      rcases Bool.eq_false_or_eq_true (false) with hc86 | hc86
      · rw [if_pos hc86] at ho58
        refine V_ge rfl rfl rfl hc86 ?_
        refine V_y (Y_move rfl) rfl rfl rfl ?_
        refine V_ge rfl rfl rfl hc86 ?_
        refine V_y (Y_move rfl) rfl rfl rfl ?_
        refine V_ge rfl rfl rfl hc86 ?_
        obtain ⟨x87, hx87, ho58⟩ := Option.bind_eq_some_iff.1 ho58
        refine V_call Tryd.call16 rfl rfl rfl rfl (slices_Equal_Lroute_Skill_route_Skill_c w53 (A := fun _ => True) (fun _ _ => trivial) x17.1 v18 (Hp.any (α := route_Skill) (e := 42) (v := v18) (l := x17.1) hH (i := 2) rfl) x28.1 v29 (Sl.any h30) hx87) ?_
        rintro _ w88 ⟨rfl, hk89⟩
        have ht90 := Kp.tr hk89 hA hB
        replace hH := Hp.kp hH hk89
        replace h30 := Sl.tr h30 ht90
        replace hK := Tr.trans hK ht90
        replace hr60 := Tr.trans hr60 ht90
        replace hB := Nat.le_trans hB ht90.ex.size
        replace hA := ht90.new
        refine V_y (Y_pick_te rfl hc86 rfl) rfl rfl rfl ?_
        refine V_y (Y_move rfl) rfl rfl rfl ?_
        rcases Bool.eq_false_or_eq_true (x87) with hc91 | hc91
        · rw [if_pos hc91] at ho58
          refine V_ge rfl rfl rfl hc91 ?_
          refine V_y (Y_move rfl) rfl rfl rfl ?_
          refine V_ge rfl rfl rfl hc91 ?_
          refine V_y (Y_move rfl) rfl rfl rfl ?_
          refine V_ge rfl rfl rfl hc91 ?_
          obtain ⟨x92, hx92, ho58⟩ := Option.bind_eq_some_iff.1 ho58
          refine V_call Tryd.call9 rfl rfl rfl rfl (slices_Equal_Lint_int_c w88 (A := fun _ => True) (fun _ _ => trivial) x38.1 v39 (Hp.any (α := Int) (e := 3) (v := v39) (l := x38.1) hH (i := 1) rfl) x50.1 v51 (Hp.any (α := Int) (e := 3) (v := v51) (l := x50.1) hH (i := 0) rfl) hx92) ?_
          rintro _ w93 ⟨rfl, hk94⟩
          have ht95 := Kp.tr hk94 hA hB
          replace hH := Hp.kp hH hk94
          replace h30 := Sl.tr h30 ht95
          replace hK := Tr.trans hK ht95
          replace hr60 := Tr.trans hr60 ht95
          replace hB := Nat.le_trans hB ht95.ex.size
          replace hA := ht95.new
          refine V_y (Y_pick_te rfl hc91 rfl) rfl rfl rfl ?_
          refine V_y (Y_assign rfl) rfl rfl rfl ?_
          obtain rfl := Option.some.inj ho58
          refine V_end (fun a ha96 => ?_)
          exact ⟨A55, ha96.sub ⟨rfl, trivial⟩, ⟨hH, hr60⟩⟩
        · rw [if_neg (nt hc91)] at ho58
          refine V_gn rfl rfl rfl hc91 rfl rfl rfl ?_
          refine V_gn rfl rfl rfl hc91 rfl rfl rfl ?_
          refine V_gn rfl rfl rfl hc91 rfl rfl rfl ?_
          refine V_y (Y_pick_fe rfl hc91 rfl) rfl rfl rfl ?_
          refine V_y (Y_assign rfl) rfl rfl rfl ?_
          obtain rfl := Option.some.inj ho58
          refine V_end (fun a ha97 => ?_)
          exact ⟨A55, ha97.sub ⟨rfl, trivial⟩, ⟨hH, hr60⟩⟩
      · rw [if_neg (nt hc86)] at ho58
        refine V_gn rfl rfl rfl hc86 rfl rfl rfl ?_
        refine V_gn rfl rfl rfl hc86 rfl rfl rfl ?_
        refine V_gn rfl rfl rfl hc86 rfl rfl rfl ?_
        refine V_y (Y_pick_fe rfl hc86 rfl) rfl rfl rfl ?_
        refine V_y (Y_move rfl) rfl rfl rfl ?_
        rcases Bool.eq_false_or_eq_true (false) with hc98 | hc98
        · rw [if_pos hc98] at ho58
          refine V_ge rfl rfl rfl hc98 ?_
          refine V_y (Y_move rfl) rfl rfl rfl ?_
          refine V_ge rfl rfl rfl hc98 ?_
          refine V_y (Y_move rfl) rfl rfl rfl ?_
          refine V_ge rfl rfl rfl hc98 ?_
          obtain ⟨x99, hx99, ho58⟩ := Option.bind_eq_some_iff.1 ho58
          refine V_call Tryd.call9 rfl rfl rfl rfl (slices_Equal_Lint_int_c w53 (A := fun _ => True) (fun _ _ => trivial) x38.1 v39 (Hp.any (α := Int) (e := 3) (v := v39) (l := x38.1) hH (i := 1) rfl) x50.1 v51 (Hp.any (α := Int) (e := 3) (v := v51) (l := x50.1) hH (i := 0) rfl) hx99) ?_
          rintro _ w100 ⟨rfl, hk101⟩
          have ht102 := Kp.tr hk101 hA hB
          replace hH := Hp.kp hH hk101
          replace h30 := Sl.tr h30 ht102
          replace hK := Tr.trans hK ht102
          replace hr60 := Tr.trans hr60 ht102
          replace hB := Nat.le_trans hB ht102.ex.size
          replace hA := ht102.new
          refine V_y (Y_pick_te rfl hc98 rfl) rfl rfl rfl ?_
          refine V_y (Y_assign rfl) rfl rfl rfl ?_
          obtain rfl := Option.some.inj ho58
          refine V_end (fun a ha103 => ?_)
          exact ⟨A55, ha103.sub ⟨rfl, trivial⟩, ⟨hH, hr60⟩⟩
        · rw [if_neg (nt hc98)] at ho58
          refine V_gn rfl rfl rfl hc98 rfl rfl rfl ?_
          refine V_gn rfl rfl rfl hc98 rfl rfl rfl ?_
          refine V_gn rfl rfl rfl hc98 rfl rfl rfl ?_
          refine V_y (Y_pick_fe rfl hc98 rfl) rfl rfl rfl ?_
          refine V_y (Y_assign rfl) rfl rfl rfl ?_
          obtain rfl := Option.some.inj ho58
          refine V_end (fun a ha104 => ?_)
          exact ⟨A55, ha104.sub ⟨rfl, trivial⟩, ⟨hH, hr60⟩⟩
  rintro A64 w61 ⟨hH65, hk62⟩ a ha63
  replace hK := Tr.trans hK hk62
  replace hB := Nat.le_trans hB hk62.ex.size
  replace hA := hk62.new
  replace hH : Hp w.heap.size A64 w61 (obS (α := Int) 3 v51 x50.1 :: obS (α := Int) 3 v39 x38.1 :: obS (α := route_Skill) 42 v18 x17.1 :: []) := hH65
  refine C_at (n := ⟨63, [], none⟩) (fun _ _ => rfl) ?_ ha63
  obtain rfl := Option.some.inj hm
  refine C_ret ?_
  try simp only [↓inBlock_ret, ↓then_ret]
  exact retQ rfl (Res.one Tryd.results4 rfl) ⟨rfl, hK.kp⟩

end Go.Proofs.YtigplgkbilmabaaDoor.W
