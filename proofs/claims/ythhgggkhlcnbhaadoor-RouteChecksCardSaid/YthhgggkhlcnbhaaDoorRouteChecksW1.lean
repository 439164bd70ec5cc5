/-
  Written by program (gen.py) from the IR of the dump: each function computes its model.
-/
import Derived.Test.YthhgggkhlcnbhaaDoorRouteChecksW0
namespace Go.Proofs.YthhgggkhlcnbhaaDoor.W
open Go Go.RowKit Go.Pu Go.Gw Go.Proofs Go.Proofs.YthhgggkhlcnbhaaDoor.M
set_option linter.unusedVariables false
set_option linter.unusedSimpArgs false

set_option maxRecDepth 4000 in
set_option maxHeartbeats 4000000 in
theorem portref2_PeopleString_c (w : World) {A : Nat → Prop} (hA : ∀ b, w.heap.size ≤ b → A b) (hT : Tb Tryd.prog A w) (l : (List route_Person)) (v_l : Value) (h_l : Sl A w v_l l) {r : (ByteArray × Int)} (hm : portref2_PeopleString l = some r) : Ret Tryd.prog 10 #[v_l] w fun v w' => v = .tuple #[.string r.1, .int .i64 r.2] ∧ Kp w w' := by
  unfold portref2_PeopleString at hm
  refine enter Tryd.func10 rfl Tryd.ntmps10 rfl ?_
  have hA0 := hA
  have hB := Nat.le_refl w.heap.size
  have hK : Tr w.heap.size A w A w := Tr.refl hA
  have hH : Hp w.heap.size A w [] := Hp.nil
  refine C_seq ?_
  refine C_region ?_
  refine V_y (Y_assign rfl) rfl rfl rfl ?_
  refine V_y (Y_assign rfl) rfl rfl rfl ?_
  refine V_to (fun _ _ => rfl) ?_
  refine C_seq ?_
  refine C_seq ?_
  refine C_region ?_
  refine V_y (Y_move rfl) rfl rfl rfl ?_
  obtain ⟨x3, hx3, hm⟩ := Option.bind_eq_some_iff.1 hm
  refine V_call Tryd.call12 rfl rfl rfl rfl (portref2_PeopleFault_c w hA l v_l h_l hx3) ?_
  rintro _ w4 ⟨rfl, hk5⟩
  have ht6 := Kp.tr hk5 hA hB
  replace hH := Hp.kp hH hk5
  replace h_l := Sl.tr h_l ht6
  replace hK := Tr.trans hK ht6
  replace hB := Nat.le_trans hB ht6.ex.size
  replace hA := ht6.new
  refine V_y (Y_assign rfl) rfl rfl rfl ?_
  refine V_to (fun _ _ => rfl) ?_
  refine C_seq ?_
  refine C_region ?_
  refine V_y (Y_move rfl) rfl rfl rfl ?_
  refine V_y (Y_neq rfl rfl) rfl rfl rfl ?_
  refine V_to (fun _ _ => rfl) ?_
  refine C_cond rfl (fun hc7 => ?_) (fun hc7 => ?_)
  · rw [if_pos hc7] at hm
    refine C_seq ?_
    refine C_region ?_
    refine V_y (Y_move rfl) rfl rfl rfl ?_
    refine V_y (Y_assign rfl) rfl rfl rfl ?_
    refine V_y (Y_assign rfl) rfl rfl rfl ?_
    refine V_to (fun _ _ => rfl) ?_
    obtain rfl := Option.some.inj hm
    refine C_ret ?_
    try simp only [↓inBlock_ret, ↓then_ret]
    exact retQ rfl (Res.two Tryd.results10 rfl rfl) ⟨rfl, hK.kp⟩
  · rw [if_neg (nt hc7)] at hm
    refine C_skip_to (fun _ _ => rfl) ?_
    refine C_seq ?_
    refine C_region ?_
    refine V_y (Y_assign rfl) rfl rfl rfl ?_
    refine V_to (fun _ _ => rfl) ?_
    refine C_seq ?_
    refine C_seq ?_
    refine C_region ?_
    refine V_y (Y_move rfl) rfl rfl rfl ?_
    refine V_y (Y_lenSl h_l rfl Tryd.underlying34 rfl) rfl rfl rfl ?_
    refine V_y (Y_move rfl) rfl rfl rfl ?_
    refine V_to (fun _ _ => rfl) ?_
    have hn28 := Sl.le h_l
    obtain ⟨o8, ho8, hm⟩ := Option.bind_eq_some_iff.1 hm
    refine C_cutG (ι := (ByteArray × (Nat → Prop))) (fun ⟨s9, A15⟩ => [(5, .string s9)]) (fun ⟨s9, A15⟩ => fun w' => o8 = .fin s9 ∧ Hp w.heap.size A15 w' ([]) ∧ Tr w.heap.size A w4 A15 w') ?_ ?_
    · refine C_block ?_
      refine C_range ho8 (fun k11 s17 a w' => ∃ i : (Nat → Prop), Has ⟨56, [], none⟩ a ([(5, .string s17), (16, v_l), (17, .int .i64 (l.length : Int)), (18, .int .i64 (k11 : Int))]) ∧ Hp w.heap.size i w' ([]) ∧ Tr w.heap.size A w4 i w') (fun a ha => ⟨A, ha.sub ⟨rfl, rfl, rfl, rfl, trivial⟩, ⟨hH, Tr.refl hA⟩⟩) ?_
      rintro K k11 s17 a w18 ⟨A19, ha124, hH20, hr10⟩ hle24 K27 h26
      refine C_of ?_ ha124
      replace h_l := Sl.tr h_l hr10
      replace hK := Tr.trans hK hr10
      replace hB := Nat.le_trans hB hr10.ex.size
      replace hA := hr10.new
      replace hH : Hp w.heap.size A19 w18 ([]) := hH20
      refine C_seq (C_region (V_y (Y_lss rfl rfl) rfl rfl rfl (V_to (fun _ _ => rfl) ?_)))
      refine C_seq ?_
      refine C_cond rfl (fun hc29 => ?_) (fun hc29 => ?_)
      · have hlt25 := lt_of_dec hc29
        obtain ⟨x21, h22, h23⟩ := K27 hlt25
        refine C_skip_to (fun _ _ => rfl) ?_
        refine C_seq ?_
        refine C_block ?_
        refine C_seq ?_
        refine C_region ?_
        obtain ⟨x30, hx30, h22⟩ := Option.bind_eq_some_iff.1 h22
        refine V_indexAddr h_l hx30 Tryd.underlying34 Tryd.sizeOf69 rfl rfl rfl ?_
        intro b31 o32 h33
        obtain ⟨v34, h36, h35⟩ := El_route_Person h33
        refine V_y (Y_loadA h36 Tryd.isAgg69 Tryd.sizeOf69 rfl) rfl rfl rfl ?_
        refine V_alloc Tryd.zeroValue69 rfl ?_
        intro b37 w38 h39
        have h44 : (v34).oneCell' = true := by obtain ⟨_, _, e, _⟩ := Sl.form h35; rw [e]; rfl
        refine V_storeNew h39 Tryd.sizeOf69 rfl rfl rfl rfl (by exact (List.forall_mem_cons.2 ⟨rfl, (List.forall_mem_cons.2 ⟨rfl, (List.forall_mem_cons.2 ⟨rfl, (List.forall_mem_cons.2 ⟨h44, (fun _ h => nomatch h)⟩)⟩)⟩)⟩)) ?_
        intro w40 h41
        have hk46 := h41.kp
        have h45 : El (α := route_Person) A19 w40 b37 0 x30 := h41.el hA ⟨[.int .i64 x30.no], _, rfl, rfl, ⟨[.int .i64 x30.capacity], _, rfl, rfl, ⟨[.int .i64 x30.calendar], _, rfl, rfl, ⟨_, rfl, h35⟩⟩⟩⟩
        have ht47 := Kp.tr hk46 hA hB
        replace hH := Hp.kp hH hk46
        replace h_l := Sl.tr h_l ht47
        replace h33 := El.tr h33 ht47
        replace h35 := Sl.tr h35 ht47
        replace hK := Tr.trans hK ht47
        replace hr10 := Tr.trans hr10 ht47
        replace hB := Nat.le_trans hB ht47.ex.size
        replace hA := ht47.new
        refine V_to (fun _ _ => rfl) ?_
        refine C_seq ?_
        refine C_region ?_
        refine V_y (Y_mkStr (ti := 3) Tryd.underlying9 rfl) rfl rfl rfl ?_
        have h48 := El_route_Person_0 h45
        refine V_y (Y_fieldAddr Tryd.underlying69 rfl Tryd.sizeOf3 (by decide) rfl) rfl rfl rfl ?_
        refine V_y (Y_load (El.int h48) Tryd.isAgg3 rfl) rfl rfl rfl ?_
        refine V_y (Y_mkInt (ts := 9) Tryd.underlying3 rfl) rfl rfl rfl ?_
        have h49 := El_route_Person_1 h45
        refine V_y (Y_fieldAddr Tryd.underlying69 rfl Tryd.sizeOf3 (by decide) rfl) rfl rfl rfl ?_
        refine V_y (Y_load (El.int h49) Tryd.isAgg3 rfl) rfl rfl rfl ?_
        refine V_y (Y_mkInt (ts := 9) Tryd.underlying3 rfl) rfl rfl rfl ?_
        have h50 := El_route_Person_2 h45
        refine V_y (Y_fieldAddr Tryd.underlying69 rfl Tryd.sizeOf3 (by decide) rfl) rfl rfl rfl ?_
        refine V_y (Y_load (El.int h50) Tryd.isAgg3 rfl) rfl rfl rfl ?_
        refine V_y (Y_mkInt (ts := 9) Tryd.underlying3 rfl) rfl rfl rfl ?_
        refine V_buildOwnH (l := ([(AnyV.str (⟨#[112, 101, 114, 115, 111, 110]⟩ : ByteArray)), (AnyV.int x30.no), (AnyV.int x30.capacity), (AnyV.int x30.calendar)] : List AnyV)) (len := 4) hH Tryd.underlying63 Tryd.sizeOf20 Tryd.zeroValue20 rfl (by with_unfolding_all rfl) (by decide) (by decide) hB hA ⟨[AnyV.val 9 3 (AnyV.str (⟨#[112, 101, 114, 115, 111, 110]⟩ : ByteArray))], _, rfl, rfl, ⟨[AnyV.val 9 3 (AnyV.int x30.no)], _, rfl, rfl, ⟨[AnyV.val 9 3 (AnyV.int x30.capacity)], _, rfl, rfl, ⟨[AnyV.val 9 3 (AnyV.int x30.calendar)], _, rfl, rfl, rfl⟩⟩⟩⟩ rfl rfl ?_
        intro v51 w52 A55 hH57 ht56
        replace h_l := Sl.tr h_l ht56
        replace h45 := El.tr h45 ht56
        replace h48 := El.tr h48 ht56
        replace h49 := El.tr h49 ht56
        replace h50 := El.tr h50 ht56
        replace hK := Tr.trans hK ht56
        replace hr10 := Tr.trans hr10 ht56
        replace hB := Nat.le_trans hB ht56.ex.size
        replace hA := ht56.new
        replace hH : Hp w.heap.size A55 w52 (obS (α := AnyV) 20 v51 ([(AnyV.str (⟨#[112, 101, 114, 115, 111, 110]⟩ : ByteArray)), (AnyV.int x30.no), (AnyV.int x30.capacity), (AnyV.int x30.calendar)] : List AnyV) :: []) := hH57
        refine V_y (Y_assign rfl) rfl rfl rfl ?_
        refine V_to (fun _ _ => rfl) ?_
        refine C_seq ?_
        refine C_seq ?_
        refine C_region ?_
        have h58 := El_route_Person_3 h45
        refine V_y (Y_fieldAddr Tryd.underlying69 rfl Tryd.sizeOf67 (by decide) rfl) rfl rfl rfl ?_
        obtain ⟨v59, h60, h61⟩ := El.list h58
        refine V_y (Y_load h60 Tryd.isAgg67 rfl) rfl rfl rfl ?_
        refine V_y (Y_lenSl h61 rfl Tryd.underlying67 rfl) rfl rfl rfl ?_
        refine V_y (Y_move rfl) rfl rfl rfl ?_
        refine V_to (fun _ _ => rfl) ?_
        have hn86 := Sl.le h61
        obtain ⟨o62, ho62, h22⟩ := Option.bind_eq_some_iff.1 h22
        refine C_cutG (ι := ((List AnyV) × Value × (Nat → Prop))) (fun ⟨s63, v69, A71⟩ => [(5, .string s17), (8, v69), (16, v_l), (17, .int .i64 (l.length : Int)), (18, .int .i64 (k11 : Int))]) (fun ⟨s63, v69, A71⟩ => fun w' => o62 = .fin s63 ∧ Hp w.heap.size A71 w' (obS (α := AnyV) 20 v69 s63 :: []) ∧ Tr w.heap.size A55 w52 A71 w') ?_ ?_
        · refine C_block ?_
          refine C_range ho62 (fun k65 s73 a w' => ∃ i : (Value × (Nat → Prop)), Has ⟨56, [], none⟩ a ([(5, .string s17), (8, i.1), (16, v_l), (17, .int .i64 (l.length : Int)), (18, .int .i64 (k11 : Int)), (34, v59), (35, .int .i64 (x30.skills.length : Int)), (36, .int .i64 (k65 : Int))]) ∧ Hp w.heap.size i.2 w' (obS (α := AnyV) 20 i.1 s73 :: []) ∧ Tr w.heap.size A55 w52 i.2 w') (fun a ha => ⟨(v51, A55), ha.sub ⟨rfl, rfl, rfl, rfl, rfl, rfl, rfl, rfl, trivial⟩, ⟨hH, Tr.refl hA⟩⟩) ?_
          rintro K k65 s73 a w74 ⟨⟨v75, A77⟩, ha116, hH78, hr64⟩ hle82 K85 h84
          refine C_of ?_ ha116
          replace h_l := Sl.tr h_l hr64
          replace h61 := Sl.tr h61 hr64
          replace hK := Tr.trans hK hr64
          replace hr10 := Tr.trans hr10 hr64
          replace hB := Nat.le_trans hB hr64.ex.size
          replace hA := hr64.new
          replace hH : Hp w.heap.size A77 w74 (obS (α := AnyV) 20 v75 s73 :: []) := hH78
          refine C_seq (C_region (V_y (Y_lss rfl rfl) rfl rfl rfl (V_to (fun _ _ => rfl) ?_)))
          refine C_seq ?_
          refine C_cond rfl (fun hc87 => ?_) (fun hc87 => ?_)
          · have hlt83 := lt_of_dec hc87
            obtain ⟨x79, h80, h81⟩ := K85 hlt83
            refine C_skip_to (fun _ _ => rfl) ?_
            refine C_seq ?_
            refine C_block ?_
            refine C_seq ?_
            refine C_region ?_
            obtain ⟨x88, hx88, h80⟩ := Option.bind_eq_some_iff.1 h80
            refine V_indexAddr h61 hx88 Tryd.underlying67 Tryd.sizeOf72 rfl rfl rfl ?_
            intro b89 o90 h91
            obtain ⟨h92, _⟩ := El_route_Skill h91
            refine V_y (Y_loadA h92 Tryd.isAgg72 Tryd.sizeOf72 rfl) rfl rfl rfl ?_
            refine V_alloc Tryd.zeroValue72 rfl ?_
            intro b93 w94 h95
            refine V_storeNew h95 Tryd.sizeOf72 rfl rfl rfl rfl (by exact (List.forall_mem_cons.2 ⟨rfl, (List.forall_mem_cons.2 ⟨rfl, (fun _ h => nomatch h)⟩)⟩)) ?_
            intro w96 h97
            have hk99 := h97.kp
            have h98 : El (α := route_Skill) A77 w96 b93 0 x88 := h97.el hA ⟨[.string x88.name], _, rfl, rfl, rfl⟩
            have ht100 := Kp.tr hk99 hA hB
            replace hH := Hp.kp hH hk99
            replace h_l := Sl.tr h_l ht100
            replace h61 := Sl.tr h61 ht100
            replace h91 := El.tr h91 ht100
            replace hK := Tr.trans hK ht100
            replace hr10 := Tr.trans hr10 ht100
            replace hr64 := Tr.trans hr64 ht100
            replace hB := Nat.le_trans hB ht100.ex.size
            replace hA := ht100.new
            refine V_to (fun _ _ => rfl) ?_
            refine C_region ?_
            refine V_y (Y_move rfl) rfl rfl rfl ?_
            have h101 := El_route_Skill_0 h98
            refine V_y (Y_fieldAddr Tryd.underlying72 rfl Tryd.sizeOf9 (by decide) rfl) rfl rfl rfl ?_
            refine V_y (Y_load (El.str h101) Tryd.isAgg9 rfl) rfl rfl rfl ?_
            refine V_y (Y_mkStr (ti := 3) Tryd.underlying9 rfl) rfl rfl rfl ?_
            have h102 := El_route_Skill_1 h98
            refine V_y (Y_fieldAddr Tryd.underlying72 rfl Tryd.sizeOf3 (by decide) rfl) rfl rfl rfl ?_
            refine V_y (Y_load (El.int h102) Tryd.isAgg3 rfl) rfl rfl rfl ?_
            refine V_y (Y_mkInt (ts := 9) Tryd.underlying3 rfl) rfl rfl rfl ?_
            refine V_buildSlice (l := ([(AnyV.str x88.name), (AnyV.int x88.rank)] : List AnyV)) (len := 2) Tryd.underlying63 Tryd.sizeOf20 Tryd.zeroValue20 rfl (by with_unfolding_all rfl) (by decide) (by decide) hA ⟨[AnyV.val 9 3 (AnyV.str x88.name)], _, rfl, rfl, ⟨[AnyV.val 9 3 (AnyV.int x88.rank)], _, rfl, rfl, rfl⟩⟩ rfl rfl ?_
            intro v103 w104 hk106 h105
            have ht107 := Kp.tr hk106 hA hB
            replace hH := Hp.kp hH hk106
            replace h_l := Sl.tr h_l ht107
            replace h61 := Sl.tr h61 ht107
            replace h98 := El.tr h98 ht107
            replace h101 := El.tr h101 ht107
            replace h102 := El.tr h102 ht107
            replace hK := Tr.trans hK ht107
            replace hr10 := Tr.trans hr10 ht107
            replace hr64 := Tr.trans hr64 ht107
            replace hB := Nat.le_trans hB ht107.ex.size
            replace hA := ht107.new
            obtain ⟨x108, hx108, h80⟩ := Option.bind_eq_some_iff.1 h80
            refine V_appendH (e := 20) (v := v75) (l := s73) (ti := Tryd.t20) (bytes := 16) (lim := 8796093022208) hH (i := 0) rfl h105 hx108 Tryd.underlying63 Tryd_info20 rfl rfl rfl rfl (by decide) (by decide) (by decide) hB hA rfl rfl rfl ?_
            intro v109 w110 A111 hH112 ht113
            replace h_l := Sl.tr h_l ht113
            replace h61 := Sl.tr h61 ht113
            replace h98 := El.tr h98 ht113
            replace h101 := El.tr h101 ht113
            replace h102 := El.tr h102 ht113
            replace h105 := Sl.tr h105 ht113
            replace hK := Tr.trans hK ht113
            replace hr10 := Tr.trans hr10 ht113
            replace hr64 := Tr.trans hr64 ht113
            replace hB := Nat.le_trans hB ht113.ex.size
            replace hA := ht113.new
            replace hH : Hp w.heap.size A111 w110 (obS (α := AnyV) 20 v109 x108 :: []) := hH112
            refine V_y (Y_assign rfl) rfl rfl rfl ?_
            refine V_to (fun _ _ => rfl) ?_
            refine C_region ?_
            refine V_y (Y_addI rfl rfl) rfl rfl rfl ?_
            refine V_y (Y_move rfl) rfl rfl rfl ?_
            obtain rfl := Option.some.inj h80
            refine V_end (fun a ha114 => ?_)
            exact ⟨x108, hlt83, h81, ⟨(v109, A111), ha114.sub ⟨rfl, rfl, rfl, rfl, rfl, rfl, rfl, (congrArg (fun z => some (Value.int .i64 z)) (w64_succ hlt83 hn86)), trivial⟩, ⟨hH, hr64⟩⟩⟩
          · refine C_exit (fun a ha115 => ?_)
            exact ⟨(s73, v75, A77), ha115.sub ⟨rfl, rfl, rfl, rfl, rfl, trivial⟩, ⟨(h84 (eq_of_dec hle82 hc87)).symm, hH, hr64⟩⟩
        rintro ⟨s63, v69, A71⟩ w66 ⟨rfl, hH72, hk67⟩ a ha68
        rw [Lp.andThen_fin] at h22
        replace h_l := Sl.tr h_l hk67
        replace hK := Tr.trans hK hk67
        replace hr10 := Tr.trans hr10 hk67
        replace hB := Nat.le_trans hB hk67.ex.size
        replace hA := hk67.new
        replace hH : Hp w.heap.size A71 w66 (obS (α := AnyV) 20 v69 s63 :: []) := hH72
        refine C_at (n := ⟨56, [], none⟩) (fun _ _ => rfl) ?_ ha68
        refine C_region ?_
        refine V_y (Y_move rfl) rfl rfl rfl ?_
        refine V_y (Y_move rfl) rfl rfl rfl ?_
        obtain ⟨x117, hx117, h22⟩ := Option.bind_eq_some_iff.1 h22
        refine V_call Tryd.call23 rfl rfl rfl rfl (portref2_line_c w66 (A := fun _ => True) (fun _ _ => trivial) (Tb.top (Tb.tr hT hK)) s63 v69 (Hp.any (α := AnyV) (e := 20) (v := v69) (l := s63) hH (i := 0) rfl) hx117) ?_
        rintro _ w118 ⟨rfl, hk119⟩
        have ht120 := Kp.tr hk119 hA hB
        replace hH := Hp.kp hH hk119
        replace h_l := Sl.tr h_l ht120
        replace hK := Tr.trans hK ht120
        replace hr10 := Tr.trans hr10 ht120
        replace hB := Nat.le_trans hB ht120.ex.size
        replace hA := ht120.new
        obtain ⟨x121, hx121, h22⟩ := Option.bind_eq_some_iff.1 h22
        refine V_y (Y_sadd hx121 rfl rfl) rfl rfl rfl ?_
        refine V_y (Y_assign rfl) rfl rfl rfl ?_
        refine V_to (fun _ _ => rfl) ?_
        refine C_region ?_
        refine V_y (Y_addI rfl rfl) rfl rfl rfl ?_
        refine V_y (Y_move rfl) rfl rfl rfl ?_
        obtain rfl := Option.some.inj h22
        refine V_end (fun a ha122 => ?_)
        replace hH : Hp w.heap.size A71 w118 ([]) := Hp.drop hH (i := 0) rfl
        exact ⟨x121, hlt25, h23, ⟨A71, ha122.sub ⟨rfl, rfl, rfl, (congrArg (fun z => some (Value.int .i64 z)) (w64_succ hlt25 hn28)), trivial⟩, ⟨hH, hr10⟩⟩⟩
      · refine C_exit (fun a ha123 => ?_)
        exact ⟨(s17, A19), ha123.sub ⟨rfl, trivial⟩, ⟨(h26 (eq_of_dec hle24 hc29)).symm, hH, hr10⟩⟩
    rintro ⟨s9, A15⟩ w12 ⟨rfl, hH16, hk13⟩ a ha14
    rw [Lp.andThen_fin] at hm
    replace hK := Tr.trans hK hk13
    replace hB := Nat.le_trans hB hk13.ex.size
    replace hA := hk13.new
    replace hH : Hp w.heap.size A15 w12 ([]) := hH16
    refine C_at (n := ⟨56, [], none⟩) (fun _ _ => rfl) ?_ ha14
    refine C_seq ?_
    refine C_region ?_
    refine V_y (Y_move rfl) rfl rfl rfl ?_
    refine V_y (Y_assign rfl) rfl rfl rfl ?_
    refine V_y (Y_assign rfl) rfl rfl rfl ?_
    refine V_to (fun _ _ => rfl) ?_
    obtain rfl := Option.some.inj hm
    refine C_ret ?_
    try simp only [↓inBlock_ret, ↓then_ret]
    exact retQ rfl (Res.two Tryd.results10 rfl rfl) ⟨rfl, hK.kp⟩

set_option maxRecDepth 4000 in
set_option maxHeartbeats 4000000 in
theorem slices_IndexFunc_Lroute_Work_route_Work_c (w : World) {A : Nat → Prop} (hA : ∀ b, w.heap.size ≤ b → A b) (s : (List route_Work)) (v_s : Value) (h_s : Sl A w v_s s) (f : route_Work → Option Bool) (f_f : FuncId) (f_a f_c : Array Value) (f_call : ∀ (args : Array Value) (w : World), (callFunc f_f args).run Tryd.prog w = .ok (.enter f_f args) w) (f_spec : ∀ (w1 : World) (A1 : Nat → Prop), Tr w.heap.size A w A1 w1 → (∀ b, w1.heap.size ≤ b → A1 b) → ∀ (y0 : route_Work) (v1 : Value) (h2 : Sl A1 w1 v1 y0.needs) (r : Bool), f y0 = some r → Ret Tryd.prog f_f (f_a ++ #[.agg #[.int .i64 y0.ticket, .int .i64 y0.weight, .int .i64 y0.urgency, .int .i64 y0.since, .int .i64 y0.former, v1]] ++ f_c) w1 fun v w' => v = .bool r ∧ Kp w1 w') {r : Int} (hm : slices_IndexFunc_Lroute_Work_route_Work s f = some r) : Ret Tryd.prog 46 #[v_s, .func (.func f_f) f_a f_c] w fun v w' => v = .int .i64 r ∧ Kp w w' := by
  unfold slices_IndexFunc_Lroute_Work_route_Work at hm
  refine enter Tryd.func46 rfl Tryd.ntmps46 rfl ?_
  have hA0 := hA
  have hB := Nat.le_refl w.heap.size
  have hK : Tr w.heap.size A w A w := Tr.refl hA
  have hH : Hp w.heap.size A w [] := Hp.nil
  refine C_seq ?_
  refine C_region ?_
  refine V_y (Y_assign rfl) rfl rfl rfl ?_
  refine V_to (fun _ _ => rfl) ?_
  refine C_seq ?_
  refine C_seq ?_
  refine C_region ?_
  refine V_y (Y_move rfl) rfl rfl rfl ?_
  refine V_y (Y_lenSl h_s rfl Tryd.underlying35 rfl) rfl rfl rfl ?_
  refine V_y (Y_move rfl) rfl rfl rfl ?_
  refine V_to (fun _ _ => rfl) ?_
  have hn23 := Sl.le h_s
  obtain ⟨o3, ho3, hm⟩ := Option.bind_eq_some_iff.1 hm
  refine C_cutG (ι := (Unit × (Nat → Prop))) (fun ⟨s4, A10⟩ => []) (fun ⟨s4, A10⟩ => fun w' => o3 = .fin s4 ∧ Hp w.heap.size A10 w' ([]) ∧ Tr w.heap.size A w A10 w') ?_ ?_
  · refine C_block ?_
    refine C_range ho3 (fun k6 _ a w' => ∃ i : (Nat → Prop), Has ⟨19, [], none⟩ a ([(0, v_s), (1, .func (.func f_f) f_a f_c), (7, .int .i64 (s.length : Int)), (8, .int .i64 (k6 : Int))]) ∧ Hp w.heap.size i w' ([]) ∧ Tr w.heap.size A w i w') (fun a ha => ⟨A, ha.sub ⟨rfl, rfl, rfl, rfl, trivial⟩, ⟨hH, Tr.refl hA⟩⟩) ?_
    rintro K k6 _ a w13 ⟨A14, ha39, hH15, hr5⟩ hle19 K22 h21
    refine C_of ?_ ha39
    replace h_s := Sl.tr h_s hr5
    replace hK := Tr.trans hK hr5
    replace hB := Nat.le_trans hB hr5.ex.size
    replace hA := hr5.new
    replace hH : Hp w.heap.size A14 w13 ([]) := hH15
    refine C_seq (C_region (V_y (Y_lss rfl rfl) rfl rfl rfl (V_to (fun _ _ => rfl) ?_)))
    refine C_seq ?_
    refine C_cond rfl (fun hc24 => ?_) (fun hc24 => ?_)
    · have hlt20 := lt_of_dec hc24
      obtain ⟨x16, h17, h18⟩ := K22 hlt20
      refine C_skip_to (fun _ _ => rfl) ?_
      refine C_seq ?_
      refine C_block ?_
      refine C_seq ?_
      refine C_region ?_
      refine V_y (Y_move rfl) rfl rfl rfl ?_
      refine V_y (Y_assign rfl) rfl rfl rfl ?_
      refine V_to (fun _ _ => rfl) ?_
      refine C_seq ?_
      refine C_region ?_
      refine V_y (Y_move rfl) rfl rfl rfl ?_
      refine V_y (Y_move rfl) rfl rfl rfl ?_
      refine V_y (Y_move rfl) rfl rfl rfl ?_
      obtain ⟨x25, hx25, h17⟩ := Option.bind_eq_some_iff.1 h17
      refine V_indexAddr h_s hx25 Tryd.underlying35 Tryd.sizeOf76 rfl rfl rfl ?_
      intro b26 o27 h28
      obtain ⟨v29, h31, h30⟩ := El_route_Work h28
      refine V_y (Y_loadA h31 Tryd.isAgg76 Tryd.sizeOf76 rfl) rfl rfl rfl ?_
      obtain ⟨x32, hx32, h17⟩ := Option.bind_eq_some_iff.1 h17
      refine V_call f_call rfl rfl rfl rfl (f_spec w13 _ hK hA x25 v29 h30 _ hx32) ?_
      rintro _ w33 ⟨rfl, hk34⟩
      have ht35 := Kp.tr hk34 hA hB
      replace hH := Hp.kp hH hk34
      replace h_s := Sl.tr h_s ht35
      replace h28 := El.tr h28 ht35
      replace h30 := Sl.tr h30 ht35
      replace hK := Tr.trans hK ht35
      replace hr5 := Tr.trans hr5 ht35
      replace hB := Nat.le_trans hB ht35.ex.size
      replace hA := ht35.new
      refine V_to (fun _ _ => rfl) ?_
      refine C_cond rfl (fun hc36 => ?_) (fun hc36 => ?_)
      · rw [if_pos hc36] at h17
        refine C_seq ?_
        refine C_region ?_
        refine V_y (Y_move rfl) rfl rfl rfl ?_
        refine V_y (Y_assign rfl) rfl rfl rfl ?_
        refine V_to (fun _ _ => rfl) ?_
        obtain rfl := Option.some.inj h17
        obtain rfl := (h18 : Lp.rt _ = _)
        rw [Lp.andThen_rt] at hm
        obtain rfl := Option.some.inj hm
        refine C_ret ?_
        try simp only [↓inBlock_ret, ↓then_ret]
        exact retQ rfl (Res.one Tryd.results46 rfl) ⟨rfl, hK.kp⟩
      · rw [if_neg (nt hc36)] at h17
        refine C_skip_to (fun _ _ => rfl) ?_
        refine C_region ?_
        refine V_y (Y_addI rfl rfl) rfl rfl rfl ?_
        refine V_y (Y_move rfl) rfl rfl rfl ?_
        obtain rfl := Option.some.inj h17
        refine V_end (fun a ha37 => ?_)
        exact ⟨(), hlt20, h18, ⟨A14, ha37.sub ⟨rfl, rfl, rfl, (congrArg (fun z => some (Value.int .i64 z)) (w64_succ hlt20 hn23)), trivial⟩, ⟨hH, hr5⟩⟩⟩
    · refine C_exit (fun a ha38 => ?_)
      exact ⟨((), A14), ha38.sub trivial, ⟨(h21 (eq_of_dec hle19 hc24)).symm, hH, hr5⟩⟩
  rintro ⟨s4, A10⟩ w7 ⟨rfl, hH11, hk8⟩ a ha9
  rw [Lp.andThen_fin] at hm
  replace hK := Tr.trans hK hk8
  replace hB := Nat.le_trans hB hk8.ex.size
  replace hA := hk8.new
  replace hH : Hp w.heap.size A10 w7 ([]) := hH11
  refine C_at (n := ⟨19, [], none⟩) (fun _ _ => rfl) ?_ ha9
  refine C_seq ?_
  refine C_region ?_
  refine V_y (Y_assign rfl) rfl rfl rfl ?_
  refine V_to (fun _ _ => rfl) ?_
  obtain rfl := Option.some.inj hm
  refine C_ret ?_
  try simp only [↓inBlock_ret, ↓then_ret]
  exact retQ rfl (Res.one Tryd.results46 rfl) ⟨rfl, hK.kp⟩

set_option maxRecDepth 4000 in
set_option maxHeartbeats 4000000 in
theorem slices_ContainsFunc_Lroute_Work_route_Work_c (w : World) {A : Nat → Prop} (hA : ∀ b, w.heap.size ≤ b → A b) (s : (List route_Work)) (v_s : Value) (h_s : Sl A w v_s s) (f : route_Work → Option Bool) (f_f : FuncId) (f_a f_c : Array Value) (f_call : ∀ (args : Array Value) (w : World), (callFunc f_f args).run Tryd.prog w = .ok (.enter f_f args) w) (f_spec : ∀ (w1 : World) (A1 : Nat → Prop), Tr w.heap.size A w A1 w1 → (∀ b, w1.heap.size ≤ b → A1 b) → ∀ (y0 : route_Work) (v1 : Value) (h2 : Sl A1 w1 v1 y0.needs) (r : Bool), f y0 = some r → Ret Tryd.prog f_f (f_a ++ #[.agg #[.int .i64 y0.ticket, .int .i64 y0.weight, .int .i64 y0.urgency, .int .i64 y0.since, .int .i64 y0.former, v1]] ++ f_c) w1 fun v w' => v = .bool r ∧ Kp w1 w') {r : Bool} (hm : slices_ContainsFunc_Lroute_Work_route_Work s f = some r) : Ret Tryd.prog 33 #[v_s, .func (.func f_f) f_a f_c] w fun v w' => v = .bool r ∧ Kp w w' := by
  unfold slices_ContainsFunc_Lroute_Work_route_Work at hm
  refine enter Tryd.func33 rfl Tryd.ntmps33 rfl ?_
  have hA0 := hA
  have hB := Nat.le_refl w.heap.size
  have hK : Tr w.heap.size A w A w := Tr.refl hA
  have hH : Hp w.heap.size A w [] := Hp.nil
  refine C_seq ?_
  refine C_region ?_
  refine V_y (Y_assign rfl) rfl rfl rfl ?_
  refine V_to (fun _ _ => rfl) ?_
  refine C_seq ?_
  refine C_region ?_
  refine V_y (Y_move rfl) rfl rfl rfl ?_
  refine V_y (Y_move rfl) rfl rfl rfl ?_
  obtain ⟨x3, hx3, hm⟩ := Option.bind_eq_some_iff.1 hm
  refine V_call Tryd.call46 rfl rfl rfl rfl (slices_IndexFunc_Lroute_Work_route_Work_c w hA s v_s h_s f f_f f_a f_c f_call (fun w1 A1 ht => f_spec w1 A1 (Tr.trans hK ht)) hx3) ?_
  rintro _ w4 ⟨rfl, hk5⟩
  have ht6 := Kp.tr hk5 hA hB
  replace hH := Hp.kp hH hk5
  replace h_s := Sl.tr h_s ht6
  replace hK := Tr.trans hK ht6
  replace hB := Nat.le_trans hB ht6.ex.size
  replace hA := ht6.new
  refine V_y (Y_geq rfl rfl) rfl rfl rfl ?_
  refine V_y (Y_assign rfl) rfl rfl rfl ?_
  refine V_to (fun _ _ => rfl) ?_
  obtain rfl := Option.some.inj hm
  refine C_ret ?_
  try simp only [↓inBlock_ret, ↓then_ret]
  exact retQ rfl (Res.one Tryd.results33 rfl) ⟨rfl, hK.kp⟩

set_option maxRecDepth 4000 in
set_option maxHeartbeats 4000000 in
theorem route_CheckWork_1_c (w : World) {A : Nat → Prop} (hA : ∀ b, w.heap.size ≤ b → A b) (x : route_Work) (v_x : Value) (h_x : Sl A w v_x x.needs) (p1 : route_Work) (b_p1 : Nat) (h_p1 : El A w b_p1 0 p1) {r : Bool} (hm : route_CheckWork_1 x p1 = some r) : Ret Tryd.prog 34 #[.agg #[.int .i64 x.ticket, .int .i64 x.weight, .int .i64 x.urgency, .int .i64 x.since, .int .i64 x.former, v_x], .pointer (some ⟨b_p1, 0, none⟩)] w fun v w' => v = .bool r ∧ Kp w w' := by
  unfold route_CheckWork_1 at hm
  refine enter Tryd.func34 rfl Tryd.ntmps34 rfl ?_
  have hA0 := hA
  have hB := Nat.le_refl w.heap.size
  have hK : Tr w.heap.size A w A w := Tr.refl hA
  have hH : Hp w.heap.size A w [] := Hp.nil
  refine C_seq ?_
  refine C_region ?_
  refine V_box rfl rfl ?_
  intro b3 w4 h5
  have hk7 := h5.kp
  have h6 : El (α := route_Work) A w4 b3 0 x := h5.el hA ⟨[.int .i64 x.ticket], _, rfl, rfl, ⟨[.int .i64 x.weight], _, rfl, rfl, ⟨[.int .i64 x.urgency], _, rfl, rfl, ⟨[.int .i64 x.since], _, rfl, rfl, ⟨[.int .i64 x.former], _, rfl, rfl, ⟨_, rfl, h_x⟩⟩⟩⟩⟩⟩
  have ht8 := Kp.tr hk7 hA hB
  replace hH := Hp.kp hH hk7
  replace h_x := Sl.tr h_x ht8
  replace h_p1 := El.tr h_p1 ht8
  replace hK := Tr.trans hK ht8
  replace hB := Nat.le_trans hB ht8.ex.size
  replace hA := ht8.new
  refine V_y (Y_assign rfl) rfl rfl rfl ?_
  refine V_to (fun _ _ => rfl) ?_
  refine C_seq ?_
  refine C_region ?_
  have h9 := El_route_Work_0 h6
  refine V_y (Y_fieldAddr Tryd.underlying76 rfl Tryd.sizeOf3 (by decide) rfl) rfl rfl rfl ?_
  refine V_y (Y_load (El.int h9) Tryd.isAgg3 rfl) rfl rfl rfl ?_
  have h10 := El_route_Work_0 h_p1
  refine V_y (Y_fieldAddr Tryd.underlying76 rfl Tryd.sizeOf3 (by decide) rfl) rfl rfl rfl ?_
  refine V_y (Y_load (El.int h10) Tryd.isAgg3 rfl) rfl rfl rfl ?_
  refine V_y (Y_eql rfl rfl) rfl rfl rfl ?_
  refine V_y (Y_assign rfl) rfl rfl rfl ?_
  refine V_to (fun _ _ => rfl) ?_
  obtain rfl := Option.some.inj hm
  refine C_ret ?_
  try simp only [↓inBlock_ret, ↓then_ret]
  exact retQ rfl (Res.one Tryd.results34 rfl) ⟨rfl, hK.kp⟩

set_option maxRecDepth 4000 in
set_option maxHeartbeats 4000000 in
theorem route_CheckWork_c (w : World) {A : Nat → Prop} (hA : ∀ b, w.heap.size ≤ b → A b) (l : (List route_Work)) (v_l : Value) (h_l : Sl A w v_l l) {r : Int} (hm : route_CheckWork l = some r) : Ret Tryd.prog 13 #[v_l] w fun v w' => v = .int .i64 r ∧ Kp w w' := by
  unfold route_CheckWork at hm
  refine enter Tryd.func13 rfl Tryd.ntmps13 rfl ?_
  have hA0 := hA
  have hB := Nat.le_refl w.heap.size
  have hK : Tr w.heap.size A w A w := Tr.refl hA
  have hH : Hp w.heap.size A w [] := Hp.nil
  refine C_seq ?_
  refine C_region ?_
  refine V_y (Y_assign rfl) rfl rfl rfl ?_
  refine V_to (fun _ _ => rfl) ?_
  refine C_seq ?_
  refine C_seq ?_
  refine C_region ?_
  refine V_y (Y_move rfl) rfl rfl rfl ?_
  refine V_y (Y_lenSl h_l rfl Tryd.underlying35 rfl) rfl rfl rfl ?_
  refine V_y (Y_gtr rfl rfl) rfl rfl rfl ?_
  refine V_to (fun _ _ => rfl) ?_
  refine C_cond rfl (fun hc3 => ?_) (fun hc3 => ?_)
  · rw [if_pos hc3] at hm
    refine C_seq ?_
    refine C_region ?_
    refine V_y (Y_assign rfl) rfl rfl rfl ?_
    refine V_to (fun _ _ => rfl) ?_
    obtain rfl := Option.some.inj hm
    refine C_ret ?_
    try simp only [↓inBlock_ret, ↓then_ret]
    exact retQ rfl (Res.one Tryd.results13 rfl) ⟨rfl, hK.kp⟩
  · rw [if_neg (nt hc3)] at hm
    refine C_skip_to (fun _ _ => rfl) ?_
    refine C_seq ?_
    refine C_seq ?_
    refine C_region ?_
    refine V_y (Y_move rfl) rfl rfl rfl ?_
    refine V_y (Y_lenSl h_l rfl Tryd.underlying35 rfl) rfl rfl rfl ?_
    refine V_y (Y_move rfl) rfl rfl rfl ?_
    refine V_to (fun _ _ => rfl) ?_
    have hn25 := Sl.le h_l
    obtain ⟨o4, ho4, hm⟩ := Option.bind_eq_some_iff.1 hm
    refine C_cutG (ι := (Unit × (Nat → Prop))) (fun ⟨s5, A12⟩ => []) (fun ⟨s5, A12⟩ => fun w' => o4 = .fin s5 ∧ Hp w.heap.size A12 w' ([]) ∧ Tr w.heap.size A w A12 w') ?_ ?_
    · refine C_block ?_
      refine C_range ho4 (fun k7 _ a w' => ∃ i : (Nat → Prop), Has ⟨57, [], none⟩ a ([(0, v_l), (9, v_l), (10, .int .i64 (l.length : Int)), (11, .int .i64 (k7 : Int))]) ∧ Hp w.heap.size i w' ([]) ∧ Tr w.heap.size A w i w') (fun a ha => ⟨A, ha.sub ⟨rfl, rfl, rfl, rfl, trivial⟩, ⟨hH, Tr.refl hA⟩⟩) ?_
      rintro K k7 _ a w15 ⟨A16, ha88, hH17, hr6⟩ hle21 K24 h23
      refine C_of ?_ ha88
      replace h_l := Sl.tr h_l hr6
      replace hK := Tr.trans hK hr6
      replace hB := Nat.le_trans hB hr6.ex.size
      replace hA := hr6.new
      replace hH : Hp w.heap.size A16 w15 ([]) := hH17
      refine C_seq (C_region (V_y (Y_lss rfl rfl) rfl rfl rfl (V_to (fun _ _ => rfl) ?_)))
      refine C_seq ?_
      refine C_cond rfl (fun hc26 => ?_) (fun hc26 => ?_)
      · have hlt22 := lt_of_dec hc26
        obtain ⟨x18, h19, h20⟩ := K24 hlt22
        refine C_skip_to (fun _ _ => rfl) ?_
        refine C_seq ?_
        refine C_block ?_
        refine C_seq ?_
        refine C_region ?_
        refine V_y (Y_move rfl) rfl rfl rfl ?_
        obtain ⟨x27, hx27, h19⟩ := Option.bind_eq_some_iff.1 h19
        refine V_indexAddr h_l hx27 Tryd.underlying35 Tryd.sizeOf76 rfl rfl rfl ?_
        intro b28 o29 h30
        obtain ⟨v31, h33, h32⟩ := El_route_Work h30
        refine V_y (Y_loadA h33 Tryd.isAgg76 Tryd.sizeOf76 rfl) rfl rfl rfl ?_
        refine V_alloc Tryd.zeroValue76 rfl ?_
        intro b34 w35 h36
        refine V_y (Y_assign rfl) rfl rfl rfl ?_
        have h41 : (v31).oneCell' = true := by obtain ⟨_, _, e, _⟩ := Sl.form h32; rw [e]; rfl
        refine V_storeNew h36 Tryd.sizeOf76 rfl rfl rfl rfl (by exact (List.forall_mem_cons.2 ⟨rfl, (List.forall_mem_cons.2 ⟨rfl, (List.forall_mem_cons.2 ⟨rfl, (List.forall_mem_cons.2 ⟨rfl, (List.forall_mem_cons.2 ⟨rfl, (List.forall_mem_cons.2 ⟨h41, (fun _ h => nomatch h)⟩)⟩)⟩)⟩)⟩)⟩)) ?_
        intro w37 h38
        have hk43 := h38.kp
        have h42 : El (α := route_Work) A16 w37 b34 0 x27 := h38.el hA ⟨[.int .i64 x27.ticket], _, rfl, rfl, ⟨[.int .i64 x27.weight], _, rfl, rfl, ⟨[.int .i64 x27.urgency], _, rfl, rfl, ⟨[.int .i64 x27.since], _, rfl, rfl, ⟨[.int .i64 x27.former], _, rfl, rfl, ⟨_, rfl, h32⟩⟩⟩⟩⟩⟩
        have ht44 := Kp.tr hk43 hA hB
        replace hH := Hp.kp hH hk43
        replace h_l := Sl.tr h_l ht44
        replace h30 := El.tr h30 ht44
        replace h32 := Sl.tr h32 ht44
        replace hK := Tr.trans hK ht44
        replace hr6 := Tr.trans hr6 ht44
        replace hB := Nat.le_trans hB ht44.ex.size
        replace hA := ht44.new
        refine V_to (fun _ _ => rfl) ?_
        refine C_seq ?_
        refine C_block ?_
        refine C_seq ?_
        refine C_region ?_
        have h45 := El_route_Work_0 h42
        refine V_y (Y_fieldAddr Tryd.underlying76 rfl Tryd.sizeOf3 (by decide) rfl) rfl rfl rfl ?_
        refine V_y (Y_load (El.int h45) Tryd.isAgg3 rfl) rfl rfl rfl ?_
        refine V_call Tryd.call30 rfl rfl rfl rfl (route_within_c w37 x27.ticket 1 400) ?_
        rintro _ _ ⟨rfl, rfl⟩
        refine V_y (Y_not rfl) rfl rfl rfl ?_
        refine V_y (Y_assign rfl) rfl rfl rfl ?_
        refine V_to (fun _ _ => rfl) ?_
        refine C_cond rfl (fun hc46 => ?_) (fun hc46 => ?_)
        · rw [if_pos hc46] at h19
          refine C_seq ?_
          refine C_region ?_
          refine V_y (Y_assign rfl) rfl rfl rfl ?_
          refine V_to (fun _ _ => rfl) ?_
          obtain rfl := Option.some.inj h19
          obtain rfl := (h20 : Lp.rt _ = _)
          rw [Lp.andThen_rt] at hm
          obtain rfl := Option.some.inj hm
          refine C_ret ?_
          try simp only [↓inBlock_ret, ↓then_ret]
          exact retQ rfl (Res.one Tryd.results13 rfl) ⟨rfl, hK.kp⟩
        · rw [if_neg (nt hc46)] at h19
          refine C_seq ?_
          refine C_region ?_
          refine V_y (Y_move rfl) rfl rfl rfl ?_
          refine V_y (Y_move rfl) rfl rfl rfl ?_
          obtain ⟨x47, hx47, h19⟩ := Option.bind_eq_some_iff.1 h19
          obtain ⟨v48, h49, h49y⟩ := sliceL_val hx47 h_l
          refine V_y (Y_sliceLH h49y Tryd.underlying35 Tryd.sizeOf76 rfl rfl) rfl rfl rfl ?_
          refine V_y (Y_makeFunc rfl rfl) rfl rfl rfl ?_
          obtain ⟨x51, hx51, h19⟩ := Option.bind_eq_some_iff.1 h19
          refine V_call Tryd.call33 rfl rfl rfl rfl (slices_ContainsFunc_Lroute_Work_route_Work_c w37 hA x47 v48 h49 (fun y61 => route_CheckWork_1 y61 x27) 34 #[] #[.pointer (some ⟨b34, 0, none⟩)] Tryd.call34 (fun w57 A58 ht59 h60 y52 v53 h54 r55 h56 => (route_CheckWork_1_c w57 h60 y52 v53 h54 x27 b34 (El.tr h42 ht59) h56).mono (fun _ _ h => ⟨h.1, h.2⟩)) hx51) ?_
          rintro _ w62 ⟨rfl, hk63⟩
          have ht64 := Kp.tr hk63 hA hB
          replace hH := Hp.kp hH hk63
          replace h_l := Sl.tr h_l ht64
          replace h42 := El.tr h42 ht64
          replace h49 := Sl.tr h49 ht64
          replace hK := Tr.trans hK ht64
          replace hr6 := Tr.trans hr6 ht64
          replace hB := Nat.le_trans hB ht64.ex.size
          replace hA := ht64.new
          refine V_y (Y_assign rfl) rfl rfl rfl ?_
          refine V_to (fun _ _ => rfl) ?_
          refine C_cond rfl (fun hc65 => ?_) (fun hc65 => ?_)
          · rw [if_pos hc65] at h19
            refine C_seq ?_
            refine C_region ?_
            refine V_y (Y_assign rfl) rfl rfl rfl ?_
            refine V_to (fun _ _ => rfl) ?_
            obtain rfl := Option.some.inj h19
            obtain rfl := (h20 : Lp.rt _ = _)
            rw [Lp.andThen_rt] at hm
            obtain rfl := Option.some.inj hm
            refine C_ret ?_
            try simp only [↓inBlock_ret, ↓then_ret]
            exact retQ rfl (Res.one Tryd.results13 rfl) ⟨rfl, hK.kp⟩
          · rw [if_neg (nt hc65)] at h19
            refine C_seq ?_
            refine C_region ?_
            have h66 := El_route_Work_1 h42
            refine V_y (Y_fieldAddr Tryd.underlying76 rfl Tryd.sizeOf3 (by decide) rfl) rfl rfl rfl ?_
            refine V_y (Y_load (El.int h66) Tryd.isAgg3 rfl) rfl rfl rfl ?_
            refine V_call Tryd.call30 rfl rfl rfl rfl (route_within_c w62 x27.weight 1 20) ?_
            rintro _ _ ⟨rfl, rfl⟩
            refine V_y (Y_not rfl) rfl rfl rfl ?_
            refine V_y (Y_move rfl) rfl rfl rfl ?_
            refine V_cut 5 (fun _ : Unit => [(0, v_l), (4, .pointer (some ⟨b34, 0, none⟩)), (9, v_l), (10, .int .i64 (l.length : Int)), (11, .int .i64 (k7 : Int)), (37, .bool ((!(route_within x27.weight 1 20)) || (!(route_within x27.urgency 0 9))))]) (fun _ w' => w62 = w') ?_ ?_
            · simp only [List.take, List.drop]
              rcases Bool.eq_false_or_eq_true (!(route_within x27.weight 1 20)) with hc67 | hc67
              · refine V_gn rfl rfl rfl hc67 rfl rfl rfl ?_
                refine V_gn rfl rfl rfl hc67 rfl rfl rfl ?_
                refine V_gn rfl rfl rfl hc67 rfl rfl rfl ?_
                refine V_gn rfl rfl rfl hc67 rfl rfl rfl ?_
                refine V_y (Y_pick_te rfl hc67 rfl) rfl rfl rfl ?_
                exact V_end fun a ha => ⟨(), ha.sub ⟨rfl, rfl, rfl, rfl, rfl, (by rw [hc67]; rfl), trivial⟩, rfl⟩
              · refine V_ge rfl rfl rfl hc67 ?_
                have h69 := El_route_Work_2 h42
                refine V_y (Y_fieldAddr Tryd.underlying76 rfl Tryd.sizeOf3 (by decide) rfl) rfl rfl rfl ?_
                refine V_ge rfl rfl rfl hc67 ?_
                refine V_y (Y_load (El.int h69) Tryd.isAgg3 rfl) rfl rfl rfl ?_
                refine V_ge rfl rfl rfl hc67 ?_
                refine V_call Tryd.call30 rfl rfl rfl rfl (route_within_c w62 x27.urgency 0 9) ?_
                rintro _ _ ⟨rfl, rfl⟩
                refine V_ge rfl rfl rfl hc67 ?_
                refine V_y (Y_not rfl) rfl rfl rfl ?_
                refine V_y (Y_pick_fe rfl hc67 rfl) rfl rfl rfl ?_
                exact V_end fun a ha => ⟨(), ha.sub ⟨rfl, rfl, rfl, rfl, rfl, (by rw [hc67]; rfl), trivial⟩, rfl⟩
            simp only [List.take, List.drop]
            rintro _ _ rfl
            refine V_y (Y_move rfl) rfl rfl rfl ?_
            refine V_cut 5 (fun _ : Unit => [(0, v_l), (4, .pointer (some ⟨b34, 0, none⟩)), (9, v_l), (10, .int .i64 (l.length : Int)), (11, .int .i64 (k7 : Int)), (43, .bool (((!(route_within x27.weight 1 20)) || (!(route_within x27.urgency 0 9))) || (!(route_within x27.since 0 3000000))))]) (fun _ w' => w62 = w') ?_ ?_
            · simp only [List.take, List.drop]
              rcases Bool.eq_false_or_eq_true (((!(route_within x27.weight 1 20)) || (!(route_within x27.urgency 0 9)))) with hc70 | hc70
              · refine V_gn rfl rfl rfl hc70 rfl rfl rfl ?_
                refine V_gn rfl rfl rfl hc70 rfl rfl rfl ?_
                refine V_gn rfl rfl rfl hc70 rfl rfl rfl ?_
                refine V_gn rfl rfl rfl hc70 rfl rfl rfl ?_
                refine V_y (Y_pick_te rfl hc70 rfl) rfl rfl rfl ?_
                exact V_end fun a ha => ⟨(), ha.sub ⟨rfl, rfl, rfl, rfl, rfl, (by rw [hc70]; rfl), trivial⟩, rfl⟩
              · refine V_ge rfl rfl rfl hc70 ?_
                have h72 := El_route_Work_3 h42
                refine V_y (Y_fieldAddr Tryd.underlying76 rfl Tryd.sizeOf3 (by decide) rfl) rfl rfl rfl ?_
                refine V_ge rfl rfl rfl hc70 ?_
                refine V_y (Y_load (El.int h72) Tryd.isAgg3 rfl) rfl rfl rfl ?_
                refine V_ge rfl rfl rfl hc70 ?_
                refine V_call Tryd.call30 rfl rfl rfl rfl (route_within_c w62 x27.since 0 3000000) ?_
                rintro _ _ ⟨rfl, rfl⟩
                refine V_ge rfl rfl rfl hc70 ?_
                refine V_y (Y_not rfl) rfl rfl rfl ?_
                refine V_y (Y_pick_fe rfl hc70 rfl) rfl rfl rfl ?_
                exact V_end fun a ha => ⟨(), ha.sub ⟨rfl, rfl, rfl, rfl, rfl, (by rw [hc70]; rfl), trivial⟩, rfl⟩
            simp only [List.take, List.drop]
            rintro _ _ rfl
            refine V_y (Y_move rfl) rfl rfl rfl ?_
            refine V_cut 5 (fun _ : Unit => [(0, v_l), (4, .pointer (some ⟨b34, 0, none⟩)), (9, v_l), (10, .int .i64 (l.length : Int)), (11, .int .i64 (k7 : Int)), (49, .bool ((((!(route_within x27.weight 1 20)) || (!(route_within x27.urgency 0 9))) || (!(route_within x27.since 0 3000000))) || (!(route_within x27.former 0 40))))]) (fun _ w' => w62 = w') ?_ ?_
            · simp only [List.take, List.drop]
              rcases Bool.eq_false_or_eq_true ((((!(route_within x27.weight 1 20)) || (!(route_within x27.urgency 0 9))) || (!(route_within x27.since 0 3000000)))) with hc73 | hc73
              · refine V_gn rfl rfl rfl hc73 rfl rfl rfl ?_
                refine V_gn rfl rfl rfl hc73 rfl rfl rfl ?_
                refine V_gn rfl rfl rfl hc73 rfl rfl rfl ?_
                refine V_gn rfl rfl rfl hc73 rfl rfl rfl ?_
                refine V_y (Y_pick_te rfl hc73 rfl) rfl rfl rfl ?_
                exact V_end fun a ha => ⟨(), ha.sub ⟨rfl, rfl, rfl, rfl, rfl, (by rw [hc73]; rfl), trivial⟩, rfl⟩
              · refine V_ge rfl rfl rfl hc73 ?_
                have h75 := El_route_Work_4 h42
                refine V_y (Y_fieldAddr Tryd.underlying76 rfl Tryd.sizeOf3 (by decide) rfl) rfl rfl rfl ?_
                refine V_ge rfl rfl rfl hc73 ?_
                refine V_y (Y_load (El.int h75) Tryd.isAgg3 rfl) rfl rfl rfl ?_
                refine V_ge rfl rfl rfl hc73 ?_
                refine V_call Tryd.call30 rfl rfl rfl rfl (route_within_c w62 x27.former 0 40) ?_
                rintro _ _ ⟨rfl, rfl⟩
                refine V_ge rfl rfl rfl hc73 ?_
                refine V_y (Y_not rfl) rfl rfl rfl ?_
                refine V_y (Y_pick_fe rfl hc73 rfl) rfl rfl rfl ?_
                exact V_end fun a ha => ⟨(), ha.sub ⟨rfl, rfl, rfl, rfl, rfl, (by rw [hc73]; rfl), trivial⟩, rfl⟩
            simp only [List.take, List.drop]
            rintro _ _ rfl
            refine V_y (Y_assign rfl) rfl rfl rfl ?_
            refine V_to (fun _ _ => rfl) ?_
            refine C_cond rfl (fun hc76 => ?_) (fun hc76 => ?_)
            · rw [if_pos hc76] at h19
              refine C_seq ?_
              refine C_region ?_
              refine V_y (Y_assign rfl) rfl rfl rfl ?_
              refine V_to (fun _ _ => rfl) ?_
              obtain rfl := Option.some.inj h19
              obtain rfl := (h20 : Lp.rt _ = _)
              rw [Lp.andThen_rt] at hm
              obtain rfl := Option.some.inj hm
              refine C_ret ?_
              try simp only [↓inBlock_ret, ↓then_ret]
              exact retQ rfl (Res.one Tryd.results13 rfl) ⟨rfl, hK.kp⟩
            · rw [if_neg (nt hc76)] at h19
              refine C_skip_to (fun _ _ => rfl) ?_
              refine C_seq ?_
              refine C_region ?_
              have h77 := El_route_Work_5 h42
              refine V_y (Y_fieldAddr Tryd.underlying76 rfl Tryd.sizeOf67 (by decide) rfl) rfl rfl rfl ?_
              obtain ⟨v78, h79, h80⟩ := El.list h77
              refine V_y (Y_load h79 Tryd.isAgg67 rfl) rfl rfl rfl ?_
              obtain ⟨x81, hx81, h19⟩ := Option.bind_eq_some_iff.1 h19
              refine V_call Tryd.call31 rfl rfl rfl rfl (route_checkSkills_c w62 hA x27.needs v78 h80 hx81) ?_
              rintro _ w82 ⟨rfl, hk83⟩
              have ht84 := Kp.tr hk83 hA hB
              replace hH := Hp.kp hH hk83
              replace h_l := Sl.tr h_l ht84
              replace h42 := El.tr h42 ht84
              replace h77 := El.tr h77 ht84
              replace h80 := Sl.tr h80 ht84
              replace hK := Tr.trans hK ht84
              replace hr6 := Tr.trans hr6 ht84
              replace hB := Nat.le_trans hB ht84.ex.size
              replace hA := ht84.new
              refine V_y (Y_assign rfl) rfl rfl rfl ?_
              refine V_to (fun _ _ => rfl) ?_
              refine C_seq ?_
              refine C_region ?_
              refine V_y (Y_move rfl) rfl rfl rfl ?_
              refine V_y (Y_neq rfl rfl) rfl rfl rfl ?_
              refine V_to (fun _ _ => rfl) ?_
              refine C_cond rfl (fun hc85 => ?_) (fun hc85 => ?_)
              · rw [if_pos hc85] at h19
                refine C_seq ?_
                refine C_region ?_
                refine V_y (Y_move rfl) rfl rfl rfl ?_
                refine V_y (Y_assign rfl) rfl rfl rfl ?_
                refine V_to (fun _ _ => rfl) ?_
                obtain rfl := Option.some.inj h19
                obtain rfl := (h20 : Lp.rt _ = _)
                rw [Lp.andThen_rt] at hm
                obtain rfl := Option.some.inj hm
                refine C_ret ?_
                try simp only [↓inBlock_ret, ↓then_ret]
                exact retQ rfl (Res.one Tryd.results13 rfl) ⟨rfl, hK.kp⟩
              · rw [if_neg (nt hc85)] at h19
                refine C_skip_to (fun _ _ => rfl) ?_
                refine C_region ?_
                refine V_y (Y_addI rfl rfl) rfl rfl rfl ?_
                refine V_y (Y_move rfl) rfl rfl rfl ?_
                obtain rfl := Option.some.inj h19
                refine V_end (fun a ha86 => ?_)
                exact ⟨(), hlt22, h20, ⟨A16, ha86.sub ⟨rfl, rfl, rfl, (congrArg (fun z => some (Value.int .i64 z)) (w64_succ hlt22 hn25)), trivial⟩, ⟨hH, hr6⟩⟩⟩
      · refine C_exit (fun a ha87 => ?_)
        exact ⟨((), A16), ha87.sub trivial, ⟨(h23 (eq_of_dec hle21 hc26)).symm, hH, hr6⟩⟩
    rintro ⟨s5, A12⟩ w9 ⟨rfl, hH13, hk10⟩ a ha11
    rw [Lp.andThen_fin] at hm
    replace hK := Tr.trans hK hk10
    replace hB := Nat.le_trans hB hk10.ex.size
    replace hA := hk10.new
    replace hH : Hp w.heap.size A12 w9 ([]) := hH13
    refine C_at (n := ⟨57, [], none⟩) (fun _ _ => rfl) ?_ ha11
    refine C_seq ?_
    refine C_region ?_
    refine V_y (Y_assign rfl) rfl rfl rfl ?_
    refine V_to (fun _ _ => rfl) ?_
    obtain rfl := Option.some.inj hm
    refine C_ret ?_
    try simp only [↓inBlock_ret, ↓then_ret]
    exact retQ rfl (Res.one Tryd.results13 rfl) ⟨rfl, hK.kp⟩

set_option maxRecDepth 4000 in
set_option maxHeartbeats 4000000 in
theorem portref2_WorkFault_1_c (w : World) {A : Nat → Prop} (hA : ∀ b, w.heap.size ≤ b → A b) (x : route_Work) (v_x : Value) (h_x : Sl A w v_x x.needs) (p1 : route_Work) (b_p1 : Nat) (h_p1 : El A w b_p1 0 p1) {r : Bool} (hm : portref2_WorkFault_1 x p1 = some r) : Ret Tryd.prog 35 #[.agg #[.int .i64 x.ticket, .int .i64 x.weight, .int .i64 x.urgency, .int .i64 x.since, .int .i64 x.former, v_x], .pointer (some ⟨b_p1, 0, none⟩)] w fun v w' => v = .bool r ∧ Kp w w' := by
  unfold portref2_WorkFault_1 at hm
  refine enter Tryd.func35 rfl Tryd.ntmps35 rfl ?_
  have hA0 := hA
  have hB := Nat.le_refl w.heap.size
  have hK : Tr w.heap.size A w A w := Tr.refl hA
  have hH : Hp w.heap.size A w [] := Hp.nil
  refine C_seq ?_
  refine C_region ?_
  refine V_box rfl rfl ?_
  intro b3 w4 h5
  have hk7 := h5.kp
  have h6 : El (α := route_Work) A w4 b3 0 x := h5.el hA ⟨[.int .i64 x.ticket], _, rfl, rfl, ⟨[.int .i64 x.weight], _, rfl, rfl, ⟨[.int .i64 x.urgency], _, rfl, rfl, ⟨[.int .i64 x.since], _, rfl, rfl, ⟨[.int .i64 x.former], _, rfl, rfl, ⟨_, rfl, h_x⟩⟩⟩⟩⟩⟩
  have ht8 := Kp.tr hk7 hA hB
  replace hH := Hp.kp hH hk7
  replace h_x := Sl.tr h_x ht8
  replace h_p1 := El.tr h_p1 ht8
  replace hK := Tr.trans hK ht8
  replace hB := Nat.le_trans hB ht8.ex.size
  replace hA := ht8.new
  refine V_y (Y_assign rfl) rfl rfl rfl ?_
  refine V_to (fun _ _ => rfl) ?_
  refine C_seq ?_
  refine C_region ?_
  have h9 := El_route_Work_0 h6
  refine V_y (Y_fieldAddr Tryd.underlying76 rfl Tryd.sizeOf3 (by decide) rfl) rfl rfl rfl ?_
  refine V_y (Y_load (El.int h9) Tryd.isAgg3 rfl) rfl rfl rfl ?_
  have h10 := El_route_Work_0 h_p1
  refine V_y (Y_fieldAddr Tryd.underlying76 rfl Tryd.sizeOf3 (by decide) rfl) rfl rfl rfl ?_
  refine V_y (Y_load (El.int h10) Tryd.isAgg3 rfl) rfl rfl rfl ?_
  refine V_y (Y_eql rfl rfl) rfl rfl rfl ?_
  refine V_y (Y_assign rfl) rfl rfl rfl ?_
  refine V_to (fun _ _ => rfl) ?_
  obtain rfl := Option.some.inj hm
  refine C_ret ?_
  try simp only [↓inBlock_ret, ↓then_ret]
  exact retQ rfl (Res.one Tryd.results35 rfl) ⟨rfl, hK.kp⟩

set_option maxRecDepth 4000 in
set_option maxHeartbeats 4000000 in
theorem portref2_IsMoment_c (w : World) (m : Int) : Ret Tryd.prog 36 #[.int .i64 m] w fun v w' => v = .bool (portref2_IsMoment m) ∧ w = w' := by
  generalize hm : portref2_IsMoment m = r
  unfold portref2_IsMoment at hm
  refine enter Tryd.func36 rfl Tryd.ntmps36 rfl ?_
  refine C_seq ?_
  refine C_region ?_
  refine V_y (Y_assign rfl) rfl rfl rfl ?_
  refine V_to (fun _ _ => rfl) ?_
  refine C_seq ?_
  refine C_region ?_
  refine V_y (Y_move rfl) rfl rfl rfl ?_
  refine V_y (Y_geq rfl rfl) rfl rfl rfl ?_
  refine V_y (Y_move rfl) rfl rfl rfl ?_
  refine V_cut 3 (fun _ : Unit => [(8, .bool ((decide ((0 : Int) ≤ m)) && (decide (m ≤ 3000000))))]) (fun _ w' => w = w') ?_ ?_
  · simp only [List.take, List.drop]
    rcases Bool.eq_false_or_eq_true (decide ((0 : Int) ≤ m)) with hc1 | hc1
    · refine V_ge rfl rfl rfl hc1 ?_
      refine V_y (Y_move rfl) rfl rfl rfl ?_
      refine V_ge rfl rfl rfl hc1 ?_
      refine V_y (Y_leq rfl rfl) rfl rfl rfl ?_
      refine V_y (Y_pick_te rfl hc1 rfl) rfl rfl rfl ?_
      exact V_end fun a ha => ⟨(), ha.sub ⟨(by rw [hc1]; rfl), trivial⟩, rfl⟩
    · refine V_gn rfl rfl rfl hc1 rfl rfl rfl ?_
      refine V_gn rfl rfl rfl hc1 rfl rfl rfl ?_
      refine V_y (Y_pick_fe rfl hc1 rfl) rfl rfl rfl ?_
      exact V_end fun a ha => ⟨(), ha.sub ⟨(by rw [hc1]; rfl), trivial⟩, rfl⟩
  simp only [List.take, List.drop]
  rintro _ _ rfl
  refine V_y (Y_assign rfl) rfl rfl rfl ?_
  refine V_to (fun _ _ => rfl) ?_
  obtain rfl := hm
  refine C_ret ?_
  try simp only [↓inBlock_ret, ↓then_ret]
  exact retQ rfl (Res.one Tryd.results36 rfl) ⟨rfl, rfl⟩

set_option maxRecDepth 4000 in
set_option maxHeartbeats 4000000 in
theorem portref2_WorkFault_c (w : World) {A : Nat → Prop} (hA : ∀ b, w.heap.size ≤ b → A b) (l : (List route_Work)) (v_l : Value) (h_l : Sl A w v_l l) {r : Int} (hm : portref2_WorkFault l = some r) : Ret Tryd.prog 14 #[v_l] w fun v w' => v = .int .i64 r ∧ Kp w w' := by
  unfold portref2_WorkFault at hm
  refine enter Tryd.func14 rfl Tryd.ntmps14 rfl ?_
  have hA0 := hA
  have hB := Nat.le_refl w.heap.size
  have hK : Tr w.heap.size A w A w := Tr.refl hA
  have hH : Hp w.heap.size A w [] := Hp.nil
  refine C_seq ?_
  refine C_region ?_
  refine V_y (Y_assign rfl) rfl rfl rfl ?_
  refine V_to (fun _ _ => rfl) ?_
  refine C_seq ?_
  refine C_seq ?_
  refine C_region ?_
  refine V_y (Y_move rfl) rfl rfl rfl ?_
  refine V_y (Y_lenSl h_l rfl Tryd.underlying35 rfl) rfl rfl rfl ?_
  refine V_y (Y_gtr rfl rfl) rfl rfl rfl ?_
  refine V_to (fun _ _ => rfl) ?_
  refine C_cond rfl (fun hc3 => ?_) (fun hc3 => ?_)
  · rw [if_pos hc3] at hm
    refine C_seq ?_
    refine C_region ?_
    refine V_y (Y_assign rfl) rfl rfl rfl ?_
    refine V_to (fun _ _ => rfl) ?_
    obtain rfl := Option.some.inj hm
    refine C_ret ?_
    try simp only [↓inBlock_ret, ↓then_ret]
    exact retQ rfl (Res.one Tryd.results14 rfl) ⟨rfl, hK.kp⟩
  · rw [if_neg (nt hc3)] at hm
    refine C_skip_to (fun _ _ => rfl) ?_
    refine C_seq ?_
    refine C_seq ?_
    refine C_region ?_
    refine V_y (Y_move rfl) rfl rfl rfl ?_
    refine V_y (Y_lenSl h_l rfl Tryd.underlying35 rfl) rfl rfl rfl ?_
    refine V_y (Y_move rfl) rfl rfl rfl ?_
    refine V_to (fun _ _ => rfl) ?_
    have hn25 := Sl.le h_l
    obtain ⟨o4, ho4, hm⟩ := Option.bind_eq_some_iff.1 hm
    refine C_cutG (ι := (Unit × (Nat → Prop))) (fun ⟨s5, A12⟩ => []) (fun ⟨s5, A12⟩ => fun w' => o4 = .fin s5 ∧ Hp w.heap.size A12 w' ([]) ∧ Tr w.heap.size A w A12 w') ?_ ?_
    · refine C_block ?_
      refine C_range ho4 (fun k7 _ a w' => ∃ i : (Nat → Prop), Has ⟨73, [], none⟩ a ([(0, v_l), (9, v_l), (10, .int .i64 (l.length : Int)), (11, .int .i64 (k7 : Int))]) ∧ Hp w.heap.size i w' ([]) ∧ Tr w.heap.size A w i w') (fun a ha => ⟨A, ha.sub ⟨rfl, rfl, rfl, rfl, trivial⟩, ⟨hH, Tr.refl hA⟩⟩) ?_
      rintro K k7 _ a w15 ⟨A16, ha100, hH17, hr6⟩ hle21 K24 h23
      refine C_of ?_ ha100
      replace h_l := Sl.tr h_l hr6
      replace hK := Tr.trans hK hr6
      replace hB := Nat.le_trans hB hr6.ex.size
      replace hA := hr6.new
      replace hH : Hp w.heap.size A16 w15 ([]) := hH17
      refine C_seq (C_region (V_y (Y_lss rfl rfl) rfl rfl rfl (V_to (fun _ _ => rfl) ?_)))
      refine C_seq ?_
      refine C_cond rfl (fun hc26 => ?_) (fun hc26 => ?_)
      · have hlt22 := lt_of_dec hc26
        obtain ⟨x18, h19, h20⟩ := K24 hlt22
        refine C_skip_to (fun _ _ => rfl) ?_
        refine C_seq ?_
        refine C_block ?_
        refine C_seq ?_
        refine C_region ?_
        refine V_y (Y_move rfl) rfl rfl rfl ?_
        obtain ⟨x27, hx27, h19⟩ := Option.bind_eq_some_iff.1 h19
        refine V_indexAddr h_l hx27 Tryd.underlying35 Tryd.sizeOf76 rfl rfl rfl ?_
        intro b28 o29 h30
        obtain ⟨v31, h33, h32⟩ := El_route_Work h30
        refine V_y (Y_loadA h33 Tryd.isAgg76 Tryd.sizeOf76 rfl) rfl rfl rfl ?_
        refine V_alloc Tryd.zeroValue76 rfl ?_
        intro b34 w35 h36
        refine V_y (Y_assign rfl) rfl rfl rfl ?_
        have h41 : (v31).oneCell' = true := by obtain ⟨_, _, e, _⟩ := Sl.form h32; rw [e]; rfl
        refine V_storeNew h36 Tryd.sizeOf76 rfl rfl rfl rfl (by exact (List.forall_mem_cons.2 ⟨rfl, (List.forall_mem_cons.2 ⟨rfl, (List.forall_mem_cons.2 ⟨rfl, (List.forall_mem_cons.2 ⟨rfl, (List.forall_mem_cons.2 ⟨rfl, (List.forall_mem_cons.2 ⟨h41, (fun _ h => nomatch h)⟩)⟩)⟩)⟩)⟩)⟩)) ?_
        intro w37 h38
        have hk43 := h38.kp
        have h42 : El (α := route_Work) A16 w37 b34 0 x27 := h38.el hA ⟨[.int .i64 x27.ticket], _, rfl, rfl, ⟨[.int .i64 x27.weight], _, rfl, rfl, ⟨[.int .i64 x27.urgency], _, rfl, rfl, ⟨[.int .i64 x27.since], _, rfl, rfl, ⟨[.int .i64 x27.former], _, rfl, rfl, ⟨_, rfl, h32⟩⟩⟩⟩⟩⟩
        have ht44 := Kp.tr hk43 hA hB
        replace hH := Hp.kp hH hk43
        replace h_l := Sl.tr h_l ht44
        replace h30 := El.tr h30 ht44
        replace h32 := Sl.tr h32 ht44
        replace hK := Tr.trans hK ht44
        replace hr6 := Tr.trans hr6 ht44
        replace hB := Nat.le_trans hB ht44.ex.size
        replace hA := ht44.new
        refine V_to (fun _ _ => rfl) ?_
        refine C_seq ?_
        refine C_block ?_
        refine C_seq ?_
        refine C_region ?_
        have h45 := El_route_Work_0 h42
        refine V_y (Y_fieldAddr Tryd.underlying76 rfl Tryd.sizeOf3 (by decide) rfl) rfl rfl rfl ?_
        refine V_y (Y_load (El.int h45) Tryd.isAgg3 rfl) rfl rfl rfl ?_
        refine V_y (Y_lss rfl rfl) rfl rfl rfl ?_
        refine V_y (Y_move rfl) rfl rfl rfl ?_
        refine V_cut 4 (fun _ : Unit => [(0, v_l), (3, .int .i64 (k7 : Int)), (4, .pointer (some ⟨b34, 0, none⟩)), (9, v_l), (10, .int .i64 (l.length : Int)), (11, .int .i64 (k7 : Int)), (24, .bool ((decide (x27.ticket < 1)) || (decide ((400 : Int) < x27.ticket))))]) (fun _ w' => w37 = w') ?_ ?_
        · simp only [List.take, List.drop]
          rcases Bool.eq_false_or_eq_true (decide (x27.ticket < 1)) with hc46 | hc46
          · refine V_gn rfl rfl rfl hc46 rfl rfl rfl ?_
            refine V_gn rfl rfl rfl hc46 rfl rfl rfl ?_
            refine V_gn rfl rfl rfl hc46 rfl rfl rfl ?_
            refine V_y (Y_pick_te rfl hc46 rfl) rfl rfl rfl ?_
            exact V_end fun a ha => ⟨(), ha.sub ⟨rfl, rfl, rfl, rfl, rfl, rfl, (by rw [hc46]; rfl), trivial⟩, rfl⟩
          · refine V_ge rfl rfl rfl hc46 ?_
            have h48 := El_route_Work_0 h42
            refine V_y (Y_fieldAddr Tryd.underlying76 rfl Tryd.sizeOf3 (by decide) rfl) rfl rfl rfl ?_
            refine V_ge rfl rfl rfl hc46 ?_
            refine V_y (Y_load (El.int h48) Tryd.isAgg3 rfl) rfl rfl rfl ?_
            refine V_ge rfl rfl rfl hc46 ?_
            refine V_y (Y_gtr rfl rfl) rfl rfl rfl ?_
            refine V_y (Y_pick_fe rfl hc46 rfl) rfl rfl rfl ?_
            exact V_end fun a ha => ⟨(), ha.sub ⟨rfl, rfl, rfl, rfl, rfl, rfl, (by rw [hc46]; rfl), trivial⟩, rfl⟩
        simp only [List.take, List.drop]
        rintro _ _ rfl
        refine V_y (Y_assign rfl) rfl rfl rfl ?_
        refine V_to (fun _ _ => rfl) ?_
        refine C_cond rfl (fun hc49 => ?_) (fun hc49 => ?_)
        · rw [if_pos hc49] at h19
          refine C_seq ?_
          refine C_region ?_
          refine V_y (Y_assign rfl) rfl rfl rfl ?_
          refine V_to (fun _ _ => rfl) ?_
          obtain rfl := Option.some.inj h19
          obtain rfl := (h20 : Lp.rt _ = _)
          rw [Lp.andThen_rt] at hm
          obtain rfl := Option.some.inj hm
          refine C_ret ?_
          try simp only [↓inBlock_ret, ↓then_ret]
          exact retQ rfl (Res.one Tryd.results14 rfl) ⟨rfl, hK.kp⟩
        · rw [if_neg (nt hc49)] at h19
          refine C_seq ?_
          refine C_region ?_
          refine V_y (Y_move rfl) rfl rfl rfl ?_
          refine V_y (Y_move rfl) rfl rfl rfl ?_
          obtain ⟨x50, hx50, h19⟩ := Option.bind_eq_some_iff.1 h19
          obtain ⟨v51, h52, h52y⟩ := sliceL_val hx50 h_l
          refine V_y (Y_sliceLH h52y Tryd.underlying35 Tryd.sizeOf76 rfl rfl) rfl rfl rfl ?_
          refine V_y (Y_makeFunc rfl rfl) rfl rfl rfl ?_
          obtain ⟨x54, hx54, h19⟩ := Option.bind_eq_some_iff.1 h19
          refine V_call Tryd.call33 rfl rfl rfl rfl (slices_ContainsFunc_Lroute_Work_route_Work_c w37 hA x50 v51 h52 (fun y64 => portref2_WorkFault_1 y64 x27) 35 #[] #[.pointer (some ⟨b34, 0, none⟩)] Tryd.call35 (fun w60 A61 ht62 h63 y55 v56 h57 r58 h59 => (portref2_WorkFault_1_c w60 h63 y55 v56 h57 x27 b34 (El.tr h42 ht62) h59).mono (fun _ _ h => ⟨h.1, h.2⟩)) hx54) ?_
          rintro _ w65 ⟨rfl, hk66⟩
          have ht67 := Kp.tr hk66 hA hB
          replace hH := Hp.kp hH hk66
          replace h_l := Sl.tr h_l ht67
          replace h42 := El.tr h42 ht67
          replace h52 := Sl.tr h52 ht67
          replace hK := Tr.trans hK ht67
          replace hr6 := Tr.trans hr6 ht67
          replace hB := Nat.le_trans hB ht67.ex.size
          replace hA := ht67.new
          refine V_y (Y_assign rfl) rfl rfl rfl ?_
          refine V_to (fun _ _ => rfl) ?_
          refine C_cond rfl (fun hc68 => ?_) (fun hc68 => ?_)
          · rw [if_pos hc68] at h19
            refine C_seq ?_
            refine C_region ?_
            refine V_y (Y_assign rfl) rfl rfl rfl ?_
            refine V_to (fun _ _ => rfl) ?_
            obtain rfl := Option.some.inj h19
            obtain rfl := (h20 : Lp.rt _ = _)
            rw [Lp.andThen_rt] at hm
            obtain rfl := Option.some.inj hm
            refine C_ret ?_
            try simp only [↓inBlock_ret, ↓then_ret]
            exact retQ rfl (Res.one Tryd.results14 rfl) ⟨rfl, hK.kp⟩
          · rw [if_neg (nt hc68)] at h19
            refine C_seq ?_
            refine C_region ?_
            have h69 := El_route_Work_1 h42
            refine V_y (Y_fieldAddr Tryd.underlying76 rfl Tryd.sizeOf3 (by decide) rfl) rfl rfl rfl ?_
            refine V_y (Y_load (El.int h69) Tryd.isAgg3 rfl) rfl rfl rfl ?_
            refine V_y (Y_lss rfl rfl) rfl rfl rfl ?_
            refine V_y (Y_move rfl) rfl rfl rfl ?_
            refine V_cut 4 (fun _ : Unit => [(0, v_l), (4, .pointer (some ⟨b34, 0, none⟩)), (9, v_l), (10, .int .i64 (l.length : Int)), (11, .int .i64 (k7 : Int)), (39, .bool ((decide (x27.weight < 1)) || (decide ((20 : Int) < x27.weight))))]) (fun _ w' => w65 = w') ?_ ?_
            · simp only [List.take, List.drop]
              rcases Bool.eq_false_or_eq_true (decide (x27.weight < 1)) with hc70 | hc70
              · refine V_gn rfl rfl rfl hc70 rfl rfl rfl ?_
                refine V_gn rfl rfl rfl hc70 rfl rfl rfl ?_
                refine V_gn rfl rfl rfl hc70 rfl rfl rfl ?_
                refine V_y (Y_pick_te rfl hc70 rfl) rfl rfl rfl ?_
                exact V_end fun a ha => ⟨(), ha.sub ⟨rfl, rfl, rfl, rfl, rfl, (by rw [hc70]; rfl), trivial⟩, rfl⟩
              · refine V_ge rfl rfl rfl hc70 ?_
                have h72 := El_route_Work_1 h42
                refine V_y (Y_fieldAddr Tryd.underlying76 rfl Tryd.sizeOf3 (by decide) rfl) rfl rfl rfl ?_
                refine V_ge rfl rfl rfl hc70 ?_
                refine V_y (Y_load (El.int h72) Tryd.isAgg3 rfl) rfl rfl rfl ?_
                refine V_ge rfl rfl rfl hc70 ?_
                refine V_y (Y_gtr rfl rfl) rfl rfl rfl ?_
                refine V_y (Y_pick_fe rfl hc70 rfl) rfl rfl rfl ?_
                exact V_end fun a ha => ⟨(), ha.sub ⟨rfl, rfl, rfl, rfl, rfl, (by rw [hc70]; rfl), trivial⟩, rfl⟩
            simp only [List.take, List.drop]
            rintro _ _ rfl
            refine V_y (Y_move rfl) rfl rfl rfl ?_
            refine V_cut 4 (fun _ : Unit => [(0, v_l), (4, .pointer (some ⟨b34, 0, none⟩)), (9, v_l), (10, .int .i64 (l.length : Int)), (11, .int .i64 (k7 : Int)), (44, .bool (((decide (x27.weight < 1)) || (decide ((20 : Int) < x27.weight))) || (decide (x27.urgency < 0))))]) (fun _ w' => w65 = w') ?_ ?_
            · simp only [List.take, List.drop]
              rcases Bool.eq_false_or_eq_true (((decide (x27.weight < 1)) || (decide ((20 : Int) < x27.weight)))) with hc73 | hc73
              · refine V_gn rfl rfl rfl hc73 rfl rfl rfl ?_
                refine V_gn rfl rfl rfl hc73 rfl rfl rfl ?_
                refine V_gn rfl rfl rfl hc73 rfl rfl rfl ?_
                refine V_y (Y_pick_te rfl hc73 rfl) rfl rfl rfl ?_
                exact V_end fun a ha => ⟨(), ha.sub ⟨rfl, rfl, rfl, rfl, rfl, (by rw [hc73]; rfl), trivial⟩, rfl⟩
              · refine V_ge rfl rfl rfl hc73 ?_
                have h75 := El_route_Work_2 h42
                refine V_y (Y_fieldAddr Tryd.underlying76 rfl Tryd.sizeOf3 (by decide) rfl) rfl rfl rfl ?_
                refine V_ge rfl rfl rfl hc73 ?_
                refine V_y (Y_load (El.int h75) Tryd.isAgg3 rfl) rfl rfl rfl ?_
                refine V_ge rfl rfl rfl hc73 ?_
                refine V_y (Y_lss rfl rfl) rfl rfl rfl ?_
                refine V_y (Y_pick_fe rfl hc73 rfl) rfl rfl rfl ?_
                exact V_end fun a ha => ⟨(), ha.sub ⟨rfl, rfl, rfl, rfl, rfl, (by rw [hc73]; rfl), trivial⟩, rfl⟩
            simp only [List.take, List.drop]
            rintro _ _ rfl
            refine V_y (Y_move rfl) rfl rfl rfl ?_
            refine V_cut 4 (fun _ : Unit => [(0, v_l), (4, .pointer (some ⟨b34, 0, none⟩)), (9, v_l), (10, .int .i64 (l.length : Int)), (11, .int .i64 (k7 : Int)), (49, .bool ((((decide (x27.weight < 1)) || (decide ((20 : Int) < x27.weight))) || (decide (x27.urgency < 0))) || (decide ((9 : Int) < x27.urgency))))]) (fun _ w' => w65 = w') ?_ ?_
            · simp only [List.take, List.drop]
              rcases Bool.eq_false_or_eq_true ((((decide (x27.weight < 1)) || (decide ((20 : Int) < x27.weight))) || (decide (x27.urgency < 0)))) with hc76 | hc76
              · refine V_gn rfl rfl rfl hc76 rfl rfl rfl ?_
                refine V_gn rfl rfl rfl hc76 rfl rfl rfl ?_
                refine V_gn rfl rfl rfl hc76 rfl rfl rfl ?_
                refine V_y (Y_pick_te rfl hc76 rfl) rfl rfl rfl ?_
                exact V_end fun a ha => ⟨(), ha.sub ⟨rfl, rfl, rfl, rfl, rfl, (by rw [hc76]; rfl), trivial⟩, rfl⟩
              · refine V_ge rfl rfl rfl hc76 ?_
                have h78 := El_route_Work_2 h42
                refine V_y (Y_fieldAddr Tryd.underlying76 rfl Tryd.sizeOf3 (by decide) rfl) rfl rfl rfl ?_
                refine V_ge rfl rfl rfl hc76 ?_
                refine V_y (Y_load (El.int h78) Tryd.isAgg3 rfl) rfl rfl rfl ?_
                refine V_ge rfl rfl rfl hc76 ?_
                refine V_y (Y_gtr rfl rfl) rfl rfl rfl ?_
                refine V_y (Y_pick_fe rfl hc76 rfl) rfl rfl rfl ?_
                exact V_end fun a ha => ⟨(), ha.sub ⟨rfl, rfl, rfl, rfl, rfl, (by rw [hc76]; rfl), trivial⟩, rfl⟩
            simp only [List.take, List.drop]
            rintro _ _ rfl
            refine V_y (Y_move rfl) rfl rfl rfl ?_
            refine V_cut 5 (fun _ : Unit => [(0, v_l), (4, .pointer (some ⟨b34, 0, none⟩)), (9, v_l), (10, .int .i64 (l.length : Int)), (11, .int .i64 (k7 : Int)), (55, .bool (((((decide (x27.weight < 1)) || (decide ((20 : Int) < x27.weight))) || (decide (x27.urgency < 0))) || (decide ((9 : Int) < x27.urgency))) || (!(portref2_IsMoment x27.since))))]) (fun _ w' => w65 = w') ?_ ?_
            · simp only [List.take, List.drop]
              rcases Bool.eq_false_or_eq_true (((((decide (x27.weight < 1)) || (decide ((20 : Int) < x27.weight))) || (decide (x27.urgency < 0))) || (decide ((9 : Int) < x27.urgency)))) with hc79 | hc79
              · refine V_gn rfl rfl rfl hc79 rfl rfl rfl ?_
                refine V_gn rfl rfl rfl hc79 rfl rfl rfl ?_
                refine V_gn rfl rfl rfl hc79 rfl rfl rfl ?_
                refine V_gn rfl rfl rfl hc79 rfl rfl rfl ?_
                refine V_y (Y_pick_te rfl hc79 rfl) rfl rfl rfl ?_
                exact V_end fun a ha => ⟨(), ha.sub ⟨rfl, rfl, rfl, rfl, rfl, (by rw [hc79]; rfl), trivial⟩, rfl⟩
              · refine V_ge rfl rfl rfl hc79 ?_
                have h81 := El_route_Work_3 h42
                refine V_y (Y_fieldAddr Tryd.underlying76 rfl Tryd.sizeOf3 (by decide) rfl) rfl rfl rfl ?_
                refine V_ge rfl rfl rfl hc79 ?_
                refine V_y (Y_load (El.int h81) Tryd.isAgg3 rfl) rfl rfl rfl ?_
                refine V_ge rfl rfl rfl hc79 ?_
                refine V_call Tryd.call36 rfl rfl rfl rfl (portref2_IsMoment_c w65 x27.since) ?_
                rintro _ _ ⟨rfl, rfl⟩
                refine V_ge rfl rfl rfl hc79 ?_
                refine V_y (Y_not rfl) rfl rfl rfl ?_
                refine V_y (Y_pick_fe rfl hc79 rfl) rfl rfl rfl ?_
                exact V_end fun a ha => ⟨(), ha.sub ⟨rfl, rfl, rfl, rfl, rfl, (by rw [hc79]; rfl), trivial⟩, rfl⟩
            simp only [List.take, List.drop]
            rintro _ _ rfl
            refine V_y (Y_move rfl) rfl rfl rfl ?_
            refine V_cut 4 (fun _ : Unit => [(0, v_l), (4, .pointer (some ⟨b34, 0, none⟩)), (9, v_l), (10, .int .i64 (l.length : Int)), (11, .int .i64 (k7 : Int)), (60, .bool ((((((decide (x27.weight < 1)) || (decide ((20 : Int) < x27.weight))) || (decide (x27.urgency < 0))) || (decide ((9 : Int) < x27.urgency))) || (!(portref2_IsMoment x27.since))) || (decide (x27.former < 0))))]) (fun _ w' => w65 = w') ?_ ?_
            · simp only [List.take, List.drop]
              rcases Bool.eq_false_or_eq_true ((((((decide (x27.weight < 1)) || (decide ((20 : Int) < x27.weight))) || (decide (x27.urgency < 0))) || (decide ((9 : Int) < x27.urgency))) || (!(portref2_IsMoment x27.since)))) with hc82 | hc82
              · refine V_gn rfl rfl rfl hc82 rfl rfl rfl ?_
                refine V_gn rfl rfl rfl hc82 rfl rfl rfl ?_
                refine V_gn rfl rfl rfl hc82 rfl rfl rfl ?_
                refine V_y (Y_pick_te rfl hc82 rfl) rfl rfl rfl ?_
                exact V_end fun a ha => ⟨(), ha.sub ⟨rfl, rfl, rfl, rfl, rfl, (by rw [hc82]; rfl), trivial⟩, rfl⟩
              · refine V_ge rfl rfl rfl hc82 ?_
                have h84 := El_route_Work_4 h42
                refine V_y (Y_fieldAddr Tryd.underlying76 rfl Tryd.sizeOf3 (by decide) rfl) rfl rfl rfl ?_
                refine V_ge rfl rfl rfl hc82 ?_
                refine V_y (Y_load (El.int h84) Tryd.isAgg3 rfl) rfl rfl rfl ?_
                refine V_ge rfl rfl rfl hc82 ?_
                refine V_y (Y_lss rfl rfl) rfl rfl rfl ?_
                refine V_y (Y_pick_fe rfl hc82 rfl) rfl rfl rfl ?_
                exact V_end fun a ha => ⟨(), ha.sub ⟨rfl, rfl, rfl, rfl, rfl, (by rw [hc82]; rfl), trivial⟩, rfl⟩
            simp only [List.take, List.drop]
            rintro _ _ rfl
            refine V_y (Y_move rfl) rfl rfl rfl ?_
            refine V_cut 4 (fun _ : Unit => [(0, v_l), (4, .pointer (some ⟨b34, 0, none⟩)), (9, v_l), (10, .int .i64 (l.length : Int)), (11, .int .i64 (k7 : Int)), (65, .bool (((((((decide (x27.weight < 1)) || (decide ((20 : Int) < x27.weight))) || (decide (x27.urgency < 0))) || (decide ((9 : Int) < x27.urgency))) || (!(portref2_IsMoment x27.since))) || (decide (x27.former < 0))) || (decide ((40 : Int) < x27.former))))]) (fun _ w' => w65 = w') ?_ ?_
            · simp only [List.take, List.drop]
              rcases Bool.eq_false_or_eq_true (((((((decide (x27.weight < 1)) || (decide ((20 : Int) < x27.weight))) || (decide (x27.urgency < 0))) || (decide ((9 : Int) < x27.urgency))) || (!(portref2_IsMoment x27.since))) || (decide (x27.former < 0)))) with hc85 | hc85
              · refine V_gn rfl rfl rfl hc85 rfl rfl rfl ?_
                refine V_gn rfl rfl rfl hc85 rfl rfl rfl ?_
                refine V_gn rfl rfl rfl hc85 rfl rfl rfl ?_
                refine V_y (Y_pick_te rfl hc85 rfl) rfl rfl rfl ?_
                exact V_end fun a ha => ⟨(), ha.sub ⟨rfl, rfl, rfl, rfl, rfl, (by rw [hc85]; rfl), trivial⟩, rfl⟩
              · refine V_ge rfl rfl rfl hc85 ?_
                have h87 := El_route_Work_4 h42
                refine V_y (Y_fieldAddr Tryd.underlying76 rfl Tryd.sizeOf3 (by decide) rfl) rfl rfl rfl ?_
                refine V_ge rfl rfl rfl hc85 ?_
                refine V_y (Y_load (El.int h87) Tryd.isAgg3 rfl) rfl rfl rfl ?_
                refine V_ge rfl rfl rfl hc85 ?_
                refine V_y (Y_gtr rfl rfl) rfl rfl rfl ?_
                refine V_y (Y_pick_fe rfl hc85 rfl) rfl rfl rfl ?_
                exact V_end fun a ha => ⟨(), ha.sub ⟨rfl, rfl, rfl, rfl, rfl, (by rw [hc85]; rfl), trivial⟩, rfl⟩
            simp only [List.take, List.drop]
            rintro _ _ rfl
            refine V_y (Y_assign rfl) rfl rfl rfl ?_
            refine V_to (fun _ _ => rfl) ?_
            refine C_cond rfl (fun hc88 => ?_) (fun hc88 => ?_)
            · rw [if_pos hc88] at h19
              refine C_seq ?_
              refine C_region ?_
              refine V_y (Y_assign rfl) rfl rfl rfl ?_
              refine V_to (fun _ _ => rfl) ?_
              obtain rfl := Option.some.inj h19
              obtain rfl := (h20 : Lp.rt _ = _)
              rw [Lp.andThen_rt] at hm
              obtain rfl := Option.some.inj hm
              refine C_ret ?_
              try simp only [↓inBlock_ret, ↓then_ret]
              exact retQ rfl (Res.one Tryd.results14 rfl) ⟨rfl, hK.kp⟩
            · rw [if_neg (nt hc88)] at h19
              refine C_skip_to (fun _ _ => rfl) ?_
              refine C_seq ?_
              refine C_region ?_
              have h89 := El_route_Work_5 h42
              refine V_y (Y_fieldAddr Tryd.underlying76 rfl Tryd.sizeOf67 (by decide) rfl) rfl rfl rfl ?_
              obtain ⟨v90, h91, h92⟩ := El.list h89
              refine V_y (Y_load h91 Tryd.isAgg67 rfl) rfl rfl rfl ?_
              obtain ⟨x93, hx93, h19⟩ := Option.bind_eq_some_iff.1 h19
              refine V_call Tryd.call32 rfl rfl rfl rfl (portref2_skillsFault_c w65 hA x27.needs v90 h92 hx93) ?_
              rintro _ w94 ⟨rfl, hk95⟩
              have ht96 := Kp.tr hk95 hA hB
              replace hH := Hp.kp hH hk95
              replace h_l := Sl.tr h_l ht96
              replace h42 := El.tr h42 ht96
              replace h89 := El.tr h89 ht96
              replace h92 := Sl.tr h92 ht96
              replace hK := Tr.trans hK ht96
              replace hr6 := Tr.trans hr6 ht96
              replace hB := Nat.le_trans hB ht96.ex.size
              replace hA := ht96.new
              refine V_y (Y_assign rfl) rfl rfl rfl ?_
              refine V_to (fun _ _ => rfl) ?_
              refine C_seq ?_
              refine C_region ?_
              refine V_y (Y_move rfl) rfl rfl rfl ?_
              refine V_y (Y_neq rfl rfl) rfl rfl rfl ?_
              refine V_to (fun _ _ => rfl) ?_
              refine C_cond rfl (fun hc97 => ?_) (fun hc97 => ?_)
              · rw [if_pos hc97] at h19
                refine C_seq ?_
                refine C_region ?_
                refine V_y (Y_move rfl) rfl rfl rfl ?_
                refine V_y (Y_assign rfl) rfl rfl rfl ?_
                refine V_to (fun _ _ => rfl) ?_
                obtain rfl := Option.some.inj h19
                obtain rfl := (h20 : Lp.rt _ = _)
                rw [Lp.andThen_rt] at hm
                obtain rfl := Option.some.inj hm
                refine C_ret ?_
                try simp only [↓inBlock_ret, ↓then_ret]
                exact retQ rfl (Res.one Tryd.results14 rfl) ⟨rfl, hK.kp⟩
              · rw [if_neg (nt hc97)] at h19
                refine C_skip_to (fun _ _ => rfl) ?_
                refine C_region ?_
                refine V_y (Y_addI rfl rfl) rfl rfl rfl ?_
                refine V_y (Y_move rfl) rfl rfl rfl ?_
                obtain rfl := Option.some.inj h19
                refine V_end (fun a ha98 => ?_)
                exact ⟨(), hlt22, h20, ⟨A16, ha98.sub ⟨rfl, rfl, rfl, (congrArg (fun z => some (Value.int .i64 z)) (w64_succ hlt22 hn25)), trivial⟩, ⟨hH, hr6⟩⟩⟩
      · refine C_exit (fun a ha99 => ?_)
        exact ⟨((), A16), ha99.sub trivial, ⟨(h23 (eq_of_dec hle21 hc26)).symm, hH, hr6⟩⟩
    rintro ⟨s5, A12⟩ w9 ⟨rfl, hH13, hk10⟩ a ha11
    rw [Lp.andThen_fin] at hm
    replace hK := Tr.trans hK hk10
    replace hB := Nat.le_trans hB hk10.ex.size
    replace hA := hk10.new
    replace hH : Hp w.heap.size A12 w9 ([]) := hH13
    refine C_at (n := ⟨73, [], none⟩) (fun _ _ => rfl) ?_ ha11
    refine C_seq ?_
    refine C_region ?_
    refine V_y (Y_assign rfl) rfl rfl rfl ?_
    refine V_to (fun _ _ => rfl) ?_
    obtain rfl := Option.some.inj hm
    refine C_ret ?_
    try simp only [↓inBlock_ret, ↓then_ret]
    exact retQ rfl (Res.one Tryd.results14 rfl) ⟨rfl, hK.kp⟩

set_option maxRecDepth 4000 in
set_option maxHeartbeats 4000000 in
theorem route_CheckSteps_c (w : World) {A : Nat → Prop} (hA : ∀ b, w.heap.size ≤ b → A b) (l : (List route_Step)) (v_l : Value) (h_l : Sl A w v_l l) {r : Int} (hm : route_CheckSteps l = some r) : Ret Tryd.prog 15 #[v_l] w fun v w' => v = .int .i64 r ∧ Kp w w' := by
  unfold route_CheckSteps at hm
  refine enter Tryd.func15 rfl Tryd.ntmps15 rfl ?_
  have hA0 := hA
  have hB := Nat.le_refl w.heap.size
  have hK : Tr w.heap.size A w A w := Tr.refl hA
  have hH : Hp w.heap.size A w [] := Hp.nil
  refine C_seq ?_
  refine C_region ?_
  refine V_y (Y_assign rfl) rfl rfl rfl ?_
  refine V_to (fun _ _ => rfl) ?_
  refine C_seq ?_
  refine C_seq ?_
  refine C_region ?_
  refine V_y (Y_move rfl) rfl rfl rfl ?_
  refine V_y (Y_lenSl h_l rfl Tryd.underlying36 rfl) rfl rfl rfl ?_
  refine V_y (Y_gtr rfl rfl) rfl rfl rfl ?_
  refine V_to (fun _ _ => rfl) ?_
  refine C_cond rfl (fun hc3 => ?_) (fun hc3 => ?_)
  · rw [if_pos hc3] at hm
    refine C_seq ?_
    refine C_region ?_
    refine V_y (Y_assign rfl) rfl rfl rfl ?_
    refine V_to (fun _ _ => rfl) ?_
    obtain rfl := Option.some.inj hm
    refine C_ret ?_
    try simp only [↓inBlock_ret, ↓then_ret]
    exact retQ rfl (Res.one Tryd.results15 rfl) ⟨rfl, hK.kp⟩
  · rw [if_neg (nt hc3)] at hm
    refine C_skip_to (fun _ _ => rfl) ?_
    refine C_seq ?_
    refine C_seq ?_
    refine C_region ?_
    refine V_y (Y_move rfl) rfl rfl rfl ?_
    refine V_y (Y_lenSl h_l rfl Tryd.underlying36 rfl) rfl rfl rfl ?_
    refine V_y (Y_move rfl) rfl rfl rfl ?_
    refine V_to (fun _ _ => rfl) ?_
    have hn25 := Sl.le h_l
    obtain ⟨o4, ho4, hm⟩ := Option.bind_eq_some_iff.1 hm
    refine C_cutG (ι := (Unit × (Nat → Prop))) (fun ⟨s5, A12⟩ => []) (fun ⟨s5, A12⟩ => fun w' => o4 = .fin s5 ∧ Hp w.heap.size A12 w' ([]) ∧ Tr w.heap.size A w A12 w') ?_ ?_
    · refine C_block ?_
      refine C_range ho4 (fun k7 _ a w' => ∃ i : (Nat → Prop), Has ⟨39, [], none⟩ a ([(0, v_l), (8, v_l), (9, .int .i64 (l.length : Int)), (10, .int .i64 (k7 : Int))]) ∧ Hp w.heap.size i w' ([]) ∧ Tr w.heap.size A w i w') (fun a ha => ⟨A, ha.sub ⟨rfl, rfl, rfl, rfl, trivial⟩, ⟨hH, Tr.refl hA⟩⟩) ?_
      rintro K k7 _ a w15 ⟨A16, ha59, hH17, hr6⟩ hle21 K24 h23
      refine C_of ?_ ha59
      replace h_l := Sl.tr h_l hr6
      replace hK := Tr.trans hK hr6
      replace hB := Nat.le_trans hB hr6.ex.size
      replace hA := hr6.new
      replace hH : Hp w.heap.size A16 w15 ([]) := hH17
      refine C_seq (C_region (V_y (Y_lss rfl rfl) rfl rfl rfl (V_to (fun _ _ => rfl) ?_)))
      refine C_seq ?_
      refine C_cond rfl (fun hc26 => ?_) (fun hc26 => ?_)
      · have hlt22 := lt_of_dec hc26
        obtain ⟨x18, h19, h20⟩ := K24 hlt22
        refine C_skip_to (fun _ _ => rfl) ?_
        refine C_seq ?_
        refine C_block ?_
        refine C_seq ?_
        refine C_region ?_
        refine V_y (Y_move rfl) rfl rfl rfl ?_
        obtain ⟨x27, hx27, h19⟩ := Option.bind_eq_some_iff.1 h19
        refine V_indexAddr h_l hx27 Tryd.underlying36 Tryd.sizeOf81 rfl rfl rfl ?_
        intro b28 o29 h30
        obtain ⟨h31, _⟩ := El_route_Step h30
        refine V_y (Y_loadA h31 Tryd.isAgg81 Tryd.sizeOf81 rfl) rfl rfl rfl ?_
        refine V_alloc Tryd.zeroValue81 rfl ?_
        intro b32 w33 h34
        refine V_y (Y_assign rfl) rfl rfl rfl ?_
        refine V_storeNew h34 Tryd.sizeOf81 rfl rfl rfl rfl (by exact (List.forall_mem_cons.2 ⟨rfl, (List.forall_mem_cons.2 ⟨rfl, (List.forall_mem_cons.2 ⟨rfl, (fun _ h => nomatch h)⟩)⟩)⟩)) ?_
        intro w35 h36
        have hk38 := h36.kp
        have h37 : El (α := route_Step) A16 w35 b32 0 x27 := h36.el hA ⟨[.int .i64 x27.after], _, rfl, rfl, ⟨[.int .i64 x27.lower], _, rfl, rfl, rfl⟩⟩
        have ht39 := Kp.tr hk38 hA hB
        replace hH := Hp.kp hH hk38
        replace h_l := Sl.tr h_l ht39
        replace h30 := El.tr h30 ht39
        replace hK := Tr.trans hK ht39
        replace hr6 := Tr.trans hr6 ht39
        replace hB := Nat.le_trans hB ht39.ex.size
        replace hA := ht39.new
        refine V_to (fun _ _ => rfl) ?_
        refine C_seq ?_
        refine C_seq ?_
        refine C_region ?_
        have h40 := El_route_Step_0 h37
        refine V_y (Y_fieldAddr Tryd.underlying81 rfl Tryd.sizeOf3 (by decide) rfl) rfl rfl rfl ?_
        refine V_y (Y_load (El.int h40) Tryd.isAgg3 rfl) rfl rfl rfl ?_
        refine V_call Tryd.call30 rfl rfl rfl rfl (route_within_c w35 x27.after 1 3000000) ?_
        rintro _ _ ⟨rfl, rfl⟩
        refine V_y (Y_not rfl) rfl rfl rfl ?_
        refine V_y (Y_move rfl) rfl rfl rfl ?_
        refine V_cut 5 (fun _ : Unit => [(0, v_l), (3, .int .i64 (k7 : Int)), (4, .pointer (some ⟨b32, 0, none⟩)), (8, v_l), (9, .int .i64 (l.length : Int)), (10, .int .i64 (k7 : Int)), (24, .bool ((!(route_within x27.after 1 3000000)) || (!(route_within x27.lower 0 9))))]) (fun _ w' => w35 = w') ?_ ?_
        · simp only [List.take, List.drop]
          rcases Bool.eq_false_or_eq_true (!(route_within x27.after 1 3000000)) with hc41 | hc41
          · refine V_gn rfl rfl rfl hc41 rfl rfl rfl ?_
            refine V_gn rfl rfl rfl hc41 rfl rfl rfl ?_
            refine V_gn rfl rfl rfl hc41 rfl rfl rfl ?_
            refine V_gn rfl rfl rfl hc41 rfl rfl rfl ?_
            refine V_y (Y_pick_te rfl hc41 rfl) rfl rfl rfl ?_
            exact V_end fun a ha => ⟨(), ha.sub ⟨rfl, rfl, rfl, rfl, rfl, rfl, (by rw [hc41]; rfl), trivial⟩, rfl⟩
          · refine V_ge rfl rfl rfl hc41 ?_
            have h43 := El_route_Step_1 h37
            refine V_y (Y_fieldAddr Tryd.underlying81 rfl Tryd.sizeOf3 (by decide) rfl) rfl rfl rfl ?_
            refine V_ge rfl rfl rfl hc41 ?_
            refine V_y (Y_load (El.int h43) Tryd.isAgg3 rfl) rfl rfl rfl ?_
            refine V_ge rfl rfl rfl hc41 ?_
            refine V_call Tryd.call30 rfl rfl rfl rfl (route_within_c w35 x27.lower 0 9) ?_
            rintro _ _ ⟨rfl, rfl⟩
            refine V_ge rfl rfl rfl hc41 ?_
            refine V_y (Y_not rfl) rfl rfl rfl ?_
            refine V_y (Y_pick_fe rfl hc41 rfl) rfl rfl rfl ?_
            exact V_end fun a ha => ⟨(), ha.sub ⟨rfl, rfl, rfl, rfl, rfl, rfl, (by rw [hc41]; rfl), trivial⟩, rfl⟩
        simp only [List.take, List.drop]
        rintro _ _ rfl
        refine V_to (fun _ _ => rfl) ?_
        refine C_cond rfl (fun hc44 => ?_) (fun hc44 => ?_)
        · rw [if_pos hc44] at h19
          refine C_seq ?_
          refine C_region ?_
          refine V_y (Y_assign rfl) rfl rfl rfl ?_
          refine V_to (fun _ _ => rfl) ?_
          obtain rfl := Option.some.inj h19
          obtain rfl := (h20 : Lp.rt _ = _)
          rw [Lp.andThen_rt] at hm
          obtain rfl := Option.some.inj hm
          refine C_ret ?_
          try simp only [↓inBlock_ret, ↓then_ret]
          exact retQ rfl (Res.one Tryd.results15 rfl) ⟨rfl, hK.kp⟩
        · rw [if_neg (nt hc44)] at h19
          refine C_skip_to (fun _ _ => rfl) ?_
          refine C_seq ?_
          refine C_region_q Tryd_mixed (by kernel_rfl) ?_
          refine VQ_y (fun w' hw' => Y_move rfl) rfl rfl rfl ?_
          refine VQ_y (fun w' hw' => Y_gtr rfl rfl) rfl rfl rfl ?_
          refine VQ_y (fun w' hw' => Y_move rfl) rfl rfl rfl ?_
          obtain ⟨s46, hs46, h19⟩ := Option.bind_eq_some_iff.1 h19
          refine VQ_cut 10 (fun _ : Unit => [(0, v_l), (8, v_l), (9, .int .i64 (l.length : Int)), (10, .int .i64 (k7 : Int)), (37, .bool s46)]) (fun _ => True) ?_ ?_
          · simp only [List.take, List.drop]
            rcases Bool.eq_false_or_eq_true (decide ((0 : Int) < (k7 : Int))) with hc45 | hc45
            · rw [if_pos hc45] at hs46
              refine VQ_ge rfl rfl rfl hc45 ?_
              have h47 := El_route_Step_0 h37
              refine VQ_y (fun w' hw' => Y_fieldAddr Tryd.underlying81 rfl Tryd.sizeOf3 (by decide) rfl) rfl rfl rfl ?_
              refine VQ_ge rfl rfl rfl hc45 ?_
              refine VQ_y (fun w' hw' => Y_load (El.int (El.kp h47 hw')) Tryd.isAgg3 rfl) rfl rfl rfl ?_
              refine VQ_ge rfl rfl rfl hc45 ?_
              refine VQ_y (fun w' hw' => Y_move rfl) rfl rfl rfl ?_
              refine VQ_ge rfl rfl rfl hc45 ?_
              refine VQ_y (fun w' hw' => Y_move rfl) rfl rfl rfl ?_
              refine VQ_ge rfl rfl rfl hc45 ?_
              refine VQ_y (fun w' hw' => Y_subI rfl rfl) rfl rfl rfl ?_
              refine VQ_ge rfl rfl rfl hc45 ?_
              obtain ⟨x48, hx48, hs46⟩ := Option.bind_eq_some_iff.1 hs46
              refine VQ_indexAddr h_l hx48 Tryd.underlying36 Tryd.sizeOf81 rfl rfl rfl ?_
              intro b49 o50 h51
              refine VQ_ge rfl rfl rfl hc45 ?_
              have h52 := El_route_Step_0 h51
              refine VQ_y (fun w' hw' => Y_fieldAddr Tryd.underlying81 rfl Tryd.sizeOf3 (by decide) rfl) rfl rfl rfl ?_
              refine VQ_ge rfl rfl rfl hc45 ?_
              refine VQ_y (fun w' hw' => Y_load (El.int (El.kp h52 hw')) Tryd.isAgg3 rfl) rfl rfl rfl ?_
              refine VQ_ge rfl rfl rfl hc45 ?_
              refine VQ_y (fun w' hw' => Y_leq rfl rfl) rfl rfl rfl ?_
              refine VQ_y (fun _ _ => Y_pick_te rfl hc45 rfl) rfl rfl rfl ?_
              obtain rfl := Option.some.inj hs46
              exact VQ_end fun a ha => ⟨(), ha.sub ⟨rfl, rfl, rfl, rfl, rfl, trivial⟩, trivial⟩
            · rw [if_neg (nt hc45)] at hs46
              refine VQ_gn rfl rfl rfl hc45 rfl rfl rfl ?_
              refine VQ_gn rfl rfl rfl hc45 rfl rfl rfl ?_
              refine VQ_gn rfl rfl rfl hc45 rfl rfl rfl ?_
              refine VQ_gn rfl rfl rfl hc45 rfl rfl rfl ?_
              refine VQ_gn rfl rfl rfl hc45 rfl rfl rfl ?_
              refine VQ_gn rfl rfl rfl hc45 rfl rfl rfl ?_
              refine VQ_gn rfl rfl rfl hc45 rfl rfl rfl ?_
              refine VQ_gn rfl rfl rfl hc45 rfl rfl rfl ?_
              refine VQ_gn rfl rfl rfl hc45 rfl rfl rfl ?_
              refine VQ_y (fun _ _ => Y_pick_fe rfl hc45 rfl) rfl rfl rfl ?_
              obtain rfl := Option.some.inj hs46
              exact VQ_end fun a ha => ⟨(), ha.sub ⟨rfl, rfl, rfl, rfl, rfl, trivial⟩, trivial⟩
          simp only [List.take, List.drop]
          rintro _ _
          refine VQ_to (fun _ _ => rfl) (fun w53 hk54 => ?_)
          have ht55 := Kp.tr hk54 hA hB
          replace hH := Hp.kp hH hk54
          replace h_l := Sl.tr h_l ht55
          replace hK := Tr.trans hK ht55
          replace hr6 := Tr.trans hr6 ht55
          replace hB := Nat.le_trans hB ht55.ex.size
          replace hA := ht55.new
          refine C_cond rfl (fun hc56 => ?_) (fun hc56 => ?_)
          · rw [if_pos hc56] at h19
            refine C_seq ?_
            refine C_region ?_
            refine V_y (Y_assign rfl) rfl rfl rfl ?_
            refine V_to (fun _ _ => rfl) ?_
            obtain rfl := Option.some.inj h19
            obtain rfl := (h20 : Lp.rt _ = _)
            rw [Lp.andThen_rt] at hm
            obtain rfl := Option.some.inj hm
            refine C_ret ?_
            try simp only [↓inBlock_ret, ↓then_ret]
            exact retQ rfl (Res.one Tryd.results15 rfl) ⟨rfl, hK.kp⟩
          · rw [if_neg (nt hc56)] at h19
            refine C_skip_to (fun _ _ => rfl) ?_
            refine C_region ?_
            refine V_y (Y_addI rfl rfl) rfl rfl rfl ?_
            refine V_y (Y_move rfl) rfl rfl rfl ?_
            obtain rfl := Option.some.inj h19
            refine V_end (fun a ha57 => ?_)
            exact ⟨(), hlt22, h20, ⟨A16, ha57.sub ⟨rfl, rfl, rfl, (congrArg (fun z => some (Value.int .i64 z)) (w64_succ hlt22 hn25)), trivial⟩, ⟨hH, hr6⟩⟩⟩
      · refine C_exit (fun a ha58 => ?_)
        exact ⟨((), A16), ha58.sub trivial, ⟨(h23 (eq_of_dec hle21 hc26)).symm, hH, hr6⟩⟩
    rintro ⟨s5, A12⟩ w9 ⟨rfl, hH13, hk10⟩ a ha11
    rw [Lp.andThen_fin] at hm
    replace hK := Tr.trans hK hk10
    replace hB := Nat.le_trans hB hk10.ex.size
    replace hA := hk10.new
    replace hH : Hp w.heap.size A12 w9 ([]) := hH13
    refine C_at (n := ⟨39, [], none⟩) (fun _ _ => rfl) ?_ ha11
    refine C_seq ?_
    refine C_region ?_
    refine V_y (Y_assign rfl) rfl rfl rfl ?_
    refine V_to (fun _ _ => rfl) ?_
    obtain rfl := Option.some.inj hm
    refine C_ret ?_
    try simp only [↓inBlock_ret, ↓then_ret]
    exact retQ rfl (Res.one Tryd.results15 rfl) ⟨rfl, hK.kp⟩

set_option maxRecDepth 4000 in
set_option maxHeartbeats 4000000 in
theorem portref2_StepsFault_c (w : World) {A : Nat → Prop} (hA : ∀ b, w.heap.size ≤ b → A b) (l : (List route_Step)) (v_l : Value) (h_l : Sl A w v_l l) {r : Int} (hm : portref2_StepsFault l = some r) : Ret Tryd.prog 16 #[v_l] w fun v w' => v = .int .i64 r ∧ Kp w w' := by
  unfold portref2_StepsFault at hm
  refine enter Tryd.func16 rfl Tryd.ntmps16 rfl ?_
  have hA0 := hA
  have hB := Nat.le_refl w.heap.size
  have hK : Tr w.heap.size A w A w := Tr.refl hA
  have hH : Hp w.heap.size A w [] := Hp.nil
  refine C_seq ?_
  refine C_region ?_
  refine V_y (Y_assign rfl) rfl rfl rfl ?_
  refine V_to (fun _ _ => rfl) ?_
  refine C_seq ?_
  refine C_seq ?_
  refine C_region ?_
  refine V_y (Y_move rfl) rfl rfl rfl ?_
  refine V_y (Y_lenSl h_l rfl Tryd.underlying36 rfl) rfl rfl rfl ?_
  refine V_y (Y_gtr rfl rfl) rfl rfl rfl ?_
  refine V_to (fun _ _ => rfl) ?_
  refine C_cond rfl (fun hc3 => ?_) (fun hc3 => ?_)
  · rw [if_pos hc3] at hm
    refine C_seq ?_
    refine C_region ?_
    refine V_y (Y_assign rfl) rfl rfl rfl ?_
    refine V_to (fun _ _ => rfl) ?_
    obtain rfl := Option.some.inj hm
    refine C_ret ?_
    try simp only [↓inBlock_ret, ↓then_ret]
    exact retQ rfl (Res.one Tryd.results16 rfl) ⟨rfl, hK.kp⟩
  · rw [if_neg (nt hc3)] at hm
    refine C_skip_to (fun _ _ => rfl) ?_
    refine C_seq ?_
    refine C_seq ?_
    refine C_region ?_
    refine V_y (Y_move rfl) rfl rfl rfl ?_
    refine V_y (Y_lenSl h_l rfl Tryd.underlying36 rfl) rfl rfl rfl ?_
    refine V_y (Y_move rfl) rfl rfl rfl ?_
    refine V_to (fun _ _ => rfl) ?_
    have hn25 := Sl.le h_l
    obtain ⟨o4, ho4, hm⟩ := Option.bind_eq_some_iff.1 hm
    refine C_cutG (ι := (Unit × (Nat → Prop))) (fun ⟨s5, A12⟩ => []) (fun ⟨s5, A12⟩ => fun w' => o4 = .fin s5 ∧ Hp w.heap.size A12 w' ([]) ∧ Tr w.heap.size A w A12 w') ?_ ?_
    · refine C_block ?_
      refine C_range ho4 (fun k7 _ a w' => ∃ i : (Nat → Prop), Has ⟨49, [], none⟩ a ([(0, v_l), (8, v_l), (9, .int .i64 (l.length : Int)), (10, .int .i64 (k7 : Int))]) ∧ Hp w.heap.size i w' ([]) ∧ Tr w.heap.size A w i w') (fun a ha => ⟨A, ha.sub ⟨rfl, rfl, rfl, rfl, trivial⟩, ⟨hH, Tr.refl hA⟩⟩) ?_
      rintro K k7 _ a w15 ⟨A16, ha65, hH17, hr6⟩ hle21 K24 h23
      refine C_of ?_ ha65
      replace h_l := Sl.tr h_l hr6
      replace hK := Tr.trans hK hr6
      replace hB := Nat.le_trans hB hr6.ex.size
      replace hA := hr6.new
      replace hH : Hp w.heap.size A16 w15 ([]) := hH17
      refine C_seq (C_region (V_y (Y_lss rfl rfl) rfl rfl rfl (V_to (fun _ _ => rfl) ?_)))
      refine C_seq ?_
      refine C_cond rfl (fun hc26 => ?_) (fun hc26 => ?_)
      · have hlt22 := lt_of_dec hc26
        obtain ⟨x18, h19, h20⟩ := K24 hlt22
        refine C_skip_to (fun _ _ => rfl) ?_
        refine C_seq ?_
        refine C_block ?_
        refine C_seq ?_
        refine C_region ?_
        refine V_y (Y_move rfl) rfl rfl rfl ?_
        obtain ⟨x27, hx27, h19⟩ := Option.bind_eq_some_iff.1 h19
        refine V_indexAddr h_l hx27 Tryd.underlying36 Tryd.sizeOf81 rfl rfl rfl ?_
        intro b28 o29 h30
        obtain ⟨h31, _⟩ := El_route_Step h30
        refine V_y (Y_loadA h31 Tryd.isAgg81 Tryd.sizeOf81 rfl) rfl rfl rfl ?_
        refine V_alloc Tryd.zeroValue81 rfl ?_
        intro b32 w33 h34
        refine V_y (Y_assign rfl) rfl rfl rfl ?_
        refine V_storeNew h34 Tryd.sizeOf81 rfl rfl rfl rfl (by exact (List.forall_mem_cons.2 ⟨rfl, (List.forall_mem_cons.2 ⟨rfl, (List.forall_mem_cons.2 ⟨rfl, (fun _ h => nomatch h)⟩)⟩)⟩)) ?_
        intro w35 h36
        have hk38 := h36.kp
        have h37 : El (α := route_Step) A16 w35 b32 0 x27 := h36.el hA ⟨[.int .i64 x27.after], _, rfl, rfl, ⟨[.int .i64 x27.lower], _, rfl, rfl, rfl⟩⟩
        have ht39 := Kp.tr hk38 hA hB
        replace hH := Hp.kp hH hk38
        replace h_l := Sl.tr h_l ht39
        replace h30 := El.tr h30 ht39
        replace hK := Tr.trans hK ht39
        replace hr6 := Tr.trans hr6 ht39
        replace hB := Nat.le_trans hB ht39.ex.size
        replace hA := ht39.new
        refine V_to (fun _ _ => rfl) ?_
        refine C_block ?_
        refine C_seq ?_
        refine C_region ?_
        have h40 := El_route_Step_0 h37
        refine V_y (Y_fieldAddr Tryd.underlying81 rfl Tryd.sizeOf3 (by decide) rfl) rfl rfl rfl ?_
        refine V_y (Y_load (El.int h40) Tryd.isAgg3 rfl) rfl rfl rfl ?_
        refine V_y (Y_lss rfl rfl) rfl rfl rfl ?_
        refine V_y (Y_move rfl) rfl rfl rfl ?_
        refine V_cut 4 (fun _ : Unit => [(0, v_l), (3, .int .i64 (k7 : Int)), (4, .pointer (some ⟨b32, 0, none⟩)), (8, v_l), (9, .int .i64 (l.length : Int)), (10, .int .i64 (k7 : Int)), (23, .bool ((decide (x27.after < 1)) || (decide ((3000000 : Int) < x27.after))))]) (fun _ w' => w35 = w') ?_ ?_
        · simp only [List.take, List.drop]
          rcases Bool.eq_false_or_eq_true (decide (x27.after < 1)) with hc41 | hc41
          · refine V_gn rfl rfl rfl hc41 rfl rfl rfl ?_
            refine V_gn rfl rfl rfl hc41 rfl rfl rfl ?_
            refine V_gn rfl rfl rfl hc41 rfl rfl rfl ?_
            refine V_y (Y_pick_te rfl hc41 rfl) rfl rfl rfl ?_
            exact V_end fun a ha => ⟨(), ha.sub ⟨rfl, rfl, rfl, rfl, rfl, rfl, (by rw [hc41]; rfl), trivial⟩, rfl⟩
          · refine V_ge rfl rfl rfl hc41 ?_
            have h43 := El_route_Step_0 h37
            refine V_y (Y_fieldAddr Tryd.underlying81 rfl Tryd.sizeOf3 (by decide) rfl) rfl rfl rfl ?_
            refine V_ge rfl rfl rfl hc41 ?_
            refine V_y (Y_load (El.int h43) Tryd.isAgg3 rfl) rfl rfl rfl ?_
            refine V_ge rfl rfl rfl hc41 ?_
            refine V_y (Y_gtr rfl rfl) rfl rfl rfl ?_
            refine V_y (Y_pick_fe rfl hc41 rfl) rfl rfl rfl ?_
            exact V_end fun a ha => ⟨(), ha.sub ⟨rfl, rfl, rfl, rfl, rfl, rfl, (by rw [hc41]; rfl), trivial⟩, rfl⟩
        simp only [List.take, List.drop]
        rintro _ _ rfl
        refine V_y (Y_move rfl) rfl rfl rfl ?_
        refine V_cut 4 (fun _ : Unit => [(0, v_l), (3, .int .i64 (k7 : Int)), (4, .pointer (some ⟨b32, 0, none⟩)), (8, v_l), (9, .int .i64 (l.length : Int)), (10, .int .i64 (k7 : Int)), (28, .bool (((decide (x27.after < 1)) || (decide ((3000000 : Int) < x27.after))) || (decide (x27.lower < 0))))]) (fun _ w' => w35 = w') ?_ ?_
        · simp only [List.take, List.drop]
          rcases Bool.eq_false_or_eq_true (((decide (x27.after < 1)) || (decide ((3000000 : Int) < x27.after)))) with hc44 | hc44
          · refine V_gn rfl rfl rfl hc44 rfl rfl rfl ?_
            refine V_gn rfl rfl rfl hc44 rfl rfl rfl ?_
            refine V_gn rfl rfl rfl hc44 rfl rfl rfl ?_
            refine V_y (Y_pick_te rfl hc44 rfl) rfl rfl rfl ?_
            exact V_end fun a ha => ⟨(), ha.sub ⟨rfl, rfl, rfl, rfl, rfl, rfl, (by rw [hc44]; rfl), trivial⟩, rfl⟩
          · refine V_ge rfl rfl rfl hc44 ?_
            have h46 := El_route_Step_1 h37
            refine V_y (Y_fieldAddr Tryd.underlying81 rfl Tryd.sizeOf3 (by decide) rfl) rfl rfl rfl ?_
            refine V_ge rfl rfl rfl hc44 ?_
            refine V_y (Y_load (El.int h46) Tryd.isAgg3 rfl) rfl rfl rfl ?_
            refine V_ge rfl rfl rfl hc44 ?_
            refine V_y (Y_lss rfl rfl) rfl rfl rfl ?_
            refine V_y (Y_pick_fe rfl hc44 rfl) rfl rfl rfl ?_
            exact V_end fun a ha => ⟨(), ha.sub ⟨rfl, rfl, rfl, rfl, rfl, rfl, (by rw [hc44]; rfl), trivial⟩, rfl⟩
        simp only [List.take, List.drop]
        rintro _ _ rfl
        refine V_y (Y_move rfl) rfl rfl rfl ?_
        refine V_cut 4 (fun _ : Unit => [(0, v_l), (3, .int .i64 (k7 : Int)), (4, .pointer (some ⟨b32, 0, none⟩)), (8, v_l), (9, .int .i64 (l.length : Int)), (10, .int .i64 (k7 : Int)), (33, .bool ((((decide (x27.after < 1)) || (decide ((3000000 : Int) < x27.after))) || (decide (x27.lower < 0))) || (decide ((9 : Int) < x27.lower))))]) (fun _ w' => w35 = w') ?_ ?_
        · simp only [List.take, List.drop]
          rcases Bool.eq_false_or_eq_true ((((decide (x27.after < 1)) || (decide ((3000000 : Int) < x27.after))) || (decide (x27.lower < 0)))) with hc47 | hc47
          · refine V_gn rfl rfl rfl hc47 rfl rfl rfl ?_
            refine V_gn rfl rfl rfl hc47 rfl rfl rfl ?_
            refine V_gn rfl rfl rfl hc47 rfl rfl rfl ?_
            refine V_y (Y_pick_te rfl hc47 rfl) rfl rfl rfl ?_
            exact V_end fun a ha => ⟨(), ha.sub ⟨rfl, rfl, rfl, rfl, rfl, rfl, (by rw [hc47]; rfl), trivial⟩, rfl⟩
          · refine V_ge rfl rfl rfl hc47 ?_
            have h49 := El_route_Step_1 h37
            refine V_y (Y_fieldAddr Tryd.underlying81 rfl Tryd.sizeOf3 (by decide) rfl) rfl rfl rfl ?_
            refine V_ge rfl rfl rfl hc47 ?_
            refine V_y (Y_load (El.int h49) Tryd.isAgg3 rfl) rfl rfl rfl ?_
            refine V_ge rfl rfl rfl hc47 ?_
            refine V_y (Y_gtr rfl rfl) rfl rfl rfl ?_
            refine V_y (Y_pick_fe rfl hc47 rfl) rfl rfl rfl ?_
            exact V_end fun a ha => ⟨(), ha.sub ⟨rfl, rfl, rfl, rfl, rfl, rfl, (by rw [hc47]; rfl), trivial⟩, rfl⟩
        simp only [List.take, List.drop]
        rintro _ _ rfl
        refine V_y (Y_assign rfl) rfl rfl rfl ?_
        refine V_to (fun _ _ => rfl) ?_
        refine C_cond rfl (fun hc50 => ?_) (fun hc50 => ?_)
        · rw [if_pos hc50] at h19
          refine C_seq ?_
          refine C_region ?_
          refine V_y (Y_assign rfl) rfl rfl rfl ?_
          refine V_to (fun _ _ => rfl) ?_
          obtain rfl := Option.some.inj h19
          obtain rfl := (h20 : Lp.rt _ = _)
          rw [Lp.andThen_rt] at hm
          obtain rfl := Option.some.inj hm
          refine C_ret ?_
          try simp only [↓inBlock_ret, ↓then_ret]
          exact retQ rfl (Res.one Tryd.results16 rfl) ⟨rfl, hK.kp⟩
        · rw [if_neg (nt hc50)] at h19
          refine C_seq ?_
          refine C_region_q Tryd_mixed (by kernel_rfl) ?_
          refine VQ_y (fun w' hw' => Y_move rfl) rfl rfl rfl ?_
          refine VQ_y (fun w' hw' => Y_gtr rfl rfl) rfl rfl rfl ?_
          refine VQ_y (fun w' hw' => Y_move rfl) rfl rfl rfl ?_
          obtain ⟨s52, hs52, h19⟩ := Option.bind_eq_some_iff.1 h19
          refine VQ_cut 10 (fun _ : Unit => [(0, v_l), (8, v_l), (9, .int .i64 (l.length : Int)), (10, .int .i64 (k7 : Int)), (47, .bool s52)]) (fun _ => True) ?_ ?_
          · simp only [List.take, List.drop]
            rcases Bool.eq_false_or_eq_true (decide ((0 : Int) < (k7 : Int))) with hc51 | hc51
            · rw [if_pos hc51] at hs52
              refine VQ_ge rfl rfl rfl hc51 ?_
              have h53 := El_route_Step_0 h37
              refine VQ_y (fun w' hw' => Y_fieldAddr Tryd.underlying81 rfl Tryd.sizeOf3 (by decide) rfl) rfl rfl rfl ?_
              refine VQ_ge rfl rfl rfl hc51 ?_
              refine VQ_y (fun w' hw' => Y_load (El.int (El.kp h53 hw')) Tryd.isAgg3 rfl) rfl rfl rfl ?_
              refine VQ_ge rfl rfl rfl hc51 ?_
              refine VQ_y (fun w' hw' => Y_move rfl) rfl rfl rfl ?_
              refine VQ_ge rfl rfl rfl hc51 ?_
              refine VQ_y (fun w' hw' => Y_move rfl) rfl rfl rfl ?_
              refine VQ_ge rfl rfl rfl hc51 ?_
              refine VQ_y (fun w' hw' => Y_subI rfl rfl) rfl rfl rfl ?_
              refine VQ_ge rfl rfl rfl hc51 ?_
              obtain ⟨x54, hx54, hs52⟩ := Option.bind_eq_some_iff.1 hs52
              refine VQ_indexAddr h_l hx54 Tryd.underlying36 Tryd.sizeOf81 rfl rfl rfl ?_
              intro b55 o56 h57
              refine VQ_ge rfl rfl rfl hc51 ?_
              have h58 := El_route_Step_0 h57
              refine VQ_y (fun w' hw' => Y_fieldAddr Tryd.underlying81 rfl Tryd.sizeOf3 (by decide) rfl) rfl rfl rfl ?_
              refine VQ_ge rfl rfl rfl hc51 ?_
              refine VQ_y (fun w' hw' => Y_load (El.int (El.kp h58 hw')) Tryd.isAgg3 rfl) rfl rfl rfl ?_
              refine VQ_ge rfl rfl rfl hc51 ?_
              refine VQ_y (fun w' hw' => Y_leq rfl rfl) rfl rfl rfl ?_
              refine VQ_y (fun _ _ => Y_pick_te rfl hc51 rfl) rfl rfl rfl ?_
              obtain rfl := Option.some.inj hs52
              exact VQ_end fun a ha => ⟨(), ha.sub ⟨rfl, rfl, rfl, rfl, rfl, trivial⟩, trivial⟩
            · rw [if_neg (nt hc51)] at hs52
              refine VQ_gn rfl rfl rfl hc51 rfl rfl rfl ?_
              refine VQ_gn rfl rfl rfl hc51 rfl rfl rfl ?_
              refine VQ_gn rfl rfl rfl hc51 rfl rfl rfl ?_
              refine VQ_gn rfl rfl rfl hc51 rfl rfl rfl ?_
              refine VQ_gn rfl rfl rfl hc51 rfl rfl rfl ?_
              refine VQ_gn rfl rfl rfl hc51 rfl rfl rfl ?_
              refine VQ_gn rfl rfl rfl hc51 rfl rfl rfl ?_
              refine VQ_gn rfl rfl rfl hc51 rfl rfl rfl ?_
              refine VQ_gn rfl rfl rfl hc51 rfl rfl rfl ?_
              refine VQ_y (fun _ _ => Y_pick_fe rfl hc51 rfl) rfl rfl rfl ?_
              obtain rfl := Option.some.inj hs52
              exact VQ_end fun a ha => ⟨(), ha.sub ⟨rfl, rfl, rfl, rfl, rfl, trivial⟩, trivial⟩
          simp only [List.take, List.drop]
          rintro _ _
          refine VQ_y (fun w' hw' => Y_assign rfl) rfl rfl rfl ?_
          refine VQ_to (fun _ _ => rfl) (fun w59 hk60 => ?_)
          have ht61 := Kp.tr hk60 hA hB
          replace hH := Hp.kp hH hk60
          replace h_l := Sl.tr h_l ht61
          replace hK := Tr.trans hK ht61
          replace hr6 := Tr.trans hr6 ht61
          replace hB := Nat.le_trans hB ht61.ex.size
          replace hA := ht61.new
          refine C_cond rfl (fun hc62 => ?_) (fun hc62 => ?_)
          · rw [if_pos hc62] at h19
            refine C_seq ?_
            refine C_region ?_
            refine V_y (Y_assign rfl) rfl rfl rfl ?_
            refine V_to (fun _ _ => rfl) ?_
            obtain rfl := Option.some.inj h19
            obtain rfl := (h20 : Lp.rt _ = _)
            rw [Lp.andThen_rt] at hm
            obtain rfl := Option.some.inj hm
            refine C_ret ?_
            try simp only [↓inBlock_ret, ↓then_ret]
            exact retQ rfl (Res.one Tryd.results16 rfl) ⟨rfl, hK.kp⟩
          · rw [if_neg (nt hc62)] at h19
            refine C_skip_to (fun _ _ => rfl) ?_
            refine C_region ?_
            refine V_y (Y_addI rfl rfl) rfl rfl rfl ?_
            refine V_y (Y_move rfl) rfl rfl rfl ?_
            obtain rfl := Option.some.inj h19
            refine V_end (fun a ha63 => ?_)
            exact ⟨(), hlt22, h20, ⟨A16, ha63.sub ⟨rfl, rfl, rfl, (congrArg (fun z => some (Value.int .i64 z)) (w64_succ hlt22 hn25)), trivial⟩, ⟨hH, hr6⟩⟩⟩
      · refine C_exit (fun a ha64 => ?_)
        exact ⟨((), A16), ha64.sub trivial, ⟨(h23 (eq_of_dec hle21 hc26)).symm, hH, hr6⟩⟩
    rintro ⟨s5, A12⟩ w9 ⟨rfl, hH13, hk10⟩ a ha11
    rw [Lp.andThen_fin] at hm
    replace hK := Tr.trans hK hk10
    replace hB := Nat.le_trans hB hk10.ex.size
    replace hA := hk10.new
    replace hH : Hp w.heap.size A12 w9 ([]) := hH13
    refine C_at (n := ⟨49, [], none⟩) (fun _ _ => rfl) ?_ ha11
    refine C_seq ?_
    refine C_region ?_
    refine V_y (Y_assign rfl) rfl rfl rfl ?_
    refine V_to (fun _ _ => rfl) ?_
    obtain rfl := Option.some.inj hm
    refine C_ret ?_
    try simp only [↓inBlock_ret, ↓then_ret]
    exact retQ rfl (Res.one Tryd.results16 rfl) ⟨rfl, hK.kp⟩

set_option maxRecDepth 4000 in
set_option maxHeartbeats 4000000 in
theorem portlaw2_RouteChecks_c (w : World) {A : Nat → Prop} (hA : ∀ b, w.heap.size ≤ b → A b) (hT : Tb Tryd.prog A w) (people : (List route_Person)) (v_people : Value) (h_people : Sl A w v_people people) (work : (List route_Work)) (v_work : Value) (h_work : Sl A w v_work work) (steps : (List route_Step)) (v_steps : Value) (h_steps : Sl A w v_steps steps) {r : Bool} (hm : portlaw2_RouteChecks people work steps = some r) : Ret Tryd.prog 4 #[v_people, v_work, v_steps] w fun v w' => v = .bool r ∧ Kp w w' := by
  unfold portlaw2_RouteChecks at hm
  refine enter Tryd.func4 rfl Tryd.ntmps4 rfl ?_
  have hA0 := hA
  have hB := Nat.le_refl w.heap.size
  have hK : Tr w.heap.size A w A w := Tr.refl hA
  have hH : Hp w.heap.size A w [] := Hp.nil
  refine C_seq ?_
  refine C_region ?_
  refine V_y (Y_assign rfl) rfl rfl rfl ?_
  refine V_to (fun _ _ => rfl) ?_
  refine C_seq ?_
  refine C_region ?_
  refine V_y (Y_move rfl) rfl rfl rfl ?_
  obtain ⟨x7, hx7, hm⟩ := Option.bind_eq_some_iff.1 hm
  refine V_call Tryd.call9 rfl rfl rfl rfl (route_PeopleText_c w hA (Tb.tr hT hK) people v_people h_people hx7) ?_
  rintro _ w9 ⟨rfl, hk10⟩
  have ht11 := Kp.tr hk10 hA hB
  replace hH := Hp.kp hH hk10
  replace h_people := Sl.tr h_people ht11
  replace h_work := Sl.tr h_work ht11
  replace h_steps := Sl.tr h_steps ht11
  replace hK := Tr.trans hK ht11
  replace hB := Nat.le_trans hB ht11.ex.size
  replace hA := ht11.new
  refine V_y (Y_move rfl) rfl rfl rfl ?_
  refine V_y (Y_extract rfl rfl) rfl rfl rfl ?_
  refine V_y (Y_extract rfl rfl) rfl rfl rfl ?_
  refine V_y (Y_assign rfl) rfl rfl rfl ?_
  refine V_y (Y_assign rfl) rfl rfl rfl ?_
  refine V_to (fun _ _ => rfl) ?_
  refine C_seq ?_
  refine C_region ?_
  refine V_y (Y_move rfl) rfl rfl rfl ?_
  obtain ⟨x12, hx12, hm⟩ := Option.bind_eq_some_iff.1 hm
  refine V_call Tryd.call10 rfl rfl rfl rfl (portref2_PeopleString_c w9 hA (Tb.tr hT hK) people v_people h_people hx12) ?_
  rintro _ w13 ⟨rfl, hk14⟩
  have ht15 := Kp.tr hk14 hA hB
  replace hH := Hp.kp hH hk14
  replace h_people := Sl.tr h_people ht15
  replace h_work := Sl.tr h_work ht15
  replace h_steps := Sl.tr h_steps ht15
  replace hK := Tr.trans hK ht15
  replace hB := Nat.le_trans hB ht15.ex.size
  replace hA := ht15.new
  refine V_y (Y_move rfl) rfl rfl rfl ?_
  refine V_y (Y_extract rfl rfl) rfl rfl rfl ?_
  refine V_y (Y_extract rfl rfl) rfl rfl rfl ?_
  refine V_y (Y_assign rfl) rfl rfl rfl ?_
  refine V_y (Y_assign rfl) rfl rfl rfl ?_
  refine V_to (fun _ _ => rfl) ?_
  refine C_seq ?_
  obtain ⟨s17, ho16, hm⟩ := Option.bind_eq_some_iff.1 hm
  refine C_cutG (ι := (Nat → Prop)) (fun (A22 : (Nat → Prop)) => [(6, .bool s17)]) (fun (A22 : (Nat → Prop)) => fun w' => Hp w.heap.size A22 w' ([]) ∧ Tr w.heap.size A w13 A22 w') ?_ ?_
  · have hr18 : Tr w.heap.size A w13 A w13 := Tr.refl hA
    refine C_region ?_
    refine V_y (Y_move rfl) rfl rfl rfl ?_
    refine V_y (Y_move rfl) rfl rfl rfl ?_
    refine V_y (Y_seql rfl rfl) rfl rfl rfl ?_
    refine V_y (Y_move rfl) rfl rfl rfl ?_
    rcases Bool.eq_false_or_eq_true (strEq x7.1 x12.1) with hc24 | hc24
    · rw [if_pos hc24] at ho16
      refine V_ge rfl rfl rfl hc24 ?_
      refine V_y (Y_move rfl) rfl rfl rfl ?_
      refine V_ge rfl rfl rfl hc24 ?_
      refine V_y (Y_move rfl) rfl rfl rfl ?_
      refine V_ge rfl rfl rfl hc24 ?_
      refine V_y (Y_eql rfl rfl) rfl rfl rfl ?_
      refine V_y (Y_pick_te rfl hc24 rfl) rfl rfl rfl ?_
      refine V_y (Y_move rfl) rfl rfl rfl ?_
      rcases Bool.eq_false_or_eq_true (x7.2 == x12.2) with hc25 | hc25
      · rw [if_pos hc25] at ho16
        refine V_ge rfl rfl rfl hc25 ?_
        refine V_y (Y_move rfl) rfl rfl rfl ?_
        refine V_ge rfl rfl rfl hc25 ?_
        obtain ⟨x26, hx26, ho16⟩ := Option.bind_eq_some_iff.1 ho16
        refine V_call Tryd.call11 rfl rfl rfl rfl (route_CheckPeople_c w13 hA people v_people h_people hx26) ?_
        rintro _ w27 ⟨rfl, hk28⟩
        have ht29 := Kp.tr hk28 hA hB
        replace hH := Hp.kp hH hk28
        replace h_people := Sl.tr h_people ht29
        replace h_work := Sl.tr h_work ht29
        replace h_steps := Sl.tr h_steps ht29
        replace hK := Tr.trans hK ht29
        replace hr18 := Tr.trans hr18 ht29
        replace hB := Nat.le_trans hB ht29.ex.size
        replace hA := ht29.new
        refine V_ge rfl rfl rfl hc25 ?_
        refine V_y (Y_move rfl) rfl rfl rfl ?_
        refine V_ge rfl rfl rfl hc25 ?_
        obtain ⟨x30, hx30, ho16⟩ := Option.bind_eq_some_iff.1 ho16
        refine V_call Tryd.call12 rfl rfl rfl rfl (portref2_PeopleFault_c w27 hA people v_people h_people hx30) ?_
        rintro _ w31 ⟨rfl, hk32⟩
        have ht33 := Kp.tr hk32 hA hB
        replace hH := Hp.kp hH hk32
        replace h_people := Sl.tr h_people ht33
        replace h_work := Sl.tr h_work ht33
        replace h_steps := Sl.tr h_steps ht33
        replace hK := Tr.trans hK ht33
        replace hr18 := Tr.trans hr18 ht33
        replace hB := Nat.le_trans hB ht33.ex.size
        replace hA := ht33.new
        refine V_ge rfl rfl rfl hc25 ?_
        refine V_y (Y_eql rfl rfl) rfl rfl rfl ?_
        refine V_y (Y_pick_te rfl hc25 rfl) rfl rfl rfl ?_
        refine V_y (Y_move rfl) rfl rfl rfl ?_
        rcases Bool.eq_false_or_eq_true (x26 == x30) with hc34 | hc34
        · rw [if_pos hc34] at ho16
          refine V_ge rfl rfl rfl hc34 ?_
          refine V_y (Y_move rfl) rfl rfl rfl ?_
          refine V_ge rfl rfl rfl hc34 ?_
          obtain ⟨x35, hx35, ho16⟩ := Option.bind_eq_some_iff.1 ho16
          refine V_call Tryd.call13 rfl rfl rfl rfl (route_CheckWork_c w31 hA work v_work h_work hx35) ?_
          rintro _ w36 ⟨rfl, hk37⟩
          have ht38 := Kp.tr hk37 hA hB
          replace hH := Hp.kp hH hk37
          replace h_people := Sl.tr h_people ht38
          replace h_work := Sl.tr h_work ht38
          replace h_steps := Sl.tr h_steps ht38
          replace hK := Tr.trans hK ht38
          replace hr18 := Tr.trans hr18 ht38
          replace hB := Nat.le_trans hB ht38.ex.size
          replace hA := ht38.new
          refine V_ge rfl rfl rfl hc34 ?_
          refine V_y (Y_move rfl) rfl rfl rfl ?_
          refine V_ge rfl rfl rfl hc34 ?_
          obtain ⟨x39, hx39, ho16⟩ := Option.bind_eq_some_iff.1 ho16
          refine V_call Tryd.call14 rfl rfl rfl rfl (portref2_WorkFault_c w36 hA work v_work h_work hx39) ?_
          rintro _ w40 ⟨rfl, hk41⟩
          have ht42 := Kp.tr hk41 hA hB
          replace hH := Hp.kp hH hk41
          replace h_people := Sl.tr h_people ht42
          replace h_work := Sl.tr h_work ht42
          replace h_steps := Sl.tr h_steps ht42
          replace hK := Tr.trans hK ht42
          replace hr18 := Tr.trans hr18 ht42
          replace hB := Nat.le_trans hB ht42.ex.size
          replace hA := ht42.new
          refine V_ge rfl rfl rfl hc34 ?_
          refine V_y (Y_eql rfl rfl) rfl rfl rfl ?_
          refine V_y (Y_pick_te rfl hc34 rfl) rfl rfl rfl ?_
          refine V_y (Y_move rfl) rfl rfl rfl ?_
          rcases Bool.eq_false_or_eq_true (x35 == x39) with hc43 | hc43
          · rw [if_pos hc43] at ho16
            refine V_ge rfl rfl rfl hc43 ?_
            refine V_y (Y_move rfl) rfl rfl rfl ?_
            refine V_ge rfl rfl rfl hc43 ?_
            obtain ⟨x44, hx44, ho16⟩ := Option.bind_eq_some_iff.1 ho16
            refine V_call Tryd.call15 rfl rfl rfl rfl (route_CheckSteps_c w40 hA steps v_steps h_steps hx44) ?_
            rintro _ w45 ⟨rfl, hk46⟩
            have ht47 := Kp.tr hk46 hA hB
            replace hH := Hp.kp hH hk46
            replace h_people := Sl.tr h_people ht47
            replace h_work := Sl.tr h_work ht47
            replace h_steps := Sl.tr h_steps ht47
            replace hK := Tr.trans hK ht47
            replace hr18 := Tr.trans hr18 ht47
            replace hB := Nat.le_trans hB ht47.ex.size
            replace hA := ht47.new
            refine V_ge rfl rfl rfl hc43 ?_
            refine V_y (Y_move rfl) rfl rfl rfl ?_
            refine V_ge rfl rfl rfl hc43 ?_
            obtain ⟨x48, hx48, ho16⟩ := Option.bind_eq_some_iff.1 ho16
            refine V_call Tryd.call16 rfl rfl rfl rfl (portref2_StepsFault_c w45 hA steps v_steps h_steps hx48) ?_
            rintro _ w49 ⟨rfl, hk50⟩
            have ht51 := Kp.tr hk50 hA hB
            replace hH := Hp.kp hH hk50
            replace h_people := Sl.tr h_people ht51
            replace h_work := Sl.tr h_work ht51
            replace h_steps := Sl.tr h_steps ht51
            replace hK := Tr.trans hK ht51
            replace hr18 := Tr.trans hr18 ht51
            replace hB := Nat.le_trans hB ht51.ex.size
            replace hA := ht51.new
            refine V_ge rfl rfl rfl hc43 ?_
            refine V_y (Y_eql rfl rfl) rfl rfl rfl ?_
            refine V_y (Y_pick_te rfl hc43 rfl) rfl rfl rfl ?_
            refine V_y (Y_assign rfl) rfl rfl rfl ?_
            obtain rfl := Option.some.inj ho16
            refine V_end (fun a ha52 => ?_)
            exact ⟨A, ha52.sub ⟨rfl, trivial⟩, ⟨hH, hr18⟩⟩
          · rw [if_neg (nt hc43)] at ho16
            refine V_gn rfl rfl rfl hc43 rfl rfl rfl ?_
            refine V_gn rfl rfl rfl hc43 rfl rfl rfl ?_
            refine V_gn rfl rfl rfl hc43 rfl rfl rfl ?_
            refine V_gn rfl rfl rfl hc43 rfl rfl rfl ?_
            refine V_gn rfl rfl rfl hc43 rfl rfl rfl ?_
            refine V_y (Y_pick_fe rfl hc43 rfl) rfl rfl rfl ?_
            refine V_y (Y_assign rfl) rfl rfl rfl ?_
            obtain rfl := Option.some.inj ho16
            refine V_end (fun a ha53 => ?_)
            exact ⟨A, ha53.sub ⟨rfl, trivial⟩, ⟨hH, hr18⟩⟩
        · rw [if_neg (nt hc34)] at ho16
          refine V_gn rfl rfl rfl hc34 rfl rfl rfl ?_
          refine V_gn rfl rfl rfl hc34 rfl rfl rfl ?_
          refine V_gn rfl rfl rfl hc34 rfl rfl rfl ?_
          refine V_gn rfl rfl rfl hc34 rfl rfl rfl ?_
          refine V_gn rfl rfl rfl hc34 rfl rfl rfl ?_
          refine V_y (Y_pick_fe rfl hc34 rfl) rfl rfl rfl ?_
          refine V_y (Y_move rfl) rfl rfl rfl ?_
          rcases Bool.eq_false_or_eq_true (false) with hc54 | hc54
          · rw [if_pos hc54] at ho16
            refine V_ge rfl rfl rfl hc54 ?_
            refine V_y (Y_move rfl) rfl rfl rfl ?_
            refine V_ge rfl rfl rfl hc54 ?_
            obtain ⟨x55, hx55, ho16⟩ := Option.bind_eq_some_iff.1 ho16
            refine V_call Tryd.call15 rfl rfl rfl rfl (route_CheckSteps_c w31 hA steps v_steps h_steps hx55) ?_
            rintro _ w56 ⟨rfl, hk57⟩
            have ht58 := Kp.tr hk57 hA hB
            replace hH := Hp.kp hH hk57
            replace h_people := Sl.tr h_people ht58
            replace h_work := Sl.tr h_work ht58
            replace h_steps := Sl.tr h_steps ht58
            replace hK := Tr.trans hK ht58
            replace hr18 := Tr.trans hr18 ht58
            replace hB := Nat.le_trans hB ht58.ex.size
            replace hA := ht58.new
            refine V_ge rfl rfl rfl hc54 ?_
            refine V_y (Y_move rfl) rfl rfl rfl ?_
            refine V_ge rfl rfl rfl hc54 ?_
            obtain ⟨x59, hx59, ho16⟩ := Option.bind_eq_some_iff.1 ho16
            refine V_call Tryd.call16 rfl rfl rfl rfl (portref2_StepsFault_c w56 hA steps v_steps h_steps hx59) ?_
            rintro _ w60 ⟨rfl, hk61⟩
            have ht62 := Kp.tr hk61 hA hB
            replace hH := Hp.kp hH hk61
            replace h_people := Sl.tr h_people ht62
            replace h_work := Sl.tr h_work ht62
            replace h_steps := Sl.tr h_steps ht62
            replace hK := Tr.trans hK ht62
            replace hr18 := Tr.trans hr18 ht62
            replace hB := Nat.le_trans hB ht62.ex.size
            replace hA := ht62.new
            refine V_ge rfl rfl rfl hc54 ?_
            refine V_y (Y_eql rfl rfl) rfl rfl rfl ?_
            refine V_y (Y_pick_te rfl hc54 rfl) rfl rfl rfl ?_
            refine V_y (Y_assign rfl) rfl rfl rfl ?_
            obtain rfl := Option.some.inj ho16
            refine V_end (fun a ha63 => ?_)
            exact ⟨A, ha63.sub ⟨rfl, trivial⟩, ⟨hH, hr18⟩⟩
          · rw [if_neg (nt hc54)] at ho16
            refine V_gn rfl rfl rfl hc54 rfl rfl rfl ?_
            refine V_gn rfl rfl rfl hc54 rfl rfl rfl ?_
            refine V_gn rfl rfl rfl hc54 rfl rfl rfl ?_
            refine V_gn rfl rfl rfl hc54 rfl rfl rfl ?_
            refine V_gn rfl rfl rfl hc54 rfl rfl rfl ?_
            refine V_y (Y_pick_fe rfl hc54 rfl) rfl rfl rfl ?_
            refine V_y (Y_assign rfl) rfl rfl rfl ?_
            obtain rfl := Option.some.inj ho16
            refine V_end (fun a ha64 => ?_)
            exact ⟨A, ha64.sub ⟨rfl, trivial⟩, ⟨hH, hr18⟩⟩
      · rw [if_neg (nt hc25)] at ho16
        refine V_gn rfl rfl rfl hc25 rfl rfl rfl ?_
        refine V_gn rfl rfl rfl hc25 rfl rfl rfl ?_
        refine V_gn rfl rfl rfl hc25 rfl rfl rfl ?_
        refine V_gn rfl rfl rfl hc25 rfl rfl rfl ?_
        refine V_gn rfl rfl rfl hc25 rfl rfl rfl ?_
        refine V_y (Y_pick_fe rfl hc25 rfl) rfl rfl rfl ?_
        refine V_y (Y_move rfl) rfl rfl rfl ?_
        rcases Bool.eq_false_or_eq_true (false) with hc65 | hc65
        · rw [if_pos hc65] at ho16
          refine V_ge rfl rfl rfl hc65 ?_
          refine V_y (Y_move rfl) rfl rfl rfl ?_
          refine V_ge rfl rfl rfl hc65 ?_
          obtain ⟨x66, hx66, ho16⟩ := Option.bind_eq_some_iff.1 ho16
          refine V_call Tryd.call13 rfl rfl rfl rfl (route_CheckWork_c w13 hA work v_work h_work hx66) ?_
          rintro _ w67 ⟨rfl, hk68⟩
          have ht69 := Kp.tr hk68 hA hB
          replace hH := Hp.kp hH hk68
          replace h_people := Sl.tr h_people ht69
          replace h_work := Sl.tr h_work ht69
          replace h_steps := Sl.tr h_steps ht69
          replace hK := Tr.trans hK ht69
          replace hr18 := Tr.trans hr18 ht69
          replace hB := Nat.le_trans hB ht69.ex.size
          replace hA := ht69.new
          refine V_ge rfl rfl rfl hc65 ?_
          refine V_y (Y_move rfl) rfl rfl rfl ?_
          refine V_ge rfl rfl rfl hc65 ?_
          obtain ⟨x70, hx70, ho16⟩ := Option.bind_eq_some_iff.1 ho16
          refine V_call Tryd.call14 rfl rfl rfl rfl (portref2_WorkFault_c w67 hA work v_work h_work hx70) ?_
          rintro _ w71 ⟨rfl, hk72⟩
          have ht73 := Kp.tr hk72 hA hB
          replace hH := Hp.kp hH hk72
          replace h_people := Sl.tr h_people ht73
          replace h_work := Sl.tr h_work ht73
          replace h_steps := Sl.tr h_steps ht73
          replace hK := Tr.trans hK ht73
          replace hr18 := Tr.trans hr18 ht73
          replace hB := Nat.le_trans hB ht73.ex.size
          replace hA := ht73.new
          refine V_ge rfl rfl rfl hc65 ?_
          refine V_y (Y_eql rfl rfl) rfl rfl rfl ?_
          refine V_y (Y_pick_te rfl hc65 rfl) rfl rfl rfl ?_
          refine V_y (Y_move rfl) rfl rfl rfl ?_
          rcases Bool.eq_false_or_eq_true (x66 == x70) with hc74 | hc74
          · rw [if_pos hc74] at ho16
            refine V_ge rfl rfl rfl hc74 ?_
            refine V_y (Y_move rfl) rfl rfl rfl ?_
            refine V_ge rfl rfl rfl hc74 ?_
            obtain ⟨x75, hx75, ho16⟩ := Option.bind_eq_some_iff.1 ho16
            refine V_call Tryd.call15 rfl rfl rfl rfl (route_CheckSteps_c w71 hA steps v_steps h_steps hx75) ?_
            rintro _ w76 ⟨rfl, hk77⟩
            have ht78 := Kp.tr hk77 hA hB
            replace hH := Hp.kp hH hk77
            replace h_people := Sl.tr h_people ht78
            replace h_work := Sl.tr h_work ht78
            replace h_steps := Sl.tr h_steps ht78
            replace hK := Tr.trans hK ht78
            replace hr18 := Tr.trans hr18 ht78
            replace hB := Nat.le_trans hB ht78.ex.size
            replace hA := ht78.new
            refine V_ge rfl rfl rfl hc74 ?_
            refine V_y (Y_move rfl) rfl rfl rfl ?_
            refine V_ge rfl rfl rfl hc74 ?_
            obtain ⟨x79, hx79, ho16⟩ := Option.bind_eq_some_iff.1 ho16
            refine V_call Tryd.call16 rfl rfl rfl rfl (portref2_StepsFault_c w76 hA steps v_steps h_steps hx79) ?_
            rintro _ w80 ⟨rfl, hk81⟩
            have ht82 := Kp.tr hk81 hA hB
            replace hH := Hp.kp hH hk81
            replace h_people := Sl.tr h_people ht82
            replace h_work := Sl.tr h_work ht82
            replace h_steps := Sl.tr h_steps ht82
            replace hK := Tr.trans hK ht82
            replace hr18 := Tr.trans hr18 ht82
            replace hB := Nat.le_trans hB ht82.ex.size
            replace hA := ht82.new
            refine V_ge rfl rfl rfl hc74 ?_
            refine V_y (Y_eql rfl rfl) rfl rfl rfl ?_
            refine V_y (Y_pick_te rfl hc74 rfl) rfl rfl rfl ?_
            refine V_y (Y_assign rfl) rfl rfl rfl ?_
            obtain rfl := Option.some.inj ho16
            refine V_end (fun a ha83 => ?_)
            exact ⟨A, ha83.sub ⟨rfl, trivial⟩, ⟨hH, hr18⟩⟩
          · rw [if_neg (nt hc74)] at ho16
            refine V_gn rfl rfl rfl hc74 rfl rfl rfl ?_
            refine V_gn rfl rfl rfl hc74 rfl rfl rfl ?_
            refine V_gn rfl rfl rfl hc74 rfl rfl rfl ?_
            refine V_gn rfl rfl rfl hc74 rfl rfl rfl ?_
            refine V_gn rfl rfl rfl hc74 rfl rfl rfl ?_
            refine V_y (Y_pick_fe rfl hc74 rfl) rfl rfl rfl ?_
            refine V_y (Y_assign rfl) rfl rfl rfl ?_
            obtain rfl := Option.some.inj ho16
            refine V_end (fun a ha84 => ?_)
            exact ⟨A, ha84.sub ⟨rfl, trivial⟩, ⟨hH, hr18⟩⟩
        · rw [if_neg (nt hc65)] at ho16
          refine V_gn rfl rfl rfl hc65 rfl rfl rfl ?_
          refine V_gn rfl rfl rfl hc65 rfl rfl rfl ?_
          refine V_gn rfl rfl rfl hc65 rfl rfl rfl ?_
          refine V_gn rfl rfl rfl hc65 rfl rfl rfl ?_
          refine V_gn rfl rfl rfl hc65 rfl rfl rfl ?_
          refine V_y (Y_pick_fe rfl hc65 rfl) rfl rfl rfl ?_
          refine V_y (Y_move rfl) rfl rfl rfl ?_
          rcases Bool.eq_false_or_eq_true (false) with hc85 | hc85
          · rw [if_pos hc85] at ho16
            refine V_ge rfl rfl rfl hc85 ?_
            refine V_y (Y_move rfl) rfl rfl rfl ?_
            refine V_ge rfl rfl rfl hc85 ?_
            obtain ⟨x86, hx86, ho16⟩ := Option.bind_eq_some_iff.1 ho16
            refine V_call Tryd.call15 rfl rfl rfl rfl (route_CheckSteps_c w13 hA steps v_steps h_steps hx86) ?_
            rintro _ w87 ⟨rfl, hk88⟩
            have ht89 := Kp.tr hk88 hA hB
            replace hH := Hp.kp hH hk88
            replace h_people := Sl.tr h_people ht89
            replace h_work := Sl.tr h_work ht89
            replace h_steps := Sl.tr h_steps ht89
            replace hK := Tr.trans hK ht89
            replace hr18 := Tr.trans hr18 ht89
            replace hB := Nat.le_trans hB ht89.ex.size
            replace hA := ht89.new
            refine V_ge rfl rfl rfl hc85 ?_
            refine V_y (Y_move rfl) rfl rfl rfl ?_
            refine V_ge rfl rfl rfl hc85 ?_
            obtain ⟨x90, hx90, ho16⟩ := Option.bind_eq_some_iff.1 ho16
            refine V_call Tryd.call16 rfl rfl rfl rfl (portref2_StepsFault_c w87 hA steps v_steps h_steps hx90) ?_
            rintro _ w91 ⟨rfl, hk92⟩
            have ht93 := Kp.tr hk92 hA hB
            replace hH := Hp.kp hH hk92
            replace h_people := Sl.tr h_people ht93
            replace h_work := Sl.tr h_work ht93
            replace h_steps := Sl.tr h_steps ht93
            replace hK := Tr.trans hK ht93
            replace hr18 := Tr.trans hr18 ht93
            replace hB := Nat.le_trans hB ht93.ex.size
            replace hA := ht93.new
            refine V_ge rfl rfl rfl hc85 ?_
            refine V_y (Y_eql rfl rfl) rfl rfl rfl ?_
            refine V_y (Y_pick_te rfl hc85 rfl) rfl rfl rfl ?_
            refine V_y (Y_assign rfl) rfl rfl rfl ?_
            obtain rfl := Option.some.inj ho16
            refine V_end (fun a ha94 => ?_)
            exact ⟨A, ha94.sub ⟨rfl, trivial⟩, ⟨hH, hr18⟩⟩
          · rw [if_neg (nt hc85)] at ho16
            refine V_gn rfl rfl rfl hc85 rfl rfl rfl ?_
            refine V_gn rfl rfl rfl hc85 rfl rfl rfl ?_
            refine V_gn rfl rfl rfl hc85 rfl rfl rfl ?_
            refine V_gn rfl rfl rfl hc85 rfl rfl rfl ?_
            refine V_gn rfl rfl rfl hc85 rfl rfl rfl ?_
            refine V_y (Y_pick_fe rfl hc85 rfl) rfl rfl rfl ?_
            refine V_y (Y_assign rfl) rfl rfl rfl ?_
            obtain rfl := Option.some.inj ho16
            refine V_end (fun a ha95 => ?_)
            exact ⟨A, ha95.sub ⟨rfl, trivial⟩, ⟨hH, hr18⟩⟩
    · rw [if_neg (nt hc24)] at ho16
      refine V_gn rfl rfl rfl hc24 rfl rfl rfl ?_
      refine V_gn rfl rfl rfl hc24 rfl rfl rfl ?_
      refine V_gn rfl rfl rfl hc24 rfl rfl rfl ?_
      refine V_y (Y_pick_fe rfl hc24 rfl) rfl rfl rfl ?_
      refine V_y (Y_move rfl) rfl rfl rfl ?_
      rcases Bool.eq_false_or_eq_true (false) with hc96 | hc96
      · rw [if_pos hc96] at ho16
        refine V_ge rfl rfl rfl hc96 ?_
        refine V_y (Y_move rfl) rfl rfl rfl ?_
        refine V_ge rfl rfl rfl hc96 ?_
        obtain ⟨x97, hx97, ho16⟩ := Option.bind_eq_some_iff.1 ho16
        refine V_call Tryd.call11 rfl rfl rfl rfl (route_CheckPeople_c w13 hA people v_people h_people hx97) ?_
        rintro _ w98 ⟨rfl, hk99⟩
        have ht100 := Kp.tr hk99 hA hB
        replace hH := Hp.kp hH hk99
        replace h_people := Sl.tr h_people ht100
        replace h_work := Sl.tr h_work ht100
        replace h_steps := Sl.tr h_steps ht100
        replace hK := Tr.trans hK ht100
        replace hr18 := Tr.trans hr18 ht100
        replace hB := Nat.le_trans hB ht100.ex.size
        replace hA := ht100.new
        refine V_ge rfl rfl rfl hc96 ?_
        refine V_y (Y_move rfl) rfl rfl rfl ?_
        refine V_ge rfl rfl rfl hc96 ?_
        obtain ⟨x101, hx101, ho16⟩ := Option.bind_eq_some_iff.1 ho16
        refine V_call Tryd.call12 rfl rfl rfl rfl (portref2_PeopleFault_c w98 hA people v_people h_people hx101) ?_
        rintro _ w102 ⟨rfl, hk103⟩
        have ht104 := Kp.tr hk103 hA hB
        replace hH := Hp.kp hH hk103
        replace h_people := Sl.tr h_people ht104
        replace h_work := Sl.tr h_work ht104
        replace h_steps := Sl.tr h_steps ht104
        replace hK := Tr.trans hK ht104
        replace hr18 := Tr.trans hr18 ht104
        replace hB := Nat.le_trans hB ht104.ex.size
        replace hA := ht104.new
        refine V_ge rfl rfl rfl hc96 ?_
        refine V_y (Y_eql rfl rfl) rfl rfl rfl ?_
        refine V_y (Y_pick_te rfl hc96 rfl) rfl rfl rfl ?_
        refine V_y (Y_move rfl) rfl rfl rfl ?_
        rcases Bool.eq_false_or_eq_true (x97 == x101) with hc105 | hc105
        · rw [if_pos hc105] at ho16
          refine V_ge rfl rfl rfl hc105 ?_
          refine V_y (Y_move rfl) rfl rfl rfl ?_
          refine V_ge rfl rfl rfl hc105 ?_
          obtain ⟨x106, hx106, ho16⟩ := Option.bind_eq_some_iff.1 ho16
          refine V_call Tryd.call13 rfl rfl rfl rfl (route_CheckWork_c w102 hA work v_work h_work hx106) ?_
          rintro _ w107 ⟨rfl, hk108⟩
          have ht109 := Kp.tr hk108 hA hB
          replace hH := Hp.kp hH hk108
          replace h_people := Sl.tr h_people ht109
          replace h_work := Sl.tr h_work ht109
          replace h_steps := Sl.tr h_steps ht109
          replace hK := Tr.trans hK ht109
          replace hr18 := Tr.trans hr18 ht109
          replace hB := Nat.le_trans hB ht109.ex.size
          replace hA := ht109.new
          refine V_ge rfl rfl rfl hc105 ?_
          refine V_y (Y_move rfl) rfl rfl rfl ?_
          refine V_ge rfl rfl rfl hc105 ?_
          obtain ⟨x110, hx110, ho16⟩ := Option.bind_eq_some_iff.1 ho16
          refine V_call Tryd.call14 rfl rfl rfl rfl (portref2_WorkFault_c w107 hA work v_work h_work hx110) ?_
          rintro _ w111 ⟨rfl, hk112⟩
          have ht113 := Kp.tr hk112 hA hB
          replace hH := Hp.kp hH hk112
          replace h_people := Sl.tr h_people ht113
          replace h_work := Sl.tr h_work ht113
          replace h_steps := Sl.tr h_steps ht113
          replace hK := Tr.trans hK ht113
          replace hr18 := Tr.trans hr18 ht113
          replace hB := Nat.le_trans hB ht113.ex.size
          replace hA := ht113.new
          refine V_ge rfl rfl rfl hc105 ?_
          refine V_y (Y_eql rfl rfl) rfl rfl rfl ?_
          refine V_y (Y_pick_te rfl hc105 rfl) rfl rfl rfl ?_
          refine V_y (Y_move rfl) rfl rfl rfl ?_
          rcases Bool.eq_false_or_eq_true (x106 == x110) with hc114 | hc114
          · rw [if_pos hc114] at ho16
            refine V_ge rfl rfl rfl hc114 ?_
            refine V_y (Y_move rfl) rfl rfl rfl ?_
            refine V_ge rfl rfl rfl hc114 ?_
            obtain ⟨x115, hx115, ho16⟩ := Option.bind_eq_some_iff.1 ho16
            refine V_call Tryd.call15 rfl rfl rfl rfl (route_CheckSteps_c w111 hA steps v_steps h_steps hx115) ?_
            rintro _ w116 ⟨rfl, hk117⟩
            have ht118 := Kp.tr hk117 hA hB
            replace hH := Hp.kp hH hk117
            replace h_people := Sl.tr h_people ht118
            replace h_work := Sl.tr h_work ht118
            replace h_steps := Sl.tr h_steps ht118
            replace hK := Tr.trans hK ht118
            replace hr18 := Tr.trans hr18 ht118
            replace hB := Nat.le_trans hB ht118.ex.size
            replace hA := ht118.new
            refine V_ge rfl rfl rfl hc114 ?_
            refine V_y (Y_move rfl) rfl rfl rfl ?_
            refine V_ge rfl rfl rfl hc114 ?_
            obtain ⟨x119, hx119, ho16⟩ := Option.bind_eq_some_iff.1 ho16
            refine V_call Tryd.call16 rfl rfl rfl rfl (portref2_StepsFault_c w116 hA steps v_steps h_steps hx119) ?_
            rintro _ w120 ⟨rfl, hk121⟩
            have ht122 := Kp.tr hk121 hA hB
            replace hH := Hp.kp hH hk121
            replace h_people := Sl.tr h_people ht122
            replace h_work := Sl.tr h_work ht122
            replace h_steps := Sl.tr h_steps ht122
            replace hK := Tr.trans hK ht122
            replace hr18 := Tr.trans hr18 ht122
            replace hB := Nat.le_trans hB ht122.ex.size
            replace hA := ht122.new
            refine V_ge rfl rfl rfl hc114 ?_
            refine V_y (Y_eql rfl rfl) rfl rfl rfl ?_
            refine V_y (Y_pick_te rfl hc114 rfl) rfl rfl rfl ?_
            refine V_y (Y_assign rfl) rfl rfl rfl ?_
            obtain rfl := Option.some.inj ho16
            refine V_end (fun a ha123 => ?_)
            exact ⟨A, ha123.sub ⟨rfl, trivial⟩, ⟨hH, hr18⟩⟩
          · rw [if_neg (nt hc114)] at ho16
            refine V_gn rfl rfl rfl hc114 rfl rfl rfl ?_
            refine V_gn rfl rfl rfl hc114 rfl rfl rfl ?_
            refine V_gn rfl rfl rfl hc114 rfl rfl rfl ?_
            refine V_gn rfl rfl rfl hc114 rfl rfl rfl ?_
            refine V_gn rfl rfl rfl hc114 rfl rfl rfl ?_
            refine V_y (Y_pick_fe rfl hc114 rfl) rfl rfl rfl ?_
            refine V_y (Y_assign rfl) rfl rfl rfl ?_
            obtain rfl := Option.some.inj ho16
            refine V_end (fun a ha124 => ?_)
            exact ⟨A, ha124.sub ⟨rfl, trivial⟩, ⟨hH, hr18⟩⟩
        · rw [if_neg (nt hc105)] at ho16
          refine V_gn rfl rfl rfl hc105 rfl rfl rfl ?_
          refine V_gn rfl rfl rfl hc105 rfl rfl rfl ?_
          refine V_gn rfl rfl rfl hc105 rfl rfl rfl ?_
          refine V_gn rfl rfl rfl hc105 rfl rfl rfl ?_
          refine V_gn rfl rfl rfl hc105 rfl rfl rfl ?_
          refine V_y (Y_pick_fe rfl hc105 rfl) rfl rfl rfl ?_
          refine V_y (Y_move rfl) rfl rfl rfl ?_
          rcases Bool.eq_false_or_eq_true (false) with hc125 | hc125
          · rw [if_pos hc125] at ho16
            refine V_ge rfl rfl rfl hc125 ?_
            refine V_y (Y_move rfl) rfl rfl rfl ?_
            refine V_ge rfl rfl rfl hc125 ?_
            obtain ⟨x126, hx126, ho16⟩ := Option.bind_eq_some_iff.1 ho16
            refine V_call Tryd.call15 rfl rfl rfl rfl (route_CheckSteps_c w102 hA steps v_steps h_steps hx126) ?_
            rintro _ w127 ⟨rfl, hk128⟩
            have ht129 := Kp.tr hk128 hA hB
            replace hH := Hp.kp hH hk128
            replace h_people := Sl.tr h_people ht129
            replace h_work := Sl.tr h_work ht129
            replace h_steps := Sl.tr h_steps ht129
            replace hK := Tr.trans hK ht129
            replace hr18 := Tr.trans hr18 ht129
            replace hB := Nat.le_trans hB ht129.ex.size
            replace hA := ht129.new
            refine V_ge rfl rfl rfl hc125 ?_
            refine V_y (Y_move rfl) rfl rfl rfl ?_
            refine V_ge rfl rfl rfl hc125 ?_
            obtain ⟨x130, hx130, ho16⟩ := Option.bind_eq_some_iff.1 ho16
            refine V_call Tryd.call16 rfl rfl rfl rfl (portref2_StepsFault_c w127 hA steps v_steps h_steps hx130) ?_
            rintro _ w131 ⟨rfl, hk132⟩
            have ht133 := Kp.tr hk132 hA hB
            replace hH := Hp.kp hH hk132
            replace h_people := Sl.tr h_people ht133
            replace h_work := Sl.tr h_work ht133
            replace h_steps := Sl.tr h_steps ht133
            replace hK := Tr.trans hK ht133
            replace hr18 := Tr.trans hr18 ht133
            replace hB := Nat.le_trans hB ht133.ex.size
            replace hA := ht133.new
            refine V_ge rfl rfl rfl hc125 ?_
            refine V_y (Y_eql rfl rfl) rfl rfl rfl ?_
            refine V_y (Y_pick_te rfl hc125 rfl) rfl rfl rfl ?_
            refine V_y (Y_assign rfl) rfl rfl rfl ?_
            obtain rfl := Option.some.inj ho16
            refine V_end (fun a ha134 => ?_)
            exact ⟨A, ha134.sub ⟨rfl, trivial⟩, ⟨hH, hr18⟩⟩
          · rw [if_neg (nt hc125)] at ho16
            refine V_gn rfl rfl rfl hc125 rfl rfl rfl ?_
            refine V_gn rfl rfl rfl hc125 rfl rfl rfl ?_
            refine V_gn rfl rfl rfl hc125 rfl rfl rfl ?_
            refine V_gn rfl rfl rfl hc125 rfl rfl rfl ?_
            refine V_gn rfl rfl rfl hc125 rfl rfl rfl ?_
            refine V_y (Y_pick_fe rfl hc125 rfl) rfl rfl rfl ?_
            refine V_y (Y_assign rfl) rfl rfl rfl ?_
            obtain rfl := Option.some.inj ho16
            refine V_end (fun a ha135 => ?_)
            exact ⟨A, ha135.sub ⟨rfl, trivial⟩, ⟨hH, hr18⟩⟩
      · rw [if_neg (nt hc96)] at ho16
        refine V_gn rfl rfl rfl hc96 rfl rfl rfl ?_
        refine V_gn rfl rfl rfl hc96 rfl rfl rfl ?_
        refine V_gn rfl rfl rfl hc96 rfl rfl rfl ?_
        refine V_gn rfl rfl rfl hc96 rfl rfl rfl ?_
        refine V_gn rfl rfl rfl hc96 rfl rfl rfl ?_
        refine V_y (Y_pick_fe rfl hc96 rfl) rfl rfl rfl ?_
        refine V_y (Y_move rfl) rfl rfl rfl ?_
        rcases Bool.eq_false_or_eq_true (false) with hc136 | hc136
        · rw [if_pos hc136] at ho16
          refine V_ge rfl rfl rfl hc136 ?_
          refine V_y (Y_move rfl) rfl rfl rfl ?_
          refine V_ge rfl rfl rfl hc136 ?_
          obtain ⟨x137, hx137, ho16⟩ := Option.bind_eq_some_iff.1 ho16
          refine V_call Tryd.call13 rfl rfl rfl rfl (route_CheckWork_c w13 hA work v_work h_work hx137) ?_
          rintro _ w138 ⟨rfl, hk139⟩
          have ht140 := Kp.tr hk139 hA hB
          replace hH := Hp.kp hH hk139
          replace h_people := Sl.tr h_people ht140
          replace h_work := Sl.tr h_work ht140
          replace h_steps := Sl.tr h_steps ht140
          replace hK := Tr.trans hK ht140
          replace hr18 := Tr.trans hr18 ht140
          replace hB := Nat.le_trans hB ht140.ex.size
          replace hA := ht140.new
          refine V_ge rfl rfl rfl hc136 ?_
          refine V_y (Y_move rfl) rfl rfl rfl ?_
          refine V_ge rfl rfl rfl hc136 ?_
          obtain ⟨x141, hx141, ho16⟩ := Option.bind_eq_some_iff.1 ho16
          refine V_call Tryd.call14 rfl rfl rfl rfl (portref2_WorkFault_c w138 hA work v_work h_work hx141) ?_
          rintro _ w142 ⟨rfl, hk143⟩
          have ht144 := Kp.tr hk143 hA hB
          replace hH := Hp.kp hH hk143
          replace h_people := Sl.tr h_people ht144
          replace h_work := Sl.tr h_work ht144
          replace h_steps := Sl.tr h_steps ht144
          replace hK := Tr.trans hK ht144
          replace hr18 := Tr.trans hr18 ht144
          replace hB := Nat.le_trans hB ht144.ex.size
          replace hA := ht144.new
          refine V_ge rfl rfl rfl hc136 ?_
          refine V_y (Y_eql rfl rfl) rfl rfl rfl ?_
          refine V_y (Y_pick_te rfl hc136 rfl) rfl rfl rfl ?_
          refine V_y (Y_move rfl) rfl rfl rfl ?_
          rcases Bool.eq_false_or_eq_true (x137 == x141) with hc145 | hc145
          · rw [if_pos hc145] at ho16
            refine V_ge rfl rfl rfl hc145 ?_
            refine V_y (Y_move rfl) rfl rfl rfl ?_
            refine V_ge rfl rfl rfl hc145 ?_
            obtain ⟨x146, hx146, ho16⟩ := Option.bind_eq_some_iff.1 ho16
            refine V_call Tryd.call15 rfl rfl rfl rfl (route_CheckSteps_c w142 hA steps v_steps h_steps hx146) ?_
            rintro _ w147 ⟨rfl, hk148⟩
            have ht149 := Kp.tr hk148 hA hB
            replace hH := Hp.kp hH hk148
            replace h_people := Sl.tr h_people ht149
            replace h_work := Sl.tr h_work ht149
            replace h_steps := Sl.tr h_steps ht149
            replace hK := Tr.trans hK ht149
            replace hr18 := Tr.trans hr18 ht149
            replace hB := Nat.le_trans hB ht149.ex.size
            replace hA := ht149.new
            refine V_ge rfl rfl rfl hc145 ?_
            refine V_y (Y_move rfl) rfl rfl rfl ?_
            refine V_ge rfl rfl rfl hc145 ?_
            obtain ⟨x150, hx150, ho16⟩ := Option.bind_eq_some_iff.1 ho16
            refine V_call Tryd.call16 rfl rfl rfl rfl (portref2_StepsFault_c w147 hA steps v_steps h_steps hx150) ?_
            rintro _ w151 ⟨rfl, hk152⟩
            have ht153 := Kp.tr hk152 hA hB
            replace hH := Hp.kp hH hk152
            replace h_people := Sl.tr h_people ht153
            replace h_work := Sl.tr h_work ht153
            replace h_steps := Sl.tr h_steps ht153
            replace hK := Tr.trans hK ht153
            replace hr18 := Tr.trans hr18 ht153
            replace hB := Nat.le_trans hB ht153.ex.size
            replace hA := ht153.new
            refine V_ge rfl rfl rfl hc145 ?_
            refine V_y (Y_eql rfl rfl) rfl rfl rfl ?_
            refine V_y (Y_pick_te rfl hc145 rfl) rfl rfl rfl ?_
            refine V_y (Y_assign rfl) rfl rfl rfl ?_
            obtain rfl := Option.some.inj ho16
            refine V_end (fun a ha154 => ?_)
            exact ⟨A, ha154.sub ⟨rfl, trivial⟩, ⟨hH, hr18⟩⟩
          · rw [if_neg (nt hc145)] at ho16
            refine V_gn rfl rfl rfl hc145 rfl rfl rfl ?_
            refine V_gn rfl rfl rfl hc145 rfl rfl rfl ?_
            refine V_gn rfl rfl rfl hc145 rfl rfl rfl ?_
            refine V_gn rfl rfl rfl hc145 rfl rfl rfl ?_
            refine V_gn rfl rfl rfl hc145 rfl rfl rfl ?_
            refine V_y (Y_pick_fe rfl hc145 rfl) rfl rfl rfl ?_
            refine V_y (Y_assign rfl) rfl rfl rfl ?_
            obtain rfl := Option.some.inj ho16
            refine V_end (fun a ha155 => ?_)
            exact ⟨A, ha155.sub ⟨rfl, trivial⟩, ⟨hH, hr18⟩⟩
        · rw [if_neg (nt hc136)] at ho16
          refine V_gn rfl rfl rfl hc136 rfl rfl rfl ?_
          refine V_gn rfl rfl rfl hc136 rfl rfl rfl ?_
          refine V_gn rfl rfl rfl hc136 rfl rfl rfl ?_
          refine V_gn rfl rfl rfl hc136 rfl rfl rfl ?_
          refine V_gn rfl rfl rfl hc136 rfl rfl rfl ?_
          refine V_y (Y_pick_fe rfl hc136 rfl) rfl rfl rfl ?_
          refine V_y (Y_move rfl) rfl rfl rfl ?_
          rcases Bool.eq_false_or_eq_true (false) with hc156 | hc156
          · rw [if_pos hc156] at ho16
            refine V_ge rfl rfl rfl hc156 ?_
            refine V_y (Y_move rfl) rfl rfl rfl ?_
            refine V_ge rfl rfl rfl hc156 ?_
            obtain ⟨x157, hx157, ho16⟩ := Option.bind_eq_some_iff.1 ho16
            refine V_call Tryd.call15 rfl rfl rfl rfl (route_CheckSteps_c w13 hA steps v_steps h_steps hx157) ?_
            rintro _ w158 ⟨rfl, hk159⟩
            have ht160 := Kp.tr hk159 hA hB
            replace hH := Hp.kp hH hk159
            replace h_people := Sl.tr h_people ht160
            replace h_work := Sl.tr h_work ht160
            replace h_steps := Sl.tr h_steps ht160
            replace hK := Tr.trans hK ht160
            replace hr18 := Tr.trans hr18 ht160
            replace hB := Nat.le_trans hB ht160.ex.size
            replace hA := ht160.new
            refine V_ge rfl rfl rfl hc156 ?_
            refine V_y (Y_move rfl) rfl rfl rfl ?_
            refine V_ge rfl rfl rfl hc156 ?_
            obtain ⟨x161, hx161, ho16⟩ := Option.bind_eq_some_iff.1 ho16
            refine V_call Tryd.call16 rfl rfl rfl rfl (portref2_StepsFault_c w158 hA steps v_steps h_steps hx161) ?_
            rintro _ w162 ⟨rfl, hk163⟩
            have ht164 := Kp.tr hk163 hA hB
            replace hH := Hp.kp hH hk163
            replace h_people := Sl.tr h_people ht164
            replace h_work := Sl.tr h_work ht164
            replace h_steps := Sl.tr h_steps ht164
            replace hK := Tr.trans hK ht164
            replace hr18 := Tr.trans hr18 ht164
            replace hB := Nat.le_trans hB ht164.ex.size
            replace hA := ht164.new
            refine V_ge rfl rfl rfl hc156 ?_
            refine V_y (Y_eql rfl rfl) rfl rfl rfl ?_
            refine V_y (Y_pick_te rfl hc156 rfl) rfl rfl rfl ?_
            refine V_y (Y_assign rfl) rfl rfl rfl ?_
            obtain rfl := Option.some.inj ho16
            refine V_end (fun a ha165 => ?_)
            exact ⟨A, ha165.sub ⟨rfl, trivial⟩, ⟨hH, hr18⟩⟩
          · rw [if_neg (nt hc156)] at ho16
            refine V_gn rfl rfl rfl hc156 rfl rfl rfl ?_
            refine V_gn rfl rfl rfl hc156 rfl rfl rfl ?_
            refine V_gn rfl rfl rfl hc156 rfl rfl rfl ?_
            refine V_gn rfl rfl rfl hc156 rfl rfl rfl ?_
            refine V_gn rfl rfl rfl hc156 rfl rfl rfl ?_
            refine V_y (Y_pick_fe rfl hc156 rfl) rfl rfl rfl ?_
            refine V_y (Y_assign rfl) rfl rfl rfl ?_
            obtain rfl := Option.some.inj ho16
            refine V_end (fun a ha166 => ?_)
            exact ⟨A, ha166.sub ⟨rfl, trivial⟩, ⟨hH, hr18⟩⟩
  rintro A22 w19 ⟨hH23, hk20⟩ a ha21
  replace hK := Tr.trans hK hk20
  replace hB := Nat.le_trans hB hk20.ex.size
  replace hA := hk20.new
  replace hH : Hp w.heap.size A22 w19 ([]) := hH23
  refine C_at (n := ⟨50, [], none⟩) (fun _ _ => rfl) ?_ ha21
  obtain rfl := Option.some.inj hm
  refine C_ret ?_
  try simp only [↓inBlock_ret, ↓then_ret]
  exact retQ rfl (Res.one Tryd.results4 rfl) ⟨rfl, hK.kp⟩

end Go.Proofs.YthhgggkhlcnbhaaDoor.W
