/-
  Written by program (gen.py) from the IR of the dump: each function computes its model.
-/
import Derived.Test.YtgmenjhmnjhgoaaDoorRouteMatchesW3
namespace Go.Proofs.YtgmenjhmnjhgoaaDoor.W
open Go Go.RowKit Go.Pu Go.Gw Go.Proofs Go.Proofs.YtgmenjhmnjhgoaaDoor.M
set_option linter.unusedVariables false
set_option linter.unusedSimpArgs false
variable {Dw : Prop}

set_option maxRecDepth 4000 in
set_option maxHeartbeats 4000000 in
theorem portref2_MatchOf_c (w : World) {A : Nat → Prop} (hA : ∀ b, w.heap.size ≤ b → A b) (people : (List route_Person)) (v_people : Value) (h_people : Sl A w v_people people) (l : (List route_Work)) (v_l : Value) (h_l : Sl A w v_l l) {r : ((List Int) × Int)} (hm : portref2_MatchOf people l = some r) : Ret Tryd.prog 5 #[v_people, v_l] w fun v w' => ∃ s0, v = .tuple #[s0, .int .i64 r.2] ∧ Ownd 3 w w' s0 r.1 ∧ Kp False w w' := by
  unfold portref2_MatchOf at hm
  refine enter Tryd.func5 rfl Tryd.ntmps5 rfl ?_
  have hA0 := hA
  have hB := Nat.le_refl w.heap.size
  have hK : Tr False w.heap.size A w A w := Tr.refl (Dw := False) hA
  have hH : Hp w.heap.size A w [] := Hp.nil
  refine C_seq ?_
  refine C_region ?_
  refine V_y (Y_assign rfl) rfl rfl rfl ?_
  refine V_y (Y_assign rfl) rfl rfl rfl ?_
  refine V_to (fun _ _ => rfl) ?_
  refine C_seq ?_
  refine C_seq ?_
  refine C_region ?_
  refine V_y (Y_move rfl) rfl rfl rfl ?_
  obtain ⟨x5, hx5, hm⟩ := Option.bind_eq_some_iff.1 hm
  refine V_call Tryd.call14 rfl rfl rfl rfl (portref2_PeopleFault_c w hA people v_people h_people hx5) ?_
  rintro _ w6 ⟨rfl, hk7⟩
  have ht8 := Kp.tr (Dw := False) hk7 hA hB
  replace hH := Hp.kp (Dw := False) hH hk7
  replace h_people := Sl.tr (Dw := False) h_people ht8
  replace h_l := Sl.tr (Dw := False) h_l ht8
  replace hK := Tr.trans (Dw := False) hK ht8
  replace hB := Nat.le_trans hB ht8.ex.size
  replace hA := ht8.new
  refine V_y (Y_assign rfl) rfl rfl rfl ?_
  refine V_to (fun _ _ => rfl) ?_
  refine C_seq ?_
  refine C_region ?_
  refine V_y (Y_move rfl) rfl rfl rfl ?_
  refine V_y (Y_neq rfl rfl) rfl rfl rfl ?_
  refine V_to (fun _ _ => rfl) ?_
  refine C_cond rfl (fun hc9 => ?_) (fun hc9 => ?_)
  · rw [if_pos hc9] at hm
    refine C_seq ?_
    refine C_region ?_
    refine V_y (Y_move rfl) rfl rfl rfl ?_
    refine V_y (Y_assign rfl) rfl rfl rfl ?_
    refine V_y (Y_assign rfl) rfl rfl rfl ?_
    refine V_to (fun _ _ => rfl) ?_
    obtain rfl := Option.some.inj hm
    replace hH : Hp w.heap.size A w6 (obS (α := Int) 3 (.slice none 0 0) ([] : (List Int)) :: []) := Hp.addNil (α := Int) (e := 3) hH
    refine C_ret ?_
    try simp only [↓inBlock_ret, ↓then_ret]
    exact retQ rfl (Res.two Tryd.results5 rfl rfl) ⟨.slice none 0 0, rfl, (Hp.ownd hH (i := 0) rfl), hK.kp⟩
  · rw [if_neg (nt hc9)] at hm
    refine C_skip_to (fun _ _ => rfl) ?_
    refine C_seq ?_
    refine C_seq ?_
    refine C_region ?_
    refine V_y (Y_move rfl) rfl rfl rfl ?_
    obtain ⟨x10, hx10, hm⟩ := Option.bind_eq_some_iff.1 hm
    refine V_call Tryd.call15 rfl rfl rfl rfl (portref2_WorkFault_c w6 hA l v_l h_l hx10) ?_
    rintro _ w11 ⟨rfl, hk12⟩
    have ht13 := Kp.tr (Dw := False) hk12 hA hB
    replace hH := Hp.kp (Dw := False) hH hk12
    replace h_people := Sl.tr (Dw := False) h_people ht13
    replace h_l := Sl.tr (Dw := False) h_l ht13
    replace hK := Tr.trans (Dw := False) hK ht13
    replace hB := Nat.le_trans hB ht13.ex.size
    replace hA := ht13.new
    refine V_y (Y_assign rfl) rfl rfl rfl ?_
    refine V_to (fun _ _ => rfl) ?_
    refine C_seq ?_
    refine C_region ?_
    refine V_y (Y_move rfl) rfl rfl rfl ?_
    refine V_y (Y_neq rfl rfl) rfl rfl rfl ?_
    refine V_to (fun _ _ => rfl) ?_
    refine C_cond rfl (fun hc14 => ?_) (fun hc14 => ?_)
    · rw [if_pos hc14] at hm
      refine C_seq ?_
      refine C_region ?_
      refine V_y (Y_move rfl) rfl rfl rfl ?_
      refine V_y (Y_assign rfl) rfl rfl rfl ?_
      refine V_y (Y_assign rfl) rfl rfl rfl ?_
      refine V_to (fun _ _ => rfl) ?_
      obtain rfl := Option.some.inj hm
      replace hH : Hp w.heap.size A w11 (obS (α := Int) 3 (.slice none 0 0) ([] : (List Int)) :: []) := Hp.addNil (α := Int) (e := 3) hH
      refine C_ret ?_
      try simp only [↓inBlock_ret, ↓then_ret]
      exact retQ rfl (Res.two Tryd.results5 rfl rfl) ⟨.slice none 0 0, rfl, (Hp.ownd hH (i := 0) rfl), hK.kp⟩
    · rw [if_neg (nt hc14)] at hm
      refine C_skip_to (fun _ _ => rfl) ?_
      refine C_seq ?_
      refine C_seq ?_
      refine C_region ?_
      refine V_y (Y_move rfl) rfl rfl rfl ?_
      obtain ⟨x16, hx16, hm⟩ := Option.bind_eq_some_iff.1 hm
      refine V_call Tryd.call10 rfl rfl rfl rfl (slices_ContainsFunc_Lroute_Work_route_Work_c (Dw := False) w11 hA l v_l h_l (fun y26 => portref2_MatchOf_1 y26) 16 #[] #[] Tryd.call16 (fun w22 A23 ht24 h25 y17 v18 h19 r20 h21 => (portref2_MatchOf_1_c (Dw := False) w22 h25 y17 v18 h19  h21).mono (fun _ _ h => ⟨h.1, h.2⟩)) hx16) ?_
      rintro _ w27 ⟨rfl, hk28⟩
      have ht29 := Kp.tr (Dw := False) hk28 hA hB
      replace hH := Hp.kp (Dw := False) hH hk28
      replace h_people := Sl.tr (Dw := False) h_people ht29
      replace h_l := Sl.tr (Dw := False) h_l ht29
      replace hK := Tr.trans (Dw := False) hK ht29
      replace hB := Nat.le_trans hB ht29.ex.size
      replace hA := ht29.new
      refine V_to (fun _ _ => rfl) ?_
      refine C_cond rfl (fun hc30 => ?_) (fun hc30 => ?_)
      · rw [if_pos hc30] at hm
        refine C_seq ?_
        refine C_region ?_
        refine V_y (Y_assign rfl) rfl rfl rfl ?_
        refine V_y (Y_assign rfl) rfl rfl rfl ?_
        refine V_to (fun _ _ => rfl) ?_
        obtain rfl := Option.some.inj hm
        replace hH : Hp w.heap.size A w27 (obS (α := Int) 3 (.slice none 0 0) ([] : (List Int)) :: []) := Hp.addNil (α := Int) (e := 3) hH
        refine C_ret ?_
        try simp only [↓inBlock_ret, ↓then_ret]
        exact retQ rfl (Res.two Tryd.results5 rfl rfl) ⟨.slice none 0 0, rfl, (Hp.ownd hH (i := 0) rfl), hK.kp⟩
      · rw [if_neg (nt hc30)] at hm
        refine C_skip_to (fun _ _ => rfl) ?_
        refine C_seq ?_
        refine C_region ?_
        refine V_y (Y_move rfl) rfl rfl rfl ?_
        refine V_y (Y_lenSl h_l rfl Tryd.underlying23 rfl) rfl rfl rfl ?_
        obtain ⟨x31, hx31, hm⟩ := Option.bind_eq_some_iff.1 hm
        refine V_makeH (Dw := False) (e := 3) (ti := Tryd.t3) hH hx31 (fun _ _ => rfl) Tryd.underlying24 Tryd_info3 rfl rfl rfl (by decide) (by decide) hB hA rfl rfl rfl ?_
        intro v32 w33 A34 hH35 ht36
        replace h_people := Sl.tr (Dw := False) h_people ht36
        replace h_l := Sl.tr (Dw := False) h_l ht36
        replace hK := Tr.trans (Dw := False) hK ht36
        replace hB := Nat.le_trans hB ht36.ex.size
        replace hA := ht36.new
        replace hH : Hp w.heap.size A34 w33 (obS (α := Int) 3 v32 x31 :: []) := hH35
        refine V_y (Y_assign rfl) rfl rfl rfl ?_
        refine V_to (fun _ _ => rfl) ?_
        refine C_seq ?_
        refine C_seq ?_
        refine C_region ?_
        refine V_y (Y_move rfl) rfl rfl rfl ?_
        refine V_y (Y_lenSl (Hp.any (α := Int) (e := 3) (v := v32) (l := x31) hH (i := 0) rfl) rfl Tryd.underlying24 rfl) rfl rfl rfl ?_
        refine V_y (Y_move rfl) rfl rfl rfl ?_
        refine V_to (fun _ _ => rfl) ?_
        have hn61 := Hp.le (α := Int) (e := 3) (v := v32) (l := x31) hH (i := 0) rfl
        obtain ⟨o37, ho37, hm⟩ := Option.bind_eq_some_iff.1 hm
        refine C_cutG (ι := ((List Int) × Value × (Nat → Prop))) (fun ⟨s38, v44, A46⟩ => [(0, v_people), (1, v_l), (8, v44)]) (fun ⟨s38, v44, A46⟩ => fun w' => o37 = .fin s38 ∧ Hp w.heap.size A46 w' (obS (α := Int) 3 v44 s38 :: []) ∧ Tr False w.heap.size A34 w33 A46 w') ?_ ?_
        · refine C_block ?_
          refine C_range ho37 (fun k40 s48 a w' => ∃ i : (Value × (Nat → Prop)), Has ⟨114, [], none⟩ a ([(0, v_people), (1, v_l), (8, i.1), (33, .int .i64 (x31.length : Int)), (34, .int .i64 (k40 : Int))]) ∧ Hp w.heap.size i.2 w' (obS (α := Int) 3 i.1 s48 :: []) ∧ Tr False w.heap.size A34 w33 i.2 w') (fun a ha => ⟨(v32, A34), ha.sub ⟨rfl, rfl, rfl, rfl, rfl, trivial⟩, ⟨hH, Tr.refl (Dw := False) hA⟩⟩) ?_
          rintro K k40 s48 a w49 ⟨⟨v50, A52⟩, ha74, hH53, hr39⟩ hle57 K60 h59
          refine C_of ?_ ha74
          replace h_people := Sl.tr (Dw := False) h_people hr39
          replace h_l := Sl.tr (Dw := False) h_l hr39
          replace hK := Tr.trans (Dw := False) hK hr39
          replace hB := Nat.le_trans hB hr39.ex.size
          replace hA := hr39.new
          replace hH : Hp w.heap.size A52 w49 (obS (α := Int) 3 v50 s48 :: []) := hH53
          refine C_seq (C_region (V_y (Y_lss rfl rfl) rfl rfl rfl (V_to (fun _ _ => rfl) ?_)))
          refine C_seq ?_
          refine C_cond rfl (fun hc62 => ?_) (fun hc62 => ?_)
          · have hlt58 := lt_of_dec hc62
            obtain ⟨x54, h55, h56⟩ := K60 hlt58
            refine C_skip_to (fun _ _ => rfl) ?_
            refine C_seq ?_
            refine C_block ?_
            refine C_seq ?_
            refine C_region ?_
            refine V_y (Y_move rfl) rfl rfl rfl ?_
            refine V_y (Y_assign rfl) rfl rfl rfl ?_
            refine V_to (fun _ _ => rfl) ?_
            refine C_region ?_
            refine V_y (Y_move rfl) rfl rfl rfl ?_
            refine V_y (Y_move rfl) rfl rfl rfl ?_
            obtain ⟨x63, hx63, h55⟩ := Option.bind_eq_some_iff.1 h55
            refine V_indexAddrH (α := Int) (e := 3) (v := v50) (l := s48) hH (i := 0) rfl hx63 Tryd.underlying24 Tryd.sizeOf3 rfl rfl rfl ?_
            intro b64 o65 h66 hl67
            obtain ⟨x68, hx68, h55⟩ := Option.bind_eq_some_iff.1 h55
            refine V_storeH (Dw := False) (α := Int) (e := 3) (v := v50) (l := s48) hH (i := 0) rfl hl67 hx68 rfl Tryd.sizeOf3 rfl hB hA rfl rfl ?_
            intro w69 hH70 ht71
            replace h_people := Sl.tr (Dw := False) h_people ht71
            replace h_l := Sl.tr (Dw := False) h_l ht71
            replace hK := Tr.trans (Dw := False) hK ht71
            replace hr39 := Tr.trans (Dw := False) hr39 ht71
            replace hB := Nat.le_trans hB ht71.ex.size
            replace hA := ht71.new
            replace hH : Hp w.heap.size A52 w69 (obS (α := Int) 3 v50 x68 :: []) := hH70
            refine V_to (fun _ _ => rfl) ?_
            refine C_region ?_
            refine V_y (Y_addI rfl rfl) rfl rfl rfl ?_
            refine V_y (Y_move rfl) rfl rfl rfl ?_
            obtain rfl := Option.some.inj h55
            refine V_end (fun a ha72 => ?_)
            exact ⟨x68, hlt58, h56, ⟨(v50, A52), ha72.sub ⟨rfl, rfl, rfl, rfl, (congrArg (fun z => some (Value.int .i64 z)) (w64_succ hlt58 hn61)), trivial⟩, ⟨hH, hr39⟩⟩⟩
          · refine C_exit (fun a ha73 => ?_)
            exact ⟨(s48, v50, A52), ha73.sub ⟨rfl, rfl, rfl, trivial⟩, ⟨(h59 (eq_of_dec hle57 hc62)).symm, hH, hr39⟩⟩
        rintro ⟨s38, v44, A46⟩ w41 ⟨rfl, hH47, hk42⟩ a ha43
        rw [Lp.andThen_fin] at hm
        replace h_people := Sl.tr (Dw := False) h_people hk42
        replace h_l := Sl.tr (Dw := False) h_l hk42
        replace hK := Tr.trans (Dw := False) hK hk42
        replace hB := Nat.le_trans hB hk42.ex.size
        replace hA := hk42.new
        replace hH : Hp w.heap.size A46 w41 (obS (α := Int) 3 v44 s38 :: []) := hH47
        refine C_at (n := ⟨114, [], none⟩) (fun _ _ => rfl) ?_ ha43
        refine C_seq ?_
        refine C_region ?_
        refine V_y (Y_move rfl) rfl rfl rfl ?_
        obtain ⟨x75, hx75, hm⟩ := Option.bind_eq_some_iff.1 hm
        refine V_call Tryd.call17 rfl rfl rfl rfl (portref2_orderOf_c (Dw := False) w41 hA l v_l h_l hx75) ?_
        rintro v76 w78 ⟨_, rfl, h77, hk79⟩
        obtain ⟨A80, ht81, hH82⟩ := Hp.addOwnd (Dw := False) hH hB hA hk79 h77
        replace h_people := Sl.tr (Dw := False) h_people ht81
        replace h_l := Sl.tr (Dw := False) h_l ht81
        replace hK := Tr.trans (Dw := False) hK ht81
        replace hB := Nat.le_trans hB ht81.ex.size
        replace hA := ht81.new
        replace hH : Hp w.heap.size A80 w78 (obS (α := Int) 3 v76 x75 :: obS (α := Int) 3 v44 s38 :: []) := hH82
        refine V_y (Y_assign rfl) rfl rfl rfl ?_
        refine V_to (fun _ _ => rfl) ?_
        refine C_seq ?_
        refine C_seq ?_
        refine C_region ?_
        refine V_y (Y_move rfl) rfl rfl rfl ?_
        refine V_y (Y_lenSl (Hp.any (α := Int) (e := 3) (v := v76) (l := x75) hH (i := 0) rfl) rfl Tryd.underlying24 rfl) rfl rfl rfl ?_
        refine V_y (Y_move rfl) rfl rfl rfl ?_
        refine V_to (fun _ _ => rfl) ?_
        have hn107 := Hp.le (α := Int) (e := 3) (v := v76) (l := x75) hH (i := 0) rfl
        obtain ⟨o83, ho83, hm⟩ := Option.bind_eq_some_iff.1 hm
        refine C_cutG (ι := ((List Int) × Value × (Nat → Prop))) (fun ⟨s84, v90, A92⟩ => [(0, v_people), (1, v_l), (8, v90), (10, v76)]) (fun ⟨s84, v90, A92⟩ => fun w' => o83 = .fin s84 ∧ Hp w.heap.size A92 w' (obS (α := Int) 3 v76 x75 :: obS (α := Int) 3 v90 s84 :: []) ∧ Tr False w.heap.size A80 w78 A92 w') ?_ ?_
        · refine C_block ?_
          refine C_range ho83 (fun k86 s94 a w' => ∃ i : (Value × (Nat → Prop)), Has ⟨114, [], none⟩ a ([(0, v_people), (1, v_l), (8, i.1), (10, v76), (43, v76), (44, .int .i64 (x75.length : Int)), (45, .int .i64 (k86 : Int))]) ∧ Hp w.heap.size i.2 w' (obS (α := Int) 3 v76 x75 :: obS (α := Int) 3 i.1 s94 :: []) ∧ Tr False w.heap.size A80 w78 i.2 w') (fun a ha => ⟨(v44, A80), ha.sub ⟨rfl, rfl, rfl, rfl, rfl, rfl, rfl, trivial⟩, ⟨hH, Tr.refl (Dw := False) hA⟩⟩) ?_
          rintro K k86 s94 a w95 ⟨⟨v96, A98⟩, ha162, hH99, hr85⟩ hle103 K106 h105
          refine C_of ?_ ha162
          replace h_people := Sl.tr (Dw := False) h_people hr85
          replace h_l := Sl.tr (Dw := False) h_l hr85
          replace hK := Tr.trans (Dw := False) hK hr85
          replace hB := Nat.le_trans hB hr85.ex.size
          replace hA := hr85.new
          replace hH : Hp w.heap.size A98 w95 (obS (α := Int) 3 v76 x75 :: obS (α := Int) 3 v96 s94 :: []) := hH99
          refine C_seq (C_region (V_y (Y_lss rfl rfl) rfl rfl rfl (V_to (fun _ _ => rfl) ?_)))
          refine C_seq ?_
          refine C_cond rfl (fun hc108 => ?_) (fun hc108 => ?_)
          · have hlt104 := lt_of_dec hc108
            obtain ⟨x100, h101, h102⟩ := K106 hlt104
            refine C_skip_to (fun _ _ => rfl) ?_
            refine C_seq ?_
            obtain ⟨s110, ho109, h101⟩ := Option.bind_eq_some_iff.1 h101
            refine C_cutG (ι := (Value × (Nat → Prop))) (fun ⟨v112, A117⟩ => [(0, v_people), (1, v_l), (8, v112), (10, v76), (43, v76), (44, .int .i64 (x75.length : Int)), (45, .int .i64 (k86 : Int))]) (fun ⟨v112, A117⟩ => fun w' => Hp w.heap.size A117 w' (obS (α := Int) 3 v76 x75 :: obS (α := Int) 3 v112 s110 :: []) ∧ Tr False w.heap.size A98 w95 A117 w') ?_ ?_
            · have hr111 : Tr False w.heap.size A98 w95 A98 w95 := Tr.refl (Dw := False) hA
              refine C_block ?_
              refine C_seq ?_
              refine C_region ?_
              obtain ⟨x119, hx119, ho109⟩ := Option.bind_eq_some_iff.1 ho109
              refine V_indexAddrH (α := Int) (e := 3) (v := v76) (l := x75) hH (i := 0) rfl hx119 Tryd.underlying24 Tryd.sizeOf3 rfl rfl rfl ?_
              intro b120 o121 h122 hl123
              refine V_y (Y_load (El.int h122) Tryd.isAgg3 rfl) rfl rfl rfl ?_
              refine V_y (Y_assign rfl) rfl rfl rfl ?_
              refine V_to (fun _ _ => rfl) ?_
              refine C_seq ?_
              refine C_region ?_
              refine V_y (Y_move rfl) rfl rfl rfl ?_
              refine V_y (Y_move rfl) rfl rfl rfl ?_
              obtain ⟨x124, hx124, ho109⟩ := Option.bind_eq_some_iff.1 ho109
              refine V_indexAddrH (α := Int) (e := 3) (v := v96) (l := s94) hH (i := 1) rfl hx124 Tryd.underlying24 Tryd.sizeOf3 rfl rfl rfl ?_
              intro b125 o126 h127 hl128
              obtain ⟨x129, hx129, ho109⟩ := Option.bind_eq_some_iff.1 ho109
              refine V_storeH (Dw := False) (α := Int) (e := 3) (v := v96) (l := s94) hH (i := 1) rfl hl128 hx129 rfl Tryd.sizeOf3 rfl hB hA rfl rfl ?_
              intro w130 hH131 ht132
              replace h_people := Sl.tr (Dw := False) h_people ht132
              replace h_l := Sl.tr (Dw := False) h_l ht132
              replace hK := Tr.trans (Dw := False) hK ht132
              replace hr85 := Tr.trans (Dw := False) hr85 ht132
              replace hr111 := Tr.trans (Dw := False) hr111 ht132
              replace hB := Nat.le_trans hB ht132.ex.size
              replace hA := ht132.new
              replace hH : Hp w.heap.size A98 w130 (obS (α := Int) 3 v76 x75 :: obS (α := Int) 3 v96 x129 :: []) := hH131
              refine V_to (fun _ _ => rfl) ?_
              refine C_seq ?_
              refine C_region ?_
              refine V_y (Y_move rfl) rfl rfl rfl ?_
              refine V_y (Y_move rfl) rfl rfl rfl ?_
              refine V_y (Y_move rfl) rfl rfl rfl ?_
              obtain ⟨x133, hx133, ho109⟩ := Option.bind_eq_some_iff.1 ho109
              refine V_call Tryd.call18 rfl rfl rfl rfl (portref2_fits_c (Dw := False) w130 (A := fun _ => True) (fun _ _ => trivial) people v_people (Sl.any h_people) l v_l (Sl.any h_l) x129 v96 (Hp.any (α := Int) (e := 3) (v := v96) (l := x129) hH (i := 1) rfl) hx133) ?_
              rintro _ w134 ⟨rfl, hk135⟩
              have ht136 := Kp.tr (Dw := False) hk135 hA hB
              replace hH := Hp.kp (Dw := False) hH hk135
              replace h_people := Sl.tr (Dw := False) h_people ht136
              replace h_l := Sl.tr (Dw := False) h_l ht136
              replace hK := Tr.trans (Dw := False) hK ht136
              replace hr85 := Tr.trans (Dw := False) hr85 ht136
              replace hr111 := Tr.trans (Dw := False) hr111 ht136
              replace hB := Nat.le_trans hB ht136.ex.size
              replace hA := ht136.new
              refine V_y (Y_not rfl) rfl rfl rfl ?_
              refine V_to (fun _ _ => rfl) ?_
              obtain ⟨s138, ho137, ho109⟩ := Option.bind_eq_some_iff.1 ho109
              refine C_cutG (ι := (Value × (Nat → Prop))) (fun ⟨v140, A145⟩ => [(0, v_people), (1, v_l), (8, v140), (10, v76), (43, v76), (44, .int .i64 (x75.length : Int)), (45, .int .i64 (k86 : Int))]) (fun ⟨v140, A145⟩ => fun w' => Hp w.heap.size A145 w' (obS (α := Int) 3 v76 x75 :: obS (α := Int) 3 v140 s138 :: []) ∧ Tr False w.heap.size A98 w134 A145 w') ?_ ?_
              · have hr139 : Tr False w.heap.size A98 w134 A98 w134 := Tr.refl (Dw := False) hA
                refine C_cond rfl (fun hc147 => ?_) (fun hc147 => ?_)
                · rw [if_pos hc147] at ho137
                  refine C_region ?_
                  refine V_y (Y_move rfl) rfl rfl rfl ?_
                  refine V_y (Y_move rfl) rfl rfl rfl ?_
                  obtain ⟨x148, hx148, ho137⟩ := Option.bind_eq_some_iff.1 ho137
                  refine V_indexAddrH (α := Int) (e := 3) (v := v96) (l := x129) hH (i := 1) rfl hx148 Tryd.underlying24 Tryd.sizeOf3 rfl rfl rfl ?_
                  intro b149 o150 h151 hl152
                  obtain ⟨x153, hx153, ho137⟩ := Option.bind_eq_some_iff.1 ho137
                  refine V_storeH (Dw := False) (α := Int) (e := 3) (v := v96) (l := x129) hH (i := 1) rfl hl152 hx153 rfl Tryd.sizeOf3 rfl hB hA rfl rfl ?_
                  intro w154 hH155 ht156
                  replace h_people := Sl.tr (Dw := False) h_people ht156
                  replace h_l := Sl.tr (Dw := False) h_l ht156
                  replace hK := Tr.trans (Dw := False) hK ht156
                  replace hr85 := Tr.trans (Dw := False) hr85 ht156
                  replace hr111 := Tr.trans (Dw := False) hr111 ht156
                  replace hr139 := Tr.trans (Dw := False) hr139 ht156
                  replace hB := Nat.le_trans hB ht156.ex.size
                  replace hA := ht156.new
                  replace hH : Hp w.heap.size A98 w154 (obS (α := Int) 3 v76 x75 :: obS (α := Int) 3 v96 x153 :: []) := hH155
                  obtain rfl := Option.some.inj ho137
                  refine V_end (fun a ha157 => ?_)
                  exact ⟨(v96, A98), ha157.sub ⟨rfl, rfl, rfl, rfl, rfl, rfl, rfl, trivial⟩, ⟨hH, hr139⟩⟩
                · rw [if_neg (nt hc147)] at ho137
                  obtain rfl := Option.some.inj ho137
                  refine C_skip (fun a ha158 => ?_)
                  exact ⟨(v96, A98), ha158.sub ⟨rfl, rfl, rfl, rfl, rfl, rfl, rfl, trivial⟩, ⟨hH, hr139⟩⟩
              rintro ⟨v140, A145⟩ w142 ⟨hH146, hk143⟩ a ha144
              replace h_people := Sl.tr (Dw := False) h_people hk143
              replace h_l := Sl.tr (Dw := False) h_l hk143
              replace hK := Tr.trans (Dw := False) hK hk143
              replace hr85 := Tr.trans (Dw := False) hr85 hk143
              replace hr111 := Tr.trans (Dw := False) hr111 hk143
              replace hB := Nat.le_trans hB hk143.ex.size
              replace hA := hk143.new
              replace hH : Hp w.heap.size A145 w142 (obS (α := Int) 3 v76 x75 :: obS (α := Int) 3 v140 s138 :: []) := hH146
              obtain rfl := Option.some.inj ho109
              exact ⟨(v140, A145), ha144.sub ⟨rfl, rfl, rfl, rfl, rfl, rfl, rfl, trivial⟩, ⟨hH, hr111⟩⟩
            rintro ⟨v112, A117⟩ w114 ⟨hH118, hk115⟩ a ha116
            replace h_people := Sl.tr (Dw := False) h_people hk115
            replace h_l := Sl.tr (Dw := False) h_l hk115
            replace hK := Tr.trans (Dw := False) hK hk115
            replace hr85 := Tr.trans (Dw := False) hr85 hk115
            replace hB := Nat.le_trans hB hk115.ex.size
            replace hA := hk115.new
            replace hH : Hp w.heap.size A117 w114 (obS (α := Int) 3 v76 x75 :: obS (α := Int) 3 v112 s110 :: []) := hH118
            refine C_at (n := ⟨114, [], none⟩) (fun _ _ => rfl) ?_ ha116
            refine C_region ?_
            refine V_y (Y_addI rfl rfl) rfl rfl rfl ?_
            refine V_y (Y_move rfl) rfl rfl rfl ?_
            obtain rfl := Option.some.inj h101
            refine V_end (fun a ha160 => ?_)
            exact ⟨s110, hlt104, h102, ⟨(v112, A117), ha160.sub ⟨rfl, rfl, rfl, rfl, rfl, rfl, (congrArg (fun z => some (Value.int .i64 z)) (w64_succ hlt104 hn107)), trivial⟩, ⟨hH, hr85⟩⟩⟩
          · refine C_exit (fun a ha161 => ?_)
            exact ⟨(s94, v96, A98), ha161.sub ⟨rfl, rfl, rfl, rfl, trivial⟩, ⟨(h105 (eq_of_dec hle103 hc108)).symm, hH, hr85⟩⟩
        rintro ⟨s84, v90, A92⟩ w87 ⟨rfl, hH93, hk88⟩ a ha89
        rw [Lp.andThen_fin] at hm
        replace h_people := Sl.tr (Dw := False) h_people hk88
        replace h_l := Sl.tr (Dw := False) h_l hk88
        replace hK := Tr.trans (Dw := False) hK hk88
        replace hB := Nat.le_trans hB hk88.ex.size
        replace hA := hk88.new
        replace hH : Hp w.heap.size A92 w87 (obS (α := Int) 3 v76 x75 :: obS (α := Int) 3 v90 s84 :: []) := hH93
        refine C_at (n := ⟨114, [], none⟩) (fun _ _ => rfl) ?_ ha89
        refine C_seq ?_
        refine C_seq ?_
        refine C_region ?_
        refine V_y (Y_move rfl) rfl rfl rfl ?_
        refine V_y (Y_lenSl (Hp.any (α := Int) (e := 3) (v := v76) (l := x75) hH (i := 0) rfl) rfl Tryd.underlying24 rfl) rfl rfl rfl ?_
        refine V_y (Y_move rfl) rfl rfl rfl ?_
        refine V_to (fun _ _ => rfl) ?_
        have hn187 := Hp.le (α := Int) (e := 3) (v := v76) (l := x75) hH (i := 0) rfl
        obtain ⟨o163, ho163, hm⟩ := Option.bind_eq_some_iff.1 hm
        refine C_cutG (ι := ((List Int) × Value × (Nat → Prop))) (fun ⟨s164, v170, A172⟩ => [(8, v170)]) (fun ⟨s164, v170, A172⟩ => fun w' => o163 = .fin s164 ∧ Hp w.heap.size A172 w' (obS (α := Int) 3 v76 x75 :: obS (α := Int) 3 v170 s164 :: []) ∧ Tr False w.heap.size A92 w87 A172 w') ?_ ?_
        · refine C_block ?_
          refine C_range ho163 (fun k166 s174 a w' => ∃ i : (Value × (Nat → Prop)), Has ⟨114, [], none⟩ a ([(0, v_people), (1, v_l), (8, i.1), (61, v76), (62, .int .i64 (x75.length : Int)), (63, .int .i64 (k166 : Int))]) ∧ Hp w.heap.size i.2 w' (obS (α := Int) 3 v76 x75 :: obS (α := Int) 3 i.1 s174 :: []) ∧ Tr False w.heap.size A92 w87 i.2 w') (fun a ha => ⟨(v90, A92), ha.sub ⟨rfl, rfl, rfl, rfl, rfl, rfl, trivial⟩, ⟨hH, Tr.refl (Dw := False) hA⟩⟩) ?_
          rintro K k166 s174 a w175 ⟨⟨v176, A178⟩, ha276, hH179, hr165⟩ hle183 K186 h185
          refine C_of ?_ ha276
          replace h_people := Sl.tr (Dw := False) h_people hr165
          replace h_l := Sl.tr (Dw := False) h_l hr165
          replace hK := Tr.trans (Dw := False) hK hr165
          replace hB := Nat.le_trans hB hr165.ex.size
          replace hA := hr165.new
          replace hH : Hp w.heap.size A178 w175 (obS (α := Int) 3 v76 x75 :: obS (α := Int) 3 v176 s174 :: []) := hH179
          refine C_seq (C_region (V_y (Y_lss rfl rfl) rfl rfl rfl (V_to (fun _ _ => rfl) ?_)))
          refine C_seq ?_
          refine C_cond rfl (fun hc188 => ?_) (fun hc188 => ?_)
          · have hlt184 := lt_of_dec hc188
            obtain ⟨x180, h181, h182⟩ := K186 hlt184
            refine C_skip_to (fun _ _ => rfl) ?_
            refine C_seq ?_
            obtain ⟨s190, ho189, h181⟩ := Option.bind_eq_some_iff.1 h181
            refine C_cutG (ι := (Value × (Nat → Prop))) (fun ⟨v192, A197⟩ => [(0, v_people), (1, v_l), (8, v192), (61, v76), (62, .int .i64 (x75.length : Int)), (63, .int .i64 (k166 : Int))]) (fun ⟨v192, A197⟩ => fun w' => Hp w.heap.size A197 w' (obS (α := Int) 3 v76 x75 :: obS (α := Int) 3 v192 s190 :: []) ∧ Tr False w.heap.size A178 w175 A197 w') ?_ ?_
            · have hr191 : Tr False w.heap.size A178 w175 A178 w175 := Tr.refl (Dw := False) hA
              refine C_block ?_
              refine C_seq ?_
              refine C_region ?_
              obtain ⟨x199, hx199, ho189⟩ := Option.bind_eq_some_iff.1 ho189
              refine V_indexAddrH (α := Int) (e := 3) (v := v76) (l := x75) hH (i := 0) rfl hx199 Tryd.underlying24 Tryd.sizeOf3 rfl rfl rfl ?_
              intro b200 o201 h202 hl203
              refine V_y (Y_load (El.int h202) Tryd.isAgg3 rfl) rfl rfl rfl ?_
              refine V_y (Y_assign rfl) rfl rfl rfl ?_
              refine V_to (fun _ _ => rfl) ?_
              refine C_seq ?_
              refine C_seq ?_
              refine C_region ?_
              refine V_y (Y_move rfl) rfl rfl rfl ?_
              refine V_y (Y_move rfl) rfl rfl rfl ?_
              obtain ⟨x204, hx204, ho189⟩ := Option.bind_eq_some_iff.1 ho189
              refine V_indexAddrH (α := Int) (e := 3) (v := v176) (l := s174) hH (i := 1) rfl hx204 Tryd.underlying24 Tryd.sizeOf3 rfl rfl rfl ?_
              intro b205 o206 h207 hl208
              refine V_y (Y_load (El.int h207) Tryd.isAgg3 rfl) rfl rfl rfl ?_
              refine V_y (Y_eql rfl rfl) rfl rfl rfl ?_
              refine V_to (fun _ _ => rfl) ?_
              refine C_cond rfl (fun hc209 => ?_) (fun hc209 => ?_)
              · rw [if_pos hc209] at ho189
                obtain rfl := Option.some.inj ho189
                refine C_exit (fun a ha210 => ?_)
                exact ⟨(v176, A178), ha210.sub ⟨rfl, rfl, rfl, rfl, rfl, rfl, trivial⟩, ⟨hH, hr191⟩⟩
              · rw [if_neg (nt hc209)] at ho189
                refine C_skip_to (fun _ _ => rfl) ?_
                refine C_seq ?_
                refine C_region ?_
                refine V_y (Y_move rfl) rfl rfl rfl ?_
                refine V_y (Y_lenSl h_people rfl Tryd.underlying22 rfl) rfl rfl rfl ?_
                refine V_y (Y_move rfl) rfl rfl rfl ?_
                refine V_to (fun _ _ => rfl) ?_
                have hn235 := Sl.le h_people
                obtain ⟨o211, ho211, ho189⟩ := Option.bind_eq_some_iff.1 ho189
                refine C_cutG (ι := ((List Int) × Value × (Nat → Prop))) (fun ⟨s212, v218, A220⟩ => [(0, v_people), (1, v_l), (8, v218), (61, v76), (62, .int .i64 (x75.length : Int)), (63, .int .i64 (k166 : Int))]) (fun ⟨s212, v218, A220⟩ => fun w' => o211 = .fin s212 ∧ Hp w.heap.size A220 w' (obS (α := Int) 3 v76 x75 :: obS (α := Int) 3 v218 s212 :: []) ∧ Tr False w.heap.size A178 w175 A220 w') ?_ ?_
                · refine C_block ?_
                  refine C_range ho211 (fun k214 s222 a w' => ∃ i : (Value × (Nat → Prop)), Has ⟨114, [], none⟩ a ([(0, v_people), (1, v_l), (8, i.1), (14, .int .i64 x199), (61, v76), (62, .int .i64 (x75.length : Int)), (63, .int .i64 (k166 : Int)), (73, .int .i64 (people.length : Int)), (74, .int .i64 (k214 : Int))]) ∧ Hp w.heap.size i.2 w' (obS (α := Int) 3 v76 x75 :: obS (α := Int) 3 i.1 s222 :: []) ∧ Tr False w.heap.size A178 w175 i.2 w') (fun a ha => ⟨(v176, A178), ha.sub ⟨rfl, rfl, rfl, rfl, rfl, rfl, rfl, rfl, rfl, trivial⟩, ⟨hH, Tr.refl (Dw := False) hA⟩⟩) ?_
                  rintro K k214 s222 a w223 ⟨⟨v224, A226⟩, ha272, hH227, hr213⟩ hle231 K234 h233
                  refine C_of ?_ ha272
                  replace h_people := Sl.tr (Dw := False) h_people hr213
                  replace h_l := Sl.tr (Dw := False) h_l hr213
                  replace hK := Tr.trans (Dw := False) hK hr213
                  replace hr165 := Tr.trans (Dw := False) hr165 hr213
                  replace hr191 := Tr.trans (Dw := False) hr191 hr213
                  replace hB := Nat.le_trans hB hr213.ex.size
                  replace hA := hr213.new
                  replace hH : Hp w.heap.size A226 w223 (obS (α := Int) 3 v76 x75 :: obS (α := Int) 3 v224 s222 :: []) := hH227
                  refine C_seq (C_region (V_y (Y_lss rfl rfl) rfl rfl rfl (V_to (fun _ _ => rfl) ?_)))
                  refine C_seq ?_
                  refine C_cond rfl (fun hc236 => ?_) (fun hc236 => ?_)
                  · have hlt232 := lt_of_dec hc236
                    obtain ⟨x228, h229, h230⟩ := K234 hlt232
                    refine C_skip_to (fun _ _ => rfl) ?_
                    refine C_seq ?_
                    refine C_block ?_
                    refine C_seq ?_
                    refine C_region ?_
                    refine V_y (Y_move rfl) rfl rfl rfl ?_
                    refine V_y (Y_assign rfl) rfl rfl rfl ?_
                    refine V_to (fun _ _ => rfl) ?_
                    refine C_seq ?_
                    refine C_region ?_
                    refine V_y (Y_move rfl) rfl rfl rfl ?_
                    refine V_y (Y_move rfl) rfl rfl rfl ?_
                    refine V_y (Y_move rfl) rfl rfl rfl ?_
                    obtain ⟨x237, hx237, h229⟩ := Option.bind_eq_some_iff.1 h229
                    refine V_indexAddrH (α := Int) (e := 3) (v := v224) (l := s222) hH (i := 1) rfl hx237 Tryd.underlying24 Tryd.sizeOf3 rfl rfl rfl ?_
                    intro b238 o239 h240 hl241
                    obtain ⟨x242, hx242, h229⟩ := Option.bind_eq_some_iff.1 h229
                    refine V_storeH (Dw := False) (α := Int) (e := 3) (v := v224) (l := s222) hH (i := 1) rfl hl241 hx242 rfl Tryd.sizeOf3 rfl hB hA rfl rfl ?_
                    intro w243 hH244 ht245
                    replace h_people := Sl.tr (Dw := False) h_people ht245
                    replace h_l := Sl.tr (Dw := False) h_l ht245
                    replace hK := Tr.trans (Dw := False) hK ht245
                    replace hr165 := Tr.trans (Dw := False) hr165 ht245
                    replace hr191 := Tr.trans (Dw := False) hr191 ht245
                    replace hr213 := Tr.trans (Dw := False) hr213 ht245
                    replace hB := Nat.le_trans hB ht245.ex.size
                    replace hA := ht245.new
                    replace hH : Hp w.heap.size A226 w243 (obS (α := Int) 3 v76 x75 :: obS (α := Int) 3 v224 x242 :: []) := hH244
                    refine V_to (fun _ _ => rfl) ?_
                    refine C_seq ?_
                    refine C_region_q (Dw := False) Tryd_mixed (by kernel_rfl) ?_
                    refine VQ_y (fun w' hw' => Y_move rfl) rfl rfl rfl ?_
                    refine VQ_y (fun w' hw' => Y_move rfl) rfl rfl rfl ?_
                    obtain ⟨x246, hx246, h229⟩ := Option.bind_eq_some_iff.1 h229
                    refine VQ_indexAddr h_people hx246 Tryd.underlying22 Tryd.sizeOf43 rfl rfl rfl ?_
                    intro b247 o248 h249
                    obtain ⟨v250, h252, h251⟩ := El_route_Person h249
                    refine VQ_y (fun w' hw' => Y_loadA (At.kp (Dw := False) h252 hw' h249.2.1) Tryd.isAgg43 Tryd.sizeOf43 rfl) rfl rfl rfl ?_
                    refine VQ_y (fun w' hw' => Y_move rfl) rfl rfl rfl ?_
                    refine VQ_y (fun w' hw' => Y_move rfl) rfl rfl rfl ?_
                    obtain ⟨x253, hx253, h229⟩ := Option.bind_eq_some_iff.1 h229
                    refine VQ_indexAddr h_l hx253 Tryd.underlying23 Tryd.sizeOf36 rfl rfl rfl ?_
                    intro b254 o255 h256
                    have h257 := El_route_Work_5 h256
                    refine VQ_y (fun w' hw' => Y_fieldAddr Tryd.underlying36 rfl Tryd.sizeOf34 (by decide) rfl) rfl rfl rfl ?_
                    obtain ⟨v258, h259, h260⟩ := El.list h257
                    refine VQ_y (fun w' hw' => Y_load ((World.cell?_of_block (hw'.block _ (World.block_lt_of_cell? _ _ h259))).trans h259) Tryd.isAgg34 rfl) rfl rfl rfl ?_
                    obtain ⟨x261, hx261, h229⟩ := Option.bind_eq_some_iff.1 h229
                    refine VQ_call (.bool x261) Tryd.call19 rfl rfl rfl rfl (fun w' hw' => (portref2_able_c (Dw := False) w' (fun b hb => hA b (Nat.le_trans hw'.size hb)) x246 v250 (Sl.kp (Dw := False) h251 hw') x253.needs v258 (Sl.kp (Dw := False) h260 hw') hx261).mono (fun _ _ h => ⟨h.1, Kp.trans (Dw := False) hw' h.2⟩)) ?_
                    refine VQ_y (fun w' hw' => Y_move rfl) rfl rfl rfl ?_
                    obtain ⟨s263, hs263, h229⟩ := Option.bind_eq_some_iff.1 h229
                    refine VQ_cut 5 (fun _ : Unit => [(0, v_people), (1, v_l), (8, v224), (14, .int .i64 x199), (61, v76), (62, .int .i64 (x75.length : Int)), (63, .int .i64 (k166 : Int)), (73, .int .i64 (people.length : Int)), (74, .int .i64 (k214 : Int)), (96, .bool s263)]) (fun _ => True) ?_ ?_
                    · simp only [List.take, List.drop]
                      rcases Bool.eq_false_or_eq_true (x261) with hc262 | hc262
                      · rw [if_pos hc262] at hs263
                        refine VQ_ge rfl rfl rfl hc262 ?_
                        refine VQ_y (fun w' hw' => Y_move rfl) rfl rfl rfl ?_
                        refine VQ_ge rfl rfl rfl hc262 ?_
                        refine VQ_y (fun w' hw' => Y_move rfl) rfl rfl rfl ?_
                        refine VQ_ge rfl rfl rfl hc262 ?_
                        refine VQ_y (fun w' hw' => Y_move rfl) rfl rfl rfl ?_
                        refine VQ_ge rfl rfl rfl hc262 ?_
                        obtain ⟨x264, hx264, hs263⟩ := Option.bind_eq_some_iff.1 hs263
                        refine VQ_call (.bool x264) Tryd.call18 rfl rfl rfl rfl (fun w' hw' => (portref2_fits_c (Dw := False) w' (A := fun _ => True) (fun _ _ => trivial) people v_people (Sl.kp (Dw := False) (Sl.any h_people) hw') l v_l (Sl.kp (Dw := False) (Sl.any h_l) hw') x242 v224 (Sl.kp (Dw := False) (Hp.any (α := Int) (e := 3) (v := v224) (l := x242) hH (i := 1) rfl) hw') hx264).mono (fun _ _ h => ⟨h.1, Kp.trans (Dw := False) hw' h.2⟩)) ?_
                        refine VQ_y (fun _ _ => Y_pick_te rfl hc262 rfl) rfl rfl rfl ?_
                        obtain rfl := Option.some.inj hs263
                        exact VQ_end fun a ha => ⟨(), ha.sub ⟨rfl, rfl, rfl, rfl, rfl, rfl, rfl, rfl, rfl, rfl, trivial⟩, trivial⟩
                      · rw [if_neg (nt hc262)] at hs263
                        refine VQ_gn rfl rfl rfl hc262 rfl rfl rfl ?_
                        refine VQ_gn rfl rfl rfl hc262 rfl rfl rfl ?_
                        refine VQ_gn rfl rfl rfl hc262 rfl rfl rfl ?_
                        refine VQ_gn rfl rfl rfl hc262 rfl rfl rfl ?_
                        refine VQ_y (fun _ _ => Y_pick_fe rfl hc262 rfl) rfl rfl rfl ?_
                        obtain rfl := Option.some.inj hs263
                        exact VQ_end fun a ha => ⟨(), ha.sub ⟨rfl, rfl, rfl, rfl, rfl, rfl, rfl, rfl, rfl, rfl, trivial⟩, trivial⟩
                    simp only [List.take, List.drop]
                    rintro _ _
                    refine VQ_to (fun _ _ => rfl) (fun w265 hk266 => ?_)
                    have ht267 := Kp.tr (Dw := False) hk266 hA hB
                    replace hH := Hp.kp (Dw := False) hH hk266
                    replace h_people := Sl.tr (Dw := False) h_people ht267
                    replace h_l := Sl.tr (Dw := False) h_l ht267
                    replace hK := Tr.trans (Dw := False) hK ht267
                    replace hr165 := Tr.trans (Dw := False) hr165 ht267
                    replace hr191 := Tr.trans (Dw := False) hr191 ht267
                    replace hr213 := Tr.trans (Dw := False) hr213 ht267
                    replace hB := Nat.le_trans hB ht267.ex.size
                    replace hA := ht267.new
                    refine C_cond rfl (fun hc268 => ?_) (fun hc268 => ?_)
                    · rw [if_pos hc268] at h229
                      obtain rfl := Option.some.inj h229
                      refine C_exit (fun a ha269 => ?_)
                      exact ⟨(x242, v224, A226), ha269.sub ⟨rfl, rfl, rfl, rfl, rfl, rfl, trivial⟩, ⟨h230.symm, hH, hr213⟩⟩
                    · rw [if_neg (nt hc268)] at h229
                      refine C_skip_to (fun _ _ => rfl) ?_
                      refine C_region ?_
                      refine V_y (Y_addI rfl rfl) rfl rfl rfl ?_
                      refine V_y (Y_move rfl) rfl rfl rfl ?_
                      obtain rfl := Option.some.inj h229
                      refine V_end (fun a ha270 => ?_)
                      exact ⟨x242, hlt232, h230, ⟨(v224, A226), ha270.sub ⟨rfl, rfl, rfl, rfl, rfl, rfl, rfl, rfl, (congrArg (fun z => some (Value.int .i64 z)) (w64_succ hlt232 hn235)), trivial⟩, ⟨hH, hr213⟩⟩⟩
                  · refine C_exit (fun a ha271 => ?_)
                    exact ⟨(s222, v224, A226), ha271.sub ⟨rfl, rfl, rfl, rfl, rfl, rfl, trivial⟩, ⟨(h233 (eq_of_dec hle231 hc236)).symm, hH, hr213⟩⟩
                rintro ⟨s212, v218, A220⟩ w215 ⟨rfl, hH221, hk216⟩ a ha217
                rw [Lp.andThen_fin] at ho189
                replace h_people := Sl.tr (Dw := False) h_people hk216
                replace h_l := Sl.tr (Dw := False) h_l hk216
                replace hK := Tr.trans (Dw := False) hK hk216
                replace hr165 := Tr.trans (Dw := False) hr165 hk216
                replace hr191 := Tr.trans (Dw := False) hr191 hk216
                replace hB := Nat.le_trans hB hk216.ex.size
                replace hA := hk216.new
                replace hH : Hp w.heap.size A220 w215 (obS (α := Int) 3 v76 x75 :: obS (α := Int) 3 v218 s212 :: []) := hH221
                obtain rfl := Option.some.inj ho189
                exact ⟨(v218, A220), ha217.sub ⟨rfl, rfl, rfl, rfl, rfl, rfl, trivial⟩, ⟨hH, hr191⟩⟩
            rintro ⟨v192, A197⟩ w194 ⟨hH198, hk195⟩ a ha196
            replace h_people := Sl.tr (Dw := False) h_people hk195
            replace h_l := Sl.tr (Dw := False) h_l hk195
            replace hK := Tr.trans (Dw := False) hK hk195
            replace hr165 := Tr.trans (Dw := False) hr165 hk195
            replace hB := Nat.le_trans hB hk195.ex.size
            replace hA := hk195.new
            replace hH : Hp w.heap.size A197 w194 (obS (α := Int) 3 v76 x75 :: obS (α := Int) 3 v192 s190 :: []) := hH198
            refine C_at (n := ⟨114, [], none⟩) (fun _ _ => rfl) ?_ ha196
            refine C_region ?_
            refine V_y (Y_addI rfl rfl) rfl rfl rfl ?_
            refine V_y (Y_move rfl) rfl rfl rfl ?_
            obtain rfl := Option.some.inj h181
            refine V_end (fun a ha274 => ?_)
            exact ⟨s190, hlt184, h182, ⟨(v192, A197), ha274.sub ⟨rfl, rfl, rfl, rfl, rfl, (congrArg (fun z => some (Value.int .i64 z)) (w64_succ hlt184 hn187)), trivial⟩, ⟨hH, hr165⟩⟩⟩
          · refine C_exit (fun a ha275 => ?_)
            exact ⟨(s174, v176, A178), ha275.sub ⟨rfl, trivial⟩, ⟨(h185 (eq_of_dec hle183 hc188)).symm, hH, hr165⟩⟩
        rintro ⟨s164, v170, A172⟩ w167 ⟨rfl, hH173, hk168⟩ a ha169
        rw [Lp.andThen_fin] at hm
        replace hK := Tr.trans (Dw := False) hK hk168
        replace hB := Nat.le_trans hB hk168.ex.size
        replace hA := hk168.new
        replace hH : Hp w.heap.size A172 w167 (obS (α := Int) 3 v76 x75 :: obS (α := Int) 3 v170 s164 :: []) := hH173
        refine C_at (n := ⟨114, [], none⟩) (fun _ _ => rfl) ?_ ha169
        refine C_seq ?_
        refine C_seq ?_
        refine C_region ?_
        refine V_y (Y_move rfl) rfl rfl rfl ?_
        refine V_y (Y_lenSl (Hp.any (α := Int) (e := 3) (v := v170) (l := s164) hH (i := 1) rfl) rfl Tryd.underlying24 rfl) rfl rfl rfl ?_
        refine V_y (Y_move rfl) rfl rfl rfl ?_
        refine V_to (fun _ _ => rfl) ?_
        have hn301 := Hp.le (α := Int) (e := 3) (v := v170) (l := s164) hH (i := 1) rfl
        obtain ⟨o277, ho277, hm⟩ := Option.bind_eq_some_iff.1 hm
        refine C_cutG (ι := ((List Int) × Value × (Nat → Prop))) (fun ⟨s278, v284, A286⟩ => [(8, v284)]) (fun ⟨s278, v284, A286⟩ => fun w' => o277 = .fin s278 ∧ Hp w.heap.size A286 w' (obS (α := Int) 3 v76 x75 :: obS (α := Int) 3 v284 s278 :: []) ∧ Tr False w.heap.size A172 w167 A286 w') ?_ ?_
        · refine C_block ?_
          refine C_range ho277 (fun k280 s288 a w' => ∃ i : (Value × (Nat → Prop)), Has ⟨114, [], none⟩ a ([(8, i.1), (100, .int .i64 (s164.length : Int)), (101, .int .i64 (k280 : Int))]) ∧ Hp w.heap.size i.2 w' (obS (α := Int) 3 v76 x75 :: obS (α := Int) 3 i.1 s288 :: []) ∧ Tr False w.heap.size A172 w167 i.2 w') (fun a ha => ⟨(v170, A172), ha.sub ⟨rfl, rfl, rfl, trivial⟩, ⟨hH, Tr.refl (Dw := False) hA⟩⟩) ?_
          rintro K k280 s288 a w289 ⟨⟨v290, A292⟩, ha318, hH293, hr279⟩ hle297 K300 h299
          refine C_of ?_ ha318
          replace hK := Tr.trans (Dw := False) hK hr279
          replace hB := Nat.le_trans hB hr279.ex.size
          replace hA := hr279.new
          replace hH : Hp w.heap.size A292 w289 (obS (α := Int) 3 v76 x75 :: obS (α := Int) 3 v290 s288 :: []) := hH293
          refine C_seq (C_region (V_y (Y_lss rfl rfl) rfl rfl rfl (V_to (fun _ _ => rfl) ?_)))
          refine C_seq ?_
          refine C_cond rfl (fun hc302 => ?_) (fun hc302 => ?_)
          · have hlt298 := lt_of_dec hc302
            obtain ⟨x294, h295, h296⟩ := K300 hlt298
            refine C_skip_to (fun _ _ => rfl) ?_
            refine C_seq ?_
            refine C_block ?_
            refine C_seq ?_
            refine C_region ?_
            refine V_y (Y_move rfl) rfl rfl rfl ?_
            refine V_y (Y_assign rfl) rfl rfl rfl ?_
            refine V_to (fun _ _ => rfl) ?_
            refine C_region ?_
            refine V_y (Y_move rfl) rfl rfl rfl ?_
            refine V_y (Y_move rfl) rfl rfl rfl ?_
            refine V_y (Y_move rfl) rfl rfl rfl ?_
            refine V_y (Y_move rfl) rfl rfl rfl ?_
            obtain ⟨x303, hx303, h295⟩ := Option.bind_eq_some_iff.1 h295
            refine V_indexAddrH (α := Int) (e := 3) (v := v290) (l := s288) hH (i := 1) rfl hx303 Tryd.underlying24 Tryd.sizeOf3 rfl rfl rfl ?_
            intro b304 o305 h306 hl307
            refine V_y (Y_load (El.int h306) Tryd.isAgg3 rfl) rfl rfl rfl ?_
            refine V_y (Y_max2 rfl rfl) rfl rfl rfl ?_
            refine V_indexAddrH (α := Int) (e := 3) (v := v290) (l := s288) hH (i := 1) rfl hx303 Tryd.underlying24 Tryd.sizeOf3 rfl rfl rfl ?_
            intro b308 o309 h310 hl311
            obtain ⟨x312, hx312, h295⟩ := Option.bind_eq_some_iff.1 h295
            refine V_storeH (Dw := False) (α := Int) (e := 3) (v := v290) (l := s288) hH (i := 1) rfl hl311 hx312 rfl Tryd.sizeOf3 rfl hB hA rfl rfl ?_
            intro w313 hH314 ht315
            replace hK := Tr.trans (Dw := False) hK ht315
            replace hr279 := Tr.trans (Dw := False) hr279 ht315
            replace hB := Nat.le_trans hB ht315.ex.size
            replace hA := ht315.new
            replace hH : Hp w.heap.size A292 w313 (obS (α := Int) 3 v76 x75 :: obS (α := Int) 3 v290 x312 :: []) := hH314
            refine V_to (fun _ _ => rfl) ?_
            refine C_region ?_
            refine V_y (Y_addI rfl rfl) rfl rfl rfl ?_
            refine V_y (Y_move rfl) rfl rfl rfl ?_
            obtain rfl := Option.some.inj h295
            refine V_end (fun a ha316 => ?_)
            exact ⟨x312, hlt298, h296, ⟨(v290, A292), ha316.sub ⟨rfl, rfl, (congrArg (fun z => some (Value.int .i64 z)) (w64_succ hlt298 hn301)), trivial⟩, ⟨hH, hr279⟩⟩⟩
          · refine C_exit (fun a ha317 => ?_)
            exact ⟨(s288, v290, A292), ha317.sub ⟨rfl, trivial⟩, ⟨(h299 (eq_of_dec hle297 hc302)).symm, hH, hr279⟩⟩
        rintro ⟨s278, v284, A286⟩ w281 ⟨rfl, hH287, hk282⟩ a ha283
        rw [Lp.andThen_fin] at hm
        replace hK := Tr.trans (Dw := False) hK hk282
        replace hB := Nat.le_trans hB hk282.ex.size
        replace hA := hk282.new
        replace hH : Hp w.heap.size A286 w281 (obS (α := Int) 3 v76 x75 :: obS (α := Int) 3 v284 s278 :: []) := hH287
        refine C_at (n := ⟨114, [], none⟩) (fun _ _ => rfl) ?_ ha283
        refine C_seq ?_
        refine C_region ?_
        refine V_y (Y_move rfl) rfl rfl rfl ?_
        refine V_y (Y_assign rfl) rfl rfl rfl ?_
        refine V_y (Y_assign rfl) rfl rfl rfl ?_
        refine V_to (fun _ _ => rfl) ?_
        obtain rfl := Option.some.inj hm
        refine C_ret ?_
        try simp only [↓inBlock_ret, ↓then_ret]
        exact retQ rfl (Res.two Tryd.results5 rfl rfl) ⟨v284, rfl, (Hp.ownd hH (i := 1) rfl), hK.kp⟩

set_option maxRecDepth 4000 in
set_option maxHeartbeats 4000000 in
theorem slices_Equal_Lint_int_c (w : World) {A : Nat → Prop} (hA : ∀ b, w.heap.size ≤ b → A b) (s1 : (List Int)) (v_s1 : Value) (h_s1 : Sl A w v_s1 s1) (s2 : (List Int)) (v_s2 : Value) (h_s2 : Sl A w v_s2 s2) {r : Bool} (hm : slices_Equal_Lint_int s1 s2 = some r) : Ret Tryd.prog 6 #[v_s1, v_s2] w fun v w' => v = .bool r ∧ Kp Dw w w' := by
  unfold slices_Equal_Lint_int at hm
  refine enter Tryd.func6 rfl Tryd.ntmps6 rfl ?_
  have hA0 := hA
  have hB := Nat.le_refl w.heap.size
  have hK : Tr Dw w.heap.size A w A w := Tr.refl (Dw := Dw) hA
  have hH : Hp w.heap.size A w [] := Hp.nil
  refine C_seq ?_
  refine C_region ?_
  refine V_y (Y_assign rfl) rfl rfl rfl ?_
  refine V_to (fun _ _ => rfl) ?_
  refine C_seq ?_
  refine C_seq ?_
  refine C_region ?_
  refine V_y (Y_move rfl) rfl rfl rfl ?_
  refine V_y (Y_lenSl h_s1 rfl Tryd.underlying24 rfl) rfl rfl rfl ?_
  refine V_y (Y_move rfl) rfl rfl rfl ?_
  refine V_y (Y_lenSl h_s2 rfl Tryd.underlying24 rfl) rfl rfl rfl ?_
  refine V_y (Y_neq rfl rfl) rfl rfl rfl ?_
  refine V_to (fun _ _ => rfl) ?_
  refine C_cond rfl (fun hc5 => ?_) (fun hc5 => ?_)
  · rw [if_pos hc5] at hm
    refine C_seq ?_
    refine C_region ?_
    refine V_y (Y_assign rfl) rfl rfl rfl ?_
    refine V_to (fun _ _ => rfl) ?_
    obtain rfl := Option.some.inj hm
    refine C_ret ?_
    try simp only [↓inBlock_ret, ↓then_ret]
    exact retQ rfl (Res.one Tryd.results6 rfl) ⟨rfl, hK.kp⟩
  · rw [if_neg (nt hc5)] at hm
    refine C_skip_to (fun _ _ => rfl) ?_
    refine C_seq ?_
    refine C_seq ?_
    refine C_region ?_
    refine V_y (Y_move rfl) rfl rfl rfl ?_
    refine V_y (Y_lenSl h_s1 rfl Tryd.underlying24 rfl) rfl rfl rfl ?_
    refine V_y (Y_move rfl) rfl rfl rfl ?_
    refine V_to (fun _ _ => rfl) ?_
    have hn27 := Sl.le h_s1
    obtain ⟨o6, ho6, hm⟩ := Option.bind_eq_some_iff.1 hm
    refine C_cutG (ι := (Unit × (Nat → Prop))) (fun ⟨s7, A13⟩ => []) (fun ⟨s7, A13⟩ => fun w' => o6 = .fin s7 ∧ Hp w.heap.size A13 w' ([]) ∧ Tr Dw w.heap.size A w A13 w') ?_ ?_
    · refine C_block ?_
      refine C_range ho6 (fun k9 _ a w' => ∃ i : (Nat → Prop), Has ⟨26, [], none⟩ a ([(0, v_s1), (1, v_s2), (12, .int .i64 (s1.length : Int)), (13, .int .i64 (k9 : Int))]) ∧ Hp w.heap.size i w' ([]) ∧ Tr Dw w.heap.size A w i w') (fun a ha => ⟨A, ha.sub ⟨rfl, rfl, rfl, rfl, trivial⟩, ⟨hH, Tr.refl (Dw := Dw) hA⟩⟩) ?_
      rintro K k9 _ a w17 ⟨A18, ha43, hH19, hr8⟩ hle23 K26 h25
      refine C_of ?_ ha43
      replace h_s1 := Sl.tr (Dw := Dw) h_s1 hr8
      replace h_s2 := Sl.tr (Dw := Dw) h_s2 hr8
      replace hK := Tr.trans (Dw := Dw) hK hr8
      replace hB := Nat.le_trans hB hr8.ex.size
      replace hA := hr8.new
      replace hH : Hp w.heap.size A18 w17 ([]) := hH19
      refine C_seq (C_region (V_y (Y_lss rfl rfl) rfl rfl rfl (V_to (fun _ _ => rfl) ?_)))
      refine C_seq ?_
      refine C_cond rfl (fun hc28 => ?_) (fun hc28 => ?_)
      · have hlt24 := lt_of_dec hc28
        obtain ⟨x20, h21, h22⟩ := K26 hlt24
        refine C_skip_to (fun _ _ => rfl) ?_
        refine C_seq ?_
        refine C_block ?_
        refine C_seq ?_
        refine C_region ?_
        refine V_y (Y_move rfl) rfl rfl rfl ?_
        refine V_y (Y_assign rfl) rfl rfl rfl ?_
        refine V_to (fun _ _ => rfl) ?_
        refine C_seq ?_
        refine C_region_q (Dw := Dw) Tryd_mixed (by kernel_rfl) ?_
        refine VQ_y (fun w' hw' => Y_move rfl) rfl rfl rfl ?_
        refine VQ_y (fun w' hw' => Y_move rfl) rfl rfl rfl ?_
        obtain ⟨x29, hx29, h21⟩ := Option.bind_eq_some_iff.1 h21
        refine VQ_indexAddr h_s1 hx29 Tryd.underlying24 Tryd.sizeOf3 rfl rfl rfl ?_
        intro b30 o31 h32
        refine VQ_y (fun w' hw' => Y_load (El.int (El.kp (Dw := Dw) h32 hw')) Tryd.isAgg3 rfl) rfl rfl rfl ?_
        refine VQ_y (fun w' hw' => Y_move rfl) rfl rfl rfl ?_
        refine VQ_y (fun w' hw' => Y_move rfl) rfl rfl rfl ?_
        obtain ⟨x33, hx33, h21⟩ := Option.bind_eq_some_iff.1 h21
        refine VQ_indexAddr h_s2 hx33 Tryd.underlying24 Tryd.sizeOf3 rfl rfl rfl ?_
        intro b34 o35 h36
        refine VQ_y (fun w' hw' => Y_load (El.int (El.kp (Dw := Dw) h36 hw')) Tryd.isAgg3 rfl) rfl rfl rfl ?_
        refine VQ_y (fun w' hw' => Y_neq rfl rfl) rfl rfl rfl ?_
        refine VQ_to (fun _ _ => rfl) (fun w37 hk38 => ?_)
        have ht39 := Kp.tr (Dw := Dw) hk38 hA hB
        replace hH := Hp.kp (Dw := Dw) hH hk38
        replace h_s1 := Sl.tr (Dw := Dw) h_s1 ht39
        replace h_s2 := Sl.tr (Dw := Dw) h_s2 ht39
        replace hK := Tr.trans (Dw := Dw) hK ht39
        replace hr8 := Tr.trans (Dw := Dw) hr8 ht39
        replace hB := Nat.le_trans hB ht39.ex.size
        replace hA := ht39.new
        refine C_cond rfl (fun hc40 => ?_) (fun hc40 => ?_)
        · rw [if_pos hc40] at h21
          refine C_seq ?_
          refine C_region ?_
          refine V_y (Y_assign rfl) rfl rfl rfl ?_
          refine V_to (fun _ _ => rfl) ?_
          obtain rfl := Option.some.inj h21
          obtain rfl := (h22 : Lp.rt _ = _)
          rw [Lp.andThen_rt] at hm
          obtain rfl := Option.some.inj hm
          refine C_ret ?_
          try simp only [↓inBlock_ret, ↓then_ret]
          exact retQ rfl (Res.one Tryd.results6 rfl) ⟨rfl, hK.kp⟩
        · rw [if_neg (nt hc40)] at h21
          refine C_skip_to (fun _ _ => rfl) ?_
          refine C_region ?_
          refine V_y (Y_addI rfl rfl) rfl rfl rfl ?_
          refine V_y (Y_move rfl) rfl rfl rfl ?_
          obtain rfl := Option.some.inj h21
          refine V_end (fun a ha41 => ?_)
          exact ⟨(), hlt24, h22, ⟨A18, ha41.sub ⟨rfl, rfl, rfl, (congrArg (fun z => some (Value.int .i64 z)) (w64_succ hlt24 hn27)), trivial⟩, ⟨hH, hr8⟩⟩⟩
      · refine C_exit (fun a ha42 => ?_)
        exact ⟨((), A18), ha42.sub trivial, ⟨(h25 (eq_of_dec hle23 hc28)).symm, hH, hr8⟩⟩
    rintro ⟨s7, A13⟩ w10 ⟨rfl, hH14, hk11⟩ a ha12
    rw [Lp.andThen_fin] at hm
    replace hK := Tr.trans (Dw := Dw) hK hk11
    replace hB := Nat.le_trans hB hk11.ex.size
    replace hA := hk11.new
    replace hH : Hp w.heap.size A13 w10 ([]) := hH14
    refine C_at (n := ⟨26, [], none⟩) (fun _ _ => rfl) ?_ ha12
    refine C_seq ?_
    refine C_region ?_
    refine V_y (Y_assign rfl) rfl rfl rfl ?_
    refine V_to (fun _ _ => rfl) ?_
    obtain rfl := Option.some.inj hm
    refine C_ret ?_
    try simp only [↓inBlock_ret, ↓then_ret]
    exact retQ rfl (Res.one Tryd.results6 rfl) ⟨rfl, hK.kp⟩

set_option maxRecDepth 4000 in
set_option maxHeartbeats 4000000 in
theorem portlaw2_RouteMatches_c (w : World) {A : Nat → Prop} (hA : ∀ b, w.heap.size ≤ b → A b) (people : (List route_Person)) (v_people : Value) (h_people : Sl A w v_people people) (l : (List route_Work)) (v_l : Value) (h_l : Sl A w v_l l) {r : Bool} (hm : portlaw2_RouteMatches people l = some r) : Ret Tryd.prog 3 #[v_people, v_l] w fun v w' => v = .bool r ∧ Kp False w w' := by
  unfold portlaw2_RouteMatches at hm
  refine enter Tryd.func3 rfl Tryd.ntmps3 rfl ?_
  have hA0 := hA
  have hB := Nat.le_refl w.heap.size
  have hK : Tr False w.heap.size A w A w := Tr.refl (Dw := False) hA
  have hH : Hp w.heap.size A w [] := Hp.nil
  refine C_seq ?_
  refine C_region ?_
  refine V_y (Y_assign rfl) rfl rfl rfl ?_
  refine V_to (fun _ _ => rfl) ?_
  refine C_seq ?_
  refine C_region ?_
  refine V_y (Y_move rfl) rfl rfl rfl ?_
  refine V_y (Y_move rfl) rfl rfl rfl ?_
  obtain ⟨x5, hx5, hm⟩ := Option.bind_eq_some_iff.1 hm
  refine V_call Tryd.call4 rfl rfl rfl rfl (route_Match_c (Dw := False) w hA people v_people h_people l v_l h_l hx5) ?_
  rintro _ w9 ⟨v6, rfl, h7, hk10⟩
  obtain ⟨A11, ht12, hH13⟩ := Hp.addOwnd (Dw := False) hH hB hA hk10 h7
  replace h_people := Sl.tr (Dw := False) h_people ht12
  replace h_l := Sl.tr (Dw := False) h_l ht12
  replace hK := Tr.trans (Dw := False) hK ht12
  replace hB := Nat.le_trans hB ht12.ex.size
  replace hA := ht12.new
  replace hH : Hp w.heap.size A11 w9 (obS (α := Int) 3 v6 x5.1 :: []) := hH13
  refine V_y (Y_move rfl) rfl rfl rfl ?_
  refine V_y (Y_extract rfl rfl) rfl rfl rfl ?_
  refine V_y (Y_extract rfl rfl) rfl rfl rfl ?_
  refine V_y (Y_assign rfl) rfl rfl rfl ?_
  refine V_y (Y_assign rfl) rfl rfl rfl ?_
  refine V_to (fun _ _ => rfl) ?_
  refine C_seq ?_
  refine C_region ?_
  refine V_y (Y_move rfl) rfl rfl rfl ?_
  refine V_y (Y_move rfl) rfl rfl rfl ?_
  obtain ⟨x14, hx14, hm⟩ := Option.bind_eq_some_iff.1 hm
  refine V_call Tryd.call5 rfl rfl rfl rfl (portref2_MatchOf_c w9 hA people v_people h_people l v_l h_l hx14) ?_
  rintro _ w17 ⟨v15, rfl, h16, hk18⟩
  obtain ⟨A19, ht20, hH21⟩ := Hp.addOwnd (Dw := False) hH hB hA hk18 h16
  replace h_people := Sl.tr (Dw := False) h_people ht20
  replace h_l := Sl.tr (Dw := False) h_l ht20
  replace hK := Tr.trans (Dw := False) hK ht20
  replace hB := Nat.le_trans hB ht20.ex.size
  replace hA := ht20.new
  replace hH : Hp w.heap.size A19 w17 (obS (α := Int) 3 v15 x14.1 :: obS (α := Int) 3 v6 x5.1 :: []) := hH21
  refine V_y (Y_move rfl) rfl rfl rfl ?_
  refine V_y (Y_extract rfl rfl) rfl rfl rfl ?_
  refine V_y (Y_extract rfl rfl) rfl rfl rfl ?_
  refine V_y (Y_assign rfl) rfl rfl rfl ?_
  refine V_y (Y_assign rfl) rfl rfl rfl ?_
  refine V_to (fun _ _ => rfl) ?_
  refine C_seq ?_
  obtain ⟨s23, ho22, hm⟩ := Option.bind_eq_some_iff.1 hm
  refine C_cutG (ι := (Nat → Prop)) (fun (A28 : (Nat → Prop)) => [(4, .bool s23)]) (fun (A28 : (Nat → Prop)) => fun w' => Hp w.heap.size A28 w' (obS (α := Int) 3 v15 x14.1 :: obS (α := Int) 3 v6 x5.1 :: []) ∧ Tr False w.heap.size A19 w17 A28 w') ?_ ?_
  · have hr24 : Tr False w.heap.size A19 w17 A19 w17 := Tr.refl (Dw := False) hA
    refine C_region ?_
    refine V_y (Y_move rfl) rfl rfl rfl ?_
    refine V_y (Y_move rfl) rfl rfl rfl ?_
    refine V_y (Y_eql rfl rfl) rfl rfl rfl ?_
    refine V_y (Y_move rfl) rfl rfl rfl ?_
    rcases Bool.eq_false_or_eq_true (x5.2 == x14.2) with hc30 | hc30
    · rw [if_pos hc30] at ho22
      refine V_ge rfl rfl rfl hc30 ?_
      refine V_y (Y_move rfl) rfl rfl rfl ?_
      refine V_ge rfl rfl rfl hc30 ?_
      refine V_y (Y_move rfl) rfl rfl rfl ?_
      refine V_ge rfl rfl rfl hc30 ?_
      obtain ⟨x31, hx31, ho22⟩ := Option.bind_eq_some_iff.1 ho22
      refine V_call Tryd.call6 rfl rfl rfl rfl (slices_Equal_Lint_int_c (Dw := False) w17 (A := fun _ => True) (fun _ _ => trivial) x5.1 v6 (Hp.any (α := Int) (e := 3) (v := v6) (l := x5.1) hH (i := 1) rfl) x14.1 v15 (Hp.any (α := Int) (e := 3) (v := v15) (l := x14.1) hH (i := 0) rfl) hx31) ?_
      rintro _ w33 ⟨rfl, hk34⟩
      have ht35 := Kp.tr (Dw := False) hk34 hA hB
      replace hH := Hp.kp (Dw := False) hH hk34
      replace hK := Tr.trans (Dw := False) hK ht35
      replace hr24 := Tr.trans (Dw := False) hr24 ht35
      replace hB := Nat.le_trans hB ht35.ex.size
      replace hA := ht35.new
      refine V_y (Y_pick_te rfl hc30 rfl) rfl rfl rfl ?_
      refine V_y (Y_assign rfl) rfl rfl rfl ?_
      obtain rfl := Option.some.inj ho22
      refine V_end (fun a ha36 => ?_)
      exact ⟨A19, ha36.sub ⟨rfl, trivial⟩, ⟨hH, hr24⟩⟩
    · rw [if_neg (nt hc30)] at ho22
      refine V_gn rfl rfl rfl hc30 rfl rfl rfl ?_
      refine V_gn rfl rfl rfl hc30 rfl rfl rfl ?_
      refine V_gn rfl rfl rfl hc30 rfl rfl rfl ?_
      refine V_y (Y_pick_fe rfl hc30 rfl) rfl rfl rfl ?_
      refine V_y (Y_assign rfl) rfl rfl rfl ?_
      obtain rfl := Option.some.inj ho22
      refine V_end (fun a ha37 => ?_)
      exact ⟨A19, ha37.sub ⟨rfl, trivial⟩, ⟨hH, hr24⟩⟩
  rintro A28 w25 ⟨hH29, hk26⟩ a ha27
  replace hK := Tr.trans (Dw := False) hK hk26
  replace hB := Nat.le_trans hB hk26.ex.size
  replace hA := hk26.new
  replace hH : Hp w.heap.size A28 w25 (obS (α := Int) 3 v15 x14.1 :: obS (α := Int) 3 v6 x5.1 :: []) := hH29
  refine C_at (n := ⟨29, [], none⟩) (fun _ _ => rfl) ?_ ha27
  obtain rfl := Option.some.inj hm
  refine C_ret ?_
  try simp only [↓inBlock_ret, ↓then_ret]
  exact retQ rfl (Res.one Tryd.results3 rfl) ⟨rfl, hK.kp⟩

end Go.Proofs.YtgmenjhmnjhgoaaDoor.W
