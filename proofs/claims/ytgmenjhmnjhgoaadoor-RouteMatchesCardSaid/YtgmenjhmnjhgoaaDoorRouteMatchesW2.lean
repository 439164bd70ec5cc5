/-
  Written by program (gen.py) from the IR of the dump: each function computes its model.
-/
import Derived.Test.YtgmenjhmnjhgoaaDoorRouteMatchesW1
namespace Go.Proofs.YtgmenjhmnjhgoaaDoor.W
open Go Go.RowKit Go.Pu Go.Gw Go.Proofs Go.Proofs.YtgmenjhmnjhgoaaDoor.M
set_option linter.unusedVariables false
set_option linter.unusedSimpArgs false
variable {Dw : Prop}

set_option maxRecDepth 4000 in
set_option maxHeartbeats 4000000 in
theorem route_Match_c (w : World) {A : Nat → Prop} (hA : ∀ b, w.heap.size ≤ b → A b) (people : (List route_Person)) (v_people : Value) (h_people : Sl A w v_people people) (waiting : (List route_Work)) (v_waiting : Value) (h_waiting : Sl A w v_waiting waiting) {r : ((List Int) × Int)} (hm : route_Match people waiting = some r) : Ret Tryd.prog 4 #[v_people, v_waiting] w fun v w' => ∃ s0, v = .tuple #[s0, .int .i64 r.2] ∧ Ownd 3 w w' s0 r.1 ∧ Kp Dw w w' := by
  unfold route_Match at hm
  refine enter Tryd.func4 rfl Tryd.ntmps4 rfl ?_
  have hA0 := hA
  have hB := Nat.le_refl w.heap.size
  have hK : Tr Dw w.heap.size A w A w := Tr.refl (Dw := Dw) hA
  have hH : Hp w.heap.size A w [] := Hp.nil
  refine C_seq ?_
  refine C_region ?_
  refine V_y (Y_assign rfl) rfl rfl rfl ?_
  refine V_y (Y_assign rfl) rfl rfl rfl ?_
  refine V_to (fun _ _ => rfl) ?_
  refine C_seq ?_
  refine C_seq ?_
  refine C_region ?_
  refine V_y (Y_move rfl) rfl rfl rfl ?_
  obtain ⟨x5, hx5, hm⟩ := Option.bind_eq_some_iff.1 hm
  refine V_call Tryd.call8 rfl rfl rfl rfl (route_CheckPeople_c (Dw := Dw) w hA people v_people h_people hx5) ?_
  rintro _ w6 ⟨rfl, hk7⟩
  have ht8 := Kp.tr (Dw := Dw) hk7 hA hB
  replace hH := Hp.kp (Dw := Dw) hH hk7
  replace h_people := Sl.tr (Dw := Dw) h_people ht8
  replace h_waiting := Sl.tr (Dw := Dw) h_waiting ht8
  replace hK := Tr.trans (Dw := Dw) hK ht8
  replace hB := Nat.le_trans hB ht8.ex.size
  replace hA := ht8.new
  refine V_y (Y_move rfl) rfl rfl rfl ?_
  obtain ⟨x9, hx9, hm⟩ := Option.bind_eq_some_iff.1 hm
  refine V_call Tryd.call9 rfl rfl rfl rfl (route_CheckWork_c (Dw := Dw) w6 hA waiting v_waiting h_waiting hx9) ?_
  rintro _ w10 ⟨rfl, hk11⟩
  have ht12 := Kp.tr (Dw := Dw) hk11 hA hB
  replace hH := Hp.kp (Dw := Dw) hH hk11
  replace h_people := Sl.tr (Dw := Dw) h_people ht12
  replace h_waiting := Sl.tr (Dw := Dw) h_waiting ht12
  replace hK := Tr.trans (Dw := Dw) hK ht12
  replace hB := Nat.le_trans hB ht12.ex.size
  replace hA := ht12.new
  refine V_buildSlice (Dw := Dw) (l := ([x5, x9] : List Int)) (len := 2) Tryd.underlying48 Tryd.sizeOf25 Tryd.zeroValue25 rfl (by with_unfolding_all rfl) (show (2 * 1 : Nat) ≠ 0 by decide) (show (2 * 1 : Nat) ≤ 2 ^ 24 by decide) hA ⟨[.int .i64 x5], _, rfl, rfl, ⟨[.int .i64 x9], _, rfl, rfl, rfl⟩⟩ rfl rfl ?_
  intro v13 w14 hk16 h15
  have ht17 := Kp.tr (Dw := Dw) hk16 hA hB
  replace hH := Hp.kp (Dw := Dw) hH hk16
  replace h_people := Sl.tr (Dw := Dw) h_people ht17
  replace h_waiting := Sl.tr (Dw := Dw) h_waiting ht17
  replace hK := Tr.trans (Dw := Dw) hK ht17
  replace hB := Nat.le_trans hB ht17.ex.size
  replace hA := ht17.new
  obtain ⟨x18, hx18, hm⟩ := Option.bind_eq_some_iff.1 hm
  refine V_call Tryd.call7 rfl rfl rfl rfl (cmp_Or_api_Errno_c w14 ([x5, x9] : List Int) v13 h15 hx18) ?_
  rintro _ _ ⟨rfl, rfl⟩
  refine V_y (Y_assign rfl) rfl rfl rfl ?_
  refine V_to (fun _ _ => rfl) ?_
  refine C_seq ?_
  refine C_region ?_
  refine V_y (Y_move rfl) rfl rfl rfl ?_
  refine V_y (Y_neq rfl rfl) rfl rfl rfl ?_
  refine V_to (fun _ _ => rfl) ?_
  refine C_cond rfl (fun hc19 => ?_) (fun hc19 => ?_)
  · rw [if_pos hc19] at hm
    refine C_seq ?_
    refine C_region ?_
    refine V_y (Y_move rfl) rfl rfl rfl ?_
    refine V_y (Y_assign rfl) rfl rfl rfl ?_
    refine V_y (Y_assign rfl) rfl rfl rfl ?_
    refine V_to (fun _ _ => rfl) ?_
    obtain rfl := Option.some.inj hm
    replace hH : Hp w.heap.size A w14 (obS (α := Int) 3 (.slice none 0 0) ([] : (List Int)) :: []) := Hp.addNil (α := Int) (e := 3) hH
    refine C_ret ?_
    try simp only [↓inBlock_ret, ↓then_ret]
    exact retQ rfl (Res.two Tryd.results4 rfl rfl) ⟨.slice none 0 0, rfl, (Hp.ownd hH (i := 0) rfl), hK.kp⟩
  · rw [if_neg (nt hc19)] at hm
    refine C_skip_to (fun _ _ => rfl) ?_
    refine C_seq ?_
    refine C_seq ?_
    refine C_region ?_
    refine V_y (Y_move rfl) rfl rfl rfl ?_
    obtain ⟨x21, hx21, hm⟩ := Option.bind_eq_some_iff.1 hm
    refine V_call Tryd.call10 rfl rfl rfl rfl (slices_ContainsFunc_Lroute_Work_route_Work_c (Dw := Dw) w14 hA waiting v_waiting h_waiting (fun y31 => route_Match_1 y31) 11 #[] #[] Tryd.call11 (fun w27 A28 ht29 h30 y22 v23 h24 r25 h26 => (route_Match_1_c (Dw := Dw) w27 h30 y22 v23 h24  h26).mono (fun _ _ h => ⟨h.1, h.2⟩)) hx21) ?_
    rintro _ w33 ⟨rfl, hk34⟩
    have ht35 := Kp.tr (Dw := Dw) hk34 hA hB
    replace hH := Hp.kp (Dw := Dw) hH hk34
    replace h_people := Sl.tr (Dw := Dw) h_people ht35
    replace h_waiting := Sl.tr (Dw := Dw) h_waiting ht35
    replace hK := Tr.trans (Dw := Dw) hK ht35
    replace hB := Nat.le_trans hB ht35.ex.size
    replace hA := ht35.new
    refine V_to (fun _ _ => rfl) ?_
    refine C_cond rfl (fun hc36 => ?_) (fun hc36 => ?_)
    · rw [if_pos hc36] at hm
      refine C_seq ?_
      refine C_region ?_
      refine V_y (Y_assign rfl) rfl rfl rfl ?_
      refine V_y (Y_assign rfl) rfl rfl rfl ?_
      refine V_to (fun _ _ => rfl) ?_
      obtain rfl := Option.some.inj hm
      replace hH : Hp w.heap.size A w33 (obS (α := Int) 3 (.slice none 0 0) ([] : (List Int)) :: []) := Hp.addNil (α := Int) (e := 3) hH
      refine C_ret ?_
      try simp only [↓inBlock_ret, ↓then_ret]
      exact retQ rfl (Res.two Tryd.results4 rfl rfl) ⟨.slice none 0 0, rfl, (Hp.ownd hH (i := 0) rfl), hK.kp⟩
    · rw [if_neg (nt hc36)] at hm
      refine C_skip_to (fun _ _ => rfl) ?_
      refine C_seq ?_
      refine C_region ?_
      refine V_y (Y_move rfl) rfl rfl rfl ?_
      refine V_y (Y_move rfl) rfl rfl rfl ?_
      refine V_y (Y_move rfl) rfl rfl rfl ?_
      refine V_y (Y_lenSl h_waiting rfl Tryd.underlying23 rfl) rfl rfl rfl ?_
      obtain ⟨x37, hx37, hm⟩ := Option.bind_eq_some_iff.1 hm
      refine V_makeH (Dw := Dw) (e := 4) (ti := Tryd.t4) hH hx37 (fun _ _ => rfl) Tryd.underlying39 Tryd_info4 rfl rfl rfl (by decide) (by decide) hB hA rfl rfl rfl ?_
      intro v38 w39 A40 hH41 ht42
      replace h_people := Sl.tr (Dw := Dw) h_people ht42
      replace h_waiting := Sl.tr (Dw := Dw) h_waiting ht42
      replace hK := Tr.trans (Dw := Dw) hK ht42
      replace hB := Nat.le_trans hB ht42.ex.size
      replace hA := ht42.new
      replace hH : Hp w.heap.size A40 w39 (obS (α := Bool) 4 v38 x37 :: []) := hH41
      refine V_y (Y_build (cells := #[v_people, v_waiting, .slice none 0 0, .slice none 0 0, v38]) Tryd.underlying41 Tryd.zeroValue41 (Tryd_places41 _ Tryd.underlying41) rfl (by obtain ⟨a43, c44, e45, _⟩ := Sl.form h_people; subst e45; obtain ⟨a46, c47, e48, _⟩ := Sl.form h_waiting; subst e48; obtain ⟨a49, c50, e51, _⟩ := Sl.form (Hp.any (α := Bool) (e := 4) (v := v38) (l := x37) hH (i := 0) rfl); subst e51; with_unfolding_all rfl)) rfl rfl rfl ?_
      refine V_boxH (Dw := Dw) (B := w.heap.size) hH rfl hB hA rfl ?_
      intro b52 w53 A54 hH55 ht56
      replace h_people := Sl.tr (Dw := Dw) h_people ht56
      replace h_waiting := Sl.tr (Dw := Dw) h_waiting ht56
      replace hK := Tr.trans (Dw := Dw) hK ht56
      replace hB := Nat.le_trans hB ht56.ex.size
      replace hA := ht56.new
      replace hH : Hp w.heap.size A54 w53 (obC b52 [v_people, v_waiting, .slice none 0 0, .slice none 0 0, v38] 41 :: obS (α := Bool) 4 v38 x37 :: []) := hH55
      refine V_y (Y_assign rfl) rfl rfl rfl ?_
      refine V_to (fun _ _ => rfl) ?_
      refine C_seq ?_
      refine C_seq ?_
      refine C_region ?_
      refine V_y (Y_move rfl) rfl rfl rfl ?_
      refine V_y (Y_lenSl h_waiting rfl Tryd.underlying23 rfl) rfl rfl rfl ?_
      refine V_y (Y_move rfl) rfl rfl rfl ?_
      refine V_to (fun _ _ => rfl) ?_
      replace hH : Hp w.heap.size A54 w53 (obS (α := Int) 3 (.slice none 0 0) ([] : (List Int)) :: obC b52 [v_people, v_waiting, .slice none 0 0, .slice none 0 0, v38] 41 :: obS (α := Bool) 4 v38 x37 :: []) := Hp.addNil (α := Int) (e := 3) hH
      replace hH : Hp w.heap.size A54 w53 (obS (α := Int) 3 (.slice none 0 0) ([] : (List Int)) :: obS (α := Int) 3 (.slice none 0 0) ([] : (List Int)) :: obC b52 [v_people, v_waiting, .slice none 0 0, .slice none 0 0, v38] 41 :: obS (α := Bool) 4 v38 x37 :: []) := Hp.addNil (α := Int) (e := 3) hH
      have hn97 := Sl.le h_waiting
      obtain ⟨o57, ho57, hm⟩ := Option.bind_eq_some_iff.1 hm
      refine C_cutG (ι := (route_matcher × Value × Value × Value × Value × Value × (Nat → Prop))) (fun ⟨s58, v64, v66, v68, v70, v72, A74⟩ => [(0, v_people), (1, v_waiting), (7, .pointer (some ⟨b52, 0, none⟩))]) (fun ⟨s58, v64, v66, v68, v70, v72, A74⟩ => fun w' => o57 = .fin s58 ∧ Sl A74 w' v64 s58.people ∧ Sl A74 w' v66 s58.work ∧ Hp w.heap.size A74 w' (obS (α := Int) 3 v70 s58.free :: obS (α := Int) 3 v68 s58.at_ :: obC b52 [v64, v66, v68, v70, v72] 41 :: obS (α := Bool) 4 v72 s58.fixed :: []) ∧ Tr Dw w.heap.size A54 w53 A74 w') ?_ ?_
      · refine C_block ?_
        refine C_range ho57 (fun k60 s76 a w' => ∃ i : (Value × Value × Value × Value × Value × (Nat → Prop)), Has ⟨125, [], none⟩ a ([(0, v_people), (1, v_waiting), (7, .pointer (some ⟨b52, 0, none⟩)), (35, .int .i64 (waiting.length : Int)), (36, .int .i64 (k60 : Int))]) ∧ Sl i.2.2.2.2.2 w' i.1 s76.people ∧ Sl i.2.2.2.2.2 w' i.2.1 s76.work ∧ Hp w.heap.size i.2.2.2.2.2 w' (obS (α := Int) 3 i.2.2.2.1 s76.free :: obS (α := Int) 3 i.2.2.1 s76.at_ :: obC b52 [i.1, i.2.1, i.2.2.1, i.2.2.2.1, i.2.2.2.2.1] 41 :: obS (α := Bool) 4 i.2.2.2.2.1 s76.fixed :: []) ∧ Tr Dw w.heap.size A54 w53 i.2.2.2.2.2 w') (fun a ha => ⟨(v_people, v_waiting, .slice none 0 0, .slice none 0 0, v38, A54), ha.sub ⟨rfl, rfl, rfl, rfl, rfl, trivial⟩, ⟨h_people, h_waiting, hH, Tr.refl (Dw := Dw) hA⟩⟩) ?_
        rintro K k60 s76 a w77 ⟨⟨v78, v80, v82, v84, v86, A88⟩, ha119, h79, h81, hH89, hr59⟩ hle93 K96 h95
        refine C_of ?_ ha119
        replace h_people := Sl.tr (Dw := Dw) h_people hr59
        replace h_waiting := Sl.tr (Dw := Dw) h_waiting hr59
        replace hK := Tr.trans (Dw := Dw) hK hr59
        replace hB := Nat.le_trans hB hr59.ex.size
        replace hA := hr59.new
        replace hH : Hp w.heap.size A88 w77 (obS (α := Int) 3 v84 s76.free :: obS (α := Int) 3 v82 s76.at_ :: obC b52 [v78, v80, v82, v84, v86] 41 :: obS (α := Bool) 4 v86 s76.fixed :: []) := hH89
        refine C_seq (C_region (V_y (Y_lss rfl rfl) rfl rfl rfl (V_to (fun _ _ => rfl) ?_)))
        refine C_seq ?_
        refine C_cond rfl (fun hc98 => ?_) (fun hc98 => ?_)
        · have hlt94 := lt_of_dec hc98
          obtain ⟨x90, h91, h92⟩ := K96 hlt94
          refine C_skip_to (fun _ _ => rfl) ?_
          refine C_seq ?_
          refine C_block ?_
          refine C_region ?_
          refine V_y (Y_move rfl) rfl rfl rfl ?_
          refine V_y (Y_move rfl) rfl rfl rfl ?_
          refine V_y (Y_nilCheck rfl) rfl rfl rfl ?_
          refine V_y (Y_fieldAddrC (off2 := 2) Tryd.underlying41 rfl Tryd.sizeOf24 (by decide) rfl rfl) rfl rfl rfl ?_
          refine V_y (Y_load (Hp.cell (j := 2) hH (i := 2) rfl rfl) Tryd.isAgg24 rfl) rfl rfl rfl ?_
          refine V_buildSlice (Dw := Dw) (cells := #[.int .i64 (-1)]) (l := ([(-1)] : List Int)) (len := 1) Tryd.underlying24 Tryd.sizeOf3 Tryd.zeroValue3 rfl (by generalize ((-1) : Int) = z103; kernel_rfl) (show (1 * 1 : Nat) ≠ 0 by decide) (show (1 * 1 : Nat) ≤ 2 ^ 24 by decide) hA ⟨[.int .i64 (-1)], _, rfl, rfl, rfl⟩ rfl rfl ?_
          intro v99 w100 hk102 h101
          have ht104 := Kp.tr (Dw := Dw) hk102 hA hB
          replace hH := Hp.kp (Dw := Dw) hH hk102
          replace h_people := Sl.tr (Dw := Dw) h_people ht104
          replace h_waiting := Sl.tr (Dw := Dw) h_waiting ht104
          replace h79 := Sl.tr (Dw := Dw) h79 ht104
          replace h81 := Sl.tr (Dw := Dw) h81 ht104
          replace hK := Tr.trans (Dw := Dw) hK ht104
          replace hr59 := Tr.trans (Dw := Dw) hr59 ht104
          replace hB := Nat.le_trans hB ht104.ex.size
          replace hA := ht104.new
          obtain ⟨x105, hx105, h91⟩ := Option.bind_eq_some_iff.1 h91
          refine V_appendH (Dw := Dw) (e := 3) (v := v82) (l := s76.at_) (ti := Tryd.t3) (bytes := 8) (lim := 17592186044416) hH (i := 1) rfl h101 hx105 Tryd.underlying24 Tryd_info3 rfl rfl rfl rfl (by decide) (by decide) (by decide) hB hA rfl rfl rfl ?_
          intro v106 w107 A108 hH109 ht110
          replace h_people := Sl.tr (Dw := Dw) h_people ht110
          replace h_waiting := Sl.tr (Dw := Dw) h_waiting ht110
          replace h101 := Sl.tr (Dw := Dw) h101 ht110
          replace h79 := Sl.tr (Dw := Dw) h79 ht110
          replace h81 := Sl.tr (Dw := Dw) h81 ht110
          replace hK := Tr.trans (Dw := Dw) hK ht110
          replace hr59 := Tr.trans (Dw := Dw) hr59 ht110
          replace hB := Nat.le_trans hB ht110.ex.size
          replace hA := ht110.new
          replace hH : Hp w.heap.size A108 w107 (obS (α := Int) 3 v84 s76.free :: obS (α := Int) 3 v106 x105 :: obC b52 [v78, v80, v82, v84, v86] 41 :: obS (α := Bool) 4 v86 s76.fixed :: []) := hH109
          refine V_y (Y_nilCheck rfl) rfl rfl rfl ?_
          refine V_y (Y_fieldAddrC (off2 := 2) Tryd.underlying41 rfl Tryd.sizeOf24 (by decide) rfl rfl) rfl rfl rfl ?_
          have h116 : (v106).oneCell' = true := by obtain ⟨_, _, e, _⟩ := Sl.form (Hp.any (α := Int) (e := 3) (v := v106) (l := x105) hH (i := 1) rfl); rw [e]; rfl
          refine V_storeC (Dw := Dw) (off := 2) (ds := [v78, v80, v106, v84, v86]) hH (i := 2) rfl Tryd.sizeOf24 (by rw [← Array.length_toList, Value.cells_one h116]; rfl) (Nat.le_of_ble_eq_true rfl) (by intro u hu; rw [Value.cells_one h116] at hu; simp at hu; subst hu; assumption) (by rw [Value.cells_one h116]; rfl) hB hA rfl rfl ?_
          intro w111 hH112 ht113
          replace h_people := Sl.tr (Dw := Dw) h_people ht113
          replace h_waiting := Sl.tr (Dw := Dw) h_waiting ht113
          replace h101 := Sl.tr (Dw := Dw) h101 ht113
          replace h79 := Sl.tr (Dw := Dw) h79 ht113
          replace h81 := Sl.tr (Dw := Dw) h81 ht113
          replace hK := Tr.trans (Dw := Dw) hK ht113
          replace hr59 := Tr.trans (Dw := Dw) hr59 ht113
          replace hB := Nat.le_trans hB ht113.ex.size
          replace hA := ht113.new
          replace hH : Hp w.heap.size A108 w111 (obS (α := Int) 3 v84 s76.free :: obS (α := Int) 3 v106 x105 :: obC b52 [v78, v80, v106, v84, v86] 41 :: obS (α := Bool) 4 v86 s76.fixed :: []) := hH112
          refine V_to (fun _ _ => rfl) ?_
          refine C_region ?_
          refine V_y (Y_addI rfl rfl) rfl rfl rfl ?_
          refine V_y (Y_move rfl) rfl rfl rfl ?_
          obtain rfl := Option.some.inj h91
          refine V_end (fun a ha117 => ?_)
          exact ⟨(⟨s76.people, s76.work, x105, s76.free, s76.fixed⟩ : route_matcher), hlt94, h92, ⟨(v78, v80, v106, v84, v86, A108), ha117.sub ⟨rfl, rfl, rfl, rfl, (congrArg (fun z => some (Value.int .i64 z)) (w64_succ hlt94 hn97)), trivial⟩, ⟨h79, h81, hH, hr59⟩⟩⟩
        · refine C_exit (fun a ha118 => ?_)
          exact ⟨(s76, v78, v80, v82, v84, v86, A88), ha118.sub ⟨rfl, rfl, rfl, trivial⟩, ⟨(h95 (eq_of_dec hle93 hc98)).symm, h79, h81, hH, hr59⟩⟩
      rintro ⟨s58, v64, v66, v68, v70, v72, A74⟩ w61 ⟨rfl, h65, h67, hH75, hk62⟩ a ha63
      rw [Lp.andThen_fin] at hm
      replace h_people := Sl.tr (Dw := Dw) h_people hk62
      replace h_waiting := Sl.tr (Dw := Dw) h_waiting hk62
      replace hK := Tr.trans (Dw := Dw) hK hk62
      replace hB := Nat.le_trans hB hk62.ex.size
      replace hA := hk62.new
      replace hH : Hp w.heap.size A74 w61 (obS (α := Int) 3 v70 s58.free :: obS (α := Int) 3 v68 s58.at_ :: obC b52 [v64, v66, v68, v70, v72] 41 :: obS (α := Bool) 4 v72 s58.fixed :: []) := hH75
      refine C_at (n := ⟨125, [], none⟩) (fun _ _ => rfl) ?_ ha63
      refine C_seq ?_
      refine C_seq ?_
      refine C_region ?_
      refine V_y (Y_move rfl) rfl rfl rfl ?_
      refine V_y (Y_lenSl h_people rfl Tryd.underlying22 rfl) rfl rfl rfl ?_
      refine V_y (Y_move rfl) rfl rfl rfl ?_
      refine V_to (fun _ _ => rfl) ?_
      have hn160 := Sl.le h_people
      obtain ⟨o120, ho120, hm⟩ := Option.bind_eq_some_iff.1 hm
      refine C_cutG (ι := (route_matcher × Value × Value × Value × Value × Value × (Nat → Prop))) (fun ⟨s121, v127, v129, v131, v133, v135, A137⟩ => [(0, v_people), (1, v_waiting), (7, .pointer (some ⟨b52, 0, none⟩))]) (fun ⟨s121, v127, v129, v131, v133, v135, A137⟩ => fun w' => o120 = .fin s121 ∧ Sl A137 w' v127 s121.people ∧ Sl A137 w' v129 s121.work ∧ Hp w.heap.size A137 w' (obS (α := Int) 3 v133 s121.free :: obS (α := Int) 3 v131 s121.at_ :: obC b52 [v127, v129, v131, v133, v135] 41 :: obS (α := Bool) 4 v135 s121.fixed :: []) ∧ Tr Dw w.heap.size A74 w61 A137 w') ?_ ?_
      · refine C_block ?_
        refine C_range ho120 (fun k123 s139 a w' => ∃ i : (Value × Value × Value × Value × Value × (Nat → Prop)), Has ⟨125, [], none⟩ a ([(0, v_people), (1, v_waiting), (7, .pointer (some ⟨b52, 0, none⟩)), (48, v_people), (49, .int .i64 (people.length : Int)), (50, .int .i64 (k123 : Int))]) ∧ Sl i.2.2.2.2.2 w' i.1 s139.people ∧ Sl i.2.2.2.2.2 w' i.2.1 s139.work ∧ Hp w.heap.size i.2.2.2.2.2 w' (obS (α := Int) 3 i.2.2.2.1 s139.free :: obS (α := Int) 3 i.2.2.1 s139.at_ :: obC b52 [i.1, i.2.1, i.2.2.1, i.2.2.2.1, i.2.2.2.2.1] 41 :: obS (α := Bool) 4 i.2.2.2.2.1 s139.fixed :: []) ∧ Tr Dw w.heap.size A74 w61 i.2.2.2.2.2 w') (fun a ha => ⟨(v64, v66, v68, v70, v72, A74), ha.sub ⟨rfl, rfl, rfl, rfl, rfl, rfl, trivial⟩, ⟨h65, h67, hH, Tr.refl (Dw := Dw) hA⟩⟩) ?_
        rintro K k123 s139 a w140 ⟨⟨v141, v143, v145, v147, v149, A151⟩, ha203, h142, h144, hH152, hr122⟩ hle156 K159 h158
        refine C_of ?_ ha203
        replace h_people := Sl.tr (Dw := Dw) h_people hr122
        replace h_waiting := Sl.tr (Dw := Dw) h_waiting hr122
        replace hK := Tr.trans (Dw := Dw) hK hr122
        replace hB := Nat.le_trans hB hr122.ex.size
        replace hA := hr122.new
        replace hH : Hp w.heap.size A151 w140 (obS (α := Int) 3 v147 s139.free :: obS (α := Int) 3 v145 s139.at_ :: obC b52 [v141, v143, v145, v147, v149] 41 :: obS (α := Bool) 4 v149 s139.fixed :: []) := hH152
        refine C_seq (C_region (V_y (Y_lss rfl rfl) rfl rfl rfl (V_to (fun _ _ => rfl) ?_)))
        refine C_seq ?_
        refine C_cond rfl (fun hc161 => ?_) (fun hc161 => ?_)
        · have hlt157 := lt_of_dec hc161
          obtain ⟨x153, h154, h155⟩ := K159 hlt157
          refine C_skip_to (fun _ _ => rfl) ?_
          refine C_seq ?_
          refine C_block ?_
          refine C_seq ?_
          refine C_region ?_
          obtain ⟨x162, hx162, h154⟩ := Option.bind_eq_some_iff.1 h154
          refine V_indexAddr h_people hx162 Tryd.underlying22 Tryd.sizeOf43 rfl rfl rfl ?_
          intro b163 o164 h165
          obtain ⟨v166, h168, h167⟩ := El_route_Person h165
          refine V_y (Y_loadA h168 Tryd.isAgg43 Tryd.sizeOf43 rfl) rfl rfl rfl ?_
          refine V_alloc Tryd.zeroValue43 rfl ?_
          intro b169 w170 h171
          have h176 : (v166).oneCell' = true := by obtain ⟨_, _, e, _⟩ := Sl.form h167; rw [e]; rfl
          refine V_storeNew h171 Tryd.sizeOf43 rfl rfl rfl rfl (by exact (List.forall_mem_cons.2 ⟨rfl, (List.forall_mem_cons.2 ⟨rfl, (List.forall_mem_cons.2 ⟨rfl, (List.forall_mem_cons.2 ⟨h176, (fun _ h => nomatch h)⟩)⟩)⟩)⟩)) ?_
          intro w172 h173
          have hk178 := h173.kp (Dw := Dw)
          have h177 : El (α := route_Person) A151 w172 b169 0 x162 := h173.el hA ⟨[.int .i64 x162.no], _, rfl, rfl, ⟨[.int .i64 x162.capacity], _, rfl, rfl, ⟨[.int .i64 x162.calendar], _, rfl, rfl, ⟨_, rfl, h167⟩⟩⟩⟩
          have ht179 := Kp.tr (Dw := Dw) hk178 hA hB
          replace hH := Hp.kp (Dw := Dw) hH hk178
          replace h_people := Sl.tr (Dw := Dw) h_people ht179
          replace h_waiting := Sl.tr (Dw := Dw) h_waiting ht179
          replace h165 := El.tr (Dw := Dw) h165 ht179
          replace h167 := Sl.tr (Dw := Dw) h167 ht179
          replace h142 := Sl.tr (Dw := Dw) h142 ht179
          replace h144 := Sl.tr (Dw := Dw) h144 ht179
          replace hK := Tr.trans (Dw := Dw) hK ht179
          replace hr122 := Tr.trans (Dw := Dw) hr122 ht179
          replace hB := Nat.le_trans hB ht179.ex.size
          replace hA := ht179.new
          refine V_to (fun _ _ => rfl) ?_
          refine C_region_ch (Dw := Dw) A151 12 [(1, 0), (1, 1), (1, 2), (1, 3), (0, 4), (1, 5), (1, 6), (2, 7), (4, 8), (1, 9), (1, 10), (4, 11)] Tryd_mixed (by kernel_rfl) (fun w180 hk181 => ?_)
          have ht182 := Kp.tr (Dw := Dw) hk181 hA hB
          replace hH := Hp.kp (Dw := Dw) hH hk181
          replace h_people := Sl.tr (Dw := Dw) h_people ht182
          replace h_waiting := Sl.tr (Dw := Dw) h_waiting ht182
          replace h177 := El.tr (Dw := Dw) h177 ht182
          replace h142 := Sl.tr (Dw := Dw) h142 ht182
          replace h144 := Sl.tr (Dw := Dw) h144 ht182
          replace hK := Tr.trans (Dw := Dw) hK ht182
          replace hr122 := Tr.trans (Dw := Dw) hr122 ht182
          replace hB := Nat.le_trans hB ht182.ex.size
          replace hA := ht182.new
          refine CH_q2 (Dw := Dw) rfl ?_
          refine VQ_y (fun w' hw' => Y_move rfl) rfl rfl rfl ?_
          refine VQ_CH (Dw := Dw) ?_
          refine CH_q2 (Dw := Dw) rfl ?_
          refine VQ_y (fun w' hw' => Y_move rfl) rfl rfl rfl ?_
          refine VQ_CH (Dw := Dw) ?_
          refine CH_q2 (Dw := Dw) rfl ?_
          refine VQ_y (fun w' hw' => Y_nilCheck rfl) rfl rfl rfl ?_
          refine VQ_CH (Dw := Dw) ?_
          refine CH_q2 (Dw := Dw) rfl ?_
          refine VQ_y (fun w' hw' => Y_fieldAddrC (off2 := 3) Tryd.underlying41 rfl Tryd.sizeOf24 (by decide) rfl rfl) rfl rfl rfl ?_
          refine VQ_CH (Dw := Dw) ?_
          refine CH_q1 (Dw := Dw) rfl ?_
          refine VQ_y (fun w' hw' => Y_load ((World.cell?_of_block (hw'.block _ (World.block_lt_of_cell? _ _ (Hp.cell (j := 3) hH (i := 2) rfl rfl)))).trans (Hp.cell (j := 3) hH (i := 2) rfl rfl)) Tryd.isAgg24 rfl) rfl rfl rfl ?_
          refine VQ_CH (Dw := Dw) ?_
          refine CH_q2 (Dw := Dw) rfl ?_
          have h183 := El_route_Person_1 h177
          refine VQ_y (fun w' hw' => Y_fieldAddr Tryd.underlying43 rfl Tryd.sizeOf3 (by decide) rfl) rfl rfl rfl ?_
          refine VQ_CH (Dw := Dw) ?_
          refine CH_q2 (Dw := Dw) rfl ?_
          refine VQ_y (fun w' hw' => Y_load (El.int (El.keep h183 (XA.ex hw'))) Tryd.isAgg3 rfl) rfl rfl rfl ?_
          refine VQ_CH (Dw := Dw) ?_
          refine CH_l1 (Dw := Dw) (k := 0) rfl ?_
          refine V_buildSlice (Dw := Dw) (l := ([x162.capacity] : List Int)) (len := 1) Tryd.underlying24 Tryd.sizeOf3 Tryd.zeroValue3 rfl (by with_unfolding_all rfl) (show (1 * 1 : Nat) ≠ 0 by decide) (show (1 * 1 : Nat) ≤ 2 ^ 24 by decide) hA ⟨[.int .i64 x162.capacity], _, rfl, rfl, rfl⟩ rfl rfl ?_
          intro v184 w185 hk187 h186
          have ht188 := Kp.tr (Dw := Dw) hk187 hA hB
          replace hH := Hp.kp (Dw := Dw) hH hk187
          replace h_people := Sl.tr (Dw := Dw) h_people ht188
          replace h_waiting := Sl.tr (Dw := Dw) h_waiting ht188
          replace h177 := El.tr (Dw := Dw) h177 ht188
          replace h183 := El.tr (Dw := Dw) h183 ht188
          replace h142 := Sl.tr (Dw := Dw) h142 ht188
          replace h144 := Sl.tr (Dw := Dw) h144 ht188
          replace hK := Tr.trans (Dw := Dw) hK ht188
          replace hr122 := Tr.trans (Dw := Dw) hr122 ht188
          replace hB := Nat.le_trans hB ht188.ex.size
          replace hA := ht188.new
          refine V_CH (Dw := Dw) (hk187) ?_
          refine CH_l1 (Dw := Dw) (k := 2) rfl ?_
          obtain ⟨x189, hx189, h154⟩ := Option.bind_eq_some_iff.1 h154
          refine V_appendH (Dw := Dw) (e := 3) (v := v147) (l := s139.free) (ti := Tryd.t3) (bytes := 8) (lim := 17592186044416) hH (i := 0) rfl h186 hx189 Tryd.underlying24 Tryd_info3 rfl rfl rfl rfl (by decide) (by decide) (by decide) hB hA rfl rfl rfl ?_
          intro v190 w191 A192 hH193 ht194
          replace h_people := Sl.tr (Dw := Dw) h_people ht194
          replace h_waiting := Sl.tr (Dw := Dw) h_waiting ht194
          replace h177 := El.tr (Dw := Dw) h177 ht194
          replace h183 := El.tr (Dw := Dw) h183 ht194
          replace h186 := Sl.tr (Dw := Dw) h186 ht194
          replace h142 := Sl.tr (Dw := Dw) h142 ht194
          replace h144 := Sl.tr (Dw := Dw) h144 ht194
          replace hK := Tr.trans (Dw := Dw) hK ht194
          replace hr122 := Tr.trans (Dw := Dw) hr122 ht194
          replace hB := Nat.le_trans hB ht194.ex.size
          replace hA := ht194.new
          replace hH : Hp w.heap.size A192 w191 (obS (α := Int) 3 v190 x189 :: obS (α := Int) 3 v145 s139.at_ :: obC b52 [v141, v143, v145, v147, v149] 41 :: obS (α := Bool) 4 v149 s139.fixed :: []) := hH193
          refine V_CHw (Dw := Dw) ?_
          refine CH_q2 (Dw := Dw) rfl ?_
          refine VQ_y (fun w' hw' => Y_nilCheck rfl) rfl rfl rfl ?_
          refine VQ_CH (Dw := Dw) ?_
          refine CH_q2 (Dw := Dw) rfl ?_
          refine VQ_y (fun w' hw' => Y_fieldAddrC (off2 := 3) Tryd.underlying41 rfl Tryd.sizeOf24 (by decide) rfl rfl) rfl rfl rfl ?_
          refine VQ_CH (Dw := Dw) ?_
          refine CH_l1 (Dw := Dw) (k := 2) rfl ?_
          have h200 : (v190).oneCell' = true := by obtain ⟨_, _, e, _⟩ := Sl.form (Hp.any (α := Int) (e := 3) (v := v190) (l := x189) hH (i := 0) rfl); rw [e]; rfl
          refine V_storeC (Dw := Dw) (off := 3) (ds := [v141, v143, v145, v190, v149]) hH (i := 2) rfl Tryd.sizeOf24 (by rw [← Array.length_toList, Value.cells_one h200]; rfl) (Nat.le_of_ble_eq_true rfl) (by intro u hu; rw [Value.cells_one h200] at hu; simp at hu; subst hu; assumption) (by rw [Value.cells_one h200]; rfl) hB hA rfl rfl ?_
          intro w195 hH196 ht197
          replace h_people := Sl.tr (Dw := Dw) h_people ht197
          replace h_waiting := Sl.tr (Dw := Dw) h_waiting ht197
          replace h177 := El.tr (Dw := Dw) h177 ht197
          replace h183 := El.tr (Dw := Dw) h183 ht197
          replace h186 := Sl.tr (Dw := Dw) h186 ht197
          replace h142 := Sl.tr (Dw := Dw) h142 ht197
          replace h144 := Sl.tr (Dw := Dw) h144 ht197
          replace hK := Tr.trans (Dw := Dw) hK ht197
          replace hr122 := Tr.trans (Dw := Dw) hr122 ht197
          replace hB := Nat.le_trans hB ht197.ex.size
          replace hA := ht197.new
          replace hH : Hp w.heap.size A192 w195 (obS (α := Int) 3 v190 x189 :: obS (α := Int) 3 v145 s139.at_ :: obC b52 [v141, v143, v145, v190, v149] 41 :: obS (α := Bool) 4 v149 s139.fixed :: []) := hH196
          refine V_CHw (Dw := Dw) ?_
          refine CH_tail (Dw := Dw) ?_
          show V _ _ _ _ [] _ _
          refine V_to (fun _ _ => rfl) ?_
          refine C_region ?_
          refine V_y (Y_addI rfl rfl) rfl rfl rfl ?_
          refine V_y (Y_move rfl) rfl rfl rfl ?_
          obtain rfl := Option.some.inj h154
          refine V_end (fun a ha201 => ?_)
          exact ⟨(⟨s139.people, s139.work, s139.at_, x189, s139.fixed⟩ : route_matcher), hlt157, h155, ⟨(v141, v143, v145, v190, v149, A192), ha201.sub ⟨rfl, rfl, rfl, rfl, rfl, (congrArg (fun z => some (Value.int .i64 z)) (w64_succ hlt157 hn160)), trivial⟩, ⟨h142, h144, hH, hr122⟩⟩⟩
        · refine C_exit (fun a ha202 => ?_)
          exact ⟨(s139, v141, v143, v145, v147, v149, A151), ha202.sub ⟨rfl, rfl, rfl, trivial⟩, ⟨(h158 (eq_of_dec hle156 hc161)).symm, h142, h144, hH, hr122⟩⟩
      rintro ⟨s121, v127, v129, v131, v133, v135, A137⟩ w124 ⟨rfl, h128, h130, hH138, hk125⟩ a ha126
      rw [Lp.andThen_fin] at hm
      replace h_people := Sl.tr (Dw := Dw) h_people hk125
      replace h_waiting := Sl.tr (Dw := Dw) h_waiting hk125
      replace hK := Tr.trans (Dw := Dw) hK hk125
      replace hB := Nat.le_trans hB hk125.ex.size
      replace hA := hk125.new
      replace hH : Hp w.heap.size A137 w124 (obS (α := Int) 3 v133 s121.free :: obS (α := Int) 3 v131 s121.at_ :: obC b52 [v127, v129, v131, v133, v135] 41 :: obS (α := Bool) 4 v135 s121.fixed :: []) := hH138
      refine C_at (n := ⟨125, [], none⟩) (fun _ _ => rfl) ?_ ha126
      refine C_seq ?_
      refine C_seq ?_
      refine C_region ?_
      refine V_y (Y_move rfl) rfl rfl rfl ?_
      obtain ⟨x204, hx204, hm⟩ := Option.bind_eq_some_iff.1 hm
      refine V_call Tryd.call12 rfl rfl rfl rfl (route_order_c (Dw := Dw) w124 hA waiting v_waiting h_waiting hx204) ?_
      rintro v205 w207 ⟨_, rfl, h206, hk208⟩
      obtain ⟨A209, ht210, hH211⟩ := Hp.addOwnd (Dw := Dw) hH hB hA hk208 h206
      replace h_people := Sl.tr (Dw := Dw) h_people ht210
      replace h_waiting := Sl.tr (Dw := Dw) h_waiting ht210
      replace h128 := Sl.tr (Dw := Dw) h128 ht210
      replace h130 := Sl.tr (Dw := Dw) h130 ht210
      replace hK := Tr.trans (Dw := Dw) hK ht210
      replace hB := Nat.le_trans hB ht210.ex.size
      replace hA := ht210.new
      replace hH : Hp w.heap.size A209 w207 (obS (α := Int) 3 v205 x204 :: obS (α := Int) 3 v133 s121.free :: obS (α := Int) 3 v131 s121.at_ :: obC b52 [v127, v129, v131, v133, v135] 41 :: obS (α := Bool) 4 v135 s121.fixed :: []) := hH211
      refine V_y (Y_lenSl (Hp.any (α := Int) (e := 3) (v := v205) (l := x204) hH (i := 0) rfl) rfl Tryd.underlying24 rfl) rfl rfl rfl ?_
      refine V_y (Y_move rfl) rfl rfl rfl ?_
      refine V_to (fun _ _ => rfl) ?_
      have hn252 := Hp.le (α := Int) (e := 3) (v := v205) (l := x204) hH (i := 0) rfl
      obtain ⟨o212, ho212, hm⟩ := Option.bind_eq_some_iff.1 hm
      refine C_cutG (ι := (route_matcher × Value × Value × Value × Value × Value × (Nat → Prop))) (fun ⟨s213, v219, v221, v223, v225, v227, A229⟩ => [(1, v_waiting), (7, .pointer (some ⟨b52, 0, none⟩))]) (fun ⟨s213, v219, v221, v223, v225, v227, A229⟩ => fun w' => o212 = .fin s213 ∧ Sl A229 w' v219 s213.people ∧ Sl A229 w' v221 s213.work ∧ Hp w.heap.size A229 w' (obS (α := Int) 3 v205 x204 :: obS (α := Int) 3 v225 s213.free :: obS (α := Int) 3 v223 s213.at_ :: obC b52 [v219, v221, v223, v225, v227] 41 :: obS (α := Bool) 4 v227 s213.fixed :: []) ∧ Tr Dw w.heap.size A209 w207 A229 w') ?_ ?_
      · refine C_block ?_
        refine C_range ho212 (fun k215 s231 a w' => ∃ i : (Value × Value × Value × Value × Value × (Nat → Prop)), Has ⟨125, [], none⟩ a ([(0, v_people), (1, v_waiting), (7, .pointer (some ⟨b52, 0, none⟩)), (67, v205), (68, .int .i64 (x204.length : Int)), (69, .int .i64 (k215 : Int))]) ∧ Sl i.2.2.2.2.2 w' i.1 s231.people ∧ Sl i.2.2.2.2.2 w' i.2.1 s231.work ∧ Hp w.heap.size i.2.2.2.2.2 w' (obS (α := Int) 3 v205 x204 :: obS (α := Int) 3 i.2.2.2.1 s231.free :: obS (α := Int) 3 i.2.2.1 s231.at_ :: obC b52 [i.1, i.2.1, i.2.2.1, i.2.2.2.1, i.2.2.2.2.1] 41 :: obS (α := Bool) 4 i.2.2.2.2.1 s231.fixed :: []) ∧ Tr Dw w.heap.size A209 w207 i.2.2.2.2.2 w') (fun a ha => ⟨(v127, v129, v131, v133, v135, A209), ha.sub ⟨rfl, rfl, rfl, rfl, rfl, rfl, trivial⟩, ⟨h128, h130, hH, Tr.refl (Dw := Dw) hA⟩⟩) ?_
        rintro K k215 s231 a w232 ⟨⟨v233, v235, v237, v239, v241, A243⟩, ha342, h234, h236, hH244, hr214⟩ hle248 K251 h250
        refine C_of ?_ ha342
        replace h_people := Sl.tr (Dw := Dw) h_people hr214
        replace h_waiting := Sl.tr (Dw := Dw) h_waiting hr214
        replace hK := Tr.trans (Dw := Dw) hK hr214
        replace hB := Nat.le_trans hB hr214.ex.size
        replace hA := hr214.new
        replace hH : Hp w.heap.size A243 w232 (obS (α := Int) 3 v205 x204 :: obS (α := Int) 3 v239 s231.free :: obS (α := Int) 3 v237 s231.at_ :: obC b52 [v233, v235, v237, v239, v241] 41 :: obS (α := Bool) 4 v241 s231.fixed :: []) := hH244
        refine C_seq (C_region (V_y (Y_lss rfl rfl) rfl rfl rfl (V_to (fun _ _ => rfl) ?_)))
        refine C_seq ?_
        refine C_cond rfl (fun hc253 => ?_) (fun hc253 => ?_)
        · have hlt249 := lt_of_dec hc253
          obtain ⟨x245, h246, h247⟩ := K251 hlt249
          refine C_skip_to (fun _ _ => rfl) ?_
          refine C_seq ?_
          obtain ⟨s255, ho254, h246⟩ := Option.bind_eq_some_iff.1 h246
          refine C_cutG (ι := (Value × Value × Value × Value × Value × (Nat → Prop))) (fun ⟨v257, v259, v261, v263, v265, A270⟩ => [(0, v_people), (1, v_waiting), (7, .pointer (some ⟨b52, 0, none⟩)), (67, v205), (68, .int .i64 (x204.length : Int)), (69, .int .i64 (k215 : Int))]) (fun ⟨v257, v259, v261, v263, v265, A270⟩ => fun w' => Sl A270 w' v257 s255.people ∧ Sl A270 w' v259 s255.work ∧ Hp w.heap.size A270 w' (obS (α := Int) 3 v205 x204 :: obS (α := Int) 3 v263 s255.free :: obS (α := Int) 3 v261 s255.at_ :: obC b52 [v257, v259, v261, v263, v265] 41 :: obS (α := Bool) 4 v265 s255.fixed :: []) ∧ Tr Dw w.heap.size A243 w232 A270 w') ?_ ?_
          · have hr256 : Tr Dw w.heap.size A243 w232 A243 w232 := Tr.refl (Dw := Dw) hA
            refine C_block ?_
            refine C_seq ?_
            refine C_region ?_
            obtain ⟨x272, hx272, ho254⟩ := Option.bind_eq_some_iff.1 ho254
            refine V_indexAddrH (α := Int) (e := 3) (v := v205) (l := x204) hH (i := 0) rfl hx272 Tryd.underlying24 Tryd.sizeOf3 rfl rfl rfl ?_
            intro b273 o274 h275 hl276
            refine V_y (Y_load (El.int h275) Tryd.isAgg3 rfl) rfl rfl rfl ?_
            refine V_y (Y_assign rfl) rfl rfl rfl ?_
            refine V_to (fun _ _ => rfl) ?_
            refine C_seq ?_
            refine C_region ?_
            refine V_y (Y_move rfl) rfl rfl rfl ?_
            refine V_y (Y_lenSl h_people rfl Tryd.underlying22 rfl) rfl rfl rfl ?_
            refine V_y (Y_move rfl) rfl rfl rfl ?_
            refine V_to (fun _ _ => rfl) ?_
            have hn317 := Sl.le h_people
            obtain ⟨o277, ho277, ho254⟩ := Option.bind_eq_some_iff.1 ho254
            refine C_cutG (ι := (route_matcher × Value × Value × Value × Value × Value × (Nat → Prop))) (fun ⟨s278, v284, v286, v288, v290, v292, A294⟩ => [(0, v_people), (1, v_waiting), (7, .pointer (some ⟨b52, 0, none⟩)), (67, v205), (68, .int .i64 (x204.length : Int)), (69, .int .i64 (k215 : Int))]) (fun ⟨s278, v284, v286, v288, v290, v292, A294⟩ => fun w' => o277 = .fin s278 ∧ Sl A294 w' v284 s278.people ∧ Sl A294 w' v286 s278.work ∧ Hp w.heap.size A294 w' (obS (α := Int) 3 v205 x204 :: obS (α := Int) 3 v290 s278.free :: obS (α := Int) 3 v288 s278.at_ :: obC b52 [v284, v286, v288, v290, v292] 41 :: obS (α := Bool) 4 v292 s278.fixed :: []) ∧ Tr Dw w.heap.size A243 w232 A294 w') ?_ ?_
            · refine C_block ?_
              refine C_range ho277 (fun k280 s296 a w' => ∃ i : (Value × Value × Value × Value × Value × (Nat → Prop)), Has ⟨125, [], none⟩ a ([(0, v_people), (1, v_waiting), (7, .pointer (some ⟨b52, 0, none⟩)), (11, .int .i64 x272), (67, v205), (68, .int .i64 (x204.length : Int)), (69, .int .i64 (k215 : Int)), (74, .int .i64 (people.length : Int)), (75, .int .i64 (k280 : Int))]) ∧ Sl i.2.2.2.2.2 w' i.1 s296.people ∧ Sl i.2.2.2.2.2 w' i.2.1 s296.work ∧ Hp w.heap.size i.2.2.2.2.2 w' (obS (α := Int) 3 v205 x204 :: obS (α := Int) 3 i.2.2.2.1 s296.free :: obS (α := Int) 3 i.2.2.1 s296.at_ :: obC b52 [i.1, i.2.1, i.2.2.1, i.2.2.2.1, i.2.2.2.2.1] 41 :: obS (α := Bool) 4 i.2.2.2.2.1 s296.fixed :: []) ∧ Tr Dw w.heap.size A243 w232 i.2.2.2.2.2 w') (fun a ha => ⟨(v233, v235, v237, v239, v241, A243), ha.sub ⟨rfl, rfl, rfl, rfl, rfl, rfl, rfl, rfl, rfl, trivial⟩, ⟨h234, h236, hH, Tr.refl (Dw := Dw) hA⟩⟩) ?_
              rintro K k280 s296 a w297 ⟨⟨v298, v300, v302, v304, v306, A308⟩, ha338, h299, h301, hH309, hr279⟩ hle313 K316 h315
              refine C_of ?_ ha338
              replace h_people := Sl.tr (Dw := Dw) h_people hr279
              replace h_waiting := Sl.tr (Dw := Dw) h_waiting hr279
              replace hK := Tr.trans (Dw := Dw) hK hr279
              replace hr214 := Tr.trans (Dw := Dw) hr214 hr279
              replace hr256 := Tr.trans (Dw := Dw) hr256 hr279
              replace hB := Nat.le_trans hB hr279.ex.size
              replace hA := hr279.new
              replace hH : Hp w.heap.size A308 w297 (obS (α := Int) 3 v205 x204 :: obS (α := Int) 3 v304 s296.free :: obS (α := Int) 3 v302 s296.at_ :: obC b52 [v298, v300, v302, v304, v306] 41 :: obS (α := Bool) 4 v306 s296.fixed :: []) := hH309
              refine C_seq (C_region (V_y (Y_lss rfl rfl) rfl rfl rfl (V_to (fun _ _ => rfl) ?_)))
              refine C_seq ?_
              refine C_cond rfl (fun hc318 => ?_) (fun hc318 => ?_)
              · have hlt314 := lt_of_dec hc318
                obtain ⟨x310, h311, h312⟩ := K316 hlt314
                refine C_skip_to (fun _ _ => rfl) ?_
                refine C_seq ?_
                refine C_block ?_
                refine C_seq ?_
                refine C_region ?_
                refine V_y (Y_move rfl) rfl rfl rfl ?_
                refine V_y (Y_assign rfl) rfl rfl rfl ?_
                refine V_to (fun _ _ => rfl) ?_
                refine C_seq ?_
                refine C_region ?_
                refine V_y (Y_move rfl) rfl rfl rfl ?_
                refine V_y (Y_move rfl) rfl rfl rfl ?_
                refine V_y (Y_move rfl) rfl rfl rfl ?_
                replace hH : Hp w.heap.size A308 w297 (obS (α := Bool) 4 v306 s296.fixed :: obS (α := Int) 3 v205 x204 :: obS (α := Int) 3 v304 s296.free :: obS (α := Int) 3 v302 s296.at_ :: obC b52 [v298, v300, v302, v304, v306] 41 :: []) := Hp.front hH (i := 4) rfl
                replace hH : Hp w.heap.size A308 w297 (obS (α := Int) 3 v304 s296.free :: obS (α := Bool) 4 v306 s296.fixed :: obS (α := Int) 3 v205 x204 :: obS (α := Int) 3 v302 s296.at_ :: obC b52 [v298, v300, v302, v304, v306] 41 :: []) := Hp.front hH (i := 2) rfl
                replace hH : Hp w.heap.size A308 w297 (obS (α := Int) 3 v302 s296.at_ :: obS (α := Int) 3 v304 s296.free :: obS (α := Bool) 4 v306 s296.fixed :: obS (α := Int) 3 v205 x204 :: obC b52 [v298, v300, v302, v304, v306] 41 :: []) := Hp.front hH (i := 3) rfl
                replace hH : Hp w.heap.size A308 w297 (obC b52 [v298, v300, v302, v304, v306] 41 :: obS (α := Int) 3 v302 s296.at_ :: obS (α := Int) 3 v304 s296.free :: obS (α := Bool) 4 v306 s296.fixed :: obS (α := Int) 3 v205 x204 :: []) := Hp.front hH (i := 4) rfl
                obtain ⟨x319, hx319, h311⟩ := Option.bind_eq_some_iff.1 h311
                refine V_call Tryd.call13 rfl rfl rfl rfl (route_matcher_take_c (Dw := Dw) w297 hB hA s296 b52 v298 h299 v300 h301 v302 v304 v306 x272 (k280 : Int) hH hx319) ?_
                rintro _ w330 ⟨A331, rfl, h321, h323, hH332, ht333⟩
                replace h_people := Sl.tr (Dw := Dw) h_people ht333
                replace h_waiting := Sl.tr (Dw := Dw) h_waiting ht333
                replace h299 := Sl.tr (Dw := Dw) h299 ht333
                replace h301 := Sl.tr (Dw := Dw) h301 ht333
                replace hK := Tr.trans (Dw := Dw) hK ht333
                replace hr214 := Tr.trans (Dw := Dw) hr214 ht333
                replace hr256 := Tr.trans (Dw := Dw) hr256 ht333
                replace hr279 := Tr.trans (Dw := Dw) hr279 ht333
                replace hB := Nat.le_trans hB ht333.ex.size
                replace hA := ht333.new
                replace hH : Hp w.heap.size A331 w330 (obC b52 [v298, v300, v302, v304, v306] 41 :: obS (α := Int) 3 v302 x319.2.at_ :: obS (α := Int) 3 v304 x319.2.free :: obS (α := Bool) 4 v306 x319.2.fixed :: obS (α := Int) 3 v205 x204 :: []) := hH332
                refine V_to (fun _ _ => rfl) ?_
                refine C_cond rfl (fun hc334 => ?_) (fun hc334 => ?_)
                · rw [if_pos hc334] at h311
                  obtain rfl := Option.some.inj h311
                  refine C_exit (fun a ha335 => ?_)
                  replace hH : Hp w.heap.size A331 w330 (obS (α := Bool) 4 v306 x319.2.fixed :: obC b52 [v298, v300, v302, v304, v306] 41 :: obS (α := Int) 3 v302 x319.2.at_ :: obS (α := Int) 3 v304 x319.2.free :: obS (α := Int) 3 v205 x204 :: []) := Hp.front hH (i := 3) rfl
                  replace hH : Hp w.heap.size A331 w330 (obC b52 [v298, v300, v302, v304, v306] 41 :: obS (α := Bool) 4 v306 x319.2.fixed :: obS (α := Int) 3 v302 x319.2.at_ :: obS (α := Int) 3 v304 x319.2.free :: obS (α := Int) 3 v205 x204 :: []) := Hp.front hH (i := 1) rfl
                  replace hH : Hp w.heap.size A331 w330 (obS (α := Int) 3 v302 x319.2.at_ :: obC b52 [v298, v300, v302, v304, v306] 41 :: obS (α := Bool) 4 v306 x319.2.fixed :: obS (α := Int) 3 v304 x319.2.free :: obS (α := Int) 3 v205 x204 :: []) := Hp.front hH (i := 2) rfl
                  replace hH : Hp w.heap.size A331 w330 (obS (α := Int) 3 v304 x319.2.free :: obS (α := Int) 3 v302 x319.2.at_ :: obC b52 [v298, v300, v302, v304, v306] 41 :: obS (α := Bool) 4 v306 x319.2.fixed :: obS (α := Int) 3 v205 x204 :: []) := Hp.front hH (i := 3) rfl
                  replace hH : Hp w.heap.size A331 w330 (obS (α := Int) 3 v205 x204 :: obS (α := Int) 3 v304 x319.2.free :: obS (α := Int) 3 v302 x319.2.at_ :: obC b52 [v298, v300, v302, v304, v306] 41 :: obS (α := Bool) 4 v306 x319.2.fixed :: []) := Hp.front hH (i := 4) rfl
                  exact ⟨(x319.2, v298, v300, v302, v304, v306, A331), ha335.sub ⟨rfl, rfl, rfl, rfl, rfl, rfl, trivial⟩, ⟨h312.symm, h321, h323, hH, hr279⟩⟩
                · rw [if_neg (nt hc334)] at h311
                  refine C_skip_to (fun _ _ => rfl) ?_
                  refine C_region ?_
                  refine V_y (Y_addI rfl rfl) rfl rfl rfl ?_
                  refine V_y (Y_move rfl) rfl rfl rfl ?_
                  obtain rfl := Option.some.inj h311
                  refine V_end (fun a ha336 => ?_)
                  replace hH : Hp w.heap.size A331 w330 (obS (α := Bool) 4 v306 x319.2.fixed :: obC b52 [v298, v300, v302, v304, v306] 41 :: obS (α := Int) 3 v302 x319.2.at_ :: obS (α := Int) 3 v304 x319.2.free :: obS (α := Int) 3 v205 x204 :: []) := Hp.front hH (i := 3) rfl
                  replace hH : Hp w.heap.size A331 w330 (obC b52 [v298, v300, v302, v304, v306] 41 :: obS (α := Bool) 4 v306 x319.2.fixed :: obS (α := Int) 3 v302 x319.2.at_ :: obS (α := Int) 3 v304 x319.2.free :: obS (α := Int) 3 v205 x204 :: []) := Hp.front hH (i := 1) rfl
                  replace hH : Hp w.heap.size A331 w330 (obS (α := Int) 3 v302 x319.2.at_ :: obC b52 [v298, v300, v302, v304, v306] 41 :: obS (α := Bool) 4 v306 x319.2.fixed :: obS (α := Int) 3 v304 x319.2.free :: obS (α := Int) 3 v205 x204 :: []) := Hp.front hH (i := 2) rfl
                  replace hH : Hp w.heap.size A331 w330 (obS (α := Int) 3 v304 x319.2.free :: obS (α := Int) 3 v302 x319.2.at_ :: obC b52 [v298, v300, v302, v304, v306] 41 :: obS (α := Bool) 4 v306 x319.2.fixed :: obS (α := Int) 3 v205 x204 :: []) := Hp.front hH (i := 3) rfl
                  replace hH : Hp w.heap.size A331 w330 (obS (α := Int) 3 v205 x204 :: obS (α := Int) 3 v304 x319.2.free :: obS (α := Int) 3 v302 x319.2.at_ :: obC b52 [v298, v300, v302, v304, v306] 41 :: obS (α := Bool) 4 v306 x319.2.fixed :: []) := Hp.front hH (i := 4) rfl
                  exact ⟨x319.2, hlt314, h312, ⟨(v298, v300, v302, v304, v306, A331), ha336.sub ⟨rfl, rfl, rfl, rfl, rfl, rfl, rfl, rfl, (congrArg (fun z => some (Value.int .i64 z)) (w64_succ hlt314 hn317)), trivial⟩, ⟨h321, h323, hH, hr279⟩⟩⟩
              · refine C_exit (fun a ha337 => ?_)
                exact ⟨(s296, v298, v300, v302, v304, v306, A308), ha337.sub ⟨rfl, rfl, rfl, rfl, rfl, rfl, trivial⟩, ⟨(h315 (eq_of_dec hle313 hc318)).symm, h299, h301, hH, hr279⟩⟩
            rintro ⟨s278, v284, v286, v288, v290, v292, A294⟩ w281 ⟨rfl, h285, h287, hH295, hk282⟩ a ha283
            rw [Lp.andThen_fin] at ho254
            replace h_people := Sl.tr (Dw := Dw) h_people hk282
            replace h_waiting := Sl.tr (Dw := Dw) h_waiting hk282
            replace hK := Tr.trans (Dw := Dw) hK hk282
            replace hr214 := Tr.trans (Dw := Dw) hr214 hk282
            replace hr256 := Tr.trans (Dw := Dw) hr256 hk282
            replace hB := Nat.le_trans hB hk282.ex.size
            replace hA := hk282.new
            replace hH : Hp w.heap.size A294 w281 (obS (α := Int) 3 v205 x204 :: obS (α := Int) 3 v290 s278.free :: obS (α := Int) 3 v288 s278.at_ :: obC b52 [v284, v286, v288, v290, v292] 41 :: obS (α := Bool) 4 v292 s278.fixed :: []) := hH295
            obtain rfl := Option.some.inj ho254
            exact ⟨(v284, v286, v288, v290, v292, A294), ha283.sub ⟨rfl, rfl, rfl, rfl, rfl, rfl, trivial⟩, ⟨h285, h287, hH, hr256⟩⟩
          rintro ⟨v257, v259, v261, v263, v265, A270⟩ w267 ⟨h258, h260, hH271, hk268⟩ a ha269
          replace h_people := Sl.tr (Dw := Dw) h_people hk268
          replace h_waiting := Sl.tr (Dw := Dw) h_waiting hk268
          replace hK := Tr.trans (Dw := Dw) hK hk268
          replace hr214 := Tr.trans (Dw := Dw) hr214 hk268
          replace hB := Nat.le_trans hB hk268.ex.size
          replace hA := hk268.new
          replace hH : Hp w.heap.size A270 w267 (obS (α := Int) 3 v205 x204 :: obS (α := Int) 3 v263 s255.free :: obS (α := Int) 3 v261 s255.at_ :: obC b52 [v257, v259, v261, v263, v265] 41 :: obS (α := Bool) 4 v265 s255.fixed :: []) := hH271
          refine C_at (n := ⟨125, [], none⟩) (fun _ _ => rfl) ?_ ha269
          refine C_region ?_
          refine V_y (Y_addI rfl rfl) rfl rfl rfl ?_
          refine V_y (Y_move rfl) rfl rfl rfl ?_
          obtain rfl := Option.some.inj h246
          refine V_end (fun a ha340 => ?_)
          exact ⟨s255, hlt249, h247, ⟨(v257, v259, v261, v263, v265, A270), ha340.sub ⟨rfl, rfl, rfl, rfl, rfl, (congrArg (fun z => some (Value.int .i64 z)) (w64_succ hlt249 hn252)), trivial⟩, ⟨h258, h260, hH, hr214⟩⟩⟩
        · refine C_exit (fun a ha341 => ?_)
          exact ⟨(s231, v233, v235, v237, v239, v241, A243), ha341.sub ⟨rfl, rfl, trivial⟩, ⟨(h250 (eq_of_dec hle248 hc253)).symm, h234, h236, hH, hr214⟩⟩
      rintro ⟨s213, v219, v221, v223, v225, v227, A229⟩ w216 ⟨rfl, h220, h222, hH230, hk217⟩ a ha218
      rw [Lp.andThen_fin] at hm
      replace h_waiting := Sl.tr (Dw := Dw) h_waiting hk217
      replace hK := Tr.trans (Dw := Dw) hK hk217
      replace hB := Nat.le_trans hB hk217.ex.size
      replace hA := hk217.new
      replace hH : Hp w.heap.size A229 w216 (obS (α := Int) 3 v205 x204 :: obS (α := Int) 3 v225 s213.free :: obS (α := Int) 3 v223 s213.at_ :: obC b52 [v219, v221, v223, v225, v227] 41 :: obS (α := Bool) 4 v227 s213.fixed :: []) := hH230
      refine C_at (n := ⟨125, [], none⟩) (fun _ _ => rfl) ?_ ha218
      refine C_seq ?_
      refine C_seq ?_
      refine C_region ?_
      refine V_y (Y_move rfl) rfl rfl rfl ?_
      obtain ⟨x343, hx343, hm⟩ := Option.bind_eq_some_iff.1 hm
      refine V_call Tryd.call12 rfl rfl rfl rfl (route_order_c (Dw := Dw) w216 hA waiting v_waiting h_waiting hx343) ?_
      rintro v344 w346 ⟨_, rfl, h345, hk347⟩
      obtain ⟨A348, ht349, hH350⟩ := Hp.addOwnd (Dw := Dw) hH hB hA hk347 h345
      replace h_waiting := Sl.tr (Dw := Dw) h_waiting ht349
      replace h220 := Sl.tr (Dw := Dw) h220 ht349
      replace h222 := Sl.tr (Dw := Dw) h222 ht349
      replace hK := Tr.trans (Dw := Dw) hK ht349
      replace hB := Nat.le_trans hB ht349.ex.size
      replace hA := ht349.new
      replace hH : Hp w.heap.size A348 w346 (obS (α := Int) 3 v344 x343 :: obS (α := Int) 3 v205 x204 :: obS (α := Int) 3 v225 s213.free :: obS (α := Int) 3 v223 s213.at_ :: obC b52 [v219, v221, v223, v225, v227] 41 :: obS (α := Bool) 4 v227 s213.fixed :: []) := hH350
      refine V_y (Y_lenSl (Hp.any (α := Int) (e := 3) (v := v344) (l := x343) hH (i := 0) rfl) rfl Tryd.underlying24 rfl) rfl rfl rfl ?_
      refine V_y (Y_move rfl) rfl rfl rfl ?_
      refine V_to (fun _ _ => rfl) ?_
      have hn391 := Hp.le (α := Int) (e := 3) (v := v344) (l := x343) hH (i := 0) rfl
      obtain ⟨o351, ho351, hm⟩ := Option.bind_eq_some_iff.1 hm
      refine C_cutG (ι := (route_matcher × Value × Value × Value × Value × Value × (Nat → Prop))) (fun ⟨s352, v358, v360, v362, v364, v366, A368⟩ => [(7, .pointer (some ⟨b52, 0, none⟩))]) (fun ⟨s352, v358, v360, v362, v364, v366, A368⟩ => fun w' => o351 = .fin s352 ∧ Sl A368 w' v358 s352.people ∧ Sl A368 w' v360 s352.work ∧ Hp w.heap.size A368 w' (obS (α := Int) 3 v344 x343 :: obS (α := Int) 3 v205 x204 :: obS (α := Int) 3 v364 s352.free :: obS (α := Int) 3 v362 s352.at_ :: obC b52 [v358, v360, v362, v364, v366] 41 :: obS (α := Bool) 4 v366 s352.fixed :: []) ∧ Tr Dw w.heap.size A348 w346 A368 w') ?_ ?_
      · refine C_block ?_
        refine C_range ho351 (fun k354 s370 a w' => ∃ i : (Value × Value × Value × Value × Value × (Nat → Prop)), Has ⟨125, [], none⟩ a ([(7, .pointer (some ⟨b52, 0, none⟩)), (85, v344), (86, .int .i64 (x343.length : Int)), (87, .int .i64 (k354 : Int))]) ∧ Sl i.2.2.2.2.2 w' i.1 s370.people ∧ Sl i.2.2.2.2.2 w' i.2.1 s370.work ∧ Hp w.heap.size i.2.2.2.2.2 w' (obS (α := Int) 3 v344 x343 :: obS (α := Int) 3 v205 x204 :: obS (α := Int) 3 i.2.2.2.1 s370.free :: obS (α := Int) 3 i.2.2.1 s370.at_ :: obC b52 [i.1, i.2.1, i.2.2.1, i.2.2.2.1, i.2.2.2.2.1] 41 :: obS (α := Bool) 4 i.2.2.2.2.1 s370.fixed :: []) ∧ Tr Dw w.heap.size A348 w346 i.2.2.2.2.2 w') (fun a ha => ⟨(v219, v221, v223, v225, v227, A348), ha.sub ⟨rfl, rfl, rfl, rfl, trivial⟩, ⟨h220, h222, hH, Tr.refl (Dw := Dw) hA⟩⟩) ?_
        rintro K k354 s370 a w371 ⟨⟨v372, v374, v376, v378, v380, A382⟩, ha500, h373, h375, hH383, hr353⟩ hle387 K390 h389
        refine C_of ?_ ha500
        replace hK := Tr.trans (Dw := Dw) hK hr353
        replace hB := Nat.le_trans hB hr353.ex.size
        replace hA := hr353.new
        replace hH : Hp w.heap.size A382 w371 (obS (α := Int) 3 v344 x343 :: obS (α := Int) 3 v205 x204 :: obS (α := Int) 3 v378 s370.free :: obS (α := Int) 3 v376 s370.at_ :: obC b52 [v372, v374, v376, v378, v380] 41 :: obS (α := Bool) 4 v380 s370.fixed :: []) := hH383
        refine C_seq (C_region (V_y (Y_lss rfl rfl) rfl rfl rfl (V_to (fun _ _ => rfl) ?_)))
        refine C_seq ?_
        refine C_cond rfl (fun hc392 => ?_) (fun hc392 => ?_)
        · have hlt388 := lt_of_dec hc392
          obtain ⟨x384, h385, h386⟩ := K390 hlt388
          refine C_skip_to (fun _ _ => rfl) ?_
          refine C_seq ?_
          obtain ⟨s394, ho393, h385⟩ := Option.bind_eq_some_iff.1 h385
          refine C_cutG (ι := (Value × Value × Value × Value × Value × (Nat → Prop))) (fun ⟨v396, v398, v400, v402, v404, A409⟩ => [(7, .pointer (some ⟨b52, 0, none⟩)), (85, v344), (86, .int .i64 (x343.length : Int)), (87, .int .i64 (k354 : Int))]) (fun ⟨v396, v398, v400, v402, v404, A409⟩ => fun w' => Sl A409 w' v396 s394.people ∧ Sl A409 w' v398 s394.work ∧ Hp w.heap.size A409 w' (obS (α := Int) 3 v344 x343 :: obS (α := Int) 3 v205 x204 :: obS (α := Int) 3 v402 s394.free :: obS (α := Int) 3 v400 s394.at_ :: obC b52 [v396, v398, v400, v402, v404] 41 :: obS (α := Bool) 4 v404 s394.fixed :: []) ∧ Tr Dw w.heap.size A382 w371 A409 w') ?_ ?_
          · have hr395 : Tr Dw w.heap.size A382 w371 A382 w371 := Tr.refl (Dw := Dw) hA
            refine C_block ?_
            refine C_seq ?_
            refine C_region ?_
            obtain ⟨x411, hx411, ho393⟩ := Option.bind_eq_some_iff.1 ho393
            refine V_indexAddrH (α := Int) (e := 3) (v := v344) (l := x343) hH (i := 0) rfl hx411 Tryd.underlying24 Tryd.sizeOf3 rfl rfl rfl ?_
            intro b412 o413 h414 hl415
            refine V_y (Y_load (El.int h414) Tryd.isAgg3 rfl) rfl rfl rfl ?_
            refine V_y (Y_assign rfl) rfl rfl rfl ?_
            refine V_to (fun _ _ => rfl) ?_
            refine C_seq ?_
            refine C_seq ?_
            refine C_region ?_
            refine V_y (Y_move rfl) rfl rfl rfl ?_
            refine V_y (Y_nilCheck rfl) rfl rfl rfl ?_
            refine V_y (Y_fieldAddrC (off2 := 2) Tryd.underlying41 rfl Tryd.sizeOf24 (by decide) rfl rfl) rfl rfl rfl ?_
            refine V_y (Y_load (Hp.cell (j := 2) hH (i := 4) rfl rfl) Tryd.isAgg24 rfl) rfl rfl rfl ?_
            refine V_y (Y_move rfl) rfl rfl rfl ?_
            obtain ⟨x416, hx416, ho393⟩ := Option.bind_eq_some_iff.1 ho393
            refine V_indexAddrH (α := Int) (e := 3) (v := v376) (l := s370.at_) hH (i := 3) rfl hx416 Tryd.underlying24 Tryd.sizeOf3 rfl rfl rfl ?_
            intro b417 o418 h419 hl420
            refine V_y (Y_load (El.int h419) Tryd.isAgg3 rfl) rfl rfl rfl ?_
            refine V_y (Y_lss rfl rfl) rfl rfl rfl ?_
            refine V_to (fun _ _ => rfl) ?_
            refine C_cond rfl (fun hc421 => ?_) (fun hc421 => ?_)
            · rw [if_pos hc421] at ho393
              obtain rfl := Option.some.inj ho393
              refine C_exit (fun a ha422 => ?_)
              exact ⟨(v372, v374, v376, v378, v380, A382), ha422.sub ⟨rfl, rfl, rfl, rfl, trivial⟩, ⟨h373, h375, hH, hr395⟩⟩
            · rw [if_neg (nt hc421)] at ho393
              refine C_skip_to (fun _ _ => rfl) ?_
              refine C_seq ?_
              refine C_seq ?_
              refine C_region ?_
              refine V_y (Y_move rfl) rfl rfl rfl ?_
              refine V_y (Y_nilCheck rfl) rfl rfl rfl ?_
              refine V_y (Y_fieldAddrC (off2 := 2) Tryd.underlying41 rfl Tryd.sizeOf24 (by decide) rfl rfl) rfl rfl rfl ?_
              refine V_y (Y_load (Hp.cell (j := 2) hH (i := 4) rfl rfl) Tryd.isAgg24 rfl) rfl rfl rfl ?_
              refine V_y (Y_move rfl) rfl rfl rfl ?_
              refine V_indexAddrH (α := Int) (e := 3) (v := v376) (l := s370.at_) hH (i := 3) rfl hx416 Tryd.underlying24 Tryd.sizeOf3 rfl rfl rfl ?_
              intro b423 o424 h425 hl426
              refine V_y (Y_load (El.int h425) Tryd.isAgg3 rfl) rfl rfl rfl ?_
              refine V_y (Y_move rfl) rfl rfl rfl ?_
              refine V_to (fun _ _ => rfl) ?_
              obtain ⟨o427, ho427, ho393⟩ := Option.bind_eq_some_iff.1 ho393
              refine C_cutG (ι := ((Int × route_matcher) × Value × Value × Value × Value × Value × (Nat → Prop))) (fun ⟨s428, v434, v436, v438, v440, v442, A444⟩ => [(7, .pointer (some ⟨b52, 0, none⟩)), (14, .int .i64 x411), (85, v344), (86, .int .i64 (x343.length : Int)), (87, .int .i64 (k354 : Int))]) (fun ⟨s428, v434, v436, v438, v440, v442, A444⟩ => fun w' => o427 = .fin s428 ∧ Sl A444 w' v434 s428.2.people ∧ Sl A444 w' v436 s428.2.work ∧ Hp w.heap.size A444 w' (obS (α := Int) 3 v344 x343 :: obS (α := Int) 3 v205 x204 :: obS (α := Int) 3 v440 s428.2.free :: obS (α := Int) 3 v438 s428.2.at_ :: obC b52 [v434, v436, v438, v440, v442] 41 :: obS (α := Bool) 4 v442 s428.2.fixed :: []) ∧ Tr Dw w.heap.size A382 w371 A444 w') ?_ ?_
              · refine C_block ?_
                refine C_while ho427 (fun s446 a w' => ∃ i : (Value × Value × Value × Value × Value × (Nat → Prop)), Has ⟨125, [], none⟩ a ([(7, .pointer (some ⟨b52, 0, none⟩)), (14, .int .i64 x411), (85, v344), (86, .int .i64 (x343.length : Int)), (87, .int .i64 (k354 : Int)), (105, .int .i64 x416), (106, .int .i64 s446.1)]) ∧ Sl i.2.2.2.2.2 w' i.1 s446.2.people ∧ Sl i.2.2.2.2.2 w' i.2.1 s446.2.work ∧ Hp w.heap.size i.2.2.2.2.2 w' (obS (α := Int) 3 v344 x343 :: obS (α := Int) 3 v205 x204 :: obS (α := Int) 3 i.2.2.2.1 s446.2.free :: obS (α := Int) 3 i.2.2.1 s446.2.at_ :: obC b52 [i.1, i.2.1, i.2.2.1, i.2.2.2.1, i.2.2.2.2.1] 41 :: obS (α := Bool) 4 i.2.2.2.2.1 s446.2.fixed :: []) ∧ Tr Dw w.heap.size A382 w371 i.2.2.2.2.2 w') (fun a ha => ⟨(v372, v374, v376, v378, v380, A382), ha.sub ⟨rfl, rfl, rfl, rfl, rfl, rfl, rfl, trivial⟩, ⟨h373, h375, hH, Tr.refl (Dw := Dw) hA⟩⟩) ?_
                rintro K s446 a w447 ⟨⟨v448, v450, v452, v454, v456, A458⟩, ha487, h449, h451, hH459, hr429⟩ K466
                refine C_of ?_ ha487
                replace hK := Tr.trans (Dw := Dw) hK hr429
                replace hr353 := Tr.trans (Dw := Dw) hr353 hr429
                replace hr395 := Tr.trans (Dw := Dw) hr395 hr429
                replace hB := Nat.le_trans hB hr429.ex.size
                replace hA := hr429.new
                replace hH : Hp w.heap.size A458 w447 (obS (α := Int) 3 v344 x343 :: obS (α := Int) 3 v205 x204 :: obS (α := Int) 3 v454 s446.2.free :: obS (α := Int) 3 v452 s446.2.at_ :: obC b52 [v448, v450, v452, v454, v456] 41 :: obS (α := Bool) 4 v456 s446.2.fixed :: []) := hH459
                obtain ⟨x460, h461, h462⟩ := K466
                refine C_seq ?_
                refine C_region ?_
                refine V_y (Y_lss rfl rfl) rfl rfl rfl ?_
                refine V_to (fun _ _ => rfl) ?_
                refine C_seq ?_
                refine C_cond rfl (fun hc467 => ?_) (fun hc467 => ?_)
                · rw [if_pos hc467] at h461
                  refine C_skip_to (fun _ _ => rfl) ?_
                  refine C_seq ?_
                  refine C_block ?_
                  refine C_seq ?_
                  refine C_region ?_
                  refine V_y (Y_move rfl) rfl rfl rfl ?_
                  refine V_y (Y_assign rfl) rfl rfl rfl ?_
                  refine V_to (fun _ _ => rfl) ?_
                  refine C_seq ?_
                  refine C_region ?_
                  refine V_y (Y_move rfl) rfl rfl rfl ?_
                  refine V_y (Y_move rfl) rfl rfl rfl ?_
                  refine V_y (Y_move rfl) rfl rfl rfl ?_
                  replace hH : Hp w.heap.size A458 w447 (obS (α := Bool) 4 v456 s446.2.fixed :: obS (α := Int) 3 v344 x343 :: obS (α := Int) 3 v205 x204 :: obS (α := Int) 3 v454 s446.2.free :: obS (α := Int) 3 v452 s446.2.at_ :: obC b52 [v448, v450, v452, v454, v456] 41 :: []) := Hp.front hH (i := 5) rfl
                  replace hH : Hp w.heap.size A458 w447 (obS (α := Int) 3 v454 s446.2.free :: obS (α := Bool) 4 v456 s446.2.fixed :: obS (α := Int) 3 v344 x343 :: obS (α := Int) 3 v205 x204 :: obS (α := Int) 3 v452 s446.2.at_ :: obC b52 [v448, v450, v452, v454, v456] 41 :: []) := Hp.front hH (i := 3) rfl
                  replace hH : Hp w.heap.size A458 w447 (obS (α := Int) 3 v452 s446.2.at_ :: obS (α := Int) 3 v454 s446.2.free :: obS (α := Bool) 4 v456 s446.2.fixed :: obS (α := Int) 3 v344 x343 :: obS (α := Int) 3 v205 x204 :: obC b52 [v448, v450, v452, v454, v456] 41 :: []) := Hp.front hH (i := 4) rfl
                  replace hH : Hp w.heap.size A458 w447 (obC b52 [v448, v450, v452, v454, v456] 41 :: obS (α := Int) 3 v452 s446.2.at_ :: obS (α := Int) 3 v454 s446.2.free :: obS (α := Bool) 4 v456 s446.2.fixed :: obS (α := Int) 3 v344 x343 :: obS (α := Int) 3 v205 x204 :: []) := Hp.front hH (i := 5) rfl
                  obtain ⟨x468, hx468, h461⟩ := Option.bind_eq_some_iff.1 h461
                  refine V_call Tryd.call13 rfl rfl rfl rfl (route_matcher_take_c (Dw := Dw) w447 hB hA s446.2 b52 v448 h449 v450 h451 v452 v454 v456 x411 s446.1 hH hx468) ?_
                  rintro _ w479 ⟨A480, rfl, h470, h472, hH481, ht482⟩
                  replace h449 := Sl.tr (Dw := Dw) h449 ht482
                  replace h451 := Sl.tr (Dw := Dw) h451 ht482
                  replace hK := Tr.trans (Dw := Dw) hK ht482
                  replace hr353 := Tr.trans (Dw := Dw) hr353 ht482
                  replace hr395 := Tr.trans (Dw := Dw) hr395 ht482
                  replace hr429 := Tr.trans (Dw := Dw) hr429 ht482
                  replace hB := Nat.le_trans hB ht482.ex.size
                  replace hA := ht482.new
                  replace hH : Hp w.heap.size A480 w479 (obC b52 [v448, v450, v452, v454, v456] 41 :: obS (α := Int) 3 v452 x468.2.at_ :: obS (α := Int) 3 v454 x468.2.free :: obS (α := Bool) 4 v456 x468.2.fixed :: obS (α := Int) 3 v344 x343 :: obS (α := Int) 3 v205 x204 :: []) := hH481
                  refine V_to (fun _ _ => rfl) ?_
                  refine C_cond rfl (fun hc483 => ?_) (fun hc483 => ?_)
                  · rw [if_pos hc483] at h461
                    obtain rfl := Option.some.inj h461
                    refine C_exit (fun a ha484 => ?_)
                    replace hH : Hp w.heap.size A480 w479 (obS (α := Bool) 4 v456 x468.2.fixed :: obC b52 [v448, v450, v452, v454, v456] 41 :: obS (α := Int) 3 v452 x468.2.at_ :: obS (α := Int) 3 v454 x468.2.free :: obS (α := Int) 3 v344 x343 :: obS (α := Int) 3 v205 x204 :: []) := Hp.front hH (i := 3) rfl
                    replace hH : Hp w.heap.size A480 w479 (obC b52 [v448, v450, v452, v454, v456] 41 :: obS (α := Bool) 4 v456 x468.2.fixed :: obS (α := Int) 3 v452 x468.2.at_ :: obS (α := Int) 3 v454 x468.2.free :: obS (α := Int) 3 v344 x343 :: obS (α := Int) 3 v205 x204 :: []) := Hp.front hH (i := 1) rfl
                    replace hH : Hp w.heap.size A480 w479 (obS (α := Int) 3 v452 x468.2.at_ :: obC b52 [v448, v450, v452, v454, v456] 41 :: obS (α := Bool) 4 v456 x468.2.fixed :: obS (α := Int) 3 v454 x468.2.free :: obS (α := Int) 3 v344 x343 :: obS (α := Int) 3 v205 x204 :: []) := Hp.front hH (i := 2) rfl
                    replace hH : Hp w.heap.size A480 w479 (obS (α := Int) 3 v454 x468.2.free :: obS (α := Int) 3 v452 x468.2.at_ :: obC b52 [v448, v450, v452, v454, v456] 41 :: obS (α := Bool) 4 v456 x468.2.fixed :: obS (α := Int) 3 v344 x343 :: obS (α := Int) 3 v205 x204 :: []) := Hp.front hH (i := 3) rfl
                    replace hH : Hp w.heap.size A480 w479 (obS (α := Int) 3 v205 x204 :: obS (α := Int) 3 v454 x468.2.free :: obS (α := Int) 3 v452 x468.2.at_ :: obC b52 [v448, v450, v452, v454, v456] 41 :: obS (α := Bool) 4 v456 x468.2.fixed :: obS (α := Int) 3 v344 x343 :: []) := Hp.front hH (i := 5) rfl
                    replace hH : Hp w.heap.size A480 w479 (obS (α := Int) 3 v344 x343 :: obS (α := Int) 3 v205 x204 :: obS (α := Int) 3 v454 x468.2.free :: obS (α := Int) 3 v452 x468.2.at_ :: obC b52 [v448, v450, v452, v454, v456] 41 :: obS (α := Bool) 4 v456 x468.2.fixed :: []) := Hp.front hH (i := 5) rfl
                    exact ⟨((s446.1, x468.2), v448, v450, v452, v454, v456, A480), ha484.sub ⟨rfl, rfl, rfl, rfl, rfl, trivial⟩, ⟨h462.symm, h470, h472, hH, hr429⟩⟩
                  · rw [if_neg (nt hc483)] at h461
                    refine C_skip_to (fun _ _ => rfl) ?_
                    refine C_region ?_
                    refine V_y (Y_addI rfl rfl) rfl rfl rfl ?_
                    refine V_y (Y_move rfl) rfl rfl rfl ?_
                    obtain rfl := Option.some.inj h461
                    refine V_end (fun a ha485 => ?_)
                    replace hH : Hp w.heap.size A480 w479 (obS (α := Bool) 4 v456 x468.2.fixed :: obC b52 [v448, v450, v452, v454, v456] 41 :: obS (α := Int) 3 v452 x468.2.at_ :: obS (α := Int) 3 v454 x468.2.free :: obS (α := Int) 3 v344 x343 :: obS (α := Int) 3 v205 x204 :: []) := Hp.front hH (i := 3) rfl
                    replace hH : Hp w.heap.size A480 w479 (obC b52 [v448, v450, v452, v454, v456] 41 :: obS (α := Bool) 4 v456 x468.2.fixed :: obS (α := Int) 3 v452 x468.2.at_ :: obS (α := Int) 3 v454 x468.2.free :: obS (α := Int) 3 v344 x343 :: obS (α := Int) 3 v205 x204 :: []) := Hp.front hH (i := 1) rfl
                    replace hH : Hp w.heap.size A480 w479 (obS (α := Int) 3 v452 x468.2.at_ :: obC b52 [v448, v450, v452, v454, v456] 41 :: obS (α := Bool) 4 v456 x468.2.fixed :: obS (α := Int) 3 v454 x468.2.free :: obS (α := Int) 3 v344 x343 :: obS (α := Int) 3 v205 x204 :: []) := Hp.front hH (i := 2) rfl
                    replace hH : Hp w.heap.size A480 w479 (obS (α := Int) 3 v454 x468.2.free :: obS (α := Int) 3 v452 x468.2.at_ :: obC b52 [v448, v450, v452, v454, v456] 41 :: obS (α := Bool) 4 v456 x468.2.fixed :: obS (α := Int) 3 v344 x343 :: obS (α := Int) 3 v205 x204 :: []) := Hp.front hH (i := 3) rfl
                    replace hH : Hp w.heap.size A480 w479 (obS (α := Int) 3 v205 x204 :: obS (α := Int) 3 v454 x468.2.free :: obS (α := Int) 3 v452 x468.2.at_ :: obC b52 [v448, v450, v452, v454, v456] 41 :: obS (α := Bool) 4 v456 x468.2.fixed :: obS (α := Int) 3 v344 x343 :: []) := Hp.front hH (i := 5) rfl
                    replace hH : Hp w.heap.size A480 w479 (obS (α := Int) 3 v344 x343 :: obS (α := Int) 3 v205 x204 :: obS (α := Int) 3 v454 x468.2.free :: obS (α := Int) 3 v452 x468.2.at_ :: obC b52 [v448, v450, v452, v454, v456] 41 :: obS (α := Bool) 4 v456 x468.2.fixed :: []) := Hp.front hH (i := 5) rfl
                    exact ⟨(w64 (s446.1 + 1), x468.2), h462, ⟨(v448, v450, v452, v454, v456, A480), ha485.sub ⟨rfl, rfl, rfl, rfl, rfl, rfl, rfl, trivial⟩, ⟨h470, h472, hH, hr429⟩⟩⟩
                · rw [if_neg (nt hc467)] at h461
                  obtain rfl := Option.some.inj h461
                  refine C_exit (fun a ha486 => ?_)
                  exact ⟨((s446.1, s446.2), v448, v450, v452, v454, v456, A458), ha486.sub ⟨rfl, rfl, rfl, rfl, rfl, trivial⟩, ⟨h462.symm, h449, h451, hH, hr429⟩⟩
              rintro ⟨s428, v434, v436, v438, v440, v442, A444⟩ w431 ⟨rfl, h435, h437, hH445, hk432⟩ a ha433
              rw [Lp.andThen_fin] at ho393
              replace hK := Tr.trans (Dw := Dw) hK hk432
              replace hr353 := Tr.trans (Dw := Dw) hr353 hk432
              replace hr395 := Tr.trans (Dw := Dw) hr395 hk432
              replace hB := Nat.le_trans hB hk432.ex.size
              replace hA := hk432.new
              replace hH : Hp w.heap.size A444 w431 (obS (α := Int) 3 v344 x343 :: obS (α := Int) 3 v205 x204 :: obS (α := Int) 3 v440 s428.2.free :: obS (α := Int) 3 v438 s428.2.at_ :: obC b52 [v434, v436, v438, v440, v442] 41 :: obS (α := Bool) 4 v442 s428.2.fixed :: []) := hH445
              refine C_at (n := ⟨125, [], none⟩) (fun _ _ => rfl) ?_ ha433
              refine C_region ?_
              refine V_y (Y_move rfl) rfl rfl rfl ?_
              refine V_y (Y_nilCheck rfl) rfl rfl rfl ?_
              refine V_y (Y_fieldAddrC (off2 := 4) Tryd.underlying41 rfl Tryd.sizeOf39 (by decide) rfl rfl) rfl rfl rfl ?_
              refine V_y (Y_load (Hp.cell (j := 4) hH (i := 4) rfl rfl) Tryd.isAgg39 rfl) rfl rfl rfl ?_
              refine V_y (Y_move rfl) rfl rfl rfl ?_
              obtain ⟨x488, hx488, ho393⟩ := Option.bind_eq_some_iff.1 ho393
              refine V_indexAddrH (α := Bool) (e := 4) (v := v442) (l := s428.2.fixed) hH (i := 5) rfl hx488 Tryd.underlying39 Tryd.sizeOf4 rfl rfl rfl ?_
              intro b489 o490 h491 hl492
              obtain ⟨x493, hx493, ho393⟩ := Option.bind_eq_some_iff.1 ho393
              refine V_storeH (Dw := Dw) (α := Bool) (e := 4) (v := v442) (l := s428.2.fixed) hH (i := 5) rfl hl492 hx493 rfl Tryd.sizeOf4 rfl hB hA rfl rfl ?_
              intro w494 hH495 ht496
              replace h435 := Sl.tr (Dw := Dw) h435 ht496
              replace h437 := Sl.tr (Dw := Dw) h437 ht496
              replace hK := Tr.trans (Dw := Dw) hK ht496
              replace hr353 := Tr.trans (Dw := Dw) hr353 ht496
              replace hr395 := Tr.trans (Dw := Dw) hr395 ht496
              replace hB := Nat.le_trans hB ht496.ex.size
              replace hA := ht496.new
              replace hH : Hp w.heap.size A444 w494 (obS (α := Int) 3 v344 x343 :: obS (α := Int) 3 v205 x204 :: obS (α := Int) 3 v440 s428.2.free :: obS (α := Int) 3 v438 s428.2.at_ :: obC b52 [v434, v436, v438, v440, v442] 41 :: obS (α := Bool) 4 v442 x493 :: []) := hH495
              obtain rfl := Option.some.inj ho393
              refine V_end (fun a ha497 => ?_)
              exact ⟨(v434, v436, v438, v440, v442, A444), ha497.sub ⟨rfl, rfl, rfl, rfl, trivial⟩, ⟨h435, h437, hH, hr395⟩⟩
          rintro ⟨v396, v398, v400, v402, v404, A409⟩ w406 ⟨h397, h399, hH410, hk407⟩ a ha408
          replace hK := Tr.trans (Dw := Dw) hK hk407
          replace hr353 := Tr.trans (Dw := Dw) hr353 hk407
          replace hB := Nat.le_trans hB hk407.ex.size
          replace hA := hk407.new
          replace hH : Hp w.heap.size A409 w406 (obS (α := Int) 3 v344 x343 :: obS (α := Int) 3 v205 x204 :: obS (α := Int) 3 v402 s394.free :: obS (α := Int) 3 v400 s394.at_ :: obC b52 [v396, v398, v400, v402, v404] 41 :: obS (α := Bool) 4 v404 s394.fixed :: []) := hH410
          refine C_at (n := ⟨125, [], none⟩) (fun _ _ => rfl) ?_ ha408
          refine C_region ?_
          refine V_y (Y_addI rfl rfl) rfl rfl rfl ?_
          refine V_y (Y_move rfl) rfl rfl rfl ?_
          obtain rfl := Option.some.inj h385
          refine V_end (fun a ha498 => ?_)
          exact ⟨s394, hlt388, h386, ⟨(v396, v398, v400, v402, v404, A409), ha498.sub ⟨rfl, rfl, rfl, (congrArg (fun z => some (Value.int .i64 z)) (w64_succ hlt388 hn391)), trivial⟩, ⟨h397, h399, hH, hr353⟩⟩⟩
        · refine C_exit (fun a ha499 => ?_)
          exact ⟨(s370, v372, v374, v376, v378, v380, A382), ha499.sub ⟨rfl, trivial⟩, ⟨(h389 (eq_of_dec hle387 hc392)).symm, h373, h375, hH, hr353⟩⟩
      rintro ⟨s352, v358, v360, v362, v364, v366, A368⟩ w355 ⟨rfl, h359, h361, hH369, hk356⟩ a ha357
      rw [Lp.andThen_fin] at hm
      replace hK := Tr.trans (Dw := Dw) hK hk356
      replace hB := Nat.le_trans hB hk356.ex.size
      replace hA := hk356.new
      replace hH : Hp w.heap.size A368 w355 (obS (α := Int) 3 v344 x343 :: obS (α := Int) 3 v205 x204 :: obS (α := Int) 3 v364 s352.free :: obS (α := Int) 3 v362 s352.at_ :: obC b52 [v358, v360, v362, v364, v366] 41 :: obS (α := Bool) 4 v366 s352.fixed :: []) := hH369
      refine C_at (n := ⟨125, [], none⟩) (fun _ _ => rfl) ?_ ha357
      refine C_seq ?_
      refine C_region ?_
      refine V_y (Y_move rfl) rfl rfl rfl ?_
      refine V_y (Y_nilCheck rfl) rfl rfl rfl ?_
      refine V_y (Y_fieldAddrC (off2 := 2) Tryd.underlying41 rfl Tryd.sizeOf24 (by decide) rfl rfl) rfl rfl rfl ?_
      refine V_y (Y_load (Hp.cell (j := 2) hH (i := 4) rfl rfl) Tryd.isAgg24 rfl) rfl rfl rfl ?_
      refine V_y (Y_assign rfl) rfl rfl rfl ?_
      refine V_y (Y_assign rfl) rfl rfl rfl ?_
      refine V_to (fun _ _ => rfl) ?_
      obtain rfl := Option.some.inj hm
      refine C_ret ?_
      try simp only [↓inBlock_ret, ↓then_ret]
      exact retQ rfl (Res.two Tryd.results4 rfl rfl) ⟨v362, rfl, (Hp.ownd hH (i := 3) rfl), hK.kp⟩

def Tryd_strings_Trim_lay_ren : Go.Shelf.Ren := ⟨fun | 119 => 80 | 120 => 78 | 137 => 79 | 151 => 74 | 152 => 77 | 160 => 58 | 197 => 73 | 217 => 83 | 224 => 81 | 225 => 82 | 227 => 66 | 228 => 72 | 231 => 64 | 232 => 65 | 233 => 67 | 234 => 68 | 235 => 69 | 236 => 70 | 260 => 76 | 266 => 84 | 271 => 75 | n => n, fun | 0 => 0 | 1 => 1 | 2 => 2 | 3 => 3 | 4 => 4 | 5 => 5 | 6 => 6 | 7 => 7 | 8 => 8 | 9 => 9 | 10 => 10 | 11 => 11 | 12 => 12 | 13 => 13 | 14 => 14 | 15 => 15 | 16 => 16 | 17 => 17 | 18 => 18 | 19 => 19 | 20 => 20 | 21 => 21 | 23 => 83 | 27 => 112 | 28 => 24 | 34 => 28 | 40 => 110 | 41 => 100 | 43 => 54 | 46 => 68 | 47 => 67 | 51 => 80 | 52 => 79 | 53 => 82 | 54 => 81 | 55 => 109 | 63 => 103 | 64 => 104 | 80 => 113 | 81 => 119 | 104 => 65 | 105 => 101 | 106 => 102 | 111 => 58 | 112 => 45 | 114 => 111 | 115 => 91 | 116 => 92 | 117 => 93 | 118 => 94 | 119 => 105 | 122 => 90 | 123 => 95 | 124 => 96 | 127 => 123 | 131 => 77 | 137 => 106 | 138 => 107 | 139 => 108 | 164 => 128 | 182 => 72 | 183 => 73 | 218 => 84 | 219 => 85 | 220 => 86 | 222 => 88 | 228 => 97 | 229 => 98 | 238 => 114 | 239 => 115 | 240 => 116 | 241 => 117 | 242 => 118 | 243 => 120 | 244 => 121 | 245 => 122 | 246 => 124 | 247 => 125 | 248 => 126 | 249 => 127 | n => n, fun | 1 => 2 | 3 => 0 | 4 => 1 | n => n⟩
theorem Tryd_strings_Trim_lay : Go.Proofs.Lays.n160 Tryd.prog Tryd_strings_Trim_lay_ren := {
  mixed := by kernel_rfl,
  f119 := Tryd.func80.trans (congrArg some (by kernel_rfl)),
  f120 := Tryd.func78.trans (congrArg some (by kernel_rfl)),
  f137 := Tryd.func79.trans (congrArg some (by kernel_rfl)),
  f151 := Tryd.func74.trans (congrArg some (by kernel_rfl)),
  f152 := Tryd.func77.trans (congrArg some (by kernel_rfl)),
  f160 := Tryd.func58.trans (congrArg some (by kernel_rfl)),
  f197 := Tryd.func73.trans (congrArg some (by kernel_rfl)),
  f217 := Tryd.func83.trans (congrArg some (by kernel_rfl)),
  f224 := Tryd.func81.trans (congrArg some (by kernel_rfl)),
  f225 := Tryd.func82.trans (congrArg some (by kernel_rfl)),
  f227 := Tryd.func66.trans (congrArg some (by kernel_rfl)),
  f228 := Tryd.func72.trans (congrArg some (by kernel_rfl)),
  f231 := Tryd.func64.trans (congrArg some (by kernel_rfl)),
  f232 := Tryd.func65.trans (congrArg some (by kernel_rfl)),
  f233 := Tryd.func67.trans (congrArg some (by kernel_rfl)),
  f234 := Tryd.func68.trans (congrArg some (by kernel_rfl)),
  f235 := Tryd.func69.trans (congrArg some (by kernel_rfl)),
  f236 := Tryd.func70.trans (congrArg some (by kernel_rfl)),
  f260 := Tryd.func76.trans (congrArg some (by kernel_rfl)),
  f266 := Tryd.func84.trans (congrArg some (by kernel_rfl)),
  f271 := Tryd.func75.trans (congrArg some (by kernel_rfl)),
  t0 := Tryd.underlying0,
  a0 := Tryd.isAgg0,
  z0 := Tryd.sizeOf0,
  v0 := Tryd.zeroValue0,
  t3 := Tryd.underlying3,
  a3 := Tryd.isAgg3,
  z3 := Tryd.sizeOf3,
  v3 := Tryd.zeroValue3,
  t4 := Tryd.underlying4,
  a4 := Tryd.isAgg4,
  z4 := Tryd.sizeOf4,
  v4 := Tryd.zeroValue4,
  t5 := Tryd.underlying5,
  a5 := Tryd.isAgg5,
  z5 := Tryd.sizeOf5,
  v5 := Tryd.zeroValue5,
  t9 := Tryd.underlying9,
  a9 := Tryd.isAgg9,
  z9 := Tryd.sizeOf9,
  v9 := Tryd.zeroValue9,
  t21 := Tryd.underlying21,
  a21 := Tryd.isAgg21,
  z21 := Tryd.sizeOf21,
  v21 := Tryd.zeroValue21,
  t46 := Tryd.underlying68,
  a46 := Tryd.isAgg68,
  z46 := Tryd.sizeOf68,
  v46 := Tryd.zeroValue68,
  t105 := Tryd.underlying101,
  a105 := Tryd.isAgg101,
  z105 := Tryd.sizeOf101,
  v105 := Tryd.zeroValue101,
  t116 := Tryd.underlying92,
  a116 := Tryd.isAgg92,
  z116 := Tryd.sizeOf92,
  t117 := Tryd.underlying93,
  a117 := Tryd.isAgg93,
  z117 := Tryd.sizeOf93,
  v117 := Tryd.zeroValue93,
  t119 := Tryd.underlying105,
  a119 := Tryd.isAgg105,
  z119 := Tryd.sizeOf105,
  t124 := Tryd.underlying96,
  a124 := Tryd.isAgg96,
  z124 := Tryd.sizeOf96,
  v124 := Tryd.zeroValue96,
  t138 := Tryd.underlying107,
  a138 := Tryd.isAgg107,
  z138 := Tryd.sizeOf107,
  v138 := Tryd.zeroValue107,
  t139 := Tryd.underlying108,
  a139 := Tryd.isAgg108,
  z139 := Tryd.sizeOf108,
  v139 := Tryd.zeroValue108,
  g3 := by kernel_rfl,
  g4 := by kernel_rfl }
theorem strings_Trim_c (w : World) {A : Nat → Prop} (hA : ∀ b, w.heap.size ≤ b → A b) (s : ByteArray) (cutset : ByteArray) {r : ByteArray} (hm : strings_Trim s cutset = some r) : Ret Tryd.prog 58 #[.string s, .string cutset] w fun v w' => v = .string r ∧ Kp False w w' := by
  unfold strings_Trim at hm
  split at hm
  case isFalse => cases hm
  rename_i h
  obtain rfl := Option.some.inj hm
  refine Calls.mono (Go.Proofs.Any.strings_Trim_laid Tryd_strings_Trim_lay (by kernel_rfl) s cutset w h.1 h.2.1 (Go.Proofs.ascii_of_all h.2.2)) ?_
  rintro _ w' ⟨rfl, hk⟩
  exact ⟨_, rfl, rfl, .of hk⟩

set_option maxRecDepth 4000 in
set_option maxHeartbeats 4000000 in
theorem portref2_IsName_c (w : World) {A : Nat → Prop} (hA : ∀ b, w.heap.size ≤ b → A b) (s : ByteArray) {r : Bool} (hm : portref2_IsName s = some r) : Ret Tryd.prog 45 #[.string s] w fun v w' => v = .bool r ∧ Kp False w w' := by
  unfold portref2_IsName at hm
  refine enter Tryd.func45 rfl Tryd.ntmps45 rfl ?_
  have hA0 := hA
  have hB := Nat.le_refl w.heap.size
  have hK : Tr False w.heap.size A w A w := Tr.refl (Dw := False) hA
  have hH : Hp w.heap.size A w [] := Hp.nil
  refine C_seq ?_
  refine C_region ?_
  refine V_y (Y_assign rfl) rfl rfl rfl ?_
  refine V_to (fun _ _ => rfl) ?_
  refine C_seq ?_
  obtain ⟨s2, ho1, hm⟩ := Option.bind_eq_some_iff.1 hm
  refine C_cutG (ι := (Nat → Prop)) (fun (A7 : (Nat → Prop)) => [(2, .bool s2)]) (fun (A7 : (Nat → Prop)) => fun w' => Hp w.heap.size A7 w' ([]) ∧ Tr False w.heap.size A w A7 w') ?_ ?_
  · have hr3 : Tr False w.heap.size A w A w := Tr.refl (Dw := False) hA
    refine C_region ?_
    refine V_y (Y_move rfl) rfl rfl rfl ?_
    refine V_y (Y_lenStr rfl Tryd.underlying9 rfl) rfl rfl rfl ?_
    refine V_y (Y_geq rfl rfl) rfl rfl rfl ?_
    refine V_y (Y_move rfl) rfl rfl rfl ?_
    rcases Bool.eq_false_or_eq_true (decide ((1 : Int) ≤ (s.size : Int))) with hc9 | hc9
    · rw [if_pos hc9] at ho1
      refine V_ge rfl rfl rfl hc9 ?_
      refine V_y (Y_move rfl) rfl rfl rfl ?_
      refine V_ge rfl rfl rfl hc9 ?_
      refine V_y (Y_lenStr rfl Tryd.underlying9 rfl) rfl rfl rfl ?_
      refine V_ge rfl rfl rfl hc9 ?_
      refine V_y (Y_leq rfl rfl) rfl rfl rfl ?_
      refine V_y (Y_pick_te rfl hc9 rfl) rfl rfl rfl ?_
      refine V_y (Y_move rfl) rfl rfl rfl ?_
      rcases Bool.eq_false_or_eq_true (decide ((s.size : Int) ≤ 20)) with hc10 | hc10
      · rw [if_pos hc10] at ho1
        refine V_ge rfl rfl rfl hc10 ?_
        refine V_y (Y_move rfl) rfl rfl rfl ?_
        refine V_ge rfl rfl rfl hc10 ?_
        obtain ⟨x11, hx11, ho1⟩ := Option.bind_eq_some_iff.1 ho1
        refine V_call Tryd.call58 rfl rfl rfl rfl (strings_Trim_c w hA s (⟨#[97, 98, 99, 100, 101, 102, 103, 104, 105, 106, 107, 108, 109, 110, 111, 112, 113, 114, 115, 116, 117, 118, 119, 120, 121, 122, 48, 49, 50, 51, 52, 53, 54, 55, 56, 57, 95]⟩ : ByteArray) hx11) ?_
        rintro _ w12 ⟨rfl, hk13⟩
        have ht14 := Kp.tr (Dw := False) hk13 hA hB
        replace hH := Hp.kp (Dw := False) hH hk13
        replace hK := Tr.trans (Dw := False) hK ht14
        replace hr3 := Tr.trans (Dw := False) hr3 ht14
        replace hB := Nat.le_trans hB ht14.ex.size
        replace hA := ht14.new
        refine V_ge rfl rfl rfl hc10 ?_
        refine V_y (Y_seql rfl rfl) rfl rfl rfl ?_
        refine V_y (Y_pick_te rfl hc10 rfl) rfl rfl rfl ?_
        refine V_y (Y_assign rfl) rfl rfl rfl ?_
        obtain rfl := Option.some.inj ho1
        refine V_end (fun a ha15 => ?_)
        exact ⟨A, ha15.sub ⟨rfl, trivial⟩, ⟨hH, hr3⟩⟩
      · rw [if_neg (nt hc10)] at ho1
        refine V_gn rfl rfl rfl hc10 rfl rfl rfl ?_
        refine V_gn rfl rfl rfl hc10 rfl rfl rfl ?_
        refine V_gn rfl rfl rfl hc10 rfl rfl rfl ?_
        refine V_y (Y_pick_fe rfl hc10 rfl) rfl rfl rfl ?_
        refine V_y (Y_assign rfl) rfl rfl rfl ?_
        obtain rfl := Option.some.inj ho1
        refine V_end (fun a ha16 => ?_)
        exact ⟨A, ha16.sub ⟨rfl, trivial⟩, ⟨hH, hr3⟩⟩
    · rw [if_neg (nt hc9)] at ho1
      refine V_gn rfl rfl rfl hc9 rfl rfl rfl ?_
      refine V_gn rfl rfl rfl hc9 rfl rfl rfl ?_
      refine V_gn rfl rfl rfl hc9 rfl rfl rfl ?_
      refine V_y (Y_pick_fe rfl hc9 rfl) rfl rfl rfl ?_
      refine V_y (Y_move rfl) rfl rfl rfl ?_
      rcases Bool.eq_false_or_eq_true (false) with hc17 | hc17
      · rw [if_pos hc17] at ho1
        refine V_ge rfl rfl rfl hc17 ?_
        refine V_y (Y_move rfl) rfl rfl rfl ?_
        refine V_ge rfl rfl rfl hc17 ?_
        obtain ⟨x18, hx18, ho1⟩ := Option.bind_eq_some_iff.1 ho1
        refine V_call Tryd.call58 rfl rfl rfl rfl (strings_Trim_c w hA s (⟨#[97, 98, 99, 100, 101, 102, 103, 104, 105, 106, 107, 108, 109, 110, 111, 112, 113, 114, 115, 116, 117, 118, 119, 120, 121, 122, 48, 49, 50, 51, 52, 53, 54, 55, 56, 57, 95]⟩ : ByteArray) hx18) ?_
        rintro _ w19 ⟨rfl, hk20⟩
        have ht21 := Kp.tr (Dw := False) hk20 hA hB
        replace hH := Hp.kp (Dw := False) hH hk20
        replace hK := Tr.trans (Dw := False) hK ht21
        replace hr3 := Tr.trans (Dw := False) hr3 ht21
        replace hB := Nat.le_trans hB ht21.ex.size
        replace hA := ht21.new
        refine V_ge rfl rfl rfl hc17 ?_
        refine V_y (Y_seql rfl rfl) rfl rfl rfl ?_
        refine V_y (Y_pick_te rfl hc17 rfl) rfl rfl rfl ?_
        refine V_y (Y_assign rfl) rfl rfl rfl ?_
        obtain rfl := Option.some.inj ho1
        refine V_end (fun a ha22 => ?_)
        exact ⟨A, ha22.sub ⟨rfl, trivial⟩, ⟨hH, hr3⟩⟩
      · rw [if_neg (nt hc17)] at ho1
        refine V_gn rfl rfl rfl hc17 rfl rfl rfl ?_
        refine V_gn rfl rfl rfl hc17 rfl rfl rfl ?_
        refine V_gn rfl rfl rfl hc17 rfl rfl rfl ?_
        refine V_y (Y_pick_fe rfl hc17 rfl) rfl rfl rfl ?_
        refine V_y (Y_assign rfl) rfl rfl rfl ?_
        obtain rfl := Option.some.inj ho1
        refine V_end (fun a ha23 => ?_)
        exact ⟨A, ha23.sub ⟨rfl, trivial⟩, ⟨hH, hr3⟩⟩
  rintro A7 w4 ⟨hH8, hk5⟩ a ha6
  replace hK := Tr.trans (Dw := False) hK hk5
  replace hB := Nat.le_trans hB hk5.ex.size
  replace hA := hk5.new
  replace hH : Hp w.heap.size A7 w4 ([]) := hH8
  refine C_at (n := ⟨16, [], none⟩) (fun _ _ => rfl) ?_ ha6
  obtain rfl := Option.some.inj hm
  refine C_ret ?_
  try simp only [↓inBlock_ret, ↓then_ret]
  exact retQ rfl (Res.one Tryd.results45 rfl) ⟨rfl, hK.kp⟩

set_option maxRecDepth 4000 in
set_option maxHeartbeats 4000000 in
theorem portref2_skillsFault_c (w : World) {A : Nat → Prop} (hA : ∀ b, w.heap.size ≤ b → A b) (l : (List route_Skill)) (v_l : Value) (h_l : Sl A w v_l l) {r : Int} (hm : portref2_skillsFault l = some r) : Ret Tryd.prog 31 #[v_l] w fun v w' => v = .int .i64 r ∧ Kp False w w' := by
  unfold portref2_skillsFault at hm
  refine enter Tryd.func31 rfl Tryd.ntmps31 rfl ?_
  have hA0 := hA
  have hB := Nat.le_refl w.heap.size
  have hK : Tr False w.heap.size A w A w := Tr.refl (Dw := False) hA
  have hH : Hp w.heap.size A w [] := Hp.nil
  refine C_seq ?_
  refine C_region ?_
  refine V_y (Y_assign rfl) rfl rfl rfl ?_
  refine V_to (fun _ _ => rfl) ?_
  refine C_seq ?_
  refine C_seq ?_
  refine C_region ?_
  refine V_y (Y_move rfl) rfl rfl rfl ?_
  refine V_y (Y_lenSl h_l rfl Tryd.underlying34 rfl) rfl rfl rfl ?_
  refine V_y (Y_gtr rfl rfl) rfl rfl rfl ?_
  refine V_to (fun _ _ => rfl) ?_
  refine C_cond rfl (fun hc3 => ?_) (fun hc3 => ?_)
  · rw [if_pos hc3] at hm
    refine C_seq ?_
    refine C_region ?_
    refine V_y (Y_assign rfl) rfl rfl rfl ?_
    refine V_to (fun _ _ => rfl) ?_
    obtain rfl := Option.some.inj hm
    refine C_ret ?_
    try simp only [↓inBlock_ret, ↓then_ret]
    exact retQ rfl (Res.one Tryd.results31 rfl) ⟨rfl, hK.kp⟩
  · rw [if_neg (nt hc3)] at hm
    refine C_skip_to (fun _ _ => rfl) ?_
    refine C_seq ?_
    refine C_seq ?_
    refine C_region ?_
    refine V_y (Y_move rfl) rfl rfl rfl ?_
    refine V_y (Y_lenSl h_l rfl Tryd.underlying34 rfl) rfl rfl rfl ?_
    refine V_y (Y_move rfl) rfl rfl rfl ?_
    refine V_to (fun _ _ => rfl) ?_
    have hn25 := Sl.le h_l
    obtain ⟨o4, ho4, hm⟩ := Option.bind_eq_some_iff.1 hm
    refine C_cutG (ι := (Unit × (Nat → Prop))) (fun ⟨s5, A12⟩ => []) (fun ⟨s5, A12⟩ => fun w' => o4 = .fin s5 ∧ Hp w.heap.size A12 w' ([]) ∧ Tr False w.heap.size A w A12 w') ?_ ?_
    · refine C_block ?_
      refine C_range ho4 (fun k7 _ a w' => ∃ i : (Nat → Prop), Has ⟨44, [], none⟩ a ([(0, v_l), (8, v_l), (9, .int .i64 (l.length : Int)), (10, .int .i64 (k7 : Int))]) ∧ Hp w.heap.size i w' ([]) ∧ Tr False w.heap.size A w i w') (fun a ha => ⟨A, ha.sub ⟨rfl, rfl, rfl, rfl, trivial⟩, ⟨hH, Tr.refl (Dw := False) hA⟩⟩) ?_
      rintro K k7 _ a w15 ⟨A16, ha65, hH17, hr6⟩ hle21 K24 h23
      refine C_of ?_ ha65
      replace h_l := Sl.tr (Dw := False) h_l hr6
      replace hK := Tr.trans (Dw := False) hK hr6
      replace hB := Nat.le_trans hB hr6.ex.size
      replace hA := hr6.new
      replace hH : Hp w.heap.size A16 w15 ([]) := hH17
      refine C_seq (C_region (V_y (Y_lss rfl rfl) rfl rfl rfl (V_to (fun _ _ => rfl) ?_)))
      refine C_seq ?_
      refine C_cond rfl (fun hc26 => ?_) (fun hc26 => ?_)
      · have hlt22 := lt_of_dec hc26
        obtain ⟨x18, h19, h20⟩ := K24 hlt22
        refine C_skip_to (fun _ _ => rfl) ?_
        refine C_seq ?_
        refine C_block ?_
        refine C_seq ?_
        refine C_region ?_
        refine V_y (Y_move rfl) rfl rfl rfl ?_
        obtain ⟨x27, hx27, h19⟩ := Option.bind_eq_some_iff.1 h19
        refine V_indexAddr h_l hx27 Tryd.underlying34 Tryd.sizeOf62 rfl rfl rfl ?_
        intro b28 o29 h30
        obtain ⟨h31, _⟩ := El_route_Skill h30
        refine V_y (Y_loadA h31 Tryd.isAgg62 Tryd.sizeOf62 rfl) rfl rfl rfl ?_
        refine V_alloc Tryd.zeroValue62 rfl ?_
        intro b32 w33 h34
        refine V_y (Y_assign rfl) rfl rfl rfl ?_
        refine V_storeNew h34 Tryd.sizeOf62 rfl rfl rfl rfl (by exact (List.forall_mem_cons.2 ⟨rfl, (List.forall_mem_cons.2 ⟨rfl, (fun _ h => nomatch h)⟩)⟩)) ?_
        intro w35 h36
        have hk38 := h36.kp (Dw := False)
        have h37 : El (α := route_Skill) A16 w35 b32 0 x27 := h36.el hA ⟨[.string x27.name], _, rfl, rfl, rfl⟩
        have ht39 := Kp.tr (Dw := False) hk38 hA hB
        replace hH := Hp.kp (Dw := False) hH hk38
        replace h_l := Sl.tr (Dw := False) h_l ht39
        replace h30 := El.tr (Dw := False) h30 ht39
        replace hK := Tr.trans (Dw := False) hK ht39
        replace hr6 := Tr.trans (Dw := False) hr6 ht39
        replace hB := Nat.le_trans hB ht39.ex.size
        replace hA := ht39.new
        refine V_to (fun _ _ => rfl) ?_
        refine C_block ?_
        refine C_seq ?_
        refine C_region ?_
        have h40 := El_route_Skill_0 h37
        refine V_y (Y_fieldAddr Tryd.underlying62 rfl Tryd.sizeOf9 (by decide) rfl) rfl rfl rfl ?_
        refine V_y (Y_load (El.str h40) Tryd.isAgg9 rfl) rfl rfl rfl ?_
        obtain ⟨x41, hx41, h19⟩ := Option.bind_eq_some_iff.1 h19
        refine V_call Tryd.call45 rfl rfl rfl rfl (portref2_IsName_c w35 hA x27.name hx41) ?_
        rintro _ w42 ⟨rfl, hk43⟩
        have ht44 := Kp.tr (Dw := False) hk43 hA hB
        replace hH := Hp.kp (Dw := False) hH hk43
        replace h_l := Sl.tr (Dw := False) h_l ht44
        replace h37 := El.tr (Dw := False) h37 ht44
        replace h40 := El.tr (Dw := False) h40 ht44
        replace hK := Tr.trans (Dw := False) hK ht44
        replace hr6 := Tr.trans (Dw := False) hr6 ht44
        replace hB := Nat.le_trans hB ht44.ex.size
        replace hA := ht44.new
        refine V_y (Y_not rfl) rfl rfl rfl ?_
        refine V_y (Y_assign rfl) rfl rfl rfl ?_
        refine V_to (fun _ _ => rfl) ?_
        refine C_cond rfl (fun hc45 => ?_) (fun hc45 => ?_)
        · rw [if_pos hc45] at h19
          refine C_seq ?_
          refine C_region ?_
          refine V_y (Y_assign rfl) rfl rfl rfl ?_
          refine V_to (fun _ _ => rfl) ?_
          obtain rfl := Option.some.inj h19
          obtain rfl := (h20 : Lp.rt _ = _)
          rw [Lp.andThen_rt] at hm
          obtain rfl := Option.some.inj hm
          refine C_ret ?_
          try simp only [↓inBlock_ret, ↓then_ret]
          exact retQ rfl (Res.one Tryd.results31 rfl) ⟨rfl, hK.kp⟩
        · rw [if_neg (nt hc45)] at h19
          refine C_seq ?_
          refine C_region_q (Dw := False) Tryd_mixed (by kernel_rfl) ?_
          refine VQ_y (fun w' hw' => Y_move rfl) rfl rfl rfl ?_
          refine VQ_y (fun w' hw' => Y_gtr rfl rfl) rfl rfl rfl ?_
          refine VQ_y (fun w' hw' => Y_move rfl) rfl rfl rfl ?_
          obtain ⟨s47, hs47, h19⟩ := Option.bind_eq_some_iff.1 h19
          refine VQ_cut 10 (fun _ : Unit => [(0, v_l), (4, .pointer (some ⟨b32, 0, none⟩)), (8, v_l), (9, .int .i64 (l.length : Int)), (10, .int .i64 (k7 : Int)), (33, .bool s47)]) (fun _ => True) ?_ ?_
          · simp only [List.take, List.drop]
            rcases Bool.eq_false_or_eq_true (decide ((0 : Int) < (k7 : Int))) with hc46 | hc46
            · rw [if_pos hc46] at hs47
              refine VQ_ge rfl rfl rfl hc46 ?_
              have h48 := El_route_Skill_0 h37
              refine VQ_y (fun w' hw' => Y_fieldAddr Tryd.underlying62 rfl Tryd.sizeOf9 (by decide) rfl) rfl rfl rfl ?_
              refine VQ_ge rfl rfl rfl hc46 ?_
              refine VQ_y (fun w' hw' => Y_load (El.str (El.kp (Dw := False) h48 hw')) Tryd.isAgg9 rfl) rfl rfl rfl ?_
              refine VQ_ge rfl rfl rfl hc46 ?_
              refine VQ_y (fun w' hw' => Y_move rfl) rfl rfl rfl ?_
              refine VQ_ge rfl rfl rfl hc46 ?_
              refine VQ_y (fun w' hw' => Y_move rfl) rfl rfl rfl ?_
              refine VQ_ge rfl rfl rfl hc46 ?_
              refine VQ_y (fun w' hw' => Y_subI rfl rfl) rfl rfl rfl ?_
              refine VQ_ge rfl rfl rfl hc46 ?_
              obtain ⟨x49, hx49, hs47⟩ := Option.bind_eq_some_iff.1 hs47
              refine VQ_indexAddr h_l hx49 Tryd.underlying34 Tryd.sizeOf62 rfl rfl rfl ?_
              intro b50 o51 h52
              refine VQ_ge rfl rfl rfl hc46 ?_
              have h53 := El_route_Skill_0 h52
              refine VQ_y (fun w' hw' => Y_fieldAddr Tryd.underlying62 rfl Tryd.sizeOf9 (by decide) rfl) rfl rfl rfl ?_
              refine VQ_ge rfl rfl rfl hc46 ?_
              refine VQ_y (fun w' hw' => Y_load (El.str (El.kp (Dw := False) h53 hw')) Tryd.isAgg9 rfl) rfl rfl rfl ?_
              refine VQ_ge rfl rfl rfl hc46 ?_
              refine VQ_y (fun w' hw' => Y_sleq rfl rfl) rfl rfl rfl ?_
              refine VQ_y (fun _ _ => Y_pick_te rfl hc46 rfl) rfl rfl rfl ?_
              obtain rfl := Option.some.inj hs47
              exact VQ_end fun a ha => ⟨(), ha.sub ⟨rfl, rfl, rfl, rfl, rfl, rfl, trivial⟩, trivial⟩
            · rw [if_neg (nt hc46)] at hs47
              refine VQ_gn rfl rfl rfl hc46 rfl rfl rfl ?_
              refine VQ_gn rfl rfl rfl hc46 rfl rfl rfl ?_
              refine VQ_gn rfl rfl rfl hc46 rfl rfl rfl ?_
              refine VQ_gn rfl rfl rfl hc46 rfl rfl rfl ?_
              refine VQ_gn rfl rfl rfl hc46 rfl rfl rfl ?_
              refine VQ_gn rfl rfl rfl hc46 rfl rfl rfl ?_
              refine VQ_gn rfl rfl rfl hc46 rfl rfl rfl ?_
              refine VQ_gn rfl rfl rfl hc46 rfl rfl rfl ?_
              refine VQ_gn rfl rfl rfl hc46 rfl rfl rfl ?_
              refine VQ_y (fun _ _ => Y_pick_fe rfl hc46 rfl) rfl rfl rfl ?_
              obtain rfl := Option.some.inj hs47
              exact VQ_end fun a ha => ⟨(), ha.sub ⟨rfl, rfl, rfl, rfl, rfl, rfl, trivial⟩, trivial⟩
          simp only [List.take, List.drop]
          rintro _ _
          refine VQ_y (fun w' hw' => Y_assign rfl) rfl rfl rfl ?_
          refine VQ_to (fun _ _ => rfl) (fun w54 hk55 => ?_)
          have ht56 := Kp.tr (Dw := False) hk55 hA hB
          replace hH := Hp.kp (Dw := False) hH hk55
          replace h_l := Sl.tr (Dw := False) h_l ht56
          replace h37 := El.tr (Dw := False) h37 ht56
          replace hK := Tr.trans (Dw := False) hK ht56
          replace hr6 := Tr.trans (Dw := False) hr6 ht56
          replace hB := Nat.le_trans hB ht56.ex.size
          replace hA := ht56.new
          refine C_cond rfl (fun hc57 => ?_) (fun hc57 => ?_)
          · rw [if_pos hc57] at h19
            refine C_seq ?_
            refine C_region ?_
            refine V_y (Y_assign rfl) rfl rfl rfl ?_
            refine V_to (fun _ _ => rfl) ?_
            obtain rfl := Option.some.inj h19
            obtain rfl := (h20 : Lp.rt _ = _)
            rw [Lp.andThen_rt] at hm
            obtain rfl := Option.some.inj hm
            refine C_ret ?_
            try simp only [↓inBlock_ret, ↓then_ret]
            exact retQ rfl (Res.one Tryd.results31 rfl) ⟨rfl, hK.kp⟩
          · rw [if_neg (nt hc57)] at h19
            refine C_seq ?_
            refine C_region ?_
            have h58 := El_route_Skill_1 h37
            refine V_y (Y_fieldAddr Tryd.underlying62 rfl Tryd.sizeOf3 (by decide) rfl) rfl rfl rfl ?_
            refine V_y (Y_load (El.int h58) Tryd.isAgg3 rfl) rfl rfl rfl ?_
            refine V_y (Y_lss rfl rfl) rfl rfl rfl ?_
            refine V_y (Y_move rfl) rfl rfl rfl ?_
            refine V_cut 4 (fun _ : Unit => [(0, v_l), (8, v_l), (9, .int .i64 (l.length : Int)), (10, .int .i64 (k7 : Int)), (42, .bool ((decide (x27.rank < 1)) || (decide ((9 : Int) < x27.rank))))]) (fun _ w' => w54 = w') ?_ ?_
            · simp only [List.take, List.drop]
              rcases Bool.eq_false_or_eq_true (decide (x27.rank < 1)) with hc59 | hc59
              · refine V_gn rfl rfl rfl hc59 rfl rfl rfl ?_
                refine V_gn rfl rfl rfl hc59 rfl rfl rfl ?_
                refine V_gn rfl rfl rfl hc59 rfl rfl rfl ?_
                refine V_y (Y_pick_te rfl hc59 rfl) rfl rfl rfl ?_
                exact V_end fun a ha => ⟨(), ha.sub ⟨rfl, rfl, rfl, rfl, (by rw [hc59]; rfl), trivial⟩, rfl⟩
              · refine V_ge rfl rfl rfl hc59 ?_
                have h61 := El_route_Skill_1 h37
                refine V_y (Y_fieldAddr Tryd.underlying62 rfl Tryd.sizeOf3 (by decide) rfl) rfl rfl rfl ?_
                refine V_ge rfl rfl rfl hc59 ?_
                refine V_y (Y_load (El.int h61) Tryd.isAgg3 rfl) rfl rfl rfl ?_
                refine V_ge rfl rfl rfl hc59 ?_
                refine V_y (Y_gtr rfl rfl) rfl rfl rfl ?_
                refine V_y (Y_pick_fe rfl hc59 rfl) rfl rfl rfl ?_
                exact V_end fun a ha => ⟨(), ha.sub ⟨rfl, rfl, rfl, rfl, (by rw [hc59]; rfl), trivial⟩, rfl⟩
            simp only [List.take, List.drop]
            rintro _ _ rfl
            refine V_y (Y_assign rfl) rfl rfl rfl ?_
            refine V_to (fun _ _ => rfl) ?_
            refine C_cond rfl (fun hc62 => ?_) (fun hc62 => ?_)
            · rw [if_pos hc62] at h19
              refine C_seq ?_
              refine C_region ?_
              refine V_y (Y_assign rfl) rfl rfl rfl ?_
              refine V_to (fun _ _ => rfl) ?_
              obtain rfl := Option.some.inj h19
              obtain rfl := (h20 : Lp.rt _ = _)
              rw [Lp.andThen_rt] at hm
              obtain rfl := Option.some.inj hm
              refine C_ret ?_
              try simp only [↓inBlock_ret, ↓then_ret]
              exact retQ rfl (Res.one Tryd.results31 rfl) ⟨rfl, hK.kp⟩
            · rw [if_neg (nt hc62)] at h19
              refine C_skip_to (fun _ _ => rfl) ?_
              refine C_region ?_
              refine V_y (Y_addI rfl rfl) rfl rfl rfl ?_
              refine V_y (Y_move rfl) rfl rfl rfl ?_
              obtain rfl := Option.some.inj h19
              refine V_end (fun a ha63 => ?_)
              exact ⟨(), hlt22, h20, ⟨A16, ha63.sub ⟨rfl, rfl, rfl, (congrArg (fun z => some (Value.int .i64 z)) (w64_succ hlt22 hn25)), trivial⟩, ⟨hH, hr6⟩⟩⟩
      · refine C_exit (fun a ha64 => ?_)
        exact ⟨((), A16), ha64.sub trivial, ⟨(h23 (eq_of_dec hle21 hc26)).symm, hH, hr6⟩⟩
    rintro ⟨s5, A12⟩ w9 ⟨rfl, hH13, hk10⟩ a ha11
    rw [Lp.andThen_fin] at hm
    replace hK := Tr.trans (Dw := False) hK hk10
    replace hB := Nat.le_trans hB hk10.ex.size
    replace hA := hk10.new
    replace hH : Hp w.heap.size A12 w9 ([]) := hH13
    refine C_at (n := ⟨44, [], none⟩) (fun _ _ => rfl) ?_ ha11
    refine C_seq ?_
    refine C_region ?_
    refine V_y (Y_assign rfl) rfl rfl rfl ?_
    refine V_to (fun _ _ => rfl) ?_
    obtain rfl := Option.some.inj hm
    refine C_ret ?_
    try simp only [↓inBlock_ret, ↓then_ret]
    exact retQ rfl (Res.one Tryd.results31 rfl) ⟨rfl, hK.kp⟩

set_option maxRecDepth 4000 in
set_option maxHeartbeats 4000000 in
theorem portref2_PeopleFault_c (w : World) {A : Nat → Prop} (hA : ∀ b, w.heap.size ≤ b → A b) (l : (List route_Person)) (v_l : Value) (h_l : Sl A w v_l l) {r : Int} (hm : portref2_PeopleFault l = some r) : Ret Tryd.prog 14 #[v_l] w fun v w' => v = .int .i64 r ∧ Kp False w w' := by
  unfold portref2_PeopleFault at hm
  refine enter Tryd.func14 rfl Tryd.ntmps14 rfl ?_
  have hA0 := hA
  have hB := Nat.le_refl w.heap.size
  have hK : Tr False w.heap.size A w A w := Tr.refl (Dw := False) hA
  have hH : Hp w.heap.size A w [] := Hp.nil
  refine C_seq ?_
  refine C_region ?_
  refine V_y (Y_assign rfl) rfl rfl rfl ?_
  refine V_to (fun _ _ => rfl) ?_
  refine C_seq ?_
  refine C_seq ?_
  refine C_region ?_
  refine V_y (Y_move rfl) rfl rfl rfl ?_
  refine V_y (Y_lenSl h_l rfl Tryd.underlying22 rfl) rfl rfl rfl ?_
  refine V_y (Y_gtr rfl rfl) rfl rfl rfl ?_
  refine V_to (fun _ _ => rfl) ?_
  refine C_cond rfl (fun hc3 => ?_) (fun hc3 => ?_)
  · rw [if_pos hc3] at hm
    refine C_seq ?_
    refine C_region ?_
    refine V_y (Y_assign rfl) rfl rfl rfl ?_
    refine V_to (fun _ _ => rfl) ?_
    obtain rfl := Option.some.inj hm
    refine C_ret ?_
    try simp only [↓inBlock_ret, ↓then_ret]
    exact retQ rfl (Res.one Tryd.results14 rfl) ⟨rfl, hK.kp⟩
  · rw [if_neg (nt hc3)] at hm
    refine C_skip_to (fun _ _ => rfl) ?_
    refine C_seq ?_
    refine C_seq ?_
    refine C_region ?_
    refine V_y (Y_move rfl) rfl rfl rfl ?_
    refine V_y (Y_lenSl h_l rfl Tryd.underlying22 rfl) rfl rfl rfl ?_
    refine V_y (Y_move rfl) rfl rfl rfl ?_
    refine V_to (fun _ _ => rfl) ?_
    have hn25 := Sl.le h_l
    obtain ⟨o4, ho4, hm⟩ := Option.bind_eq_some_iff.1 hm
    refine C_cutG (ι := (Unit × (Nat → Prop))) (fun ⟨s5, A12⟩ => []) (fun ⟨s5, A12⟩ => fun w' => o4 = .fin s5 ∧ Hp w.heap.size A12 w' ([]) ∧ Tr False w.heap.size A w A12 w') ?_ ?_
    · refine C_block ?_
      refine C_range ho4 (fun k7 _ a w' => ∃ i : (Nat → Prop), Has ⟨65, [], none⟩ a ([(0, v_l), (9, v_l), (10, .int .i64 (l.length : Int)), (11, .int .i64 (k7 : Int))]) ∧ Hp w.heap.size i w' ([]) ∧ Tr False w.heap.size A w i w') (fun a ha => ⟨A, ha.sub ⟨rfl, rfl, rfl, rfl, trivial⟩, ⟨hH, Tr.refl (Dw := False) hA⟩⟩) ?_
      rintro K k7 _ a w15 ⟨A16, ha84, hH17, hr6⟩ hle21 K24 h23
      refine C_of ?_ ha84
      replace h_l := Sl.tr (Dw := False) h_l hr6
      replace hK := Tr.trans (Dw := False) hK hr6
      replace hB := Nat.le_trans hB hr6.ex.size
      replace hA := hr6.new
      replace hH : Hp w.heap.size A16 w15 ([]) := hH17
      refine C_seq (C_region (V_y (Y_lss rfl rfl) rfl rfl rfl (V_to (fun _ _ => rfl) ?_)))
      refine C_seq ?_
      refine C_cond rfl (fun hc26 => ?_) (fun hc26 => ?_)
      · have hlt22 := lt_of_dec hc26
        obtain ⟨x18, h19, h20⟩ := K24 hlt22
        refine C_skip_to (fun _ _ => rfl) ?_
        refine C_seq ?_
        refine C_block ?_
        refine C_seq ?_
        refine C_region ?_
        refine V_y (Y_move rfl) rfl rfl rfl ?_
        obtain ⟨x27, hx27, h19⟩ := Option.bind_eq_some_iff.1 h19
        refine V_indexAddr h_l hx27 Tryd.underlying22 Tryd.sizeOf43 rfl rfl rfl ?_
        intro b28 o29 h30
        obtain ⟨v31, h33, h32⟩ := El_route_Person h30
        refine V_y (Y_loadA h33 Tryd.isAgg43 Tryd.sizeOf43 rfl) rfl rfl rfl ?_
        refine V_alloc Tryd.zeroValue43 rfl ?_
        intro b34 w35 h36
        refine V_y (Y_assign rfl) rfl rfl rfl ?_
        have h41 : (v31).oneCell' = true := by obtain ⟨_, _, e, _⟩ := Sl.form h32; rw [e]; rfl
        refine V_storeNew h36 Tryd.sizeOf43 rfl rfl rfl rfl (by exact (List.forall_mem_cons.2 ⟨rfl, (List.forall_mem_cons.2 ⟨rfl, (List.forall_mem_cons.2 ⟨rfl, (List.forall_mem_cons.2 ⟨h41, (fun _ h => nomatch h)⟩)⟩)⟩)⟩)) ?_
        intro w37 h38
        have hk43 := h38.kp (Dw := False)
        have h42 : El (α := route_Person) A16 w37 b34 0 x27 := h38.el hA ⟨[.int .i64 x27.no], _, rfl, rfl, ⟨[.int .i64 x27.capacity], _, rfl, rfl, ⟨[.int .i64 x27.calendar], _, rfl, rfl, ⟨_, rfl, h32⟩⟩⟩⟩
        have ht44 := Kp.tr (Dw := False) hk43 hA hB
        replace hH := Hp.kp (Dw := False) hH hk43
        replace h_l := Sl.tr (Dw := False) h_l ht44
        replace h30 := El.tr (Dw := False) h30 ht44
        replace h32 := Sl.tr (Dw := False) h32 ht44
        replace hK := Tr.trans (Dw := False) hK ht44
        replace hr6 := Tr.trans (Dw := False) hr6 ht44
        replace hB := Nat.le_trans hB ht44.ex.size
        replace hA := ht44.new
        refine V_to (fun _ _ => rfl) ?_
        refine C_seq ?_
        refine C_block ?_
        refine C_seq ?_
        refine C_region ?_
        have h45 := El_route_Person_0 h42
        refine V_y (Y_fieldAddr Tryd.underlying43 rfl Tryd.sizeOf3 (by decide) rfl) rfl rfl rfl ?_
        refine V_y (Y_load (El.int h45) Tryd.isAgg3 rfl) rfl rfl rfl ?_
        refine V_y (Y_lss rfl rfl) rfl rfl rfl ?_
        refine V_y (Y_move rfl) rfl rfl rfl ?_
        refine V_cut 4 (fun _ : Unit => [(0, v_l), (3, .int .i64 (k7 : Int)), (4, .pointer (some ⟨b34, 0, none⟩)), (9, v_l), (10, .int .i64 (l.length : Int)), (11, .int .i64 (k7 : Int)), (24, .bool ((decide (x27.no < 1)) || (decide ((40 : Int) < x27.no))))]) (fun _ w' => w37 = w') ?_ ?_
        · simp only [List.take, List.drop]
          rcases Bool.eq_false_or_eq_true (decide (x27.no < 1)) with hc46 | hc46
          · refine V_gn rfl rfl rfl hc46 rfl rfl rfl ?_
            refine V_gn rfl rfl rfl hc46 rfl rfl rfl ?_
            refine V_gn rfl rfl rfl hc46 rfl rfl rfl ?_
            refine V_y (Y_pick_te rfl hc46 rfl) rfl rfl rfl ?_
            exact V_end fun a ha => ⟨(), ha.sub ⟨rfl, rfl, rfl, rfl, rfl, rfl, (by rw [hc46]; rfl), trivial⟩, rfl⟩
          · refine V_ge rfl rfl rfl hc46 ?_
            have h48 := El_route_Person_0 h42
            refine V_y (Y_fieldAddr Tryd.underlying43 rfl Tryd.sizeOf3 (by decide) rfl) rfl rfl rfl ?_
            refine V_ge rfl rfl rfl hc46 ?_
            refine V_y (Y_load (El.int h48) Tryd.isAgg3 rfl) rfl rfl rfl ?_
            refine V_ge rfl rfl rfl hc46 ?_
            refine V_y (Y_gtr rfl rfl) rfl rfl rfl ?_
            refine V_y (Y_pick_fe rfl hc46 rfl) rfl rfl rfl ?_
            exact V_end fun a ha => ⟨(), ha.sub ⟨rfl, rfl, rfl, rfl, rfl, rfl, (by rw [hc46]; rfl), trivial⟩, rfl⟩
        simp only [List.take, List.drop]
        rintro _ _ rfl
        refine V_y (Y_assign rfl) rfl rfl rfl ?_
        refine V_to (fun _ _ => rfl) ?_
        refine C_cond rfl (fun hc49 => ?_) (fun hc49 => ?_)
        · rw [if_pos hc49] at h19
          refine C_seq ?_
          refine C_region ?_
          refine V_y (Y_assign rfl) rfl rfl rfl ?_
          refine V_to (fun _ _ => rfl) ?_
          obtain rfl := Option.some.inj h19
          obtain rfl := (h20 : Lp.rt _ = _)
          rw [Lp.andThen_rt] at hm
          obtain rfl := Option.some.inj hm
          refine C_ret ?_
          try simp only [↓inBlock_ret, ↓then_ret]
          exact retQ rfl (Res.one Tryd.results14 rfl) ⟨rfl, hK.kp⟩
        · rw [if_neg (nt hc49)] at h19
          refine C_seq ?_
          refine C_region_q (Dw := False) Tryd_mixed (by kernel_rfl) ?_
          refine VQ_y (fun w' hw' => Y_move rfl) rfl rfl rfl ?_
          refine VQ_y (fun w' hw' => Y_gtr rfl rfl) rfl rfl rfl ?_
          refine VQ_y (fun w' hw' => Y_move rfl) rfl rfl rfl ?_
          obtain ⟨s51, hs51, h19⟩ := Option.bind_eq_some_iff.1 h19
          refine VQ_cut 10 (fun _ : Unit => [(0, v_l), (4, .pointer (some ⟨b34, 0, none⟩)), (9, v_l), (10, .int .i64 (l.length : Int)), (11, .int .i64 (k7 : Int)), (38, .bool s51)]) (fun _ => True) ?_ ?_
          · simp only [List.take, List.drop]
            rcases Bool.eq_false_or_eq_true (decide ((0 : Int) < (k7 : Int))) with hc50 | hc50
            · rw [if_pos hc50] at hs51
              refine VQ_ge rfl rfl rfl hc50 ?_
              have h52 := El_route_Person_0 h42
              refine VQ_y (fun w' hw' => Y_fieldAddr Tryd.underlying43 rfl Tryd.sizeOf3 (by decide) rfl) rfl rfl rfl ?_
              refine VQ_ge rfl rfl rfl hc50 ?_
              refine VQ_y (fun w' hw' => Y_load (El.int (El.kp (Dw := False) h52 hw')) Tryd.isAgg3 rfl) rfl rfl rfl ?_
              refine VQ_ge rfl rfl rfl hc50 ?_
              refine VQ_y (fun w' hw' => Y_move rfl) rfl rfl rfl ?_
              refine VQ_ge rfl rfl rfl hc50 ?_
              refine VQ_y (fun w' hw' => Y_move rfl) rfl rfl rfl ?_
              refine VQ_ge rfl rfl rfl hc50 ?_
              refine VQ_y (fun w' hw' => Y_subI rfl rfl) rfl rfl rfl ?_
              refine VQ_ge rfl rfl rfl hc50 ?_
              obtain ⟨x53, hx53, hs51⟩ := Option.bind_eq_some_iff.1 hs51
              refine VQ_indexAddr h_l hx53 Tryd.underlying22 Tryd.sizeOf43 rfl rfl rfl ?_
              intro b54 o55 h56
              refine VQ_ge rfl rfl rfl hc50 ?_
              have h57 := El_route_Person_0 h56
              refine VQ_y (fun w' hw' => Y_fieldAddr Tryd.underlying43 rfl Tryd.sizeOf3 (by decide) rfl) rfl rfl rfl ?_
              refine VQ_ge rfl rfl rfl hc50 ?_
              refine VQ_y (fun w' hw' => Y_load (El.int (El.kp (Dw := False) h57 hw')) Tryd.isAgg3 rfl) rfl rfl rfl ?_
              refine VQ_ge rfl rfl rfl hc50 ?_
              refine VQ_y (fun w' hw' => Y_leq rfl rfl) rfl rfl rfl ?_
              refine VQ_y (fun _ _ => Y_pick_te rfl hc50 rfl) rfl rfl rfl ?_
              obtain rfl := Option.some.inj hs51
              exact VQ_end fun a ha => ⟨(), ha.sub ⟨rfl, rfl, rfl, rfl, rfl, rfl, trivial⟩, trivial⟩
            · rw [if_neg (nt hc50)] at hs51
              refine VQ_gn rfl rfl rfl hc50 rfl rfl rfl ?_
              refine VQ_gn rfl rfl rfl hc50 rfl rfl rfl ?_
              refine VQ_gn rfl rfl rfl hc50 rfl rfl rfl ?_
              refine VQ_gn rfl rfl rfl hc50 rfl rfl rfl ?_
              refine VQ_gn rfl rfl rfl hc50 rfl rfl rfl ?_
              refine VQ_gn rfl rfl rfl hc50 rfl rfl rfl ?_
              refine VQ_gn rfl rfl rfl hc50 rfl rfl rfl ?_
              refine VQ_gn rfl rfl rfl hc50 rfl rfl rfl ?_
              refine VQ_gn rfl rfl rfl hc50 rfl rfl rfl ?_
              refine VQ_y (fun _ _ => Y_pick_fe rfl hc50 rfl) rfl rfl rfl ?_
              obtain rfl := Option.some.inj hs51
              exact VQ_end fun a ha => ⟨(), ha.sub ⟨rfl, rfl, rfl, rfl, rfl, rfl, trivial⟩, trivial⟩
          simp only [List.take, List.drop]
          rintro _ _
          refine VQ_y (fun w' hw' => Y_assign rfl) rfl rfl rfl ?_
          refine VQ_to (fun _ _ => rfl) (fun w58 hk59 => ?_)
          have ht60 := Kp.tr (Dw := False) hk59 hA hB
          replace hH := Hp.kp (Dw := False) hH hk59
          replace h_l := Sl.tr (Dw := False) h_l ht60
          replace h42 := El.tr (Dw := False) h42 ht60
          replace hK := Tr.trans (Dw := False) hK ht60
          replace hr6 := Tr.trans (Dw := False) hr6 ht60
          replace hB := Nat.le_trans hB ht60.ex.size
          replace hA := ht60.new
          refine C_cond rfl (fun hc61 => ?_) (fun hc61 => ?_)
          · rw [if_pos hc61] at h19
            refine C_seq ?_
            refine C_region ?_
            refine V_y (Y_assign rfl) rfl rfl rfl ?_
            refine V_to (fun _ _ => rfl) ?_
            obtain rfl := Option.some.inj h19
            obtain rfl := (h20 : Lp.rt _ = _)
            rw [Lp.andThen_rt] at hm
            obtain rfl := Option.some.inj hm
            refine C_ret ?_
            try simp only [↓inBlock_ret, ↓then_ret]
            exact retQ rfl (Res.one Tryd.results14 rfl) ⟨rfl, hK.kp⟩
          · rw [if_neg (nt hc61)] at h19
            refine C_seq ?_
            refine C_region ?_
            have h62 := El_route_Person_1 h42
            refine V_y (Y_fieldAddr Tryd.underlying43 rfl Tryd.sizeOf3 (by decide) rfl) rfl rfl rfl ?_
            refine V_y (Y_load (El.int h62) Tryd.isAgg3 rfl) rfl rfl rfl ?_
            refine V_y (Y_lss rfl rfl) rfl rfl rfl ?_
            refine V_y (Y_move rfl) rfl rfl rfl ?_
            refine V_cut 4 (fun _ : Unit => [(0, v_l), (4, .pointer (some ⟨b34, 0, none⟩)), (9, v_l), (10, .int .i64 (l.length : Int)), (11, .int .i64 (k7 : Int)), (47, .bool ((decide (x27.capacity < 0)) || (decide ((100 : Int) < x27.capacity))))]) (fun _ w' => w58 = w') ?_ ?_
            · simp only [List.take, List.drop]
              rcases Bool.eq_false_or_eq_true (decide (x27.capacity < 0)) with hc63 | hc63
              · refine V_gn rfl rfl rfl hc63 rfl rfl rfl ?_
                refine V_gn rfl rfl rfl hc63 rfl rfl rfl ?_
                refine V_gn rfl rfl rfl hc63 rfl rfl rfl ?_
                refine V_y (Y_pick_te rfl hc63 rfl) rfl rfl rfl ?_
                exact V_end fun a ha => ⟨(), ha.sub ⟨rfl, rfl, rfl, rfl, rfl, (by rw [hc63]; rfl), trivial⟩, rfl⟩
              · refine V_ge rfl rfl rfl hc63 ?_
                have h65 := El_route_Person_1 h42
                refine V_y (Y_fieldAddr Tryd.underlying43 rfl Tryd.sizeOf3 (by decide) rfl) rfl rfl rfl ?_
                refine V_ge rfl rfl rfl hc63 ?_
                refine V_y (Y_load (El.int h65) Tryd.isAgg3 rfl) rfl rfl rfl ?_
                refine V_ge rfl rfl rfl hc63 ?_
                refine V_y (Y_gtr rfl rfl) rfl rfl rfl ?_
                refine V_y (Y_pick_fe rfl hc63 rfl) rfl rfl rfl ?_
                exact V_end fun a ha => ⟨(), ha.sub ⟨rfl, rfl, rfl, rfl, rfl, (by rw [hc63]; rfl), trivial⟩, rfl⟩
            simp only [List.take, List.drop]
            rintro _ _ rfl
            refine V_y (Y_move rfl) rfl rfl rfl ?_
            refine V_cut 4 (fun _ : Unit => [(0, v_l), (4, .pointer (some ⟨b34, 0, none⟩)), (9, v_l), (10, .int .i64 (l.length : Int)), (11, .int .i64 (k7 : Int)), (52, .bool (((decide (x27.capacity < 0)) || (decide ((100 : Int) < x27.capacity))) || (decide (x27.calendar < 0))))]) (fun _ w' => w58 = w') ?_ ?_
            · simp only [List.take, List.drop]
              rcases Bool.eq_false_or_eq_true (((decide (x27.capacity < 0)) || (decide ((100 : Int) < x27.capacity)))) with hc66 | hc66
              · refine V_gn rfl rfl rfl hc66 rfl rfl rfl ?_
                refine V_gn rfl rfl rfl hc66 rfl rfl rfl ?_
                refine V_gn rfl rfl rfl hc66 rfl rfl rfl ?_
                refine V_y (Y_pick_te rfl hc66 rfl) rfl rfl rfl ?_
                exact V_end fun a ha => ⟨(), ha.sub ⟨rfl, rfl, rfl, rfl, rfl, (by rw [hc66]; rfl), trivial⟩, rfl⟩
              · refine V_ge rfl rfl rfl hc66 ?_
                have h68 := El_route_Person_2 h42
                refine V_y (Y_fieldAddr Tryd.underlying43 rfl Tryd.sizeOf3 (by decide) rfl) rfl rfl rfl ?_
                refine V_ge rfl rfl rfl hc66 ?_
                refine V_y (Y_load (El.int h68) Tryd.isAgg3 rfl) rfl rfl rfl ?_
                refine V_ge rfl rfl rfl hc66 ?_
                refine V_y (Y_lss rfl rfl) rfl rfl rfl ?_
                refine V_y (Y_pick_fe rfl hc66 rfl) rfl rfl rfl ?_
                exact V_end fun a ha => ⟨(), ha.sub ⟨rfl, rfl, rfl, rfl, rfl, (by rw [hc66]; rfl), trivial⟩, rfl⟩
            simp only [List.take, List.drop]
            rintro _ _ rfl
            refine V_y (Y_move rfl) rfl rfl rfl ?_
            refine V_cut 4 (fun _ : Unit => [(0, v_l), (4, .pointer (some ⟨b34, 0, none⟩)), (9, v_l), (10, .int .i64 (l.length : Int)), (11, .int .i64 (k7 : Int)), (57, .bool ((((decide (x27.capacity < 0)) || (decide ((100 : Int) < x27.capacity))) || (decide (x27.calendar < 0))) || (decide ((20 : Int) ≤ x27.calendar))))]) (fun _ w' => w58 = w') ?_ ?_
            · simp only [List.take, List.drop]
              rcases Bool.eq_false_or_eq_true ((((decide (x27.capacity < 0)) || (decide ((100 : Int) < x27.capacity))) || (decide (x27.calendar < 0)))) with hc69 | hc69
              · refine V_gn rfl rfl rfl hc69 rfl rfl rfl ?_
                refine V_gn rfl rfl rfl hc69 rfl rfl rfl ?_
                refine V_gn rfl rfl rfl hc69 rfl rfl rfl ?_
                refine V_y (Y_pick_te rfl hc69 rfl) rfl rfl rfl ?_
                exact V_end fun a ha => ⟨(), ha.sub ⟨rfl, rfl, rfl, rfl, rfl, (by rw [hc69]; rfl), trivial⟩, rfl⟩
              · refine V_ge rfl rfl rfl hc69 ?_
                have h71 := El_route_Person_2 h42
                refine V_y (Y_fieldAddr Tryd.underlying43 rfl Tryd.sizeOf3 (by decide) rfl) rfl rfl rfl ?_
                refine V_ge rfl rfl rfl hc69 ?_
                refine V_y (Y_load (El.int h71) Tryd.isAgg3 rfl) rfl rfl rfl ?_
                refine V_ge rfl rfl rfl hc69 ?_
                refine V_y (Y_geq rfl rfl) rfl rfl rfl ?_
                refine V_y (Y_pick_fe rfl hc69 rfl) rfl rfl rfl ?_
                exact V_end fun a ha => ⟨(), ha.sub ⟨rfl, rfl, rfl, rfl, rfl, (by rw [hc69]; rfl), trivial⟩, rfl⟩
            simp only [List.take, List.drop]
            rintro _ _ rfl
            refine V_y (Y_assign rfl) rfl rfl rfl ?_
            refine V_to (fun _ _ => rfl) ?_
            refine C_cond rfl (fun hc72 => ?_) (fun hc72 => ?_)
            · rw [if_pos hc72] at h19
              refine C_seq ?_
              refine C_region ?_
              refine V_y (Y_assign rfl) rfl rfl rfl ?_
              refine V_to (fun _ _ => rfl) ?_
              obtain rfl := Option.some.inj h19
              obtain rfl := (h20 : Lp.rt _ = _)
              rw [Lp.andThen_rt] at hm
              obtain rfl := Option.some.inj hm
              refine C_ret ?_
              try simp only [↓inBlock_ret, ↓then_ret]
              exact retQ rfl (Res.one Tryd.results14 rfl) ⟨rfl, hK.kp⟩
            · rw [if_neg (nt hc72)] at h19
              refine C_skip_to (fun _ _ => rfl) ?_
              refine C_seq ?_
              refine C_region ?_
              have h73 := El_route_Person_3 h42
              refine V_y (Y_fieldAddr Tryd.underlying43 rfl Tryd.sizeOf34 (by decide) rfl) rfl rfl rfl ?_
              obtain ⟨v74, h75, h76⟩ := El.list h73
              refine V_y (Y_load h75 Tryd.isAgg34 rfl) rfl rfl rfl ?_
              obtain ⟨x77, hx77, h19⟩ := Option.bind_eq_some_iff.1 h19
              refine V_call Tryd.call31 rfl rfl rfl rfl (portref2_skillsFault_c w58 hA x27.skills v74 h76 hx77) ?_
              rintro _ w78 ⟨rfl, hk79⟩
              have ht80 := Kp.tr (Dw := False) hk79 hA hB
              replace hH := Hp.kp (Dw := False) hH hk79
              replace h_l := Sl.tr (Dw := False) h_l ht80
              replace h42 := El.tr (Dw := False) h42 ht80
              replace h73 := El.tr (Dw := False) h73 ht80
              replace h76 := Sl.tr (Dw := False) h76 ht80
              replace hK := Tr.trans (Dw := False) hK ht80
              replace hr6 := Tr.trans (Dw := False) hr6 ht80
              replace hB := Nat.le_trans hB ht80.ex.size
              replace hA := ht80.new
              refine V_y (Y_assign rfl) rfl rfl rfl ?_
              refine V_to (fun _ _ => rfl) ?_
              refine C_seq ?_
              refine C_region ?_
              refine V_y (Y_move rfl) rfl rfl rfl ?_
              refine V_y (Y_neq rfl rfl) rfl rfl rfl ?_
              refine V_to (fun _ _ => rfl) ?_
              refine C_cond rfl (fun hc81 => ?_) (fun hc81 => ?_)
              · rw [if_pos hc81] at h19
                refine C_seq ?_
                refine C_region ?_
                refine V_y (Y_move rfl) rfl rfl rfl ?_
                refine V_y (Y_assign rfl) rfl rfl rfl ?_
                refine V_to (fun _ _ => rfl) ?_
                obtain rfl := Option.some.inj h19
                obtain rfl := (h20 : Lp.rt _ = _)
                rw [Lp.andThen_rt] at hm
                obtain rfl := Option.some.inj hm
                refine C_ret ?_
                try simp only [↓inBlock_ret, ↓then_ret]
                exact retQ rfl (Res.one Tryd.results14 rfl) ⟨rfl, hK.kp⟩
              · rw [if_neg (nt hc81)] at h19
                refine C_skip_to (fun _ _ => rfl) ?_
                refine C_region ?_
                refine V_y (Y_addI rfl rfl) rfl rfl rfl ?_
                refine V_y (Y_move rfl) rfl rfl rfl ?_
                obtain rfl := Option.some.inj h19
                refine V_end (fun a ha82 => ?_)
                exact ⟨(), hlt22, h20, ⟨A16, ha82.sub ⟨rfl, rfl, rfl, (congrArg (fun z => some (Value.int .i64 z)) (w64_succ hlt22 hn25)), trivial⟩, ⟨hH, hr6⟩⟩⟩
      · refine C_exit (fun a ha83 => ?_)
        exact ⟨((), A16), ha83.sub trivial, ⟨(h23 (eq_of_dec hle21 hc26)).symm, hH, hr6⟩⟩
    rintro ⟨s5, A12⟩ w9 ⟨rfl, hH13, hk10⟩ a ha11
    rw [Lp.andThen_fin] at hm
    replace hK := Tr.trans (Dw := False) hK hk10
    replace hB := Nat.le_trans hB hk10.ex.size
    replace hA := hk10.new
    replace hH : Hp w.heap.size A12 w9 ([]) := hH13
    refine C_at (n := ⟨65, [], none⟩) (fun _ _ => rfl) ?_ ha11
    refine C_seq ?_
    refine C_region ?_
    refine V_y (Y_assign rfl) rfl rfl rfl ?_
    refine V_to (fun _ _ => rfl) ?_
    obtain rfl := Option.some.inj hm
    refine C_ret ?_
    try simp only [↓inBlock_ret, ↓then_ret]
    exact retQ rfl (Res.one Tryd.results14 rfl) ⟨rfl, hK.kp⟩

set_option maxRecDepth 4000 in
set_option maxHeartbeats 4000000 in
theorem portref2_WorkFault_1_c (w : World) {A : Nat → Prop} (hA : ∀ b, w.heap.size ≤ b → A b) (x : route_Work) (v_x : Value) (h_x : Sl A w v_x x.needs) (p1 : route_Work) (b_p1 : Nat) (h_p1 : El A w b_p1 0 p1) {r : Bool} (hm : portref2_WorkFault_1 x p1 = some r) : Ret Tryd.prog 32 #[.agg #[.int .i64 x.ticket, .int .i64 x.weight, .int .i64 x.urgency, .int .i64 x.since, .int .i64 x.former, v_x], .pointer (some ⟨b_p1, 0, none⟩)] w fun v w' => v = .bool r ∧ Kp Dw w w' := by
  unfold portref2_WorkFault_1 at hm
  refine enter Tryd.func32 rfl Tryd.ntmps32 rfl ?_
  have hA0 := hA
  have hB := Nat.le_refl w.heap.size
  have hK : Tr Dw w.heap.size A w A w := Tr.refl (Dw := Dw) hA
  have hH : Hp w.heap.size A w [] := Hp.nil
  refine C_seq ?_
  refine C_region ?_
  refine V_box rfl rfl ?_
  intro b3 w4 h5
  have hk7 := h5.kp (Dw := Dw)
  have h6 : El (α := route_Work) A w4 b3 0 x := h5.el hA ⟨[.int .i64 x.ticket], _, rfl, rfl, ⟨[.int .i64 x.weight], _, rfl, rfl, ⟨[.int .i64 x.urgency], _, rfl, rfl, ⟨[.int .i64 x.since], _, rfl, rfl, ⟨[.int .i64 x.former], _, rfl, rfl, ⟨_, rfl, h_x⟩⟩⟩⟩⟩⟩
  have ht8 := Kp.tr (Dw := Dw) hk7 hA hB
  replace hH := Hp.kp (Dw := Dw) hH hk7
  replace h_x := Sl.tr (Dw := Dw) h_x ht8
  replace h_p1 := El.tr (Dw := Dw) h_p1 ht8
  replace hK := Tr.trans (Dw := Dw) hK ht8
  replace hB := Nat.le_trans hB ht8.ex.size
  replace hA := ht8.new
  refine V_y (Y_assign rfl) rfl rfl rfl ?_
  refine V_to (fun _ _ => rfl) ?_
  refine C_seq ?_
  refine C_region ?_
  have h9 := El_route_Work_0 h6
  refine V_y (Y_fieldAddr Tryd.underlying36 rfl Tryd.sizeOf3 (by decide) rfl) rfl rfl rfl ?_
  refine V_y (Y_load (El.int h9) Tryd.isAgg3 rfl) rfl rfl rfl ?_
  have h10 := El_route_Work_0 h_p1
  refine V_y (Y_fieldAddr Tryd.underlying36 rfl Tryd.sizeOf3 (by decide) rfl) rfl rfl rfl ?_
  refine V_y (Y_load (El.int h10) Tryd.isAgg3 rfl) rfl rfl rfl ?_
  refine V_y (Y_eql rfl rfl) rfl rfl rfl ?_
  refine V_y (Y_assign rfl) rfl rfl rfl ?_
  refine V_to (fun _ _ => rfl) ?_
  obtain rfl := Option.some.inj hm
  refine C_ret ?_
  try simp only [↓inBlock_ret, ↓then_ret]
  exact retQ rfl (Res.one Tryd.results32 rfl) ⟨rfl, hK.kp⟩

set_option maxRecDepth 4000 in
set_option maxHeartbeats 4000000 in
theorem portref2_IsMoment_c (w : World) (m : Int) : Ret Tryd.prog 33 #[.int .i64 m] w fun v w' => v = .bool (portref2_IsMoment m) ∧ w = w' := by
  generalize hm : portref2_IsMoment m = r
  unfold portref2_IsMoment at hm
  refine enter Tryd.func33 rfl Tryd.ntmps33 rfl ?_
  refine C_seq ?_
  refine C_region ?_
  refine V_y (Y_assign rfl) rfl rfl rfl ?_
  refine V_to (fun _ _ => rfl) ?_
  refine C_seq ?_
  refine C_region ?_
  refine V_y (Y_move rfl) rfl rfl rfl ?_
  refine V_y (Y_geq rfl rfl) rfl rfl rfl ?_
  refine V_y (Y_move rfl) rfl rfl rfl ?_
  refine V_cut 3 (fun _ : Unit => [(8, .bool ((decide ((0 : Int) ≤ m)) && (decide (m ≤ 3000000))))]) (fun _ w' => w = w') ?_ ?_
  · simp only [List.take, List.drop]
    rcases Bool.eq_false_or_eq_true (decide ((0 : Int) ≤ m)) with hc1 | hc1
    · refine V_ge rfl rfl rfl hc1 ?_
      refine V_y (Y_move rfl) rfl rfl rfl ?_
      refine V_ge rfl rfl rfl hc1 ?_
      refine V_y (Y_leq rfl rfl) rfl rfl rfl ?_
      refine V_y (Y_pick_te rfl hc1 rfl) rfl rfl rfl ?_
      exact V_end fun a ha => ⟨(), ha.sub ⟨(by rw [hc1]; rfl), trivial⟩, rfl⟩
    · refine V_gn rfl rfl rfl hc1 rfl rfl rfl ?_
      refine V_gn rfl rfl rfl hc1 rfl rfl rfl ?_
      refine V_y (Y_pick_fe rfl hc1 rfl) rfl rfl rfl ?_
      exact V_end fun a ha => ⟨(), ha.sub ⟨(by rw [hc1]; rfl), trivial⟩, rfl⟩
  simp only [List.take, List.drop]
  rintro _ _ rfl
  refine V_y (Y_assign rfl) rfl rfl rfl ?_
  refine V_to (fun _ _ => rfl) ?_
  obtain rfl := hm
  refine C_ret ?_
  try simp only [↓inBlock_ret, ↓then_ret]
  exact retQ rfl (Res.one Tryd.results33 rfl) ⟨rfl, rfl⟩

set_option maxRecDepth 4000 in
set_option maxHeartbeats 4000000 in
theorem portref2_WorkFault_c (w : World) {A : Nat → Prop} (hA : ∀ b, w.heap.size ≤ b → A b) (l : (List route_Work)) (v_l : Value) (h_l : Sl A w v_l l) {r : Int} (hm : portref2_WorkFault l = some r) : Ret Tryd.prog 15 #[v_l] w fun v w' => v = .int .i64 r ∧ Kp False w w' := by
  unfold portref2_WorkFault at hm
  refine enter Tryd.func15 rfl Tryd.ntmps15 rfl ?_
  have hA0 := hA
  have hB := Nat.le_refl w.heap.size
  have hK : Tr False w.heap.size A w A w := Tr.refl (Dw := False) hA
  have hH : Hp w.heap.size A w [] := Hp.nil
  refine C_seq ?_
  refine C_region ?_
  refine V_y (Y_assign rfl) rfl rfl rfl ?_
  refine V_to (fun _ _ => rfl) ?_
  refine C_seq ?_
  refine C_seq ?_
  refine C_region ?_
  refine V_y (Y_move rfl) rfl rfl rfl ?_
  refine V_y (Y_lenSl h_l rfl Tryd.underlying23 rfl) rfl rfl rfl ?_
  refine V_y (Y_gtr rfl rfl) rfl rfl rfl ?_
  refine V_to (fun _ _ => rfl) ?_
  refine C_cond rfl (fun hc3 => ?_) (fun hc3 => ?_)
  · rw [if_pos hc3] at hm
    refine C_seq ?_
    refine C_region ?_
    refine V_y (Y_assign rfl) rfl rfl rfl ?_
    refine V_to (fun _ _ => rfl) ?_
    obtain rfl := Option.some.inj hm
    refine C_ret ?_
    try simp only [↓inBlock_ret, ↓then_ret]
    exact retQ rfl (Res.one Tryd.results15 rfl) ⟨rfl, hK.kp⟩
  · rw [if_neg (nt hc3)] at hm
    refine C_skip_to (fun _ _ => rfl) ?_
    refine C_seq ?_
    refine C_seq ?_
    refine C_region ?_
    refine V_y (Y_move rfl) rfl rfl rfl ?_
    refine V_y (Y_lenSl h_l rfl Tryd.underlying23 rfl) rfl rfl rfl ?_
    refine V_y (Y_move rfl) rfl rfl rfl ?_
    refine V_to (fun _ _ => rfl) ?_
    have hn25 := Sl.le h_l
    obtain ⟨o4, ho4, hm⟩ := Option.bind_eq_some_iff.1 hm
    refine C_cutG (ι := (Unit × (Nat → Prop))) (fun ⟨s5, A12⟩ => []) (fun ⟨s5, A12⟩ => fun w' => o4 = .fin s5 ∧ Hp w.heap.size A12 w' ([]) ∧ Tr False w.heap.size A w A12 w') ?_ ?_
    · refine C_block ?_
      refine C_range ho4 (fun k7 _ a w' => ∃ i : (Nat → Prop), Has ⟨73, [], none⟩ a ([(0, v_l), (9, v_l), (10, .int .i64 (l.length : Int)), (11, .int .i64 (k7 : Int))]) ∧ Hp w.heap.size i w' ([]) ∧ Tr False w.heap.size A w i w') (fun a ha => ⟨A, ha.sub ⟨rfl, rfl, rfl, rfl, trivial⟩, ⟨hH, Tr.refl (Dw := False) hA⟩⟩) ?_
      rintro K k7 _ a w15 ⟨A16, ha100, hH17, hr6⟩ hle21 K24 h23
      refine C_of ?_ ha100
      replace h_l := Sl.tr (Dw := False) h_l hr6
      replace hK := Tr.trans (Dw := False) hK hr6
      replace hB := Nat.le_trans hB hr6.ex.size
      replace hA := hr6.new
      replace hH : Hp w.heap.size A16 w15 ([]) := hH17
      refine C_seq (C_region (V_y (Y_lss rfl rfl) rfl rfl rfl (V_to (fun _ _ => rfl) ?_)))
      refine C_seq ?_
      refine C_cond rfl (fun hc26 => ?_) (fun hc26 => ?_)
      · have hlt22 := lt_of_dec hc26
        obtain ⟨x18, h19, h20⟩ := K24 hlt22
        refine C_skip_to (fun _ _ => rfl) ?_
        refine C_seq ?_
        refine C_block ?_
        refine C_seq ?_
        refine C_region ?_
        refine V_y (Y_move rfl) rfl rfl rfl ?_
        obtain ⟨x27, hx27, h19⟩ := Option.bind_eq_some_iff.1 h19
        refine V_indexAddr h_l hx27 Tryd.underlying23 Tryd.sizeOf36 rfl rfl rfl ?_
        intro b28 o29 h30
        obtain ⟨v31, h33, h32⟩ := El_route_Work h30
        refine V_y (Y_loadA h33 Tryd.isAgg36 Tryd.sizeOf36 rfl) rfl rfl rfl ?_
        refine V_alloc Tryd.zeroValue36 rfl ?_
        intro b34 w35 h36
        refine V_y (Y_assign rfl) rfl rfl rfl ?_
        have h41 : (v31).oneCell' = true := by obtain ⟨_, _, e, _⟩ := Sl.form h32; rw [e]; rfl
        refine V_storeNew h36 Tryd.sizeOf36 rfl rfl rfl rfl (by exact (List.forall_mem_cons.2 ⟨rfl, (List.forall_mem_cons.2 ⟨rfl, (List.forall_mem_cons.2 ⟨rfl, (List.forall_mem_cons.2 ⟨rfl, (List.forall_mem_cons.2 ⟨rfl, (List.forall_mem_cons.2 ⟨h41, (fun _ h => nomatch h)⟩)⟩)⟩)⟩)⟩)⟩)) ?_
        intro w37 h38
        have hk43 := h38.kp (Dw := False)
        have h42 : El (α := route_Work) A16 w37 b34 0 x27 := h38.el hA ⟨[.int .i64 x27.ticket], _, rfl, rfl, ⟨[.int .i64 x27.weight], _, rfl, rfl, ⟨[.int .i64 x27.urgency], _, rfl, rfl, ⟨[.int .i64 x27.since], _, rfl, rfl, ⟨[.int .i64 x27.former], _, rfl, rfl, ⟨_, rfl, h32⟩⟩⟩⟩⟩⟩
        have ht44 := Kp.tr (Dw := False) hk43 hA hB
        replace hH := Hp.kp (Dw := False) hH hk43
        replace h_l := Sl.tr (Dw := False) h_l ht44
        replace h30 := El.tr (Dw := False) h30 ht44
        replace h32 := Sl.tr (Dw := False) h32 ht44
        replace hK := Tr.trans (Dw := False) hK ht44
        replace hr6 := Tr.trans (Dw := False) hr6 ht44
        replace hB := Nat.le_trans hB ht44.ex.size
        replace hA := ht44.new
        refine V_to (fun _ _ => rfl) ?_
        refine C_seq ?_
        refine C_block ?_
        refine C_seq ?_
        refine C_region ?_
        have h45 := El_route_Work_0 h42
        refine V_y (Y_fieldAddr Tryd.underlying36 rfl Tryd.sizeOf3 (by decide) rfl) rfl rfl rfl ?_
        refine V_y (Y_load (El.int h45) Tryd.isAgg3 rfl) rfl rfl rfl ?_
        refine V_y (Y_lss rfl rfl) rfl rfl rfl ?_
        refine V_y (Y_move rfl) rfl rfl rfl ?_
        refine V_cut 4 (fun _ : Unit => [(0, v_l), (3, .int .i64 (k7 : Int)), (4, .pointer (some ⟨b34, 0, none⟩)), (9, v_l), (10, .int .i64 (l.length : Int)), (11, .int .i64 (k7 : Int)), (24, .bool ((decide (x27.ticket < 1)) || (decide ((400 : Int) < x27.ticket))))]) (fun _ w' => w37 = w') ?_ ?_
        · simp only [List.take, List.drop]
          rcases Bool.eq_false_or_eq_true (decide (x27.ticket < 1)) with hc46 | hc46
          · refine V_gn rfl rfl rfl hc46 rfl rfl rfl ?_
            refine V_gn rfl rfl rfl hc46 rfl rfl rfl ?_
            refine V_gn rfl rfl rfl hc46 rfl rfl rfl ?_
            refine V_y (Y_pick_te rfl hc46 rfl) rfl rfl rfl ?_
            exact V_end fun a ha => ⟨(), ha.sub ⟨rfl, rfl, rfl, rfl, rfl, rfl, (by rw [hc46]; rfl), trivial⟩, rfl⟩
          · refine V_ge rfl rfl rfl hc46 ?_
            have h48 := El_route_Work_0 h42
            refine V_y (Y_fieldAddr Tryd.underlying36 rfl Tryd.sizeOf3 (by decide) rfl) rfl rfl rfl ?_
            refine V_ge rfl rfl rfl hc46 ?_
            refine V_y (Y_load (El.int h48) Tryd.isAgg3 rfl) rfl rfl rfl ?_
            refine V_ge rfl rfl rfl hc46 ?_
            refine V_y (Y_gtr rfl rfl) rfl rfl rfl ?_
            refine V_y (Y_pick_fe rfl hc46 rfl) rfl rfl rfl ?_
            exact V_end fun a ha => ⟨(), ha.sub ⟨rfl, rfl, rfl, rfl, rfl, rfl, (by rw [hc46]; rfl), trivial⟩, rfl⟩
        simp only [List.take, List.drop]
        rintro _ _ rfl
        refine V_y (Y_assign rfl) rfl rfl rfl ?_
        refine V_to (fun _ _ => rfl) ?_
        refine C_cond rfl (fun hc49 => ?_) (fun hc49 => ?_)
        · rw [if_pos hc49] at h19
          refine C_seq ?_
          refine C_region ?_
          refine V_y (Y_assign rfl) rfl rfl rfl ?_
          refine V_to (fun _ _ => rfl) ?_
          obtain rfl := Option.some.inj h19
          obtain rfl := (h20 : Lp.rt _ = _)
          rw [Lp.andThen_rt] at hm
          obtain rfl := Option.some.inj hm
          refine C_ret ?_
          try simp only [↓inBlock_ret, ↓then_ret]
          exact retQ rfl (Res.one Tryd.results15 rfl) ⟨rfl, hK.kp⟩
        · rw [if_neg (nt hc49)] at h19
          refine C_seq ?_
          refine C_region ?_
          refine V_y (Y_move rfl) rfl rfl rfl ?_
          refine V_y (Y_move rfl) rfl rfl rfl ?_
          obtain ⟨x50, hx50, h19⟩ := Option.bind_eq_some_iff.1 h19
          obtain ⟨v51, h52, h52y⟩ := sliceL_val hx50 h_l
          refine V_y (Y_sliceLH h52y Tryd.underlying23 Tryd.sizeOf36 rfl rfl) rfl rfl rfl ?_
          refine V_y (Y_makeFunc rfl rfl) rfl rfl rfl ?_
          obtain ⟨x54, hx54, h19⟩ := Option.bind_eq_some_iff.1 h19
          refine V_call Tryd.call10 rfl rfl rfl rfl (slices_ContainsFunc_Lroute_Work_route_Work_c (Dw := False) w37 hA x50 v51 h52 (fun y64 => portref2_WorkFault_1 y64 x27) 32 #[] #[.pointer (some ⟨b34, 0, none⟩)] Tryd.call32 (fun w60 A61 ht62 h63 y55 v56 h57 r58 h59 => (portref2_WorkFault_1_c (Dw := False) w60 h63 y55 v56 h57 x27 b34 (El.tr (Dw := False) h42 ht62) h59).mono (fun _ _ h => ⟨h.1, h.2⟩)) hx54) ?_
          rintro _ w65 ⟨rfl, hk66⟩
          have ht67 := Kp.tr (Dw := False) hk66 hA hB
          replace hH := Hp.kp (Dw := False) hH hk66
          replace h_l := Sl.tr (Dw := False) h_l ht67
          replace h42 := El.tr (Dw := False) h42 ht67
          replace h52 := Sl.tr (Dw := False) h52 ht67
          replace hK := Tr.trans (Dw := False) hK ht67
          replace hr6 := Tr.trans (Dw := False) hr6 ht67
          replace hB := Nat.le_trans hB ht67.ex.size
          replace hA := ht67.new
          refine V_y (Y_assign rfl) rfl rfl rfl ?_
          refine V_to (fun _ _ => rfl) ?_
          refine C_cond rfl (fun hc68 => ?_) (fun hc68 => ?_)
          · rw [if_pos hc68] at h19
            refine C_seq ?_
            refine C_region ?_
            refine V_y (Y_assign rfl) rfl rfl rfl ?_
            refine V_to (fun _ _ => rfl) ?_
            obtain rfl := Option.some.inj h19
            obtain rfl := (h20 : Lp.rt _ = _)
            rw [Lp.andThen_rt] at hm
            obtain rfl := Option.some.inj hm
            refine C_ret ?_
            try simp only [↓inBlock_ret, ↓then_ret]
            exact retQ rfl (Res.one Tryd.results15 rfl) ⟨rfl, hK.kp⟩
          · rw [if_neg (nt hc68)] at h19
            refine C_seq ?_
            refine C_region ?_
            have h69 := El_route_Work_1 h42
            refine V_y (Y_fieldAddr Tryd.underlying36 rfl Tryd.sizeOf3 (by decide) rfl) rfl rfl rfl ?_
            refine V_y (Y_load (El.int h69) Tryd.isAgg3 rfl) rfl rfl rfl ?_
            refine V_y (Y_lss rfl rfl) rfl rfl rfl ?_
            refine V_y (Y_move rfl) rfl rfl rfl ?_
            refine V_cut 4 (fun _ : Unit => [(0, v_l), (4, .pointer (some ⟨b34, 0, none⟩)), (9, v_l), (10, .int .i64 (l.length : Int)), (11, .int .i64 (k7 : Int)), (39, .bool ((decide (x27.weight < 1)) || (decide ((20 : Int) < x27.weight))))]) (fun _ w' => w65 = w') ?_ ?_
            · simp only [List.take, List.drop]
              rcases Bool.eq_false_or_eq_true (decide (x27.weight < 1)) with hc70 | hc70
              · refine V_gn rfl rfl rfl hc70 rfl rfl rfl ?_
                refine V_gn rfl rfl rfl hc70 rfl rfl rfl ?_
                refine V_gn rfl rfl rfl hc70 rfl rfl rfl ?_
                refine V_y (Y_pick_te rfl hc70 rfl) rfl rfl rfl ?_
                exact V_end fun a ha => ⟨(), ha.sub ⟨rfl, rfl, rfl, rfl, rfl, (by rw [hc70]; rfl), trivial⟩, rfl⟩
              · refine V_ge rfl rfl rfl hc70 ?_
                have h72 := El_route_Work_1 h42
                refine V_y (Y_fieldAddr Tryd.underlying36 rfl Tryd.sizeOf3 (by decide) rfl) rfl rfl rfl ?_
                refine V_ge rfl rfl rfl hc70 ?_
                refine V_y (Y_load (El.int h72) Tryd.isAgg3 rfl) rfl rfl rfl ?_
                refine V_ge rfl rfl rfl hc70 ?_
                refine V_y (Y_gtr rfl rfl) rfl rfl rfl ?_
                refine V_y (Y_pick_fe rfl hc70 rfl) rfl rfl rfl ?_
                exact V_end fun a ha => ⟨(), ha.sub ⟨rfl, rfl, rfl, rfl, rfl, (by rw [hc70]; rfl), trivial⟩, rfl⟩
            simp only [List.take, List.drop]
            rintro _ _ rfl
            refine V_y (Y_move rfl) rfl rfl rfl ?_
            refine V_cut 4 (fun _ : Unit => [(0, v_l), (4, .pointer (some ⟨b34, 0, none⟩)), (9, v_l), (10, .int .i64 (l.length : Int)), (11, .int .i64 (k7 : Int)), (44, .bool (((decide (x27.weight < 1)) || (decide ((20 : Int) < x27.weight))) || (decide (x27.urgency < 0))))]) (fun _ w' => w65 = w') ?_ ?_
            · simp only [List.take, List.drop]
              rcases Bool.eq_false_or_eq_true (((decide (x27.weight < 1)) || (decide ((20 : Int) < x27.weight)))) with hc73 | hc73
              · refine V_gn rfl rfl rfl hc73 rfl rfl rfl ?_
                refine V_gn rfl rfl rfl hc73 rfl rfl rfl ?_
                refine V_gn rfl rfl rfl hc73 rfl rfl rfl ?_
                refine V_y (Y_pick_te rfl hc73 rfl) rfl rfl rfl ?_
                exact V_end fun a ha => ⟨(), ha.sub ⟨rfl, rfl, rfl, rfl, rfl, (by rw [hc73]; rfl), trivial⟩, rfl⟩
              · refine V_ge rfl rfl rfl hc73 ?_
                have h75 := El_route_Work_2 h42
                refine V_y (Y_fieldAddr Tryd.underlying36 rfl Tryd.sizeOf3 (by decide) rfl) rfl rfl rfl ?_
                refine V_ge rfl rfl rfl hc73 ?_
                refine V_y (Y_load (El.int h75) Tryd.isAgg3 rfl) rfl rfl rfl ?_
                refine V_ge rfl rfl rfl hc73 ?_
                refine V_y (Y_lss rfl rfl) rfl rfl rfl ?_
                refine V_y (Y_pick_fe rfl hc73 rfl) rfl rfl rfl ?_
                exact V_end fun a ha => ⟨(), ha.sub ⟨rfl, rfl, rfl, rfl, rfl, (by rw [hc73]; rfl), trivial⟩, rfl⟩
            simp only [List.take, List.drop]
            rintro _ _ rfl
            refine V_y (Y_move rfl) rfl rfl rfl ?_
            refine V_cut 4 (fun _ : Unit => [(0, v_l), (4, .pointer (some ⟨b34, 0, none⟩)), (9, v_l), (10, .int .i64 (l.length : Int)), (11, .int .i64 (k7 : Int)), (49, .bool ((((decide (x27.weight < 1)) || (decide ((20 : Int) < x27.weight))) || (decide (x27.urgency < 0))) || (decide ((9 : Int) < x27.urgency))))]) (fun _ w' => w65 = w') ?_ ?_
            · simp only [List.take, List.drop]
              rcases Bool.eq_false_or_eq_true ((((decide (x27.weight < 1)) || (decide ((20 : Int) < x27.weight))) || (decide (x27.urgency < 0)))) with hc76 | hc76
              · refine V_gn rfl rfl rfl hc76 rfl rfl rfl ?_
                refine V_gn rfl rfl rfl hc76 rfl rfl rfl ?_
                refine V_gn rfl rfl rfl hc76 rfl rfl rfl ?_
                refine V_y (Y_pick_te rfl hc76 rfl) rfl rfl rfl ?_
                exact V_end fun a ha => ⟨(), ha.sub ⟨rfl, rfl, rfl, rfl, rfl, (by rw [hc76]; rfl), trivial⟩, rfl⟩
              · refine V_ge rfl rfl rfl hc76 ?_
                have h78 := El_route_Work_2 h42
                refine V_y (Y_fieldAddr Tryd.underlying36 rfl Tryd.sizeOf3 (by decide) rfl) rfl rfl rfl ?_
                refine V_ge rfl rfl rfl hc76 ?_
                refine V_y (Y_load (El.int h78) Tryd.isAgg3 rfl) rfl rfl rfl ?_
                refine V_ge rfl rfl rfl hc76 ?_
                refine V_y (Y_gtr rfl rfl) rfl rfl rfl ?_
                refine V_y (Y_pick_fe rfl hc76 rfl) rfl rfl rfl ?_
                exact V_end fun a ha => ⟨(), ha.sub ⟨rfl, rfl, rfl, rfl, rfl, (by rw [hc76]; rfl), trivial⟩, rfl⟩
            simp only [List.take, List.drop]
            rintro _ _ rfl
            refine V_y (Y_move rfl) rfl rfl rfl ?_
            refine V_cut 5 (fun _ : Unit => [(0, v_l), (4, .pointer (some ⟨b34, 0, none⟩)), (9, v_l), (10, .int .i64 (l.length : Int)), (11, .int .i64 (k7 : Int)), (55, .bool (((((decide (x27.weight < 1)) || (decide ((20 : Int) < x27.weight))) || (decide (x27.urgency < 0))) || (decide ((9 : Int) < x27.urgency))) || (!(portref2_IsMoment x27.since))))]) (fun _ w' => w65 = w') ?_ ?_
            · simp only [List.take, List.drop]
              rcases Bool.eq_false_or_eq_true (((((decide (x27.weight < 1)) || (decide ((20 : Int) < x27.weight))) || (decide (x27.urgency < 0))) || (decide ((9 : Int) < x27.urgency)))) with hc79 | hc79
              · refine V_gn rfl rfl rfl hc79 rfl rfl rfl ?_
                refine V_gn rfl rfl rfl hc79 rfl rfl rfl ?_
                refine V_gn rfl rfl rfl hc79 rfl rfl rfl ?_
                refine V_gn rfl rfl rfl hc79 rfl rfl rfl ?_
                refine V_y (Y_pick_te rfl hc79 rfl) rfl rfl rfl ?_
                exact V_end fun a ha => ⟨(), ha.sub ⟨rfl, rfl, rfl, rfl, rfl, (by rw [hc79]; rfl), trivial⟩, rfl⟩
              · refine V_ge rfl rfl rfl hc79 ?_
                have h81 := El_route_Work_3 h42
                refine V_y (Y_fieldAddr Tryd.underlying36 rfl Tryd.sizeOf3 (by decide) rfl) rfl rfl rfl ?_
                refine V_ge rfl rfl rfl hc79 ?_
                refine V_y (Y_load (El.int h81) Tryd.isAgg3 rfl) rfl rfl rfl ?_
                refine V_ge rfl rfl rfl hc79 ?_
                refine V_call Tryd.call33 rfl rfl rfl rfl (portref2_IsMoment_c w65 x27.since) ?_
                rintro _ _ ⟨rfl, rfl⟩
                refine V_ge rfl rfl rfl hc79 ?_
                refine V_y (Y_not rfl) rfl rfl rfl ?_
                refine V_y (Y_pick_fe rfl hc79 rfl) rfl rfl rfl ?_
                exact V_end fun a ha => ⟨(), ha.sub ⟨rfl, rfl, rfl, rfl, rfl, (by rw [hc79]; rfl), trivial⟩, rfl⟩
            simp only [List.take, List.drop]
            rintro _ _ rfl
            refine V_y (Y_move rfl) rfl rfl rfl ?_
            refine V_cut 4 (fun _ : Unit => [(0, v_l), (4, .pointer (some ⟨b34, 0, none⟩)), (9, v_l), (10, .int .i64 (l.length : Int)), (11, .int .i64 (k7 : Int)), (60, .bool ((((((decide (x27.weight < 1)) || (decide ((20 : Int) < x27.weight))) || (decide (x27.urgency < 0))) || (decide ((9 : Int) < x27.urgency))) || (!(portref2_IsMoment x27.since))) || (decide (x27.former < 0))))]) (fun _ w' => w65 = w') ?_ ?_
            · simp only [List.take, List.drop]
              rcases Bool.eq_false_or_eq_true ((((((decide (x27.weight < 1)) || (decide ((20 : Int) < x27.weight))) || (decide (x27.urgency < 0))) || (decide ((9 : Int) < x27.urgency))) || (!(portref2_IsMoment x27.since)))) with hc82 | hc82
              · refine V_gn rfl rfl rfl hc82 rfl rfl rfl ?_
                refine V_gn rfl rfl rfl hc82 rfl rfl rfl ?_
                refine V_gn rfl rfl rfl hc82 rfl rfl rfl ?_
                refine V_y (Y_pick_te rfl hc82 rfl) rfl rfl rfl ?_
                exact V_end fun a ha => ⟨(), ha.sub ⟨rfl, rfl, rfl, rfl, rfl, (by rw [hc82]; rfl), trivial⟩, rfl⟩
              · refine V_ge rfl rfl rfl hc82 ?_
                have h84 := El_route_Work_4 h42
                refine V_y (Y_fieldAddr Tryd.underlying36 rfl Tryd.sizeOf3 (by decide) rfl) rfl rfl rfl ?_
                refine V_ge rfl rfl rfl hc82 ?_
                refine V_y (Y_load (El.int h84) Tryd.isAgg3 rfl) rfl rfl rfl ?_
                refine V_ge rfl rfl rfl hc82 ?_
                refine V_y (Y_lss rfl rfl) rfl rfl rfl ?_
                refine V_y (Y_pick_fe rfl hc82 rfl) rfl rfl rfl ?_
                exact V_end fun a ha => ⟨(), ha.sub ⟨rfl, rfl, rfl, rfl, rfl, (by rw [hc82]; rfl), trivial⟩, rfl⟩
            simp only [List.take, List.drop]
            rintro _ _ rfl
            refine V_y (Y_move rfl) rfl rfl rfl ?_
            refine V_cut 4 (fun _ : Unit => [(0, v_l), (4, .pointer (some ⟨b34, 0, none⟩)), (9, v_l), (10, .int .i64 (l.length : Int)), (11, .int .i64 (k7 : Int)), (65, .bool (((((((decide (x27.weight < 1)) || (decide ((20 : Int) < x27.weight))) || (decide (x27.urgency < 0))) || (decide ((9 : Int) < x27.urgency))) || (!(portref2_IsMoment x27.since))) || (decide (x27.former < 0))) || (decide ((40 : Int) < x27.former))))]) (fun _ w' => w65 = w') ?_ ?_
            · simp only [List.take, List.drop]
              rcases Bool.eq_false_or_eq_true (((((((decide (x27.weight < 1)) || (decide ((20 : Int) < x27.weight))) || (decide (x27.urgency < 0))) || (decide ((9 : Int) < x27.urgency))) || (!(portref2_IsMoment x27.since))) || (decide (x27.former < 0)))) with hc85 | hc85
              · refine V_gn rfl rfl rfl hc85 rfl rfl rfl ?_
                refine V_gn rfl rfl rfl hc85 rfl rfl rfl ?_
                refine V_gn rfl rfl rfl hc85 rfl rfl rfl ?_
                refine V_y (Y_pick_te rfl hc85 rfl) rfl rfl rfl ?_
                exact V_end fun a ha => ⟨(), ha.sub ⟨rfl, rfl, rfl, rfl, rfl, (by rw [hc85]; rfl), trivial⟩, rfl⟩
              · refine V_ge rfl rfl rfl hc85 ?_
                have h87 := El_route_Work_4 h42
                refine V_y (Y_fieldAddr Tryd.underlying36 rfl Tryd.sizeOf3 (by decide) rfl) rfl rfl rfl ?_
                refine V_ge rfl rfl rfl hc85 ?_
                refine V_y (Y_load (El.int h87) Tryd.isAgg3 rfl) rfl rfl rfl ?_
                refine V_ge rfl rfl rfl hc85 ?_
                refine V_y (Y_gtr rfl rfl) rfl rfl rfl ?_
                refine V_y (Y_pick_fe rfl hc85 rfl) rfl rfl rfl ?_
                exact V_end fun a ha => ⟨(), ha.sub ⟨rfl, rfl, rfl, rfl, rfl, (by rw [hc85]; rfl), trivial⟩, rfl⟩
            simp only [List.take, List.drop]
            rintro _ _ rfl
            refine V_y (Y_assign rfl) rfl rfl rfl ?_
            refine V_to (fun _ _ => rfl) ?_
            refine C_cond rfl (fun hc88 => ?_) (fun hc88 => ?_)
            · rw [if_pos hc88] at h19
              refine C_seq ?_
              refine C_region ?_
              refine V_y (Y_assign rfl) rfl rfl rfl ?_
              refine V_to (fun _ _ => rfl) ?_
              obtain rfl := Option.some.inj h19
              obtain rfl := (h20 : Lp.rt _ = _)
              rw [Lp.andThen_rt] at hm
              obtain rfl := Option.some.inj hm
              refine C_ret ?_
              try simp only [↓inBlock_ret, ↓then_ret]
              exact retQ rfl (Res.one Tryd.results15 rfl) ⟨rfl, hK.kp⟩
            · rw [if_neg (nt hc88)] at h19
              refine C_skip_to (fun _ _ => rfl) ?_
              refine C_seq ?_
              refine C_region ?_
              have h89 := El_route_Work_5 h42
              refine V_y (Y_fieldAddr Tryd.underlying36 rfl Tryd.sizeOf34 (by decide) rfl) rfl rfl rfl ?_
              obtain ⟨v90, h91, h92⟩ := El.list h89
              refine V_y (Y_load h91 Tryd.isAgg34 rfl) rfl rfl rfl ?_
              obtain ⟨x93, hx93, h19⟩ := Option.bind_eq_some_iff.1 h19
              refine V_call Tryd.call31 rfl rfl rfl rfl (portref2_skillsFault_c w65 hA x27.needs v90 h92 hx93) ?_
              rintro _ w94 ⟨rfl, hk95⟩
              have ht96 := Kp.tr (Dw := False) hk95 hA hB
              replace hH := Hp.kp (Dw := False) hH hk95
              replace h_l := Sl.tr (Dw := False) h_l ht96
              replace h42 := El.tr (Dw := False) h42 ht96
              replace h89 := El.tr (Dw := False) h89 ht96
              replace h92 := Sl.tr (Dw := False) h92 ht96
              replace hK := Tr.trans (Dw := False) hK ht96
              replace hr6 := Tr.trans (Dw := False) hr6 ht96
              replace hB := Nat.le_trans hB ht96.ex.size
              replace hA := ht96.new
              refine V_y (Y_assign rfl) rfl rfl rfl ?_
              refine V_to (fun _ _ => rfl) ?_
              refine C_seq ?_
              refine C_region ?_
              refine V_y (Y_move rfl) rfl rfl rfl ?_
              refine V_y (Y_neq rfl rfl) rfl rfl rfl ?_
              refine V_to (fun _ _ => rfl) ?_
              refine C_cond rfl (fun hc97 => ?_) (fun hc97 => ?_)
              · rw [if_pos hc97] at h19
                refine C_seq ?_
                refine C_region ?_
                refine V_y (Y_move rfl) rfl rfl rfl ?_
                refine V_y (Y_assign rfl) rfl rfl rfl ?_
                refine V_to (fun _ _ => rfl) ?_
                obtain rfl := Option.some.inj h19
                obtain rfl := (h20 : Lp.rt _ = _)
                rw [Lp.andThen_rt] at hm
                obtain rfl := Option.some.inj hm
                refine C_ret ?_
                try simp only [↓inBlock_ret, ↓then_ret]
                exact retQ rfl (Res.one Tryd.results15 rfl) ⟨rfl, hK.kp⟩
              · rw [if_neg (nt hc97)] at h19
                refine C_skip_to (fun _ _ => rfl) ?_
                refine C_region ?_
                refine V_y (Y_addI rfl rfl) rfl rfl rfl ?_
                refine V_y (Y_move rfl) rfl rfl rfl ?_
                obtain rfl := Option.some.inj h19
                refine V_end (fun a ha98 => ?_)
                exact ⟨(), hlt22, h20, ⟨A16, ha98.sub ⟨rfl, rfl, rfl, (congrArg (fun z => some (Value.int .i64 z)) (w64_succ hlt22 hn25)), trivial⟩, ⟨hH, hr6⟩⟩⟩
      · refine C_exit (fun a ha99 => ?_)
        exact ⟨((), A16), ha99.sub trivial, ⟨(h23 (eq_of_dec hle21 hc26)).symm, hH, hr6⟩⟩
    rintro ⟨s5, A12⟩ w9 ⟨rfl, hH13, hk10⟩ a ha11
    rw [Lp.andThen_fin] at hm
    replace hK := Tr.trans (Dw := False) hK hk10
    replace hB := Nat.le_trans hB hk10.ex.size
    replace hA := hk10.new
    replace hH : Hp w.heap.size A12 w9 ([]) := hH13
    refine C_at (n := ⟨73, [], none⟩) (fun _ _ => rfl) ?_ ha11
    refine C_seq ?_
    refine C_region ?_
    refine V_y (Y_assign rfl) rfl rfl rfl ?_
    refine V_to (fun _ _ => rfl) ?_
    obtain rfl := Option.some.inj hm
    refine C_ret ?_
    try simp only [↓inBlock_ret, ↓then_ret]
    exact retQ rfl (Res.one Tryd.results15 rfl) ⟨rfl, hK.kp⟩

set_option maxRecDepth 4000 in
set_option maxHeartbeats 4000000 in
theorem portref2_MatchOf_1_c (w : World) {A : Nat → Prop} (hA : ∀ b, w.heap.size ≤ b → A b) (w_ : route_Work) (v_w_ : Value) (h_w_ : Sl A w v_w_ w_.needs) {r : Bool} (hm : portref2_MatchOf_1 w_ = some r) : Ret Tryd.prog 16 #[.agg #[.int .i64 w_.ticket, .int .i64 w_.weight, .int .i64 w_.urgency, .int .i64 w_.since, .int .i64 w_.former, v_w_]] w fun v w' => v = .bool r ∧ Kp Dw w w' := by
  unfold portref2_MatchOf_1 at hm
  refine enter Tryd.func16 rfl Tryd.ntmps16 rfl ?_
  have hA0 := hA
  have hB := Nat.le_refl w.heap.size
  have hK : Tr Dw w.heap.size A w A w := Tr.refl (Dw := Dw) hA
  have hH : Hp w.heap.size A w [] := Hp.nil
  refine C_seq ?_
  refine C_region ?_
  refine V_box rfl rfl ?_
  intro b3 w4 h5
  have hk7 := h5.kp (Dw := Dw)
  have h6 : El (α := route_Work) A w4 b3 0 w_ := h5.el hA ⟨[.int .i64 w_.ticket], _, rfl, rfl, ⟨[.int .i64 w_.weight], _, rfl, rfl, ⟨[.int .i64 w_.urgency], _, rfl, rfl, ⟨[.int .i64 w_.since], _, rfl, rfl, ⟨[.int .i64 w_.former], _, rfl, rfl, ⟨_, rfl, h_w_⟩⟩⟩⟩⟩⟩
  have ht8 := Kp.tr (Dw := Dw) hk7 hA hB
  replace hH := Hp.kp (Dw := Dw) hH hk7
  replace h_w_ := Sl.tr (Dw := Dw) h_w_ ht8
  replace hK := Tr.trans (Dw := Dw) hK ht8
  replace hB := Nat.le_trans hB ht8.ex.size
  replace hA := ht8.new
  refine V_y (Y_assign rfl) rfl rfl rfl ?_
  refine V_to (fun _ _ => rfl) ?_
  refine C_seq ?_
  refine C_region ?_
  have h9 := El_route_Work_1 h6
  refine V_y (Y_fieldAddr Tryd.underlying36 rfl Tryd.sizeOf3 (by decide) rfl) rfl rfl rfl ?_
  refine V_y (Y_load (El.int h9) Tryd.isAgg3 rfl) rfl rfl rfl ?_
  refine V_y (Y_neq rfl rfl) rfl rfl rfl ?_
  refine V_y (Y_assign rfl) rfl rfl rfl ?_
  refine V_to (fun _ _ => rfl) ?_
  obtain rfl := Option.some.inj hm
  refine C_ret ?_
  try simp only [↓inBlock_ret, ↓then_ret]
  exact retQ rfl (Res.one Tryd.results16 rfl) ⟨rfl, hK.kp⟩

end Go.Proofs.YtgmenjhmnjhgoaaDoor.W
