/-
  Written by program (gen.py) from the IR of the dump: each function computes its model.
-/
import Derived.Test.YtdfohednlmnciaaGreatDoorKnowSuggestsW1
namespace Go.Proofs.YtdfohednlmnciaaGreatDoor.W
open Go Go.RowKit Go.Pu Go.Gw Go.Proofs Go.Proofs.YtdfohednlmnciaaGreatDoor.M
set_option linter.unusedVariables false
set_option linter.unusedSimpArgs false
variable {Dw : Prop}

set_option maxRecDepth 4000 in
set_option maxHeartbeats 4000000 in
theorem know_Suggest_c (w : World) {A : Nat → Prop} (hA : ∀ b, w.heap.size ≤ b → A b) (x : know_Index) (v_x0 : Value) (h_x0 : Sl A w v_x0 x.ids) (v_x1 : Value) (h_x1 : Sl A w v_x1 x.sizes) (v_x2 : Value) (h_x2 : Sl A w v_x2 x.terms) (text : ByteArray) (sent : (List Int)) (v_sent : Value) (h_sent : Sl A w v_sent sent) (most : Int) {r : ((List know_Hit) × Int)} (hm : know_Suggest x text sent most = some r) : Ret Tryz.prog 4 #[.agg #[v_x0, v_x1, v_x2], .string text, v_sent, .int .i64 most] w fun v w' => ∃ s0, v = .tuple #[s0, .int .i64 r.2] ∧ Ownd 32 w w' s0 r.1 ∧ Kp Dw w w' := by
  unfold know_Suggest at hm
  refine enter Tryz.func4 rfl Tryz.ntmps4 rfl ?_
  have hA0 := hA
  have hB := Nat.le_refl w.heap.size
  have hK : Tr Dw w.heap.size A w A w := Tr.refl (Dw := Dw) hA
  have hH : Hp w.heap.size A w [] := Hp.nil
  refine C_seq ?_
  refine C_region ?_
  refine V_box rfl rfl ?_
  intro b9 w10 h11
  have hk13 := h11.kp (Dw := Dw)
  have h12 : El (α := know_Index) A w10 b9 0 x := h11.el hA ⟨[v_x0], _, rfl, ⟨_, rfl, h_x0⟩, ⟨[v_x1], _, rfl, ⟨_, rfl, h_x1⟩, ⟨_, rfl, h_x2⟩⟩⟩
  have ht14 := Kp.tr (Dw := Dw) hk13 hA hB
  replace hH := Hp.kp (Dw := Dw) hH hk13
  replace h_x0 := Sl.tr (Dw := Dw) h_x0 ht14
  replace h_x1 := Sl.tr (Dw := Dw) h_x1 ht14
  replace h_x2 := Sl.tr (Dw := Dw) h_x2 ht14
  replace h_sent := Sl.tr (Dw := Dw) h_sent ht14
  replace hK := Tr.trans (Dw := Dw) hK ht14
  replace hB := Nat.le_trans hB ht14.ex.size
  replace hA := ht14.new
  refine V_y (Y_assign rfl) rfl rfl rfl ?_
  refine V_y (Y_assign rfl) rfl rfl rfl ?_
  refine V_to (fun _ _ => rfl) ?_
  refine C_seq ?_
  refine C_seq ?_
  refine C_region ?_
  obtain ⟨v15, v17, v19, h21, h16, h18, h20⟩ := El_know_Index h12
  refine V_y (Y_loadA h21 Tryz.isAgg25 Tryz.sizeOf25 rfl) rfl rfl rfl ?_
  obtain ⟨x22, hx22, hm⟩ := Option.bind_eq_some_iff.1 hm
  refine V_call Tryz.call7 rfl rfl rfl rfl (know_CheckIndex_c (Dw := Dw) w10 hA x v15 h16 v17 h18 v19 h20 hx22) ?_
  rintro _ w23 ⟨rfl, hk24⟩
  have ht25 := Kp.tr (Dw := Dw) hk24 hA hB
  replace hH := Hp.kp (Dw := Dw) hH hk24
  replace h_sent := Sl.tr (Dw := Dw) h_sent ht25
  replace h12 := El.tr (Dw := Dw) h12 ht25
  replace h16 := Sl.tr (Dw := Dw) h16 ht25
  replace h18 := Sl.tr (Dw := Dw) h18 ht25
  replace h20 := Sl.tr (Dw := Dw) h20 ht25
  replace hK := Tr.trans (Dw := Dw) hK ht25
  replace hB := Nat.le_trans hB ht25.ex.size
  replace hA := ht25.new
  refine V_y (Y_assign rfl) rfl rfl rfl ?_
  refine V_to (fun _ _ => rfl) ?_
  refine C_seq ?_
  refine C_region ?_
  refine V_y (Y_move rfl) rfl rfl rfl ?_
  refine V_y (Y_neq rfl rfl) rfl rfl rfl ?_
  refine V_to (fun _ _ => rfl) ?_
  refine C_cond rfl (fun hc26 => ?_) (fun hc26 => ?_)
  · rw [if_pos hc26] at hm
    refine C_seq ?_
    refine C_region ?_
    refine V_y (Y_move rfl) rfl rfl rfl ?_
    refine V_y (Y_assign rfl) rfl rfl rfl ?_
    refine V_y (Y_assign rfl) rfl rfl rfl ?_
    refine V_to (fun _ _ => rfl) ?_
    obtain rfl := Option.some.inj hm
    replace hH : Hp w.heap.size A w23 (obS (α := know_Hit) 32 (.slice none 0 0) ([] : (List know_Hit)) :: []) := Hp.addNil (α := know_Hit) (e := 32) hH
    refine C_ret ?_
    try simp only [↓inBlock_ret, ↓then_ret]
    exact retQ rfl (Res.two Tryz.results4 rfl rfl) ⟨.slice none 0 0, rfl, (Hp.ownd hH (i := 0) rfl), hK.kp⟩
  · rw [if_neg (nt hc26)] at hm
    refine C_skip_to (fun _ _ => rfl) ?_
    refine C_seq ?_
    refine C_seq ?_
    refine C_region ?_
    refine V_y (Y_move rfl) rfl rfl rfl ?_
    refine V_y (Y_lenStr rfl Tryz.underlying9 rfl) rfl rfl rfl ?_
    refine V_y (Y_gtr rfl rfl) rfl rfl rfl ?_
    refine V_y (Y_move rfl) rfl rfl rfl ?_
    refine V_cut 4 (fun _ : Unit => [(1, .string text), (2, v_sent), (3, .int .i64 most), (4, .pointer (some ⟨b9, 0, none⟩)), (33, .bool ((decide ((20000 : Int) < (text.size : Int))) || (decide ((200 : Int) < (sent.length : Int)))))]) (fun _ w' => w23 = w') ?_ ?_
    · simp only [List.take, List.drop]
      rcases Bool.eq_false_or_eq_true (decide ((20000 : Int) < (text.size : Int))) with hc27 | hc27
      · refine V_gn rfl rfl rfl hc27 rfl rfl rfl ?_
        refine V_gn rfl rfl rfl hc27 rfl rfl rfl ?_
        refine V_gn rfl rfl rfl hc27 rfl rfl rfl ?_
        refine V_y (Y_pick_te rfl hc27 rfl) rfl rfl rfl ?_
        exact V_end fun a ha => ⟨(), ha.sub ⟨rfl, rfl, rfl, rfl, (by rw [hc27]; rfl), trivial⟩, rfl⟩
      · refine V_ge rfl rfl rfl hc27 ?_
        refine V_y (Y_move rfl) rfl rfl rfl ?_
        refine V_ge rfl rfl rfl hc27 ?_
        refine V_y (Y_lenSl h_sent rfl Tryz.underlying22 rfl) rfl rfl rfl ?_
        refine V_ge rfl rfl rfl hc27 ?_
        refine V_y (Y_gtr rfl rfl) rfl rfl rfl ?_
        refine V_y (Y_pick_fe rfl hc27 rfl) rfl rfl rfl ?_
        exact V_end fun a ha => ⟨(), ha.sub ⟨rfl, rfl, rfl, rfl, (by rw [hc27]; rfl), trivial⟩, rfl⟩
    simp only [List.take, List.drop]
    rintro _ _ rfl
    refine V_to (fun _ _ => rfl) ?_
    refine C_cond rfl (fun hc29 => ?_) (fun hc29 => ?_)
    · rw [if_pos hc29] at hm
      refine C_seq ?_
      refine C_region ?_
      refine V_y (Y_assign rfl) rfl rfl rfl ?_
      refine V_y (Y_assign rfl) rfl rfl rfl ?_
      refine V_to (fun _ _ => rfl) ?_
      obtain rfl := Option.some.inj hm
      replace hH : Hp w.heap.size A w23 (obS (α := know_Hit) 32 (.slice none 0 0) ([] : (List know_Hit)) :: []) := Hp.addNil (α := know_Hit) (e := 32) hH
      refine C_ret ?_
      try simp only [↓inBlock_ret, ↓then_ret]
      exact retQ rfl (Res.two Tryz.results4 rfl rfl) ⟨.slice none 0 0, rfl, (Hp.ownd hH (i := 0) rfl), hK.kp⟩
    · rw [if_neg (nt hc29)] at hm
      refine C_skip_to (fun _ _ => rfl) ?_
      refine C_seq ?_
      refine C_seq ?_
      refine C_region ?_
      refine V_y (Y_move rfl) rfl rfl rfl ?_
      refine V_call Tryz.call8 rfl rfl rfl rfl (know_within_c w23 most 0 100) ?_
      rintro _ _ ⟨rfl, rfl⟩
      refine V_y (Y_not rfl) rfl rfl rfl ?_
      refine V_to (fun _ _ => rfl) ?_
      refine C_cond rfl (fun hc30 => ?_) (fun hc30 => ?_)
      · rw [if_pos hc30] at hm
        refine C_seq ?_
        refine C_region ?_
        refine V_y (Y_assign rfl) rfl rfl rfl ?_
        refine V_y (Y_assign rfl) rfl rfl rfl ?_
        refine V_to (fun _ _ => rfl) ?_
        obtain rfl := Option.some.inj hm
        replace hH : Hp w.heap.size A w23 (obS (α := know_Hit) 32 (.slice none 0 0) ([] : (List know_Hit)) :: []) := Hp.addNil (α := know_Hit) (e := 32) hH
        refine C_ret ?_
        try simp only [↓inBlock_ret, ↓then_ret]
        exact retQ rfl (Res.two Tryz.results4 rfl rfl) ⟨.slice none 0 0, rfl, (Hp.ownd hH (i := 0) rfl), hK.kp⟩
      · rw [if_neg (nt hc30)] at hm
        refine C_skip_to (fun _ _ => rfl) ?_
        refine C_seq ?_
        refine C_region_ch (Dw := Dw) A 6 [(1, 0), (1, 1), (2, 2), (1, 3), (2, 4), (1, 5)] Tryz_mixed (by kernel_rfl) (fun w31 hk32 => ?_)
        have ht33 := Kp.tr (Dw := Dw) hk32 hA hB
        replace hH := Hp.kp (Dw := Dw) hH hk32
        replace h_sent := Sl.tr (Dw := Dw) h_sent ht33
        replace h12 := El.tr (Dw := Dw) h12 ht33
        replace hK := Tr.trans (Dw := Dw) hK ht33
        replace hB := Nat.le_trans hB ht33.ex.size
        replace hA := ht33.new
        refine CH_q2 (Dw := Dw) rfl ?_
        obtain ⟨v34, v36, v38, h40, h35, h37, h39⟩ := El_know_Index h12
        refine VQ_y (fun w' hw' => Y_loadA (At.same h40 (hw'.2 _ h12.2.1 h12.1)) Tryz.isAgg25 Tryz.sizeOf25 rfl) rfl rfl rfl ?_
        refine VQ_CH (Dw := Dw) ?_
        refine CH_q2 (Dw := Dw) rfl ?_
        refine VQ_y (fun w' hw' => Y_move rfl) rfl rfl rfl ?_
        refine VQ_CH (Dw := Dw) ?_
        refine CH_l1 (Dw := Dw) (k := 0) rfl ?_
        obtain ⟨x41, hx41, hm⟩ := Option.bind_eq_some_iff.1 hm
        refine V_call Tryz.call10 rfl rfl rfl rfl (know_Words_c (Dw := Dw) w31 hA text hx41) ?_
        rintro v42 w44 ⟨_, rfl, h43, hk45⟩
        obtain ⟨A46, ht47, hH48⟩ := Hp.addOwnd (Dw := Dw) hH hB hA hk45 h43
        replace h_sent := Sl.tr (Dw := Dw) h_sent ht47
        replace h12 := El.tr (Dw := Dw) h12 ht47
        replace h35 := Sl.tr (Dw := Dw) h35 ht47
        replace h37 := Sl.tr (Dw := Dw) h37 ht47
        replace h39 := Sl.tr (Dw := Dw) h39 ht47
        replace hK := Tr.trans (Dw := Dw) hK ht47
        replace hB := Nat.le_trans hB ht47.ex.size
        replace hA := ht47.new
        replace hH : Hp w.heap.size A46 w44 (obS (α := ByteArray) 9 v42 x41 :: []) := hH48
        refine V_CH (Dw := Dw) (hk45) ?_
        refine CH_q2 (Dw := Dw) rfl ?_
        refine VQ_y (fun w' hw' => Y_build (cells := #[.int .i64 1, .bool false, v42]) Tryz.underlying40 Tryz.zeroValue40 (Tryz_places40 _ Tryz.underlying40) rfl (by obtain ⟨a49, c50, e51, _⟩ := Hp.form (α := ByteArray) (e := 9) (v := v42) (l := x41) hH (i := 0) rfl; subst e51; with_unfolding_all rfl)) rfl rfl rfl ?_
        refine VQ_CH (Dw := Dw) ?_
        refine CH_l1 (Dw := Dw) (k := 0) rfl ?_
        obtain ⟨A52, ht53, h54, hH55⟩ := Hp.freeze (Dw := Dw) (α := ByteArray) (v := v42) (l := x41) hH (i := 0) rfl hA
        replace h_sent := Sl.tr (Dw := Dw) h_sent ht53
        replace h12 := El.tr (Dw := Dw) h12 ht53
        replace h35 := Sl.tr (Dw := Dw) h35 ht53
        replace h37 := Sl.tr (Dw := Dw) h37 ht53
        replace h39 := Sl.tr (Dw := Dw) h39 ht53
        replace hK := Tr.trans (Dw := Dw) hK ht53
        replace hB := Nat.le_trans hB ht53.ex.size
        replace hA := ht53.new
        replace hH : Hp w.heap.size A52 w44 ([]) := hH55
        obtain ⟨x57, hx57, hm⟩ := Option.bind_eq_some_iff.1 hm
        refine V_call Tryz.call9 rfl rfl rfl rfl (know_Index_named_c (Dw := Dw) w44 (B := w44.heap.size) (Nat.le_refl _) hA x v34 h35 v36 h37 v38 h39 (⟨1, false, x41⟩ : know_Part) v42 h54 Hp.nil hx57) ?_
        rintro v58 w60 ⟨_, A61, rfl, hH62, ht63⟩
        have hk64 : Kp Dw w44 w60 := ht63.below
        have hH65 := Hp.join (Dw := Dw) hH hB ht63 hH62
        have ht66 := Tr.lower (Dw := Dw) ht63 hB
        replace h_sent := Sl.tr (Dw := Dw) h_sent ht66
        replace h12 := El.tr (Dw := Dw) h12 ht66
        replace h35 := Sl.tr (Dw := Dw) h35 ht66
        replace h37 := Sl.tr (Dw := Dw) h37 ht66
        replace h39 := Sl.tr (Dw := Dw) h39 ht66
        replace h54 := Sl.tr (Dw := Dw) h54 ht66
        replace hK := Tr.trans (Dw := Dw) hK ht66
        replace hB := Nat.le_trans hB ht66.ex.size
        replace hA := ht66.new
        replace hH : Hp w.heap.size A61 w60 (obS (α := know_Term) 44 v58 x57 :: []) := hH65
        refine V_CH (Dw := Dw) (hk64) ?_
        refine CH_q2 (Dw := Dw) rfl ?_
        refine VQ_y (fun w' hw' => Y_assign rfl) rfl rfl rfl ?_
        refine VQ_CH (Dw := Dw) ?_
        refine CH_tail (Dw := Dw) ?_
        show V _ _ _ _ [] _ _
        refine V_to (fun _ _ => rfl) ?_
        refine C_seq ?_
        refine C_region ?_
        refine V_y (Y_move rfl) rfl rfl rfl ?_
        obtain ⟨x67, hx67, hm⟩ := Option.bind_eq_some_iff.1 hm
        refine V_call Tryz.call11 rfl rfl rfl rfl (Tryz_sf11 (Dw := Dw) Tryz.call12 (fun w73 ht74 h75 p77 q82 c78 c83 c87 h79 h84 h76 => by obtain ⟨v80, rfl, h81⟩ := Rep_know_Term h79; obtain ⟨v85, rfl, h86⟩ := Rep_know_Term h84; exact (know_Suggest_1_c (Dw := True) w73 h75 p77 v80 h81 q82 v85 h86 h76).mono fun _ _ h => ⟨h.1, h.2⟩) hH (i := 0) rfl hB hA hx67) ?_
        rintro _ w68 ⟨rfl, hH69, ht70⟩
        replace h_sent := Sl.tr (Dw := Dw) h_sent ht70
        replace h12 := El.tr (Dw := Dw) h12 ht70
        replace hK := Tr.trans (Dw := Dw) hK ht70
        replace hB := Nat.le_trans hB ht70.ex.size
        replace hA := ht70.new
        replace hH : Hp w.heap.size A61 w68 (obS (α := know_Term) 44 v58 x67 :: []) := hH69
        refine V_to (fun _ _ => rfl) ?_
        refine C_seq ?_
        refine C_region ?_
        refine V_y (Y_move rfl) rfl rfl rfl ?_
        refine V_y (Y_move rfl) rfl rfl rfl ?_
        refine V_y (Y_lenSl (Hp.any (α := know_Term) (e := 44) (v := v58) (l := x67) hH (i := 0) rfl) rfl Tryz.underlying23 rfl) rfl rfl rfl ?_
        refine V_y (Y_min2 rfl rfl) rfl rfl rfl ?_
        obtain ⟨x88, hx88, hm⟩ := Option.bind_eq_some_iff.1 hm
        refine V_sliceOwnH (α := know_Term) (e := 44) (v := v58) (l := x67) hH (i := 0) rfl hx88 Tryz.underlying23 Tryz.sizeOf44 hA rfl rfl rfl ?_
        intro v89 hH90
        replace hH : Hp w.heap.size A61 w68 (obS (α := know_Term) 44 v89 x88 :: []) := hH90
        refine V_y (Y_assign rfl) rfl rfl rfl ?_
        refine V_to (fun _ _ => rfl) ?_
        refine C_seq ?_
        refine C_region ?_
        refine V_y (Y_assign rfl) rfl rfl rfl ?_
        refine V_to (fun _ _ => rfl) ?_
        refine C_seq ?_
        refine C_seq ?_
        refine C_region ?_
        have h91 := El_know_Index_0 h12
        refine V_y (Y_fieldAddr Tryz.underlying25 rfl Tryz.sizeOf22 (by decide) rfl) rfl rfl rfl ?_
        obtain ⟨v92, h93, h94⟩ := El.list h91
        refine V_y (Y_load h93 Tryz.isAgg22 rfl) rfl rfl rfl ?_
        refine V_y (Y_lenSl h94 rfl Tryz.underlying22 rfl) rfl rfl rfl ?_
        refine V_y (Y_move rfl) rfl rfl rfl ?_
        refine V_to (fun _ _ => rfl) ?_
        obtain ⟨A95, ht96, h97, hH98⟩ := Hp.freeze (Dw := Dw) (α := know_Term) (v := v89) (l := x88) hH (i := 0) rfl hA
        replace h_sent := Sl.tr (Dw := Dw) h_sent ht96
        replace h12 := El.tr (Dw := Dw) h12 ht96
        replace h94 := Sl.tr (Dw := Dw) h94 ht96
        replace hK := Tr.trans (Dw := Dw) hK ht96
        replace hB := Nat.le_trans hB ht96.ex.size
        replace hA := ht96.new
        replace hH : Hp w.heap.size A95 w68 ([]) := hH98
        replace hH : Hp w.heap.size A95 w68 (obS (α := know_Hit) 32 (.slice none 0 0) ([] : (List know_Hit)) :: []) := Hp.addNil (α := know_Hit) (e := 32) hH
        have hn124 := Sl.le h94
        obtain ⟨o100, ho100, hm⟩ := Option.bind_eq_some_iff.1 hm
        refine C_cutG (ι := ((List know_Hit) × Value × (Nat → Prop))) (fun ⟨s101, v107, A109⟩ => [(3, .int .i64 most), (12, v107)]) (fun ⟨s101, v107, A109⟩ => fun w' => o100 = .fin s101 ∧ Hp w.heap.size A109 w' (obS (α := know_Hit) 32 v107 s101 :: []) ∧ Tr Dw w.heap.size A95 w68 A109 w') ?_ ?_
        · refine C_block ?_
          refine C_range ho100 (fun k103 s111 a w' => ∃ i : (Value × (Nat → Prop)), Has ⟨97, [], none⟩ a ([(2, v_sent), (3, .int .i64 most), (4, .pointer (some ⟨b9, 0, none⟩)), (11, v89), (12, i.1), (50, v92), (51, .int .i64 (x.ids.length : Int)), (52, .int .i64 (k103 : Int))]) ∧ Hp w.heap.size i.2 w' (obS (α := know_Hit) 32 i.1 s111 :: []) ∧ Tr Dw w.heap.size A95 w68 i.2 w') (fun a ha => ⟨(.slice none 0 0, A95), ha.sub ⟨rfl, rfl, rfl, rfl, rfl, rfl, rfl, rfl, trivial⟩, ⟨hH, Tr.refl (Dw := Dw) hA⟩⟩) ?_
          rintro K k103 s111 a w112 ⟨⟨v113, A115⟩, ha254, hH116, hr102⟩ hle120 K123 h122
          refine C_of ?_ ha254
          replace h_sent := Sl.tr (Dw := Dw) h_sent hr102
          replace h12 := El.tr (Dw := Dw) h12 hr102
          replace h97 := Sl.tr (Dw := Dw) h97 hr102
          replace h94 := Sl.tr (Dw := Dw) h94 hr102
          replace hK := Tr.trans (Dw := Dw) hK hr102
          replace hB := Nat.le_trans hB hr102.ex.size
          replace hA := hr102.new
          replace hH : Hp w.heap.size A115 w112 (obS (α := know_Hit) 32 v113 s111 :: []) := hH116
          refine C_seq (C_region (V_y (Y_lss rfl rfl) rfl rfl rfl (V_to (fun _ _ => rfl) ?_)))
          refine C_seq ?_
          refine C_cond rfl (fun hc125 => ?_) (fun hc125 => ?_)
          · have hlt121 := lt_of_dec hc125
            obtain ⟨x117, h118, h119⟩ := K123 hlt121
            refine C_skip_to (fun _ _ => rfl) ?_
            refine C_seq ?_
            obtain ⟨s127, ho126, h118⟩ := Option.bind_eq_some_iff.1 h118
            refine C_cutG (ι := (Value × (Nat → Prop))) (fun ⟨v129, A134⟩ => [(2, v_sent), (3, .int .i64 most), (4, .pointer (some ⟨b9, 0, none⟩)), (11, v89), (12, v129), (50, v92), (51, .int .i64 (x.ids.length : Int)), (52, .int .i64 (k103 : Int))]) (fun ⟨v129, A134⟩ => fun w' => Hp w.heap.size A134 w' (obS (α := know_Hit) 32 v129 s127 :: []) ∧ Tr Dw w.heap.size A115 w112 A134 w') ?_ ?_
            · have hr128 : Tr Dw w.heap.size A115 w112 A115 w112 := Tr.refl (Dw := Dw) hA
              refine C_block ?_
              refine C_seq ?_
              refine C_region ?_
              refine V_y (Y_move rfl) rfl rfl rfl ?_
              obtain ⟨x136, hx136, ho126⟩ := Option.bind_eq_some_iff.1 ho126
              refine V_indexAddr h94 hx136 Tryz.underlying22 Tryz.sizeOf3 rfl rfl rfl ?_
              intro b137 o138 h139
              refine V_y (Y_load (El.int h139) Tryz.isAgg3 rfl) rfl rfl rfl ?_
              refine V_y (Y_assign rfl) rfl rfl rfl ?_
              refine V_y (Y_assign rfl) rfl rfl rfl ?_
              refine V_to (fun _ _ => rfl) ?_
              refine C_seq ?_
              refine C_region ?_
              refine V_y (Y_assign rfl) rfl rfl rfl ?_
              refine V_y (Y_assign rfl) rfl rfl rfl ?_
              refine V_to (fun _ _ => rfl) ?_
              refine C_seq ?_
              refine C_seq ?_
              refine C_region ?_
              refine V_y (Y_move rfl) rfl rfl rfl ?_
              refine V_y (Y_lenSl h97 rfl Tryz.underlying23 rfl) rfl rfl rfl ?_
              refine V_y (Y_move rfl) rfl rfl rfl ?_
              refine V_to (fun _ _ => rfl) ?_
              have hn160 := Sl.le h97
              obtain ⟨o140, ho140, ho126⟩ := Option.bind_eq_some_iff.1 ho126
              refine C_cutG (ι := ((Bool × Int) × (Nat → Prop))) (fun ⟨s141, A147⟩ => [(2, v_sent), (3, .int .i64 most), (4, .pointer (some ⟨b9, 0, none⟩)), (11, v89), (12, v113), (14, .int .i64 x136), (15, .bool s141.1), (16, .int .i64 s141.2), (50, v92), (51, .int .i64 (x.ids.length : Int)), (52, .int .i64 (k103 : Int))]) (fun ⟨s141, A147⟩ => fun w' => o140 = .fin s141 ∧ Hp w.heap.size A147 w' (obS (α := know_Hit) 32 v113 s111 :: []) ∧ Tr Dw w.heap.size A115 w112 A147 w') ?_ ?_
              · refine C_block ?_
                refine C_range ho140 (fun k143 s149 a w' => ∃ i : (Nat → Prop), Has ⟨97, [], none⟩ a ([(2, v_sent), (3, .int .i64 most), (4, .pointer (some ⟨b9, 0, none⟩)), (11, v89), (12, v113), (13, .int .i64 (k103 : Int)), (14, .int .i64 x136), (15, .bool s149.1), (16, .int .i64 s149.2), (50, v92), (51, .int .i64 (x.ids.length : Int)), (52, .int .i64 (k103 : Int)), (57, v89), (58, .int .i64 (x88.length : Int)), (59, .int .i64 (k143 : Int))]) ∧ Hp w.heap.size i w' (obS (α := know_Hit) 32 v113 s111 :: []) ∧ Tr Dw w.heap.size A115 w112 i w') (fun a ha => ⟨A115, ha.sub ⟨rfl, rfl, rfl, rfl, rfl, rfl, rfl, rfl, rfl, rfl, rfl, rfl, rfl, rfl, rfl, trivial⟩, ⟨hH, Tr.refl (Dw := Dw) hA⟩⟩) ?_
                rintro K k143 s149 a w150 ⟨A151, ha223, hH152, hr142⟩ hle156 K159 h158
                refine C_of ?_ ha223
                replace h_sent := Sl.tr (Dw := Dw) h_sent hr142
                replace h12 := El.tr (Dw := Dw) h12 hr142
                replace h97 := Sl.tr (Dw := Dw) h97 hr142
                replace h94 := Sl.tr (Dw := Dw) h94 hr142
                replace hK := Tr.trans (Dw := Dw) hK hr142
                replace hr102 := Tr.trans (Dw := Dw) hr102 hr142
                replace hr128 := Tr.trans (Dw := Dw) hr128 hr142
                replace hB := Nat.le_trans hB hr142.ex.size
                replace hA := hr142.new
                replace hH : Hp w.heap.size A151 w150 (obS (α := know_Hit) 32 v113 s111 :: []) := hH152
                refine C_seq (C_region (V_y (Y_lss rfl rfl) rfl rfl rfl (V_to (fun _ _ => rfl) ?_)))
                refine C_seq ?_
                refine C_cond rfl (fun hc161 => ?_) (fun hc161 => ?_)
                · have hlt157 := lt_of_dec hc161
                  obtain ⟨x153, h154, h155⟩ := K159 hlt157
                  refine C_skip_to (fun _ _ => rfl) ?_
                  refine C_seq ?_
                  refine C_block ?_
                  refine C_seq ?_
                  refine C_region ?_
                  obtain ⟨x162, hx162, h154⟩ := Option.bind_eq_some_iff.1 h154
                  refine V_indexAddr h97 hx162 Tryz.underlying23 Tryz.sizeOf44 rfl rfl rfl ?_
                  intro b163 o164 h165
                  obtain ⟨v166, h168, h167⟩ := El_know_Term h165
                  refine V_y (Y_loadA h168 Tryz.isAgg44 Tryz.sizeOf44 rfl) rfl rfl rfl ?_
                  refine V_alloc Tryz.zeroValue44 rfl ?_
                  intro b169 w170 h171
                  have h176 : (v166).oneCell' = true := by obtain ⟨_, _, e, _⟩ := Sl.form h167; rw [e]; rfl
                  refine V_storeNew h171 Tryz.sizeOf44 rfl rfl rfl rfl (by exact (List.forall_mem_cons.2 ⟨rfl, (List.forall_mem_cons.2 ⟨h176, (fun _ h => nomatch h)⟩)⟩)) ?_
                  intro w172 h173
                  have hk178 := h173.kp (Dw := Dw)
                  have h177 : El (α := know_Term) A151 w172 b169 0 x162 := h173.el hA ⟨[.string x162.word], _, rfl, rfl, ⟨_, rfl, h167⟩⟩
                  have ht179 := Kp.tr (Dw := Dw) hk178 hA hB
                  replace hH := Hp.kp (Dw := Dw) hH hk178
                  replace h_sent := Sl.tr (Dw := Dw) h_sent ht179
                  replace h12 := El.tr (Dw := Dw) h12 ht179
                  replace h97 := Sl.tr (Dw := Dw) h97 ht179
                  replace h94 := Sl.tr (Dw := Dw) h94 ht179
                  replace h165 := El.tr (Dw := Dw) h165 ht179
                  replace h167 := Sl.tr (Dw := Dw) h167 ht179
                  replace hK := Tr.trans (Dw := Dw) hK ht179
                  replace hr102 := Tr.trans (Dw := Dw) hr102 ht179
                  replace hr128 := Tr.trans (Dw := Dw) hr128 ht179
                  replace hr142 := Tr.trans (Dw := Dw) hr142 ht179
                  replace hB := Nat.le_trans hB ht179.ex.size
                  replace hA := ht179.new
                  refine V_to (fun _ _ => rfl) ?_
                  refine C_seq ?_
                  refine C_region ?_
                  obtain ⟨v180, h182, h181⟩ := El_know_Term h177
                  refine V_y (Y_loadA h182 Tryz.isAgg44 Tryz.sizeOf44 rfl) rfl rfl rfl ?_
                  refine V_y (Y_move rfl) rfl rfl rfl ?_
                  obtain ⟨x183, hx183, h154⟩ := Option.bind_eq_some_iff.1 h154
                  refine V_call Tryz.call16 rfl rfl rfl rfl (know_Term_posting_c (Dw := Dw) w172 hA x162 v180 h181 x136 hx183) ?_
                  rintro _ w188 ⟨v184, v186, rfl, h185, h187, hk189⟩
                  have ht190 := Kp.tr (Dw := Dw) hk189 hA hB
                  replace hH := Hp.kp (Dw := Dw) hH hk189
                  replace h_sent := Sl.tr (Dw := Dw) h_sent ht190
                  replace h12 := El.tr (Dw := Dw) h12 ht190
                  replace h97 := Sl.tr (Dw := Dw) h97 ht190
                  replace h94 := Sl.tr (Dw := Dw) h94 ht190
                  replace h177 := El.tr (Dw := Dw) h177 ht190
                  replace h181 := Sl.tr (Dw := Dw) h181 ht190
                  replace hK := Tr.trans (Dw := Dw) hK ht190
                  replace hr102 := Tr.trans (Dw := Dw) hr102 ht190
                  replace hr128 := Tr.trans (Dw := Dw) hr128 ht190
                  replace hr142 := Tr.trans (Dw := Dw) hr142 ht190
                  replace hB := Nat.le_trans hB ht190.ex.size
                  replace hA := ht190.new
                  refine V_y (Y_move rfl) rfl rfl rfl ?_
                  refine V_y (Y_extract rfl rfl) rfl rfl rfl ?_
                  refine V_y (Y_extract rfl rfl) rfl rfl rfl ?_
                  refine V_alloc Tryz.zeroValue49 rfl ?_
                  intro b191 w192 h193
                  have h198 : (v184).oneCell' = true := by obtain ⟨_, _, e, _⟩ := Sl.form h185; rw [e]; rfl
                  have h201 : (v186).oneCell' = true := by obtain ⟨_, _, e, _⟩ := Sl.form h187; rw [e]; rfl
                  refine V_storeNew h193 Tryz.sizeOf49 rfl rfl rfl rfl (by exact (List.forall_mem_cons.2 ⟨rfl, (List.forall_mem_cons.2 ⟨h198, (List.forall_mem_cons.2 ⟨h201, (fun _ h => nomatch h)⟩)⟩)⟩)) ?_
                  intro w194 h195
                  have hk203 := h195.kp (Dw := Dw)
                  have h202 : El (α := know_Posting) A151 w194 b191 0 x183.1 := h195.el hA ⟨[.int .i64 x183.1.id_], _, rfl, rfl, ⟨[v184], _, rfl, ⟨_, rfl, h185⟩, ⟨_, rfl, h187⟩⟩⟩
                  have ht204 := Kp.tr (Dw := Dw) hk203 hA hB
                  replace hH := Hp.kp (Dw := Dw) hH hk203
                  replace h_sent := Sl.tr (Dw := Dw) h_sent ht204
                  replace h12 := El.tr (Dw := Dw) h12 ht204
                  replace h97 := Sl.tr (Dw := Dw) h97 ht204
                  replace h94 := Sl.tr (Dw := Dw) h94 ht204
                  replace h177 := El.tr (Dw := Dw) h177 ht204
                  replace h181 := Sl.tr (Dw := Dw) h181 ht204
                  replace h185 := Sl.tr (Dw := Dw) h185 ht204
                  replace h187 := Sl.tr (Dw := Dw) h187 ht204
                  replace hK := Tr.trans (Dw := Dw) hK ht204
                  replace hr102 := Tr.trans (Dw := Dw) hr102 ht204
                  replace hr128 := Tr.trans (Dw := Dw) hr128 ht204
                  replace hr142 := Tr.trans (Dw := Dw) hr142 ht204
                  replace hB := Nat.le_trans hB ht204.ex.size
                  replace hA := ht204.new
                  refine V_y (Y_assign rfl) rfl rfl rfl ?_
                  refine V_to (fun _ _ => rfl) ?_
                  refine C_seq ?_
                  refine C_region ?_
                  refine V_y (Y_move rfl) rfl rfl rfl ?_
                  refine V_y (Y_move rfl) rfl rfl rfl ?_
                  refine V_cut 2 (fun _ : Unit => [(2, v_sent), (3, .int .i64 most), (4, .pointer (some ⟨b9, 0, none⟩)), (11, v89), (12, v113), (13, .int .i64 (k103 : Int)), (14, .int .i64 x136), (16, .int .i64 s149.2), (18, .pointer (some ⟨b169, 0, none⟩)), (50, v92), (51, .int .i64 (x.ids.length : Int)), (52, .int .i64 (k103 : Int)), (57, v89), (58, .int .i64 (x88.length : Int)), (59, .int .i64 (k143 : Int)), (72, .bool (s149.1 || x183.2))]) (fun _ w' => w194 = w') ?_ ?_
                  · simp only [List.take, List.drop]
                    rcases Bool.eq_false_or_eq_true (s149.1) with hc205 | hc205
                    · refine V_gn rfl rfl rfl hc205 rfl rfl rfl ?_
                      refine V_y (Y_pick_te rfl hc205 rfl) rfl rfl rfl ?_
                      exact V_end fun a ha => ⟨(), ha.sub ⟨rfl, rfl, rfl, rfl, rfl, rfl, rfl, rfl, rfl, rfl, rfl, rfl, rfl, rfl, rfl, (by rw [hc205]; rfl), trivial⟩, rfl⟩
                    · refine V_ge rfl rfl rfl hc205 ?_
                      refine V_y (Y_move rfl) rfl rfl rfl ?_
                      refine V_y (Y_pick_fe rfl hc205 rfl) rfl rfl rfl ?_
                      exact V_end fun a ha => ⟨(), ha.sub ⟨rfl, rfl, rfl, rfl, rfl, rfl, rfl, rfl, rfl, rfl, rfl, rfl, rfl, rfl, rfl, (by rw [hc205]; rfl), trivial⟩, rfl⟩
                  simp only [List.take, List.drop]
                  rintro _ _ rfl
                  refine V_y (Y_assign rfl) rfl rfl rfl ?_
                  refine V_to (fun _ _ => rfl) ?_
                  refine C_region ?_
                  refine V_y (Y_move rfl) rfl rfl rfl ?_
                  obtain ⟨v207, v209, v211, h213, h208, h210, h212⟩ := El_know_Index h12
                  refine V_y (Y_loadA h213 Tryz.isAgg25 Tryz.sizeOf25 rfl) rfl rfl rfl ?_
                  obtain ⟨v214, h216, h215⟩ := El_know_Term h177
                  refine V_y (Y_loadA h216 Tryz.isAgg44 Tryz.sizeOf44 rfl) rfl rfl rfl ?_
                  refine V_y (Y_move rfl) rfl rfl rfl ?_
                  obtain ⟨x217, hx217, h154⟩ := Option.bind_eq_some_iff.1 h154
                  refine V_call Tryz.call17 rfl rfl rfl rfl (know_Index_score_c (Dw := Dw) w194 hA x v207 h208 v209 h210 v211 h212 x162 v214 h215 (k103 : Int) hx217) ?_
                  rintro _ w218 ⟨rfl, hk219⟩
                  have ht220 := Kp.tr (Dw := Dw) hk219 hA hB
                  replace hH := Hp.kp (Dw := Dw) hH hk219
                  replace h_sent := Sl.tr (Dw := Dw) h_sent ht220
                  replace h12 := El.tr (Dw := Dw) h12 ht220
                  replace h97 := Sl.tr (Dw := Dw) h97 ht220
                  replace h94 := Sl.tr (Dw := Dw) h94 ht220
                  replace h177 := El.tr (Dw := Dw) h177 ht220
                  replace h208 := Sl.tr (Dw := Dw) h208 ht220
                  replace h210 := Sl.tr (Dw := Dw) h210 ht220
                  replace h212 := Sl.tr (Dw := Dw) h212 ht220
                  replace h215 := Sl.tr (Dw := Dw) h215 ht220
                  replace hK := Tr.trans (Dw := Dw) hK ht220
                  replace hr102 := Tr.trans (Dw := Dw) hr102 ht220
                  replace hr128 := Tr.trans (Dw := Dw) hr128 ht220
                  replace hr142 := Tr.trans (Dw := Dw) hr142 ht220
                  replace hB := Nat.le_trans hB ht220.ex.size
                  replace hA := ht220.new
                  refine V_y (Y_addI rfl rfl) rfl rfl rfl ?_
                  refine V_y (Y_assign rfl) rfl rfl rfl ?_
                  refine V_to (fun _ _ => rfl) ?_
                  refine C_region ?_
                  refine V_y (Y_addI rfl rfl) rfl rfl rfl ?_
                  refine V_y (Y_move rfl) rfl rfl rfl ?_
                  obtain rfl := Option.some.inj h154
                  refine V_end (fun a ha221 => ?_)
                  exact ⟨((s149.1 || x183.2), w64 (s149.2 + x217)), hlt157, h155, ⟨A151, ha221.sub ⟨rfl, rfl, rfl, rfl, rfl, rfl, rfl, rfl, rfl, rfl, rfl, rfl, rfl, rfl, (congrArg (fun z => some (Value.int .i64 z)) (w64_succ hlt157 hn160)), trivial⟩, ⟨hH, hr142⟩⟩⟩
                · refine C_exit (fun a ha222 => ?_)
                  exact ⟨((s149.1, s149.2), A151), ha222.sub ⟨rfl, rfl, rfl, rfl, rfl, rfl, rfl, rfl, rfl, rfl, rfl, trivial⟩, ⟨(h158 (eq_of_dec hle156 hc161)).symm, hH, hr142⟩⟩
              rintro ⟨s141, A147⟩ w144 ⟨rfl, hH148, hk145⟩ a ha146
              rw [Lp.andThen_fin] at ho126
              replace h_sent := Sl.tr (Dw := Dw) h_sent hk145
              replace h12 := El.tr (Dw := Dw) h12 hk145
              replace h97 := Sl.tr (Dw := Dw) h97 hk145
              replace h94 := Sl.tr (Dw := Dw) h94 hk145
              replace hK := Tr.trans (Dw := Dw) hK hk145
              replace hr102 := Tr.trans (Dw := Dw) hr102 hk145
              replace hr128 := Tr.trans (Dw := Dw) hr128 hk145
              replace hB := Nat.le_trans hB hk145.ex.size
              replace hA := hk145.new
              replace hH : Hp w.heap.size A147 w144 (obS (α := know_Hit) 32 v113 s111 :: []) := hH148
              refine C_at (n := ⟨97, [], none⟩) (fun _ _ => rfl) ?_ ha146
              refine C_seq ?_
              refine C_region ?_
              refine V_y (Y_move rfl) rfl rfl rfl ?_
              refine V_y (Y_move rfl) rfl rfl rfl ?_
              obtain ⟨s225, hs225, ho126⟩ := Option.bind_eq_some_iff.1 ho126
              refine V_cut 5 (fun _ : Unit => [(2, v_sent), (3, .int .i64 most), (4, .pointer (some ⟨b9, 0, none⟩)), (11, v89), (12, v113), (14, .int .i64 x136), (16, .int .i64 s141.2), (50, v92), (51, .int .i64 (x.ids.length : Int)), (52, .int .i64 (k103 : Int)), (86, .bool s225)]) (fun _ w' => w144 = w') ?_ ?_
              · simp only [List.take, List.drop]
                rcases Bool.eq_false_or_eq_true (s141.1) with hc224 | hc224
                · rw [if_pos hc224] at hs225
                  refine V_ge rfl rfl rfl hc224 ?_
                  refine V_y (Y_move rfl) rfl rfl rfl ?_
                  refine V_ge rfl rfl rfl hc224 ?_
                  refine V_y (Y_move rfl) rfl rfl rfl ?_
                  refine V_ge rfl rfl rfl hc224 ?_
                  obtain ⟨x226, hx226, hs225⟩ := Option.bind_eq_some_iff.1 hs225
                  refine V_call Tryz.call18 rfl rfl rfl rfl (slices_Contains_Lint_int_c w144 sent v_sent h_sent x136 hx226) ?_
                  rintro _ _ ⟨rfl, rfl⟩
                  refine V_ge rfl rfl rfl hc224 ?_
                  refine V_y (Y_not rfl) rfl rfl rfl ?_
                  refine V_y (Y_pick_te rfl hc224 rfl) rfl rfl rfl ?_
                  obtain rfl := Option.some.inj hs225
                  exact V_end fun a ha => ⟨(), ha.sub ⟨rfl, rfl, rfl, rfl, rfl, rfl, rfl, rfl, rfl, rfl, rfl, trivial⟩, rfl⟩
                · rw [if_neg (nt hc224)] at hs225
                  refine V_gn rfl rfl rfl hc224 rfl rfl rfl ?_
                  refine V_gn rfl rfl rfl hc224 rfl rfl rfl ?_
                  refine V_gn rfl rfl rfl hc224 rfl rfl rfl ?_
                  refine V_gn rfl rfl rfl hc224 rfl rfl rfl ?_
                  refine V_y (Y_pick_fe rfl hc224 rfl) rfl rfl rfl ?_
                  obtain rfl := Option.some.inj hs225
                  exact V_end fun a ha => ⟨(), ha.sub ⟨rfl, rfl, rfl, rfl, rfl, rfl, rfl, rfl, rfl, rfl, rfl, trivial⟩, rfl⟩
              simp only [List.take, List.drop]
              rintro _ _ rfl
              refine V_to (fun _ _ => rfl) ?_
              obtain ⟨s228, ho227, ho126⟩ := Option.bind_eq_some_iff.1 ho126
              refine C_cutG (ι := (Value × (Nat → Prop))) (fun ⟨v230, A235⟩ => [(2, v_sent), (3, .int .i64 most), (4, .pointer (some ⟨b9, 0, none⟩)), (11, v89), (12, v230), (50, v92), (51, .int .i64 (x.ids.length : Int)), (52, .int .i64 (k103 : Int))]) (fun ⟨v230, A235⟩ => fun w' => Hp w.heap.size A235 w' (obS (α := know_Hit) 32 v230 s228 :: []) ∧ Tr Dw w.heap.size A147 w144 A235 w') ?_ ?_
              · have hr229 : Tr Dw w.heap.size A147 w144 A147 w144 := Tr.refl (Dw := Dw) hA
                refine C_cond rfl (fun hc237 => ?_) (fun hc237 => ?_)
                · rw [if_pos hc237] at ho227
                  refine C_region ?_
                  refine V_y (Y_move rfl) rfl rfl rfl ?_
                  refine V_y (Y_move rfl) rfl rfl rfl ?_
                  refine V_y (Y_move rfl) rfl rfl rfl ?_
                  refine V_y (Y_build Tryz.underlying32 Tryz.zeroValue32 (Tryz_places32 _ Tryz.underlying32) rfl (by with_unfolding_all rfl)) rfl rfl rfl ?_
                  refine V_buildSlice (Dw := Dw) (cells := #[.int .i64 x136, .int .i64 s141.2]) (l := ([(⟨x136, s141.2⟩ : know_Hit)] : List know_Hit)) (len := 1) Tryz.underlying26 Tryz.sizeOf32 Tryz.zeroValue32 rfl (by kernel_rfl) (show (1 * 2 : Nat) ≠ 0 by decide) (show (1 * 2 : Nat) ≤ 2 ^ 24 by decide) hA ⟨[.int .i64 x136, .int .i64 s141.2], _, rfl, ⟨[.int .i64 x136], _, rfl, rfl, rfl⟩, rfl⟩ rfl rfl ?_
                  intro v238 w239 hk241 h240
                  have ht242 := Kp.tr (Dw := Dw) hk241 hA hB
                  replace hH := Hp.kp (Dw := Dw) hH hk241
                  replace h_sent := Sl.tr (Dw := Dw) h_sent ht242
                  replace h12 := El.tr (Dw := Dw) h12 ht242
                  replace h97 := Sl.tr (Dw := Dw) h97 ht242
                  replace h94 := Sl.tr (Dw := Dw) h94 ht242
                  replace hK := Tr.trans (Dw := Dw) hK ht242
                  replace hr102 := Tr.trans (Dw := Dw) hr102 ht242
                  replace hr128 := Tr.trans (Dw := Dw) hr128 ht242
                  replace hr229 := Tr.trans (Dw := Dw) hr229 ht242
                  replace hB := Nat.le_trans hB ht242.ex.size
                  replace hA := ht242.new
                  obtain ⟨x243, hx243, ho227⟩ := Option.bind_eq_some_iff.1 ho227
                  refine V_appendH (Dw := Dw) (e := 32) (v := v113) (l := s111) (ti := Tryz.t32) (bytes := 16) (lim := 8796093022208) hH (i := 0) rfl h240 hx243 Tryz.underlying26 Tryz_info32 rfl rfl rfl rfl (by decide) (by decide) (by decide) hB hA rfl rfl rfl ?_
                  intro v244 w245 A246 hH247 ht248
                  replace h_sent := Sl.tr (Dw := Dw) h_sent ht248
                  replace h12 := El.tr (Dw := Dw) h12 ht248
                  replace h97 := Sl.tr (Dw := Dw) h97 ht248
                  replace h94 := Sl.tr (Dw := Dw) h94 ht248
                  replace h240 := Sl.tr (Dw := Dw) h240 ht248
                  replace hK := Tr.trans (Dw := Dw) hK ht248
                  replace hr102 := Tr.trans (Dw := Dw) hr102 ht248
                  replace hr128 := Tr.trans (Dw := Dw) hr128 ht248
                  replace hr229 := Tr.trans (Dw := Dw) hr229 ht248
                  replace hB := Nat.le_trans hB ht248.ex.size
                  replace hA := ht248.new
                  replace hH : Hp w.heap.size A246 w245 (obS (α := know_Hit) 32 v244 x243 :: []) := hH247
                  refine V_y (Y_assign rfl) rfl rfl rfl ?_
                  obtain rfl := Option.some.inj ho227
                  refine V_end (fun a ha249 => ?_)
                  exact ⟨(v244, A246), ha249.sub ⟨rfl, rfl, rfl, rfl, rfl, rfl, rfl, rfl, trivial⟩, ⟨hH, hr229⟩⟩
                · rw [if_neg (nt hc237)] at ho227
                  obtain rfl := Option.some.inj ho227
                  refine C_skip (fun a ha250 => ?_)
                  exact ⟨(v113, A147), ha250.sub ⟨rfl, rfl, rfl, rfl, rfl, rfl, rfl, rfl, trivial⟩, ⟨hH, hr229⟩⟩
              rintro ⟨v230, A235⟩ w232 ⟨hH236, hk233⟩ a ha234
              replace h_sent := Sl.tr (Dw := Dw) h_sent hk233
              replace h12 := El.tr (Dw := Dw) h12 hk233
              replace h97 := Sl.tr (Dw := Dw) h97 hk233
              replace h94 := Sl.tr (Dw := Dw) h94 hk233
              replace hK := Tr.trans (Dw := Dw) hK hk233
              replace hr102 := Tr.trans (Dw := Dw) hr102 hk233
              replace hr128 := Tr.trans (Dw := Dw) hr128 hk233
              replace hB := Nat.le_trans hB hk233.ex.size
              replace hA := hk233.new
              replace hH : Hp w.heap.size A235 w232 (obS (α := know_Hit) 32 v230 s228 :: []) := hH236
              obtain rfl := Option.some.inj ho126
              exact ⟨(v230, A235), ha234.sub ⟨rfl, rfl, rfl, rfl, rfl, rfl, rfl, rfl, trivial⟩, ⟨hH, hr128⟩⟩
            rintro ⟨v129, A134⟩ w131 ⟨hH135, hk132⟩ a ha133
            replace h_sent := Sl.tr (Dw := Dw) h_sent hk132
            replace h12 := El.tr (Dw := Dw) h12 hk132
            replace h97 := Sl.tr (Dw := Dw) h97 hk132
            replace h94 := Sl.tr (Dw := Dw) h94 hk132
            replace hK := Tr.trans (Dw := Dw) hK hk132
            replace hr102 := Tr.trans (Dw := Dw) hr102 hk132
            replace hB := Nat.le_trans hB hk132.ex.size
            replace hA := hk132.new
            replace hH : Hp w.heap.size A134 w131 (obS (α := know_Hit) 32 v129 s127 :: []) := hH135
            refine C_at (n := ⟨97, [], none⟩) (fun _ _ => rfl) ?_ ha133
            refine C_region ?_
            refine V_y (Y_addI rfl rfl) rfl rfl rfl ?_
            refine V_y (Y_move rfl) rfl rfl rfl ?_
            obtain rfl := Option.some.inj h118
            refine V_end (fun a ha252 => ?_)
            exact ⟨s127, hlt121, h119, ⟨(v129, A134), ha252.sub ⟨rfl, rfl, rfl, rfl, rfl, rfl, rfl, (congrArg (fun z => some (Value.int .i64 z)) (w64_succ hlt121 hn124)), trivial⟩, ⟨hH, hr102⟩⟩⟩
          · refine C_exit (fun a ha253 => ?_)
            exact ⟨(s111, v113, A115), ha253.sub ⟨rfl, rfl, trivial⟩, ⟨(h122 (eq_of_dec hle120 hc125)).symm, hH, hr102⟩⟩
        rintro ⟨s101, v107, A109⟩ w104 ⟨rfl, hH110, hk105⟩ a ha106
        rw [Lp.andThen_fin] at hm
        replace hK := Tr.trans (Dw := Dw) hK hk105
        replace hB := Nat.le_trans hB hk105.ex.size
        replace hA := hk105.new
        replace hH : Hp w.heap.size A109 w104 (obS (α := know_Hit) 32 v107 s101 :: []) := hH110
        refine C_at (n := ⟨97, [], none⟩) (fun _ _ => rfl) ?_ ha106
        refine C_seq ?_
        refine C_region ?_
        refine V_y (Y_move rfl) rfl rfl rfl ?_
        refine V_y (Y_move rfl) rfl rfl rfl ?_
        obtain ⟨x255, hx255, hm⟩ := Option.bind_eq_some_iff.1 hm
        refine V_call Tryz.call19 rfl rfl rfl rfl (know_ranked_c (Dw := Dw) w104 hB hA s101 v107 most hH hx255) ?_
        rintro v256 w258 ⟨_, A259, rfl, hH260, ht261⟩
        replace hK := Tr.trans (Dw := Dw) hK ht261
        replace hB := Nat.le_trans hB ht261.ex.size
        replace hA := ht261.new
        replace hH : Hp w.heap.size A259 w258 (obS (α := know_Hit) 32 v256 x255 :: []) := hH260
        refine V_y (Y_assign rfl) rfl rfl rfl ?_
        refine V_y (Y_assign rfl) rfl rfl rfl ?_
        refine V_to (fun _ _ => rfl) ?_
        obtain rfl := Option.some.inj hm
        refine C_ret ?_
        try simp only [↓inBlock_ret, ↓then_ret]
        exact retQ rfl (Res.two Tryz.results4 rfl rfl) ⟨v256, rfl, (Hp.ownd hH (i := 0) rfl), hK.kp⟩

set_option maxRecDepth 4000 in
set_option maxHeartbeats 4000000 in
theorem portref2_isWordByte_c (w : World) (b : Int) : Ret Tryz.prog 45 #[.int .u8 b] w fun v w' => v = .bool (portref2_isWordByte b) ∧ w = w' := by
  generalize hm : portref2_isWordByte b = r
  unfold portref2_isWordByte at hm
  refine enter Tryz.func45 rfl Tryz.ntmps45 rfl ?_
  refine C_seq ?_
  refine C_region ?_
  refine V_y (Y_assign rfl) rfl rfl rfl ?_
  refine V_to (fun _ _ => rfl) ?_
  refine C_seq ?_
  refine C_region ?_
  refine V_y (Y_move rfl) rfl rfl rfl ?_
  refine V_y (Y_geq rfl rfl) rfl rfl rfl ?_
  refine V_y (Y_move rfl) rfl rfl rfl ?_
  refine V_cut 3 (fun _ : Unit => [(0, .int .u8 b), (8, .bool ((decide ((97 : Int) ≤ b)) && (decide (b ≤ 122))))]) (fun _ w' => w = w') ?_ ?_
  · simp only [List.take, List.drop]
    rcases Bool.eq_false_or_eq_true (decide ((97 : Int) ≤ b)) with hc1 | hc1
    · refine V_ge rfl rfl rfl hc1 ?_
      refine V_y (Y_move rfl) rfl rfl rfl ?_
      refine V_ge rfl rfl rfl hc1 ?_
      refine V_y (Y_leq rfl rfl) rfl rfl rfl ?_
      refine V_y (Y_pick_te rfl hc1 rfl) rfl rfl rfl ?_
      exact V_end fun a ha => ⟨(), ha.sub ⟨rfl, (by rw [hc1]; rfl), trivial⟩, rfl⟩
    · refine V_gn rfl rfl rfl hc1 rfl rfl rfl ?_
      refine V_gn rfl rfl rfl hc1 rfl rfl rfl ?_
      refine V_y (Y_pick_fe rfl hc1 rfl) rfl rfl rfl ?_
      exact V_end fun a ha => ⟨(), ha.sub ⟨rfl, (by rw [hc1]; rfl), trivial⟩, rfl⟩
  simp only [List.take, List.drop]
  rintro _ _ rfl
  refine V_y (Y_move rfl) rfl rfl rfl ?_
  refine V_cut 7 (fun _ : Unit => [(0, .int .u8 b), (16, .bool (((decide ((97 : Int) ≤ b)) && (decide (b ≤ 122))) || ((decide ((65 : Int) ≤ b)) && (decide (b ≤ 90)))))]) (fun _ w' => w = w') ?_ ?_
  · simp only [List.take, List.drop]
    rcases Bool.eq_false_or_eq_true (((decide ((97 : Int) ≤ b)) && (decide (b ≤ 122)))) with hc3 | hc3
    · refine V_gn rfl rfl rfl hc3 rfl rfl rfl ?_
      refine V_gn rfl rfl rfl hc3 rfl rfl rfl ?_
      refine V_gn rfl rfl rfl hc3 rfl rfl rfl ?_
      refine V_gu rfl rfl rfl rfl rfl ?_
      refine V_gu rfl rfl rfl rfl rfl ?_
      refine V_gn rfl rfl rfl hc3 rfl rfl rfl ?_
      refine V_y (Y_pick_te rfl hc3 rfl) rfl rfl rfl ?_
      exact V_end fun a ha => ⟨(), ha.sub ⟨rfl, (by rw [hc3]; rfl), trivial⟩, rfl⟩
    · refine V_ge rfl rfl rfl hc3 ?_
      refine V_y (Y_move rfl) rfl rfl rfl ?_
      refine V_ge rfl rfl rfl hc3 ?_
      refine V_y (Y_geq rfl rfl) rfl rfl rfl ?_
      refine V_ge rfl rfl rfl hc3 ?_
      refine V_y (Y_move rfl) rfl rfl rfl ?_
      refine V_cut 3 (fun _ : Unit => [(0, .int .u8 b), (9, .bool ((decide ((97 : Int) ≤ b)) && (decide (b ≤ 122)))), (15, .bool ((decide ((65 : Int) ≤ b)) && (decide (b ≤ 90))))]) (fun _ w' => w = w') ?_ ?_
      · simp only [List.take, List.drop]
        rcases Bool.eq_false_or_eq_true (decide ((65 : Int) ≤ b)) with hc5 | hc5
        · refine V_ge rfl rfl rfl hc5 ?_
          refine V_y (Y_move rfl) rfl rfl rfl ?_
          refine V_ge rfl rfl rfl hc5 ?_
          refine V_y (Y_leq rfl rfl) rfl rfl rfl ?_
          refine V_ge rfl rfl rfl hc3 ?_
          refine V_y (Y_pick_te rfl hc5 rfl) rfl rfl rfl ?_
          exact V_end fun a ha => ⟨(), ha.sub ⟨rfl, rfl, (by rw [hc5]; rfl), trivial⟩, rfl⟩
        · refine V_gn rfl rfl rfl hc5 rfl rfl rfl ?_
          refine V_gn rfl rfl rfl hc5 rfl rfl rfl ?_
          refine V_ge rfl rfl rfl hc3 ?_
          refine V_y (Y_pick_fe rfl hc5 rfl) rfl rfl rfl ?_
          exact V_end fun a ha => ⟨(), ha.sub ⟨rfl, rfl, (by rw [hc5]; rfl), trivial⟩, rfl⟩
      simp only [List.take, List.drop]
      rintro _ _ rfl
      refine V_y (Y_pick_fe rfl hc3 rfl) rfl rfl rfl ?_
      exact V_end fun a ha => ⟨(), ha.sub ⟨rfl, (by rw [hc3]; rfl), trivial⟩, rfl⟩
  simp only [List.take, List.drop]
  rintro _ _ rfl
  refine V_y (Y_move rfl) rfl rfl rfl ?_
  refine V_cut 7 (fun _ : Unit => [(0, .int .u8 b), (24, .bool ((((decide ((97 : Int) ≤ b)) && (decide (b ≤ 122))) || ((decide ((65 : Int) ≤ b)) && (decide (b ≤ 90)))) || ((decide ((48 : Int) ≤ b)) && (decide (b ≤ 57)))))]) (fun _ w' => w = w') ?_ ?_
  · simp only [List.take, List.drop]
    rcases Bool.eq_false_or_eq_true ((((decide ((97 : Int) ≤ b)) && (decide (b ≤ 122))) || ((decide ((65 : Int) ≤ b)) && (decide (b ≤ 90))))) with hc7 | hc7
    · refine V_gn rfl rfl rfl hc7 rfl rfl rfl ?_
      refine V_gn rfl rfl rfl hc7 rfl rfl rfl ?_
      refine V_gn rfl rfl rfl hc7 rfl rfl rfl ?_
      refine V_gu rfl rfl rfl rfl rfl ?_
      refine V_gu rfl rfl rfl rfl rfl ?_
      refine V_gn rfl rfl rfl hc7 rfl rfl rfl ?_
      refine V_y (Y_pick_te rfl hc7 rfl) rfl rfl rfl ?_
      exact V_end fun a ha => ⟨(), ha.sub ⟨rfl, (by rw [hc7]; rfl), trivial⟩, rfl⟩
    · refine V_ge rfl rfl rfl hc7 ?_
      refine V_y (Y_move rfl) rfl rfl rfl ?_
      refine V_ge rfl rfl rfl hc7 ?_
      refine V_y (Y_geq rfl rfl) rfl rfl rfl ?_
      refine V_ge rfl rfl rfl hc7 ?_
      refine V_y (Y_move rfl) rfl rfl rfl ?_
      refine V_cut 3 (fun _ : Unit => [(0, .int .u8 b), (17, .bool (((decide ((97 : Int) ≤ b)) && (decide (b ≤ 122))) || ((decide ((65 : Int) ≤ b)) && (decide (b ≤ 90))))), (23, .bool ((decide ((48 : Int) ≤ b)) && (decide (b ≤ 57))))]) (fun _ w' => w = w') ?_ ?_
      · simp only [List.take, List.drop]
        rcases Bool.eq_false_or_eq_true (decide ((48 : Int) ≤ b)) with hc9 | hc9
        · refine V_ge rfl rfl rfl hc9 ?_
          refine V_y (Y_move rfl) rfl rfl rfl ?_
          refine V_ge rfl rfl rfl hc9 ?_
          refine V_y (Y_leq rfl rfl) rfl rfl rfl ?_
          refine V_ge rfl rfl rfl hc7 ?_
          refine V_y (Y_pick_te rfl hc9 rfl) rfl rfl rfl ?_
          exact V_end fun a ha => ⟨(), ha.sub ⟨rfl, rfl, (by rw [hc9]; rfl), trivial⟩, rfl⟩
        · refine V_gn rfl rfl rfl hc9 rfl rfl rfl ?_
          refine V_gn rfl rfl rfl hc9 rfl rfl rfl ?_
          refine V_ge rfl rfl rfl hc7 ?_
          refine V_y (Y_pick_fe rfl hc9 rfl) rfl rfl rfl ?_
          exact V_end fun a ha => ⟨(), ha.sub ⟨rfl, rfl, (by rw [hc9]; rfl), trivial⟩, rfl⟩
      simp only [List.take, List.drop]
      rintro _ _ rfl
      refine V_y (Y_pick_fe rfl hc7 rfl) rfl rfl rfl ?_
      exact V_end fun a ha => ⟨(), ha.sub ⟨rfl, (by rw [hc7]; rfl), trivial⟩, rfl⟩
  simp only [List.take, List.drop]
  rintro _ _ rfl
  refine V_y (Y_move rfl) rfl rfl rfl ?_
  refine V_cut 3 (fun _ : Unit => [(28, .bool (((((decide ((97 : Int) ≤ b)) && (decide (b ≤ 122))) || ((decide ((65 : Int) ≤ b)) && (decide (b ≤ 90)))) || ((decide ((48 : Int) ≤ b)) && (decide (b ≤ 57)))) || (decide ((128 : Int) ≤ b))))]) (fun _ w' => w = w') ?_ ?_
  · simp only [List.take, List.drop]
    rcases Bool.eq_false_or_eq_true (((((decide ((97 : Int) ≤ b)) && (decide (b ≤ 122))) || ((decide ((65 : Int) ≤ b)) && (decide (b ≤ 90)))) || ((decide ((48 : Int) ≤ b)) && (decide (b ≤ 57))))) with hc11 | hc11
    · refine V_gn rfl rfl rfl hc11 rfl rfl rfl ?_
      refine V_gn rfl rfl rfl hc11 rfl rfl rfl ?_
      refine V_y (Y_pick_te rfl hc11 rfl) rfl rfl rfl ?_
      exact V_end fun a ha => ⟨(), ha.sub ⟨(by rw [hc11]; rfl), trivial⟩, rfl⟩
    · refine V_ge rfl rfl rfl hc11 ?_
      refine V_y (Y_move rfl) rfl rfl rfl ?_
      refine V_ge rfl rfl rfl hc11 ?_
      refine V_y (Y_geq rfl rfl) rfl rfl rfl ?_
      refine V_y (Y_pick_fe rfl hc11 rfl) rfl rfl rfl ?_
      exact V_end fun a ha => ⟨(), ha.sub ⟨(by rw [hc11]; rfl), trivial⟩, rfl⟩
  simp only [List.take, List.drop]
  rintro _ _ rfl
  refine V_y (Y_assign rfl) rfl rfl rfl ?_
  refine V_to (fun _ _ => rfl) ?_
  obtain rfl := hm
  refine C_ret ?_
  try simp only [↓inBlock_ret, ↓then_ret]
  exact retQ rfl (Res.one Tryz.results45 rfl) ⟨rfl, rfl⟩

set_option maxRecDepth 4000 in
set_option maxHeartbeats 4000000 in
theorem portref2_lower_c (w : World) {A : Nat → Prop} (hA : ∀ b, w.heap.size ≤ b → A b) (s : ByteArray) {r : ByteArray} (hm : portref2_lower s = some r) : Ret Tryz.prog 46 #[.string s] w fun v w' => v = .string r ∧ Kp Dw w w' := by
  unfold portref2_lower at hm
  refine enter Tryz.func46 rfl Tryz.ntmps46 rfl ?_
  have hA0 := hA
  have hB := Nat.le_refl w.heap.size
  have hK : Tr Dw w.heap.size A w A w := Tr.refl (Dw := Dw) hA
  have hH : Hp w.heap.size A w [] := Hp.nil
  refine C_seq ?_
  refine C_region ?_
  refine V_y (Y_assign rfl) rfl rfl rfl ?_
  refine V_to (fun _ _ => rfl) ?_
  refine C_seq ?_
  refine C_region ?_
  refine V_y (Y_move rfl) rfl rfl rfl ?_
  obtain ⟨x1, hx1, hm⟩ := Option.bind_eq_some_iff.1 hm
  refine V_convU (Dw := Dw) (e := 5) hH hx1 Tryz.underlying9 Tryz.underlying85 Tryz.underlying5 hB hA rfl rfl ?_
  intro v2 w3 A4 hH5 ht6
  replace hK := Tr.trans (Dw := Dw) hK ht6
  replace hB := Nat.le_trans hB ht6.ex.size
  replace hA := ht6.new
  replace hH : Hp w.heap.size A4 w3 (obU 5 v2 x1 :: []) := hH5
  refine V_y (Y_assign rfl) rfl rfl rfl ?_
  refine V_to (fun _ _ => rfl) ?_
  refine C_seq ?_
  refine C_seq ?_
  refine C_region ?_
  refine V_y (Y_move rfl) rfl rfl rfl ?_
  refine V_y (Y_lenSl (Hp.anyU (e := 5) (v := v2) (l := x1) hH (i := 0) rfl) rfl Tryz.underlying85 rfl) rfl rfl rfl ?_
  refine V_y (Y_move rfl) rfl rfl rfl ?_
  refine V_to (fun _ _ => rfl) ?_
  have hn31 := Hp.leU (e := 5) (v := v2) (l := x1) hH (i := 0) rfl
  obtain ⟨o7, ho7, hm⟩ := Option.bind_eq_some_iff.1 hm
  refine C_cutG (ι := ((List UInt8) × Value × (Nat → Prop))) (fun ⟨s8, v14, A16⟩ => [(3, v14)]) (fun ⟨s8, v14, A16⟩ => fun w' => o7 = .fin s8 ∧ Hp w.heap.size A16 w' (obU 5 v14 s8 :: []) ∧ Tr Dw w.heap.size A4 w3 A16 w') ?_ ?_
  · refine C_block ?_
    refine C_range ho7 (fun k10 s18 a w' => ∃ i : (Value × (Nat → Prop)), Has ⟨29, [], none⟩ a ([(3, i.1), (8, i.1), (9, .int .i64 (x1.length : Int)), (10, .int .i64 (k10 : Int))]) ∧ Hp w.heap.size i.2 w' (obU 5 i.1 s18 :: []) ∧ Tr Dw w.heap.size A4 w3 i.2 w') (fun a ha => ⟨(v2, A4), ha.sub ⟨rfl, rfl, rfl, rfl, trivial⟩, ⟨hH, Tr.refl (Dw := Dw) hA⟩⟩) ?_
    rintro K k10 s18 a w19 ⟨⟨v20, A22⟩, ha74, hH23, hr9⟩ hle27 K30 h29
    refine C_of ?_ ha74
    replace hK := Tr.trans (Dw := Dw) hK hr9
    replace hB := Nat.le_trans hB hr9.ex.size
    replace hA := hr9.new
    replace hH : Hp w.heap.size A22 w19 (obU 5 v20 s18 :: []) := hH23
    refine C_seq (C_region (V_y (Y_lss rfl rfl) rfl rfl rfl (V_to (fun _ _ => rfl) ?_)))
    refine C_seq ?_
    refine C_cond rfl (fun hc32 => ?_) (fun hc32 => ?_)
    · have hlt28 := lt_of_dec hc32
      obtain ⟨x24, h25, h26⟩ := K30 hlt28
      refine C_skip_to (fun _ _ => rfl) ?_
      refine C_seq ?_
      obtain ⟨s34, ho33, h25⟩ := Option.bind_eq_some_iff.1 h25
      refine C_cutG (ι := (Value × (Nat → Prop))) (fun ⟨v36, A41⟩ => [(3, v36), (8, v36), (9, .int .i64 (x1.length : Int)), (10, .int .i64 (k10 : Int))]) (fun ⟨v36, A41⟩ => fun w' => Hp w.heap.size A41 w' (obU 5 v36 s34 :: []) ∧ Tr Dw w.heap.size A22 w19 A41 w') ?_ ?_
      · have hr35 : Tr Dw w.heap.size A22 w19 A22 w19 := Tr.refl (Dw := Dw) hA
        refine C_block ?_
        refine C_seq ?_
        refine C_region ?_
        refine V_y (Y_move rfl) rfl rfl rfl ?_
        obtain ⟨x43, hx43, ho33⟩ := Option.bind_eq_some_iff.1 ho33
        refine V_indexAddrU (e := 5) (v := v20) (l := s18) hH (i := 0) rfl hx43 Tryz.underlying85 Tryz.sizeOf5 rfl rfl rfl ?_
        intro b44 o45 h46 hl47
        refine V_y (Y_load (El.u8 h46) Tryz.isAgg5 rfl) rfl rfl rfl ?_
        refine V_y (Y_assign rfl) rfl rfl rfl ?_
        refine V_y (Y_assign rfl) rfl rfl rfl ?_
        refine V_to (fun _ _ => rfl) ?_
        refine C_seq ?_
        refine C_region ?_
        refine V_y (Y_move rfl) rfl rfl rfl ?_
        refine V_y (Y_geq rfl rfl) rfl rfl rfl ?_
        refine V_y (Y_move rfl) rfl rfl rfl ?_
        refine V_cut 3 (fun _ : Unit => [(3, v20), (4, .int .i64 (k10 : Int)), (5, .int .u8 (x43.toNat : Int)), (8, v20), (9, .int .i64 (x1.length : Int)), (10, .int .i64 (k10 : Int)), (20, .bool ((decide ((65 : Int) ≤ (x43.toNat : Int))) && (decide ((x43.toNat : Int) ≤ 90))))]) (fun _ w' => w19 = w') ?_ ?_
        · simp only [List.take, List.drop]
          rcases Bool.eq_false_or_eq_true (decide ((65 : Int) ≤ (x43.toNat : Int))) with hc48 | hc48
          · refine V_ge rfl rfl rfl hc48 ?_
            refine V_y (Y_move rfl) rfl rfl rfl ?_
            refine V_ge rfl rfl rfl hc48 ?_
            refine V_y (Y_leq rfl rfl) rfl rfl rfl ?_
            refine V_y (Y_pick_te rfl hc48 rfl) rfl rfl rfl ?_
            exact V_end fun a ha => ⟨(), ha.sub ⟨rfl, rfl, rfl, rfl, rfl, rfl, (by rw [hc48]; rfl), trivial⟩, rfl⟩
          · refine V_gn rfl rfl rfl hc48 rfl rfl rfl ?_
            refine V_gn rfl rfl rfl hc48 rfl rfl rfl ?_
            refine V_y (Y_pick_fe rfl hc48 rfl) rfl rfl rfl ?_
            exact V_end fun a ha => ⟨(), ha.sub ⟨rfl, rfl, rfl, rfl, rfl, rfl, (by rw [hc48]; rfl), trivial⟩, rfl⟩
        simp only [List.take, List.drop]
        rintro _ _ rfl
        refine V_to (fun _ _ => rfl) ?_
        obtain ⟨s51, ho50, ho33⟩ := Option.bind_eq_some_iff.1 ho33
        refine C_cutG (ι := (Value × (Nat → Prop))) (fun ⟨v53, A58⟩ => [(3, v53), (8, v53), (9, .int .i64 (x1.length : Int)), (10, .int .i64 (k10 : Int))]) (fun ⟨v53, A58⟩ => fun w' => Hp w.heap.size A58 w' (obU 5 v53 s51 :: []) ∧ Tr Dw w.heap.size A22 w19 A58 w') ?_ ?_
        · have hr52 : Tr Dw w.heap.size A22 w19 A22 w19 := Tr.refl (Dw := Dw) hA
          refine C_cond rfl (fun hc60 => ?_) (fun hc60 => ?_)
          · rw [if_pos hc60] at ho50
            refine C_region ?_
            refine V_y (Y_move rfl) rfl rfl rfl ?_
            refine V_y (Y_move rfl) rfl rfl rfl ?_
            refine V_y (Y_move rfl) rfl rfl rfl ?_
            refine V_y (Y_addB rfl rfl) rfl rfl rfl ?_
            refine V_indexAddrU (e := 5) (v := v20) (l := s18) hH (i := 0) rfl hx43 Tryz.underlying85 Tryz.sizeOf5 rfl rfl rfl ?_
            intro b61 o62 h63 hl64
            obtain ⟨x65, hx65, ho50⟩ := Option.bind_eq_some_iff.1 ho50
            refine V_storeU (Dw := Dw) (e := 5) (v := v20) (l := s18) hH (i := 0) rfl hl64 hx65 rfl Tryz.sizeOf5 rfl hB hA rfl rfl ?_
            intro w66 hH67 ht68
            replace hK := Tr.trans (Dw := Dw) hK ht68
            replace hr9 := Tr.trans (Dw := Dw) hr9 ht68
            replace hr35 := Tr.trans (Dw := Dw) hr35 ht68
            replace hr52 := Tr.trans (Dw := Dw) hr52 ht68
            replace hB := Nat.le_trans hB ht68.ex.size
            replace hA := ht68.new
            replace hH : Hp w.heap.size A22 w66 (obU 5 v20 x65 :: []) := hH67
            obtain rfl := Option.some.inj ho50
            refine V_end (fun a ha69 => ?_)
            exact ⟨(v20, A22), ha69.sub ⟨rfl, rfl, rfl, rfl, trivial⟩, ⟨hH, hr52⟩⟩
          · rw [if_neg (nt hc60)] at ho50
            obtain rfl := Option.some.inj ho50
            refine C_skip (fun a ha70 => ?_)
            exact ⟨(v20, A22), ha70.sub ⟨rfl, rfl, rfl, rfl, trivial⟩, ⟨hH, hr52⟩⟩
        rintro ⟨v53, A58⟩ w55 ⟨hH59, hk56⟩ a ha57
        replace hK := Tr.trans (Dw := Dw) hK hk56
        replace hr9 := Tr.trans (Dw := Dw) hr9 hk56
        replace hr35 := Tr.trans (Dw := Dw) hr35 hk56
        replace hB := Nat.le_trans hB hk56.ex.size
        replace hA := hk56.new
        replace hH : Hp w.heap.size A58 w55 (obU 5 v53 s51 :: []) := hH59
        obtain rfl := Option.some.inj ho33
        exact ⟨(v53, A58), ha57.sub ⟨rfl, rfl, rfl, rfl, trivial⟩, ⟨hH, hr35⟩⟩
      rintro ⟨v36, A41⟩ w38 ⟨hH42, hk39⟩ a ha40
      replace hK := Tr.trans (Dw := Dw) hK hk39
      replace hr9 := Tr.trans (Dw := Dw) hr9 hk39
      replace hB := Nat.le_trans hB hk39.ex.size
      replace hA := hk39.new
      replace hH : Hp w.heap.size A41 w38 (obU 5 v36 s34 :: []) := hH42
      refine C_at (n := ⟨29, [], none⟩) (fun _ _ => rfl) ?_ ha40
      refine C_region ?_
      refine V_y (Y_addI rfl rfl) rfl rfl rfl ?_
      refine V_y (Y_move rfl) rfl rfl rfl ?_
      obtain rfl := Option.some.inj h25
      refine V_end (fun a ha72 => ?_)
      exact ⟨s34, hlt28, h26, ⟨(v36, A41), ha72.sub ⟨rfl, rfl, rfl, (congrArg (fun z => some (Value.int .i64 z)) (w64_succ hlt28 hn31)), trivial⟩, ⟨hH, hr9⟩⟩⟩
    · refine C_exit (fun a ha73 => ?_)
      exact ⟨(s18, v20, A22), ha73.sub ⟨rfl, trivial⟩, ⟨(h29 (eq_of_dec hle27 hc32)).symm, hH, hr9⟩⟩
  rintro ⟨s8, v14, A16⟩ w11 ⟨rfl, hH17, hk12⟩ a ha13
  rw [Lp.andThen_fin] at hm
  replace hK := Tr.trans (Dw := Dw) hK hk12
  replace hB := Nat.le_trans hB hk12.ex.size
  replace hA := hk12.new
  replace hH : Hp w.heap.size A16 w11 (obU 5 v14 s8 :: []) := hH17
  refine C_at (n := ⟨29, [], none⟩) (fun _ _ => rfl) ?_ ha13
  refine C_seq ?_
  refine C_region ?_
  refine V_y (Y_move rfl) rfl rfl rfl ?_
  obtain ⟨A75, ht76, h77, hH78⟩ := Hp.freezeU (Dw := Dw) (v := v14) (l := s8) hH (i := 0) rfl hA
  replace hK := Tr.trans (Dw := Dw) hK ht76
  replace hB := Nat.le_trans hB ht76.ex.size
  replace hA := ht76.new
  replace hH : Hp w.heap.size A75 w11 ([]) := hH78
  refine V_y (Y_convBS (l := s8) h77 Tryz.underlying85 Tryz.underlying5 Tryz.underlying9 rfl) rfl rfl rfl ?_
  refine V_y (Y_assign rfl) rfl rfl rfl ?_
  refine V_to (fun _ _ => rfl) ?_
  obtain rfl := Option.some.inj hm
  refine C_ret ?_
  try simp only [↓inBlock_ret, ↓then_ret]
  exact retQ rfl (Res.one Tryz.results46 rfl) ⟨rfl, hK.kp⟩

set_option maxRecDepth 4000 in
set_option maxHeartbeats 4000000 in
theorem portref2_WordsOf_c (w : World) {A : Nat → Prop} (hA : ∀ b, w.heap.size ≤ b → A b) (s : ByteArray) {r : (List ByteArray)} (hm : portref2_WordsOf s = some r) : Ret Tryz.prog 21 #[.string s] w fun v w' => ∃ s0, v = s0 ∧ Ownd 9 w w' s0 r ∧ Kp Dw w w' := by
  unfold portref2_WordsOf at hm
  refine enter Tryz.func21 rfl Tryz.ntmps21 rfl ?_
  have hA0 := hA
  have hB := Nat.le_refl w.heap.size
  have hK : Tr Dw w.heap.size A w A w := Tr.refl (Dw := Dw) hA
  have hH : Hp w.heap.size A w [] := Hp.nil
  refine C_seq ?_
  refine C_region ?_
  refine V_y (Y_assign rfl) rfl rfl rfl ?_
  refine V_to (fun _ _ => rfl) ?_
  refine C_seq ?_
  refine C_region ?_
  refine V_y (Y_assign rfl) rfl rfl rfl ?_
  refine V_to (fun _ _ => rfl) ?_
  refine C_seq ?_
  refine C_seq ?_
  refine C_region ?_
  refine V_y (Y_assign rfl) rfl rfl rfl ?_
  refine V_to (fun _ _ => rfl) ?_
  replace hH : Hp w.heap.size A w (obS (α := ByteArray) 9 (.slice none 0 0) ([] : (List ByteArray)) :: []) := Hp.addNil (α := ByteArray) (e := 9) hH
  obtain ⟨o1, ho1, hm⟩ := Option.bind_eq_some_iff.1 hm
  refine C_cutG (ι := (((List ByteArray) × Int) × Value × (Nat → Prop))) (fun ⟨s2, v8, A10⟩ => [(3, v8)]) (fun ⟨s2, v8, A10⟩ => fun w' => o1 = .fin s2 ∧ Hp w.heap.size A10 w' (obS (α := ByteArray) 9 v8 s2.1 :: []) ∧ Tr Dw w.heap.size A w A10 w') ?_ ?_
  · refine C_block ?_
    refine C_while ho1 (fun s12 a w' => ∃ i : (Value × (Nat → Prop)), Has ⟨45, [], none⟩ a ([(0, .string s), (3, i.1), (4, .int .i64 s12.2)]) ∧ Hp w.heap.size i.2 w' (obS (α := ByteArray) 9 i.1 s12.1 :: []) ∧ Tr Dw w.heap.size A w i.2 w') (fun a ha => ⟨(.slice none 0 0, A), ha.sub ⟨rfl, rfl, rfl, trivial⟩, ⟨hH, Tr.refl (Dw := Dw) hA⟩⟩) ?_
    rintro K s12 a w13 ⟨⟨v14, A16⟩, ha83, hH17, hr3⟩ K24
    refine C_of ?_ ha83
    replace hK := Tr.trans (Dw := Dw) hK hr3
    replace hB := Nat.le_trans hB hr3.ex.size
    replace hA := hr3.new
    replace hH : Hp w.heap.size A16 w13 (obS (α := ByteArray) 9 v14 s12.1 :: []) := hH17
    obtain ⟨x18, h19, h20⟩ := K24
    refine C_seq ?_
    refine C_seq ?_
    refine C_region ?_
    refine V_y (Y_move rfl) rfl rfl rfl ?_
    refine V_y (Y_move rfl) rfl rfl rfl ?_
    refine V_y (Y_lenStr rfl Tryz.underlying9 rfl) rfl rfl rfl ?_
    refine V_y (Y_lss rfl rfl) rfl rfl rfl ?_
    refine V_to (fun _ _ => rfl) ?_
    refine C_cond rfl (fun hc25 => ?_) (fun hc25 => ?_)
    · rw [if_pos hc25] at h19
      refine C_skip_to (fun _ _ => rfl) ?_
      refine C_block ?_
      refine C_seq ?_
      refine C_region ?_
      refine V_y (Y_move rfl) rfl rfl rfl ?_
      refine V_y (Y_assign rfl) rfl rfl rfl ?_
      refine V_to (fun _ _ => rfl) ?_
      refine C_seq ?_
      obtain ⟨o26, ho26, h19⟩ := Option.bind_eq_some_iff.1 h19
      refine C_cutG (ι := Int) (fun (s27 : Int) => [(0, .string s), (3, v14), (4, .int .i64 s12.2), (5, .int .i64 s27)]) (fun (s27 : Int) => fun w' => o26 = .fin s27 ∧ w13 = w') ?_ ?_
      · refine C_block ?_
        refine C_while ho26 (fun s33 a w' => ∃ i : Unit, Has ⟨45, [], none⟩ a ([(0, .string s), (3, v14), (4, .int .i64 s12.2), (5, .int .i64 s33)]) ∧ w13 = w') (fun a ha => ⟨(), ha.sub ⟨rfl, rfl, rfl, rfl, trivial⟩, rfl⟩) ?_
        rintro K s33 a _ ⟨_, ha48, rfl⟩ K41
        refine C_of ?_ ha48
        obtain ⟨x35, h36, h37⟩ := K41
        refine C_seq ?_
        refine C_seq ?_
        refine C_region ?_
        refine V_y (Y_move rfl) rfl rfl rfl ?_
        refine V_y (Y_move rfl) rfl rfl rfl ?_
        refine V_y (Y_lenStr rfl Tryz.underlying9 rfl) rfl rfl rfl ?_
        refine V_y (Y_lss rfl rfl) rfl rfl rfl ?_
        refine V_y (Y_move rfl) rfl rfl rfl ?_
        obtain ⟨s43, hs43, h36⟩ := Option.bind_eq_some_iff.1 h36
        refine V_cut 5 (fun _ : Unit => [(0, .string s), (3, v14), (4, .int .i64 s12.2), (5, .int .i64 s33), (20, .bool s43)]) (fun _ w' => w13 = w') ?_ ?_
        · simp only [List.take, List.drop]
          rcases Bool.eq_false_or_eq_true (decide (s33 < (s.size : Int))) with hc42 | hc42
          · rw [if_pos hc42] at hs43
            refine V_ge rfl rfl rfl hc42 ?_
            refine V_y (Y_move rfl) rfl rfl rfl ?_
            refine V_ge rfl rfl rfl hc42 ?_
            refine V_y (Y_move rfl) rfl rfl rfl ?_
            refine V_ge rfl rfl rfl hc42 ?_
            obtain ⟨x44, hx44, hs43⟩ := Option.bind_eq_some_iff.1 hs43
            refine V_y (Y_indexS hx44 Tryz.underlying9 rfl rfl) rfl rfl rfl ?_
            refine V_ge rfl rfl rfl hc42 ?_
            refine V_call Tryz.call45 rfl rfl rfl rfl (portref2_isWordByte_c w13 (x44.toNat : Int)) ?_
            rintro _ _ ⟨rfl, rfl⟩
            refine V_y (Y_pick_te rfl hc42 rfl) rfl rfl rfl ?_
            obtain rfl := Option.some.inj hs43
            exact V_end fun a ha => ⟨(), ha.sub ⟨rfl, rfl, rfl, rfl, rfl, trivial⟩, rfl⟩
          · rw [if_neg (nt hc42)] at hs43
            refine V_gn rfl rfl rfl hc42 rfl rfl rfl ?_
            refine V_gn rfl rfl rfl hc42 rfl rfl rfl ?_
            refine V_gn rfl rfl rfl hc42 rfl rfl rfl ?_
            refine V_gn rfl rfl rfl hc42 rfl rfl rfl ?_
            refine V_y (Y_pick_fe rfl hc42 rfl) rfl rfl rfl ?_
            obtain rfl := Option.some.inj hs43
            exact V_end fun a ha => ⟨(), ha.sub ⟨rfl, rfl, rfl, rfl, rfl, trivial⟩, rfl⟩
        simp only [List.take, List.drop]
        rintro _ _ rfl
        refine V_to (fun _ _ => rfl) ?_
        refine C_cond rfl (fun hc45 => ?_) (fun hc45 => ?_)
        · rw [if_pos hc45] at h36
          refine C_skip_to (fun _ _ => rfl) ?_
          refine C_block ?_
          refine C_region ?_
          refine V_y (Y_move rfl) rfl rfl rfl ?_
          refine V_y (Y_addI rfl rfl) rfl rfl rfl ?_
          refine V_y (Y_assign rfl) rfl rfl rfl ?_
          obtain rfl := Option.some.inj h36
          refine V_end (fun a ha46 => ?_)
          exact ⟨w64 (s33 + 1), h37, ⟨(), ha46.sub ⟨rfl, rfl, rfl, rfl, trivial⟩, rfl⟩⟩
        · rw [if_neg (nt hc45)] at h36
          obtain rfl := Option.some.inj h36
          refine C_exit (fun a ha47 => ?_)
          exact ⟨s33, ha47.sub ⟨rfl, rfl, rfl, rfl, trivial⟩, ⟨h37.symm, rfl⟩⟩
      rintro s27 _ ⟨rfl, rfl⟩ a ha32
      rw [Lp.andThen_fin] at h19
      refine C_at (n := ⟨45, [], none⟩) (fun _ _ => rfl) ?_ ha32
      refine C_seq ?_
      refine C_seq ?_
      refine C_region ?_
      refine V_y (Y_move rfl) rfl rfl rfl ?_
      refine V_y (Y_move rfl) rfl rfl rfl ?_
      refine V_y (Y_gtr rfl rfl) rfl rfl rfl ?_
      refine V_y (Y_move rfl) rfl rfl rfl ?_
      refine V_cut 5 (fun _ : Unit => [(0, .string s), (3, v14), (4, .int .i64 s12.2), (5, .int .i64 s27), (31, .bool ((decide (s12.2 < s27)) && (decide ((w64 (s27 - s12.2)) ≤ 30))))]) (fun _ w' => w13 = w') ?_ ?_
      · simp only [List.take, List.drop]
        rcases Bool.eq_false_or_eq_true (decide (s12.2 < s27)) with hc49 | hc49
        · refine V_ge rfl rfl rfl hc49 ?_
          refine V_y (Y_move rfl) rfl rfl rfl ?_
          refine V_ge rfl rfl rfl hc49 ?_
          refine V_y (Y_move rfl) rfl rfl rfl ?_
          refine V_ge rfl rfl rfl hc49 ?_
          refine V_y (Y_subI rfl rfl) rfl rfl rfl ?_
          refine V_ge rfl rfl rfl hc49 ?_
          refine V_y (Y_leq rfl rfl) rfl rfl rfl ?_
          refine V_y (Y_pick_te rfl hc49 rfl) rfl rfl rfl ?_
          exact V_end fun a ha => ⟨(), ha.sub ⟨rfl, rfl, rfl, rfl, (by rw [hc49]; rfl), trivial⟩, rfl⟩
        · refine V_gn rfl rfl rfl hc49 rfl rfl rfl ?_
          refine V_gn rfl rfl rfl hc49 rfl rfl rfl ?_
          refine V_gn rfl rfl rfl hc49 rfl rfl rfl ?_
          refine V_gn rfl rfl rfl hc49 rfl rfl rfl ?_
          refine V_y (Y_pick_fe rfl hc49 rfl) rfl rfl rfl ?_
          exact V_end fun a ha => ⟨(), ha.sub ⟨rfl, rfl, rfl, rfl, (by rw [hc49]; rfl), trivial⟩, rfl⟩
      simp only [List.take, List.drop]
      rintro _ _ rfl
      refine V_to (fun _ _ => rfl) ?_
      obtain ⟨s52, ho51, h19⟩ := Option.bind_eq_some_iff.1 h19
      refine C_cutG (ι := (Value × (Nat → Prop))) (fun ⟨v54, A59⟩ => [(0, .string s), (3, v54), (4, .int .i64 s12.2), (5, .int .i64 s27)]) (fun ⟨v54, A59⟩ => fun w' => Hp w.heap.size A59 w' (obS (α := ByteArray) 9 v54 s52 :: []) ∧ Tr Dw w.heap.size A16 w13 A59 w') ?_ ?_
      · have hr53 : Tr Dw w.heap.size A16 w13 A16 w13 := Tr.refl (Dw := Dw) hA
        refine C_cond rfl (fun hc61 => ?_) (fun hc61 => ?_)
        · rw [if_pos hc61] at ho51
          refine C_region ?_
          refine V_y (Y_move rfl) rfl rfl rfl ?_
          refine V_y (Y_move rfl) rfl rfl rfl ?_
          refine V_y (Y_move rfl) rfl rfl rfl ?_
          refine V_y (Y_move rfl) rfl rfl rfl ?_
          obtain ⟨x62, hx62, ho51⟩ := Option.bind_eq_some_iff.1 ho51
          refine V_y (Y_sliceSLH hx62 Tryz.underlying9 rfl rfl rfl) rfl rfl rfl ?_
          obtain ⟨x63, hx63, ho51⟩ := Option.bind_eq_some_iff.1 ho51
          refine V_call Tryz.call46 rfl rfl rfl rfl (portref2_lower_c (Dw := Dw) w13 hA x62 hx63) ?_
          rintro _ w65 ⟨rfl, hk66⟩
          have ht67 := Kp.tr (Dw := Dw) hk66 hA hB
          replace hH := Hp.kp (Dw := Dw) hH hk66
          replace hK := Tr.trans (Dw := Dw) hK ht67
          replace hr3 := Tr.trans (Dw := Dw) hr3 ht67
          replace hr53 := Tr.trans (Dw := Dw) hr53 ht67
          replace hB := Nat.le_trans hB ht67.ex.size
          replace hA := ht67.new
          refine V_buildSlice (Dw := Dw) (l := ([x63] : List ByteArray)) (len := 1) Tryz.underlying37 Tryz.sizeOf9 Tryz.zeroValue9 rfl (by with_unfolding_all rfl) (show (1 * 1 : Nat) ≠ 0 by decide) (show (1 * 1 : Nat) ≤ 2 ^ 24 by decide) hA ⟨[.string x63], _, rfl, rfl, rfl⟩ rfl rfl ?_
          intro v68 w69 hk71 h70
          have ht72 := Kp.tr (Dw := Dw) hk71 hA hB
          replace hH := Hp.kp (Dw := Dw) hH hk71
          replace hK := Tr.trans (Dw := Dw) hK ht72
          replace hr3 := Tr.trans (Dw := Dw) hr3 ht72
          replace hr53 := Tr.trans (Dw := Dw) hr53 ht72
          replace hB := Nat.le_trans hB ht72.ex.size
          replace hA := ht72.new
          obtain ⟨x73, hx73, ho51⟩ := Option.bind_eq_some_iff.1 ho51
          refine V_appendH (Dw := Dw) (e := 9) (v := v14) (l := s12.1) (ti := Tryz.t9) (bytes := 16) (lim := 8796093022208) hH (i := 0) rfl h70 hx73 Tryz.underlying37 Tryz_info9 rfl rfl rfl rfl (by decide) (by decide) (by decide) hB hA rfl rfl rfl ?_
          intro v74 w75 A76 hH77 ht78
          replace h70 := Sl.tr (Dw := Dw) h70 ht78
          replace hK := Tr.trans (Dw := Dw) hK ht78
          replace hr3 := Tr.trans (Dw := Dw) hr3 ht78
          replace hr53 := Tr.trans (Dw := Dw) hr53 ht78
          replace hB := Nat.le_trans hB ht78.ex.size
          replace hA := ht78.new
          replace hH : Hp w.heap.size A76 w75 (obS (α := ByteArray) 9 v74 x73 :: []) := hH77
          refine V_y (Y_assign rfl) rfl rfl rfl ?_
          obtain rfl := Option.some.inj ho51
          refine V_end (fun a ha79 => ?_)
          exact ⟨(v74, A76), ha79.sub ⟨rfl, rfl, rfl, rfl, trivial⟩, ⟨hH, hr53⟩⟩
        · rw [if_neg (nt hc61)] at ho51
          obtain rfl := Option.some.inj ho51
          refine C_skip (fun a ha80 => ?_)
          exact ⟨(v14, A16), ha80.sub ⟨rfl, rfl, rfl, rfl, trivial⟩, ⟨hH, hr53⟩⟩
      rintro ⟨v54, A59⟩ w56 ⟨hH60, hk57⟩ a ha58
      replace hK := Tr.trans (Dw := Dw) hK hk57
      replace hr3 := Tr.trans (Dw := Dw) hr3 hk57
      replace hB := Nat.le_trans hB hk57.ex.size
      replace hA := hk57.new
      replace hH : Hp w.heap.size A59 w56 (obS (α := ByteArray) 9 v54 s52 :: []) := hH60
      refine C_at (n := ⟨45, [], none⟩) (fun _ _ => rfl) ?_ ha58
      refine C_region ?_
      refine V_y (Y_move rfl) rfl rfl rfl ?_
      refine V_y (Y_move rfl) rfl rfl rfl ?_
      refine V_y (Y_addI rfl rfl) rfl rfl rfl ?_
      refine V_y (Y_max2 rfl rfl) rfl rfl rfl ?_
      refine V_y (Y_assign rfl) rfl rfl rfl ?_
      obtain rfl := Option.some.inj h19
      refine V_end (fun a ha81 => ?_)
      exact ⟨(s52, (if s27 < w64 (s12.2 + 1) then w64 (s12.2 + 1) else s27)), h20, ⟨(v54, A59), ha81.sub ⟨rfl, rfl, rfl, trivial⟩, ⟨hH, hr3⟩⟩⟩
    · rw [if_neg (nt hc25)] at h19
      obtain rfl := Option.some.inj h19
      refine C_exit (fun a ha82 => ?_)
      exact ⟨((s12.1, s12.2), v14, A16), ha82.sub ⟨rfl, trivial⟩, ⟨h20.symm, hH, hr3⟩⟩
  rintro ⟨s2, v8, A10⟩ w5 ⟨rfl, hH11, hk6⟩ a ha7
  rw [Lp.andThen_fin] at hm
  replace hK := Tr.trans (Dw := Dw) hK hk6
  replace hB := Nat.le_trans hB hk6.ex.size
  replace hA := hk6.new
  replace hH : Hp w.heap.size A10 w5 (obS (α := ByteArray) 9 v8 s2.1 :: []) := hH11
  refine C_at (n := ⟨45, [], none⟩) (fun _ _ => rfl) ?_ ha7
  refine C_seq ?_
  refine C_region ?_
  refine V_y (Y_move rfl) rfl rfl rfl ?_
  refine V_y (Y_assign rfl) rfl rfl rfl ?_
  refine V_to (fun _ _ => rfl) ?_
  obtain rfl := Option.some.inj hm
  refine C_ret ?_
  try simp only [↓inBlock_ret, ↓then_ret]
  exact retQ rfl (Res.one Tryz.results21 rfl) ⟨v8, rfl, (Hp.ownd hH (i := 0) rfl), hK.kp⟩

set_option maxRecDepth 4000 in
set_option maxHeartbeats 4000000 in
theorem portref2_positionsFault_c (w : World) {A : Nat → Prop} (l : (List Int)) (v_l : Value) (h_l : Sl A w v_l l) (size : Int) {r : Int} (hm : portref2_positionsFault l size = some r) : Ret Tryz.prog 44 #[v_l, .int .i64 size] w fun v w' => v = .int .i64 r ∧ w = w' := by
  unfold portref2_positionsFault at hm
  refine enter Tryz.func44 rfl Tryz.ntmps44 rfl ?_
  refine C_seq ?_
  refine C_region ?_
  refine V_y (Y_assign rfl) rfl rfl rfl ?_
  refine V_to (fun _ _ => rfl) ?_
  refine C_seq ?_
  refine C_seq ?_
  refine C_region ?_
  refine V_y (Y_move rfl) rfl rfl rfl ?_
  refine V_y (Y_lenSl h_l rfl Tryz.underlying22 rfl) rfl rfl rfl ?_
  refine V_y (Y_move rfl) rfl rfl rfl ?_
  refine V_to (fun _ _ => rfl) ?_
  have hn19 := Sl.le h_l
  obtain ⟨o3, ho3, hm⟩ := Option.bind_eq_some_iff.1 hm
  refine C_cutG (ι := Unit) (fun (s4 : Unit) => [(0, v_l)]) (fun (s4 : Unit) => fun w' => o3 = .fin s4 ∧ w = w') ?_ ?_
  · refine C_block ?_
    refine C_range ho3 (fun k6 _ a w' => ∃ i : Unit, Has ⟨42, [], none⟩ a ([(0, v_l), (1, .int .i64 size), (9, v_l), (10, .int .i64 (l.length : Int)), (11, .int .i64 (k6 : Int))]) ∧ w = w') (fun a ha => ⟨(), ha.sub ⟨rfl, rfl, rfl, rfl, rfl, trivial⟩, rfl⟩) ?_
    rintro K k6 _ a _ ⟨_, ha30, rfl⟩ hle15 K18 h17
    refine C_of ?_ ha30
    refine C_seq (C_region (V_y (Y_lss rfl rfl) rfl rfl rfl (V_to (fun _ _ => rfl) ?_)))
    refine C_seq ?_
    refine C_cond rfl (fun hc20 => ?_) (fun hc20 => ?_)
    · have hlt16 := lt_of_dec hc20
      obtain ⟨x12, h13, h14⟩ := K18 hlt16
      refine C_skip_to (fun _ _ => rfl) ?_
      refine C_seq ?_
      refine C_block ?_
      refine C_seq ?_
      refine C_region ?_
      obtain ⟨x21, hx21, h13⟩ := Option.bind_eq_some_iff.1 h13
      refine V_indexAddr h_l hx21 Tryz.underlying22 Tryz.sizeOf3 rfl rfl rfl ?_
      intro b22 o23 h24
      refine V_y (Y_load (El.int h24) Tryz.isAgg3 rfl) rfl rfl rfl ?_
      refine V_y (Y_assign rfl) rfl rfl rfl ?_
      refine V_to (fun _ _ => rfl) ?_
      refine C_seq ?_
      refine C_region ?_
      refine V_y (Y_move rfl) rfl rfl rfl ?_
      refine V_y (Y_lss rfl rfl) rfl rfl rfl ?_
      refine V_y (Y_move rfl) rfl rfl rfl ?_
      refine V_cut 4 (fun _ : Unit => [(0, v_l), (1, .int .i64 size), (9, v_l), (10, .int .i64 (l.length : Int)), (11, .int .i64 (k6 : Int)), (21, .bool ((decide (x21 < 0)) || (decide (size ≤ x21))))]) (fun _ w' => w = w') ?_ ?_
      · simp only [List.take, List.drop]
        rcases Bool.eq_false_or_eq_true (decide (x21 < 0)) with hc25 | hc25
        · refine V_gn rfl rfl rfl hc25 rfl rfl rfl ?_
          refine V_gn rfl rfl rfl hc25 rfl rfl rfl ?_
          refine V_gn rfl rfl rfl hc25 rfl rfl rfl ?_
          refine V_y (Y_pick_te rfl hc25 rfl) rfl rfl rfl ?_
          exact V_end fun a ha => ⟨(), ha.sub ⟨rfl, rfl, rfl, rfl, rfl, (by rw [hc25]; rfl), trivial⟩, rfl⟩
        · refine V_ge rfl rfl rfl hc25 ?_
          refine V_y (Y_move rfl) rfl rfl rfl ?_
          refine V_ge rfl rfl rfl hc25 ?_
          refine V_y (Y_move rfl) rfl rfl rfl ?_
          refine V_ge rfl rfl rfl hc25 ?_
          refine V_y (Y_geq rfl rfl) rfl rfl rfl ?_
          refine V_y (Y_pick_fe rfl hc25 rfl) rfl rfl rfl ?_
          exact V_end fun a ha => ⟨(), ha.sub ⟨rfl, rfl, rfl, rfl, rfl, (by rw [hc25]; rfl), trivial⟩, rfl⟩
      simp only [List.take, List.drop]
      rintro _ _ rfl
      refine V_to (fun _ _ => rfl) ?_
      refine C_cond rfl (fun hc27 => ?_) (fun hc27 => ?_)
      · rw [if_pos hc27] at h13
        refine C_seq ?_
        refine C_region ?_
        refine V_y (Y_assign rfl) rfl rfl rfl ?_
        refine V_to (fun _ _ => rfl) ?_
        obtain rfl := Option.some.inj h13
        obtain rfl := (h14 : Lp.rt _ = _)
        rw [Lp.andThen_rt] at hm
        obtain rfl := Option.some.inj hm
        refine C_ret ?_
        try simp only [↓inBlock_ret, ↓then_ret]
        exact retQ rfl (Res.one Tryz.results44 rfl) ⟨rfl, rfl⟩
      · rw [if_neg (nt hc27)] at h13
        refine C_skip_to (fun _ _ => rfl) ?_
        refine C_region ?_
        refine V_y (Y_addI rfl rfl) rfl rfl rfl ?_
        refine V_y (Y_move rfl) rfl rfl rfl ?_
        obtain rfl := Option.some.inj h13
        refine V_end (fun a ha28 => ?_)
        exact ⟨(), hlt16, h14, ⟨(), ha28.sub ⟨rfl, rfl, rfl, rfl, (congrArg (fun z => some (Value.int .i64 z)) (w64_succ hlt16 hn19)), trivial⟩, rfl⟩⟩
    · refine C_exit (fun a ha29 => ?_)
      exact ⟨(), ha29.sub ⟨rfl, trivial⟩, ⟨(h17 (eq_of_dec hle15 hc20)).symm, rfl⟩⟩
  rintro s4 _ ⟨rfl, rfl⟩ a ha9
  rw [Lp.andThen_fin] at hm
  refine C_at (n := ⟨42, [], none⟩) (fun _ _ => rfl) ?_ ha9
  refine C_seq ?_
  refine C_seq ?_
  refine C_region ?_
  refine V_y (Y_move rfl) rfl rfl rfl ?_
  refine V_y (Y_lenSl h_l rfl Tryz.underlying22 rfl) rfl rfl rfl ?_
  refine V_y (Y_move rfl) rfl rfl rfl ?_
  refine V_to (fun _ _ => rfl) ?_
  have hn47 := Sl.le h_l
  obtain ⟨o31, ho31, hm⟩ := Option.bind_eq_some_iff.1 hm
  refine C_cutG (ι := Unit) (fun (s32 : Unit) => []) (fun (s32 : Unit) => fun w' => o31 = .fin s32 ∧ w = w') ?_ ?_
  · refine C_block ?_
    refine C_range ho31 (fun k34 _ a w' => ∃ i : Unit, Has ⟨42, [], none⟩ a ([(0, v_l), (23, v_l), (24, .int .i64 (l.length : Int)), (25, .int .i64 (k34 : Int))]) ∧ w = w') (fun a ha => ⟨(), ha.sub ⟨rfl, rfl, rfl, rfl, trivial⟩, rfl⟩) ?_
    rintro K k34 _ a _ ⟨_, ha62, rfl⟩ hle43 K46 h45
    refine C_of ?_ ha62
    refine C_seq (C_region (V_y (Y_lss rfl rfl) rfl rfl rfl (V_to (fun _ _ => rfl) ?_)))
    refine C_seq ?_
    refine C_cond rfl (fun hc48 => ?_) (fun hc48 => ?_)
    · have hlt44 := lt_of_dec hc48
      obtain ⟨x40, h41, h42⟩ := K46 hlt44
      refine C_skip_to (fun _ _ => rfl) ?_
      refine C_seq ?_
      refine C_block ?_
      refine C_seq ?_
      refine C_region ?_
      refine V_y (Y_move rfl) rfl rfl rfl ?_
      obtain ⟨x49, hx49, h41⟩ := Option.bind_eq_some_iff.1 h41
      refine V_indexAddr h_l hx49 Tryz.underlying22 Tryz.sizeOf3 rfl rfl rfl ?_
      intro b50 o51 h52
      refine V_y (Y_load (El.int h52) Tryz.isAgg3 rfl) rfl rfl rfl ?_
      refine V_y (Y_assign rfl) rfl rfl rfl ?_
      refine V_y (Y_assign rfl) rfl rfl rfl ?_
      refine V_to (fun _ _ => rfl) ?_
      refine C_seq ?_
      refine C_region ?_
      refine V_y (Y_move rfl) rfl rfl rfl ?_
      refine V_y (Y_gtr rfl rfl) rfl rfl rfl ?_
      refine V_y (Y_move rfl) rfl rfl rfl ?_
      obtain ⟨s54, hs54, h41⟩ := Option.bind_eq_some_iff.1 h41
      refine V_cut 8 (fun _ : Unit => [(0, v_l), (23, v_l), (24, .int .i64 (l.length : Int)), (25, .int .i64 (k34 : Int)), (40, .bool s54)]) (fun _ w' => w = w') ?_ ?_
      · simp only [List.take, List.drop]
        rcases Bool.eq_false_or_eq_true (decide ((0 : Int) < (k34 : Int))) with hc53 | hc53
        · rw [if_pos hc53] at hs54
          refine V_ge rfl rfl rfl hc53 ?_
          refine V_y (Y_move rfl) rfl rfl rfl ?_
          refine V_ge rfl rfl rfl hc53 ?_
          refine V_y (Y_move rfl) rfl rfl rfl ?_
          refine V_ge rfl rfl rfl hc53 ?_
          refine V_y (Y_move rfl) rfl rfl rfl ?_
          refine V_ge rfl rfl rfl hc53 ?_
          refine V_y (Y_subI rfl rfl) rfl rfl rfl ?_
          refine V_ge rfl rfl rfl hc53 ?_
          obtain ⟨x55, hx55, hs54⟩ := Option.bind_eq_some_iff.1 hs54
          refine V_indexAddr h_l hx55 Tryz.underlying22 Tryz.sizeOf3 rfl rfl rfl ?_
          intro b56 o57 h58
          refine V_ge rfl rfl rfl hc53 ?_
          refine V_y (Y_load (El.int h58) Tryz.isAgg3 rfl) rfl rfl rfl ?_
          refine V_ge rfl rfl rfl hc53 ?_
          refine V_y (Y_leq rfl rfl) rfl rfl rfl ?_
          refine V_y (Y_pick_te rfl hc53 rfl) rfl rfl rfl ?_
          obtain rfl := Option.some.inj hs54
          exact V_end fun a ha => ⟨(), ha.sub ⟨rfl, rfl, rfl, rfl, rfl, trivial⟩, rfl⟩
        · rw [if_neg (nt hc53)] at hs54
          refine V_gn rfl rfl rfl hc53 rfl rfl rfl ?_
          refine V_gn rfl rfl rfl hc53 rfl rfl rfl ?_
          refine V_gn rfl rfl rfl hc53 rfl rfl rfl ?_
          refine V_gn rfl rfl rfl hc53 rfl rfl rfl ?_
          refine V_gn rfl rfl rfl hc53 rfl rfl rfl ?_
          refine V_gn rfl rfl rfl hc53 rfl rfl rfl ?_
          refine V_gn rfl rfl rfl hc53 rfl rfl rfl ?_
          refine V_y (Y_pick_fe rfl hc53 rfl) rfl rfl rfl ?_
          obtain rfl := Option.some.inj hs54
          exact V_end fun a ha => ⟨(), ha.sub ⟨rfl, rfl, rfl, rfl, rfl, trivial⟩, rfl⟩
      simp only [List.take, List.drop]
      rintro _ _ rfl
      refine V_to (fun _ _ => rfl) ?_
      refine C_cond rfl (fun hc59 => ?_) (fun hc59 => ?_)
      · rw [if_pos hc59] at h41
        refine C_seq ?_
        refine C_region ?_
        refine V_y (Y_assign rfl) rfl rfl rfl ?_
        refine V_to (fun _ _ => rfl) ?_
        obtain rfl := Option.some.inj h41
        obtain rfl := (h42 : Lp.rt _ = _)
        rw [Lp.andThen_rt] at hm
        obtain rfl := Option.some.inj hm
        refine C_ret ?_
        try simp only [↓inBlock_ret, ↓then_ret]
        exact retQ rfl (Res.one Tryz.results44 rfl) ⟨rfl, rfl⟩
      · rw [if_neg (nt hc59)] at h41
        refine C_skip_to (fun _ _ => rfl) ?_
        refine C_region ?_
        refine V_y (Y_addI rfl rfl) rfl rfl rfl ?_
        refine V_y (Y_move rfl) rfl rfl rfl ?_
        obtain rfl := Option.some.inj h41
        refine V_end (fun a ha60 => ?_)
        exact ⟨(), hlt44, h42, ⟨(), ha60.sub ⟨rfl, rfl, rfl, (congrArg (fun z => some (Value.int .i64 z)) (w64_succ hlt44 hn47)), trivial⟩, rfl⟩⟩
    · refine C_exit (fun a ha61 => ?_)
      exact ⟨(), ha61.sub trivial, ⟨(h45 (eq_of_dec hle43 hc48)).symm, rfl⟩⟩
  rintro s32 _ ⟨rfl, rfl⟩ a ha37
  rw [Lp.andThen_fin] at hm
  refine C_at (n := ⟨42, [], none⟩) (fun _ _ => rfl) ?_ ha37
  refine C_seq ?_
  refine C_region ?_
  refine V_y (Y_assign rfl) rfl rfl rfl ?_
  refine V_to (fun _ _ => rfl) ?_
  obtain rfl := Option.some.inj hm
  refine C_ret ?_
  try simp only [↓inBlock_ret, ↓then_ret]
  exact retQ rfl (Res.one Tryz.results44 rfl) ⟨rfl, rfl⟩

set_option maxRecDepth 4000 in
set_option maxHeartbeats 4000000 in
theorem portref2_IndexFault_c (w : World) {A : Nat → Prop} (hA : ∀ b, w.heap.size ≤ b → A b) (x : know_Index) (v_x0 : Value) (h_x0 : Sl A w v_x0 x.ids) (v_x1 : Value) (h_x1 : Sl A w v_x1 x.sizes) (v_x2 : Value) (h_x2 : Sl A w v_x2 x.terms) {r : Int} (hm : portref2_IndexFault x = some r) : Ret Tryz.prog 20 #[.agg #[v_x0, v_x1, v_x2]] w fun v w' => v = .int .i64 r ∧ Kp Dw w w' := by
  unfold portref2_IndexFault at hm
  refine enter Tryz.func20 rfl Tryz.ntmps20 rfl ?_
  have hA0 := hA
  have hB := Nat.le_refl w.heap.size
  have hK : Tr Dw w.heap.size A w A w := Tr.refl (Dw := Dw) hA
  have hH : Hp w.heap.size A w [] := Hp.nil
  refine C_seq ?_
  refine C_region ?_
  refine V_box rfl rfl ?_
  intro b7 w9 h10
  have hk12 := h10.kp (Dw := Dw)
  have h11 : El (α := know_Index) A w9 b7 0 x := h10.el hA ⟨[v_x0], _, rfl, ⟨_, rfl, h_x0⟩, ⟨[v_x1], _, rfl, ⟨_, rfl, h_x1⟩, ⟨_, rfl, h_x2⟩⟩⟩
  have ht13 := Kp.tr (Dw := Dw) hk12 hA hB
  replace hH := Hp.kp (Dw := Dw) hH hk12
  replace h_x0 := Sl.tr (Dw := Dw) h_x0 ht13
  replace h_x1 := Sl.tr (Dw := Dw) h_x1 ht13
  replace h_x2 := Sl.tr (Dw := Dw) h_x2 ht13
  replace hK := Tr.trans (Dw := Dw) hK ht13
  replace hB := Nat.le_trans hB ht13.ex.size
  replace hA := ht13.new
  refine V_y (Y_assign rfl) rfl rfl rfl ?_
  refine V_to (fun _ _ => rfl) ?_
  refine C_seq ?_
  refine C_seq ?_
  refine C_region ?_
  have h14 := El_know_Index_0 h11
  refine V_y (Y_fieldAddr Tryz.underlying25 rfl Tryz.sizeOf22 (by decide) rfl) rfl rfl rfl ?_
  obtain ⟨v15, h16, h17⟩ := El.list h14
  refine V_y (Y_load h16 Tryz.isAgg22 rfl) rfl rfl rfl ?_
  refine V_y (Y_lenSl h17 rfl Tryz.underlying22 rfl) rfl rfl rfl ?_
  refine V_y (Y_gtr rfl rfl) rfl rfl rfl ?_
  refine V_to (fun _ _ => rfl) ?_
  refine C_cond rfl (fun hc18 => ?_) (fun hc18 => ?_)
  · rw [if_pos hc18] at hm
    refine C_seq ?_
    refine C_region ?_
    refine V_y (Y_assign rfl) rfl rfl rfl ?_
    refine V_to (fun _ _ => rfl) ?_
    obtain rfl := Option.some.inj hm
    refine C_ret ?_
    try simp only [↓inBlock_ret, ↓then_ret]
    exact retQ rfl (Res.one Tryz.results20 rfl) ⟨rfl, hK.kp⟩
  · rw [if_neg (nt hc18)] at hm
    refine C_skip_to (fun _ _ => rfl) ?_
    refine C_seq ?_
    refine C_seq ?_
    refine C_region ?_
    have h19 := El_know_Index_1 h11
    refine V_y (Y_fieldAddr Tryz.underlying25 rfl Tryz.sizeOf22 (by decide) rfl) rfl rfl rfl ?_
    obtain ⟨v20, h21, h22⟩ := El.list h19
    refine V_y (Y_load h21 Tryz.isAgg22 rfl) rfl rfl rfl ?_
    refine V_y (Y_lenSl h22 rfl Tryz.underlying22 rfl) rfl rfl rfl ?_
    have h23 := El_know_Index_0 h11
    refine V_y (Y_fieldAddr Tryz.underlying25 rfl Tryz.sizeOf22 (by decide) rfl) rfl rfl rfl ?_
    obtain ⟨v24, h25, h26⟩ := El.list h23
    refine V_y (Y_load h25 Tryz.isAgg22 rfl) rfl rfl rfl ?_
    refine V_y (Y_lenSl h26 rfl Tryz.underlying22 rfl) rfl rfl rfl ?_
    refine V_y (Y_neq rfl rfl) rfl rfl rfl ?_
    refine V_to (fun _ _ => rfl) ?_
    refine C_cond rfl (fun hc27 => ?_) (fun hc27 => ?_)
    · rw [if_pos hc27] at hm
      refine C_seq ?_
      refine C_region ?_
      refine V_y (Y_assign rfl) rfl rfl rfl ?_
      refine V_to (fun _ _ => rfl) ?_
      obtain rfl := Option.some.inj hm
      refine C_ret ?_
      try simp only [↓inBlock_ret, ↓then_ret]
      exact retQ rfl (Res.one Tryz.results20 rfl) ⟨rfl, hK.kp⟩
    · rw [if_neg (nt hc27)] at hm
      refine C_skip_to (fun _ _ => rfl) ?_
      refine C_seq ?_
      refine C_seq ?_
      refine C_region ?_
      have h28 := El_know_Index_0 h11
      refine V_y (Y_fieldAddr Tryz.underlying25 rfl Tryz.sizeOf22 (by decide) rfl) rfl rfl rfl ?_
      obtain ⟨v29, h30, h31⟩ := El.list h28
      refine V_y (Y_load h30 Tryz.isAgg22 rfl) rfl rfl rfl ?_
      refine V_y (Y_lenSl h31 rfl Tryz.underlying22 rfl) rfl rfl rfl ?_
      refine V_y (Y_move rfl) rfl rfl rfl ?_
      refine V_to (fun _ _ => rfl) ?_
      have hn48 := Sl.le h31
      obtain ⟨o32, ho32, hm⟩ := Option.bind_eq_some_iff.1 hm
      refine C_cutG (ι := Unit) (fun (s33 : Unit) => [(1, .pointer (some ⟨b7, 0, none⟩))]) (fun (s33 : Unit) => fun w' => o32 = .fin s33 ∧ w9 = w') ?_ ?_
      · refine C_block ?_
        refine C_range ho32 (fun k35 _ a w' => ∃ i : Unit, Has ⟨174, [], none⟩ a ([(1, .pointer (some ⟨b7, 0, none⟩)), (26, v29), (27, .int .i64 (x.ids.length : Int)), (28, .int .i64 (k35 : Int))]) ∧ w9 = w') (fun a ha => ⟨(), ha.sub ⟨rfl, rfl, rfl, rfl, trivial⟩, rfl⟩) ?_
        rintro K k35 _ a _ ⟨_, ha88, rfl⟩ hle44 K47 h46
        refine C_of ?_ ha88
        refine C_seq (C_region (V_y (Y_lss rfl rfl) rfl rfl rfl (V_to (fun _ _ => rfl) ?_)))
        refine C_seq ?_
        refine C_cond rfl (fun hc49 => ?_) (fun hc49 => ?_)
        · have hlt45 := lt_of_dec hc49
          obtain ⟨x41, h42, h43⟩ := K47 hlt45
          refine C_skip_to (fun _ _ => rfl) ?_
          refine C_seq ?_
          refine C_block ?_
          refine C_seq ?_
          refine C_region ?_
          refine V_y (Y_move rfl) rfl rfl rfl ?_
          obtain ⟨x50, hx50, h42⟩ := Option.bind_eq_some_iff.1 h42
          refine V_indexAddr h31 hx50 Tryz.underlying22 Tryz.sizeOf3 rfl rfl rfl ?_
          intro b51 o52 h53
          refine V_y (Y_load (El.int h53) Tryz.isAgg3 rfl) rfl rfl rfl ?_
          refine V_y (Y_assign rfl) rfl rfl rfl ?_
          refine V_y (Y_assign rfl) rfl rfl rfl ?_
          refine V_to (fun _ _ => rfl) ?_
          refine C_block ?_
          refine C_seq ?_
          refine C_region ?_
          refine V_y (Y_move rfl) rfl rfl rfl ?_
          refine V_y (Y_lss rfl rfl) rfl rfl rfl ?_
          refine V_y (Y_move rfl) rfl rfl rfl ?_
          refine V_cut 3 (fun _ : Unit => [(1, .pointer (some ⟨b7, 0, none⟩)), (3, .int .i64 (k35 : Int)), (4, .int .i64 x50), (26, v29), (27, .int .i64 (x.ids.length : Int)), (28, .int .i64 (k35 : Int)), (39, .bool ((decide (x50 < 1)) || (decide ((3000000 : Int) < x50))))]) (fun _ w' => w9 = w') ?_ ?_
          · simp only [List.take, List.drop]
            rcases Bool.eq_false_or_eq_true (decide (x50 < 1)) with hc54 | hc54
            · refine V_gn rfl rfl rfl hc54 rfl rfl rfl ?_
              refine V_gn rfl rfl rfl hc54 rfl rfl rfl ?_
              refine V_y (Y_pick_te rfl hc54 rfl) rfl rfl rfl ?_
              exact V_end fun a ha => ⟨(), ha.sub ⟨rfl, rfl, rfl, rfl, rfl, rfl, (by rw [hc54]; rfl), trivial⟩, rfl⟩
            · refine V_ge rfl rfl rfl hc54 ?_
              refine V_y (Y_move rfl) rfl rfl rfl ?_
              refine V_ge rfl rfl rfl hc54 ?_
              refine V_y (Y_gtr rfl rfl) rfl rfl rfl ?_
              refine V_y (Y_pick_fe rfl hc54 rfl) rfl rfl rfl ?_
              exact V_end fun a ha => ⟨(), ha.sub ⟨rfl, rfl, rfl, rfl, rfl, rfl, (by rw [hc54]; rfl), trivial⟩, rfl⟩
          simp only [List.take, List.drop]
          rintro _ _ rfl
          refine V_y (Y_assign rfl) rfl rfl rfl ?_
          refine V_to (fun _ _ => rfl) ?_
          refine C_cond rfl (fun hc56 => ?_) (fun hc56 => ?_)
          · rw [if_pos hc56] at h42
            refine C_seq ?_
            refine C_region ?_
            refine V_y (Y_assign rfl) rfl rfl rfl ?_
            refine V_to (fun _ _ => rfl) ?_
            obtain rfl := Option.some.inj h42
            obtain rfl := (h43 : Lp.rt _ = _)
            rw [Lp.andThen_rt] at hm
            obtain rfl := Option.some.inj hm
            refine C_ret ?_
            try simp only [↓inBlock_ret, ↓then_ret]
            exact retQ rfl (Res.one Tryz.results20 rfl) ⟨rfl, hK.kp⟩
          · rw [if_neg (nt hc56)] at h42
            refine C_seq ?_
            refine C_region ?_
            refine V_y (Y_move rfl) rfl rfl rfl ?_
            refine V_y (Y_gtr rfl rfl) rfl rfl rfl ?_
            refine V_y (Y_move rfl) rfl rfl rfl ?_
            obtain ⟨s58, hs58, h42⟩ := Option.bind_eq_some_iff.1 h42
            refine V_cut 9 (fun _ : Unit => [(1, .pointer (some ⟨b7, 0, none⟩)), (3, .int .i64 (k35 : Int)), (26, v29), (27, .int .i64 (x.ids.length : Int)), (28, .int .i64 (k35 : Int)), (52, .bool s58)]) (fun _ w' => w9 = w') ?_ ?_
            · simp only [List.take, List.drop]
              rcases Bool.eq_false_or_eq_true (decide ((0 : Int) < (k35 : Int))) with hc57 | hc57
              · rw [if_pos hc57] at hs58
                refine V_ge rfl rfl rfl hc57 ?_
                refine V_y (Y_move rfl) rfl rfl rfl ?_
                refine V_ge rfl rfl rfl hc57 ?_
                have h59 := El_know_Index_0 h11
                refine V_y (Y_fieldAddr Tryz.underlying25 rfl Tryz.sizeOf22 (by decide) rfl) rfl rfl rfl ?_
                refine V_ge rfl rfl rfl hc57 ?_
                obtain ⟨v60, h61, h62⟩ := El.list h59
                refine V_y (Y_load h61 Tryz.isAgg22 rfl) rfl rfl rfl ?_
                refine V_ge rfl rfl rfl hc57 ?_
                refine V_y (Y_move rfl) rfl rfl rfl ?_
                refine V_ge rfl rfl rfl hc57 ?_
                refine V_y (Y_subI rfl rfl) rfl rfl rfl ?_
                refine V_ge rfl rfl rfl hc57 ?_
                obtain ⟨x63, hx63, hs58⟩ := Option.bind_eq_some_iff.1 hs58
                refine V_indexAddr h62 hx63 Tryz.underlying22 Tryz.sizeOf3 rfl rfl rfl ?_
                intro b64 o65 h66
                refine V_ge rfl rfl rfl hc57 ?_
                refine V_y (Y_load (El.int h66) Tryz.isAgg3 rfl) rfl rfl rfl ?_
                refine V_ge rfl rfl rfl hc57 ?_
                refine V_y (Y_leq rfl rfl) rfl rfl rfl ?_
                refine V_y (Y_pick_te rfl hc57 rfl) rfl rfl rfl ?_
                obtain rfl := Option.some.inj hs58
                exact V_end fun a ha => ⟨(), ha.sub ⟨rfl, rfl, rfl, rfl, rfl, rfl, trivial⟩, rfl⟩
              · rw [if_neg (nt hc57)] at hs58
                refine V_gn rfl rfl rfl hc57 rfl rfl rfl ?_
                refine V_gn rfl rfl rfl hc57 rfl rfl rfl ?_
                refine V_gn rfl rfl rfl hc57 rfl rfl rfl ?_
                refine V_gn rfl rfl rfl hc57 rfl rfl rfl ?_
                refine V_gn rfl rfl rfl hc57 rfl rfl rfl ?_
                refine V_gn rfl rfl rfl hc57 rfl rfl rfl ?_
                refine V_gn rfl rfl rfl hc57 rfl rfl rfl ?_
                refine V_gn rfl rfl rfl hc57 rfl rfl rfl ?_
                refine V_y (Y_pick_fe rfl hc57 rfl) rfl rfl rfl ?_
                obtain rfl := Option.some.inj hs58
                exact V_end fun a ha => ⟨(), ha.sub ⟨rfl, rfl, rfl, rfl, rfl, rfl, trivial⟩, rfl⟩
            simp only [List.take, List.drop]
            rintro _ _ rfl
            refine V_y (Y_assign rfl) rfl rfl rfl ?_
            refine V_to (fun _ _ => rfl) ?_
            refine C_cond rfl (fun hc67 => ?_) (fun hc67 => ?_)
            · rw [if_pos hc67] at h42
              refine C_seq ?_
              refine C_region ?_
              refine V_y (Y_assign rfl) rfl rfl rfl ?_
              refine V_to (fun _ _ => rfl) ?_
              obtain rfl := Option.some.inj h42
              obtain rfl := (h43 : Lp.rt _ = _)
              rw [Lp.andThen_rt] at hm
              obtain rfl := Option.some.inj hm
              refine C_ret ?_
              try simp only [↓inBlock_ret, ↓then_ret]
              exact retQ rfl (Res.one Tryz.results20 rfl) ⟨rfl, hK.kp⟩
            · rw [if_neg (nt hc67)] at h42
              refine C_seq ?_
              refine C_region ?_
              have h68 := El_know_Index_1 h11
              refine V_y (Y_fieldAddr Tryz.underlying25 rfl Tryz.sizeOf22 (by decide) rfl) rfl rfl rfl ?_
              obtain ⟨v69, h70, h71⟩ := El.list h68
              refine V_y (Y_load h70 Tryz.isAgg22 rfl) rfl rfl rfl ?_
              refine V_y (Y_move rfl) rfl rfl rfl ?_
              obtain ⟨x72, hx72, h42⟩ := Option.bind_eq_some_iff.1 h42
              refine V_indexAddr h71 hx72 Tryz.underlying22 Tryz.sizeOf3 rfl rfl rfl ?_
              intro b73 o74 h75
              refine V_y (Y_load (El.int h75) Tryz.isAgg3 rfl) rfl rfl rfl ?_
              refine V_y (Y_lss rfl rfl) rfl rfl rfl ?_
              refine V_y (Y_move rfl) rfl rfl rfl ?_
              obtain ⟨s77, hs77, h42⟩ := Option.bind_eq_some_iff.1 h42
              refine V_cut 7 (fun _ : Unit => [(1, .pointer (some ⟨b7, 0, none⟩)), (26, v29), (27, .int .i64 (x.ids.length : Int)), (28, .int .i64 (k35 : Int)), (67, .bool s77)]) (fun _ w' => w9 = w') ?_ ?_
              · simp only [List.take, List.drop]
                rcases Bool.eq_false_or_eq_true (decide (x72 < 0)) with hc76 | hc76
                · rw [if_pos hc76] at hs77
                  refine V_gn rfl rfl rfl hc76 rfl rfl rfl ?_
                  refine V_gn rfl rfl rfl hc76 rfl rfl rfl ?_
                  refine V_gn rfl rfl rfl hc76 rfl rfl rfl ?_
                  refine V_gn rfl rfl rfl hc76 rfl rfl rfl ?_
                  refine V_gn rfl rfl rfl hc76 rfl rfl rfl ?_
                  refine V_gn rfl rfl rfl hc76 rfl rfl rfl ?_
                  refine V_y (Y_pick_te rfl hc76 rfl) rfl rfl rfl ?_
                  obtain rfl := Option.some.inj hs77
                  exact V_end fun a ha => ⟨(), ha.sub ⟨rfl, rfl, rfl, rfl, rfl, trivial⟩, rfl⟩
                · rw [if_neg (nt hc76)] at hs77
                  refine V_ge rfl rfl rfl hc76 ?_
                  have h78 := El_know_Index_1 h11
                  refine V_y (Y_fieldAddr Tryz.underlying25 rfl Tryz.sizeOf22 (by decide) rfl) rfl rfl rfl ?_
                  refine V_ge rfl rfl rfl hc76 ?_
                  obtain ⟨v79, h80, h81⟩ := El.list h78
                  refine V_y (Y_load h80 Tryz.isAgg22 rfl) rfl rfl rfl ?_
                  refine V_ge rfl rfl rfl hc76 ?_
                  refine V_y (Y_move rfl) rfl rfl rfl ?_
                  refine V_ge rfl rfl rfl hc76 ?_
                  refine V_indexAddr h81 hx72 Tryz.underlying22 Tryz.sizeOf3 rfl rfl rfl ?_
                  intro b82 o83 h84
                  refine V_ge rfl rfl rfl hc76 ?_
                  refine V_y (Y_load (El.int h84) Tryz.isAgg3 rfl) rfl rfl rfl ?_
                  refine V_ge rfl rfl rfl hc76 ?_
                  refine V_y (Y_gtr rfl rfl) rfl rfl rfl ?_
                  refine V_y (Y_pick_fe rfl hc76 rfl) rfl rfl rfl ?_
                  obtain rfl := Option.some.inj hs77
                  exact V_end fun a ha => ⟨(), ha.sub ⟨rfl, rfl, rfl, rfl, rfl, trivial⟩, rfl⟩
              simp only [List.take, List.drop]
              rintro _ _ rfl
              refine V_y (Y_assign rfl) rfl rfl rfl ?_
              refine V_to (fun _ _ => rfl) ?_
              refine C_cond rfl (fun hc85 => ?_) (fun hc85 => ?_)
              · rw [if_pos hc85] at h42
                refine C_seq ?_
                refine C_region ?_
                refine V_y (Y_assign rfl) rfl rfl rfl ?_
                refine V_to (fun _ _ => rfl) ?_
                obtain rfl := Option.some.inj h42
                obtain rfl := (h43 : Lp.rt _ = _)
                rw [Lp.andThen_rt] at hm
                obtain rfl := Option.some.inj hm
                refine C_ret ?_
                try simp only [↓inBlock_ret, ↓then_ret]
                exact retQ rfl (Res.one Tryz.results20 rfl) ⟨rfl, hK.kp⟩
              · rw [if_neg (nt hc85)] at h42
                refine C_skip_to (fun _ _ => rfl) ?_
                refine C_region ?_
                refine V_y (Y_addI rfl rfl) rfl rfl rfl ?_
                refine V_y (Y_move rfl) rfl rfl rfl ?_
                obtain rfl := Option.some.inj h42
                refine V_end (fun a ha86 => ?_)
                exact ⟨(), hlt45, h43, ⟨(), ha86.sub ⟨rfl, rfl, rfl, (congrArg (fun z => some (Value.int .i64 z)) (w64_succ hlt45 hn48)), trivial⟩, rfl⟩⟩
        · refine C_exit (fun a ha87 => ?_)
          exact ⟨(), ha87.sub ⟨rfl, trivial⟩, ⟨(h46 (eq_of_dec hle44 hc49)).symm, rfl⟩⟩
      rintro s33 _ ⟨rfl, rfl⟩ a ha38
      rw [Lp.andThen_fin] at hm
      refine C_at (n := ⟨174, [], none⟩) (fun _ _ => rfl) ?_ ha38
      refine C_seq ?_
      refine C_seq ?_
      refine C_region ?_
      have h89 := El_know_Index_2 h11
      refine V_y (Y_fieldAddr Tryz.underlying25 rfl Tryz.sizeOf23 (by decide) rfl) rfl rfl rfl ?_
      obtain ⟨v90, h91, h92⟩ := El.list h89
      refine V_y (Y_load h91 Tryz.isAgg23 rfl) rfl rfl rfl ?_
      refine V_y (Y_lenSl h92 rfl Tryz.underlying23 rfl) rfl rfl rfl ?_
      refine V_y (Y_move rfl) rfl rfl rfl ?_
      refine V_to (fun _ _ => rfl) ?_
      have hn113 := Sl.le h92
      obtain ⟨o93, ho93, hm⟩ := Option.bind_eq_some_iff.1 hm
      refine C_cutG (ι := (Unit × (Nat → Prop))) (fun ⟨s94, A100⟩ => []) (fun ⟨s94, A100⟩ => fun w' => o93 = .fin s94 ∧ Hp w.heap.size A100 w' ([]) ∧ Tr Dw w.heap.size A w9 A100 w') ?_ ?_
      · refine C_block ?_
        refine C_range ho93 (fun k96 _ a w' => ∃ i : (Nat → Prop), Has ⟨174, [], none⟩ a ([(1, .pointer (some ⟨b7, 0, none⟩)), (70, v90), (71, .int .i64 (x.terms.length : Int)), (72, .int .i64 (k96 : Int))]) ∧ Hp w.heap.size i w' ([]) ∧ Tr Dw w.heap.size A w9 i w') (fun a ha => ⟨A, ha.sub ⟨rfl, rfl, rfl, rfl, trivial⟩, ⟨hH, Tr.refl (Dw := Dw) hA⟩⟩) ?_
        rintro K k96 _ a w103 ⟨A104, ha337, hH105, hr95⟩ hle109 K112 h111
        refine C_of ?_ ha337
        replace h11 := El.tr (Dw := Dw) h11 hr95
        replace h92 := Sl.tr (Dw := Dw) h92 hr95
        replace hK := Tr.trans (Dw := Dw) hK hr95
        replace hB := Nat.le_trans hB hr95.ex.size
        replace hA := hr95.new
        replace hH : Hp w.heap.size A104 w103 ([]) := hH105
        refine C_seq (C_region (V_y (Y_lss rfl rfl) rfl rfl rfl (V_to (fun _ _ => rfl) ?_)))
        refine C_seq ?_
        refine C_cond rfl (fun hc114 => ?_) (fun hc114 => ?_)
        · have hlt110 := lt_of_dec hc114
          obtain ⟨x106, h107, h108⟩ := K112 hlt110
          refine C_skip_to (fun _ _ => rfl) ?_
          refine C_seq ?_
          obtain ⟨o115, ho115, h107⟩ := Option.bind_eq_some_iff.1 h107
          refine C_cutG (ι := (Unit × (Nat → Prop))) (fun ⟨s116, A121⟩ => [(1, .pointer (some ⟨b7, 0, none⟩)), (70, v90), (71, .int .i64 (x.terms.length : Int)), (72, .int .i64 (k96 : Int))]) (fun ⟨s116, A121⟩ => fun w' => o115 = .fin s116 ∧ Hp w.heap.size A121 w' ([]) ∧ Tr Dw w.heap.size A104 w103 A121 w') ?_ ?_
          · have hr117 : Tr Dw w.heap.size A104 w103 A104 w103 := Tr.refl (Dw := Dw) hA
            refine C_block ?_
            refine C_seq ?_
            refine C_region ?_
            refine V_y (Y_move rfl) rfl rfl rfl ?_
            obtain ⟨x123, hx123, ho115⟩ := Option.bind_eq_some_iff.1 ho115
            refine V_indexAddr h92 hx123 Tryz.underlying23 Tryz.sizeOf44 rfl rfl rfl ?_
            intro b124 o125 h126
            obtain ⟨v127, h129, h128⟩ := El_know_Term h126
            refine V_y (Y_loadA h129 Tryz.isAgg44 Tryz.sizeOf44 rfl) rfl rfl rfl ?_
            refine V_alloc Tryz.zeroValue44 rfl ?_
            intro b130 w131 h132
            refine V_y (Y_assign rfl) rfl rfl rfl ?_
            have h137 : (v127).oneCell' = true := by obtain ⟨_, _, e, _⟩ := Sl.form h128; rw [e]; rfl
            refine V_storeNew h132 Tryz.sizeOf44 rfl rfl rfl rfl (by exact (List.forall_mem_cons.2 ⟨rfl, (List.forall_mem_cons.2 ⟨h137, (fun _ h => nomatch h)⟩)⟩)) ?_
            intro w133 h134
            have hk139 := h134.kp (Dw := Dw)
            have h138 : El (α := know_Term) A104 w133 b130 0 x123 := h134.el hA ⟨[.string x123.word], _, rfl, rfl, ⟨_, rfl, h128⟩⟩
            have ht140 := Kp.tr (Dw := Dw) hk139 hA hB
            replace hH := Hp.kp (Dw := Dw) hH hk139
            replace h11 := El.tr (Dw := Dw) h11 ht140
            replace h92 := Sl.tr (Dw := Dw) h92 ht140
            replace h126 := El.tr (Dw := Dw) h126 ht140
            replace h128 := Sl.tr (Dw := Dw) h128 ht140
            replace hK := Tr.trans (Dw := Dw) hK ht140
            replace hr95 := Tr.trans (Dw := Dw) hr95 ht140
            replace hr117 := Tr.trans (Dw := Dw) hr117 ht140
            replace hB := Nat.le_trans hB ht140.ex.size
            replace hA := ht140.new
            refine V_to (fun _ _ => rfl) ?_
            refine C_seq ?_
            refine C_seq ?_
            refine C_region ?_
            have h141 := El_know_Term_0 h138
            refine V_y (Y_fieldAddr Tryz.underlying44 rfl Tryz.sizeOf9 (by decide) rfl) rfl rfl rfl ?_
            refine V_y (Y_load (El.str h141) Tryz.isAgg9 rfl) rfl rfl rfl ?_
            obtain ⟨x142, hx142, ho115⟩ := Option.bind_eq_some_iff.1 ho115
            refine V_call Tryz.call21 rfl rfl rfl rfl (portref2_WordsOf_c (Dw := Dw) w133 hA x123.word hx142) ?_
            rintro v143 w145 ⟨_, rfl, h144, hk146⟩
            obtain ⟨A147, ht148, hH149⟩ := Hp.addOwnd (Dw := Dw) hH hB hA hk146 h144
            replace h11 := El.tr (Dw := Dw) h11 ht148
            replace h92 := Sl.tr (Dw := Dw) h92 ht148
            replace h138 := El.tr (Dw := Dw) h138 ht148
            replace h141 := El.tr (Dw := Dw) h141 ht148
            replace hK := Tr.trans (Dw := Dw) hK ht148
            replace hr95 := Tr.trans (Dw := Dw) hr95 ht148
            replace hr117 := Tr.trans (Dw := Dw) hr117 ht148
            replace hB := Nat.le_trans hB ht148.ex.size
            replace hA := ht148.new
            replace hH : Hp w.heap.size A147 w145 (obS (α := ByteArray) 9 v143 x142 :: []) := hH149
            refine V_y (Y_assign rfl) rfl rfl rfl ?_
            refine V_to (fun _ _ => rfl) ?_
            refine C_seq ?_
            refine C_region_q (Dw := Dw) Tryz_mixed (by kernel_rfl) ?_
            refine VQ_y (fun w' hw' => Y_move rfl) rfl rfl rfl ?_
            refine VQ_y (fun w' hw' => Y_lenSl (Hp.any (α := ByteArray) (e := 9) (v := v143) (l := x142) hH (i := 0) rfl) rfl Tryz.underlying37 rfl) rfl rfl rfl ?_
            refine VQ_y (fun w' hw' => Y_neq rfl rfl) rfl rfl rfl ?_
            refine VQ_y (fun w' hw' => Y_move rfl) rfl rfl rfl ?_
            obtain ⟨s151, hs151, ho115⟩ := Option.bind_eq_some_iff.1 ho115
            refine VQ_cut 7 (fun _ : Unit => [(1, .pointer (some ⟨b7, 0, none⟩)), (5, .int .i64 (k96 : Int)), (6, .pointer (some ⟨b130, 0, none⟩)), (70, v90), (71, .int .i64 (x.terms.length : Int)), (72, .int .i64 (k96 : Int)), (90, .bool s151)]) (fun _ => True) ?_ ?_
            · simp only [List.take, List.drop]
              rcases Bool.eq_false_or_eq_true ((x142.length : Int) != 1) with hc150 | hc150
              · rw [if_pos hc150] at hs151
                refine VQ_gn rfl rfl rfl hc150 rfl rfl rfl ?_
                refine VQ_gn rfl rfl rfl hc150 rfl rfl rfl ?_
                refine VQ_gn rfl rfl rfl hc150 rfl rfl rfl ?_
                refine VQ_gn rfl rfl rfl hc150 rfl rfl rfl ?_
                refine VQ_gn rfl rfl rfl hc150 rfl rfl rfl ?_
                refine VQ_gn rfl rfl rfl hc150 rfl rfl rfl ?_
                refine VQ_y (fun _ _ => Y_pick_te rfl hc150 rfl) rfl rfl rfl ?_
                obtain rfl := Option.some.inj hs151
                exact VQ_end fun a ha => ⟨(), ha.sub ⟨rfl, rfl, rfl, rfl, rfl, rfl, rfl, trivial⟩, trivial⟩
              · rw [if_neg (nt hc150)] at hs151
                refine VQ_ge rfl rfl rfl hc150 ?_
                refine VQ_y (fun w' hw' => Y_move rfl) rfl rfl rfl ?_
                refine VQ_ge rfl rfl rfl hc150 ?_
                obtain ⟨x152, hx152, hs151⟩ := Option.bind_eq_some_iff.1 hs151
                refine VQ_indexAddrH (α := ByteArray) (e := 9) (v := v143) (l := x142) hH (i := 0) rfl hx152 Tryz.underlying37 Tryz.sizeOf9 rfl rfl rfl ?_
                intro b153 o154 h155 hl156
                refine VQ_ge rfl rfl rfl hc150 ?_
                refine VQ_y (fun w' hw' => Y_load (El.str (El.kp (Dw := Dw) h155 hw')) Tryz.isAgg9 rfl) rfl rfl rfl ?_
                refine VQ_ge rfl rfl rfl hc150 ?_
                have h157 := El_know_Term_0 h138
                refine VQ_y (fun w' hw' => Y_fieldAddr Tryz.underlying44 rfl Tryz.sizeOf9 (by decide) rfl) rfl rfl rfl ?_
                refine VQ_ge rfl rfl rfl hc150 ?_
                refine VQ_y (fun w' hw' => Y_load (El.str (El.kp (Dw := Dw) h157 hw')) Tryz.isAgg9 rfl) rfl rfl rfl ?_
                refine VQ_ge rfl rfl rfl hc150 ?_
                refine VQ_y (fun w' hw' => Y_sneq rfl rfl) rfl rfl rfl ?_
                refine VQ_y (fun _ _ => Y_pick_fe rfl hc150 rfl) rfl rfl rfl ?_
                obtain rfl := Option.some.inj hs151
                exact VQ_end fun a ha => ⟨(), ha.sub ⟨rfl, rfl, rfl, rfl, rfl, rfl, rfl, trivial⟩, trivial⟩
            simp only [List.take, List.drop]
            rintro _ _
            refine VQ_y (fun w' hw' => Y_move rfl) rfl rfl rfl ?_
            refine VQ_cut 5 (fun _ : Unit => [(1, .pointer (some ⟨b7, 0, none⟩)), (5, .int .i64 (k96 : Int)), (6, .pointer (some ⟨b130, 0, none⟩)), (70, v90), (71, .int .i64 (x.terms.length : Int)), (72, .int .i64 (k96 : Int)), (96, .bool (s151 || ((x123.list_.length : Int) == 0)))]) (fun _ => True) ?_ ?_
            · simp only [List.take, List.drop]
              rcases Bool.eq_false_or_eq_true (s151) with hc158 | hc158
              · refine VQ_gn rfl rfl rfl hc158 rfl rfl rfl ?_
                refine VQ_gn rfl rfl rfl hc158 rfl rfl rfl ?_
                refine VQ_gn rfl rfl rfl hc158 rfl rfl rfl ?_
                refine VQ_gn rfl rfl rfl hc158 rfl rfl rfl ?_
                refine VQ_y (fun _ _ => Y_pick_te rfl hc158 rfl) rfl rfl rfl ?_
                exact VQ_end fun a ha => ⟨(), ha.sub ⟨rfl, rfl, rfl, rfl, rfl, rfl, (by rw [hc158]; rfl), trivial⟩, trivial⟩
              · refine VQ_ge rfl rfl rfl hc158 ?_
                have h160 := El_know_Term_1 h138
                refine VQ_y (fun w' hw' => Y_fieldAddr Tryz.underlying44 rfl Tryz.sizeOf42 (by decide) rfl) rfl rfl rfl ?_
                refine VQ_ge rfl rfl rfl hc158 ?_
                obtain ⟨v161, h162, h163⟩ := El.list h160
                refine VQ_y (fun w' hw' => Y_load ((World.cell?_of_block (hw'.block _ (World.block_lt_of_cell? _ _ h162))).trans h162) Tryz.isAgg42 rfl) rfl rfl rfl ?_
                refine VQ_ge rfl rfl rfl hc158 ?_
                refine VQ_y (fun w' hw' => Y_lenSl h163 rfl Tryz.underlying42 rfl) rfl rfl rfl ?_
                refine VQ_ge rfl rfl rfl hc158 ?_
                refine VQ_y (fun w' hw' => Y_eql rfl rfl) rfl rfl rfl ?_
                refine VQ_y (fun _ _ => Y_pick_fe rfl hc158 rfl) rfl rfl rfl ?_
                exact VQ_end fun a ha => ⟨(), ha.sub ⟨rfl, rfl, rfl, rfl, rfl, rfl, (by rw [hc158]; rfl), trivial⟩, trivial⟩
            simp only [List.take, List.drop]
            rintro _ _
            refine VQ_to (fun _ _ => rfl) (fun w164 hk165 => ?_)
            have ht166 := Kp.tr (Dw := Dw) hk165 hA hB
            replace hH := Hp.kp (Dw := Dw) hH hk165
            replace h11 := El.tr (Dw := Dw) h11 ht166
            replace h92 := Sl.tr (Dw := Dw) h92 ht166
            replace h138 := El.tr (Dw := Dw) h138 ht166
            replace hK := Tr.trans (Dw := Dw) hK ht166
            replace hr95 := Tr.trans (Dw := Dw) hr95 ht166
            replace hr117 := Tr.trans (Dw := Dw) hr117 ht166
            replace hB := Nat.le_trans hB ht166.ex.size
            replace hA := ht166.new
            refine C_cond rfl (fun hc167 => ?_) (fun hc167 => ?_)
            · rw [if_pos hc167] at ho115
              refine C_seq ?_
              refine C_region ?_
              refine V_y (Y_assign rfl) rfl rfl rfl ?_
              refine V_to (fun _ _ => rfl) ?_
              obtain rfl := Option.some.inj ho115
              rw [Lp.andThen_rt] at h107
              obtain rfl := Option.some.inj h107
              obtain rfl := (h108 : Lp.rt _ = _)
              rw [Lp.andThen_rt] at hm
              obtain rfl := Option.some.inj hm
              refine C_ret ?_
              try simp only [↓inBlock_ret, ↓then_ret]
              exact retQ rfl (Res.one Tryz.results20 rfl) ⟨rfl, hK.kp⟩
            · rw [if_neg (nt hc167)] at ho115
              refine C_skip_to (fun _ _ => rfl) ?_
              refine C_seq ?_
              refine C_seq ?_
              refine C_region_q (Dw := Dw) Tryz_mixed (by kernel_rfl) ?_
              refine VQ_y (fun w' hw' => Y_move rfl) rfl rfl rfl ?_
              refine VQ_y (fun w' hw' => Y_gtr rfl rfl) rfl rfl rfl ?_
              refine VQ_y (fun w' hw' => Y_move rfl) rfl rfl rfl ?_
              obtain ⟨s169, hs169, ho115⟩ := Option.bind_eq_some_iff.1 ho115
              refine VQ_cut 11 (fun _ : Unit => [(1, .pointer (some ⟨b7, 0, none⟩)), (6, .pointer (some ⟨b130, 0, none⟩)), (70, v90), (71, .int .i64 (x.terms.length : Int)), (72, .int .i64 (k96 : Int)), (110, .bool s169)]) (fun _ => True) ?_ ?_
              · simp only [List.take, List.drop]
                rcases Bool.eq_false_or_eq_true (decide ((0 : Int) < (k96 : Int))) with hc168 | hc168
                · rw [if_pos hc168] at hs169
                  refine VQ_ge rfl rfl rfl hc168 ?_
                  have h170 := El_know_Term_0 h138
                  refine VQ_y (fun w' hw' => Y_fieldAddr Tryz.underlying44 rfl Tryz.sizeOf9 (by decide) rfl) rfl rfl rfl ?_
                  refine VQ_ge rfl rfl rfl hc168 ?_
                  refine VQ_y (fun w' hw' => Y_load (El.str (El.kp (Dw := Dw) h170 hw')) Tryz.isAgg9 rfl) rfl rfl rfl ?_
                  refine VQ_ge rfl rfl rfl hc168 ?_
                  have h171 := El_know_Index_2 h11
                  refine VQ_y (fun w' hw' => Y_fieldAddr Tryz.underlying25 rfl Tryz.sizeOf23 (by decide) rfl) rfl rfl rfl ?_
                  refine VQ_ge rfl rfl rfl hc168 ?_
                  obtain ⟨v172, h173, h174⟩ := El.list h171
                  refine VQ_y (fun w' hw' => Y_load ((World.cell?_of_block (hw'.block _ (World.block_lt_of_cell? _ _ h173))).trans h173) Tryz.isAgg23 rfl) rfl rfl rfl ?_
                  refine VQ_ge rfl rfl rfl hc168 ?_
                  refine VQ_y (fun w' hw' => Y_move rfl) rfl rfl rfl ?_
                  refine VQ_ge rfl rfl rfl hc168 ?_
                  refine VQ_y (fun w' hw' => Y_subI rfl rfl) rfl rfl rfl ?_
                  refine VQ_ge rfl rfl rfl hc168 ?_
                  obtain ⟨x175, hx175, hs169⟩ := Option.bind_eq_some_iff.1 hs169
                  refine VQ_indexAddr h174 hx175 Tryz.underlying23 Tryz.sizeOf44 rfl rfl rfl ?_
                  intro b176 o177 h178
                  refine VQ_ge rfl rfl rfl hc168 ?_
                  have h179 := El_know_Term_0 h178
                  refine VQ_y (fun w' hw' => Y_fieldAddr Tryz.underlying44 rfl Tryz.sizeOf9 (by decide) rfl) rfl rfl rfl ?_
                  refine VQ_ge rfl rfl rfl hc168 ?_
                  refine VQ_y (fun w' hw' => Y_load (El.str (El.kp (Dw := Dw) h179 hw')) Tryz.isAgg9 rfl) rfl rfl rfl ?_
                  refine VQ_ge rfl rfl rfl hc168 ?_
                  refine VQ_y (fun w' hw' => Y_sleq rfl rfl) rfl rfl rfl ?_
                  refine VQ_y (fun _ _ => Y_pick_te rfl hc168 rfl) rfl rfl rfl ?_
                  obtain rfl := Option.some.inj hs169
                  exact VQ_end fun a ha => ⟨(), ha.sub ⟨rfl, rfl, rfl, rfl, rfl, rfl, trivial⟩, trivial⟩
                · rw [if_neg (nt hc168)] at hs169
                  refine VQ_gn rfl rfl rfl hc168 rfl rfl rfl ?_
                  refine VQ_gn rfl rfl rfl hc168 rfl rfl rfl ?_
                  refine VQ_gn rfl rfl rfl hc168 rfl rfl rfl ?_
                  refine VQ_gn rfl rfl rfl hc168 rfl rfl rfl ?_
                  refine VQ_gn rfl rfl rfl hc168 rfl rfl rfl ?_
                  refine VQ_gn rfl rfl rfl hc168 rfl rfl rfl ?_
                  refine VQ_gn rfl rfl rfl hc168 rfl rfl rfl ?_
                  refine VQ_gn rfl rfl rfl hc168 rfl rfl rfl ?_
                  refine VQ_gn rfl rfl rfl hc168 rfl rfl rfl ?_
                  refine VQ_gn rfl rfl rfl hc168 rfl rfl rfl ?_
                  refine VQ_y (fun _ _ => Y_pick_fe rfl hc168 rfl) rfl rfl rfl ?_
                  obtain rfl := Option.some.inj hs169
                  exact VQ_end fun a ha => ⟨(), ha.sub ⟨rfl, rfl, rfl, rfl, rfl, rfl, trivial⟩, trivial⟩
              simp only [List.take, List.drop]
              rintro _ _
              refine VQ_to (fun _ _ => rfl) (fun w180 hk181 => ?_)
              have ht182 := Kp.tr (Dw := Dw) hk181 hA hB
              replace hH := Hp.kp (Dw := Dw) hH hk181
              replace h11 := El.tr (Dw := Dw) h11 ht182
              replace h92 := Sl.tr (Dw := Dw) h92 ht182
              replace h138 := El.tr (Dw := Dw) h138 ht182
              replace hK := Tr.trans (Dw := Dw) hK ht182
              replace hr95 := Tr.trans (Dw := Dw) hr95 ht182
              replace hr117 := Tr.trans (Dw := Dw) hr117 ht182
              replace hB := Nat.le_trans hB ht182.ex.size
              replace hA := ht182.new
              refine C_cond rfl (fun hc183 => ?_) (fun hc183 => ?_)
              · rw [if_pos hc183] at ho115
                refine C_seq ?_
                refine C_region ?_
                refine V_y (Y_assign rfl) rfl rfl rfl ?_
                refine V_to (fun _ _ => rfl) ?_
                obtain rfl := Option.some.inj ho115
                rw [Lp.andThen_rt] at h107
                obtain rfl := Option.some.inj h107
                obtain rfl := (h108 : Lp.rt _ = _)
                rw [Lp.andThen_rt] at hm
                obtain rfl := Option.some.inj hm
                refine C_ret ?_
                try simp only [↓inBlock_ret, ↓then_ret]
                exact retQ rfl (Res.one Tryz.results20 rfl) ⟨rfl, hK.kp⟩
              · rw [if_neg (nt hc183)] at ho115
                refine C_skip_to (fun _ _ => rfl) ?_
                refine C_seq ?_
                refine C_region ?_
                have h184 := El_know_Term_1 h138
                refine V_y (Y_fieldAddr Tryz.underlying44 rfl Tryz.sizeOf42 (by decide) rfl) rfl rfl rfl ?_
                obtain ⟨v185, h186, h187⟩ := El.list h184
                refine V_y (Y_load h186 Tryz.isAgg42 rfl) rfl rfl rfl ?_
                refine V_y (Y_lenSl h187 rfl Tryz.underlying42 rfl) rfl rfl rfl ?_
                refine V_y (Y_move rfl) rfl rfl rfl ?_
                refine V_to (fun _ _ => rfl) ?_
                have hn208 := Sl.le h187
                obtain ⟨o188, ho188, ho115⟩ := Option.bind_eq_some_iff.1 ho115
                refine C_cutG (ι := (Unit × (Nat → Prop))) (fun ⟨s189, A195⟩ => [(1, .pointer (some ⟨b7, 0, none⟩)), (70, v90), (71, .int .i64 (x.terms.length : Int)), (72, .int .i64 (k96 : Int))]) (fun ⟨s189, A195⟩ => fun w' => o188 = .fin s189 ∧ Hp w.heap.size A195 w' (obS (α := ByteArray) 9 v143 x142 :: []) ∧ Tr Dw w.heap.size A147 w180 A195 w') ?_ ?_
                · refine C_block ?_
                  refine C_range ho188 (fun k191 _ a w' => ∃ i : (Nat → Prop), Has ⟨174, [], none⟩ a ([(1, .pointer (some ⟨b7, 0, none⟩)), (6, .pointer (some ⟨b130, 0, none⟩)), (70, v90), (71, .int .i64 (x.terms.length : Int)), (72, .int .i64 (k96 : Int)), (112, v185), (113, .int .i64 (x123.list_.length : Int)), (114, .int .i64 (k191 : Int))]) ∧ Hp w.heap.size i w' (obS (α := ByteArray) 9 v143 x142 :: []) ∧ Tr Dw w.heap.size A147 w180 i w') (fun a ha => ⟨A147, ha.sub ⟨rfl, rfl, rfl, rfl, rfl, rfl, rfl, rfl, trivial⟩, ⟨hH, Tr.refl (Dw := Dw) hA⟩⟩) ?_
                  rintro K k191 _ a w198 ⟨A199, ha333, hH200, hr190⟩ hle204 K207 h206
                  refine C_of ?_ ha333
                  replace h11 := El.tr (Dw := Dw) h11 hr190
                  replace h92 := Sl.tr (Dw := Dw) h92 hr190
                  replace h138 := El.tr (Dw := Dw) h138 hr190
                  replace h187 := Sl.tr (Dw := Dw) h187 hr190
                  replace hK := Tr.trans (Dw := Dw) hK hr190
                  replace hr95 := Tr.trans (Dw := Dw) hr95 hr190
                  replace hr117 := Tr.trans (Dw := Dw) hr117 hr190
                  replace hB := Nat.le_trans hB hr190.ex.size
                  replace hA := hr190.new
                  replace hH : Hp w.heap.size A199 w198 (obS (α := ByteArray) 9 v143 x142 :: []) := hH200
                  refine C_seq (C_region (V_y (Y_lss rfl rfl) rfl rfl rfl (V_to (fun _ _ => rfl) ?_)))
                  refine C_seq ?_
                  refine C_cond rfl (fun hc209 => ?_) (fun hc209 => ?_)
                  · have hlt205 := lt_of_dec hc209
                    obtain ⟨x201, h202, h203⟩ := K207 hlt205
                    refine C_skip_to (fun _ _ => rfl) ?_
                    refine C_seq ?_
                    obtain ⟨o210, ho210, h202⟩ := Option.bind_eq_some_iff.1 h202
                    refine C_cutG (ι := (Unit × (Nat → Prop))) (fun ⟨s211, A216⟩ => [(1, .pointer (some ⟨b7, 0, none⟩)), (6, .pointer (some ⟨b130, 0, none⟩)), (70, v90), (71, .int .i64 (x.terms.length : Int)), (72, .int .i64 (k96 : Int)), (112, v185), (113, .int .i64 (x123.list_.length : Int)), (114, .int .i64 (k191 : Int))]) (fun ⟨s211, A216⟩ => fun w' => o210 = .fin s211 ∧ Hp w.heap.size A216 w' (obS (α := ByteArray) 9 v143 x142 :: []) ∧ Tr Dw w.heap.size A199 w198 A216 w') ?_ ?_
                    · have hr212 : Tr Dw w.heap.size A199 w198 A199 w198 := Tr.refl (Dw := Dw) hA
                      refine C_block ?_
                      refine C_seq ?_
                      refine C_region ?_
                      refine V_y (Y_move rfl) rfl rfl rfl ?_
                      obtain ⟨x218, hx218, ho210⟩ := Option.bind_eq_some_iff.1 ho210
                      refine V_indexAddr h187 hx218 Tryz.underlying42 Tryz.sizeOf49 rfl rfl rfl ?_
                      intro b219 o220 h221
                      obtain ⟨v222, v224, h226, h223, h225⟩ := El_know_Posting h221
                      refine V_y (Y_loadA h226 Tryz.isAgg49 Tryz.sizeOf49 rfl) rfl rfl rfl ?_
                      refine V_alloc Tryz.zeroValue49 rfl ?_
                      intro b227 w228 h229
                      refine V_y (Y_assign rfl) rfl rfl rfl ?_
                      have h234 : (v222).oneCell' = true := by obtain ⟨_, _, e, _⟩ := Sl.form h223; rw [e]; rfl
                      have h237 : (v224).oneCell' = true := by obtain ⟨_, _, e, _⟩ := Sl.form h225; rw [e]; rfl
                      refine V_storeNew h229 Tryz.sizeOf49 rfl rfl rfl rfl (by exact (List.forall_mem_cons.2 ⟨rfl, (List.forall_mem_cons.2 ⟨h234, (List.forall_mem_cons.2 ⟨h237, (fun _ h => nomatch h)⟩)⟩)⟩)) ?_
                      intro w230 h231
                      have hk239 := h231.kp (Dw := Dw)
                      have h238 : El (α := know_Posting) A199 w230 b227 0 x218 := h231.el hA ⟨[.int .i64 x218.id_], _, rfl, rfl, ⟨[v222], _, rfl, ⟨_, rfl, h223⟩, ⟨_, rfl, h225⟩⟩⟩
                      have ht240 := Kp.tr (Dw := Dw) hk239 hA hB
                      replace hH := Hp.kp (Dw := Dw) hH hk239
                      replace h11 := El.tr (Dw := Dw) h11 ht240
                      replace h92 := Sl.tr (Dw := Dw) h92 ht240
                      replace h138 := El.tr (Dw := Dw) h138 ht240
                      replace h187 := Sl.tr (Dw := Dw) h187 ht240
                      replace h221 := El.tr (Dw := Dw) h221 ht240
                      replace h223 := Sl.tr (Dw := Dw) h223 ht240
                      replace h225 := Sl.tr (Dw := Dw) h225 ht240
                      replace hK := Tr.trans (Dw := Dw) hK ht240
                      replace hr95 := Tr.trans (Dw := Dw) hr95 ht240
                      replace hr117 := Tr.trans (Dw := Dw) hr117 ht240
                      replace hr190 := Tr.trans (Dw := Dw) hr190 ht240
                      replace hr212 := Tr.trans (Dw := Dw) hr212 ht240
                      replace hB := Nat.le_trans hB ht240.ex.size
                      replace hA := ht240.new
                      refine V_to (fun _ _ => rfl) ?_
                      refine C_seq ?_
                      refine C_region ?_
                      have h241 := El_know_Index_0 h11
                      refine V_y (Y_fieldAddr Tryz.underlying25 rfl Tryz.sizeOf22 (by decide) rfl) rfl rfl rfl ?_
                      obtain ⟨v242, h243, h244⟩ := El.list h241
                      refine V_y (Y_load h243 Tryz.isAgg22 rfl) rfl rfl rfl ?_
                      have h245 := El_know_Posting_0 h238
                      refine V_y (Y_fieldAddr Tryz.underlying49 rfl Tryz.sizeOf3 (by decide) rfl) rfl rfl rfl ?_
                      refine V_y (Y_load (El.int h245) Tryz.isAgg3 rfl) rfl rfl rfl ?_
                      obtain ⟨x246, hx246, ho210⟩ := Option.bind_eq_some_iff.1 ho210
                      refine V_call Tryz.call40 rfl rfl rfl rfl (slices_Index_Lint_int_c w230 x.ids v242 h244 x218.id_ hx246) ?_
                      rintro _ _ ⟨rfl, rfl⟩
                      refine V_y (Y_assign rfl) rfl rfl rfl ?_
                      refine V_to (fun _ _ => rfl) ?_
                      refine C_seq ?_
                      refine C_block ?_
                      refine C_seq ?_
                      refine C_region ?_
                      refine V_y (Y_move rfl) rfl rfl rfl ?_
                      refine V_y (Y_lss rfl rfl) rfl rfl rfl ?_
                      refine V_y (Y_assign rfl) rfl rfl rfl ?_
                      refine V_to (fun _ _ => rfl) ?_
                      refine C_cond rfl (fun hc247 => ?_) (fun hc247 => ?_)
                      · rw [if_pos hc247] at ho210
                        refine C_seq ?_
                        refine C_region ?_
                        refine V_y (Y_assign rfl) rfl rfl rfl ?_
                        refine V_to (fun _ _ => rfl) ?_
                        obtain rfl := Option.some.inj ho210
                        rw [Lp.andThen_rt] at h202
                        obtain rfl := Option.some.inj h202
                        obtain rfl := (h203 : Lp.rt _ = _)
                        rw [Lp.andThen_rt] at ho115
                        obtain rfl := Option.some.inj ho115
                        rw [Lp.andThen_rt] at h107
                        obtain rfl := Option.some.inj h107
                        obtain rfl := (h108 : Lp.rt _ = _)
                        rw [Lp.andThen_rt] at hm
                        obtain rfl := Option.some.inj hm
                        refine C_ret ?_
                        try simp only [↓inBlock_ret, ↓then_ret]
                        exact retQ rfl (Res.one Tryz.results20 rfl) ⟨rfl, hK.kp⟩
                      · rw [if_neg (nt hc247)] at ho210
                        refine C_seq ?_
                        refine C_region_q (Dw := Dw) Tryz_mixed (by kernel_rfl) ?_
                        refine VQ_y (fun w' hw' => Y_move rfl) rfl rfl rfl ?_
                        refine VQ_y (fun w' hw' => Y_gtr rfl rfl) rfl rfl rfl ?_
                        refine VQ_y (fun w' hw' => Y_move rfl) rfl rfl rfl ?_
                        obtain ⟨s249, hs249, ho210⟩ := Option.bind_eq_some_iff.1 ho210
                        refine VQ_cut 11 (fun _ : Unit => [(1, .pointer (some ⟨b7, 0, none⟩)), (6, .pointer (some ⟨b130, 0, none⟩)), (9, .pointer (some ⟨b227, 0, none⟩)), (10, .int .i64 x246), (70, v90), (71, .int .i64 (x.terms.length : Int)), (72, .int .i64 (k96 : Int)), (112, v185), (113, .int .i64 (x123.list_.length : Int)), (114, .int .i64 (k191 : Int)), (141, .bool s249)]) (fun _ => True) ?_ ?_
                        · simp only [List.take, List.drop]
                          rcases Bool.eq_false_or_eq_true (decide ((0 : Int) < (k191 : Int))) with hc248 | hc248
                          · rw [if_pos hc248] at hs249
                            refine VQ_ge rfl rfl rfl hc248 ?_
                            have h250 := El_know_Posting_0 h238
                            refine VQ_y (fun w' hw' => Y_fieldAddr Tryz.underlying49 rfl Tryz.sizeOf3 (by decide) rfl) rfl rfl rfl ?_
                            refine VQ_ge rfl rfl rfl hc248 ?_
                            refine VQ_y (fun w' hw' => Y_load (El.int (El.kp (Dw := Dw) h250 hw')) Tryz.isAgg3 rfl) rfl rfl rfl ?_
                            refine VQ_ge rfl rfl rfl hc248 ?_
                            have h251 := El_know_Term_1 h138
                            refine VQ_y (fun w' hw' => Y_fieldAddr Tryz.underlying44 rfl Tryz.sizeOf42 (by decide) rfl) rfl rfl rfl ?_
                            refine VQ_ge rfl rfl rfl hc248 ?_
                            obtain ⟨v252, h253, h254⟩ := El.list h251
                            refine VQ_y (fun w' hw' => Y_load ((World.cell?_of_block (hw'.block _ (World.block_lt_of_cell? _ _ h253))).trans h253) Tryz.isAgg42 rfl) rfl rfl rfl ?_
                            refine VQ_ge rfl rfl rfl hc248 ?_
                            refine VQ_y (fun w' hw' => Y_move rfl) rfl rfl rfl ?_
                            refine VQ_ge rfl rfl rfl hc248 ?_
                            refine VQ_y (fun w' hw' => Y_subI rfl rfl) rfl rfl rfl ?_
                            refine VQ_ge rfl rfl rfl hc248 ?_
                            obtain ⟨x255, hx255, hs249⟩ := Option.bind_eq_some_iff.1 hs249
                            refine VQ_indexAddr h254 hx255 Tryz.underlying42 Tryz.sizeOf49 rfl rfl rfl ?_
                            intro b256 o257 h258
                            refine VQ_ge rfl rfl rfl hc248 ?_
                            have h259 := El_know_Posting_0 h258
                            refine VQ_y (fun w' hw' => Y_fieldAddr Tryz.underlying49 rfl Tryz.sizeOf3 (by decide) rfl) rfl rfl rfl ?_
                            refine VQ_ge rfl rfl rfl hc248 ?_
                            refine VQ_y (fun w' hw' => Y_load (El.int (El.kp (Dw := Dw) h259 hw')) Tryz.isAgg3 rfl) rfl rfl rfl ?_
                            refine VQ_ge rfl rfl rfl hc248 ?_
                            refine VQ_y (fun w' hw' => Y_leq rfl rfl) rfl rfl rfl ?_
                            refine VQ_y (fun _ _ => Y_pick_te rfl hc248 rfl) rfl rfl rfl ?_
                            obtain rfl := Option.some.inj hs249
                            exact VQ_end fun a ha => ⟨(), ha.sub ⟨rfl, rfl, rfl, rfl, rfl, rfl, rfl, rfl, rfl, rfl, rfl, trivial⟩, trivial⟩
                          · rw [if_neg (nt hc248)] at hs249
                            refine VQ_gn rfl rfl rfl hc248 rfl rfl rfl ?_
                            refine VQ_gn rfl rfl rfl hc248 rfl rfl rfl ?_
                            refine VQ_gn rfl rfl rfl hc248 rfl rfl rfl ?_
                            refine VQ_gn rfl rfl rfl hc248 rfl rfl rfl ?_
                            refine VQ_gn rfl rfl rfl hc248 rfl rfl rfl ?_
                            refine VQ_gn rfl rfl rfl hc248 rfl rfl rfl ?_
                            refine VQ_gn rfl rfl rfl hc248 rfl rfl rfl ?_
                            refine VQ_gn rfl rfl rfl hc248 rfl rfl rfl ?_
                            refine VQ_gn rfl rfl rfl hc248 rfl rfl rfl ?_
                            refine VQ_gn rfl rfl rfl hc248 rfl rfl rfl ?_
                            refine VQ_y (fun _ _ => Y_pick_fe rfl hc248 rfl) rfl rfl rfl ?_
                            obtain rfl := Option.some.inj hs249
                            exact VQ_end fun a ha => ⟨(), ha.sub ⟨rfl, rfl, rfl, rfl, rfl, rfl, rfl, rfl, rfl, rfl, rfl, trivial⟩, trivial⟩
                        simp only [List.take, List.drop]
                        rintro _ _
                        refine VQ_y (fun w' hw' => Y_assign rfl) rfl rfl rfl ?_
                        refine VQ_to (fun _ _ => rfl) (fun w260 hk261 => ?_)
                        have ht262 := Kp.tr (Dw := Dw) hk261 hA hB
                        replace hH := Hp.kp (Dw := Dw) hH hk261
                        replace h11 := El.tr (Dw := Dw) h11 ht262
                        replace h92 := Sl.tr (Dw := Dw) h92 ht262
                        replace h138 := El.tr (Dw := Dw) h138 ht262
                        replace h187 := Sl.tr (Dw := Dw) h187 ht262
                        replace h238 := El.tr (Dw := Dw) h238 ht262
                        replace hK := Tr.trans (Dw := Dw) hK ht262
                        replace hr95 := Tr.trans (Dw := Dw) hr95 ht262
                        replace hr117 := Tr.trans (Dw := Dw) hr117 ht262
                        replace hr190 := Tr.trans (Dw := Dw) hr190 ht262
                        replace hr212 := Tr.trans (Dw := Dw) hr212 ht262
                        replace hB := Nat.le_trans hB ht262.ex.size
                        replace hA := ht262.new
                        refine C_cond rfl (fun hc263 => ?_) (fun hc263 => ?_)
                        · rw [if_pos hc263] at ho210
                          refine C_seq ?_
                          refine C_region ?_
                          refine V_y (Y_assign rfl) rfl rfl rfl ?_
                          refine V_to (fun _ _ => rfl) ?_
                          obtain rfl := Option.some.inj ho210
                          rw [Lp.andThen_rt] at h202
                          obtain rfl := Option.some.inj h202
                          obtain rfl := (h203 : Lp.rt _ = _)
                          rw [Lp.andThen_rt] at ho115
                          obtain rfl := Option.some.inj ho115
                          rw [Lp.andThen_rt] at h107
                          obtain rfl := Option.some.inj h107
                          obtain rfl := (h108 : Lp.rt _ = _)
                          rw [Lp.andThen_rt] at hm
                          obtain rfl := Option.some.inj hm
                          refine C_ret ?_
                          try simp only [↓inBlock_ret, ↓then_ret]
                          exact retQ rfl (Res.one Tryz.results20 rfl) ⟨rfl, hK.kp⟩
                        · rw [if_neg (nt hc263)] at ho210
                          refine C_seq ?_
                          refine C_region ?_
                          have h264 := El_know_Posting_1 h238
                          refine V_y (Y_fieldAddr Tryz.underlying49 rfl Tryz.sizeOf22 (by decide) rfl) rfl rfl rfl ?_
                          obtain ⟨v265, h266, h267⟩ := El.list h264
                          refine V_y (Y_load h266 Tryz.isAgg22 rfl) rfl rfl rfl ?_
                          refine V_y (Y_lenSl h267 rfl Tryz.underlying22 rfl) rfl rfl rfl ?_
                          have h268 := El_know_Posting_2 h238
                          refine V_y (Y_fieldAddr Tryz.underlying49 rfl Tryz.sizeOf22 (by decide) rfl) rfl rfl rfl ?_
                          obtain ⟨v269, h270, h271⟩ := El.list h268
                          refine V_y (Y_load h270 Tryz.isAgg22 rfl) rfl rfl rfl ?_
                          refine V_y (Y_lenSl h271 rfl Tryz.underlying22 rfl) rfl rfl rfl ?_
                          refine V_y (Y_addI rfl rfl) rfl rfl rfl ?_
                          refine V_y (Y_eql rfl rfl) rfl rfl rfl ?_
                          refine V_y (Y_assign rfl) rfl rfl rfl ?_
                          refine V_to (fun _ _ => rfl) ?_
                          refine C_cond rfl (fun hc272 => ?_) (fun hc272 => ?_)
                          · rw [if_pos hc272] at ho210
                            refine C_seq ?_
                            refine C_region ?_
                            refine V_y (Y_assign rfl) rfl rfl rfl ?_
                            refine V_to (fun _ _ => rfl) ?_
                            obtain rfl := Option.some.inj ho210
                            rw [Lp.andThen_rt] at h202
                            obtain rfl := Option.some.inj h202
                            obtain rfl := (h203 : Lp.rt _ = _)
                            rw [Lp.andThen_rt] at ho115
                            obtain rfl := Option.some.inj ho115
                            rw [Lp.andThen_rt] at h107
                            obtain rfl := Option.some.inj h107
                            obtain rfl := (h108 : Lp.rt _ = _)
                            rw [Lp.andThen_rt] at hm
                            obtain rfl := Option.some.inj hm
                            refine C_ret ?_
                            try simp only [↓inBlock_ret, ↓then_ret]
                            exact retQ rfl (Res.one Tryz.results20 rfl) ⟨rfl, hK.kp⟩
                          · rw [if_neg (nt hc272)] at ho210
                            refine C_skip_to (fun _ _ => rfl) ?_
                            refine C_seq ?_
                            refine C_region ?_
                            have h273 := El_know_Posting_1 h238
                            refine V_y (Y_fieldAddr Tryz.underlying49 rfl Tryz.sizeOf22 (by decide) rfl) rfl rfl rfl ?_
                            obtain ⟨v274, h275, h276⟩ := El.list h273
                            refine V_y (Y_load h275 Tryz.isAgg22 rfl) rfl rfl rfl ?_
                            have h277 := El_know_Posting_2 h238
                            refine V_y (Y_fieldAddr Tryz.underlying49 rfl Tryz.sizeOf22 (by decide) rfl) rfl rfl rfl ?_
                            obtain ⟨v278, h279, h280⟩ := El.list h277
                            refine V_y (Y_load h279 Tryz.isAgg22 rfl) rfl rfl rfl ?_
                            refine V_buildSlice (Dw := Dw) (cells := #[v274, v278]) (l := ([x218.title, x218.body] : List (List Int))) (len := 2) Tryz.underlying77 Tryz.sizeOf22 Tryz.zeroValue22 rfl (by obtain ⟨a285, c286, e287, _⟩ := Sl.form h276; subst e287; obtain ⟨a288, c289, e290, _⟩ := Sl.form h280; subst e290; kernel_rfl) (show (2 * 1 : Nat) ≠ 0 by decide) (show (2 * 1 : Nat) ≤ 2 ^ 24 by decide) hA ⟨[v274], _, rfl, ⟨_, rfl, h276⟩, ⟨[v278], _, rfl, ⟨_, rfl, h280⟩, rfl⟩⟩ rfl rfl ?_
                            intro v281 w282 hk284 h283
                            have ht291 := Kp.tr (Dw := Dw) hk284 hA hB
                            replace hH := Hp.kp (Dw := Dw) hH hk284
                            replace h11 := El.tr (Dw := Dw) h11 ht291
                            replace h92 := Sl.tr (Dw := Dw) h92 ht291
                            replace h138 := El.tr (Dw := Dw) h138 ht291
                            replace h187 := Sl.tr (Dw := Dw) h187 ht291
                            replace h238 := El.tr (Dw := Dw) h238 ht291
                            replace h273 := El.tr (Dw := Dw) h273 ht291
                            replace h276 := Sl.tr (Dw := Dw) h276 ht291
                            replace h277 := El.tr (Dw := Dw) h277 ht291
                            replace h280 := Sl.tr (Dw := Dw) h280 ht291
                            replace hK := Tr.trans (Dw := Dw) hK ht291
                            replace hr95 := Tr.trans (Dw := Dw) hr95 ht291
                            replace hr117 := Tr.trans (Dw := Dw) hr117 ht291
                            replace hr190 := Tr.trans (Dw := Dw) hr190 ht291
                            replace hr212 := Tr.trans (Dw := Dw) hr212 ht291
                            replace hB := Nat.le_trans hB ht291.ex.size
                            replace hA := ht291.new
                            refine V_y (Y_lenSl h283 rfl Tryz.underlying77 rfl) rfl rfl rfl ?_
                            refine V_y (Y_move rfl) rfl rfl rfl ?_
                            refine V_to (fun _ _ => rfl) ?_
                            have hn308 := Sl.le h283
                            obtain ⟨o292, ho292, ho210⟩ := Option.bind_eq_some_iff.1 ho210
                            refine C_cutG (ι := Unit) (fun (s293 : Unit) => [(1, .pointer (some ⟨b7, 0, none⟩)), (6, .pointer (some ⟨b130, 0, none⟩)), (70, v90), (71, .int .i64 (x.terms.length : Int)), (72, .int .i64 (k96 : Int)), (112, v185), (113, .int .i64 (x123.list_.length : Int)), (114, .int .i64 (k191 : Int))]) (fun (s293 : Unit) => fun w' => o292 = .fin s293 ∧ w282 = w') ?_ ?_
                            · refine C_block ?_
                              refine C_range ho292 (fun k295 _ a w' => ∃ i : Unit, Has ⟨174, [], none⟩ a ([(1, .pointer (some ⟨b7, 0, none⟩)), (6, .pointer (some ⟨b130, 0, none⟩)), (10, .int .i64 x246), (70, v90), (71, .int .i64 (x.terms.length : Int)), (72, .int .i64 (k96 : Int)), (112, v185), (113, .int .i64 (x123.list_.length : Int)), (114, .int .i64 (k191 : Int)), (155, v281), (156, .int .i64 (([x218.title, x218.body] : List (List Int)).length : Int)), (157, .int .i64 (k295 : Int))]) ∧ w282 = w') (fun a ha => ⟨(), ha.sub ⟨rfl, rfl, rfl, rfl, rfl, rfl, rfl, rfl, rfl, rfl, rfl, rfl, trivial⟩, rfl⟩) ?_
                              rintro K k295 _ a _ ⟨_, ha329, rfl⟩ hle304 K307 h306
                              refine C_of ?_ ha329
                              refine C_seq (C_region (V_y (Y_lss rfl rfl) rfl rfl rfl (V_to (fun _ _ => rfl) ?_)))
                              refine C_seq ?_
                              refine C_cond rfl (fun hc309 => ?_) (fun hc309 => ?_)
                              · have hlt305 := lt_of_dec hc309
                                obtain ⟨x301, h302, h303⟩ := K307 hlt305
                                refine C_skip_to (fun _ _ => rfl) ?_
                                refine C_seq ?_
                                refine C_block ?_
                                refine C_seq ?_
                                refine C_region ?_
                                obtain ⟨x310, hx310, h302⟩ := Option.bind_eq_some_iff.1 h302
                                refine V_indexAddr h283 hx310 Tryz.underlying77 Tryz.sizeOf22 rfl rfl rfl ?_
                                intro b311 o312 h313
                                obtain ⟨v314, h315, h316⟩ := El.list h313
                                refine V_y (Y_load h315 Tryz.isAgg22 rfl) rfl rfl rfl ?_
                                refine V_y (Y_assign rfl) rfl rfl rfl ?_
                                refine V_to (fun _ _ => rfl) ?_
                                refine C_seq ?_
                                refine C_region ?_
                                refine V_y (Y_move rfl) rfl rfl rfl ?_
                                have h317 := El_know_Index_1 h11
                                refine V_y (Y_fieldAddr Tryz.underlying25 rfl Tryz.sizeOf22 (by decide) rfl) rfl rfl rfl ?_
                                obtain ⟨v318, h319, h320⟩ := El.list h317
                                refine V_y (Y_load h319 Tryz.isAgg22 rfl) rfl rfl rfl ?_
                                refine V_y (Y_move rfl) rfl rfl rfl ?_
                                obtain ⟨x321, hx321, h302⟩ := Option.bind_eq_some_iff.1 h302
                                refine V_indexAddr h320 hx321 Tryz.underlying22 Tryz.sizeOf3 rfl rfl rfl ?_
                                intro b322 o323 h324
                                refine V_y (Y_load (El.int h324) Tryz.isAgg3 rfl) rfl rfl rfl ?_
                                obtain ⟨x325, hx325, h302⟩ := Option.bind_eq_some_iff.1 h302
                                refine V_call Tryz.call44 rfl rfl rfl rfl (portref2_positionsFault_c w282 x310 v314 h316 x321 hx325) ?_
                                rintro _ _ ⟨rfl, rfl⟩
                                refine V_y (Y_assign rfl) rfl rfl rfl ?_
                                refine V_to (fun _ _ => rfl) ?_
                                refine C_seq ?_
                                refine C_region ?_
                                refine V_y (Y_move rfl) rfl rfl rfl ?_
                                refine V_y (Y_neq rfl rfl) rfl rfl rfl ?_
                                refine V_to (fun _ _ => rfl) ?_
                                refine C_cond rfl (fun hc326 => ?_) (fun hc326 => ?_)
                                · rw [if_pos hc326] at h302
                                  refine C_seq ?_
                                  refine C_region ?_
                                  refine V_y (Y_move rfl) rfl rfl rfl ?_
                                  refine V_y (Y_assign rfl) rfl rfl rfl ?_
                                  refine V_to (fun _ _ => rfl) ?_
                                  obtain rfl := Option.some.inj h302
                                  obtain rfl := (h303 : Lp.rt _ = _)
                                  rw [Lp.andThen_rt] at ho210
                                  obtain rfl := Option.some.inj ho210
                                  rw [Lp.andThen_rt] at h202
                                  obtain rfl := Option.some.inj h202
                                  obtain rfl := (h203 : Lp.rt _ = _)
                                  rw [Lp.andThen_rt] at ho115
                                  obtain rfl := Option.some.inj ho115
                                  rw [Lp.andThen_rt] at h107
                                  obtain rfl := Option.some.inj h107
                                  obtain rfl := (h108 : Lp.rt _ = _)
                                  rw [Lp.andThen_rt] at hm
                                  obtain rfl := Option.some.inj hm
                                  refine C_ret ?_
                                  try simp only [↓inBlock_ret, ↓then_ret]
                                  exact retQ rfl (Res.one Tryz.results20 rfl) ⟨rfl, hK.kp⟩
                                · rw [if_neg (nt hc326)] at h302
                                  refine C_skip_to (fun _ _ => rfl) ?_
                                  refine C_region ?_
                                  refine V_y (Y_addI rfl rfl) rfl rfl rfl ?_
                                  refine V_y (Y_move rfl) rfl rfl rfl ?_
                                  obtain rfl := Option.some.inj h302
                                  refine V_end (fun a ha327 => ?_)
                                  exact ⟨(), hlt305, h303, ⟨(), ha327.sub ⟨rfl, rfl, rfl, rfl, rfl, rfl, rfl, rfl, rfl, rfl, rfl, (congrArg (fun z => some (Value.int .i64 z)) (w64_succ hlt305 hn308)), trivial⟩, rfl⟩⟩
                              · refine C_exit (fun a ha328 => ?_)
                                exact ⟨(), ha328.sub ⟨rfl, rfl, rfl, rfl, rfl, rfl, rfl, rfl, trivial⟩, ⟨(h306 (eq_of_dec hle304 hc309)).symm, rfl⟩⟩
                            rintro s293 _ ⟨rfl, rfl⟩ a ha298
                            rw [Lp.andThen_fin] at ho210
                            obtain rfl := Option.some.inj ho210
                            exact ⟨((), A199), ha298.sub ⟨rfl, rfl, rfl, rfl, rfl, rfl, rfl, rfl, trivial⟩, ⟨rfl, hH, hr212⟩⟩
                    rintro ⟨s211, A216⟩ w213 ⟨rfl, hH217, hk214⟩ a ha215
                    rw [Lp.andThen_fin] at h202
                    replace h11 := El.tr (Dw := Dw) h11 hk214
                    replace h92 := Sl.tr (Dw := Dw) h92 hk214
                    replace h138 := El.tr (Dw := Dw) h138 hk214
                    replace h187 := Sl.tr (Dw := Dw) h187 hk214
                    replace hK := Tr.trans (Dw := Dw) hK hk214
                    replace hr95 := Tr.trans (Dw := Dw) hr95 hk214
                    replace hr117 := Tr.trans (Dw := Dw) hr117 hk214
                    replace hr190 := Tr.trans (Dw := Dw) hr190 hk214
                    replace hB := Nat.le_trans hB hk214.ex.size
                    replace hA := hk214.new
                    replace hH : Hp w.heap.size A216 w213 (obS (α := ByteArray) 9 v143 x142 :: []) := hH217
                    refine C_at (n := ⟨174, [], none⟩) (fun _ _ => rfl) ?_ ha215
                    refine C_region ?_
                    refine V_y (Y_addI rfl rfl) rfl rfl rfl ?_
                    refine V_y (Y_move rfl) rfl rfl rfl ?_
                    obtain rfl := Option.some.inj h202
                    refine V_end (fun a ha331 => ?_)
                    exact ⟨(), hlt205, h203, ⟨A216, ha331.sub ⟨rfl, rfl, rfl, rfl, rfl, rfl, rfl, (congrArg (fun z => some (Value.int .i64 z)) (w64_succ hlt205 hn208)), trivial⟩, ⟨hH, hr190⟩⟩⟩
                  · refine C_exit (fun a ha332 => ?_)
                    exact ⟨((), A199), ha332.sub ⟨rfl, rfl, rfl, rfl, trivial⟩, ⟨(h206 (eq_of_dec hle204 hc209)).symm, hH, hr190⟩⟩
                rintro ⟨s189, A195⟩ w192 ⟨rfl, hH196, hk193⟩ a ha194
                rw [Lp.andThen_fin] at ho115
                replace h11 := El.tr (Dw := Dw) h11 hk193
                replace h92 := Sl.tr (Dw := Dw) h92 hk193
                replace hK := Tr.trans (Dw := Dw) hK hk193
                replace hr95 := Tr.trans (Dw := Dw) hr95 hk193
                replace hr117 := Tr.trans (Dw := Dw) hr117 hk193
                replace hB := Nat.le_trans hB hk193.ex.size
                replace hA := hk193.new
                replace hH : Hp w.heap.size A195 w192 (obS (α := ByteArray) 9 v143 x142 :: []) := hH196
                obtain rfl := Option.some.inj ho115
                replace hH : Hp w.heap.size A195 w192 ([]) := Hp.drop hH (i := 0) rfl
                exact ⟨((), A195), ha194.sub ⟨rfl, rfl, rfl, rfl, trivial⟩, ⟨rfl, hH, hr117⟩⟩
          rintro ⟨s116, A121⟩ w118 ⟨rfl, hH122, hk119⟩ a ha120
          rw [Lp.andThen_fin] at h107
          replace h11 := El.tr (Dw := Dw) h11 hk119
          replace h92 := Sl.tr (Dw := Dw) h92 hk119
          replace hK := Tr.trans (Dw := Dw) hK hk119
          replace hr95 := Tr.trans (Dw := Dw) hr95 hk119
          replace hB := Nat.le_trans hB hk119.ex.size
          replace hA := hk119.new
          replace hH : Hp w.heap.size A121 w118 ([]) := hH122
          refine C_at (n := ⟨174, [], none⟩) (fun _ _ => rfl) ?_ ha120
          refine C_region ?_
          refine V_y (Y_addI rfl rfl) rfl rfl rfl ?_
          refine V_y (Y_move rfl) rfl rfl rfl ?_
          obtain rfl := Option.some.inj h107
          refine V_end (fun a ha335 => ?_)
          exact ⟨(), hlt110, h108, ⟨A121, ha335.sub ⟨rfl, rfl, rfl, (congrArg (fun z => some (Value.int .i64 z)) (w64_succ hlt110 hn113)), trivial⟩, ⟨hH, hr95⟩⟩⟩
        · refine C_exit (fun a ha336 => ?_)
          exact ⟨((), A104), ha336.sub trivial, ⟨(h111 (eq_of_dec hle109 hc114)).symm, hH, hr95⟩⟩
      rintro ⟨s94, A100⟩ w97 ⟨rfl, hH101, hk98⟩ a ha99
      rw [Lp.andThen_fin] at hm
      replace hK := Tr.trans (Dw := Dw) hK hk98
      replace hB := Nat.le_trans hB hk98.ex.size
      replace hA := hk98.new
      replace hH : Hp w.heap.size A100 w97 ([]) := hH101
      refine C_at (n := ⟨174, [], none⟩) (fun _ _ => rfl) ?_ ha99
      refine C_seq ?_
      refine C_region ?_
      refine V_y (Y_assign rfl) rfl rfl rfl ?_
      refine V_to (fun _ _ => rfl) ?_
      obtain rfl := Option.some.inj hm
      refine C_ret ?_
      try simp only [↓inBlock_ret, ↓then_ret]
      exact retQ rfl (Res.one Tryz.results20 rfl) ⟨rfl, hK.kp⟩

end Go.Proofs.YtdfohednlmnciaaGreatDoor.W
