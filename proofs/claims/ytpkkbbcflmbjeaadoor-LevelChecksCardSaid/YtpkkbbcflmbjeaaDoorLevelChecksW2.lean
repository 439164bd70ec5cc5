/-
  Written by program (gen.py) from the IR of the dump: each function computes its model.
-/
import Derived.Test.YtpkkbbcflmbjeaaDoorLevelChecksW1
namespace Go.Proofs.YtpkkbbcflmbjeaaDoor.W
open Go Go.RowKit Go.Pu Go.Gw Go.Proofs Go.Proofs.YtpkkbbcflmbjeaaDoor.M
set_option linter.unusedVariables false
set_option linter.unusedSimpArgs false
variable {Dw : Prop}

set_option maxRecDepth 4000 in
set_option maxHeartbeats 4000000 in
theorem portref2_PolicyFault_c (w : World) {A : Nat → Prop} (hA : ∀ b, w.heap.size ≤ b → A b) (p : level_Policy) (v_p0 : Value) (h_p0 : Sl A w v_p0 p.pauses) (v_p1 : Value) (h_p1 : Sl A w v_p1 p.levels) {r : Int} (hm : portref2_PolicyFault p = some r) : Ret Tryd.prog 7 #[.agg #[v_p0, v_p1]] w fun v w' => v = .int .i64 r ∧ Kp False w w' := by
  unfold portref2_PolicyFault at hm
  refine enter Tryd.func7 rfl Tryd.ntmps7 rfl ?_
  have hA0 := hA
  have hB := Nat.le_refl w.heap.size
  have hK : Tr False w.heap.size A w A w := Tr.refl (Dw := False) hA
  have hH : Hp w.heap.size A w [] := Hp.nil
  refine C_seq ?_
  refine C_region ?_
  refine V_box rfl rfl ?_
  intro b5 w6 h7
  have hk9 := h7.kp (Dw := False)
  have h8 : El (α := level_Policy) A w6 b5 0 p := h7.el hA ⟨[v_p0], _, rfl, ⟨_, rfl, h_p0⟩, ⟨_, rfl, h_p1⟩⟩
  have ht10 := Kp.tr (Dw := False) hk9 hA hB
  replace hH := Hp.kp (Dw := False) hH hk9
  replace h_p0 := Sl.tr (Dw := False) h_p0 ht10
  replace h_p1 := Sl.tr (Dw := False) h_p1 ht10
  replace hK := Tr.trans (Dw := False) hK ht10
  replace hB := Nat.le_trans hB ht10.ex.size
  replace hA := ht10.new
  refine V_y (Y_assign rfl) rfl rfl rfl ?_
  refine V_to (fun _ _ => rfl) ?_
  refine C_seq ?_
  refine C_seq ?_
  refine C_region ?_
  have h11 := El_level_Policy_0 h8
  refine V_y (Y_fieldAddr Tryd.underlying25 rfl Tryd.sizeOf22 (by decide) rfl) rfl rfl rfl ?_
  obtain ⟨v12, h13, h14⟩ := El.list h11
  refine V_y (Y_load h13 Tryd.isAgg22 rfl) rfl rfl rfl ?_
  have hn15 := Sl.le h14
  refine V_y (Y_lenSl h14 rfl Tryd.underlying22 rfl) rfl rfl rfl ?_
  refine V_y (Y_move rfl) rfl rfl rfl ?_
  refine V_to (fun _ _ => rfl) ?_
  have hn32 := Sl.le h14
  obtain ⟨o16, ho16, hm⟩ := Option.bind_eq_some_iff.1 hm
  refine C_cutG (ι := Unit) (fun (s17 : Unit) => [(1, .pointer (some ⟨b5, 0, none⟩))]) (fun (s17 : Unit) => fun w' => o16 = .fin s17 ∧ w6 = w') ?_ ?_
  · refine C_block ?_
    refine C_range ho16 (fun k19 _ a w' => ∃ i : Unit, Has ⟨52, [], none⟩ a ([(1, .pointer (some ⟨b5, 0, none⟩)), (8, v12), (9, .int .i64 (p.pauses.length : Int)), (10, .int .i64 (k19 : Int))]) ∧ w6 = w') (fun a ha => ⟨(), ha.sub ⟨rfl, rfl, rfl, rfl, trivial⟩, rfl⟩) ?_
    rintro K k19 _ a _ ⟨_, ha54, rfl⟩ hle28 K31 h30
    refine C_of ?_ ha54
    refine C_seq (C_region (V_y (Y_lss rfl rfl) rfl rfl rfl (V_to (fun _ _ => rfl) ?_)))
    refine C_seq ?_
    refine C_cond rfl (fun hc33 => ?_) (fun hc33 => ?_)
    · have hlt29 := lt_of_dec hc33
      obtain ⟨x25, h26, h27⟩ := K31 hlt29
      refine C_skip_to (fun _ _ => rfl) ?_
      refine C_seq ?_
      refine C_block ?_
      refine C_seq ?_
      refine C_region ?_
      refine V_y (Y_move rfl) rfl rfl rfl ?_
      obtain ⟨x34, hx34, h26⟩ := Option.bind_eq_some_iff.1 h26
      refine V_indexAddr h14 hx34 Tryd.underlying22 Tryd.sizeOf3 rfl rfl rfl ?_
      intro b35 o36 h37
      refine V_y (Y_load (El.int h37) Tryd.isAgg3 rfl) rfl rfl rfl ?_
      refine V_y (Y_assign rfl) rfl rfl rfl ?_
      refine V_y (Y_assign rfl) rfl rfl rfl ?_
      refine V_to (fun _ _ => rfl) ?_
      refine C_seq ?_
      refine C_seq ?_
      refine C_region ?_
      refine V_y (Y_move rfl) rfl rfl rfl ?_
      refine V_y (Y_lss rfl rfl) rfl rfl rfl ?_
      refine V_y (Y_move rfl) rfl rfl rfl ?_
      refine V_cut 3 (fun _ : Unit => [(1, .pointer (some ⟨b5, 0, none⟩)), (3, .int .i64 (k19 : Int)), (4, .int .i64 x34), (8, v12), (9, .int .i64 (p.pauses.length : Int)), (10, .int .i64 (k19 : Int)), (20, .bool ((decide (x34 < 1)) || (decide ((4 : Int) < x34))))]) (fun _ w' => w6 = w') ?_ ?_
      · simp only [List.take, List.drop]
        rcases Bool.eq_false_or_eq_true (decide (x34 < 1)) with hc38 | hc38
        · refine V_gn rfl rfl rfl hc38 rfl rfl rfl ?_
          refine V_gn rfl rfl rfl hc38 rfl rfl rfl ?_
          refine V_y (Y_pick_te rfl hc38 rfl) rfl rfl rfl ?_
          exact V_end fun a ha => ⟨(), ha.sub ⟨rfl, rfl, rfl, rfl, rfl, rfl, (by rw [hc38]; rfl), trivial⟩, rfl⟩
        · refine V_ge rfl rfl rfl hc38 ?_
          refine V_y (Y_move rfl) rfl rfl rfl ?_
          refine V_ge rfl rfl rfl hc38 ?_
          refine V_y (Y_gtr rfl rfl) rfl rfl rfl ?_
          refine V_y (Y_pick_fe rfl hc38 rfl) rfl rfl rfl ?_
          exact V_end fun a ha => ⟨(), ha.sub ⟨rfl, rfl, rfl, rfl, rfl, rfl, (by rw [hc38]; rfl), trivial⟩, rfl⟩
      simp only [List.take, List.drop]
      rintro _ _ rfl
      refine V_to (fun _ _ => rfl) ?_
      refine C_cond rfl (fun hc40 => ?_) (fun hc40 => ?_)
      · rw [if_pos hc40] at h26
        refine C_seq ?_
        refine C_region ?_
        refine V_y (Y_assign rfl) rfl rfl rfl ?_
        refine V_to (fun _ _ => rfl) ?_
        obtain rfl := Option.some.inj h26
        obtain rfl := (h27 : Lp.rt _ = _)
        rw [Lp.andThen_rt] at hm
        obtain rfl := Option.some.inj hm
        refine C_ret ?_
        try simp only [↓inBlock_ret, ↓then_ret]
        exact retQ rfl (Res.one Tryd.results7 rfl) ⟨rfl, hK.kp⟩
      · rw [if_neg (nt hc40)] at h26
        refine C_skip_to (fun _ _ => rfl) ?_
        refine C_seq ?_
        refine C_region ?_
        refine V_y (Y_move rfl) rfl rfl rfl ?_
        refine V_y (Y_gtr rfl rfl) rfl rfl rfl ?_
        refine V_y (Y_move rfl) rfl rfl rfl ?_
        obtain ⟨s42, hs42, h26⟩ := Option.bind_eq_some_iff.1 h26
        refine V_cut 9 (fun _ : Unit => [(1, .pointer (some ⟨b5, 0, none⟩)), (8, v12), (9, .int .i64 (p.pauses.length : Int)), (10, .int .i64 (k19 : Int)), (32, .bool s42)]) (fun _ w' => w6 = w') ?_ ?_
        · simp only [List.take, List.drop]
          rcases Bool.eq_false_or_eq_true (decide ((0 : Int) < (k19 : Int))) with hc41 | hc41
          · rw [if_pos hc41] at hs42
            refine V_ge rfl rfl rfl hc41 ?_
            refine V_y (Y_move rfl) rfl rfl rfl ?_
            refine V_ge rfl rfl rfl hc41 ?_
            have h43 := El_level_Policy_0 h8
            refine V_y (Y_fieldAddr Tryd.underlying25 rfl Tryd.sizeOf22 (by decide) rfl) rfl rfl rfl ?_
            refine V_ge rfl rfl rfl hc41 ?_
            obtain ⟨v44, h45, h46⟩ := El.list h43
            refine V_y (Y_load h45 Tryd.isAgg22 rfl) rfl rfl rfl ?_
            refine V_ge rfl rfl rfl hc41 ?_
            refine V_y (Y_move rfl) rfl rfl rfl ?_
            refine V_ge rfl rfl rfl hc41 ?_
            refine V_y (Y_subI rfl rfl) rfl rfl rfl ?_
            refine V_ge rfl rfl rfl hc41 ?_
            obtain ⟨x47, hx47, hs42⟩ := Option.bind_eq_some_iff.1 hs42
            refine V_indexAddr h46 hx47 Tryd.underlying22 Tryd.sizeOf3 rfl rfl rfl ?_
            intro b48 o49 h50
            refine V_ge rfl rfl rfl hc41 ?_
            refine V_y (Y_load (El.int h50) Tryd.isAgg3 rfl) rfl rfl rfl ?_
            refine V_ge rfl rfl rfl hc41 ?_
            refine V_y (Y_leq rfl rfl) rfl rfl rfl ?_
            refine V_y (Y_pick_te rfl hc41 rfl) rfl rfl rfl ?_
            obtain rfl := Option.some.inj hs42
            exact V_end fun a ha => ⟨(), ha.sub ⟨rfl, rfl, rfl, rfl, rfl, trivial⟩, rfl⟩
          · rw [if_neg (nt hc41)] at hs42
            refine V_gn rfl rfl rfl hc41 rfl rfl rfl ?_
            refine V_gn rfl rfl rfl hc41 rfl rfl rfl ?_
            refine V_gn rfl rfl rfl hc41 rfl rfl rfl ?_
            refine V_gn rfl rfl rfl hc41 rfl rfl rfl ?_
            refine V_gn rfl rfl rfl hc41 rfl rfl rfl ?_
            refine V_gn rfl rfl rfl hc41 rfl rfl rfl ?_
            refine V_gn rfl rfl rfl hc41 rfl rfl rfl ?_
            refine V_gn rfl rfl rfl hc41 rfl rfl rfl ?_
            refine V_y (Y_pick_fe rfl hc41 rfl) rfl rfl rfl ?_
            obtain rfl := Option.some.inj hs42
            exact V_end fun a ha => ⟨(), ha.sub ⟨rfl, rfl, rfl, rfl, rfl, trivial⟩, rfl⟩
        simp only [List.take, List.drop]
        rintro _ _ rfl
        refine V_to (fun _ _ => rfl) ?_
        refine C_cond rfl (fun hc51 => ?_) (fun hc51 => ?_)
        · rw [if_pos hc51] at h26
          refine C_seq ?_
          refine C_region ?_
          refine V_y (Y_assign rfl) rfl rfl rfl ?_
          refine V_to (fun _ _ => rfl) ?_
          obtain rfl := Option.some.inj h26
          obtain rfl := (h27 : Lp.rt _ = _)
          rw [Lp.andThen_rt] at hm
          obtain rfl := Option.some.inj hm
          refine C_ret ?_
          try simp only [↓inBlock_ret, ↓then_ret]
          exact retQ rfl (Res.one Tryd.results7 rfl) ⟨rfl, hK.kp⟩
        · rw [if_neg (nt hc51)] at h26
          refine C_skip_to (fun _ _ => rfl) ?_
          refine C_region ?_
          refine V_y (Y_addI rfl rfl) rfl rfl rfl ?_
          refine V_y (Y_move rfl) rfl rfl rfl ?_
          obtain rfl := Option.some.inj h26
          refine V_end (fun a ha52 => ?_)
          exact ⟨(), hlt29, h27, ⟨(), ha52.sub ⟨rfl, rfl, rfl, (congrArg (fun z => some (Value.int .i64 z)) (w64_succ hlt29 hn32)), trivial⟩, rfl⟩⟩
    · refine C_exit (fun a ha53 => ?_)
      exact ⟨(), ha53.sub ⟨rfl, trivial⟩, ⟨(h30 (eq_of_dec hle28 hc33)).symm, rfl⟩⟩
  rintro s17 _ ⟨rfl, rfl⟩ a ha22
  rw [Lp.andThen_fin] at hm
  refine C_at (n := ⟨52, [], none⟩) (fun _ _ => rfl) ?_ ha22
  refine C_seq ?_
  refine C_seq ?_
  refine C_region ?_
  have h55 := El_level_Policy_1 h8
  refine V_y (Y_fieldAddr Tryd.underlying25 rfl Tryd.sizeOf23 (by decide) rfl) rfl rfl rfl ?_
  obtain ⟨v56, h57, h58⟩ := El.list h55
  refine V_y (Y_load h57 Tryd.isAgg23 rfl) rfl rfl rfl ?_
  have hn59 := Sl.le h58
  refine V_y (Y_lenSl h58 rfl Tryd.underlying23 rfl) rfl rfl rfl ?_
  refine V_y (Y_gtr rfl rfl) rfl rfl rfl ?_
  refine V_to (fun _ _ => rfl) ?_
  refine C_cond rfl (fun hc60 => ?_) (fun hc60 => ?_)
  · rw [if_pos hc60] at hm
    refine C_seq ?_
    refine C_region ?_
    refine V_y (Y_assign rfl) rfl rfl rfl ?_
    refine V_to (fun _ _ => rfl) ?_
    obtain rfl := Option.some.inj hm
    refine C_ret ?_
    try simp only [↓inBlock_ret, ↓then_ret]
    exact retQ rfl (Res.one Tryd.results7 rfl) ⟨rfl, hK.kp⟩
  · rw [if_neg (nt hc60)] at hm
    refine C_skip_to (fun _ _ => rfl) ?_
    refine C_seq ?_
    refine C_seq ?_
    refine C_region ?_
    have h61 := El_level_Policy_1 h8
    refine V_y (Y_fieldAddr Tryd.underlying25 rfl Tryd.sizeOf23 (by decide) rfl) rfl rfl rfl ?_
    obtain ⟨v62, h63, h64⟩ := El.list h61
    refine V_y (Y_load h63 Tryd.isAgg23 rfl) rfl rfl rfl ?_
    have hn65 := Sl.le h64
    refine V_y (Y_lenSl h64 rfl Tryd.underlying23 rfl) rfl rfl rfl ?_
    refine V_y (Y_move rfl) rfl rfl rfl ?_
    refine V_to (fun _ _ => rfl) ?_
    obtain ⟨o66, ho66, hm⟩ := Option.bind_eq_some_iff.1 hm
    refine C_cutG (ι := (Unit × (Nat → Prop))) (fun ⟨s67, A73⟩ => []) (fun ⟨s67, A73⟩ => fun w' => o66 = .fin s67 ∧ Hp w.heap.size A73 w' ([]) ∧ Tr False w.heap.size A w6 A73 w') ?_ ?_
    · refine C_block ?_
      refine C_range ho66 (fun k69 _ a w' => ∃ i : (Nat → Prop), Has ⟨52, [], none⟩ a ([(1, .pointer (some ⟨b5, 0, none⟩)), (40, .int .i64 (p.levels.length : Int)), (41, .int .i64 (k69 : Int))]) ∧ Hp w.heap.size i w' ([]) ∧ Tr False w.heap.size A w6 i w') (fun a ha => ⟨A, ha.sub ⟨rfl, rfl, rfl, trivial⟩, ⟨hH, Tr.refl (Dw := False) hA⟩⟩) ?_
      rintro K k69 _ a w76 ⟨A77, ha99, hH78, hr68⟩ hle82 K85 h84
      refine C_of ?_ ha99
      replace h8 := El.tr (Dw := False) h8 hr68
      replace hK := Tr.trans (Dw := False) hK hr68
      replace hB := Nat.le_trans hB hr68.ex.size
      replace hA := hr68.new
      replace hH : Hp w.heap.size A77 w76 ([]) := hH78
      refine C_seq (C_region (V_y (Y_lss rfl rfl) rfl rfl rfl (V_to (fun _ _ => rfl) ?_)))
      refine C_seq ?_
      refine C_cond rfl (fun hc87 => ?_) (fun hc87 => ?_)
      · have hlt83 := lt_of_dec hc87
        obtain ⟨x79, h80, h81⟩ := K85 hlt83
        refine C_skip_to (fun _ _ => rfl) ?_
        refine C_seq ?_
        refine C_block ?_
        refine C_seq ?_
        refine C_region ?_
        refine V_y (Y_move rfl) rfl rfl rfl ?_
        refine V_y (Y_assign rfl) rfl rfl rfl ?_
        refine V_to (fun _ _ => rfl) ?_
        refine C_seq ?_
        refine C_region ?_
        have h88 := El_level_Policy_1 h8
        refine V_y (Y_fieldAddr Tryd.underlying25 rfl Tryd.sizeOf23 (by decide) rfl) rfl rfl rfl ?_
        obtain ⟨v89, h90, h91⟩ := El.list h88
        refine V_y (Y_load h90 Tryd.isAgg23 rfl) rfl rfl rfl ?_
        refine V_y (Y_move rfl) rfl rfl rfl ?_
        obtain ⟨x92, hx92, h80⟩ := Option.bind_eq_some_iff.1 h80
        refine V_call Tryd.call18 rfl rfl rfl rfl (portref2_levelFault_c w76 hA p.levels v89 h91 (k69 : Int) hx92) ?_
        rintro _ w93 ⟨rfl, hk94⟩
        have ht95 := Kp.tr (Dw := False) hk94 hA hB
        replace hH := Hp.kp (Dw := False) hH hk94
        replace h8 := El.tr (Dw := False) h8 ht95
        replace h88 := El.tr (Dw := False) h88 ht95
        replace h91 := Sl.tr (Dw := False) h91 ht95
        replace hK := Tr.trans (Dw := False) hK ht95
        replace hr68 := Tr.trans (Dw := False) hr68 ht95
        replace hB := Nat.le_trans hB ht95.ex.size
        replace hA := ht95.new
        refine V_y (Y_assign rfl) rfl rfl rfl ?_
        refine V_to (fun _ _ => rfl) ?_
        refine C_seq ?_
        refine C_region ?_
        refine V_y (Y_move rfl) rfl rfl rfl ?_
        refine V_y (Y_neq rfl rfl) rfl rfl rfl ?_
        refine V_to (fun _ _ => rfl) ?_
        refine C_cond rfl (fun hc96 => ?_) (fun hc96 => ?_)
        · rw [if_pos hc96] at h80
          refine C_seq ?_
          refine C_region ?_
          refine V_y (Y_move rfl) rfl rfl rfl ?_
          refine V_y (Y_assign rfl) rfl rfl rfl ?_
          refine V_to (fun _ _ => rfl) ?_
          obtain rfl := Option.some.inj h80
          obtain rfl := (h81 : Lp.rt _ = _)
          rw [Lp.andThen_rt] at hm
          obtain rfl := Option.some.inj hm
          refine C_ret ?_
          try simp only [↓inBlock_ret, ↓then_ret]
          exact retQ rfl (Res.one Tryd.results7 rfl) ⟨rfl, hK.kp⟩
        · rw [if_neg (nt hc96)] at h80
          refine C_skip_to (fun _ _ => rfl) ?_
          refine C_region ?_
          refine V_y (Y_addI rfl rfl) rfl rfl rfl ?_
          refine V_y (Y_move rfl) rfl rfl rfl ?_
          obtain rfl := Option.some.inj h80
          refine V_end (fun a ha97 => ?_)
          exact ⟨(), hlt83, h81, ⟨A77, ha97.sub ⟨rfl, rfl, (congrArg (fun z => some (Value.int .i64 z)) (w64_succ hlt83 hn65)), trivial⟩, ⟨hH, hr68⟩⟩⟩
      · refine C_exit (fun a ha98 => ?_)
        exact ⟨((), A77), ha98.sub trivial, ⟨(h84 (eq_of_dec hle82 hc87)).symm, hH, hr68⟩⟩
    rintro ⟨s67, A73⟩ w70 ⟨rfl, hH74, hk71⟩ a ha72
    rw [Lp.andThen_fin] at hm
    replace hK := Tr.trans (Dw := False) hK hk71
    replace hB := Nat.le_trans hB hk71.ex.size
    replace hA := hk71.new
    replace hH : Hp w.heap.size A73 w70 ([]) := hH74
    refine C_at (n := ⟨52, [], none⟩) (fun _ _ => rfl) ?_ ha72
    refine C_seq ?_
    refine C_region ?_
    refine V_y (Y_assign rfl) rfl rfl rfl ?_
    refine V_to (fun _ _ => rfl) ?_
    obtain rfl := Option.some.inj hm
    refine C_ret ?_
    try simp only [↓inBlock_ret, ↓then_ret]
    exact retQ rfl (Res.one Tryd.results7 rfl) ⟨rfl, hK.kp⟩

def Tryd_strings_Join_lay_ren : Go.Shelf.Ren := ⟨fun | 156 => 22 | 165 => 30 | 166 => 8 | 169 => 14 | 240 => 19 | 241 => 39 | 276 => 28 | 277 => 54 | n => n, fun | 0 => 0 | 1 => 1 | 2 => 2 | 3 => 3 | 4 => 4 | 5 => 5 | 6 => 6 | 7 => 7 | 8 => 8 | 9 => 9 | 10 => 10 | 11 => 11 | 12 => 12 | 13 => 13 | 14 => 14 | 15 => 15 | 16 => 16 | 17 => 17 | 18 => 18 | 19 => 19 | 20 => 20 | 21 => 21 | 23 => 72 | 27 => 113 | 28 => 22 | 31 => 53 | 37 => 32 | 40 => 89 | 41 => 98 | 46 => 95 | 47 => 96 | 51 => 93 | 52 => 103 | 53 => 76 | 54 => 77 | 55 => 112 | 63 => 101 | 64 => 104 | 67 => 63 | 70 => 31 | 71 => 33 | 72 => 34 | 73 => 71 | 74 => 35 | 75 => 36 | 76 => 37 | 77 => 38 | 78 => 40 | 80 => 55 | 81 => 119 | 83 => 39 | 84 => 70 | 104 => 58 | 105 => 99 | 106 => 100 | 111 => 74 | 114 => 90 | 115 => 82 | 116 => 83 | 117 => 84 | 118 => 85 | 119 => 108 | 122 => 81 | 123 => 86 | 124 => 87 | 127 => 61 | 137 => 109 | 138 => 110 | 139 => 111 | 155 => 105 | 164 => 68 | 165 => 69 | 166 => 97 | 171 => 75 | 172 => 78 | 173 => 79 | 174 => 80 | 211 => 91 | 212 => 92 | 213 => 94 | 232 => 106 | 233 => 107 | 238 => 114 | 239 => 115 | 240 => 116 | 241 => 117 | 242 => 118 | 243 => 120 | 244 => 121 | 245 => 122 | 246 => 123 | 247 => 124 | 248 => 125 | 249 => 126 | n => n, fun | 1 => 3 | 3 => 6 | 4 => 7 | 17 => 2 | 18 => 4 | 19 => 5 | n => n⟩
theorem Tryd_strings_Join_lay : Go.Proofs.Lays.n156 Tryd.prog Tryd_strings_Join_lay_ren := {
  mixed := by kernel_rfl,
  f156 := Tryd.func22.trans (congrArg some (by kernel_rfl)),
  f165 := Tryd.func30.trans (congrArg some (by kernel_rfl)),
  f166 := Tryd.func8.trans (congrArg some (by kernel_rfl)),
  f169 := Tryd.func14.trans (congrArg some (by kernel_rfl)),
  f240 := Tryd.func19.trans (congrArg some (by kernel_rfl)),
  f241 := Tryd.func39.trans (congrArg some (by kernel_rfl)),
  f276 := Tryd.func28.trans (congrArg some (by kernel_rfl)),
  f277 := Tryd.func54.trans (congrArg some (by kernel_rfl)),
  t0 := Tryd.underlying0,
  a0 := Tryd.isAgg0,
  z0 := Tryd.sizeOf0,
  v0 := Tryd.zeroValue0,
  t3 := Tryd.underlying3,
  a3 := Tryd.isAgg3,
  z3 := Tryd.sizeOf3,
  v3 := Tryd.zeroValue3,
  t4 := Tryd.underlying4,
  a4 := Tryd.isAgg4,
  z4 := Tryd.sizeOf4,
  v4 := Tryd.zeroValue4,
  t9 := Tryd.underlying9,
  a9 := Tryd.isAgg9,
  z9 := Tryd.sizeOf9,
  v9 := Tryd.zeroValue9,
  t20 := Tryd.underlying20,
  a20 := Tryd.isAgg20,
  z20 := Tryd.sizeOf20,
  v20 := Tryd.zeroValue20,
  t31 := Tryd.underlying53,
  a31 := Tryd.isAgg53,
  z31 := Tryd.sizeOf53,
  v31 := Tryd.zeroValue53,
  t37 := Tryd.underlying32,
  a37 := Tryd.isAgg32,
  z37 := Tryd.sizeOf32,
  v37 := Tryd.zeroValue32,
  t70 := Tryd.underlying31,
  a70 := Tryd.isAgg31,
  z70 := Tryd.sizeOf31,
  v70 := Tryd.zeroValue31,
  t72 := Tryd.underlying34,
  a72 := Tryd.isAgg34,
  z72 := Tryd.sizeOf34,
  v72 := Tryd.zeroValue34,
  t75 := Tryd.underlying36,
  a75 := Tryd.isAgg36,
  z75 := Tryd.sizeOf36,
  v75 := Tryd.zeroValue36,
  t76 := Tryd.underlying37,
  a76 := Tryd.isAgg37,
  z76 := Tryd.sizeOf37,
  v76 := Tryd.zeroValue37,
  t127 := Tryd.underlying61,
  a127 := Tryd.isAgg61,
  z127 := Tryd.sizeOf61,
  v127 := Tryd.zeroValue61,
  t164 := Tryd.underlying68,
  a164 := Tryd.isAgg68,
  z164 := Tryd.sizeOf68,
  v164 := Tryd.zeroValue68 }
theorem Tryd_strings_Join_lay_x : Go.Proofs.Builder.Extra Tryd.prog Tryd_strings_Join_lay_ren := {
  sizeBuilder := by kernel_rfl
  liesBuilder := by kernel_rfl
  t5 := Tryd.underlying5
  a5 := Tryd.isAgg5
  z5 := Tryd.sizeOf5
  v5 := Tryd.zeroValue5
  infoByte := by kernel_rfl
  cellsByte := by kernel_rfl
  sizeByte := by kernel_rfl
  neB5 := (by decide : (34 : Nat) ≠ 5) }
theorem strings_Join_c (w : World) {A : Nat → Prop} (hA : ∀ b, w.heap.size ≤ b → A b) (elems : List ByteArray) (v_e : Value) (h_e : Sl A w v_e elems) (sep : ByteArray) {r : ByteArray} (hm : strings_Join elems sep = some r) : Ret Tryd.prog 22 #[v_e, .string sep] w fun v w' => v = .string r ∧ Kp False w w' := by
  unfold strings_Join at hm
  split at hm
  case isFalse => cases hm
  rename_i h
  obtain rfl := Option.some.inj hm
  exact join_wrap h_e (fun a c => Go.Proofs.Any.strings_Join_none Tryd_strings_Join_lay Tryd_strings_Join_lay_x a c sep w) (fun bk o c h1 h2 h3 => Go.Proofs.Any.strings_Join Tryd_strings_Join_lay Tryd_strings_Join_lay_x bk o c elems sep w h1 h2 h.1 h3 h.2)

set_option maxRecDepth 4000 in
set_option maxHeartbeats 4000000 in
theorem portref2_line_c (w : World) {A : Nat → Prop} (hA : ∀ b, w.heap.size ≤ b → A b) (hT : Fz Tryd_FR A w) (words : (List AnyV)) (v_words : Value) (h_words : Sl A w v_words words) {r : ByteArray} (hm : portref2_line words = some r) : Ret Tryd.prog 15 #[v_words] w fun v w' => v = .string r ∧ Kp False w w' := by
  unfold portref2_line at hm
  refine enter Tryd.func15 rfl Tryd.ntmps15 rfl ?_
  have hA0 := hA
  have hB := Nat.le_refl w.heap.size
  have hK : Tr False w.heap.size A w A w := Tr.refl (Dw := False) hA
  have hH : Hp w.heap.size A w [] := Hp.nil
  refine C_seq ?_
  refine C_region ?_
  refine V_y (Y_assign rfl) rfl rfl rfl ?_
  refine V_to (fun _ _ => rfl) ?_
  refine C_seq ?_
  refine C_region ?_
  refine V_y (Y_assign rfl) rfl rfl rfl ?_
  refine V_to (fun _ _ => rfl) ?_
  refine C_seq ?_
  refine C_seq ?_
  refine C_region ?_
  refine V_y (Y_move rfl) rfl rfl rfl ?_
  refine V_y (Y_lenSl h_words rfl Tryd.underlying62 rfl) rfl rfl rfl ?_
  refine V_y (Y_move rfl) rfl rfl rfl ?_
  refine V_to (fun _ _ => rfl) ?_
  replace hH : Hp w.heap.size A w (obS (α := ByteArray) 9 (.slice none 0 0) ([] : (List ByteArray)) :: []) := Hp.addNil (α := ByteArray) (e := 9) hH
  have hn27 := Sl.le h_words
  obtain ⟨o3, ho3, hm⟩ := Option.bind_eq_some_iff.1 hm
  refine C_cutG (ι := ((List ByteArray) × Value × (Nat → Prop))) (fun ⟨s4, v10, A12⟩ => [(3, v10)]) (fun ⟨s4, v10, A12⟩ => fun w' => o3 = .fin s4 ∧ Hp w.heap.size A12 w' (obS (α := ByteArray) 9 v10 s4 :: []) ∧ Tr False w.heap.size A w A12 w') ?_ ?_
  · refine C_block ?_
    refine C_range ho3 (fun k6 s14 a w' => ∃ i : (Value × (Nat → Prop)), Has ⟨34, [], none⟩ a ([(3, i.1), (8, v_words), (9, .int .i64 (words.length : Int)), (10, .int .i64 (k6 : Int))]) ∧ Hp w.heap.size i.2 w' (obS (α := ByteArray) 9 i.1 s14 :: []) ∧ Tr False w.heap.size A w i.2 w') (fun a ha => ⟨(.slice none 0 0, A), ha.sub ⟨rfl, rfl, rfl, rfl, trivial⟩, ⟨hH, Tr.refl (Dw := False) hA⟩⟩) ?_
    rintro K k6 s14 a w15 ⟨⟨v16, A18⟩, ha109, hH19, hr5⟩ hle23 K26 h25
    refine C_of ?_ ha109
    replace h_words := Sl.tr (Dw := False) h_words hr5
    replace hK := Tr.trans (Dw := False) hK hr5
    replace hB := Nat.le_trans hB hr5.ex.size
    replace hA := hr5.new
    replace hH : Hp w.heap.size A18 w15 (obS (α := ByteArray) 9 v16 s14 :: []) := hH19
    refine C_seq (C_region (V_y (Y_lss rfl rfl) rfl rfl rfl (V_to (fun _ _ => rfl) ?_)))
    refine C_seq ?_
    refine C_cond rfl (fun hc28 => ?_) (fun hc28 => ?_)
    · have hlt24 := lt_of_dec hc28
      obtain ⟨x20, h21, h22⟩ := K26 hlt24
      refine C_skip_to (fun _ _ => rfl) ?_
      refine C_seq ?_
      obtain ⟨s30, ho29, h21⟩ := Option.bind_eq_some_iff.1 h21
      refine C_cutG (ι := (Value × (Nat → Prop))) (fun ⟨v32, A37⟩ => [(3, v32), (8, v_words), (9, .int .i64 (words.length : Int)), (10, .int .i64 (k6 : Int))]) (fun ⟨v32, A37⟩ => fun w' => Hp w.heap.size A37 w' (obS (α := ByteArray) 9 v32 s30 :: []) ∧ Tr False w.heap.size A18 w15 A37 w') ?_ ?_
      · have hr31 : Tr False w.heap.size A18 w15 A18 w15 := Tr.refl (Dw := False) hA
        refine C_block ?_
        refine C_seq ?_
        refine C_region ?_
        obtain ⟨x39, hx39, ho29⟩ := Option.bind_eq_some_iff.1 ho29
        refine V_indexAddr h_words hx39 Tryd.underlying62 Tryd.sizeOf20 rfl rfl rfl ?_
        intro b40 o41 h42
        refine V_y (Y_load (El.anyv h42) Tryd.isAgg20 rfl) rfl rfl rfl ?_
        refine V_y (Y_assign rfl) rfl rfl rfl ?_
        refine V_to (fun _ _ => rfl) ?_
        refine C_seq ?_
        refine C_region ?_
        refine V_y (Y_move rfl) rfl rfl rfl ?_
        refine V_to (fun _ _ => rfl) ?_
        obtain ⟨s44, ho43, ho29⟩ := Option.bind_eq_some_iff.1 ho29
        refine C_cutG (ι := (Value × (Nat → Prop))) (fun ⟨v46, A51⟩ => [(3, v46), (8, v_words), (9, .int .i64 (words.length : Int)), (10, .int .i64 (k6 : Int))]) (fun ⟨v46, A51⟩ => fun w' => Hp w.heap.size A51 w' (obS (α := ByteArray) 9 v46 s44 :: []) ∧ Tr False w.heap.size A18 w15 A51 w') ?_ ?_
        · have hr45 : Tr False w.heap.size A18 w15 A18 w15 := Tr.refl (Dw := False) hA
          refine C_block ?_
          refine C_seq ?_
          refine C_region ?_
          refine V_y (Y_asStr (ti := 3) Tryd.underlying9 Tryd.zeroValue9 (by decide) rfl) rfl rfl rfl ?_
          refine V_y (Y_extract rfl rfl) rfl rfl rfl ?_
          refine V_y (Y_extract rfl rfl) rfl rfl rfl ?_
          refine V_to (fun _ _ => rfl) ?_
          obtain ⟨s54, ho53, ho43⟩ := Option.bind_eq_some_iff.1 ho43
          refine C_cutG (ι := (Value × (Nat → Prop))) (fun ⟨v56, A61⟩ => [(3, v56), (8, v_words), (9, .int .i64 (words.length : Int)), (10, .int .i64 (k6 : Int))]) (fun ⟨v56, A61⟩ => fun w' => Hp w.heap.size A61 w' (obS (α := ByteArray) 9 v56 s54 :: []) ∧ Tr False w.heap.size A18 w15 A61 w') ?_ ?_
          · have hr55 : Tr False w.heap.size A18 w15 A18 w15 := Tr.refl (Dw := False) hA
            refine C_cond rfl (fun hc63 => ?_) (fun hc63 => ?_)
            · rw [if_pos hc63] at ho53
              refine C_seq ?_
              refine C_region ?_
              refine V_y (Y_assign rfl) rfl rfl rfl ?_
              refine V_to (fun _ _ => rfl) ?_
              refine C_region ?_
              refine V_y (Y_move rfl) rfl rfl rfl ?_
              refine V_y (Y_move rfl) rfl rfl rfl ?_
              refine V_buildSlice (Dw := False) (l := ([x39.asStr.1] : List ByteArray)) (len := 1) Tryd.underlying53 Tryd.sizeOf9 Tryd.zeroValue9 rfl (by with_unfolding_all rfl) (show (1 * 1 : Nat) ≠ 0 by decide) (show (1 * 1 : Nat) ≤ 2 ^ 24 by decide) hA ⟨[.string x39.asStr.1], _, rfl, rfl, rfl⟩ rfl rfl ?_
              intro v64 w65 hk67 h66
              have ht68 := Kp.tr (Dw := False) hk67 hA hB
              replace hH := Hp.kp (Dw := False) hH hk67
              replace h_words := Sl.tr (Dw := False) h_words ht68
              replace hK := Tr.trans (Dw := False) hK ht68
              replace hr5 := Tr.trans (Dw := False) hr5 ht68
              replace hr31 := Tr.trans (Dw := False) hr31 ht68
              replace hr45 := Tr.trans (Dw := False) hr45 ht68
              replace hr55 := Tr.trans (Dw := False) hr55 ht68
              replace hB := Nat.le_trans hB ht68.ex.size
              replace hA := ht68.new
              obtain ⟨x69, hx69, ho53⟩ := Option.bind_eq_some_iff.1 ho53
              refine V_appendH (Dw := False) (e := 9) (v := v16) (l := s14) (ti := Tryd.t9) (bytes := 16) (lim := 8796093022208) hH (i := 0) rfl h66 hx69 Tryd.underlying53 Tryd_info9 rfl rfl rfl rfl (by decide) (by decide) (by decide) hB hA rfl rfl rfl ?_
              intro v70 w71 A72 hH73 ht74
              replace h_words := Sl.tr (Dw := False) h_words ht74
              replace h66 := Sl.tr (Dw := False) h66 ht74
              replace hK := Tr.trans (Dw := False) hK ht74
              replace hr5 := Tr.trans (Dw := False) hr5 ht74
              replace hr31 := Tr.trans (Dw := False) hr31 ht74
              replace hr45 := Tr.trans (Dw := False) hr45 ht74
              replace hr55 := Tr.trans (Dw := False) hr55 ht74
              replace hB := Nat.le_trans hB ht74.ex.size
              replace hA := ht74.new
              replace hH : Hp w.heap.size A72 w71 (obS (α := ByteArray) 9 v70 x69 :: []) := hH73
              refine V_y (Y_assign rfl) rfl rfl rfl ?_
              obtain rfl := Option.some.inj ho53
              refine V_end (fun a ha75 => ?_)
              exact ⟨(v70, A72), ha75.sub ⟨rfl, rfl, rfl, rfl, trivial⟩, ⟨hH, hr55⟩⟩
            · rw [if_neg (nt hc63)] at ho53
              refine C_seq ?_
              refine C_region ?_
              refine V_y (Y_asInt (ts := 9) Tryd.underlying3 Tryd.zeroValue3 (by decide) rfl) rfl rfl rfl ?_
              refine V_y (Y_extract rfl rfl) rfl rfl rfl ?_
              refine V_y (Y_extract rfl rfl) rfl rfl rfl ?_
              refine V_to (fun _ _ => rfl) ?_
              obtain ⟨s77, ho76, ho53⟩ := Option.bind_eq_some_iff.1 ho53
              refine C_cutG (ι := (Value × (Nat → Prop))) (fun ⟨v79, A84⟩ => [(3, v79), (8, v_words), (9, .int .i64 (words.length : Int)), (10, .int .i64 (k6 : Int))]) (fun ⟨v79, A84⟩ => fun w' => Hp w.heap.size A84 w' (obS (α := ByteArray) 9 v79 s77 :: []) ∧ Tr False w.heap.size A18 w15 A84 w') ?_ ?_
              · have hr78 : Tr False w.heap.size A18 w15 A18 w15 := Tr.refl (Dw := False) hA
                refine C_cond rfl (fun hc86 => ?_) (fun hc86 => ?_)
                · rw [if_pos hc86] at ho76
                  refine C_seq ?_
                  refine C_region ?_
                  refine V_y (Y_assign rfl) rfl rfl rfl ?_
                  refine V_to (fun _ _ => rfl) ?_
                  refine C_region ?_
                  refine V_y (Y_move rfl) rfl rfl rfl ?_
                  refine V_y (Y_move rfl) rfl rfl rfl ?_
                  obtain ⟨x87, hx87, ho76⟩ := Option.bind_eq_some_iff.1 ho76
                  refine V_call Tryd.call9 rfl rfl rfl rfl (strconv_Itoa_c w15 hA ((Fz.tr (Dw := False) hT hK)).1 x39.asInt.1 hx87) ?_
                  rintro _ w88 ⟨rfl, hk89⟩
                  have ht90 := Kp.tr (Dw := False) hk89 hA hB
                  replace hH := Hp.kp (Dw := False) hH hk89
                  replace h_words := Sl.tr (Dw := False) h_words ht90
                  replace hK := Tr.trans (Dw := False) hK ht90
                  replace hr5 := Tr.trans (Dw := False) hr5 ht90
                  replace hr31 := Tr.trans (Dw := False) hr31 ht90
                  replace hr45 := Tr.trans (Dw := False) hr45 ht90
                  replace hr55 := Tr.trans (Dw := False) hr55 ht90
                  replace hr78 := Tr.trans (Dw := False) hr78 ht90
                  replace hB := Nat.le_trans hB ht90.ex.size
                  replace hA := ht90.new
                  refine V_buildSlice (Dw := False) (l := ([x87] : List ByteArray)) (len := 1) Tryd.underlying53 Tryd.sizeOf9 Tryd.zeroValue9 rfl (by with_unfolding_all rfl) (show (1 * 1 : Nat) ≠ 0 by decide) (show (1 * 1 : Nat) ≤ 2 ^ 24 by decide) hA ⟨[.string x87], _, rfl, rfl, rfl⟩ rfl rfl ?_
                  intro v91 w92 hk94 h93
                  have ht95 := Kp.tr (Dw := False) hk94 hA hB
                  replace hH := Hp.kp (Dw := False) hH hk94
                  replace h_words := Sl.tr (Dw := False) h_words ht95
                  replace hK := Tr.trans (Dw := False) hK ht95
                  replace hr5 := Tr.trans (Dw := False) hr5 ht95
                  replace hr31 := Tr.trans (Dw := False) hr31 ht95
                  replace hr45 := Tr.trans (Dw := False) hr45 ht95
                  replace hr55 := Tr.trans (Dw := False) hr55 ht95
                  replace hr78 := Tr.trans (Dw := False) hr78 ht95
                  replace hB := Nat.le_trans hB ht95.ex.size
                  replace hA := ht95.new
                  obtain ⟨x96, hx96, ho76⟩ := Option.bind_eq_some_iff.1 ho76
                  refine V_appendH (Dw := False) (e := 9) (v := v16) (l := s14) (ti := Tryd.t9) (bytes := 16) (lim := 8796093022208) hH (i := 0) rfl h93 hx96 Tryd.underlying53 Tryd_info9 rfl rfl rfl rfl (by decide) (by decide) (by decide) hB hA rfl rfl rfl ?_
                  intro v97 w98 A99 hH100 ht101
                  replace h_words := Sl.tr (Dw := False) h_words ht101
                  replace h93 := Sl.tr (Dw := False) h93 ht101
                  replace hK := Tr.trans (Dw := False) hK ht101
                  replace hr5 := Tr.trans (Dw := False) hr5 ht101
                  replace hr31 := Tr.trans (Dw := False) hr31 ht101
                  replace hr45 := Tr.trans (Dw := False) hr45 ht101
                  replace hr55 := Tr.trans (Dw := False) hr55 ht101
                  replace hr78 := Tr.trans (Dw := False) hr78 ht101
                  replace hB := Nat.le_trans hB ht101.ex.size
                  replace hA := ht101.new
                  replace hH : Hp w.heap.size A99 w98 (obS (α := ByteArray) 9 v97 x96 :: []) := hH100
                  refine V_y (Y_assign rfl) rfl rfl rfl ?_
                  obtain rfl := Option.some.inj ho76
                  refine V_end (fun a ha102 => ?_)
                  exact ⟨(v97, A99), ha102.sub ⟨rfl, rfl, rfl, rfl, trivial⟩, ⟨hH, hr78⟩⟩
                · rw [if_neg (nt hc86)] at ho76
                  obtain rfl := Option.some.inj ho76
                  refine C_skip (fun a ha103 => ?_)
                  exact ⟨(v16, A18), ha103.sub ⟨rfl, rfl, rfl, rfl, trivial⟩, ⟨hH, hr78⟩⟩
              rintro ⟨v79, A84⟩ w81 ⟨hH85, hk82⟩ a ha83
              replace h_words := Sl.tr (Dw := False) h_words hk82
              replace hK := Tr.trans (Dw := False) hK hk82
              replace hr5 := Tr.trans (Dw := False) hr5 hk82
              replace hr31 := Tr.trans (Dw := False) hr31 hk82
              replace hr45 := Tr.trans (Dw := False) hr45 hk82
              replace hr55 := Tr.trans (Dw := False) hr55 hk82
              replace hB := Nat.le_trans hB hk82.ex.size
              replace hA := hk82.new
              replace hH : Hp w.heap.size A84 w81 (obS (α := ByteArray) 9 v79 s77 :: []) := hH85
              obtain rfl := Option.some.inj ho53
              exact ⟨(v79, A84), ha83.sub ⟨rfl, rfl, rfl, rfl, trivial⟩, ⟨hH, hr55⟩⟩
          rintro ⟨v56, A61⟩ w58 ⟨hH62, hk59⟩ a ha60
          replace h_words := Sl.tr (Dw := False) h_words hk59
          replace hK := Tr.trans (Dw := False) hK hk59
          replace hr5 := Tr.trans (Dw := False) hr5 hk59
          replace hr31 := Tr.trans (Dw := False) hr31 hk59
          replace hr45 := Tr.trans (Dw := False) hr45 hk59
          replace hB := Nat.le_trans hB hk59.ex.size
          replace hA := hk59.new
          replace hH : Hp w.heap.size A61 w58 (obS (α := ByteArray) 9 v56 s54 :: []) := hH62
          obtain rfl := Option.some.inj ho43
          exact ⟨(v56, A61), ha60.sub ⟨rfl, rfl, rfl, rfl, trivial⟩, ⟨hH, hr45⟩⟩
        rintro ⟨v46, A51⟩ w48 ⟨hH52, hk49⟩ a ha50
        replace h_words := Sl.tr (Dw := False) h_words hk49
        replace hK := Tr.trans (Dw := False) hK hk49
        replace hr5 := Tr.trans (Dw := False) hr5 hk49
        replace hr31 := Tr.trans (Dw := False) hr31 hk49
        replace hB := Nat.le_trans hB hk49.ex.size
        replace hA := hk49.new
        replace hH : Hp w.heap.size A51 w48 (obS (α := ByteArray) 9 v46 s44 :: []) := hH52
        obtain rfl := Option.some.inj ho29
        exact ⟨(v46, A51), ha50.sub ⟨rfl, rfl, rfl, rfl, trivial⟩, ⟨hH, hr31⟩⟩
      rintro ⟨v32, A37⟩ w34 ⟨hH38, hk35⟩ a ha36
      replace h_words := Sl.tr (Dw := False) h_words hk35
      replace hK := Tr.trans (Dw := False) hK hk35
      replace hr5 := Tr.trans (Dw := False) hr5 hk35
      replace hB := Nat.le_trans hB hk35.ex.size
      replace hA := hk35.new
      replace hH : Hp w.heap.size A37 w34 (obS (α := ByteArray) 9 v32 s30 :: []) := hH38
      refine C_at (n := ⟨34, [], none⟩) (fun _ _ => rfl) ?_ ha36
      refine C_region ?_
      refine V_y (Y_addI rfl rfl) rfl rfl rfl ?_
      refine V_y (Y_move rfl) rfl rfl rfl ?_
      obtain rfl := Option.some.inj h21
      refine V_end (fun a ha107 => ?_)
      exact ⟨s30, hlt24, h22, ⟨(v32, A37), ha107.sub ⟨rfl, rfl, rfl, (congrArg (fun z => some (Value.int .i64 z)) (w64_succ hlt24 hn27)), trivial⟩, ⟨hH, hr5⟩⟩⟩
    · refine C_exit (fun a ha108 => ?_)
      exact ⟨(s14, v16, A18), ha108.sub ⟨rfl, trivial⟩, ⟨(h25 (eq_of_dec hle23 hc28)).symm, hH, hr5⟩⟩
  rintro ⟨s4, v10, A12⟩ w7 ⟨rfl, hH13, hk8⟩ a ha9
  rw [Lp.andThen_fin] at hm
  replace hK := Tr.trans (Dw := False) hK hk8
  replace hB := Nat.le_trans hB hk8.ex.size
  replace hA := hk8.new
  replace hH : Hp w.heap.size A12 w7 (obS (α := ByteArray) 9 v10 s4 :: []) := hH13
  refine C_at (n := ⟨34, [], none⟩) (fun _ _ => rfl) ?_ ha9
  refine C_seq ?_
  refine C_region ?_
  refine V_y (Y_move rfl) rfl rfl rfl ?_
  obtain ⟨x110, hx110, hm⟩ := Option.bind_eq_some_iff.1 hm
  refine V_call Tryd.call22 rfl rfl rfl rfl (strings_Join_c w7 (A := fun _ => True) (fun _ _ => trivial) s4 v10 (Hp.any (α := ByteArray) (e := 9) (v := v10) (l := s4) hH (i := 0) rfl) (⟨#[32]⟩ : ByteArray) hx110) ?_
  rintro _ w111 ⟨rfl, hk112⟩
  have ht113 := Kp.tr (Dw := False) hk112 hA hB
  replace hH := Hp.kp (Dw := False) hH hk112
  replace hK := Tr.trans (Dw := False) hK ht113
  replace hB := Nat.le_trans hB ht113.ex.size
  replace hA := ht113.new
  obtain ⟨x114, hx114, hm⟩ := Option.bind_eq_some_iff.1 hm
  refine V_y (Y_sadd hx114 rfl rfl) rfl rfl rfl ?_
  refine V_y (Y_assign rfl) rfl rfl rfl ?_
  refine V_to (fun _ _ => rfl) ?_
  obtain rfl := Option.some.inj hm
  refine C_ret ?_
  try simp only [↓inBlock_ret, ↓then_ret]
  exact retQ rfl (Res.one Tryd.results15 rfl) ⟨rfl, hK.kp⟩

set_option maxRecDepth 4000 in
set_option maxHeartbeats 4000000 in
theorem portref2_PolicyString_c (w : World) {A : Nat → Prop} (hA : ∀ b, w.heap.size ≤ b → A b) (hT : Fz Tryd_FR A w) (p : level_Policy) (v_p0 : Value) (h_p0 : Sl A w v_p0 p.pauses) (v_p1 : Value) (h_p1 : Sl A w v_p1 p.levels) {r : (ByteArray × Int)} (hm : portref2_PolicyString p = some r) : Ret Tryd.prog 5 #[.agg #[v_p0, v_p1]] w fun v w' => v = .tuple #[.string r.1, .int .i64 r.2] ∧ Kp False w w' := by
  unfold portref2_PolicyString at hm
  refine enter Tryd.func5 rfl Tryd.ntmps5 rfl ?_
  have hA0 := hA
  have hB := Nat.le_refl w.heap.size
  have hK : Tr False w.heap.size A w A w := Tr.refl (Dw := False) hA
  have hH : Hp w.heap.size A w [] := Hp.nil
  refine C_seq ?_
  refine C_region ?_
  refine V_box rfl rfl ?_
  intro b5 w6 h7
  have hk9 := h7.kp (Dw := False)
  have h8 : El (α := level_Policy) A w6 b5 0 p := h7.el hA ⟨[v_p0], _, rfl, ⟨_, rfl, h_p0⟩, ⟨_, rfl, h_p1⟩⟩
  have ht10 := Kp.tr (Dw := False) hk9 hA hB
  replace hH := Hp.kp (Dw := False) hH hk9
  replace h_p0 := Sl.tr (Dw := False) h_p0 ht10
  replace h_p1 := Sl.tr (Dw := False) h_p1 ht10
  replace hK := Tr.trans (Dw := False) hK ht10
  replace hB := Nat.le_trans hB ht10.ex.size
  replace hA := ht10.new
  refine V_y (Y_assign rfl) rfl rfl rfl ?_
  refine V_y (Y_assign rfl) rfl rfl rfl ?_
  refine V_to (fun _ _ => rfl) ?_
  refine C_seq ?_
  refine C_seq ?_
  refine C_region ?_
  obtain ⟨v11, v13, h15, h12, h14⟩ := El_level_Policy h8
  refine V_y (Y_loadA h15 Tryd.isAgg25 Tryd.sizeOf25 rfl) rfl rfl rfl ?_
  obtain ⟨x16, hx16, hm⟩ := Option.bind_eq_some_iff.1 hm
  refine V_call Tryd.call7 rfl rfl rfl rfl (portref2_PolicyFault_c w6 hA p v11 h12 v13 h14 hx16) ?_
  rintro _ w17 ⟨rfl, hk18⟩
  have ht19 := Kp.tr (Dw := False) hk18 hA hB
  replace hH := Hp.kp (Dw := False) hH hk18
  replace h8 := El.tr (Dw := False) h8 ht19
  replace h12 := Sl.tr (Dw := False) h12 ht19
  replace h14 := Sl.tr (Dw := False) h14 ht19
  replace hK := Tr.trans (Dw := False) hK ht19
  replace hB := Nat.le_trans hB ht19.ex.size
  replace hA := ht19.new
  refine V_y (Y_assign rfl) rfl rfl rfl ?_
  refine V_to (fun _ _ => rfl) ?_
  refine C_seq ?_
  refine C_region ?_
  refine V_y (Y_move rfl) rfl rfl rfl ?_
  refine V_y (Y_neq rfl rfl) rfl rfl rfl ?_
  refine V_to (fun _ _ => rfl) ?_
  refine C_cond rfl (fun hc20 => ?_) (fun hc20 => ?_)
  · rw [if_pos hc20] at hm
    refine C_seq ?_
    refine C_region ?_
    refine V_y (Y_move rfl) rfl rfl rfl ?_
    refine V_y (Y_assign rfl) rfl rfl rfl ?_
    refine V_y (Y_assign rfl) rfl rfl rfl ?_
    refine V_to (fun _ _ => rfl) ?_
    obtain rfl := Option.some.inj hm
    refine C_ret ?_
    try simp only [↓inBlock_ret, ↓then_ret]
    exact retQ rfl (Res.two Tryd.results5 rfl rfl) ⟨rfl, hK.kp⟩
  · rw [if_neg (nt hc20)] at hm
    refine C_skip_to (fun _ _ => rfl) ?_
    refine C_seq ?_
    refine C_region ?_
    refine V_y (Y_assign rfl) rfl rfl rfl ?_
    refine V_to (fun _ _ => rfl) ?_
    refine C_seq ?_
    refine C_seq ?_
    refine C_region ?_
    have h21 := El_level_Policy_0 h8
    refine V_y (Y_fieldAddr Tryd.underlying25 rfl Tryd.sizeOf22 (by decide) rfl) rfl rfl rfl ?_
    obtain ⟨v22, h23, h24⟩ := El.list h21
    refine V_y (Y_load h23 Tryd.isAgg22 rfl) rfl rfl rfl ?_
    refine V_y (Y_lenSl h24 rfl Tryd.underlying22 rfl) rfl rfl rfl ?_
    refine V_y (Y_move rfl) rfl rfl rfl ?_
    refine V_to (fun _ _ => rfl) ?_
    have hn45 := Sl.le h24
    obtain ⟨o25, ho25, hm⟩ := Option.bind_eq_some_iff.1 hm
    refine C_cutG (ι := (ByteArray × (Nat → Prop))) (fun ⟨s26, A32⟩ => [(1, .pointer (some ⟨b5, 0, none⟩)), (5, .string s26)]) (fun ⟨s26, A32⟩ => fun w' => o25 = .fin s26 ∧ Hp w.heap.size A32 w' ([]) ∧ Tr False w.heap.size A w17 A32 w') ?_ ?_
    · refine C_block ?_
      refine C_range ho25 (fun k28 s34 a w' => ∃ i : (Nat → Prop), Has ⟨145, [], none⟩ a ([(1, .pointer (some ⟨b5, 0, none⟩)), (5, .string s34), (21, v22), (22, .int .i64 (p.pauses.length : Int)), (23, .int .i64 (k28 : Int))]) ∧ Hp w.heap.size i w' ([]) ∧ Tr False w.heap.size A w17 i w') (fun a ha => ⟨A, ha.sub ⟨rfl, rfl, rfl, rfl, rfl, trivial⟩, ⟨hH, Tr.refl (Dw := False) hA⟩⟩) ?_
      rintro K k28 s34 a w35 ⟨A36, ha59, hH37, hr27⟩ hle41 K44 h43
      refine C_of ?_ ha59
      replace h8 := El.tr (Dw := False) h8 hr27
      replace h24 := Sl.tr (Dw := False) h24 hr27
      replace hK := Tr.trans (Dw := False) hK hr27
      replace hB := Nat.le_trans hB hr27.ex.size
      replace hA := hr27.new
      replace hH : Hp w.heap.size A36 w35 ([]) := hH37
      refine C_seq (C_region (V_y (Y_lss rfl rfl) rfl rfl rfl (V_to (fun _ _ => rfl) ?_)))
      refine C_seq ?_
      refine C_cond rfl (fun hc46 => ?_) (fun hc46 => ?_)
      · have hlt42 := lt_of_dec hc46
        obtain ⟨x38, h39, h40⟩ := K44 hlt42
        refine C_skip_to (fun _ _ => rfl) ?_
        refine C_seq ?_
        refine C_block ?_
        refine C_seq ?_
        refine C_region ?_
        obtain ⟨x47, hx47, h39⟩ := Option.bind_eq_some_iff.1 h39
        refine V_indexAddr h24 hx47 Tryd.underlying22 Tryd.sizeOf3 rfl rfl rfl ?_
        intro b48 o49 h50
        refine V_y (Y_load (El.int h50) Tryd.isAgg3 rfl) rfl rfl rfl ?_
        refine V_y (Y_assign rfl) rfl rfl rfl ?_
        refine V_to (fun _ _ => rfl) ?_
        refine C_region ?_
        refine V_y (Y_move rfl) rfl rfl rfl ?_
        refine V_y (Y_move rfl) rfl rfl rfl ?_
        obtain ⟨x51, hx51, h39⟩ := Option.bind_eq_some_iff.1 h39
        refine V_call Tryd.call9 rfl rfl rfl rfl (strconv_Itoa_c w35 hA ((Fz.tr (Dw := False) hT hK)).1 x47 hx51) ?_
        rintro _ w52 ⟨rfl, hk53⟩
        have ht54 := Kp.tr (Dw := False) hk53 hA hB
        replace hH := Hp.kp (Dw := False) hH hk53
        replace h8 := El.tr (Dw := False) h8 ht54
        replace h24 := Sl.tr (Dw := False) h24 ht54
        replace hK := Tr.trans (Dw := False) hK ht54
        replace hr27 := Tr.trans (Dw := False) hr27 ht54
        replace hB := Nat.le_trans hB ht54.ex.size
        replace hA := ht54.new
        obtain ⟨x55, hx55, h39⟩ := Option.bind_eq_some_iff.1 h39
        refine V_y (Y_sadd hx55 rfl rfl) rfl rfl rfl ?_
        obtain ⟨x56, hx56, h39⟩ := Option.bind_eq_some_iff.1 h39
        refine V_y (Y_sadd hx56 rfl rfl) rfl rfl rfl ?_
        refine V_y (Y_assign rfl) rfl rfl rfl ?_
        refine V_to (fun _ _ => rfl) ?_
        refine C_region ?_
        refine V_y (Y_addI rfl rfl) rfl rfl rfl ?_
        refine V_y (Y_move rfl) rfl rfl rfl ?_
        obtain rfl := Option.some.inj h39
        refine V_end (fun a ha57 => ?_)
        exact ⟨x56, hlt42, h40, ⟨A36, ha57.sub ⟨rfl, rfl, rfl, rfl, (congrArg (fun z => some (Value.int .i64 z)) (w64_succ hlt42 hn45)), trivial⟩, ⟨hH, hr27⟩⟩⟩
      · refine C_exit (fun a ha58 => ?_)
        exact ⟨(s34, A36), ha58.sub ⟨rfl, rfl, trivial⟩, ⟨(h43 (eq_of_dec hle41 hc46)).symm, hH, hr27⟩⟩
    rintro ⟨s26, A32⟩ w29 ⟨rfl, hH33, hk30⟩ a ha31
    rw [Lp.andThen_fin] at hm
    replace h8 := El.tr (Dw := False) h8 hk30
    replace hK := Tr.trans (Dw := False) hK hk30
    replace hB := Nat.le_trans hB hk30.ex.size
    replace hA := hk30.new
    replace hH : Hp w.heap.size A32 w29 ([]) := hH33
    refine C_at (n := ⟨145, [], none⟩) (fun _ _ => rfl) ?_ ha31
    refine C_seq ?_
    refine C_region ?_
    refine V_y (Y_move rfl) rfl rfl rfl ?_
    obtain ⟨x60, hx60, hm⟩ := Option.bind_eq_some_iff.1 hm
    refine V_y (Y_sadd hx60 rfl rfl) rfl rfl rfl ?_
    refine V_y (Y_assign rfl) rfl rfl rfl ?_
    refine V_to (fun _ _ => rfl) ?_
    refine C_seq ?_
    refine C_seq ?_
    refine C_region ?_
    have h61 := El_level_Policy_1 h8
    refine V_y (Y_fieldAddr Tryd.underlying25 rfl Tryd.sizeOf23 (by decide) rfl) rfl rfl rfl ?_
    obtain ⟨v62, h63, h64⟩ := El.list h61
    refine V_y (Y_load h63 Tryd.isAgg23 rfl) rfl rfl rfl ?_
    refine V_y (Y_lenSl h64 rfl Tryd.underlying23 rfl) rfl rfl rfl ?_
    refine V_y (Y_move rfl) rfl rfl rfl ?_
    refine V_to (fun _ _ => rfl) ?_
    have hn85 := Sl.le h64
    obtain ⟨o65, ho65, hm⟩ := Option.bind_eq_some_iff.1 hm
    refine C_cutG (ι := (ByteArray × (Nat → Prop))) (fun ⟨s66, A72⟩ => [(5, .string s66)]) (fun ⟨s66, A72⟩ => fun w' => o65 = .fin s66 ∧ Hp w.heap.size A72 w' ([]) ∧ Tr False w.heap.size A32 w29 A72 w') ?_ ?_
    · refine C_block ?_
      refine C_range ho65 (fun k68 s74 a w' => ∃ i : (Nat → Prop), Has ⟨145, [], none⟩ a ([(5, .string s74), (36, v62), (37, .int .i64 (p.levels.length : Int)), (38, .int .i64 (k68 : Int))]) ∧ Hp w.heap.size i w' ([]) ∧ Tr False w.heap.size A32 w29 i w') (fun a ha => ⟨A32, ha.sub ⟨rfl, rfl, rfl, rfl, trivial⟩, ⟨hH, Tr.refl (Dw := False) hA⟩⟩) ?_
      rintro K k68 s74 a w75 ⟨A76, ha353, hH77, hr67⟩ hle81 K84 h83
      refine C_of ?_ ha353
      replace h64 := Sl.tr (Dw := False) h64 hr67
      replace hK := Tr.trans (Dw := False) hK hr67
      replace hB := Nat.le_trans hB hr67.ex.size
      replace hA := hr67.new
      replace hH : Hp w.heap.size A76 w75 ([]) := hH77
      refine C_seq (C_region (V_y (Y_lss rfl rfl) rfl rfl rfl (V_to (fun _ _ => rfl) ?_)))
      refine C_seq ?_
      refine C_cond rfl (fun hc86 => ?_) (fun hc86 => ?_)
      · have hlt82 := lt_of_dec hc86
        obtain ⟨x78, h79, h80⟩ := K84 hlt82
        refine C_skip_to (fun _ _ => rfl) ?_
        refine C_seq ?_
        obtain ⟨o87, ho87, h79⟩ := Option.bind_eq_some_iff.1 h79
        refine C_cutG (ι := (ByteArray × (Nat → Prop))) (fun ⟨s88, A93⟩ => [(5, .string s88), (36, v62), (37, .int .i64 (p.levels.length : Int)), (38, .int .i64 (k68 : Int))]) (fun ⟨s88, A93⟩ => fun w' => o87 = .fin s88 ∧ Hp w.heap.size A93 w' ([]) ∧ Tr False w.heap.size A76 w75 A93 w') ?_ ?_
        · have hr89 : Tr False w.heap.size A76 w75 A76 w75 := Tr.refl (Dw := False) hA
          refine C_block ?_
          refine C_seq ?_
          refine C_region ?_
          obtain ⟨x95, hx95, ho87⟩ := Option.bind_eq_some_iff.1 ho87
          refine V_indexAddr h64 hx95 Tryd.underlying23 Tryd.sizeOf44 rfl rfl rfl ?_
          intro b96 o97 h98
          obtain ⟨v99, v101, h103, h100, h102⟩ := El_level_Level h98
          refine V_y (Y_loadA h103 Tryd.isAgg44 Tryd.sizeOf44 rfl) rfl rfl rfl ?_
          refine V_alloc Tryd.zeroValue44 rfl ?_
          intro b104 w105 h106
          have h111 : (v99).oneCell' = true := by obtain ⟨_, _, e, _⟩ := Sl.form h100; rw [e]; rfl
          have h114 : (v101).oneCell' = true := by obtain ⟨_, _, e, _⟩ := Sl.form h102; rw [e]; rfl
          refine V_storeNew h106 Tryd.sizeOf44 rfl rfl rfl rfl (by exact (List.forall_mem_cons.2 ⟨rfl, (List.forall_mem_cons.2 ⟨h111, (List.forall_mem_cons.2 ⟨h114, (fun _ h => nomatch h)⟩)⟩)⟩)) ?_
          intro w107 h108
          have hk116 := h108.kp (Dw := False)
          have h115 : El (α := level_Level) A76 w107 b104 0 x95 := h108.el hA ⟨[.string x95.name], _, rfl, rfl, ⟨[v99], _, rfl, ⟨_, rfl, h100⟩, ⟨_, rfl, h102⟩⟩⟩
          have ht117 := Kp.tr (Dw := False) hk116 hA hB
          replace hH := Hp.kp (Dw := False) hH hk116
          replace h64 := Sl.tr (Dw := False) h64 ht117
          replace h98 := El.tr (Dw := False) h98 ht117
          replace h100 := Sl.tr (Dw := False) h100 ht117
          replace h102 := Sl.tr (Dw := False) h102 ht117
          replace hK := Tr.trans (Dw := False) hK ht117
          replace hr67 := Tr.trans (Dw := False) hr67 ht117
          replace hr89 := Tr.trans (Dw := False) hr89 ht117
          replace hB := Nat.le_trans hB ht117.ex.size
          replace hA := ht117.new
          refine V_to (fun _ _ => rfl) ?_
          refine C_seq ?_
          refine C_region ?_
          refine V_y (Y_move rfl) rfl rfl rfl ?_
          refine V_y (Y_mkStr (ti := 3) Tryd.underlying9 rfl) rfl rfl rfl ?_
          have h118 := El_level_Level_0 h115
          refine V_y (Y_fieldAddr Tryd.underlying44 rfl Tryd.sizeOf9 (by decide) rfl) rfl rfl rfl ?_
          refine V_y (Y_load (El.str h118) Tryd.isAgg9 rfl) rfl rfl rfl ?_
          refine V_y (Y_mkStr (ti := 3) Tryd.underlying9 rfl) rfl rfl rfl ?_
          refine V_buildSlice (Dw := False) (l := ([(AnyV.str (⟨#[108, 101, 118, 101, 108]⟩ : ByteArray)), (AnyV.str x95.name)] : List AnyV)) (len := 2) Tryd.underlying62 Tryd.sizeOf20 Tryd.zeroValue20 rfl (by with_unfolding_all rfl) (show (2 * 1 : Nat) ≠ 0 by decide) (show (2 * 1 : Nat) ≤ 2 ^ 24 by decide) hA ⟨[AnyV.val 9 3 (AnyV.str (⟨#[108, 101, 118, 101, 108]⟩ : ByteArray))], _, rfl, rfl, ⟨[AnyV.val 9 3 (AnyV.str x95.name)], _, rfl, rfl, rfl⟩⟩ rfl rfl ?_
          intro v119 w120 hk122 h121
          have ht123 := Kp.tr (Dw := False) hk122 hA hB
          replace hH := Hp.kp (Dw := False) hH hk122
          replace h64 := Sl.tr (Dw := False) h64 ht123
          replace h115 := El.tr (Dw := False) h115 ht123
          replace h118 := El.tr (Dw := False) h118 ht123
          replace hK := Tr.trans (Dw := False) hK ht123
          replace hr67 := Tr.trans (Dw := False) hr67 ht123
          replace hr89 := Tr.trans (Dw := False) hr89 ht123
          replace hB := Nat.le_trans hB ht123.ex.size
          replace hA := ht123.new
          obtain ⟨x124, hx124, ho87⟩ := Option.bind_eq_some_iff.1 ho87
          refine V_call Tryd.call15 rfl rfl rfl rfl (portref2_line_c w120 hA (Fz.tr (Dw := False) hT hK) ([(AnyV.str (⟨#[108, 101, 118, 101, 108]⟩ : ByteArray)), (AnyV.str x95.name)] : List AnyV) v119 h121 hx124) ?_
          rintro _ w125 ⟨rfl, hk126⟩
          have ht127 := Kp.tr (Dw := False) hk126 hA hB
          replace hH := Hp.kp (Dw := False) hH hk126
          replace h64 := Sl.tr (Dw := False) h64 ht127
          replace h115 := El.tr (Dw := False) h115 ht127
          replace h118 := El.tr (Dw := False) h118 ht127
          replace h121 := Sl.tr (Dw := False) h121 ht127
          replace hK := Tr.trans (Dw := False) hK ht127
          replace hr67 := Tr.trans (Dw := False) hr67 ht127
          replace hr89 := Tr.trans (Dw := False) hr89 ht127
          replace hB := Nat.le_trans hB ht127.ex.size
          replace hA := ht127.new
          obtain ⟨x128, hx128, ho87⟩ := Option.bind_eq_some_iff.1 ho87
          refine V_y (Y_sadd hx128 rfl rfl) rfl rfl rfl ?_
          refine V_y (Y_assign rfl) rfl rfl rfl ?_
          refine V_to (fun _ _ => rfl) ?_
          refine C_seq ?_
          refine C_seq ?_
          refine C_region ?_
          have h129 := El_level_Level_1 h115
          refine V_y (Y_fieldAddr Tryd.underlying44 rfl Tryd.sizeOf41 (by decide) rfl) rfl rfl rfl ?_
          obtain ⟨v130, h131, h132⟩ := El.list h129
          refine V_y (Y_load h131 Tryd.isAgg41 rfl) rfl rfl rfl ?_
          refine V_y (Y_lenSl h132 rfl Tryd.underlying41 rfl) rfl rfl rfl ?_
          refine V_y (Y_move rfl) rfl rfl rfl ?_
          refine V_to (fun _ _ => rfl) ?_
          have hn153 := Sl.le h132
          obtain ⟨o133, ho133, ho87⟩ := Option.bind_eq_some_iff.1 ho87
          refine C_cutG (ι := (ByteArray × (Nat → Prop))) (fun ⟨s134, A140⟩ => [(5, .string s134), (9, .pointer (some ⟨b104, 0, none⟩)), (36, v62), (37, .int .i64 (p.levels.length : Int)), (38, .int .i64 (k68 : Int))]) (fun ⟨s134, A140⟩ => fun w' => o133 = .fin s134 ∧ Hp w.heap.size A140 w' ([]) ∧ Tr False w.heap.size A76 w125 A140 w') ?_ ?_
          · refine C_block ?_
            refine C_range ho133 (fun k136 s142 a w' => ∃ i : (Nat → Prop), Has ⟨145, [], none⟩ a ([(5, .string s142), (9, .pointer (some ⟨b104, 0, none⟩)), (36, v62), (37, .int .i64 (p.levels.length : Int)), (38, .int .i64 (k68 : Int)), (51, v130), (52, .int .i64 (x95.tests.length : Int)), (53, .int .i64 (k136 : Int))]) ∧ Hp w.heap.size i w' ([]) ∧ Tr False w.heap.size A76 w125 i w') (fun a ha => ⟨A76, ha.sub ⟨rfl, rfl, rfl, rfl, rfl, rfl, rfl, rfl, trivial⟩, ⟨hH, Tr.refl (Dw := False) hA⟩⟩) ?_
            rintro K k136 s142 a w143 ⟨A144, ha284, hH145, hr135⟩ hle149 K152 h151
            refine C_of ?_ ha284
            replace h64 := Sl.tr (Dw := False) h64 hr135
            replace h115 := El.tr (Dw := False) h115 hr135
            replace h132 := Sl.tr (Dw := False) h132 hr135
            replace hK := Tr.trans (Dw := False) hK hr135
            replace hr67 := Tr.trans (Dw := False) hr67 hr135
            replace hr89 := Tr.trans (Dw := False) hr89 hr135
            replace hB := Nat.le_trans hB hr135.ex.size
            replace hA := hr135.new
            replace hH : Hp w.heap.size A144 w143 ([]) := hH145
            refine C_seq (C_region (V_y (Y_lss rfl rfl) rfl rfl rfl (V_to (fun _ _ => rfl) ?_)))
            refine C_seq ?_
            refine C_cond rfl (fun hc154 => ?_) (fun hc154 => ?_)
            · have hlt150 := lt_of_dec hc154
              obtain ⟨x146, h147, h148⟩ := K152 hlt150
              refine C_skip_to (fun _ _ => rfl) ?_
              refine C_seq ?_
              obtain ⟨o155, ho155, h147⟩ := Option.bind_eq_some_iff.1 h147
              refine C_cutG (ι := (ByteArray × (Nat → Prop))) (fun ⟨s156, A161⟩ => [(5, .string s156), (9, .pointer (some ⟨b104, 0, none⟩)), (36, v62), (37, .int .i64 (p.levels.length : Int)), (38, .int .i64 (k68 : Int)), (51, v130), (52, .int .i64 (x95.tests.length : Int)), (53, .int .i64 (k136 : Int))]) (fun ⟨s156, A161⟩ => fun w' => o155 = .fin s156 ∧ Hp w.heap.size A161 w' ([]) ∧ Tr False w.heap.size A144 w143 A161 w') ?_ ?_
              · have hr157 : Tr False w.heap.size A144 w143 A144 w143 := Tr.refl (Dw := False) hA
                refine C_block ?_
                refine C_seq ?_
                refine C_region ?_
                obtain ⟨x163, hx163, ho155⟩ := Option.bind_eq_some_iff.1 ho155
                refine V_indexAddr h132 hx163 Tryd.underlying41 Tryd.sizeOf48 rfl rfl rfl ?_
                intro b164 o165 h166
                obtain ⟨h167, _⟩ := El_level_Test h166
                refine V_y (Y_loadA h167 Tryd.isAgg48 Tryd.sizeOf48 rfl) rfl rfl rfl ?_
                refine V_alloc Tryd.zeroValue48 rfl ?_
                intro b168 w169 h170
                refine V_storeNew h170 Tryd.sizeOf48 rfl rfl rfl rfl (by exact (List.forall_mem_cons.2 ⟨rfl, (List.forall_mem_cons.2 ⟨rfl, (List.forall_mem_cons.2 ⟨rfl, (List.forall_mem_cons.2 ⟨rfl, (fun _ h => nomatch h)⟩)⟩)⟩)⟩)) ?_
                intro w171 h172
                have hk174 := h172.kp (Dw := False)
                have h173 : El (α := level_Test) A144 w171 b168 0 x163 := h172.el hA ⟨[.int .i64 x163.field], _, rfl, rfl, ⟨[.int .i64 x163.value.kind], _, rfl, rfl, ⟨[.int .i64 x163.value.int], _, rfl, rfl, rfl⟩⟩⟩
                have ht175 := Kp.tr (Dw := False) hk174 hA hB
                replace hH := Hp.kp (Dw := False) hH hk174
                replace h64 := Sl.tr (Dw := False) h64 ht175
                replace h115 := El.tr (Dw := False) h115 ht175
                replace h132 := Sl.tr (Dw := False) h132 ht175
                replace h166 := El.tr (Dw := False) h166 ht175
                replace hK := Tr.trans (Dw := False) hK ht175
                replace hr67 := Tr.trans (Dw := False) hr67 ht175
                replace hr89 := Tr.trans (Dw := False) hr89 ht175
                replace hr135 := Tr.trans (Dw := False) hr135 ht175
                replace hr157 := Tr.trans (Dw := False) hr157 ht175
                replace hB := Nat.le_trans hB ht175.ex.size
                replace hA := ht175.new
                refine V_to (fun _ _ => rfl) ?_
                refine C_seq ?_
                refine C_region ?_
                have h176 := El_level_Test_1 h173
                refine V_y (Y_fieldAddr Tryd.underlying48 rfl Tryd.sizeOf46 (by decide) rfl) rfl rfl rfl ?_
                obtain ⟨h177, _⟩ := El_api_Value h176
                refine V_y (Y_loadA h177 Tryd.isAgg46 Tryd.sizeOf46 rfl) rfl rfl rfl ?_
                refine V_alloc Tryd.zeroValue46 rfl ?_
                intro b178 w179 h180
                refine V_storeNew h180 Tryd.sizeOf46 rfl rfl rfl rfl (by exact (List.forall_mem_cons.2 ⟨rfl, (List.forall_mem_cons.2 ⟨rfl, (List.forall_mem_cons.2 ⟨rfl, (fun _ h => nomatch h)⟩)⟩)⟩)) ?_
                intro w181 h182
                have hk184 := h182.kp (Dw := False)
                have h183 : El (α := api_Value) A144 w181 b178 0 x163.value := h182.el hA ⟨[.int .i64 x163.value.kind], _, rfl, rfl, ⟨[.int .i64 x163.value.int], _, rfl, rfl, rfl⟩⟩
                have ht185 := Kp.tr (Dw := False) hk184 hA hB
                replace hH := Hp.kp (Dw := False) hH hk184
                replace h64 := Sl.tr (Dw := False) h64 ht185
                replace h115 := El.tr (Dw := False) h115 ht185
                replace h132 := Sl.tr (Dw := False) h132 ht185
                replace h173 := El.tr (Dw := False) h173 ht185
                replace h176 := El.tr (Dw := False) h176 ht185
                replace hK := Tr.trans (Dw := False) hK ht185
                replace hr67 := Tr.trans (Dw := False) hr67 ht185
                replace hr89 := Tr.trans (Dw := False) hr89 ht185
                replace hr135 := Tr.trans (Dw := False) hr135 ht185
                replace hr157 := Tr.trans (Dw := False) hr157 ht185
                replace hB := Nat.le_trans hB ht185.ex.size
                replace hA := ht185.new
                refine V_to (fun _ _ => rfl) ?_
                obtain ⟨o186, ho186, ho155⟩ := Option.bind_eq_some_iff.1 ho155
                refine C_cutG (ι := (ByteArray × (Nat → Prop))) (fun ⟨s187, A192⟩ => [(5, .string s187), (9, .pointer (some ⟨b104, 0, none⟩)), (36, v62), (37, .int .i64 (p.levels.length : Int)), (38, .int .i64 (k68 : Int)), (51, v130), (52, .int .i64 (x95.tests.length : Int)), (53, .int .i64 (k136 : Int))]) (fun ⟨s187, A192⟩ => fun w' => o186 = .fin s187 ∧ Hp w.heap.size A192 w' ([]) ∧ Tr False w.heap.size A144 w181 A192 w') ?_ ?_
                · have hr188 : Tr False w.heap.size A144 w181 A144 w181 := Tr.refl (Dw := False) hA
                  refine C_block ?_
                  refine C_seq ?_
                  refine C_region ?_
                  have h194 := El_api_Value_0 h183
                  refine V_y (Y_fieldAddr Tryd.underlying46 rfl Tryd.sizeOf3 (by decide) rfl) rfl rfl rfl ?_
                  refine V_y (Y_load (El.int h194) Tryd.isAgg3 rfl) rfl rfl rfl ?_
                  refine V_y (Y_eql rfl rfl) rfl rfl rfl ?_
                  refine V_y (Y_move rfl) rfl rfl rfl ?_
                  refine V_cut 9 (fun _ : Unit => [(5, .string s142), (9, .pointer (some ⟨b104, 0, none⟩)), (11, .pointer (some ⟨b168, 0, none⟩)), (12, .pointer (some ⟨b178, 0, none⟩)), (36, v62), (37, .int .i64 (p.levels.length : Int)), (38, .int .i64 (k68 : Int)), (51, v130), (52, .int .i64 (x95.tests.length : Int)), (53, .int .i64 (k136 : Int)), (89, .bool ((x163.value.kind == 2) && ((decide (x163.value.int < (-999999999999999999))) || (decide ((999999999999999999 : Int) < x163.value.int)))))]) (fun _ w' => w181 = w') ?_ ?_
                  · simp only [List.take, List.drop]
                    rcases Bool.eq_false_or_eq_true (x163.value.kind == 2) with hc195 | hc195
                    · refine V_ge rfl rfl rfl hc195 ?_
                      have h197 := El_api_Value_1 h183
                      refine V_y (Y_fieldAddr Tryd.underlying46 rfl Tryd.sizeOf3 (by decide) rfl) rfl rfl rfl ?_
                      refine V_ge rfl rfl rfl hc195 ?_
                      refine V_y (Y_load (El.int h197) Tryd.isAgg3 rfl) rfl rfl rfl ?_
                      refine V_ge rfl rfl rfl hc195 ?_
                      refine V_y (Y_lss rfl rfl) rfl rfl rfl ?_
                      refine V_ge rfl rfl rfl hc195 ?_
                      refine V_y (Y_move rfl) rfl rfl rfl ?_
                      refine V_cut 4 (fun _ : Unit => [(5, .string s142), (9, .pointer (some ⟨b104, 0, none⟩)), (11, .pointer (some ⟨b168, 0, none⟩)), (12, .pointer (some ⟨b178, 0, none⟩)), (36, v62), (37, .int .i64 (p.levels.length : Int)), (38, .int .i64 (k68 : Int)), (51, v130), (52, .int .i64 (x95.tests.length : Int)), (53, .int .i64 (k136 : Int)), (80, .bool (x163.value.kind == 2)), (88, .bool ((decide (x163.value.int < (-999999999999999999))) || (decide ((999999999999999999 : Int) < x163.value.int))))]) (fun _ w' => w181 = w') ?_ ?_
                      · simp only [List.take, List.drop]
                        rcases Bool.eq_false_or_eq_true (decide (x163.value.int < (-999999999999999999))) with hc198 | hc198
                        · refine V_gn rfl rfl rfl hc198 rfl rfl rfl ?_
                          refine V_gn rfl rfl rfl hc198 rfl rfl rfl ?_
                          refine V_gn rfl rfl rfl hc198 rfl rfl rfl ?_
                          refine V_ge rfl rfl rfl hc195 ?_
                          refine V_y (Y_pick_te rfl hc198 rfl) rfl rfl rfl ?_
                          exact V_end fun a ha => ⟨(), ha.sub ⟨rfl, rfl, rfl, rfl, rfl, rfl, rfl, rfl, rfl, rfl, rfl, (by rw [hc198]; rfl), trivial⟩, rfl⟩
                        · refine V_ge rfl rfl rfl hc198 ?_
                          have h200 := El_api_Value_1 h183
                          refine V_y (Y_fieldAddr Tryd.underlying46 rfl Tryd.sizeOf3 (by decide) rfl) rfl rfl rfl ?_
                          refine V_ge rfl rfl rfl hc198 ?_
                          refine V_y (Y_load (El.int h200) Tryd.isAgg3 rfl) rfl rfl rfl ?_
                          refine V_ge rfl rfl rfl hc198 ?_
                          refine V_y (Y_gtr rfl rfl) rfl rfl rfl ?_
                          refine V_ge rfl rfl rfl hc195 ?_
                          refine V_y (Y_pick_fe rfl hc198 rfl) rfl rfl rfl ?_
                          exact V_end fun a ha => ⟨(), ha.sub ⟨rfl, rfl, rfl, rfl, rfl, rfl, rfl, rfl, rfl, rfl, rfl, (by rw [hc198]; rfl), trivial⟩, rfl⟩
                      simp only [List.take, List.drop]
                      rintro _ _ rfl
                      refine V_y (Y_pick_te rfl hc195 rfl) rfl rfl rfl ?_
                      exact V_end fun a ha => ⟨(), ha.sub ⟨rfl, rfl, rfl, rfl, rfl, rfl, rfl, rfl, rfl, rfl, (by rw [hc195]; rfl), trivial⟩, rfl⟩
                    · refine V_gn rfl rfl rfl hc195 rfl rfl rfl ?_
                      refine V_gn rfl rfl rfl hc195 rfl rfl rfl ?_
                      refine V_gn rfl rfl rfl hc195 rfl rfl rfl ?_
                      refine V_gn rfl rfl rfl hc195 rfl rfl rfl ?_
                      refine V_gu rfl rfl rfl rfl rfl ?_
                      refine V_gu rfl rfl rfl rfl rfl ?_
                      refine V_gu rfl rfl rfl rfl rfl ?_
                      refine V_gn rfl rfl rfl hc195 rfl rfl rfl ?_
                      refine V_y (Y_pick_fe rfl hc195 rfl) rfl rfl rfl ?_
                      exact V_end fun a ha => ⟨(), ha.sub ⟨rfl, rfl, rfl, rfl, rfl, rfl, rfl, rfl, rfl, rfl, (by rw [hc195]; rfl), trivial⟩, rfl⟩
                  simp only [List.take, List.drop]
                  rintro _ _ rfl
                  refine V_y (Y_assign rfl) rfl rfl rfl ?_
                  refine V_to (fun _ _ => rfl) ?_
                  obtain ⟨o201, ho201, ho186⟩ := Option.bind_eq_some_iff.1 ho186
                  refine C_cutG (ι := (ByteArray × (Nat → Prop))) (fun ⟨s202, A207⟩ => [(5, .string s202), (9, .pointer (some ⟨b104, 0, none⟩)), (36, v62), (37, .int .i64 (p.levels.length : Int)), (38, .int .i64 (k68 : Int)), (51, v130), (52, .int .i64 (x95.tests.length : Int)), (53, .int .i64 (k136 : Int))]) (fun ⟨s202, A207⟩ => fun w' => o201 = .fin s202 ∧ Hp w.heap.size A207 w' ([]) ∧ Tr False w.heap.size A144 w181 A207 w') ?_ ?_
                  · have hr203 : Tr False w.heap.size A144 w181 A144 w181 := Tr.refl (Dw := False) hA
                    refine C_cond rfl (fun hc209 => ?_) (fun hc209 => ?_)
                    · rw [if_pos hc209] at ho201
                      refine C_seq ?_
                      refine C_region ?_
                      refine V_y (Y_assign rfl) rfl rfl rfl ?_
                      refine V_y (Y_assign rfl) rfl rfl rfl ?_
                      refine V_to (fun _ _ => rfl) ?_
                      obtain rfl := Option.some.inj ho201
                      rw [Lp.andThen_rt] at ho186
                      obtain rfl := Option.some.inj ho186
                      rw [Lp.andThen_rt] at ho155
                      obtain rfl := Option.some.inj ho155
                      rw [Lp.andThen_rt] at h147
                      obtain rfl := Option.some.inj h147
                      obtain rfl := (h148 : Lp.rt _ = _)
                      rw [Lp.andThen_rt] at ho87
                      obtain rfl := Option.some.inj ho87
                      rw [Lp.andThen_rt] at h79
                      obtain rfl := Option.some.inj h79
                      obtain rfl := (h80 : Lp.rt _ = _)
                      rw [Lp.andThen_rt] at hm
                      obtain rfl := Option.some.inj hm
                      refine C_ret ?_
                      try simp only [↓inBlock_ret, ↓then_ret]
                      exact retQ rfl (Res.two Tryd.results5 rfl rfl) ⟨rfl, hK.kp⟩
                    · rw [if_neg (nt hc209)] at ho201
                      refine C_seq ?_
                      refine C_region ?_
                      have h210 := El_api_Value_0 h183
                      refine V_y (Y_fieldAddr Tryd.underlying46 rfl Tryd.sizeOf3 (by decide) rfl) rfl rfl rfl ?_
                      refine V_y (Y_load (El.int h210) Tryd.isAgg3 rfl) rfl rfl rfl ?_
                      refine V_y (Y_eql rfl rfl) rfl rfl rfl ?_
                      refine V_y (Y_assign rfl) rfl rfl rfl ?_
                      refine V_to (fun _ _ => rfl) ?_
                      obtain ⟨s212, ho211, ho201⟩ := Option.bind_eq_some_iff.1 ho201
                      refine C_cutG (ι := (Nat → Prop)) (fun (A217 : (Nat → Prop)) => [(5, .string s212), (9, .pointer (some ⟨b104, 0, none⟩)), (36, v62), (37, .int .i64 (p.levels.length : Int)), (38, .int .i64 (k68 : Int)), (51, v130), (52, .int .i64 (x95.tests.length : Int)), (53, .int .i64 (k136 : Int))]) (fun (A217 : (Nat → Prop)) => fun w' => Hp w.heap.size A217 w' ([]) ∧ Tr False w.heap.size A144 w181 A217 w') ?_ ?_
                      · have hr213 : Tr False w.heap.size A144 w181 A144 w181 := Tr.refl (Dw := False) hA
                        refine C_cond rfl (fun hc219 => ?_) (fun hc219 => ?_)
                        · rw [if_pos hc219] at ho211
                          refine C_region ?_
                          refine V_y (Y_move rfl) rfl rfl rfl ?_
                          refine V_y (Y_mkStr (ti := 3) Tryd.underlying9 rfl) rfl rfl rfl ?_
                          have h220 := El_level_Test_0 h173
                          refine V_y (Y_fieldAddr Tryd.underlying48 rfl Tryd.sizeOf3 (by decide) rfl) rfl rfl rfl ?_
                          refine V_y (Y_load (El.int h220) Tryd.isAgg3 rfl) rfl rfl rfl ?_
                          refine V_y (Y_mkInt (ts := 9) Tryd.underlying3 rfl) rfl rfl rfl ?_
                          refine V_y (Y_mkStr (ti := 3) Tryd.underlying9 rfl) rfl rfl rfl ?_
                          refine V_buildSlice (Dw := False) (l := ([(AnyV.str (⟨#[119, 104, 101, 110]⟩ : ByteArray)), (AnyV.int x163.field), (AnyV.str (⟨#[110, 105, 108]⟩ : ByteArray))] : List AnyV)) (len := 3) Tryd.underlying62 Tryd.sizeOf20 Tryd.zeroValue20 rfl (by with_unfolding_all rfl) (show (3 * 1 : Nat) ≠ 0 by decide) (show (3 * 1 : Nat) ≤ 2 ^ 24 by decide) hA ⟨[AnyV.val 9 3 (AnyV.str (⟨#[119, 104, 101, 110]⟩ : ByteArray))], _, rfl, rfl, ⟨[AnyV.val 9 3 (AnyV.int x163.field)], _, rfl, rfl, ⟨[AnyV.val 9 3 (AnyV.str (⟨#[110, 105, 108]⟩ : ByteArray))], _, rfl, rfl, rfl⟩⟩⟩ rfl rfl ?_
                          intro v221 w222 hk224 h223
                          have ht225 := Kp.tr (Dw := False) hk224 hA hB
                          replace hH := Hp.kp (Dw := False) hH hk224
                          replace h64 := Sl.tr (Dw := False) h64 ht225
                          replace h115 := El.tr (Dw := False) h115 ht225
                          replace h132 := Sl.tr (Dw := False) h132 ht225
                          replace h173 := El.tr (Dw := False) h173 ht225
                          replace h183 := El.tr (Dw := False) h183 ht225
                          replace h220 := El.tr (Dw := False) h220 ht225
                          replace hK := Tr.trans (Dw := False) hK ht225
                          replace hr67 := Tr.trans (Dw := False) hr67 ht225
                          replace hr89 := Tr.trans (Dw := False) hr89 ht225
                          replace hr135 := Tr.trans (Dw := False) hr135 ht225
                          replace hr157 := Tr.trans (Dw := False) hr157 ht225
                          replace hr188 := Tr.trans (Dw := False) hr188 ht225
                          replace hr203 := Tr.trans (Dw := False) hr203 ht225
                          replace hr213 := Tr.trans (Dw := False) hr213 ht225
                          replace hB := Nat.le_trans hB ht225.ex.size
                          replace hA := ht225.new
                          obtain ⟨x226, hx226, ho211⟩ := Option.bind_eq_some_iff.1 ho211
                          refine V_call Tryd.call15 rfl rfl rfl rfl (portref2_line_c w222 hA (Fz.tr (Dw := False) hT hK) ([(AnyV.str (⟨#[119, 104, 101, 110]⟩ : ByteArray)), (AnyV.int x163.field), (AnyV.str (⟨#[110, 105, 108]⟩ : ByteArray))] : List AnyV) v221 h223 hx226) ?_
                          rintro _ w227 ⟨rfl, hk228⟩
                          have ht229 := Kp.tr (Dw := False) hk228 hA hB
                          replace hH := Hp.kp (Dw := False) hH hk228
                          replace h64 := Sl.tr (Dw := False) h64 ht229
                          replace h115 := El.tr (Dw := False) h115 ht229
                          replace h132 := Sl.tr (Dw := False) h132 ht229
                          replace h173 := El.tr (Dw := False) h173 ht229
                          replace h183 := El.tr (Dw := False) h183 ht229
                          replace h220 := El.tr (Dw := False) h220 ht229
                          replace h223 := Sl.tr (Dw := False) h223 ht229
                          replace hK := Tr.trans (Dw := False) hK ht229
                          replace hr67 := Tr.trans (Dw := False) hr67 ht229
                          replace hr89 := Tr.trans (Dw := False) hr89 ht229
                          replace hr135 := Tr.trans (Dw := False) hr135 ht229
                          replace hr157 := Tr.trans (Dw := False) hr157 ht229
                          replace hr188 := Tr.trans (Dw := False) hr188 ht229
                          replace hr203 := Tr.trans (Dw := False) hr203 ht229
                          replace hr213 := Tr.trans (Dw := False) hr213 ht229
                          replace hB := Nat.le_trans hB ht229.ex.size
                          replace hA := ht229.new
                          obtain ⟨x230, hx230, ho211⟩ := Option.bind_eq_some_iff.1 ho211
                          refine V_y (Y_sadd hx230 rfl rfl) rfl rfl rfl ?_
                          refine V_y (Y_assign rfl) rfl rfl rfl ?_
                          obtain rfl := Option.some.inj ho211
                          refine V_end (fun a ha231 => ?_)
                          exact ⟨A144, ha231.sub ⟨rfl, rfl, rfl, rfl, rfl, rfl, rfl, rfl, trivial⟩, ⟨hH, hr213⟩⟩
                        · rw [if_neg (nt hc219)] at ho211
                          refine C_seq ?_
                          refine C_region ?_
                          have h232 := El_api_Value_0 h183
                          refine V_y (Y_fieldAddr Tryd.underlying46 rfl Tryd.sizeOf3 (by decide) rfl) rfl rfl rfl ?_
                          refine V_y (Y_load (El.int h232) Tryd.isAgg3 rfl) rfl rfl rfl ?_
                          refine V_y (Y_eql rfl rfl) rfl rfl rfl ?_
                          refine V_y (Y_assign rfl) rfl rfl rfl ?_
                          refine V_to (fun _ _ => rfl) ?_
                          obtain ⟨s234, ho233, ho211⟩ := Option.bind_eq_some_iff.1 ho211
                          refine C_cutG (ι := (Nat → Prop)) (fun (A239 : (Nat → Prop)) => [(5, .string s234), (9, .pointer (some ⟨b104, 0, none⟩)), (36, v62), (37, .int .i64 (p.levels.length : Int)), (38, .int .i64 (k68 : Int)), (51, v130), (52, .int .i64 (x95.tests.length : Int)), (53, .int .i64 (k136 : Int))]) (fun (A239 : (Nat → Prop)) => fun w' => Hp w.heap.size A239 w' ([]) ∧ Tr False w.heap.size A144 w181 A239 w') ?_ ?_
                          · have hr235 : Tr False w.heap.size A144 w181 A144 w181 := Tr.refl (Dw := False) hA
                            refine C_cond rfl (fun hc241 => ?_) (fun hc241 => ?_)
                            · rw [if_pos hc241] at ho233
                              refine C_region_q (Dw := False) Tryd_mixed (by kernel_rfl) ?_
                              refine VQ_y (fun w' hw' => Y_move rfl) rfl rfl rfl ?_
                              have h242 := El_level_Test_0 h173
                              refine VQ_y (fun w' hw' => Y_fieldAddr Tryd.underlying48 rfl Tryd.sizeOf3 (by decide) rfl) rfl rfl rfl ?_
                              refine VQ_y (fun w' hw' => Y_load (El.int (El.kp (Dw := False) h242 hw')) Tryd.isAgg3 rfl) rfl rfl rfl ?_
                              obtain ⟨x243, hx243, ho233⟩ := Option.bind_eq_some_iff.1 ho233
                              refine VQ_call (.string x243) Tryd.call9 rfl rfl rfl rfl (fun w' hw' => (strconv_Itoa_c w' (fun b hb => hA b (Nat.le_trans hw'.size hb)) ((Fz.kp (Dw := False) (Fz.tr (Dw := False) hT hK) hw')).1 x163.field hx243).mono (fun _ _ h => ⟨h.1, Kp.trans (Dw := False) hw' h.2⟩)) ?_
                              obtain ⟨x244, hx244, ho233⟩ := Option.bind_eq_some_iff.1 ho233
                              refine VQ_y (fun w' hw' => Y_sadd hx244 rfl rfl) rfl rfl rfl ?_
                              obtain ⟨x245, hx245, ho233⟩ := Option.bind_eq_some_iff.1 ho233
                              refine VQ_y (fun w' hw' => Y_sadd hx245 rfl rfl) rfl rfl rfl ?_
                              have h246 := El_api_Value_2 h183
                              refine VQ_y (fun w' hw' => Y_fieldAddr Tryd.underlying46 rfl Tryd.sizeOf9 (by decide) rfl) rfl rfl rfl ?_
                              refine VQ_y (fun w' hw' => Y_load (El.str (El.kp (Dw := False) h246 hw')) Tryd.isAgg9 rfl) rfl rfl rfl ?_
                              obtain ⟨x247, hx247, ho233⟩ := Option.bind_eq_some_iff.1 ho233
                              refine VQ_y (fun w' hw' => Y_sadd hx247 rfl rfl) rfl rfl rfl ?_
                              obtain ⟨x248, hx248, ho233⟩ := Option.bind_eq_some_iff.1 ho233
                              refine VQ_y (fun w' hw' => Y_sadd hx248 rfl rfl) rfl rfl rfl ?_
                              obtain ⟨x249, hx249, ho233⟩ := Option.bind_eq_some_iff.1 ho233
                              refine VQ_y (fun w' hw' => Y_sadd hx249 rfl rfl) rfl rfl rfl ?_
                              refine VQ_y (fun w' hw' => Y_assign rfl) rfl rfl rfl ?_
                              obtain rfl := Option.some.inj ho233
                              refine VQ_end (fun a ha250 w251 hk252 => ?_)
                              have ht253 := Kp.tr (Dw := False) hk252 hA hB
                              replace hH := Hp.kp (Dw := False) hH hk252
                              replace h64 := Sl.tr (Dw := False) h64 ht253
                              replace h115 := El.tr (Dw := False) h115 ht253
                              replace h132 := Sl.tr (Dw := False) h132 ht253
                              replace h173 := El.tr (Dw := False) h173 ht253
                              replace h183 := El.tr (Dw := False) h183 ht253
                              replace h242 := El.tr (Dw := False) h242 ht253
                              replace h246 := El.tr (Dw := False) h246 ht253
                              replace hK := Tr.trans (Dw := False) hK ht253
                              replace hr67 := Tr.trans (Dw := False) hr67 ht253
                              replace hr89 := Tr.trans (Dw := False) hr89 ht253
                              replace hr135 := Tr.trans (Dw := False) hr135 ht253
                              replace hr157 := Tr.trans (Dw := False) hr157 ht253
                              replace hr188 := Tr.trans (Dw := False) hr188 ht253
                              replace hr203 := Tr.trans (Dw := False) hr203 ht253
                              replace hr213 := Tr.trans (Dw := False) hr213 ht253
                              replace hr235 := Tr.trans (Dw := False) hr235 ht253
                              replace hB := Nat.le_trans hB ht253.ex.size
                              replace hA := ht253.new
                              exact ⟨A144, ha250.sub ⟨rfl, rfl, rfl, rfl, rfl, rfl, rfl, rfl, trivial⟩, ⟨hH, hr235⟩⟩
                            · rw [if_neg (nt hc241)] at ho233
                              refine C_region_ch (Dw := False) A144 18 [(1, 0), (1, 1), (1, 2), (1, 3), (1, 4), (0, 5), (1, 6), (1, 7), (0, 8), (0, 9), (1, 10), (1, 11), (1, 12), (1, 13), (2, 14), (2, 15), (1, 16), (1, 17)] Tryd_mixed (by kernel_rfl) (fun w254 hk255 => ?_)
                              have ht256 := Kp.tr (Dw := False) hk255 hA hB
                              replace hH := Hp.kp (Dw := False) hH hk255
                              replace h64 := Sl.tr (Dw := False) h64 ht256
                              replace h115 := El.tr (Dw := False) h115 ht256
                              replace h132 := Sl.tr (Dw := False) h132 ht256
                              replace h173 := El.tr (Dw := False) h173 ht256
                              replace h183 := El.tr (Dw := False) h183 ht256
                              replace hK := Tr.trans (Dw := False) hK ht256
                              replace hr67 := Tr.trans (Dw := False) hr67 ht256
                              replace hr89 := Tr.trans (Dw := False) hr89 ht256
                              replace hr135 := Tr.trans (Dw := False) hr135 ht256
                              replace hr157 := Tr.trans (Dw := False) hr157 ht256
                              replace hr188 := Tr.trans (Dw := False) hr188 ht256
                              replace hr203 := Tr.trans (Dw := False) hr203 ht256
                              replace hr213 := Tr.trans (Dw := False) hr213 ht256
                              replace hr235 := Tr.trans (Dw := False) hr235 ht256
                              replace hB := Nat.le_trans hB ht256.ex.size
                              replace hA := ht256.new
                              refine CH_q2 (Dw := False) rfl ?_
                              refine VQ_y (fun w' hw' => Y_move rfl) rfl rfl rfl ?_
                              refine VQ_CH (Dw := False) ?_
                              refine CH_q2 (Dw := False) rfl ?_
                              refine VQ_y (fun w' hw' => Y_mkStr (ti := 3) Tryd.underlying9 rfl) rfl rfl rfl ?_
                              refine VQ_CH (Dw := False) ?_
                              refine CH_q2 (Dw := False) rfl ?_
                              have h257 := El_level_Test_0 h173
                              refine VQ_y (fun w' hw' => Y_fieldAddr Tryd.underlying48 rfl Tryd.sizeOf3 (by decide) rfl) rfl rfl rfl ?_
                              refine VQ_CH (Dw := False) ?_
                              refine CH_q2 (Dw := False) rfl ?_
                              refine VQ_y (fun w' hw' => Y_load (El.int (El.keep h257 (XA.ex hw'))) Tryd.isAgg3 rfl) rfl rfl rfl ?_
                              refine VQ_CH (Dw := False) ?_
                              refine CH_q2 (Dw := False) rfl ?_
                              refine VQ_y (fun w' hw' => Y_mkInt (ts := 9) Tryd.underlying3 rfl) rfl rfl rfl ?_
                              refine VQ_CH (Dw := False) ?_
                              refine CH_q1 (Dw := False) rfl ?_
                              obtain ⟨v258, h259, h260⟩ := El.list ((Fz.tr (Dw := False) hT hK)).2.1
                              refine VQ_y (fun w' hw' => Y_load ((World.cell?_of_block (hw'.block _ (World.block_lt_of_cell? _ _ h259))).trans h259) Tryd.isAgg53 rfl) rfl rfl rfl ?_
                              refine VQ_CH (Dw := False) ?_
                              refine CH_q2 (Dw := False) rfl ?_
                              have h261 := El_api_Value_0 h183
                              refine VQ_y (fun w' hw' => Y_fieldAddr Tryd.underlying46 rfl Tryd.sizeOf3 (by decide) rfl) rfl rfl rfl ?_
                              refine VQ_CH (Dw := False) ?_
                              refine CH_q2 (Dw := False) rfl ?_
                              refine VQ_y (fun w' hw' => Y_load (El.int (El.keep h261 (XA.ex hw'))) Tryd.isAgg3 rfl) rfl rfl rfl ?_
                              refine VQ_CH (Dw := False) ?_
                              refine CH_q1 (Dw := False) rfl ?_
                              obtain ⟨x262, hx262, ho233⟩ := Option.bind_eq_some_iff.1 ho233
                              refine VQ_indexAddr h260 hx262 Tryd.underlying53 Tryd.sizeOf9 rfl rfl rfl ?_
                              intro b263 o264 h265
                              refine VQ_CH (Dw := False) ?_
                              refine CH_q1 (Dw := False) rfl ?_
                              refine VQ_y (fun w' hw' => Y_load (El.str (El.kp (Dw := False) h265 hw')) Tryd.isAgg9 rfl) rfl rfl rfl ?_
                              refine VQ_CH (Dw := False) ?_
                              refine CH_q2 (Dw := False) rfl ?_
                              refine VQ_y (fun w' hw' => Y_mkStr (ti := 3) Tryd.underlying9 rfl) rfl rfl rfl ?_
                              refine VQ_CH (Dw := False) ?_
                              refine CH_q2 (Dw := False) rfl ?_
                              have h266 := El_api_Value_1 h183
                              refine VQ_y (fun w' hw' => Y_fieldAddr Tryd.underlying46 rfl Tryd.sizeOf3 (by decide) rfl) rfl rfl rfl ?_
                              refine VQ_CH (Dw := False) ?_
                              refine CH_q2 (Dw := False) rfl ?_
                              refine VQ_y (fun w' hw' => Y_load (El.int (El.keep h266 (XA.ex hw'))) Tryd.isAgg3 rfl) rfl rfl rfl ?_
                              refine VQ_CH (Dw := False) ?_
                              refine CH_q2 (Dw := False) rfl ?_
                              refine VQ_y (fun w' hw' => Y_mkInt (ts := 9) Tryd.underlying3 rfl) rfl rfl rfl ?_
                              refine VQ_CH (Dw := False) ?_
                              refine CH_l1 (Dw := False) (k := 0) rfl ?_
                              refine V_buildSlice (Dw := False) (l := ([(AnyV.str (⟨#[119, 104, 101, 110]⟩ : ByteArray)), (AnyV.int x163.field), (AnyV.str x262), (AnyV.int x163.value.int)] : List AnyV)) (len := 4) Tryd.underlying62 Tryd.sizeOf20 Tryd.zeroValue20 rfl (by with_unfolding_all rfl) (show (4 * 1 : Nat) ≠ 0 by decide) (show (4 * 1 : Nat) ≤ 2 ^ 24 by decide) hA ⟨[AnyV.val 9 3 (AnyV.str (⟨#[119, 104, 101, 110]⟩ : ByteArray))], _, rfl, rfl, ⟨[AnyV.val 9 3 (AnyV.int x163.field)], _, rfl, rfl, ⟨[AnyV.val 9 3 (AnyV.str x262)], _, rfl, rfl, ⟨[AnyV.val 9 3 (AnyV.int x163.value.int)], _, rfl, rfl, rfl⟩⟩⟩⟩ rfl rfl ?_
                              intro v267 w268 hk270 h269
                              have ht271 := Kp.tr (Dw := False) hk270 hA hB
                              replace hH := Hp.kp (Dw := False) hH hk270
                              replace h64 := Sl.tr (Dw := False) h64 ht271
                              replace h115 := El.tr (Dw := False) h115 ht271
                              replace h132 := Sl.tr (Dw := False) h132 ht271
                              replace h173 := El.tr (Dw := False) h173 ht271
                              replace h183 := El.tr (Dw := False) h183 ht271
                              replace h257 := El.tr (Dw := False) h257 ht271
                              replace h260 := Sl.tr (Dw := False) h260 ht271
                              replace h261 := El.tr (Dw := False) h261 ht271
                              replace h265 := El.tr (Dw := False) h265 ht271
                              replace h266 := El.tr (Dw := False) h266 ht271
                              replace hK := Tr.trans (Dw := False) hK ht271
                              replace hr67 := Tr.trans (Dw := False) hr67 ht271
                              replace hr89 := Tr.trans (Dw := False) hr89 ht271
                              replace hr135 := Tr.trans (Dw := False) hr135 ht271
                              replace hr157 := Tr.trans (Dw := False) hr157 ht271
                              replace hr188 := Tr.trans (Dw := False) hr188 ht271
                              replace hr203 := Tr.trans (Dw := False) hr203 ht271
                              replace hr213 := Tr.trans (Dw := False) hr213 ht271
                              replace hr235 := Tr.trans (Dw := False) hr235 ht271
                              replace hB := Nat.le_trans hB ht271.ex.size
                              replace hA := ht271.new
                              refine V_CH (Dw := False) (hk270) ?_
                              refine CH_l1 (Dw := False) (k := 0) rfl ?_
                              obtain ⟨x272, hx272, ho233⟩ := Option.bind_eq_some_iff.1 ho233
                              refine V_call Tryd.call15 rfl rfl rfl rfl (portref2_line_c w268 hA (Fz.tr (Dw := False) hT hK) ([(AnyV.str (⟨#[119, 104, 101, 110]⟩ : ByteArray)), (AnyV.int x163.field), (AnyV.str x262), (AnyV.int x163.value.int)] : List AnyV) v267 h269 hx272) ?_
                              rintro _ w273 ⟨rfl, hk274⟩
                              have ht275 := Kp.tr (Dw := False) hk274 hA hB
                              replace hH := Hp.kp (Dw := False) hH hk274
                              replace h64 := Sl.tr (Dw := False) h64 ht275
                              replace h115 := El.tr (Dw := False) h115 ht275
                              replace h132 := Sl.tr (Dw := False) h132 ht275
                              replace h173 := El.tr (Dw := False) h173 ht275
                              replace h183 := El.tr (Dw := False) h183 ht275
                              replace h257 := El.tr (Dw := False) h257 ht275
                              replace h260 := Sl.tr (Dw := False) h260 ht275
                              replace h261 := El.tr (Dw := False) h261 ht275
                              replace h265 := El.tr (Dw := False) h265 ht275
                              replace h266 := El.tr (Dw := False) h266 ht275
                              replace h269 := Sl.tr (Dw := False) h269 ht275
                              replace hK := Tr.trans (Dw := False) hK ht275
                              replace hr67 := Tr.trans (Dw := False) hr67 ht275
                              replace hr89 := Tr.trans (Dw := False) hr89 ht275
                              replace hr135 := Tr.trans (Dw := False) hr135 ht275
                              replace hr157 := Tr.trans (Dw := False) hr157 ht275
                              replace hr188 := Tr.trans (Dw := False) hr188 ht275
                              replace hr203 := Tr.trans (Dw := False) hr203 ht275
                              replace hr213 := Tr.trans (Dw := False) hr213 ht275
                              replace hr235 := Tr.trans (Dw := False) hr235 ht275
                              replace hB := Nat.le_trans hB ht275.ex.size
                              replace hA := ht275.new
                              refine V_CH (Dw := False) (hk274) ?_
                              refine CH_q2 (Dw := False) rfl ?_
                              obtain ⟨x276, hx276, ho233⟩ := Option.bind_eq_some_iff.1 ho233
                              refine VQ_y (fun w' hw' => Y_sadd hx276 rfl rfl) rfl rfl rfl ?_
                              refine VQ_CH (Dw := False) ?_
                              refine CH_q2 (Dw := False) rfl ?_
                              refine VQ_y (fun w' hw' => Y_assign rfl) rfl rfl rfl ?_
                              refine VQ_CH (Dw := False) ?_
                              refine CH_tail (Dw := False) ?_
                              show V _ _ _ _ [] _ _
                              obtain rfl := Option.some.inj ho233
                              refine V_end (fun a ha277 => ?_)
                              exact ⟨A144, ha277.sub ⟨rfl, rfl, rfl, rfl, rfl, rfl, rfl, rfl, trivial⟩, ⟨hH, hr235⟩⟩
                          rintro A239 w236 ⟨hH240, hk237⟩ a ha238
                          replace h64 := Sl.tr (Dw := False) h64 hk237
                          replace h115 := El.tr (Dw := False) h115 hk237
                          replace h132 := Sl.tr (Dw := False) h132 hk237
                          replace hK := Tr.trans (Dw := False) hK hk237
                          replace hr67 := Tr.trans (Dw := False) hr67 hk237
                          replace hr89 := Tr.trans (Dw := False) hr89 hk237
                          replace hr135 := Tr.trans (Dw := False) hr135 hk237
                          replace hr157 := Tr.trans (Dw := False) hr157 hk237
                          replace hr188 := Tr.trans (Dw := False) hr188 hk237
                          replace hr203 := Tr.trans (Dw := False) hr203 hk237
                          replace hr213 := Tr.trans (Dw := False) hr213 hk237
                          replace hB := Nat.le_trans hB hk237.ex.size
                          replace hA := hk237.new
                          replace hH : Hp w.heap.size A239 w236 ([]) := hH240
                          obtain rfl := Option.some.inj ho211
                          exact ⟨A239, ha238.sub ⟨rfl, rfl, rfl, rfl, rfl, rfl, rfl, rfl, trivial⟩, ⟨hH, hr213⟩⟩
                      rintro A217 w214 ⟨hH218, hk215⟩ a ha216
                      replace h64 := Sl.tr (Dw := False) h64 hk215
                      replace h115 := El.tr (Dw := False) h115 hk215
                      replace h132 := Sl.tr (Dw := False) h132 hk215
                      replace hK := Tr.trans (Dw := False) hK hk215
                      replace hr67 := Tr.trans (Dw := False) hr67 hk215
                      replace hr89 := Tr.trans (Dw := False) hr89 hk215
                      replace hr135 := Tr.trans (Dw := False) hr135 hk215
                      replace hr157 := Tr.trans (Dw := False) hr157 hk215
                      replace hr188 := Tr.trans (Dw := False) hr188 hk215
                      replace hr203 := Tr.trans (Dw := False) hr203 hk215
                      replace hB := Nat.le_trans hB hk215.ex.size
                      replace hA := hk215.new
                      replace hH : Hp w.heap.size A217 w214 ([]) := hH218
                      obtain rfl := Option.some.inj ho201
                      exact ⟨(s212, A217), ha216.sub ⟨rfl, rfl, rfl, rfl, rfl, rfl, rfl, rfl, trivial⟩, ⟨rfl, hH, hr203⟩⟩
                  rintro ⟨s202, A207⟩ w204 ⟨rfl, hH208, hk205⟩ a ha206
                  rw [Lp.andThen_fin] at ho186
                  replace h64 := Sl.tr (Dw := False) h64 hk205
                  replace h115 := El.tr (Dw := False) h115 hk205
                  replace h132 := Sl.tr (Dw := False) h132 hk205
                  replace hK := Tr.trans (Dw := False) hK hk205
                  replace hr67 := Tr.trans (Dw := False) hr67 hk205
                  replace hr89 := Tr.trans (Dw := False) hr89 hk205
                  replace hr135 := Tr.trans (Dw := False) hr135 hk205
                  replace hr157 := Tr.trans (Dw := False) hr157 hk205
                  replace hr188 := Tr.trans (Dw := False) hr188 hk205
                  replace hB := Nat.le_trans hB hk205.ex.size
                  replace hA := hk205.new
                  replace hH : Hp w.heap.size A207 w204 ([]) := hH208
                  obtain rfl := Option.some.inj ho186
                  exact ⟨(s202, A207), ha206.sub ⟨rfl, rfl, rfl, rfl, rfl, rfl, rfl, rfl, trivial⟩, ⟨rfl, hH, hr188⟩⟩
                rintro ⟨s187, A192⟩ w189 ⟨rfl, hH193, hk190⟩ a ha191
                rw [Lp.andThen_fin] at ho155
                replace h64 := Sl.tr (Dw := False) h64 hk190
                replace h115 := El.tr (Dw := False) h115 hk190
                replace h132 := Sl.tr (Dw := False) h132 hk190
                replace hK := Tr.trans (Dw := False) hK hk190
                replace hr67 := Tr.trans (Dw := False) hr67 hk190
                replace hr89 := Tr.trans (Dw := False) hr89 hk190
                replace hr135 := Tr.trans (Dw := False) hr135 hk190
                replace hr157 := Tr.trans (Dw := False) hr157 hk190
                replace hB := Nat.le_trans hB hk190.ex.size
                replace hA := hk190.new
                replace hH : Hp w.heap.size A192 w189 ([]) := hH193
                obtain rfl := Option.some.inj ho155
                exact ⟨(s187, A192), ha191.sub ⟨rfl, rfl, rfl, rfl, rfl, rfl, rfl, rfl, trivial⟩, ⟨rfl, hH, hr157⟩⟩
              rintro ⟨s156, A161⟩ w158 ⟨rfl, hH162, hk159⟩ a ha160
              rw [Lp.andThen_fin] at h147
              replace h64 := Sl.tr (Dw := False) h64 hk159
              replace h115 := El.tr (Dw := False) h115 hk159
              replace h132 := Sl.tr (Dw := False) h132 hk159
              replace hK := Tr.trans (Dw := False) hK hk159
              replace hr67 := Tr.trans (Dw := False) hr67 hk159
              replace hr89 := Tr.trans (Dw := False) hr89 hk159
              replace hr135 := Tr.trans (Dw := False) hr135 hk159
              replace hB := Nat.le_trans hB hk159.ex.size
              replace hA := hk159.new
              replace hH : Hp w.heap.size A161 w158 ([]) := hH162
              refine C_at (n := ⟨145, [], none⟩) (fun _ _ => rfl) ?_ ha160
              refine C_region ?_
              refine V_y (Y_addI rfl rfl) rfl rfl rfl ?_
              refine V_y (Y_move rfl) rfl rfl rfl ?_
              obtain rfl := Option.some.inj h147
              refine V_end (fun a ha282 => ?_)
              exact ⟨s156, hlt150, h148, ⟨A161, ha282.sub ⟨rfl, rfl, rfl, rfl, rfl, rfl, rfl, (congrArg (fun z => some (Value.int .i64 z)) (w64_succ hlt150 hn153)), trivial⟩, ⟨hH, hr135⟩⟩⟩
            · refine C_exit (fun a ha283 => ?_)
              exact ⟨(s142, A144), ha283.sub ⟨rfl, rfl, rfl, rfl, rfl, trivial⟩, ⟨(h151 (eq_of_dec hle149 hc154)).symm, hH, hr135⟩⟩
          rintro ⟨s134, A140⟩ w137 ⟨rfl, hH141, hk138⟩ a ha139
          rw [Lp.andThen_fin] at ho87
          replace h64 := Sl.tr (Dw := False) h64 hk138
          replace h115 := El.tr (Dw := False) h115 hk138
          replace hK := Tr.trans (Dw := False) hK hk138
          replace hr67 := Tr.trans (Dw := False) hr67 hk138
          replace hr89 := Tr.trans (Dw := False) hr89 hk138
          replace hB := Nat.le_trans hB hk138.ex.size
          replace hA := hk138.new
          replace hH : Hp w.heap.size A140 w137 ([]) := hH141
          refine C_at (n := ⟨145, [], none⟩) (fun _ _ => rfl) ?_ ha139
          refine C_seq ?_
          refine C_region ?_
          have h285 := El_level_Level_2 h115
          refine V_y (Y_fieldAddr Tryd.underlying44 rfl Tryd.sizeOf42 (by decide) rfl) rfl rfl rfl ?_
          obtain ⟨v286, h287, h288⟩ := El.list h285
          refine V_y (Y_load h287 Tryd.isAgg42 rfl) rfl rfl rfl ?_
          refine V_y (Y_lenSl h288 rfl Tryd.underlying42 rfl) rfl rfl rfl ?_
          refine V_y (Y_move rfl) rfl rfl rfl ?_
          refine V_to (fun _ _ => rfl) ?_
          have hn309 := Sl.le h288
          obtain ⟨o289, ho289, ho87⟩ := Option.bind_eq_some_iff.1 ho87
          refine C_cutG (ι := (ByteArray × (Nat → Prop))) (fun ⟨s290, A296⟩ => [(5, .string s290), (36, v62), (37, .int .i64 (p.levels.length : Int)), (38, .int .i64 (k68 : Int))]) (fun ⟨s290, A296⟩ => fun w' => o289 = .fin s290 ∧ Hp w.heap.size A296 w' ([]) ∧ Tr False w.heap.size A140 w137 A296 w') ?_ ?_
          · refine C_block ?_
            refine C_range ho289 (fun k292 s298 a w' => ∃ i : (Nat → Prop), Has ⟨145, [], none⟩ a ([(5, .string s298), (36, v62), (37, .int .i64 (p.levels.length : Int)), (38, .int .i64 (k68 : Int)), (120, v286), (121, .int .i64 (x95.targets.length : Int)), (122, .int .i64 (k292 : Int))]) ∧ Hp w.heap.size i w' ([]) ∧ Tr False w.heap.size A140 w137 i w') (fun a ha => ⟨A140, ha.sub ⟨rfl, rfl, rfl, rfl, rfl, rfl, rfl, trivial⟩, ⟨hH, Tr.refl (Dw := False) hA⟩⟩) ?_
            rintro K k292 s298 a w299 ⟨A300, ha349, hH301, hr291⟩ hle305 K308 h307
            refine C_of ?_ ha349
            replace h64 := Sl.tr (Dw := False) h64 hr291
            replace h288 := Sl.tr (Dw := False) h288 hr291
            replace hK := Tr.trans (Dw := False) hK hr291
            replace hr67 := Tr.trans (Dw := False) hr67 hr291
            replace hr89 := Tr.trans (Dw := False) hr89 hr291
            replace hB := Nat.le_trans hB hr291.ex.size
            replace hA := hr291.new
            replace hH : Hp w.heap.size A300 w299 ([]) := hH301
            refine C_seq (C_region (V_y (Y_lss rfl rfl) rfl rfl rfl (V_to (fun _ _ => rfl) ?_)))
            refine C_seq ?_
            refine C_cond rfl (fun hc310 => ?_) (fun hc310 => ?_)
            · have hlt306 := lt_of_dec hc310
              obtain ⟨x302, h303, h304⟩ := K308 hlt306
              refine C_skip_to (fun _ _ => rfl) ?_
              refine C_seq ?_
              refine C_block ?_
              refine C_seq ?_
              refine C_region ?_
              obtain ⟨x311, hx311, h303⟩ := Option.bind_eq_some_iff.1 h303
              refine V_indexAddr h288 hx311 Tryd.underlying42 Tryd.sizeOf52 rfl rfl rfl ?_
              intro b312 o313 h314
              obtain ⟨h315, _⟩ := El_level_Target h314
              refine V_y (Y_loadA h315 Tryd.isAgg52 Tryd.sizeOf52 rfl) rfl rfl rfl ?_
              refine V_alloc Tryd.zeroValue52 rfl ?_
              intro b316 w317 h318
              refine V_storeNew h318 Tryd.sizeOf52 rfl rfl rfl rfl (by exact (List.forall_mem_cons.2 ⟨rfl, (List.forall_mem_cons.2 ⟨rfl, (List.forall_mem_cons.2 ⟨rfl, (fun _ h => nomatch h)⟩)⟩)⟩)) ?_
              intro w319 h320
              have hk322 := h320.kp (Dw := False)
              have h321 : El (α := level_Target) A300 w319 b316 0 x311 := h320.el hA ⟨[.int .i64 x311.kind], _, rfl, rfl, ⟨[.int .i64 x311.minutes], _, rfl, rfl, rfl⟩⟩
              have ht323 := Kp.tr (Dw := False) hk322 hA hB
              replace hH := Hp.kp (Dw := False) hH hk322
              replace h64 := Sl.tr (Dw := False) h64 ht323
              replace h288 := Sl.tr (Dw := False) h288 ht323
              replace h314 := El.tr (Dw := False) h314 ht323
              replace hK := Tr.trans (Dw := False) hK ht323
              replace hr67 := Tr.trans (Dw := False) hr67 ht323
              replace hr89 := Tr.trans (Dw := False) hr89 ht323
              replace hr291 := Tr.trans (Dw := False) hr291 ht323
              replace hB := Nat.le_trans hB ht323.ex.size
              replace hA := ht323.new
              refine V_to (fun _ _ => rfl) ?_
              refine C_region_ch (Dw := False) A300 17 [(1, 0), (0, 1), (1, 2), (1, 3), (0, 4), (0, 5), (1, 6), (1, 7), (1, 8), (1, 9), (1, 10), (1, 11), (1, 12), (2, 13), (2, 14), (1, 15), (1, 16)] Tryd_mixed (by kernel_rfl) (fun w324 hk325 => ?_)
              have ht326 := Kp.tr (Dw := False) hk325 hA hB
              replace hH := Hp.kp (Dw := False) hH hk325
              replace h64 := Sl.tr (Dw := False) h64 ht326
              replace h288 := Sl.tr (Dw := False) h288 ht326
              replace h321 := El.tr (Dw := False) h321 ht326
              replace hK := Tr.trans (Dw := False) hK ht326
              replace hr67 := Tr.trans (Dw := False) hr67 ht326
              replace hr89 := Tr.trans (Dw := False) hr89 ht326
              replace hr291 := Tr.trans (Dw := False) hr291 ht326
              replace hB := Nat.le_trans hB ht326.ex.size
              replace hA := ht326.new
              refine CH_q2 (Dw := False) rfl ?_
              refine VQ_y (fun w' hw' => Y_move rfl) rfl rfl rfl ?_
              refine VQ_CH (Dw := False) ?_
              refine CH_q1 (Dw := False) rfl ?_
              obtain ⟨v327, h328, h329⟩ := El.list ((Fz.tr (Dw := False) hT hK)).2.2
              refine VQ_y (fun w' hw' => Y_load ((World.cell?_of_block (hw'.block _ (World.block_lt_of_cell? _ _ h328))).trans h328) Tryd.isAgg53 rfl) rfl rfl rfl ?_
              refine VQ_CH (Dw := False) ?_
              refine CH_q2 (Dw := False) rfl ?_
              have h330 := El_level_Target_0 h321
              refine VQ_y (fun w' hw' => Y_fieldAddr Tryd.underlying52 rfl Tryd.sizeOf3 (by decide) rfl) rfl rfl rfl ?_
              refine VQ_CH (Dw := False) ?_
              refine CH_q2 (Dw := False) rfl ?_
              refine VQ_y (fun w' hw' => Y_load (El.int (El.keep h330 (XA.ex hw'))) Tryd.isAgg3 rfl) rfl rfl rfl ?_
              refine VQ_CH (Dw := False) ?_
              refine CH_q1 (Dw := False) rfl ?_
              obtain ⟨x331, hx331, h303⟩ := Option.bind_eq_some_iff.1 h303
              refine VQ_indexAddr h329 hx331 Tryd.underlying53 Tryd.sizeOf9 rfl rfl rfl ?_
              intro b332 o333 h334
              refine VQ_CH (Dw := False) ?_
              refine CH_q1 (Dw := False) rfl ?_
              refine VQ_y (fun w' hw' => Y_load (El.str (El.kp (Dw := False) h334 hw')) Tryd.isAgg9 rfl) rfl rfl rfl ?_
              refine VQ_CH (Dw := False) ?_
              refine CH_q2 (Dw := False) rfl ?_
              refine VQ_y (fun w' hw' => Y_mkStr (ti := 3) Tryd.underlying9 rfl) rfl rfl rfl ?_
              refine VQ_CH (Dw := False) ?_
              refine CH_q2 (Dw := False) rfl ?_
              have h335 := El_level_Target_1 h321
              refine VQ_y (fun w' hw' => Y_fieldAddr Tryd.underlying52 rfl Tryd.sizeOf3 (by decide) rfl) rfl rfl rfl ?_
              refine VQ_CH (Dw := False) ?_
              refine CH_q2 (Dw := False) rfl ?_
              refine VQ_y (fun w' hw' => Y_load (El.int (El.keep h335 (XA.ex hw'))) Tryd.isAgg3 rfl) rfl rfl rfl ?_
              refine VQ_CH (Dw := False) ?_
              refine CH_q2 (Dw := False) rfl ?_
              refine VQ_y (fun w' hw' => Y_mkInt (ts := 9) Tryd.underlying3 rfl) rfl rfl rfl ?_
              refine VQ_CH (Dw := False) ?_
              refine CH_q2 (Dw := False) rfl ?_
              have h336 := El_level_Target_2 h321
              refine VQ_y (fun w' hw' => Y_fieldAddr Tryd.underlying52 rfl Tryd.sizeOf3 (by decide) rfl) rfl rfl rfl ?_
              refine VQ_CH (Dw := False) ?_
              refine CH_q2 (Dw := False) rfl ?_
              refine VQ_y (fun w' hw' => Y_load (El.int (El.keep h336 (XA.ex hw'))) Tryd.isAgg3 rfl) rfl rfl rfl ?_
              refine VQ_CH (Dw := False) ?_
              refine CH_q2 (Dw := False) rfl ?_
              refine VQ_y (fun w' hw' => Y_mkInt (ts := 9) Tryd.underlying3 rfl) rfl rfl rfl ?_
              refine VQ_CH (Dw := False) ?_
              refine CH_l1 (Dw := False) (k := 0) rfl ?_
              refine V_buildSlice (Dw := False) (l := ([(AnyV.str x331), (AnyV.int x311.minutes), (AnyV.int x311.calendar)] : List AnyV)) (len := 3) Tryd.underlying62 Tryd.sizeOf20 Tryd.zeroValue20 rfl (by with_unfolding_all rfl) (show (3 * 1 : Nat) ≠ 0 by decide) (show (3 * 1 : Nat) ≤ 2 ^ 24 by decide) hA ⟨[AnyV.val 9 3 (AnyV.str x331)], _, rfl, rfl, ⟨[AnyV.val 9 3 (AnyV.int x311.minutes)], _, rfl, rfl, ⟨[AnyV.val 9 3 (AnyV.int x311.calendar)], _, rfl, rfl, rfl⟩⟩⟩ rfl rfl ?_
              intro v337 w338 hk340 h339
              have ht341 := Kp.tr (Dw := False) hk340 hA hB
              replace hH := Hp.kp (Dw := False) hH hk340
              replace h64 := Sl.tr (Dw := False) h64 ht341
              replace h288 := Sl.tr (Dw := False) h288 ht341
              replace h321 := El.tr (Dw := False) h321 ht341
              replace h329 := Sl.tr (Dw := False) h329 ht341
              replace h330 := El.tr (Dw := False) h330 ht341
              replace h334 := El.tr (Dw := False) h334 ht341
              replace h335 := El.tr (Dw := False) h335 ht341
              replace h336 := El.tr (Dw := False) h336 ht341
              replace hK := Tr.trans (Dw := False) hK ht341
              replace hr67 := Tr.trans (Dw := False) hr67 ht341
              replace hr89 := Tr.trans (Dw := False) hr89 ht341
              replace hr291 := Tr.trans (Dw := False) hr291 ht341
              replace hB := Nat.le_trans hB ht341.ex.size
              replace hA := ht341.new
              refine V_CH (Dw := False) (hk340) ?_
              refine CH_l1 (Dw := False) (k := 0) rfl ?_
              obtain ⟨x342, hx342, h303⟩ := Option.bind_eq_some_iff.1 h303
              refine V_call Tryd.call15 rfl rfl rfl rfl (portref2_line_c w338 hA (Fz.tr (Dw := False) hT hK) ([(AnyV.str x331), (AnyV.int x311.minutes), (AnyV.int x311.calendar)] : List AnyV) v337 h339 hx342) ?_
              rintro _ w343 ⟨rfl, hk344⟩
              have ht345 := Kp.tr (Dw := False) hk344 hA hB
              replace hH := Hp.kp (Dw := False) hH hk344
              replace h64 := Sl.tr (Dw := False) h64 ht345
              replace h288 := Sl.tr (Dw := False) h288 ht345
              replace h321 := El.tr (Dw := False) h321 ht345
              replace h329 := Sl.tr (Dw := False) h329 ht345
              replace h330 := El.tr (Dw := False) h330 ht345
              replace h334 := El.tr (Dw := False) h334 ht345
              replace h335 := El.tr (Dw := False) h335 ht345
              replace h336 := El.tr (Dw := False) h336 ht345
              replace h339 := Sl.tr (Dw := False) h339 ht345
              replace hK := Tr.trans (Dw := False) hK ht345
              replace hr67 := Tr.trans (Dw := False) hr67 ht345
              replace hr89 := Tr.trans (Dw := False) hr89 ht345
              replace hr291 := Tr.trans (Dw := False) hr291 ht345
              replace hB := Nat.le_trans hB ht345.ex.size
              replace hA := ht345.new
              refine V_CH (Dw := False) (hk344) ?_
              refine CH_q2 (Dw := False) rfl ?_
              obtain ⟨x346, hx346, h303⟩ := Option.bind_eq_some_iff.1 h303
              refine VQ_y (fun w' hw' => Y_sadd hx346 rfl rfl) rfl rfl rfl ?_
              refine VQ_CH (Dw := False) ?_
              refine CH_q2 (Dw := False) rfl ?_
              refine VQ_y (fun w' hw' => Y_assign rfl) rfl rfl rfl ?_
              refine VQ_CH (Dw := False) ?_
              refine CH_tail (Dw := False) ?_
              show V _ _ _ _ [] _ _
              refine V_to (fun _ _ => rfl) ?_
              refine C_region ?_
              refine V_y (Y_addI rfl rfl) rfl rfl rfl ?_
              refine V_y (Y_move rfl) rfl rfl rfl ?_
              obtain rfl := Option.some.inj h303
              refine V_end (fun a ha347 => ?_)
              exact ⟨x346, hlt306, h304, ⟨A300, ha347.sub ⟨rfl, rfl, rfl, rfl, rfl, rfl, (congrArg (fun z => some (Value.int .i64 z)) (w64_succ hlt306 hn309)), trivial⟩, ⟨hH, hr291⟩⟩⟩
            · refine C_exit (fun a ha348 => ?_)
              exact ⟨(s298, A300), ha348.sub ⟨rfl, rfl, rfl, rfl, trivial⟩, ⟨(h307 (eq_of_dec hle305 hc310)).symm, hH, hr291⟩⟩
          rintro ⟨s290, A296⟩ w293 ⟨rfl, hH297, hk294⟩ a ha295
          rw [Lp.andThen_fin] at ho87
          replace h64 := Sl.tr (Dw := False) h64 hk294
          replace hK := Tr.trans (Dw := False) hK hk294
          replace hr67 := Tr.trans (Dw := False) hr67 hk294
          replace hr89 := Tr.trans (Dw := False) hr89 hk294
          replace hB := Nat.le_trans hB hk294.ex.size
          replace hA := hk294.new
          replace hH : Hp w.heap.size A296 w293 ([]) := hH297
          obtain rfl := Option.some.inj ho87
          exact ⟨(s290, A296), ha295.sub ⟨rfl, rfl, rfl, rfl, trivial⟩, ⟨rfl, hH, hr89⟩⟩
        rintro ⟨s88, A93⟩ w90 ⟨rfl, hH94, hk91⟩ a ha92
        rw [Lp.andThen_fin] at h79
        replace h64 := Sl.tr (Dw := False) h64 hk91
        replace hK := Tr.trans (Dw := False) hK hk91
        replace hr67 := Tr.trans (Dw := False) hr67 hk91
        replace hB := Nat.le_trans hB hk91.ex.size
        replace hA := hk91.new
        replace hH : Hp w.heap.size A93 w90 ([]) := hH94
        refine C_at (n := ⟨145, [], none⟩) (fun _ _ => rfl) ?_ ha92
        refine C_region ?_
        refine V_y (Y_addI rfl rfl) rfl rfl rfl ?_
        refine V_y (Y_move rfl) rfl rfl rfl ?_
        obtain rfl := Option.some.inj h79
        refine V_end (fun a ha351 => ?_)
        exact ⟨s88, hlt82, h80, ⟨A93, ha351.sub ⟨rfl, rfl, rfl, (congrArg (fun z => some (Value.int .i64 z)) (w64_succ hlt82 hn85)), trivial⟩, ⟨hH, hr67⟩⟩⟩
      · refine C_exit (fun a ha352 => ?_)
        exact ⟨(s74, A76), ha352.sub ⟨rfl, trivial⟩, ⟨(h83 (eq_of_dec hle81 hc86)).symm, hH, hr67⟩⟩
    rintro ⟨s66, A72⟩ w69 ⟨rfl, hH73, hk70⟩ a ha71
    rw [Lp.andThen_fin] at hm
    replace hK := Tr.trans (Dw := False) hK hk70
    replace hB := Nat.le_trans hB hk70.ex.size
    replace hA := hk70.new
    replace hH : Hp w.heap.size A72 w69 ([]) := hH73
    refine C_at (n := ⟨145, [], none⟩) (fun _ _ => rfl) ?_ ha71
    refine C_seq ?_
    refine C_region ?_
    refine V_y (Y_move rfl) rfl rfl rfl ?_
    refine V_y (Y_assign rfl) rfl rfl rfl ?_
    refine V_y (Y_assign rfl) rfl rfl rfl ?_
    refine V_to (fun _ _ => rfl) ?_
    obtain rfl := Option.some.inj hm
    refine C_ret ?_
    try simp only [↓inBlock_ret, ↓then_ret]
    exact retQ rfl (Res.two Tryd.results5 rfl rfl) ⟨rfl, hK.kp⟩

set_option maxRecDepth 4000 in
set_option maxHeartbeats 4000000 in
theorem portlaw2_LevelChecks_c (w : World) {A : Nat → Prop} (hA : ∀ b, w.heap.size ≤ b → A b) (hT : Fz Tryd_FR A w) (p : level_Policy) (v_p0 : Value) (h_p0 : Sl A w v_p0 p.pauses) (v_p1 : Value) (h_p1 : Sl A w v_p1 p.levels) {r : Bool} (hm : portlaw2_LevelChecks p = some r) : Ret Tryd.prog 3 #[.agg #[v_p0, v_p1]] w fun v w' => v = .bool r ∧ Kp False w w' := by
  unfold portlaw2_LevelChecks at hm
  refine enter Tryd.func3 rfl Tryd.ntmps3 rfl ?_
  have hA0 := hA
  have hB := Nat.le_refl w.heap.size
  have hK : Tr False w.heap.size A w A w := Tr.refl (Dw := False) hA
  have hH : Hp w.heap.size A w [] := Hp.nil
  refine C_seq ?_
  refine C_region ?_
  refine V_box rfl rfl ?_
  intro b5 w6 h7
  have hk9 := h7.kp (Dw := False)
  have h8 : El (α := level_Policy) A w6 b5 0 p := h7.el hA ⟨[v_p0], _, rfl, ⟨_, rfl, h_p0⟩, ⟨_, rfl, h_p1⟩⟩
  have ht10 := Kp.tr (Dw := False) hk9 hA hB
  replace hH := Hp.kp (Dw := False) hH hk9
  replace h_p0 := Sl.tr (Dw := False) h_p0 ht10
  replace h_p1 := Sl.tr (Dw := False) h_p1 ht10
  replace hK := Tr.trans (Dw := False) hK ht10
  replace hB := Nat.le_trans hB ht10.ex.size
  replace hA := ht10.new
  refine V_y (Y_assign rfl) rfl rfl rfl ?_
  refine V_to (fun _ _ => rfl) ?_
  refine C_seq ?_
  refine C_region ?_
  obtain ⟨v11, v13, h15, h12, h14⟩ := El_level_Policy h8
  refine V_y (Y_loadA h15 Tryd.isAgg25 Tryd.sizeOf25 rfl) rfl rfl rfl ?_
  obtain ⟨x16, hx16, hm⟩ := Option.bind_eq_some_iff.1 hm
  refine V_call Tryd.call4 rfl rfl rfl rfl (level_PolicyText_c w6 hA (Fz.tr (Dw := False) hT hK) p v11 h12 v13 h14 hx16) ?_
  rintro _ w17 ⟨rfl, hk18⟩
  have ht19 := Kp.tr (Dw := False) hk18 hA hB
  replace hH := Hp.kp (Dw := False) hH hk18
  replace h8 := El.tr (Dw := False) h8 ht19
  replace h12 := Sl.tr (Dw := False) h12 ht19
  replace h14 := Sl.tr (Dw := False) h14 ht19
  replace hK := Tr.trans (Dw := False) hK ht19
  replace hB := Nat.le_trans hB ht19.ex.size
  replace hA := ht19.new
  refine V_y (Y_move rfl) rfl rfl rfl ?_
  refine V_y (Y_extract rfl rfl) rfl rfl rfl ?_
  refine V_y (Y_extract rfl rfl) rfl rfl rfl ?_
  refine V_y (Y_assign rfl) rfl rfl rfl ?_
  refine V_y (Y_assign rfl) rfl rfl rfl ?_
  refine V_to (fun _ _ => rfl) ?_
  refine C_seq ?_
  refine C_region ?_
  obtain ⟨v20, v22, h24, h21, h23⟩ := El_level_Policy h8
  refine V_y (Y_loadA h24 Tryd.isAgg25 Tryd.sizeOf25 rfl) rfl rfl rfl ?_
  obtain ⟨x25, hx25, hm⟩ := Option.bind_eq_some_iff.1 hm
  refine V_call Tryd.call5 rfl rfl rfl rfl (portref2_PolicyString_c w17 hA (Fz.tr (Dw := False) hT hK) p v20 h21 v22 h23 hx25) ?_
  rintro _ w26 ⟨rfl, hk27⟩
  have ht28 := Kp.tr (Dw := False) hk27 hA hB
  replace hH := Hp.kp (Dw := False) hH hk27
  replace h8 := El.tr (Dw := False) h8 ht28
  replace h21 := Sl.tr (Dw := False) h21 ht28
  replace h23 := Sl.tr (Dw := False) h23 ht28
  replace hK := Tr.trans (Dw := False) hK ht28
  replace hB := Nat.le_trans hB ht28.ex.size
  replace hA := ht28.new
  refine V_y (Y_move rfl) rfl rfl rfl ?_
  refine V_y (Y_extract rfl rfl) rfl rfl rfl ?_
  refine V_y (Y_extract rfl rfl) rfl rfl rfl ?_
  refine V_y (Y_assign rfl) rfl rfl rfl ?_
  refine V_y (Y_assign rfl) rfl rfl rfl ?_
  refine V_to (fun _ _ => rfl) ?_
  refine C_seq ?_
  refine C_region_q (Dw := False) Tryd_mixed (by kernel_rfl) ?_
  refine VQ_y (fun w' hw' => Y_move rfl) rfl rfl rfl ?_
  refine VQ_y (fun w' hw' => Y_move rfl) rfl rfl rfl ?_
  refine VQ_y (fun w' hw' => Y_seql rfl rfl) rfl rfl rfl ?_
  refine VQ_y (fun w' hw' => Y_move rfl) rfl rfl rfl ?_
  refine VQ_cut 4 (fun _ : Unit => [(1, .pointer (some ⟨b5, 0, none⟩)), (24, .bool ((strEq x16.1 x25.1) && (x16.2 == x25.2)))]) (fun _ => True) ?_ ?_
  · simp only [List.take, List.drop]
    rcases Bool.eq_false_or_eq_true (strEq x16.1 x25.1) with hc29 | hc29
    · refine VQ_ge rfl rfl rfl hc29 ?_
      refine VQ_y (fun w' hw' => Y_move rfl) rfl rfl rfl ?_
      refine VQ_ge rfl rfl rfl hc29 ?_
      refine VQ_y (fun w' hw' => Y_move rfl) rfl rfl rfl ?_
      refine VQ_ge rfl rfl rfl hc29 ?_
      refine VQ_y (fun w' hw' => Y_eql rfl rfl) rfl rfl rfl ?_
      refine VQ_y (fun _ _ => Y_pick_te rfl hc29 rfl) rfl rfl rfl ?_
      exact VQ_end fun a ha => ⟨(), ha.sub ⟨rfl, (by rw [hc29]; rfl), trivial⟩, trivial⟩
    · refine VQ_gn rfl rfl rfl hc29 rfl rfl rfl ?_
      refine VQ_gn rfl rfl rfl hc29 rfl rfl rfl ?_
      refine VQ_gn rfl rfl rfl hc29 rfl rfl rfl ?_
      refine VQ_y (fun _ _ => Y_pick_fe rfl hc29 rfl) rfl rfl rfl ?_
      exact VQ_end fun a ha => ⟨(), ha.sub ⟨rfl, (by rw [hc29]; rfl), trivial⟩, trivial⟩
  simp only [List.take, List.drop]
  rintro _ _
  refine VQ_y (fun w' hw' => Y_move rfl) rfl rfl rfl ?_
  obtain ⟨s32, hs32, hm⟩ := Option.bind_eq_some_iff.1 hm
  refine VQ_cut 6 (fun _ : Unit => [(31, .bool s32)]) (fun _ => True) ?_ ?_
  · simp only [List.take, List.drop]
    rcases Bool.eq_false_or_eq_true (((strEq x16.1 x25.1) && (x16.2 == x25.2))) with hc31 | hc31
    · rw [if_pos hc31] at hs32
      refine VQ_ge rfl rfl rfl hc31 ?_
      obtain ⟨v33, v35, h37, h34, h36⟩ := El_level_Policy h8
      refine VQ_y (fun w' hw' => Y_loadA (At.kp (Dw := False) h37 hw' h8.2.1) Tryd.isAgg25 Tryd.sizeOf25 rfl) rfl rfl rfl ?_
      refine VQ_ge rfl rfl rfl hc31 ?_
      obtain ⟨x38, hx38, hs32⟩ := Option.bind_eq_some_iff.1 hs32
      refine VQ_call (.int .i64 x38) Tryd.call6 rfl rfl rfl rfl (fun w' hw' => (level_CheckPolicy_c (Dw := False) w' (fun b hb => hA b (Nat.le_trans hw'.size hb)) p v33 (Sl.kp (Dw := False) h34 hw') v35 (Sl.kp (Dw := False) h36 hw') hx38).mono (fun _ _ h => ⟨h.1, Kp.trans (Dw := False) hw' h.2⟩)) ?_
      refine VQ_ge rfl rfl rfl hc31 ?_
      obtain ⟨v39, v41, h43, h40, h42⟩ := El_level_Policy h8
      refine VQ_y (fun w' hw' => Y_loadA (At.kp (Dw := False) h43 hw' h8.2.1) Tryd.isAgg25 Tryd.sizeOf25 rfl) rfl rfl rfl ?_
      refine VQ_ge rfl rfl rfl hc31 ?_
      obtain ⟨x44, hx44, hs32⟩ := Option.bind_eq_some_iff.1 hs32
      refine VQ_call (.int .i64 x44) Tryd.call7 rfl rfl rfl rfl (fun w' hw' => (portref2_PolicyFault_c w' (fun b hb => hA b (Nat.le_trans hw'.size hb)) p v39 (Sl.kp (Dw := False) h40 hw') v41 (Sl.kp (Dw := False) h42 hw') hx44).mono (fun _ _ h => ⟨h.1, Kp.trans (Dw := False) hw' h.2⟩)) ?_
      refine VQ_ge rfl rfl rfl hc31 ?_
      refine VQ_y (fun w' hw' => Y_eql rfl rfl) rfl rfl rfl ?_
      refine VQ_y (fun _ _ => Y_pick_te rfl hc31 rfl) rfl rfl rfl ?_
      obtain rfl := Option.some.inj hs32
      exact VQ_end fun a ha => ⟨(), ha.sub ⟨rfl, trivial⟩, trivial⟩
    · rw [if_neg (nt hc31)] at hs32
      refine VQ_gn rfl rfl rfl hc31 rfl rfl rfl ?_
      refine VQ_gn rfl rfl rfl hc31 rfl rfl rfl ?_
      refine VQ_gn rfl rfl rfl hc31 rfl rfl rfl ?_
      refine VQ_gn rfl rfl rfl hc31 rfl rfl rfl ?_
      refine VQ_gn rfl rfl rfl hc31 rfl rfl rfl ?_
      refine VQ_y (fun _ _ => Y_pick_fe rfl hc31 rfl) rfl rfl rfl ?_
      obtain rfl := Option.some.inj hs32
      exact VQ_end fun a ha => ⟨(), ha.sub ⟨rfl, trivial⟩, trivial⟩
  simp only [List.take, List.drop]
  rintro _ _
  refine VQ_y (fun w' hw' => Y_assign rfl) rfl rfl rfl ?_
  refine VQ_to (fun _ _ => rfl) (fun w45 hk46 => ?_)
  have ht47 := Kp.tr (Dw := False) hk46 hA hB
  replace hH := Hp.kp (Dw := False) hH hk46
  replace hK := Tr.trans (Dw := False) hK ht47
  replace hB := Nat.le_trans hB ht47.ex.size
  replace hA := ht47.new
  obtain rfl := Option.some.inj hm
  refine C_ret ?_
  try simp only [↓inBlock_ret, ↓then_ret]
  exact retQ rfl (Res.one Tryd.results3 rfl) ⟨rfl, hK.kp⟩

end Go.Proofs.YtpkkbbcflmbjeaaDoor.W
