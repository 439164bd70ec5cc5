/-
  Written by program (gen.py) from the IR of the dump: each function computes its model.
-/
import Derived.Test.YtpkkbbcflmbjeaaDoorLevelChecksW0
namespace Go.Proofs.YtpkkbbcflmbjeaaDoor.W
open Go Go.RowKit Go.Pu Go.Gw Go.Proofs Go.Proofs.YtpkkbbcflmbjeaaDoor.M
set_option linter.unusedVariables false
set_option linter.unusedSimpArgs false
variable {Dw : Prop}

set_option maxRecDepth 4000 in
set_option maxHeartbeats 4000000 in
theorem level_PolicyText_c (w : World) {A : Nat → Prop} (hA : ∀ b, w.heap.size ≤ b → A b) (hT : Fz Tryd_FR A w) (p : level_Policy) (v_p0 : Value) (h_p0 : Sl A w v_p0 p.pauses) (v_p1 : Value) (h_p1 : Sl A w v_p1 p.levels) {r : (ByteArray × Int)} (hm : level_PolicyText p = some r) : Ret Tryd.prog 4 #[.agg #[v_p0, v_p1]] w fun v w' => v = .tuple #[.string r.1, .int .i64 r.2] ∧ Kp False w w' := by
  unfold level_PolicyText at hm
  refine enter Tryd.func4 rfl Tryd.ntmps4 rfl ?_
  have hA0 := hA
  have hB := Nat.le_refl w.heap.size
  have hK : Tr False w.heap.size A w A w := Tr.refl (Dw := False) hA
  have hH : Hp w.heap.size A w [] := Hp.nil
  refine C_seq ?_
  refine C_region ?_
  refine V_box rfl rfl ?_
  intro b5 w6 h7
  have hk9 := h7.kp (Dw := False)
  have h8 : El (α := level_Policy) A w6 b5 0 p := h7.el hA ⟨[v_p0], _, rfl, ⟨_, rfl, h_p0⟩, ⟨_, rfl, h_p1⟩⟩
  have ht10 := Kp.tr (Dw := False) hk9 hA hB
  replace hH := Hp.kp (Dw := False) hH hk9
  replace h_p0 := Sl.tr (Dw := False) h_p0 ht10
  replace h_p1 := Sl.tr (Dw := False) h_p1 ht10
  replace hK := Tr.trans (Dw := False) hK ht10
  replace hB := Nat.le_trans hB ht10.ex.size
  replace hA := ht10.new
  refine V_y (Y_assign rfl) rfl rfl rfl ?_
  refine V_y (Y_assign rfl) rfl rfl rfl ?_
  refine V_to (fun _ _ => rfl) ?_
  refine C_seq ?_
  refine C_seq ?_
  refine C_region ?_
  obtain ⟨v11, v13, h15, h12, h14⟩ := El_level_Policy h8
  refine V_y (Y_loadA h15 Tryd.isAgg25 Tryd.sizeOf25 rfl) rfl rfl rfl ?_
  obtain ⟨x16, hx16, hm⟩ := Option.bind_eq_some_iff.1 hm
  refine V_call Tryd.call6 rfl rfl rfl rfl (level_CheckPolicy_c (Dw := False) w6 hA p v11 h12 v13 h14 hx16) ?_
  rintro _ w17 ⟨rfl, hk18⟩
  have ht19 := Kp.tr (Dw := False) hk18 hA hB
  replace hH := Hp.kp (Dw := False) hH hk18
  replace h8 := El.tr (Dw := False) h8 ht19
  replace h12 := Sl.tr (Dw := False) h12 ht19
  replace h14 := Sl.tr (Dw := False) h14 ht19
  replace hK := Tr.trans (Dw := False) hK ht19
  replace hB := Nat.le_trans hB ht19.ex.size
  replace hA := ht19.new
  refine V_y (Y_assign rfl) rfl rfl rfl ?_
  refine V_to (fun _ _ => rfl) ?_
  refine C_seq ?_
  refine C_region ?_
  refine V_y (Y_move rfl) rfl rfl rfl ?_
  refine V_y (Y_neq rfl rfl) rfl rfl rfl ?_
  refine V_to (fun _ _ => rfl) ?_
  refine C_cond rfl (fun hc20 => ?_) (fun hc20 => ?_)
  · rw [if_pos hc20] at hm
    refine C_seq ?_
    refine C_region ?_
    refine V_y (Y_move rfl) rfl rfl rfl ?_
    refine V_y (Y_assign rfl) rfl rfl rfl ?_
    refine V_y (Y_assign rfl) rfl rfl rfl ?_
    refine V_to (fun _ _ => rfl) ?_
    obtain rfl := Option.some.inj hm
    refine C_ret ?_
    try simp only [↓inBlock_ret, ↓then_ret]
    exact retQ rfl (Res.two Tryd.results4 rfl rfl) ⟨rfl, hK.kp⟩
  · rw [if_neg (nt hc20)] at hm
    refine C_skip_to (fun _ _ => rfl) ?_
    refine C_seq ?_
    refine C_region ?_
    refine V_allocH (Dw := False) (B := w.heap.size) hH Tryd.zeroValue34 hB hA rfl ?_
    intro b21 w22 A23 hH24 ht25
    replace hH24 := Hp.bdOf (e := 5) hH24
    replace h8 := El.tr (Dw := False) h8 ht25
    replace hK := Tr.trans (Dw := False) hK ht25
    replace hB := Nat.le_trans hB ht25.ex.size
    replace hA := ht25.new
    replace hH : Hp w.heap.size A23 w22 (obBd 34 5 b21 ByteArray.empty :: []) := hH24
    refine V_to (fun _ _ => rfl) ?_
    refine C_seq ?_
    refine C_region ?_
    obtain ⟨x26, hx26, hm⟩ := Option.bind_eq_some_iff.1 hm
    refine V_call Tryd.call8 rfl rfl rfl rfl (strings_Builder_WriteString_c w22 hB hA ByteArray.empty b21 (⟨#[112, 97, 117, 115, 101]⟩ : ByteArray) hH hx26) ?_
    rintro _ w27 ⟨A28, rfl, hH29, ht30⟩
    replace h8 := El.tr (Dw := False) h8 ht30
    replace hK := Tr.trans (Dw := False) hK ht30
    replace hB := Nat.le_trans hB ht30.ex.size
    replace hA := ht30.new
    replace hH : Hp w.heap.size A28 w27 (obBd 34 5 b21 x26.2.2 :: []) := hH29
    refine V_to (fun _ _ => rfl) ?_
    refine C_seq ?_
    refine C_seq ?_
    refine C_region ?_
    have h31 := El_level_Policy_0 h8
    refine V_y (Y_fieldAddr Tryd.underlying25 rfl Tryd.sizeOf22 (by decide) rfl) rfl rfl rfl ?_
    obtain ⟨v32, h33, h34⟩ := El.list h31
    refine V_y (Y_load h33 Tryd.isAgg22 rfl) rfl rfl rfl ?_
    refine V_y (Y_lenSl h34 rfl Tryd.underlying22 rfl) rfl rfl rfl ?_
    refine V_y (Y_move rfl) rfl rfl rfl ?_
    refine V_to (fun _ _ => rfl) ?_
    have hn55 := Sl.le h34
    obtain ⟨o35, ho35, hm⟩ := Option.bind_eq_some_iff.1 hm
    refine C_cutG (ι := (ByteArray × (Nat → Prop))) (fun ⟨s36, A42⟩ => [(1, .pointer (some ⟨b5, 0, none⟩)), (5, .pointer (some ⟨b21, 0, none⟩))]) (fun ⟨s36, A42⟩ => fun w' => o35 = .fin s36 ∧ Hp w.heap.size A42 w' (obBd 34 5 b21 s36 :: []) ∧ Tr False w.heap.size A28 w27 A42 w') ?_ ?_
    · refine C_block ?_
      refine C_range ho35 (fun k38 s44 a w' => ∃ i : (Nat → Prop), Has ⟨90, [], none⟩ a ([(1, .pointer (some ⟨b5, 0, none⟩)), (5, .pointer (some ⟨b21, 0, none⟩)), (21, v32), (22, .int .i64 (p.pauses.length : Int)), (23, .int .i64 (k38 : Int))]) ∧ Hp w.heap.size i w' (obBd 34 5 b21 s44 :: []) ∧ Tr False w.heap.size A28 w27 i w') (fun a ha => ⟨A28, ha.sub ⟨rfl, rfl, rfl, rfl, rfl, trivial⟩, ⟨hH, Tr.refl (Dw := False) hA⟩⟩) ?_
      rintro K k38 s44 a w45 ⟨A46, ha73, hH47, hr37⟩ hle51 K54 h53
      refine C_of ?_ ha73
      replace h8 := El.tr (Dw := False) h8 hr37
      replace h34 := Sl.tr (Dw := False) h34 hr37
      replace hK := Tr.trans (Dw := False) hK hr37
      replace hB := Nat.le_trans hB hr37.ex.size
      replace hA := hr37.new
      replace hH : Hp w.heap.size A46 w45 (obBd 34 5 b21 s44 :: []) := hH47
      refine C_seq (C_region (V_y (Y_lss rfl rfl) rfl rfl rfl (V_to (fun _ _ => rfl) ?_)))
      refine C_seq ?_
      refine C_cond rfl (fun hc56 => ?_) (fun hc56 => ?_)
      · have hlt52 := lt_of_dec hc56
        obtain ⟨x48, h49, h50⟩ := K54 hlt52
        refine C_skip_to (fun _ _ => rfl) ?_
        refine C_seq ?_
        refine C_block ?_
        refine C_seq ?_
        refine C_region ?_
        obtain ⟨x57, hx57, h49⟩ := Option.bind_eq_some_iff.1 h49
        refine V_indexAddr h34 hx57 Tryd.underlying22 Tryd.sizeOf3 rfl rfl rfl ?_
        intro b58 o59 h60
        refine V_y (Y_load (El.int h60) Tryd.isAgg3 rfl) rfl rfl rfl ?_
        refine V_y (Y_assign rfl) rfl rfl rfl ?_
        refine V_to (fun _ _ => rfl) ?_
        refine C_region ?_
        refine V_y (Y_move rfl) rfl rfl rfl ?_
        obtain ⟨x61, hx61, h49⟩ := Option.bind_eq_some_iff.1 h49
        refine V_call Tryd.call9 rfl rfl rfl rfl (strconv_Itoa_c w45 hA ((Fz.tr (Dw := False) hT hK)).1 x57 hx61) ?_
        rintro _ w62 ⟨rfl, hk63⟩
        have ht64 := Kp.tr (Dw := False) hk63 hA hB
        replace hH := Hp.kp (Dw := False) hH hk63
        replace h8 := El.tr (Dw := False) h8 ht64
        replace h34 := Sl.tr (Dw := False) h34 ht64
        replace hK := Tr.trans (Dw := False) hK ht64
        replace hr37 := Tr.trans (Dw := False) hr37 ht64
        replace hB := Nat.le_trans hB ht64.ex.size
        replace hA := ht64.new
        obtain ⟨x65, hx65, h49⟩ := Option.bind_eq_some_iff.1 h49
        refine V_y (Y_sadd hx65 rfl rfl) rfl rfl rfl ?_
        obtain ⟨x66, hx66, h49⟩ := Option.bind_eq_some_iff.1 h49
        refine V_call Tryd.call8 rfl rfl rfl rfl (strings_Builder_WriteString_c w62 hB hA s44 b21 x65 hH hx66) ?_
        rintro _ w67 ⟨A68, rfl, hH69, ht70⟩
        replace h8 := El.tr (Dw := False) h8 ht70
        replace h34 := Sl.tr (Dw := False) h34 ht70
        replace hK := Tr.trans (Dw := False) hK ht70
        replace hr37 := Tr.trans (Dw := False) hr37 ht70
        replace hB := Nat.le_trans hB ht70.ex.size
        replace hA := ht70.new
        replace hH : Hp w.heap.size A68 w67 (obBd 34 5 b21 x66.2.2 :: []) := hH69
        refine V_to (fun _ _ => rfl) ?_
        refine C_region ?_
        refine V_y (Y_addI rfl rfl) rfl rfl rfl ?_
        refine V_y (Y_move rfl) rfl rfl rfl ?_
        obtain rfl := Option.some.inj h49
        refine V_end (fun a ha71 => ?_)
        exact ⟨x66.2.2, hlt52, h50, ⟨A68, ha71.sub ⟨rfl, rfl, rfl, rfl, (congrArg (fun z => some (Value.int .i64 z)) (w64_succ hlt52 hn55)), trivial⟩, ⟨hH, hr37⟩⟩⟩
      · refine C_exit (fun a ha72 => ?_)
        exact ⟨(s44, A46), ha72.sub ⟨rfl, rfl, trivial⟩, ⟨(h53 (eq_of_dec hle51 hc56)).symm, hH, hr37⟩⟩
    rintro ⟨s36, A42⟩ w39 ⟨rfl, hH43, hk40⟩ a ha41
    rw [Lp.andThen_fin] at hm
    replace h8 := El.tr (Dw := False) h8 hk40
    replace hK := Tr.trans (Dw := False) hK hk40
    replace hB := Nat.le_trans hB hk40.ex.size
    replace hA := hk40.new
    replace hH : Hp w.heap.size A42 w39 (obBd 34 5 b21 s36 :: []) := hH43
    refine C_at (n := ⟨90, [], none⟩) (fun _ _ => rfl) ?_ ha41
    refine C_seq ?_
    refine C_region ?_
    obtain ⟨x74, hx74, hm⟩ := Option.bind_eq_some_iff.1 hm
    refine V_call Tryd.call10 rfl rfl rfl rfl (strings_Builder_WriteByte_c w39 hB hA s36 b21 (10 : UInt8) hH hx74) ?_
    rintro _ w75 ⟨A76, rfl, hH77, ht78⟩
    replace h8 := El.tr (Dw := False) h8 ht78
    replace hK := Tr.trans (Dw := False) hK ht78
    replace hB := Nat.le_trans hB ht78.ex.size
    replace hA := ht78.new
    replace hH : Hp w.heap.size A76 w75 (obBd 34 5 b21 x74.2 :: []) := hH77
    refine V_to (fun _ _ => rfl) ?_
    refine C_seq ?_
    refine C_seq ?_
    refine C_region ?_
    have h79 := El_level_Policy_1 h8
    refine V_y (Y_fieldAddr Tryd.underlying25 rfl Tryd.sizeOf23 (by decide) rfl) rfl rfl rfl ?_
    obtain ⟨v80, h81, h82⟩ := El.list h79
    refine V_y (Y_load h81 Tryd.isAgg23 rfl) rfl rfl rfl ?_
    refine V_y (Y_lenSl h82 rfl Tryd.underlying23 rfl) rfl rfl rfl ?_
    refine V_y (Y_move rfl) rfl rfl rfl ?_
    refine V_to (fun _ _ => rfl) ?_
    have hn103 := Sl.le h82
    obtain ⟨o83, ho83, hm⟩ := Option.bind_eq_some_iff.1 hm
    refine C_cutG (ι := (ByteArray × (Nat → Prop))) (fun ⟨s84, A90⟩ => [(5, .pointer (some ⟨b21, 0, none⟩))]) (fun ⟨s84, A90⟩ => fun w' => o83 = .fin s84 ∧ Hp w.heap.size A90 w' (obBd 34 5 b21 s84 :: []) ∧ Tr False w.heap.size A76 w75 A90 w') ?_ ?_
    · refine C_block ?_
      refine C_range ho83 (fun k86 s92 a w' => ∃ i : (Nat → Prop), Has ⟨90, [], none⟩ a ([(5, .pointer (some ⟨b21, 0, none⟩)), (34, v80), (35, .int .i64 (p.levels.length : Int)), (36, .int .i64 (k86 : Int))]) ∧ Hp w.heap.size i w' (obBd 34 5 b21 s92 :: []) ∧ Tr False w.heap.size A76 w75 i w') (fun a ha => ⟨A76, ha.sub ⟨rfl, rfl, rfl, rfl, trivial⟩, ⟨hH, Tr.refl (Dw := False) hA⟩⟩) ?_
      rintro K k86 s92 a w93 ⟨A94, ha282, hH95, hr85⟩ hle99 K102 h101
      refine C_of ?_ ha282
      replace h82 := Sl.tr (Dw := False) h82 hr85
      replace hK := Tr.trans (Dw := False) hK hr85
      replace hB := Nat.le_trans hB hr85.ex.size
      replace hA := hr85.new
      replace hH : Hp w.heap.size A94 w93 (obBd 34 5 b21 s92 :: []) := hH95
      refine C_seq (C_region (V_y (Y_lss rfl rfl) rfl rfl rfl (V_to (fun _ _ => rfl) ?_)))
      refine C_seq ?_
      refine C_cond rfl (fun hc104 => ?_) (fun hc104 => ?_)
      · have hlt100 := lt_of_dec hc104
        obtain ⟨x96, h97, h98⟩ := K102 hlt100
        refine C_skip_to (fun _ _ => rfl) ?_
        refine C_seq ?_
        obtain ⟨o105, ho105, h97⟩ := Option.bind_eq_some_iff.1 h97
        refine C_cutG (ι := (ByteArray × (Nat → Prop))) (fun ⟨s106, A111⟩ => [(5, .pointer (some ⟨b21, 0, none⟩)), (34, v80), (35, .int .i64 (p.levels.length : Int)), (36, .int .i64 (k86 : Int))]) (fun ⟨s106, A111⟩ => fun w' => o105 = .fin s106 ∧ Hp w.heap.size A111 w' (obBd 34 5 b21 s106 :: []) ∧ Tr False w.heap.size A94 w93 A111 w') ?_ ?_
        · have hr107 : Tr False w.heap.size A94 w93 A94 w93 := Tr.refl (Dw := False) hA
          refine C_block ?_
          refine C_seq ?_
          refine C_region ?_
          obtain ⟨x113, hx113, ho105⟩ := Option.bind_eq_some_iff.1 ho105
          refine V_indexAddr h82 hx113 Tryd.underlying23 Tryd.sizeOf44 rfl rfl rfl ?_
          intro b114 o115 h116
          obtain ⟨v117, v119, h121, h118, h120⟩ := El_level_Level h116
          refine V_y (Y_loadA h121 Tryd.isAgg44 Tryd.sizeOf44 rfl) rfl rfl rfl ?_
          refine V_alloc Tryd.zeroValue44 rfl ?_
          intro b122 w123 h124
          have h129 : (v117).oneCell' = true := by obtain ⟨_, _, e, _⟩ := Sl.form h118; rw [e]; rfl
          have h132 : (v119).oneCell' = true := by obtain ⟨_, _, e, _⟩ := Sl.form h120; rw [e]; rfl
          refine V_storeNew h124 Tryd.sizeOf44 rfl rfl rfl rfl (by exact (List.forall_mem_cons.2 ⟨rfl, (List.forall_mem_cons.2 ⟨h129, (List.forall_mem_cons.2 ⟨h132, (fun _ h => nomatch h)⟩)⟩)⟩)) ?_
          intro w125 h126
          have hk134 := h126.kp (Dw := False)
          have h133 : El (α := level_Level) A94 w125 b122 0 x113 := h126.el hA ⟨[.string x113.name], _, rfl, rfl, ⟨[v117], _, rfl, ⟨_, rfl, h118⟩, ⟨_, rfl, h120⟩⟩⟩
          have ht135 := Kp.tr (Dw := False) hk134 hA hB
          replace hH := Hp.kp (Dw := False) hH hk134
          replace h82 := Sl.tr (Dw := False) h82 ht135
          replace h116 := El.tr (Dw := False) h116 ht135
          replace h118 := Sl.tr (Dw := False) h118 ht135
          replace h120 := Sl.tr (Dw := False) h120 ht135
          replace hK := Tr.trans (Dw := False) hK ht135
          replace hr85 := Tr.trans (Dw := False) hr85 ht135
          replace hr107 := Tr.trans (Dw := False) hr107 ht135
          replace hB := Nat.le_trans hB ht135.ex.size
          replace hA := ht135.new
          refine V_to (fun _ _ => rfl) ?_
          refine C_seq ?_
          refine C_region ?_
          have h136 := El_level_Level_0 h133
          refine V_y (Y_fieldAddr Tryd.underlying44 rfl Tryd.sizeOf9 (by decide) rfl) rfl rfl rfl ?_
          refine V_y (Y_load (El.str h136) Tryd.isAgg9 rfl) rfl rfl rfl ?_
          obtain ⟨x137, hx137, ho105⟩ := Option.bind_eq_some_iff.1 ho105
          refine V_y (Y_sadd hx137 rfl rfl) rfl rfl rfl ?_
          obtain ⟨x138, hx138, ho105⟩ := Option.bind_eq_some_iff.1 ho105
          refine V_y (Y_sadd hx138 rfl rfl) rfl rfl rfl ?_
          obtain ⟨x139, hx139, ho105⟩ := Option.bind_eq_some_iff.1 ho105
          refine V_call Tryd.call8 rfl rfl rfl rfl (strings_Builder_WriteString_c w125 hB hA s92 b21 x138 hH hx139) ?_
          rintro _ w140 ⟨A141, rfl, hH142, ht143⟩
          replace h82 := Sl.tr (Dw := False) h82 ht143
          replace h133 := El.tr (Dw := False) h133 ht143
          replace h136 := El.tr (Dw := False) h136 ht143
          replace hK := Tr.trans (Dw := False) hK ht143
          replace hr85 := Tr.trans (Dw := False) hr85 ht143
          replace hr107 := Tr.trans (Dw := False) hr107 ht143
          replace hB := Nat.le_trans hB ht143.ex.size
          replace hA := ht143.new
          replace hH : Hp w.heap.size A141 w140 (obBd 34 5 b21 x139.2.2 :: []) := hH142
          refine V_to (fun _ _ => rfl) ?_
          refine C_seq ?_
          refine C_seq ?_
          refine C_region ?_
          have h144 := El_level_Level_1 h133
          refine V_y (Y_fieldAddr Tryd.underlying44 rfl Tryd.sizeOf41 (by decide) rfl) rfl rfl rfl ?_
          obtain ⟨v145, h146, h147⟩ := El.list h144
          refine V_y (Y_load h146 Tryd.isAgg41 rfl) rfl rfl rfl ?_
          refine V_y (Y_lenSl h147 rfl Tryd.underlying41 rfl) rfl rfl rfl ?_
          refine V_y (Y_move rfl) rfl rfl rfl ?_
          refine V_to (fun _ _ => rfl) ?_
          have hn168 := Sl.le h147
          obtain ⟨o148, ho148, ho105⟩ := Option.bind_eq_some_iff.1 ho105
          refine C_cutG (ι := (ByteArray × (Nat → Prop))) (fun ⟨s149, A155⟩ => [(5, .pointer (some ⟨b21, 0, none⟩)), (9, .pointer (some ⟨b122, 0, none⟩)), (34, v80), (35, .int .i64 (p.levels.length : Int)), (36, .int .i64 (k86 : Int))]) (fun ⟨s149, A155⟩ => fun w' => o148 = .fin s149 ∧ Hp w.heap.size A155 w' (obBd 34 5 b21 s149 :: []) ∧ Tr False w.heap.size A141 w140 A155 w') ?_ ?_
          · refine C_block ?_
            refine C_range ho148 (fun k151 s157 a w' => ∃ i : (Nat → Prop), Has ⟨90, [], none⟩ a ([(5, .pointer (some ⟨b21, 0, none⟩)), (9, .pointer (some ⟨b122, 0, none⟩)), (34, v80), (35, .int .i64 (p.levels.length : Int)), (36, .int .i64 (k86 : Int)), (46, v145), (47, .int .i64 (x113.tests.length : Int)), (48, .int .i64 (k151 : Int))]) ∧ Hp w.heap.size i w' (obBd 34 5 b21 s157 :: []) ∧ Tr False w.heap.size A141 w140 i w') (fun a ha => ⟨A141, ha.sub ⟨rfl, rfl, rfl, rfl, rfl, rfl, rfl, rfl, trivial⟩, ⟨hH, Tr.refl (Dw := False) hA⟩⟩) ?_
            rintro K k151 s157 a w158 ⟨A159, ha199, hH160, hr150⟩ hle164 K167 h166
            refine C_of ?_ ha199
            replace h82 := Sl.tr (Dw := False) h82 hr150
            replace h133 := El.tr (Dw := False) h133 hr150
            replace h147 := Sl.tr (Dw := False) h147 hr150
            replace hK := Tr.trans (Dw := False) hK hr150
            replace hr85 := Tr.trans (Dw := False) hr85 hr150
            replace hr107 := Tr.trans (Dw := False) hr107 hr150
            replace hB := Nat.le_trans hB hr150.ex.size
            replace hA := hr150.new
            replace hH : Hp w.heap.size A159 w158 (obBd 34 5 b21 s157 :: []) := hH160
            refine C_seq (C_region (V_y (Y_lss rfl rfl) rfl rfl rfl (V_to (fun _ _ => rfl) ?_)))
            refine C_seq ?_
            refine C_cond rfl (fun hc169 => ?_) (fun hc169 => ?_)
            · have hlt165 := lt_of_dec hc169
              obtain ⟨x161, h162, h163⟩ := K167 hlt165
              refine C_skip_to (fun _ _ => rfl) ?_
              refine C_seq ?_
              refine C_block ?_
              refine C_seq ?_
              refine C_region ?_
              obtain ⟨x170, hx170, h162⟩ := Option.bind_eq_some_iff.1 h162
              refine V_indexAddr h147 hx170 Tryd.underlying41 Tryd.sizeOf48 rfl rfl rfl ?_
              intro b171 o172 h173
              obtain ⟨h174, _⟩ := El_level_Test h173
              refine V_y (Y_loadA h174 Tryd.isAgg48 Tryd.sizeOf48 rfl) rfl rfl rfl ?_
              refine V_alloc Tryd.zeroValue48 rfl ?_
              intro b175 w176 h177
              refine V_storeNew h177 Tryd.sizeOf48 rfl rfl rfl rfl (by exact (List.forall_mem_cons.2 ⟨rfl, (List.forall_mem_cons.2 ⟨rfl, (List.forall_mem_cons.2 ⟨rfl, (List.forall_mem_cons.2 ⟨rfl, (fun _ h => nomatch h)⟩)⟩)⟩)⟩)) ?_
              intro w178 h179
              have hk181 := h179.kp (Dw := False)
              have h180 : El (α := level_Test) A159 w178 b175 0 x170 := h179.el hA ⟨[.int .i64 x170.field], _, rfl, rfl, ⟨[.int .i64 x170.value.kind], _, rfl, rfl, ⟨[.int .i64 x170.value.int], _, rfl, rfl, rfl⟩⟩⟩
              have ht182 := Kp.tr (Dw := False) hk181 hA hB
              replace hH := Hp.kp (Dw := False) hH hk181
              replace h82 := Sl.tr (Dw := False) h82 ht182
              replace h133 := El.tr (Dw := False) h133 ht182
              replace h147 := Sl.tr (Dw := False) h147 ht182
              replace h173 := El.tr (Dw := False) h173 ht182
              replace hK := Tr.trans (Dw := False) hK ht182
              replace hr85 := Tr.trans (Dw := False) hr85 ht182
              replace hr107 := Tr.trans (Dw := False) hr107 ht182
              replace hr150 := Tr.trans (Dw := False) hr150 ht182
              replace hB := Nat.le_trans hB ht182.ex.size
              replace hA := ht182.new
              refine V_to (fun _ _ => rfl) ?_
              refine C_seq ?_
              refine C_seq ?_
              refine C_region ?_
              have h183 := El_level_Test_1 h180
              refine V_y (Y_fieldAddr Tryd.underlying48 rfl Tryd.sizeOf46 (by decide) rfl) rfl rfl rfl ?_
              have h184 := El_api_Value_1 h183
              refine V_y (Y_fieldAddr Tryd.underlying46 rfl Tryd.sizeOf3 (by decide) rfl) rfl rfl rfl ?_
              refine V_y (Y_load (El.int h184) Tryd.isAgg3 rfl) rfl rfl rfl ?_
              refine V_call Tryd.call11 rfl rfl rfl rfl (level_within_c w178 x170.value.int (-999999999999999999) 999999999999999999) ?_
              rintro _ _ ⟨rfl, rfl⟩
              refine V_y (Y_not rfl) rfl rfl rfl ?_
              refine V_to (fun _ _ => rfl) ?_
              refine C_cond rfl (fun hc185 => ?_) (fun hc185 => ?_)
              · rw [if_pos hc185] at h162
                refine C_seq ?_
                refine C_region ?_
                refine V_y (Y_assign rfl) rfl rfl rfl ?_
                refine V_y (Y_assign rfl) rfl rfl rfl ?_
                refine V_to (fun _ _ => rfl) ?_
                obtain rfl := Option.some.inj h162
                obtain rfl := (h163 : Lp.rt _ = _)
                rw [Lp.andThen_rt] at ho105
                obtain rfl := Option.some.inj ho105
                rw [Lp.andThen_rt] at h97
                obtain rfl := Option.some.inj h97
                obtain rfl := (h98 : Lp.rt _ = _)
                rw [Lp.andThen_rt] at hm
                obtain rfl := Option.some.inj hm
                refine C_ret ?_
                try simp only [↓inBlock_ret, ↓then_ret]
                exact retQ rfl (Res.two Tryd.results4 rfl rfl) ⟨rfl, hK.kp⟩
              · rw [if_neg (nt hc185)] at h162
                refine C_skip_to (fun _ _ => rfl) ?_
                refine C_region ?_
                obtain ⟨h186, _⟩ := El_level_Test h180
                refine V_y (Y_loadA h186 Tryd.isAgg48 Tryd.sizeOf48 rfl) rfl rfl rfl ?_
                obtain ⟨x187, hx187, h162⟩ := Option.bind_eq_some_iff.1 h162
                refine V_call Tryd.call12 rfl rfl rfl rfl (level_testText_c w178 hA (Fz.tr (Dw := False) hT hK) x170 hx187) ?_
                rintro _ w188 ⟨rfl, hk189⟩
                have ht190 := Kp.tr (Dw := False) hk189 hA hB
                replace hH := Hp.kp (Dw := False) hH hk189
                replace h82 := Sl.tr (Dw := False) h82 ht190
                replace h133 := El.tr (Dw := False) h133 ht190
                replace h147 := Sl.tr (Dw := False) h147 ht190
                replace h180 := El.tr (Dw := False) h180 ht190
                replace hK := Tr.trans (Dw := False) hK ht190
                replace hr85 := Tr.trans (Dw := False) hr85 ht190
                replace hr107 := Tr.trans (Dw := False) hr107 ht190
                replace hr150 := Tr.trans (Dw := False) hr150 ht190
                replace hB := Nat.le_trans hB ht190.ex.size
                replace hA := ht190.new
                obtain ⟨x191, hx191, h162⟩ := Option.bind_eq_some_iff.1 h162
                refine V_y (Y_sadd hx191 rfl rfl) rfl rfl rfl ?_
                obtain ⟨x192, hx192, h162⟩ := Option.bind_eq_some_iff.1 h162
                refine V_call Tryd.call8 rfl rfl rfl rfl (strings_Builder_WriteString_c w188 hB hA s157 b21 x191 hH hx192) ?_
                rintro _ w193 ⟨A194, rfl, hH195, ht196⟩
                replace h82 := Sl.tr (Dw := False) h82 ht196
                replace h133 := El.tr (Dw := False) h133 ht196
                replace h147 := Sl.tr (Dw := False) h147 ht196
                replace h180 := El.tr (Dw := False) h180 ht196
                replace hK := Tr.trans (Dw := False) hK ht196
                replace hr85 := Tr.trans (Dw := False) hr85 ht196
                replace hr107 := Tr.trans (Dw := False) hr107 ht196
                replace hr150 := Tr.trans (Dw := False) hr150 ht196
                replace hB := Nat.le_trans hB ht196.ex.size
                replace hA := ht196.new
                replace hH : Hp w.heap.size A194 w193 (obBd 34 5 b21 x192.2.2 :: []) := hH195
                refine V_to (fun _ _ => rfl) ?_
                refine C_region ?_
                refine V_y (Y_addI rfl rfl) rfl rfl rfl ?_
                refine V_y (Y_move rfl) rfl rfl rfl ?_
                obtain rfl := Option.some.inj h162
                refine V_end (fun a ha197 => ?_)
                exact ⟨x192.2.2, hlt165, h163, ⟨A194, ha197.sub ⟨rfl, rfl, rfl, rfl, rfl, rfl, rfl, (congrArg (fun z => some (Value.int .i64 z)) (w64_succ hlt165 hn168)), trivial⟩, ⟨hH, hr150⟩⟩⟩
            · refine C_exit (fun a ha198 => ?_)
              exact ⟨(s157, A159), ha198.sub ⟨rfl, rfl, rfl, rfl, rfl, trivial⟩, ⟨(h166 (eq_of_dec hle164 hc169)).symm, hH, hr150⟩⟩
          rintro ⟨s149, A155⟩ w152 ⟨rfl, hH156, hk153⟩ a ha154
          rw [Lp.andThen_fin] at ho105
          replace h82 := Sl.tr (Dw := False) h82 hk153
          replace h133 := El.tr (Dw := False) h133 hk153
          replace hK := Tr.trans (Dw := False) hK hk153
          replace hr85 := Tr.trans (Dw := False) hr85 hk153
          replace hr107 := Tr.trans (Dw := False) hr107 hk153
          replace hB := Nat.le_trans hB hk153.ex.size
          replace hA := hk153.new
          replace hH : Hp w.heap.size A155 w152 (obBd 34 5 b21 s149 :: []) := hH156
          refine C_at (n := ⟨90, [], none⟩) (fun _ _ => rfl) ?_ ha154
          refine C_seq ?_
          refine C_region ?_
          have h200 := El_level_Level_2 h133
          refine V_y (Y_fieldAddr Tryd.underlying44 rfl Tryd.sizeOf42 (by decide) rfl) rfl rfl rfl ?_
          obtain ⟨v201, h202, h203⟩ := El.list h200
          refine V_y (Y_load h202 Tryd.isAgg42 rfl) rfl rfl rfl ?_
          refine V_y (Y_lenSl h203 rfl Tryd.underlying42 rfl) rfl rfl rfl ?_
          refine V_y (Y_move rfl) rfl rfl rfl ?_
          refine V_to (fun _ _ => rfl) ?_
          have hn224 := Sl.le h203
          obtain ⟨o204, ho204, ho105⟩ := Option.bind_eq_some_iff.1 ho105
          refine C_cutG (ι := (ByteArray × (Nat → Prop))) (fun ⟨s205, A211⟩ => [(5, .pointer (some ⟨b21, 0, none⟩)), (34, v80), (35, .int .i64 (p.levels.length : Int)), (36, .int .i64 (k86 : Int))]) (fun ⟨s205, A211⟩ => fun w' => o204 = .fin s205 ∧ Hp w.heap.size A211 w' (obBd 34 5 b21 s205 :: []) ∧ Tr False w.heap.size A155 w152 A211 w') ?_ ?_
          · refine C_block ?_
            refine C_range ho204 (fun k207 s213 a w' => ∃ i : (Nat → Prop), Has ⟨90, [], none⟩ a ([(5, .pointer (some ⟨b21, 0, none⟩)), (34, v80), (35, .int .i64 (p.levels.length : Int)), (36, .int .i64 (k86 : Int)), (63, v201), (64, .int .i64 (x113.targets.length : Int)), (65, .int .i64 (k207 : Int))]) ∧ Hp w.heap.size i w' (obBd 34 5 b21 s213 :: []) ∧ Tr False w.heap.size A155 w152 i w') (fun a ha => ⟨A155, ha.sub ⟨rfl, rfl, rfl, rfl, rfl, rfl, rfl, trivial⟩, ⟨hH, Tr.refl (Dw := False) hA⟩⟩) ?_
            rintro K k207 s213 a w214 ⟨A215, ha278, hH216, hr206⟩ hle220 K223 h222
            refine C_of ?_ ha278
            replace h82 := Sl.tr (Dw := False) h82 hr206
            replace h203 := Sl.tr (Dw := False) h203 hr206
            replace hK := Tr.trans (Dw := False) hK hr206
            replace hr85 := Tr.trans (Dw := False) hr85 hr206
            replace hr107 := Tr.trans (Dw := False) hr107 hr206
            replace hB := Nat.le_trans hB hr206.ex.size
            replace hA := hr206.new
            replace hH : Hp w.heap.size A215 w214 (obBd 34 5 b21 s213 :: []) := hH216
            refine C_seq (C_region (V_y (Y_lss rfl rfl) rfl rfl rfl (V_to (fun _ _ => rfl) ?_)))
            refine C_seq ?_
            refine C_cond rfl (fun hc225 => ?_) (fun hc225 => ?_)
            · have hlt221 := lt_of_dec hc225
              obtain ⟨x217, h218, h219⟩ := K223 hlt221
              refine C_skip_to (fun _ _ => rfl) ?_
              refine C_seq ?_
              refine C_block ?_
              refine C_seq ?_
              refine C_region ?_
              obtain ⟨x226, hx226, h218⟩ := Option.bind_eq_some_iff.1 h218
              refine V_indexAddr h203 hx226 Tryd.underlying42 Tryd.sizeOf52 rfl rfl rfl ?_
              intro b227 o228 h229
              obtain ⟨h230, _⟩ := El_level_Target h229
              refine V_y (Y_loadA h230 Tryd.isAgg52 Tryd.sizeOf52 rfl) rfl rfl rfl ?_
              refine V_alloc Tryd.zeroValue52 rfl ?_
              intro b231 w232 h233
              refine V_storeNew h233 Tryd.sizeOf52 rfl rfl rfl rfl (by exact (List.forall_mem_cons.2 ⟨rfl, (List.forall_mem_cons.2 ⟨rfl, (List.forall_mem_cons.2 ⟨rfl, (fun _ h => nomatch h)⟩)⟩)⟩)) ?_
              intro w234 h235
              have hk237 := h235.kp (Dw := False)
              have h236 : El (α := level_Target) A215 w234 b231 0 x226 := h235.el hA ⟨[.int .i64 x226.kind], _, rfl, rfl, ⟨[.int .i64 x226.minutes], _, rfl, rfl, rfl⟩⟩
              have ht238 := Kp.tr (Dw := False) hk237 hA hB
              replace hH := Hp.kp (Dw := False) hH hk237
              replace h82 := Sl.tr (Dw := False) h82 ht238
              replace h203 := Sl.tr (Dw := False) h203 ht238
              replace h229 := El.tr (Dw := False) h229 ht238
              replace hK := Tr.trans (Dw := False) hK ht238
              replace hr85 := Tr.trans (Dw := False) hr85 ht238
              replace hr107 := Tr.trans (Dw := False) hr107 ht238
              replace hr206 := Tr.trans (Dw := False) hr206 ht238
              replace hB := Nat.le_trans hB ht238.ex.size
              replace hA := ht238.new
              refine V_to (fun _ _ => rfl) ?_
              refine C_region_ch (Dw := False) A215 18 [(1, 1), (1, 2), (1, 3), (1, 7), (1, 8), (1, 12), (1, 13), (2, 0), (0, 4), (0, 5), (1, 6), (2, 9), (1, 10), (1, 11), (2, 14), (1, 15), (1, 16), (4, 17)] Tryd_mixed (by kernel_rfl) (fun w239 hk240 => ?_)
              have ht241 := Kp.tr (Dw := False) hk240 hA hB
              replace hH := Hp.kp (Dw := False) hH hk240
              replace h82 := Sl.tr (Dw := False) h82 ht241
              replace h203 := Sl.tr (Dw := False) h203 ht241
              replace h236 := El.tr (Dw := False) h236 ht241
              replace hK := Tr.trans (Dw := False) hK ht241
              replace hr85 := Tr.trans (Dw := False) hr85 ht241
              replace hr107 := Tr.trans (Dw := False) hr107 ht241
              replace hr206 := Tr.trans (Dw := False) hr206 ht241
              replace hB := Nat.le_trans hB ht241.ex.size
              replace hA := ht241.new
              refine CH_q2 (Dw := False) rfl ?_
              have h242 := El_level_Target_0 h236
              refine VQ_y (fun w' hw' => Y_fieldAddr Tryd.underlying52 rfl Tryd.sizeOf3 (by decide) rfl) rfl rfl rfl ?_
              refine VQ_CH (Dw := False) ?_
              refine CH_q2 (Dw := False) rfl ?_
              refine VQ_y (fun w' hw' => Y_load (El.int (El.keep h242 (XA.ex hw'))) Tryd.isAgg3 rfl) rfl rfl rfl ?_
              refine VQ_CH (Dw := False) ?_
              refine CH_q2 (Dw := False) rfl ?_
              refine VQ_y (fun w' hw' => Y_subI rfl rfl) rfl rfl rfl ?_
              refine VQ_CH (Dw := False) ?_
              refine CH_q2 (Dw := False) rfl ?_
              have h243 := El_level_Target_1 h236
              refine VQ_y (fun w' hw' => Y_fieldAddr Tryd.underlying52 rfl Tryd.sizeOf3 (by decide) rfl) rfl rfl rfl ?_
              refine VQ_CH (Dw := False) ?_
              refine CH_q2 (Dw := False) rfl ?_
              refine VQ_y (fun w' hw' => Y_load (El.int (El.keep h243 (XA.ex hw'))) Tryd.isAgg3 rfl) rfl rfl rfl ?_
              refine VQ_CH (Dw := False) ?_
              refine CH_q2 (Dw := False) rfl ?_
              have h244 := El_level_Target_2 h236
              refine VQ_y (fun w' hw' => Y_fieldAddr Tryd.underlying52 rfl Tryd.sizeOf3 (by decide) rfl) rfl rfl rfl ?_
              refine VQ_CH (Dw := False) ?_
              refine CH_q2 (Dw := False) rfl ?_
              refine VQ_y (fun w' hw' => Y_load (El.int (El.keep h244 (XA.ex hw'))) Tryd.isAgg3 rfl) rfl rfl rfl ?_
              refine VQ_CH (Dw := False) ?_
              refine CH_l1 (Dw := False) (k := 0) rfl ?_
              obtain ⟨x245, hx245, h218⟩ := Option.bind_eq_some_iff.1 h218
              refine V_call Tryd.call13 rfl rfl rfl rfl (level_targetWords_c (Dw := False) w239 hA hx245) ?_
              rintro v246 w248 ⟨_, rfl, h247, hk249⟩
              obtain ⟨A250, ht251, hH252⟩ := Hp.addOwnd (Dw := False) hH hB hA hk249 h247
              replace h82 := Sl.tr (Dw := False) h82 ht251
              replace h203 := Sl.tr (Dw := False) h203 ht251
              replace h236 := El.tr (Dw := False) h236 ht251
              replace h242 := El.tr (Dw := False) h242 ht251
              replace h243 := El.tr (Dw := False) h243 ht251
              replace h244 := El.tr (Dw := False) h244 ht251
              replace hK := Tr.trans (Dw := False) hK ht251
              replace hr85 := Tr.trans (Dw := False) hr85 ht251
              replace hr107 := Tr.trans (Dw := False) hr107 ht251
              replace hr206 := Tr.trans (Dw := False) hr206 ht251
              replace hB := Nat.le_trans hB ht251.ex.size
              replace hA := ht251.new
              replace hH : Hp w.heap.size A250 w248 (obS (α := ByteArray) 9 v246 x245 :: obBd 34 5 b21 s213 :: []) := hH252
              refine V_CH (Dw := False) (hk249) ?_
              refine CH_q1 (Dw := False) rfl ?_
              obtain ⟨x253, hx253, h218⟩ := Option.bind_eq_some_iff.1 h218
              refine VQ_indexAddrH (α := ByteArray) (e := 9) (v := v246) (l := x245) hH (i := 0) rfl hx253 Tryd.underlying53 Tryd.sizeOf9 rfl rfl rfl ?_
              intro b254 o255 h256 hl257
              refine VQ_CH (Dw := False) ?_
              refine CH_q1 (Dw := False) rfl ?_
              refine VQ_y (fun w' hw' => Y_load (El.str (El.kp (Dw := False) h256 hw')) Tryd.isAgg9 rfl) rfl rfl rfl ?_
              refine VQ_CH (Dw := False) ?_
              refine CH_q2 (Dw := False) rfl ?_
              obtain ⟨x258, hx258, h218⟩ := Option.bind_eq_some_iff.1 h218
              refine VQ_y (fun w' hw' => Y_sadd hx258 rfl rfl) rfl rfl rfl ?_
              refine VQ_CH (Dw := False) ?_
              refine CH_l1 (Dw := False) (k := 0) rfl ?_
              obtain ⟨x259, hx259, h218⟩ := Option.bind_eq_some_iff.1 h218
              refine V_call Tryd.call9 rfl rfl rfl rfl (strconv_Itoa_c w248 hA ((Fz.tr (Dw := False) hT hK)).1 x226.minutes hx259) ?_
              rintro _ w260 ⟨rfl, hk261⟩
              have ht262 := Kp.tr (Dw := False) hk261 hA hB
              replace hH := Hp.kp (Dw := False) hH hk261
              replace h82 := Sl.tr (Dw := False) h82 ht262
              replace h203 := Sl.tr (Dw := False) h203 ht262
              replace h236 := El.tr (Dw := False) h236 ht262
              replace h242 := El.tr (Dw := False) h242 ht262
              replace h243 := El.tr (Dw := False) h243 ht262
              replace h244 := El.tr (Dw := False) h244 ht262
              replace h256 := El.kp (Dw := False) h256 hk261
              replace hK := Tr.trans (Dw := False) hK ht262
              replace hr85 := Tr.trans (Dw := False) hr85 ht262
              replace hr107 := Tr.trans (Dw := False) hr107 ht262
              replace hr206 := Tr.trans (Dw := False) hr206 ht262
              replace hB := Nat.le_trans hB ht262.ex.size
              replace hA := ht262.new
              refine V_CH (Dw := False) (hk261) ?_
              refine CH_q2 (Dw := False) rfl ?_
              obtain ⟨x263, hx263, h218⟩ := Option.bind_eq_some_iff.1 h218
              refine VQ_y (fun w' hw' => Y_sadd hx263 rfl rfl) rfl rfl rfl ?_
              refine VQ_CH (Dw := False) ?_
              refine CH_q2 (Dw := False) rfl ?_
              obtain ⟨x264, hx264, h218⟩ := Option.bind_eq_some_iff.1 h218
              refine VQ_y (fun w' hw' => Y_sadd hx264 rfl rfl) rfl rfl rfl ?_
              refine VQ_CH (Dw := False) ?_
              refine CH_l1 (Dw := False) (k := 0) rfl ?_
              obtain ⟨x265, hx265, h218⟩ := Option.bind_eq_some_iff.1 h218
              refine V_call Tryd.call9 rfl rfl rfl rfl (strconv_Itoa_c w260 hA ((Fz.tr (Dw := False) hT hK)).1 x226.calendar hx265) ?_
              rintro _ w266 ⟨rfl, hk267⟩
              have ht268 := Kp.tr (Dw := False) hk267 hA hB
              replace hH := Hp.kp (Dw := False) hH hk267
              replace h82 := Sl.tr (Dw := False) h82 ht268
              replace h203 := Sl.tr (Dw := False) h203 ht268
              replace h236 := El.tr (Dw := False) h236 ht268
              replace h242 := El.tr (Dw := False) h242 ht268
              replace h243 := El.tr (Dw := False) h243 ht268
              replace h244 := El.tr (Dw := False) h244 ht268
              replace h256 := El.kp (Dw := False) h256 hk267
              replace hK := Tr.trans (Dw := False) hK ht268
              replace hr85 := Tr.trans (Dw := False) hr85 ht268
              replace hr107 := Tr.trans (Dw := False) hr107 ht268
              replace hr206 := Tr.trans (Dw := False) hr206 ht268
              replace hB := Nat.le_trans hB ht268.ex.size
              replace hA := ht268.new
              refine V_CH (Dw := False) (hk267) ?_
              refine CH_q2 (Dw := False) rfl ?_
              obtain ⟨x269, hx269, h218⟩ := Option.bind_eq_some_iff.1 h218
              refine VQ_y (fun w' hw' => Y_sadd hx269 rfl rfl) rfl rfl rfl ?_
              refine VQ_CH (Dw := False) ?_
              refine CH_q2 (Dw := False) rfl ?_
              obtain ⟨x270, hx270, h218⟩ := Option.bind_eq_some_iff.1 h218
              refine VQ_y (fun w' hw' => Y_sadd hx270 rfl rfl) rfl rfl rfl ?_
              refine VQ_CH (Dw := False) ?_
              refine CH_l1 (Dw := False) (k := 2) rfl ?_
              replace hH : Hp w.heap.size A250 w266 (obBd 34 5 b21 s213 :: obS (α := ByteArray) 9 v246 x245 :: []) := Hp.front hH (i := 1) rfl
              obtain ⟨x271, hx271, h218⟩ := Option.bind_eq_some_iff.1 h218
              refine V_call Tryd.call8 rfl rfl rfl rfl (strings_Builder_WriteString_c w266 hB hA s213 b21 x270 hH hx271) ?_
              rintro _ w272 ⟨A273, rfl, hH274, ht275⟩
              replace h82 := Sl.tr (Dw := False) h82 ht275
              replace h203 := Sl.tr (Dw := False) h203 ht275
              replace h236 := El.tr (Dw := False) h236 ht275
              replace h242 := El.tr (Dw := False) h242 ht275
              replace h243 := El.tr (Dw := False) h243 ht275
              replace h244 := El.tr (Dw := False) h244 ht275
              replace hK := Tr.trans (Dw := False) hK ht275
              replace hr85 := Tr.trans (Dw := False) hr85 ht275
              replace hr107 := Tr.trans (Dw := False) hr107 ht275
              replace hr206 := Tr.trans (Dw := False) hr206 ht275
              replace hB := Nat.le_trans hB ht275.ex.size
              replace hA := ht275.new
              replace hH : Hp w.heap.size A273 w272 (obBd 34 5 b21 x271.2.2 :: obS (α := ByteArray) 9 v246 x245 :: []) := hH274
              refine V_CHw (Dw := False) ?_
              refine CH_tail (Dw := False) ?_
              show V _ _ _ _ [] _ _
              refine V_to (fun _ _ => rfl) ?_
              refine C_region ?_
              refine V_y (Y_addI rfl rfl) rfl rfl rfl ?_
              refine V_y (Y_move rfl) rfl rfl rfl ?_
              obtain rfl := Option.some.inj h218
              refine V_end (fun a ha276 => ?_)
              replace hH : Hp w.heap.size A273 w272 (obBd 34 5 b21 x271.2.2 :: []) := Hp.drop hH (i := 1) rfl
              exact ⟨x271.2.2, hlt221, h219, ⟨A273, ha276.sub ⟨rfl, rfl, rfl, rfl, rfl, rfl, (congrArg (fun z => some (Value.int .i64 z)) (w64_succ hlt221 hn224)), trivial⟩, ⟨hH, hr206⟩⟩⟩
            · refine C_exit (fun a ha277 => ?_)
              exact ⟨(s213, A215), ha277.sub ⟨rfl, rfl, rfl, rfl, trivial⟩, ⟨(h222 (eq_of_dec hle220 hc225)).symm, hH, hr206⟩⟩
          rintro ⟨s205, A211⟩ w208 ⟨rfl, hH212, hk209⟩ a ha210
          rw [Lp.andThen_fin] at ho105
          replace h82 := Sl.tr (Dw := False) h82 hk209
          replace hK := Tr.trans (Dw := False) hK hk209
          replace hr85 := Tr.trans (Dw := False) hr85 hk209
          replace hr107 := Tr.trans (Dw := False) hr107 hk209
          replace hB := Nat.le_trans hB hk209.ex.size
          replace hA := hk209.new
          replace hH : Hp w.heap.size A211 w208 (obBd 34 5 b21 s205 :: []) := hH212
          obtain rfl := Option.some.inj ho105
          exact ⟨(s205, A211), ha210.sub ⟨rfl, rfl, rfl, rfl, trivial⟩, ⟨rfl, hH, hr107⟩⟩
        rintro ⟨s106, A111⟩ w108 ⟨rfl, hH112, hk109⟩ a ha110
        rw [Lp.andThen_fin] at h97
        replace h82 := Sl.tr (Dw := False) h82 hk109
        replace hK := Tr.trans (Dw := False) hK hk109
        replace hr85 := Tr.trans (Dw := False) hr85 hk109
        replace hB := Nat.le_trans hB hk109.ex.size
        replace hA := hk109.new
        replace hH : Hp w.heap.size A111 w108 (obBd 34 5 b21 s106 :: []) := hH112
        refine C_at (n := ⟨90, [], none⟩) (fun _ _ => rfl) ?_ ha110
        refine C_region ?_
        refine V_y (Y_addI rfl rfl) rfl rfl rfl ?_
        refine V_y (Y_move rfl) rfl rfl rfl ?_
        obtain rfl := Option.some.inj h97
        refine V_end (fun a ha280 => ?_)
        exact ⟨s106, hlt100, h98, ⟨A111, ha280.sub ⟨rfl, rfl, rfl, (congrArg (fun z => some (Value.int .i64 z)) (w64_succ hlt100 hn103)), trivial⟩, ⟨hH, hr85⟩⟩⟩
      · refine C_exit (fun a ha281 => ?_)
        exact ⟨(s92, A94), ha281.sub ⟨rfl, trivial⟩, ⟨(h101 (eq_of_dec hle99 hc104)).symm, hH, hr85⟩⟩
    rintro ⟨s84, A90⟩ w87 ⟨rfl, hH91, hk88⟩ a ha89
    rw [Lp.andThen_fin] at hm
    replace hK := Tr.trans (Dw := False) hK hk88
    replace hB := Nat.le_trans hB hk88.ex.size
    replace hA := hk88.new
    replace hH : Hp w.heap.size A90 w87 (obBd 34 5 b21 s84 :: []) := hH91
    refine C_at (n := ⟨90, [], none⟩) (fun _ _ => rfl) ?_ ha89
    refine C_seq ?_
    refine C_region ?_
    obtain ⟨x283, hx283, hm⟩ := Option.bind_eq_some_iff.1 hm
    refine V_call Tryd.call14 rfl rfl rfl rfl (strings_Builder_String_c w87 hB hA s84 b21 hH hx283) ?_
    rintro _ w284 ⟨A285, rfl, hH286, ht287⟩
    replace hK := Tr.trans (Dw := False) hK ht287
    replace hB := Nat.le_trans hB ht287.ex.size
    replace hA := ht287.new
    replace hH : Hp w.heap.size A285 w284 (obBd 34 5 b21 s84 :: []) := hH286
    refine V_y (Y_assign rfl) rfl rfl rfl ?_
    refine V_y (Y_assign rfl) rfl rfl rfl ?_
    refine V_to (fun _ _ => rfl) ?_
    obtain rfl := Option.some.inj hm
    refine C_ret ?_
    try simp only [↓inBlock_ret, ↓then_ret]
    exact retQ rfl (Res.two Tryd.results4 rfl rfl) ⟨rfl, hK.kp⟩

def Tryd_strings_Trim_lay_ren : Go.Shelf.Ren := ⟨fun | 119 => 67 | 120 => 64 | 137 => 66 | 151 => 57 | 152 => 63 | 160 => 31 | 197 => 56 | 217 => 70 | 224 => 68 | 225 => 69 | 227 => 42 | 228 => 55 | 231 => 40 | 232 => 41 | 233 => 43 | 234 => 44 | 235 => 45 | 236 => 46 | 260 => 62 | 266 => 71 | 271 => 58 | n => n, fun | 0 => 0 | 1 => 1 | 2 => 2 | 3 => 3 | 4 => 4 | 5 => 5 | 6 => 6 | 7 => 7 | 8 => 8 | 9 => 9 | 10 => 10 | 11 => 11 | 12 => 12 | 13 => 13 | 14 => 14 | 15 => 15 | 16 => 16 | 17 => 17 | 18 => 18 | 19 => 19 | 20 => 20 | 21 => 21 | 23 => 72 | 27 => 113 | 28 => 22 | 31 => 53 | 37 => 32 | 40 => 89 | 41 => 98 | 46 => 95 | 47 => 96 | 51 => 93 | 52 => 103 | 53 => 76 | 54 => 77 | 55 => 112 | 63 => 101 | 64 => 104 | 67 => 63 | 70 => 31 | 71 => 33 | 72 => 34 | 73 => 71 | 74 => 35 | 75 => 36 | 76 => 37 | 77 => 38 | 78 => 40 | 80 => 55 | 81 => 119 | 83 => 39 | 84 => 70 | 104 => 58 | 105 => 99 | 106 => 100 | 111 => 74 | 114 => 90 | 115 => 82 | 116 => 83 | 117 => 84 | 118 => 85 | 119 => 108 | 122 => 81 | 123 => 86 | 124 => 87 | 127 => 61 | 137 => 109 | 138 => 110 | 139 => 111 | 155 => 105 | 164 => 68 | 165 => 69 | 166 => 97 | 171 => 75 | 172 => 78 | 173 => 79 | 174 => 80 | 211 => 91 | 212 => 92 | 213 => 94 | 232 => 106 | 233 => 107 | 238 => 114 | 239 => 115 | 240 => 116 | 241 => 117 | 242 => 118 | 243 => 120 | 244 => 121 | 245 => 122 | 246 => 123 | 247 => 124 | 248 => 125 | 249 => 126 | n => n, fun | 1 => 3 | 3 => 6 | 4 => 7 | 17 => 2 | 18 => 4 | 19 => 5 | n => n⟩
theorem Tryd_strings_Trim_lay : Go.Proofs.Lays.n160 Tryd.prog Tryd_strings_Trim_lay_ren := {
  mixed := by kernel_rfl,
  f119 := Tryd.func67.trans (congrArg some (by kernel_rfl)),
  f120 := Tryd.func64.trans (congrArg some (by kernel_rfl)),
  f137 := Tryd.func66.trans (congrArg some (by kernel_rfl)),
  f151 := Tryd.func57.trans (congrArg some (by kernel_rfl)),
  f152 := Tryd.func63.trans (congrArg some (by kernel_rfl)),
  f160 := Tryd.func31.trans (congrArg some (by kernel_rfl)),
  f197 := Tryd.func56.trans (congrArg some (by kernel_rfl)),
  f217 := Tryd.func70.trans (congrArg some (by kernel_rfl)),
  f224 := Tryd.func68.trans (congrArg some (by kernel_rfl)),
  f225 := Tryd.func69.trans (congrArg some (by kernel_rfl)),
  f227 := Tryd.func42.trans (congrArg some (by kernel_rfl)),
  f228 := Tryd.func55.trans (congrArg some (by kernel_rfl)),
  f231 := Tryd.func40.trans (congrArg some (by kernel_rfl)),
  f232 := Tryd.func41.trans (congrArg some (by kernel_rfl)),
  f233 := Tryd.func43.trans (congrArg some (by kernel_rfl)),
  f234 := Tryd.func44.trans (congrArg some (by kernel_rfl)),
  f235 := Tryd.func45.trans (congrArg some (by kernel_rfl)),
  f236 := Tryd.func46.trans (congrArg some (by kernel_rfl)),
  f260 := Tryd.func62.trans (congrArg some (by kernel_rfl)),
  f266 := Tryd.func71.trans (congrArg some (by kernel_rfl)),
  f271 := Tryd.func58.trans (congrArg some (by kernel_rfl)),
  t0 := Tryd.underlying0,
  a0 := Tryd.isAgg0,
  z0 := Tryd.sizeOf0,
  v0 := Tryd.zeroValue0,
  t3 := Tryd.underlying3,
  a3 := Tryd.isAgg3,
  z3 := Tryd.sizeOf3,
  v3 := Tryd.zeroValue3,
  t4 := Tryd.underlying4,
  a4 := Tryd.isAgg4,
  z4 := Tryd.sizeOf4,
  v4 := Tryd.zeroValue4,
  t5 := Tryd.underlying5,
  a5 := Tryd.isAgg5,
  z5 := Tryd.sizeOf5,
  v5 := Tryd.zeroValue5,
  t9 := Tryd.underlying9,
  a9 := Tryd.isAgg9,
  z9 := Tryd.sizeOf9,
  v9 := Tryd.zeroValue9,
  t21 := Tryd.underlying21,
  a21 := Tryd.isAgg21,
  z21 := Tryd.sizeOf21,
  v21 := Tryd.zeroValue21,
  t46 := Tryd.underlying95,
  a46 := Tryd.isAgg95,
  z46 := Tryd.sizeOf95,
  v46 := Tryd.zeroValue95,
  t105 := Tryd.underlying99,
  a105 := Tryd.isAgg99,
  z105 := Tryd.sizeOf99,
  v105 := Tryd.zeroValue99,
  t116 := Tryd.underlying83,
  a116 := Tryd.isAgg83,
  z116 := Tryd.sizeOf83,
  t117 := Tryd.underlying84,
  a117 := Tryd.isAgg84,
  z117 := Tryd.sizeOf84,
  v117 := Tryd.zeroValue84,
  t119 := Tryd.underlying108,
  a119 := Tryd.isAgg108,
  z119 := Tryd.sizeOf108,
  t124 := Tryd.underlying87,
  a124 := Tryd.isAgg87,
  z124 := Tryd.sizeOf87,
  v124 := Tryd.zeroValue87,
  t138 := Tryd.underlying110,
  a138 := Tryd.isAgg110,
  z138 := Tryd.sizeOf110,
  v138 := Tryd.zeroValue110,
  t139 := Tryd.underlying111,
  a139 := Tryd.isAgg111,
  z139 := Tryd.sizeOf111,
  v139 := Tryd.zeroValue111,
  g3 := by kernel_rfl,
  g4 := by kernel_rfl }
theorem strings_Trim_c (w : World) {A : Nat → Prop} (hA : ∀ b, w.heap.size ≤ b → A b) (s : ByteArray) (cutset : ByteArray) {r : ByteArray} (hm : strings_Trim s cutset = some r) : Ret Tryd.prog 31 #[.string s, .string cutset] w fun v w' => v = .string r ∧ Kp False w w' := by
  unfold strings_Trim at hm
  split at hm
  case isFalse => cases hm
  rename_i h
  obtain rfl := Option.some.inj hm
  refine Calls.mono (Go.Proofs.Any.strings_Trim_laid Tryd_strings_Trim_lay (by kernel_rfl) s cutset w h.1 h.2.1 (Go.Proofs.ascii_of_all h.2.2)) ?_
  rintro _ w' ⟨rfl, hk⟩
  exact ⟨_, rfl, rfl, .of hk⟩

set_option maxRecDepth 4000 in
set_option maxHeartbeats 4000000 in
theorem portref2_IsName_c (w : World) {A : Nat → Prop} (hA : ∀ b, w.heap.size ≤ b → A b) (s : ByteArray) {r : Bool} (hm : portref2_IsName s = some r) : Ret Tryd.prog 24 #[.string s] w fun v w' => v = .bool r ∧ Kp False w w' := by
  unfold portref2_IsName at hm
  refine enter Tryd.func24 rfl Tryd.ntmps24 rfl ?_
  have hA0 := hA
  have hB := Nat.le_refl w.heap.size
  have hK : Tr False w.heap.size A w A w := Tr.refl (Dw := False) hA
  have hH : Hp w.heap.size A w [] := Hp.nil
  refine C_seq ?_
  refine C_region ?_
  refine V_y (Y_assign rfl) rfl rfl rfl ?_
  refine V_to (fun _ _ => rfl) ?_
  refine C_seq ?_
  obtain ⟨s2, ho1, hm⟩ := Option.bind_eq_some_iff.1 hm
  refine C_cutG (ι := (Nat → Prop)) (fun (A7 : (Nat → Prop)) => [(2, .bool s2)]) (fun (A7 : (Nat → Prop)) => fun w' => Hp w.heap.size A7 w' ([]) ∧ Tr False w.heap.size A w A7 w') ?_ ?_
  · have hr3 : Tr False w.heap.size A w A w := Tr.refl (Dw := False) hA
    refine C_region ?_
    refine V_y (Y_move rfl) rfl rfl rfl ?_
    refine V_y (Y_lenStr rfl Tryd.underlying9 rfl) rfl rfl rfl ?_
    refine V_y (Y_geq rfl rfl) rfl rfl rfl ?_
    refine V_y (Y_move rfl) rfl rfl rfl ?_
    rcases Bool.eq_false_or_eq_true (decide ((1 : Int) ≤ (s.size : Int))) with hc9 | hc9
    · rw [if_pos hc9] at ho1
      refine V_ge rfl rfl rfl hc9 ?_
      refine V_y (Y_move rfl) rfl rfl rfl ?_
      refine V_ge rfl rfl rfl hc9 ?_
      refine V_y (Y_lenStr rfl Tryd.underlying9 rfl) rfl rfl rfl ?_
      refine V_ge rfl rfl rfl hc9 ?_
      refine V_y (Y_leq rfl rfl) rfl rfl rfl ?_
      refine V_y (Y_pick_te rfl hc9 rfl) rfl rfl rfl ?_
      refine V_y (Y_move rfl) rfl rfl rfl ?_
      rcases Bool.eq_false_or_eq_true (decide ((s.size : Int) ≤ 20)) with hc10 | hc10
      · rw [if_pos hc10] at ho1
        refine V_ge rfl rfl rfl hc10 ?_
        refine V_y (Y_move rfl) rfl rfl rfl ?_
        refine V_ge rfl rfl rfl hc10 ?_
        obtain ⟨x11, hx11, ho1⟩ := Option.bind_eq_some_iff.1 ho1
        refine V_call Tryd.call31 rfl rfl rfl rfl (strings_Trim_c w hA s (⟨#[97, 98, 99, 100, 101, 102, 103, 104, 105, 106, 107, 108, 109, 110, 111, 112, 113, 114, 115, 116, 117, 118, 119, 120, 121, 122, 48, 49, 50, 51, 52, 53, 54, 55, 56, 57, 95]⟩ : ByteArray) hx11) ?_
        rintro _ w12 ⟨rfl, hk13⟩
        have ht14 := Kp.tr (Dw := False) hk13 hA hB
        replace hH := Hp.kp (Dw := False) hH hk13
        replace hK := Tr.trans (Dw := False) hK ht14
        replace hr3 := Tr.trans (Dw := False) hr3 ht14
        replace hB := Nat.le_trans hB ht14.ex.size
        replace hA := ht14.new
        refine V_ge rfl rfl rfl hc10 ?_
        refine V_y (Y_seql rfl rfl) rfl rfl rfl ?_
        refine V_y (Y_pick_te rfl hc10 rfl) rfl rfl rfl ?_
        refine V_y (Y_assign rfl) rfl rfl rfl ?_
        obtain rfl := Option.some.inj ho1
        refine V_end (fun a ha15 => ?_)
        exact ⟨A, ha15.sub ⟨rfl, trivial⟩, ⟨hH, hr3⟩⟩
      · rw [if_neg (nt hc10)] at ho1
        refine V_gn rfl rfl rfl hc10 rfl rfl rfl ?_
        refine V_gn rfl rfl rfl hc10 rfl rfl rfl ?_
        refine V_gn rfl rfl rfl hc10 rfl rfl rfl ?_
        refine V_y (Y_pick_fe rfl hc10 rfl) rfl rfl rfl ?_
        refine V_y (Y_assign rfl) rfl rfl rfl ?_
        obtain rfl := Option.some.inj ho1
        refine V_end (fun a ha16 => ?_)
        exact ⟨A, ha16.sub ⟨rfl, trivial⟩, ⟨hH, hr3⟩⟩
    · rw [if_neg (nt hc9)] at ho1
      refine V_gn rfl rfl rfl hc9 rfl rfl rfl ?_
      refine V_gn rfl rfl rfl hc9 rfl rfl rfl ?_
      refine V_gn rfl rfl rfl hc9 rfl rfl rfl ?_
      refine V_y (Y_pick_fe rfl hc9 rfl) rfl rfl rfl ?_
      refine V_y (Y_move rfl) rfl rfl rfl ?_
      rcases Bool.eq_false_or_eq_true (false) with hc17 | hc17
      · rw [if_pos hc17] at ho1
        refine V_ge rfl rfl rfl hc17 ?_
        refine V_y (Y_move rfl) rfl rfl rfl ?_
        refine V_ge rfl rfl rfl hc17 ?_
        obtain ⟨x18, hx18, ho1⟩ := Option.bind_eq_some_iff.1 ho1
        refine V_call Tryd.call31 rfl rfl rfl rfl (strings_Trim_c w hA s (⟨#[97, 98, 99, 100, 101, 102, 103, 104, 105, 106, 107, 108, 109, 110, 111, 112, 113, 114, 115, 116, 117, 118, 119, 120, 121, 122, 48, 49, 50, 51, 52, 53, 54, 55, 56, 57, 95]⟩ : ByteArray) hx18) ?_
        rintro _ w19 ⟨rfl, hk20⟩
        have ht21 := Kp.tr (Dw := False) hk20 hA hB
        replace hH := Hp.kp (Dw := False) hH hk20
        replace hK := Tr.trans (Dw := False) hK ht21
        replace hr3 := Tr.trans (Dw := False) hr3 ht21
        replace hB := Nat.le_trans hB ht21.ex.size
        replace hA := ht21.new
        refine V_ge rfl rfl rfl hc17 ?_
        refine V_y (Y_seql rfl rfl) rfl rfl rfl ?_
        refine V_y (Y_pick_te rfl hc17 rfl) rfl rfl rfl ?_
        refine V_y (Y_assign rfl) rfl rfl rfl ?_
        obtain rfl := Option.some.inj ho1
        refine V_end (fun a ha22 => ?_)
        exact ⟨A, ha22.sub ⟨rfl, trivial⟩, ⟨hH, hr3⟩⟩
      · rw [if_neg (nt hc17)] at ho1
        refine V_gn rfl rfl rfl hc17 rfl rfl rfl ?_
        refine V_gn rfl rfl rfl hc17 rfl rfl rfl ?_
        refine V_gn rfl rfl rfl hc17 rfl rfl rfl ?_
        refine V_y (Y_pick_fe rfl hc17 rfl) rfl rfl rfl ?_
        refine V_y (Y_assign rfl) rfl rfl rfl ?_
        obtain rfl := Option.some.inj ho1
        refine V_end (fun a ha23 => ?_)
        exact ⟨A, ha23.sub ⟨rfl, trivial⟩, ⟨hH, hr3⟩⟩
  rintro A7 w4 ⟨hH8, hk5⟩ a ha6
  replace hK := Tr.trans (Dw := False) hK hk5
  replace hB := Nat.le_trans hB hk5.ex.size
  replace hA := hk5.new
  replace hH : Hp w.heap.size A7 w4 ([]) := hH8
  refine C_at (n := ⟨16, [], none⟩) (fun _ _ => rfl) ?_ ha6
  obtain rfl := Option.some.inj hm
  refine C_ret ?_
  try simp only [↓inBlock_ret, ↓then_ret]
  exact retQ rfl (Res.one Tryd.results24 rfl) ⟨rfl, hK.kp⟩

set_option maxRecDepth 4000 in
set_option maxHeartbeats 4000000 in
theorem slices_IndexFunc_Llevel_Level_level_Level_c (w : World) {A : Nat → Prop} (hA : ∀ b, w.heap.size ≤ b → A b) (s : (List level_Level)) (v_s : Value) (h_s : Sl A w v_s s) (f : level_Level → Option Bool) (f_f : FuncId) (f_a f_c : Array Value) (f_call : ∀ (args : Array Value) (w : World), (callFunc f_f args).run Tryd.prog w = .ok (.enter f_f args) w) (f_spec : ∀ (w1 : World) (A1 : Nat → Prop), Tr Dw w.heap.size A w A1 w1 → (∀ b, w1.heap.size ≤ b → A1 b) → ∀ (y0 : level_Level) (v1 : Value) (h2 : Sl A1 w1 v1 y0.tests) (v3 : Value) (h4 : Sl A1 w1 v3 y0.targets) (r : Bool), f y0 = some r → Ret Tryd.prog f_f (f_a ++ #[.agg #[.string y0.name, v1, v3]] ++ f_c) w1 fun v w' => v = .bool r ∧ Kp Dw w1 w') {r : Int} (hm : slices_IndexFunc_Llevel_Level_level_Level s f = some r) : Ret Tryd.prog 32 #[v_s, .func (.func f_f) f_a f_c] w fun v w' => v = .int .i64 r ∧ Kp Dw w w' := by
  unfold slices_IndexFunc_Llevel_Level_level_Level at hm
  refine enter Tryd.func32 rfl Tryd.ntmps32 rfl ?_
  have hA0 := hA
  have hB := Nat.le_refl w.heap.size
  have hK : Tr Dw w.heap.size A w A w := Tr.refl (Dw := Dw) hA
  have hH : Hp w.heap.size A w [] := Hp.nil
  refine C_seq ?_
  refine C_region ?_
  refine V_y (Y_assign rfl) rfl rfl rfl ?_
  refine V_to (fun _ _ => rfl) ?_
  refine C_seq ?_
  refine C_seq ?_
  refine C_region ?_
  refine V_y (Y_move rfl) rfl rfl rfl ?_
  refine V_y (Y_lenSl h_s rfl Tryd.underlying23 rfl) rfl rfl rfl ?_
  refine V_y (Y_move rfl) rfl rfl rfl ?_
  refine V_to (fun _ _ => rfl) ?_
  have hn23 := Sl.le h_s
  obtain ⟨o3, ho3, hm⟩ := Option.bind_eq_some_iff.1 hm
  refine C_cutG (ι := (Unit × (Nat → Prop))) (fun ⟨s4, A10⟩ => []) (fun ⟨s4, A10⟩ => fun w' => o3 = .fin s4 ∧ Hp w.heap.size A10 w' ([]) ∧ Tr Dw w.heap.size A w A10 w') ?_ ?_
  · refine C_block ?_
    refine C_range ho3 (fun k6 _ a w' => ∃ i : (Nat → Prop), Has ⟨19, [], none⟩ a ([(0, v_s), (1, .func (.func f_f) f_a f_c), (7, .int .i64 (s.length : Int)), (8, .int .i64 (k6 : Int))]) ∧ Hp w.heap.size i w' ([]) ∧ Tr Dw w.heap.size A w i w') (fun a ha => ⟨A, ha.sub ⟨rfl, rfl, rfl, rfl, trivial⟩, ⟨hH, Tr.refl (Dw := Dw) hA⟩⟩) ?_
    rintro K k6 _ a w13 ⟨A14, ha41, hH15, hr5⟩ hle19 K22 h21
    refine C_of ?_ ha41
    replace h_s := Sl.tr (Dw := Dw) h_s hr5
    replace hK := Tr.trans (Dw := Dw) hK hr5
    replace hB := Nat.le_trans hB hr5.ex.size
    replace hA := hr5.new
    replace hH : Hp w.heap.size A14 w13 ([]) := hH15
    refine C_seq (C_region (V_y (Y_lss rfl rfl) rfl rfl rfl (V_to (fun _ _ => rfl) ?_)))
    refine C_seq ?_
    refine C_cond rfl (fun hc24 => ?_) (fun hc24 => ?_)
    · have hlt20 := lt_of_dec hc24
      obtain ⟨x16, h17, h18⟩ := K22 hlt20
      refine C_skip_to (fun _ _ => rfl) ?_
      refine C_seq ?_
      refine C_block ?_
      refine C_seq ?_
      refine C_region ?_
      refine V_y (Y_move rfl) rfl rfl rfl ?_
      refine V_y (Y_assign rfl) rfl rfl rfl ?_
      refine V_to (fun _ _ => rfl) ?_
      refine C_seq ?_
      refine C_region ?_
      refine V_y (Y_move rfl) rfl rfl rfl ?_
      refine V_y (Y_move rfl) rfl rfl rfl ?_
      refine V_y (Y_move rfl) rfl rfl rfl ?_
      obtain ⟨x25, hx25, h17⟩ := Option.bind_eq_some_iff.1 h17
      refine V_indexAddr h_s hx25 Tryd.underlying23 Tryd.sizeOf44 rfl rfl rfl ?_
      intro b26 o27 h28
      obtain ⟨v29, v31, h33, h30, h32⟩ := El_level_Level h28
      refine V_y (Y_loadA h33 Tryd.isAgg44 Tryd.sizeOf44 rfl) rfl rfl rfl ?_
      obtain ⟨x34, hx34, h17⟩ := Option.bind_eq_some_iff.1 h17
      refine V_call f_call rfl rfl rfl rfl (f_spec w13 _ hK hA x25 v29 h30 v31 h32 _ hx34) ?_
      rintro _ w35 ⟨rfl, hk36⟩
      have ht37 := Kp.tr (Dw := Dw) hk36 hA hB
      replace hH := Hp.kp (Dw := Dw) hH hk36
      replace h_s := Sl.tr (Dw := Dw) h_s ht37
      replace h28 := El.tr (Dw := Dw) h28 ht37
      replace h30 := Sl.tr (Dw := Dw) h30 ht37
      replace h32 := Sl.tr (Dw := Dw) h32 ht37
      replace hK := Tr.trans (Dw := Dw) hK ht37
      replace hr5 := Tr.trans (Dw := Dw) hr5 ht37
      replace hB := Nat.le_trans hB ht37.ex.size
      replace hA := ht37.new
      refine V_to (fun _ _ => rfl) ?_
      refine C_cond rfl (fun hc38 => ?_) (fun hc38 => ?_)
      · rw [if_pos hc38] at h17
        refine C_seq ?_
        refine C_region ?_
        refine V_y (Y_move rfl) rfl rfl rfl ?_
        refine V_y (Y_assign rfl) rfl rfl rfl ?_
        refine V_to (fun _ _ => rfl) ?_
        obtain rfl := Option.some.inj h17
        obtain rfl := (h18 : Lp.rt _ = _)
        rw [Lp.andThen_rt] at hm
        obtain rfl := Option.some.inj hm
        refine C_ret ?_
        try simp only [↓inBlock_ret, ↓then_ret]
        exact retQ rfl (Res.one Tryd.results32 rfl) ⟨rfl, hK.kp⟩
      · rw [if_neg (nt hc38)] at h17
        refine C_skip_to (fun _ _ => rfl) ?_
        refine C_region ?_
        refine V_y (Y_addI rfl rfl) rfl rfl rfl ?_
        refine V_y (Y_move rfl) rfl rfl rfl ?_
        obtain rfl := Option.some.inj h17
        refine V_end (fun a ha39 => ?_)
        exact ⟨(), hlt20, h18, ⟨A14, ha39.sub ⟨rfl, rfl, rfl, (congrArg (fun z => some (Value.int .i64 z)) (w64_succ hlt20 hn23)), trivial⟩, ⟨hH, hr5⟩⟩⟩
    · refine C_exit (fun a ha40 => ?_)
      exact ⟨((), A14), ha40.sub trivial, ⟨(h21 (eq_of_dec hle19 hc24)).symm, hH, hr5⟩⟩
  rintro ⟨s4, A10⟩ w7 ⟨rfl, hH11, hk8⟩ a ha9
  rw [Lp.andThen_fin] at hm
  replace hK := Tr.trans (Dw := Dw) hK hk8
  replace hB := Nat.le_trans hB hk8.ex.size
  replace hA := hk8.new
  replace hH : Hp w.heap.size A10 w7 ([]) := hH11
  refine C_at (n := ⟨19, [], none⟩) (fun _ _ => rfl) ?_ ha9
  refine C_seq ?_
  refine C_region ?_
  refine V_y (Y_assign rfl) rfl rfl rfl ?_
  refine V_to (fun _ _ => rfl) ?_
  obtain rfl := Option.some.inj hm
  refine C_ret ?_
  try simp only [↓inBlock_ret, ↓then_ret]
  exact retQ rfl (Res.one Tryd.results32 rfl) ⟨rfl, hK.kp⟩

set_option maxRecDepth 4000 in
set_option maxHeartbeats 4000000 in
theorem slices_ContainsFunc_Llevel_Level_level_Level_c (w : World) {A : Nat → Prop} (hA : ∀ b, w.heap.size ≤ b → A b) (s : (List level_Level)) (v_s : Value) (h_s : Sl A w v_s s) (f : level_Level → Option Bool) (f_f : FuncId) (f_a f_c : Array Value) (f_call : ∀ (args : Array Value) (w : World), (callFunc f_f args).run Tryd.prog w = .ok (.enter f_f args) w) (f_spec : ∀ (w1 : World) (A1 : Nat → Prop), Tr Dw w.heap.size A w A1 w1 → (∀ b, w1.heap.size ≤ b → A1 b) → ∀ (y0 : level_Level) (v1 : Value) (h2 : Sl A1 w1 v1 y0.tests) (v3 : Value) (h4 : Sl A1 w1 v3 y0.targets) (r : Bool), f y0 = some r → Ret Tryd.prog f_f (f_a ++ #[.agg #[.string y0.name, v1, v3]] ++ f_c) w1 fun v w' => v = .bool r ∧ Kp Dw w1 w') {r : Bool} (hm : slices_ContainsFunc_Llevel_Level_level_Level s f = some r) : Ret Tryd.prog 25 #[v_s, .func (.func f_f) f_a f_c] w fun v w' => v = .bool r ∧ Kp Dw w w' := by
  unfold slices_ContainsFunc_Llevel_Level_level_Level at hm
  refine enter Tryd.func25 rfl Tryd.ntmps25 rfl ?_
  have hA0 := hA
  have hB := Nat.le_refl w.heap.size
  have hK : Tr Dw w.heap.size A w A w := Tr.refl (Dw := Dw) hA
  have hH : Hp w.heap.size A w [] := Hp.nil
  refine C_seq ?_
  refine C_region ?_
  refine V_y (Y_assign rfl) rfl rfl rfl ?_
  refine V_to (fun _ _ => rfl) ?_
  refine C_seq ?_
  refine C_region ?_
  refine V_y (Y_move rfl) rfl rfl rfl ?_
  refine V_y (Y_move rfl) rfl rfl rfl ?_
  obtain ⟨x3, hx3, hm⟩ := Option.bind_eq_some_iff.1 hm
  refine V_call Tryd.call32 rfl rfl rfl rfl (slices_IndexFunc_Llevel_Level_level_Level_c (Dw := Dw) w hA s v_s h_s f f_f f_a f_c f_call (fun w1 A1 ht => f_spec w1 A1 (Tr.trans (Dw := Dw) hK ht)) hx3) ?_
  rintro _ w4 ⟨rfl, hk5⟩
  have ht6 := Kp.tr (Dw := Dw) hk5 hA hB
  replace hH := Hp.kp (Dw := Dw) hH hk5
  replace h_s := Sl.tr (Dw := Dw) h_s ht6
  replace hK := Tr.trans (Dw := Dw) hK ht6
  replace hB := Nat.le_trans hB ht6.ex.size
  replace hA := ht6.new
  refine V_y (Y_geq rfl rfl) rfl rfl rfl ?_
  refine V_y (Y_assign rfl) rfl rfl rfl ?_
  refine V_to (fun _ _ => rfl) ?_
  obtain rfl := Option.some.inj hm
  refine C_ret ?_
  try simp only [↓inBlock_ret, ↓then_ret]
  exact retQ rfl (Res.one Tryd.results25 rfl) ⟨rfl, hK.kp⟩

set_option maxRecDepth 4000 in
set_option maxHeartbeats 4000000 in
theorem portref2_levelFault_1_c (w : World) {A : Nat → Prop} (hA : ∀ b, w.heap.size ≤ b → A b) (y : level_Level) (v_y0 : Value) (h_y0 : Sl A w v_y0 y.tests) (v_y1 : Value) (h_y1 : Sl A w v_y1 y.targets) (p1 : level_Level) (b_p1 : Nat) (h_p1 : El A w b_p1 0 p1) {r : Bool} (hm : portref2_levelFault_1 y p1 = some r) : Ret Tryd.prog 26 #[.agg #[.string y.name, v_y0, v_y1], .pointer (some ⟨b_p1, 0, none⟩)] w fun v w' => v = .bool r ∧ Kp Dw w w' := by
  unfold portref2_levelFault_1 at hm
  refine enter Tryd.func26 rfl Tryd.ntmps26 rfl ?_
  have hA0 := hA
  have hB := Nat.le_refl w.heap.size
  have hK : Tr Dw w.heap.size A w A w := Tr.refl (Dw := Dw) hA
  have hH : Hp w.heap.size A w [] := Hp.nil
  refine C_seq ?_
  refine C_region ?_
  refine V_box rfl rfl ?_
  intro b5 w6 h7
  have hk9 := h7.kp (Dw := Dw)
  have h8 : El (α := level_Level) A w6 b5 0 y := h7.el hA ⟨[.string y.name], _, rfl, rfl, ⟨[v_y0], _, rfl, ⟨_, rfl, h_y0⟩, ⟨_, rfl, h_y1⟩⟩⟩
  have ht10 := Kp.tr (Dw := Dw) hk9 hA hB
  replace hH := Hp.kp (Dw := Dw) hH hk9
  replace h_y0 := Sl.tr (Dw := Dw) h_y0 ht10
  replace h_y1 := Sl.tr (Dw := Dw) h_y1 ht10
  replace h_p1 := El.tr (Dw := Dw) h_p1 ht10
  replace hK := Tr.trans (Dw := Dw) hK ht10
  replace hB := Nat.le_trans hB ht10.ex.size
  replace hA := ht10.new
  refine V_y (Y_assign rfl) rfl rfl rfl ?_
  refine V_to (fun _ _ => rfl) ?_
  refine C_seq ?_
  refine C_region ?_
  have h11 := El_level_Level_0 h8
  refine V_y (Y_fieldAddr Tryd.underlying44 rfl Tryd.sizeOf9 (by decide) rfl) rfl rfl rfl ?_
  refine V_y (Y_load (El.str h11) Tryd.isAgg9 rfl) rfl rfl rfl ?_
  have h12 := El_level_Level_0 h_p1
  refine V_y (Y_fieldAddr Tryd.underlying44 rfl Tryd.sizeOf9 (by decide) rfl) rfl rfl rfl ?_
  refine V_y (Y_load (El.str h12) Tryd.isAgg9 rfl) rfl rfl rfl ?_
  refine V_y (Y_seql rfl rfl) rfl rfl rfl ?_
  refine V_y (Y_assign rfl) rfl rfl rfl ?_
  refine V_to (fun _ _ => rfl) ?_
  obtain rfl := Option.some.inj hm
  refine C_ret ?_
  try simp only [↓inBlock_ret, ↓then_ret]
  exact retQ rfl (Res.one Tryd.results26 rfl) ⟨rfl, hK.kp⟩

set_option maxRecDepth 4000 in
set_option maxHeartbeats 4000000 in
theorem portref2_IsMoment_c (w : World) (m : Int) : Ret Tryd.prog 33 #[.int .i64 m] w fun v w' => v = .bool (portref2_IsMoment m) ∧ w = w' := by
  generalize hm : portref2_IsMoment m = r
  unfold portref2_IsMoment at hm
  refine enter Tryd.func33 rfl Tryd.ntmps33 rfl ?_
  refine C_seq ?_
  refine C_region ?_
  refine V_y (Y_assign rfl) rfl rfl rfl ?_
  refine V_to (fun _ _ => rfl) ?_
  refine C_seq ?_
  refine C_region ?_
  refine V_y (Y_move rfl) rfl rfl rfl ?_
  refine V_y (Y_geq rfl rfl) rfl rfl rfl ?_
  refine V_y (Y_move rfl) rfl rfl rfl ?_
  refine V_cut 3 (fun _ : Unit => [(8, .bool ((decide ((0 : Int) ≤ m)) && (decide (m ≤ 3000000))))]) (fun _ w' => w = w') ?_ ?_
  · simp only [List.take, List.drop]
    rcases Bool.eq_false_or_eq_true (decide ((0 : Int) ≤ m)) with hc1 | hc1
    · refine V_ge rfl rfl rfl hc1 ?_
      refine V_y (Y_move rfl) rfl rfl rfl ?_
      refine V_ge rfl rfl rfl hc1 ?_
      refine V_y (Y_leq rfl rfl) rfl rfl rfl ?_
      refine V_y (Y_pick_te rfl hc1 rfl) rfl rfl rfl ?_
      exact V_end fun a ha => ⟨(), ha.sub ⟨(by rw [hc1]; rfl), trivial⟩, rfl⟩
    · refine V_gn rfl rfl rfl hc1 rfl rfl rfl ?_
      refine V_gn rfl rfl rfl hc1 rfl rfl rfl ?_
      refine V_y (Y_pick_fe rfl hc1 rfl) rfl rfl rfl ?_
      exact V_end fun a ha => ⟨(), ha.sub ⟨(by rw [hc1]; rfl), trivial⟩, rfl⟩
  simp only [List.take, List.drop]
  rintro _ _ rfl
  refine V_y (Y_assign rfl) rfl rfl rfl ?_
  refine V_to (fun _ _ => rfl) ?_
  obtain rfl := hm
  refine C_ret ?_
  try simp only [↓inBlock_ret, ↓then_ret]
  exact retQ rfl (Res.one Tryd.results33 rfl) ⟨rfl, rfl⟩

set_option maxRecDepth 4000 in
set_option maxHeartbeats 4000000 in
theorem portref2_lowByte_1_c (w : World) (r_ : Int) : Ret Tryd.prog 48 #[.int .i32 r_] w fun v w' => v = .bool (portref2_lowByte_1 r_) ∧ w = w' := by
  generalize hm : portref2_lowByte_1 r_ = r
  unfold portref2_lowByte_1 at hm
  refine enter Tryd.func48 rfl Tryd.ntmps48 rfl ?_
  refine C_seq ?_
  refine C_region ?_
  refine V_y (Y_assign rfl) rfl rfl rfl ?_
  refine V_to (fun _ _ => rfl) ?_
  refine C_seq ?_
  refine C_region ?_
  refine V_y (Y_move rfl) rfl rfl rfl ?_
  refine V_y (Y_lss rfl rfl) rfl rfl rfl ?_
  refine V_y (Y_move rfl) rfl rfl rfl ?_
  refine V_cut 3 (fun _ : Unit => [(8, .bool ((decide (r_ < 32)) || (r_ == 127)))]) (fun _ w' => w = w') ?_ ?_
  · simp only [List.take, List.drop]
    rcases Bool.eq_false_or_eq_true (decide (r_ < 32)) with hc1 | hc1
    · refine V_gn rfl rfl rfl hc1 rfl rfl rfl ?_
      refine V_gn rfl rfl rfl hc1 rfl rfl rfl ?_
      refine V_y (Y_pick_te rfl hc1 rfl) rfl rfl rfl ?_
      exact V_end fun a ha => ⟨(), ha.sub ⟨(by rw [hc1]; rfl), trivial⟩, rfl⟩
    · refine V_ge rfl rfl rfl hc1 ?_
      refine V_y (Y_move rfl) rfl rfl rfl ?_
      refine V_ge rfl rfl rfl hc1 ?_
      refine V_y (Y_eql rfl rfl) rfl rfl rfl ?_
      refine V_y (Y_pick_fe rfl hc1 rfl) rfl rfl rfl ?_
      exact V_end fun a ha => ⟨(), ha.sub ⟨(by rw [hc1]; rfl), trivial⟩, rfl⟩
  simp only [List.take, List.drop]
  rintro _ _ rfl
  refine V_y (Y_assign rfl) rfl rfl rfl ?_
  refine V_to (fun _ _ => rfl) ?_
  obtain rfl := hm
  refine C_ret ?_
  try simp only [↓inBlock_ret, ↓then_ret]
  exact retQ rfl (Res.one Tryd.results48 rfl) ⟨rfl, rfl⟩

set_option maxRecDepth 4000 in
set_option maxHeartbeats 4000000 in
theorem portref2_lowByte_c (w : World) {A : Nat → Prop} (hA : ∀ b, w.heap.size ≤ b → A b) (s : ByteArray) {r : Bool} (hm : portref2_lowByte s = some r) : Ret Tryd.prog 34 #[.string s] w fun v w' => v = .bool r ∧ Kp False w w' := by
  unfold portref2_lowByte at hm
  refine enter Tryd.func34 rfl Tryd.ntmps34 rfl ?_
  have hA0 := hA
  have hB := Nat.le_refl w.heap.size
  have hK : Tr False w.heap.size A w A w := Tr.refl (Dw := False) hA
  have hH : Hp w.heap.size A w [] := Hp.nil
  refine C_seq ?_
  refine C_region ?_
  refine V_y (Y_assign rfl) rfl rfl rfl ?_
  refine V_to (fun _ _ => rfl) ?_
  refine C_seq ?_
  refine C_region ?_
  refine V_y (Y_move rfl) rfl rfl rfl ?_
  refine V_call Tryd.call47 rfl rfl rfl rfl (contains_wrap (Go.Proofs.Any.strings_ContainsFunc_grows Tryd_contains_lay 48 #[] (fun args w => Tryd.call48 args w) (fun y => portref2_lowByte_1 (y : Int)) s w (fun W x _ _ => Calls.mono (portref2_lowByte_1_c W (x : Int)) fun _ _ h => contains_fn h))) ?_
  rintro _ w1 ⟨rfl, hk2⟩
  have ht3 := Kp.tr (Dw := False) hk2 hA hB
  replace hH := Hp.kp (Dw := False) hH hk2
  replace hK := Tr.trans (Dw := False) hK ht3
  replace hB := Nat.le_trans hB ht3.ex.size
  replace hA := ht3.new
  refine V_y (Y_assign rfl) rfl rfl rfl ?_
  refine V_to (fun _ _ => rfl) ?_
  obtain rfl := Option.some.inj hm
  refine C_ret ?_
  try simp only [↓inBlock_ret, ↓then_ret]
  exact retQ rfl (Res.one Tryd.results34 rfl) ⟨rfl, hK.kp⟩

set_option maxRecDepth 4000 in
set_option maxHeartbeats 4000000 in
theorem portref2_testFault_c (w : World) {A : Nat → Prop} (hA : ∀ b, w.heap.size ≤ b → A b) (t : level_Test) {r : Int} (hm : portref2_testFault t = some r) : Ret Tryd.prog 27 #[.agg #[.int .i64 t.field, .int .i64 t.value.kind, .int .i64 t.value.int, .string t.value.text]] w fun v w' => v = .int .i64 r ∧ Kp False w w' := by
  unfold portref2_testFault at hm
  refine enter Tryd.func27 rfl Tryd.ntmps27 rfl ?_
  have hA0 := hA
  have hB := Nat.le_refl w.heap.size
  have hK : Tr False w.heap.size A w A w := Tr.refl (Dw := False) hA
  have hH : Hp w.heap.size A w [] := Hp.nil
  refine C_seq ?_
  refine C_region ?_
  refine V_box rfl rfl ?_
  intro b1 w2 h3
  have hk5 := h3.kp (Dw := False)
  have h4 : El (α := level_Test) A w2 b1 0 t := h3.el hA ⟨[.int .i64 t.field], _, rfl, rfl, ⟨[.int .i64 t.value.kind], _, rfl, rfl, ⟨[.int .i64 t.value.int], _, rfl, rfl, rfl⟩⟩⟩
  have ht6 := Kp.tr (Dw := False) hk5 hA hB
  replace hH := Hp.kp (Dw := False) hH hk5
  replace hK := Tr.trans (Dw := False) hK ht6
  replace hB := Nat.le_trans hB ht6.ex.size
  replace hA := ht6.new
  refine V_y (Y_assign rfl) rfl rfl rfl ?_
  refine V_to (fun _ _ => rfl) ?_
  refine C_seq ?_
  refine C_region ?_
  have h7 := El_level_Test_1 h4
  refine V_y (Y_fieldAddr Tryd.underlying48 rfl Tryd.sizeOf46 (by decide) rfl) rfl rfl rfl ?_
  obtain ⟨h8, _⟩ := El_api_Value h7
  refine V_y (Y_loadA h8 Tryd.isAgg46 Tryd.sizeOf46 rfl) rfl rfl rfl ?_
  refine V_alloc Tryd.zeroValue46 rfl ?_
  intro b9 w10 h11
  refine V_storeNew h11 Tryd.sizeOf46 rfl rfl rfl rfl (by exact (List.forall_mem_cons.2 ⟨rfl, (List.forall_mem_cons.2 ⟨rfl, (List.forall_mem_cons.2 ⟨rfl, (fun _ h => nomatch h)⟩)⟩)⟩)) ?_
  intro w12 h13
  have hk15 := h13.kp (Dw := False)
  have h14 : El (α := api_Value) A w12 b9 0 t.value := h13.el hA ⟨[.int .i64 t.value.kind], _, rfl, rfl, ⟨[.int .i64 t.value.int], _, rfl, rfl, rfl⟩⟩
  have ht16 := Kp.tr (Dw := False) hk15 hA hB
  replace hH := Hp.kp (Dw := False) hH hk15
  replace h4 := El.tr (Dw := False) h4 ht16
  replace h7 := El.tr (Dw := False) h7 ht16
  replace hK := Tr.trans (Dw := False) hK ht16
  replace hB := Nat.le_trans hB ht16.ex.size
  replace hA := ht16.new
  refine V_to (fun _ _ => rfl) ?_
  refine C_seq ?_
  refine C_block ?_
  refine C_seq ?_
  refine C_region ?_
  have h17 := El_api_Value_0 h14
  refine V_y (Y_fieldAddr Tryd.underlying46 rfl Tryd.sizeOf3 (by decide) rfl) rfl rfl rfl ?_
  refine V_y (Y_load (El.int h17) Tryd.isAgg3 rfl) rfl rfl rfl ?_
  refine V_y (Y_lss rfl rfl) rfl rfl rfl ?_
  refine V_y (Y_move rfl) rfl rfl rfl ?_
  refine V_cut 4 (fun _ : Unit => [(1, .pointer (some ⟨b1, 0, none⟩)), (3, .pointer (some ⟨b9, 0, none⟩)), (14, .bool ((decide (t.value.kind < 0)) || (decide ((6 : Int) < t.value.kind))))]) (fun _ w' => w12 = w') ?_ ?_
  · simp only [List.take, List.drop]
    rcases Bool.eq_false_or_eq_true (decide (t.value.kind < 0)) with hc18 | hc18
    · refine V_gn rfl rfl rfl hc18 rfl rfl rfl ?_
      refine V_gn rfl rfl rfl hc18 rfl rfl rfl ?_
      refine V_gn rfl rfl rfl hc18 rfl rfl rfl ?_
      refine V_y (Y_pick_te rfl hc18 rfl) rfl rfl rfl ?_
      exact V_end fun a ha => ⟨(), ha.sub ⟨rfl, rfl, (by rw [hc18]; rfl), trivial⟩, rfl⟩
    · refine V_ge rfl rfl rfl hc18 ?_
      have h20 := El_api_Value_0 h14
      refine V_y (Y_fieldAddr Tryd.underlying46 rfl Tryd.sizeOf3 (by decide) rfl) rfl rfl rfl ?_
      refine V_ge rfl rfl rfl hc18 ?_
      refine V_y (Y_load (El.int h20) Tryd.isAgg3 rfl) rfl rfl rfl ?_
      refine V_ge rfl rfl rfl hc18 ?_
      refine V_y (Y_gtr rfl rfl) rfl rfl rfl ?_
      refine V_y (Y_pick_fe rfl hc18 rfl) rfl rfl rfl ?_
      exact V_end fun a ha => ⟨(), ha.sub ⟨rfl, rfl, (by rw [hc18]; rfl), trivial⟩, rfl⟩
  simp only [List.take, List.drop]
  rintro _ _ rfl
  refine V_y (Y_move rfl) rfl rfl rfl ?_
  refine V_cut 9 (fun _ : Unit => [(3, .pointer (some ⟨b9, 0, none⟩)), (24, .bool (((decide (t.value.kind < 0)) || (decide ((6 : Int) < t.value.kind))) || ((decide (t.field < 0)) && (t.value.kind != 2))))]) (fun _ w' => w12 = w') ?_ ?_
  · simp only [List.take, List.drop]
    rcases Bool.eq_false_or_eq_true (((decide (t.value.kind < 0)) || (decide ((6 : Int) < t.value.kind)))) with hc21 | hc21
    · refine V_gn rfl rfl rfl hc21 rfl rfl rfl ?_
      refine V_gn rfl rfl rfl hc21 rfl rfl rfl ?_
      refine V_gn rfl rfl rfl hc21 rfl rfl rfl ?_
      refine V_gn rfl rfl rfl hc21 rfl rfl rfl ?_
      refine V_gu rfl rfl rfl rfl rfl ?_
      refine V_gu rfl rfl rfl rfl rfl ?_
      refine V_gu rfl rfl rfl rfl rfl ?_
      refine V_gn rfl rfl rfl hc21 rfl rfl rfl ?_
      refine V_y (Y_pick_te rfl hc21 rfl) rfl rfl rfl ?_
      exact V_end fun a ha => ⟨(), ha.sub ⟨rfl, (by rw [hc21]; rfl), trivial⟩, rfl⟩
    · refine V_ge rfl rfl rfl hc21 ?_
      have h23 := El_level_Test_0 h4
      refine V_y (Y_fieldAddr Tryd.underlying48 rfl Tryd.sizeOf3 (by decide) rfl) rfl rfl rfl ?_
      refine V_ge rfl rfl rfl hc21 ?_
      refine V_y (Y_load (El.int h23) Tryd.isAgg3 rfl) rfl rfl rfl ?_
      refine V_ge rfl rfl rfl hc21 ?_
      refine V_y (Y_lss rfl rfl) rfl rfl rfl ?_
      refine V_ge rfl rfl rfl hc21 ?_
      refine V_y (Y_move rfl) rfl rfl rfl ?_
      refine V_cut 4 (fun _ : Unit => [(3, .pointer (some ⟨b9, 0, none⟩)), (15, .bool ((decide (t.value.kind < 0)) || (decide ((6 : Int) < t.value.kind)))), (23, .bool ((decide (t.field < 0)) && (t.value.kind != 2)))]) (fun _ w' => w12 = w') ?_ ?_
      · simp only [List.take, List.drop]
        rcases Bool.eq_false_or_eq_true (decide (t.field < 0)) with hc24 | hc24
        · refine V_ge rfl rfl rfl hc24 ?_
          have h26 := El_api_Value_0 h14
          refine V_y (Y_fieldAddr Tryd.underlying46 rfl Tryd.sizeOf3 (by decide) rfl) rfl rfl rfl ?_
          refine V_ge rfl rfl rfl hc24 ?_
          refine V_y (Y_load (El.int h26) Tryd.isAgg3 rfl) rfl rfl rfl ?_
          refine V_ge rfl rfl rfl hc24 ?_
          refine V_y (Y_neq rfl rfl) rfl rfl rfl ?_
          refine V_ge rfl rfl rfl hc21 ?_
          refine V_y (Y_pick_te rfl hc24 rfl) rfl rfl rfl ?_
          exact V_end fun a ha => ⟨(), ha.sub ⟨rfl, rfl, (by rw [hc24]; rfl), trivial⟩, rfl⟩
        · refine V_gn rfl rfl rfl hc24 rfl rfl rfl ?_
          refine V_gn rfl rfl rfl hc24 rfl rfl rfl ?_
          refine V_gn rfl rfl rfl hc24 rfl rfl rfl ?_
          refine V_ge rfl rfl rfl hc21 ?_
          refine V_y (Y_pick_fe rfl hc24 rfl) rfl rfl rfl ?_
          exact V_end fun a ha => ⟨(), ha.sub ⟨rfl, rfl, (by rw [hc24]; rfl), trivial⟩, rfl⟩
      simp only [List.take, List.drop]
      rintro _ _ rfl
      refine V_y (Y_pick_fe rfl hc21 rfl) rfl rfl rfl ?_
      exact V_end fun a ha => ⟨(), ha.sub ⟨rfl, (by rw [hc21]; rfl), trivial⟩, rfl⟩
  simp only [List.take, List.drop]
  rintro _ _ rfl
  refine V_y (Y_assign rfl) rfl rfl rfl ?_
  refine V_to (fun _ _ => rfl) ?_
  refine C_cond rfl (fun hc27 => ?_) (fun hc27 => ?_)
  · rw [if_pos hc27] at hm
    refine C_seq ?_
    refine C_region ?_
    refine V_y (Y_assign rfl) rfl rfl rfl ?_
    refine V_to (fun _ _ => rfl) ?_
    obtain rfl := Option.some.inj hm
    refine C_ret ?_
    try simp only [↓inBlock_ret, ↓then_ret]
    exact retQ rfl (Res.one Tryd.results27 rfl) ⟨rfl, hK.kp⟩
  · rw [if_neg (nt hc27)] at hm
    refine C_seq ?_
    refine C_seq ?_
    refine C_region ?_
    have h28 := El_api_Value_2 h14
    refine V_y (Y_fieldAddr Tryd.underlying46 rfl Tryd.sizeOf9 (by decide) rfl) rfl rfl rfl ?_
    refine V_y (Y_load (El.str h28) Tryd.isAgg9 rfl) rfl rfl rfl ?_
    refine V_y (Y_sneq rfl rfl) rfl rfl rfl ?_
    refine V_y (Y_move rfl) rfl rfl rfl ?_
    refine V_cut 4 (fun _ : Unit => [(3, .pointer (some ⟨b9, 0, none⟩)), (33, .bool ((!(strEq t.value.text (⟨#[]⟩ : ByteArray))) && (t.value.kind != 3)))]) (fun _ w' => w12 = w') ?_ ?_
    · simp only [List.take, List.drop]
      rcases Bool.eq_false_or_eq_true (!(strEq t.value.text (⟨#[]⟩ : ByteArray))) with hc29 | hc29
      · refine V_ge rfl rfl rfl hc29 ?_
        have h31 := El_api_Value_0 h14
        refine V_y (Y_fieldAddr Tryd.underlying46 rfl Tryd.sizeOf3 (by decide) rfl) rfl rfl rfl ?_
        refine V_ge rfl rfl rfl hc29 ?_
        refine V_y (Y_load (El.int h31) Tryd.isAgg3 rfl) rfl rfl rfl ?_
        refine V_ge rfl rfl rfl hc29 ?_
        refine V_y (Y_neq rfl rfl) rfl rfl rfl ?_
        refine V_y (Y_pick_te rfl hc29 rfl) rfl rfl rfl ?_
        exact V_end fun a ha => ⟨(), ha.sub ⟨rfl, (by rw [hc29]; rfl), trivial⟩, rfl⟩
      · refine V_gn rfl rfl rfl hc29 rfl rfl rfl ?_
        refine V_gn rfl rfl rfl hc29 rfl rfl rfl ?_
        refine V_gn rfl rfl rfl hc29 rfl rfl rfl ?_
        refine V_y (Y_pick_fe rfl hc29 rfl) rfl rfl rfl ?_
        exact V_end fun a ha => ⟨(), ha.sub ⟨rfl, (by rw [hc29]; rfl), trivial⟩, rfl⟩
    simp only [List.take, List.drop]
    rintro _ _ rfl
    refine V_y (Y_assign rfl) rfl rfl rfl ?_
    refine V_to (fun _ _ => rfl) ?_
    obtain ⟨s33, ho32, hm⟩ := Option.bind_eq_some_iff.1 hm
    refine C_cutG (ι := Unit) (fun (_ : Unit) => [(3, .pointer (some ⟨b9, 0, none⟩)), (25, .bool s33)]) (fun (_ : Unit) => fun w' => w12 = w') ?_ ?_
    · refine C_cond rfl (fun hc38 => ?_) (fun hc38 => ?_)
      · rw [if_pos hc38] at ho32
        obtain rfl := Option.some.inj ho32
        refine C_skip (fun a ha39 => ?_)
        exact ⟨(), ha39.sub ⟨rfl, rfl, trivial⟩, rfl⟩
      · rw [if_neg (nt hc38)] at ho32
        refine C_region ?_
        have h40 := El_api_Value_1 h14
        refine V_y (Y_fieldAddr Tryd.underlying46 rfl Tryd.sizeOf3 (by decide) rfl) rfl rfl rfl ?_
        refine V_y (Y_load (El.int h40) Tryd.isAgg3 rfl) rfl rfl rfl ?_
        refine V_y (Y_neq rfl rfl) rfl rfl rfl ?_
        refine V_y (Y_move rfl) rfl rfl rfl ?_
        refine V_cut 9 (fun _ : Unit => [(3, .pointer (some ⟨b9, 0, none⟩)), (46, .bool ((t.value.int != 0) && ((t.value.kind == 3) || (t.value.kind == 0))))]) (fun _ w' => w12 = w') ?_ ?_
        · simp only [List.take, List.drop]
          rcases Bool.eq_false_or_eq_true (t.value.int != 0) with hc41 | hc41
          · refine V_ge rfl rfl rfl hc41 ?_
            have h43 := El_api_Value_0 h14
            refine V_y (Y_fieldAddr Tryd.underlying46 rfl Tryd.sizeOf3 (by decide) rfl) rfl rfl rfl ?_
            refine V_ge rfl rfl rfl hc41 ?_
            refine V_y (Y_load (El.int h43) Tryd.isAgg3 rfl) rfl rfl rfl ?_
            refine V_ge rfl rfl rfl hc41 ?_
            refine V_y (Y_eql rfl rfl) rfl rfl rfl ?_
            refine V_ge rfl rfl rfl hc41 ?_
            refine V_y (Y_move rfl) rfl rfl rfl ?_
            refine V_cut 4 (fun _ : Unit => [(3, .pointer (some ⟨b9, 0, none⟩)), (37, .bool (t.value.int != 0)), (45, .bool ((t.value.kind == 3) || (t.value.kind == 0)))]) (fun _ w' => w12 = w') ?_ ?_
            · simp only [List.take, List.drop]
              rcases Bool.eq_false_or_eq_true (t.value.kind == 3) with hc44 | hc44
              · refine V_gn rfl rfl rfl hc44 rfl rfl rfl ?_
                refine V_gn rfl rfl rfl hc44 rfl rfl rfl ?_
                refine V_gn rfl rfl rfl hc44 rfl rfl rfl ?_
                refine V_ge rfl rfl rfl hc41 ?_
                refine V_y (Y_pick_te rfl hc44 rfl) rfl rfl rfl ?_
                exact V_end fun a ha => ⟨(), ha.sub ⟨rfl, rfl, (by rw [hc44]; rfl), trivial⟩, rfl⟩
              · refine V_ge rfl rfl rfl hc44 ?_
                have h46 := El_api_Value_0 h14
                refine V_y (Y_fieldAddr Tryd.underlying46 rfl Tryd.sizeOf3 (by decide) rfl) rfl rfl rfl ?_
                refine V_ge rfl rfl rfl hc44 ?_
                refine V_y (Y_load (El.int h46) Tryd.isAgg3 rfl) rfl rfl rfl ?_
                refine V_ge rfl rfl rfl hc44 ?_
                refine V_y (Y_eql rfl rfl) rfl rfl rfl ?_
                refine V_ge rfl rfl rfl hc41 ?_
                refine V_y (Y_pick_fe rfl hc44 rfl) rfl rfl rfl ?_
                exact V_end fun a ha => ⟨(), ha.sub ⟨rfl, rfl, (by rw [hc44]; rfl), trivial⟩, rfl⟩
            simp only [List.take, List.drop]
            rintro _ _ rfl
            refine V_y (Y_pick_te rfl hc41 rfl) rfl rfl rfl ?_
            exact V_end fun a ha => ⟨(), ha.sub ⟨rfl, (by rw [hc41]; rfl), trivial⟩, rfl⟩
          · refine V_gn rfl rfl rfl hc41 rfl rfl rfl ?_
            refine V_gn rfl rfl rfl hc41 rfl rfl rfl ?_
            refine V_gn rfl rfl rfl hc41 rfl rfl rfl ?_
            refine V_gn rfl rfl rfl hc41 rfl rfl rfl ?_
            refine V_gu rfl rfl rfl rfl rfl ?_
            refine V_gu rfl rfl rfl rfl rfl ?_
            refine V_gu rfl rfl rfl rfl rfl ?_
            refine V_gn rfl rfl rfl hc41 rfl rfl rfl ?_
            refine V_y (Y_pick_fe rfl hc41 rfl) rfl rfl rfl ?_
            exact V_end fun a ha => ⟨(), ha.sub ⟨rfl, (by rw [hc41]; rfl), trivial⟩, rfl⟩
        simp only [List.take, List.drop]
        rintro _ _ rfl
        refine V_y (Y_assign rfl) rfl rfl rfl ?_
        obtain rfl := Option.some.inj ho32
        refine V_end (fun a ha47 => ?_)
        exact ⟨(), ha47.sub ⟨rfl, rfl, trivial⟩, rfl⟩
    rintro _ _ rfl a ha37
    refine C_at (n := ⟨105, [], none⟩) (fun _ _ => rfl) ?_ ha37
    refine C_cond rfl (fun hc48 => ?_) (fun hc48 => ?_)
    · rw [if_pos hc48] at hm
      refine C_seq ?_
      refine C_region ?_
      refine V_y (Y_assign rfl) rfl rfl rfl ?_
      refine V_to (fun _ _ => rfl) ?_
      obtain rfl := Option.some.inj hm
      refine C_ret ?_
      try simp only [↓inBlock_ret, ↓then_ret]
      exact retQ rfl (Res.one Tryd.results27 rfl) ⟨rfl, hK.kp⟩
    · rw [if_neg (nt hc48)] at hm
      refine C_seq ?_
      refine C_seq ?_
      refine C_region ?_
      have h49 := El_api_Value_0 h14
      refine V_y (Y_fieldAddr Tryd.underlying46 rfl Tryd.sizeOf3 (by decide) rfl) rfl rfl rfl ?_
      refine V_y (Y_load (El.int h49) Tryd.isAgg3 rfl) rfl rfl rfl ?_
      refine V_y (Y_eql rfl rfl) rfl rfl rfl ?_
      refine V_y (Y_move rfl) rfl rfl rfl ?_
      refine V_cut 4 (fun _ : Unit => [(3, .pointer (some ⟨b9, 0, none⟩)), (55, .bool ((t.value.kind == 1) && (t.value.int != 0)))]) (fun _ w' => w12 = w') ?_ ?_
      · simp only [List.take, List.drop]
        rcases Bool.eq_false_or_eq_true (t.value.kind == 1) with hc50 | hc50
        · refine V_ge rfl rfl rfl hc50 ?_
          have h52 := El_api_Value_1 h14
          refine V_y (Y_fieldAddr Tryd.underlying46 rfl Tryd.sizeOf3 (by decide) rfl) rfl rfl rfl ?_
          refine V_ge rfl rfl rfl hc50 ?_
          refine V_y (Y_load (El.int h52) Tryd.isAgg3 rfl) rfl rfl rfl ?_
          refine V_ge rfl rfl rfl hc50 ?_
          refine V_y (Y_neq rfl rfl) rfl rfl rfl ?_
          refine V_y (Y_pick_te rfl hc50 rfl) rfl rfl rfl ?_
          exact V_end fun a ha => ⟨(), ha.sub ⟨rfl, (by rw [hc50]; rfl), trivial⟩, rfl⟩
        · refine V_gn rfl rfl rfl hc50 rfl rfl rfl ?_
          refine V_gn rfl rfl rfl hc50 rfl rfl rfl ?_
          refine V_gn rfl rfl rfl hc50 rfl rfl rfl ?_
          refine V_y (Y_pick_fe rfl hc50 rfl) rfl rfl rfl ?_
          exact V_end fun a ha => ⟨(), ha.sub ⟨rfl, (by rw [hc50]; rfl), trivial⟩, rfl⟩
      simp only [List.take, List.drop]
      rintro _ _ rfl
      refine V_y (Y_move rfl) rfl rfl rfl ?_
      refine V_cut 4 (fun _ : Unit => [(3, .pointer (some ⟨b9, 0, none⟩)), (60, .bool (((t.value.kind == 1) && (t.value.int != 0)) && (t.value.int != 1)))]) (fun _ w' => w12 = w') ?_ ?_
      · simp only [List.take, List.drop]
        rcases Bool.eq_false_or_eq_true (((t.value.kind == 1) && (t.value.int != 0))) with hc53 | hc53
        · refine V_ge rfl rfl rfl hc53 ?_
          have h55 := El_api_Value_1 h14
          refine V_y (Y_fieldAddr Tryd.underlying46 rfl Tryd.sizeOf3 (by decide) rfl) rfl rfl rfl ?_
          refine V_ge rfl rfl rfl hc53 ?_
          refine V_y (Y_load (El.int h55) Tryd.isAgg3 rfl) rfl rfl rfl ?_
          refine V_ge rfl rfl rfl hc53 ?_
          refine V_y (Y_neq rfl rfl) rfl rfl rfl ?_
          refine V_y (Y_pick_te rfl hc53 rfl) rfl rfl rfl ?_
          exact V_end fun a ha => ⟨(), ha.sub ⟨rfl, (by rw [hc53]; rfl), trivial⟩, rfl⟩
        · refine V_gn rfl rfl rfl hc53 rfl rfl rfl ?_
          refine V_gn rfl rfl rfl hc53 rfl rfl rfl ?_
          refine V_gn rfl rfl rfl hc53 rfl rfl rfl ?_
          refine V_y (Y_pick_fe rfl hc53 rfl) rfl rfl rfl ?_
          exact V_end fun a ha => ⟨(), ha.sub ⟨rfl, (by rw [hc53]; rfl), trivial⟩, rfl⟩
      simp only [List.take, List.drop]
      rintro _ _ rfl
      refine V_y (Y_assign rfl) rfl rfl rfl ?_
      refine V_to (fun _ _ => rfl) ?_
      obtain ⟨s57, ho56, hm⟩ := Option.bind_eq_some_iff.1 hm
      refine C_cutG (ι := Unit) (fun (_ : Unit) => [(3, .pointer (some ⟨b9, 0, none⟩)), (47, .bool s57)]) (fun (_ : Unit) => fun w' => w12 = w') ?_ ?_
      · refine C_cond rfl (fun hc62 => ?_) (fun hc62 => ?_)
        · rw [if_pos hc62] at ho56
          obtain rfl := Option.some.inj ho56
          refine C_skip (fun a ha63 => ?_)
          exact ⟨(), ha63.sub ⟨rfl, rfl, trivial⟩, rfl⟩
        · rw [if_neg (nt hc62)] at ho56
          refine C_seq ?_
          refine C_region ?_
          have h64 := El_api_Value_0 h14
          refine V_y (Y_fieldAddr Tryd.underlying46 rfl Tryd.sizeOf3 (by decide) rfl) rfl rfl rfl ?_
          refine V_y (Y_load (El.int h64) Tryd.isAgg3 rfl) rfl rfl rfl ?_
          refine V_y (Y_eql rfl rfl) rfl rfl rfl ?_
          refine V_y (Y_move rfl) rfl rfl rfl ?_
          refine V_cut 9 (fun _ : Unit => [(3, .pointer (some ⟨b9, 0, none⟩)), (73, .bool ((t.value.kind == 4) && ((decide (t.value.int < 0)) || (decide ((20 : Int) ≤ t.value.int)))))]) (fun _ w' => w12 = w') ?_ ?_
          · simp only [List.take, List.drop]
            rcases Bool.eq_false_or_eq_true (t.value.kind == 4) with hc65 | hc65
            · refine V_ge rfl rfl rfl hc65 ?_
              have h67 := El_api_Value_1 h14
              refine V_y (Y_fieldAddr Tryd.underlying46 rfl Tryd.sizeOf3 (by decide) rfl) rfl rfl rfl ?_
              refine V_ge rfl rfl rfl hc65 ?_
              refine V_y (Y_load (El.int h67) Tryd.isAgg3 rfl) rfl rfl rfl ?_
              refine V_ge rfl rfl rfl hc65 ?_
              refine V_y (Y_lss rfl rfl) rfl rfl rfl ?_
              refine V_ge rfl rfl rfl hc65 ?_
              refine V_y (Y_move rfl) rfl rfl rfl ?_
              refine V_cut 4 (fun _ : Unit => [(3, .pointer (some ⟨b9, 0, none⟩)), (64, .bool (t.value.kind == 4)), (72, .bool ((decide (t.value.int < 0)) || (decide ((20 : Int) ≤ t.value.int))))]) (fun _ w' => w12 = w') ?_ ?_
              · simp only [List.take, List.drop]
                rcases Bool.eq_false_or_eq_true (decide (t.value.int < 0)) with hc68 | hc68
                · refine V_gn rfl rfl rfl hc68 rfl rfl rfl ?_
                  refine V_gn rfl rfl rfl hc68 rfl rfl rfl ?_
                  refine V_gn rfl rfl rfl hc68 rfl rfl rfl ?_
                  refine V_ge rfl rfl rfl hc65 ?_
                  refine V_y (Y_pick_te rfl hc68 rfl) rfl rfl rfl ?_
                  exact V_end fun a ha => ⟨(), ha.sub ⟨rfl, rfl, (by rw [hc68]; rfl), trivial⟩, rfl⟩
                · refine V_ge rfl rfl rfl hc68 ?_
                  have h70 := El_api_Value_1 h14
                  refine V_y (Y_fieldAddr Tryd.underlying46 rfl Tryd.sizeOf3 (by decide) rfl) rfl rfl rfl ?_
                  refine V_ge rfl rfl rfl hc68 ?_
                  refine V_y (Y_load (El.int h70) Tryd.isAgg3 rfl) rfl rfl rfl ?_
                  refine V_ge rfl rfl rfl hc68 ?_
                  refine V_y (Y_geq rfl rfl) rfl rfl rfl ?_
                  refine V_ge rfl rfl rfl hc65 ?_
                  refine V_y (Y_pick_fe rfl hc68 rfl) rfl rfl rfl ?_
                  exact V_end fun a ha => ⟨(), ha.sub ⟨rfl, rfl, (by rw [hc68]; rfl), trivial⟩, rfl⟩
              simp only [List.take, List.drop]
              rintro _ _ rfl
              refine V_y (Y_pick_te rfl hc65 rfl) rfl rfl rfl ?_
              exact V_end fun a ha => ⟨(), ha.sub ⟨rfl, (by rw [hc65]; rfl), trivial⟩, rfl⟩
            · refine V_gn rfl rfl rfl hc65 rfl rfl rfl ?_
              refine V_gn rfl rfl rfl hc65 rfl rfl rfl ?_
              refine V_gn rfl rfl rfl hc65 rfl rfl rfl ?_
              refine V_gn rfl rfl rfl hc65 rfl rfl rfl ?_
              refine V_gu rfl rfl rfl rfl rfl ?_
              refine V_gu rfl rfl rfl rfl rfl ?_
              refine V_gu rfl rfl rfl rfl rfl ?_
              refine V_gn rfl rfl rfl hc65 rfl rfl rfl ?_
              refine V_y (Y_pick_fe rfl hc65 rfl) rfl rfl rfl ?_
              exact V_end fun a ha => ⟨(), ha.sub ⟨rfl, (by rw [hc65]; rfl), trivial⟩, rfl⟩
          simp only [List.take, List.drop]
          rintro _ _ rfl
          refine V_y (Y_assign rfl) rfl rfl rfl ?_
          refine V_to (fun _ _ => rfl) ?_
          obtain ⟨s72, ho71, ho56⟩ := Option.bind_eq_some_iff.1 ho56
          refine C_cutG (ι := Unit) (fun (_ : Unit) => [(3, .pointer (some ⟨b9, 0, none⟩)), (47, .bool s72)]) (fun (_ : Unit) => fun w' => w12 = w') ?_ ?_
          · refine C_cond rfl (fun hc77 => ?_) (fun hc77 => ?_)
            · rw [if_pos hc77] at ho71
              obtain rfl := Option.some.inj ho71
              refine C_skip (fun a ha78 => ?_)
              exact ⟨(), ha78.sub ⟨rfl, rfl, trivial⟩, rfl⟩
            · rw [if_neg (nt hc77)] at ho71
              refine C_seq ?_
              refine C_region ?_
              have h79 := El_api_Value_0 h14
              refine V_y (Y_fieldAddr Tryd.underlying46 rfl Tryd.sizeOf3 (by decide) rfl) rfl rfl rfl ?_
              refine V_y (Y_load (El.int h79) Tryd.isAgg3 rfl) rfl rfl rfl ?_
              refine V_y (Y_eql rfl rfl) rfl rfl rfl ?_
              refine V_y (Y_move rfl) rfl rfl rfl ?_
              refine V_cut 5 (fun _ : Unit => [(3, .pointer (some ⟨b9, 0, none⟩)), (82, .bool ((t.value.kind == 5) && (!(portref2_IsMoment t.value.int))))]) (fun _ w' => w12 = w') ?_ ?_
              · simp only [List.take, List.drop]
                rcases Bool.eq_false_or_eq_true (t.value.kind == 5) with hc80 | hc80
                · refine V_ge rfl rfl rfl hc80 ?_
                  have h82 := El_api_Value_1 h14
                  refine V_y (Y_fieldAddr Tryd.underlying46 rfl Tryd.sizeOf3 (by decide) rfl) rfl rfl rfl ?_
                  refine V_ge rfl rfl rfl hc80 ?_
                  refine V_y (Y_load (El.int h82) Tryd.isAgg3 rfl) rfl rfl rfl ?_
                  refine V_ge rfl rfl rfl hc80 ?_
                  refine V_call Tryd.call33 rfl rfl rfl rfl (portref2_IsMoment_c w12 t.value.int) ?_
                  rintro _ _ ⟨rfl, rfl⟩
                  refine V_ge rfl rfl rfl hc80 ?_
                  refine V_y (Y_not rfl) rfl rfl rfl ?_
                  refine V_y (Y_pick_te rfl hc80 rfl) rfl rfl rfl ?_
                  exact V_end fun a ha => ⟨(), ha.sub ⟨rfl, (by rw [hc80]; rfl), trivial⟩, rfl⟩
                · refine V_gn rfl rfl rfl hc80 rfl rfl rfl ?_
                  refine V_gn rfl rfl rfl hc80 rfl rfl rfl ?_
                  refine V_gn rfl rfl rfl hc80 rfl rfl rfl ?_
                  refine V_gn rfl rfl rfl hc80 rfl rfl rfl ?_
                  refine V_y (Y_pick_fe rfl hc80 rfl) rfl rfl rfl ?_
                  exact V_end fun a ha => ⟨(), ha.sub ⟨rfl, (by rw [hc80]; rfl), trivial⟩, rfl⟩
              simp only [List.take, List.drop]
              rintro _ _ rfl
              refine V_y (Y_assign rfl) rfl rfl rfl ?_
              refine V_to (fun _ _ => rfl) ?_
              obtain ⟨s84, ho83, ho71⟩ := Option.bind_eq_some_iff.1 ho71
              refine C_cutG (ι := Unit) (fun (_ : Unit) => [(3, .pointer (some ⟨b9, 0, none⟩)), (47, .bool s84)]) (fun (_ : Unit) => fun w' => w12 = w') ?_ ?_
              · refine C_cond rfl (fun hc89 => ?_) (fun hc89 => ?_)
                · rw [if_pos hc89] at ho83
                  obtain rfl := Option.some.inj ho83
                  refine C_skip (fun a ha90 => ?_)
                  exact ⟨(), ha90.sub ⟨rfl, rfl, trivial⟩, rfl⟩
                · rw [if_neg (nt hc89)] at ho83
                  refine C_region ?_
                  have h91 := El_api_Value_0 h14
                  refine V_y (Y_fieldAddr Tryd.underlying46 rfl Tryd.sizeOf3 (by decide) rfl) rfl rfl rfl ?_
                  refine V_y (Y_load (El.int h91) Tryd.isAgg3 rfl) rfl rfl rfl ?_
                  refine V_y (Y_eql rfl rfl) rfl rfl rfl ?_
                  refine V_y (Y_move rfl) rfl rfl rfl ?_
                  refine V_cut 9 (fun _ : Unit => [(3, .pointer (some ⟨b9, 0, none⟩)), (95, .bool ((t.value.kind == 6) && ((decide (t.value.int < 1)) || (decide ((40 : Int) < t.value.int)))))]) (fun _ w' => w12 = w') ?_ ?_
                  · simp only [List.take, List.drop]
                    rcases Bool.eq_false_or_eq_true (t.value.kind == 6) with hc92 | hc92
                    · refine V_ge rfl rfl rfl hc92 ?_
                      have h94 := El_api_Value_1 h14
                      refine V_y (Y_fieldAddr Tryd.underlying46 rfl Tryd.sizeOf3 (by decide) rfl) rfl rfl rfl ?_
                      refine V_ge rfl rfl rfl hc92 ?_
                      refine V_y (Y_load (El.int h94) Tryd.isAgg3 rfl) rfl rfl rfl ?_
                      refine V_ge rfl rfl rfl hc92 ?_
                      refine V_y (Y_lss rfl rfl) rfl rfl rfl ?_
                      refine V_ge rfl rfl rfl hc92 ?_
                      refine V_y (Y_move rfl) rfl rfl rfl ?_
                      refine V_cut 4 (fun _ : Unit => [(3, .pointer (some ⟨b9, 0, none⟩)), (86, .bool (t.value.kind == 6)), (94, .bool ((decide (t.value.int < 1)) || (decide ((40 : Int) < t.value.int))))]) (fun _ w' => w12 = w') ?_ ?_
                      · simp only [List.take, List.drop]
                        rcases Bool.eq_false_or_eq_true (decide (t.value.int < 1)) with hc95 | hc95
                        · refine V_gn rfl rfl rfl hc95 rfl rfl rfl ?_
                          refine V_gn rfl rfl rfl hc95 rfl rfl rfl ?_
                          refine V_gn rfl rfl rfl hc95 rfl rfl rfl ?_
                          refine V_ge rfl rfl rfl hc92 ?_
                          refine V_y (Y_pick_te rfl hc95 rfl) rfl rfl rfl ?_
                          exact V_end fun a ha => ⟨(), ha.sub ⟨rfl, rfl, (by rw [hc95]; rfl), trivial⟩, rfl⟩
                        · refine V_ge rfl rfl rfl hc95 ?_
                          have h97 := El_api_Value_1 h14
                          refine V_y (Y_fieldAddr Tryd.underlying46 rfl Tryd.sizeOf3 (by decide) rfl) rfl rfl rfl ?_
                          refine V_ge rfl rfl rfl hc95 ?_
                          refine V_y (Y_load (El.int h97) Tryd.isAgg3 rfl) rfl rfl rfl ?_
                          refine V_ge rfl rfl rfl hc95 ?_
                          refine V_y (Y_gtr rfl rfl) rfl rfl rfl ?_
                          refine V_ge rfl rfl rfl hc92 ?_
                          refine V_y (Y_pick_fe rfl hc95 rfl) rfl rfl rfl ?_
                          exact V_end fun a ha => ⟨(), ha.sub ⟨rfl, rfl, (by rw [hc95]; rfl), trivial⟩, rfl⟩
                      simp only [List.take, List.drop]
                      rintro _ _ rfl
                      refine V_y (Y_pick_te rfl hc92 rfl) rfl rfl rfl ?_
                      exact V_end fun a ha => ⟨(), ha.sub ⟨rfl, (by rw [hc92]; rfl), trivial⟩, rfl⟩
                    · refine V_gn rfl rfl rfl hc92 rfl rfl rfl ?_
                      refine V_gn rfl rfl rfl hc92 rfl rfl rfl ?_
                      refine V_gn rfl rfl rfl hc92 rfl rfl rfl ?_
                      refine V_gn rfl rfl rfl hc92 rfl rfl rfl ?_
                      refine V_gu rfl rfl rfl rfl rfl ?_
                      refine V_gu rfl rfl rfl rfl rfl ?_
                      refine V_gu rfl rfl rfl rfl rfl ?_
                      refine V_gn rfl rfl rfl hc92 rfl rfl rfl ?_
                      refine V_y (Y_pick_fe rfl hc92 rfl) rfl rfl rfl ?_
                      exact V_end fun a ha => ⟨(), ha.sub ⟨rfl, (by rw [hc92]; rfl), trivial⟩, rfl⟩
                  simp only [List.take, List.drop]
                  rintro _ _ rfl
                  refine V_y (Y_assign rfl) rfl rfl rfl ?_
                  obtain rfl := Option.some.inj ho83
                  refine V_end (fun a ha98 => ?_)
                  exact ⟨(), ha98.sub ⟨rfl, rfl, trivial⟩, rfl⟩
              rintro _ _ rfl a ha88
              obtain rfl := Option.some.inj ho71
              exact ⟨(), ha88.sub ⟨rfl, rfl, trivial⟩, rfl⟩
          rintro _ _ rfl a ha76
          obtain rfl := Option.some.inj ho56
          exact ⟨(), ha76.sub ⟨rfl, rfl, trivial⟩, rfl⟩
      rintro _ _ rfl a ha61
      refine C_at (n := ⟨105, [], none⟩) (fun _ _ => rfl) ?_ ha61
      refine C_cond rfl (fun hc101 => ?_) (fun hc101 => ?_)
      · rw [if_pos hc101] at hm
        refine C_seq ?_
        refine C_region ?_
        refine V_y (Y_assign rfl) rfl rfl rfl ?_
        refine V_to (fun _ _ => rfl) ?_
        obtain rfl := Option.some.inj hm
        refine C_ret ?_
        try simp only [↓inBlock_ret, ↓then_ret]
        exact retQ rfl (Res.one Tryd.results27 rfl) ⟨rfl, hK.kp⟩
      · rw [if_neg (nt hc101)] at hm
        refine C_seq ?_
        refine C_region ?_
        have h102 := El_api_Value_2 h14
        refine V_y (Y_fieldAddr Tryd.underlying46 rfl Tryd.sizeOf9 (by decide) rfl) rfl rfl rfl ?_
        refine V_y (Y_load (El.str h102) Tryd.isAgg9 rfl) rfl rfl rfl ?_
        refine V_y (Y_lenStr rfl Tryd.underlying9 rfl) rfl rfl rfl ?_
        refine V_y (Y_gtr rfl rfl) rfl rfl rfl ?_
        refine V_y (Y_assign rfl) rfl rfl rfl ?_
        refine V_to (fun _ _ => rfl) ?_
        refine C_cond rfl (fun hc103 => ?_) (fun hc103 => ?_)
        · rw [if_pos hc103] at hm
          refine C_seq ?_
          refine C_region ?_
          refine V_y (Y_assign rfl) rfl rfl rfl ?_
          refine V_to (fun _ _ => rfl) ?_
          obtain rfl := Option.some.inj hm
          refine C_ret ?_
          try simp only [↓inBlock_ret, ↓then_ret]
          exact retQ rfl (Res.one Tryd.results27 rfl) ⟨rfl, hK.kp⟩
        · rw [if_neg (nt hc103)] at hm
          refine C_seq ?_
          refine C_region ?_
          have h104 := El_api_Value_2 h14
          refine V_y (Y_fieldAddr Tryd.underlying46 rfl Tryd.sizeOf9 (by decide) rfl) rfl rfl rfl ?_
          refine V_y (Y_load (El.str h104) Tryd.isAgg9 rfl) rfl rfl rfl ?_
          obtain ⟨x105, hx105, hm⟩ := Option.bind_eq_some_iff.1 hm
          refine V_call Tryd.call34 rfl rfl rfl rfl (portref2_lowByte_c w12 hA t.value.text hx105) ?_
          rintro _ w106 ⟨rfl, hk107⟩
          have ht108 := Kp.tr (Dw := False) hk107 hA hB
          replace hH := Hp.kp (Dw := False) hH hk107
          replace h14 := El.tr (Dw := False) h14 ht108
          replace h104 := El.tr (Dw := False) h104 ht108
          replace hK := Tr.trans (Dw := False) hK ht108
          replace hB := Nat.le_trans hB ht108.ex.size
          replace hA := ht108.new
          refine V_y (Y_assign rfl) rfl rfl rfl ?_
          refine V_to (fun _ _ => rfl) ?_
          refine C_cond rfl (fun hc109 => ?_) (fun hc109 => ?_)
          · rw [if_pos hc109] at hm
            refine C_seq ?_
            refine C_region ?_
            refine V_y (Y_assign rfl) rfl rfl rfl ?_
            refine V_to (fun _ _ => rfl) ?_
            obtain rfl := Option.some.inj hm
            refine C_ret ?_
            try simp only [↓inBlock_ret, ↓then_ret]
            exact retQ rfl (Res.one Tryd.results27 rfl) ⟨rfl, hK.kp⟩
          · rw [if_neg (nt hc109)] at hm
            refine C_skip_to (fun _ _ => rfl) ?_
            refine C_seq ?_
            refine C_region ?_
            refine V_y (Y_assign rfl) rfl rfl rfl ?_
            refine V_to (fun _ _ => rfl) ?_
            obtain rfl := Option.some.inj hm
            refine C_ret ?_
            try simp only [↓inBlock_ret, ↓then_ret]
            exact retQ rfl (Res.one Tryd.results27 rfl) ⟨rfl, hK.kp⟩

set_option maxRecDepth 4000 in
set_option maxHeartbeats 4000000 in
theorem portref2_levelFault_c (w : World) {A : Nat → Prop} (hA : ∀ b, w.heap.size ≤ b → A b) (l : (List level_Level)) (v_l : Value) (h_l : Sl A w v_l l) (i_ : Int) {r : Int} (hm : portref2_levelFault l i_ = some r) : Ret Tryd.prog 18 #[v_l, .int .i64 i_] w fun v w' => v = .int .i64 r ∧ Kp False w w' := by
  unfold portref2_levelFault at hm
  refine enter Tryd.func18 rfl Tryd.ntmps18 rfl ?_
  have hA0 := hA
  have hB := Nat.le_refl w.heap.size
  have hK : Tr False w.heap.size A w A w := Tr.refl (Dw := False) hA
  have hH : Hp w.heap.size A w [] := Hp.nil
  refine C_seq ?_
  refine C_region ?_
  refine V_y (Y_assign rfl) rfl rfl rfl ?_
  refine V_to (fun _ _ => rfl) ?_
  refine C_seq ?_
  refine C_region ?_
  refine V_y (Y_move rfl) rfl rfl rfl ?_
  refine V_y (Y_move rfl) rfl rfl rfl ?_
  obtain ⟨x3, hx3, hm⟩ := Option.bind_eq_some_iff.1 hm
  refine V_indexAddr h_l hx3 Tryd.underlying23 Tryd.sizeOf44 rfl rfl rfl ?_
  intro b4 o5 h6
  obtain ⟨v7, v9, h11, h8, h10⟩ := El_level_Level h6
  refine V_y (Y_loadA h11 Tryd.isAgg44 Tryd.sizeOf44 rfl) rfl rfl rfl ?_
  refine V_alloc Tryd.zeroValue44 rfl ?_
  intro b12 w13 h14
  have h19 : (v7).oneCell' = true := by obtain ⟨_, _, e, _⟩ := Sl.form h8; rw [e]; rfl
  have h22 : (v9).oneCell' = true := by obtain ⟨_, _, e, _⟩ := Sl.form h10; rw [e]; rfl
  refine V_storeNew h14 Tryd.sizeOf44 rfl rfl rfl rfl (by exact (List.forall_mem_cons.2 ⟨rfl, (List.forall_mem_cons.2 ⟨h19, (List.forall_mem_cons.2 ⟨h22, (fun _ h => nomatch h)⟩)⟩)⟩)) ?_
  intro w15 h16
  have hk24 := h16.kp (Dw := False)
  have h23 : El (α := level_Level) A w15 b12 0 x3 := h16.el hA ⟨[.string x3.name], _, rfl, rfl, ⟨[v7], _, rfl, ⟨_, rfl, h8⟩, ⟨_, rfl, h10⟩⟩⟩
  have ht25 := Kp.tr (Dw := False) hk24 hA hB
  replace hH := Hp.kp (Dw := False) hH hk24
  replace h_l := Sl.tr (Dw := False) h_l ht25
  replace h6 := El.tr (Dw := False) h6 ht25
  replace h8 := Sl.tr (Dw := False) h8 ht25
  replace h10 := Sl.tr (Dw := False) h10 ht25
  replace hK := Tr.trans (Dw := False) hK ht25
  replace hB := Nat.le_trans hB ht25.ex.size
  replace hA := ht25.new
  refine V_to (fun _ _ => rfl) ?_
  refine C_seq ?_
  refine C_seq ?_
  refine C_region ?_
  have h26 := El_level_Level_0 h23
  refine V_y (Y_fieldAddr Tryd.underlying44 rfl Tryd.sizeOf9 (by decide) rfl) rfl rfl rfl ?_
  refine V_y (Y_load (El.str h26) Tryd.isAgg9 rfl) rfl rfl rfl ?_
  obtain ⟨x27, hx27, hm⟩ := Option.bind_eq_some_iff.1 hm
  refine V_call Tryd.call24 rfl rfl rfl rfl (portref2_IsName_c w15 hA x3.name hx27) ?_
  rintro _ w28 ⟨rfl, hk29⟩
  have ht30 := Kp.tr (Dw := False) hk29 hA hB
  replace hH := Hp.kp (Dw := False) hH hk29
  replace h_l := Sl.tr (Dw := False) h_l ht30
  replace h23 := El.tr (Dw := False) h23 ht30
  replace h26 := El.tr (Dw := False) h26 ht30
  replace hK := Tr.trans (Dw := False) hK ht30
  replace hB := Nat.le_trans hB ht30.ex.size
  replace hA := ht30.new
  refine V_y (Y_not rfl) rfl rfl rfl ?_
  refine V_to (fun _ _ => rfl) ?_
  refine C_cond rfl (fun hc31 => ?_) (fun hc31 => ?_)
  · rw [if_pos hc31] at hm
    refine C_seq ?_
    refine C_region ?_
    refine V_y (Y_assign rfl) rfl rfl rfl ?_
    refine V_to (fun _ _ => rfl) ?_
    obtain rfl := Option.some.inj hm
    refine C_ret ?_
    try simp only [↓inBlock_ret, ↓then_ret]
    exact retQ rfl (Res.one Tryd.results18 rfl) ⟨rfl, hK.kp⟩
  · rw [if_neg (nt hc31)] at hm
    refine C_skip_to (fun _ _ => rfl) ?_
    refine C_seq ?_
    refine C_seq ?_
    refine C_region ?_
    refine V_y (Y_move rfl) rfl rfl rfl ?_
    refine V_y (Y_move rfl) rfl rfl rfl ?_
    obtain ⟨x32, hx32, hm⟩ := Option.bind_eq_some_iff.1 hm
    obtain ⟨v33, h34, h34y⟩ := sliceL_val hx32 h_l
    refine V_y (Y_sliceLH h34y Tryd.underlying23 Tryd.sizeOf44 rfl rfl) rfl rfl rfl ?_
    refine V_y (Y_makeFunc rfl rfl) rfl rfl rfl ?_
    obtain ⟨x36, hx36, hm⟩ := Option.bind_eq_some_iff.1 hm
    refine V_call Tryd.call25 rfl rfl rfl rfl (slices_ContainsFunc_Llevel_Level_level_Level_c (Dw := False) w28 hA x32 v33 h34 (fun y48 => portref2_levelFault_1 y48 x3) 26 #[] #[.pointer (some ⟨b12, 0, none⟩)] Tryd.call26 (fun w44 A45 ht46 h47 y37 v38 h39 v40 h41 r42 h43 => (portref2_levelFault_1_c (Dw := False) w44 h47 y37 v38 h39 v40 h41 x3 b12 (El.tr (Dw := False) h23 ht46) h43).mono (fun _ _ h => ⟨h.1, h.2⟩)) hx36) ?_
    rintro _ w49 ⟨rfl, hk50⟩
    have ht51 := Kp.tr (Dw := False) hk50 hA hB
    replace hH := Hp.kp (Dw := False) hH hk50
    replace h_l := Sl.tr (Dw := False) h_l ht51
    replace h23 := El.tr (Dw := False) h23 ht51
    replace h34 := Sl.tr (Dw := False) h34 ht51
    replace hK := Tr.trans (Dw := False) hK ht51
    replace hB := Nat.le_trans hB ht51.ex.size
    replace hA := ht51.new
    refine V_to (fun _ _ => rfl) ?_
    refine C_cond rfl (fun hc52 => ?_) (fun hc52 => ?_)
    · rw [if_pos hc52] at hm
      refine C_seq ?_
      refine C_region ?_
      refine V_y (Y_assign rfl) rfl rfl rfl ?_
      refine V_to (fun _ _ => rfl) ?_
      obtain rfl := Option.some.inj hm
      refine C_ret ?_
      try simp only [↓inBlock_ret, ↓then_ret]
      exact retQ rfl (Res.one Tryd.results18 rfl) ⟨rfl, hK.kp⟩
    · rw [if_neg (nt hc52)] at hm
      refine C_skip_to (fun _ _ => rfl) ?_
      refine C_seq ?_
      refine C_seq ?_
      refine C_region ?_
      have h53 := El_level_Level_1 h23
      refine V_y (Y_fieldAddr Tryd.underlying44 rfl Tryd.sizeOf41 (by decide) rfl) rfl rfl rfl ?_
      obtain ⟨v54, h55, h56⟩ := El.list h53
      refine V_y (Y_load h55 Tryd.isAgg41 rfl) rfl rfl rfl ?_
      refine V_y (Y_lenSl h56 rfl Tryd.underlying41 rfl) rfl rfl rfl ?_
      refine V_y (Y_gtr rfl rfl) rfl rfl rfl ?_
      refine V_to (fun _ _ => rfl) ?_
      refine C_cond rfl (fun hc57 => ?_) (fun hc57 => ?_)
      · rw [if_pos hc57] at hm
        refine C_seq ?_
        refine C_region ?_
        refine V_y (Y_assign rfl) rfl rfl rfl ?_
        refine V_to (fun _ _ => rfl) ?_
        obtain rfl := Option.some.inj hm
        refine C_ret ?_
        try simp only [↓inBlock_ret, ↓then_ret]
        exact retQ rfl (Res.one Tryd.results18 rfl) ⟨rfl, hK.kp⟩
      · rw [if_neg (nt hc57)] at hm
        refine C_skip_to (fun _ _ => rfl) ?_
        refine C_seq ?_
        refine C_seq ?_
        refine C_region ?_
        have h58 := El_level_Level_1 h23
        refine V_y (Y_fieldAddr Tryd.underlying44 rfl Tryd.sizeOf41 (by decide) rfl) rfl rfl rfl ?_
        obtain ⟨v59, h60, h61⟩ := El.list h58
        refine V_y (Y_load h60 Tryd.isAgg41 rfl) rfl rfl rfl ?_
        refine V_y (Y_lenSl h61 rfl Tryd.underlying41 rfl) rfl rfl rfl ?_
        refine V_y (Y_move rfl) rfl rfl rfl ?_
        refine V_to (fun _ _ => rfl) ?_
        have hn82 := Sl.le h61
        obtain ⟨o62, ho62, hm⟩ := Option.bind_eq_some_iff.1 hm
        refine C_cutG (ι := (Unit × (Nat → Prop))) (fun ⟨s63, A69⟩ => [(5, .pointer (some ⟨b12, 0, none⟩))]) (fun ⟨s63, A69⟩ => fun w' => o62 = .fin s63 ∧ Hp w.heap.size A69 w' ([]) ∧ Tr False w.heap.size A w49 A69 w') ?_ ?_
        · refine C_block ?_
          refine C_range ho62 (fun k65 _ a w' => ∃ i : (Nat → Prop), Has ⟨115, [], none⟩ a ([(5, .pointer (some ⟨b12, 0, none⟩)), (29, v59), (30, .int .i64 (x3.tests.length : Int)), (31, .int .i64 (k65 : Int))]) ∧ Hp w.heap.size i w' ([]) ∧ Tr False w.heap.size A w49 i w') (fun a ha => ⟨A, ha.sub ⟨rfl, rfl, rfl, rfl, trivial⟩, ⟨hH, Tr.refl (Dw := False) hA⟩⟩) ?_
          rintro K k65 _ a w72 ⟨A73, ha126, hH74, hr64⟩ hle78 K81 h80
          refine C_of ?_ ha126
          replace h23 := El.tr (Dw := False) h23 hr64
          replace h61 := Sl.tr (Dw := False) h61 hr64
          replace hK := Tr.trans (Dw := False) hK hr64
          replace hB := Nat.le_trans hB hr64.ex.size
          replace hA := hr64.new
          replace hH : Hp w.heap.size A73 w72 ([]) := hH74
          refine C_seq (C_region (V_y (Y_lss rfl rfl) rfl rfl rfl (V_to (fun _ _ => rfl) ?_)))
          refine C_seq ?_
          refine C_cond rfl (fun hc83 => ?_) (fun hc83 => ?_)
          · have hlt79 := lt_of_dec hc83
            obtain ⟨x75, h76, h77⟩ := K81 hlt79
            refine C_skip_to (fun _ _ => rfl) ?_
            refine C_seq ?_
            refine C_block ?_
            refine C_seq ?_
            refine C_region ?_
            refine V_y (Y_move rfl) rfl rfl rfl ?_
            obtain ⟨x84, hx84, h76⟩ := Option.bind_eq_some_iff.1 h76
            refine V_indexAddr h61 hx84 Tryd.underlying41 Tryd.sizeOf48 rfl rfl rfl ?_
            intro b85 o86 h87
            obtain ⟨h88, _⟩ := El_level_Test h87
            refine V_y (Y_loadA h88 Tryd.isAgg48 Tryd.sizeOf48 rfl) rfl rfl rfl ?_
            refine V_alloc Tryd.zeroValue48 rfl ?_
            intro b89 w90 h91
            refine V_y (Y_assign rfl) rfl rfl rfl ?_
            refine V_storeNew h91 Tryd.sizeOf48 rfl rfl rfl rfl (by exact (List.forall_mem_cons.2 ⟨rfl, (List.forall_mem_cons.2 ⟨rfl, (List.forall_mem_cons.2 ⟨rfl, (List.forall_mem_cons.2 ⟨rfl, (fun _ h => nomatch h)⟩)⟩)⟩)⟩)) ?_
            intro w92 h93
            have hk95 := h93.kp (Dw := False)
            have h94 : El (α := level_Test) A73 w92 b89 0 x84 := h93.el hA ⟨[.int .i64 x84.field], _, rfl, rfl, ⟨[.int .i64 x84.value.kind], _, rfl, rfl, ⟨[.int .i64 x84.value.int], _, rfl, rfl, rfl⟩⟩⟩
            have ht96 := Kp.tr (Dw := False) hk95 hA hB
            replace hH := Hp.kp (Dw := False) hH hk95
            replace h23 := El.tr (Dw := False) h23 ht96
            replace h61 := Sl.tr (Dw := False) h61 ht96
            replace h87 := El.tr (Dw := False) h87 ht96
            replace hK := Tr.trans (Dw := False) hK ht96
            replace hr64 := Tr.trans (Dw := False) hr64 ht96
            replace hB := Nat.le_trans hB ht96.ex.size
            replace hA := ht96.new
            refine V_to (fun _ _ => rfl) ?_
            refine C_seq ?_
            refine C_seq ?_
            refine C_region ?_
            have h97 := El_level_Test_0 h94
            refine V_y (Y_fieldAddr Tryd.underlying48 rfl Tryd.sizeOf3 (by decide) rfl) rfl rfl rfl ?_
            refine V_y (Y_load (El.int h97) Tryd.isAgg3 rfl) rfl rfl rfl ?_
            refine V_y (Y_lss rfl rfl) rfl rfl rfl ?_
            refine V_y (Y_move rfl) rfl rfl rfl ?_
            refine V_cut 4 (fun _ : Unit => [(5, .pointer (some ⟨b12, 0, none⟩)), (6, .int .i64 (k65 : Int)), (7, .pointer (some ⟨b89, 0, none⟩)), (29, v59), (30, .int .i64 (x3.tests.length : Int)), (31, .int .i64 (k65 : Int)), (43, .bool ((decide (x84.field < (-1))) || (decide ((20 : Int) ≤ x84.field))))]) (fun _ w' => w92 = w') ?_ ?_
            · simp only [List.take, List.drop]
              rcases Bool.eq_false_or_eq_true (decide (x84.field < (-1))) with hc98 | hc98
              · refine V_gn rfl rfl rfl hc98 rfl rfl rfl ?_
                refine V_gn rfl rfl rfl hc98 rfl rfl rfl ?_
                refine V_gn rfl rfl rfl hc98 rfl rfl rfl ?_
                refine V_y (Y_pick_te rfl hc98 rfl) rfl rfl rfl ?_
                exact V_end fun a ha => ⟨(), ha.sub ⟨rfl, rfl, rfl, rfl, rfl, rfl, (by rw [hc98]; rfl), trivial⟩, rfl⟩
              · refine V_ge rfl rfl rfl hc98 ?_
                have h100 := El_level_Test_0 h94
                refine V_y (Y_fieldAddr Tryd.underlying48 rfl Tryd.sizeOf3 (by decide) rfl) rfl rfl rfl ?_
                refine V_ge rfl rfl rfl hc98 ?_
                refine V_y (Y_load (El.int h100) Tryd.isAgg3 rfl) rfl rfl rfl ?_
                refine V_ge rfl rfl rfl hc98 ?_
                refine V_y (Y_geq rfl rfl) rfl rfl rfl ?_
                refine V_y (Y_pick_fe rfl hc98 rfl) rfl rfl rfl ?_
                exact V_end fun a ha => ⟨(), ha.sub ⟨rfl, rfl, rfl, rfl, rfl, rfl, (by rw [hc98]; rfl), trivial⟩, rfl⟩
            simp only [List.take, List.drop]
            rintro _ _ rfl
            refine V_to (fun _ _ => rfl) ?_
            refine C_cond rfl (fun hc101 => ?_) (fun hc101 => ?_)
            · rw [if_pos hc101] at h76
              refine C_seq ?_
              refine C_region ?_
              refine V_y (Y_assign rfl) rfl rfl rfl ?_
              refine V_to (fun _ _ => rfl) ?_
              obtain rfl := Option.some.inj h76
              obtain rfl := (h77 : Lp.rt _ = _)
              rw [Lp.andThen_rt] at hm
              obtain rfl := Option.some.inj hm
              refine C_ret ?_
              try simp only [↓inBlock_ret, ↓then_ret]
              exact retQ rfl (Res.one Tryd.results18 rfl) ⟨rfl, hK.kp⟩
            · rw [if_neg (nt hc101)] at h76
              refine C_skip_to (fun _ _ => rfl) ?_
              refine C_seq ?_
              refine C_seq ?_
              refine C_region_q (Dw := False) Tryd_mixed (by kernel_rfl) ?_
              refine VQ_y (fun w' hw' => Y_move rfl) rfl rfl rfl ?_
              refine VQ_y (fun w' hw' => Y_gtr rfl rfl) rfl rfl rfl ?_
              refine VQ_y (fun w' hw' => Y_move rfl) rfl rfl rfl ?_
              obtain ⟨s103, hs103, h76⟩ := Option.bind_eq_some_iff.1 h76
              refine VQ_cut 11 (fun _ : Unit => [(5, .pointer (some ⟨b12, 0, none⟩)), (7, .pointer (some ⟨b89, 0, none⟩)), (29, v59), (30, .int .i64 (x3.tests.length : Int)), (31, .int .i64 (k65 : Int)), (57, .bool s103)]) (fun _ => True) ?_ ?_
              · simp only [List.take, List.drop]
                rcases Bool.eq_false_or_eq_true (decide ((0 : Int) < (k65 : Int))) with hc102 | hc102
                · rw [if_pos hc102] at hs103
                  refine VQ_ge rfl rfl rfl hc102 ?_
                  have h104 := El_level_Test_0 h94
                  refine VQ_y (fun w' hw' => Y_fieldAddr Tryd.underlying48 rfl Tryd.sizeOf3 (by decide) rfl) rfl rfl rfl ?_
                  refine VQ_ge rfl rfl rfl hc102 ?_
                  refine VQ_y (fun w' hw' => Y_load (El.int (El.kp (Dw := False) h104 hw')) Tryd.isAgg3 rfl) rfl rfl rfl ?_
                  refine VQ_ge rfl rfl rfl hc102 ?_
                  have h105 := El_level_Level_1 h23
                  refine VQ_y (fun w' hw' => Y_fieldAddr Tryd.underlying44 rfl Tryd.sizeOf41 (by decide) rfl) rfl rfl rfl ?_
                  refine VQ_ge rfl rfl rfl hc102 ?_
                  obtain ⟨v106, h107, h108⟩ := El.list h105
                  refine VQ_y (fun w' hw' => Y_load ((World.cell?_of_block (hw'.block _ (World.block_lt_of_cell? _ _ h107))).trans h107) Tryd.isAgg41 rfl) rfl rfl rfl ?_
                  refine VQ_ge rfl rfl rfl hc102 ?_
                  refine VQ_y (fun w' hw' => Y_move rfl) rfl rfl rfl ?_
                  refine VQ_ge rfl rfl rfl hc102 ?_
                  refine VQ_y (fun w' hw' => Y_subI rfl rfl) rfl rfl rfl ?_
                  refine VQ_ge rfl rfl rfl hc102 ?_
                  obtain ⟨x109, hx109, hs103⟩ := Option.bind_eq_some_iff.1 hs103
                  refine VQ_indexAddr h108 hx109 Tryd.underlying41 Tryd.sizeOf48 rfl rfl rfl ?_
                  intro b110 o111 h112
                  refine VQ_ge rfl rfl rfl hc102 ?_
                  have h113 := El_level_Test_0 h112
                  refine VQ_y (fun w' hw' => Y_fieldAddr Tryd.underlying48 rfl Tryd.sizeOf3 (by decide) rfl) rfl rfl rfl ?_
                  refine VQ_ge rfl rfl rfl hc102 ?_
                  refine VQ_y (fun w' hw' => Y_load (El.int (El.kp (Dw := False) h113 hw')) Tryd.isAgg3 rfl) rfl rfl rfl ?_
                  refine VQ_ge rfl rfl rfl hc102 ?_
                  refine VQ_y (fun w' hw' => Y_leq rfl rfl) rfl rfl rfl ?_
                  refine VQ_y (fun _ _ => Y_pick_te rfl hc102 rfl) rfl rfl rfl ?_
                  obtain rfl := Option.some.inj hs103
                  exact VQ_end fun a ha => ⟨(), ha.sub ⟨rfl, rfl, rfl, rfl, rfl, rfl, trivial⟩, trivial⟩
                · rw [if_neg (nt hc102)] at hs103
                  refine VQ_gn rfl rfl rfl hc102 rfl rfl rfl ?_
                  refine VQ_gn rfl rfl rfl hc102 rfl rfl rfl ?_
                  refine VQ_gn rfl rfl rfl hc102 rfl rfl rfl ?_
                  refine VQ_gn rfl rfl rfl hc102 rfl rfl rfl ?_
                  refine VQ_gn rfl rfl rfl hc102 rfl rfl rfl ?_
                  refine VQ_gn rfl rfl rfl hc102 rfl rfl rfl ?_
                  refine VQ_gn rfl rfl rfl hc102 rfl rfl rfl ?_
                  refine VQ_gn rfl rfl rfl hc102 rfl rfl rfl ?_
                  refine VQ_gn rfl rfl rfl hc102 rfl rfl rfl ?_
                  refine VQ_gn rfl rfl rfl hc102 rfl rfl rfl ?_
                  refine VQ_y (fun _ _ => Y_pick_fe rfl hc102 rfl) rfl rfl rfl ?_
                  obtain rfl := Option.some.inj hs103
                  exact VQ_end fun a ha => ⟨(), ha.sub ⟨rfl, rfl, rfl, rfl, rfl, rfl, trivial⟩, trivial⟩
              simp only [List.take, List.drop]
              rintro _ _
              refine VQ_to (fun _ _ => rfl) (fun w114 hk115 => ?_)
              have ht116 := Kp.tr (Dw := False) hk115 hA hB
              replace hH := Hp.kp (Dw := False) hH hk115
              replace h23 := El.tr (Dw := False) h23 ht116
              replace h61 := Sl.tr (Dw := False) h61 ht116
              replace h94 := El.tr (Dw := False) h94 ht116
              replace hK := Tr.trans (Dw := False) hK ht116
              replace hr64 := Tr.trans (Dw := False) hr64 ht116
              replace hB := Nat.le_trans hB ht116.ex.size
              replace hA := ht116.new
              refine C_cond rfl (fun hc117 => ?_) (fun hc117 => ?_)
              · rw [if_pos hc117] at h76
                refine C_seq ?_
                refine C_region ?_
                refine V_y (Y_assign rfl) rfl rfl rfl ?_
                refine V_to (fun _ _ => rfl) ?_
                obtain rfl := Option.some.inj h76
                obtain rfl := (h77 : Lp.rt _ = _)
                rw [Lp.andThen_rt] at hm
                obtain rfl := Option.some.inj hm
                refine C_ret ?_
                try simp only [↓inBlock_ret, ↓then_ret]
                exact retQ rfl (Res.one Tryd.results18 rfl) ⟨rfl, hK.kp⟩
              · rw [if_neg (nt hc117)] at h76
                refine C_skip_to (fun _ _ => rfl) ?_
                refine C_seq ?_
                refine C_region ?_
                obtain ⟨h118, _⟩ := El_level_Test h94
                refine V_y (Y_loadA h118 Tryd.isAgg48 Tryd.sizeOf48 rfl) rfl rfl rfl ?_
                obtain ⟨x119, hx119, h76⟩ := Option.bind_eq_some_iff.1 h76
                refine V_call Tryd.call27 rfl rfl rfl rfl (portref2_testFault_c w114 hA x84 hx119) ?_
                rintro _ w120 ⟨rfl, hk121⟩
                have ht122 := Kp.tr (Dw := False) hk121 hA hB
                replace hH := Hp.kp (Dw := False) hH hk121
                replace h23 := El.tr (Dw := False) h23 ht122
                replace h61 := Sl.tr (Dw := False) h61 ht122
                replace h94 := El.tr (Dw := False) h94 ht122
                replace hK := Tr.trans (Dw := False) hK ht122
                replace hr64 := Tr.trans (Dw := False) hr64 ht122
                replace hB := Nat.le_trans hB ht122.ex.size
                replace hA := ht122.new
                refine V_y (Y_assign rfl) rfl rfl rfl ?_
                refine V_to (fun _ _ => rfl) ?_
                refine C_seq ?_
                refine C_region ?_
                refine V_y (Y_move rfl) rfl rfl rfl ?_
                refine V_y (Y_neq rfl rfl) rfl rfl rfl ?_
                refine V_to (fun _ _ => rfl) ?_
                refine C_cond rfl (fun hc123 => ?_) (fun hc123 => ?_)
                · rw [if_pos hc123] at h76
                  refine C_seq ?_
                  refine C_region ?_
                  refine V_y (Y_move rfl) rfl rfl rfl ?_
                  refine V_y (Y_assign rfl) rfl rfl rfl ?_
                  refine V_to (fun _ _ => rfl) ?_
                  obtain rfl := Option.some.inj h76
                  obtain rfl := (h77 : Lp.rt _ = _)
                  rw [Lp.andThen_rt] at hm
                  obtain rfl := Option.some.inj hm
                  refine C_ret ?_
                  try simp only [↓inBlock_ret, ↓then_ret]
                  exact retQ rfl (Res.one Tryd.results18 rfl) ⟨rfl, hK.kp⟩
                · rw [if_neg (nt hc123)] at h76
                  refine C_skip_to (fun _ _ => rfl) ?_
                  refine C_region ?_
                  refine V_y (Y_addI rfl rfl) rfl rfl rfl ?_
                  refine V_y (Y_move rfl) rfl rfl rfl ?_
                  obtain rfl := Option.some.inj h76
                  refine V_end (fun a ha124 => ?_)
                  exact ⟨(), hlt79, h77, ⟨A73, ha124.sub ⟨rfl, rfl, rfl, (congrArg (fun z => some (Value.int .i64 z)) (w64_succ hlt79 hn82)), trivial⟩, ⟨hH, hr64⟩⟩⟩
          · refine C_exit (fun a ha125 => ?_)
            exact ⟨((), A73), ha125.sub ⟨rfl, trivial⟩, ⟨(h80 (eq_of_dec hle78 hc83)).symm, hH, hr64⟩⟩
        rintro ⟨s63, A69⟩ w66 ⟨rfl, hH70, hk67⟩ a ha68
        rw [Lp.andThen_fin] at hm
        replace h23 := El.tr (Dw := False) h23 hk67
        replace hK := Tr.trans (Dw := False) hK hk67
        replace hB := Nat.le_trans hB hk67.ex.size
        replace hA := hk67.new
        replace hH : Hp w.heap.size A69 w66 ([]) := hH70
        refine C_at (n := ⟨115, [], none⟩) (fun _ _ => rfl) ?_ ha68
        refine C_seq ?_
        refine C_seq ?_
        refine C_region ?_
        have h127 := El_level_Level_2 h23
        refine V_y (Y_fieldAddr Tryd.underlying44 rfl Tryd.sizeOf42 (by decide) rfl) rfl rfl rfl ?_
        obtain ⟨v128, h129, h130⟩ := El.list h127
        refine V_y (Y_load h129 Tryd.isAgg42 rfl) rfl rfl rfl ?_
        refine V_y (Y_lenSl h130 rfl Tryd.underlying42 rfl) rfl rfl rfl ?_
        refine V_y (Y_move rfl) rfl rfl rfl ?_
        refine V_to (fun _ _ => rfl) ?_
        have hn151 := Sl.le h130
        obtain ⟨o131, ho131, hm⟩ := Option.bind_eq_some_iff.1 hm
        refine C_cutG (ι := (Unit × (Nat → Prop))) (fun ⟨s132, A138⟩ => []) (fun ⟨s132, A138⟩ => fun w' => o131 = .fin s132 ∧ Hp w.heap.size A138 w' ([]) ∧ Tr False w.heap.size A69 w66 A138 w') ?_ ?_
        · refine C_block ?_
          refine C_range ho131 (fun k134 _ a w' => ∃ i : (Nat → Prop), Has ⟨115, [], none⟩ a ([(5, .pointer (some ⟨b12, 0, none⟩)), (65, v128), (66, .int .i64 (x3.targets.length : Int)), (67, .int .i64 (k134 : Int))]) ∧ Hp w.heap.size i w' ([]) ∧ Tr False w.heap.size A69 w66 i w') (fun a ha => ⟨A69, ha.sub ⟨rfl, rfl, rfl, rfl, trivial⟩, ⟨hH, Tr.refl (Dw := False) hA⟩⟩) ?_
          rintro K k134 _ a w141 ⟨A142, ha201, hH143, hr133⟩ hle147 K150 h149
          refine C_of ?_ ha201
          replace h23 := El.tr (Dw := False) h23 hr133
          replace h130 := Sl.tr (Dw := False) h130 hr133
          replace hK := Tr.trans (Dw := False) hK hr133
          replace hB := Nat.le_trans hB hr133.ex.size
          replace hA := hr133.new
          replace hH : Hp w.heap.size A142 w141 ([]) := hH143
          refine C_seq (C_region (V_y (Y_lss rfl rfl) rfl rfl rfl (V_to (fun _ _ => rfl) ?_)))
          refine C_seq ?_
          refine C_cond rfl (fun hc152 => ?_) (fun hc152 => ?_)
          · have hlt148 := lt_of_dec hc152
            obtain ⟨x144, h145, h146⟩ := K150 hlt148
            refine C_skip_to (fun _ _ => rfl) ?_
            refine C_seq ?_
            refine C_block ?_
            refine C_seq ?_
            refine C_region ?_
            refine V_y (Y_move rfl) rfl rfl rfl ?_
            obtain ⟨x153, hx153, h145⟩ := Option.bind_eq_some_iff.1 h145
            refine V_indexAddr h130 hx153 Tryd.underlying42 Tryd.sizeOf52 rfl rfl rfl ?_
            intro b154 o155 h156
            obtain ⟨h157, _⟩ := El_level_Target h156
            refine V_y (Y_loadA h157 Tryd.isAgg52 Tryd.sizeOf52 rfl) rfl rfl rfl ?_
            refine V_alloc Tryd.zeroValue52 rfl ?_
            intro b158 w159 h160
            refine V_y (Y_assign rfl) rfl rfl rfl ?_
            refine V_storeNew h160 Tryd.sizeOf52 rfl rfl rfl rfl (by exact (List.forall_mem_cons.2 ⟨rfl, (List.forall_mem_cons.2 ⟨rfl, (List.forall_mem_cons.2 ⟨rfl, (fun _ h => nomatch h)⟩)⟩)⟩)) ?_
            intro w161 h162
            have hk164 := h162.kp (Dw := False)
            have h163 : El (α := level_Target) A142 w161 b158 0 x153 := h162.el hA ⟨[.int .i64 x153.kind], _, rfl, rfl, ⟨[.int .i64 x153.minutes], _, rfl, rfl, rfl⟩⟩
            have ht165 := Kp.tr (Dw := False) hk164 hA hB
            replace hH := Hp.kp (Dw := False) hH hk164
            replace h23 := El.tr (Dw := False) h23 ht165
            replace h130 := Sl.tr (Dw := False) h130 ht165
            replace h156 := El.tr (Dw := False) h156 ht165
            replace hK := Tr.trans (Dw := False) hK ht165
            replace hr133 := Tr.trans (Dw := False) hr133 ht165
            replace hB := Nat.le_trans hB ht165.ex.size
            replace hA := ht165.new
            refine V_to (fun _ _ => rfl) ?_
            refine C_seq ?_
            refine C_seq ?_
            refine C_region ?_
            have h166 := El_level_Target_0 h163
            refine V_y (Y_fieldAddr Tryd.underlying52 rfl Tryd.sizeOf3 (by decide) rfl) rfl rfl rfl ?_
            refine V_y (Y_load (El.int h166) Tryd.isAgg3 rfl) rfl rfl rfl ?_
            refine V_y (Y_lss rfl rfl) rfl rfl rfl ?_
            refine V_y (Y_move rfl) rfl rfl rfl ?_
            refine V_cut 4 (fun _ : Unit => [(5, .pointer (some ⟨b12, 0, none⟩)), (9, .int .i64 (k134 : Int)), (10, .pointer (some ⟨b158, 0, none⟩)), (65, v128), (66, .int .i64 (x3.targets.length : Int)), (67, .int .i64 (k134 : Int)), (79, .bool ((decide (x153.kind < 1)) || (decide ((3 : Int) < x153.kind))))]) (fun _ w' => w161 = w') ?_ ?_
            · simp only [List.take, List.drop]
              rcases Bool.eq_false_or_eq_true (decide (x153.kind < 1)) with hc167 | hc167
              · refine V_gn rfl rfl rfl hc167 rfl rfl rfl ?_
                refine V_gn rfl rfl rfl hc167 rfl rfl rfl ?_
                refine V_gn rfl rfl rfl hc167 rfl rfl rfl ?_
                refine V_y (Y_pick_te rfl hc167 rfl) rfl rfl rfl ?_
                exact V_end fun a ha => ⟨(), ha.sub ⟨rfl, rfl, rfl, rfl, rfl, rfl, (by rw [hc167]; rfl), trivial⟩, rfl⟩
              · refine V_ge rfl rfl rfl hc167 ?_
                have h169 := El_level_Target_0 h163
                refine V_y (Y_fieldAddr Tryd.underlying52 rfl Tryd.sizeOf3 (by decide) rfl) rfl rfl rfl ?_
                refine V_ge rfl rfl rfl hc167 ?_
                refine V_y (Y_load (El.int h169) Tryd.isAgg3 rfl) rfl rfl rfl ?_
                refine V_ge rfl rfl rfl hc167 ?_
                refine V_y (Y_gtr rfl rfl) rfl rfl rfl ?_
                refine V_y (Y_pick_fe rfl hc167 rfl) rfl rfl rfl ?_
                exact V_end fun a ha => ⟨(), ha.sub ⟨rfl, rfl, rfl, rfl, rfl, rfl, (by rw [hc167]; rfl), trivial⟩, rfl⟩
            simp only [List.take, List.drop]
            rintro _ _ rfl
            refine V_y (Y_move rfl) rfl rfl rfl ?_
            refine V_cut 4 (fun _ : Unit => [(5, .pointer (some ⟨b12, 0, none⟩)), (9, .int .i64 (k134 : Int)), (10, .pointer (some ⟨b158, 0, none⟩)), (65, v128), (66, .int .i64 (x3.targets.length : Int)), (67, .int .i64 (k134 : Int)), (84, .bool (((decide (x153.kind < 1)) || (decide ((3 : Int) < x153.kind))) || (decide (x153.minutes < 0))))]) (fun _ w' => w161 = w') ?_ ?_
            · simp only [List.take, List.drop]
              rcases Bool.eq_false_or_eq_true (((decide (x153.kind < 1)) || (decide ((3 : Int) < x153.kind)))) with hc170 | hc170
              · refine V_gn rfl rfl rfl hc170 rfl rfl rfl ?_
                refine V_gn rfl rfl rfl hc170 rfl rfl rfl ?_
                refine V_gn rfl rfl rfl hc170 rfl rfl rfl ?_
                refine V_y (Y_pick_te rfl hc170 rfl) rfl rfl rfl ?_
                exact V_end fun a ha => ⟨(), ha.sub ⟨rfl, rfl, rfl, rfl, rfl, rfl, (by rw [hc170]; rfl), trivial⟩, rfl⟩
              · refine V_ge rfl rfl rfl hc170 ?_
                have h172 := El_level_Target_1 h163
                refine V_y (Y_fieldAddr Tryd.underlying52 rfl Tryd.sizeOf3 (by decide) rfl) rfl rfl rfl ?_
                refine V_ge rfl rfl rfl hc170 ?_
                refine V_y (Y_load (El.int h172) Tryd.isAgg3 rfl) rfl rfl rfl ?_
                refine V_ge rfl rfl rfl hc170 ?_
                refine V_y (Y_lss rfl rfl) rfl rfl rfl ?_
                refine V_y (Y_pick_fe rfl hc170 rfl) rfl rfl rfl ?_
                exact V_end fun a ha => ⟨(), ha.sub ⟨rfl, rfl, rfl, rfl, rfl, rfl, (by rw [hc170]; rfl), trivial⟩, rfl⟩
            simp only [List.take, List.drop]
            rintro _ _ rfl
            refine V_y (Y_move rfl) rfl rfl rfl ?_
            refine V_cut 4 (fun _ : Unit => [(5, .pointer (some ⟨b12, 0, none⟩)), (9, .int .i64 (k134 : Int)), (10, .pointer (some ⟨b158, 0, none⟩)), (65, v128), (66, .int .i64 (x3.targets.length : Int)), (67, .int .i64 (k134 : Int)), (89, .bool ((((decide (x153.kind < 1)) || (decide ((3 : Int) < x153.kind))) || (decide (x153.minutes < 0))) || (decide ((100000 : Int) < x153.minutes))))]) (fun _ w' => w161 = w') ?_ ?_
            · simp only [List.take, List.drop]
              rcases Bool.eq_false_or_eq_true ((((decide (x153.kind < 1)) || (decide ((3 : Int) < x153.kind))) || (decide (x153.minutes < 0)))) with hc173 | hc173
              · refine V_gn rfl rfl rfl hc173 rfl rfl rfl ?_
                refine V_gn rfl rfl rfl hc173 rfl rfl rfl ?_
                refine V_gn rfl rfl rfl hc173 rfl rfl rfl ?_
                refine V_y (Y_pick_te rfl hc173 rfl) rfl rfl rfl ?_
                exact V_end fun a ha => ⟨(), ha.sub ⟨rfl, rfl, rfl, rfl, rfl, rfl, (by rw [hc173]; rfl), trivial⟩, rfl⟩
              · refine V_ge rfl rfl rfl hc173 ?_
                have h175 := El_level_Target_1 h163
                refine V_y (Y_fieldAddr Tryd.underlying52 rfl Tryd.sizeOf3 (by decide) rfl) rfl rfl rfl ?_
                refine V_ge rfl rfl rfl hc173 ?_
                refine V_y (Y_load (El.int h175) Tryd.isAgg3 rfl) rfl rfl rfl ?_
                refine V_ge rfl rfl rfl hc173 ?_
                refine V_y (Y_gtr rfl rfl) rfl rfl rfl ?_
                refine V_y (Y_pick_fe rfl hc173 rfl) rfl rfl rfl ?_
                exact V_end fun a ha => ⟨(), ha.sub ⟨rfl, rfl, rfl, rfl, rfl, rfl, (by rw [hc173]; rfl), trivial⟩, rfl⟩
            simp only [List.take, List.drop]
            rintro _ _ rfl
            refine V_y (Y_move rfl) rfl rfl rfl ?_
            refine V_cut 4 (fun _ : Unit => [(5, .pointer (some ⟨b12, 0, none⟩)), (9, .int .i64 (k134 : Int)), (10, .pointer (some ⟨b158, 0, none⟩)), (65, v128), (66, .int .i64 (x3.targets.length : Int)), (67, .int .i64 (k134 : Int)), (94, .bool (((((decide (x153.kind < 1)) || (decide ((3 : Int) < x153.kind))) || (decide (x153.minutes < 0))) || (decide ((100000 : Int) < x153.minutes))) || (decide (x153.calendar < 0))))]) (fun _ w' => w161 = w') ?_ ?_
            · simp only [List.take, List.drop]
              rcases Bool.eq_false_or_eq_true (((((decide (x153.kind < 1)) || (decide ((3 : Int) < x153.kind))) || (decide (x153.minutes < 0))) || (decide ((100000 : Int) < x153.minutes)))) with hc176 | hc176
              · refine V_gn rfl rfl rfl hc176 rfl rfl rfl ?_
                refine V_gn rfl rfl rfl hc176 rfl rfl rfl ?_
                refine V_gn rfl rfl rfl hc176 rfl rfl rfl ?_
                refine V_y (Y_pick_te rfl hc176 rfl) rfl rfl rfl ?_
                exact V_end fun a ha => ⟨(), ha.sub ⟨rfl, rfl, rfl, rfl, rfl, rfl, (by rw [hc176]; rfl), trivial⟩, rfl⟩
              · refine V_ge rfl rfl rfl hc176 ?_
                have h178 := El_level_Target_2 h163
                refine V_y (Y_fieldAddr Tryd.underlying52 rfl Tryd.sizeOf3 (by decide) rfl) rfl rfl rfl ?_
                refine V_ge rfl rfl rfl hc176 ?_
                refine V_y (Y_load (El.int h178) Tryd.isAgg3 rfl) rfl rfl rfl ?_
                refine V_ge rfl rfl rfl hc176 ?_
                refine V_y (Y_lss rfl rfl) rfl rfl rfl ?_
                refine V_y (Y_pick_fe rfl hc176 rfl) rfl rfl rfl ?_
                exact V_end fun a ha => ⟨(), ha.sub ⟨rfl, rfl, rfl, rfl, rfl, rfl, (by rw [hc176]; rfl), trivial⟩, rfl⟩
            simp only [List.take, List.drop]
            rintro _ _ rfl
            refine V_y (Y_move rfl) rfl rfl rfl ?_
            refine V_cut 4 (fun _ : Unit => [(5, .pointer (some ⟨b12, 0, none⟩)), (9, .int .i64 (k134 : Int)), (10, .pointer (some ⟨b158, 0, none⟩)), (65, v128), (66, .int .i64 (x3.targets.length : Int)), (67, .int .i64 (k134 : Int)), (99, .bool ((((((decide (x153.kind < 1)) || (decide ((3 : Int) < x153.kind))) || (decide (x153.minutes < 0))) || (decide ((100000 : Int) < x153.minutes))) || (decide (x153.calendar < 0))) || (decide ((20 : Int) ≤ x153.calendar))))]) (fun _ w' => w161 = w') ?_ ?_
            · simp only [List.take, List.drop]
              rcases Bool.eq_false_or_eq_true ((((((decide (x153.kind < 1)) || (decide ((3 : Int) < x153.kind))) || (decide (x153.minutes < 0))) || (decide ((100000 : Int) < x153.minutes))) || (decide (x153.calendar < 0)))) with hc179 | hc179
              · refine V_gn rfl rfl rfl hc179 rfl rfl rfl ?_
                refine V_gn rfl rfl rfl hc179 rfl rfl rfl ?_
                refine V_gn rfl rfl rfl hc179 rfl rfl rfl ?_
                refine V_y (Y_pick_te rfl hc179 rfl) rfl rfl rfl ?_
                exact V_end fun a ha => ⟨(), ha.sub ⟨rfl, rfl, rfl, rfl, rfl, rfl, (by rw [hc179]; rfl), trivial⟩, rfl⟩
              · refine V_ge rfl rfl rfl hc179 ?_
                have h181 := El_level_Target_2 h163
                refine V_y (Y_fieldAddr Tryd.underlying52 rfl Tryd.sizeOf3 (by decide) rfl) rfl rfl rfl ?_
                refine V_ge rfl rfl rfl hc179 ?_
                refine V_y (Y_load (El.int h181) Tryd.isAgg3 rfl) rfl rfl rfl ?_
                refine V_ge rfl rfl rfl hc179 ?_
                refine V_y (Y_geq rfl rfl) rfl rfl rfl ?_
                refine V_y (Y_pick_fe rfl hc179 rfl) rfl rfl rfl ?_
                exact V_end fun a ha => ⟨(), ha.sub ⟨rfl, rfl, rfl, rfl, rfl, rfl, (by rw [hc179]; rfl), trivial⟩, rfl⟩
            simp only [List.take, List.drop]
            rintro _ _ rfl
            refine V_to (fun _ _ => rfl) ?_
            refine C_cond rfl (fun hc182 => ?_) (fun hc182 => ?_)
            · rw [if_pos hc182] at h145
              refine C_seq ?_
              refine C_region ?_
              refine V_y (Y_assign rfl) rfl rfl rfl ?_
              refine V_to (fun _ _ => rfl) ?_
              obtain rfl := Option.some.inj h145
              obtain rfl := (h146 : Lp.rt _ = _)
              rw [Lp.andThen_rt] at hm
              obtain rfl := Option.some.inj hm
              refine C_ret ?_
              try simp only [↓inBlock_ret, ↓then_ret]
              exact retQ rfl (Res.one Tryd.results18 rfl) ⟨rfl, hK.kp⟩
            · rw [if_neg (nt hc182)] at h145
              refine C_skip_to (fun _ _ => rfl) ?_
              refine C_seq ?_
              refine C_region_q (Dw := False) Tryd_mixed (by kernel_rfl) ?_
              refine VQ_y (fun w' hw' => Y_move rfl) rfl rfl rfl ?_
              refine VQ_y (fun w' hw' => Y_gtr rfl rfl) rfl rfl rfl ?_
              refine VQ_y (fun w' hw' => Y_move rfl) rfl rfl rfl ?_
              obtain ⟨s184, hs184, h145⟩ := Option.bind_eq_some_iff.1 h145
              refine VQ_cut 11 (fun _ : Unit => [(5, .pointer (some ⟨b12, 0, none⟩)), (65, v128), (66, .int .i64 (x3.targets.length : Int)), (67, .int .i64 (k134 : Int)), (113, .bool s184)]) (fun _ => True) ?_ ?_
              · simp only [List.take, List.drop]
                rcases Bool.eq_false_or_eq_true (decide ((0 : Int) < (k134 : Int))) with hc183 | hc183
                · rw [if_pos hc183] at hs184
                  refine VQ_ge rfl rfl rfl hc183 ?_
                  have h185 := El_level_Target_0 h163
                  refine VQ_y (fun w' hw' => Y_fieldAddr Tryd.underlying52 rfl Tryd.sizeOf3 (by decide) rfl) rfl rfl rfl ?_
                  refine VQ_ge rfl rfl rfl hc183 ?_
                  refine VQ_y (fun w' hw' => Y_load (El.int (El.kp (Dw := False) h185 hw')) Tryd.isAgg3 rfl) rfl rfl rfl ?_
                  refine VQ_ge rfl rfl rfl hc183 ?_
                  have h186 := El_level_Level_2 h23
                  refine VQ_y (fun w' hw' => Y_fieldAddr Tryd.underlying44 rfl Tryd.sizeOf42 (by decide) rfl) rfl rfl rfl ?_
                  refine VQ_ge rfl rfl rfl hc183 ?_
                  obtain ⟨v187, h188, h189⟩ := El.list h186
                  refine VQ_y (fun w' hw' => Y_load ((World.cell?_of_block (hw'.block _ (World.block_lt_of_cell? _ _ h188))).trans h188) Tryd.isAgg42 rfl) rfl rfl rfl ?_
                  refine VQ_ge rfl rfl rfl hc183 ?_
                  refine VQ_y (fun w' hw' => Y_move rfl) rfl rfl rfl ?_
                  refine VQ_ge rfl rfl rfl hc183 ?_
                  refine VQ_y (fun w' hw' => Y_subI rfl rfl) rfl rfl rfl ?_
                  refine VQ_ge rfl rfl rfl hc183 ?_
                  obtain ⟨x190, hx190, hs184⟩ := Option.bind_eq_some_iff.1 hs184
                  refine VQ_indexAddr h189 hx190 Tryd.underlying42 Tryd.sizeOf52 rfl rfl rfl ?_
                  intro b191 o192 h193
                  refine VQ_ge rfl rfl rfl hc183 ?_
                  have h194 := El_level_Target_0 h193
                  refine VQ_y (fun w' hw' => Y_fieldAddr Tryd.underlying52 rfl Tryd.sizeOf3 (by decide) rfl) rfl rfl rfl ?_
                  refine VQ_ge rfl rfl rfl hc183 ?_
                  refine VQ_y (fun w' hw' => Y_load (El.int (El.kp (Dw := False) h194 hw')) Tryd.isAgg3 rfl) rfl rfl rfl ?_
                  refine VQ_ge rfl rfl rfl hc183 ?_
                  refine VQ_y (fun w' hw' => Y_leq rfl rfl) rfl rfl rfl ?_
                  refine VQ_y (fun _ _ => Y_pick_te rfl hc183 rfl) rfl rfl rfl ?_
                  obtain rfl := Option.some.inj hs184
                  exact VQ_end fun a ha => ⟨(), ha.sub ⟨rfl, rfl, rfl, rfl, rfl, trivial⟩, trivial⟩
                · rw [if_neg (nt hc183)] at hs184
                  refine VQ_gn rfl rfl rfl hc183 rfl rfl rfl ?_
                  refine VQ_gn rfl rfl rfl hc183 rfl rfl rfl ?_
                  refine VQ_gn rfl rfl rfl hc183 rfl rfl rfl ?_
                  refine VQ_gn rfl rfl rfl hc183 rfl rfl rfl ?_
                  refine VQ_gn rfl rfl rfl hc183 rfl rfl rfl ?_
                  refine VQ_gn rfl rfl rfl hc183 rfl rfl rfl ?_
                  refine VQ_gn rfl rfl rfl hc183 rfl rfl rfl ?_
                  refine VQ_gn rfl rfl rfl hc183 rfl rfl rfl ?_
                  refine VQ_gn rfl rfl rfl hc183 rfl rfl rfl ?_
                  refine VQ_gn rfl rfl rfl hc183 rfl rfl rfl ?_
                  refine VQ_y (fun _ _ => Y_pick_fe rfl hc183 rfl) rfl rfl rfl ?_
                  obtain rfl := Option.some.inj hs184
                  exact VQ_end fun a ha => ⟨(), ha.sub ⟨rfl, rfl, rfl, rfl, rfl, trivial⟩, trivial⟩
              simp only [List.take, List.drop]
              rintro _ _
              refine VQ_to (fun _ _ => rfl) (fun w195 hk196 => ?_)
              have ht197 := Kp.tr (Dw := False) hk196 hA hB
              replace hH := Hp.kp (Dw := False) hH hk196
              replace h23 := El.tr (Dw := False) h23 ht197
              replace h130 := Sl.tr (Dw := False) h130 ht197
              replace hK := Tr.trans (Dw := False) hK ht197
              replace hr133 := Tr.trans (Dw := False) hr133 ht197
              replace hB := Nat.le_trans hB ht197.ex.size
              replace hA := ht197.new
              refine C_cond rfl (fun hc198 => ?_) (fun hc198 => ?_)
              · rw [if_pos hc198] at h145
                refine C_seq ?_
                refine C_region ?_
                refine V_y (Y_assign rfl) rfl rfl rfl ?_
                refine V_to (fun _ _ => rfl) ?_
                obtain rfl := Option.some.inj h145
                obtain rfl := (h146 : Lp.rt _ = _)
                rw [Lp.andThen_rt] at hm
                obtain rfl := Option.some.inj hm
                refine C_ret ?_
                try simp only [↓inBlock_ret, ↓then_ret]
                exact retQ rfl (Res.one Tryd.results18 rfl) ⟨rfl, hK.kp⟩
              · rw [if_neg (nt hc198)] at h145
                refine C_skip_to (fun _ _ => rfl) ?_
                refine C_region ?_
                refine V_y (Y_addI rfl rfl) rfl rfl rfl ?_
                refine V_y (Y_move rfl) rfl rfl rfl ?_
                obtain rfl := Option.some.inj h145
                refine V_end (fun a ha199 => ?_)
                exact ⟨(), hlt148, h146, ⟨A142, ha199.sub ⟨rfl, rfl, rfl, (congrArg (fun z => some (Value.int .i64 z)) (w64_succ hlt148 hn151)), trivial⟩, ⟨hH, hr133⟩⟩⟩
          · refine C_exit (fun a ha200 => ?_)
            exact ⟨((), A142), ha200.sub trivial, ⟨(h149 (eq_of_dec hle147 hc152)).symm, hH, hr133⟩⟩
        rintro ⟨s132, A138⟩ w135 ⟨rfl, hH139, hk136⟩ a ha137
        rw [Lp.andThen_fin] at hm
        replace hK := Tr.trans (Dw := False) hK hk136
        replace hB := Nat.le_trans hB hk136.ex.size
        replace hA := hk136.new
        replace hH : Hp w.heap.size A138 w135 ([]) := hH139
        refine C_at (n := ⟨115, [], none⟩) (fun _ _ => rfl) ?_ ha137
        refine C_seq ?_
        refine C_region ?_
        refine V_y (Y_assign rfl) rfl rfl rfl ?_
        refine V_to (fun _ _ => rfl) ?_
        obtain rfl := Option.some.inj hm
        refine C_ret ?_
        try simp only [↓inBlock_ret, ↓then_ret]
        exact retQ rfl (Res.one Tryd.results18 rfl) ⟨rfl, hK.kp⟩

end Go.Proofs.YtpkkbbcflmbjeaaDoor.W
