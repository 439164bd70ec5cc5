/-
  Written by program (gen.py) from the IR of the dump: each function computes its model.
-/
import Derived.Test.YtcbebdcofipcpaaGreatDoorLevelReadsW3
namespace Go.Proofs.YtcbebdcofipcpaaGreatDoor.W
open Go Go.RowKit Go.Pu Go.Gw Go.Proofs Go.Proofs.YtcbebdcofipcpaaGreatDoor.M
set_option linter.unusedVariables false
set_option linter.unusedSimpArgs false
variable {Dw : Prop}

set_option maxRecDepth 4000 in
set_option maxHeartbeats 4000000 in
theorem portref2_Alike_c (w : World) {A : Nat → Prop} (hA : ∀ b, w.heap.size ≤ b → A b) (a_ : level_Policy) (v_a_0 : Value) (h_a_0 : Sl A w v_a_0 a_.pauses) (v_a_1 : Value) (h_a_1 : Sl A w v_a_1 a_.levels) (b : level_Policy) (v_b0 : Value) (h_b0 : Sl A w v_b0 b.pauses) (v_b1 : Value) (h_b1 : Sl A w v_b1 b.levels) {r : Bool} (hm : portref2_Alike a_ b = some r) : Ret Tryz.prog 6 #[.iface 25 (.agg #[v_a_0, v_a_1]), .iface 25 (.agg #[v_b0, v_b1])] w fun v w' => v = .bool r ∧ Kp Dw w w' := by
  unfold portref2_Alike at hm
  refine enter Tryz.func6 rfl Tryz.ntmps6 rfl ?_
  have hA0 := hA
  have hB := Nat.le_refl w.heap.size
  have hK : Tr Dw w.heap.size A w A w := Tr.refl (Dw := Dw) hA
  have hH : Hp w.heap.size A w [] := Hp.nil
  refine C_seq ?_
  refine C_region ?_
  refine V_y (Y_assign rfl) rfl rfl rfl ?_
  refine V_to (fun _ _ => rfl) ?_
  refine C_seq ?_
  refine C_seq ?_
  refine C_region ?_
  refine V_y (Y_move rfl) rfl rfl rfl ?_
  refine V_to (fun _ _ => rfl) ?_
  refine C_block ?_
  refine C_seq ?_
  refine C_region ?_
  refine V_y (Y_asNS Tryz.underlying63 Tryz.zeroValue63 (by decide) rfl) rfl rfl rfl ?_
  refine V_y (Y_extract rfl rfl) rfl rfl rfl ?_
  refine V_y (Y_extract rfl rfl) rfl rfl rfl ?_
  refine V_to (fun _ _ => rfl) ?_
  refine C_cond rfl (fun hc => ?_) (fun hc => ?_)
  · exact absurd hc (by decide)
  · refine C_seq ?_
    refine C_region ?_
    refine V_y (Y_asNL Tryz.underlying75 Tryz.zeroValue75 (by decide) rfl) rfl rfl rfl ?_
    refine V_y (Y_extract rfl rfl) rfl rfl rfl ?_
    refine V_y (Y_extract rfl rfl) rfl rfl rfl ?_
    refine V_to (fun _ _ => rfl) ?_
    refine C_cond rfl (fun hc => ?_) (fun hc => ?_)
    · exact absurd hc (by decide)
    · refine C_seq ?_
      refine C_region ?_
      refine V_y (Y_asNL Tryz.underlying85 Tryz.zeroValue85 (by decide) rfl) rfl rfl rfl ?_
      refine V_y (Y_extract rfl rfl) rfl rfl rfl ?_
      refine V_y (Y_extract rfl rfl) rfl rfl rfl ?_
      refine V_to (fun _ _ => rfl) ?_
      refine C_cond rfl (fun hc => ?_) (fun hc => ?_)
      · exact absurd hc (by decide)
      · refine C_seq ?_
        refine C_region ?_
        refine V_y (Y_asNS Tryz.underlying94 Tryz.zeroValue94 (by decide) rfl) rfl rfl rfl ?_
        refine V_y (Y_extract rfl rfl) rfl rfl rfl ?_
        refine V_y (Y_extract rfl rfl) rfl rfl rfl ?_
        refine V_to (fun _ _ => rfl) ?_
        refine C_cond rfl (fun hc => ?_) (fun hc => ?_)
        · exact absurd hc (by decide)
        · refine C_seq ?_
          refine C_region ?_
          refine V_y (Y_asNS Tryz.underlying108 Tryz.zeroValue108 (by decide) rfl) rfl rfl rfl ?_
          refine V_y (Y_extract rfl rfl) rfl rfl rfl ?_
          refine V_y (Y_extract rfl rfl) rfl rfl rfl ?_
          refine V_to (fun _ _ => rfl) ?_
          refine C_cond rfl (fun hc => ?_) (fun hc => ?_)
          · exact absurd hc (by decide)
          · refine C_seq ?_
            refine C_region ?_
            refine V_y (Y_asNL Tryz.underlying114 Tryz.zeroValue114 (by decide) rfl) rfl rfl rfl ?_
            refine V_y (Y_extract rfl rfl) rfl rfl rfl ?_
            refine V_y (Y_extract rfl rfl) rfl rfl rfl ?_
            refine V_to (fun _ _ => rfl) ?_
            refine C_cond rfl (fun hc => ?_) (fun hc => ?_)
            · exact absurd hc (by decide)
            · refine C_seq ?_
              refine C_region ?_
              refine V_y (Y_asNL Tryz.underlying124 Tryz.zeroValue124 (by decide) rfl) rfl rfl rfl ?_
              refine V_y (Y_extract rfl rfl) rfl rfl rfl ?_
              refine V_y (Y_extract rfl rfl) rfl rfl rfl ?_
              refine V_to (fun _ _ => rfl) ?_
              refine C_cond rfl (fun hc => ?_) (fun hc => ?_)
              · exact absurd hc (by decide)
              · refine C_seq ?_
                refine C_region ?_
                refine V_y (Y_asIS Tryz.underlying25 rfl) rfl rfl rfl ?_
                refine V_y (Y_extract rfl rfl) rfl rfl rfl ?_
                refine V_y (Y_extract rfl rfl) rfl rfl rfl ?_
                refine V_to (fun _ _ => rfl) ?_
                refine C_cond rfl (fun hc => ?_) (fun hc => ?_)
                · refine C_seq ?_
                  refine C_region ?_
                  refine V_alloc Tryz.zeroValue25 rfl ?_
                  intro b9 w10 h11
                  have h16 : (v_a_0).oneCell' = true := by obtain ⟨_, _, e, _⟩ := Sl.form h_a_0; rw [e]; rfl
                  have h19 : (v_a_1).oneCell' = true := by obtain ⟨_, _, e, _⟩ := Sl.form h_a_1; rw [e]; rfl
                  refine V_storeNew h11 Tryz.sizeOf25 rfl rfl rfl rfl (by exact (List.forall_mem_cons.2 ⟨h16, (List.forall_mem_cons.2 ⟨h19, (fun _ h => nomatch h)⟩)⟩)) ?_
                  intro w12 h13
                  have hk21 := h13.kp (Dw := Dw)
                  have h20 : El (α := level_Policy) A w12 b9 0 a_ := h13.el hA ⟨[v_a_0], _, rfl, ⟨_, rfl, h_a_0⟩, ⟨_, rfl, h_a_1⟩⟩
                  have ht22 := Kp.tr (Dw := Dw) hk21 hA hB
                  replace hH := Hp.kp (Dw := Dw) hH hk21
                  replace h_b0 := Sl.tr (Dw := Dw) h_b0 ht22
                  replace h_b1 := Sl.tr (Dw := Dw) h_b1 ht22
                  replace h_a_0 := Sl.tr (Dw := Dw) h_a_0 ht22
                  replace h_a_1 := Sl.tr (Dw := Dw) h_a_1 ht22
                  replace hK := Tr.trans (Dw := Dw) hK ht22
                  replace hB := Nat.le_trans hB ht22.ex.size
                  replace hA := ht22.new
                  refine V_to (fun _ _ => rfl) ?_
                  refine C_seq ?_
                  refine C_region ?_
                  refine V_y (Y_move rfl) rfl rfl rfl ?_
                  refine V_y (Y_asIS Tryz.underlying25 rfl) rfl rfl rfl ?_
                  refine V_y (Y_move rfl) rfl rfl rfl ?_
                  refine V_y (Y_extract rfl rfl) rfl rfl rfl ?_
                  refine V_y (Y_extract rfl rfl) rfl rfl rfl ?_
                  refine V_alloc Tryz.zeroValue25 rfl ?_
                  intro b23 w24 h25
                  have h30 : (v_b0).oneCell' = true := by obtain ⟨_, _, e, _⟩ := Sl.form h_b0; rw [e]; rfl
                  have h33 : (v_b1).oneCell' = true := by obtain ⟨_, _, e, _⟩ := Sl.form h_b1; rw [e]; rfl
                  refine V_storeNew h25 Tryz.sizeOf25 rfl rfl rfl rfl (by exact (List.forall_mem_cons.2 ⟨h30, (List.forall_mem_cons.2 ⟨h33, (fun _ h => nomatch h)⟩)⟩)) ?_
                  intro w26 h27
                  have hk35 := h27.kp (Dw := Dw)
                  have h34 : El (α := level_Policy) A w26 b23 0 b := h27.el hA ⟨[v_b0], _, rfl, ⟨_, rfl, h_b0⟩, ⟨_, rfl, h_b1⟩⟩
                  have ht36 := Kp.tr (Dw := Dw) hk35 hA hB
                  replace hH := Hp.kp (Dw := Dw) hH hk35
                  replace h_b0 := Sl.tr (Dw := Dw) h_b0 ht36
                  replace h_b1 := Sl.tr (Dw := Dw) h_b1 ht36
                  replace h20 := El.tr (Dw := Dw) h20 ht36
                  replace hK := Tr.trans (Dw := Dw) hK ht36
                  replace hB := Nat.le_trans hB ht36.ex.size
                  replace hA := ht36.new
                  refine V_y (Y_assign rfl) rfl rfl rfl ?_
                  refine V_to (fun _ _ => rfl) ?_
                  refine C_seq ?_
                  obtain ⟨s38, ho37, hm⟩ := Option.bind_eq_some_iff.1 hm
                  refine C_cutG (ι := (Nat → Prop)) (fun (A43 : (Nat → Prop)) => [(4, .bool s38)]) (fun (A43 : (Nat → Prop)) => fun w' => Hp w.heap.size A43 w' ([]) ∧ Tr Dw w.heap.size A w26 A43 w') ?_ ?_
                  · have hr39 : Tr Dw w.heap.size A w26 A w26 := Tr.refl (Dw := Dw) hA
                    refine C_region ?_
                    refine V_y (Y_move rfl) rfl rfl rfl ?_
                    refine V_y (Y_move rfl) rfl rfl rfl ?_
                    rcases Bool.eq_false_or_eq_true (true) with hc45 | hc45
                    · rw [if_pos hc45] at ho37
                      refine V_ge rfl rfl rfl hc45 ?_
                      have h46 := El_level_Policy_0 h20
                      refine V_y (Y_fieldAddr Tryz.underlying25 rfl Tryz.sizeOf22 (by decide) rfl) rfl rfl rfl ?_
                      refine V_ge rfl rfl rfl hc45 ?_
                      obtain ⟨v47, h48, h49⟩ := El.list h46
                      refine V_y (Y_load h48 Tryz.isAgg22 rfl) rfl rfl rfl ?_
                      refine V_ge rfl rfl rfl hc45 ?_
                      have h50 := El_level_Policy_0 h34
                      refine V_y (Y_fieldAddr Tryz.underlying25 rfl Tryz.sizeOf22 (by decide) rfl) rfl rfl rfl ?_
                      refine V_ge rfl rfl rfl hc45 ?_
                      obtain ⟨v51, h52, h53⟩ := El.list h50
                      refine V_y (Y_load h52 Tryz.isAgg22 rfl) rfl rfl rfl ?_
                      refine V_ge rfl rfl rfl hc45 ?_
                      obtain ⟨x54, hx54, ho37⟩ := Option.bind_eq_some_iff.1 ho37
                      refine V_call Tryz.call29 rfl rfl rfl rfl (slices_Equal_Lint_int_c (Dw := Dw) w26 hA a_.pauses v47 h49 b.pauses v51 h53 hx54) ?_
                      rintro _ w55 ⟨rfl, hk56⟩
                      have ht57 := Kp.tr (Dw := Dw) hk56 hA hB
                      replace hH := Hp.kp (Dw := Dw) hH hk56
                      replace h20 := El.tr (Dw := Dw) h20 ht57
                      replace h34 := El.tr (Dw := Dw) h34 ht57
                      replace h46 := El.tr (Dw := Dw) h46 ht57
                      replace h49 := Sl.tr (Dw := Dw) h49 ht57
                      replace h50 := El.tr (Dw := Dw) h50 ht57
                      replace h53 := Sl.tr (Dw := Dw) h53 ht57
                      replace hK := Tr.trans (Dw := Dw) hK ht57
                      replace hr39 := Tr.trans (Dw := Dw) hr39 ht57
                      replace hB := Nat.le_trans hB ht57.ex.size
                      replace hA := ht57.new
                      refine V_y (Y_pick_te rfl hc45 rfl) rfl rfl rfl ?_
                      refine V_y (Y_move rfl) rfl rfl rfl ?_
                      rcases Bool.eq_false_or_eq_true (x54) with hc58 | hc58
                      · rw [if_pos hc58] at ho37
                        refine V_ge rfl rfl rfl hc58 ?_
                        have h59 := El_level_Policy_1 h20
                        refine V_y (Y_fieldAddr Tryz.underlying25 rfl Tryz.sizeOf23 (by decide) rfl) rfl rfl rfl ?_
                        refine V_ge rfl rfl rfl hc58 ?_
                        obtain ⟨v60, h61, h62⟩ := El.list h59
                        refine V_y (Y_load h61 Tryz.isAgg23 rfl) rfl rfl rfl ?_
                        refine V_ge rfl rfl rfl hc58 ?_
                        have h63 := El_level_Policy_1 h34
                        refine V_y (Y_fieldAddr Tryz.underlying25 rfl Tryz.sizeOf23 (by decide) rfl) rfl rfl rfl ?_
                        refine V_ge rfl rfl rfl hc58 ?_
                        obtain ⟨v64, h65, h66⟩ := El.list h63
                        refine V_y (Y_load h65 Tryz.isAgg23 rfl) rfl rfl rfl ?_
                        refine V_ge rfl rfl rfl hc58 ?_
                        obtain ⟨x69, hx69, ho37⟩ := Option.bind_eq_some_iff.1 ho37
                        refine V_call Tryz.call41 rfl rfl rfl rfl (slices_EqualFunc_Llevel_Level_Llevel_Level_level_Level_level_Level_c (Dw := Dw) w55 hA a_.levels v60 h62 b.levels v64 h66 (fun y86 y87 => portref2_Alike_8 y86 y87) 42 #[] #[] Tryz.call42 (fun w82 A83 ht84 h85 y70 v71 h72 v73 h74 y75 v76 h77 v78 h79 r80 h81 => (portref2_Alike_8_c (Dw := Dw) w82 h85 y70 v71 h72 v73 h74 y75 v76 h77 v78 h79  h81).mono (fun _ _ h => ⟨h.1, h.2⟩)) hx69) ?_
                        rintro _ w88 ⟨rfl, hk89⟩
                        have ht90 := Kp.tr (Dw := Dw) hk89 hA hB
                        replace hH := Hp.kp (Dw := Dw) hH hk89
                        replace h20 := El.tr (Dw := Dw) h20 ht90
                        replace h34 := El.tr (Dw := Dw) h34 ht90
                        replace h46 := El.tr (Dw := Dw) h46 ht90
                        replace h49 := Sl.tr (Dw := Dw) h49 ht90
                        replace h50 := El.tr (Dw := Dw) h50 ht90
                        replace h53 := Sl.tr (Dw := Dw) h53 ht90
                        replace h59 := El.tr (Dw := Dw) h59 ht90
                        replace h62 := Sl.tr (Dw := Dw) h62 ht90
                        replace h63 := El.tr (Dw := Dw) h63 ht90
                        replace h66 := Sl.tr (Dw := Dw) h66 ht90
                        replace hK := Tr.trans (Dw := Dw) hK ht90
                        replace hr39 := Tr.trans (Dw := Dw) hr39 ht90
                        replace hB := Nat.le_trans hB ht90.ex.size
                        replace hA := ht90.new
                        refine V_y (Y_pick_te rfl hc58 rfl) rfl rfl rfl ?_
                        refine V_y (Y_assign rfl) rfl rfl rfl ?_
                        obtain rfl := Option.some.inj ho37
                        refine V_end (fun a ha91 => ?_)
                        exact ⟨A, ha91.sub ⟨rfl, trivial⟩, ⟨hH, hr39⟩⟩
                      · rw [if_neg (nt hc58)] at ho37
                        refine V_gn rfl rfl rfl hc58 rfl rfl rfl ?_
                        refine V_gn rfl rfl rfl hc58 rfl rfl rfl ?_
                        refine V_gn rfl rfl rfl hc58 rfl rfl rfl ?_
                        refine V_gn rfl rfl rfl hc58 rfl rfl rfl ?_
                        refine V_gn rfl rfl rfl hc58 rfl rfl rfl ?_
                        refine V_y (Y_pick_fe rfl hc58 rfl) rfl rfl rfl ?_
                        refine V_y (Y_assign rfl) rfl rfl rfl ?_
                        obtain rfl := Option.some.inj ho37
                        refine V_end (fun a ha92 => ?_)
                        exact ⟨A, ha92.sub ⟨rfl, trivial⟩, ⟨hH, hr39⟩⟩
                    · rw [if_neg (nt hc45)] at ho37
                      refine V_gn rfl rfl rfl hc45 rfl rfl rfl ?_
                      refine V_gn rfl rfl rfl hc45 rfl rfl rfl ?_
                      refine V_gn rfl rfl rfl hc45 rfl rfl rfl ?_
                      refine V_gn rfl rfl rfl hc45 rfl rfl rfl ?_
                      refine V_gn rfl rfl rfl hc45 rfl rfl rfl ?_
                      refine V_y (Y_pick_fe rfl hc45 rfl) rfl rfl rfl ?_
                      refine V_y (Y_move rfl) rfl rfl rfl ?_
                      rcases Bool.eq_false_or_eq_true (false) with hc93 | hc93
                      · rw [if_pos hc93] at ho37
                        refine V_ge rfl rfl rfl hc93 ?_
                        have h94 := El_level_Policy_1 h20
                        refine V_y (Y_fieldAddr Tryz.underlying25 rfl Tryz.sizeOf23 (by decide) rfl) rfl rfl rfl ?_
                        refine V_ge rfl rfl rfl hc93 ?_
                        obtain ⟨v95, h96, h97⟩ := El.list h94
                        refine V_y (Y_load h96 Tryz.isAgg23 rfl) rfl rfl rfl ?_
                        refine V_ge rfl rfl rfl hc93 ?_
                        have h98 := El_level_Policy_1 h34
                        refine V_y (Y_fieldAddr Tryz.underlying25 rfl Tryz.sizeOf23 (by decide) rfl) rfl rfl rfl ?_
                        refine V_ge rfl rfl rfl hc93 ?_
                        obtain ⟨v99, h100, h101⟩ := El.list h98
                        refine V_y (Y_load h100 Tryz.isAgg23 rfl) rfl rfl rfl ?_
                        refine V_ge rfl rfl rfl hc93 ?_
                        obtain ⟨x104, hx104, ho37⟩ := Option.bind_eq_some_iff.1 ho37
                        refine V_call Tryz.call41 rfl rfl rfl rfl (slices_EqualFunc_Llevel_Level_Llevel_Level_level_Level_level_Level_c (Dw := Dw) w26 hA a_.levels v95 h97 b.levels v99 h101 (fun y121 y122 => portref2_Alike_8 y121 y122) 42 #[] #[] Tryz.call42 (fun w117 A118 ht119 h120 y105 v106 h107 v108 h109 y110 v111 h112 v113 h114 r115 h116 => (portref2_Alike_8_c (Dw := Dw) w117 h120 y105 v106 h107 v108 h109 y110 v111 h112 v113 h114  h116).mono (fun _ _ h => ⟨h.1, h.2⟩)) hx104) ?_
                        rintro _ w123 ⟨rfl, hk124⟩
                        have ht125 := Kp.tr (Dw := Dw) hk124 hA hB
                        replace hH := Hp.kp (Dw := Dw) hH hk124
                        replace h20 := El.tr (Dw := Dw) h20 ht125
                        replace h34 := El.tr (Dw := Dw) h34 ht125
                        replace h94 := El.tr (Dw := Dw) h94 ht125
                        replace h97 := Sl.tr (Dw := Dw) h97 ht125
                        replace h98 := El.tr (Dw := Dw) h98 ht125
                        replace h101 := Sl.tr (Dw := Dw) h101 ht125
                        replace hK := Tr.trans (Dw := Dw) hK ht125
                        replace hr39 := Tr.trans (Dw := Dw) hr39 ht125
                        replace hB := Nat.le_trans hB ht125.ex.size
                        replace hA := ht125.new
                        refine V_y (Y_pick_te rfl hc93 rfl) rfl rfl rfl ?_
                        refine V_y (Y_assign rfl) rfl rfl rfl ?_
                        obtain rfl := Option.some.inj ho37
                        refine V_end (fun a ha126 => ?_)
                        exact ⟨A, ha126.sub ⟨rfl, trivial⟩, ⟨hH, hr39⟩⟩
                      · rw [if_neg (nt hc93)] at ho37
                        refine V_gn rfl rfl rfl hc93 rfl rfl rfl ?_
                        refine V_gn rfl rfl rfl hc93 rfl rfl rfl ?_
                        refine V_gn rfl rfl rfl hc93 rfl rfl rfl ?_
                        refine V_gn rfl rfl rfl hc93 rfl rfl rfl ?_
                        refine V_gn rfl rfl rfl hc93 rfl rfl rfl ?_
                        refine V_y (Y_pick_fe rfl hc93 rfl) rfl rfl rfl ?_
                        refine V_y (Y_assign rfl) rfl rfl rfl ?_
                        obtain rfl := Option.some.inj ho37
                        refine V_end (fun a ha127 => ?_)
                        exact ⟨A, ha127.sub ⟨rfl, trivial⟩, ⟨hH, hr39⟩⟩
                  rintro A43 w40 ⟨hH44, hk41⟩ a ha42
                  replace hK := Tr.trans (Dw := Dw) hK hk41
                  replace hB := Nat.le_trans hB hk41.ex.size
                  replace hA := hk41.new
                  replace hH : Hp w.heap.size A43 w40 ([]) := hH44
                  refine C_at (n := ⟨248, [], none⟩) (fun _ _ => rfl) ?_ ha42
                  obtain rfl := Option.some.inj hm
                  refine C_ret ?_
                  try simp only [↓inBlock_ret, ↓then_ret]
                  exact retQ rfl (Res.one Tryz.results6 rfl) ⟨rfl, hK.kp⟩
                · exact absurd hc (by decide)

set_option maxRecDepth 4000 in
set_option maxHeartbeats 4000000 in
theorem portlaw2_LevelReads_c (w : World) {A : Nat → Prop} (hA : ∀ b, w.heap.size ≤ b → A b) (hT : Fz Tryz_FR A w) (s : ByteArray) {r : Bool} (hm : portlaw2_LevelReads s = some r) : Ret Tryz.prog 3 #[.string s] w fun v w' => v = .bool r ∧ Kp False w w' := by
  unfold portlaw2_LevelReads at hm
  refine enter Tryz.func3 rfl Tryz.ntmps3 rfl ?_
  have hA0 := hA
  have hB := Nat.le_refl w.heap.size
  have hK : Tr False w.heap.size A w A w := Tr.refl (Dw := False) hA
  have hH : Hp w.heap.size A w [] := Hp.nil
  refine C_seq ?_
  refine C_region ?_
  refine V_y (Y_assign rfl) rfl rfl rfl ?_
  refine V_to (fun _ _ => rfl) ?_
  refine C_seq ?_
  refine C_region ?_
  refine V_y (Y_move rfl) rfl rfl rfl ?_
  obtain ⟨x1, hx1, hm⟩ := Option.bind_eq_some_iff.1 hm
  refine V_call Tryz.call4 rfl rfl rfl rfl (level_ReadPolicy_c w hA (Fz.tr (Dw := False) hT hK) s hx1) ?_
  rintro _ w6 ⟨v2, v4, rfl, h3, h5, hk7⟩
  have ht8 := Kp.tr (Dw := False) hk7 hA hB
  replace hH := Hp.kp (Dw := False) hH hk7
  replace hK := Tr.trans (Dw := False) hK ht8
  replace hB := Nat.le_trans hB ht8.ex.size
  replace hA := ht8.new
  refine V_y (Y_move rfl) rfl rfl rfl ?_
  refine V_y (Y_extract rfl rfl) rfl rfl rfl ?_
  refine V_y (Y_extract rfl rfl) rfl rfl rfl ?_
  refine V_y (Y_extract rfl rfl) rfl rfl rfl ?_
  refine V_alloc Tryz.zeroValue25 rfl ?_
  intro b9 w10 h11
  have h16 : (v2).oneCell' = true := by obtain ⟨_, _, e, _⟩ := Sl.form h3; rw [e]; rfl
  have h19 : (v4).oneCell' = true := by obtain ⟨_, _, e, _⟩ := Sl.form h5; rw [e]; rfl
  refine V_storeNew h11 Tryz.sizeOf25 rfl rfl rfl rfl (by exact (List.forall_mem_cons.2 ⟨h16, (List.forall_mem_cons.2 ⟨h19, (fun _ h => nomatch h)⟩)⟩)) ?_
  intro w12 h13
  have hk21 := h13.kp (Dw := False)
  have h20 : El (α := level_Policy) A w12 b9 0 x1.1 := h13.el hA ⟨[v2], _, rfl, ⟨_, rfl, h3⟩, ⟨_, rfl, h5⟩⟩
  have ht22 := Kp.tr (Dw := False) hk21 hA hB
  replace hH := Hp.kp (Dw := False) hH hk21
  replace h3 := Sl.tr (Dw := False) h3 ht22
  replace h5 := Sl.tr (Dw := False) h5 ht22
  replace hK := Tr.trans (Dw := False) hK ht22
  replace hB := Nat.le_trans hB ht22.ex.size
  replace hA := ht22.new
  refine V_y (Y_assign rfl) rfl rfl rfl ?_
  refine V_y (Y_assign rfl) rfl rfl rfl ?_
  refine V_to (fun _ _ => rfl) ?_
  refine C_seq ?_
  refine C_region ?_
  refine V_y (Y_move rfl) rfl rfl rfl ?_
  obtain ⟨x23, hx23, hm⟩ := Option.bind_eq_some_iff.1 hm
  refine V_call Tryz.call5 rfl rfl rfl rfl (portref2_ReadPolicyOf_c w12 hA (Fz.tr (Dw := False) hT hK) s hx23) ?_
  rintro _ w28 ⟨v24, v26, rfl, h25, h27, hk29⟩
  have ht30 := Kp.tr (Dw := False) hk29 hA hB
  replace hH := Hp.kp (Dw := False) hH hk29
  replace h20 := El.tr (Dw := False) h20 ht30
  replace hK := Tr.trans (Dw := False) hK ht30
  replace hB := Nat.le_trans hB ht30.ex.size
  replace hA := ht30.new
  refine V_y (Y_move rfl) rfl rfl rfl ?_
  refine V_y (Y_extract rfl rfl) rfl rfl rfl ?_
  refine V_y (Y_extract rfl rfl) rfl rfl rfl ?_
  refine V_y (Y_extract rfl rfl) rfl rfl rfl ?_
  refine V_alloc Tryz.zeroValue25 rfl ?_
  intro b31 w33 h34
  have h39 : (v24).oneCell' = true := by obtain ⟨_, _, e, _⟩ := Sl.form h25; rw [e]; rfl
  have h42 : (v26).oneCell' = true := by obtain ⟨_, _, e, _⟩ := Sl.form h27; rw [e]; rfl
  refine V_storeNew h34 Tryz.sizeOf25 rfl rfl rfl rfl (by exact (List.forall_mem_cons.2 ⟨h39, (List.forall_mem_cons.2 ⟨h42, (fun _ h => nomatch h)⟩)⟩)) ?_
  intro w35 h36
  have hk44 := h36.kp (Dw := False)
  have h43 : El (α := level_Policy) A w35 b31 0 x23.1 := h36.el hA ⟨[v24], _, rfl, ⟨_, rfl, h25⟩, ⟨_, rfl, h27⟩⟩
  have ht45 := Kp.tr (Dw := False) hk44 hA hB
  replace hH := Hp.kp (Dw := False) hH hk44
  replace h20 := El.tr (Dw := False) h20 ht45
  replace h25 := Sl.tr (Dw := False) h25 ht45
  replace h27 := Sl.tr (Dw := False) h27 ht45
  replace hK := Tr.trans (Dw := False) hK ht45
  replace hB := Nat.le_trans hB ht45.ex.size
  replace hA := ht45.new
  refine V_y (Y_assign rfl) rfl rfl rfl ?_
  refine V_y (Y_assign rfl) rfl rfl rfl ?_
  refine V_to (fun _ _ => rfl) ?_
  refine C_seq ?_
  obtain ⟨s47, ho46, hm⟩ := Option.bind_eq_some_iff.1 hm
  refine C_cutG (ι := (Nat → Prop)) (fun (A52 : (Nat → Prop)) => [(2, .bool s47)]) (fun (A52 : (Nat → Prop)) => fun w' => Hp w.heap.size A52 w' ([]) ∧ Tr False w.heap.size A w35 A52 w') ?_ ?_
  · have hr48 : Tr False w.heap.size A w35 A w35 := Tr.refl (Dw := False) hA
    refine C_region ?_
    refine V_y (Y_move rfl) rfl rfl rfl ?_
    refine V_y (Y_move rfl) rfl rfl rfl ?_
    refine V_y (Y_eql rfl rfl) rfl rfl rfl ?_
    refine V_y (Y_move rfl) rfl rfl rfl ?_
    rcases Bool.eq_false_or_eq_true (x1.2.1 == x23.2.1) with hc54 | hc54
    · rw [if_pos hc54] at ho46
      refine V_ge rfl rfl rfl hc54 ?_
      refine V_y (Y_move rfl) rfl rfl rfl ?_
      refine V_ge rfl rfl rfl hc54 ?_
      refine V_y (Y_move rfl) rfl rfl rfl ?_
      refine V_ge rfl rfl rfl hc54 ?_
      refine V_y (Y_eql rfl rfl) rfl rfl rfl ?_
      refine V_y (Y_pick_te rfl hc54 rfl) rfl rfl rfl ?_
      refine V_y (Y_move rfl) rfl rfl rfl ?_
      rcases Bool.eq_false_or_eq_true (x1.2.2 == x23.2.2) with hc55 | hc55
      · rw [if_pos hc55] at ho46
        refine V_ge rfl rfl rfl hc55 ?_
        obtain ⟨v56, v58, h60, h57, h59⟩ := El_level_Policy h20
        refine V_y (Y_loadA h60 Tryz.isAgg25 Tryz.sizeOf25 rfl) rfl rfl rfl ?_
        refine V_ge rfl rfl rfl hc55 ?_
        refine V_y (Y_mkIS Tryz.underlying25 rfl) rfl rfl rfl ?_
        refine V_ge rfl rfl rfl hc55 ?_
        obtain ⟨v61, v63, h65, h62, h64⟩ := El_level_Policy h43
        refine V_y (Y_loadA h65 Tryz.isAgg25 Tryz.sizeOf25 rfl) rfl rfl rfl ?_
        refine V_ge rfl rfl rfl hc55 ?_
        refine V_y (Y_mkIS Tryz.underlying25 rfl) rfl rfl rfl ?_
        refine V_ge rfl rfl rfl hc55 ?_
        obtain ⟨x66, hx66, ho46⟩ := Option.bind_eq_some_iff.1 ho46
        refine V_call Tryz.call6 rfl rfl rfl rfl (portref2_Alike_c (Dw := False) w35 hA x1.1 v56 h57 v58 h59 x23.1 v61 h62 v63 h64 hx66) ?_
        rintro _ w67 ⟨rfl, hk68⟩
        have ht69 := Kp.tr (Dw := False) hk68 hA hB
        replace hH := Hp.kp (Dw := False) hH hk68
        replace h20 := El.tr (Dw := False) h20 ht69
        replace h43 := El.tr (Dw := False) h43 ht69
        replace h57 := Sl.tr (Dw := False) h57 ht69
        replace h59 := Sl.tr (Dw := False) h59 ht69
        replace h62 := Sl.tr (Dw := False) h62 ht69
        replace h64 := Sl.tr (Dw := False) h64 ht69
        replace hK := Tr.trans (Dw := False) hK ht69
        replace hr48 := Tr.trans (Dw := False) hr48 ht69
        replace hB := Nat.le_trans hB ht69.ex.size
        replace hA := ht69.new
        refine V_y (Y_pick_te rfl hc55 rfl) rfl rfl rfl ?_
        refine V_y (Y_assign rfl) rfl rfl rfl ?_
        obtain rfl := Option.some.inj ho46
        refine V_end (fun a ha70 => ?_)
        exact ⟨A, ha70.sub ⟨rfl, trivial⟩, ⟨hH, hr48⟩⟩
      · rw [if_neg (nt hc55)] at ho46
        refine V_gn rfl rfl rfl hc55 rfl rfl rfl ?_
        refine V_gn rfl rfl rfl hc55 rfl rfl rfl ?_
        refine V_gn rfl rfl rfl hc55 rfl rfl rfl ?_
        refine V_gn rfl rfl rfl hc55 rfl rfl rfl ?_
        refine V_gn rfl rfl rfl hc55 rfl rfl rfl ?_
        refine V_y (Y_pick_fe rfl hc55 rfl) rfl rfl rfl ?_
        refine V_y (Y_assign rfl) rfl rfl rfl ?_
        obtain rfl := Option.some.inj ho46
        refine V_end (fun a ha71 => ?_)
        exact ⟨A, ha71.sub ⟨rfl, trivial⟩, ⟨hH, hr48⟩⟩
    · rw [if_neg (nt hc54)] at ho46
      refine V_gn rfl rfl rfl hc54 rfl rfl rfl ?_
      refine V_gn rfl rfl rfl hc54 rfl rfl rfl ?_
      refine V_gn rfl rfl rfl hc54 rfl rfl rfl ?_
      refine V_y (Y_pick_fe rfl hc54 rfl) rfl rfl rfl ?_
      refine V_y (Y_move rfl) rfl rfl rfl ?_
      rcases Bool.eq_false_or_eq_true (false) with hc72 | hc72
      · rw [if_pos hc72] at ho46
        refine V_ge rfl rfl rfl hc72 ?_
        obtain ⟨v73, v75, h77, h74, h76⟩ := El_level_Policy h20
        refine V_y (Y_loadA h77 Tryz.isAgg25 Tryz.sizeOf25 rfl) rfl rfl rfl ?_
        refine V_ge rfl rfl rfl hc72 ?_
        refine V_y (Y_mkIS Tryz.underlying25 rfl) rfl rfl rfl ?_
        refine V_ge rfl rfl rfl hc72 ?_
        obtain ⟨v78, v80, h82, h79, h81⟩ := El_level_Policy h43
        refine V_y (Y_loadA h82 Tryz.isAgg25 Tryz.sizeOf25 rfl) rfl rfl rfl ?_
        refine V_ge rfl rfl rfl hc72 ?_
        refine V_y (Y_mkIS Tryz.underlying25 rfl) rfl rfl rfl ?_
        refine V_ge rfl rfl rfl hc72 ?_
        obtain ⟨x83, hx83, ho46⟩ := Option.bind_eq_some_iff.1 ho46
        refine V_call Tryz.call6 rfl rfl rfl rfl (portref2_Alike_c (Dw := False) w35 hA x1.1 v73 h74 v75 h76 x23.1 v78 h79 v80 h81 hx83) ?_
        rintro _ w84 ⟨rfl, hk85⟩
        have ht86 := Kp.tr (Dw := False) hk85 hA hB
        replace hH := Hp.kp (Dw := False) hH hk85
        replace h20 := El.tr (Dw := False) h20 ht86
        replace h43 := El.tr (Dw := False) h43 ht86
        replace h74 := Sl.tr (Dw := False) h74 ht86
        replace h76 := Sl.tr (Dw := False) h76 ht86
        replace h79 := Sl.tr (Dw := False) h79 ht86
        replace h81 := Sl.tr (Dw := False) h81 ht86
        replace hK := Tr.trans (Dw := False) hK ht86
        replace hr48 := Tr.trans (Dw := False) hr48 ht86
        replace hB := Nat.le_trans hB ht86.ex.size
        replace hA := ht86.new
        refine V_y (Y_pick_te rfl hc72 rfl) rfl rfl rfl ?_
        refine V_y (Y_assign rfl) rfl rfl rfl ?_
        obtain rfl := Option.some.inj ho46
        refine V_end (fun a ha87 => ?_)
        exact ⟨A, ha87.sub ⟨rfl, trivial⟩, ⟨hH, hr48⟩⟩
      · rw [if_neg (nt hc72)] at ho46
        refine V_gn rfl rfl rfl hc72 rfl rfl rfl ?_
        refine V_gn rfl rfl rfl hc72 rfl rfl rfl ?_
        refine V_gn rfl rfl rfl hc72 rfl rfl rfl ?_
        refine V_gn rfl rfl rfl hc72 rfl rfl rfl ?_
        refine V_gn rfl rfl rfl hc72 rfl rfl rfl ?_
        refine V_y (Y_pick_fe rfl hc72 rfl) rfl rfl rfl ?_
        refine V_y (Y_assign rfl) rfl rfl rfl ?_
        obtain rfl := Option.some.inj ho46
        refine V_end (fun a ha88 => ?_)
        exact ⟨A, ha88.sub ⟨rfl, trivial⟩, ⟨hH, hr48⟩⟩
  rintro A52 w49 ⟨hH53, hk50⟩ a ha51
  replace hK := Tr.trans (Dw := False) hK hk50
  replace hB := Nat.le_trans hB hk50.ex.size
  replace hA := hk50.new
  replace hH : Hp w.heap.size A52 w49 ([]) := hH53
  refine C_at (n := ⟨36, [], none⟩) (fun _ _ => rfl) ?_ ha51
  obtain rfl := Option.some.inj hm
  refine C_ret ?_
  try simp only [↓inBlock_ret, ↓then_ret]
  exact retQ rfl (Res.one Tryz.results3 rfl) ⟨rfl, hK.kp⟩

end Go.Proofs.YtcbebdcofipcpaaGreatDoor.W
