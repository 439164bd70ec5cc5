/-
  Written by program (gen.py) from the IR of the dump: each function computes its model.
-/
import Derived.Test.YtldkdabcdbgpbaaGreatDoorIndexMakesW0
namespace Go.Proofs.YtldkdabcdbgpbaaGreatDoor.W
open Go Go.RowKit Go.Pu Go.Gw Go.Proofs Go.Proofs.YtldkdabcdbgpbaaGreatDoor.M
set_option linter.unusedVariables false
set_option linter.unusedSimpArgs false
variable {Dw : Prop}

set_option maxRecDepth 4000 in
set_option maxHeartbeats 4000000 in
theorem know_merged_know_Posting_c (w : World) {A : Nat → Prop} {B : Nat} (hB : B ≤ w.heap.size) (hA : ∀ b, w.heap.size ≤ b → A b) (a_ : (List know_Posting)) (v_a_ : Value) (h_a_ : Sl A w v_a_ a_) (b : (List know_Posting)) (v_b : Value) (h_b : Sl A w v_b b) (compare : know_Posting → know_Posting → Option Int) (compare_f : FuncId) (compare_a compare_c : Array Value) (compare_call : ∀ (args : Array Value) (w : World), (callFunc compare_f args).run Tryz.prog w = .ok (.enter compare_f args) w) (compare_spec : ∀ (w1 : World) (A1 : Nat → Prop), Tr Dw B A w A1 w1 → (∀ b, w1.heap.size ≤ b → A1 b) → ∀ (y0 : know_Posting) (v1 : Value) (h2 : Sl A1 w1 v1 y0.title) (v3 : Value) (h4 : Sl A1 w1 v3 y0.body) (y1 : know_Posting) (v5 : Value) (h6 : Sl A1 w1 v5 y1.title) (v7 : Value) (h8 : Sl A1 w1 v7 y1.body) (r : Int), compare y0 y1 = some r → Ret Tryz.prog compare_f (compare_a ++ #[.agg #[.int .i64 y0.id_, v1, v3], .agg #[.int .i64 y1.id_, v5, v7]] ++ compare_c) w1 fun v w' => v = .int .i64 r ∧ Kp Dw w1 w') {L : List Ob} (hH : Hp B A w (L)) {r : (List know_Posting)} (hm : know_merged_know_Posting a_ b compare = some r) : Ret Tryz.prog 74 #[v_a_, v_b, .func (.func compare_f) compare_a compare_c] w fun v w' => ∃ s0, ∃ A1 : Nat → Prop, v = s0 ∧ Hp B A1 w' (obS (α := know_Posting) 86 s0 r :: L) ∧ Tr Dw B A w A1 w' := by
  unfold know_merged_know_Posting at hm
  refine enter Tryz.func74 rfl Tryz.ntmps74 rfl ?_
  have hK : Tr Dw B A w A w := Tr.refl (Dw := Dw) hA
  refine C_seq ?_
  refine C_region ?_
  refine V_y (Y_assign rfl) rfl rfl rfl ?_
  refine V_to (fun _ _ => rfl) ?_
  refine C_seq ?_
  refine C_region ?_
  refine V_y (Y_assign rfl) rfl rfl rfl ?_
  refine V_to (fun _ _ => rfl) ?_
  refine C_seq ?_
  replace hH : Hp B A w (obS (α := know_Posting) 86 (.slice none 0 0) ([] : (List know_Posting)) :: L) := Hp.addNil (α := know_Posting) (e := 86) hH
  obtain ⟨o5, ho5, hm⟩ := Option.bind_eq_some_iff.1 hm
  refine C_cutG (ι := (((List know_Posting) × (List know_Posting) × (List know_Posting)) × Value × Value × Value × (Nat → Prop))) (fun ⟨s6, v12, v14, v16, A18⟩ => [(0, v12), (1, v14), (7, v16)]) (fun ⟨s6, v12, v14, v16, A18⟩ => fun w' => o5 = .fin s6 ∧ Sl A18 w' v12 s6.1 ∧ Sl A18 w' v14 s6.2.1 ∧ Hp B A18 w' (obS (α := know_Posting) 86 v16 s6.2.2 :: L) ∧ Tr Dw B A w A18 w') ?_ ?_
  · refine C_block ?_
    refine C_while ho5 (fun s20 a w' => ∃ i : (Value × Value × Value × (Nat → Prop)), Has ⟨52, [], none⟩ a ([(0, i.1), (1, i.2.1), (2, .func (.func compare_f) compare_a compare_c), (7, i.2.2.1)]) ∧ Sl i.2.2.2 w' i.1 s20.1 ∧ Sl i.2.2.2 w' i.2.1 s20.2.1 ∧ Hp B i.2.2.2 w' (obS (α := know_Posting) 86 i.2.2.1 s20.2.2 :: L) ∧ Tr Dw B A w i.2.2.2 w') (fun a ha => ⟨(v_a_, v_b, .slice none 0 0, A), ha.sub ⟨rfl, rfl, rfl, rfl, trivial⟩, ⟨h_a_, h_b, hH, Tr.refl (Dw := Dw) hA⟩⟩) ?_
    rintro K s20 a w21 ⟨⟨v22, v24, v26, A28⟩, ha151, h23, h25, hH29, hr7⟩ K36
    refine C_of ?_ ha151
    replace hK := Tr.trans (Dw := Dw) hK hr7
    replace hB := Nat.le_trans hB hr7.ex.size
    replace hA := hr7.new
    replace hH : Hp B A28 w21 (obS (α := know_Posting) 86 v26 s20.2.2 :: L) := hH29
    obtain ⟨x30, h31, h32⟩ := K36
    refine C_seq ?_
    refine C_seq ?_
    refine C_region ?_
    refine V_y (Y_move rfl) rfl rfl rfl ?_
    refine V_y (Y_lenSl h23 rfl Tryz.underlying81 rfl) rfl rfl rfl ?_
    refine V_y (Y_gtr rfl rfl) rfl rfl rfl ?_
    refine V_y (Y_move rfl) rfl rfl rfl ?_
    refine V_cut 4 (fun _ : Unit => [(0, v22), (1, v24), (2, .func (.func compare_f) compare_a compare_c), (7, v26), (16, .bool ((decide ((0 : Int) < (s20.1.length : Int))) && (decide ((0 : Int) < (s20.2.1.length : Int)))))]) (fun _ w' => w21 = w') ?_ ?_
    · simp only [List.take, List.drop]
      rcases Bool.eq_false_or_eq_true (decide ((0 : Int) < (s20.1.length : Int))) with hc37 | hc37
      · refine V_ge rfl rfl rfl hc37 ?_
        refine V_y (Y_move rfl) rfl rfl rfl ?_
        refine V_ge rfl rfl rfl hc37 ?_
        refine V_y (Y_lenSl h25 rfl Tryz.underlying81 rfl) rfl rfl rfl ?_
        refine V_ge rfl rfl rfl hc37 ?_
        refine V_y (Y_gtr rfl rfl) rfl rfl rfl ?_
        refine V_y (Y_pick_te rfl hc37 rfl) rfl rfl rfl ?_
        exact V_end fun a ha => ⟨(), ha.sub ⟨rfl, rfl, rfl, rfl, (by rw [hc37]; rfl), trivial⟩, rfl⟩
      · refine V_gn rfl rfl rfl hc37 rfl rfl rfl ?_
        refine V_gn rfl rfl rfl hc37 rfl rfl rfl ?_
        refine V_gn rfl rfl rfl hc37 rfl rfl rfl ?_
        refine V_y (Y_pick_fe rfl hc37 rfl) rfl rfl rfl ?_
        exact V_end fun a ha => ⟨(), ha.sub ⟨rfl, rfl, rfl, rfl, (by rw [hc37]; rfl), trivial⟩, rfl⟩
    simp only [List.take, List.drop]
    rintro _ _ rfl
    refine V_to (fun _ _ => rfl) ?_
    refine C_cond rfl (fun hc39 => ?_) (fun hc39 => ?_)
    · rw [if_pos hc39] at h31
      refine C_skip_to (fun _ _ => rfl) ?_
      obtain ⟨s41, ho40, h31⟩ := Option.bind_eq_some_iff.1 h31
      refine C_cutG (ι := (Value × Value × Value × (Nat → Prop))) (fun ⟨v43, v45, v47, A52⟩ => [(0, v43), (1, v45), (2, .func (.func compare_f) compare_a compare_c), (7, v47)]) (fun ⟨v43, v45, v47, A52⟩ => fun w' => Sl A52 w' v43 s41.1 ∧ Sl A52 w' v45 s41.2.1 ∧ Hp B A52 w' (obS (α := know_Posting) 86 v47 s41.2.2 :: L) ∧ Tr Dw B A28 w21 A52 w') ?_ ?_
      · have hr42 : Tr Dw B A28 w21 A28 w21 := Tr.refl (Dw := Dw) hA
        refine C_block ?_
        refine C_seq ?_
        refine C_region_q (Dw := Dw) Tryz_mixed (by kernel_rfl) ?_
        refine VQ_y (fun w' hw' => Y_move rfl) rfl rfl rfl ?_
        refine VQ_y (fun w' hw' => Y_move rfl) rfl rfl rfl ?_
        obtain ⟨x54, hx54, ho40⟩ := Option.bind_eq_some_iff.1 ho40
        refine VQ_indexAddr h23 hx54 Tryz.underlying81 Tryz.sizeOf86 rfl rfl rfl ?_
        intro b55 o56 h57
        obtain ⟨v58, v60, h62, h59, h61⟩ := El_know_Posting h57
        refine VQ_y (fun w' hw' => Y_loadA (At.kp (Dw := Dw) h62 hw' h57.2.1) Tryz.isAgg86 Tryz.sizeOf86 rfl) rfl rfl rfl ?_
        refine VQ_y (fun w' hw' => Y_move rfl) rfl rfl rfl ?_
        obtain ⟨x63, hx63, ho40⟩ := Option.bind_eq_some_iff.1 ho40
        refine VQ_indexAddr h25 hx63 Tryz.underlying81 Tryz.sizeOf86 rfl rfl rfl ?_
        intro b64 o65 h66
        obtain ⟨v67, v69, h71, h68, h70⟩ := El_know_Posting h66
        refine VQ_y (fun w' hw' => Y_loadA (At.kp (Dw := Dw) h71 hw' h66.2.1) Tryz.isAgg86 Tryz.sizeOf86 rfl) rfl rfl rfl ?_
        obtain ⟨x72, hx72, ho40⟩ := Option.bind_eq_some_iff.1 ho40
        refine VQ_call (.int .i64 x72) compare_call rfl rfl rfl rfl (fun w' hw' => (compare_spec w' _ (Tr.trans (Dw := Dw) hK (Kp.tr (Dw := Dw) hw' hA hB)) (fun b hb => hA b (Nat.le_trans hw'.size hb)) x54 v58 (Sl.kp (Dw := Dw) h59 hw') v60 (Sl.kp (Dw := Dw) h61 hw') x63 v67 (Sl.kp (Dw := Dw) h68 hw') v69 (Sl.kp (Dw := Dw) h70 hw') _ hx72).mono fun _ _ h => ⟨h.1, Kp.trans (Dw := Dw) hw' h.2⟩) ?_
        refine VQ_y (fun w' hw' => Y_assign rfl) rfl rfl rfl ?_
        refine VQ_to (fun _ _ => rfl) (fun w73 hk74 => ?_)
        have ht75 := Kp.tr (Dw := Dw) hk74 hA hB
        replace hH := Hp.kp (Dw := Dw) hH hk74
        replace h23 := Sl.tr (Dw := Dw) h23 ht75
        replace h25 := Sl.tr (Dw := Dw) h25 ht75
        replace hK := Tr.trans (Dw := Dw) hK ht75
        replace hr7 := Tr.trans (Dw := Dw) hr7 ht75
        replace hr42 := Tr.trans (Dw := Dw) hr42 ht75
        replace hB := Nat.le_trans hB ht75.ex.size
        replace hA := ht75.new
        refine C_seq ?_
        refine C_seq ?_
        refine C_region ?_
        refine V_y (Y_move rfl) rfl rfl rfl ?_
        refine V_y (Y_lss rfl rfl) rfl rfl rfl ?_
        refine V_to (fun _ _ => rfl) ?_
        refine C_cond rfl (fun hc76 => ?_) (fun hc76 => ?_)
        · rw [if_pos hc76] at ho40
          refine C_seq ?_
          refine C_region ?_
          refine V_y (Y_move rfl) rfl rfl rfl ?_
          refine V_y (Y_move rfl) rfl rfl rfl ?_
          refine V_indexAddr h23 hx54 Tryz.underlying81 Tryz.sizeOf86 rfl rfl rfl ?_
          intro b77 o78 h79
          obtain ⟨v80, v82, h84, h81, h83⟩ := El_know_Posting h79
          refine V_y (Y_loadA h84 Tryz.isAgg86 Tryz.sizeOf86 rfl) rfl rfl rfl ?_
          refine V_buildSlice (Dw := Dw) (cells := #[.int .i64 x54.id_, v80, v82]) (l := ([x54] : List know_Posting)) (len := 1) Tryz.underlying81 Tryz.sizeOf86 Tryz.zeroValue86 rfl (by obtain ⟨a89, c90, e91, _⟩ := Sl.form h81; subst e91; obtain ⟨a92, c93, e94, _⟩ := Sl.form h83; subst e94; kernel_rfl) (show (1 * 3 : Nat) ≠ 0 by decide) (show (1 * 3 : Nat) ≤ 2 ^ 24 by decide) hA ⟨[.int .i64 x54.id_, v80, v82], _, rfl, ⟨[.int .i64 x54.id_], _, rfl, rfl, ⟨[v80], _, rfl, ⟨_, rfl, h81⟩, ⟨_, rfl, h83⟩⟩⟩, rfl⟩ rfl rfl ?_
          intro v85 w86 hk88 h87
          have ht95 := Kp.tr (Dw := Dw) hk88 hA hB
          replace hH := Hp.kp (Dw := Dw) hH hk88
          replace h23 := Sl.tr (Dw := Dw) h23 ht95
          replace h25 := Sl.tr (Dw := Dw) h25 ht95
          replace h79 := El.tr (Dw := Dw) h79 ht95
          replace h81 := Sl.tr (Dw := Dw) h81 ht95
          replace h83 := Sl.tr (Dw := Dw) h83 ht95
          replace hK := Tr.trans (Dw := Dw) hK ht95
          replace hr7 := Tr.trans (Dw := Dw) hr7 ht95
          replace hr42 := Tr.trans (Dw := Dw) hr42 ht95
          replace hB := Nat.le_trans hB ht95.ex.size
          replace hA := ht95.new
          obtain ⟨x96, hx96, ho40⟩ := Option.bind_eq_some_iff.1 ho40
          refine V_appendH (Dw := Dw) (e := 86) (v := v26) (l := s20.2.2) (ti := Tryz.t86) (bytes := 56) (lim := 2513169434916) hH (i := 0) rfl h87 hx96 Tryz.underlying81 Tryz_info86 rfl rfl rfl rfl (by decide) (by decide) (by decide) hB hA rfl rfl rfl ?_
          intro v97 w98 A99 hH100 ht101
          replace h23 := Sl.tr (Dw := Dw) h23 ht101
          replace h25 := Sl.tr (Dw := Dw) h25 ht101
          replace h79 := El.tr (Dw := Dw) h79 ht101
          replace h81 := Sl.tr (Dw := Dw) h81 ht101
          replace h83 := Sl.tr (Dw := Dw) h83 ht101
          replace h87 := Sl.tr (Dw := Dw) h87 ht101
          replace hK := Tr.trans (Dw := Dw) hK ht101
          replace hr7 := Tr.trans (Dw := Dw) hr7 ht101
          replace hr42 := Tr.trans (Dw := Dw) hr42 ht101
          replace hB := Nat.le_trans hB ht101.ex.size
          replace hA := ht101.new
          replace hH : Hp B A99 w98 (obS (α := know_Posting) 86 v97 x96 :: L) := hH100
          refine V_y (Y_assign rfl) rfl rfl rfl ?_
          refine V_to (fun _ _ => rfl) ?_
          refine C_seq ?_
          refine C_region ?_
          refine V_y (Y_move rfl) rfl rfl rfl ?_
          obtain ⟨x102, hx102, ho40⟩ := Option.bind_eq_some_iff.1 ho40
          obtain ⟨v103, h104, h104y⟩ := sliceL_val hx102 h23
          refine V_y (Y_sliceLL h104y Tryz.underlying81 Tryz.sizeOf86 rfl rfl) rfl rfl rfl ?_
          refine V_y (Y_assign rfl) rfl rfl rfl ?_
          refine V_to (fun _ _ => rfl) ?_
          obtain rfl := Option.some.inj ho40
          refine C_exit (fun a ha105 => ?_)
          exact ⟨(v103, v24, v97, A99), ha105.sub ⟨rfl, rfl, rfl, rfl, trivial⟩, ⟨h104, h25, hH, hr42⟩⟩
        · rw [if_neg (nt hc76)] at ho40
          refine C_skip_to (fun _ _ => rfl) ?_
          refine C_seq ?_
          refine C_seq ?_
          refine C_region ?_
          refine V_y (Y_move rfl) rfl rfl rfl ?_
          refine V_y (Y_eql rfl rfl) rfl rfl rfl ?_
          refine V_to (fun _ _ => rfl) ?_
          obtain ⟨s107, ho106, ho40⟩ := Option.bind_eq_some_iff.1 ho40
          refine C_cutG (ι := Value) (fun (v109 : Value) => [(0, v109), (1, v24), (2, .func (.func compare_f) compare_a compare_c), (7, v26)]) (fun (v109 : Value) => fun w' => Sl A28 w' v109 s107 ∧ w73 = w') ?_ ?_
          · refine C_cond rfl (fun hc114 => ?_) (fun hc114 => ?_)
            · rw [if_pos hc114] at ho106
              refine C_region ?_
              refine V_y (Y_move rfl) rfl rfl rfl ?_
              obtain ⟨x115, hx115, ho106⟩ := Option.bind_eq_some_iff.1 ho106
              obtain ⟨v116, h117, h117y⟩ := sliceL_val hx115 h23
              refine V_y (Y_sliceLL h117y Tryz.underlying81 Tryz.sizeOf86 rfl rfl) rfl rfl rfl ?_
              refine V_y (Y_assign rfl) rfl rfl rfl ?_
              obtain rfl := Option.some.inj ho106
              refine V_end (fun a ha118 => ?_)
              exact ⟨v116, ha118.sub ⟨rfl, rfl, rfl, rfl, trivial⟩, ⟨h117, rfl⟩⟩
            · rw [if_neg (nt hc114)] at ho106
              obtain rfl := Option.some.inj ho106
              refine C_skip (fun a ha119 => ?_)
              exact ⟨v22, ha119.sub ⟨rfl, rfl, rfl, rfl, trivial⟩, ⟨h23, rfl⟩⟩
          rintro v109 _ ⟨h110, rfl⟩ a ha113
          refine C_at (n := ⟨52, [], none⟩) (fun _ _ => rfl) ?_ ha113
          refine C_seq ?_
          refine C_region ?_
          refine V_y (Y_move rfl) rfl rfl rfl ?_
          refine V_y (Y_move rfl) rfl rfl rfl ?_
          refine V_indexAddr h25 hx63 Tryz.underlying81 Tryz.sizeOf86 rfl rfl rfl ?_
          intro b120 o121 h122
          obtain ⟨v123, v125, h127, h124, h126⟩ := El_know_Posting h122
          refine V_y (Y_loadA h127 Tryz.isAgg86 Tryz.sizeOf86 rfl) rfl rfl rfl ?_
          refine V_buildSlice (Dw := Dw) (cells := #[.int .i64 x63.id_, v123, v125]) (l := ([x63] : List know_Posting)) (len := 1) Tryz.underlying81 Tryz.sizeOf86 Tryz.zeroValue86 rfl (by obtain ⟨a132, c133, e134, _⟩ := Sl.form h124; subst e134; obtain ⟨a135, c136, e137, _⟩ := Sl.form h126; subst e137; kernel_rfl) (show (1 * 3 : Nat) ≠ 0 by decide) (show (1 * 3 : Nat) ≤ 2 ^ 24 by decide) hA ⟨[.int .i64 x63.id_, v123, v125], _, rfl, ⟨[.int .i64 x63.id_], _, rfl, rfl, ⟨[v123], _, rfl, ⟨_, rfl, h124⟩, ⟨_, rfl, h126⟩⟩⟩, rfl⟩ rfl rfl ?_
          intro v128 w129 hk131 h130
          have ht138 := Kp.tr (Dw := Dw) hk131 hA hB
          replace hH := Hp.kp (Dw := Dw) hH hk131
          replace h25 := Sl.tr (Dw := Dw) h25 ht138
          replace h110 := Sl.tr (Dw := Dw) h110 ht138
          replace h122 := El.tr (Dw := Dw) h122 ht138
          replace h124 := Sl.tr (Dw := Dw) h124 ht138
          replace h126 := Sl.tr (Dw := Dw) h126 ht138
          replace hK := Tr.trans (Dw := Dw) hK ht138
          replace hr7 := Tr.trans (Dw := Dw) hr7 ht138
          replace hr42 := Tr.trans (Dw := Dw) hr42 ht138
          replace hB := Nat.le_trans hB ht138.ex.size
          replace hA := ht138.new
          obtain ⟨x139, hx139, ho40⟩ := Option.bind_eq_some_iff.1 ho40
          refine V_appendH (Dw := Dw) (e := 86) (v := v26) (l := s20.2.2) (ti := Tryz.t86) (bytes := 56) (lim := 2513169434916) hH (i := 0) rfl h130 hx139 Tryz.underlying81 Tryz_info86 rfl rfl rfl rfl (by decide) (by decide) (by decide) hB hA rfl rfl rfl ?_
          intro v140 w141 A142 hH143 ht144
          replace h25 := Sl.tr (Dw := Dw) h25 ht144
          replace h110 := Sl.tr (Dw := Dw) h110 ht144
          replace h122 := El.tr (Dw := Dw) h122 ht144
          replace h124 := Sl.tr (Dw := Dw) h124 ht144
          replace h126 := Sl.tr (Dw := Dw) h126 ht144
          replace h130 := Sl.tr (Dw := Dw) h130 ht144
          replace hK := Tr.trans (Dw := Dw) hK ht144
          replace hr7 := Tr.trans (Dw := Dw) hr7 ht144
          replace hr42 := Tr.trans (Dw := Dw) hr42 ht144
          replace hB := Nat.le_trans hB ht144.ex.size
          replace hA := ht144.new
          replace hH : Hp B A142 w141 (obS (α := know_Posting) 86 v140 x139 :: L) := hH143
          refine V_y (Y_assign rfl) rfl rfl rfl ?_
          refine V_to (fun _ _ => rfl) ?_
          refine C_region ?_
          refine V_y (Y_move rfl) rfl rfl rfl ?_
          obtain ⟨x145, hx145, ho40⟩ := Option.bind_eq_some_iff.1 ho40
          obtain ⟨v146, h147, h147y⟩ := sliceL_val hx145 h25
          refine V_y (Y_sliceLL h147y Tryz.underlying81 Tryz.sizeOf86 rfl rfl) rfl rfl rfl ?_
          refine V_y (Y_assign rfl) rfl rfl rfl ?_
          obtain rfl := Option.some.inj ho40
          refine V_end (fun a ha148 => ?_)
          exact ⟨(v109, v146, v140, A142), ha148.sub ⟨rfl, rfl, rfl, rfl, trivial⟩, ⟨h110, h147, hH, hr42⟩⟩
      rintro ⟨v43, v45, v47, A52⟩ w49 ⟨h44, h46, hH53, hk50⟩ a ha51
      replace hK := Tr.trans (Dw := Dw) hK hk50
      replace hr7 := Tr.trans (Dw := Dw) hr7 hk50
      replace hB := Nat.le_trans hB hk50.ex.size
      replace hA := hk50.new
      replace hH : Hp B A52 w49 (obS (α := know_Posting) 86 v47 s41.2.2 :: L) := hH53
      obtain rfl := Option.some.inj h31
      exact ⟨(s41.1, s41.2.1, s41.2.2), h32, ⟨(v43, v45, v47, A52), ha51.sub ⟨rfl, rfl, rfl, rfl, trivial⟩, ⟨h44, h46, hH, hr7⟩⟩⟩
    · rw [if_neg (nt hc39)] at h31
      obtain rfl := Option.some.inj h31
      refine C_exit (fun a ha150 => ?_)
      exact ⟨((s20.1, s20.2.1, s20.2.2), v22, v24, v26, A28), ha150.sub ⟨rfl, rfl, rfl, trivial⟩, ⟨h32.symm, h23, h25, hH, hr7⟩⟩
  rintro ⟨s6, v12, v14, v16, A18⟩ w9 ⟨rfl, h13, h15, hH19, hk10⟩ a ha11
  rw [Lp.andThen_fin] at hm
  replace hK := Tr.trans (Dw := Dw) hK hk10
  replace hB := Nat.le_trans hB hk10.ex.size
  replace hA := hk10.new
  replace hH : Hp B A18 w9 (obS (α := know_Posting) 86 v16 s6.2.2 :: L) := hH19
  refine C_at (n := ⟨52, [], none⟩) (fun _ _ => rfl) ?_ ha11
  refine C_seq ?_
  refine C_region ?_
  refine V_y (Y_move rfl) rfl rfl rfl ?_
  refine V_y (Y_move rfl) rfl rfl rfl ?_
  obtain ⟨x152, hx152, hm⟩ := Option.bind_eq_some_iff.1 hm
  refine V_appendH (Dw := Dw) (e := 86) (v := v16) (l := s6.2.2) (ti := Tryz.t86) (bytes := 56) (lim := 2513169434916) hH (i := 0) rfl h13 hx152 Tryz.underlying81 Tryz_info86 rfl rfl rfl rfl (by decide) (by decide) (by decide) hB hA rfl rfl rfl ?_
  intro v153 w154 A155 hH156 ht157
  replace h13 := Sl.tr (Dw := Dw) h13 ht157
  replace h15 := Sl.tr (Dw := Dw) h15 ht157
  replace hK := Tr.trans (Dw := Dw) hK ht157
  replace hB := Nat.le_trans hB ht157.ex.size
  replace hA := ht157.new
  replace hH : Hp B A155 w154 (obS (α := know_Posting) 86 v153 x152 :: L) := hH156
  refine V_y (Y_move rfl) rfl rfl rfl ?_
  obtain ⟨x158, hx158, hm⟩ := Option.bind_eq_some_iff.1 hm
  refine V_appendH (Dw := Dw) (e := 86) (v := v153) (l := x152) (ti := Tryz.t86) (bytes := 56) (lim := 2513169434916) hH (i := 0) rfl h15 hx158 Tryz.underlying81 Tryz_info86 rfl rfl rfl rfl (by decide) (by decide) (by decide) hB hA rfl rfl rfl ?_
  intro v159 w160 A161 hH162 ht163
  replace h13 := Sl.tr (Dw := Dw) h13 ht163
  replace h15 := Sl.tr (Dw := Dw) h15 ht163
  replace hK := Tr.trans (Dw := Dw) hK ht163
  replace hB := Nat.le_trans hB ht163.ex.size
  replace hA := ht163.new
  replace hH : Hp B A161 w160 (obS (α := know_Posting) 86 v159 x158 :: L) := hH162
  refine V_y (Y_assign rfl) rfl rfl rfl ?_
  refine V_to (fun _ _ => rfl) ?_
  obtain rfl := Option.some.inj hm
  refine C_ret ?_
  try simp only [↓inBlock_ret, ↓then_ret]
  exact retQ rfl (Res.one Tryz.results74 rfl) ⟨v159, A161, rfl, hH, hK⟩

set_option maxRecDepth 4000 in
set_option maxHeartbeats 4000000 in
theorem cmp_isNaN_int_c (w : World) (x : Int) : Ret Tryz.prog 94 #[.int .i64 x] w fun v w' => v = .bool (cmp_isNaN_int x) ∧ w = w' := by
  generalize hm : cmp_isNaN_int x = r
  unfold cmp_isNaN_int at hm
  refine enter Tryz.func94 rfl Tryz.ntmps94 rfl ?_
  refine C_seq ?_
  refine C_region ?_
  refine V_y (Y_assign rfl) rfl rfl rfl ?_
  refine V_to (fun _ _ => rfl) ?_
  refine C_seq ?_
  refine C_region ?_
  refine V_y (Y_move rfl) rfl rfl rfl ?_
  refine V_y (Y_move rfl) rfl rfl rfl ?_
  refine V_y (Y_neq rfl rfl) rfl rfl rfl ?_
  refine V_y (Y_assign rfl) rfl rfl rfl ?_
  refine V_to (fun _ _ => rfl) ?_
  obtain rfl := hm
  refine C_ret ?_
  try simp only [↓inBlock_ret, ↓then_ret]
  exact retQ rfl (Res.one Tryz.results94 rfl) ⟨rfl, rfl⟩

set_option maxRecDepth 4000 in
set_option maxHeartbeats 4000000 in
theorem cmp_Compare_int_c (w : World) (x : Int) (y : Int) : Ret Tryz.prog 59 #[.int .i64 x, .int .i64 y] w fun v w' => v = .int .i64 (cmp_Compare_int x y) ∧ w = w' := by
  generalize hm : cmp_Compare_int x y = r
  unfold cmp_Compare_int at hm
  refine enter Tryz.func59 rfl Tryz.ntmps59 rfl ?_
  refine C_seq ?_
  refine C_region ?_
  refine V_y (Y_assign rfl) rfl rfl rfl ?_
  refine V_to (fun _ _ => rfl) ?_
  refine C_seq ?_
  refine C_region ?_
  refine V_y (Y_move rfl) rfl rfl rfl ?_
  refine V_call Tryz.call94 rfl rfl rfl rfl (cmp_isNaN_int_c w x) ?_
  rintro _ _ ⟨rfl, rfl⟩
  refine V_y (Y_assign rfl) rfl rfl rfl ?_
  refine V_to (fun _ _ => rfl) ?_
  refine C_seq ?_
  refine C_region ?_
  refine V_y (Y_move rfl) rfl rfl rfl ?_
  refine V_call Tryz.call94 rfl rfl rfl rfl (cmp_isNaN_int_c w y) ?_
  rintro _ _ ⟨rfl, rfl⟩
  refine V_y (Y_assign rfl) rfl rfl rfl ?_
  refine V_to (fun _ _ => rfl) ?_
  refine C_seq ?_
  refine C_seq ?_
  refine C_region ?_
  refine V_y (Y_move rfl) rfl rfl rfl ?_
  refine V_to (fun _ _ => rfl) ?_
  refine C_cond rfl (fun hc1 => ?_) (fun hc1 => ?_)
  · rw [if_pos hc1] at hm
    refine C_seq ?_
    refine C_seq ?_
    refine C_region ?_
    refine V_y (Y_move rfl) rfl rfl rfl ?_
    refine V_to (fun _ _ => rfl) ?_
    refine C_cond rfl (fun hc2 => ?_) (fun hc2 => ?_)
    · rw [if_pos hc2] at hm
      refine C_seq ?_
      refine C_region ?_
      refine V_y (Y_assign rfl) rfl rfl rfl ?_
      refine V_to (fun _ _ => rfl) ?_
      obtain rfl := hm
      refine C_ret ?_
      try simp only [↓inBlock_ret, ↓then_ret]
      exact retQ rfl (Res.one Tryz.results59 rfl) ⟨rfl, rfl⟩
    · rw [if_neg (nt hc2)] at hm
      refine C_skip_to (fun _ _ => rfl) ?_
      refine C_seq ?_
      refine C_region ?_
      refine V_y (Y_assign rfl) rfl rfl rfl ?_
      refine V_to (fun _ _ => rfl) ?_
      obtain rfl := hm
      refine C_ret ?_
      try simp only [↓inBlock_ret, ↓then_ret]
      exact retQ rfl (Res.one Tryz.results59 rfl) ⟨rfl, rfl⟩
  · rw [if_neg (nt hc1)] at hm
    refine C_skip_to (fun _ _ => rfl) ?_
    refine C_seq ?_
    refine C_seq ?_
    refine C_region ?_
    refine V_y (Y_move rfl) rfl rfl rfl ?_
    refine V_to (fun _ _ => rfl) ?_
    refine C_cond rfl (fun hc3 => ?_) (fun hc3 => ?_)
    · rw [if_pos hc3] at hm
      refine C_seq ?_
      refine C_region ?_
      refine V_y (Y_assign rfl) rfl rfl rfl ?_
      refine V_to (fun _ _ => rfl) ?_
      obtain rfl := hm
      refine C_ret ?_
      try simp only [↓inBlock_ret, ↓then_ret]
      exact retQ rfl (Res.one Tryz.results59 rfl) ⟨rfl, rfl⟩
    · rw [if_neg (nt hc3)] at hm
      refine C_skip_to (fun _ _ => rfl) ?_
      refine C_seq ?_
      refine C_seq ?_
      refine C_region ?_
      refine V_y (Y_move rfl) rfl rfl rfl ?_
      refine V_y (Y_move rfl) rfl rfl rfl ?_
      refine V_y (Y_lss rfl rfl) rfl rfl rfl ?_
      refine V_to (fun _ _ => rfl) ?_
      refine C_cond rfl (fun hc4 => ?_) (fun hc4 => ?_)
      · rw [if_pos hc4] at hm
        refine C_seq ?_
        refine C_region ?_
        refine V_y (Y_assign rfl) rfl rfl rfl ?_
        refine V_to (fun _ _ => rfl) ?_
        obtain rfl := hm
        refine C_ret ?_
        try simp only [↓inBlock_ret, ↓then_ret]
        exact retQ rfl (Res.one Tryz.results59 rfl) ⟨rfl, rfl⟩
      · rw [if_neg (nt hc4)] at hm
        refine C_skip_to (fun _ _ => rfl) ?_
        refine C_seq ?_
        refine C_seq ?_
        refine C_region ?_
        refine V_y (Y_move rfl) rfl rfl rfl ?_
        refine V_y (Y_move rfl) rfl rfl rfl ?_
        refine V_y (Y_gtr rfl rfl) rfl rfl rfl ?_
        refine V_to (fun _ _ => rfl) ?_
        refine C_cond rfl (fun hc5 => ?_) (fun hc5 => ?_)
        · rw [if_pos hc5] at hm
          refine C_seq ?_
          refine C_region ?_
          refine V_y (Y_assign rfl) rfl rfl rfl ?_
          refine V_to (fun _ _ => rfl) ?_
          obtain rfl := hm
          refine C_ret ?_
          try simp only [↓inBlock_ret, ↓then_ret]
          exact retQ rfl (Res.one Tryz.results59 rfl) ⟨rfl, rfl⟩
        · rw [if_neg (nt hc5)] at hm
          refine C_skip_to (fun _ _ => rfl) ?_
          refine C_seq ?_
          refine C_region ?_
          refine V_y (Y_assign rfl) rfl rfl rfl ?_
          refine V_to (fun _ _ => rfl) ?_
          obtain rfl := hm
          refine C_ret ?_
          try simp only [↓inBlock_ret, ↓then_ret]
          exact retQ rfl (Res.one Tryz.results59 rfl) ⟨rfl, rfl⟩

set_option maxRecDepth 4000 in
set_option maxHeartbeats 4000000 in
theorem know_byId_c (w : World) {A : Nat → Prop} (hA : ∀ b, w.heap.size ≤ b → A b) (a_ : know_Posting) (v_a_0 : Value) (h_a_0 : Sl A w v_a_0 a_.title) (v_a_1 : Value) (h_a_1 : Sl A w v_a_1 a_.body) (b : know_Posting) (v_b0 : Value) (h_b0 : Sl A w v_b0 b.title) (v_b1 : Value) (h_b1 : Sl A w v_b1 b.body) {r : Int} (hm : know_byId a_ b = some r) : Ret Tryz.prog 75 #[.agg #[.int .i64 a_.id_, v_a_0, v_a_1], .agg #[.int .i64 b.id_, v_b0, v_b1]] w fun v w' => v = .int .i64 r ∧ Kp Dw w w' := by
  unfold know_byId at hm
  refine enter Tryz.func75 rfl Tryz.ntmps75 rfl ?_
  have hA0 := hA
  have hB := Nat.le_refl w.heap.size
  have hK : Tr Dw w.heap.size A w A w := Tr.refl (Dw := Dw) hA
  have hH : Hp w.heap.size A w [] := Hp.nil
  refine C_seq ?_
  refine C_region ?_
  refine V_box rfl rfl ?_
  intro b9 w10 h11
  have hk13 := h11.kp (Dw := Dw)
  have h12 : El (α := know_Posting) A w10 b9 0 a_ := h11.el hA ⟨[.int .i64 a_.id_], _, rfl, rfl, ⟨[v_a_0], _, rfl, ⟨_, rfl, h_a_0⟩, ⟨_, rfl, h_a_1⟩⟩⟩
  have ht14 := Kp.tr (Dw := Dw) hk13 hA hB
  replace hH := Hp.kp (Dw := Dw) hH hk13
  replace h_a_0 := Sl.tr (Dw := Dw) h_a_0 ht14
  replace h_a_1 := Sl.tr (Dw := Dw) h_a_1 ht14
  replace h_b0 := Sl.tr (Dw := Dw) h_b0 ht14
  replace h_b1 := Sl.tr (Dw := Dw) h_b1 ht14
  replace hK := Tr.trans (Dw := Dw) hK ht14
  replace hB := Nat.le_trans hB ht14.ex.size
  replace hA := ht14.new
  refine V_box rfl rfl ?_
  intro b15 w17 h18
  have hk20 := h18.kp (Dw := Dw)
  have h19 : El (α := know_Posting) A w17 b15 0 b := h18.el hA ⟨[.int .i64 b.id_], _, rfl, rfl, ⟨[v_b0], _, rfl, ⟨_, rfl, h_b0⟩, ⟨_, rfl, h_b1⟩⟩⟩
  have ht21 := Kp.tr (Dw := Dw) hk20 hA hB
  replace hH := Hp.kp (Dw := Dw) hH hk20
  replace h_a_0 := Sl.tr (Dw := Dw) h_a_0 ht21
  replace h_a_1 := Sl.tr (Dw := Dw) h_a_1 ht21
  replace h_b0 := Sl.tr (Dw := Dw) h_b0 ht21
  replace h_b1 := Sl.tr (Dw := Dw) h_b1 ht21
  replace h12 := El.tr (Dw := Dw) h12 ht21
  replace hK := Tr.trans (Dw := Dw) hK ht21
  replace hB := Nat.le_trans hB ht21.ex.size
  replace hA := ht21.new
  refine V_y (Y_assign rfl) rfl rfl rfl ?_
  refine V_to (fun _ _ => rfl) ?_
  refine C_seq ?_
  refine C_region ?_
  have h22 := El_know_Posting_0 h12
  refine V_y (Y_fieldAddr Tryz.underlying86 rfl Tryz.sizeOf3 (by decide) rfl) rfl rfl rfl ?_
  refine V_y (Y_load (El.int h22) Tryz.isAgg3 rfl) rfl rfl rfl ?_
  have h23 := El_know_Posting_0 h19
  refine V_y (Y_fieldAddr Tryz.underlying86 rfl Tryz.sizeOf3 (by decide) rfl) rfl rfl rfl ?_
  refine V_y (Y_load (El.int h23) Tryz.isAgg3 rfl) rfl rfl rfl ?_
  refine V_call Tryz.call59 rfl rfl rfl rfl (cmp_Compare_int_c w17 a_.id_ b.id_) ?_
  rintro _ _ ⟨rfl, rfl⟩
  refine V_y (Y_assign rfl) rfl rfl rfl ?_
  refine V_to (fun _ _ => rfl) ?_
  obtain rfl := Option.some.inj hm
  refine C_ret ?_
  try simp only [↓inBlock_ret, ↓then_ret]
  exact retQ rfl (Res.one Tryz.results75 rfl) ⟨rfl, hK.kp⟩

set_option maxRecDepth 4000 in
set_option maxHeartbeats 4000000 in
theorem cmp_Less_int_c (w : World) (x : Int) (y : Int) : Ret Tryz.prog 88 #[.int .i64 x, .int .i64 y] w fun v w' => v = .bool (cmp_Less_int x y) ∧ w = w' := by
  generalize hm : cmp_Less_int x y = r
  unfold cmp_Less_int at hm
  refine enter Tryz.func88 rfl Tryz.ntmps88 rfl ?_
  refine C_seq ?_
  refine C_region ?_
  refine V_y (Y_assign rfl) rfl rfl rfl ?_
  refine V_to (fun _ _ => rfl) ?_
  refine C_seq ?_
  refine C_region ?_
  refine V_y (Y_move rfl) rfl rfl rfl ?_
  refine V_call Tryz.call94 rfl rfl rfl rfl (cmp_isNaN_int_c w x) ?_
  rintro _ _ ⟨rfl, rfl⟩
  refine V_y (Y_move rfl) rfl rfl rfl ?_
  refine V_cut 4 (fun _ : Unit => [(0, .int .i64 x), (1, .int .i64 y), (11, .bool ((cmp_isNaN_int x) && (!(cmp_isNaN_int y))))]) (fun _ w' => w = w') ?_ ?_
  · simp only [List.take, List.drop]
    rcases Bool.eq_false_or_eq_true ((cmp_isNaN_int x)) with hc1 | hc1
    · refine V_ge rfl rfl rfl hc1 ?_
      refine V_y (Y_move rfl) rfl rfl rfl ?_
      refine V_ge rfl rfl rfl hc1 ?_
      refine V_call Tryz.call94 rfl rfl rfl rfl (cmp_isNaN_int_c w y) ?_
      rintro _ _ ⟨rfl, rfl⟩
      refine V_ge rfl rfl rfl hc1 ?_
      refine V_y (Y_not rfl) rfl rfl rfl ?_
      refine V_y (Y_pick_te rfl hc1 rfl) rfl rfl rfl ?_
      exact V_end fun a ha => ⟨(), ha.sub ⟨rfl, rfl, (by rw [hc1]; rfl), trivial⟩, rfl⟩
    · refine V_gn rfl rfl rfl hc1 rfl rfl rfl ?_
      refine V_gn rfl rfl rfl hc1 rfl rfl rfl ?_
      refine V_gn rfl rfl rfl hc1 rfl rfl rfl ?_
      refine V_y (Y_pick_fe rfl hc1 rfl) rfl rfl rfl ?_
      exact V_end fun a ha => ⟨(), ha.sub ⟨rfl, rfl, (by rw [hc1]; rfl), trivial⟩, rfl⟩
  simp only [List.take, List.drop]
  rintro _ _ rfl
  refine V_y (Y_move rfl) rfl rfl rfl ?_
  refine V_cut 4 (fun _ : Unit => [(16, .bool (((cmp_isNaN_int x) && (!(cmp_isNaN_int y))) || (decide (x < y))))]) (fun _ w' => w = w') ?_ ?_
  · simp only [List.take, List.drop]
    rcases Bool.eq_false_or_eq_true (((cmp_isNaN_int x) && (!(cmp_isNaN_int y)))) with hc3 | hc3
    · refine V_gn rfl rfl rfl hc3 rfl rfl rfl ?_
      refine V_gn rfl rfl rfl hc3 rfl rfl rfl ?_
      refine V_gn rfl rfl rfl hc3 rfl rfl rfl ?_
      refine V_y (Y_pick_te rfl hc3 rfl) rfl rfl rfl ?_
      exact V_end fun a ha => ⟨(), ha.sub ⟨(by rw [hc3]; rfl), trivial⟩, rfl⟩
    · refine V_ge rfl rfl rfl hc3 ?_
      refine V_y (Y_move rfl) rfl rfl rfl ?_
      refine V_ge rfl rfl rfl hc3 ?_
      refine V_y (Y_move rfl) rfl rfl rfl ?_
      refine V_ge rfl rfl rfl hc3 ?_
      refine V_y (Y_lss rfl rfl) rfl rfl rfl ?_
      refine V_y (Y_pick_fe rfl hc3 rfl) rfl rfl rfl ?_
      exact V_end fun a ha => ⟨(), ha.sub ⟨(by rw [hc3]; rfl), trivial⟩, rfl⟩
  simp only [List.take, List.drop]
  rintro _ _ rfl
  refine V_y (Y_assign rfl) rfl rfl rfl ?_
  refine V_to (fun _ _ => rfl) ?_
  obtain rfl := hm
  refine C_ret ?_
  try simp only [↓inBlock_ret, ↓then_ret]
  exact retQ rfl (Res.one Tryz.results88 rfl) ⟨rfl, rfl⟩

set_option maxRecDepth 4000 in
set_option maxHeartbeats 4000000 in
theorem slices_isNaN_int_c (w : World) (x : Int) : Ret Tryz.prog 89 #[.int .i64 x] w fun v w' => v = .bool (slices_isNaN_int x) ∧ w = w' := by
  generalize hm : slices_isNaN_int x = r
  unfold slices_isNaN_int at hm
  refine enter Tryz.func89 rfl Tryz.ntmps89 rfl ?_
  refine C_seq ?_
  refine C_region ?_
  refine V_y (Y_assign rfl) rfl rfl rfl ?_
  refine V_to (fun _ _ => rfl) ?_
  refine C_seq ?_
  refine C_region ?_
  refine V_y (Y_move rfl) rfl rfl rfl ?_
  refine V_y (Y_move rfl) rfl rfl rfl ?_
  refine V_y (Y_neq rfl rfl) rfl rfl rfl ?_
  refine V_y (Y_assign rfl) rfl rfl rfl ?_
  refine V_to (fun _ _ => rfl) ?_
  obtain rfl := hm
  refine C_ret ?_
  try simp only [↓inBlock_ret, ↓then_ret]
  exact retQ rfl (Res.one Tryz.results89 rfl) ⟨rfl, rfl⟩

set_option maxRecDepth 4000 in
set_option maxHeartbeats 4000000 in
theorem slices_BinarySearch_Lint_int_c (w : World) {A : Nat → Prop} (x : (List Int)) (v_x : Value) (h_x : Sl A w v_x x) (target : Int) {r : (Int × Bool)} (hm : slices_BinarySearch_Lint_int x target = some r) : Ret Tryz.prog 52 #[v_x, .int .i64 target] w fun v w' => v = .tuple #[.int .i64 r.1, .bool r.2] ∧ w = w' := by
  unfold slices_BinarySearch_Lint_int at hm
  refine enter Tryz.func52 rfl Tryz.ntmps52 rfl ?_
  refine C_seq ?_
  refine C_region ?_
  refine V_y (Y_assign rfl) rfl rfl rfl ?_
  refine V_y (Y_assign rfl) rfl rfl rfl ?_
  refine V_to (fun _ _ => rfl) ?_
  refine C_seq ?_
  refine C_region ?_
  refine V_y (Y_move rfl) rfl rfl rfl ?_
  refine V_y (Y_lenSl h_x rfl Tryz.underlying23 rfl) rfl rfl rfl ?_
  refine V_y (Y_assign rfl) rfl rfl rfl ?_
  refine V_to (fun _ _ => rfl) ?_
  refine C_seq ?_
  refine C_region ?_
  refine V_y (Y_move rfl) rfl rfl rfl ?_
  refine V_y (Y_assign rfl) rfl rfl rfl ?_
  refine V_y (Y_assign rfl) rfl rfl rfl ?_
  refine V_to (fun _ _ => rfl) ?_
  refine C_seq ?_
  obtain ⟨o3, ho3, hm⟩ := Option.bind_eq_some_iff.1 hm
  refine C_cutG (ι := (Int × Int)) (fun (s4 : (Int × Int)) => [(0, v_x), (1, .int .i64 target), (6, .int .i64 (x.length : Int)), (7, .int .i64 s4.1)]) (fun (s4 : (Int × Int)) => fun w' => o3 = .fin s4 ∧ w = w') ?_ ?_
  · refine C_block ?_
    refine C_while ho3 (fun s10 a w' => ∃ i : Unit, Has ⟨54, [], none⟩ a ([(0, v_x), (1, .int .i64 target), (6, .int .i64 (x.length : Int)), (7, .int .i64 s10.1), (8, .int .i64 s10.2)]) ∧ w = w') (fun a ha => ⟨(), ha.sub ⟨rfl, rfl, rfl, rfl, rfl, trivial⟩, rfl⟩) ?_
    rintro K s10 a _ ⟨_, ha43, rfl⟩ K18
    refine C_of ?_ ha43
    obtain ⟨x12, h13, h14⟩ := K18
    refine C_seq ?_
    refine C_seq ?_
    refine C_region ?_
    refine V_y (Y_move rfl) rfl rfl rfl ?_
    refine V_y (Y_move rfl) rfl rfl rfl ?_
    refine V_y (Y_lss rfl rfl) rfl rfl rfl ?_
    refine V_to (fun _ _ => rfl) ?_
    refine C_cond rfl (fun hc19 => ?_) (fun hc19 => ?_)
    · rw [if_pos hc19] at h13
      refine C_skip_to (fun _ _ => rfl) ?_
      obtain ⟨s21, ho20, h13⟩ := Option.bind_eq_some_iff.1 h13
      refine C_cutG (ι := Unit) (fun (_ : Unit) => [(0, v_x), (1, .int .i64 target), (6, .int .i64 (x.length : Int)), (7, .int .i64 s21.1), (8, .int .i64 s21.2)]) (fun (_ : Unit) => fun w' => w = w') ?_ ?_
      · refine C_block ?_
        refine C_seq ?_
        refine C_region ?_
        refine V_y (Y_move rfl) rfl rfl rfl ?_
        refine V_y (Y_move rfl) rfl rfl rfl ?_
        refine V_y (Y_addI rfl rfl) rfl rfl rfl ?_
        refine V_y (Y_convI Tryz.underlying3 Tryz.underlying191 rfl) rfl rfl rfl ?_
        obtain ⟨x26, hx26, ho20⟩ := Option.bind_eq_some_iff.1 ho20
        refine V_y (Y_shr hx26 rfl rfl) rfl rfl rfl ?_
        refine V_y (Y_convI Tryz.underlying191 Tryz.underlying3 rfl) rfl rfl rfl ?_
        refine V_y (Y_assign rfl) rfl rfl rfl ?_
        refine V_to (fun _ _ => rfl) ?_
        refine C_seq ?_
        refine C_region ?_
        refine V_y (Y_move rfl) rfl rfl rfl ?_
        refine V_y (Y_move rfl) rfl rfl rfl ?_
        obtain ⟨x27, hx27, ho20⟩ := Option.bind_eq_some_iff.1 ho20
        refine V_indexAddr h_x hx27 Tryz.underlying23 Tryz.sizeOf3 rfl rfl rfl ?_
        intro b28 o29 h30
        refine V_y (Y_load (El.int h30) Tryz.isAgg3 rfl) rfl rfl rfl ?_
        refine V_y (Y_move rfl) rfl rfl rfl ?_
        refine V_call Tryz.call88 rfl rfl rfl rfl (cmp_Less_int_c w x27 target) ?_
        rintro _ _ ⟨rfl, rfl⟩
        refine V_to (fun _ _ => rfl) ?_
        obtain ⟨s32, ho31, ho20⟩ := Option.bind_eq_some_iff.1 ho20
        refine C_cutG (ι := Unit) (fun (_ : Unit) => [(0, v_x), (1, .int .i64 target), (6, .int .i64 (x.length : Int)), (7, .int .i64 s32.1), (8, .int .i64 s32.2)]) (fun (_ : Unit) => fun w' => w = w') ?_ ?_
        · refine C_cond rfl (fun hc37 => ?_) (fun hc37 => ?_)
          · rw [if_pos hc37] at ho31
            refine C_region ?_
            refine V_y (Y_move rfl) rfl rfl rfl ?_
            refine V_y (Y_addI rfl rfl) rfl rfl rfl ?_
            refine V_y (Y_assign rfl) rfl rfl rfl ?_
            obtain rfl := Option.some.inj ho31
            refine V_end (fun a ha38 => ?_)
            exact ⟨(), ha38.sub ⟨rfl, rfl, rfl, rfl, rfl, trivial⟩, rfl⟩
          · rw [if_neg (nt hc37)] at ho31
            refine C_region ?_
            refine V_y (Y_move rfl) rfl rfl rfl ?_
            refine V_y (Y_assign rfl) rfl rfl rfl ?_
            obtain rfl := Option.some.inj ho31
            refine V_end (fun a ha39 => ?_)
            exact ⟨(), ha39.sub ⟨rfl, rfl, rfl, rfl, rfl, trivial⟩, rfl⟩
        rintro _ _ rfl a ha36
        obtain rfl := Option.some.inj ho20
        exact ⟨(), ha36.sub ⟨rfl, rfl, rfl, rfl, rfl, trivial⟩, rfl⟩
      rintro _ _ rfl a ha25
      obtain rfl := Option.some.inj h13
      exact ⟨(s21.1, s21.2), h14, ⟨(), ha25.sub ⟨rfl, rfl, rfl, rfl, rfl, trivial⟩, rfl⟩⟩
    · rw [if_neg (nt hc19)] at h13
      obtain rfl := Option.some.inj h13
      refine C_exit (fun a ha42 => ?_)
      exact ⟨(s10.1, s10.2), ha42.sub ⟨rfl, rfl, rfl, rfl, trivial⟩, ⟨h14.symm, rfl⟩⟩
  rintro s4 _ ⟨rfl, rfl⟩ a ha9
  rw [Lp.andThen_fin] at hm
  refine C_at (n := ⟨54, [], none⟩) (fun _ _ => rfl) ?_ ha9
  refine C_seq ?_
  refine C_region ?_
  refine V_y (Y_move rfl) rfl rfl rfl ?_
  refine V_y (Y_move rfl) rfl rfl rfl ?_
  refine V_y (Y_move rfl) rfl rfl rfl ?_
  refine V_y (Y_lss rfl rfl) rfl rfl rfl ?_
  refine V_y (Y_move rfl) rfl rfl rfl ?_
  obtain ⟨s45, hs45, hm⟩ := Option.bind_eq_some_iff.1 hm
  refine V_cut 18 (fun _ : Unit => [(31, .int .i64 s4.1), (53, .bool s45)]) (fun _ w' => w = w') ?_ ?_
  · simp only [List.take, List.drop]
    rcases Bool.eq_false_or_eq_true (decide (s4.1 < (x.length : Int))) with hc44 | hc44
    · rw [if_pos hc44] at hs45
      refine V_ge rfl rfl rfl hc44 ?_
      refine V_y (Y_move rfl) rfl rfl rfl ?_
      refine V_ge rfl rfl rfl hc44 ?_
      refine V_y (Y_move rfl) rfl rfl rfl ?_
      refine V_ge rfl rfl rfl hc44 ?_
      obtain ⟨x46, hx46, hs45⟩ := Option.bind_eq_some_iff.1 hs45
      refine V_indexAddr h_x hx46 Tryz.underlying23 Tryz.sizeOf3 rfl rfl rfl ?_
      intro b47 o48 h49
      refine V_ge rfl rfl rfl hc44 ?_
      refine V_y (Y_load (El.int h49) Tryz.isAgg3 rfl) rfl rfl rfl ?_
      refine V_ge rfl rfl rfl hc44 ?_
      refine V_y (Y_move rfl) rfl rfl rfl ?_
      refine V_ge rfl rfl rfl hc44 ?_
      refine V_y (Y_eql rfl rfl) rfl rfl rfl ?_
      refine V_ge rfl rfl rfl hc44 ?_
      refine V_y (Y_move rfl) rfl rfl rfl ?_
      obtain ⟨s51, hs51, hs45⟩ := Option.bind_eq_some_iff.1 hs45
      refine V_cut 10 (fun _ : Unit => [(31, .int .i64 s4.1), (35, .bool (decide (s4.1 < (x.length : Int)))), (52, .bool s51)]) (fun _ w' => w = w') ?_ ?_
      · simp only [List.take, List.drop]
        rcases Bool.eq_false_or_eq_true (x46 == target) with hc50 | hc50
        · rw [if_pos hc50] at hs51
          refine V_gn rfl rfl rfl hc50 rfl rfl rfl ?_
          refine V_gn rfl rfl rfl hc50 rfl rfl rfl ?_
          refine V_gn rfl rfl rfl hc50 rfl rfl rfl ?_
          refine V_gn rfl rfl rfl hc50 rfl rfl rfl ?_
          refine V_gn rfl rfl rfl hc50 rfl rfl rfl ?_
          refine V_gn rfl rfl rfl hc50 rfl rfl rfl ?_
          refine V_gu rfl rfl rfl rfl rfl ?_
          refine V_gu rfl rfl rfl rfl rfl ?_
          refine V_gn rfl rfl rfl hc50 rfl rfl rfl ?_
          refine V_ge rfl rfl rfl hc44 ?_
          refine V_y (Y_pick_te rfl hc50 rfl) rfl rfl rfl ?_
          obtain rfl := Option.some.inj hs51
          exact V_end fun a ha => ⟨(), ha.sub ⟨rfl, rfl, rfl, trivial⟩, rfl⟩
        · rw [if_neg (nt hc50)] at hs51
          refine V_ge rfl rfl rfl hc50 ?_
          refine V_y (Y_move rfl) rfl rfl rfl ?_
          refine V_ge rfl rfl rfl hc50 ?_
          refine V_y (Y_move rfl) rfl rfl rfl ?_
          refine V_ge rfl rfl rfl hc50 ?_
          refine V_indexAddr h_x hx46 Tryz.underlying23 Tryz.sizeOf3 rfl rfl rfl ?_
          intro b52 o53 h54
          refine V_ge rfl rfl rfl hc50 ?_
          refine V_y (Y_load (El.int h54) Tryz.isAgg3 rfl) rfl rfl rfl ?_
          refine V_ge rfl rfl rfl hc50 ?_
          refine V_call Tryz.call89 rfl rfl rfl rfl (slices_isNaN_int_c w x46) ?_
          rintro _ _ ⟨rfl, rfl⟩
          refine V_ge rfl rfl rfl hc50 ?_
          refine V_y (Y_move rfl) rfl rfl rfl ?_
          refine V_cut 3 (fun _ : Unit => [(31, .int .i64 s4.1), (35, .bool (decide (s4.1 < (x.length : Int)))), (42, .bool (x46 == target)), (51, .bool ((slices_isNaN_int x46) && (slices_isNaN_int target)))]) (fun _ w' => w = w') ?_ ?_
          · simp only [List.take, List.drop]
            rcases Bool.eq_false_or_eq_true ((slices_isNaN_int x46)) with hc55 | hc55
            · refine V_ge rfl rfl rfl hc55 ?_
              refine V_y (Y_move rfl) rfl rfl rfl ?_
              refine V_ge rfl rfl rfl hc55 ?_
              refine V_call Tryz.call89 rfl rfl rfl rfl (slices_isNaN_int_c w target) ?_
              rintro _ _ ⟨rfl, rfl⟩
              refine V_ge rfl rfl rfl hc50 ?_
              refine V_y (Y_pick_te rfl hc55 rfl) rfl rfl rfl ?_
              exact V_end fun a ha => ⟨(), ha.sub ⟨rfl, rfl, rfl, (by rw [hc55]; rfl), trivial⟩, rfl⟩
            · refine V_gn rfl rfl rfl hc55 rfl rfl rfl ?_
              refine V_gn rfl rfl rfl hc55 rfl rfl rfl ?_
              refine V_ge rfl rfl rfl hc50 ?_
              refine V_y (Y_pick_fe rfl hc55 rfl) rfl rfl rfl ?_
              exact V_end fun a ha => ⟨(), ha.sub ⟨rfl, rfl, rfl, (by rw [hc55]; rfl), trivial⟩, rfl⟩
          simp only [List.take, List.drop]
          rintro _ _ rfl
          refine V_ge rfl rfl rfl hc44 ?_
          refine V_y (Y_pick_fe rfl hc50 rfl) rfl rfl rfl ?_
          obtain rfl := Option.some.inj hs51
          exact V_end fun a ha => ⟨(), ha.sub ⟨rfl, rfl, rfl, trivial⟩, rfl⟩
      simp only [List.take, List.drop]
      rintro _ _ rfl
      refine V_y (Y_pick_te rfl hc44 rfl) rfl rfl rfl ?_
      obtain rfl := Option.some.inj hs45
      exact V_end fun a ha => ⟨(), ha.sub ⟨rfl, rfl, trivial⟩, rfl⟩
    · rw [if_neg (nt hc44)] at hs45
      refine V_gn rfl rfl rfl hc44 rfl rfl rfl ?_
      refine V_gn rfl rfl rfl hc44 rfl rfl rfl ?_
      refine V_gn rfl rfl rfl hc44 rfl rfl rfl ?_
      refine V_gn rfl rfl rfl hc44 rfl rfl rfl ?_
      refine V_gn rfl rfl rfl hc44 rfl rfl rfl ?_
      refine V_gn rfl rfl rfl hc44 rfl rfl rfl ?_
      refine V_gn rfl rfl rfl hc44 rfl rfl rfl ?_
      refine V_gu rfl rfl rfl rfl rfl ?_
      refine V_gu rfl rfl rfl rfl rfl ?_
      refine V_gu rfl rfl rfl rfl rfl ?_
      refine V_gu rfl rfl rfl rfl rfl ?_
      refine V_gu rfl rfl rfl rfl rfl ?_
      refine V_gu rfl rfl rfl rfl rfl ?_
      refine V_gu rfl rfl rfl rfl rfl ?_
      refine V_gu rfl rfl rfl rfl rfl ?_
      refine V_gu rfl rfl rfl rfl rfl ?_
      refine V_gn rfl rfl rfl hc44 rfl rfl rfl ?_
      refine V_y (Y_pick_fe rfl hc44 rfl) rfl rfl rfl ?_
      obtain rfl := Option.some.inj hs45
      exact V_end fun a ha => ⟨(), ha.sub ⟨rfl, rfl, trivial⟩, rfl⟩
  simp only [List.take, List.drop]
  rintro _ _ rfl
  refine V_y (Y_assign rfl) rfl rfl rfl ?_
  refine V_y (Y_assign rfl) rfl rfl rfl ?_
  refine V_to (fun _ _ => rfl) ?_
  obtain rfl := Option.some.inj hm
  refine C_ret ?_
  try simp only [↓inBlock_ret, ↓then_ret]
  exact retQ rfl (Res.two Tryz.results52 rfl rfl) ⟨rfl, rfl⟩

set_option maxRecDepth 4000 in
set_option maxHeartbeats 4000000 in
theorem slices_Clone_Lint_int_c (w : World) {A : Nat → Prop} (hA : ∀ b, w.heap.size ≤ b → A b) (s : (List Int)) (v_s : Value) (h_s : Sl A w v_s s) {r : (List Int)} (hm : slices_Clone_Lint_int s = some r) : Ret Tryz.prog 76 #[v_s] w fun v w' => ∃ s0, v = s0 ∧ Ownd 3 w w' s0 r ∧ Kp Dw w w' := by
  unfold slices_Clone_Lint_int at hm
  refine enter Tryz.func76 rfl Tryz.ntmps76 rfl ?_
  have hA0 := hA
  have hB := Nat.le_refl w.heap.size
  have hK : Tr Dw w.heap.size A w A w := Tr.refl (Dw := Dw) hA
  have hH : Hp w.heap.size A w [] := Hp.nil
  rcases Sl.split h_s with ⟨rfl, rfl⟩ | ⟨a0, n0, c0, rfl⟩
  · replace hm : some ([] : (List Int)) = some r := by simpa [appendL] using hm
    refine C_seq ?_
    refine C_region ?_
    refine V_y (Y_assign rfl) rfl rfl rfl ?_
    refine V_to (fun _ _ => rfl) ?_
    refine C_seq ?_
    refine C_seq ?_
    refine C_region ?_
    refine V_y (Y_move rfl) rfl rfl rfl ?_
    refine V_y (Y_eqlNilT rfl rfl Tryz.underlying23) rfl rfl rfl ?_
    refine V_to (fun _ _ => rfl) ?_
    refine C_cond rfl (fun hc => ?_) (fun hc => ?_)
    · refine C_seq ?_
      refine C_region ?_
      refine V_y (Y_assign rfl) rfl rfl rfl ?_
      refine V_to (fun _ _ => rfl) ?_
      obtain rfl := Option.some.inj hm
      replace hH : Hp w.heap.size A w (obS (α := Int) 3 (.slice none 0 0) ([] : (List Int)) :: []) := Hp.addNil (α := Int) (e := 3) hH
      refine C_ret ?_
      try simp only [↓inBlock_ret, ↓then_ret]
      exact retQ rfl (Res.one Tryz.results76 rfl) ⟨.slice none 0 0, rfl, (Hp.ownd hH (i := 0) rfl), hK.kp⟩
    · exact absurd hc (by decide)
  · refine C_seq ?_
    refine C_region ?_
    refine V_y (Y_assign rfl) rfl rfl rfl ?_
    refine V_to (fun _ _ => rfl) ?_
    refine C_seq ?_
    refine C_seq ?_
    refine C_region ?_
    refine V_y (Y_move rfl) rfl rfl rfl ?_
    refine V_y (Y_eqlNilF rfl rfl Tryz.underlying23) rfl rfl rfl ?_
    refine V_to (fun _ _ => rfl) ?_
    refine C_cond rfl (fun hc => ?_) (fun hc => ?_)
    · exact absurd hc (by decide)
    · refine C_skip_to (fun _ _ => rfl) ?_
      refine C_seq ?_
      refine C_region ?_
      refine V_buildOwn0H (Dw := Dw) (α := Int) hH Tryz.underlying23 Tryz.sizeOf3 hB hA rfl ?_
      intro v3 w4 A5 hH6 ht7
      replace h_s := Sl.tr (Dw := Dw) h_s ht7
      replace hK := Tr.trans (Dw := Dw) hK ht7
      replace hB := Nat.le_trans hB ht7.ex.size
      replace hA := ht7.new
      replace hH : Hp w.heap.size A5 w4 (obS (α := Int) 3 v3 ([] : List Int) :: []) := hH6
      refine V_y (Y_move rfl) rfl rfl rfl ?_
      obtain ⟨x8, hx8, hm⟩ := Option.bind_eq_some_iff.1 hm
      refine V_appendH (Dw := Dw) (e := 3) (v := v3) (l := ([] : List Int)) (ti := Tryz.t3) (bytes := 8) (lim := 17592186044416) hH (i := 0) rfl h_s hx8 Tryz.underlying23 Tryz_info3 rfl rfl rfl rfl (by decide) (by decide) (by decide) hB hA rfl rfl rfl ?_
      intro v9 w10 A11 hH12 ht13
      replace h_s := Sl.tr (Dw := Dw) h_s ht13
      replace hK := Tr.trans (Dw := Dw) hK ht13
      replace hB := Nat.le_trans hB ht13.ex.size
      replace hA := ht13.new
      replace hH : Hp w.heap.size A11 w10 (obS (α := Int) 3 v9 x8 :: []) := hH12
      refine V_y (Y_assign rfl) rfl rfl rfl ?_
      refine V_to (fun _ _ => rfl) ?_
      obtain rfl := Option.some.inj hm
      refine C_ret ?_
      try simp only [↓inBlock_ret, ↓then_ret]
      exact retQ rfl (Res.one Tryz.results76 rfl) ⟨v9, rfl, (Hp.ownd hH (i := 0) rfl), hK.kp⟩

theorem Tryz_ovl90 : Tryz.prog.funcs[90]? = some Tryz.f90 := by kernel_rfl
theorem Tryz_ovln90 : Extern.findNext Tryz.f90 = none := by kernel_rfl
theorem Tryz_ovlf90 : Extern.find Tryz.f90 = some (Extern.SlicesOverlaps.overlaps #[23, 23] #[4]) := by kernel_rfl
theorem Tryz_ovlb90 : (Tryz.f90.name == "runtime.NumGoroutine") = false ∧ Tryz.f90.body.isNone = true := by constructor <;> kernel_rfl
theorem slices_Insert_Lint_int_raw {α β : Type} {l vs r : List α} {k : Int} {ys zs : List β} (h : slices_Insert_Lint_int l k vs = some r) (h1 : ys.length = l.length) (h2 : zs.length = vs.length) : slices_Insert_Lint_int ys k zs = some (ys.take k.toNat ++ zs ++ ys.drop k.toNat) ∧ r = l.take k.toNat ++ vs ++ l.drop k.toNat := by
  unfold slices_Insert_Lint_int at h ⊢
  split at h
  case isFalse => cases h
  rename_i hc
  refine ⟨if_pos ⟨hc.1, by rw [h1]; exact hc.2.1, fun e => hc.2.2.1 ?_, by rw [h1, h2]; exact hc.2.2.2⟩, (Option.some.inj h).symm⟩
  subst e
  exact List.length_eq_zero_iff.1 h2.symm
set_option maxRecDepth 4000 in
set_option maxHeartbeats 4000000 in
theorem slices_Insert_Lint_int_c (w : World) {A : Nat → Prop} {B : Nat} {L : List Ob} {i : Nat} {v v_vs : Value} {l vs r : List Int} (k : Int) (hH : Hp B A w (obS (α := Int) 3 v_vs vs :: L)) (hi : L[i]? = some (obS (α := Int) 3 v l)) (hB : B ≤ w.heap.size) (hA : ∀ b, w.heap.size ≤ b → A b) (hr : slices_Insert_Lint_int l k vs = some r) :
    Ret Tryz.prog 53 #[v, .int .i64 k, v_vs] w fun u w' => ∃ v' A1, u = v' ∧ Hp B A1 w' (L.set i (obS (α := Int) 3 v' r)) ∧ Tr Dw B A w A1 w' := by
  unfold slices_Insert_Lint_int at hr
  split at hr
  case isFalse => cases hr
  rename_i hcond
  obtain ⟨hk0, hkl, hne, hlim⟩ := hcond
  obtain rfl := Option.some.inj hr
  obtain ⟨i0, rfl⟩ : ∃ i0 : Nat, k = (i0 : Int) := ⟨k.toNat, by omega⟩
  rw [Int.toNat_natCast]
  have hil : i0 ≤ l.length := by omega
  have hm0 : 0 < vs.length := List.length_pos_iff.2 hne
  have hmax : l.length + vs.length ≤ maxLen := Nat.le_trans hlim (by decide)
  have hbytes : (l.length + vs.length) * 8 ≤ 140737488355328 := Nat.le_trans (Nat.mul_le_mul_right _ hlim) (by decide)
  have e1 : w64 ((l.length : Int) + (vs.length : Int)) = ((l.length + vs.length : Nat) : Int) := by rw [w64_id (by omega) (by omega)]; omega
  have e2 : w64 (((l.length + vs.length : Nat) : Int) - (i0 : Int)) = ((l.length + vs.length - i0 : Nat) : Int) := by rw [w64_id (by omega) (by omega)]; omega
  have e3 : w64 ((i0 : Int) + (vs.length : Int)) = ((i0 + vs.length : Nat) : Int) := by rw [w64_id (by omega) (by omega)]; omega
  have hiL : i < L.length := (List.getElem?_eq_some_iff.1 hi).1
  have hi1 : (obS (α := Int) 3 v_vs vs :: L)[i + 1]? = some (obS (α := Int) 3 v l) := by simpa using hi
  obtain ⟨a, cap, rfl, hlc, hlm⟩ := Hp.formS hH hi1
  obtain ⟨b, capv, _, hvv, _⟩ := Hp.openS hH (i := 0) rfl hne hA
  subst hvv
  refine enter Tryz.func53 rfl Tryz.ntmps53 rfl ?_
  refine C_seq ?_
  refine C_region ?_
  refine V_y (Y_assign rfl) rfl rfl rfl ?_
  refine V_to (fun _ _ => rfl) ?_
  refine C_seq ?_
  refine C_region ?_
  refine V_y (Y_move rfl) rfl rfl rfl ?_
  refine V_y (Y_move rfl) rfl rfl rfl ?_
  refine V_y (Y_sliceLL (sz := 1) (lo := (i0 : Int)) (k := .i64) ⟨a, l.length, cap, i0, l.length, rfl, rfl, rfl, hil, Nat.le_refl _, hlc, rfl⟩ Tryz.underlying23 Tryz.sizeOf3 rfl rfl) rfl rfl rfl ?_
  refine V_to (fun _ _ => rfl) ?_
  refine C_seq ?_
  refine C_region ?_
  refine V_y (Y_move rfl) rfl rfl rfl ?_
  refine V_y (Y_lenS (a := some ⟨b, 0, none⟩) (len := vs.length) (cap := capv) rfl Tryz.underlying23 rfl) rfl rfl rfl ?_
  refine V_y (Y_assign rfl) rfl rfl rfl ?_
  refine V_to (fun _ _ => rfl) ?_
  refine C_seq ?_
  refine C_seq ?_
  refine C_region ?_
  refine V_y (Y_move rfl) rfl rfl rfl ?_
  refine V_y (Y_eql rfl rfl) rfl rfl rfl ?_
  refine V_to (fun _ _ => rfl) ?_
  refine C_cond rfl (fun hc => ?_) (fun _ => ?_)
  · have : ((vs.length : Int) == 0) = true := hc
    rw [beq_iff_eq] at this
    omega
  refine C_skip_to (fun _ _ => rfl) ?_
  refine C_seq ?_
  refine C_region ?_
  refine V_y (Y_move rfl) rfl rfl rfl ?_
  refine V_y (Y_lenS (a := a) (len := l.length) (cap := cap) rfl Tryz.underlying23 rfl) rfl rfl rfl ?_
  refine V_y (Y_assign rfl) rfl rfl rfl ?_
  refine V_to (fun _ _ => rfl) ?_
  refine C_seq ?_
  refine C_seq ?_
  refine C_region ?_
  refine V_y (Y_move rfl) rfl rfl rfl ?_
  refine V_y (Y_move rfl) rfl rfl rfl ?_
  refine V_y (Y_eql rfl rfl) rfl rfl rfl ?_
  refine V_to (fun _ _ => rfl) ?_
  refine C_cond rfl (fun hc => ?_) (fun hc => ?_)
  · have hil2 : i0 = l.length := by
      have : ((i0 : Int) == (l.length : Int)) = true := hc
      rw [beq_iff_eq] at this
      omega
    obtain ⟨A1, ht1, h_vs, hH1⟩ := Hp.freeze (Dw := Dw) hH (i := 0) rfl hA
    replace hH1 : Hp B A1 w L := hH1
    refine C_seq ?_
    refine C_region ?_
    refine V_y (Y_move rfl) rfl rfl rfl ?_
    refine V_y (Y_move rfl) rfl rfl rfl ?_
    refine V_appendH (Dw := Dw) (e := 3) (l := l) (m := vs) (r := l ++ vs) (ti := Tryz.t3) (bytes := 8) (lim := 17592186044416) hH1 hi h_vs (by unfold appendL; rw [if_pos hlim]) Tryz.underlying23 Tryz_info3 rfl rfl rfl rfl (by decide) (by decide) (by decide) hB ht1.new rfl rfl rfl ?_
    intro v2 w2 A2 hH2 ht2
    refine V_y (Y_assign rfl) rfl rfl rfl ?_
    refine V_to (fun _ _ => rfl) ?_
    refine C_ret ?_
    try simp only [↓inBlock_ret, ↓then_ret]
    refine retQ rfl (Res.one Tryz.results53 rfl) ⟨v2, A2, rfl, ?_, ht1.trans ht2⟩
    rw [hil2, List.take_length, List.drop_length, List.append_nil]
    exact hH2
  have hil2 : i0 < l.length := by
    have : ((i0 : Int) == (l.length : Int)) = false := hc
    rw [beq_eq_false_iff_ne] at this
    omega
  have hlne : l ≠ [] := fun h => by rw [h] at hil2; cases hil2
  refine C_skip_to (fun _ _ => rfl) ?_
  obtain ⟨g, cap', cur, hv, hH1, h5, h6, h7, h8⟩ := Hp.openS hH hi1 hlne hA
  simp only [Value.slice.injEq, true_and] at hv
  obtain ⟨rfl, rfl⟩ := hv
  have hbg := Hp.rowsApart hH hi1 (j := 0) rfl (Nat.succ_ne_zero i)
  obtain ⟨curv, hgv, hcv, hrv, hlv⟩ := Hp.rowAt hH (j := 0) rfl
  have hls := h8.len
  rw [List.length_take, show (GoT.cells Int) = 1 from rfl] at hls
  have hlsv := hrv.len
  rw [show (GoT.cells Int) = 1 from rfl] at h7 h8 hlsv hcv hrv
  have hcurl : cur.toList.length = cap * 1 := by rw [Array.length_toList]; exact h7
  replace hH1 : Hp B A w (obS (α := Int) 3 (.slice (some ⟨b, 0, none⟩) vs.length capv) vs :: L.set i (obO g (.cells cur 3 (0, 0)))) := hH1
  have hgx : ∀ (X : Ob), (obS (α := Int) 3 (.slice (some ⟨b, 0, none⟩) vs.length capv) vs :: L.set i X)[i + 1]? = some X := fun X => by simp [hiL]
  -- what the end of the old row holds
  have htail : ((cur.toList.drop (i0 * 1)).take (l.length * 1 - i0 * 1)).length = (l.length - i0) * 1 := by
    rw [List.length_take, List.length_drop, hcurl, Nat.sub_mul]
    have : l.length * 1 ≤ cap * 1 := Nat.mul_le_mul_right _ h5
    omega
  have hone : ∀ u ∈ (cur.toList.drop (i0 * 1)).take (l.length * 1 - i0 * 1), u.oneCell' = true := fun u hu => by
    refine h8.one u ?_
    rw [← List.drop_take] at hu
    exact List.mem_of_mem_drop hu
  have hi6 : i0 * 1 ≤ l.length * 1 := Nat.mul_le_mul_right _ hil
  have hc6 : l.length * 1 ≤ cap * 1 := Nat.mul_le_mul_right _ h5
  refine C_seq ?_
  refine C_seq ?_
  refine C_region ?_
  refine V_y (Y_move rfl) rfl rfl rfl ?_
  refine V_y (Y_move rfl) rfl rfl rfl ?_
  refine V_y (Y_addI rfl rfl) rfl rfl rfl ?_
  rw [e1]
  refine V_y (Y_move rfl) rfl rfl rfl ?_
  refine V_y (Y_cap (a := some ⟨g, 0, none⟩) (len := l.length) (cap := cap) rfl Tryz.underlying23 rfl) rfl rfl rfl ?_
  refine V_y (Y_gtr rfl rfl) rfl rfl rfl ?_
  refine V_to (fun _ _ => rfl) ?_
  refine C_cond rfl (fun hc2 => ?_) (fun hc2 => ?_)
  · have hroom : cap < l.length + vs.length := by
      have : decide ((cap : Int) < ((l.length + vs.length : Nat) : Int)) = true := hc2
      have := of_decide_eq_true this
      omega
    have hsz : i0 + (l.length + vs.length - i0) = l.length + vs.length := by omega
    refine C_seq ?_
    refine C_region ?_
    refine V_y (Y_move rfl) rfl rfl rfl ?_
    refine V_y (Y_move rfl) rfl rfl rfl ?_
    refine V_y (Y_slHi (sz := 1) (g := g) (len := l.length) (cap := cap) (hi := i0) (k := .i64) (by omega) Tryz.underlying23 Tryz.sizeOf3 rfl rfl) rfl rfl rfl ?_
    refine V_y (Y_move rfl) rfl rfl rfl ?_
    refine V_y (Y_move rfl) rfl rfl rfl ?_
    refine V_y (Y_addI rfl rfl) rfl rfl rfl ?_
    rw [e1]
    refine V_y (Y_move rfl) rfl rfl rfl ?_
    refine V_y (Y_subI rfl rfl) rfl rfl rfl ?_
    rw [e2]
    refine V_appendZ (Dw := Dw) (g := g) (sLen := i0) (sCap := cap) (k := l.length + vs.length - i0) (size := 1) (bytes := 8) (ti := Tryz.t3) (olds := cur.toList.take (i0 * 1)) hH1 Tryz.underlying23 Tryz.underlying3 Tryz_info3 rfl rfl rfl rfl (by decide) (by omega) (by omega) (by omega) (by rw [hsz]; exact hbytes) (by rw [List.length_take, hcurl]; omega) (fun j u hj => by
      rw [List.getElem?_take] at hj
      split at hj
      case isFalse => cases hj
      rw [Nat.zero_add]
      exact row_cell (Hp.objAt hH1 (hgx _)) hj) hB hA rfl rfl rfl ?_
    rw [hsz]
    intro g2 cap2 row w1 A1 hH2 ht1 hc2' hm2 hrs hrt
    have hrl : row.toList.length = cap2 * 1 := by rw [Array.length_toList]; exact hrs
    have hc26 : (l.length + vs.length) * 1 ≤ cap2 * 1 := Nat.mul_le_mul_right _ hc2'
    rw [Nat.add_mul] at hc26
    have hB1 := Nat.le_trans hB ht1.ex.size
    have hA1 := ht1.new
    refine V_y (Y_assign rfl) rfl rfl rfl ?_
    refine V_to (fun _ _ => rfl) ?_
    refine C_seq ?_
    refine C_region ?_
    refine V_y (Y_move rfl) rfl rfl rfl ?_
    refine V_y (Y_move rfl) rfl rfl rfl ?_
    refine V_y (Y_slLo (sz := 1) (g := g2) (o := 0) (len := l.length + vs.length) (cap := cap2) (lo := i0) (k := .i64) (by omega) (by omega) hc2' Tryz.underlying23 Tryz.sizeOf3 rfl rfl) rfl rfl rfl ?_
    refine V_y (Y_move rfl) rfl rfl rfl ?_
    obtain ⟨curw, hgw, hcw, hrw, _⟩ := Hp.rowAt hH2 (j := 1) rfl
    have hlsw := hrw.len
    rw [show (GoT.cells Int) = 1 from rfl] at hrw hlsw
    refine V_copyO (Dw := Dw) (g := g2) (o := 0 + i0 * 1) (N := vs.length) (size := 1) (a := ⟨b, 0, none⟩) (ii := Tryz.t3) (cs := curw.toList.take (vs.length * 1)) hH2 (i := 0) rfl Tryz.underlying23 Tryz_info3 rfl rfl rfl (Nat.min_eq_left (by omega)) hlsw (fun j u hj => by
      rw [List.getElem?_take] at hj
      split at hj
      case isFalse => cases hj
      rw [add_none, Nat.zero_add]
      exact row_cell hgw hj) (by rw [hlsw, ← Array.length_toList, hrl]; omega) hrw.one hB1 hA1 rfl ?_
    intro w2 hH3 ht2
    replace hH3 : Hp B A1 w2 (obO g2 (.cells (row.toList.take (0 + i0 * 1) ++ curw.toList.take (vs.length * 1) ++ row.toList.drop (0 + i0 * 1 + (curw.toList.take (vs.length * 1)).length)).toArray 3 (0, 0)) :: obS (α := Int) 3 (.slice (some ⟨b, 0, none⟩) vs.length capv) vs :: L.set i (obO g (.cells cur 3 (0, 0)))) := hH3
    rw [hlsw, Nat.zero_add] at hH3
    have hB2 := Nat.le_trans hB1 ht2.ex.size
    have hA2 := ht2.new
    have hx1 := ins_grow (X := cur.toList) (R := row.toList) (p := i0 * 1) (q := vs.length * 1) (nn := l.length * 1) (ds := curw.toList.take (vs.length * 1)) (R1 := row.toList.take (i0 * 1) ++ curw.toList.take (vs.length * 1) ++ row.toList.drop (i0 * 1 + vs.length * 1)) hi6 (by omega) (by omega) hrt hlsw rfl
    generalize row.toList.take (i0 * 1) ++ curw.toList.take (vs.length * 1) ++ row.toList.drop (i0 * 1 + vs.length * 1) = R1 at hH3 hx1
    refine V_to (fun _ _ => rfl) ?_
    refine C_seq ?_
    refine C_region_qt (Dw := Dw) 8 Tryz_mixed (by kernel_rfl) ?_
    refine VQ_y (fun w' hw' => Y_move rfl) rfl rfl rfl ?_
    refine VQ_y (fun w' hw' => Y_move rfl) rfl rfl rfl ?_
    refine VQ_y (fun w' hw' => Y_move rfl) rfl rfl rfl ?_
    refine VQ_y (fun w' hw' => Y_addI rfl rfl) rfl rfl rfl ?_
    rw [e3]
    refine VQ_y (fun w' hw' => Y_slLo (sz := 1) (g := g2) (o := 0) (len := l.length + vs.length) (cap := cap2) (lo := i0 + vs.length) (k := .i64) (by omega) (by omega) hc2' Tryz.underlying23 Tryz.sizeOf3 rfl rfl) rfl rfl rfl ?_
    refine VQ_y (fun w' hw' => Y_move rfl) rfl rfl rfl ?_
    refine VQ_y (fun w' hw' => Y_move rfl) rfl rfl rfl ?_
    refine VQ_y (fun w' hw' => Y_slLo (sz := 1) (g := g) (o := 0) (len := l.length) (cap := cap) (lo := i0) (k := .i64) (by omega) (by omega) h5 Tryz.underlying23 Tryz.sizeOf3 rfl rfl) rfl rfl rfl ?_
    refine VQ_tail (fun w3 hk3 => ?_)
    have ht3 := Kp.tr (Dw := Dw) hk3 hA2 hB2
    replace hH3 := Hp.kp (Dw := Dw) hH3 hk3
    have hB3 := Nat.le_trans hB2 ht3.ex.size
    have hA3 := ht3.new
    refine V_copyO (Dw := Dw) (g := g2) (o := 0 + (i0 + vs.length) * 1) (N := l.length - i0) (size := 1) (a := ⟨g, 0 + i0 * 1, none⟩) (ii := Tryz.t3) (cs := (cur.toList.drop (i0 * 1)).take (l.length * 1 - i0 * 1)) hH3 (i := 0) rfl Tryz.underlying23 Tryz_info3 rfl rfl rfl (by rw [show l.length + vs.length - (i0 + vs.length) = l.length - i0 by omega]; exact Nat.min_eq_left (Nat.le_refl _)) htail (fun j u hj => by
      rw [List.getElem?_take] at hj
      split at hj
      case isFalse => cases hj
      rw [List.getElem?_drop] at hj
      rw [add_none, Nat.zero_add]
      exact row_cell (Hp.objAt hH3 (i := i + 2) (g := g) (o := .cells cur 3 (0, 0)) (by simp [hiL])) hj) (by rw [htail, ← Array.length_toList, List.toList_toArray, hx1.2, hrl, Nat.add_mul, Nat.sub_mul]; omega) hone hB3 hA3 rfl ?_
    intro w4 hH4 ht4
    rw [Nat.zero_add, List.toList_toArray, Nat.add_mul] at hH4
    replace hH4 : Hp B A1 w4 (obO g2 (.cells (R1.take (i0 * 1 + vs.length * 1) ++ (cur.toList.drop (i0 * 1)).take (l.length * 1 - i0 * 1) ++ R1.drop (i0 * 1 + vs.length * 1 + ((cur.toList.drop (i0 * 1)).take (l.length * 1 - i0 * 1)).length)).toArray 3 (0, 0)) :: obS (α := Int) 3 (.slice (some ⟨b, 0, none⟩) vs.length capv) vs :: L.set i (obO g (.cells cur 3 (0, 0)))) := hH4
    have hA4 := ht4.new
    have htAll := ((ht1.trans ht2).trans ht3).trans ht4
    have hrep := rows_insert (i0 := i0) (h8.keep htAll.ex) (hrw.keep ((ht2.trans ht3).trans ht4).ex)
    rw [show (GoT.cells Int) = 1 from rfl, ← hx1.1] at hrep
    have hlr : (l.take i0 ++ vs ++ l.drop i0).length = l.length + vs.length := by simp only [List.length_append, List.length_take, List.length_drop]; omega
    have hH5 := Hp.closeS (α := Int) (e := 3) (l := l.take i0 ++ vs ++ l.drop i0) (cap := cap2) hH4 (i := 0) rfl hA4 (by rw [hlr]; exact hc2') hm2 (by
      rw [← Array.length_toList, List.toList_toArray, List.length_append, List.length_append, List.length_take, List.length_drop, htail, hx1.2, hrl, show (GoT.cells Int) = 1 from rfl, Nat.sub_mul]
      omega) (by rw [hlr, List.toList_toArray, show (GoT.cells Int) = 1 from rfl, Nat.add_mul]; exact hrep)
    rw [hlr] at hH5
    have hH6 := (Hp.drop hH5 (i := 1) rfl).takes hiL
    refine V_to (fun _ _ => rfl) ?_
    refine C_seq ?_
    refine C_region ?_
    refine V_y (Y_move rfl) rfl rfl rfl ?_
    refine V_y (Y_assign rfl) rfl rfl rfl ?_
    refine V_to (fun _ _ => rfl) ?_
    refine C_ret ?_
    try simp only [↓inBlock_ret, ↓then_ret]
    exact retQ rfl (Res.one Tryz.results53 rfl) ⟨_, A1, rfl, hH6, htAll⟩
  have hroom : l.length + vs.length ≤ cap := by
    have : decide ((cap : Int) < ((l.length + vs.length : Nat) : Int)) = false := hc2
    have := of_decide_eq_false this
    omega
  have hr6 : (l.length + vs.length) * 1 ≤ cap * 1 := Nat.mul_le_mul_right _ hroom
  rw [Nat.add_mul] at hr6
  have hx1 := fun (ds : List Value) (hd : ds.length = vs.length * 1) => ins_place (X := cur.toList) (p := i0 * 1) (q := vs.length * 1) (nn := l.length * 1) (ds := ds) (X1 := cur.toList.take (i0 * 1 + vs.length * 1) ++ (cur.toList.drop (i0 * 1)).take (l.length * 1 - i0 * 1) ++ cur.toList.drop (i0 * 1 + vs.length * 1 + ((cur.toList.drop (i0 * 1)).take (l.length * 1 - i0 * 1)).length)) hi6 (by omega) hd rfl
  refine C_skip_to (fun _ _ => rfl) ?_
  refine C_seq ?_
  refine C_region ?_
  refine V_y (Y_move rfl) rfl rfl rfl ?_
  refine V_y (Y_move rfl) rfl rfl rfl ?_
  refine V_y (Y_move rfl) rfl rfl rfl ?_
  refine V_y (Y_addI rfl rfl) rfl rfl rfl ?_
  rw [e1]
  refine V_y (Y_slHi (sz := 1) (g := g) (len := l.length) (cap := cap) (hi := l.length + vs.length) (k := .i64) hroom Tryz.underlying23 Tryz.sizeOf3 rfl rfl) rfl rfl rfl ?_
  refine V_y (Y_assign rfl) rfl rfl rfl ?_
  refine V_to (fun _ _ => rfl) ?_
  refine C_seq ?_
  refine C_seq ?_
  refine C_region ?_
  refine V_y (Y_move rfl) rfl rfl rfl ?_
  refine V_y (Y_move rfl) rfl rfl rfl ?_
  refine V_y (Y_move rfl) rfl rfl rfl ?_
  refine V_y (Y_move rfl) rfl rfl rfl ?_
  refine V_y (Y_addI rfl rfl) rfl rfl rfl ?_
  rw [e3]
  refine V_y (Y_slLo (sz := 1) (g := g) (o := 0) (len := l.length + vs.length) (cap := cap) (lo := i0 + vs.length) (k := .i64) (by omega) (by omega) hroom Tryz.underlying23 Tryz.sizeOf3 rfl rfl) rfl rfl rfl ?_
  refine V_y (Y_ext Tryz_ovl90 Tryz_ovlb90.1 Tryz_ovlb90.2 Tryz_ovln90 Tryz_ovlf90 rfl rfl (Go.Lib.run_overlaps_apart w 23 4 3 Tryz.underlying23 1 Tryz.sizeOf3 ⟨b, 0, none⟩ ⟨g, 0 + (i0 + vs.length) * 1, none⟩ vs.length capv (l.length + vs.length - (i0 + vs.length)) (cap - (i0 + vs.length)) hbg 3 3 (capv * 1) (cap * 1) (by simp [World.shape?, hgv, hcv]) (by simp [World.shape?, Hp.objAt hH1 (hgx _), h7]) (by omega) (by simp [World.frozen?, hgv]) (by simp [World.frozen?, hgv]))) rfl rfl rfl ?_
  refine V_y (Y_not rfl) rfl rfl rfl ?_
  refine V_to (fun _ _ => rfl) ?_
  refine C_true rfl ?_
  refine C_seq ?_
  refine C_region_qt (Dw := Dw) 8 Tryz_mixed (by kernel_rfl) ?_
  refine VQ_y (fun w' hw' => Y_move rfl) rfl rfl rfl ?_
  refine VQ_y (fun w' hw' => Y_move rfl) rfl rfl rfl ?_
  refine VQ_y (fun w' hw' => Y_move rfl) rfl rfl rfl ?_
  refine VQ_y (fun w' hw' => Y_addI rfl rfl) rfl rfl rfl ?_
  rw [e3]
  refine VQ_y (fun w' hw' => Y_slLo (sz := 1) (g := g) (o := 0) (len := l.length + vs.length) (cap := cap) (lo := i0 + vs.length) (k := .i64) (by omega) (by omega) hroom Tryz.underlying23 Tryz.sizeOf3 rfl rfl) rfl rfl rfl ?_
  refine VQ_y (fun w' hw' => Y_move rfl) rfl rfl rfl ?_
  refine VQ_y (fun w' hw' => Y_move rfl) rfl rfl rfl ?_
  refine VQ_y (fun w' hw' => Y_slLo (sz := 1) (g := g) (o := 0) (len := l.length + vs.length) (cap := cap) (lo := i0) (k := .i64) (by omega) (by omega) hroom Tryz.underlying23 Tryz.sizeOf3 rfl rfl) rfl rfl rfl ?_
  refine VQ_tail (fun w1 hk1 => ?_)
  have ht1 := Kp.tr (Dw := Dw) hk1 hA hB
  replace hH1 := Hp.kp (Dw := Dw) hH1 hk1
  have hB1 := Nat.le_trans hB ht1.ex.size
  have hA1 := ht1.new
  refine V_copyO (Dw := Dw) (g := g) (o := 0 + (i0 + vs.length) * 1) (N := l.length - i0) (size := 1) (a := ⟨g, 0 + i0 * 1, none⟩) (ii := Tryz.t3) (cs := (cur.toList.drop (i0 * 1)).take (l.length * 1 - i0 * 1)) hH1 (i := i + 1) (hgx _) Tryz.underlying23 Tryz_info3 rfl rfl rfl (by rw [show l.length + vs.length - (i0 + vs.length) = l.length - i0 by omega]; exact Nat.min_eq_right (by omega)) htail (fun j u hj => by
    rw [List.getElem?_take] at hj
    split at hj
    case isFalse => cases hj
    rw [List.getElem?_drop] at hj
    rw [add_none, Nat.zero_add]
    exact row_cell (Hp.objAt hH1 (hgx _)) hj) (by rw [htail, ← Array.length_toList, hcurl, Nat.add_mul, Nat.sub_mul]; omega) hone hB1 hA1 rfl ?_
  intro w2 hH2 ht2
  rw [Nat.zero_add, Nat.add_mul, List.set_cons_succ, List.set_set] at hH2
  generalize cur.toList.take (i0 * 1 + vs.length * 1) ++ (cur.toList.drop (i0 * 1)).take (l.length * 1 - i0 * 1) ++ cur.toList.drop (i0 * 1 + vs.length * 1 + ((cur.toList.drop (i0 * 1)).take (l.length * 1 - i0 * 1)).length) = X1 at hH2 hx1
  have hB2 := Nat.le_trans hB1 ht2.ex.size
  have hA2 := ht2.new
  refine V_to (fun _ _ => rfl) ?_
  refine C_seq ?_
  refine C_region ?_
  refine V_y (Y_move rfl) rfl rfl rfl ?_
  refine V_y (Y_move rfl) rfl rfl rfl ?_
  refine V_y (Y_slLo (sz := 1) (g := g) (o := 0) (len := l.length + vs.length) (cap := cap) (lo := i0) (k := .i64) (by omega) (by omega) hroom Tryz.underlying23 Tryz.sizeOf3 rfl rfl) rfl rfl rfl ?_
  refine V_y (Y_move rfl) rfl rfl rfl ?_
  obtain ⟨curw, hgw, hcw, hrw, _⟩ := Hp.rowAt hH2 (j := 0) rfl
  have hlsw := hrw.len
  rw [show (GoT.cells Int) = 1 from rfl] at hrw hlsw
  replace hx1 := hx1 _ hlsw
  refine V_copyO (Dw := Dw) (g := g) (o := 0 + i0 * 1) (N := vs.length) (size := 1) (a := ⟨b, 0, none⟩) (ii := Tryz.t3) (cs := curw.toList.take (vs.length * 1)) hH2 (i := i + 1) (hgx _) Tryz.underlying23 Tryz_info3 rfl rfl rfl (Nat.min_eq_left (by omega)) hlsw (fun j u hj => by
    rw [List.getElem?_take] at hj
    split at hj
    case isFalse => cases hj
    rw [add_none, Nat.zero_add]
    exact row_cell hgw hj) (by rw [hlsw, ← Array.length_toList, List.toList_toArray, hx1.2, hcurl]; omega) hrw.one hB2 hA2 rfl ?_
  intro w3 hH3 ht3
  rw [hlsw, Nat.zero_add, List.toList_toArray, List.set_cons_succ, List.set_set] at hH3
  have hA3 := ht3.new
  have htAll := (ht1.trans ht2).trans ht3
  have hrep := rows_insert (i0 := i0) (h8.keep htAll.ex) (hrw.keep ht3.ex)
  rw [show (GoT.cells Int) = 1 from rfl, ← hx1.1] at hrep
  have hlr : (l.take i0 ++ vs ++ l.drop i0).length = l.length + vs.length := by simp only [List.length_append, List.length_take, List.length_drop]; omega
  have hH5 := Hp.closeS (α := Int) (e := 3) (l := l.take i0 ++ vs ++ l.drop i0) (cap := cap) hH3 (i := i + 1) (hgx _) hA3 (by rw [hlr]; exact hroom) h6 (by
    rw [← Array.length_toList, List.toList_toArray, List.length_append, List.length_append, List.length_take, List.length_drop, hlsw, hx1.2, hcurl, show (GoT.cells Int) = 1 from rfl]
    omega) (by rw [hlr, List.toList_toArray, show (GoT.cells Int) = 1 from rfl, Nat.add_mul]; exact hrep)
  rw [hlr, List.set_cons_succ, List.set_set] at hH5
  have hH6 := Hp.drop hH5 (i := 0) rfl
  refine V_to (fun _ _ => rfl) ?_
  refine C_seq ?_
  refine C_region ?_
  refine V_y (Y_move rfl) rfl rfl rfl ?_
  refine V_y (Y_assign rfl) rfl rfl rfl ?_
  refine V_to (fun _ _ => rfl) ?_
  refine C_ret ?_
  try simp only [↓inBlock_ret, ↓then_ret]
  exact retQ rfl (Res.one Tryz.results53 rfl) ⟨_, A, rfl, hH6, htAll⟩

set_option maxRecDepth 4000 in
set_option maxHeartbeats 4000000 in
theorem know_merged_know_Term_c (w : World) {A : Nat → Prop} {B : Nat} (hB : B ≤ w.heap.size) (hA : ∀ b, w.heap.size ≤ b → A b) (a_ : (List know_Term)) (v_a_ : Value) (h_a_ : Sl A w v_a_ a_) (b : (List know_Term)) (v_b : Value) (h_b : Sl A w v_b b) (compare : know_Term → know_Term → Option Int) (compare_f : FuncId) (compare_a compare_c : Array Value) (compare_call : ∀ (args : Array Value) (w : World), (callFunc compare_f args).run Tryz.prog w = .ok (.enter compare_f args) w) (compare_spec : ∀ (w1 : World) (A1 : Nat → Prop), Tr Dw B A w A1 w1 → (∀ b, w1.heap.size ≤ b → A1 b) → ∀ (y0 : know_Term) (v1 : Value) (h2 : Sl A1 w1 v1 y0.list_) (y1 : know_Term) (v3 : Value) (h4 : Sl A1 w1 v3 y1.list_) (r : Int), compare y0 y1 = some r → Ret Tryz.prog compare_f (compare_a ++ #[.agg #[.string y0.word, v1], .agg #[.string y1.word, v3]] ++ compare_c) w1 fun v w' => v = .int .i64 r ∧ Kp Dw w1 w') {L : List Ob} (hH : Hp B A w (L)) {r : (List know_Term)} (hm : know_merged_know_Term a_ b compare = some r) : Ret Tryz.prog 77 #[v_a_, v_b, .func (.func compare_f) compare_a compare_c] w fun v w' => ∃ s0, ∃ A1 : Nat → Prop, v = s0 ∧ Hp B A1 w' (obS (α := know_Term) 83 s0 r :: L) ∧ Tr Dw B A w A1 w' := by
  unfold know_merged_know_Term at hm
  refine enter Tryz.func77 rfl Tryz.ntmps77 rfl ?_
  have hK : Tr Dw B A w A w := Tr.refl (Dw := Dw) hA
  refine C_seq ?_
  refine C_region ?_
  refine V_y (Y_assign rfl) rfl rfl rfl ?_
  refine V_to (fun _ _ => rfl) ?_
  refine C_seq ?_
  refine C_region ?_
  refine V_y (Y_assign rfl) rfl rfl rfl ?_
  refine V_to (fun _ _ => rfl) ?_
  refine C_seq ?_
  replace hH : Hp B A w (obS (α := know_Term) 83 (.slice none 0 0) ([] : (List know_Term)) :: L) := Hp.addNil (α := know_Term) (e := 83) hH
  obtain ⟨o5, ho5, hm⟩ := Option.bind_eq_some_iff.1 hm
  refine C_cutG (ι := (((List know_Term) × (List know_Term) × (List know_Term)) × Value × Value × Value × (Nat → Prop))) (fun ⟨s6, v12, v14, v16, A18⟩ => [(0, v12), (1, v14), (7, v16)]) (fun ⟨s6, v12, v14, v16, A18⟩ => fun w' => o5 = .fin s6 ∧ Sl A18 w' v12 s6.1 ∧ Sl A18 w' v14 s6.2.1 ∧ Hp B A18 w' (obS (α := know_Term) 83 v16 s6.2.2 :: L) ∧ Tr Dw B A w A18 w') ?_ ?_
  · refine C_block ?_
    refine C_while ho5 (fun s20 a w' => ∃ i : (Value × Value × Value × (Nat → Prop)), Has ⟨52, [], none⟩ a ([(0, i.1), (1, i.2.1), (2, .func (.func compare_f) compare_a compare_c), (7, i.2.2.1)]) ∧ Sl i.2.2.2 w' i.1 s20.1 ∧ Sl i.2.2.2 w' i.2.1 s20.2.1 ∧ Hp B i.2.2.2 w' (obS (α := know_Term) 83 i.2.2.1 s20.2.2 :: L) ∧ Tr Dw B A w i.2.2.2 w') (fun a ha => ⟨(v_a_, v_b, .slice none 0 0, A), ha.sub ⟨rfl, rfl, rfl, rfl, trivial⟩, ⟨h_a_, h_b, hH, Tr.refl (Dw := Dw) hA⟩⟩) ?_
    rintro K s20 a w21 ⟨⟨v22, v24, v26, A28⟩, ha137, h23, h25, hH29, hr7⟩ K36
    refine C_of ?_ ha137
    replace hK := Tr.trans (Dw := Dw) hK hr7
    replace hB := Nat.le_trans hB hr7.ex.size
    replace hA := hr7.new
    replace hH : Hp B A28 w21 (obS (α := know_Term) 83 v26 s20.2.2 :: L) := hH29
    obtain ⟨x30, h31, h32⟩ := K36
    refine C_seq ?_
    refine C_seq ?_
    refine C_region ?_
    refine V_y (Y_move rfl) rfl rfl rfl ?_
    refine V_y (Y_lenSl h23 rfl Tryz.underlying24 rfl) rfl rfl rfl ?_
    refine V_y (Y_gtr rfl rfl) rfl rfl rfl ?_
    refine V_y (Y_move rfl) rfl rfl rfl ?_
    refine V_cut 4 (fun _ : Unit => [(0, v22), (1, v24), (2, .func (.func compare_f) compare_a compare_c), (7, v26), (16, .bool ((decide ((0 : Int) < (s20.1.length : Int))) && (decide ((0 : Int) < (s20.2.1.length : Int)))))]) (fun _ w' => w21 = w') ?_ ?_
    · simp only [List.take, List.drop]
      rcases Bool.eq_false_or_eq_true (decide ((0 : Int) < (s20.1.length : Int))) with hc37 | hc37
      · refine V_ge rfl rfl rfl hc37 ?_
        refine V_y (Y_move rfl) rfl rfl rfl ?_
        refine V_ge rfl rfl rfl hc37 ?_
        refine V_y (Y_lenSl h25 rfl Tryz.underlying24 rfl) rfl rfl rfl ?_
        refine V_ge rfl rfl rfl hc37 ?_
        refine V_y (Y_gtr rfl rfl) rfl rfl rfl ?_
        refine V_y (Y_pick_te rfl hc37 rfl) rfl rfl rfl ?_
        exact V_end fun a ha => ⟨(), ha.sub ⟨rfl, rfl, rfl, rfl, (by rw [hc37]; rfl), trivial⟩, rfl⟩
      · refine V_gn rfl rfl rfl hc37 rfl rfl rfl ?_
        refine V_gn rfl rfl rfl hc37 rfl rfl rfl ?_
        refine V_gn rfl rfl rfl hc37 rfl rfl rfl ?_
        refine V_y (Y_pick_fe rfl hc37 rfl) rfl rfl rfl ?_
        exact V_end fun a ha => ⟨(), ha.sub ⟨rfl, rfl, rfl, rfl, (by rw [hc37]; rfl), trivial⟩, rfl⟩
    simp only [List.take, List.drop]
    rintro _ _ rfl
    refine V_to (fun _ _ => rfl) ?_
    refine C_cond rfl (fun hc39 => ?_) (fun hc39 => ?_)
    · rw [if_pos hc39] at h31
      refine C_skip_to (fun _ _ => rfl) ?_
      obtain ⟨s41, ho40, h31⟩ := Option.bind_eq_some_iff.1 h31
      refine C_cutG (ι := (Value × Value × Value × (Nat → Prop))) (fun ⟨v43, v45, v47, A52⟩ => [(0, v43), (1, v45), (2, .func (.func compare_f) compare_a compare_c), (7, v47)]) (fun ⟨v43, v45, v47, A52⟩ => fun w' => Sl A52 w' v43 s41.1 ∧ Sl A52 w' v45 s41.2.1 ∧ Hp B A52 w' (obS (α := know_Term) 83 v47 s41.2.2 :: L) ∧ Tr Dw B A28 w21 A52 w') ?_ ?_
      · have hr42 : Tr Dw B A28 w21 A28 w21 := Tr.refl (Dw := Dw) hA
        refine C_block ?_
        refine C_seq ?_
        refine C_region_q (Dw := Dw) Tryz_mixed (by kernel_rfl) ?_
        refine VQ_y (fun w' hw' => Y_move rfl) rfl rfl rfl ?_
        refine VQ_y (fun w' hw' => Y_move rfl) rfl rfl rfl ?_
        obtain ⟨x54, hx54, ho40⟩ := Option.bind_eq_some_iff.1 ho40
        refine VQ_indexAddr h23 hx54 Tryz.underlying24 Tryz.sizeOf83 rfl rfl rfl ?_
        intro b55 o56 h57
        obtain ⟨v58, h60, h59⟩ := El_know_Term h57
        refine VQ_y (fun w' hw' => Y_loadA (At.kp (Dw := Dw) h60 hw' h57.2.1) Tryz.isAgg83 Tryz.sizeOf83 rfl) rfl rfl rfl ?_
        refine VQ_y (fun w' hw' => Y_move rfl) rfl rfl rfl ?_
        obtain ⟨x61, hx61, ho40⟩ := Option.bind_eq_some_iff.1 ho40
        refine VQ_indexAddr h25 hx61 Tryz.underlying24 Tryz.sizeOf83 rfl rfl rfl ?_
        intro b62 o63 h64
        obtain ⟨v65, h67, h66⟩ := El_know_Term h64
        refine VQ_y (fun w' hw' => Y_loadA (At.kp (Dw := Dw) h67 hw' h64.2.1) Tryz.isAgg83 Tryz.sizeOf83 rfl) rfl rfl rfl ?_
        obtain ⟨x68, hx68, ho40⟩ := Option.bind_eq_some_iff.1 ho40
        refine VQ_call (.int .i64 x68) compare_call rfl rfl rfl rfl (fun w' hw' => (compare_spec w' _ (Tr.trans (Dw := Dw) hK (Kp.tr (Dw := Dw) hw' hA hB)) (fun b hb => hA b (Nat.le_trans hw'.size hb)) x54 v58 (Sl.kp (Dw := Dw) h59 hw') x61 v65 (Sl.kp (Dw := Dw) h66 hw') _ hx68).mono fun _ _ h => ⟨h.1, Kp.trans (Dw := Dw) hw' h.2⟩) ?_
        refine VQ_y (fun w' hw' => Y_assign rfl) rfl rfl rfl ?_
        refine VQ_to (fun _ _ => rfl) (fun w69 hk70 => ?_)
        have ht71 := Kp.tr (Dw := Dw) hk70 hA hB
        replace hH := Hp.kp (Dw := Dw) hH hk70
        replace h23 := Sl.tr (Dw := Dw) h23 ht71
        replace h25 := Sl.tr (Dw := Dw) h25 ht71
        replace hK := Tr.trans (Dw := Dw) hK ht71
        replace hr7 := Tr.trans (Dw := Dw) hr7 ht71
        replace hr42 := Tr.trans (Dw := Dw) hr42 ht71
        replace hB := Nat.le_trans hB ht71.ex.size
        replace hA := ht71.new
        refine C_seq ?_
        refine C_seq ?_
        refine C_region ?_
        refine V_y (Y_move rfl) rfl rfl rfl ?_
        refine V_y (Y_lss rfl rfl) rfl rfl rfl ?_
        refine V_to (fun _ _ => rfl) ?_
        refine C_cond rfl (fun hc72 => ?_) (fun hc72 => ?_)
        · rw [if_pos hc72] at ho40
          refine C_seq ?_
          refine C_region ?_
          refine V_y (Y_move rfl) rfl rfl rfl ?_
          refine V_y (Y_move rfl) rfl rfl rfl ?_
          refine V_indexAddr h23 hx54 Tryz.underlying24 Tryz.sizeOf83 rfl rfl rfl ?_
          intro b73 o74 h75
          obtain ⟨v76, h78, h77⟩ := El_know_Term h75
          refine V_y (Y_loadA h78 Tryz.isAgg83 Tryz.sizeOf83 rfl) rfl rfl rfl ?_
          refine V_buildSlice (Dw := Dw) (cells := #[.string x54.word, v76]) (l := ([x54] : List know_Term)) (len := 1) Tryz.underlying24 Tryz.sizeOf83 Tryz.zeroValue83 rfl (by obtain ⟨a83, c84, e85, _⟩ := Sl.form h77; subst e85; kernel_rfl) (show (1 * 2 : Nat) ≠ 0 by decide) (show (1 * 2 : Nat) ≤ 2 ^ 24 by decide) hA ⟨[.string x54.word, v76], _, rfl, ⟨[.string x54.word], _, rfl, rfl, ⟨_, rfl, h77⟩⟩, rfl⟩ rfl rfl ?_
          intro v79 w80 hk82 h81
          have ht86 := Kp.tr (Dw := Dw) hk82 hA hB
          replace hH := Hp.kp (Dw := Dw) hH hk82
          replace h23 := Sl.tr (Dw := Dw) h23 ht86
          replace h25 := Sl.tr (Dw := Dw) h25 ht86
          replace h75 := El.tr (Dw := Dw) h75 ht86
          replace h77 := Sl.tr (Dw := Dw) h77 ht86
          replace hK := Tr.trans (Dw := Dw) hK ht86
          replace hr7 := Tr.trans (Dw := Dw) hr7 ht86
          replace hr42 := Tr.trans (Dw := Dw) hr42 ht86
          replace hB := Nat.le_trans hB ht86.ex.size
          replace hA := ht86.new
          obtain ⟨x87, hx87, ho40⟩ := Option.bind_eq_some_iff.1 ho40
          refine V_appendH (Dw := Dw) (e := 83) (v := v26) (l := s20.2.2) (ti := Tryz.t83) (bytes := 40) (lim := 3518437208883) hH (i := 0) rfl h81 hx87 Tryz.underlying24 Tryz_info83 rfl rfl rfl rfl (by decide) (by decide) (by decide) hB hA rfl rfl rfl ?_
          intro v88 w89 A90 hH91 ht92
          replace h23 := Sl.tr (Dw := Dw) h23 ht92
          replace h25 := Sl.tr (Dw := Dw) h25 ht92
          replace h75 := El.tr (Dw := Dw) h75 ht92
          replace h77 := Sl.tr (Dw := Dw) h77 ht92
          replace h81 := Sl.tr (Dw := Dw) h81 ht92
          replace hK := Tr.trans (Dw := Dw) hK ht92
          replace hr7 := Tr.trans (Dw := Dw) hr7 ht92
          replace hr42 := Tr.trans (Dw := Dw) hr42 ht92
          replace hB := Nat.le_trans hB ht92.ex.size
          replace hA := ht92.new
          replace hH : Hp B A90 w89 (obS (α := know_Term) 83 v88 x87 :: L) := hH91
          refine V_y (Y_assign rfl) rfl rfl rfl ?_
          refine V_to (fun _ _ => rfl) ?_
          refine C_seq ?_
          refine C_region ?_
          refine V_y (Y_move rfl) rfl rfl rfl ?_
          obtain ⟨x93, hx93, ho40⟩ := Option.bind_eq_some_iff.1 ho40
          obtain ⟨v94, h95, h95y⟩ := sliceL_val hx93 h23
          refine V_y (Y_sliceLL h95y Tryz.underlying24 Tryz.sizeOf83 rfl rfl) rfl rfl rfl ?_
          refine V_y (Y_assign rfl) rfl rfl rfl ?_
          refine V_to (fun _ _ => rfl) ?_
          obtain rfl := Option.some.inj ho40
          refine C_exit (fun a ha96 => ?_)
          exact ⟨(v94, v24, v88, A90), ha96.sub ⟨rfl, rfl, rfl, rfl, trivial⟩, ⟨h95, h25, hH, hr42⟩⟩
        · rw [if_neg (nt hc72)] at ho40
          refine C_skip_to (fun _ _ => rfl) ?_
          refine C_seq ?_
          refine C_seq ?_
          refine C_region ?_
          refine V_y (Y_move rfl) rfl rfl rfl ?_
          refine V_y (Y_eql rfl rfl) rfl rfl rfl ?_
          refine V_to (fun _ _ => rfl) ?_
          obtain ⟨s98, ho97, ho40⟩ := Option.bind_eq_some_iff.1 ho40
          refine C_cutG (ι := Value) (fun (v100 : Value) => [(0, v100), (1, v24), (2, .func (.func compare_f) compare_a compare_c), (7, v26)]) (fun (v100 : Value) => fun w' => Sl A28 w' v100 s98 ∧ w69 = w') ?_ ?_
          · refine C_cond rfl (fun hc105 => ?_) (fun hc105 => ?_)
            · rw [if_pos hc105] at ho97
              refine C_region ?_
              refine V_y (Y_move rfl) rfl rfl rfl ?_
              obtain ⟨x106, hx106, ho97⟩ := Option.bind_eq_some_iff.1 ho97
              obtain ⟨v107, h108, h108y⟩ := sliceL_val hx106 h23
              refine V_y (Y_sliceLL h108y Tryz.underlying24 Tryz.sizeOf83 rfl rfl) rfl rfl rfl ?_
              refine V_y (Y_assign rfl) rfl rfl rfl ?_
              obtain rfl := Option.some.inj ho97
              refine V_end (fun a ha109 => ?_)
              exact ⟨v107, ha109.sub ⟨rfl, rfl, rfl, rfl, trivial⟩, ⟨h108, rfl⟩⟩
            · rw [if_neg (nt hc105)] at ho97
              obtain rfl := Option.some.inj ho97
              refine C_skip (fun a ha110 => ?_)
              exact ⟨v22, ha110.sub ⟨rfl, rfl, rfl, rfl, trivial⟩, ⟨h23, rfl⟩⟩
          rintro v100 _ ⟨h101, rfl⟩ a ha104
          refine C_at (n := ⟨52, [], none⟩) (fun _ _ => rfl) ?_ ha104
          refine C_seq ?_
          refine C_region ?_
          refine V_y (Y_move rfl) rfl rfl rfl ?_
          refine V_y (Y_move rfl) rfl rfl rfl ?_
          refine V_indexAddr h25 hx61 Tryz.underlying24 Tryz.sizeOf83 rfl rfl rfl ?_
          intro b111 o112 h113
          obtain ⟨v114, h116, h115⟩ := El_know_Term h113
          refine V_y (Y_loadA h116 Tryz.isAgg83 Tryz.sizeOf83 rfl) rfl rfl rfl ?_
          refine V_buildSlice (Dw := Dw) (cells := #[.string x61.word, v114]) (l := ([x61] : List know_Term)) (len := 1) Tryz.underlying24 Tryz.sizeOf83 Tryz.zeroValue83 rfl (by obtain ⟨a121, c122, e123, _⟩ := Sl.form h115; subst e123; kernel_rfl) (show (1 * 2 : Nat) ≠ 0 by decide) (show (1 * 2 : Nat) ≤ 2 ^ 24 by decide) hA ⟨[.string x61.word, v114], _, rfl, ⟨[.string x61.word], _, rfl, rfl, ⟨_, rfl, h115⟩⟩, rfl⟩ rfl rfl ?_
          intro v117 w118 hk120 h119
          have ht124 := Kp.tr (Dw := Dw) hk120 hA hB
          replace hH := Hp.kp (Dw := Dw) hH hk120
          replace h25 := Sl.tr (Dw := Dw) h25 ht124
          replace h101 := Sl.tr (Dw := Dw) h101 ht124
          replace h113 := El.tr (Dw := Dw) h113 ht124
          replace h115 := Sl.tr (Dw := Dw) h115 ht124
          replace hK := Tr.trans (Dw := Dw) hK ht124
          replace hr7 := Tr.trans (Dw := Dw) hr7 ht124
          replace hr42 := Tr.trans (Dw := Dw) hr42 ht124
          replace hB := Nat.le_trans hB ht124.ex.size
          replace hA := ht124.new
          obtain ⟨x125, hx125, ho40⟩ := Option.bind_eq_some_iff.1 ho40
          refine V_appendH (Dw := Dw) (e := 83) (v := v26) (l := s20.2.2) (ti := Tryz.t83) (bytes := 40) (lim := 3518437208883) hH (i := 0) rfl h119 hx125 Tryz.underlying24 Tryz_info83 rfl rfl rfl rfl (by decide) (by decide) (by decide) hB hA rfl rfl rfl ?_
          intro v126 w127 A128 hH129 ht130
          replace h25 := Sl.tr (Dw := Dw) h25 ht130
          replace h101 := Sl.tr (Dw := Dw) h101 ht130
          replace h113 := El.tr (Dw := Dw) h113 ht130
          replace h115 := Sl.tr (Dw := Dw) h115 ht130
          replace h119 := Sl.tr (Dw := Dw) h119 ht130
          replace hK := Tr.trans (Dw := Dw) hK ht130
          replace hr7 := Tr.trans (Dw := Dw) hr7 ht130
          replace hr42 := Tr.trans (Dw := Dw) hr42 ht130
          replace hB := Nat.le_trans hB ht130.ex.size
          replace hA := ht130.new
          replace hH : Hp B A128 w127 (obS (α := know_Term) 83 v126 x125 :: L) := hH129
          refine V_y (Y_assign rfl) rfl rfl rfl ?_
          refine V_to (fun _ _ => rfl) ?_
          refine C_region ?_
          refine V_y (Y_move rfl) rfl rfl rfl ?_
          obtain ⟨x131, hx131, ho40⟩ := Option.bind_eq_some_iff.1 ho40
          obtain ⟨v132, h133, h133y⟩ := sliceL_val hx131 h25
          refine V_y (Y_sliceLL h133y Tryz.underlying24 Tryz.sizeOf83 rfl rfl) rfl rfl rfl ?_
          refine V_y (Y_assign rfl) rfl rfl rfl ?_
          obtain rfl := Option.some.inj ho40
          refine V_end (fun a ha134 => ?_)
          exact ⟨(v100, v132, v126, A128), ha134.sub ⟨rfl, rfl, rfl, rfl, trivial⟩, ⟨h101, h133, hH, hr42⟩⟩
      rintro ⟨v43, v45, v47, A52⟩ w49 ⟨h44, h46, hH53, hk50⟩ a ha51
      replace hK := Tr.trans (Dw := Dw) hK hk50
      replace hr7 := Tr.trans (Dw := Dw) hr7 hk50
      replace hB := Nat.le_trans hB hk50.ex.size
      replace hA := hk50.new
      replace hH : Hp B A52 w49 (obS (α := know_Term) 83 v47 s41.2.2 :: L) := hH53
      obtain rfl := Option.some.inj h31
      exact ⟨(s41.1, s41.2.1, s41.2.2), h32, ⟨(v43, v45, v47, A52), ha51.sub ⟨rfl, rfl, rfl, rfl, trivial⟩, ⟨h44, h46, hH, hr7⟩⟩⟩
    · rw [if_neg (nt hc39)] at h31
      obtain rfl := Option.some.inj h31
      refine C_exit (fun a ha136 => ?_)
      exact ⟨((s20.1, s20.2.1, s20.2.2), v22, v24, v26, A28), ha136.sub ⟨rfl, rfl, rfl, trivial⟩, ⟨h32.symm, h23, h25, hH, hr7⟩⟩
  rintro ⟨s6, v12, v14, v16, A18⟩ w9 ⟨rfl, h13, h15, hH19, hk10⟩ a ha11
  rw [Lp.andThen_fin] at hm
  replace hK := Tr.trans (Dw := Dw) hK hk10
  replace hB := Nat.le_trans hB hk10.ex.size
  replace hA := hk10.new
  replace hH : Hp B A18 w9 (obS (α := know_Term) 83 v16 s6.2.2 :: L) := hH19
  refine C_at (n := ⟨52, [], none⟩) (fun _ _ => rfl) ?_ ha11
  refine C_seq ?_
  refine C_region ?_
  refine V_y (Y_move rfl) rfl rfl rfl ?_
  refine V_y (Y_move rfl) rfl rfl rfl ?_
  obtain ⟨x138, hx138, hm⟩ := Option.bind_eq_some_iff.1 hm
  refine V_appendH (Dw := Dw) (e := 83) (v := v16) (l := s6.2.2) (ti := Tryz.t83) (bytes := 40) (lim := 3518437208883) hH (i := 0) rfl h13 hx138 Tryz.underlying24 Tryz_info83 rfl rfl rfl rfl (by decide) (by decide) (by decide) hB hA rfl rfl rfl ?_
  intro v139 w140 A141 hH142 ht143
  replace h13 := Sl.tr (Dw := Dw) h13 ht143
  replace h15 := Sl.tr (Dw := Dw) h15 ht143
  replace hK := Tr.trans (Dw := Dw) hK ht143
  replace hB := Nat.le_trans hB ht143.ex.size
  replace hA := ht143.new
  replace hH : Hp B A141 w140 (obS (α := know_Term) 83 v139 x138 :: L) := hH142
  refine V_y (Y_move rfl) rfl rfl rfl ?_
  obtain ⟨x144, hx144, hm⟩ := Option.bind_eq_some_iff.1 hm
  refine V_appendH (Dw := Dw) (e := 83) (v := v139) (l := x138) (ti := Tryz.t83) (bytes := 40) (lim := 3518437208883) hH (i := 0) rfl h15 hx144 Tryz.underlying24 Tryz_info83 rfl rfl rfl rfl (by decide) (by decide) (by decide) hB hA rfl rfl rfl ?_
  intro v145 w146 A147 hH148 ht149
  replace h13 := Sl.tr (Dw := Dw) h13 ht149
  replace h15 := Sl.tr (Dw := Dw) h15 ht149
  replace hK := Tr.trans (Dw := Dw) hK ht149
  replace hB := Nat.le_trans hB ht149.ex.size
  replace hA := ht149.new
  replace hH : Hp B A147 w146 (obS (α := know_Term) 83 v145 x144 :: L) := hH148
  refine V_y (Y_assign rfl) rfl rfl rfl ?_
  refine V_to (fun _ _ => rfl) ?_
  obtain rfl := Option.some.inj hm
  refine C_ret ?_
  try simp only [↓inBlock_ret, ↓then_ret]
  exact retQ rfl (Res.one Tryz.results77 rfl) ⟨v145, A147, rfl, hH, hK⟩

set_option maxRecDepth 4000 in
set_option maxHeartbeats 4000000 in
theorem know_Index_with_c (w : World) {A : Nat → Prop} (hA : ∀ b, w.heap.size ≤ b → A b) (x : know_Index) (v_x0 : Value) (h_x0 : Sl A w v_x0 x.ids) (v_x1 : Value) (h_x1 : Sl A w v_x1 x.sizes) (v_x2 : Value) (h_x2 : Sl A w v_x2 x.terms) (v : know_Entry) {r : know_Index} (hm : know_Index_with x v = some r) : Ret Tryz.prog 15 #[.agg #[v_x0, v_x1, v_x2], .agg #[.int .i64 v.id_, .string v.title, .string v.body]] w fun v w' => ∃ s0 s1 s2, v = .agg #[s0, s1, s2] ∧ Sl A w' s0 r.ids ∧ Sl A w' s1 r.sizes ∧ Sl A w' s2 r.terms ∧ Kp Dw w w' := by
  unfold know_Index_with at hm
  refine enter Tryz.func15 rfl Tryz.ntmps15 rfl ?_
  have hA0 := hA
  have hB := Nat.le_refl w.heap.size
  have hK : Tr Dw w.heap.size A w A w := Tr.refl (Dw := Dw) hA
  have hH : Hp w.heap.size A w [] := Hp.nil
  refine C_seq ?_
  refine C_region ?_
  refine V_boxH (Dw := Dw) (B := w.heap.size) hH rfl hB hA rfl ?_
  intro b7 w9 A10 hH11 ht12
  replace h_x0 := Sl.tr (Dw := Dw) h_x0 ht12
  replace h_x1 := Sl.tr (Dw := Dw) h_x1 ht12
  replace h_x2 := Sl.tr (Dw := Dw) h_x2 ht12
  replace hK := Tr.trans (Dw := Dw) hK ht12
  replace hB := Nat.le_trans hB ht12.ex.size
  replace hA := ht12.new
  replace hH : Hp w.heap.size A10 w9 (obC b7 [v_x0, v_x1, v_x2] 26 :: []) := hH11
  refine V_box rfl rfl ?_
  intro b13 w14 h15
  have hk17 := h15.kp (Dw := Dw)
  have h16 : El (α := know_Entry) A10 w14 b13 0 v := h15.el hA ⟨[.int .i64 v.id_], _, rfl, rfl, ⟨[.string v.title], _, rfl, rfl, rfl⟩⟩
  have ht18 := Kp.tr (Dw := Dw) hk17 hA hB
  replace hH := Hp.kp (Dw := Dw) hH hk17
  replace h_x0 := Sl.tr (Dw := Dw) h_x0 ht18
  replace h_x1 := Sl.tr (Dw := Dw) h_x1 ht18
  replace h_x2 := Sl.tr (Dw := Dw) h_x2 ht18
  replace hK := Tr.trans (Dw := Dw) hK ht18
  replace hB := Nat.le_trans hB ht18.ex.size
  replace hA := ht18.new
  refine V_allocH (Dw := Dw) (B := w.heap.size) hH Tryz.zeroValue26 hB hA rfl ?_
  intro b19 w20 A21 hH22 ht23
  replace h_x0 := Sl.tr (Dw := Dw) h_x0 ht23
  replace h_x1 := Sl.tr (Dw := Dw) h_x1 ht23
  replace h_x2 := Sl.tr (Dw := Dw) h_x2 ht23
  replace h16 := El.tr (Dw := Dw) h16 ht23
  replace hK := Tr.trans (Dw := Dw) hK ht23
  replace hB := Nat.le_trans hB ht23.ex.size
  replace hA := ht23.new
  replace hH : Hp w.heap.size A21 w20 (obC b19 [.slice none 0 0, .slice none 0 0, .slice none 0 0] 26 :: obC b7 [v_x0, v_x1, v_x2] 26 :: []) := hH22
  refine V_to (fun _ _ => rfl) ?_
  refine C_seq ?_
  refine C_region ?_
  obtain ⟨h24, _⟩ := El_know_Entry h16
  refine V_y (Y_loadA h24 Tryz.isAgg33 Tryz.sizeOf33 rfl) rfl rfl rfl ?_
  obtain ⟨x25, hx25, hm⟩ := Option.bind_eq_some_iff.1 hm
  refine V_call Tryz.call71 rfl rfl rfl rfl (know_postings_c (Dw := Dw) w20 hB hA v hH hx25) ?_
  rintro _ w28 ⟨v26, A29, rfl, hH30, ht31⟩
  replace h16 := El.tr (Dw := Dw) h16 ht31
  replace h_x0 := Sl.tr (Dw := Dw) h_x0 ht31
  replace h_x1 := Sl.tr (Dw := Dw) h_x1 ht31
  replace h_x2 := Sl.tr (Dw := Dw) h_x2 ht31
  replace hK := Tr.trans (Dw := Dw) hK ht31
  replace hB := Nat.le_trans hB ht31.ex.size
  replace hA := ht31.new
  replace hH : Hp w.heap.size A29 w28 (obS (α := know_Term) 83 v26 x25.1 :: obC b19 [.slice none 0 0, .slice none 0 0, .slice none 0 0] 26 :: obC b7 [v_x0, v_x1, v_x2] 26 :: []) := hH30
  refine V_y (Y_move rfl) rfl rfl rfl ?_
  refine V_y (Y_extract rfl rfl) rfl rfl rfl ?_
  refine V_y (Y_extract rfl rfl) rfl rfl rfl ?_
  refine V_y (Y_assign rfl) rfl rfl rfl ?_
  refine V_y (Y_assign rfl) rfl rfl rfl ?_
  refine V_to (fun _ _ => rfl) ?_
  refine C_seq ?_
  refine C_seq ?_
  refine C_region ?_
  refine V_y (Y_move rfl) rfl rfl rfl ?_
  refine V_y (Y_lenSl (Hp.any (α := know_Term) (e := 83) (v := v26) (l := x25.1) hH (i := 0) rfl) rfl Tryz.underlying24 rfl) rfl rfl rfl ?_
  refine V_y (Y_move rfl) rfl rfl rfl ?_
  refine V_to (fun _ _ => rfl) ?_
  have hn56 := Hp.le (α := know_Term) (e := 83) (v := v26) (l := x25.1) hH (i := 0) rfl
  obtain ⟨o32, ho32, hm⟩ := Option.bind_eq_some_iff.1 hm
  refine C_cutG (ι := ((List know_Term) × Value × (Nat → Prop))) (fun ⟨s33, v39, A41⟩ => [(2, .pointer (some ⟨b7, 0, none⟩)), (3, .pointer (some ⟨b13, 0, none⟩)), (4, .pointer (some ⟨b19, 0, none⟩)), (5, v39), (6, .int .i64 x25.2)]) (fun ⟨s33, v39, A41⟩ => fun w' => o32 = .fin s33 ∧ Hp w.heap.size A41 w' (obS (α := know_Term) 83 v39 s33 :: obC b19 [.slice none 0 0, .slice none 0 0, .slice none 0 0] 26 :: obC b7 [v_x0, v_x1, v_x2] 26 :: []) ∧ Tr Dw w.heap.size A29 w28 A41 w') ?_ ?_
  · refine C_block ?_
    refine C_range ho32 (fun k35 s43 a w' => ∃ i : (Value × (Nat → Prop)), Has ⟨78, [], none⟩ a ([(2, .pointer (some ⟨b7, 0, none⟩)), (3, .pointer (some ⟨b13, 0, none⟩)), (4, .pointer (some ⟨b19, 0, none⟩)), (5, i.1), (6, .int .i64 x25.2), (18, i.1), (19, .int .i64 (x25.1.length : Int)), (20, .int .i64 (k35 : Int))]) ∧ Hp w.heap.size i.2 w' (obS (α := know_Term) 83 i.1 s43 :: obC b19 [.slice none 0 0, .slice none 0 0, .slice none 0 0] 26 :: obC b7 [v_x0, v_x1, v_x2] 26 :: []) ∧ Tr Dw w.heap.size A29 w28 i.2 w') (fun a ha => ⟨(v26, A29), ha.sub ⟨rfl, rfl, rfl, rfl, rfl, rfl, rfl, rfl, trivial⟩, ⟨hH, Tr.refl (Dw := Dw) hA⟩⟩) ?_
    rintro K k35 s43 a w44 ⟨⟨v45, A47⟩, ha188, hH48, hr34⟩ hle52 K55 h54
    refine C_of ?_ ha188
    replace h16 := El.tr (Dw := Dw) h16 hr34
    replace h_x0 := Sl.tr (Dw := Dw) h_x0 hr34
    replace h_x1 := Sl.tr (Dw := Dw) h_x1 hr34
    replace h_x2 := Sl.tr (Dw := Dw) h_x2 hr34
    replace hK := Tr.trans (Dw := Dw) hK hr34
    replace hB := Nat.le_trans hB hr34.ex.size
    replace hA := hr34.new
    replace hH : Hp w.heap.size A47 w44 (obS (α := know_Term) 83 v45 s43 :: obC b19 [.slice none 0 0, .slice none 0 0, .slice none 0 0] 26 :: obC b7 [v_x0, v_x1, v_x2] 26 :: []) := hH48
    refine C_seq (C_region (V_y (Y_lss rfl rfl) rfl rfl rfl (V_to (fun _ _ => rfl) ?_)))
    refine C_seq ?_
    refine C_cond rfl (fun hc57 => ?_) (fun hc57 => ?_)
    · have hlt53 := lt_of_dec hc57
      obtain ⟨x49, h50, h51⟩ := K55 hlt53
      refine C_skip_to (fun _ _ => rfl) ?_
      refine C_seq ?_
      obtain ⟨s59, ho58, h50⟩ := Option.bind_eq_some_iff.1 h50
      refine C_cutG (ι := (Value × (Nat → Prop))) (fun ⟨v61, A66⟩ => [(2, .pointer (some ⟨b7, 0, none⟩)), (3, .pointer (some ⟨b13, 0, none⟩)), (4, .pointer (some ⟨b19, 0, none⟩)), (5, v61), (6, .int .i64 x25.2), (18, v61), (19, .int .i64 (x25.1.length : Int)), (20, .int .i64 (k35 : Int))]) (fun ⟨v61, A66⟩ => fun w' => Hp w.heap.size A66 w' (obS (α := know_Term) 83 v61 s59 :: obC b19 [.slice none 0 0, .slice none 0 0, .slice none 0 0] 26 :: obC b7 [v_x0, v_x1, v_x2] 26 :: []) ∧ Tr Dw w.heap.size A47 w44 A66 w') ?_ ?_
      · have hr60 : Tr Dw w.heap.size A47 w44 A47 w44 := Tr.refl (Dw := Dw) hA
        refine C_block ?_
        refine C_seq ?_
        refine C_region ?_
        refine V_y (Y_move rfl) rfl rfl rfl ?_
        obtain ⟨x68, hx68, ho58⟩ := Option.bind_eq_some_iff.1 ho58
        refine V_indexAddrH (α := know_Term) (e := 83) (v := v45) (l := s43) hH (i := 0) rfl hx68 Tryz.underlying24 Tryz.sizeOf83 rfl rfl rfl ?_
        intro b69 o70 h71 hl72
        obtain ⟨v73, h75, h74⟩ := ElR_know_Term (Hp.elemRep (e := 83) (v := v45) (l := s43) hH (i := 0) rfl hl72 hx68)
        refine V_y (Y_loadA h75 Tryz.isAgg83 Tryz.sizeOf83 rfl) rfl rfl rfl ?_
        refine V_alloc Tryz.zeroValue83 rfl ?_
        intro b76 w77 h78
        refine V_y (Y_assign rfl) rfl rfl rfl ?_
        have h83 : (v73).oneCell' = true := by obtain ⟨_, _, e, _⟩ := Sl.form h74; rw [e]; rfl
        refine V_storeNew h78 Tryz.sizeOf83 rfl rfl rfl rfl (by exact (List.forall_mem_cons.2 ⟨rfl, (List.forall_mem_cons.2 ⟨h83, (fun _ h => nomatch h)⟩)⟩)) ?_
        intro w79 h80
        have hk85 := h80.kp (Dw := Dw)
        have h84 : El (α := know_Term) A47 w79 b76 0 x68 := h80.el hA ⟨[.string x68.word], _, rfl, rfl, ⟨_, rfl, h74⟩⟩
        have ht86 := Kp.tr (Dw := Dw) hk85 hA hB
        replace hH := Hp.kp (Dw := Dw) hH hk85
        replace h16 := El.tr (Dw := Dw) h16 ht86
        replace h71 := El.kp (Dw := Dw) h71 hk85
        replace h74 := Sl.tr (Dw := Dw) h74 ht86
        replace h_x0 := Sl.tr (Dw := Dw) h_x0 ht86
        replace h_x1 := Sl.tr (Dw := Dw) h_x1 ht86
        replace h_x2 := Sl.tr (Dw := Dw) h_x2 ht86
        replace hK := Tr.trans (Dw := Dw) hK ht86
        replace hr34 := Tr.trans (Dw := Dw) hr34 ht86
        replace hr60 := Tr.trans (Dw := Dw) hr60 ht86
        replace hB := Nat.le_trans hB ht86.ex.size
        replace hA := ht86.new
        refine V_to (fun _ _ => rfl) ?_
        refine C_seq ?_
        refine C_region ?_
        refine V_y (Y_fieldAddrC (off2 := 2) Tryz.underlying26 rfl Tryz.sizeOf24 (by decide) rfl rfl) rfl rfl rfl ?_
        refine V_y (Y_load (Hp.cell (j := 2) hH (i := 2) rfl rfl) Tryz.isAgg24 rfl) rfl rfl rfl ?_
        obtain ⟨v87, h89, h88⟩ := El_know_Term h84
        refine V_y (Y_loadA h89 Tryz.isAgg83 Tryz.sizeOf83 rfl) rfl rfl rfl ?_
        obtain ⟨x92, hx92, ho58⟩ := Option.bind_eq_some_iff.1 ho58
        refine V_call Tryz.call72 rfl rfl rfl rfl (slices_BinarySearchFunc_Lknow_Term_know_Term_know_Term_c (Dw := Dw) w79 hA x.terms v_x2 h_x2 x68 v87 h88 (fun y105 y106 => know_byWord y105 y106) 73 #[] #[] Tryz.call73 (fun w101 A102 ht103 h104 y93 v94 h95 y96 v97 h98 r99 h100 => (know_byWord_c (Dw := Dw) w101 h104 y93 v94 h95 y96 v97 h98  h100).mono (fun _ _ h => ⟨h.1, h.2⟩)) hx92) ?_
        rintro _ w107 ⟨rfl, hk108⟩
        have ht109 := Kp.tr (Dw := Dw) hk108 hA hB
        replace hH := Hp.kp (Dw := Dw) hH hk108
        replace h16 := El.tr (Dw := Dw) h16 ht109
        replace h84 := El.tr (Dw := Dw) h84 ht109
        replace h_x2 := Sl.tr (Dw := Dw) h_x2 ht109
        replace h88 := Sl.tr (Dw := Dw) h88 ht109
        replace h_x0 := Sl.tr (Dw := Dw) h_x0 ht109
        replace h_x1 := Sl.tr (Dw := Dw) h_x1 ht109
        replace hK := Tr.trans (Dw := Dw) hK ht109
        replace hr34 := Tr.trans (Dw := Dw) hr34 ht109
        replace hr60 := Tr.trans (Dw := Dw) hr60 ht109
        replace hB := Nat.le_trans hB ht109.ex.size
        replace hA := ht109.new
        refine V_y (Y_move rfl) rfl rfl rfl ?_
        refine V_y (Y_extract rfl rfl) rfl rfl rfl ?_
        refine V_y (Y_extract rfl rfl) rfl rfl rfl ?_
        refine V_y (Y_assign rfl) rfl rfl rfl ?_
        refine V_y (Y_assign rfl) rfl rfl rfl ?_
        refine V_to (fun _ _ => rfl) ?_
        refine C_seq ?_
        refine C_region ?_
        refine V_y (Y_move rfl) rfl rfl rfl ?_
        refine V_to (fun _ _ => rfl) ?_
        obtain ⟨s111, ho110, ho58⟩ := Option.bind_eq_some_iff.1 ho58
        refine C_cutG (ι := (Value × (Nat → Prop))) (fun ⟨v113, A118⟩ => [(2, .pointer (some ⟨b7, 0, none⟩)), (3, .pointer (some ⟨b13, 0, none⟩)), (4, .pointer (some ⟨b19, 0, none⟩)), (5, v113), (6, .int .i64 x25.2), (18, v113), (19, .int .i64 (x25.1.length : Int)), (20, .int .i64 (k35 : Int))]) (fun ⟨v113, A118⟩ => fun w' => Hp w.heap.size A118 w' (obS (α := know_Term) 83 v113 s111 :: obC b19 [.slice none 0 0, .slice none 0 0, .slice none 0 0] 26 :: obC b7 [v_x0, v_x1, v_x2] 26 :: []) ∧ Tr Dw w.heap.size A47 w107 A118 w') ?_ ?_
        · have hr112 : Tr Dw w.heap.size A47 w107 A47 w107 := Tr.refl (Dw := Dw) hA
          refine C_cond rfl (fun hc120 => ?_) (fun hc120 => ?_)
          · rw [if_pos hc120] at ho110
            refine C_region_ch (Dw := Dw) A47 14 [(1, 0), (1, 1), (1, 2), (0, 3), (1, 4), (0, 5), (1, 6), (0, 7), (1, 8), (1, 9), (2, 10), (0, 11), (1, 12), (4, 13)] Tryz_mixed (by kernel_rfl) (fun w121 hk122 => ?_)
            have ht123 := Kp.tr (Dw := Dw) hk122 hA hB
            replace hH := Hp.kp (Dw := Dw) hH hk122
            replace h16 := El.tr (Dw := Dw) h16 ht123
            replace h84 := El.tr (Dw := Dw) h84 ht123
            replace h_x0 := Sl.tr (Dw := Dw) h_x0 ht123
            replace h_x1 := Sl.tr (Dw := Dw) h_x1 ht123
            replace h_x2 := Sl.tr (Dw := Dw) h_x2 ht123
            replace hK := Tr.trans (Dw := Dw) hK ht123
            replace hr34 := Tr.trans (Dw := Dw) hr34 ht123
            replace hr60 := Tr.trans (Dw := Dw) hr60 ht123
            replace hr112 := Tr.trans (Dw := Dw) hr112 ht123
            replace hB := Nat.le_trans hB ht123.ex.size
            replace hA := ht123.new
            refine CH_q2 (Dw := Dw) rfl ?_
            refine VQ_y (fun w' hw' => Y_move rfl) rfl rfl rfl ?_
            refine VQ_CH (Dw := Dw) ?_
            refine CH_q2 (Dw := Dw) rfl ?_
            refine VQ_y (fun w' hw' => Y_move rfl) rfl rfl rfl ?_
            refine VQ_CH (Dw := Dw) ?_
            refine CH_q2 (Dw := Dw) rfl ?_
            refine VQ_y (fun w' hw' => Y_fieldAddrC (off2 := 2) Tryz.underlying26 rfl Tryz.sizeOf24 (by decide) rfl rfl) rfl rfl rfl ?_
            refine VQ_CH (Dw := Dw) ?_
            refine CH_q1 (Dw := Dw) rfl ?_
            refine VQ_y (fun w' hw' => Y_load ((World.cell?_of_block (hw'.block _ (World.block_lt_of_cell? _ _ (Hp.cell (j := 2) hH (i := 2) rfl rfl)))).trans (Hp.cell (j := 2) hH (i := 2) rfl rfl)) Tryz.isAgg24 rfl) rfl rfl rfl ?_
            refine VQ_CH (Dw := Dw) ?_
            refine CH_q2 (Dw := Dw) rfl ?_
            refine VQ_y (fun w' hw' => Y_move rfl) rfl rfl rfl ?_
            refine VQ_CH (Dw := Dw) ?_
            refine CH_q1 (Dw := Dw) rfl ?_
            obtain ⟨x124, hx124, ho110⟩ := Option.bind_eq_some_iff.1 ho110
            refine VQ_indexAddr h_x2 hx124 Tryz.underlying24 Tryz.sizeOf83 rfl rfl rfl ?_
            intro b125 o126 h127
            refine VQ_CH (Dw := Dw) ?_
            refine CH_q2 (Dw := Dw) rfl ?_
            have h128 := El_know_Term_1 h127
            refine VQ_y (fun w' hw' => Y_fieldAddr Tryz.underlying83 rfl Tryz.sizeOf81 (by decide) rfl) rfl rfl rfl ?_
            refine VQ_CH (Dw := Dw) ?_
            refine CH_q1 (Dw := Dw) rfl ?_
            obtain ⟨v129, h130, h131⟩ := El.list h128
            refine VQ_y (fun w' hw' => Y_load ((World.cell?_of_block (hw'.block _ (World.block_lt_of_cell? _ _ h130))).trans h130) Tryz.isAgg81 rfl) rfl rfl rfl ?_
            refine VQ_CH (Dw := Dw) ?_
            refine CH_q2 (Dw := Dw) rfl ?_
            have h132 := El_know_Term_1 h84
            refine VQ_y (fun w' hw' => Y_fieldAddr Tryz.underlying83 rfl Tryz.sizeOf81 (by decide) rfl) rfl rfl rfl ?_
            refine VQ_CH (Dw := Dw) ?_
            refine CH_q2 (Dw := Dw) rfl ?_
            obtain ⟨v133, h134, h135⟩ := El.list h132
            refine VQ_y (fun w' hw' => Y_load ((World.cell?_of_block (hw'.2 _ h132.2.1 h132.1)).trans h134) Tryz.isAgg81 rfl) rfl rfl rfl ?_
            refine VQ_CH (Dw := Dw) ?_
            refine CH_l1 (Dw := Dw) (k := 0) rfl ?_
            obtain ⟨x138, hx138, ho110⟩ := Option.bind_eq_some_iff.1 ho110
            refine V_call Tryz.call74 rfl rfl rfl rfl (know_merged_know_Posting_c (Dw := Dw) w121 (B := w121.heap.size) (Nat.le_refl _) hA x124.list_ v129 h131 x68.list_ v133 h135 (fun y157 y158 => know_byId y157 y158) 75 #[] #[] Tryz.call75 (fun w153 A154 ht155 h156 y141 v142 h143 v144 h145 y146 v147 h148 v149 h150 r151 h152 => (know_byId_c (Dw := Dw) w153 h156 y141 v142 h143 v144 h145 y146 v147 h148 v149 h150  h152).mono (fun _ _ h => ⟨h.1, h.2⟩)) Hp.nil hx138) ?_
            rintro v139 w159 ⟨_, A160, rfl, hH161, ht162⟩
            have hk163 : Kp Dw w121 w159 := ht162.below
            have hH164 := Hp.join (Dw := Dw) hH hB ht162 hH161
            have ht165 := Tr.lower (Dw := Dw) ht162 hB
            replace h16 := El.tr (Dw := Dw) h16 ht165
            replace h84 := El.tr (Dw := Dw) h84 ht165
            replace h_x2 := Sl.tr (Dw := Dw) h_x2 ht165
            replace h127 := El.tr (Dw := Dw) h127 ht165
            replace h128 := El.tr (Dw := Dw) h128 ht165
            replace h131 := Sl.tr (Dw := Dw) h131 ht165
            replace h132 := El.tr (Dw := Dw) h132 ht165
            replace h135 := Sl.tr (Dw := Dw) h135 ht165
            replace h_x0 := Sl.tr (Dw := Dw) h_x0 ht165
            replace h_x1 := Sl.tr (Dw := Dw) h_x1 ht165
            replace hK := Tr.trans (Dw := Dw) hK ht165
            replace hr34 := Tr.trans (Dw := Dw) hr34 ht165
            replace hr60 := Tr.trans (Dw := Dw) hr60 ht165
            replace hr112 := Tr.trans (Dw := Dw) hr112 ht165
            replace hB := Nat.le_trans hB ht165.ex.size
            replace hA := ht165.new
            replace hH : Hp w.heap.size A160 w159 (obS (α := know_Posting) 86 v139 x138 :: obS (α := know_Term) 83 v45 s43 :: obC b19 [.slice none 0 0, .slice none 0 0, .slice none 0 0] 26 :: obC b7 [v_x0, v_x1, v_x2] 26 :: []) := hH164
            refine V_CH (Dw := Dw) (hk163) ?_
            refine CH_q1 (Dw := Dw) rfl ?_
            refine VQ_indexAddrH (α := know_Term) (e := 83) (v := v45) (l := s43) hH (i := 1) rfl hx68 Tryz.underlying24 Tryz.sizeOf83 rfl rfl rfl ?_
            intro b166 o167 h168 hl169
            refine VQ_CH (Dw := Dw) ?_
            refine CH_q2 (Dw := Dw) rfl ?_
            have h170 := El_know_Term_1 h168
            refine VQ_y (fun w' hw' => Y_fieldAddr Tryz.underlying83 rfl Tryz.sizeOf81 (by decide) rfl) rfl rfl rfl ?_
            refine VQ_CH (Dw := Dw) ?_
            refine CH_l1 (Dw := Dw) (k := 2) rfl ?_
            obtain ⟨A171, ht172, h173, hH174⟩ := Hp.freeze (Dw := Dw) (α := know_Posting) (v := v139) (l := x138) hH (i := 0) rfl hA
            replace h16 := El.tr (Dw := Dw) h16 ht172
            replace h84 := El.tr (Dw := Dw) h84 ht172
            replace h_x2 := Sl.tr (Dw := Dw) h_x2 ht172
            replace h127 := El.tr (Dw := Dw) h127 ht172
            replace h128 := El.tr (Dw := Dw) h128 ht172
            replace h131 := Sl.tr (Dw := Dw) h131 ht172
            replace h132 := El.tr (Dw := Dw) h132 ht172
            replace h135 := Sl.tr (Dw := Dw) h135 ht172
            replace h_x0 := Sl.tr (Dw := Dw) h_x0 ht172
            replace h_x1 := Sl.tr (Dw := Dw) h_x1 ht172
            replace hK := Tr.trans (Dw := Dw) hK ht172
            replace hr34 := Tr.trans (Dw := Dw) hr34 ht172
            replace hr60 := Tr.trans (Dw := Dw) hr60 ht172
            replace hr112 := Tr.trans (Dw := Dw) hr112 ht172
            replace hB := Nat.le_trans hB ht172.ex.size
            replace hA := ht172.new
            replace hH : Hp w.heap.size A171 w159 (obS (α := know_Term) 83 v45 s43 :: obC b19 [.slice none 0 0, .slice none 0 0, .slice none 0 0] 26 :: obC b7 [v_x0, v_x1, v_x2] 26 :: []) := hH174
            obtain ⟨x176, hx176, ho110⟩ := Option.bind_eq_some_iff.1 ho110
            have h182 : (v139).oneCell' = true := by obtain ⟨_, _, e, _⟩ := Sl.form h173; rw [e]; rfl
            refine V_storeFH (Dw := Dw) (α := know_Term) (e := 83) (v := v45) (l := s43) (foff := 1) hH (i := 0) rfl hl169 hx68 hx176 (fun _ h => by obtain ⟨_, _, rfl, rfl, ⟨v1, rfl, h1⟩⟩ := h; rw [Value.cells_one h182]; exact ⟨[_], _, rfl, rfl, ⟨_, rfl, h173⟩⟩) Tryz.sizeOf81 (by rw [← Array.length_toList, Value.cells_one h182]; rfl) (by intro u hu; rw [Value.cells_one h182] at hu; simp at hu; subst hu; exact h182) (by decide) hB hA (congrArg (fun z => some (Value.pointer (some ⟨_, z, none⟩))) (by simp [Nat.add_assoc])) rfl ?_
            intro w177 hH178 ht179
            replace h16 := El.tr (Dw := Dw) h16 ht179
            replace h84 := El.tr (Dw := Dw) h84 ht179
            replace h_x2 := Sl.tr (Dw := Dw) h_x2 ht179
            replace h127 := El.tr (Dw := Dw) h127 ht179
            replace h128 := El.tr (Dw := Dw) h128 ht179
            replace h131 := Sl.tr (Dw := Dw) h131 ht179
            replace h132 := El.tr (Dw := Dw) h132 ht179
            replace h135 := Sl.tr (Dw := Dw) h135 ht179
            replace h173 := Sl.tr (Dw := Dw) h173 ht179
            replace h_x0 := Sl.tr (Dw := Dw) h_x0 ht179
            replace h_x1 := Sl.tr (Dw := Dw) h_x1 ht179
            replace hK := Tr.trans (Dw := Dw) hK ht179
            replace hr34 := Tr.trans (Dw := Dw) hr34 ht179
            replace hr60 := Tr.trans (Dw := Dw) hr60 ht179
            replace hr112 := Tr.trans (Dw := Dw) hr112 ht179
            replace hB := Nat.le_trans hB ht179.ex.size
            replace hA := ht179.new
            replace hH : Hp w.heap.size A171 w177 (obS (α := know_Term) 83 v45 x176 :: obC b19 [.slice none 0 0, .slice none 0 0, .slice none 0 0] 26 :: obC b7 [v_x0, v_x1, v_x2] 26 :: []) := hH178
            refine V_CHw (Dw := Dw) ?_
            refine CH_tail (Dw := Dw) ?_
            show V _ _ _ _ [] _ _
            obtain rfl := Option.some.inj ho110
            refine V_end (fun a ha183 => ?_)
            exact ⟨(v45, A171), ha183.sub ⟨rfl, rfl, rfl, rfl, rfl, rfl, rfl, rfl, trivial⟩, ⟨hH, hr112⟩⟩
          · rw [if_neg (nt hc120)] at ho110
            obtain rfl := Option.some.inj ho110
            refine C_skip (fun a ha184 => ?_)
            exact ⟨(v45, A47), ha184.sub ⟨rfl, rfl, rfl, rfl, rfl, rfl, rfl, rfl, trivial⟩, ⟨hH, hr112⟩⟩
        rintro ⟨v113, A118⟩ w115 ⟨hH119, hk116⟩ a ha117
        replace h16 := El.tr (Dw := Dw) h16 hk116
        replace h_x0 := Sl.tr (Dw := Dw) h_x0 hk116
        replace h_x1 := Sl.tr (Dw := Dw) h_x1 hk116
        replace h_x2 := Sl.tr (Dw := Dw) h_x2 hk116
        replace hK := Tr.trans (Dw := Dw) hK hk116
        replace hr34 := Tr.trans (Dw := Dw) hr34 hk116
        replace hr60 := Tr.trans (Dw := Dw) hr60 hk116
        replace hB := Nat.le_trans hB hk116.ex.size
        replace hA := hk116.new
        replace hH : Hp w.heap.size A118 w115 (obS (α := know_Term) 83 v113 s111 :: obC b19 [.slice none 0 0, .slice none 0 0, .slice none 0 0] 26 :: obC b7 [v_x0, v_x1, v_x2] 26 :: []) := hH119
        obtain rfl := Option.some.inj ho58
        exact ⟨(v113, A118), ha117.sub ⟨rfl, rfl, rfl, rfl, rfl, rfl, rfl, rfl, trivial⟩, ⟨hH, hr60⟩⟩
      rintro ⟨v61, A66⟩ w63 ⟨hH67, hk64⟩ a ha65
      replace h16 := El.tr (Dw := Dw) h16 hk64
      replace h_x0 := Sl.tr (Dw := Dw) h_x0 hk64
      replace h_x1 := Sl.tr (Dw := Dw) h_x1 hk64
      replace h_x2 := Sl.tr (Dw := Dw) h_x2 hk64
      replace hK := Tr.trans (Dw := Dw) hK hk64
      replace hr34 := Tr.trans (Dw := Dw) hr34 hk64
      replace hB := Nat.le_trans hB hk64.ex.size
      replace hA := hk64.new
      replace hH : Hp w.heap.size A66 w63 (obS (α := know_Term) 83 v61 s59 :: obC b19 [.slice none 0 0, .slice none 0 0, .slice none 0 0] 26 :: obC b7 [v_x0, v_x1, v_x2] 26 :: []) := hH67
      refine C_at (n := ⟨78, [], none⟩) (fun _ _ => rfl) ?_ ha65
      refine C_region ?_
      refine V_y (Y_addI rfl rfl) rfl rfl rfl ?_
      refine V_y (Y_move rfl) rfl rfl rfl ?_
      obtain rfl := Option.some.inj h50
      refine V_end (fun a ha186 => ?_)
      exact ⟨s59, hlt53, h51, ⟨(v61, A66), ha186.sub ⟨rfl, rfl, rfl, rfl, rfl, rfl, rfl, (congrArg (fun z => some (Value.int .i64 z)) (w64_succ hlt53 hn56)), trivial⟩, ⟨hH, hr34⟩⟩⟩
    · refine C_exit (fun a ha187 => ?_)
      exact ⟨(s43, v45, A47), ha187.sub ⟨rfl, rfl, rfl, rfl, rfl, trivial⟩, ⟨(h54 (eq_of_dec hle52 hc57)).symm, hH, hr34⟩⟩
  rintro ⟨s33, v39, A41⟩ w36 ⟨rfl, hH42, hk37⟩ a ha38
  rw [Lp.andThen_fin] at hm
  replace h16 := El.tr (Dw := Dw) h16 hk37
  replace h_x0 := Sl.tr (Dw := Dw) h_x0 hk37
  replace h_x1 := Sl.tr (Dw := Dw) h_x1 hk37
  replace h_x2 := Sl.tr (Dw := Dw) h_x2 hk37
  replace hK := Tr.trans (Dw := Dw) hK hk37
  replace hB := Nat.le_trans hB hk37.ex.size
  replace hA := hk37.new
  replace hH : Hp w.heap.size A41 w36 (obS (α := know_Term) 83 v39 s33 :: obC b19 [.slice none 0 0, .slice none 0 0, .slice none 0 0] 26 :: obC b7 [v_x0, v_x1, v_x2] 26 :: []) := hH42
  refine C_at (n := ⟨78, [], none⟩) (fun _ _ => rfl) ?_ ha38
  refine C_seq ?_
  refine C_region ?_
  refine V_y (Y_fieldAddrC (off2 := 0) Tryz.underlying26 rfl Tryz.sizeOf23 (by decide) rfl rfl) rfl rfl rfl ?_
  refine V_y (Y_load (Hp.cell (j := 0) hH (i := 2) rfl rfl) Tryz.isAgg23 rfl) rfl rfl rfl ?_
  have h189 := El_know_Entry_0 h16
  refine V_y (Y_fieldAddr Tryz.underlying33 rfl Tryz.sizeOf3 (by decide) rfl) rfl rfl rfl ?_
  refine V_y (Y_load (El.int h189) Tryz.isAgg3 rfl) rfl rfl rfl ?_
  obtain ⟨x190, hx190, hm⟩ := Option.bind_eq_some_iff.1 hm
  refine V_call Tryz.call52 rfl rfl rfl rfl (slices_BinarySearch_Lint_int_c w36 x.ids v_x0 h_x0 v.id_ hx190) ?_
  rintro _ _ ⟨rfl, rfl⟩
  refine V_y (Y_move rfl) rfl rfl rfl ?_
  refine V_y (Y_extract rfl rfl) rfl rfl rfl ?_
  refine V_y (Y_extract rfl rfl) rfl rfl rfl ?_
  refine V_y (Y_assign rfl) rfl rfl rfl ?_
  refine V_y (Y_assign rfl) rfl rfl rfl ?_
  refine V_to (fun _ _ => rfl) ?_
  refine C_seq ?_
  refine C_region_chy (Dw := Dw) A41 6 [5, 4] [(1, 0), (0, 1), (1, 3), (1, 4), (1, 5), (2, 2)] [(4, 7), (1, 8), (4, 9)] Tryz_mixed (by kernel_rfl) (fun w191 hk192 => ?_)
  have ht193 := Kp.tr (Dw := Dw) hk192 hA hB
  replace hH := Hp.kp (Dw := Dw) hH hk192
  replace h16 := El.tr (Dw := Dw) h16 ht193
  replace h_x0 := Sl.tr (Dw := Dw) h_x0 ht193
  replace h_x1 := Sl.tr (Dw := Dw) h_x1 ht193
  replace h_x2 := Sl.tr (Dw := Dw) h_x2 ht193
  replace hK := Tr.trans (Dw := Dw) hK ht193
  replace hB := Nat.le_trans hB ht193.ex.size
  replace hA := ht193.new
  refine CHZ_q2 (Dw := Dw) rfl ?_
  refine VQ_y (fun w' hw' => Y_fieldAddrC (off2 := 0) Tryz.underlying26 rfl Tryz.sizeOf23 (by decide) rfl rfl) rfl rfl rfl ?_
  refine VQ_CHZ (Dw := Dw) ?_
  refine CHZ_q1 (Dw := Dw) rfl ?_
  refine VQ_y (fun w' hw' => Y_load ((World.cell?_of_block (hw'.block _ (World.block_lt_of_cell? _ _ (Hp.cell (j := 0) hH (i := 2) rfl rfl)))).trans (Hp.cell (j := 0) hH (i := 2) rfl rfl)) Tryz.isAgg23 rfl) rfl rfl rfl ?_
  refine VQ_CHZ (Dw := Dw) ?_
  refine CHZ_q2 (Dw := Dw) rfl ?_
  refine VQ_y (fun w' hw' => Y_move rfl) rfl rfl rfl ?_
  refine VQ_CHZ (Dw := Dw) ?_
  refine CHZ_q2 (Dw := Dw) rfl ?_
  have h194 := El_know_Entry_0 h16
  refine VQ_y (fun w' hw' => Y_fieldAddr Tryz.underlying33 rfl Tryz.sizeOf3 (by decide) rfl) rfl rfl rfl ?_
  refine VQ_CHZ (Dw := Dw) ?_
  refine CHZ_q2 (Dw := Dw) rfl ?_
  refine VQ_y (fun w' hw' => Y_load (El.int (El.keep h194 (XA.ex hw'))) Tryz.isAgg3 rfl) rfl rfl rfl ?_
  refine VQ_CHZ (Dw := Dw) ?_
  refine CHZ_l1 (Dw := Dw) (k := 0) [(2, 6), (2, 2), (4, 7), (1, 8), (4, 9)] rfl ?_ rfl ?_
  · refine CH_l1 (Dw := Dw) (k := 0) rfl ?_
    refine V_buildOwnHk (Dw := Dw) (l := ([v.id_] : List Int)) (len := 1) hH Tryz.underlying23 Tryz.sizeOf3 Tryz.zeroValue3 rfl (by with_unfolding_all rfl) (show (1 * 1 : Nat) ≠ 0 by decide) (show (1 * 1 : Nat) ≤ 2 ^ 24 by decide) hB hA ⟨[.int .i64 v.id_], _, rfl, rfl, rfl⟩ rfl rfl ?_
    intro v195 w196 A199 hk198 hH201 ht200
    replace h16 := El.tr (Dw := Dw) h16 ht200
    replace h_x0 := Sl.tr (Dw := Dw) h_x0 ht200
    replace h194 := El.tr (Dw := Dw) h194 ht200
    replace h_x1 := Sl.tr (Dw := Dw) h_x1 ht200
    replace h_x2 := Sl.tr (Dw := Dw) h_x2 ht200
    replace hK := Tr.trans (Dw := Dw) hK ht200
    replace hB := Nat.le_trans hB ht200.ex.size
    replace hA := ht200.new
    replace hH : Hp w.heap.size A199 w196 (obS (α := Int) 3 v195 ([v.id_] : List Int) :: obS (α := know_Term) 83 v39 s33 :: obC b19 [.slice none 0 0, .slice none 0 0, .slice none 0 0] 26 :: obC b7 [v_x0, v_x1, v_x2] 26 :: []) := hH201
    refine V_CH (Dw := Dw) (hk198) ?_
    refine CH_l1 (Dw := Dw) (k := 0) rfl ?_
    obtain ⟨x202, hx202, hm⟩ := Option.bind_eq_some_iff.1 hm
    refine V_call Tryz.call76 rfl rfl rfl rfl (slices_Clone_Lint_int_c (Dw := Dw) w196 hA x.ids v_x0 h_x0 hx202) ?_
    rintro v203 w205 ⟨_, rfl, h204, hk206⟩
    obtain ⟨A207, ht208, hH209⟩ := Hp.addOwnd (Dw := Dw) hH hB hA hk206 h204
    replace h16 := El.tr (Dw := Dw) h16 ht208
    replace h_x0 := Sl.tr (Dw := Dw) h_x0 ht208
    replace h194 := El.tr (Dw := Dw) h194 ht208
    replace h_x1 := Sl.tr (Dw := Dw) h_x1 ht208
    replace h_x2 := Sl.tr (Dw := Dw) h_x2 ht208
    replace hK := Tr.trans (Dw := Dw) hK ht208
    replace hB := Nat.le_trans hB ht208.ex.size
    replace hA := ht208.new
    replace hH : Hp w.heap.size A207 w205 (obS (α := Int) 3 v203 x202 :: obS (α := Int) 3 v195 ([v.id_] : List Int) :: obS (α := know_Term) 83 v39 s33 :: obC b19 [.slice none 0 0, .slice none 0 0, .slice none 0 0] 26 :: obC b7 [v_x0, v_x1, v_x2] 26 :: []) := hH209
    refine V_CH (Dw := Dw) (hk206) ?_
    refine CH_l1 (Dw := Dw) (k := 2) rfl ?_
    replace hH : Hp w.heap.size A207 w205 (obS (α := Int) 3 v195 ([v.id_] : List Int) :: obS (α := Int) 3 v203 x202 :: obS (α := know_Term) 83 v39 s33 :: obC b19 [.slice none 0 0, .slice none 0 0, .slice none 0 0] 26 :: obC b7 [v_x0, v_x1, v_x2] 26 :: []) := Hp.front hH (i := 1) rfl
    obtain ⟨x210, hx210, hm⟩ := Option.bind_eq_some_iff.1 hm
    refine V_call Tryz.call53 rfl rfl rfl rfl (slices_Insert_Lint_int_c (Dw := Dw) w205 x190.1 hH (i := 0) rfl hB hA hx210) ?_
    rintro v211 w212 ⟨_, A213, rfl, hH214, ht215⟩
    replace h16 := El.tr (Dw := Dw) h16 ht215
    replace h_x0 := Sl.tr (Dw := Dw) h_x0 ht215
    replace h194 := El.tr (Dw := Dw) h194 ht215
    replace h_x1 := Sl.tr (Dw := Dw) h_x1 ht215
    replace h_x2 := Sl.tr (Dw := Dw) h_x2 ht215
    replace hK := Tr.trans (Dw := Dw) hK ht215
    replace hB := Nat.le_trans hB ht215.ex.size
    replace hA := ht215.new
    replace hH : Hp w.heap.size A213 w212 (obS (α := Int) 3 v211 x210 :: obS (α := know_Term) 83 v39 s33 :: obC b19 [.slice none 0 0, .slice none 0 0, .slice none 0 0] 26 :: obC b7 [v_x0, v_x1, v_x2] 26 :: []) := hH214
    refine V_CHw (Dw := Dw) ?_
    refine CH_q2 (Dw := Dw) rfl ?_
    refine VQ_y (fun w' hw' => Y_fieldAddrC (off2 := 0) Tryz.underlying26 rfl Tryz.sizeOf23 (by decide) rfl rfl) rfl rfl rfl ?_
    refine VQ_CH (Dw := Dw) ?_
    refine CH_l1 (Dw := Dw) (k := 2) rfl ?_
    obtain ⟨A216, ht217, h218, hH219⟩ := Hp.freeze (Dw := Dw) (α := Int) (v := v211) (l := x210) hH (i := 0) rfl hA
    replace h16 := El.tr (Dw := Dw) h16 ht217
    replace h_x0 := Sl.tr (Dw := Dw) h_x0 ht217
    replace h194 := El.tr (Dw := Dw) h194 ht217
    replace h_x1 := Sl.tr (Dw := Dw) h_x1 ht217
    replace h_x2 := Sl.tr (Dw := Dw) h_x2 ht217
    replace hK := Tr.trans (Dw := Dw) hK ht217
    replace hB := Nat.le_trans hB ht217.ex.size
    replace hA := ht217.new
    replace hH : Hp w.heap.size A216 w212 (obS (α := know_Term) 83 v39 s33 :: obC b19 [.slice none 0 0, .slice none 0 0, .slice none 0 0] 26 :: obC b7 [v_x0, v_x1, v_x2] 26 :: []) := hH219
    have h226 : (v211).oneCell' = true := by obtain ⟨_, _, e, _⟩ := Sl.form h218; rw [e]; rfl
    refine V_storeC (Dw := Dw) (off := 0) (ds := [v211, v_x1, v_x2]) hH (i := 2) rfl Tryz.sizeOf23 (by show (v211 : Value).cells.size = _; rw [← Array.length_toList, Value.cells_one h226]; rfl) (Nat.le_of_ble_eq_true rfl) (by intro u hu; change u ∈ (v211 : Value).cells.toList at hu; rw [Value.cells_one h226] at hu; simp at hu; subst hu; assumption) (by show _ ++ (v211 : Value).cells.toList ++ _ = _; rw [Value.cells_one h226]; rfl) hB hA rfl rfl ?_
    intro w221 hH222 ht223
    replace h16 := El.tr (Dw := Dw) h16 ht223
    replace h_x0 := Sl.tr (Dw := Dw) h_x0 ht223
    replace h194 := El.tr (Dw := Dw) h194 ht223
    replace h218 := Sl.tr (Dw := Dw) h218 ht223
    replace h_x1 := Sl.tr (Dw := Dw) h_x1 ht223
    replace h_x2 := Sl.tr (Dw := Dw) h_x2 ht223
    replace hK := Tr.trans (Dw := Dw) hK ht223
    replace hB := Nat.le_trans hB ht223.ex.size
    replace hA := ht223.new
    replace hH : Hp w.heap.size A216 w221 (obS (α := know_Term) 83 v39 s33 :: obC b19 [.slice none 0 0, .slice none 0 0, .slice none 0 0] 26 :: obC b7 [v211, v_x1, v_x2] 26 :: []) := hH222
    refine V_CHw (Dw := Dw) ?_
    refine CH_tail (Dw := Dw) ?_
    show V _ _ _ _ [] _ _
    refine V_to (fun _ _ => rfl) ?_
    refine C_seq ?_
    refine C_region ?_
    refine V_y (Y_fieldAddrC (off2 := 1) Tryz.underlying26 rfl Tryz.sizeOf23 (by decide) rfl rfl) rfl rfl rfl ?_
    refine V_y (Y_load (Hp.cell (j := 1) hH (i := 2) rfl rfl) Tryz.isAgg23 rfl) rfl rfl rfl ?_
    obtain ⟨x227, hx227, hm⟩ := Option.bind_eq_some_iff.1 hm
    refine V_call Tryz.call76 rfl rfl rfl rfl (slices_Clone_Lint_int_c (Dw := Dw) w221 hA x.sizes v_x1 h_x1 hx227) ?_
    rintro v228 w230 ⟨_, rfl, h229, hk231⟩
    obtain ⟨A232, ht233, hH234⟩ := Hp.addOwnd (Dw := Dw) hH hB hA hk231 h229
    replace h_x1 := Sl.tr (Dw := Dw) h_x1 ht233
    replace h218 := Sl.tr (Dw := Dw) h218 ht233
    replace h_x2 := Sl.tr (Dw := Dw) h_x2 ht233
    replace hK := Tr.trans (Dw := Dw) hK ht233
    replace hB := Nat.le_trans hB ht233.ex.size
    replace hA := ht233.new
    replace hH : Hp w.heap.size A232 w230 (obS (α := Int) 3 v228 x227 :: obS (α := know_Term) 83 v39 s33 :: obC b19 [.slice none 0 0, .slice none 0 0, .slice none 0 0] 26 :: obC b7 [v211, v_x1, v_x2] 26 :: []) := hH234
    refine V_y (Y_move rfl) rfl rfl rfl ?_
    refine V_y (Y_move rfl) rfl rfl rfl ?_
    refine V_buildOwnH (Dw := Dw) (l := ([x25.2] : List Int)) (len := 1) hH Tryz.underlying23 Tryz.sizeOf3 Tryz.zeroValue3 rfl (by with_unfolding_all rfl) (show (1 * 1 : Nat) ≠ 0 by decide) (show (1 * 1 : Nat) ≤ 2 ^ 24 by decide) hB hA ⟨[.int .i64 x25.2], _, rfl, rfl, rfl⟩ rfl rfl ?_
    intro v235 w236 A239 hH241 ht240
    replace h_x1 := Sl.tr (Dw := Dw) h_x1 ht240
    replace h218 := Sl.tr (Dw := Dw) h218 ht240
    replace h_x2 := Sl.tr (Dw := Dw) h_x2 ht240
    replace hK := Tr.trans (Dw := Dw) hK ht240
    replace hB := Nat.le_trans hB ht240.ex.size
    replace hA := ht240.new
    replace hH : Hp w.heap.size A239 w236 (obS (α := Int) 3 v235 ([x25.2] : List Int) :: obS (α := Int) 3 v228 x227 :: obS (α := know_Term) 83 v39 s33 :: obC b19 [.slice none 0 0, .slice none 0 0, .slice none 0 0] 26 :: obC b7 [v211, v_x1, v_x2] 26 :: []) := hH241
    obtain ⟨x242, hx242, hm⟩ := Option.bind_eq_some_iff.1 hm
    refine V_call Tryz.call53 rfl rfl rfl rfl (slices_Insert_Lint_int_c (Dw := Dw) w236 x190.1 hH (i := 0) rfl hB hA hx242) ?_
    rintro v243 w244 ⟨_, A245, rfl, hH246, ht247⟩
    replace h_x1 := Sl.tr (Dw := Dw) h_x1 ht247
    replace h218 := Sl.tr (Dw := Dw) h218 ht247
    replace h_x2 := Sl.tr (Dw := Dw) h_x2 ht247
    replace hK := Tr.trans (Dw := Dw) hK ht247
    replace hB := Nat.le_trans hB ht247.ex.size
    replace hA := ht247.new
    replace hH : Hp w.heap.size A245 w244 (obS (α := Int) 3 v243 x242 :: obS (α := know_Term) 83 v39 s33 :: obC b19 [.slice none 0 0, .slice none 0 0, .slice none 0 0] 26 :: obC b7 [v211, v_x1, v_x2] 26 :: []) := hH246
    refine V_y (Y_fieldAddrC (off2 := 1) Tryz.underlying26 rfl Tryz.sizeOf23 (by decide) rfl rfl) rfl rfl rfl ?_
    obtain ⟨A248, ht249, h250, hH251⟩ := Hp.freeze (Dw := Dw) (α := Int) (v := v243) (l := x242) hH (i := 0) rfl hA
    replace h_x1 := Sl.tr (Dw := Dw) h_x1 ht249
    replace h218 := Sl.tr (Dw := Dw) h218 ht249
    replace h_x2 := Sl.tr (Dw := Dw) h_x2 ht249
    replace hK := Tr.trans (Dw := Dw) hK ht249
    replace hB := Nat.le_trans hB ht249.ex.size
    replace hA := ht249.new
    replace hH : Hp w.heap.size A248 w244 (obS (α := know_Term) 83 v39 s33 :: obC b19 [.slice none 0 0, .slice none 0 0, .slice none 0 0] 26 :: obC b7 [v211, v_x1, v_x2] 26 :: []) := hH251
    have h258 : (v243).oneCell' = true := by obtain ⟨_, _, e, _⟩ := Sl.form h250; rw [e]; rfl
    refine V_storeC (Dw := Dw) (off := 1) (ds := [v211, v243, v_x2]) hH (i := 2) rfl Tryz.sizeOf23 (by show (v243 : Value).cells.size = _; rw [← Array.length_toList, Value.cells_one h258]; rfl) (Nat.le_of_ble_eq_true rfl) (by intro u hu; change u ∈ (v243 : Value).cells.toList at hu; rw [Value.cells_one h258] at hu; simp at hu; subst hu; assumption) (by show _ ++ (v243 : Value).cells.toList ++ _ = _; rw [Value.cells_one h258]; rfl) hB hA rfl rfl ?_
    intro w253 hH254 ht255
    replace h_x1 := Sl.tr (Dw := Dw) h_x1 ht255
    replace h250 := Sl.tr (Dw := Dw) h250 ht255
    replace h218 := Sl.tr (Dw := Dw) h218 ht255
    replace h_x2 := Sl.tr (Dw := Dw) h_x2 ht255
    replace hK := Tr.trans (Dw := Dw) hK ht255
    replace hB := Nat.le_trans hB ht255.ex.size
    replace hA := ht255.new
    replace hH : Hp w.heap.size A248 w253 (obS (α := know_Term) 83 v39 s33 :: obC b19 [.slice none 0 0, .slice none 0 0, .slice none 0 0] 26 :: obC b7 [v211, v243, v_x2] 26 :: []) := hH254
    refine V_to (fun _ _ => rfl) ?_
    refine C_seq ?_
    refine C_region ?_
    refine V_y (Y_fieldAddrC (off2 := 2) Tryz.underlying26 rfl Tryz.sizeOf24 (by decide) rfl rfl) rfl rfl rfl ?_
    refine V_y (Y_load (Hp.cell (j := 2) hH (i := 2) rfl rfl) Tryz.isAgg24 rfl) rfl rfl rfl ?_
    refine V_y (Y_move rfl) rfl rfl rfl ?_
    obtain ⟨A259, ht260, h261, hH262⟩ := Hp.freeze (Dw := Dw) (α := know_Term) (v := v39) (l := s33) hH (i := 0) rfl hA
    replace h_x2 := Sl.tr (Dw := Dw) h_x2 ht260
    replace h218 := Sl.tr (Dw := Dw) h218 ht260
    replace h250 := Sl.tr (Dw := Dw) h250 ht260
    replace hK := Tr.trans (Dw := Dw) hK ht260
    replace hB := Nat.le_trans hB ht260.ex.size
    replace hA := ht260.new
    replace hH : Hp w.heap.size A259 w253 (obC b19 [.slice none 0 0, .slice none 0 0, .slice none 0 0] 26 :: obC b7 [v211, v243, v_x2] 26 :: []) := hH262
    obtain ⟨x266, hx266, hm⟩ := Option.bind_eq_some_iff.1 hm
    refine V_call Tryz.call77 rfl rfl rfl rfl (know_merged_know_Term_c (Dw := Dw) w253 hB hA x.terms v_x2 h_x2 s33 v39 h261 (fun y281 y282 => know_byWord y281 y282) 73 #[] #[] Tryz.call73 (fun w277 A278 ht279 h280 y269 v270 h271 y272 v273 h274 r275 h276 => (know_byWord_c (Dw := Dw) w277 h280 y269 v270 h271 y272 v273 h274  h276).mono (fun _ _ h => ⟨h.1, h.2⟩)) hH hx266) ?_
    rintro v267 w283 ⟨_, A284, rfl, hH285, ht286⟩
    replace h261 := Sl.tr (Dw := Dw) h261 ht286
    replace h_x2 := Sl.tr (Dw := Dw) h_x2 ht286
    replace h218 := Sl.tr (Dw := Dw) h218 ht286
    replace h250 := Sl.tr (Dw := Dw) h250 ht286
    replace hK := Tr.trans (Dw := Dw) hK ht286
    replace hB := Nat.le_trans hB ht286.ex.size
    replace hA := ht286.new
    replace hH : Hp w.heap.size A284 w283 (obS (α := know_Term) 83 v267 x266 :: obC b19 [.slice none 0 0, .slice none 0 0, .slice none 0 0] 26 :: obC b7 [v211, v243, v_x2] 26 :: []) := hH285
    refine V_y (Y_fieldAddrC (off2 := 2) Tryz.underlying26 rfl Tryz.sizeOf24 (by decide) rfl rfl) rfl rfl rfl ?_
    obtain ⟨A287, ht288, h289, hH290⟩ := Hp.freeze (Dw := Dw) (α := know_Term) (v := v267) (l := x266) hH (i := 0) rfl hA
    replace h261 := Sl.tr (Dw := Dw) h261 ht288
    replace h_x2 := Sl.tr (Dw := Dw) h_x2 ht288
    replace h218 := Sl.tr (Dw := Dw) h218 ht288
    replace h250 := Sl.tr (Dw := Dw) h250 ht288
    replace hK := Tr.trans (Dw := Dw) hK ht288
    replace hB := Nat.le_trans hB ht288.ex.size
    replace hA := ht288.new
    replace hH : Hp w.heap.size A287 w283 (obC b19 [.slice none 0 0, .slice none 0 0, .slice none 0 0] 26 :: obC b7 [v211, v243, v_x2] 26 :: []) := hH290
    have h297 : (v267).oneCell' = true := by obtain ⟨_, _, e, _⟩ := Sl.form h289; rw [e]; rfl
    refine V_storeC (Dw := Dw) (off := 2) (ds := [v211, v243, v267]) hH (i := 1) rfl Tryz.sizeOf24 (by show (v267 : Value).cells.size = _; rw [← Array.length_toList, Value.cells_one h297]; rfl) (Nat.le_of_ble_eq_true rfl) (by intro u hu; change u ∈ (v267 : Value).cells.toList at hu; rw [Value.cells_one h297] at hu; simp at hu; subst hu; assumption) (by show _ ++ (v267 : Value).cells.toList ++ _ = _; rw [Value.cells_one h297]; rfl) hB hA rfl rfl ?_
    intro w292 hH293 ht294
    replace h261 := Sl.tr (Dw := Dw) h261 ht294
    replace h_x2 := Sl.tr (Dw := Dw) h_x2 ht294
    replace h289 := Sl.tr (Dw := Dw) h289 ht294
    replace h218 := Sl.tr (Dw := Dw) h218 ht294
    replace h250 := Sl.tr (Dw := Dw) h250 ht294
    replace hK := Tr.trans (Dw := Dw) hK ht294
    replace hB := Nat.le_trans hB ht294.ex.size
    replace hA := ht294.new
    replace hH : Hp w.heap.size A287 w292 (obC b19 [.slice none 0 0, .slice none 0 0, .slice none 0 0] 26 :: obC b7 [v211, v243, v267] 26 :: []) := hH293
    refine V_to (fun _ _ => rfl) ?_
    refine C_seq ?_
    refine C_region ?_
    refine V_y (Y_loadA (Hp.part (off := 0) (n := 3) (ds := [v211, v243, v267]) hH (i := 1) rfl rfl) Tryz.isAgg26 Tryz.sizeOf26 rfl) rfl rfl rfl ?_
    have h303 : (v211).oneCell' = true := by obtain ⟨_, _, e, _⟩ := Sl.form h218; rw [e]; rfl
    have h306 : (v243).oneCell' = true := by obtain ⟨_, _, e, _⟩ := Sl.form h250; rw [e]; rfl
    have h309 : (v267).oneCell' = true := by obtain ⟨_, _, e, _⟩ := Sl.form h289; rw [e]; rfl
    refine V_storeC (Dw := Dw) (off := 0) (ds := [v211, v243, v267]) hH (i := 0) rfl Tryz.sizeOf26 rfl (Nat.le_of_ble_eq_true rfl) (by exact (List.forall_mem_cons.2 ⟨h303, (List.forall_mem_cons.2 ⟨h306, (List.forall_mem_cons.2 ⟨h309, (fun _ h => nomatch h)⟩)⟩)⟩)) rfl hB hA rfl rfl ?_
    intro w298 hH299 ht300
    replace h218 := Sl.tr (Dw := Dw) h218 ht300
    replace h250 := Sl.tr (Dw := Dw) h250 ht300
    replace h289 := Sl.tr (Dw := Dw) h289 ht300
    replace hK := Tr.trans (Dw := Dw) hK ht300
    replace hB := Nat.le_trans hB ht300.ex.size
    replace hA := ht300.new
    replace hH : Hp w.heap.size A287 w298 (obC b19 [v211, v243, v267] 26 :: obC b7 [v211, v243, v267] 26 :: []) := hH299
    refine V_to (fun _ _ => rfl) ?_
    obtain rfl := Option.some.inj hm
    refine C_ret ?_
    try simp only [↓inBlock_ret, ↓then_ret]
    exact retQ rfl (Res.l1 Tryz.results15 (RL.cell rfl (loadVar_agg (Hp.part (off := 0) (n := 3) (ds := [v211, v243, v267]) hH (i := 0) rfl rfl) Tryz.isAgg26 Tryz.sizeOf26))) ⟨v211, v243, v267, rfl, (Sl.out (Dw := Dw) h218 hA0 hK), (Sl.out (Dw := Dw) h250 hA0 hK), (Sl.out (Dw := Dw) h289 hA0 hK), hK.kp⟩
  obtain ⟨x310, hx310, hm⟩ := Option.bind_eq_some_iff.1 hm
  refine V_call Tryz.call76 rfl rfl rfl rfl (slices_Clone_Lint_int_c (Dw := Dw) w191 hA x.ids v_x0 h_x0 hx310) ?_
  rintro v311 w313 ⟨_, rfl, h312, hk314⟩
  obtain ⟨A315, ht316, hH317⟩ := Hp.addOwnd (Dw := Dw) hH hB hA hk314 h312
  replace h16 := El.tr (Dw := Dw) h16 ht316
  replace h_x0 := Sl.tr (Dw := Dw) h_x0 ht316
  replace h194 := El.tr (Dw := Dw) h194 ht316
  replace h_x1 := Sl.tr (Dw := Dw) h_x1 ht316
  replace h_x2 := Sl.tr (Dw := Dw) h_x2 ht316
  replace hK := Tr.trans (Dw := Dw) hK ht316
  replace hB := Nat.le_trans hB ht316.ex.size
  replace hA := ht316.new
  replace hH : Hp w.heap.size A315 w313 (obS (α := Int) 3 v311 x310 :: obS (α := know_Term) 83 v39 s33 :: obC b19 [.slice none 0 0, .slice none 0 0, .slice none 0 0] 26 :: obC b7 [v_x0, v_x1, v_x2] 26 :: []) := hH317
  refine V_CHZ (Dw := Dw) (hk314) ?_
  refine CHZ_nil (Dw := Dw) ?_
  refine CH_l1 (Dw := Dw) (k := 0) rfl ?_
  refine V_buildOwnHk (Dw := Dw) (l := ([v.id_] : List Int)) (len := 1) hH Tryz.underlying23 Tryz.sizeOf3 Tryz.zeroValue3 rfl (by with_unfolding_all rfl) (show (1 * 1 : Nat) ≠ 0 by decide) (show (1 * 1 : Nat) ≤ 2 ^ 24 by decide) hB hA ⟨[.int .i64 v.id_], _, rfl, rfl, rfl⟩ rfl rfl ?_
  intro v318 w319 A322 hk321 hH324 ht323
  replace h16 := El.tr (Dw := Dw) h16 ht323
  replace h_x0 := Sl.tr (Dw := Dw) h_x0 ht323
  replace h194 := El.tr (Dw := Dw) h194 ht323
  replace h_x1 := Sl.tr (Dw := Dw) h_x1 ht323
  replace h_x2 := Sl.tr (Dw := Dw) h_x2 ht323
  replace hK := Tr.trans (Dw := Dw) hK ht323
  replace hB := Nat.le_trans hB ht323.ex.size
  replace hA := ht323.new
  replace hH : Hp w.heap.size A322 w319 (obS (α := Int) 3 v318 ([v.id_] : List Int) :: obS (α := Int) 3 v311 x310 :: obS (α := know_Term) 83 v39 s33 :: obC b19 [.slice none 0 0, .slice none 0 0, .slice none 0 0] 26 :: obC b7 [v_x0, v_x1, v_x2] 26 :: []) := hH324
  refine V_CH (Dw := Dw) (hk321) ?_
  refine CH_l1 (Dw := Dw) (k := 2) rfl ?_
  obtain ⟨x325, hx325, hm⟩ := Option.bind_eq_some_iff.1 hm
  refine V_call Tryz.call53 rfl rfl rfl rfl (slices_Insert_Lint_int_c (Dw := Dw) w319 x190.1 hH (i := 0) rfl hB hA hx325) ?_
  rintro v326 w327 ⟨_, A328, rfl, hH329, ht330⟩
  replace h16 := El.tr (Dw := Dw) h16 ht330
  replace h_x0 := Sl.tr (Dw := Dw) h_x0 ht330
  replace h194 := El.tr (Dw := Dw) h194 ht330
  replace h_x1 := Sl.tr (Dw := Dw) h_x1 ht330
  replace h_x2 := Sl.tr (Dw := Dw) h_x2 ht330
  replace hK := Tr.trans (Dw := Dw) hK ht330
  replace hB := Nat.le_trans hB ht330.ex.size
  replace hA := ht330.new
  replace hH : Hp w.heap.size A328 w327 (obS (α := Int) 3 v326 x325 :: obS (α := know_Term) 83 v39 s33 :: obC b19 [.slice none 0 0, .slice none 0 0, .slice none 0 0] 26 :: obC b7 [v_x0, v_x1, v_x2] 26 :: []) := hH329
  refine V_CHw (Dw := Dw) ?_
  refine CH_q2 (Dw := Dw) rfl ?_
  refine VQ_y (fun w' hw' => Y_fieldAddrC (off2 := 0) Tryz.underlying26 rfl Tryz.sizeOf23 (by decide) rfl rfl) rfl rfl rfl ?_
  refine VQ_CH (Dw := Dw) ?_
  refine CH_l1 (Dw := Dw) (k := 2) rfl ?_
  obtain ⟨A331, ht332, h333, hH334⟩ := Hp.freeze (Dw := Dw) (α := Int) (v := v326) (l := x325) hH (i := 0) rfl hA
  replace h16 := El.tr (Dw := Dw) h16 ht332
  replace h_x0 := Sl.tr (Dw := Dw) h_x0 ht332
  replace h194 := El.tr (Dw := Dw) h194 ht332
  replace h_x1 := Sl.tr (Dw := Dw) h_x1 ht332
  replace h_x2 := Sl.tr (Dw := Dw) h_x2 ht332
  replace hK := Tr.trans (Dw := Dw) hK ht332
  replace hB := Nat.le_trans hB ht332.ex.size
  replace hA := ht332.new
  replace hH : Hp w.heap.size A331 w327 (obS (α := know_Term) 83 v39 s33 :: obC b19 [.slice none 0 0, .slice none 0 0, .slice none 0 0] 26 :: obC b7 [v_x0, v_x1, v_x2] 26 :: []) := hH334
  have h341 : (v326).oneCell' = true := by obtain ⟨_, _, e, _⟩ := Sl.form h333; rw [e]; rfl
  refine V_storeC (Dw := Dw) (off := 0) (ds := [v326, v_x1, v_x2]) hH (i := 2) rfl Tryz.sizeOf23 (by show (v326 : Value).cells.size = _; rw [← Array.length_toList, Value.cells_one h341]; rfl) (Nat.le_of_ble_eq_true rfl) (by intro u hu; change u ∈ (v326 : Value).cells.toList at hu; rw [Value.cells_one h341] at hu; simp at hu; subst hu; assumption) (by show _ ++ (v326 : Value).cells.toList ++ _ = _; rw [Value.cells_one h341]; rfl) hB hA rfl rfl ?_
  intro w336 hH337 ht338
  replace h16 := El.tr (Dw := Dw) h16 ht338
  replace h_x0 := Sl.tr (Dw := Dw) h_x0 ht338
  replace h194 := El.tr (Dw := Dw) h194 ht338
  replace h333 := Sl.tr (Dw := Dw) h333 ht338
  replace h_x1 := Sl.tr (Dw := Dw) h_x1 ht338
  replace h_x2 := Sl.tr (Dw := Dw) h_x2 ht338
  replace hK := Tr.trans (Dw := Dw) hK ht338
  replace hB := Nat.le_trans hB ht338.ex.size
  replace hA := ht338.new
  replace hH : Hp w.heap.size A331 w336 (obS (α := know_Term) 83 v39 s33 :: obC b19 [.slice none 0 0, .slice none 0 0, .slice none 0 0] 26 :: obC b7 [v326, v_x1, v_x2] 26 :: []) := hH337
  refine V_CHw (Dw := Dw) ?_
  refine CH_tail (Dw := Dw) ?_
  show V _ _ _ _ [] _ _
  refine V_to (fun _ _ => rfl) ?_
  refine C_seq ?_
  refine C_region ?_
  refine V_y (Y_fieldAddrC (off2 := 1) Tryz.underlying26 rfl Tryz.sizeOf23 (by decide) rfl rfl) rfl rfl rfl ?_
  refine V_y (Y_load (Hp.cell (j := 1) hH (i := 2) rfl rfl) Tryz.isAgg23 rfl) rfl rfl rfl ?_
  obtain ⟨x342, hx342, hm⟩ := Option.bind_eq_some_iff.1 hm
  refine V_call Tryz.call76 rfl rfl rfl rfl (slices_Clone_Lint_int_c (Dw := Dw) w336 hA x.sizes v_x1 h_x1 hx342) ?_
  rintro v343 w345 ⟨_, rfl, h344, hk346⟩
  obtain ⟨A347, ht348, hH349⟩ := Hp.addOwnd (Dw := Dw) hH hB hA hk346 h344
  replace h_x1 := Sl.tr (Dw := Dw) h_x1 ht348
  replace h333 := Sl.tr (Dw := Dw) h333 ht348
  replace h_x2 := Sl.tr (Dw := Dw) h_x2 ht348
  replace hK := Tr.trans (Dw := Dw) hK ht348
  replace hB := Nat.le_trans hB ht348.ex.size
  replace hA := ht348.new
  replace hH : Hp w.heap.size A347 w345 (obS (α := Int) 3 v343 x342 :: obS (α := know_Term) 83 v39 s33 :: obC b19 [.slice none 0 0, .slice none 0 0, .slice none 0 0] 26 :: obC b7 [v326, v_x1, v_x2] 26 :: []) := hH349
  refine V_y (Y_move rfl) rfl rfl rfl ?_
  refine V_y (Y_move rfl) rfl rfl rfl ?_
  refine V_buildOwnH (Dw := Dw) (l := ([x25.2] : List Int)) (len := 1) hH Tryz.underlying23 Tryz.sizeOf3 Tryz.zeroValue3 rfl (by with_unfolding_all rfl) (show (1 * 1 : Nat) ≠ 0 by decide) (show (1 * 1 : Nat) ≤ 2 ^ 24 by decide) hB hA ⟨[.int .i64 x25.2], _, rfl, rfl, rfl⟩ rfl rfl ?_
  intro v350 w351 A354 hH356 ht355
  replace h_x1 := Sl.tr (Dw := Dw) h_x1 ht355
  replace h333 := Sl.tr (Dw := Dw) h333 ht355
  replace h_x2 := Sl.tr (Dw := Dw) h_x2 ht355
  replace hK := Tr.trans (Dw := Dw) hK ht355
  replace hB := Nat.le_trans hB ht355.ex.size
  replace hA := ht355.new
  replace hH : Hp w.heap.size A354 w351 (obS (α := Int) 3 v350 ([x25.2] : List Int) :: obS (α := Int) 3 v343 x342 :: obS (α := know_Term) 83 v39 s33 :: obC b19 [.slice none 0 0, .slice none 0 0, .slice none 0 0] 26 :: obC b7 [v326, v_x1, v_x2] 26 :: []) := hH356
  obtain ⟨x357, hx357, hm⟩ := Option.bind_eq_some_iff.1 hm
  refine V_call Tryz.call53 rfl rfl rfl rfl (slices_Insert_Lint_int_c (Dw := Dw) w351 x190.1 hH (i := 0) rfl hB hA hx357) ?_
  rintro v358 w359 ⟨_, A360, rfl, hH361, ht362⟩
  replace h_x1 := Sl.tr (Dw := Dw) h_x1 ht362
  replace h333 := Sl.tr (Dw := Dw) h333 ht362
  replace h_x2 := Sl.tr (Dw := Dw) h_x2 ht362
  replace hK := Tr.trans (Dw := Dw) hK ht362
  replace hB := Nat.le_trans hB ht362.ex.size
  replace hA := ht362.new
  replace hH : Hp w.heap.size A360 w359 (obS (α := Int) 3 v358 x357 :: obS (α := know_Term) 83 v39 s33 :: obC b19 [.slice none 0 0, .slice none 0 0, .slice none 0 0] 26 :: obC b7 [v326, v_x1, v_x2] 26 :: []) := hH361
  refine V_y (Y_fieldAddrC (off2 := 1) Tryz.underlying26 rfl Tryz.sizeOf23 (by decide) rfl rfl) rfl rfl rfl ?_
  obtain ⟨A363, ht364, h365, hH366⟩ := Hp.freeze (Dw := Dw) (α := Int) (v := v358) (l := x357) hH (i := 0) rfl hA
  replace h_x1 := Sl.tr (Dw := Dw) h_x1 ht364
  replace h333 := Sl.tr (Dw := Dw) h333 ht364
  replace h_x2 := Sl.tr (Dw := Dw) h_x2 ht364
  replace hK := Tr.trans (Dw := Dw) hK ht364
  replace hB := Nat.le_trans hB ht364.ex.size
  replace hA := ht364.new
  replace hH : Hp w.heap.size A363 w359 (obS (α := know_Term) 83 v39 s33 :: obC b19 [.slice none 0 0, .slice none 0 0, .slice none 0 0] 26 :: obC b7 [v326, v_x1, v_x2] 26 :: []) := hH366
  have h373 : (v358).oneCell' = true := by obtain ⟨_, _, e, _⟩ := Sl.form h365; rw [e]; rfl
  refine V_storeC (Dw := Dw) (off := 1) (ds := [v326, v358, v_x2]) hH (i := 2) rfl Tryz.sizeOf23 (by show (v358 : Value).cells.size = _; rw [← Array.length_toList, Value.cells_one h373]; rfl) (Nat.le_of_ble_eq_true rfl) (by intro u hu; change u ∈ (v358 : Value).cells.toList at hu; rw [Value.cells_one h373] at hu; simp at hu; subst hu; assumption) (by show _ ++ (v358 : Value).cells.toList ++ _ = _; rw [Value.cells_one h373]; rfl) hB hA rfl rfl ?_
  intro w368 hH369 ht370
  replace h_x1 := Sl.tr (Dw := Dw) h_x1 ht370
  replace h365 := Sl.tr (Dw := Dw) h365 ht370
  replace h333 := Sl.tr (Dw := Dw) h333 ht370
  replace h_x2 := Sl.tr (Dw := Dw) h_x2 ht370
  replace hK := Tr.trans (Dw := Dw) hK ht370
  replace hB := Nat.le_trans hB ht370.ex.size
  replace hA := ht370.new
  replace hH : Hp w.heap.size A363 w368 (obS (α := know_Term) 83 v39 s33 :: obC b19 [.slice none 0 0, .slice none 0 0, .slice none 0 0] 26 :: obC b7 [v326, v358, v_x2] 26 :: []) := hH369
  refine V_to (fun _ _ => rfl) ?_
  refine C_seq ?_
  refine C_region ?_
  refine V_y (Y_fieldAddrC (off2 := 2) Tryz.underlying26 rfl Tryz.sizeOf24 (by decide) rfl rfl) rfl rfl rfl ?_
  refine V_y (Y_load (Hp.cell (j := 2) hH (i := 2) rfl rfl) Tryz.isAgg24 rfl) rfl rfl rfl ?_
  refine V_y (Y_move rfl) rfl rfl rfl ?_
  obtain ⟨A374, ht375, h376, hH377⟩ := Hp.freeze (Dw := Dw) (α := know_Term) (v := v39) (l := s33) hH (i := 0) rfl hA
  replace h_x2 := Sl.tr (Dw := Dw) h_x2 ht375
  replace h333 := Sl.tr (Dw := Dw) h333 ht375
  replace h365 := Sl.tr (Dw := Dw) h365 ht375
  replace hK := Tr.trans (Dw := Dw) hK ht375
  replace hB := Nat.le_trans hB ht375.ex.size
  replace hA := ht375.new
  replace hH : Hp w.heap.size A374 w368 (obC b19 [.slice none 0 0, .slice none 0 0, .slice none 0 0] 26 :: obC b7 [v326, v358, v_x2] 26 :: []) := hH377
  obtain ⟨x381, hx381, hm⟩ := Option.bind_eq_some_iff.1 hm
  refine V_call Tryz.call77 rfl rfl rfl rfl (know_merged_know_Term_c (Dw := Dw) w368 hB hA x.terms v_x2 h_x2 s33 v39 h376 (fun y396 y397 => know_byWord y396 y397) 73 #[] #[] Tryz.call73 (fun w392 A393 ht394 h395 y384 v385 h386 y387 v388 h389 r390 h391 => (know_byWord_c (Dw := Dw) w392 h395 y384 v385 h386 y387 v388 h389  h391).mono (fun _ _ h => ⟨h.1, h.2⟩)) hH hx381) ?_
  rintro v382 w398 ⟨_, A399, rfl, hH400, ht401⟩
  replace h376 := Sl.tr (Dw := Dw) h376 ht401
  replace h_x2 := Sl.tr (Dw := Dw) h_x2 ht401
  replace h333 := Sl.tr (Dw := Dw) h333 ht401
  replace h365 := Sl.tr (Dw := Dw) h365 ht401
  replace hK := Tr.trans (Dw := Dw) hK ht401
  replace hB := Nat.le_trans hB ht401.ex.size
  replace hA := ht401.new
  replace hH : Hp w.heap.size A399 w398 (obS (α := know_Term) 83 v382 x381 :: obC b19 [.slice none 0 0, .slice none 0 0, .slice none 0 0] 26 :: obC b7 [v326, v358, v_x2] 26 :: []) := hH400
  refine V_y (Y_fieldAddrC (off2 := 2) Tryz.underlying26 rfl Tryz.sizeOf24 (by decide) rfl rfl) rfl rfl rfl ?_
  obtain ⟨A402, ht403, h404, hH405⟩ := Hp.freeze (Dw := Dw) (α := know_Term) (v := v382) (l := x381) hH (i := 0) rfl hA
  replace h376 := Sl.tr (Dw := Dw) h376 ht403
  replace h_x2 := Sl.tr (Dw := Dw) h_x2 ht403
  replace h333 := Sl.tr (Dw := Dw) h333 ht403
  replace h365 := Sl.tr (Dw := Dw) h365 ht403
  replace hK := Tr.trans (Dw := Dw) hK ht403
  replace hB := Nat.le_trans hB ht403.ex.size
  replace hA := ht403.new
  replace hH : Hp w.heap.size A402 w398 (obC b19 [.slice none 0 0, .slice none 0 0, .slice none 0 0] 26 :: obC b7 [v326, v358, v_x2] 26 :: []) := hH405
  have h412 : (v382).oneCell' = true := by obtain ⟨_, _, e, _⟩ := Sl.form h404; rw [e]; rfl
  refine V_storeC (Dw := Dw) (off := 2) (ds := [v326, v358, v382]) hH (i := 1) rfl Tryz.sizeOf24 (by show (v382 : Value).cells.size = _; rw [← Array.length_toList, Value.cells_one h412]; rfl) (Nat.le_of_ble_eq_true rfl) (by intro u hu; change u ∈ (v382 : Value).cells.toList at hu; rw [Value.cells_one h412] at hu; simp at hu; subst hu; assumption) (by show _ ++ (v382 : Value).cells.toList ++ _ = _; rw [Value.cells_one h412]; rfl) hB hA rfl rfl ?_
  intro w407 hH408 ht409
  replace h376 := Sl.tr (Dw := Dw) h376 ht409
  replace h_x2 := Sl.tr (Dw := Dw) h_x2 ht409
  replace h404 := Sl.tr (Dw := Dw) h404 ht409
  replace h333 := Sl.tr (Dw := Dw) h333 ht409
  replace h365 := Sl.tr (Dw := Dw) h365 ht409
  replace hK := Tr.trans (Dw := Dw) hK ht409
  replace hB := Nat.le_trans hB ht409.ex.size
  replace hA := ht409.new
  replace hH : Hp w.heap.size A402 w407 (obC b19 [.slice none 0 0, .slice none 0 0, .slice none 0 0] 26 :: obC b7 [v326, v358, v382] 26 :: []) := hH408
  refine V_to (fun _ _ => rfl) ?_
  refine C_seq ?_
  refine C_region ?_
  refine V_y (Y_loadA (Hp.part (off := 0) (n := 3) (ds := [v326, v358, v382]) hH (i := 1) rfl rfl) Tryz.isAgg26 Tryz.sizeOf26 rfl) rfl rfl rfl ?_
  have h418 : (v326).oneCell' = true := by obtain ⟨_, _, e, _⟩ := Sl.form h333; rw [e]; rfl
  have h421 : (v358).oneCell' = true := by obtain ⟨_, _, e, _⟩ := Sl.form h365; rw [e]; rfl
  have h424 : (v382).oneCell' = true := by obtain ⟨_, _, e, _⟩ := Sl.form h404; rw [e]; rfl
  refine V_storeC (Dw := Dw) (off := 0) (ds := [v326, v358, v382]) hH (i := 0) rfl Tryz.sizeOf26 rfl (Nat.le_of_ble_eq_true rfl) (by exact (List.forall_mem_cons.2 ⟨h418, (List.forall_mem_cons.2 ⟨h421, (List.forall_mem_cons.2 ⟨h424, (fun _ h => nomatch h)⟩)⟩)⟩)) rfl hB hA rfl rfl ?_
  intro w413 hH414 ht415
  replace h333 := Sl.tr (Dw := Dw) h333 ht415
  replace h365 := Sl.tr (Dw := Dw) h365 ht415
  replace h404 := Sl.tr (Dw := Dw) h404 ht415
  replace hK := Tr.trans (Dw := Dw) hK ht415
  replace hB := Nat.le_trans hB ht415.ex.size
  replace hA := ht415.new
  replace hH : Hp w.heap.size A402 w413 (obC b19 [v326, v358, v382] 26 :: obC b7 [v326, v358, v382] 26 :: []) := hH414
  refine V_to (fun _ _ => rfl) ?_
  obtain rfl := Option.some.inj hm
  refine C_ret ?_
  try simp only [↓inBlock_ret, ↓then_ret]
  exact retQ rfl (Res.l1 Tryz.results15 (RL.cell rfl (loadVar_agg (Hp.part (off := 0) (n := 3) (ds := [v326, v358, v382]) hH (i := 0) rfl rfl) Tryz.isAgg26 Tryz.sizeOf26))) ⟨v326, v358, v382, rfl, (Sl.out (Dw := Dw) h333 hA0 hK), (Sl.out (Dw := Dw) h365 hA0 hK), (Sl.out (Dw := Dw) h404 hA0 hK), hK.kp⟩

end Go.Proofs.YtldkdabcdbgpbaaGreatDoor.W
