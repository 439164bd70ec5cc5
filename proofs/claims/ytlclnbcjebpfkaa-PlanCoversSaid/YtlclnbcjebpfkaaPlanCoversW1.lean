/-
  Written by program (gen.py) from the IR of the dump: each function computes its model.
-/
import Derived.Test.YtlclnbcjebpfkaaPlanCoversW0
namespace Go.Proofs.Ytlclnbcjebpfkaa.W
open Go Go.RowKit Go.Pu Go.Fw Go.Proofs Go.Proofs.Ytlclnbcjebpfkaa.M
set_option linter.unusedVariables false

set_option maxRecDepth 4000 in
theorem portlaw2_PlanCovers_c (w : World) {A : Nat → Prop} (hA : ∀ b, w.heap.size ≤ b → A b) (forms : (List staff_Form)) (v_forms : Value) (h_forms : Sl A w v_forms forms) (slots : Int) (plan : (List Int)) (v_plan : Value) (h_plan : Sl A w v_plan plan) (demand : (List Int)) (v_demand : Value) (h_demand : Sl A w v_demand demand) (there : (List Int)) (v_there : Value) (h_there : Sl A w v_there there) {r : Bool} (hm : portlaw2_PlanCovers forms slots plan demand there = some r) : Ret Try.prog 5 #[v_forms, .int .i64 slots, v_plan, v_demand, v_there] w fun v w' => v = .bool r ∧ Kp w w' := by
  unfold portlaw2_PlanCovers at hm
  refine enter Try.func5 rfl Try.ntmps5 rfl ?_
  have hK := Kp.refl w
  refine C_seq ?_
  refine C_region ?_
  refine V_y (Y_assign rfl) rfl rfl rfl ?_
  refine V_to (fun _ _ => rfl) ?_
  refine C_seq ?_
  refine C_region ?_
  refine V_y (Y_move rfl) rfl rfl rfl ?_
  refine V_y (Y_move rfl) rfl rfl rfl ?_
  refine V_y (Y_move rfl) rfl rfl rfl ?_
  obtain ⟨x9, hx9, hm⟩ := Option.bind_eq_some_iff.1 hm
  refine V_call Try.call15 rfl rfl rfl rfl (staff_Cover_c w hA forms v_forms h_forms slots plan v_plan h_plan hx9) ?_
  rintro _ w12 ⟨v10, rfl, h11, hk13⟩
  replace h_forms := h_forms.kp hk13
  replace h_plan := h_plan.kp hk13
  replace h_demand := h_demand.kp hk13
  replace h_there := h_there.kp hk13
  replace hK := Kp.trans hK hk13
  replace hA : ∀ b, w12.heap.size ≤ b → A b := fun b hb => hA b (Nat.le_trans hk13.size hb)
  refine V_y (Y_move rfl) rfl rfl rfl ?_
  refine V_y (Y_extract rfl rfl) rfl rfl rfl ?_
  refine V_y (Y_extract rfl rfl) rfl rfl rfl ?_
  refine V_y (Y_assign rfl) rfl rfl rfl ?_
  refine V_y (Y_assign rfl) rfl rfl rfl ?_
  refine V_to (fun _ _ => rfl) ?_
  refine C_seq ?_
  refine C_region ?_
  refine V_y (Y_move rfl) rfl rfl rfl ?_
  refine V_y (Y_move rfl) rfl rfl rfl ?_
  refine V_y (Y_move rfl) rfl rfl rfl ?_
  obtain ⟨x14, hx14, hm⟩ := Option.bind_eq_some_iff.1 hm
  refine V_call Try.call16 rfl rfl rfl rfl (portref2_CoverOf_c w12 hA forms v_forms h_forms slots plan v_plan h_plan hx14) ?_
  rintro _ w17 ⟨v15, rfl, h16, hk18⟩
  replace h_forms := h_forms.kp hk18
  replace h_plan := h_plan.kp hk18
  replace h_demand := h_demand.kp hk18
  replace h_there := h_there.kp hk18
  replace h11 := h11.kp hk18
  replace hK := Kp.trans hK hk18
  replace hA : ∀ b, w17.heap.size ≤ b → A b := fun b hb => hA b (Nat.le_trans hk18.size hb)
  refine V_y (Y_move rfl) rfl rfl rfl ?_
  refine V_y (Y_extract rfl rfl) rfl rfl rfl ?_
  refine V_y (Y_extract rfl rfl) rfl rfl rfl ?_
  refine V_y (Y_assign rfl) rfl rfl rfl ?_
  refine V_y (Y_assign rfl) rfl rfl rfl ?_
  refine V_to (fun _ _ => rfl) ?_
  refine C_seq ?_
  refine C_region ?_
  refine V_y (Y_move rfl) rfl rfl rfl ?_
  refine V_y (Y_move rfl) rfl rfl rfl ?_
  obtain ⟨x19, hx19, hm⟩ := Option.bind_eq_some_iff.1 hm
  refine V_call Try.call17 rfl rfl rfl rfl (staff_Short_c w17 hA demand v_demand h_demand there v_there h_there hx19) ?_
  rintro _ w22 ⟨v20, rfl, h21, hk23⟩
  replace h_forms := h_forms.kp hk23
  replace h_demand := h_demand.kp hk23
  replace h_there := h_there.kp hk23
  replace h11 := h11.kp hk23
  replace h16 := h16.kp hk23
  replace hK := Kp.trans hK hk23
  replace hA : ∀ b, w22.heap.size ≤ b → A b := fun b hb => hA b (Nat.le_trans hk23.size hb)
  refine V_y (Y_move rfl) rfl rfl rfl ?_
  refine V_y (Y_extract rfl rfl) rfl rfl rfl ?_
  refine V_y (Y_extract rfl rfl) rfl rfl rfl ?_
  refine V_y (Y_assign rfl) rfl rfl rfl ?_
  refine V_y (Y_assign rfl) rfl rfl rfl ?_
  refine V_to (fun _ _ => rfl) ?_
  refine C_seq ?_
  refine C_region ?_
  refine V_y (Y_move rfl) rfl rfl rfl ?_
  refine V_y (Y_move rfl) rfl rfl rfl ?_
  obtain ⟨x24, hx24, hm⟩ := Option.bind_eq_some_iff.1 hm
  refine V_call Try.call18 rfl rfl rfl rfl (portref2_ShortOf_c w22 hA demand v_demand h_demand there v_there h_there hx24) ?_
  rintro _ w27 ⟨v25, rfl, h26, hk28⟩
  replace h_forms := h_forms.kp hk28
  replace h_demand := h_demand.kp hk28
  replace h_there := h_there.kp hk28
  replace h11 := h11.kp hk28
  replace h16 := h16.kp hk28
  replace h21 := h21.kp hk28
  replace hK := Kp.trans hK hk28
  replace hA : ∀ b, w27.heap.size ≤ b → A b := fun b hb => hA b (Nat.le_trans hk28.size hb)
  refine V_y (Y_move rfl) rfl rfl rfl ?_
  refine V_y (Y_extract rfl rfl) rfl rfl rfl ?_
  refine V_y (Y_extract rfl rfl) rfl rfl rfl ?_
  refine V_y (Y_assign rfl) rfl rfl rfl ?_
  refine V_y (Y_assign rfl) rfl rfl rfl ?_
  refine V_to (fun _ _ => rfl) ?_
  refine C_seq ?_
  refine C_region ?_
  refine V_y (Y_move rfl) rfl rfl rfl ?_
  refine V_y (Y_move rfl) rfl rfl rfl ?_
  refine V_y (Y_eql rfl rfl) rfl rfl rfl ?_
  refine V_y (Y_move rfl) rfl rfl rfl ?_
  refine V_cut 4 (fun _ : Unit => [(0, v_forms), (11, v10), (13, v15), (15, v20), (17, v25), (52, .bool ((x9.2 == x14.2) && (x19.2 == x24.2)))]) (fun _ w' => w27 = w') ?_ ?_
  · simp only [List.take, List.drop]
    rcases Bool.eq_false_or_eq_true (x9.2 == x14.2) with hc29 | hc29
    · refine V_ge rfl rfl rfl hc29 ?_
      refine V_y (Y_move rfl) rfl rfl rfl ?_
      refine V_ge rfl rfl rfl hc29 ?_
      refine V_y (Y_move rfl) rfl rfl rfl ?_
      refine V_ge rfl rfl rfl hc29 ?_
      refine V_y (Y_eql rfl rfl) rfl rfl rfl ?_
      refine V_y (Y_pick_te rfl hc29 rfl) rfl rfl rfl ?_
      exact V_end fun a ha => ⟨(), ha.sub ⟨rfl, rfl, rfl, rfl, rfl, (by rw [hc29]; rfl), trivial⟩, rfl⟩
    · refine V_gn rfl rfl rfl hc29 rfl rfl rfl ?_
      refine V_gn rfl rfl rfl hc29 rfl rfl rfl ?_
      refine V_gn rfl rfl rfl hc29 rfl rfl rfl ?_
      refine V_y (Y_pick_fe rfl hc29 rfl) rfl rfl rfl ?_
      exact V_end fun a ha => ⟨(), ha.sub ⟨rfl, rfl, rfl, rfl, rfl, (by rw [hc29]; rfl), trivial⟩, rfl⟩
  simp only [List.take, List.drop]
  rintro _ _ rfl
  refine V_y (Y_move rfl) rfl rfl rfl ?_
  obtain ⟨s33, hs33, hm⟩ := Option.bind_eq_some_iff.1 hm
  refine V_cut 4 (fun _ : Unit => [(0, v_forms), (15, v20), (17, v25), (57, .bool s33)]) (fun _ w' => Kp w27 w') ?_ ?_
  · simp only [List.take, List.drop]
    rcases Bool.eq_false_or_eq_true (((x9.2 == x14.2) && (x19.2 == x24.2))) with hc32 | hc32
    · rw [if_pos hc32] at hs33
      have hr34 := Kp.refl w27
      refine V_ge rfl rfl rfl hc32 ?_
      refine V_y (Y_move rfl) rfl rfl rfl ?_
      refine V_ge rfl rfl rfl hc32 ?_
      refine V_y (Y_move rfl) rfl rfl rfl ?_
      refine V_ge rfl rfl rfl hc32 ?_
      obtain ⟨x35, hx35, hs33⟩ := Option.bind_eq_some_iff.1 hs33
      refine V_call Try.call14 rfl rfl rfl rfl (slices_Equal_Lint_int_c w27 hA x9.1 v10 h11 x14.1 v15 h16 hx35) ?_
      rintro _ w36 ⟨rfl, hk37⟩
      replace h_forms := h_forms.kp hk37
      replace h11 := h11.kp hk37
      replace h16 := h16.kp hk37
      replace h21 := h21.kp hk37
      replace h26 := h26.kp hk37
      replace hK := Kp.trans hK hk37
      replace hr34 := Kp.trans hr34 hk37
      replace hA : ∀ b, w36.heap.size ≤ b → A b := fun b hb => hA b (Nat.le_trans hk37.size hb)
      refine V_y (Y_pick_te rfl hc32 rfl) rfl rfl rfl ?_
      obtain rfl := Option.some.inj hs33
      exact V_end fun a ha => ⟨(), ha.sub ⟨rfl, rfl, rfl, rfl, trivial⟩, hr34⟩
    · rw [if_neg (nt hc32)] at hs33
      have hr34 := Kp.refl w27
      refine V_gn rfl rfl rfl hc32 rfl rfl rfl ?_
      refine V_gn rfl rfl rfl hc32 rfl rfl rfl ?_
      refine V_gn rfl rfl rfl hc32 rfl rfl rfl ?_
      refine V_y (Y_pick_fe rfl hc32 rfl) rfl rfl rfl ?_
      obtain rfl := Option.some.inj hs33
      exact V_end fun a ha => ⟨(), ha.sub ⟨rfl, rfl, rfl, rfl, trivial⟩, hr34⟩
  simp only [List.take, List.drop]
  rintro _ w38 hk39
  replace h_forms := h_forms.kp hk39
  replace h21 := h21.kp hk39
  replace h26 := h26.kp hk39
  replace hK := Kp.trans hK hk39
  replace hA : ∀ b, w38.heap.size ≤ b → A b := fun b hb => hA b (Nat.le_trans hk39.size hb)
  refine V_y (Y_move rfl) rfl rfl rfl ?_
  obtain ⟨s41, hs41, hm⟩ := Option.bind_eq_some_iff.1 hm
  refine V_cut 4 (fun _ : Unit => [(0, v_forms), (62, .bool s41)]) (fun _ w' => Kp w38 w') ?_ ?_
  · simp only [List.take, List.drop]
    rcases Bool.eq_false_or_eq_true (s33) with hc40 | hc40
    · rw [if_pos hc40] at hs41
      have hr42 := Kp.refl w38
      refine V_ge rfl rfl rfl hc40 ?_
      refine V_y (Y_move rfl) rfl rfl rfl ?_
      refine V_ge rfl rfl rfl hc40 ?_
      refine V_y (Y_move rfl) rfl rfl rfl ?_
      refine V_ge rfl rfl rfl hc40 ?_
      obtain ⟨x43, hx43, hs41⟩ := Option.bind_eq_some_iff.1 hs41
      refine V_call Try.call14 rfl rfl rfl rfl (slices_Equal_Lint_int_c w38 hA x19.1 v20 h21 x24.1 v25 h26 hx43) ?_
      rintro _ w44 ⟨rfl, hk45⟩
      replace h_forms := h_forms.kp hk45
      replace h21 := h21.kp hk45
      replace h26 := h26.kp hk45
      replace hK := Kp.trans hK hk45
      replace hr42 := Kp.trans hr42 hk45
      replace hA : ∀ b, w44.heap.size ≤ b → A b := fun b hb => hA b (Nat.le_trans hk45.size hb)
      refine V_y (Y_pick_te rfl hc40 rfl) rfl rfl rfl ?_
      obtain rfl := Option.some.inj hs41
      exact V_end fun a ha => ⟨(), ha.sub ⟨rfl, rfl, trivial⟩, hr42⟩
    · rw [if_neg (nt hc40)] at hs41
      have hr42 := Kp.refl w38
      refine V_gn rfl rfl rfl hc40 rfl rfl rfl ?_
      refine V_gn rfl rfl rfl hc40 rfl rfl rfl ?_
      refine V_gn rfl rfl rfl hc40 rfl rfl rfl ?_
      refine V_y (Y_pick_fe rfl hc40 rfl) rfl rfl rfl ?_
      obtain rfl := Option.some.inj hs41
      exact V_end fun a ha => ⟨(), ha.sub ⟨rfl, rfl, trivial⟩, hr42⟩
  simp only [List.take, List.drop]
  rintro _ w46 hk47
  replace h_forms := h_forms.kp hk47
  replace hK := Kp.trans hK hk47
  replace hA : ∀ b, w46.heap.size ≤ b → A b := fun b hb => hA b (Nat.le_trans hk47.size hb)
  refine V_y (Y_move rfl) rfl rfl rfl ?_
  obtain ⟨s49, hs49, hm⟩ := Option.bind_eq_some_iff.1 hm
  refine V_cut 6 (fun _ : Unit => [(69, .bool s49)]) (fun _ w' => Kp w46 w') ?_ ?_
  · simp only [List.take, List.drop]
    rcases Bool.eq_false_or_eq_true (s41) with hc48 | hc48
    · rw [if_pos hc48] at hs49
      have hr50 := Kp.refl w46
      refine V_ge rfl rfl rfl hc48 ?_
      refine V_y (Y_move rfl) rfl rfl rfl ?_
      refine V_ge rfl rfl rfl hc48 ?_
      obtain ⟨x51, hx51, hs49⟩ := Option.bind_eq_some_iff.1 hs49
      refine V_call Try.call19 rfl rfl rfl rfl (staff_CheckForms_c w46 hA forms v_forms h_forms hx51) ?_
      rintro _ w52 ⟨rfl, hk53⟩
      replace h_forms := h_forms.kp hk53
      replace hK := Kp.trans hK hk53
      replace hr50 := Kp.trans hr50 hk53
      replace hA : ∀ b, w52.heap.size ≤ b → A b := fun b hb => hA b (Nat.le_trans hk53.size hb)
      refine V_ge rfl rfl rfl hc48 ?_
      refine V_y (Y_move rfl) rfl rfl rfl ?_
      refine V_ge rfl rfl rfl hc48 ?_
      obtain ⟨x54, hx54, hs49⟩ := Option.bind_eq_some_iff.1 hs49
      refine V_call Try.call20 rfl rfl rfl rfl (portref2_FormsFault_c w52 hA forms v_forms h_forms hx54) ?_
      rintro _ w55 ⟨rfl, hk56⟩
      replace h_forms := h_forms.kp hk56
      replace hK := Kp.trans hK hk56
      replace hr50 := Kp.trans hr50 hk56
      replace hA : ∀ b, w55.heap.size ≤ b → A b := fun b hb => hA b (Nat.le_trans hk56.size hb)
      refine V_ge rfl rfl rfl hc48 ?_
      refine V_y (Y_eql rfl rfl) rfl rfl rfl ?_
      refine V_y (Y_pick_te rfl hc48 rfl) rfl rfl rfl ?_
      obtain rfl := Option.some.inj hs49
      exact V_end fun a ha => ⟨(), ha.sub ⟨rfl, trivial⟩, hr50⟩
    · rw [if_neg (nt hc48)] at hs49
      have hr50 := Kp.refl w46
      refine V_gn rfl rfl rfl hc48 rfl rfl rfl ?_
      refine V_gn rfl rfl rfl hc48 rfl rfl rfl ?_
      refine V_gn rfl rfl rfl hc48 rfl rfl rfl ?_
      refine V_gn rfl rfl rfl hc48 rfl rfl rfl ?_
      refine V_gn rfl rfl rfl hc48 rfl rfl rfl ?_
      refine V_y (Y_pick_fe rfl hc48 rfl) rfl rfl rfl ?_
      obtain rfl := Option.some.inj hs49
      exact V_end fun a ha => ⟨(), ha.sub ⟨rfl, trivial⟩, hr50⟩
  simp only [List.take, List.drop]
  rintro _ w57 hk58
  replace hK := Kp.trans hK hk58
  replace hA : ∀ b, w57.heap.size ≤ b → A b := fun b hb => hA b (Nat.le_trans hk58.size hb)
  refine V_y (Y_assign rfl) rfl rfl rfl ?_
  refine V_to (fun _ _ => rfl) ?_
  obtain rfl := Option.some.inj hm
  refine C_ret fun a ha => ?_
  try simp only [↓inBlock_ret, ↓then_ret]
  exact ret1 ha Try.results5 rfl ⟨rfl, hK⟩

end Go.Proofs.Ytlclnbcjebpfkaa.W
