/-
  Written by program (gen.py) from the IR of the dump: each function computes its model.
-/
import Derived.Test.YtlclnbcjebpfkaaPlanSparesW0
namespace Go.Proofs.Ytlclnbcjebpfkaa.W
open Go Go.RowKit Go.Pu Go.Fw Go.Proofs Go.Proofs.Ytlclnbcjebpfkaa.M
set_option linter.unusedVariables false

set_option maxRecDepth 4000 in
theorem portref2_SpareOf_c (w : World) {A : Nat → Prop} (hA : ∀ b, w.heap.size ≤ b → A b) (forms : (List staff_Form)) (v_forms : Value) (h_forms : Sl A w v_forms forms) (demand : (List Int)) (v_demand : Value) (h_demand : Sl A w v_demand demand) (plan : (List Int)) (v_plan : Value) (h_plan : Sl A w v_plan plan) {r : ((List Int) × Int)} (hm : portref2_SpareOf forms demand plan = some r) : Ret Try.prog 22 #[v_forms, v_demand, v_plan] w fun v w' => ∃ s0, ∃ A1 : Nat → Prop, v = .tuple #[s0, .int .i64 r.2] ∧ Ow 3 w.heap.size A1 w' s0 r.1 ∧ Tr w.heap.size A w A1 w' := by
  unfold portref2_SpareOf at hm
  refine enter Try.func22 rfl Try.ntmps22 rfl ?_
  have hA0 := hA
  have hB := Nat.le_refl w.heap.size
  have hK : Tr w.heap.size A w A w := Tr.refl hA
  refine C_seq ?_
  refine C_region ?_
  refine V_y (Y_assign rfl) rfl rfl rfl ?_
  refine V_y (Y_assign rfl) rfl rfl rfl ?_
  refine V_to (fun _ _ => rfl) ?_
  refine C_seq ?_
  refine C_seq ?_
  refine C_region ?_
  refine V_y (Y_move rfl) rfl rfl rfl ?_
  obtain ⟨x7, hx7, hm⟩ := Option.bind_eq_some_iff.1 hm
  refine V_call Try.call20 rfl rfl rfl rfl (portref2_FormsFault_c w hA forms v_forms h_forms hx7) ?_
  rintro _ w9 ⟨rfl, hk10⟩
  have mv11 := Mv.kp (B := w.heap.size) hk10 hA
  replace h_forms := Sl.mv h_forms mv11
  replace h_demand := Sl.mv h_demand mv11
  replace h_plan := Sl.mv h_plan mv11
  replace hK := Tr.step hK mv11 hB
  replace hB := Nat.le_trans hB mv11.size
  replace hA := mv11.new
  refine V_y (Y_assign rfl) rfl rfl rfl ?_
  refine V_to (fun _ _ => rfl) ?_
  refine C_seq ?_
  refine C_region ?_
  refine V_y (Y_move rfl) rfl rfl rfl ?_
  refine V_y (Y_neq rfl rfl) rfl rfl rfl ?_
  refine V_to (fun _ _ => rfl) ?_
  refine C_cond rfl (fun hc12 => ?_) (fun hc12 => ?_)
  · rw [if_pos hc12] at hm
    refine C_seq ?_
    refine C_region ?_
    refine V_y (Y_move rfl) rfl rfl rfl ?_
    refine V_y (Y_assign rfl) rfl rfl rfl ?_
    refine V_y (Y_assign rfl) rfl rfl rfl ?_
    refine V_to (fun _ _ => rfl) ?_
    obtain rfl := Option.some.inj hm
    refine C_ret fun a ha => ?_
    try simp only [↓inBlock_ret, ↓then_ret]
    exact ret2 ha Try.results22 rfl rfl ⟨.slice none 0 0, A, rfl, Ow.nil, hK⟩
  · rw [if_neg (nt hc12)] at hm
    refine C_skip_to (fun _ _ => rfl) ?_
    refine C_seq ?_
    refine C_seq ?_
    refine C_region ?_
    refine V_y (Y_move rfl) rfl rfl rfl ?_
    refine V_y (Y_move rfl) rfl rfl rfl ?_
    obtain ⟨x13, hx13, hm⟩ := Option.bind_eq_some_iff.1 hm
    refine V_call Try.call50 rfl rfl rfl rfl (portref2_planAlone_c w9 hA forms v_forms h_forms plan v_plan h_plan hx13) ?_
    rintro _ w14 ⟨rfl, hk15⟩
    have mv16 := Mv.kp (B := w.heap.size) hk15 hA
    replace h_forms := Sl.mv h_forms mv16
    replace h_demand := Sl.mv h_demand mv16
    replace h_plan := Sl.mv h_plan mv16
    replace hK := Tr.step hK mv16 hB
    replace hB := Nat.le_trans hB mv16.size
    replace hA := mv16.new
    refine V_y (Y_assign rfl) rfl rfl rfl ?_
    refine V_to (fun _ _ => rfl) ?_
    refine C_seq ?_
    refine C_region ?_
    refine V_y (Y_move rfl) rfl rfl rfl ?_
    refine V_y (Y_neq rfl rfl) rfl rfl rfl ?_
    refine V_to (fun _ _ => rfl) ?_
    refine C_cond rfl (fun hc17 => ?_) (fun hc17 => ?_)
    · rw [if_pos hc17] at hm
      refine C_seq ?_
      refine C_region ?_
      refine V_y (Y_move rfl) rfl rfl rfl ?_
      refine V_y (Y_assign rfl) rfl rfl rfl ?_
      refine V_y (Y_assign rfl) rfl rfl rfl ?_
      refine V_to (fun _ _ => rfl) ?_
      obtain rfl := Option.some.inj hm
      refine C_ret fun a ha => ?_
      try simp only [↓inBlock_ret, ↓then_ret]
      exact ret2 ha Try.results22 rfl rfl ⟨.slice none 0 0, A, rfl, Ow.nil, hK⟩
    · rw [if_neg (nt hc17)] at hm
      refine C_skip_to (fun _ _ => rfl) ?_
      refine C_seq ?_
      refine C_seq ?_
      refine C_region ?_
      refine V_y (Y_move rfl) rfl rfl rfl ?_
      obtain ⟨x18, hx18, hm⟩ := Option.bind_eq_some_iff.1 hm
      refine V_call Try.call39 rfl rfl rfl rfl (portref2_demandFault_c w14 hA demand v_demand h_demand 60 hx18) ?_
      rintro _ w19 ⟨rfl, hk20⟩
      have mv21 := Mv.kp (B := w.heap.size) hk20 hA
      replace h_forms := Sl.mv h_forms mv21
      replace h_demand := Sl.mv h_demand mv21
      replace h_plan := Sl.mv h_plan mv21
      replace hK := Tr.step hK mv21 hB
      replace hB := Nat.le_trans hB mv21.size
      replace hA := mv21.new
      refine V_y (Y_assign rfl) rfl rfl rfl ?_
      refine V_to (fun _ _ => rfl) ?_
      refine C_seq ?_
      refine C_region ?_
      refine V_y (Y_move rfl) rfl rfl rfl ?_
      refine V_y (Y_neq rfl rfl) rfl rfl rfl ?_
      refine V_to (fun _ _ => rfl) ?_
      refine C_cond rfl (fun hc22 => ?_) (fun hc22 => ?_)
      · rw [if_pos hc22] at hm
        refine C_seq ?_
        refine C_region ?_
        refine V_y (Y_move rfl) rfl rfl rfl ?_
        refine V_y (Y_assign rfl) rfl rfl rfl ?_
        refine V_y (Y_assign rfl) rfl rfl rfl ?_
        refine V_to (fun _ _ => rfl) ?_
        obtain rfl := Option.some.inj hm
        refine C_ret fun a ha => ?_
        try simp only [↓inBlock_ret, ↓then_ret]
        exact ret2 ha Try.results22 rfl rfl ⟨.slice none 0 0, A, rfl, Ow.nil, hK⟩
      · rw [if_neg (nt hc22)] at hm
        refine C_skip_to (fun _ _ => rfl) ?_
        refine C_seq ?_
        refine C_region ?_
        refine V_y (Y_move rfl) rfl rfl rfl ?_
        refine V_y (Y_lenSl h_forms rfl Try.underlying27 rfl) rfl rfl rfl ?_
        obtain ⟨x27, hx27, hm⟩ := Option.bind_eq_some_iff.1 hm
        refine V_make (e := 3) (B := w.heap.size) (A := A) (i := Try.t3) hx27 (fun _ _ => rfl) Try.underlying22 Try_info3 rfl rfl rfl (by decide) (by decide) hB hA rfl rfl rfl ?_
        intro v28 w29 A30 h31 mv32 hp33
        replace h_forms := Sl.mv h_forms mv32
        replace h_demand := Sl.mv h_demand mv32
        replace h_plan := Sl.mv h_plan mv32
        replace hK := Tr.step hK mv32 hB
        replace hB := Nat.le_trans hB mv32.size
        replace hA := mv32.new
        refine V_y (Y_assign rfl) rfl rfl rfl ?_
        refine V_to (fun _ _ => rfl) ?_
        refine C_seq ?_
        refine C_seq ?_
        refine C_region ?_
        refine V_y (Y_move rfl) rfl rfl rfl ?_
        refine V_y (Y_lenSl h_forms rfl Try.underlying27 rfl) rfl rfl rfl ?_
        refine V_y (Y_move rfl) rfl rfl rfl ?_
        refine V_to (fun _ _ => rfl) ?_
        obtain ⟨o38, ho38, hm⟩ := Option.bind_eq_some_iff.1 hm
        refine C_cutG (ι := ((List Int) × Value × (Nat → Prop))) (fun ⟨s39, v46, A48⟩ => [(11, v46)]) (fun ⟨s39, v46, A48⟩ => fun w' => o38 = .fin s39 ∧ Ow 3 w.heap.size A48 w' v46 s39 ∧ Tr w.heap.size A30 w29 A48 w') ?_ ?_
        · refine C_block ?_
          refine C_range ho38 (fun k42 s49 a w' => ∃ i : (Value × (Nat → Prop)), Has 69 a ([(0, v_forms), (1, v_demand), (2, v_plan), (11, i.1), (34, .int .i64 (forms.length : Int)), (35, .int .i64 (k42 : Int))]) ∧ Ow 3 w.heap.size i.2 w' i.1 s49 ∧ Tr w.heap.size A30 w29 i.2 w') (fun a ha => ⟨(v28, A30), ha.sub ⟨rfl, rfl, rfl, rfl, rfl, rfl, trivial⟩, ⟨h31, Tr.refl hA⟩⟩) ?_
          rintro K k42 s49 a w50 ⟨⟨v51, A53⟩, ha174, h52, hr41⟩ hle57 K60 h59
          refine C_of ?_ ha174
          replace h_forms := Sl.tr h_forms hr41
          replace h_demand := Sl.tr h_demand hr41
          replace h_plan := Sl.tr h_plan hr41
          replace hK := Tr.trans hK hr41
          replace hB := Nat.le_trans hB hr41.ex.size
          replace hA := hr41.new
          refine C_seq (C_region (V_y (Y_lss rfl rfl) rfl rfl rfl (V_to (fun _ _ => rfl) ?_)))
          refine C_seq ?_
          refine C_cond rfl (fun hc61 => ?_) (fun hc61 => ?_)
          · have hlt58 := lt_of_dec hc61
            obtain ⟨x54, h55, h56⟩ := K60 hlt58
            refine C_skip_to (fun _ _ => rfl) ?_
            refine C_seq ?_
            obtain ⟨s63, ho62, h55⟩ := Option.bind_eq_some_iff.1 h55
            refine C_cutG (ι := (Value × (Nat → Prop))) (fun ⟨v65, A70⟩ => [(0, v_forms), (1, v_demand), (2, v_plan), (11, v65), (34, .int .i64 (forms.length : Int)), (35, .int .i64 (k42 : Int))]) (fun ⟨v65, A70⟩ => fun w' => Ow 3 w.heap.size A70 w' v65 s63 ∧ Tr w.heap.size A53 w50 A70 w') ?_ ?_
            · have hr64 : Tr w.heap.size A53 w50 A53 w50 := Tr.refl hA
              refine C_block ?_
              refine C_seq ?_
              refine C_region ?_
              refine V_y (Y_move rfl) rfl rfl rfl ?_
              refine V_y (Y_assign rfl) rfl rfl rfl ?_
              refine V_to (fun _ _ => rfl) ?_
              refine C_seq ?_
              refine C_region ?_
              refine V_y (Y_move rfl) rfl rfl rfl ?_
              obtain ⟨x71, hx71, ho62⟩ := Option.bind_eq_some_iff.1 ho62
              refine V_call Try.call51 rfl rfl rfl rfl (slices_Clone_Lint_int_c w50 hA plan v_plan h_plan hx71) ?_
              rintro v72 w74 ⟨_, A76, rfl, h73, hk75⟩
              have dj77 := dj_new h52 (Ow.base h73)
              replace h52 := Ow.over h52 hk75
              replace h73 := Ow.lower h73 hB
              replace hk75 := Tr.lower hk75 hB
              replace h_forms := Sl.tr h_forms hk75
              replace h_demand := Sl.tr h_demand hk75
              replace h_plan := Sl.tr h_plan hk75
              replace hK := Tr.trans hK hk75
              replace hr41 := Tr.trans hr41 hk75
              replace hr64 := Tr.trans hr64 hk75
              replace hB := Nat.le_trans hB hk75.ex.size
              replace hA := hk75.new
              refine V_y (Y_assign rfl) rfl rfl rfl ?_
              refine V_to (fun _ _ => rfl) ?_
              obtain ⟨o78, ho78, ho62⟩ := Option.bind_eq_some_iff.1 ho62
              refine C_cutG (ι := (((List Int) × (List Int)) × Value × Value × (Nat → Prop))) (fun ⟨s79, v86, v88, A90⟩ => [(0, v_forms), (1, v_demand), (2, v_plan), (11, v86), (34, .int .i64 (forms.length : Int)), (35, .int .i64 (k42 : Int))]) (fun ⟨s79, v86, v88, A90⟩ => fun w' => o78 = .fin s79 ∧ Ow 3 w.heap.size A90 w' v86 s79.1 ∧ Ow 3 w.heap.size A90 w' v88 s79.2 ∧ Dj v86 v88.ownBlock ∧ Tr w.heap.size A76 w74 A90 w') ?_ ?_
              · refine C_block ?_
                refine C_while ho78 (fun s92 a w' => ∃ i : (Value × Value × (Nat → Prop)), Has 69 a ([(0, v_forms), (1, v_demand), (2, v_plan), (11, i.1), (12, .int .i64 (k42 : Int)), (13, i.2.1), (34, .int .i64 (forms.length : Int)), (35, .int .i64 (k42 : Int))]) ∧ Ow 3 w.heap.size i.2.2 w' i.1 s92.1 ∧ Ow 3 w.heap.size i.2.2 w' i.2.1 s92.2 ∧ Dj i.1 i.2.1.ownBlock ∧ Tr w.heap.size A76 w74 i.2.2 w') (fun a ha => ⟨(v51, v72, A76), ha.sub ⟨rfl, rfl, rfl, rfl, rfl, rfl, rfl, rfl, trivial⟩, ⟨h52, h73, dj77, Tr.refl hA⟩⟩) ?_
                rintro K s92 a w93 ⟨⟨v94, v96, A98⟩, ha173, h95, h97, dj99, hr81⟩ K106
                refine C_of ?_ ha173
                replace h_forms := Sl.tr h_forms hr81
                replace h_demand := Sl.tr h_demand hr81
                replace h_plan := Sl.tr h_plan hr81
                replace hK := Tr.trans hK hr81
                replace hr41 := Tr.trans hr41 hr81
                replace hr64 := Tr.trans hr64 hr81
                replace hB := Nat.le_trans hB hr81.ex.size
                replace hA := hr81.new
                obtain ⟨x100, h101, h102⟩ := K106
                refine C_seq ?_
                refine C_seq ?_
                refine C_region ?_
                refine V_y (Y_move rfl) rfl rfl rfl ?_
                refine V_y (Y_move rfl) rfl rfl rfl ?_
                refine V_y (Y_move rfl) rfl rfl rfl ?_
                obtain ⟨x107, hx107, h101⟩ := Option.bind_eq_some_iff.1 h101
                refine V_call Try.call52 rfl rfl rfl rfl (portref2_covered_c w93 (fun _ _ => trivial) forms v_forms (Sl.any h_forms) demand v_demand (Sl.any h_demand) s92.2 v96 (Ow.any h97) hx107) ?_
                rintro _ w108 ⟨rfl, hk109⟩
                have mv110 := Mv.kp (B := w.heap.size) hk109 hA
                replace h_forms := Sl.mv h_forms mv110
                replace h_demand := Sl.mv h_demand mv110
                replace h_plan := Sl.mv h_plan mv110
                replace h95 := Ow.mv h95 mv110 Dj.no
                replace h97 := Ow.mv h97 mv110 Dj.no
                replace hK := Tr.step hK mv110 hB
                replace hr41 := Tr.step hr41 mv110 hB
                replace hr64 := Tr.step hr64 mv110 hB
                replace hr81 := Tr.step hr81 mv110 hB
                replace hB := Nat.le_trans hB mv110.size
                replace hA := mv110.new
                refine V_y (Y_move rfl) rfl rfl rfl ?_
                obtain ⟨s112, hs112, h101⟩ := Option.bind_eq_some_iff.1 h101
                refine V_cut 6 (fun _ : Unit => [(0, v_forms), (1, v_demand), (2, v_plan), (11, v94), (12, .int .i64 (k42 : Int)), (13, v96), (34, .int .i64 (forms.length : Int)), (35, .int .i64 (k42 : Int)), (50, .bool s112)]) (fun _ w' => w108 = w') ?_ ?_
                · simp only [List.take, List.drop]
                  rcases Bool.eq_false_or_eq_true (x107) with hc111 | hc111
                  · rw [if_pos hc111] at hs112
                    refine V_ge rfl rfl rfl hc111 ?_
                    refine V_y (Y_move rfl) rfl rfl rfl ?_
                    refine V_ge rfl rfl rfl hc111 ?_
                    refine V_y (Y_move rfl) rfl rfl rfl ?_
                    refine V_ge rfl rfl rfl hc111 ?_
                    obtain ⟨x114, hx114, hs112⟩ := Option.bind_eq_some_iff.1 hs112
                    refine V_indexAddrO h97 hx114 Try.underlying22 Try.sizeOf3 rfl rfl rfl ?_
                    intro b115 o116 h117 hl118
                    refine V_ge rfl rfl rfl hc111 ?_
                    refine V_y (Y_load (El.int h117) Try.isAgg3 rfl) rfl rfl rfl ?_
                    refine V_ge rfl rfl rfl hc111 ?_
                    refine V_y (Y_gtr rfl rfl) rfl rfl rfl ?_
                    refine V_y (Y_pick_te rfl hc111 rfl) rfl rfl rfl ?_
                    obtain rfl := Option.some.inj hs112
                    exact V_end fun a ha => ⟨(), ha.sub ⟨rfl, rfl, rfl, rfl, rfl, rfl, rfl, rfl, rfl, trivial⟩, rfl⟩
                  · rw [if_neg (nt hc111)] at hs112
                    refine V_gn rfl rfl rfl hc111 rfl rfl rfl ?_
                    refine V_gn rfl rfl rfl hc111 rfl rfl rfl ?_
                    refine V_gn rfl rfl rfl hc111 rfl rfl rfl ?_
                    refine V_gn rfl rfl rfl hc111 rfl rfl rfl ?_
                    refine V_gn rfl rfl rfl hc111 rfl rfl rfl ?_
                    refine V_y (Y_pick_fe rfl hc111 rfl) rfl rfl rfl ?_
                    obtain rfl := Option.some.inj hs112
                    exact V_end fun a ha => ⟨(), ha.sub ⟨rfl, rfl, rfl, rfl, rfl, rfl, rfl, rfl, rfl, trivial⟩, rfl⟩
                simp only [List.take, List.drop]
                rintro _ _ rfl
                refine V_to (fun _ _ => rfl) ?_
                refine C_cond rfl (fun hc119 => ?_) (fun hc119 => ?_)
                · rw [if_pos hc119] at h101
                  refine C_skip_to (fun _ _ => rfl) ?_
                  obtain ⟨s121, ho120, h101⟩ := Option.bind_eq_some_iff.1 h101
                  refine C_cutG (ι := (Value × Value × (Nat → Prop))) (fun ⟨v123, v125, A130⟩ => [(0, v_forms), (1, v_demand), (2, v_plan), (11, v123), (12, .int .i64 (k42 : Int)), (13, v125), (34, .int .i64 (forms.length : Int)), (35, .int .i64 (k42 : Int))]) (fun ⟨v123, v125, A130⟩ => fun w' => Ow 3 w.heap.size A130 w' v123 s121.1 ∧ Ow 3 w.heap.size A130 w' v125 s121.2 ∧ Dj v123 v125.ownBlock ∧ Tr w.heap.size A98 w108 A130 w') ?_ ?_
                  · have hr122 : Tr w.heap.size A98 w108 A98 w108 := Tr.refl hA
                    refine C_block ?_
                    refine C_seq ?_
                    refine C_region ?_
                    refine V_y (Y_move rfl) rfl rfl rfl ?_
                    refine V_y (Y_move rfl) rfl rfl rfl ?_
                    obtain ⟨x132, hx132, ho120⟩ := Option.bind_eq_some_iff.1 ho120
                    refine V_indexAddrO h97 hx132 Try.underlying22 Try.sizeOf3 rfl rfl rfl ?_
                    intro b133 o134 h135 hl136
                    refine V_y (Y_load (El.int h135) Try.isAgg3 rfl) rfl rfl rfl ?_
                    refine V_y (Y_subI rfl rfl) rfl rfl rfl ?_
                    refine V_indexAddrO h97 hx132 Try.underlying22 Try.sizeOf3 rfl rfl rfl ?_
                    intro b137 o138 h139 hl140
                    obtain ⟨x141, hx141, ho120⟩ := Option.bind_eq_some_iff.1 ho120
                    refine V_storeO h97 hl140 hx141 rfl Try.sizeOf3 rfl hA rfl rfl ?_
                    intro w142 h143 mv144
                    replace h_forms := Sl.mv h_forms mv144
                    replace h_demand := Sl.mv h_demand mv144
                    replace h_plan := Sl.mv h_plan mv144
                    replace h95 := Ow.mv h95 mv144 dj99
                    replace hK := Tr.step hK mv144 hB
                    replace hr41 := Tr.step hr41 mv144 hB
                    replace hr64 := Tr.step hr64 mv144 hB
                    replace hr81 := Tr.step hr81 mv144 hB
                    replace hr122 := Tr.step hr122 mv144 hB
                    replace hB := Nat.le_trans hB mv144.size
                    replace hA := mv144.new
                    refine V_to (fun _ _ => rfl) ?_
                    refine C_seq ?_
                    refine C_region ?_
                    refine V_y (Y_move rfl) rfl rfl rfl ?_
                    refine V_y (Y_move rfl) rfl rfl rfl ?_
                    refine V_y (Y_move rfl) rfl rfl rfl ?_
                    obtain ⟨x145, hx145, ho120⟩ := Option.bind_eq_some_iff.1 ho120
                    refine V_call Try.call52 rfl rfl rfl rfl (portref2_covered_c w142 (fun _ _ => trivial) forms v_forms (Sl.any h_forms) demand v_demand (Sl.any h_demand) x141 v96 (Ow.any h143) hx145) ?_
                    rintro _ w146 ⟨rfl, hk147⟩
                    have mv148 := Mv.kp (B := w.heap.size) hk147 hA
                    replace h_forms := Sl.mv h_forms mv148
                    replace h_demand := Sl.mv h_demand mv148
                    replace h_plan := Sl.mv h_plan mv148
                    replace h95 := Ow.mv h95 mv148 Dj.no
                    replace h143 := Ow.mv h143 mv148 Dj.no
                    replace hK := Tr.step hK mv148 hB
                    replace hr41 := Tr.step hr41 mv148 hB
                    replace hr64 := Tr.step hr64 mv148 hB
                    replace hr81 := Tr.step hr81 mv148 hB
                    replace hr122 := Tr.step hr122 mv148 hB
                    replace hB := Nat.le_trans hB mv148.size
                    replace hA := mv148.new
                    refine V_to (fun _ _ => rfl) ?_
                    obtain ⟨s150, ho149, ho120⟩ := Option.bind_eq_some_iff.1 ho120
                    refine C_cutG (ι := (Value × (Nat → Prop))) (fun ⟨v152, A157⟩ => [(0, v_forms), (1, v_demand), (2, v_plan), (11, v152), (12, .int .i64 (k42 : Int)), (13, v96), (34, .int .i64 (forms.length : Int)), (35, .int .i64 (k42 : Int))]) (fun ⟨v152, A157⟩ => fun w' => Ow 3 w.heap.size A157 w' v152 s150 ∧ Ow 3 w.heap.size A157 w' v96 x141 ∧ Dj v152 v96.ownBlock ∧ Tr w.heap.size A98 w146 A157 w') ?_ ?_
                    · have hr151 : Tr w.heap.size A98 w146 A98 w146 := Tr.refl hA
                      refine C_cond rfl (fun hc159 => ?_) (fun hc159 => ?_)
                      · rw [if_pos hc159] at ho149
                        refine C_region ?_
                        refine V_y (Y_move rfl) rfl rfl rfl ?_
                        refine V_y (Y_move rfl) rfl rfl rfl ?_
                        obtain ⟨x160, hx160, ho149⟩ := Option.bind_eq_some_iff.1 ho149
                        refine V_indexAddrO h95 hx160 Try.underlying22 Try.sizeOf3 rfl rfl rfl ?_
                        intro b161 o162 h163 hl164
                        refine V_y (Y_load (El.int h163) Try.isAgg3 rfl) rfl rfl rfl ?_
                        refine V_y (Y_addI rfl rfl) rfl rfl rfl ?_
                        refine V_indexAddrO h95 hx160 Try.underlying22 Try.sizeOf3 rfl rfl rfl ?_
                        intro b165 o166 h167 hl168
                        obtain ⟨x169, hx169, ho149⟩ := Option.bind_eq_some_iff.1 ho149
                        refine V_storeO h95 hl168 hx169 rfl Try.sizeOf3 rfl hA rfl rfl ?_
                        intro w170 h171 mv172
                        replace h_forms := Sl.mv h_forms mv172
                        replace h_demand := Sl.mv h_demand mv172
                        replace h_plan := Sl.mv h_plan mv172
                        replace h143 := Ow.mv h143 mv172 (Dj.symm dj99)
                        replace hK := Tr.step hK mv172 hB
                        replace hr41 := Tr.step hr41 mv172 hB
                        replace hr64 := Tr.step hr64 mv172 hB
                        replace hr81 := Tr.step hr81 mv172 hB
                        replace hr122 := Tr.step hr122 mv172 hB
                        replace hr151 := Tr.step hr151 mv172 hB
                        replace hB := Nat.le_trans hB mv172.size
                        replace hA := mv172.new
                        obtain rfl := Option.some.inj ho149
                        exact V_end fun a ha => ⟨(v94, A98), ha.sub ⟨rfl, rfl, rfl, rfl, rfl, rfl, rfl, rfl, trivial⟩, ⟨h171, h143, dj99, hr151⟩⟩
                      · rw [if_neg (nt hc159)] at ho149
                        obtain rfl := Option.some.inj ho149
                        exact C_skip fun a ha => ⟨(v94, A98), ha.sub ⟨rfl, rfl, rfl, rfl, rfl, rfl, rfl, rfl, trivial⟩, ⟨h95, h143, dj99, hr151⟩⟩
                    rintro ⟨v152, A157⟩ w154 ⟨h153, h143, dj158, hk155⟩ a ha156
                    replace h_forms := Sl.tr h_forms hk155
                    replace h_demand := Sl.tr h_demand hk155
                    replace h_plan := Sl.tr h_plan hk155
                    replace hK := Tr.trans hK hk155
                    replace hr41 := Tr.trans hr41 hk155
                    replace hr64 := Tr.trans hr64 hk155
                    replace hr81 := Tr.trans hr81 hk155
                    replace hr122 := Tr.trans hr122 hk155
                    replace hB := Nat.le_trans hB hk155.ex.size
                    replace hA := hk155.new
                    obtain rfl := Option.some.inj ho120
                    exact ⟨(v152, v96, A157), ha156.sub ⟨rfl, rfl, rfl, rfl, rfl, rfl, rfl, rfl, trivial⟩, ⟨h153, h143, dj158, hr122⟩⟩
                  rintro ⟨v123, v125, A130⟩ w127 ⟨h124, h126, dj131, hk128⟩ a ha129
                  replace h_forms := Sl.tr h_forms hk128
                  replace h_demand := Sl.tr h_demand hk128
                  replace h_plan := Sl.tr h_plan hk128
                  replace hK := Tr.trans hK hk128
                  replace hr41 := Tr.trans hr41 hk128
                  replace hr64 := Tr.trans hr64 hk128
                  replace hr81 := Tr.trans hr81 hk128
                  replace hB := Nat.le_trans hB hk128.ex.size
                  replace hA := hk128.new
                  obtain rfl := Option.some.inj h101
                  exact ⟨(s121.1, s121.2), h102, ⟨(v123, v125, A130), ha129.sub ⟨rfl, rfl, rfl, rfl, rfl, rfl, rfl, rfl, trivial⟩, ⟨h124, h126, dj131, hr81⟩⟩⟩
                · rw [if_neg (nt hc119)] at h101
                  obtain rfl := Option.some.inj h101
                  exact C_exit fun a ha => ⟨((s92.1, s92.2), v94, v96, A98), ha.sub ⟨rfl, rfl, rfl, rfl, rfl, rfl, trivial⟩, ⟨h102.symm, h95, h97, dj99, hr81⟩⟩
              rintro ⟨s79, v86, v88, A90⟩ w83 ⟨rfl, h87, h89, dj91, hk84⟩ a ha85
              rw [Lp.andThen_fin] at ho62
              replace h_forms := Sl.tr h_forms hk84
              replace h_demand := Sl.tr h_demand hk84
              replace h_plan := Sl.tr h_plan hk84
              replace hK := Tr.trans hK hk84
              replace hr41 := Tr.trans hr41 hk84
              replace hr64 := Tr.trans hr64 hk84
              replace hB := Nat.le_trans hB hk84.ex.size
              replace hA := hk84.new
              obtain rfl := Option.some.inj ho62
              exact ⟨(v86, A90), ha85.sub ⟨rfl, rfl, rfl, rfl, rfl, rfl, trivial⟩, ⟨h87, hr64⟩⟩
            rintro ⟨v65, A70⟩ w67 ⟨h66, hk68⟩ a ha69
            replace h_forms := Sl.tr h_forms hk68
            replace h_demand := Sl.tr h_demand hk68
            replace h_plan := Sl.tr h_plan hk68
            replace hK := Tr.trans hK hk68
            replace hr41 := Tr.trans hr41 hk68
            replace hB := Nat.le_trans hB hk68.ex.size
            replace hA := hk68.new
            refine C_at (fun _ _ => rfl) ?_ ha69
            refine C_region ?_
            refine V_y (Y_addI rfl rfl) rfl rfl rfl ?_
            refine V_y (Y_move rfl) rfl rfl rfl ?_
            obtain rfl := Option.some.inj h55
            exact V_end fun a ha => ⟨s63, hlt58, h56, ⟨(v65, A70), ha.sub ⟨rfl, rfl, rfl, rfl, rfl, (congrArg (fun z => some (Value.int .i64 z)) (w64_succ hlt58 (Sl.le h_forms))), trivial⟩, ⟨h66, hr41⟩⟩⟩
          · exact C_exit fun a ha => ⟨(s49, v51, A53), ha.sub ⟨rfl, trivial⟩, ⟨(h59 (eq_of_dec hle57 hc61)).symm, h52, hr41⟩⟩
        rintro ⟨s39, v46, A48⟩ w43 ⟨rfl, h47, hk44⟩ a ha45
        rw [Lp.andThen_fin] at hm
        replace hK := Tr.trans hK hk44
        replace hB := Nat.le_trans hB hk44.ex.size
        replace hA := hk44.new
        refine C_at (fun _ _ => rfl) ?_ ha45
        refine C_seq ?_
        refine C_region ?_
        refine V_y (Y_move rfl) rfl rfl rfl ?_
        refine V_y (Y_assign rfl) rfl rfl rfl ?_
        refine V_y (Y_assign rfl) rfl rfl rfl ?_
        refine V_to (fun _ _ => rfl) ?_
        obtain rfl := Option.some.inj hm
        refine C_ret fun a ha => ?_
        try simp only [↓inBlock_ret, ↓then_ret]
        exact ret2 ha Try.results22 rfl rfl ⟨v46, A48, rfl, h47, hK⟩

set_option maxRecDepth 4000 in
theorem slices_Equal_Lint_int_c (w : World) {A : Nat → Prop} (hA : ∀ b, w.heap.size ≤ b → A b) (s1 : (List Int)) (v_s1 : Value) (h_s1 : Sl A w v_s1 s1) (s2 : (List Int)) (v_s2 : Value) (h_s2 : Sl A w v_s2 s2) {r : Bool} (hm : slices_Equal_Lint_int s1 s2 = some r) : Ret Try.prog 14 #[v_s1, v_s2] w fun v w' => v = .bool r ∧ Kp w w' := by
  unfold slices_Equal_Lint_int at hm
  refine enter Try.func14 rfl Try.ntmps14 rfl ?_
  have hK := Kp.refl w
  refine C_seq ?_
  refine C_region ?_
  refine V_y (Y_assign rfl) rfl rfl rfl ?_
  refine V_to (fun _ _ => rfl) ?_
  refine C_seq ?_
  refine C_seq ?_
  refine C_region ?_
  refine V_y (Y_move rfl) rfl rfl rfl ?_
  refine V_y (Y_lenSl h_s1 rfl Try.underlying22 rfl) rfl rfl rfl ?_
  refine V_y (Y_move rfl) rfl rfl rfl ?_
  refine V_y (Y_lenSl h_s2 rfl Try.underlying22 rfl) rfl rfl rfl ?_
  refine V_y (Y_neq rfl rfl) rfl rfl rfl ?_
  refine V_to (fun _ _ => rfl) ?_
  refine C_cond rfl (fun hc13 => ?_) (fun hc13 => ?_)
  · rw [if_pos hc13] at hm
    refine C_seq ?_
    refine C_region ?_
    refine V_y (Y_assign rfl) rfl rfl rfl ?_
    refine V_to (fun _ _ => rfl) ?_
    obtain rfl := Option.some.inj hm
    refine C_ret fun a ha => ?_
    try simp only [↓inBlock_ret, ↓then_ret]
    exact ret1 ha Try.results14 rfl ⟨rfl, hK⟩
  · rw [if_neg (nt hc13)] at hm
    refine C_skip_to (fun _ _ => rfl) ?_
    refine C_seq ?_
    refine C_seq ?_
    refine C_region ?_
    refine V_y (Y_move rfl) rfl rfl rfl ?_
    refine V_y (Y_lenSl h_s1 rfl Try.underlying22 rfl) rfl rfl rfl ?_
    refine V_y (Y_move rfl) rfl rfl rfl ?_
    refine V_to (fun _ _ => rfl) ?_
    obtain ⟨o18, ho18, hm⟩ := Option.bind_eq_some_iff.1 hm
    refine C_cutG (ι := Unit) (fun (s19 : Unit) => []) (fun (s19 : Unit) => fun w' => o18 = .fin s19 ∧ Kp w w') ?_ ?_
    · refine C_block ?_
      refine C_range ho18 (fun k22 _ a w' => ∃ i : Unit, Has 26 a ([(0, v_s1), (1, v_s2), (12, .int .i64 (s1.length : Int)), (13, .int .i64 (k22 : Int))]) ∧ Kp w w') (fun a ha => ⟨(), ha.sub ⟨rfl, rfl, rfl, rfl, trivial⟩, Kp.refl _⟩) ?_
      rintro K k22 _ a w27 ⟨_, ha47, hr21⟩ hle31 K34 h33
      refine C_of ?_ ha47
      replace h_s1 := h_s1.kp hr21
      replace h_s2 := h_s2.kp hr21
      replace hK := Kp.trans hK hr21
      replace hA : ∀ b, w27.heap.size ≤ b → A b := fun b hb => hA b (Nat.le_trans hr21.size hb)
      refine C_seq (C_region (V_y (Y_lss rfl rfl) rfl rfl rfl (V_to (fun _ _ => rfl) ?_)))
      refine C_seq ?_
      refine C_cond rfl (fun hc35 => ?_) (fun hc35 => ?_)
      · have hlt32 := lt_of_dec hc35
        obtain ⟨x28, h29, h30⟩ := K34 hlt32
        refine C_skip_to (fun _ _ => rfl) ?_
        refine C_seq ?_
        refine C_block ?_
        refine C_seq ?_
        refine C_region ?_
        refine V_y (Y_move rfl) rfl rfl rfl ?_
        refine V_y (Y_assign rfl) rfl rfl rfl ?_
        refine V_to (fun _ _ => rfl) ?_
        refine C_seq ?_
        refine C_region_q Try_mixed (by kernel_rfl) ?_
        refine VQ_y (fun w' hw' => Y_move rfl) rfl rfl rfl ?_
        refine VQ_y (fun w' hw' => Y_move rfl) rfl rfl rfl ?_
        obtain ⟨x36, hx36, h29⟩ := Option.bind_eq_some_iff.1 h29
        refine VQ_indexAddr h_s1 hx36 Try.underlying22 Try.sizeOf3 rfl rfl rfl ?_
        intro b37 o38 h39
        refine VQ_y (fun w' hw' => Y_load (El.int (El.kp h39 hw')) Try.isAgg3 rfl) rfl rfl rfl ?_
        refine VQ_y (fun w' hw' => Y_move rfl) rfl rfl rfl ?_
        refine VQ_y (fun w' hw' => Y_move rfl) rfl rfl rfl ?_
        obtain ⟨x40, hx40, h29⟩ := Option.bind_eq_some_iff.1 h29
        refine VQ_indexAddr h_s2 hx40 Try.underlying22 Try.sizeOf3 rfl rfl rfl ?_
        intro b41 o42 h43
        refine VQ_y (fun w' hw' => Y_load (El.int (El.kp h43 hw')) Try.isAgg3 rfl) rfl rfl rfl ?_
        refine VQ_y (fun w' hw' => Y_neq rfl rfl) rfl rfl rfl ?_
        refine VQ_to (fun _ _ => rfl) (fun w44 hk45 => ?_)
        replace h_s1 := h_s1.kp hk45
        replace h_s2 := h_s2.kp hk45
        replace hK := Kp.trans hK hk45
        replace hr21 := Kp.trans hr21 hk45
        replace hA : ∀ b, w44.heap.size ≤ b → A b := fun b hb => hA b (Nat.le_trans hk45.size hb)
        refine C_cond rfl (fun hc46 => ?_) (fun hc46 => ?_)
        · rw [if_pos hc46] at h29
          refine C_seq ?_
          refine C_region ?_
          refine V_y (Y_assign rfl) rfl rfl rfl ?_
          refine V_to (fun _ _ => rfl) ?_
          obtain rfl := Option.some.inj h29
          obtain rfl := (h30 : Lp.rt _ = _)
          rw [Lp.andThen_rt] at hm
          obtain rfl := Option.some.inj hm
          refine C_ret fun a ha => ?_
          try simp only [↓inBlock_ret, ↓then_ret]
          exact ret1 ha Try.results14 rfl ⟨rfl, hK⟩
        · rw [if_neg (nt hc46)] at h29
          refine C_skip_to (fun _ _ => rfl) ?_
          refine C_region ?_
          refine V_y (Y_addI rfl rfl) rfl rfl rfl ?_
          refine V_y (Y_move rfl) rfl rfl rfl ?_
          obtain rfl := Option.some.inj h29
          exact V_end fun a ha => ⟨(), hlt32, h30, ⟨(), ha.sub ⟨rfl, rfl, rfl, (congrArg (fun z => some (Value.int .i64 z)) (w64_succ hlt32 (Sl.le h_s1))), trivial⟩, hr21⟩⟩
      · exact C_exit fun a ha => ⟨(), ha.sub trivial, ⟨(h33 (eq_of_dec hle31 hc35)).symm, hr21⟩⟩
    rintro s19 w23 ⟨rfl, hk24⟩ a ha25
    rw [Lp.andThen_fin] at hm
    replace hK := Kp.trans hK hk24
    replace hA : ∀ b, w23.heap.size ≤ b → A b := fun b hb => hA b (Nat.le_trans hk24.size hb)
    refine C_at (fun _ _ => rfl) ?_ ha25
    refine C_seq ?_
    refine C_region ?_
    refine V_y (Y_assign rfl) rfl rfl rfl ?_
    refine V_to (fun _ _ => rfl) ?_
    obtain rfl := Option.some.inj hm
    refine C_ret fun a ha => ?_
    try simp only [↓inBlock_ret, ↓then_ret]
    exact ret1 ha Try.results14 rfl ⟨rfl, hK⟩

set_option maxRecDepth 4000 in
theorem portlaw2_PlanSpares_c (w : World) {A : Nat → Prop} (hA : ∀ b, w.heap.size ≤ b → A b) (forms : (List staff_Form)) (v_forms : Value) (h_forms : Sl A w v_forms forms) (demand : (List Int)) (v_demand : Value) (h_demand : Sl A w v_demand demand) (plan : (List Int)) (v_plan : Value) (h_plan : Sl A w v_plan plan) {r : Bool} (hm : portlaw2_PlanSpares forms demand plan = some r) : Ret Try.prog 6 #[v_forms, v_demand, v_plan] w fun v w' => v = .bool r ∧ Kp w w' := by
  unfold portlaw2_PlanSpares at hm
  refine enter Try.func6 rfl Try.ntmps6 rfl ?_
  have hA0 := hA
  have hB := Nat.le_refl w.heap.size
  have hK : Tr w.heap.size A w A w := Tr.refl hA
  refine C_seq ?_
  refine C_region ?_
  refine V_y (Y_assign rfl) rfl rfl rfl ?_
  refine V_to (fun _ _ => rfl) ?_
  refine C_seq ?_
  refine C_region ?_
  refine V_y (Y_move rfl) rfl rfl rfl ?_
  refine V_y (Y_move rfl) rfl rfl rfl ?_
  refine V_y (Y_move rfl) rfl rfl rfl ?_
  obtain ⟨x7, hx7, hm⟩ := Option.bind_eq_some_iff.1 hm
  refine V_call Try.call21 rfl rfl rfl rfl (staff_Spare_c w hA forms v_forms h_forms demand v_demand h_demand plan v_plan h_plan hx7) ?_
  rintro _ w10 ⟨v8, A12, rfl, h9, hk11⟩
  replace h9 := Ow.lower h9 hB
  replace hk11 := Tr.lower hk11 hB
  replace h_forms := Sl.tr h_forms hk11
  replace h_demand := Sl.tr h_demand hk11
  replace h_plan := Sl.tr h_plan hk11
  replace hK := Tr.trans hK hk11
  replace hB := Nat.le_trans hB hk11.ex.size
  replace hA := hk11.new
  refine V_y (Y_move rfl) rfl rfl rfl ?_
  refine V_y (Y_extract rfl rfl) rfl rfl rfl ?_
  refine V_y (Y_extract rfl rfl) rfl rfl rfl ?_
  refine V_y (Y_assign rfl) rfl rfl rfl ?_
  refine V_y (Y_assign rfl) rfl rfl rfl ?_
  refine V_to (fun _ _ => rfl) ?_
  refine C_seq ?_
  refine C_region ?_
  refine V_y (Y_move rfl) rfl rfl rfl ?_
  refine V_y (Y_move rfl) rfl rfl rfl ?_
  refine V_y (Y_move rfl) rfl rfl rfl ?_
  obtain ⟨x13, hx13, hm⟩ := Option.bind_eq_some_iff.1 hm
  refine V_call Try.call22 rfl rfl rfl rfl (portref2_SpareOf_c w10 hA forms v_forms h_forms demand v_demand h_demand plan v_plan h_plan hx13) ?_
  rintro _ w17 ⟨v14, A19, rfl, h15, hk18⟩
  have dj20 := dj_new h9 (Ow.base h15)
  replace h9 := Ow.over h9 hk18
  replace h15 := Ow.lower h15 hB
  replace hk18 := Tr.lower hk18 hB
  replace h_forms := Sl.tr h_forms hk18
  replace h_demand := Sl.tr h_demand hk18
  replace h_plan := Sl.tr h_plan hk18
  replace hK := Tr.trans hK hk18
  replace hB := Nat.le_trans hB hk18.ex.size
  replace hA := hk18.new
  refine V_y (Y_move rfl) rfl rfl rfl ?_
  refine V_y (Y_extract rfl rfl) rfl rfl rfl ?_
  refine V_y (Y_extract rfl rfl) rfl rfl rfl ?_
  refine V_y (Y_assign rfl) rfl rfl rfl ?_
  refine V_y (Y_assign rfl) rfl rfl rfl ?_
  refine V_to (fun _ _ => rfl) ?_
  refine C_seq ?_
  refine C_region ?_
  refine V_y (Y_move rfl) rfl rfl rfl ?_
  refine V_y (Y_move rfl) rfl rfl rfl ?_
  refine V_y (Y_eql rfl rfl) rfl rfl rfl ?_
  refine V_y (Y_move rfl) rfl rfl rfl ?_
  obtain ⟨s22, hs22, hm⟩ := Option.bind_eq_some_iff.1 hm
  refine V_cut 4 (fun _ : Unit => [(32, .bool s22)]) (fun _ w' => Kp w17 w') ?_ ?_
  · simp only [List.take, List.drop]
    rcases Bool.eq_false_or_eq_true (x7.2 == x13.2) with hc21 | hc21
    · rw [if_pos hc21] at hs22
      have hr23 := Kp.refl w17
      refine V_ge rfl rfl rfl hc21 ?_
      refine V_y (Y_move rfl) rfl rfl rfl ?_
      refine V_ge rfl rfl rfl hc21 ?_
      refine V_y (Y_move rfl) rfl rfl rfl ?_
      refine V_ge rfl rfl rfl hc21 ?_
      obtain ⟨x24, hx24, hs22⟩ := Option.bind_eq_some_iff.1 hs22
      refine V_call Try.call14 rfl rfl rfl rfl (slices_Equal_Lint_int_c w17 (fun _ _ => trivial) x7.1 v8 (Ow.any h9) x13.1 v14 (Ow.any h15) hx24) ?_
      rintro _ w25 ⟨rfl, hk26⟩
      have mv27 := Mv.kp (B := w.heap.size) hk26 hA
      replace h9 := Ow.mv h9 mv27 Dj.no
      replace h15 := Ow.mv h15 mv27 Dj.no
      replace hK := Tr.step hK mv27 hB
      replace hr23 := Kp.trans hr23 hk26
      replace hB := Nat.le_trans hB mv27.size
      replace hA := mv27.new
      refine V_y (Y_pick_te rfl hc21 rfl) rfl rfl rfl ?_
      obtain rfl := Option.some.inj hs22
      exact V_end fun a ha => ⟨(), ha.sub ⟨rfl, trivial⟩, hr23⟩
    · rw [if_neg (nt hc21)] at hs22
      have hr23 := Kp.refl w17
      refine V_gn rfl rfl rfl hc21 rfl rfl rfl ?_
      refine V_gn rfl rfl rfl hc21 rfl rfl rfl ?_
      refine V_gn rfl rfl rfl hc21 rfl rfl rfl ?_
      refine V_y (Y_pick_fe rfl hc21 rfl) rfl rfl rfl ?_
      obtain rfl := Option.some.inj hs22
      exact V_end fun a ha => ⟨(), ha.sub ⟨rfl, trivial⟩, hr23⟩
  simp only [List.take, List.drop]
  rintro _ w28 hk29
  have mv30 := Mv.kp (B := w.heap.size) hk29 hA
  replace hK := Tr.step hK mv30 hB
  replace hB := Nat.le_trans hB mv30.size
  replace hA := mv30.new
  refine V_y (Y_assign rfl) rfl rfl rfl ?_
  refine V_to (fun _ _ => rfl) ?_
  obtain rfl := Option.some.inj hm
  refine C_ret fun a ha => ?_
  try simp only [↓inBlock_ret, ↓then_ret]
  exact ret1 ha Try.results6 rfl ⟨rfl, hK.below⟩

end Go.Proofs.Ytlclnbcjebpfkaa.W
