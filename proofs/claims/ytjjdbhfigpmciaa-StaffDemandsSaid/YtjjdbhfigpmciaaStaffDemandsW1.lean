/-
  Written by program (gen.py) from the IR of the dump: each function computes its model.
-/
import Derived.Test.YtjjdbhfigpmciaaStaffDemandsW0
namespace Go.Proofs.Ytjjdbhfigpmciaa.W
open Go Go.RowKit Go.Pu Go.Gw Go.Proofs Go.Proofs.Ytjjdbhfigpmciaa.M
set_option linter.unusedVariables false
set_option linter.unusedSimpArgs false

set_option maxRecDepth 4000 in
set_option maxHeartbeats 4000000 in
theorem staff_Load_keeps_c (w : World) {A : Nat → Prop} (hA : ∀ b, w.heap.size ≤ b → A b) (l : staff_Load) (p : staff_Promise) (n : Int) {r : Bool} (hm : staff_Load_keeps l p n = some r) : Ret Try.prog 16 #[.agg #[.int .i64 l.calls, .int .i64 l.length, .int .i64 l.span], .agg #[.int .i64 p.share, .int .i64 p.of, .int .i64 p.wait, .int .i64 p.parts], .int .i64 n] w fun v w' => v = .bool r ∧ Kp w w' := by
  unfold staff_Load_keeps at hm
  refine enter Try.func16 rfl Try.ntmps16 rfl ?_
  have hA0 := hA
  have hB := Nat.le_refl w.heap.size
  have hK : Tr w.heap.size A w A w := Tr.refl hA
  have hH : Hp w.heap.size A w [] := Hp.nil
  refine C_seq ?_
  refine C_region ?_
  refine V_box rfl rfl ?_
  intro b1 w2 h3
  have hk5 := h3.kp
  have h4 : El (α := staff_Load) A w2 b1 0 l := h3.el hA ⟨[.int .i64 l.calls], _, rfl, rfl, ⟨[.int .i64 l.length], _, rfl, rfl, rfl⟩⟩
  have ht6 := Kp.tr hk5 hA hB
  replace hH := Hp.kp hH hk5
  replace hK := Tr.trans hK ht6
  replace hB := Nat.le_trans hB ht6.ex.size
  replace hA := ht6.new
  refine V_box rfl rfl ?_
  intro b7 w9 h10
  have hk12 := h10.kp
  have h11 : El (α := staff_Promise) A w9 b7 0 p := h10.el hA ⟨[.int .i64 p.share], _, rfl, rfl, ⟨[.int .i64 p.of], _, rfl, rfl, ⟨[.int .i64 p.wait], _, rfl, rfl, rfl⟩⟩⟩
  have ht13 := Kp.tr hk12 hA hB
  replace hH := Hp.kp hH hk12
  replace h4 := El.tr h4 ht13
  replace hK := Tr.trans hK ht13
  replace hB := Nat.le_trans hB ht13.ex.size
  replace hA := ht13.new
  refine V_y (Y_assign rfl) rfl rfl rfl ?_
  refine V_to (fun _ _ => rfl) ?_
  refine C_seq ?_
  refine C_region ?_
  obtain ⟨h14, _⟩ := El_staff_Load h4
  refine V_y (Y_loadA h14 Try.isAgg23 Try.sizeOf23 rfl) rfl rfl rfl ?_
  refine V_y (Y_move rfl) rfl rfl rfl ?_
  obtain ⟨x15, hx15, hm⟩ := Option.bind_eq_some_iff.1 hm
  refine V_call Try.call23 rfl rfl rfl rfl (staff_Load_meanWait_c w9 hA l n hx15) ?_
  rintro _ w20 ⟨v16, v18, rfl, h17, h19, hk21⟩
  have ht22 := Kp.tr hk21 hA hB
  replace hH := Hp.kp hH hk21
  replace h4 := El.tr h4 ht22
  replace h11 := El.tr h11 ht22
  replace hK := Tr.trans hK ht22
  replace hB := Nat.le_trans hB ht22.ex.size
  replace hA := ht22.new
  refine V_y (Y_move rfl) rfl rfl rfl ?_
  refine V_y (Y_extract rfl rfl) rfl rfl rfl ?_
  refine V_y (Y_extract rfl rfl) rfl rfl rfl ?_
  refine V_alloc Try.zeroValue49 rfl ?_
  intro b23 w24 h25
  have h30 : (v16).oneCell' = true := by obtain ⟨_, _, e, _⟩ := Sl.form h17; rw [e]; rfl
  have h33 : (v18).oneCell' = true := by obtain ⟨_, _, e, _⟩ := Sl.form h19; rw [e]; rfl
  refine V_storeNew h25 Try.sizeOf49 rfl rfl rfl rfl (by exact (List.forall_mem_cons.2 ⟨h30, (List.forall_mem_cons.2 ⟨h33, (fun _ h => nomatch h)⟩)⟩)) ?_
  intro w26 h27
  have hk35 := h27.kp
  have h34 : El (α := staff_ratio) A w26 b23 0 x15.1 := h27.el hA ⟨[v16], _, rfl, ⟨_, rfl, h17⟩, ⟨_, rfl, h19⟩⟩
  have ht36 := Kp.tr hk35 hA hB
  replace hH := Hp.kp hH hk35
  replace h4 := El.tr h4 ht36
  replace h11 := El.tr h11 ht36
  replace h17 := Sl.tr h17 ht36
  replace h19 := Sl.tr h19 ht36
  replace hK := Tr.trans hK ht36
  replace hB := Nat.le_trans hB ht36.ex.size
  replace hA := ht36.new
  refine V_y (Y_assign rfl) rfl rfl rfl ?_
  refine V_to (fun _ _ => rfl) ?_
  refine C_seq ?_
  obtain ⟨s38, ho37, hm⟩ := Option.bind_eq_some_iff.1 hm
  refine C_cutG (ι := (Nat → Prop)) (fun (A43 : (Nat → Prop)) => [(6, .bool s38)]) (fun (A43 : (Nat → Prop)) => fun w' => Hp w.heap.size A43 w' ([]) ∧ Tr w.heap.size A w26 A43 w') ?_ ?_
  · have hr39 : Tr w.heap.size A w26 A w26 := Tr.refl hA
    refine C_region_ch A 28 [(1, 0), (1, 1), (1, 2), (1, 3), (1, 5), (1, 6), (1, 8), (1, 9), (2, 4), (2, 7), (2, 10), (1, 11), (2, 12), (1, 13), (1, 14), (1, 15), (0, 16), (1, 17), (0, 18), (1, 20), (0, 21), (2, 19), (2, 22), (1, 23), (2, 24), (1, 25), (1, 26), (1, 27)] Try_mixed (by kernel_rfl) (fun w45 hk46 => ?_)
    have ht47 := Kp.tr hk46 hA hB
    replace hH := Hp.kp hH hk46
    replace h4 := El.tr h4 ht47
    replace h11 := El.tr h11 ht47
    replace h34 := El.tr h34 ht47
    replace hK := Tr.trans hK ht47
    replace hr39 := Tr.trans hr39 ht47
    replace hB := Nat.le_trans hB ht47.ex.size
    replace hA := ht47.new
    refine CH_q2 rfl ?_
    refine VQ_y (fun w' hw' => Y_move rfl) rfl rfl rfl ?_
    refine VQ_CH ?_
    refine CH_q2 rfl ?_
    refine VQ_y (fun w' hw' => Y_move rfl) rfl rfl rfl ?_
    refine VQ_CH ?_
    rcases Bool.eq_false_or_eq_true (x15.2) with hc48 | hc48
    · rw [if_pos hc48] at ho37
      refine CH_q2 rfl ?_
      refine VQ_ge rfl rfl rfl hc48 ?_
      obtain ⟨h49, _⟩ := El_staff_Load h4
      refine VQ_y (fun w' hw' => Y_loadA (At.same h49 (hw'.2 _ h4.2.1 h4.1)) Try.isAgg23 Try.sizeOf23 rfl) rfl rfl rfl ?_
      refine VQ_CH ?_
      refine CH_q2 rfl ?_
      refine VQ_ge rfl rfl rfl hc48 ?_
      refine VQ_y (fun w' hw' => Y_move rfl) rfl rfl rfl ?_
      refine VQ_CH ?_
      refine CH_q2 rfl ?_
      refine VQ_ge rfl rfl rfl hc48 ?_
      have h50 := El_staff_Promise_0 h11
      refine VQ_y (fun w' hw' => Y_fieldAddr Try.underlying25 rfl Try.sizeOf3 (by decide) rfl) rfl rfl rfl ?_
      refine VQ_CH ?_
      refine CH_q2 rfl ?_
      refine VQ_ge rfl rfl rfl hc48 ?_
      refine VQ_y (fun w' hw' => Y_load (El.int (El.keep h50 (XA.ex hw'))) Try.isAgg3 rfl) rfl rfl rfl ?_
      refine VQ_CH ?_
      refine CH_q2 rfl ?_
      refine VQ_ge rfl rfl rfl hc48 ?_
      have h51 := El_staff_Promise_1 h11
      refine VQ_y (fun w' hw' => Y_fieldAddr Try.underlying25 rfl Try.sizeOf3 (by decide) rfl) rfl rfl rfl ?_
      refine VQ_CH ?_
      refine CH_q2 rfl ?_
      refine VQ_ge rfl rfl rfl hc48 ?_
      refine VQ_y (fun w' hw' => Y_load (El.int (El.keep h51 (XA.ex hw'))) Try.isAgg3 rfl) rfl rfl rfl ?_
      refine VQ_CH ?_
      refine CH_l1 (k := 0) rfl ?_
      refine V_ge rfl rfl rfl hc48 ?_
      obtain ⟨x52, hx52, ho37⟩ := Option.bind_eq_some_iff.1 ho37
      refine V_call Try.call24 rfl rfl rfl rfl (staff_Load_waits_c w45 hA l n hx52) ?_
      rintro _ w57 ⟨v53, v55, rfl, h54, h56, hk58⟩
      have ht59 := Kp.tr hk58 hA hB
      replace hH := Hp.kp hH hk58
      replace h4 := El.tr h4 ht59
      replace h11 := El.tr h11 ht59
      replace h34 := El.tr h34 ht59
      replace h50 := El.tr h50 ht59
      replace h51 := El.tr h51 ht59
      replace hK := Tr.trans hK ht59
      replace hr39 := Tr.trans hr39 ht59
      replace hB := Nat.le_trans hB ht59.ex.size
      replace hA := ht59.new
      refine V_CH (hk58) ?_
      refine CH_l1 (k := 0) rfl ?_
      refine V_ge rfl rfl rfl hc48 ?_
      obtain ⟨x60, hx60, ho37⟩ := Option.bind_eq_some_iff.1 ho37
      refine V_call Try.call26 rfl rfl rfl rfl (staff_natOf_c w57 hA p.share hx60) ?_
      rintro v61 w63 ⟨_, rfl, h62, hk64⟩
      obtain ⟨A65, ht66, hH67⟩ := Hp.addOwnd hH hB hA hk64 h62
      replace h4 := El.tr h4 ht66
      replace h11 := El.tr h11 ht66
      replace h34 := El.tr h34 ht66
      replace h50 := El.tr h50 ht66
      replace h51 := El.tr h51 ht66
      replace h54 := Sl.tr h54 ht66
      replace h56 := Sl.tr h56 ht66
      replace hK := Tr.trans hK ht66
      replace hr39 := Tr.trans hr39 ht66
      replace hB := Nat.le_trans hB ht66.ex.size
      replace hA := ht66.new
      replace hH : Hp w.heap.size A65 w63 (obS (α := Int) 3 v61 x60 :: []) := hH67
      refine V_CH (hk64) ?_
      refine CH_l1 (k := 0) rfl ?_
      refine V_ge rfl rfl rfl hc48 ?_
      obtain ⟨x68, hx68, ho37⟩ := Option.bind_eq_some_iff.1 ho37
      refine V_call Try.call26 rfl rfl rfl rfl (staff_natOf_c w63 hA p.of hx68) ?_
      rintro v69 w71 ⟨_, rfl, h70, hk72⟩
      obtain ⟨A73, ht74, hH75⟩ := Hp.addOwnd hH hB hA hk72 h70
      replace h4 := El.tr h4 ht74
      replace h11 := El.tr h11 ht74
      replace h34 := El.tr h34 ht74
      replace h50 := El.tr h50 ht74
      replace h51 := El.tr h51 ht74
      replace h54 := Sl.tr h54 ht74
      replace h56 := Sl.tr h56 ht74
      replace hK := Tr.trans hK ht74
      replace hr39 := Tr.trans hr39 ht74
      replace hB := Nat.le_trans hB ht74.ex.size
      replace hA := ht74.new
      replace hH : Hp w.heap.size A73 w71 (obS (α := Int) 3 v69 x68 :: obS (α := Int) 3 v61 x60 :: []) := hH75
      refine V_CH (hk72) ?_
      refine CH_q2 rfl ?_
      refine VQ_ge rfl rfl rfl hc48 ?_
      refine VQ_y (fun w' hw' => Y_build (cells := #[v61, v69]) Try.underlying49 Try.zeroValue49 (Try_places49 _ Try.underlying49) rfl (by obtain ⟨a76, c77, e78, _⟩ := Hp.form (α := Int) (e := 3) (v := v61) (l := x60) hH (i := 1) rfl; subst e78; obtain ⟨a79, c80, e81, _⟩ := Hp.form (α := Int) (e := 3) (v := v69) (l := x68) hH (i := 0) rfl; subst e81; with_unfolding_all rfl)) rfl rfl rfl ?_
      refine VQ_CH ?_
      refine CH_l1 (k := 0) rfl ?_
      refine V_ge rfl rfl rfl hc48 ?_
      obtain ⟨x82, hx82, ho37⟩ := Option.bind_eq_some_iff.1 ho37
      refine V_call Try.call25 rfl rfl rfl rfl (staff_ratio_compare_c w71 (A := fun _ => True) (fun _ _ => trivial) x52 v53 (Sl.any h54) v55 (Sl.any h56) (⟨x60, x68⟩ : staff_ratio) v61 (Hp.any (α := Int) (e := 3) (v := v61) (l := x60) hH (i := 1) rfl) v69 (Hp.any (α := Int) (e := 3) (v := v69) (l := x68) hH (i := 0) rfl) hx82) ?_
      rintro _ w83 ⟨rfl, hk84⟩
      have ht85 := Kp.tr hk84 hA hB
      replace hH := Hp.kp hH hk84
      replace h4 := El.tr h4 ht85
      replace h11 := El.tr h11 ht85
      replace h34 := El.tr h34 ht85
      replace h50 := El.tr h50 ht85
      replace h51 := El.tr h51 ht85
      replace h54 := Sl.tr h54 ht85
      replace h56 := Sl.tr h56 ht85
      replace hK := Tr.trans hK ht85
      replace hr39 := Tr.trans hr39 ht85
      replace hB := Nat.le_trans hB ht85.ex.size
      replace hA := ht85.new
      refine V_CH (hk84) ?_
      refine CH_q2 rfl ?_
      refine VQ_ge rfl rfl rfl hc48 ?_
      refine VQ_y (fun w' hw' => Y_leq rfl rfl) rfl rfl rfl ?_
      refine VQ_CH ?_
      refine CH_q2 rfl ?_
      refine VQ_y (fun _ _ => Y_pick_te rfl hc48 rfl) rfl rfl rfl ?_
      refine VQ_CH ?_
      refine CH_q2 rfl ?_
      refine VQ_y (fun w' hw' => Y_move rfl) rfl rfl rfl ?_
      refine VQ_CH ?_
      rcases Bool.eq_false_or_eq_true (decide (x82 ≤ 0)) with hc86 | hc86
      · rw [if_pos hc86] at ho37
        refine CH_q1 rfl ?_
        refine VQ_ge rfl rfl rfl hc86 ?_
        obtain ⟨v87, v89, h91, h88, h90⟩ := El_staff_ratio h34
        refine VQ_y (fun w' hw' => Y_loadA (At.kp h91 hw' h34.2.1) Try.isAgg49 Try.sizeOf49 rfl) rfl rfl rfl ?_
        refine VQ_CH ?_
        refine CH_q2 rfl ?_
        refine VQ_ge rfl rfl rfl hc86 ?_
        have h92 := El_staff_Promise_2 h11
        refine VQ_y (fun w' hw' => Y_fieldAddr Try.underlying25 rfl Try.sizeOf3 (by decide) rfl) rfl rfl rfl ?_
        refine VQ_CH ?_
        refine CH_q1 rfl ?_
        refine VQ_ge rfl rfl rfl hc86 ?_
        refine VQ_y (fun w' hw' => Y_load (El.int (El.kp h92 hw')) Try.isAgg3 rfl) rfl rfl rfl ?_
        refine VQ_CH ?_
        refine CH_q2 rfl ?_
        refine VQ_ge rfl rfl rfl hc86 ?_
        have h93 := El_staff_Promise_3 h11
        refine VQ_y (fun w' hw' => Y_fieldAddr Try.underlying25 rfl Try.sizeOf3 (by decide) rfl) rfl rfl rfl ?_
        refine VQ_CH ?_
        refine CH_q1 rfl ?_
        refine VQ_ge rfl rfl rfl hc86 ?_
        refine VQ_y (fun w' hw' => Y_load (El.int (El.kp h93 hw')) Try.isAgg3 rfl) rfl rfl rfl ?_
        refine VQ_CH ?_
        refine CH_l1 (k := 0) rfl ?_
        refine V_ge rfl rfl rfl hc86 ?_
        obtain ⟨x94, hx94, ho37⟩ := Option.bind_eq_some_iff.1 ho37
        refine V_call Try.call26 rfl rfl rfl rfl (staff_natOf_c w83 hA p.wait hx94) ?_
        rintro v95 w97 ⟨_, rfl, h96, hk98⟩
        obtain ⟨A99, ht100, hH101⟩ := Hp.addOwnd hH hB hA hk98 h96
        replace h4 := El.tr h4 ht100
        replace h11 := El.tr h11 ht100
        replace h34 := El.tr h34 ht100
        replace h50 := El.tr h50 ht100
        replace h51 := El.tr h51 ht100
        replace h54 := Sl.tr h54 ht100
        replace h56 := Sl.tr h56 ht100
        replace h88 := Sl.tr h88 ht100
        replace h90 := Sl.tr h90 ht100
        replace h92 := El.tr h92 ht100
        replace h93 := El.tr h93 ht100
        replace hK := Tr.trans hK ht100
        replace hr39 := Tr.trans hr39 ht100
        replace hB := Nat.le_trans hB ht100.ex.size
        replace hA := ht100.new
        replace hH : Hp w.heap.size A99 w97 (obS (α := Int) 3 v95 x94 :: obS (α := Int) 3 v69 x68 :: obS (α := Int) 3 v61 x60 :: []) := hH101
        refine V_CH (hk98) ?_
        refine CH_l1 (k := 0) rfl ?_
        refine V_ge rfl rfl rfl hc86 ?_
        obtain ⟨x102, hx102, ho37⟩ := Option.bind_eq_some_iff.1 ho37
        refine V_call Try.call26 rfl rfl rfl rfl (staff_natOf_c w97 hA p.parts hx102) ?_
        rintro v103 w105 ⟨_, rfl, h104, hk106⟩
        obtain ⟨A107, ht108, hH109⟩ := Hp.addOwnd hH hB hA hk106 h104
        replace h4 := El.tr h4 ht108
        replace h11 := El.tr h11 ht108
        replace h34 := El.tr h34 ht108
        replace h50 := El.tr h50 ht108
        replace h51 := El.tr h51 ht108
        replace h54 := Sl.tr h54 ht108
        replace h56 := Sl.tr h56 ht108
        replace h88 := Sl.tr h88 ht108
        replace h90 := Sl.tr h90 ht108
        replace h92 := El.tr h92 ht108
        replace h93 := El.tr h93 ht108
        replace hK := Tr.trans hK ht108
        replace hr39 := Tr.trans hr39 ht108
        replace hB := Nat.le_trans hB ht108.ex.size
        replace hA := ht108.new
        replace hH : Hp w.heap.size A107 w105 (obS (α := Int) 3 v103 x102 :: obS (α := Int) 3 v95 x94 :: obS (α := Int) 3 v69 x68 :: obS (α := Int) 3 v61 x60 :: []) := hH109
        refine V_CH (hk106) ?_
        refine CH_q2 rfl ?_
        refine VQ_ge rfl rfl rfl hc86 ?_
        refine VQ_y (fun w' hw' => Y_build (cells := #[v95, v103]) Try.underlying49 Try.zeroValue49 (Try_places49 _ Try.underlying49) rfl (by obtain ⟨a110, c111, e112, _⟩ := Hp.form (α := Int) (e := 3) (v := v95) (l := x94) hH (i := 1) rfl; subst e112; obtain ⟨a113, c114, e115, _⟩ := Hp.form (α := Int) (e := 3) (v := v103) (l := x102) hH (i := 0) rfl; subst e115; with_unfolding_all rfl)) rfl rfl rfl ?_
        refine VQ_CH ?_
        refine CH_l1 (k := 0) rfl ?_
        refine V_ge rfl rfl rfl hc86 ?_
        obtain ⟨x116, hx116, ho37⟩ := Option.bind_eq_some_iff.1 ho37
        refine V_call Try.call25 rfl rfl rfl rfl (staff_ratio_compare_c w105 (A := fun _ => True) (fun _ _ => trivial) x15.1 v87 (Sl.any h88) v89 (Sl.any h90) (⟨x94, x102⟩ : staff_ratio) v95 (Hp.any (α := Int) (e := 3) (v := v95) (l := x94) hH (i := 1) rfl) v103 (Hp.any (α := Int) (e := 3) (v := v103) (l := x102) hH (i := 0) rfl) hx116) ?_
        rintro _ w117 ⟨rfl, hk118⟩
        have ht119 := Kp.tr hk118 hA hB
        replace hH := Hp.kp hH hk118
        replace h4 := El.tr h4 ht119
        replace h11 := El.tr h11 ht119
        replace h34 := El.tr h34 ht119
        replace h50 := El.tr h50 ht119
        replace h51 := El.tr h51 ht119
        replace h54 := Sl.tr h54 ht119
        replace h56 := Sl.tr h56 ht119
        replace h88 := Sl.tr h88 ht119
        replace h90 := Sl.tr h90 ht119
        replace h92 := El.tr h92 ht119
        replace h93 := El.tr h93 ht119
        replace hK := Tr.trans hK ht119
        replace hr39 := Tr.trans hr39 ht119
        replace hB := Nat.le_trans hB ht119.ex.size
        replace hA := ht119.new
        refine V_CH (hk118) ?_
        refine CH_q2 rfl ?_
        refine VQ_ge rfl rfl rfl hc86 ?_
        refine VQ_y (fun w' hw' => Y_leq rfl rfl) rfl rfl rfl ?_
        refine VQ_CH ?_
        refine CH_q2 rfl ?_
        refine VQ_y (fun _ _ => Y_pick_te rfl hc86 rfl) rfl rfl rfl ?_
        refine VQ_CH ?_
        refine CH_q2 rfl ?_
        refine VQ_y (fun w' hw' => Y_assign rfl) rfl rfl rfl ?_
        refine VQ_CH ?_
        refine CH_tail ?_
        show V _ _ _ _ [] _ _
        obtain rfl := Option.some.inj ho37
        refine V_end (fun a ha120 => ?_)
        replace hH : Hp w.heap.size A107 w117 (obS (α := Int) 3 v95 x94 :: obS (α := Int) 3 v69 x68 :: obS (α := Int) 3 v61 x60 :: []) := Hp.drop hH (i := 0) rfl
        replace hH : Hp w.heap.size A107 w117 (obS (α := Int) 3 v69 x68 :: obS (α := Int) 3 v61 x60 :: []) := Hp.drop hH (i := 0) rfl
        replace hH : Hp w.heap.size A107 w117 (obS (α := Int) 3 v61 x60 :: []) := Hp.drop hH (i := 0) rfl
        replace hH : Hp w.heap.size A107 w117 ([]) := Hp.drop hH (i := 0) rfl
        exact ⟨A107, ha120.sub ⟨rfl, trivial⟩, ⟨hH, hr39⟩⟩
      · rw [if_neg (nt hc86)] at ho37
        refine CH_q1 rfl ?_
        refine VQ_gn rfl rfl rfl hc86 rfl rfl rfl ?_
        refine VQ_CH ?_
        refine CH_q2 rfl ?_
        refine VQ_gn rfl rfl rfl hc86 rfl rfl rfl ?_
        refine VQ_CH ?_
        refine CH_q1 rfl ?_
        refine VQ_gn rfl rfl rfl hc86 rfl rfl rfl ?_
        refine VQ_CH ?_
        refine CH_q2 rfl ?_
        refine VQ_gn rfl rfl rfl hc86 rfl rfl rfl ?_
        refine VQ_CH ?_
        refine CH_q1 rfl ?_
        refine VQ_gn rfl rfl rfl hc86 rfl rfl rfl ?_
        refine VQ_CH ?_
        refine CH_l1 (k := 0) rfl ?_
        refine V_gn rfl rfl rfl hc86 rfl rfl rfl ?_
        refine V_CH (Kp.refl _) ?_
        refine CH_l1 (k := 0) rfl ?_
        refine V_gn rfl rfl rfl hc86 rfl rfl rfl ?_
        refine V_CH (Kp.refl _) ?_
        refine CH_q2 rfl ?_
        refine VQ_gn rfl rfl rfl hc86 rfl rfl rfl ?_
        refine VQ_CH ?_
        refine CH_l1 (k := 0) rfl ?_
        refine V_gn rfl rfl rfl hc86 rfl rfl rfl ?_
        refine V_CH (Kp.refl _) ?_
        refine CH_q2 rfl ?_
        refine VQ_gn rfl rfl rfl hc86 rfl rfl rfl ?_
        refine VQ_CH ?_
        refine CH_q2 rfl ?_
        refine VQ_y (fun _ _ => Y_pick_fe rfl hc86 rfl) rfl rfl rfl ?_
        refine VQ_CH ?_
        refine CH_q2 rfl ?_
        refine VQ_y (fun w' hw' => Y_assign rfl) rfl rfl rfl ?_
        refine VQ_CH ?_
        refine CH_tail ?_
        show V _ _ _ _ [] _ _
        obtain rfl := Option.some.inj ho37
        refine V_end (fun a ha121 => ?_)
        replace hH : Hp w.heap.size A73 w83 (obS (α := Int) 3 v61 x60 :: []) := Hp.drop hH (i := 0) rfl
        replace hH : Hp w.heap.size A73 w83 ([]) := Hp.drop hH (i := 0) rfl
        exact ⟨A73, ha121.sub ⟨rfl, trivial⟩, ⟨hH, hr39⟩⟩
    · rw [if_neg (nt hc48)] at ho37
      refine CH_q2 rfl ?_
      refine VQ_gn rfl rfl rfl hc48 rfl rfl rfl ?_
      refine VQ_CH ?_
      refine CH_q2 rfl ?_
      refine VQ_gn rfl rfl rfl hc48 rfl rfl rfl ?_
      refine VQ_CH ?_
      refine CH_q2 rfl ?_
      refine VQ_gn rfl rfl rfl hc48 rfl rfl rfl ?_
      refine VQ_CH ?_
      refine CH_q2 rfl ?_
      refine VQ_gn rfl rfl rfl hc48 rfl rfl rfl ?_
      refine VQ_CH ?_
      refine CH_q2 rfl ?_
      refine VQ_gn rfl rfl rfl hc48 rfl rfl rfl ?_
      refine VQ_CH ?_
      refine CH_q2 rfl ?_
      refine VQ_gn rfl rfl rfl hc48 rfl rfl rfl ?_
      refine VQ_CH ?_
      refine CH_l1 (k := 0) rfl ?_
      refine V_gn rfl rfl rfl hc48 rfl rfl rfl ?_
      refine V_CH (Kp.refl _) ?_
      refine CH_l1 (k := 0) rfl ?_
      refine V_gn rfl rfl rfl hc48 rfl rfl rfl ?_
      refine V_CH (Kp.refl _) ?_
      refine CH_l1 (k := 0) rfl ?_
      refine V_gn rfl rfl rfl hc48 rfl rfl rfl ?_
      refine V_CH (Kp.refl _) ?_
      refine CH_q2 rfl ?_
      refine VQ_gn rfl rfl rfl hc48 rfl rfl rfl ?_
      refine VQ_CH ?_
      refine CH_l1 (k := 0) rfl ?_
      refine V_gn rfl rfl rfl hc48 rfl rfl rfl ?_
      refine V_CH (Kp.refl _) ?_
      refine CH_q2 rfl ?_
      refine VQ_gn rfl rfl rfl hc48 rfl rfl rfl ?_
      refine VQ_CH ?_
      refine CH_q2 rfl ?_
      refine VQ_y (fun _ _ => Y_pick_fe rfl hc48 rfl) rfl rfl rfl ?_
      refine VQ_CH ?_
      refine CH_q2 rfl ?_
      refine VQ_y (fun w' hw' => Y_move rfl) rfl rfl rfl ?_
      refine VQ_CH ?_
      rcases Bool.eq_false_or_eq_true (false) with hc122 | hc122
      · rw [if_pos hc122] at ho37
        refine CH_q1 rfl ?_
        refine VQ_ge rfl rfl rfl hc122 ?_
        obtain ⟨v123, v125, h127, h124, h126⟩ := El_staff_ratio h34
        refine VQ_y (fun w' hw' => Y_loadA (At.kp h127 hw' h34.2.1) Try.isAgg49 Try.sizeOf49 rfl) rfl rfl rfl ?_
        refine VQ_CH ?_
        refine CH_q2 rfl ?_
        refine VQ_ge rfl rfl rfl hc122 ?_
        have h128 := El_staff_Promise_2 h11
        refine VQ_y (fun w' hw' => Y_fieldAddr Try.underlying25 rfl Try.sizeOf3 (by decide) rfl) rfl rfl rfl ?_
        refine VQ_CH ?_
        refine CH_q1 rfl ?_
        refine VQ_ge rfl rfl rfl hc122 ?_
        refine VQ_y (fun w' hw' => Y_load (El.int (El.kp h128 hw')) Try.isAgg3 rfl) rfl rfl rfl ?_
        refine VQ_CH ?_
        refine CH_q2 rfl ?_
        refine VQ_ge rfl rfl rfl hc122 ?_
        have h129 := El_staff_Promise_3 h11
        refine VQ_y (fun w' hw' => Y_fieldAddr Try.underlying25 rfl Try.sizeOf3 (by decide) rfl) rfl rfl rfl ?_
        refine VQ_CH ?_
        refine CH_q1 rfl ?_
        refine VQ_ge rfl rfl rfl hc122 ?_
        refine VQ_y (fun w' hw' => Y_load (El.int (El.kp h129 hw')) Try.isAgg3 rfl) rfl rfl rfl ?_
        refine VQ_CH ?_
        refine CH_l1 (k := 0) rfl ?_
        refine V_ge rfl rfl rfl hc122 ?_
        obtain ⟨x130, hx130, ho37⟩ := Option.bind_eq_some_iff.1 ho37
        refine V_call Try.call26 rfl rfl rfl rfl (staff_natOf_c w45 hA p.wait hx130) ?_
        rintro v131 w133 ⟨_, rfl, h132, hk134⟩
        obtain ⟨A135, ht136, hH137⟩ := Hp.addOwnd hH hB hA hk134 h132
        replace h4 := El.tr h4 ht136
        replace h11 := El.tr h11 ht136
        replace h34 := El.tr h34 ht136
        replace h124 := Sl.tr h124 ht136
        replace h126 := Sl.tr h126 ht136
        replace h128 := El.tr h128 ht136
        replace h129 := El.tr h129 ht136
        replace hK := Tr.trans hK ht136
        replace hr39 := Tr.trans hr39 ht136
        replace hB := Nat.le_trans hB ht136.ex.size
        replace hA := ht136.new
        replace hH : Hp w.heap.size A135 w133 (obS (α := Int) 3 v131 x130 :: []) := hH137
        refine V_CH (hk134) ?_
        refine CH_l1 (k := 0) rfl ?_
        refine V_ge rfl rfl rfl hc122 ?_
        obtain ⟨x138, hx138, ho37⟩ := Option.bind_eq_some_iff.1 ho37
        refine V_call Try.call26 rfl rfl rfl rfl (staff_natOf_c w133 hA p.parts hx138) ?_
        rintro v139 w141 ⟨_, rfl, h140, hk142⟩
        obtain ⟨A143, ht144, hH145⟩ := Hp.addOwnd hH hB hA hk142 h140
        replace h4 := El.tr h4 ht144
        replace h11 := El.tr h11 ht144
        replace h34 := El.tr h34 ht144
        replace h124 := Sl.tr h124 ht144
        replace h126 := Sl.tr h126 ht144
        replace h128 := El.tr h128 ht144
        replace h129 := El.tr h129 ht144
        replace hK := Tr.trans hK ht144
        replace hr39 := Tr.trans hr39 ht144
        replace hB := Nat.le_trans hB ht144.ex.size
        replace hA := ht144.new
        replace hH : Hp w.heap.size A143 w141 (obS (α := Int) 3 v139 x138 :: obS (α := Int) 3 v131 x130 :: []) := hH145
        refine V_CH (hk142) ?_
        refine CH_q2 rfl ?_
        refine VQ_ge rfl rfl rfl hc122 ?_
        refine VQ_y (fun w' hw' => Y_build (cells := #[v131, v139]) Try.underlying49 Try.zeroValue49 (Try_places49 _ Try.underlying49) rfl (by obtain ⟨a146, c147, e148, _⟩ := Hp.form (α := Int) (e := 3) (v := v131) (l := x130) hH (i := 1) rfl; subst e148; obtain ⟨a149, c150, e151, _⟩ := Hp.form (α := Int) (e := 3) (v := v139) (l := x138) hH (i := 0) rfl; subst e151; with_unfolding_all rfl)) rfl rfl rfl ?_
        refine VQ_CH ?_
        refine CH_l1 (k := 0) rfl ?_
        refine V_ge rfl rfl rfl hc122 ?_
        obtain ⟨x152, hx152, ho37⟩ := Option.bind_eq_some_iff.1 ho37
        refine V_call Try.call25 rfl rfl rfl rfl (staff_ratio_compare_c w141 (A := fun _ => True) (fun _ _ => trivial) x15.1 v123 (Sl.any h124) v125 (Sl.any h126) (⟨x130, x138⟩ : staff_ratio) v131 (Hp.any (α := Int) (e := 3) (v := v131) (l := x130) hH (i := 1) rfl) v139 (Hp.any (α := Int) (e := 3) (v := v139) (l := x138) hH (i := 0) rfl) hx152) ?_
        rintro _ w153 ⟨rfl, hk154⟩
        have ht155 := Kp.tr hk154 hA hB
        replace hH := Hp.kp hH hk154
        replace h4 := El.tr h4 ht155
        replace h11 := El.tr h11 ht155
        replace h34 := El.tr h34 ht155
        replace h124 := Sl.tr h124 ht155
        replace h126 := Sl.tr h126 ht155
        replace h128 := El.tr h128 ht155
        replace h129 := El.tr h129 ht155
        replace hK := Tr.trans hK ht155
        replace hr39 := Tr.trans hr39 ht155
        replace hB := Nat.le_trans hB ht155.ex.size
        replace hA := ht155.new
        refine V_CH (hk154) ?_
        refine CH_q2 rfl ?_
        refine VQ_ge rfl rfl rfl hc122 ?_
        refine VQ_y (fun w' hw' => Y_leq rfl rfl) rfl rfl rfl ?_
        refine VQ_CH ?_
        refine CH_q2 rfl ?_
        refine VQ_y (fun _ _ => Y_pick_te rfl hc122 rfl) rfl rfl rfl ?_
        refine VQ_CH ?_
        refine CH_q2 rfl ?_
        refine VQ_y (fun w' hw' => Y_assign rfl) rfl rfl rfl ?_
        refine VQ_CH ?_
        refine CH_tail ?_
        show V _ _ _ _ [] _ _
        obtain rfl := Option.some.inj ho37
        refine V_end (fun a ha156 => ?_)
        replace hH : Hp w.heap.size A143 w153 (obS (α := Int) 3 v131 x130 :: []) := Hp.drop hH (i := 0) rfl
        replace hH : Hp w.heap.size A143 w153 ([]) := Hp.drop hH (i := 0) rfl
        exact ⟨A143, ha156.sub ⟨rfl, trivial⟩, ⟨hH, hr39⟩⟩
      · rw [if_neg (nt hc122)] at ho37
        refine CH_q1 rfl ?_
        refine VQ_gn rfl rfl rfl hc122 rfl rfl rfl ?_
        refine VQ_CH ?_
        refine CH_q2 rfl ?_
        refine VQ_gn rfl rfl rfl hc122 rfl rfl rfl ?_
        refine VQ_CH ?_
        refine CH_q1 rfl ?_
        refine VQ_gn rfl rfl rfl hc122 rfl rfl rfl ?_
        refine VQ_CH ?_
        refine CH_q2 rfl ?_
        refine VQ_gn rfl rfl rfl hc122 rfl rfl rfl ?_
        refine VQ_CH ?_
        refine CH_q1 rfl ?_
        refine VQ_gn rfl rfl rfl hc122 rfl rfl rfl ?_
        refine VQ_CH ?_
        refine CH_l1 (k := 0) rfl ?_
        refine V_gn rfl rfl rfl hc122 rfl rfl rfl ?_
        refine V_CH (Kp.refl _) ?_
        refine CH_l1 (k := 0) rfl ?_
        refine V_gn rfl rfl rfl hc122 rfl rfl rfl ?_
        refine V_CH (Kp.refl _) ?_
        refine CH_q2 rfl ?_
        refine VQ_gn rfl rfl rfl hc122 rfl rfl rfl ?_
        refine VQ_CH ?_
        refine CH_l1 (k := 0) rfl ?_
        refine V_gn rfl rfl rfl hc122 rfl rfl rfl ?_
        refine V_CH (Kp.refl _) ?_
        refine CH_q2 rfl ?_
        refine VQ_gn rfl rfl rfl hc122 rfl rfl rfl ?_
        refine VQ_CH ?_
        refine CH_q2 rfl ?_
        refine VQ_y (fun _ _ => Y_pick_fe rfl hc122 rfl) rfl rfl rfl ?_
        refine VQ_CH ?_
        refine CH_q2 rfl ?_
        refine VQ_y (fun w' hw' => Y_assign rfl) rfl rfl rfl ?_
        refine VQ_CH ?_
        refine CH_tail ?_
        show V _ _ _ _ [] _ _
        obtain rfl := Option.some.inj ho37
        refine V_end (fun a ha157 => ?_)
        exact ⟨A, ha157.sub ⟨rfl, trivial⟩, ⟨hH, hr39⟩⟩
  rintro A43 w40 ⟨hH44, hk41⟩ a ha42
  replace hK := Tr.trans hK hk41
  replace hB := Nat.le_trans hB hk41.ex.size
  replace hA := hk41.new
  replace hH : Hp w.heap.size A43 w40 ([]) := hH44
  refine C_at (n := ⟨42, [], none⟩) (fun _ _ => rfl) ?_ ha42
  obtain rfl := Option.some.inj hm
  refine C_ret ?_
  try simp only [↓inBlock_ret, ↓then_ret]
  exact retQ rfl (Res.one Try.results16 rfl) ⟨rfl, hK.kp⟩

set_option maxRecDepth 4000 in
set_option maxHeartbeats 4000000 in
theorem staff_Staff_c (w : World) {A : Nat → Prop} (hA : ∀ b, w.heap.size ≤ b → A b) (l : staff_Load) (p : staff_Promise) {r : (Int × Int)} (hm : staff_Staff l p = some r) : Ret Try.prog 7 #[.agg #[.int .i64 l.calls, .int .i64 l.length, .int .i64 l.span], .agg #[.int .i64 p.share, .int .i64 p.of, .int .i64 p.wait, .int .i64 p.parts]] w fun v w' => v = .tuple #[.int .i64 r.1, .int .i64 r.2] ∧ Kp w w' := by
  unfold staff_Staff at hm
  refine enter Try.func7 rfl Try.ntmps7 rfl ?_
  have hA0 := hA
  have hB := Nat.le_refl w.heap.size
  have hK : Tr w.heap.size A w A w := Tr.refl hA
  have hH : Hp w.heap.size A w [] := Hp.nil
  refine C_seq ?_
  refine C_region ?_
  refine V_box rfl rfl ?_
  intro b1 w2 h3
  have hk5 := h3.kp
  have h4 : El (α := staff_Load) A w2 b1 0 l := h3.el hA ⟨[.int .i64 l.calls], _, rfl, rfl, ⟨[.int .i64 l.length], _, rfl, rfl, rfl⟩⟩
  have ht6 := Kp.tr hk5 hA hB
  replace hH := Hp.kp hH hk5
  replace hK := Tr.trans hK ht6
  replace hB := Nat.le_trans hB ht6.ex.size
  replace hA := ht6.new
  refine V_box rfl rfl ?_
  intro b7 w9 h10
  have hk12 := h10.kp
  have h11 : El (α := staff_Promise) A w9 b7 0 p := h10.el hA ⟨[.int .i64 p.share], _, rfl, rfl, ⟨[.int .i64 p.of], _, rfl, rfl, ⟨[.int .i64 p.wait], _, rfl, rfl, rfl⟩⟩⟩
  have ht13 := Kp.tr hk12 hA hB
  replace hH := Hp.kp hH hk12
  replace h4 := El.tr h4 ht13
  replace hK := Tr.trans hK ht13
  replace hB := Nat.le_trans hB ht13.ex.size
  replace hA := ht13.new
  refine V_y (Y_assign rfl) rfl rfl rfl ?_
  refine V_y (Y_assign rfl) rfl rfl rfl ?_
  refine V_to (fun _ _ => rfl) ?_
  refine C_seq ?_
  refine C_seq ?_
  refine C_region_qt 4 Try_mixed (by kernel_rfl) ?_
  simp only [List.take, List.drop]
  obtain ⟨h14, _⟩ := El_staff_Load h4
  refine VQ_y (fun w' hw' => Y_loadA (At.kp h14 hw' h4.2.1) Try.isAgg23 Try.sizeOf23 rfl) rfl rfl rfl ?_
  obtain ⟨x15, hx15, hm⟩ := Option.bind_eq_some_iff.1 hm
  refine VQ_call (.int .i64 x15) Try.call13 rfl rfl rfl rfl (fun w' hw' => (staff_checkLoad_c w' (fun b hb => hA b (Nat.le_trans hw'.size hb)) l hx15).mono (fun _ _ h => ⟨h.1, Kp.trans hw' h.2⟩)) ?_
  obtain ⟨h16, _⟩ := El_staff_Promise h11
  refine VQ_y (fun w' hw' => Y_loadA (At.kp h16 hw' h11.2.1) Try.isAgg25 Try.sizeOf25 rfl) rfl rfl rfl ?_
  obtain ⟨x17, hx17, hm⟩ := Option.bind_eq_some_iff.1 hm
  refine VQ_call (.int .i64 x17) Try.call15 rfl rfl rfl rfl (fun w' hw' => (staff_checkPromise_c w' (fun b hb => hA b (Nat.le_trans hw'.size hb)) p hx17).mono (fun _ _ h => ⟨h.1, Kp.trans hw' h.2⟩)) ?_
  refine VQ_tail (fun w18 hk19 => ?_)
  try simp only [List.take, List.drop]
  have ht20 := Kp.tr hk19 hA hB
  replace hH := Hp.kp hH hk19
  replace h4 := El.tr h4 ht20
  replace h11 := El.tr h11 ht20
  replace hK := Tr.trans hK ht20
  replace hB := Nat.le_trans hB ht20.ex.size
  replace hA := ht20.new
  refine V_buildSlice (l := ([x15, x17] : List Int)) (len := 2) Try.underlying45 Try.sizeOf26 Try.zeroValue26 rfl (by with_unfolding_all rfl) (by decide) (by decide) hA ⟨[.int .i64 x15], _, rfl, rfl, ⟨[.int .i64 x17], _, rfl, rfl, rfl⟩⟩ rfl rfl ?_
  intro v21 w22 hk24 h23
  have ht25 := Kp.tr hk24 hA hB
  replace hH := Hp.kp hH hk24
  replace h4 := El.tr h4 ht25
  replace h11 := El.tr h11 ht25
  replace hK := Tr.trans hK ht25
  replace hB := Nat.le_trans hB ht25.ex.size
  replace hA := ht25.new
  obtain ⟨x26, hx26, hm⟩ := Option.bind_eq_some_iff.1 hm
  refine V_call Try.call12 rfl rfl rfl rfl (cmp_Or_api_Errno_c w22 ([x15, x17] : List Int) v21 h23 hx26) ?_
  rintro _ _ ⟨rfl, rfl⟩
  refine V_y (Y_assign rfl) rfl rfl rfl ?_
  refine V_to (fun _ _ => rfl) ?_
  refine C_seq ?_
  refine C_region ?_
  refine V_y (Y_move rfl) rfl rfl rfl ?_
  refine V_y (Y_neq rfl rfl) rfl rfl rfl ?_
  refine V_to (fun _ _ => rfl) ?_
  refine C_cond rfl (fun hc27 => ?_) (fun hc27 => ?_)
  · rw [if_pos hc27] at hm
    refine C_seq ?_
    refine C_region ?_
    refine V_y (Y_move rfl) rfl rfl rfl ?_
    refine V_y (Y_assign rfl) rfl rfl rfl ?_
    refine V_y (Y_assign rfl) rfl rfl rfl ?_
    refine V_to (fun _ _ => rfl) ?_
    obtain rfl := Option.some.inj hm
    refine C_ret ?_
    try simp only [↓inBlock_ret, ↓then_ret]
    exact retQ rfl (Res.two Try.results7 rfl rfl) ⟨rfl, hK.kp⟩
  · rw [if_neg (nt hc27)] at hm
    refine C_skip_to (fun _ _ => rfl) ?_
    refine C_seq ?_
    refine C_seq ?_
    refine C_region ?_
    refine V_y (Y_move rfl) rfl rfl rfl ?_
    refine V_to (fun _ _ => rfl) ?_
    obtain ⟨o28, ho28, hm⟩ := Option.bind_eq_some_iff.1 hm
    refine C_cutG (ι := (Int × (Nat → Prop))) (fun ⟨s29, A36⟩ => []) (fun ⟨s29, A36⟩ => fun w' => o28 = .fin s29 ∧ Hp w.heap.size A36 w' ([]) ∧ Tr w.heap.size A w22 A36 w') ?_ ?_
    · refine C_block ?_
      refine C_while ho28 (fun s38 a w' => ∃ i : (Nat → Prop), Has ⟨26, [], none⟩ a ([(2, .pointer (some ⟨b1, 0, none⟩)), (3, .pointer (some ⟨b7, 0, none⟩)), (17, .int .i64 s38)]) ∧ Hp w.heap.size i w' ([]) ∧ Tr w.heap.size A w22 i w') (fun a ha => ⟨A, ha.sub ⟨rfl, rfl, rfl, trivial⟩, ⟨hH, Tr.refl hA⟩⟩) ?_
      rintro K s38 a w39 ⟨A40, ha59, hH41, hr30⟩ K48
      refine C_of ?_ ha59
      replace h4 := El.tr h4 hr30
      replace h11 := El.tr h11 hr30
      replace hK := Tr.trans hK hr30
      replace hB := Nat.le_trans hB hr30.ex.size
      replace hA := hr30.new
      replace hH : Hp w.heap.size A40 w39 ([]) := hH41
      obtain ⟨x42, h43, h44⟩ := K48
      refine C_seq ?_
      refine C_region ?_
      refine V_y (Y_lss rfl rfl) rfl rfl rfl ?_
      refine V_to (fun _ _ => rfl) ?_
      refine C_seq ?_
      refine C_cond rfl (fun hc49 => ?_) (fun hc49 => ?_)
      · rw [if_pos hc49] at h43
        refine C_skip_to (fun _ _ => rfl) ?_
        refine C_seq ?_
        refine C_block ?_
        refine C_seq ?_
        refine C_region ?_
        refine V_y (Y_move rfl) rfl rfl rfl ?_
        refine V_y (Y_assign rfl) rfl rfl rfl ?_
        refine V_to (fun _ _ => rfl) ?_
        refine C_seq ?_
        refine C_region ?_
        obtain ⟨h50, _⟩ := El_staff_Load h4
        refine V_y (Y_loadA h50 Try.isAgg23 Try.sizeOf23 rfl) rfl rfl rfl ?_
        obtain ⟨h51, _⟩ := El_staff_Promise h11
        refine V_y (Y_loadA h51 Try.isAgg25 Try.sizeOf25 rfl) rfl rfl rfl ?_
        refine V_y (Y_move rfl) rfl rfl rfl ?_
        obtain ⟨x52, hx52, h43⟩ := Option.bind_eq_some_iff.1 h43
        refine V_call Try.call16 rfl rfl rfl rfl (staff_Load_keeps_c w39 hA l p s38 hx52) ?_
        rintro _ w53 ⟨rfl, hk54⟩
        have ht55 := Kp.tr hk54 hA hB
        replace hH := Hp.kp hH hk54
        replace h4 := El.tr h4 ht55
        replace h11 := El.tr h11 ht55
        replace hK := Tr.trans hK ht55
        replace hr30 := Tr.trans hr30 ht55
        replace hB := Nat.le_trans hB ht55.ex.size
        replace hA := ht55.new
        refine V_to (fun _ _ => rfl) ?_
        refine C_cond rfl (fun hc56 => ?_) (fun hc56 => ?_)
        · rw [if_pos hc56] at h43
          refine C_seq ?_
          refine C_region ?_
          refine V_y (Y_move rfl) rfl rfl rfl ?_
          refine V_y (Y_assign rfl) rfl rfl rfl ?_
          refine V_y (Y_assign rfl) rfl rfl rfl ?_
          refine V_to (fun _ _ => rfl) ?_
          obtain rfl := Option.some.inj h43
          obtain rfl := (h44 : Lp.rt _ = _)
          rw [Lp.andThen_rt] at hm
          obtain rfl := Option.some.inj hm
          refine C_ret ?_
          try simp only [↓inBlock_ret, ↓then_ret]
          exact retQ rfl (Res.two Try.results7 rfl rfl) ⟨rfl, hK.kp⟩
        · rw [if_neg (nt hc56)] at h43
          refine C_skip_to (fun _ _ => rfl) ?_
          refine C_region ?_
          refine V_y (Y_addI rfl rfl) rfl rfl rfl ?_
          refine V_y (Y_move rfl) rfl rfl rfl ?_
          obtain rfl := Option.some.inj h43
          refine V_end (fun a ha57 => ?_)
          exact ⟨w64 (s38 + 1), h44, ⟨A40, ha57.sub ⟨rfl, rfl, rfl, trivial⟩, ⟨hH, hr30⟩⟩⟩
      · rw [if_neg (nt hc49)] at h43
        obtain rfl := Option.some.inj h43
        refine C_exit (fun a ha58 => ?_)
        exact ⟨(s38, A40), ha58.sub trivial, ⟨h44.symm, hH, hr30⟩⟩
    rintro ⟨s29, A36⟩ w33 ⟨rfl, hH37, hk34⟩ a ha35
    rw [Lp.andThen_fin] at hm
    replace hK := Tr.trans hK hk34
    replace hB := Nat.le_trans hB hk34.ex.size
    replace hA := hk34.new
    replace hH : Hp w.heap.size A36 w33 ([]) := hH37
    refine C_at (n := ⟨26, [], none⟩) (fun _ _ => rfl) ?_ ha35
    refine C_seq ?_
    refine C_region ?_
    refine V_y (Y_assign rfl) rfl rfl rfl ?_
    refine V_y (Y_assign rfl) rfl rfl rfl ?_
    refine V_to (fun _ _ => rfl) ?_
    obtain rfl := Option.some.inj hm
    refine C_ret ?_
    try simp only [↓inBlock_ret, ↓then_ret]
    exact retQ rfl (Res.two Try.results7 rfl rfl) ⟨rfl, hK.kp⟩

set_option maxRecDepth 4000 in
set_option maxHeartbeats 4000000 in
theorem staff_Demand_c (w : World) {A : Nat → Prop} (hA : ∀ b, w.heap.size ≤ b → A b) (l : (List staff_Load)) (v_l : Value) (h_l : Sl A w v_l l) (p : staff_Promise) {r : ((List Int) × Int)} (hm : staff_Demand l p = some r) : Ret Try.prog 9 #[v_l, .agg #[.int .i64 p.share, .int .i64 p.of, .int .i64 p.wait, .int .i64 p.parts]] w fun v w' => ∃ s0, v = .tuple #[s0, .int .i64 r.2] ∧ Ownd 3 w w' s0 r.1 ∧ Kp w w' := by
  unfold staff_Demand at hm
  refine enter Try.func9 rfl Try.ntmps9 rfl ?_
  have hA0 := hA
  have hB := Nat.le_refl w.heap.size
  have hK : Tr w.heap.size A w A w := Tr.refl hA
  have hH : Hp w.heap.size A w [] := Hp.nil
  refine C_seq ?_
  refine C_region ?_
  refine V_box rfl rfl ?_
  intro b3 w4 h5
  have hk7 := h5.kp
  have h6 : El (α := staff_Promise) A w4 b3 0 p := h5.el hA ⟨[.int .i64 p.share], _, rfl, rfl, ⟨[.int .i64 p.of], _, rfl, rfl, ⟨[.int .i64 p.wait], _, rfl, rfl, rfl⟩⟩⟩
  have ht8 := Kp.tr hk7 hA hB
  replace hH := Hp.kp hH hk7
  replace h_l := Sl.tr h_l ht8
  replace hK := Tr.trans hK ht8
  replace hB := Nat.le_trans hB ht8.ex.size
  replace hA := ht8.new
  refine V_y (Y_assign rfl) rfl rfl rfl ?_
  refine V_y (Y_assign rfl) rfl rfl rfl ?_
  refine V_to (fun _ _ => rfl) ?_
  refine C_seq ?_
  refine C_seq ?_
  refine C_region ?_
  refine V_y (Y_move rfl) rfl rfl rfl ?_
  refine V_y (Y_lenSl h_l rfl Try.underlying32 rfl) rfl rfl rfl ?_
  refine V_y (Y_gtr rfl rfl) rfl rfl rfl ?_
  refine V_to (fun _ _ => rfl) ?_
  refine C_cond rfl (fun hc9 => ?_) (fun hc9 => ?_)
  · rw [if_pos hc9] at hm
    refine C_seq ?_
    refine C_region ?_
    refine V_y (Y_assign rfl) rfl rfl rfl ?_
    refine V_y (Y_assign rfl) rfl rfl rfl ?_
    refine V_to (fun _ _ => rfl) ?_
    obtain rfl := Option.some.inj hm
    replace hH : Hp w.heap.size A w4 (obS (α := Int) 3 (.slice none 0 0) ([] : (List Int)) :: []) := Hp.addNil (α := Int) (e := 3) hH
    refine C_ret ?_
    try simp only [↓inBlock_ret, ↓then_ret]
    exact retQ rfl (Res.two Try.results9 rfl rfl) ⟨.slice none 0 0, rfl, (Hp.ownd hH (i := 0) rfl), hK.kp⟩
  · rw [if_neg (nt hc9)] at hm
    refine C_skip_to (fun _ _ => rfl) ?_
    refine C_seq ?_
    refine C_seq ?_
    refine C_region ?_
    refine V_y (Y_move rfl) rfl rfl rfl ?_
    refine V_y (Y_lenSl h_l rfl Try.underlying32 rfl) rfl rfl rfl ?_
    refine V_y (Y_move rfl) rfl rfl rfl ?_
    refine V_to (fun _ _ => rfl) ?_
    have hn30 := Sl.le h_l
    obtain ⟨o10, ho10, hm⟩ := Option.bind_eq_some_iff.1 hm
    refine C_cutG (ι := (Unit × (Nat → Prop))) (fun ⟨s11, A17⟩ => [(0, v_l), (3, .pointer (some ⟨b3, 0, none⟩))]) (fun ⟨s11, A17⟩ => fun w' => o10 = .fin s11 ∧ Hp w.heap.size A17 w' ([]) ∧ Tr w.heap.size A w4 A17 w') ?_ ?_
    · refine C_block ?_
      refine C_range ho10 (fun k13 _ a w' => ∃ i : (Nat → Prop), Has ⟨56, [], none⟩ a ([(0, v_l), (3, .pointer (some ⟨b3, 0, none⟩)), (18, v_l), (19, .int .i64 (l.length : Int)), (20, .int .i64 (k13 : Int))]) ∧ Hp w.heap.size i w' ([]) ∧ Tr w.heap.size A w4 i w') (fun a ha => ⟨A, ha.sub ⟨rfl, rfl, rfl, rfl, rfl, trivial⟩, ⟨hH, Tr.refl hA⟩⟩) ?_
      rintro K k13 _ a w20 ⟨A21, ha53, hH22, hr12⟩ hle26 K29 h28
      refine C_of ?_ ha53
      replace h_l := Sl.tr h_l hr12
      replace h6 := El.tr h6 hr12
      replace hK := Tr.trans hK hr12
      replace hB := Nat.le_trans hB hr12.ex.size
      replace hA := hr12.new
      replace hH : Hp w.heap.size A21 w20 ([]) := hH22
      refine C_seq (C_region (V_y (Y_lss rfl rfl) rfl rfl rfl (V_to (fun _ _ => rfl) ?_)))
      refine C_seq ?_
      refine C_cond rfl (fun hc31 => ?_) (fun hc31 => ?_)
      · have hlt27 := lt_of_dec hc31
        obtain ⟨x23, h24, h25⟩ := K29 hlt27
        refine C_skip_to (fun _ _ => rfl) ?_
        refine C_seq ?_
        refine C_block ?_
        refine C_seq ?_
        refine C_region ?_
        obtain ⟨x32, hx32, h24⟩ := Option.bind_eq_some_iff.1 h24
        refine V_indexAddr h_l hx32 Try.underlying32 Try.sizeOf23 rfl rfl rfl ?_
        intro b33 o34 h35
        obtain ⟨h36, _⟩ := El_staff_Load h35
        refine V_y (Y_loadA h36 Try.isAgg23 Try.sizeOf23 rfl) rfl rfl rfl ?_
        refine V_alloc Try.zeroValue23 rfl ?_
        intro b37 w38 h39
        refine V_storeNew h39 Try.sizeOf23 rfl rfl rfl rfl (by exact (List.forall_mem_cons.2 ⟨rfl, (List.forall_mem_cons.2 ⟨rfl, (List.forall_mem_cons.2 ⟨rfl, (fun _ h => nomatch h)⟩)⟩)⟩)) ?_
        intro w40 h41
        have hk43 := h41.kp
        have h42 : El (α := staff_Load) A21 w40 b37 0 x32 := h41.el hA ⟨[.int .i64 x32.calls], _, rfl, rfl, ⟨[.int .i64 x32.length], _, rfl, rfl, rfl⟩⟩
        have ht44 := Kp.tr hk43 hA hB
        replace hH := Hp.kp hH hk43
        replace h_l := Sl.tr h_l ht44
        replace h6 := El.tr h6 ht44
        replace h35 := El.tr h35 ht44
        replace hK := Tr.trans hK ht44
        replace hr12 := Tr.trans hr12 ht44
        replace hB := Nat.le_trans hB ht44.ex.size
        replace hA := ht44.new
        refine V_to (fun _ _ => rfl) ?_
        refine C_seq ?_
        refine C_region ?_
        obtain ⟨h45, _⟩ := El_staff_Load h42
        refine V_y (Y_loadA h45 Try.isAgg23 Try.sizeOf23 rfl) rfl rfl rfl ?_
        obtain ⟨x46, hx46, h24⟩ := Option.bind_eq_some_iff.1 h24
        refine V_call Try.call13 rfl rfl rfl rfl (staff_checkLoad_c w40 hA x32 hx46) ?_
        rintro _ w47 ⟨rfl, hk48⟩
        have ht49 := Kp.tr hk48 hA hB
        replace hH := Hp.kp hH hk48
        replace h_l := Sl.tr h_l ht49
        replace h6 := El.tr h6 ht49
        replace h42 := El.tr h42 ht49
        replace hK := Tr.trans hK ht49
        replace hr12 := Tr.trans hr12 ht49
        replace hB := Nat.le_trans hB ht49.ex.size
        replace hA := ht49.new
        refine V_y (Y_assign rfl) rfl rfl rfl ?_
        refine V_to (fun _ _ => rfl) ?_
        refine C_seq ?_
        refine C_region ?_
        refine V_y (Y_move rfl) rfl rfl rfl ?_
        refine V_y (Y_neq rfl rfl) rfl rfl rfl ?_
        refine V_to (fun _ _ => rfl) ?_
        refine C_cond rfl (fun hc50 => ?_) (fun hc50 => ?_)
        · rw [if_pos hc50] at h24
          refine C_seq ?_
          refine C_region ?_
          refine V_y (Y_move rfl) rfl rfl rfl ?_
          refine V_y (Y_assign rfl) rfl rfl rfl ?_
          refine V_y (Y_assign rfl) rfl rfl rfl ?_
          refine V_to (fun _ _ => rfl) ?_
          obtain rfl := Option.some.inj h24
          obtain rfl := (h25 : Lp.rt _ = _)
          rw [Lp.andThen_rt] at hm
          obtain rfl := Option.some.inj hm
          replace hH : Hp w.heap.size A21 w47 (obS (α := Int) 3 (.slice none 0 0) ([] : (List Int)) :: []) := Hp.addNil (α := Int) (e := 3) hH
          refine C_ret ?_
          try simp only [↓inBlock_ret, ↓then_ret]
          exact retQ rfl (Res.two Try.results9 rfl rfl) ⟨.slice none 0 0, rfl, (Hp.ownd hH (i := 0) rfl), hK.kp⟩
        · rw [if_neg (nt hc50)] at h24
          refine C_skip_to (fun _ _ => rfl) ?_
          refine C_region ?_
          refine V_y (Y_addI rfl rfl) rfl rfl rfl ?_
          refine V_y (Y_move rfl) rfl rfl rfl ?_
          obtain rfl := Option.some.inj h24
          refine V_end (fun a ha51 => ?_)
          exact ⟨(), hlt27, h25, ⟨A21, ha51.sub ⟨rfl, rfl, rfl, rfl, (congrArg (fun z => some (Value.int .i64 z)) (w64_succ hlt27 hn30)), trivial⟩, ⟨hH, hr12⟩⟩⟩
      · refine C_exit (fun a ha52 => ?_)
        exact ⟨((), A21), ha52.sub ⟨rfl, rfl, trivial⟩, ⟨(h28 (eq_of_dec hle26 hc31)).symm, hH, hr12⟩⟩
    rintro ⟨s11, A17⟩ w14 ⟨rfl, hH18, hk15⟩ a ha16
    rw [Lp.andThen_fin] at hm
    replace h_l := Sl.tr h_l hk15
    replace h6 := El.tr h6 hk15
    replace hK := Tr.trans hK hk15
    replace hB := Nat.le_trans hB hk15.ex.size
    replace hA := hk15.new
    replace hH : Hp w.heap.size A17 w14 ([]) := hH18
    refine C_at (n := ⟨56, [], none⟩) (fun _ _ => rfl) ?_ ha16
    refine C_seq ?_
    refine C_seq ?_
    refine C_region ?_
    obtain ⟨h54, _⟩ := El_staff_Promise h6
    refine V_y (Y_loadA h54 Try.isAgg25 Try.sizeOf25 rfl) rfl rfl rfl ?_
    obtain ⟨x55, hx55, hm⟩ := Option.bind_eq_some_iff.1 hm
    refine V_call Try.call15 rfl rfl rfl rfl (staff_checkPromise_c w14 hA p hx55) ?_
    rintro _ w56 ⟨rfl, hk57⟩
    have ht58 := Kp.tr hk57 hA hB
    replace hH := Hp.kp hH hk57
    replace h_l := Sl.tr h_l ht58
    replace h6 := El.tr h6 ht58
    replace hK := Tr.trans hK ht58
    replace hB := Nat.le_trans hB ht58.ex.size
    replace hA := ht58.new
    refine V_y (Y_assign rfl) rfl rfl rfl ?_
    refine V_to (fun _ _ => rfl) ?_
    refine C_seq ?_
    refine C_region ?_
    refine V_y (Y_move rfl) rfl rfl rfl ?_
    refine V_y (Y_neq rfl rfl) rfl rfl rfl ?_
    refine V_to (fun _ _ => rfl) ?_
    refine C_cond rfl (fun hc59 => ?_) (fun hc59 => ?_)
    · rw [if_pos hc59] at hm
      refine C_seq ?_
      refine C_region ?_
      refine V_y (Y_move rfl) rfl rfl rfl ?_
      refine V_y (Y_assign rfl) rfl rfl rfl ?_
      refine V_y (Y_assign rfl) rfl rfl rfl ?_
      refine V_to (fun _ _ => rfl) ?_
      obtain rfl := Option.some.inj hm
      replace hH : Hp w.heap.size A17 w56 (obS (α := Int) 3 (.slice none 0 0) ([] : (List Int)) :: []) := Hp.addNil (α := Int) (e := 3) hH
      refine C_ret ?_
      try simp only [↓inBlock_ret, ↓then_ret]
      exact retQ rfl (Res.two Try.results9 rfl rfl) ⟨.slice none 0 0, rfl, (Hp.ownd hH (i := 0) rfl), hK.kp⟩
    · rw [if_neg (nt hc59)] at hm
      refine C_skip_to (fun _ _ => rfl) ?_
      refine C_seq ?_
      refine C_region ?_
      refine V_y (Y_assign rfl) rfl rfl rfl ?_
      refine V_to (fun _ _ => rfl) ?_
      refine C_seq ?_
      refine C_seq ?_
      refine C_region ?_
      refine V_y (Y_move rfl) rfl rfl rfl ?_
      refine V_y (Y_lenSl h_l rfl Try.underlying32 rfl) rfl rfl rfl ?_
      refine V_y (Y_move rfl) rfl rfl rfl ?_
      refine V_to (fun _ _ => rfl) ?_
      replace hH : Hp w.heap.size A17 w56 (obS (α := Int) 3 (.slice none 0 0) ([] : (List Int)) :: []) := Hp.addNil (α := Int) (e := 3) hH
      have hn85 := Sl.le h_l
      obtain ⟨o60, ho60, hm⟩ := Option.bind_eq_some_iff.1 hm
      refine C_cutG (ι := ((List Int) × Value × (Nat → Prop))) (fun ⟨s61, v68, A70⟩ => [(10, v68)]) (fun ⟨s61, v68, A70⟩ => fun w' => o60 = .fin s61 ∧ Hp w.heap.size A70 w' (obS (α := Int) 3 v68 s61 :: []) ∧ Tr w.heap.size A17 w56 A70 w') ?_ ?_
      · refine C_block ?_
        refine C_range ho60 (fun k63 s72 a w' => ∃ i : (Value × (Nat → Prop)), Has ⟨56, [], none⟩ a ([(3, .pointer (some ⟨b3, 0, none⟩)), (10, i.1), (35, v_l), (36, .int .i64 (l.length : Int)), (37, .int .i64 (k63 : Int))]) ∧ Hp w.heap.size i.2 w' (obS (α := Int) 3 i.1 s72 :: []) ∧ Tr w.heap.size A17 w56 i.2 w') (fun a ha => ⟨(.slice none 0 0, A17), ha.sub ⟨rfl, rfl, rfl, rfl, rfl, trivial⟩, ⟨hH, Tr.refl hA⟩⟩) ?_
        rintro K k63 s72 a w73 ⟨⟨v74, A76⟩, ha120, hH77, hr62⟩ hle81 K84 h83
        refine C_of ?_ ha120
        replace h6 := El.tr h6 hr62
        replace h_l := Sl.tr h_l hr62
        replace hK := Tr.trans hK hr62
        replace hB := Nat.le_trans hB hr62.ex.size
        replace hA := hr62.new
        replace hH : Hp w.heap.size A76 w73 (obS (α := Int) 3 v74 s72 :: []) := hH77
        refine C_seq (C_region (V_y (Y_lss rfl rfl) rfl rfl rfl (V_to (fun _ _ => rfl) ?_)))
        refine C_seq ?_
        refine C_cond rfl (fun hc86 => ?_) (fun hc86 => ?_)
        · have hlt82 := lt_of_dec hc86
          obtain ⟨x78, h79, h80⟩ := K84 hlt82
          refine C_skip_to (fun _ _ => rfl) ?_
          refine C_seq ?_
          refine C_block ?_
          refine C_seq ?_
          refine C_region ?_
          obtain ⟨x87, hx87, h79⟩ := Option.bind_eq_some_iff.1 h79
          refine V_indexAddr h_l hx87 Try.underlying32 Try.sizeOf23 rfl rfl rfl ?_
          intro b88 o89 h90
          obtain ⟨h91, _⟩ := El_staff_Load h90
          refine V_y (Y_loadA h91 Try.isAgg23 Try.sizeOf23 rfl) rfl rfl rfl ?_
          refine V_alloc Try.zeroValue23 rfl ?_
          intro b92 w93 h94
          refine V_storeNew h94 Try.sizeOf23 rfl rfl rfl rfl (by exact (List.forall_mem_cons.2 ⟨rfl, (List.forall_mem_cons.2 ⟨rfl, (List.forall_mem_cons.2 ⟨rfl, (fun _ h => nomatch h)⟩)⟩)⟩)) ?_
          intro w95 h96
          have hk98 := h96.kp
          have h97 : El (α := staff_Load) A76 w95 b92 0 x87 := h96.el hA ⟨[.int .i64 x87.calls], _, rfl, rfl, ⟨[.int .i64 x87.length], _, rfl, rfl, rfl⟩⟩
          have ht99 := Kp.tr hk98 hA hB
          replace hH := Hp.kp hH hk98
          replace h6 := El.tr h6 ht99
          replace h_l := Sl.tr h_l ht99
          replace h90 := El.tr h90 ht99
          replace hK := Tr.trans hK ht99
          replace hr62 := Tr.trans hr62 ht99
          replace hB := Nat.le_trans hB ht99.ex.size
          replace hA := ht99.new
          refine V_to (fun _ _ => rfl) ?_
          refine C_seq ?_
          refine C_region ?_
          obtain ⟨h100, _⟩ := El_staff_Load h97
          refine V_y (Y_loadA h100 Try.isAgg23 Try.sizeOf23 rfl) rfl rfl rfl ?_
          obtain ⟨h101, _⟩ := El_staff_Promise h6
          refine V_y (Y_loadA h101 Try.isAgg25 Try.sizeOf25 rfl) rfl rfl rfl ?_
          obtain ⟨x102, hx102, h79⟩ := Option.bind_eq_some_iff.1 h79
          refine V_call Try.call7 rfl rfl rfl rfl (staff_Staff_c w95 hA x87 p hx102) ?_
          rintro _ w103 ⟨rfl, hk104⟩
          have ht105 := Kp.tr hk104 hA hB
          replace hH := Hp.kp hH hk104
          replace h6 := El.tr h6 ht105
          replace h_l := Sl.tr h_l ht105
          replace h97 := El.tr h97 ht105
          replace hK := Tr.trans hK ht105
          replace hr62 := Tr.trans hr62 ht105
          replace hB := Nat.le_trans hB ht105.ex.size
          replace hA := ht105.new
          refine V_y (Y_move rfl) rfl rfl rfl ?_
          refine V_y (Y_extract rfl rfl) rfl rfl rfl ?_
          refine V_y (Y_extract rfl rfl) rfl rfl rfl ?_
          refine V_y (Y_assign rfl) rfl rfl rfl ?_
          refine V_y (Y_assign rfl) rfl rfl rfl ?_
          refine V_to (fun _ _ => rfl) ?_
          refine C_seq ?_
          refine C_seq ?_
          refine C_region ?_
          refine V_y (Y_move rfl) rfl rfl rfl ?_
          refine V_y (Y_neq rfl rfl) rfl rfl rfl ?_
          refine V_to (fun _ _ => rfl) ?_
          refine C_cond rfl (fun hc106 => ?_) (fun hc106 => ?_)
          · rw [if_pos hc106] at h79
            refine C_seq ?_
            refine C_region ?_
            refine V_y (Y_move rfl) rfl rfl rfl ?_
            refine V_y (Y_assign rfl) rfl rfl rfl ?_
            refine V_y (Y_assign rfl) rfl rfl rfl ?_
            refine V_to (fun _ _ => rfl) ?_
            obtain rfl := Option.some.inj h79
            obtain rfl := (h80 : Lp.rt _ = _)
            rw [Lp.andThen_rt] at hm
            obtain rfl := Option.some.inj hm
            replace hH : Hp w.heap.size A76 w103 (obS (α := Int) 3 (.slice none 0 0) ([] : (List Int)) :: obS (α := Int) 3 v74 s72 :: []) := Hp.addNil (α := Int) (e := 3) hH
            refine C_ret ?_
            try simp only [↓inBlock_ret, ↓then_ret]
            exact retQ rfl (Res.two Try.results9 rfl rfl) ⟨.slice none 0 0, rfl, (Hp.ownd hH (i := 0) rfl), hK.kp⟩
          · rw [if_neg (nt hc106)] at h79
            refine C_skip_to (fun _ _ => rfl) ?_
            refine C_region ?_
            refine V_y (Y_move rfl) rfl rfl rfl ?_
            refine V_y (Y_move rfl) rfl rfl rfl ?_
            refine V_buildSlice (l := ([x102.1] : List Int)) (len := 1) Try.underlying33 Try.sizeOf3 Try.zeroValue3 rfl (by with_unfolding_all rfl) (by decide) (by decide) hA ⟨[.int .i64 x102.1], _, rfl, rfl, rfl⟩ rfl rfl ?_
            intro v107 w108 hk110 h109
            have ht111 := Kp.tr hk110 hA hB
            replace hH := Hp.kp hH hk110
            replace h6 := El.tr h6 ht111
            replace h_l := Sl.tr h_l ht111
            replace hK := Tr.trans hK ht111
            replace hr62 := Tr.trans hr62 ht111
            replace hB := Nat.le_trans hB ht111.ex.size
            replace hA := ht111.new
            obtain ⟨x112, hx112, h79⟩ := Option.bind_eq_some_iff.1 h79
            refine V_appendH (e := 3) (v := v74) (l := s72) (ti := Try.t3) (bytes := 8) (lim := 17592186044416) hH (i := 0) rfl h109 hx112 Try.underlying33 Try_info3 rfl rfl rfl rfl (by decide) (by decide) (by decide) hB hA rfl rfl rfl ?_
            intro v113 w114 A115 hH116 ht117
            replace h6 := El.tr h6 ht117
            replace h_l := Sl.tr h_l ht117
            replace h109 := Sl.tr h109 ht117
            replace hK := Tr.trans hK ht117
            replace hr62 := Tr.trans hr62 ht117
            replace hB := Nat.le_trans hB ht117.ex.size
            replace hA := ht117.new
            replace hH : Hp w.heap.size A115 w114 (obS (α := Int) 3 v113 x112 :: []) := hH116
            refine V_y (Y_assign rfl) rfl rfl rfl ?_
            refine V_to (fun _ _ => rfl) ?_
            refine C_region ?_
            refine V_y (Y_addI rfl rfl) rfl rfl rfl ?_
            refine V_y (Y_move rfl) rfl rfl rfl ?_
            obtain rfl := Option.some.inj h79
            refine V_end (fun a ha118 => ?_)
            exact ⟨x112, hlt82, h80, ⟨(v113, A115), ha118.sub ⟨rfl, rfl, rfl, rfl, (congrArg (fun z => some (Value.int .i64 z)) (w64_succ hlt82 hn85)), trivial⟩, ⟨hH, hr62⟩⟩⟩
        · refine C_exit (fun a ha119 => ?_)
          exact ⟨(s72, v74, A76), ha119.sub ⟨rfl, trivial⟩, ⟨(h83 (eq_of_dec hle81 hc86)).symm, hH, hr62⟩⟩
      rintro ⟨s61, v68, A70⟩ w65 ⟨rfl, hH71, hk66⟩ a ha67
      rw [Lp.andThen_fin] at hm
      replace hK := Tr.trans hK hk66
      replace hB := Nat.le_trans hB hk66.ex.size
      replace hA := hk66.new
      replace hH : Hp w.heap.size A70 w65 (obS (α := Int) 3 v68 s61 :: []) := hH71
      refine C_at (n := ⟨56, [], none⟩) (fun _ _ => rfl) ?_ ha67
      refine C_seq ?_
      refine C_region ?_
      refine V_y (Y_move rfl) rfl rfl rfl ?_
      refine V_y (Y_assign rfl) rfl rfl rfl ?_
      refine V_y (Y_assign rfl) rfl rfl rfl ?_
      refine V_to (fun _ _ => rfl) ?_
      obtain rfl := Option.some.inj hm
      refine C_ret ?_
      try simp only [↓inBlock_ret, ↓then_ret]
      exact retQ rfl (Res.two Try.results9 rfl rfl) ⟨v68, rfl, (Hp.ownd hH (i := 0) rfl), hK.kp⟩

set_option maxRecDepth 4000 in
set_option maxHeartbeats 4000000 in
theorem portref2_LoadFault_c (w : World) {A : Nat → Prop} (hA : ∀ b, w.heap.size ≤ b → A b) (l : staff_Load) {r : Int} (hm : portref2_LoadFault l = some r) : Ret Try.prog 20 #[.agg #[.int .i64 l.calls, .int .i64 l.length, .int .i64 l.span]] w fun v w' => v = .int .i64 r ∧ Kp w w' := by
  unfold portref2_LoadFault at hm
  refine enter Try.func20 rfl Try.ntmps20 rfl ?_
  have hA0 := hA
  have hB := Nat.le_refl w.heap.size
  have hK : Tr w.heap.size A w A w := Tr.refl hA
  have hH : Hp w.heap.size A w [] := Hp.nil
  refine C_seq ?_
  refine C_region ?_
  refine V_box rfl rfl ?_
  intro b1 w2 h3
  have hk5 := h3.kp
  have h4 : El (α := staff_Load) A w2 b1 0 l := h3.el hA ⟨[.int .i64 l.calls], _, rfl, rfl, ⟨[.int .i64 l.length], _, rfl, rfl, rfl⟩⟩
  have ht6 := Kp.tr hk5 hA hB
  replace hH := Hp.kp hH hk5
  replace hK := Tr.trans hK ht6
  replace hB := Nat.le_trans hB ht6.ex.size
  replace hA := ht6.new
  refine V_y (Y_assign rfl) rfl rfl rfl ?_
  refine V_to (fun _ _ => rfl) ?_
  refine C_seq ?_
  refine C_seq ?_
  refine C_region ?_
  have h7 := El_staff_Load_0 h4
  refine V_y (Y_fieldAddr Try.underlying23 rfl Try.sizeOf3 (by decide) rfl) rfl rfl rfl ?_
  refine V_y (Y_load (El.int h7) Try.isAgg3 rfl) rfl rfl rfl ?_
  refine V_y (Y_lss rfl rfl) rfl rfl rfl ?_
  refine V_y (Y_move rfl) rfl rfl rfl ?_
  refine V_cut 4 (fun _ : Unit => [(1, .pointer (some ⟨b1, 0, none⟩)), (10, .bool ((decide (l.calls < 0)) || (decide ((100000 : Int) < l.calls))))]) (fun _ w' => w2 = w') ?_ ?_
  · simp only [List.take, List.drop]
    rcases Bool.eq_false_or_eq_true (decide (l.calls < 0)) with hc8 | hc8
    · refine V_gn rfl rfl rfl hc8 rfl rfl rfl ?_
      refine V_gn rfl rfl rfl hc8 rfl rfl rfl ?_
      refine V_gn rfl rfl rfl hc8 rfl rfl rfl ?_
      refine V_y (Y_pick_te rfl hc8 rfl) rfl rfl rfl ?_
      exact V_end fun a ha => ⟨(), ha.sub ⟨rfl, (by rw [hc8]; rfl), trivial⟩, rfl⟩
    · refine V_ge rfl rfl rfl hc8 ?_
      have h10 := El_staff_Load_0 h4
      refine V_y (Y_fieldAddr Try.underlying23 rfl Try.sizeOf3 (by decide) rfl) rfl rfl rfl ?_
      refine V_ge rfl rfl rfl hc8 ?_
      refine V_y (Y_load (El.int h10) Try.isAgg3 rfl) rfl rfl rfl ?_
      refine V_ge rfl rfl rfl hc8 ?_
      refine V_y (Y_gtr rfl rfl) rfl rfl rfl ?_
      refine V_y (Y_pick_fe rfl hc8 rfl) rfl rfl rfl ?_
      exact V_end fun a ha => ⟨(), ha.sub ⟨rfl, (by rw [hc8]; rfl), trivial⟩, rfl⟩
  simp only [List.take, List.drop]
  rintro _ _ rfl
  refine V_y (Y_move rfl) rfl rfl rfl ?_
  refine V_cut 4 (fun _ : Unit => [(1, .pointer (some ⟨b1, 0, none⟩)), (15, .bool (((decide (l.calls < 0)) || (decide ((100000 : Int) < l.calls))) || (decide (l.length < 1))))]) (fun _ w' => w2 = w') ?_ ?_
  · simp only [List.take, List.drop]
    rcases Bool.eq_false_or_eq_true (((decide (l.calls < 0)) || (decide ((100000 : Int) < l.calls)))) with hc11 | hc11
    · refine V_gn rfl rfl rfl hc11 rfl rfl rfl ?_
      refine V_gn rfl rfl rfl hc11 rfl rfl rfl ?_
      refine V_gn rfl rfl rfl hc11 rfl rfl rfl ?_
      refine V_y (Y_pick_te rfl hc11 rfl) rfl rfl rfl ?_
      exact V_end fun a ha => ⟨(), ha.sub ⟨rfl, (by rw [hc11]; rfl), trivial⟩, rfl⟩
    · refine V_ge rfl rfl rfl hc11 ?_
      have h13 := El_staff_Load_1 h4
      refine V_y (Y_fieldAddr Try.underlying23 rfl Try.sizeOf3 (by decide) rfl) rfl rfl rfl ?_
      refine V_ge rfl rfl rfl hc11 ?_
      refine V_y (Y_load (El.int h13) Try.isAgg3 rfl) rfl rfl rfl ?_
      refine V_ge rfl rfl rfl hc11 ?_
      refine V_y (Y_lss rfl rfl) rfl rfl rfl ?_
      refine V_y (Y_pick_fe rfl hc11 rfl) rfl rfl rfl ?_
      exact V_end fun a ha => ⟨(), ha.sub ⟨rfl, (by rw [hc11]; rfl), trivial⟩, rfl⟩
  simp only [List.take, List.drop]
  rintro _ _ rfl
  refine V_y (Y_move rfl) rfl rfl rfl ?_
  refine V_cut 4 (fun _ : Unit => [(1, .pointer (some ⟨b1, 0, none⟩)), (20, .bool ((((decide (l.calls < 0)) || (decide ((100000 : Int) < l.calls))) || (decide (l.length < 1))) || (decide ((1440 : Int) < l.length))))]) (fun _ w' => w2 = w') ?_ ?_
  · simp only [List.take, List.drop]
    rcases Bool.eq_false_or_eq_true ((((decide (l.calls < 0)) || (decide ((100000 : Int) < l.calls))) || (decide (l.length < 1)))) with hc14 | hc14
    · refine V_gn rfl rfl rfl hc14 rfl rfl rfl ?_
      refine V_gn rfl rfl rfl hc14 rfl rfl rfl ?_
      refine V_gn rfl rfl rfl hc14 rfl rfl rfl ?_
      refine V_y (Y_pick_te rfl hc14 rfl) rfl rfl rfl ?_
      exact V_end fun a ha => ⟨(), ha.sub ⟨rfl, (by rw [hc14]; rfl), trivial⟩, rfl⟩
    · refine V_ge rfl rfl rfl hc14 ?_
      have h16 := El_staff_Load_1 h4
      refine V_y (Y_fieldAddr Try.underlying23 rfl Try.sizeOf3 (by decide) rfl) rfl rfl rfl ?_
      refine V_ge rfl rfl rfl hc14 ?_
      refine V_y (Y_load (El.int h16) Try.isAgg3 rfl) rfl rfl rfl ?_
      refine V_ge rfl rfl rfl hc14 ?_
      refine V_y (Y_gtr rfl rfl) rfl rfl rfl ?_
      refine V_y (Y_pick_fe rfl hc14 rfl) rfl rfl rfl ?_
      exact V_end fun a ha => ⟨(), ha.sub ⟨rfl, (by rw [hc14]; rfl), trivial⟩, rfl⟩
  simp only [List.take, List.drop]
  rintro _ _ rfl
  refine V_y (Y_move rfl) rfl rfl rfl ?_
  refine V_cut 4 (fun _ : Unit => [(1, .pointer (some ⟨b1, 0, none⟩)), (25, .bool (((((decide (l.calls < 0)) || (decide ((100000 : Int) < l.calls))) || (decide (l.length < 1))) || (decide ((1440 : Int) < l.length))) || (decide (l.span < 1))))]) (fun _ w' => w2 = w') ?_ ?_
  · simp only [List.take, List.drop]
    rcases Bool.eq_false_or_eq_true (((((decide (l.calls < 0)) || (decide ((100000 : Int) < l.calls))) || (decide (l.length < 1))) || (decide ((1440 : Int) < l.length)))) with hc17 | hc17
    · refine V_gn rfl rfl rfl hc17 rfl rfl rfl ?_
      refine V_gn rfl rfl rfl hc17 rfl rfl rfl ?_
      refine V_gn rfl rfl rfl hc17 rfl rfl rfl ?_
      refine V_y (Y_pick_te rfl hc17 rfl) rfl rfl rfl ?_
      exact V_end fun a ha => ⟨(), ha.sub ⟨rfl, (by rw [hc17]; rfl), trivial⟩, rfl⟩
    · refine V_ge rfl rfl rfl hc17 ?_
      have h19 := El_staff_Load_2 h4
      refine V_y (Y_fieldAddr Try.underlying23 rfl Try.sizeOf3 (by decide) rfl) rfl rfl rfl ?_
      refine V_ge rfl rfl rfl hc17 ?_
      refine V_y (Y_load (El.int h19) Try.isAgg3 rfl) rfl rfl rfl ?_
      refine V_ge rfl rfl rfl hc17 ?_
      refine V_y (Y_lss rfl rfl) rfl rfl rfl ?_
      refine V_y (Y_pick_fe rfl hc17 rfl) rfl rfl rfl ?_
      exact V_end fun a ha => ⟨(), ha.sub ⟨rfl, (by rw [hc17]; rfl), trivial⟩, rfl⟩
  simp only [List.take, List.drop]
  rintro _ _ rfl
  refine V_y (Y_move rfl) rfl rfl rfl ?_
  refine V_cut 4 (fun _ : Unit => [(30, .bool ((((((decide (l.calls < 0)) || (decide ((100000 : Int) < l.calls))) || (decide (l.length < 1))) || (decide ((1440 : Int) < l.length))) || (decide (l.span < 1))) || (decide ((10080 : Int) < l.span))))]) (fun _ w' => w2 = w') ?_ ?_
  · simp only [List.take, List.drop]
    rcases Bool.eq_false_or_eq_true ((((((decide (l.calls < 0)) || (decide ((100000 : Int) < l.calls))) || (decide (l.length < 1))) || (decide ((1440 : Int) < l.length))) || (decide (l.span < 1)))) with hc20 | hc20
    · refine V_gn rfl rfl rfl hc20 rfl rfl rfl ?_
      refine V_gn rfl rfl rfl hc20 rfl rfl rfl ?_
      refine V_gn rfl rfl rfl hc20 rfl rfl rfl ?_
      refine V_y (Y_pick_te rfl hc20 rfl) rfl rfl rfl ?_
      exact V_end fun a ha => ⟨(), ha.sub ⟨(by rw [hc20]; rfl), trivial⟩, rfl⟩
    · refine V_ge rfl rfl rfl hc20 ?_
      have h22 := El_staff_Load_2 h4
      refine V_y (Y_fieldAddr Try.underlying23 rfl Try.sizeOf3 (by decide) rfl) rfl rfl rfl ?_
      refine V_ge rfl rfl rfl hc20 ?_
      refine V_y (Y_load (El.int h22) Try.isAgg3 rfl) rfl rfl rfl ?_
      refine V_ge rfl rfl rfl hc20 ?_
      refine V_y (Y_gtr rfl rfl) rfl rfl rfl ?_
      refine V_y (Y_pick_fe rfl hc20 rfl) rfl rfl rfl ?_
      exact V_end fun a ha => ⟨(), ha.sub ⟨(by rw [hc20]; rfl), trivial⟩, rfl⟩
  simp only [List.take, List.drop]
  rintro _ _ rfl
  refine V_to (fun _ _ => rfl) ?_
  refine C_cond rfl (fun hc23 => ?_) (fun hc23 => ?_)
  · rw [if_pos hc23] at hm
    refine C_seq ?_
    refine C_region ?_
    refine V_y (Y_assign rfl) rfl rfl rfl ?_
    refine V_to (fun _ _ => rfl) ?_
    obtain rfl := Option.some.inj hm
    refine C_ret ?_
    try simp only [↓inBlock_ret, ↓then_ret]
    exact retQ rfl (Res.one Try.results20 rfl) ⟨rfl, hK.kp⟩
  · rw [if_neg (nt hc23)] at hm
    refine C_skip_to (fun _ _ => rfl) ?_
    refine C_seq ?_
    refine C_region ?_
    refine V_y (Y_assign rfl) rfl rfl rfl ?_
    refine V_to (fun _ _ => rfl) ?_
    obtain rfl := Option.some.inj hm
    refine C_ret ?_
    try simp only [↓inBlock_ret, ↓then_ret]
    exact retQ rfl (Res.one Try.results20 rfl) ⟨rfl, hK.kp⟩

set_option maxRecDepth 4000 in
set_option maxHeartbeats 4000000 in
theorem portref2_PromiseFault_c (w : World) {A : Nat → Prop} (hA : ∀ b, w.heap.size ≤ b → A b) (p : staff_Promise) {r : Int} (hm : portref2_PromiseFault p = some r) : Ret Try.prog 18 #[.agg #[.int .i64 p.share, .int .i64 p.of, .int .i64 p.wait, .int .i64 p.parts]] w fun v w' => v = .int .i64 r ∧ Kp w w' := by
  unfold portref2_PromiseFault at hm
  refine enter Try.func18 rfl Try.ntmps18 rfl ?_
  have hA0 := hA
  have hB := Nat.le_refl w.heap.size
  have hK : Tr w.heap.size A w A w := Tr.refl hA
  have hH : Hp w.heap.size A w [] := Hp.nil
  refine C_seq ?_
  refine C_region ?_
  refine V_box rfl rfl ?_
  intro b1 w2 h3
  have hk5 := h3.kp
  have h4 : El (α := staff_Promise) A w2 b1 0 p := h3.el hA ⟨[.int .i64 p.share], _, rfl, rfl, ⟨[.int .i64 p.of], _, rfl, rfl, ⟨[.int .i64 p.wait], _, rfl, rfl, rfl⟩⟩⟩
  have ht6 := Kp.tr hk5 hA hB
  replace hH := Hp.kp hH hk5
  replace hK := Tr.trans hK ht6
  replace hB := Nat.le_trans hB ht6.ex.size
  replace hA := ht6.new
  refine V_y (Y_assign rfl) rfl rfl rfl ?_
  refine V_to (fun _ _ => rfl) ?_
  refine C_seq ?_
  refine C_seq ?_
  refine C_region ?_
  have h7 := El_staff_Promise_1 h4
  refine V_y (Y_fieldAddr Try.underlying25 rfl Try.sizeOf3 (by decide) rfl) rfl rfl rfl ?_
  refine V_y (Y_load (El.int h7) Try.isAgg3 rfl) rfl rfl rfl ?_
  refine V_y (Y_lss rfl rfl) rfl rfl rfl ?_
  refine V_y (Y_move rfl) rfl rfl rfl ?_
  refine V_cut 4 (fun _ : Unit => [(1, .pointer (some ⟨b1, 0, none⟩)), (10, .bool ((decide (p.of < 1)) || (decide ((1000000 : Int) < p.of))))]) (fun _ w' => w2 = w') ?_ ?_
  · simp only [List.take, List.drop]
    rcases Bool.eq_false_or_eq_true (decide (p.of < 1)) with hc8 | hc8
    · refine V_gn rfl rfl rfl hc8 rfl rfl rfl ?_
      refine V_gn rfl rfl rfl hc8 rfl rfl rfl ?_
      refine V_gn rfl rfl rfl hc8 rfl rfl rfl ?_
      refine V_y (Y_pick_te rfl hc8 rfl) rfl rfl rfl ?_
      exact V_end fun a ha => ⟨(), ha.sub ⟨rfl, (by rw [hc8]; rfl), trivial⟩, rfl⟩
    · refine V_ge rfl rfl rfl hc8 ?_
      have h10 := El_staff_Promise_1 h4
      refine V_y (Y_fieldAddr Try.underlying25 rfl Try.sizeOf3 (by decide) rfl) rfl rfl rfl ?_
      refine V_ge rfl rfl rfl hc8 ?_
      refine V_y (Y_load (El.int h10) Try.isAgg3 rfl) rfl rfl rfl ?_
      refine V_ge rfl rfl rfl hc8 ?_
      refine V_y (Y_gtr rfl rfl) rfl rfl rfl ?_
      refine V_y (Y_pick_fe rfl hc8 rfl) rfl rfl rfl ?_
      exact V_end fun a ha => ⟨(), ha.sub ⟨rfl, (by rw [hc8]; rfl), trivial⟩, rfl⟩
  simp only [List.take, List.drop]
  rintro _ _ rfl
  refine V_y (Y_move rfl) rfl rfl rfl ?_
  refine V_cut 4 (fun _ : Unit => [(1, .pointer (some ⟨b1, 0, none⟩)), (15, .bool (((decide (p.of < 1)) || (decide ((1000000 : Int) < p.of))) || (decide (p.share < 0))))]) (fun _ w' => w2 = w') ?_ ?_
  · simp only [List.take, List.drop]
    rcases Bool.eq_false_or_eq_true (((decide (p.of < 1)) || (decide ((1000000 : Int) < p.of)))) with hc11 | hc11
    · refine V_gn rfl rfl rfl hc11 rfl rfl rfl ?_
      refine V_gn rfl rfl rfl hc11 rfl rfl rfl ?_
      refine V_gn rfl rfl rfl hc11 rfl rfl rfl ?_
      refine V_y (Y_pick_te rfl hc11 rfl) rfl rfl rfl ?_
      exact V_end fun a ha => ⟨(), ha.sub ⟨rfl, (by rw [hc11]; rfl), trivial⟩, rfl⟩
    · refine V_ge rfl rfl rfl hc11 ?_
      have h13 := El_staff_Promise_0 h4
      refine V_y (Y_fieldAddr Try.underlying25 rfl Try.sizeOf3 (by decide) rfl) rfl rfl rfl ?_
      refine V_ge rfl rfl rfl hc11 ?_
      refine V_y (Y_load (El.int h13) Try.isAgg3 rfl) rfl rfl rfl ?_
      refine V_ge rfl rfl rfl hc11 ?_
      refine V_y (Y_lss rfl rfl) rfl rfl rfl ?_
      refine V_y (Y_pick_fe rfl hc11 rfl) rfl rfl rfl ?_
      exact V_end fun a ha => ⟨(), ha.sub ⟨rfl, (by rw [hc11]; rfl), trivial⟩, rfl⟩
  simp only [List.take, List.drop]
  rintro _ _ rfl
  refine V_y (Y_move rfl) rfl rfl rfl ?_
  refine V_cut 6 (fun _ : Unit => [(1, .pointer (some ⟨b1, 0, none⟩)), (22, .bool ((((decide (p.of < 1)) || (decide ((1000000 : Int) < p.of))) || (decide (p.share < 0))) || (decide (p.of < p.share))))]) (fun _ w' => w2 = w') ?_ ?_
  · simp only [List.take, List.drop]
    rcases Bool.eq_false_or_eq_true ((((decide (p.of < 1)) || (decide ((1000000 : Int) < p.of))) || (decide (p.share < 0)))) with hc14 | hc14
    · refine V_gn rfl rfl rfl hc14 rfl rfl rfl ?_
      refine V_gn rfl rfl rfl hc14 rfl rfl rfl ?_
      refine V_gn rfl rfl rfl hc14 rfl rfl rfl ?_
      refine V_gn rfl rfl rfl hc14 rfl rfl rfl ?_
      refine V_gn rfl rfl rfl hc14 rfl rfl rfl ?_
      refine V_y (Y_pick_te rfl hc14 rfl) rfl rfl rfl ?_
      exact V_end fun a ha => ⟨(), ha.sub ⟨rfl, (by rw [hc14]; rfl), trivial⟩, rfl⟩
    · refine V_ge rfl rfl rfl hc14 ?_
      have h16 := El_staff_Promise_0 h4
      refine V_y (Y_fieldAddr Try.underlying25 rfl Try.sizeOf3 (by decide) rfl) rfl rfl rfl ?_
      refine V_ge rfl rfl rfl hc14 ?_
      refine V_y (Y_load (El.int h16) Try.isAgg3 rfl) rfl rfl rfl ?_
      refine V_ge rfl rfl rfl hc14 ?_
      have h17 := El_staff_Promise_1 h4
      refine V_y (Y_fieldAddr Try.underlying25 rfl Try.sizeOf3 (by decide) rfl) rfl rfl rfl ?_
      refine V_ge rfl rfl rfl hc14 ?_
      refine V_y (Y_load (El.int h17) Try.isAgg3 rfl) rfl rfl rfl ?_
      refine V_ge rfl rfl rfl hc14 ?_
      refine V_y (Y_gtr rfl rfl) rfl rfl rfl ?_
      refine V_y (Y_pick_fe rfl hc14 rfl) rfl rfl rfl ?_
      exact V_end fun a ha => ⟨(), ha.sub ⟨rfl, (by rw [hc14]; rfl), trivial⟩, rfl⟩
  simp only [List.take, List.drop]
  rintro _ _ rfl
  refine V_y (Y_move rfl) rfl rfl rfl ?_
  refine V_cut 4 (fun _ : Unit => [(1, .pointer (some ⟨b1, 0, none⟩)), (27, .bool (((((decide (p.of < 1)) || (decide ((1000000 : Int) < p.of))) || (decide (p.share < 0))) || (decide (p.of < p.share))) || (decide (p.wait < 0))))]) (fun _ w' => w2 = w') ?_ ?_
  · simp only [List.take, List.drop]
    rcases Bool.eq_false_or_eq_true (((((decide (p.of < 1)) || (decide ((1000000 : Int) < p.of))) || (decide (p.share < 0))) || (decide (p.of < p.share)))) with hc18 | hc18
    · refine V_gn rfl rfl rfl hc18 rfl rfl rfl ?_
      refine V_gn rfl rfl rfl hc18 rfl rfl rfl ?_
      refine V_gn rfl rfl rfl hc18 rfl rfl rfl ?_
      refine V_y (Y_pick_te rfl hc18 rfl) rfl rfl rfl ?_
      exact V_end fun a ha => ⟨(), ha.sub ⟨rfl, (by rw [hc18]; rfl), trivial⟩, rfl⟩
    · refine V_ge rfl rfl rfl hc18 ?_
      have h20 := El_staff_Promise_2 h4
      refine V_y (Y_fieldAddr Try.underlying25 rfl Try.sizeOf3 (by decide) rfl) rfl rfl rfl ?_
      refine V_ge rfl rfl rfl hc18 ?_
      refine V_y (Y_load (El.int h20) Try.isAgg3 rfl) rfl rfl rfl ?_
      refine V_ge rfl rfl rfl hc18 ?_
      refine V_y (Y_lss rfl rfl) rfl rfl rfl ?_
      refine V_y (Y_pick_fe rfl hc18 rfl) rfl rfl rfl ?_
      exact V_end fun a ha => ⟨(), ha.sub ⟨rfl, (by rw [hc18]; rfl), trivial⟩, rfl⟩
  simp only [List.take, List.drop]
  rintro _ _ rfl
  refine V_y (Y_move rfl) rfl rfl rfl ?_
  refine V_cut 4 (fun _ : Unit => [(1, .pointer (some ⟨b1, 0, none⟩)), (32, .bool ((((((decide (p.of < 1)) || (decide ((1000000 : Int) < p.of))) || (decide (p.share < 0))) || (decide (p.of < p.share))) || (decide (p.wait < 0))) || (decide ((1000000 : Int) < p.wait))))]) (fun _ w' => w2 = w') ?_ ?_
  · simp only [List.take, List.drop]
    rcases Bool.eq_false_or_eq_true ((((((decide (p.of < 1)) || (decide ((1000000 : Int) < p.of))) || (decide (p.share < 0))) || (decide (p.of < p.share))) || (decide (p.wait < 0)))) with hc21 | hc21
    · refine V_gn rfl rfl rfl hc21 rfl rfl rfl ?_
      refine V_gn rfl rfl rfl hc21 rfl rfl rfl ?_
      refine V_gn rfl rfl rfl hc21 rfl rfl rfl ?_
      refine V_y (Y_pick_te rfl hc21 rfl) rfl rfl rfl ?_
      exact V_end fun a ha => ⟨(), ha.sub ⟨rfl, (by rw [hc21]; rfl), trivial⟩, rfl⟩
    · refine V_ge rfl rfl rfl hc21 ?_
      have h23 := El_staff_Promise_2 h4
      refine V_y (Y_fieldAddr Try.underlying25 rfl Try.sizeOf3 (by decide) rfl) rfl rfl rfl ?_
      refine V_ge rfl rfl rfl hc21 ?_
      refine V_y (Y_load (El.int h23) Try.isAgg3 rfl) rfl rfl rfl ?_
      refine V_ge rfl rfl rfl hc21 ?_
      refine V_y (Y_gtr rfl rfl) rfl rfl rfl ?_
      refine V_y (Y_pick_fe rfl hc21 rfl) rfl rfl rfl ?_
      exact V_end fun a ha => ⟨(), ha.sub ⟨rfl, (by rw [hc21]; rfl), trivial⟩, rfl⟩
  simp only [List.take, List.drop]
  rintro _ _ rfl
  refine V_y (Y_move rfl) rfl rfl rfl ?_
  refine V_cut 4 (fun _ : Unit => [(1, .pointer (some ⟨b1, 0, none⟩)), (37, .bool (((((((decide (p.of < 1)) || (decide ((1000000 : Int) < p.of))) || (decide (p.share < 0))) || (decide (p.of < p.share))) || (decide (p.wait < 0))) || (decide ((1000000 : Int) < p.wait))) || (decide (p.parts < 1))))]) (fun _ w' => w2 = w') ?_ ?_
  · simp only [List.take, List.drop]
    rcases Bool.eq_false_or_eq_true (((((((decide (p.of < 1)) || (decide ((1000000 : Int) < p.of))) || (decide (p.share < 0))) || (decide (p.of < p.share))) || (decide (p.wait < 0))) || (decide ((1000000 : Int) < p.wait)))) with hc24 | hc24
    · refine V_gn rfl rfl rfl hc24 rfl rfl rfl ?_
      refine V_gn rfl rfl rfl hc24 rfl rfl rfl ?_
      refine V_gn rfl rfl rfl hc24 rfl rfl rfl ?_
      refine V_y (Y_pick_te rfl hc24 rfl) rfl rfl rfl ?_
      exact V_end fun a ha => ⟨(), ha.sub ⟨rfl, (by rw [hc24]; rfl), trivial⟩, rfl⟩
    · refine V_ge rfl rfl rfl hc24 ?_
      have h26 := El_staff_Promise_3 h4
      refine V_y (Y_fieldAddr Try.underlying25 rfl Try.sizeOf3 (by decide) rfl) rfl rfl rfl ?_
      refine V_ge rfl rfl rfl hc24 ?_
      refine V_y (Y_load (El.int h26) Try.isAgg3 rfl) rfl rfl rfl ?_
      refine V_ge rfl rfl rfl hc24 ?_
      refine V_y (Y_lss rfl rfl) rfl rfl rfl ?_
      refine V_y (Y_pick_fe rfl hc24 rfl) rfl rfl rfl ?_
      exact V_end fun a ha => ⟨(), ha.sub ⟨rfl, (by rw [hc24]; rfl), trivial⟩, rfl⟩
  simp only [List.take, List.drop]
  rintro _ _ rfl
  refine V_y (Y_move rfl) rfl rfl rfl ?_
  refine V_cut 4 (fun _ : Unit => [(42, .bool ((((((((decide (p.of < 1)) || (decide ((1000000 : Int) < p.of))) || (decide (p.share < 0))) || (decide (p.of < p.share))) || (decide (p.wait < 0))) || (decide ((1000000 : Int) < p.wait))) || (decide (p.parts < 1))) || (decide ((1000000 : Int) < p.parts))))]) (fun _ w' => w2 = w') ?_ ?_
  · simp only [List.take, List.drop]
    rcases Bool.eq_false_or_eq_true ((((((((decide (p.of < 1)) || (decide ((1000000 : Int) < p.of))) || (decide (p.share < 0))) || (decide (p.of < p.share))) || (decide (p.wait < 0))) || (decide ((1000000 : Int) < p.wait))) || (decide (p.parts < 1)))) with hc27 | hc27
    · refine V_gn rfl rfl rfl hc27 rfl rfl rfl ?_
      refine V_gn rfl rfl rfl hc27 rfl rfl rfl ?_
      refine V_gn rfl rfl rfl hc27 rfl rfl rfl ?_
      refine V_y (Y_pick_te rfl hc27 rfl) rfl rfl rfl ?_
      exact V_end fun a ha => ⟨(), ha.sub ⟨(by rw [hc27]; rfl), trivial⟩, rfl⟩
    · refine V_ge rfl rfl rfl hc27 ?_
      have h29 := El_staff_Promise_3 h4
      refine V_y (Y_fieldAddr Try.underlying25 rfl Try.sizeOf3 (by decide) rfl) rfl rfl rfl ?_
      refine V_ge rfl rfl rfl hc27 ?_
      refine V_y (Y_load (El.int h29) Try.isAgg3 rfl) rfl rfl rfl ?_
      refine V_ge rfl rfl rfl hc27 ?_
      refine V_y (Y_gtr rfl rfl) rfl rfl rfl ?_
      refine V_y (Y_pick_fe rfl hc27 rfl) rfl rfl rfl ?_
      exact V_end fun a ha => ⟨(), ha.sub ⟨(by rw [hc27]; rfl), trivial⟩, rfl⟩
  simp only [List.take, List.drop]
  rintro _ _ rfl
  refine V_to (fun _ _ => rfl) ?_
  refine C_cond rfl (fun hc30 => ?_) (fun hc30 => ?_)
  · rw [if_pos hc30] at hm
    refine C_seq ?_
    refine C_region ?_
    refine V_y (Y_assign rfl) rfl rfl rfl ?_
    refine V_to (fun _ _ => rfl) ?_
    obtain rfl := Option.some.inj hm
    refine C_ret ?_
    try simp only [↓inBlock_ret, ↓then_ret]
    exact retQ rfl (Res.one Try.results18 rfl) ⟨rfl, hK.kp⟩
  · rw [if_neg (nt hc30)] at hm
    refine C_skip_to (fun _ _ => rfl) ?_
    refine C_seq ?_
    refine C_region ?_
    refine V_y (Y_assign rfl) rfl rfl rfl ?_
    refine V_to (fun _ _ => rfl) ?_
    obtain rfl := Option.some.inj hm
    refine C_ret ?_
    try simp only [↓inBlock_ret, ↓then_ret]
    exact retQ rfl (Res.one Try.results18 rfl) ⟨rfl, hK.kp⟩

set_option maxRecDepth 4000 in
set_option maxHeartbeats 4000000 in
theorem portref2_whole_trim_c (w : World) {A : Nat → Prop} (a_ : (List UInt32)) (v_a_ : Value) (h_a_ : Sl A w v_a_ a_) {r : (List UInt32)} (hm : portref2_whole_trim a_ = some r) : Ret Try.prog 50 #[v_a_] w fun v w' => ∃ s0, v = s0 ∧ Sl A w' s0 r ∧ w = w' := by
  unfold portref2_whole_trim at hm
  refine enter Try.func50 rfl Try.ntmps50 rfl ?_
  refine C_seq ?_
  refine C_region ?_
  refine V_y (Y_assign rfl) rfl rfl rfl ?_
  refine V_to (fun _ _ => rfl) ?_
  refine C_seq ?_
  obtain ⟨o3, ho3, hm⟩ := Option.bind_eq_some_iff.1 hm
  refine C_cutG (ι := ((List UInt32) × Value)) (fun ⟨s4, v10⟩ => [(0, v10)]) (fun ⟨s4, v10⟩ => fun w' => o3 = .fin s4 ∧ Sl A w' v10 s4 ∧ w = w') ?_ ?_
  · refine C_block ?_
    refine C_while ho3 (fun s12 a w' => ∃ i : Value, Has ⟨21, [], none⟩ a ([(0, i)]) ∧ Sl A w' i s12 ∧ w = w') (fun a ha => ⟨v_a_, ha.sub ⟨rfl, trivial⟩, ⟨h_a_, rfl⟩⟩) ?_
    rintro K s12 a _ ⟨v14, ha35, h15, rfl⟩ K22
    refine C_of ?_ ha35
    obtain ⟨x16, h17, h18⟩ := K22
    refine C_seq ?_
    refine C_seq ?_
    refine C_region ?_
    refine V_y (Y_move rfl) rfl rfl rfl ?_
    refine V_y (Y_lenSl h15 rfl Try.underlying56 rfl) rfl rfl rfl ?_
    refine V_y (Y_gtr rfl rfl) rfl rfl rfl ?_
    refine V_y (Y_move rfl) rfl rfl rfl ?_
    obtain ⟨s24, hs24, h17⟩ := Option.bind_eq_some_iff.1 h17
    refine V_cut 8 (fun _ : Unit => [(0, v14), (14, .bool s24)]) (fun _ w' => w = w') ?_ ?_
    · simp only [List.take, List.drop]
      rcases Bool.eq_false_or_eq_true (decide ((0 : Int) < (s12.length : Int))) with hc23 | hc23
      · rw [if_pos hc23] at hs24
        refine V_ge rfl rfl rfl hc23 ?_
        refine V_y (Y_move rfl) rfl rfl rfl ?_
        refine V_ge rfl rfl rfl hc23 ?_
        refine V_y (Y_move rfl) rfl rfl rfl ?_
        refine V_ge rfl rfl rfl hc23 ?_
        refine V_y (Y_lenSl h15 rfl Try.underlying56 rfl) rfl rfl rfl ?_
        refine V_ge rfl rfl rfl hc23 ?_
        refine V_y (Y_subI rfl rfl) rfl rfl rfl ?_
        refine V_ge rfl rfl rfl hc23 ?_
        obtain ⟨x25, hx25, hs24⟩ := Option.bind_eq_some_iff.1 hs24
        refine V_indexAddr h15 hx25 Try.underlying56 Try.sizeOf77 rfl rfl rfl ?_
        intro b26 o27 h28
        refine V_ge rfl rfl rfl hc23 ?_
        refine V_y (Y_load (El.u32 h28) Try.isAgg77 rfl) rfl rfl rfl ?_
        refine V_ge rfl rfl rfl hc23 ?_
        refine V_y (Y_eql rfl rfl) rfl rfl rfl ?_
        refine V_y (Y_pick_te rfl hc23 rfl) rfl rfl rfl ?_
        obtain rfl := Option.some.inj hs24
        exact V_end fun a ha => ⟨(), ha.sub ⟨rfl, rfl, trivial⟩, rfl⟩
      · rw [if_neg (nt hc23)] at hs24
        refine V_gn rfl rfl rfl hc23 rfl rfl rfl ?_
        refine V_gn rfl rfl rfl hc23 rfl rfl rfl ?_
        refine V_gn rfl rfl rfl hc23 rfl rfl rfl ?_
        refine V_gn rfl rfl rfl hc23 rfl rfl rfl ?_
        refine V_gn rfl rfl rfl hc23 rfl rfl rfl ?_
        refine V_gn rfl rfl rfl hc23 rfl rfl rfl ?_
        refine V_gn rfl rfl rfl hc23 rfl rfl rfl ?_
        refine V_y (Y_pick_fe rfl hc23 rfl) rfl rfl rfl ?_
        obtain rfl := Option.some.inj hs24
        exact V_end fun a ha => ⟨(), ha.sub ⟨rfl, rfl, trivial⟩, rfl⟩
    simp only [List.take, List.drop]
    rintro _ _ rfl
    refine V_to (fun _ _ => rfl) ?_
    refine C_cond rfl (fun hc29 => ?_) (fun hc29 => ?_)
    · rw [if_pos hc29] at h17
      refine C_skip_to (fun _ _ => rfl) ?_
      refine C_block ?_
      refine C_region ?_
      refine V_y (Y_move rfl) rfl rfl rfl ?_
      refine V_y (Y_move rfl) rfl rfl rfl ?_
      refine V_y (Y_lenSl h15 rfl Try.underlying56 rfl) rfl rfl rfl ?_
      refine V_y (Y_subI rfl rfl) rfl rfl rfl ?_
      obtain ⟨x30, hx30, h17⟩ := Option.bind_eq_some_iff.1 h17
      obtain ⟨v31, h32, h32y⟩ := sliceL_val hx30 h15
      refine V_y (Y_sliceLH h32y Try.underlying56 Try.sizeOf77 rfl rfl) rfl rfl rfl ?_
      refine V_y (Y_assign rfl) rfl rfl rfl ?_
      obtain rfl := Option.some.inj h17
      refine V_end (fun a ha33 => ?_)
      exact ⟨x30, h18, ⟨v31, ha33.sub ⟨rfl, trivial⟩, ⟨h32, rfl⟩⟩⟩
    · rw [if_neg (nt hc29)] at h17
      obtain rfl := Option.some.inj h17
      refine C_exit (fun a ha34 => ?_)
      exact ⟨(s12, v14), ha34.sub ⟨rfl, trivial⟩, ⟨h18.symm, h15, rfl⟩⟩
  rintro ⟨s4, v10⟩ _ ⟨rfl, h11, rfl⟩ a ha9
  rw [Lp.andThen_fin] at hm
  refine C_at (n := ⟨21, [], none⟩) (fun _ _ => rfl) ?_ ha9
  refine C_seq ?_
  refine C_region ?_
  refine V_y (Y_move rfl) rfl rfl rfl ?_
  refine V_y (Y_assign rfl) rfl rfl rfl ?_
  refine V_to (fun _ _ => rfl) ?_
  obtain rfl := Option.some.inj hm
  refine C_ret ?_
  try simp only [↓inBlock_ret, ↓then_ret]
  exact retQ rfl (Res.one Try.results50 rfl) ⟨v10, rfl, h11, rfl⟩

set_option maxRecDepth 4000 in
set_option maxHeartbeats 4000000 in
theorem portref2_wholeOf_c (w : World) {A : Nat → Prop} (hA : ∀ b, w.heap.size ≤ b → A b) (n : Int) {r : (List UInt32)} (hm : portref2_wholeOf n = some r) : Ret Try.prog 46 #[.int .i64 n] w fun v w' => ∃ s0, v = s0 ∧ Sl A w' s0 r ∧ Kp w w' := by
  unfold portref2_wholeOf at hm
  refine enter Try.func46 rfl Try.ntmps46 rfl ?_
  have hA0 := hA
  have hB := Nat.le_refl w.heap.size
  have hK : Tr w.heap.size A w A w := Tr.refl hA
  have hH : Hp w.heap.size A w [] := Hp.nil
  refine C_seq ?_
  refine C_region ?_
  refine V_y (Y_assign rfl) rfl rfl rfl ?_
  refine V_to (fun _ _ => rfl) ?_
  refine C_seq ?_
  refine C_region ?_
  refine V_y (Y_move rfl) rfl rfl rfl ?_
  refine V_y (Y_convU32 Try.underlying3 Try.underlying77 rfl) rfl rfl rfl ?_
  refine V_y (Y_move rfl) rfl rfl rfl ?_
  obtain ⟨x1, hx1, hm⟩ := Option.bind_eq_some_iff.1 hm
  refine V_y (Y_shr hx1 rfl rfl) rfl rfl rfl ?_
  refine V_y (Y_convU32 Try.underlying3 Try.underlying77 rfl) rfl rfl rfl ?_
  refine V_buildSlice (l := ([(toU32 n), (toU32 x1)] : List UInt32)) (len := 2) Try.underlying56 Try.sizeOf77 Try.zeroValue77 rfl (by with_unfolding_all rfl) (by decide) (by decide) hA ⟨[.int .u32 ((toU32 n).toNat : Int)], _, rfl, rfl, ⟨[.int .u32 ((toU32 x1).toNat : Int)], _, rfl, rfl, rfl⟩⟩ rfl rfl ?_
  intro v2 w3 hk5 h4
  have ht6 := Kp.tr hk5 hA hB
  replace hH := Hp.kp hH hk5
  replace hK := Tr.trans hK ht6
  replace hB := Nat.le_trans hB ht6.ex.size
  replace hA := ht6.new
  obtain ⟨x7, hx7, hm⟩ := Option.bind_eq_some_iff.1 hm
  refine V_call Try.call50 rfl rfl rfl rfl (portref2_whole_trim_c w3 ([(toU32 n), (toU32 x1)] : List UInt32) v2 h4 hx7) ?_
  rintro v8 _ ⟨_, rfl, h9, rfl⟩
  refine V_y (Y_assign rfl) rfl rfl rfl ?_
  refine V_to (fun _ _ => rfl) ?_
  obtain rfl := Option.some.inj hm
  refine C_ret ?_
  try simp only [↓inBlock_ret, ↓then_ret]
  exact retQ rfl (Res.one Try.results46 rfl) ⟨v8, rfl, (Sl.out h9 hA0 hK), hK.kp⟩

set_option maxRecDepth 4000 in
set_option maxHeartbeats 4000000 in
theorem portref2_whole_cmp_c (w : World) {A : Nat → Prop} (hA : ∀ b, w.heap.size ≤ b → A b) (a_ : (List UInt32)) (v_a_ : Value) (h_a_ : Sl A w v_a_ a_) (b : (List UInt32)) (v_b : Value) (h_b : Sl A w v_b b) {r : Int} (hm : portref2_whole_cmp a_ b = some r) : Ret Try.prog 44 #[v_a_, v_b] w fun v w' => v = .int .i64 r ∧ Kp w w' := by
  unfold portref2_whole_cmp at hm
  refine enter Try.func44 rfl Try.ntmps44 rfl ?_
  have hA0 := hA
  have hB := Nat.le_refl w.heap.size
  have hK : Tr w.heap.size A w A w := Tr.refl hA
  have hH : Hp w.heap.size A w [] := Hp.nil
  refine C_seq ?_
  refine C_region ?_
  refine V_y (Y_assign rfl) rfl rfl rfl ?_
  refine V_to (fun _ _ => rfl) ?_
  refine C_seq ?_
  refine C_seq ?_
  refine C_region ?_
  refine V_y (Y_move rfl) rfl rfl rfl ?_
  refine V_y (Y_lenSl h_a_ rfl Try.underlying56 rfl) rfl rfl rfl ?_
  refine V_y (Y_move rfl) rfl rfl rfl ?_
  refine V_y (Y_lenSl h_b rfl Try.underlying56 rfl) rfl rfl rfl ?_
  refine V_y (Y_neq rfl rfl) rfl rfl rfl ?_
  refine V_to (fun _ _ => rfl) ?_
  refine C_cond rfl (fun hc5 => ?_) (fun hc5 => ?_)
  · rw [if_pos hc5] at hm
    refine C_seq ?_
    refine C_seq ?_
    refine C_region ?_
    refine V_y (Y_move rfl) rfl rfl rfl ?_
    refine V_y (Y_lenSl h_a_ rfl Try.underlying56 rfl) rfl rfl rfl ?_
    refine V_y (Y_move rfl) rfl rfl rfl ?_
    refine V_y (Y_lenSl h_b rfl Try.underlying56 rfl) rfl rfl rfl ?_
    refine V_y (Y_lss rfl rfl) rfl rfl rfl ?_
    refine V_to (fun _ _ => rfl) ?_
    refine C_cond rfl (fun hc6 => ?_) (fun hc6 => ?_)
    · rw [if_pos hc6] at hm
      refine C_seq ?_
      refine C_region ?_
      refine V_y (Y_assign rfl) rfl rfl rfl ?_
      refine V_to (fun _ _ => rfl) ?_
      obtain rfl := Option.some.inj hm
      refine C_ret ?_
      try simp only [↓inBlock_ret, ↓then_ret]
      exact retQ rfl (Res.one Try.results44 rfl) ⟨rfl, hK.kp⟩
    · rw [if_neg (nt hc6)] at hm
      refine C_skip_to (fun _ _ => rfl) ?_
      refine C_seq ?_
      refine C_region ?_
      refine V_y (Y_assign rfl) rfl rfl rfl ?_
      refine V_to (fun _ _ => rfl) ?_
      obtain rfl := Option.some.inj hm
      refine C_ret ?_
      try simp only [↓inBlock_ret, ↓then_ret]
      exact retQ rfl (Res.one Try.results44 rfl) ⟨rfl, hK.kp⟩
  · rw [if_neg (nt hc5)] at hm
    refine C_skip_to (fun _ _ => rfl) ?_
    refine C_seq ?_
    refine C_seq ?_
    refine C_region ?_
    refine V_y (Y_move rfl) rfl rfl rfl ?_
    refine V_y (Y_lenSl h_a_ rfl Try.underlying56 rfl) rfl rfl rfl ?_
    refine V_y (Y_subI rfl rfl) rfl rfl rfl ?_
    refine V_y (Y_assign rfl) rfl rfl rfl ?_
    refine V_to (fun _ _ => rfl) ?_
    obtain ⟨o7, ho7, hm⟩ := Option.bind_eq_some_iff.1 hm
    refine C_cutG (ι := (Int × (Nat → Prop))) (fun ⟨s8, A14⟩ => []) (fun ⟨s8, A14⟩ => fun w' => o7 = .fin s8 ∧ Hp w.heap.size A14 w' ([]) ∧ Tr w.heap.size A w A14 w') ?_ ?_
    · refine C_block ?_
      refine C_while ho7 (fun s16 a w' => ∃ i : (Nat → Prop), Has ⟨41, [], none⟩ a ([(0, v_a_), (1, v_b), (5, .int .i64 s16)]) ∧ Hp w.heap.size i w' ([]) ∧ Tr w.heap.size A w i w') (fun a ha => ⟨A, ha.sub ⟨rfl, rfl, rfl, trivial⟩, ⟨hH, Tr.refl hA⟩⟩) ?_
      rintro K s16 a w17 ⟨A18, ha52, hH19, hr9⟩ K26
      refine C_of ?_ ha52
      replace h_a_ := Sl.tr h_a_ hr9
      replace h_b := Sl.tr h_b hr9
      replace hK := Tr.trans hK hr9
      replace hB := Nat.le_trans hB hr9.ex.size
      replace hA := hr9.new
      replace hH : Hp w.heap.size A18 w17 ([]) := hH19
      obtain ⟨x20, h21, h22⟩ := K26
      refine C_seq ?_
      refine C_seq ?_
      refine C_region ?_
      refine V_y (Y_move rfl) rfl rfl rfl ?_
      refine V_y (Y_geq rfl rfl) rfl rfl rfl ?_
      refine V_to (fun _ _ => rfl) ?_
      refine C_cond rfl (fun hc27 => ?_) (fun hc27 => ?_)
      · rw [if_pos hc27] at h21
        refine C_skip_to (fun _ _ => rfl) ?_
        refine C_seq ?_
        refine C_block ?_
        refine C_seq ?_
        refine C_region_q Try_mixed (by kernel_rfl) ?_
        refine VQ_y (fun w' hw' => Y_move rfl) rfl rfl rfl ?_
        refine VQ_y (fun w' hw' => Y_move rfl) rfl rfl rfl ?_
        obtain ⟨x28, hx28, h21⟩ := Option.bind_eq_some_iff.1 h21
        refine VQ_indexAddr h_a_ hx28 Try.underlying56 Try.sizeOf77 rfl rfl rfl ?_
        intro b29 o30 h31
        refine VQ_y (fun w' hw' => Y_load (El.u32 (El.kp h31 hw')) Try.isAgg77 rfl) rfl rfl rfl ?_
        refine VQ_y (fun w' hw' => Y_move rfl) rfl rfl rfl ?_
        refine VQ_y (fun w' hw' => Y_move rfl) rfl rfl rfl ?_
        obtain ⟨x32, hx32, h21⟩ := Option.bind_eq_some_iff.1 h21
        refine VQ_indexAddr h_b hx32 Try.underlying56 Try.sizeOf77 rfl rfl rfl ?_
        intro b33 o34 h35
        refine VQ_y (fun w' hw' => Y_load (El.u32 (El.kp h35 hw')) Try.isAgg77 rfl) rfl rfl rfl ?_
        refine VQ_y (fun w' hw' => Y_neq rfl rfl) rfl rfl rfl ?_
        refine VQ_to (fun _ _ => rfl) (fun w36 hk37 => ?_)
        have ht38 := Kp.tr hk37 hA hB
        replace hH := Hp.kp hH hk37
        replace h_a_ := Sl.tr h_a_ ht38
        replace h_b := Sl.tr h_b ht38
        replace hK := Tr.trans hK ht38
        replace hr9 := Tr.trans hr9 ht38
        replace hB := Nat.le_trans hB ht38.ex.size
        replace hA := ht38.new
        refine C_cond rfl (fun hc39 => ?_) (fun hc39 => ?_)
        · rw [if_pos hc39] at h21
          refine C_seq ?_
          refine C_seq ?_
          refine C_region_q Try_mixed (by kernel_rfl) ?_
          refine VQ_y (fun w' hw' => Y_move rfl) rfl rfl rfl ?_
          refine VQ_y (fun w' hw' => Y_move rfl) rfl rfl rfl ?_
          refine VQ_indexAddr h_a_ hx28 Try.underlying56 Try.sizeOf77 rfl rfl rfl ?_
          intro b40 o41 h42
          refine VQ_y (fun w' hw' => Y_load (El.u32 (El.kp h42 hw')) Try.isAgg77 rfl) rfl rfl rfl ?_
          refine VQ_y (fun w' hw' => Y_move rfl) rfl rfl rfl ?_
          refine VQ_y (fun w' hw' => Y_move rfl) rfl rfl rfl ?_
          refine VQ_indexAddr h_b hx32 Try.underlying56 Try.sizeOf77 rfl rfl rfl ?_
          intro b43 o44 h45
          refine VQ_y (fun w' hw' => Y_load (El.u32 (El.kp h45 hw')) Try.isAgg77 rfl) rfl rfl rfl ?_
          refine VQ_y (fun w' hw' => Y_lss rfl rfl) rfl rfl rfl ?_
          refine VQ_to (fun _ _ => rfl) (fun w46 hk47 => ?_)
          have ht48 := Kp.tr hk47 hA hB
          replace hH := Hp.kp hH hk47
          replace hK := Tr.trans hK ht48
          replace hr9 := Tr.trans hr9 ht48
          replace hB := Nat.le_trans hB ht48.ex.size
          replace hA := ht48.new
          refine C_cond rfl (fun hc49 => ?_) (fun hc49 => ?_)
          · rw [if_pos hc49] at h21
            refine C_seq ?_
            refine C_region ?_
            refine V_y (Y_assign rfl) rfl rfl rfl ?_
            refine V_to (fun _ _ => rfl) ?_
            obtain rfl := Option.some.inj h21
            obtain rfl := (h22 : Lp.rt _ = _)
            rw [Lp.andThen_rt] at hm
            obtain rfl := Option.some.inj hm
            refine C_ret ?_
            try simp only [↓inBlock_ret, ↓then_ret]
            exact retQ rfl (Res.one Try.results44 rfl) ⟨rfl, hK.kp⟩
          · rw [if_neg (nt hc49)] at h21
            refine C_skip_to (fun _ _ => rfl) ?_
            refine C_seq ?_
            refine C_region ?_
            refine V_y (Y_assign rfl) rfl rfl rfl ?_
            refine V_to (fun _ _ => rfl) ?_
            obtain rfl := Option.some.inj h21
            obtain rfl := (h22 : Lp.rt _ = _)
            rw [Lp.andThen_rt] at hm
            obtain rfl := Option.some.inj hm
            refine C_ret ?_
            try simp only [↓inBlock_ret, ↓then_ret]
            exact retQ rfl (Res.one Try.results44 rfl) ⟨rfl, hK.kp⟩
        · rw [if_neg (nt hc39)] at h21
          refine C_skip_to (fun _ _ => rfl) ?_
          refine C_region ?_
          refine V_y (Y_move rfl) rfl rfl rfl ?_
          refine V_y (Y_subI rfl rfl) rfl rfl rfl ?_
          refine V_y (Y_assign rfl) rfl rfl rfl ?_
          obtain rfl := Option.some.inj h21
          refine V_end (fun a ha50 => ?_)
          exact ⟨w64 (s16 - 1), h22, ⟨A18, ha50.sub ⟨rfl, rfl, rfl, trivial⟩, ⟨hH, hr9⟩⟩⟩
      · rw [if_neg (nt hc27)] at h21
        obtain rfl := Option.some.inj h21
        refine C_exit (fun a ha51 => ?_)
        exact ⟨(s16, A18), ha51.sub trivial, ⟨h22.symm, hH, hr9⟩⟩
    rintro ⟨s8, A14⟩ w11 ⟨rfl, hH15, hk12⟩ a ha13
    rw [Lp.andThen_fin] at hm
    replace hK := Tr.trans hK hk12
    replace hB := Nat.le_trans hB hk12.ex.size
    replace hA := hk12.new
    replace hH : Hp w.heap.size A14 w11 ([]) := hH15
    refine C_at (n := ⟨41, [], none⟩) (fun _ _ => rfl) ?_ ha13
    refine C_seq ?_
    refine C_region ?_
    refine V_y (Y_assign rfl) rfl rfl rfl ?_
    refine V_to (fun _ _ => rfl) ?_
    obtain rfl := Option.some.inj hm
    refine C_ret ?_
    try simp only [↓inBlock_ret, ↓then_ret]
    exact retQ rfl (Res.one Try.results44 rfl) ⟨rfl, hK.kp⟩

set_option maxRecDepth 4000 in
set_option maxHeartbeats 4000000 in
theorem math_bits_Len32_c (w : World) (x : Int) {r : Int} (hm : math_bits_Len32 x = some r) : Ret Try.prog 54 #[.int .u32 x] w fun v w' => v = .int .i64 r ∧ w = w' := by
  unfold math_bits_Len32 at hm
  refine enter Try.func54 rfl Try.ntmps54 rfl ?_
  refine C_seq ?_
  refine C_region ?_
  refine V_y (Y_assign rfl) rfl rfl rfl ?_
  refine V_to (fun _ _ => rfl) ?_
  refine C_seq ?_
  refine C_seq ?_
  refine C_region ?_
  refine V_y (Y_move rfl) rfl rfl rfl ?_
  refine V_y (Y_geq rfl rfl) rfl rfl rfl ?_
  refine V_to (fun _ _ => rfl) ?_
  obtain ⟨s2, ho1, hm⟩ := Option.bind_eq_some_iff.1 hm
  refine C_cutG (ι := Unit) (fun (_ : Unit) => [(0, .int .u32 s2.1), (2, .int .i64 s2.2)]) (fun (_ : Unit) => fun w' => w = w') ?_ ?_
  · refine C_cond rfl (fun hc7 => ?_) (fun hc7 => ?_)
    · rw [if_pos hc7] at ho1
      refine C_seq ?_
      refine C_region ?_
      refine V_y (Y_move rfl) rfl rfl rfl ?_
      obtain ⟨x8, hx8, ho1⟩ := Option.bind_eq_some_iff.1 ho1
      refine V_y (Y_shr hx8 rfl rfl) rfl rfl rfl ?_
      refine V_y (Y_assign rfl) rfl rfl rfl ?_
      refine V_to (fun _ _ => rfl) ?_
      refine C_region ?_
      refine V_y (Y_assign rfl) rfl rfl rfl ?_
      obtain rfl := Option.some.inj ho1
      refine V_end (fun a ha9 => ?_)
      exact ⟨(), ha9.sub ⟨rfl, rfl, trivial⟩, rfl⟩
    · rw [if_neg (nt hc7)] at ho1
      obtain rfl := Option.some.inj ho1
      refine C_skip (fun a ha10 => ?_)
      exact ⟨(), ha10.sub ⟨rfl, rfl, trivial⟩, rfl⟩
  rintro _ _ rfl a ha6
  refine C_at (n := ⟨19, [], none⟩) (fun _ _ => rfl) ?_ ha6
  refine C_seq ?_
  refine C_seq ?_
  refine C_region ?_
  refine V_y (Y_move rfl) rfl rfl rfl ?_
  refine V_y (Y_geq rfl rfl) rfl rfl rfl ?_
  refine V_to (fun _ _ => rfl) ?_
  obtain ⟨s12, ho11, hm⟩ := Option.bind_eq_some_iff.1 hm
  refine C_cutG (ι := Unit) (fun (_ : Unit) => [(0, .int .u32 s12.1), (2, .int .i64 s12.2)]) (fun (_ : Unit) => fun w' => w = w') ?_ ?_
  · refine C_cond rfl (fun hc17 => ?_) (fun hc17 => ?_)
    · rw [if_pos hc17] at ho11
      refine C_seq ?_
      refine C_region ?_
      refine V_y (Y_move rfl) rfl rfl rfl ?_
      obtain ⟨x18, hx18, ho11⟩ := Option.bind_eq_some_iff.1 ho11
      refine V_y (Y_shr hx18 rfl rfl) rfl rfl rfl ?_
      refine V_y (Y_assign rfl) rfl rfl rfl ?_
      refine V_to (fun _ _ => rfl) ?_
      refine C_region ?_
      refine V_y (Y_move rfl) rfl rfl rfl ?_
      refine V_y (Y_addI rfl rfl) rfl rfl rfl ?_
      refine V_y (Y_assign rfl) rfl rfl rfl ?_
      obtain rfl := Option.some.inj ho11
      refine V_end (fun a ha19 => ?_)
      exact ⟨(), ha19.sub ⟨rfl, rfl, trivial⟩, rfl⟩
    · rw [if_neg (nt hc17)] at ho11
      obtain rfl := Option.some.inj ho11
      refine C_skip (fun a ha20 => ?_)
      exact ⟨(), ha20.sub ⟨rfl, rfl, trivial⟩, rfl⟩
  rintro _ _ rfl a ha16
  refine C_at (n := ⟨19, [], none⟩) (fun _ _ => rfl) ?_ ha16
  refine C_seq ?_
  refine C_region ?_
  refine V_y (Y_move rfl) rfl rfl rfl ?_
  refine V_y (Y_move rfl) rfl rfl rfl ?_
  refine V_y (Y_convU8 Try.underlying77 Try.underlying5 rfl) rfl rfl rfl ?_
  obtain ⟨x21, hx21, hm⟩ := Option.bind_eq_some_iff.1 hm
  refine V_y (Y_indexS hx21 Try.underlying9 rfl rfl) rfl rfl rfl ?_
  refine V_y (Y_convI Try.underlying5 Try.underlying3 rfl) rfl rfl rfl ?_
  refine V_y (Y_addI rfl rfl) rfl rfl rfl ?_
  refine V_y (Y_assign rfl) rfl rfl rfl ?_
  refine V_to (fun _ _ => rfl) ?_
  obtain rfl := Option.some.inj hm
  refine C_ret ?_
  try simp only [↓inBlock_ret, ↓then_ret]
  exact retQ rfl (Res.one Try.results54 rfl) ⟨rfl, rfl⟩

set_option maxRecDepth 4000 in
set_option maxHeartbeats 4000000 in
theorem math_bits_LeadingZeros32_c (w : World) (x : Int) {r : Int} (hm : math_bits_LeadingZeros32 x = some r) : Ret Try.prog 52 #[.int .u32 x] w fun v w' => v = .int .i64 r ∧ w = w' := by
  unfold math_bits_LeadingZeros32 at hm
  refine enter Try.func52 rfl Try.ntmps52 rfl ?_
  refine C_seq ?_
  refine C_region ?_
  refine V_y (Y_assign rfl) rfl rfl rfl ?_
  refine V_to (fun _ _ => rfl) ?_
  refine C_seq ?_
  refine C_region ?_
  refine V_y (Y_move rfl) rfl rfl rfl ?_
  obtain ⟨x1, hx1, hm⟩ := Option.bind_eq_some_iff.1 hm
  refine V_call Try.call54 rfl rfl rfl rfl (math_bits_Len32_c w x hx1) ?_
  rintro _ _ ⟨rfl, rfl⟩
  refine V_y (Y_subI rfl rfl) rfl rfl rfl ?_
  refine V_y (Y_assign rfl) rfl rfl rfl ?_
  refine V_to (fun _ _ => rfl) ?_
  obtain rfl := Option.some.inj hm
  refine C_ret ?_
  try simp only [↓inBlock_ret, ↓then_ret]
  exact retQ rfl (Res.one Try.results52 rfl) ⟨rfl, rfl⟩

set_option maxRecDepth 4000 in
set_option maxHeartbeats 4000000 in
theorem portref2_whole_up_c (w : World) {A : Nat → Prop} (hA : ∀ b, w.heap.size ≤ b → A b) (a_ : (List UInt32)) (v_a_ : Value) (h_a_ : Sl A w v_a_ a_) (shift : Int) {r : (List UInt32)} (hm : portref2_whole_up a_ shift = some r) : Ret Try.prog 53 #[v_a_, .int .u64 shift] w fun v w' => ∃ s0, v = s0 ∧ Ownd 77 w w' s0 r ∧ Kp w w' := by
  unfold portref2_whole_up at hm
  refine enter Try.func53 rfl Try.ntmps53 rfl ?_
  have hA0 := hA
  have hB := Nat.le_refl w.heap.size
  have hK : Tr w.heap.size A w A w := Tr.refl hA
  have hH : Hp w.heap.size A w [] := Hp.nil
  refine C_seq ?_
  refine C_region ?_
  refine V_y (Y_assign rfl) rfl rfl rfl ?_
  refine V_to (fun _ _ => rfl) ?_
  refine C_seq ?_
  refine C_region ?_
  refine V_y (Y_move rfl) rfl rfl rfl ?_
  refine V_y (Y_lenSl h_a_ rfl Try.underlying56 rfl) rfl rfl rfl ?_
  refine V_y (Y_addI rfl rfl) rfl rfl rfl ?_
  obtain ⟨x3, hx3, hm⟩ := Option.bind_eq_some_iff.1 hm
  refine V_makeH (e := 77) (ti := Try.t77) hH hx3 (fun _ _ => rfl) Try.underlying56 Try_info77 rfl rfl rfl (by decide) (by decide) hB hA rfl rfl rfl ?_
  intro v4 w5 A6 hH7 ht8
  replace h_a_ := Sl.tr h_a_ ht8
  replace hK := Tr.trans hK ht8
  replace hB := Nat.le_trans hB ht8.ex.size
  replace hA := ht8.new
  replace hH : Hp w.heap.size A6 w5 (obS (α := UInt32) 77 v4 x3 :: []) := hH7
  refine V_y (Y_assign rfl) rfl rfl rfl ?_
  refine V_to (fun _ _ => rfl) ?_
  refine C_seq ?_
  refine C_seq ?_
  refine C_region ?_
  refine V_y (Y_move rfl) rfl rfl rfl ?_
  refine V_y (Y_lenSl h_a_ rfl Try.underlying56 rfl) rfl rfl rfl ?_
  refine V_y (Y_move rfl) rfl rfl rfl ?_
  refine V_to (fun _ _ => rfl) ?_
  have hn33 := Sl.le h_a_
  obtain ⟨o9, ho9, hm⟩ := Option.bind_eq_some_iff.1 hm
  refine C_cutG (ι := ((List UInt32) × Value × (Nat → Prop))) (fun ⟨s10, v16, A18⟩ => [(5, v16)]) (fun ⟨s10, v16, A18⟩ => fun w' => o9 = .fin s10 ∧ Hp w.heap.size A18 w' (obS (α := UInt32) 77 v16 s10 :: []) ∧ Tr w.heap.size A6 w5 A18 w') ?_ ?_
  · refine C_block ?_
    refine C_range ho9 (fun k12 s20 a w' => ∃ i : (Value × (Nat → Prop)), Has ⟨41, [], none⟩ a ([(0, v_a_), (1, .int .u64 shift), (5, i.1), (13, .int .i64 (a_.length : Int)), (14, .int .i64 (k12 : Int))]) ∧ Hp w.heap.size i.2 w' (obS (α := UInt32) 77 i.1 s20 :: []) ∧ Tr w.heap.size A6 w5 i.2 w') (fun a ha => ⟨(v4, A6), ha.sub ⟨rfl, rfl, rfl, rfl, rfl, trivial⟩, ⟨hH, Tr.refl hA⟩⟩) ?_
    rintro K k12 s20 a w21 ⟨⟨v22, A24⟩, ha65, hH25, hr11⟩ hle29 K32 h31
    refine C_of ?_ ha65
    replace h_a_ := Sl.tr h_a_ hr11
    replace hK := Tr.trans hK hr11
    replace hB := Nat.le_trans hB hr11.ex.size
    replace hA := hr11.new
    replace hH : Hp w.heap.size A24 w21 (obS (α := UInt32) 77 v22 s20 :: []) := hH25
    refine C_seq (C_region (V_y (Y_lss rfl rfl) rfl rfl rfl (V_to (fun _ _ => rfl) ?_)))
    refine C_seq ?_
    refine C_cond rfl (fun hc34 => ?_) (fun hc34 => ?_)
    · have hlt30 := lt_of_dec hc34
      obtain ⟨x26, h27, h28⟩ := K32 hlt30
      refine C_skip_to (fun _ _ => rfl) ?_
      refine C_seq ?_
      refine C_block ?_
      refine C_seq ?_
      refine C_region ?_
      refine V_y (Y_move rfl) rfl rfl rfl ?_
      refine V_y (Y_assign rfl) rfl rfl rfl ?_
      refine V_to (fun _ _ => rfl) ?_
      refine C_seq ?_
      refine C_region ?_
      refine V_y (Y_move rfl) rfl rfl rfl ?_
      refine V_y (Y_move rfl) rfl rfl rfl ?_
      obtain ⟨x35, hx35, h27⟩ := Option.bind_eq_some_iff.1 h27
      refine V_indexAddr h_a_ hx35 Try.underlying56 Try.sizeOf77 rfl rfl rfl ?_
      intro b36 o37 h38
      refine V_y (Y_load (El.u32 h38) Try.isAgg77 rfl) rfl rfl rfl ?_
      refine V_y (Y_convI Try.underlying77 Try.underlying76 rfl) rfl rfl rfl ?_
      refine V_y (Y_move rfl) rfl rfl rfl ?_
      obtain ⟨x39, hx39, h27⟩ := Option.bind_eq_some_iff.1 h27
      refine V_y (Y_shl hx39 rfl rfl) rfl rfl rfl ?_
      refine V_y (Y_assign rfl) rfl rfl rfl ?_
      refine V_to (fun _ _ => rfl) ?_
      refine C_seq ?_
      refine C_region ?_
      refine V_y (Y_move rfl) rfl rfl rfl ?_
      refine V_y (Y_move rfl) rfl rfl rfl ?_
      obtain ⟨x40, hx40, h27⟩ := Option.bind_eq_some_iff.1 h27
      refine V_indexAddrH (α := UInt32) (e := 77) (v := v22) (l := s20) hH (i := 0) rfl hx40 Try.underlying56 Try.sizeOf77 rfl rfl rfl ?_
      intro b41 o42 h43 hl44
      refine V_y (Y_load (El.u32 h43) Try.isAgg77 rfl) rfl rfl rfl ?_
      refine V_y (Y_move rfl) rfl rfl rfl ?_
      refine V_y (Y_convU32 Try.underlying76 Try.underlying77 rfl) rfl rfl rfl ?_
      refine V_y (Y_orW rfl rfl) rfl rfl rfl ?_
      refine V_indexAddrH (α := UInt32) (e := 77) (v := v22) (l := s20) hH (i := 0) rfl hx40 Try.underlying56 Try.sizeOf77 rfl rfl rfl ?_
      intro b45 o46 h47 hl48
      obtain ⟨x49, hx49, h27⟩ := Option.bind_eq_some_iff.1 h27
      refine V_storeH (α := UInt32) (e := 77) (v := v22) (l := s20) hH (i := 0) rfl hl48 hx49 rfl Try.sizeOf77 rfl hB hA rfl rfl ?_
      intro w50 hH51 ht52
      replace h_a_ := Sl.tr h_a_ ht52
      replace hK := Tr.trans hK ht52
      replace hr11 := Tr.trans hr11 ht52
      replace hB := Nat.le_trans hB ht52.ex.size
      replace hA := ht52.new
      replace hH : Hp w.heap.size A24 w50 (obS (α := UInt32) 77 v22 x49 :: []) := hH51
      refine V_to (fun _ _ => rfl) ?_
      refine C_region ?_
      refine V_y (Y_move rfl) rfl rfl rfl ?_
      refine V_y (Y_move rfl) rfl rfl rfl ?_
      refine V_y (Y_addI rfl rfl) rfl rfl rfl ?_
      refine V_y (Y_move rfl) rfl rfl rfl ?_
      obtain ⟨x53, hx53, h27⟩ := Option.bind_eq_some_iff.1 h27
      refine V_y (Y_shr hx53 rfl rfl) rfl rfl rfl ?_
      refine V_y (Y_convU32 Try.underlying76 Try.underlying77 rfl) rfl rfl rfl ?_
      obtain ⟨x54, hx54, h27⟩ := Option.bind_eq_some_iff.1 h27
      refine V_indexAddrH (α := UInt32) (e := 77) (v := v22) (l := x49) hH (i := 0) rfl hx54 Try.underlying56 Try.sizeOf77 rfl rfl rfl ?_
      intro b55 o56 h57 hl58
      obtain ⟨x59, hx59, h27⟩ := Option.bind_eq_some_iff.1 h27
      refine V_storeH (α := UInt32) (e := 77) (v := v22) (l := x49) hH (i := 0) rfl hl58 hx59 rfl Try.sizeOf77 rfl hB hA rfl rfl ?_
      intro w60 hH61 ht62
      replace h_a_ := Sl.tr h_a_ ht62
      replace hK := Tr.trans hK ht62
      replace hr11 := Tr.trans hr11 ht62
      replace hB := Nat.le_trans hB ht62.ex.size
      replace hA := ht62.new
      replace hH : Hp w.heap.size A24 w60 (obS (α := UInt32) 77 v22 x59 :: []) := hH61
      refine V_to (fun _ _ => rfl) ?_
      refine C_region ?_
      refine V_y (Y_addI rfl rfl) rfl rfl rfl ?_
      refine V_y (Y_move rfl) rfl rfl rfl ?_
      obtain rfl := Option.some.inj h27
      refine V_end (fun a ha63 => ?_)
      exact ⟨x59, hlt30, h28, ⟨(v22, A24), ha63.sub ⟨rfl, rfl, rfl, rfl, (congrArg (fun z => some (Value.int .i64 z)) (w64_succ hlt30 hn33)), trivial⟩, ⟨hH, hr11⟩⟩⟩
    · refine C_exit (fun a ha64 => ?_)
      exact ⟨(s20, v22, A24), ha64.sub ⟨rfl, trivial⟩, ⟨(h31 (eq_of_dec hle29 hc34)).symm, hH, hr11⟩⟩
  rintro ⟨s10, v16, A18⟩ w13 ⟨rfl, hH19, hk14⟩ a ha15
  rw [Lp.andThen_fin] at hm
  replace hK := Tr.trans hK hk14
  replace hB := Nat.le_trans hB hk14.ex.size
  replace hA := hk14.new
  replace hH : Hp w.heap.size A18 w13 (obS (α := UInt32) 77 v16 s10 :: []) := hH19
  refine C_at (n := ⟨41, [], none⟩) (fun _ _ => rfl) ?_ ha15
  refine C_seq ?_
  refine C_region ?_
  refine V_y (Y_move rfl) rfl rfl rfl ?_
  refine V_y (Y_assign rfl) rfl rfl rfl ?_
  refine V_to (fun _ _ => rfl) ?_
  obtain rfl := Option.some.inj hm
  refine C_ret ?_
  try simp only [↓inBlock_ret, ↓then_ret]
  exact retQ rfl (Res.one Try.results53 rfl) ⟨v16, rfl, (Hp.ownd hH (i := 0) rfl), hK.kp⟩

end Go.Proofs.Ytjjdbhfigpmciaa.W
