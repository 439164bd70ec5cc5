/-
  Written by program (gen.py) from the IR of the dump: each function computes its model.
-/
import Derived.Test.YtcehkbhloaeflaaDoorTopStaffedW0
namespace Go.Proofs.YtcehkbhloaeflaaDoor.W
open Go Go.RowKit Go.Pu Go.Gw Go.Proofs Go.Proofs.YtcehkbhloaeflaaDoor.M
set_option linter.unusedVariables false
set_option linter.unusedSimpArgs false

set_option maxRecDepth 4000 in
set_option maxHeartbeats 4000000 in
theorem staff_Load_keeps_c (w : World) {A : Nat → Prop} (hA : ∀ b, w.heap.size ≤ b → A b) (l : staff_Load) (p : staff_Promise) (n : Int) {r : Bool} (hm : staff_Load_keeps l p n = some r) : Ret Tryd.prog 21 #[.agg #[.int .i64 l.calls, .int .i64 l.length, .int .i64 l.span], .agg #[.int .i64 p.share, .int .i64 p.of, .int .i64 p.wait, .int .i64 p.parts], .int .i64 n] w fun v w' => v = .bool r ∧ Kp w w' := by
  unfold staff_Load_keeps at hm
  refine enter Tryd.func21 rfl Tryd.ntmps21 rfl ?_
  have hA0 := hA
  have hB := Nat.le_refl w.heap.size
  have hK : Tr w.heap.size A w A w := Tr.refl hA
  have hH : Hp w.heap.size A w [] := Hp.nil
  refine C_seq ?_
  refine C_region ?_
  refine V_box rfl rfl ?_
  intro b1 w2 h3
  have hk5 := h3.kp
  have h4 : El (α := staff_Load) A w2 b1 0 l := h3.el hA ⟨[.int .i64 l.calls], _, rfl, rfl, ⟨[.int .i64 l.length], _, rfl, rfl, rfl⟩⟩
  have ht6 := Kp.tr hk5 hA hB
  replace hH := Hp.kp hH hk5
  replace hK := Tr.trans hK ht6
  replace hB := Nat.le_trans hB ht6.ex.size
  replace hA := ht6.new
  refine V_box rfl rfl ?_
  intro b7 w9 h10
  have hk12 := h10.kp
  have h11 : El (α := staff_Promise) A w9 b7 0 p := h10.el hA ⟨[.int .i64 p.share], _, rfl, rfl, ⟨[.int .i64 p.of], _, rfl, rfl, ⟨[.int .i64 p.wait], _, rfl, rfl, rfl⟩⟩⟩
  have ht13 := Kp.tr hk12 hA hB
  replace hH := Hp.kp hH hk12
  replace h4 := El.tr h4 ht13
  replace hK := Tr.trans hK ht13
  replace hB := Nat.le_trans hB ht13.ex.size
  replace hA := ht13.new
  refine V_y (Y_assign rfl) rfl rfl rfl ?_
  refine V_to (fun _ _ => rfl) ?_
  refine C_seq ?_
  refine C_region ?_
  obtain ⟨h14, _⟩ := El_staff_Load h4
  refine V_y (Y_loadA h14 Tryd.isAgg34 Tryd.sizeOf34 rfl) rfl rfl rfl ?_
  refine V_y (Y_move rfl) rfl rfl rfl ?_
  obtain ⟨x15, hx15, hm⟩ := Option.bind_eq_some_iff.1 hm
  refine V_call Tryd.call28 rfl rfl rfl rfl (staff_Load_meanWait_c w9 hA l n hx15) ?_
  rintro _ w20 ⟨v16, v18, rfl, h17, h19, hk21⟩
  have ht22 := Kp.tr hk21 hA hB
  replace hH := Hp.kp hH hk21
  replace h4 := El.tr h4 ht22
  replace h11 := El.tr h11 ht22
  replace hK := Tr.trans hK ht22
  replace hB := Nat.le_trans hB ht22.ex.size
  replace hA := ht22.new
  refine V_y (Y_move rfl) rfl rfl rfl ?_
  refine V_y (Y_extract rfl rfl) rfl rfl rfl ?_
  refine V_y (Y_extract rfl rfl) rfl rfl rfl ?_
  refine V_alloc Tryd.zeroValue59 rfl ?_
  intro b23 w24 h25
  have h30 : (v16).oneCell' = true := by obtain ⟨_, _, e, _⟩ := Sl.form h17; rw [e]; rfl
  have h33 : (v18).oneCell' = true := by obtain ⟨_, _, e, _⟩ := Sl.form h19; rw [e]; rfl
  refine V_storeNew h25 Tryd.sizeOf59 rfl rfl rfl rfl (by exact (List.forall_mem_cons.2 ⟨h30, (List.forall_mem_cons.2 ⟨h33, (fun _ h => nomatch h)⟩)⟩)) ?_
  intro w26 h27
  have hk35 := h27.kp
  have h34 : El (α := staff_ratio) A w26 b23 0 x15.1 := h27.el hA ⟨[v16], _, rfl, ⟨_, rfl, h17⟩, ⟨_, rfl, h19⟩⟩
  have ht36 := Kp.tr hk35 hA hB
  replace hH := Hp.kp hH hk35
  replace h4 := El.tr h4 ht36
  replace h11 := El.tr h11 ht36
  replace h17 := Sl.tr h17 ht36
  replace h19 := Sl.tr h19 ht36
  replace hK := Tr.trans hK ht36
  replace hB := Nat.le_trans hB ht36.ex.size
  replace hA := ht36.new
  refine V_y (Y_assign rfl) rfl rfl rfl ?_
  refine V_to (fun _ _ => rfl) ?_
  refine C_seq ?_
  obtain ⟨s38, ho37, hm⟩ := Option.bind_eq_some_iff.1 hm
  refine C_cutG (ι := (Nat → Prop)) (fun (A43 : (Nat → Prop)) => [(6, .bool s38)]) (fun (A43 : (Nat → Prop)) => fun w' => Hp w.heap.size A43 w' ([]) ∧ Tr w.heap.size A w26 A43 w') ?_ ?_
  · have hr39 : Tr w.heap.size A w26 A w26 := Tr.refl hA
    refine C_region_ch A 28 [(1, 0), (1, 1), (1, 2), (1, 3), (1, 5), (1, 6), (1, 8), (1, 9), (2, 4), (2, 7), (2, 10), (1, 11), (2, 12), (1, 13), (1, 14), (1, 15), (0, 16), (1, 17), (0, 18), (1, 20), (0, 21), (2, 19), (2, 22), (1, 23), (2, 24), (1, 25), (1, 26), (1, 27)] Tryd_mixed (by kernel_rfl) (fun w45 hk46 => ?_)
    have ht47 := Kp.tr hk46 hA hB
    replace hH := Hp.kp hH hk46
    replace h4 := El.tr h4 ht47
    replace h11 := El.tr h11 ht47
    replace h34 := El.tr h34 ht47
    replace hK := Tr.trans hK ht47
    replace hr39 := Tr.trans hr39 ht47
    replace hB := Nat.le_trans hB ht47.ex.size
    replace hA := ht47.new
    refine CH_q2 rfl ?_
    refine VQ_y (fun w' hw' => Y_move rfl) rfl rfl rfl ?_
    refine VQ_CH ?_
    refine CH_q2 rfl ?_
    refine VQ_y (fun w' hw' => Y_move rfl) rfl rfl rfl ?_
    refine VQ_CH ?_
    rcases Bool.eq_false_or_eq_true (x15.2) with hc48 | hc48
    · rw [if_pos hc48] at ho37
      refine CH_q2 rfl ?_
      refine VQ_ge rfl rfl rfl hc48 ?_
      obtain ⟨h49, _⟩ := El_staff_Load h4
      refine VQ_y (fun w' hw' => Y_loadA (At.same h49 (hw'.2 _ h4.2.1 h4.1)) Tryd.isAgg34 Tryd.sizeOf34 rfl) rfl rfl rfl ?_
      refine VQ_CH ?_
      refine CH_q2 rfl ?_
      refine VQ_ge rfl rfl rfl hc48 ?_
      refine VQ_y (fun w' hw' => Y_move rfl) rfl rfl rfl ?_
      refine VQ_CH ?_
      refine CH_q2 rfl ?_
      refine VQ_ge rfl rfl rfl hc48 ?_
      have h50 := El_staff_Promise_0 h11
      refine VQ_y (fun w' hw' => Y_fieldAddr Tryd.underlying24 rfl Tryd.sizeOf3 (by decide) rfl) rfl rfl rfl ?_
      refine VQ_CH ?_
      refine CH_q2 rfl ?_
      refine VQ_ge rfl rfl rfl hc48 ?_
      refine VQ_y (fun w' hw' => Y_load (El.int (El.keep h50 (XA.ex hw'))) Tryd.isAgg3 rfl) rfl rfl rfl ?_
      refine VQ_CH ?_
      refine CH_q2 rfl ?_
      refine VQ_ge rfl rfl rfl hc48 ?_
      have h51 := El_staff_Promise_1 h11
      refine VQ_y (fun w' hw' => Y_fieldAddr Tryd.underlying24 rfl Tryd.sizeOf3 (by decide) rfl) rfl rfl rfl ?_
      refine VQ_CH ?_
      refine CH_q2 rfl ?_
      refine VQ_ge rfl rfl rfl hc48 ?_
      refine VQ_y (fun w' hw' => Y_load (El.int (El.keep h51 (XA.ex hw'))) Tryd.isAgg3 rfl) rfl rfl rfl ?_
      refine VQ_CH ?_
      refine CH_l1 (k := 0) rfl ?_
      refine V_ge rfl rfl rfl hc48 ?_
      obtain ⟨x52, hx52, ho37⟩ := Option.bind_eq_some_iff.1 ho37
      refine V_call Tryd.call29 rfl rfl rfl rfl (staff_Load_waits_c w45 hA l n hx52) ?_
      rintro _ w57 ⟨v53, v55, rfl, h54, h56, hk58⟩
      have ht59 := Kp.tr hk58 hA hB
      replace hH := Hp.kp hH hk58
      replace h4 := El.tr h4 ht59
      replace h11 := El.tr h11 ht59
      replace h34 := El.tr h34 ht59
      replace h50 := El.tr h50 ht59
      replace h51 := El.tr h51 ht59
      replace hK := Tr.trans hK ht59
      replace hr39 := Tr.trans hr39 ht59
      replace hB := Nat.le_trans hB ht59.ex.size
      replace hA := ht59.new
      refine V_CH (hk58) ?_
      refine CH_l1 (k := 0) rfl ?_
      refine V_ge rfl rfl rfl hc48 ?_
      obtain ⟨x60, hx60, ho37⟩ := Option.bind_eq_some_iff.1 ho37
      refine V_call Tryd.call23 rfl rfl rfl rfl (staff_natOf_c w57 hA p.share hx60) ?_
      rintro v61 w63 ⟨_, rfl, h62, hk64⟩
      obtain ⟨A65, ht66, hH67⟩ := Hp.addOwnd hH hB hA hk64 h62
      replace h4 := El.tr h4 ht66
      replace h11 := El.tr h11 ht66
      replace h34 := El.tr h34 ht66
      replace h50 := El.tr h50 ht66
      replace h51 := El.tr h51 ht66
      replace h54 := Sl.tr h54 ht66
      replace h56 := Sl.tr h56 ht66
      replace hK := Tr.trans hK ht66
      replace hr39 := Tr.trans hr39 ht66
      replace hB := Nat.le_trans hB ht66.ex.size
      replace hA := ht66.new
      replace hH : Hp w.heap.size A65 w63 (obS (α := Int) 3 v61 x60 :: []) := hH67
      refine V_CH (hk64) ?_
      refine CH_l1 (k := 0) rfl ?_
      refine V_ge rfl rfl rfl hc48 ?_
      obtain ⟨x68, hx68, ho37⟩ := Option.bind_eq_some_iff.1 ho37
      refine V_call Tryd.call23 rfl rfl rfl rfl (staff_natOf_c w63 hA p.of hx68) ?_
      rintro v69 w71 ⟨_, rfl, h70, hk72⟩
      obtain ⟨A73, ht74, hH75⟩ := Hp.addOwnd hH hB hA hk72 h70
      replace h4 := El.tr h4 ht74
      replace h11 := El.tr h11 ht74
      replace h34 := El.tr h34 ht74
      replace h50 := El.tr h50 ht74
      replace h51 := El.tr h51 ht74
      replace h54 := Sl.tr h54 ht74
      replace h56 := Sl.tr h56 ht74
      replace hK := Tr.trans hK ht74
      replace hr39 := Tr.trans hr39 ht74
      replace hB := Nat.le_trans hB ht74.ex.size
      replace hA := ht74.new
      replace hH : Hp w.heap.size A73 w71 (obS (α := Int) 3 v69 x68 :: obS (α := Int) 3 v61 x60 :: []) := hH75
      refine V_CH (hk72) ?_
      refine CH_q2 rfl ?_
      refine VQ_ge rfl rfl rfl hc48 ?_
      refine VQ_y (fun w' hw' => Y_build (cells := #[v61, v69]) Tryd.underlying59 Tryd.zeroValue59 (Tryd_places59 _ Tryd.underlying59) rfl (by obtain ⟨a76, c77, e78, _⟩ := Hp.form (α := Int) (e := 3) (v := v61) (l := x60) hH (i := 1) rfl; subst e78; obtain ⟨a79, c80, e81, _⟩ := Hp.form (α := Int) (e := 3) (v := v69) (l := x68) hH (i := 0) rfl; subst e81; with_unfolding_all rfl)) rfl rfl rfl ?_
      refine VQ_CH ?_
      refine CH_l1 (k := 0) rfl ?_
      refine V_ge rfl rfl rfl hc48 ?_
      obtain ⟨x82, hx82, ho37⟩ := Option.bind_eq_some_iff.1 ho37
      refine V_call Tryd.call30 rfl rfl rfl rfl (staff_ratio_compare_c w71 (A := fun _ => True) (fun _ _ => trivial) x52 v53 (Sl.any h54) v55 (Sl.any h56) (⟨x60, x68⟩ : staff_ratio) v61 (Hp.any (α := Int) (e := 3) (v := v61) (l := x60) hH (i := 1) rfl) v69 (Hp.any (α := Int) (e := 3) (v := v69) (l := x68) hH (i := 0) rfl) hx82) ?_
      rintro _ w83 ⟨rfl, hk84⟩
      have ht85 := Kp.tr hk84 hA hB
      replace hH := Hp.kp hH hk84
      replace h4 := El.tr h4 ht85
      replace h11 := El.tr h11 ht85
      replace h34 := El.tr h34 ht85
      replace h50 := El.tr h50 ht85
      replace h51 := El.tr h51 ht85
      replace h54 := Sl.tr h54 ht85
      replace h56 := Sl.tr h56 ht85
      replace hK := Tr.trans hK ht85
      replace hr39 := Tr.trans hr39 ht85
      replace hB := Nat.le_trans hB ht85.ex.size
      replace hA := ht85.new
      refine V_CH (hk84) ?_
      refine CH_q2 rfl ?_
      refine VQ_ge rfl rfl rfl hc48 ?_
      refine VQ_y (fun w' hw' => Y_leq rfl rfl) rfl rfl rfl ?_
      refine VQ_CH ?_
      refine CH_q2 rfl ?_
      refine VQ_y (fun _ _ => Y_pick_te rfl hc48 rfl) rfl rfl rfl ?_
      refine VQ_CH ?_
      refine CH_q2 rfl ?_
      refine VQ_y (fun w' hw' => Y_move rfl) rfl rfl rfl ?_
      refine VQ_CH ?_
      rcases Bool.eq_false_or_eq_true (decide (x82 ≤ 0)) with hc86 | hc86
      · rw [if_pos hc86] at ho37
        refine CH_q1 rfl ?_
        refine VQ_ge rfl rfl rfl hc86 ?_
        obtain ⟨v87, v89, h91, h88, h90⟩ := El_staff_ratio h34
        refine VQ_y (fun w' hw' => Y_loadA (At.kp h91 hw' h34.2.1) Tryd.isAgg59 Tryd.sizeOf59 rfl) rfl rfl rfl ?_
        refine VQ_CH ?_
        refine CH_q2 rfl ?_
        refine VQ_ge rfl rfl rfl hc86 ?_
        have h92 := El_staff_Promise_2 h11
        refine VQ_y (fun w' hw' => Y_fieldAddr Tryd.underlying24 rfl Tryd.sizeOf3 (by decide) rfl) rfl rfl rfl ?_
        refine VQ_CH ?_
        refine CH_q1 rfl ?_
        refine VQ_ge rfl rfl rfl hc86 ?_
        refine VQ_y (fun w' hw' => Y_load (El.int (El.kp h92 hw')) Tryd.isAgg3 rfl) rfl rfl rfl ?_
        refine VQ_CH ?_
        refine CH_q2 rfl ?_
        refine VQ_ge rfl rfl rfl hc86 ?_
        have h93 := El_staff_Promise_3 h11
        refine VQ_y (fun w' hw' => Y_fieldAddr Tryd.underlying24 rfl Tryd.sizeOf3 (by decide) rfl) rfl rfl rfl ?_
        refine VQ_CH ?_
        refine CH_q1 rfl ?_
        refine VQ_ge rfl rfl rfl hc86 ?_
        refine VQ_y (fun w' hw' => Y_load (El.int (El.kp h93 hw')) Tryd.isAgg3 rfl) rfl rfl rfl ?_
        refine VQ_CH ?_
        refine CH_l1 (k := 0) rfl ?_
        refine V_ge rfl rfl rfl hc86 ?_
        obtain ⟨x94, hx94, ho37⟩ := Option.bind_eq_some_iff.1 ho37
        refine V_call Tryd.call23 rfl rfl rfl rfl (staff_natOf_c w83 hA p.wait hx94) ?_
        rintro v95 w97 ⟨_, rfl, h96, hk98⟩
        obtain ⟨A99, ht100, hH101⟩ := Hp.addOwnd hH hB hA hk98 h96
        replace h4 := El.tr h4 ht100
        replace h11 := El.tr h11 ht100
        replace h34 := El.tr h34 ht100
        replace h50 := El.tr h50 ht100
        replace h51 := El.tr h51 ht100
        replace h54 := Sl.tr h54 ht100
        replace h56 := Sl.tr h56 ht100
        replace h88 := Sl.tr h88 ht100
        replace h90 := Sl.tr h90 ht100
        replace h92 := El.tr h92 ht100
        replace h93 := El.tr h93 ht100
        replace hK := Tr.trans hK ht100
        replace hr39 := Tr.trans hr39 ht100
        replace hB := Nat.le_trans hB ht100.ex.size
        replace hA := ht100.new
        replace hH : Hp w.heap.size A99 w97 (obS (α := Int) 3 v95 x94 :: obS (α := Int) 3 v69 x68 :: obS (α := Int) 3 v61 x60 :: []) := hH101
        refine V_CH (hk98) ?_
        refine CH_l1 (k := 0) rfl ?_
        refine V_ge rfl rfl rfl hc86 ?_
        obtain ⟨x102, hx102, ho37⟩ := Option.bind_eq_some_iff.1 ho37
        refine V_call Tryd.call23 rfl rfl rfl rfl (staff_natOf_c w97 hA p.parts hx102) ?_
        rintro v103 w105 ⟨_, rfl, h104, hk106⟩
        obtain ⟨A107, ht108, hH109⟩ := Hp.addOwnd hH hB hA hk106 h104
        replace h4 := El.tr h4 ht108
        replace h11 := El.tr h11 ht108
        replace h34 := El.tr h34 ht108
        replace h50 := El.tr h50 ht108
        replace h51 := El.tr h51 ht108
        replace h54 := Sl.tr h54 ht108
        replace h56 := Sl.tr h56 ht108
        replace h88 := Sl.tr h88 ht108
        replace h90 := Sl.tr h90 ht108
        replace h92 := El.tr h92 ht108
        replace h93 := El.tr h93 ht108
        replace hK := Tr.trans hK ht108
        replace hr39 := Tr.trans hr39 ht108
        replace hB := Nat.le_trans hB ht108.ex.size
        replace hA := ht108.new
        replace hH : Hp w.heap.size A107 w105 (obS (α := Int) 3 v103 x102 :: obS (α := Int) 3 v95 x94 :: obS (α := Int) 3 v69 x68 :: obS (α := Int) 3 v61 x60 :: []) := hH109
        refine V_CH (hk106) ?_
        refine CH_q2 rfl ?_
        refine VQ_ge rfl rfl rfl hc86 ?_
        refine VQ_y (fun w' hw' => Y_build (cells := #[v95, v103]) Tryd.underlying59 Tryd.zeroValue59 (Tryd_places59 _ Tryd.underlying59) rfl (by obtain ⟨a110, c111, e112, _⟩ := Hp.form (α := Int) (e := 3) (v := v95) (l := x94) hH (i := 1) rfl; subst e112; obtain ⟨a113, c114, e115, _⟩ := Hp.form (α := Int) (e := 3) (v := v103) (l := x102) hH (i := 0) rfl; subst e115; with_unfolding_all rfl)) rfl rfl rfl ?_
        refine VQ_CH ?_
        refine CH_l1 (k := 0) rfl ?_
        refine V_ge rfl rfl rfl hc86 ?_
        obtain ⟨x116, hx116, ho37⟩ := Option.bind_eq_some_iff.1 ho37
        refine V_call Tryd.call30 rfl rfl rfl rfl (staff_ratio_compare_c w105 (A := fun _ => True) (fun _ _ => trivial) x15.1 v87 (Sl.any h88) v89 (Sl.any h90) (⟨x94, x102⟩ : staff_ratio) v95 (Hp.any (α := Int) (e := 3) (v := v95) (l := x94) hH (i := 1) rfl) v103 (Hp.any (α := Int) (e := 3) (v := v103) (l := x102) hH (i := 0) rfl) hx116) ?_
        rintro _ w117 ⟨rfl, hk118⟩
        have ht119 := Kp.tr hk118 hA hB
        replace hH := Hp.kp hH hk118
        replace h4 := El.tr h4 ht119
        replace h11 := El.tr h11 ht119
        replace h34 := El.tr h34 ht119
        replace h50 := El.tr h50 ht119
        replace h51 := El.tr h51 ht119
        replace h54 := Sl.tr h54 ht119
        replace h56 := Sl.tr h56 ht119
        replace h88 := Sl.tr h88 ht119
        replace h90 := Sl.tr h90 ht119
        replace h92 := El.tr h92 ht119
        replace h93 := El.tr h93 ht119
        replace hK := Tr.trans hK ht119
        replace hr39 := Tr.trans hr39 ht119
        replace hB := Nat.le_trans hB ht119.ex.size
        replace hA := ht119.new
        refine V_CH (hk118) ?_
        refine CH_q2 rfl ?_
        refine VQ_ge rfl rfl rfl hc86 ?_
        refine VQ_y (fun w' hw' => Y_leq rfl rfl) rfl rfl rfl ?_
        refine VQ_CH ?_
        refine CH_q2 rfl ?_
        refine VQ_y (fun _ _ => Y_pick_te rfl hc86 rfl) rfl rfl rfl ?_
        refine VQ_CH ?_
        refine CH_q2 rfl ?_
        refine VQ_y (fun w' hw' => Y_assign rfl) rfl rfl rfl ?_
        refine VQ_CH ?_
        refine CH_tail ?_
        show V _ _ _ _ [] _ _
        obtain rfl := Option.some.inj ho37
        refine V_end (fun a ha120 => ?_)
        replace hH : Hp w.heap.size A107 w117 (obS (α := Int) 3 v95 x94 :: obS (α := Int) 3 v69 x68 :: obS (α := Int) 3 v61 x60 :: []) := Hp.drop hH (i := 0) rfl
        replace hH : Hp w.heap.size A107 w117 (obS (α := Int) 3 v69 x68 :: obS (α := Int) 3 v61 x60 :: []) := Hp.drop hH (i := 0) rfl
        replace hH : Hp w.heap.size A107 w117 (obS (α := Int) 3 v61 x60 :: []) := Hp.drop hH (i := 0) rfl
        replace hH : Hp w.heap.size A107 w117 ([]) := Hp.drop hH (i := 0) rfl
        exact ⟨A107, ha120.sub ⟨rfl, trivial⟩, ⟨hH, hr39⟩⟩
      · rw [if_neg (nt hc86)] at ho37
        refine CH_q1 rfl ?_
        refine VQ_gn rfl rfl rfl hc86 rfl rfl rfl ?_
        refine VQ_CH ?_
        refine CH_q2 rfl ?_
        refine VQ_gn rfl rfl rfl hc86 rfl rfl rfl ?_
        refine VQ_CH ?_
        refine CH_q1 rfl ?_
        refine VQ_gn rfl rfl rfl hc86 rfl rfl rfl ?_
        refine VQ_CH ?_
        refine CH_q2 rfl ?_
        refine VQ_gn rfl rfl rfl hc86 rfl rfl rfl ?_
        refine VQ_CH ?_
        refine CH_q1 rfl ?_
        refine VQ_gn rfl rfl rfl hc86 rfl rfl rfl ?_
        refine VQ_CH ?_
        refine CH_l1 (k := 0) rfl ?_
        refine V_gn rfl rfl rfl hc86 rfl rfl rfl ?_
        refine V_CH (Kp.refl _) ?_
        refine CH_l1 (k := 0) rfl ?_
        refine V_gn rfl rfl rfl hc86 rfl rfl rfl ?_
        refine V_CH (Kp.refl _) ?_
        refine CH_q2 rfl ?_
        refine VQ_gn rfl rfl rfl hc86 rfl rfl rfl ?_
        refine VQ_CH ?_
        refine CH_l1 (k := 0) rfl ?_
        refine V_gn rfl rfl rfl hc86 rfl rfl rfl ?_
        refine V_CH (Kp.refl _) ?_
        refine CH_q2 rfl ?_
        refine VQ_gn rfl rfl rfl hc86 rfl rfl rfl ?_
        refine VQ_CH ?_
        refine CH_q2 rfl ?_
        refine VQ_y (fun _ _ => Y_pick_fe rfl hc86 rfl) rfl rfl rfl ?_
        refine VQ_CH ?_
        refine CH_q2 rfl ?_
        refine VQ_y (fun w' hw' => Y_assign rfl) rfl rfl rfl ?_
        refine VQ_CH ?_
        refine CH_tail ?_
        show V _ _ _ _ [] _ _
        obtain rfl := Option.some.inj ho37
        refine V_end (fun a ha121 => ?_)
        replace hH : Hp w.heap.size A73 w83 (obS (α := Int) 3 v61 x60 :: []) := Hp.drop hH (i := 0) rfl
        replace hH : Hp w.heap.size A73 w83 ([]) := Hp.drop hH (i := 0) rfl
        exact ⟨A73, ha121.sub ⟨rfl, trivial⟩, ⟨hH, hr39⟩⟩
    · rw [if_neg (nt hc48)] at ho37
      refine CH_q2 rfl ?_
      refine VQ_gn rfl rfl rfl hc48 rfl rfl rfl ?_
      refine VQ_CH ?_
      refine CH_q2 rfl ?_
      refine VQ_gn rfl rfl rfl hc48 rfl rfl rfl ?_
      refine VQ_CH ?_
      refine CH_q2 rfl ?_
      refine VQ_gn rfl rfl rfl hc48 rfl rfl rfl ?_
      refine VQ_CH ?_
      refine CH_q2 rfl ?_
      refine VQ_gn rfl rfl rfl hc48 rfl rfl rfl ?_
      refine VQ_CH ?_
      refine CH_q2 rfl ?_
      refine VQ_gn rfl rfl rfl hc48 rfl rfl rfl ?_
      refine VQ_CH ?_
      refine CH_q2 rfl ?_
      refine VQ_gn rfl rfl rfl hc48 rfl rfl rfl ?_
      refine VQ_CH ?_
      refine CH_l1 (k := 0) rfl ?_
      refine V_gn rfl rfl rfl hc48 rfl rfl rfl ?_
      refine V_CH (Kp.refl _) ?_
      refine CH_l1 (k := 0) rfl ?_
      refine V_gn rfl rfl rfl hc48 rfl rfl rfl ?_
      refine V_CH (Kp.refl _) ?_
      refine CH_l1 (k := 0) rfl ?_
      refine V_gn rfl rfl rfl hc48 rfl rfl rfl ?_
      refine V_CH (Kp.refl _) ?_
      refine CH_q2 rfl ?_
      refine VQ_gn rfl rfl rfl hc48 rfl rfl rfl ?_
      refine VQ_CH ?_
      refine CH_l1 (k := 0) rfl ?_
      refine V_gn rfl rfl rfl hc48 rfl rfl rfl ?_
      refine V_CH (Kp.refl _) ?_
      refine CH_q2 rfl ?_
      refine VQ_gn rfl rfl rfl hc48 rfl rfl rfl ?_
      refine VQ_CH ?_
      refine CH_q2 rfl ?_
      refine VQ_y (fun _ _ => Y_pick_fe rfl hc48 rfl) rfl rfl rfl ?_
      refine VQ_CH ?_
      refine CH_q2 rfl ?_
      refine VQ_y (fun w' hw' => Y_move rfl) rfl rfl rfl ?_
      refine VQ_CH ?_
      rcases Bool.eq_false_or_eq_true (false) with hc122 | hc122
      · rw [if_pos hc122] at ho37
        refine CH_q1 rfl ?_
        refine VQ_ge rfl rfl rfl hc122 ?_
        obtain ⟨v123, v125, h127, h124, h126⟩ := El_staff_ratio h34
        refine VQ_y (fun w' hw' => Y_loadA (At.kp h127 hw' h34.2.1) Tryd.isAgg59 Tryd.sizeOf59 rfl) rfl rfl rfl ?_
        refine VQ_CH ?_
        refine CH_q2 rfl ?_
        refine VQ_ge rfl rfl rfl hc122 ?_
        have h128 := El_staff_Promise_2 h11
        refine VQ_y (fun w' hw' => Y_fieldAddr Tryd.underlying24 rfl Tryd.sizeOf3 (by decide) rfl) rfl rfl rfl ?_
        refine VQ_CH ?_
        refine CH_q1 rfl ?_
        refine VQ_ge rfl rfl rfl hc122 ?_
        refine VQ_y (fun w' hw' => Y_load (El.int (El.kp h128 hw')) Tryd.isAgg3 rfl) rfl rfl rfl ?_
        refine VQ_CH ?_
        refine CH_q2 rfl ?_
        refine VQ_ge rfl rfl rfl hc122 ?_
        have h129 := El_staff_Promise_3 h11
        refine VQ_y (fun w' hw' => Y_fieldAddr Tryd.underlying24 rfl Tryd.sizeOf3 (by decide) rfl) rfl rfl rfl ?_
        refine VQ_CH ?_
        refine CH_q1 rfl ?_
        refine VQ_ge rfl rfl rfl hc122 ?_
        refine VQ_y (fun w' hw' => Y_load (El.int (El.kp h129 hw')) Tryd.isAgg3 rfl) rfl rfl rfl ?_
        refine VQ_CH ?_
        refine CH_l1 (k := 0) rfl ?_
        refine V_ge rfl rfl rfl hc122 ?_
        obtain ⟨x130, hx130, ho37⟩ := Option.bind_eq_some_iff.1 ho37
        refine V_call Tryd.call23 rfl rfl rfl rfl (staff_natOf_c w45 hA p.wait hx130) ?_
        rintro v131 w133 ⟨_, rfl, h132, hk134⟩
        obtain ⟨A135, ht136, hH137⟩ := Hp.addOwnd hH hB hA hk134 h132
        replace h4 := El.tr h4 ht136
        replace h11 := El.tr h11 ht136
        replace h34 := El.tr h34 ht136
        replace h124 := Sl.tr h124 ht136
        replace h126 := Sl.tr h126 ht136
        replace h128 := El.tr h128 ht136
        replace h129 := El.tr h129 ht136
        replace hK := Tr.trans hK ht136
        replace hr39 := Tr.trans hr39 ht136
        replace hB := Nat.le_trans hB ht136.ex.size
        replace hA := ht136.new
        replace hH : Hp w.heap.size A135 w133 (obS (α := Int) 3 v131 x130 :: []) := hH137
        refine V_CH (hk134) ?_
        refine CH_l1 (k := 0) rfl ?_
        refine V_ge rfl rfl rfl hc122 ?_
        obtain ⟨x138, hx138, ho37⟩ := Option.bind_eq_some_iff.1 ho37
        refine V_call Tryd.call23 rfl rfl rfl rfl (staff_natOf_c w133 hA p.parts hx138) ?_
        rintro v139 w141 ⟨_, rfl, h140, hk142⟩
        obtain ⟨A143, ht144, hH145⟩ := Hp.addOwnd hH hB hA hk142 h140
        replace h4 := El.tr h4 ht144
        replace h11 := El.tr h11 ht144
        replace h34 := El.tr h34 ht144
        replace h124 := Sl.tr h124 ht144
        replace h126 := Sl.tr h126 ht144
        replace h128 := El.tr h128 ht144
        replace h129 := El.tr h129 ht144
        replace hK := Tr.trans hK ht144
        replace hr39 := Tr.trans hr39 ht144
        replace hB := Nat.le_trans hB ht144.ex.size
        replace hA := ht144.new
        replace hH : Hp w.heap.size A143 w141 (obS (α := Int) 3 v139 x138 :: obS (α := Int) 3 v131 x130 :: []) := hH145
        refine V_CH (hk142) ?_
        refine CH_q2 rfl ?_
        refine VQ_ge rfl rfl rfl hc122 ?_
        refine VQ_y (fun w' hw' => Y_build (cells := #[v131, v139]) Tryd.underlying59 Tryd.zeroValue59 (Tryd_places59 _ Tryd.underlying59) rfl (by obtain ⟨a146, c147, e148, _⟩ := Hp.form (α := Int) (e := 3) (v := v131) (l := x130) hH (i := 1) rfl; subst e148; obtain ⟨a149, c150, e151, _⟩ := Hp.form (α := Int) (e := 3) (v := v139) (l := x138) hH (i := 0) rfl; subst e151; with_unfolding_all rfl)) rfl rfl rfl ?_
        refine VQ_CH ?_
        refine CH_l1 (k := 0) rfl ?_
        refine V_ge rfl rfl rfl hc122 ?_
        obtain ⟨x152, hx152, ho37⟩ := Option.bind_eq_some_iff.1 ho37
        refine V_call Tryd.call30 rfl rfl rfl rfl (staff_ratio_compare_c w141 (A := fun _ => True) (fun _ _ => trivial) x15.1 v123 (Sl.any h124) v125 (Sl.any h126) (⟨x130, x138⟩ : staff_ratio) v131 (Hp.any (α := Int) (e := 3) (v := v131) (l := x130) hH (i := 1) rfl) v139 (Hp.any (α := Int) (e := 3) (v := v139) (l := x138) hH (i := 0) rfl) hx152) ?_
        rintro _ w153 ⟨rfl, hk154⟩
        have ht155 := Kp.tr hk154 hA hB
        replace hH := Hp.kp hH hk154
        replace h4 := El.tr h4 ht155
        replace h11 := El.tr h11 ht155
        replace h34 := El.tr h34 ht155
        replace h124 := Sl.tr h124 ht155
        replace h126 := Sl.tr h126 ht155
        replace h128 := El.tr h128 ht155
        replace h129 := El.tr h129 ht155
        replace hK := Tr.trans hK ht155
        replace hr39 := Tr.trans hr39 ht155
        replace hB := Nat.le_trans hB ht155.ex.size
        replace hA := ht155.new
        refine V_CH (hk154) ?_
        refine CH_q2 rfl ?_
        refine VQ_ge rfl rfl rfl hc122 ?_
        refine VQ_y (fun w' hw' => Y_leq rfl rfl) rfl rfl rfl ?_
        refine VQ_CH ?_
        refine CH_q2 rfl ?_
        refine VQ_y (fun _ _ => Y_pick_te rfl hc122 rfl) rfl rfl rfl ?_
        refine VQ_CH ?_
        refine CH_q2 rfl ?_
        refine VQ_y (fun w' hw' => Y_assign rfl) rfl rfl rfl ?_
        refine VQ_CH ?_
        refine CH_tail ?_
        show V _ _ _ _ [] _ _
        obtain rfl := Option.some.inj ho37
        refine V_end (fun a ha156 => ?_)
        replace hH : Hp w.heap.size A143 w153 (obS (α := Int) 3 v131 x130 :: []) := Hp.drop hH (i := 0) rfl
        replace hH : Hp w.heap.size A143 w153 ([]) := Hp.drop hH (i := 0) rfl
        exact ⟨A143, ha156.sub ⟨rfl, trivial⟩, ⟨hH, hr39⟩⟩
      · rw [if_neg (nt hc122)] at ho37
        refine CH_q1 rfl ?_
        refine VQ_gn rfl rfl rfl hc122 rfl rfl rfl ?_
        refine VQ_CH ?_
        refine CH_q2 rfl ?_
        refine VQ_gn rfl rfl rfl hc122 rfl rfl rfl ?_
        refine VQ_CH ?_
        refine CH_q1 rfl ?_
        refine VQ_gn rfl rfl rfl hc122 rfl rfl rfl ?_
        refine VQ_CH ?_
        refine CH_q2 rfl ?_
        refine VQ_gn rfl rfl rfl hc122 rfl rfl rfl ?_
        refine VQ_CH ?_
        refine CH_q1 rfl ?_
        refine VQ_gn rfl rfl rfl hc122 rfl rfl rfl ?_
        refine VQ_CH ?_
        refine CH_l1 (k := 0) rfl ?_
        refine V_gn rfl rfl rfl hc122 rfl rfl rfl ?_
        refine V_CH (Kp.refl _) ?_
        refine CH_l1 (k := 0) rfl ?_
        refine V_gn rfl rfl rfl hc122 rfl rfl rfl ?_
        refine V_CH (Kp.refl _) ?_
        refine CH_q2 rfl ?_
        refine VQ_gn rfl rfl rfl hc122 rfl rfl rfl ?_
        refine VQ_CH ?_
        refine CH_l1 (k := 0) rfl ?_
        refine V_gn rfl rfl rfl hc122 rfl rfl rfl ?_
        refine V_CH (Kp.refl _) ?_
        refine CH_q2 rfl ?_
        refine VQ_gn rfl rfl rfl hc122 rfl rfl rfl ?_
        refine VQ_CH ?_
        refine CH_q2 rfl ?_
        refine VQ_y (fun _ _ => Y_pick_fe rfl hc122 rfl) rfl rfl rfl ?_
        refine VQ_CH ?_
        refine CH_q2 rfl ?_
        refine VQ_y (fun w' hw' => Y_assign rfl) rfl rfl rfl ?_
        refine VQ_CH ?_
        refine CH_tail ?_
        show V _ _ _ _ [] _ _
        obtain rfl := Option.some.inj ho37
        refine V_end (fun a ha157 => ?_)
        exact ⟨A, ha157.sub ⟨rfl, trivial⟩, ⟨hH, hr39⟩⟩
  rintro A43 w40 ⟨hH44, hk41⟩ a ha42
  replace hK := Tr.trans hK hk41
  replace hB := Nat.le_trans hB hk41.ex.size
  replace hA := hk41.new
  replace hH : Hp w.heap.size A43 w40 ([]) := hH44
  refine C_at (n := ⟨42, [], none⟩) (fun _ _ => rfl) ?_ ha42
  obtain rfl := Option.some.inj hm
  refine C_ret ?_
  try simp only [↓inBlock_ret, ↓then_ret]
  exact retQ rfl (Res.one Tryd.results21 rfl) ⟨rfl, hK.kp⟩

set_option maxRecDepth 4000 in
set_option maxHeartbeats 4000000 in
theorem staff_Staff_c (w : World) {A : Nat → Prop} (hA : ∀ b, w.heap.size ≤ b → A b) (l : staff_Load) (p : staff_Promise) {r : (Int × Int)} (hm : staff_Staff l p = some r) : Ret Tryd.prog 12 #[.agg #[.int .i64 l.calls, .int .i64 l.length, .int .i64 l.span], .agg #[.int .i64 p.share, .int .i64 p.of, .int .i64 p.wait, .int .i64 p.parts]] w fun v w' => v = .tuple #[.int .i64 r.1, .int .i64 r.2] ∧ Kp w w' := by
  unfold staff_Staff at hm
  refine enter Tryd.func12 rfl Tryd.ntmps12 rfl ?_
  have hA0 := hA
  have hB := Nat.le_refl w.heap.size
  have hK : Tr w.heap.size A w A w := Tr.refl hA
  have hH : Hp w.heap.size A w [] := Hp.nil
  refine C_seq ?_
  refine C_region ?_
  refine V_box rfl rfl ?_
  intro b1 w2 h3
  have hk5 := h3.kp
  have h4 : El (α := staff_Load) A w2 b1 0 l := h3.el hA ⟨[.int .i64 l.calls], _, rfl, rfl, ⟨[.int .i64 l.length], _, rfl, rfl, rfl⟩⟩
  have ht6 := Kp.tr hk5 hA hB
  replace hH := Hp.kp hH hk5
  replace hK := Tr.trans hK ht6
  replace hB := Nat.le_trans hB ht6.ex.size
  replace hA := ht6.new
  refine V_box rfl rfl ?_
  intro b7 w9 h10
  have hk12 := h10.kp
  have h11 : El (α := staff_Promise) A w9 b7 0 p := h10.el hA ⟨[.int .i64 p.share], _, rfl, rfl, ⟨[.int .i64 p.of], _, rfl, rfl, ⟨[.int .i64 p.wait], _, rfl, rfl, rfl⟩⟩⟩
  have ht13 := Kp.tr hk12 hA hB
  replace hH := Hp.kp hH hk12
  replace h4 := El.tr h4 ht13
  replace hK := Tr.trans hK ht13
  replace hB := Nat.le_trans hB ht13.ex.size
  replace hA := ht13.new
  refine V_y (Y_assign rfl) rfl rfl rfl ?_
  refine V_y (Y_assign rfl) rfl rfl rfl ?_
  refine V_to (fun _ _ => rfl) ?_
  refine C_seq ?_
  refine C_seq ?_
  refine C_region_qt 4 Tryd_mixed (by kernel_rfl) ?_
  simp only [List.take, List.drop]
  obtain ⟨h14, _⟩ := El_staff_Load h4
  refine VQ_y (fun w' hw' => Y_loadA (At.kp h14 hw' h4.2.1) Tryd.isAgg34 Tryd.sizeOf34 rfl) rfl rfl rfl ?_
  obtain ⟨x15, hx15, hm⟩ := Option.bind_eq_some_iff.1 hm
  refine VQ_call (.int .i64 x15) Tryd.call10 rfl rfl rfl rfl (fun w' hw' => (staff_checkLoad_c w' (fun b hb => hA b (Nat.le_trans hw'.size hb)) l hx15).mono (fun _ _ h => ⟨h.1, Kp.trans hw' h.2⟩)) ?_
  obtain ⟨h16, _⟩ := El_staff_Promise h11
  refine VQ_y (fun w' hw' => Y_loadA (At.kp h16 hw' h11.2.1) Tryd.isAgg24 Tryd.sizeOf24 rfl) rfl rfl rfl ?_
  obtain ⟨x17, hx17, hm⟩ := Option.bind_eq_some_iff.1 hm
  refine VQ_call (.int .i64 x17) Tryd.call11 rfl rfl rfl rfl (fun w' hw' => (staff_checkPromise_c w' (fun b hb => hA b (Nat.le_trans hw'.size hb)) p hx17).mono (fun _ _ h => ⟨h.1, Kp.trans hw' h.2⟩)) ?_
  refine VQ_tail (fun w18 hk19 => ?_)
  try simp only [List.take, List.drop]
  have ht20 := Kp.tr hk19 hA hB
  replace hH := Hp.kp hH hk19
  replace h4 := El.tr h4 ht20
  replace h11 := El.tr h11 ht20
  replace hK := Tr.trans hK ht20
  replace hB := Nat.le_trans hB ht20.ex.size
  replace hA := ht20.new
  refine V_buildSlice (l := ([x15, x17] : List Int)) (len := 2) Tryd.underlying63 Tryd.sizeOf28 Tryd.zeroValue28 rfl (by with_unfolding_all rfl) (by decide) (by decide) hA ⟨[.int .i64 x15], _, rfl, rfl, ⟨[.int .i64 x17], _, rfl, rfl, rfl⟩⟩ rfl rfl ?_
  intro v21 w22 hk24 h23
  have ht25 := Kp.tr hk24 hA hB
  replace hH := Hp.kp hH hk24
  replace h4 := El.tr h4 ht25
  replace h11 := El.tr h11 ht25
  replace hK := Tr.trans hK ht25
  replace hB := Nat.le_trans hB ht25.ex.size
  replace hA := ht25.new
  obtain ⟨x26, hx26, hm⟩ := Option.bind_eq_some_iff.1 hm
  refine V_call Tryd.call13 rfl rfl rfl rfl (cmp_Or_api_Errno_c w22 ([x15, x17] : List Int) v21 h23 hx26) ?_
  rintro _ _ ⟨rfl, rfl⟩
  refine V_y (Y_assign rfl) rfl rfl rfl ?_
  refine V_to (fun _ _ => rfl) ?_
  refine C_seq ?_
  refine C_region ?_
  refine V_y (Y_move rfl) rfl rfl rfl ?_
  refine V_y (Y_neq rfl rfl) rfl rfl rfl ?_
  refine V_to (fun _ _ => rfl) ?_
  refine C_cond rfl (fun hc27 => ?_) (fun hc27 => ?_)
  · rw [if_pos hc27] at hm
    refine C_seq ?_
    refine C_region ?_
    refine V_y (Y_move rfl) rfl rfl rfl ?_
    refine V_y (Y_assign rfl) rfl rfl rfl ?_
    refine V_y (Y_assign rfl) rfl rfl rfl ?_
    refine V_to (fun _ _ => rfl) ?_
    obtain rfl := Option.some.inj hm
    refine C_ret ?_
    try simp only [↓inBlock_ret, ↓then_ret]
    exact retQ rfl (Res.two Tryd.results12 rfl rfl) ⟨rfl, hK.kp⟩
  · rw [if_neg (nt hc27)] at hm
    refine C_skip_to (fun _ _ => rfl) ?_
    refine C_seq ?_
    refine C_seq ?_
    refine C_region ?_
    refine V_y (Y_move rfl) rfl rfl rfl ?_
    refine V_to (fun _ _ => rfl) ?_
    obtain ⟨o28, ho28, hm⟩ := Option.bind_eq_some_iff.1 hm
    refine C_cutG (ι := (Int × (Nat → Prop))) (fun ⟨s29, A36⟩ => []) (fun ⟨s29, A36⟩ => fun w' => o28 = .fin s29 ∧ Hp w.heap.size A36 w' ([]) ∧ Tr w.heap.size A w22 A36 w') ?_ ?_
    · refine C_block ?_
      refine C_while ho28 (fun s38 a w' => ∃ i : (Nat → Prop), Has ⟨26, [], none⟩ a ([(2, .pointer (some ⟨b1, 0, none⟩)), (3, .pointer (some ⟨b7, 0, none⟩)), (17, .int .i64 s38)]) ∧ Hp w.heap.size i w' ([]) ∧ Tr w.heap.size A w22 i w') (fun a ha => ⟨A, ha.sub ⟨rfl, rfl, rfl, trivial⟩, ⟨hH, Tr.refl hA⟩⟩) ?_
      rintro K s38 a w39 ⟨A40, ha59, hH41, hr30⟩ K48
      refine C_of ?_ ha59
      replace h4 := El.tr h4 hr30
      replace h11 := El.tr h11 hr30
      replace hK := Tr.trans hK hr30
      replace hB := Nat.le_trans hB hr30.ex.size
      replace hA := hr30.new
      replace hH : Hp w.heap.size A40 w39 ([]) := hH41
      obtain ⟨x42, h43, h44⟩ := K48
      refine C_seq ?_
      refine C_region ?_
      refine V_y (Y_lss rfl rfl) rfl rfl rfl ?_
      refine V_to (fun _ _ => rfl) ?_
      refine C_seq ?_
      refine C_cond rfl (fun hc49 => ?_) (fun hc49 => ?_)
      · rw [if_pos hc49] at h43
        refine C_skip_to (fun _ _ => rfl) ?_
        refine C_seq ?_
        refine C_block ?_
        refine C_seq ?_
        refine C_region ?_
        refine V_y (Y_move rfl) rfl rfl rfl ?_
        refine V_y (Y_assign rfl) rfl rfl rfl ?_
        refine V_to (fun _ _ => rfl) ?_
        refine C_seq ?_
        refine C_region ?_
        obtain ⟨h50, _⟩ := El_staff_Load h4
        refine V_y (Y_loadA h50 Tryd.isAgg34 Tryd.sizeOf34 rfl) rfl rfl rfl ?_
        obtain ⟨h51, _⟩ := El_staff_Promise h11
        refine V_y (Y_loadA h51 Tryd.isAgg24 Tryd.sizeOf24 rfl) rfl rfl rfl ?_
        refine V_y (Y_move rfl) rfl rfl rfl ?_
        obtain ⟨x52, hx52, h43⟩ := Option.bind_eq_some_iff.1 h43
        refine V_call Tryd.call21 rfl rfl rfl rfl (staff_Load_keeps_c w39 hA l p s38 hx52) ?_
        rintro _ w53 ⟨rfl, hk54⟩
        have ht55 := Kp.tr hk54 hA hB
        replace hH := Hp.kp hH hk54
        replace h4 := El.tr h4 ht55
        replace h11 := El.tr h11 ht55
        replace hK := Tr.trans hK ht55
        replace hr30 := Tr.trans hr30 ht55
        replace hB := Nat.le_trans hB ht55.ex.size
        replace hA := ht55.new
        refine V_to (fun _ _ => rfl) ?_
        refine C_cond rfl (fun hc56 => ?_) (fun hc56 => ?_)
        · rw [if_pos hc56] at h43
          refine C_seq ?_
          refine C_region ?_
          refine V_y (Y_move rfl) rfl rfl rfl ?_
          refine V_y (Y_assign rfl) rfl rfl rfl ?_
          refine V_y (Y_assign rfl) rfl rfl rfl ?_
          refine V_to (fun _ _ => rfl) ?_
          obtain rfl := Option.some.inj h43
          obtain rfl := (h44 : Lp.rt _ = _)
          rw [Lp.andThen_rt] at hm
          obtain rfl := Option.some.inj hm
          refine C_ret ?_
          try simp only [↓inBlock_ret, ↓then_ret]
          exact retQ rfl (Res.two Tryd.results12 rfl rfl) ⟨rfl, hK.kp⟩
        · rw [if_neg (nt hc56)] at h43
          refine C_skip_to (fun _ _ => rfl) ?_
          refine C_region ?_
          refine V_y (Y_addI rfl rfl) rfl rfl rfl ?_
          refine V_y (Y_move rfl) rfl rfl rfl ?_
          obtain rfl := Option.some.inj h43
          refine V_end (fun a ha57 => ?_)
          exact ⟨w64 (s38 + 1), h44, ⟨A40, ha57.sub ⟨rfl, rfl, rfl, trivial⟩, ⟨hH, hr30⟩⟩⟩
      · rw [if_neg (nt hc49)] at h43
        obtain rfl := Option.some.inj h43
        refine C_exit (fun a ha58 => ?_)
        exact ⟨(s38, A40), ha58.sub trivial, ⟨h44.symm, hH, hr30⟩⟩
    rintro ⟨s29, A36⟩ w33 ⟨rfl, hH37, hk34⟩ a ha35
    rw [Lp.andThen_fin] at hm
    replace hK := Tr.trans hK hk34
    replace hB := Nat.le_trans hB hk34.ex.size
    replace hA := hk34.new
    replace hH : Hp w.heap.size A36 w33 ([]) := hH37
    refine C_at (n := ⟨26, [], none⟩) (fun _ _ => rfl) ?_ ha35
    refine C_seq ?_
    refine C_region ?_
    refine V_y (Y_assign rfl) rfl rfl rfl ?_
    refine V_y (Y_assign rfl) rfl rfl rfl ?_
    refine V_to (fun _ _ => rfl) ?_
    obtain rfl := Option.some.inj hm
    refine C_ret ?_
    try simp only [↓inBlock_ret, ↓then_ret]
    exact retQ rfl (Res.two Tryd.results12 rfl rfl) ⟨rfl, hK.kp⟩

set_option maxRecDepth 4000 in
set_option maxHeartbeats 4000000 in
theorem staff_Demand_c (w : World) {A : Nat → Prop} (hA : ∀ b, w.heap.size ≤ b → A b) (l : (List staff_Load)) (v_l : Value) (h_l : Sl A w v_l l) (p : staff_Promise) {r : ((List Int) × Int)} (hm : staff_Demand l p = some r) : Ret Tryd.prog 5 #[v_l, .agg #[.int .i64 p.share, .int .i64 p.of, .int .i64 p.wait, .int .i64 p.parts]] w fun v w' => ∃ s0, v = .tuple #[s0, .int .i64 r.2] ∧ Ownd 3 w w' s0 r.1 ∧ Kp w w' := by
  unfold staff_Demand at hm
  refine enter Tryd.func5 rfl Tryd.ntmps5 rfl ?_
  have hA0 := hA
  have hB := Nat.le_refl w.heap.size
  have hK : Tr w.heap.size A w A w := Tr.refl hA
  have hH : Hp w.heap.size A w [] := Hp.nil
  refine C_seq ?_
  refine C_region ?_
  refine V_box rfl rfl ?_
  intro b3 w4 h5
  have hk7 := h5.kp
  have h6 : El (α := staff_Promise) A w4 b3 0 p := h5.el hA ⟨[.int .i64 p.share], _, rfl, rfl, ⟨[.int .i64 p.of], _, rfl, rfl, ⟨[.int .i64 p.wait], _, rfl, rfl, rfl⟩⟩⟩
  have ht8 := Kp.tr hk7 hA hB
  replace hH := Hp.kp hH hk7
  replace h_l := Sl.tr h_l ht8
  replace hK := Tr.trans hK ht8
  replace hB := Nat.le_trans hB ht8.ex.size
  replace hA := ht8.new
  refine V_y (Y_assign rfl) rfl rfl rfl ?_
  refine V_y (Y_assign rfl) rfl rfl rfl ?_
  refine V_to (fun _ _ => rfl) ?_
  refine C_seq ?_
  refine C_seq ?_
  refine C_region ?_
  refine V_y (Y_move rfl) rfl rfl rfl ?_
  refine V_y (Y_lenSl h_l rfl Tryd.underlying22 rfl) rfl rfl rfl ?_
  refine V_y (Y_gtr rfl rfl) rfl rfl rfl ?_
  refine V_to (fun _ _ => rfl) ?_
  refine C_cond rfl (fun hc9 => ?_) (fun hc9 => ?_)
  · rw [if_pos hc9] at hm
    refine C_seq ?_
    refine C_region ?_
    refine V_y (Y_assign rfl) rfl rfl rfl ?_
    refine V_y (Y_assign rfl) rfl rfl rfl ?_
    refine V_to (fun _ _ => rfl) ?_
    obtain rfl := Option.some.inj hm
    replace hH : Hp w.heap.size A w4 (obS (α := Int) 3 (.slice none 0 0) ([] : (List Int)) :: []) := Hp.addNil (α := Int) (e := 3) hH
    refine C_ret ?_
    try simp only [↓inBlock_ret, ↓then_ret]
    exact retQ rfl (Res.two Tryd.results5 rfl rfl) ⟨.slice none 0 0, rfl, (Hp.ownd hH (i := 0) rfl), hK.kp⟩
  · rw [if_neg (nt hc9)] at hm
    refine C_skip_to (fun _ _ => rfl) ?_
    refine C_seq ?_
    refine C_seq ?_
    refine C_region ?_
    refine V_y (Y_move rfl) rfl rfl rfl ?_
    refine V_y (Y_lenSl h_l rfl Tryd.underlying22 rfl) rfl rfl rfl ?_
    refine V_y (Y_move rfl) rfl rfl rfl ?_
    refine V_to (fun _ _ => rfl) ?_
    have hn30 := Sl.le h_l
    obtain ⟨o10, ho10, hm⟩ := Option.bind_eq_some_iff.1 hm
    refine C_cutG (ι := (Unit × (Nat → Prop))) (fun ⟨s11, A17⟩ => [(0, v_l), (3, .pointer (some ⟨b3, 0, none⟩))]) (fun ⟨s11, A17⟩ => fun w' => o10 = .fin s11 ∧ Hp w.heap.size A17 w' ([]) ∧ Tr w.heap.size A w4 A17 w') ?_ ?_
    · refine C_block ?_
      refine C_range ho10 (fun k13 _ a w' => ∃ i : (Nat → Prop), Has ⟨56, [], none⟩ a ([(0, v_l), (3, .pointer (some ⟨b3, 0, none⟩)), (18, v_l), (19, .int .i64 (l.length : Int)), (20, .int .i64 (k13 : Int))]) ∧ Hp w.heap.size i w' ([]) ∧ Tr w.heap.size A w4 i w') (fun a ha => ⟨A, ha.sub ⟨rfl, rfl, rfl, rfl, rfl, trivial⟩, ⟨hH, Tr.refl hA⟩⟩) ?_
      rintro K k13 _ a w20 ⟨A21, ha53, hH22, hr12⟩ hle26 K29 h28
      refine C_of ?_ ha53
      replace h_l := Sl.tr h_l hr12
      replace h6 := El.tr h6 hr12
      replace hK := Tr.trans hK hr12
      replace hB := Nat.le_trans hB hr12.ex.size
      replace hA := hr12.new
      replace hH : Hp w.heap.size A21 w20 ([]) := hH22
      refine C_seq (C_region (V_y (Y_lss rfl rfl) rfl rfl rfl (V_to (fun _ _ => rfl) ?_)))
      refine C_seq ?_
      refine C_cond rfl (fun hc31 => ?_) (fun hc31 => ?_)
      · have hlt27 := lt_of_dec hc31
        obtain ⟨x23, h24, h25⟩ := K29 hlt27
        refine C_skip_to (fun _ _ => rfl) ?_
        refine C_seq ?_
        refine C_block ?_
        refine C_seq ?_
        refine C_region ?_
        obtain ⟨x32, hx32, h24⟩ := Option.bind_eq_some_iff.1 h24
        refine V_indexAddr h_l hx32 Tryd.underlying22 Tryd.sizeOf34 rfl rfl rfl ?_
        intro b33 o34 h35
        obtain ⟨h36, _⟩ := El_staff_Load h35
        refine V_y (Y_loadA h36 Tryd.isAgg34 Tryd.sizeOf34 rfl) rfl rfl rfl ?_
        refine V_alloc Tryd.zeroValue34 rfl ?_
        intro b37 w38 h39
        refine V_storeNew h39 Tryd.sizeOf34 rfl rfl rfl rfl (by exact (List.forall_mem_cons.2 ⟨rfl, (List.forall_mem_cons.2 ⟨rfl, (List.forall_mem_cons.2 ⟨rfl, (fun _ h => nomatch h)⟩)⟩)⟩)) ?_
        intro w40 h41
        have hk43 := h41.kp
        have h42 : El (α := staff_Load) A21 w40 b37 0 x32 := h41.el hA ⟨[.int .i64 x32.calls], _, rfl, rfl, ⟨[.int .i64 x32.length], _, rfl, rfl, rfl⟩⟩
        have ht44 := Kp.tr hk43 hA hB
        replace hH := Hp.kp hH hk43
        replace h_l := Sl.tr h_l ht44
        replace h6 := El.tr h6 ht44
        replace h35 := El.tr h35 ht44
        replace hK := Tr.trans hK ht44
        replace hr12 := Tr.trans hr12 ht44
        replace hB := Nat.le_trans hB ht44.ex.size
        replace hA := ht44.new
        refine V_to (fun _ _ => rfl) ?_
        refine C_seq ?_
        refine C_region ?_
        obtain ⟨h45, _⟩ := El_staff_Load h42
        refine V_y (Y_loadA h45 Tryd.isAgg34 Tryd.sizeOf34 rfl) rfl rfl rfl ?_
        obtain ⟨x46, hx46, h24⟩ := Option.bind_eq_some_iff.1 h24
        refine V_call Tryd.call10 rfl rfl rfl rfl (staff_checkLoad_c w40 hA x32 hx46) ?_
        rintro _ w47 ⟨rfl, hk48⟩
        have ht49 := Kp.tr hk48 hA hB
        replace hH := Hp.kp hH hk48
        replace h_l := Sl.tr h_l ht49
        replace h6 := El.tr h6 ht49
        replace h42 := El.tr h42 ht49
        replace hK := Tr.trans hK ht49
        replace hr12 := Tr.trans hr12 ht49
        replace hB := Nat.le_trans hB ht49.ex.size
        replace hA := ht49.new
        refine V_y (Y_assign rfl) rfl rfl rfl ?_
        refine V_to (fun _ _ => rfl) ?_
        refine C_seq ?_
        refine C_region ?_
        refine V_y (Y_move rfl) rfl rfl rfl ?_
        refine V_y (Y_neq rfl rfl) rfl rfl rfl ?_
        refine V_to (fun _ _ => rfl) ?_
        refine C_cond rfl (fun hc50 => ?_) (fun hc50 => ?_)
        · rw [if_pos hc50] at h24
          refine C_seq ?_
          refine C_region ?_
          refine V_y (Y_move rfl) rfl rfl rfl ?_
          refine V_y (Y_assign rfl) rfl rfl rfl ?_
          refine V_y (Y_assign rfl) rfl rfl rfl ?_
          refine V_to (fun _ _ => rfl) ?_
          obtain rfl := Option.some.inj h24
          obtain rfl := (h25 : Lp.rt _ = _)
          rw [Lp.andThen_rt] at hm
          obtain rfl := Option.some.inj hm
          replace hH : Hp w.heap.size A21 w47 (obS (α := Int) 3 (.slice none 0 0) ([] : (List Int)) :: []) := Hp.addNil (α := Int) (e := 3) hH
          refine C_ret ?_
          try simp only [↓inBlock_ret, ↓then_ret]
          exact retQ rfl (Res.two Tryd.results5 rfl rfl) ⟨.slice none 0 0, rfl, (Hp.ownd hH (i := 0) rfl), hK.kp⟩
        · rw [if_neg (nt hc50)] at h24
          refine C_skip_to (fun _ _ => rfl) ?_
          refine C_region ?_
          refine V_y (Y_addI rfl rfl) rfl rfl rfl ?_
          refine V_y (Y_move rfl) rfl rfl rfl ?_
          obtain rfl := Option.some.inj h24
          refine V_end (fun a ha51 => ?_)
          exact ⟨(), hlt27, h25, ⟨A21, ha51.sub ⟨rfl, rfl, rfl, rfl, (congrArg (fun z => some (Value.int .i64 z)) (w64_succ hlt27 hn30)), trivial⟩, ⟨hH, hr12⟩⟩⟩
      · refine C_exit (fun a ha52 => ?_)
        exact ⟨((), A21), ha52.sub ⟨rfl, rfl, trivial⟩, ⟨(h28 (eq_of_dec hle26 hc31)).symm, hH, hr12⟩⟩
    rintro ⟨s11, A17⟩ w14 ⟨rfl, hH18, hk15⟩ a ha16
    rw [Lp.andThen_fin] at hm
    replace h_l := Sl.tr h_l hk15
    replace h6 := El.tr h6 hk15
    replace hK := Tr.trans hK hk15
    replace hB := Nat.le_trans hB hk15.ex.size
    replace hA := hk15.new
    replace hH : Hp w.heap.size A17 w14 ([]) := hH18
    refine C_at (n := ⟨56, [], none⟩) (fun _ _ => rfl) ?_ ha16
    refine C_seq ?_
    refine C_seq ?_
    refine C_region ?_
    obtain ⟨h54, _⟩ := El_staff_Promise h6
    refine V_y (Y_loadA h54 Tryd.isAgg24 Tryd.sizeOf24 rfl) rfl rfl rfl ?_
    obtain ⟨x55, hx55, hm⟩ := Option.bind_eq_some_iff.1 hm
    refine V_call Tryd.call11 rfl rfl rfl rfl (staff_checkPromise_c w14 hA p hx55) ?_
    rintro _ w56 ⟨rfl, hk57⟩
    have ht58 := Kp.tr hk57 hA hB
    replace hH := Hp.kp hH hk57
    replace h_l := Sl.tr h_l ht58
    replace h6 := El.tr h6 ht58
    replace hK := Tr.trans hK ht58
    replace hB := Nat.le_trans hB ht58.ex.size
    replace hA := ht58.new
    refine V_y (Y_assign rfl) rfl rfl rfl ?_
    refine V_to (fun _ _ => rfl) ?_
    refine C_seq ?_
    refine C_region ?_
    refine V_y (Y_move rfl) rfl rfl rfl ?_
    refine V_y (Y_neq rfl rfl) rfl rfl rfl ?_
    refine V_to (fun _ _ => rfl) ?_
    refine C_cond rfl (fun hc59 => ?_) (fun hc59 => ?_)
    · rw [if_pos hc59] at hm
      refine C_seq ?_
      refine C_region ?_
      refine V_y (Y_move rfl) rfl rfl rfl ?_
      refine V_y (Y_assign rfl) rfl rfl rfl ?_
      refine V_y (Y_assign rfl) rfl rfl rfl ?_
      refine V_to (fun _ _ => rfl) ?_
      obtain rfl := Option.some.inj hm
      replace hH : Hp w.heap.size A17 w56 (obS (α := Int) 3 (.slice none 0 0) ([] : (List Int)) :: []) := Hp.addNil (α := Int) (e := 3) hH
      refine C_ret ?_
      try simp only [↓inBlock_ret, ↓then_ret]
      exact retQ rfl (Res.two Tryd.results5 rfl rfl) ⟨.slice none 0 0, rfl, (Hp.ownd hH (i := 0) rfl), hK.kp⟩
    · rw [if_neg (nt hc59)] at hm
      refine C_skip_to (fun _ _ => rfl) ?_
      refine C_seq ?_
      refine C_region ?_
      refine V_y (Y_assign rfl) rfl rfl rfl ?_
      refine V_to (fun _ _ => rfl) ?_
      refine C_seq ?_
      refine C_seq ?_
      refine C_region ?_
      refine V_y (Y_move rfl) rfl rfl rfl ?_
      refine V_y (Y_lenSl h_l rfl Tryd.underlying22 rfl) rfl rfl rfl ?_
      refine V_y (Y_move rfl) rfl rfl rfl ?_
      refine V_to (fun _ _ => rfl) ?_
      replace hH : Hp w.heap.size A17 w56 (obS (α := Int) 3 (.slice none 0 0) ([] : (List Int)) :: []) := Hp.addNil (α := Int) (e := 3) hH
      have hn85 := Sl.le h_l
      obtain ⟨o60, ho60, hm⟩ := Option.bind_eq_some_iff.1 hm
      refine C_cutG (ι := ((List Int) × Value × (Nat → Prop))) (fun ⟨s61, v68, A70⟩ => [(10, v68)]) (fun ⟨s61, v68, A70⟩ => fun w' => o60 = .fin s61 ∧ Hp w.heap.size A70 w' (obS (α := Int) 3 v68 s61 :: []) ∧ Tr w.heap.size A17 w56 A70 w') ?_ ?_
      · refine C_block ?_
        refine C_range ho60 (fun k63 s72 a w' => ∃ i : (Value × (Nat → Prop)), Has ⟨56, [], none⟩ a ([(3, .pointer (some ⟨b3, 0, none⟩)), (10, i.1), (35, v_l), (36, .int .i64 (l.length : Int)), (37, .int .i64 (k63 : Int))]) ∧ Hp w.heap.size i.2 w' (obS (α := Int) 3 i.1 s72 :: []) ∧ Tr w.heap.size A17 w56 i.2 w') (fun a ha => ⟨(.slice none 0 0, A17), ha.sub ⟨rfl, rfl, rfl, rfl, rfl, trivial⟩, ⟨hH, Tr.refl hA⟩⟩) ?_
        rintro K k63 s72 a w73 ⟨⟨v74, A76⟩, ha120, hH77, hr62⟩ hle81 K84 h83
        refine C_of ?_ ha120
        replace h6 := El.tr h6 hr62
        replace h_l := Sl.tr h_l hr62
        replace hK := Tr.trans hK hr62
        replace hB := Nat.le_trans hB hr62.ex.size
        replace hA := hr62.new
        replace hH : Hp w.heap.size A76 w73 (obS (α := Int) 3 v74 s72 :: []) := hH77
        refine C_seq (C_region (V_y (Y_lss rfl rfl) rfl rfl rfl (V_to (fun _ _ => rfl) ?_)))
        refine C_seq ?_
        refine C_cond rfl (fun hc86 => ?_) (fun hc86 => ?_)
        · have hlt82 := lt_of_dec hc86
          obtain ⟨x78, h79, h80⟩ := K84 hlt82
          refine C_skip_to (fun _ _ => rfl) ?_
          refine C_seq ?_
          refine C_block ?_
          refine C_seq ?_
          refine C_region ?_
          obtain ⟨x87, hx87, h79⟩ := Option.bind_eq_some_iff.1 h79
          refine V_indexAddr h_l hx87 Tryd.underlying22 Tryd.sizeOf34 rfl rfl rfl ?_
          intro b88 o89 h90
          obtain ⟨h91, _⟩ := El_staff_Load h90
          refine V_y (Y_loadA h91 Tryd.isAgg34 Tryd.sizeOf34 rfl) rfl rfl rfl ?_
          refine V_alloc Tryd.zeroValue34 rfl ?_
          intro b92 w93 h94
          refine V_storeNew h94 Tryd.sizeOf34 rfl rfl rfl rfl (by exact (List.forall_mem_cons.2 ⟨rfl, (List.forall_mem_cons.2 ⟨rfl, (List.forall_mem_cons.2 ⟨rfl, (fun _ h => nomatch h)⟩)⟩)⟩)) ?_
          intro w95 h96
          have hk98 := h96.kp
          have h97 : El (α := staff_Load) A76 w95 b92 0 x87 := h96.el hA ⟨[.int .i64 x87.calls], _, rfl, rfl, ⟨[.int .i64 x87.length], _, rfl, rfl, rfl⟩⟩
          have ht99 := Kp.tr hk98 hA hB
          replace hH := Hp.kp hH hk98
          replace h6 := El.tr h6 ht99
          replace h_l := Sl.tr h_l ht99
          replace h90 := El.tr h90 ht99
          replace hK := Tr.trans hK ht99
          replace hr62 := Tr.trans hr62 ht99
          replace hB := Nat.le_trans hB ht99.ex.size
          replace hA := ht99.new
          refine V_to (fun _ _ => rfl) ?_
          refine C_seq ?_
          refine C_region ?_
          obtain ⟨h100, _⟩ := El_staff_Load h97
          refine V_y (Y_loadA h100 Tryd.isAgg34 Tryd.sizeOf34 rfl) rfl rfl rfl ?_
          obtain ⟨h101, _⟩ := El_staff_Promise h6
          refine V_y (Y_loadA h101 Tryd.isAgg24 Tryd.sizeOf24 rfl) rfl rfl rfl ?_
          obtain ⟨x102, hx102, h79⟩ := Option.bind_eq_some_iff.1 h79
          refine V_call Tryd.call12 rfl rfl rfl rfl (staff_Staff_c w95 hA x87 p hx102) ?_
          rintro _ w103 ⟨rfl, hk104⟩
          have ht105 := Kp.tr hk104 hA hB
          replace hH := Hp.kp hH hk104
          replace h6 := El.tr h6 ht105
          replace h_l := Sl.tr h_l ht105
          replace h97 := El.tr h97 ht105
          replace hK := Tr.trans hK ht105
          replace hr62 := Tr.trans hr62 ht105
          replace hB := Nat.le_trans hB ht105.ex.size
          replace hA := ht105.new
          refine V_y (Y_move rfl) rfl rfl rfl ?_
          refine V_y (Y_extract rfl rfl) rfl rfl rfl ?_
          refine V_y (Y_extract rfl rfl) rfl rfl rfl ?_
          refine V_y (Y_assign rfl) rfl rfl rfl ?_
          refine V_y (Y_assign rfl) rfl rfl rfl ?_
          refine V_to (fun _ _ => rfl) ?_
          refine C_seq ?_
          refine C_seq ?_
          refine C_region ?_
          refine V_y (Y_move rfl) rfl rfl rfl ?_
          refine V_y (Y_neq rfl rfl) rfl rfl rfl ?_
          refine V_to (fun _ _ => rfl) ?_
          refine C_cond rfl (fun hc106 => ?_) (fun hc106 => ?_)
          · rw [if_pos hc106] at h79
            refine C_seq ?_
            refine C_region ?_
            refine V_y (Y_move rfl) rfl rfl rfl ?_
            refine V_y (Y_assign rfl) rfl rfl rfl ?_
            refine V_y (Y_assign rfl) rfl rfl rfl ?_
            refine V_to (fun _ _ => rfl) ?_
            obtain rfl := Option.some.inj h79
            obtain rfl := (h80 : Lp.rt _ = _)
            rw [Lp.andThen_rt] at hm
            obtain rfl := Option.some.inj hm
            replace hH : Hp w.heap.size A76 w103 (obS (α := Int) 3 (.slice none 0 0) ([] : (List Int)) :: obS (α := Int) 3 v74 s72 :: []) := Hp.addNil (α := Int) (e := 3) hH
            refine C_ret ?_
            try simp only [↓inBlock_ret, ↓then_ret]
            exact retQ rfl (Res.two Tryd.results5 rfl rfl) ⟨.slice none 0 0, rfl, (Hp.ownd hH (i := 0) rfl), hK.kp⟩
          · rw [if_neg (nt hc106)] at h79
            refine C_skip_to (fun _ _ => rfl) ?_
            refine C_region ?_
            refine V_y (Y_move rfl) rfl rfl rfl ?_
            refine V_y (Y_move rfl) rfl rfl rfl ?_
            refine V_buildSlice (l := ([x102.1] : List Int)) (len := 1) Tryd.underlying27 Tryd.sizeOf3 Tryd.zeroValue3 rfl (by with_unfolding_all rfl) (by decide) (by decide) hA ⟨[.int .i64 x102.1], _, rfl, rfl, rfl⟩ rfl rfl ?_
            intro v107 w108 hk110 h109
            have ht111 := Kp.tr hk110 hA hB
            replace hH := Hp.kp hH hk110
            replace h6 := El.tr h6 ht111
            replace h_l := Sl.tr h_l ht111
            replace hK := Tr.trans hK ht111
            replace hr62 := Tr.trans hr62 ht111
            replace hB := Nat.le_trans hB ht111.ex.size
            replace hA := ht111.new
            obtain ⟨x112, hx112, h79⟩ := Option.bind_eq_some_iff.1 h79
            refine V_appendH (e := 3) (v := v74) (l := s72) (ti := Tryd.t3) (bytes := 8) (lim := 17592186044416) hH (i := 0) rfl h109 hx112 Tryd.underlying27 Tryd_info3 rfl rfl rfl rfl (by decide) (by decide) (by decide) hB hA rfl rfl rfl ?_
            intro v113 w114 A115 hH116 ht117
            replace h6 := El.tr h6 ht117
            replace h_l := Sl.tr h_l ht117
            replace h109 := Sl.tr h109 ht117
            replace hK := Tr.trans hK ht117
            replace hr62 := Tr.trans hr62 ht117
            replace hB := Nat.le_trans hB ht117.ex.size
            replace hA := ht117.new
            replace hH : Hp w.heap.size A115 w114 (obS (α := Int) 3 v113 x112 :: []) := hH116
            refine V_y (Y_assign rfl) rfl rfl rfl ?_
            refine V_to (fun _ _ => rfl) ?_
            refine C_region ?_
            refine V_y (Y_addI rfl rfl) rfl rfl rfl ?_
            refine V_y (Y_move rfl) rfl rfl rfl ?_
            obtain rfl := Option.some.inj h79
            refine V_end (fun a ha118 => ?_)
            exact ⟨x112, hlt82, h80, ⟨(v113, A115), ha118.sub ⟨rfl, rfl, rfl, rfl, (congrArg (fun z => some (Value.int .i64 z)) (w64_succ hlt82 hn85)), trivial⟩, ⟨hH, hr62⟩⟩⟩
        · refine C_exit (fun a ha119 => ?_)
          exact ⟨(s72, v74, A76), ha119.sub ⟨rfl, trivial⟩, ⟨(h83 (eq_of_dec hle81 hc86)).symm, hH, hr62⟩⟩
      rintro ⟨s61, v68, A70⟩ w65 ⟨rfl, hH71, hk66⟩ a ha67
      rw [Lp.andThen_fin] at hm
      replace hK := Tr.trans hK hk66
      replace hB := Nat.le_trans hB hk66.ex.size
      replace hA := hk66.new
      replace hH : Hp w.heap.size A70 w65 (obS (α := Int) 3 v68 s61 :: []) := hH71
      refine C_at (n := ⟨56, [], none⟩) (fun _ _ => rfl) ?_ ha67
      refine C_seq ?_
      refine C_region ?_
      refine V_y (Y_move rfl) rfl rfl rfl ?_
      refine V_y (Y_assign rfl) rfl rfl rfl ?_
      refine V_y (Y_assign rfl) rfl rfl rfl ?_
      refine V_to (fun _ _ => rfl) ?_
      obtain rfl := Option.some.inj hm
      refine C_ret ?_
      try simp only [↓inBlock_ret, ↓then_ret]
      exact retQ rfl (Res.two Tryd.results5 rfl rfl) ⟨v68, rfl, (Hp.ownd hH (i := 0) rfl), hK.kp⟩

set_option maxRecDepth 4000 in
set_option maxHeartbeats 4000000 in
theorem cmp_isNaN_int_c (w : World) (x : Int) : Ret Tryd.prog 34 #[.int .i64 x] w fun v w' => v = .bool (cmp_isNaN_int x) ∧ w = w' := by
  generalize hm : cmp_isNaN_int x = r
  unfold cmp_isNaN_int at hm
  refine enter Tryd.func34 rfl Tryd.ntmps34 rfl ?_
  refine C_seq ?_
  refine C_region ?_
  refine V_y (Y_assign rfl) rfl rfl rfl ?_
  refine V_to (fun _ _ => rfl) ?_
  refine C_seq ?_
  refine C_region ?_
  refine V_y (Y_move rfl) rfl rfl rfl ?_
  refine V_y (Y_move rfl) rfl rfl rfl ?_
  refine V_y (Y_neq rfl rfl) rfl rfl rfl ?_
  refine V_y (Y_assign rfl) rfl rfl rfl ?_
  refine V_to (fun _ _ => rfl) ?_
  obtain rfl := hm
  refine C_ret ?_
  try simp only [↓inBlock_ret, ↓then_ret]
  exact retQ rfl (Res.one Tryd.results34 rfl) ⟨rfl, rfl⟩

set_option maxRecDepth 4000 in
set_option maxHeartbeats 4000000 in
theorem cmp_Compare_int_c (w : World) (x : Int) (y : Int) : Ret Tryd.prog 26 #[.int .i64 x, .int .i64 y] w fun v w' => v = .int .i64 (cmp_Compare_int x y) ∧ w = w' := by
  generalize hm : cmp_Compare_int x y = r
  unfold cmp_Compare_int at hm
  refine enter Tryd.func26 rfl Tryd.ntmps26 rfl ?_
  refine C_seq ?_
  refine C_region ?_
  refine V_y (Y_assign rfl) rfl rfl rfl ?_
  refine V_to (fun _ _ => rfl) ?_
  refine C_seq ?_
  refine C_region ?_
  refine V_y (Y_move rfl) rfl rfl rfl ?_
  refine V_call Tryd.call34 rfl rfl rfl rfl (cmp_isNaN_int_c w x) ?_
  rintro _ _ ⟨rfl, rfl⟩
  refine V_y (Y_assign rfl) rfl rfl rfl ?_
  refine V_to (fun _ _ => rfl) ?_
  refine C_seq ?_
  refine C_region ?_
  refine V_y (Y_move rfl) rfl rfl rfl ?_
  refine V_call Tryd.call34 rfl rfl rfl rfl (cmp_isNaN_int_c w y) ?_
  rintro _ _ ⟨rfl, rfl⟩
  refine V_y (Y_assign rfl) rfl rfl rfl ?_
  refine V_to (fun _ _ => rfl) ?_
  refine C_seq ?_
  refine C_seq ?_
  refine C_region ?_
  refine V_y (Y_move rfl) rfl rfl rfl ?_
  refine V_to (fun _ _ => rfl) ?_
  refine C_cond rfl (fun hc1 => ?_) (fun hc1 => ?_)
  · rw [if_pos hc1] at hm
    refine C_seq ?_
    refine C_seq ?_
    refine C_region ?_
    refine V_y (Y_move rfl) rfl rfl rfl ?_
    refine V_to (fun _ _ => rfl) ?_
    refine C_cond rfl (fun hc2 => ?_) (fun hc2 => ?_)
    · rw [if_pos hc2] at hm
      refine C_seq ?_
      refine C_region ?_
      refine V_y (Y_assign rfl) rfl rfl rfl ?_
      refine V_to (fun _ _ => rfl) ?_
      obtain rfl := hm
      refine C_ret ?_
      try simp only [↓inBlock_ret, ↓then_ret]
      exact retQ rfl (Res.one Tryd.results26 rfl) ⟨rfl, rfl⟩
    · rw [if_neg (nt hc2)] at hm
      refine C_skip_to (fun _ _ => rfl) ?_
      refine C_seq ?_
      refine C_region ?_
      refine V_y (Y_assign rfl) rfl rfl rfl ?_
      refine V_to (fun _ _ => rfl) ?_
      obtain rfl := hm
      refine C_ret ?_
      try simp only [↓inBlock_ret, ↓then_ret]
      exact retQ rfl (Res.one Tryd.results26 rfl) ⟨rfl, rfl⟩
  · rw [if_neg (nt hc1)] at hm
    refine C_skip_to (fun _ _ => rfl) ?_
    refine C_seq ?_
    refine C_seq ?_
    refine C_region ?_
    refine V_y (Y_move rfl) rfl rfl rfl ?_
    refine V_to (fun _ _ => rfl) ?_
    refine C_cond rfl (fun hc3 => ?_) (fun hc3 => ?_)
    · rw [if_pos hc3] at hm
      refine C_seq ?_
      refine C_region ?_
      refine V_y (Y_assign rfl) rfl rfl rfl ?_
      refine V_to (fun _ _ => rfl) ?_
      obtain rfl := hm
      refine C_ret ?_
      try simp only [↓inBlock_ret, ↓then_ret]
      exact retQ rfl (Res.one Tryd.results26 rfl) ⟨rfl, rfl⟩
    · rw [if_neg (nt hc3)] at hm
      refine C_skip_to (fun _ _ => rfl) ?_
      refine C_seq ?_
      refine C_seq ?_
      refine C_region ?_
      refine V_y (Y_move rfl) rfl rfl rfl ?_
      refine V_y (Y_move rfl) rfl rfl rfl ?_
      refine V_y (Y_lss rfl rfl) rfl rfl rfl ?_
      refine V_to (fun _ _ => rfl) ?_
      refine C_cond rfl (fun hc4 => ?_) (fun hc4 => ?_)
      · rw [if_pos hc4] at hm
        refine C_seq ?_
        refine C_region ?_
        refine V_y (Y_assign rfl) rfl rfl rfl ?_
        refine V_to (fun _ _ => rfl) ?_
        obtain rfl := hm
        refine C_ret ?_
        try simp only [↓inBlock_ret, ↓then_ret]
        exact retQ rfl (Res.one Tryd.results26 rfl) ⟨rfl, rfl⟩
      · rw [if_neg (nt hc4)] at hm
        refine C_skip_to (fun _ _ => rfl) ?_
        refine C_seq ?_
        refine C_seq ?_
        refine C_region ?_
        refine V_y (Y_move rfl) rfl rfl rfl ?_
        refine V_y (Y_move rfl) rfl rfl rfl ?_
        refine V_y (Y_gtr rfl rfl) rfl rfl rfl ?_
        refine V_to (fun _ _ => rfl) ?_
        refine C_cond rfl (fun hc5 => ?_) (fun hc5 => ?_)
        · rw [if_pos hc5] at hm
          refine C_seq ?_
          refine C_region ?_
          refine V_y (Y_assign rfl) rfl rfl rfl ?_
          refine V_to (fun _ _ => rfl) ?_
          obtain rfl := hm
          refine C_ret ?_
          try simp only [↓inBlock_ret, ↓then_ret]
          exact retQ rfl (Res.one Tryd.results26 rfl) ⟨rfl, rfl⟩
        · rw [if_neg (nt hc5)] at hm
          refine C_skip_to (fun _ _ => rfl) ?_
          refine C_seq ?_
          refine C_region ?_
          refine V_y (Y_assign rfl) rfl rfl rfl ?_
          refine V_to (fun _ _ => rfl) ?_
          obtain rfl := hm
          refine C_ret ?_
          try simp only [↓inBlock_ret, ↓then_ret]
          exact retQ rfl (Res.one Tryd.results26 rfl) ⟨rfl, rfl⟩

set_option maxRecDepth 4000 in
set_option maxHeartbeats 4000000 in
theorem cmp_Or_int_c (w : World) {A : Nat → Prop} (vals : (List Int)) (v_vals : Value) (h_vals : Sl A w v_vals vals) {r : Int} (hm : cmp_Or_int vals = some r) : Ret Tryd.prog 25 #[v_vals] w fun v w' => v = .int .i64 r ∧ w = w' := by
  unfold cmp_Or_int at hm
  refine enter Tryd.func25 rfl Tryd.ntmps25 rfl ?_
  refine C_seq ?_
  refine C_region ?_
  refine V_y (Y_assign rfl) rfl rfl rfl ?_
  refine V_to (fun _ _ => rfl) ?_
  refine C_seq ?_
  refine C_region ?_
  refine V_y (Y_assign rfl) rfl rfl rfl ?_
  refine V_to (fun _ _ => rfl) ?_
  refine C_seq ?_
  refine C_seq ?_
  refine C_region ?_
  refine V_y (Y_move rfl) rfl rfl rfl ?_
  refine V_y (Y_lenSl h_vals rfl Tryd.underlying27 rfl) rfl rfl rfl ?_
  refine V_y (Y_move rfl) rfl rfl rfl ?_
  refine V_to (fun _ _ => rfl) ?_
  have hn19 := Sl.le h_vals
  obtain ⟨o3, ho3, hm⟩ := Option.bind_eq_some_iff.1 hm
  refine C_cutG (ι := Unit) (fun (s4 : Unit) => [(3, .int .i64 0)]) (fun (s4 : Unit) => fun w' => o3 = .fin s4 ∧ w = w') ?_ ?_
  · refine C_block ?_
    refine C_range ho3 (fun k6 _ a w' => ∃ i : Unit, Has ⟨18, [], none⟩ a ([(3, .int .i64 0), (6, v_vals), (7, .int .i64 (vals.length : Int)), (8, .int .i64 (k6 : Int))]) ∧ w = w') (fun a ha => ⟨(), ha.sub ⟨rfl, rfl, rfl, rfl, trivial⟩, rfl⟩) ?_
    rintro K k6 _ a _ ⟨_, ha28, rfl⟩ hle15 K18 h17
    refine C_of ?_ ha28
    refine C_seq (C_region (V_y (Y_lss rfl rfl) rfl rfl rfl (V_to (fun _ _ => rfl) ?_)))
    refine C_seq ?_
    refine C_cond rfl (fun hc20 => ?_) (fun hc20 => ?_)
    · have hlt16 := lt_of_dec hc20
      obtain ⟨x12, h13, h14⟩ := K18 hlt16
      refine C_skip_to (fun _ _ => rfl) ?_
      refine C_seq ?_
      refine C_block ?_
      refine C_seq ?_
      refine C_region ?_
      obtain ⟨x21, hx21, h13⟩ := Option.bind_eq_some_iff.1 h13
      refine V_indexAddr h_vals hx21 Tryd.underlying27 Tryd.sizeOf3 rfl rfl rfl ?_
      intro b22 o23 h24
      refine V_y (Y_load (El.int h24) Tryd.isAgg3 rfl) rfl rfl rfl ?_
      refine V_y (Y_assign rfl) rfl rfl rfl ?_
      refine V_to (fun _ _ => rfl) ?_
      refine C_seq ?_
      refine C_region ?_
      refine V_y (Y_move rfl) rfl rfl rfl ?_
      refine V_y (Y_move rfl) rfl rfl rfl ?_
      refine V_y (Y_neq rfl rfl) rfl rfl rfl ?_
      refine V_to (fun _ _ => rfl) ?_
      refine C_cond rfl (fun hc25 => ?_) (fun hc25 => ?_)
      · rw [if_pos hc25] at h13
        refine C_seq ?_
        refine C_region ?_
        refine V_y (Y_move rfl) rfl rfl rfl ?_
        refine V_y (Y_assign rfl) rfl rfl rfl ?_
        refine V_to (fun _ _ => rfl) ?_
        obtain rfl := Option.some.inj h13
        obtain rfl := (h14 : Lp.rt _ = _)
        rw [Lp.andThen_rt] at hm
        obtain rfl := Option.some.inj hm
        refine C_ret ?_
        try simp only [↓inBlock_ret, ↓then_ret]
        exact retQ rfl (Res.one Tryd.results25 rfl) ⟨rfl, rfl⟩
      · rw [if_neg (nt hc25)] at h13
        refine C_skip_to (fun _ _ => rfl) ?_
        refine C_region ?_
        refine V_y (Y_addI rfl rfl) rfl rfl rfl ?_
        refine V_y (Y_move rfl) rfl rfl rfl ?_
        obtain rfl := Option.some.inj h13
        refine V_end (fun a ha26 => ?_)
        exact ⟨(), hlt16, h14, ⟨(), ha26.sub ⟨rfl, rfl, rfl, (congrArg (fun z => some (Value.int .i64 z)) (w64_succ hlt16 hn19)), trivial⟩, rfl⟩⟩
    · refine C_exit (fun a ha27 => ?_)
      exact ⟨(), ha27.sub ⟨rfl, trivial⟩, ⟨(h17 (eq_of_dec hle15 hc20)).symm, rfl⟩⟩
  rintro s4 _ ⟨rfl, rfl⟩ a ha9
  rw [Lp.andThen_fin] at hm
  refine C_at (n := ⟨18, [], none⟩) (fun _ _ => rfl) ?_ ha9
  refine C_seq ?_
  refine C_region ?_
  refine V_y (Y_move rfl) rfl rfl rfl ?_
  refine V_y (Y_assign rfl) rfl rfl rfl ?_
  refine V_to (fun _ _ => rfl) ?_
  obtain rfl := Option.some.inj hm
  refine C_ret ?_
  try simp only [↓inBlock_ret, ↓then_ret]
  exact retQ rfl (Res.one Tryd.results25 rfl) ⟨rfl, rfl⟩

set_option maxRecDepth 4000 in
set_option maxHeartbeats 4000000 in
theorem staff_CheckForms_c (w : World) {A : Nat → Prop} (hA : ∀ b, w.heap.size ≤ b → A b) (l : (List staff_Form)) (v_l : Value) (h_l : Sl A w v_l l) {r : Int} (hm : staff_CheckForms l = some r) : Ret Tryd.prog 14 #[v_l] w fun v w' => v = .int .i64 r ∧ Kp w w' := by
  unfold staff_CheckForms at hm
  refine enter Tryd.func14 rfl Tryd.ntmps14 rfl ?_
  have hA0 := hA
  have hB := Nat.le_refl w.heap.size
  have hK : Tr w.heap.size A w A w := Tr.refl hA
  have hH : Hp w.heap.size A w [] := Hp.nil
  refine C_seq ?_
  refine C_region ?_
  refine V_y (Y_assign rfl) rfl rfl rfl ?_
  refine V_to (fun _ _ => rfl) ?_
  refine C_seq ?_
  refine C_seq ?_
  refine C_region ?_
  refine V_y (Y_move rfl) rfl rfl rfl ?_
  refine V_y (Y_lenSl h_l rfl Tryd.underlying25 rfl) rfl rfl rfl ?_
  refine V_y (Y_gtr rfl rfl) rfl rfl rfl ?_
  refine V_to (fun _ _ => rfl) ?_
  refine C_cond rfl (fun hc3 => ?_) (fun hc3 => ?_)
  · rw [if_pos hc3] at hm
    refine C_seq ?_
    refine C_region ?_
    refine V_y (Y_assign rfl) rfl rfl rfl ?_
    refine V_to (fun _ _ => rfl) ?_
    obtain rfl := Option.some.inj hm
    refine C_ret ?_
    try simp only [↓inBlock_ret, ↓then_ret]
    exact retQ rfl (Res.one Tryd.results14 rfl) ⟨rfl, hK.kp⟩
  · rw [if_neg (nt hc3)] at hm
    refine C_skip_to (fun _ _ => rfl) ?_
    refine C_seq ?_
    refine C_seq ?_
    refine C_region ?_
    refine V_y (Y_move rfl) rfl rfl rfl ?_
    refine V_y (Y_lenSl h_l rfl Tryd.underlying25 rfl) rfl rfl rfl ?_
    refine V_y (Y_move rfl) rfl rfl rfl ?_
    refine V_to (fun _ _ => rfl) ?_
    have hn25 := Sl.le h_l
    obtain ⟨o4, ho4, hm⟩ := Option.bind_eq_some_iff.1 hm
    refine C_cutG (ι := (Unit × (Nat → Prop))) (fun ⟨s5, A12⟩ => []) (fun ⟨s5, A12⟩ => fun w' => o4 = .fin s5 ∧ Hp w.heap.size A12 w' ([]) ∧ Tr w.heap.size A w A12 w') ?_ ?_
    · refine C_block ?_
      refine C_range ho4 (fun k7 _ a w' => ∃ i : (Nat → Prop), Has ⟨54, [], none⟩ a ([(0, v_l), (8, v_l), (9, .int .i64 (l.length : Int)), (10, .int .i64 (k7 : Int))]) ∧ Hp w.heap.size i w' ([]) ∧ Tr w.heap.size A w i w') (fun a ha => ⟨A, ha.sub ⟨rfl, rfl, rfl, rfl, trivial⟩, ⟨hH, Tr.refl hA⟩⟩) ?_
      rintro K k7 _ a w15 ⟨A16, ha83, hH17, hr6⟩ hle21 K24 h23
      refine C_of ?_ ha83
      replace h_l := Sl.tr h_l hr6
      replace hK := Tr.trans hK hr6
      replace hB := Nat.le_trans hB hr6.ex.size
      replace hA := hr6.new
      replace hH : Hp w.heap.size A16 w15 ([]) := hH17
      refine C_seq (C_region (V_y (Y_lss rfl rfl) rfl rfl rfl (V_to (fun _ _ => rfl) ?_)))
      refine C_seq ?_
      refine C_cond rfl (fun hc26 => ?_) (fun hc26 => ?_)
      · have hlt22 := lt_of_dec hc26
        obtain ⟨x18, h19, h20⟩ := K24 hlt22
        refine C_skip_to (fun _ _ => rfl) ?_
        refine C_seq ?_
        refine C_block ?_
        refine C_seq ?_
        refine C_region ?_
        refine V_y (Y_move rfl) rfl rfl rfl ?_
        obtain ⟨x27, hx27, h19⟩ := Option.bind_eq_some_iff.1 h19
        refine V_indexAddr h_l hx27 Tryd.underlying25 Tryd.sizeOf51 rfl rfl rfl ?_
        intro b28 o29 h30
        obtain ⟨h31, _⟩ := El_staff_Form h30
        refine V_y (Y_loadA h31 Tryd.isAgg51 Tryd.sizeOf51 rfl) rfl rfl rfl ?_
        refine V_alloc Tryd.zeroValue51 rfl ?_
        intro b32 w33 h34
        refine V_y (Y_assign rfl) rfl rfl rfl ?_
        refine V_storeNew h34 Tryd.sizeOf51 rfl rfl rfl rfl (by exact (List.forall_mem_cons.2 ⟨rfl, (List.forall_mem_cons.2 ⟨rfl, (fun _ h => nomatch h)⟩)⟩)) ?_
        intro w35 h36
        have hk38 := h36.kp
        have h37 : El (α := staff_Form) A16 w35 b32 0 x27 := h36.el hA ⟨[.int .i64 x27.from_], _, rfl, rfl, rfl⟩
        have ht39 := Kp.tr hk38 hA hB
        replace hH := Hp.kp hH hk38
        replace h_l := Sl.tr h_l ht39
        replace h30 := El.tr h30 ht39
        replace hK := Tr.trans hK ht39
        replace hr6 := Tr.trans hr6 ht39
        replace hB := Nat.le_trans hB ht39.ex.size
        replace hA := ht39.new
        refine V_to (fun _ _ => rfl) ?_
        refine C_seq ?_
        refine C_seq ?_
        refine C_region ?_
        have h40 := El_staff_Form_0 h37
        refine V_y (Y_fieldAddr Tryd.underlying51 rfl Tryd.sizeOf3 (by decide) rfl) rfl rfl rfl ?_
        refine V_y (Y_load (El.int h40) Tryd.isAgg3 rfl) rfl rfl rfl ?_
        refine V_call Tryd.call18 rfl rfl rfl rfl (staff_within_c w35 x27.from_ 0 399) ?_
        rintro _ _ ⟨rfl, rfl⟩
        refine V_y (Y_not rfl) rfl rfl rfl ?_
        refine V_y (Y_move rfl) rfl rfl rfl ?_
        refine V_cut 8 (fun _ : Unit => [(0, v_l), (3, .int .i64 (k7 : Int)), (4, .pointer (some ⟨b32, 0, none⟩)), (8, v_l), (9, .int .i64 (l.length : Int)), (10, .int .i64 (k7 : Int)), (27, .bool ((!(staff_within x27.from_ 0 399)) || (!(staff_within x27.slots 1 (w64 (400 - x27.from_))))))]) (fun _ w' => w35 = w') ?_ ?_
        · simp only [List.take, List.drop]
          rcases Bool.eq_false_or_eq_true (!(staff_within x27.from_ 0 399)) with hc41 | hc41
          · refine V_gn rfl rfl rfl hc41 rfl rfl rfl ?_
            refine V_gn rfl rfl rfl hc41 rfl rfl rfl ?_
            refine V_gn rfl rfl rfl hc41 rfl rfl rfl ?_
            refine V_gn rfl rfl rfl hc41 rfl rfl rfl ?_
            refine V_gn rfl rfl rfl hc41 rfl rfl rfl ?_
            refine V_gn rfl rfl rfl hc41 rfl rfl rfl ?_
            refine V_gn rfl rfl rfl hc41 rfl rfl rfl ?_
            refine V_y (Y_pick_te rfl hc41 rfl) rfl rfl rfl ?_
            exact V_end fun a ha => ⟨(), ha.sub ⟨rfl, rfl, rfl, rfl, rfl, rfl, (by rw [hc41]; rfl), trivial⟩, rfl⟩
          · refine V_ge rfl rfl rfl hc41 ?_
            have h43 := El_staff_Form_1 h37
            refine V_y (Y_fieldAddr Tryd.underlying51 rfl Tryd.sizeOf3 (by decide) rfl) rfl rfl rfl ?_
            refine V_ge rfl rfl rfl hc41 ?_
            refine V_y (Y_load (El.int h43) Tryd.isAgg3 rfl) rfl rfl rfl ?_
            refine V_ge rfl rfl rfl hc41 ?_
            have h44 := El_staff_Form_0 h37
            refine V_y (Y_fieldAddr Tryd.underlying51 rfl Tryd.sizeOf3 (by decide) rfl) rfl rfl rfl ?_
            refine V_ge rfl rfl rfl hc41 ?_
            refine V_y (Y_load (El.int h44) Tryd.isAgg3 rfl) rfl rfl rfl ?_
            refine V_ge rfl rfl rfl hc41 ?_
            refine V_y (Y_subI rfl rfl) rfl rfl rfl ?_
            refine V_ge rfl rfl rfl hc41 ?_
            refine V_call Tryd.call18 rfl rfl rfl rfl (staff_within_c w35 x27.slots 1 (w64 (400 - x27.from_))) ?_
            rintro _ _ ⟨rfl, rfl⟩
            refine V_ge rfl rfl rfl hc41 ?_
            refine V_y (Y_not rfl) rfl rfl rfl ?_
            refine V_y (Y_pick_fe rfl hc41 rfl) rfl rfl rfl ?_
            exact V_end fun a ha => ⟨(), ha.sub ⟨rfl, rfl, rfl, rfl, rfl, rfl, (by rw [hc41]; rfl), trivial⟩, rfl⟩
        simp only [List.take, List.drop]
        rintro _ _ rfl
        refine V_to (fun _ _ => rfl) ?_
        refine C_cond rfl (fun hc45 => ?_) (fun hc45 => ?_)
        · rw [if_pos hc45] at h19
          refine C_seq ?_
          refine C_region ?_
          refine V_y (Y_assign rfl) rfl rfl rfl ?_
          refine V_to (fun _ _ => rfl) ?_
          obtain rfl := Option.some.inj h19
          obtain rfl := (h20 : Lp.rt _ = _)
          rw [Lp.andThen_rt] at hm
          obtain rfl := Option.some.inj hm
          refine C_ret ?_
          try simp only [↓inBlock_ret, ↓then_ret]
          exact retQ rfl (Res.one Tryd.results14 rfl) ⟨rfl, hK.kp⟩
        · rw [if_neg (nt hc45)] at h19
          refine C_skip_to (fun _ _ => rfl) ?_
          refine C_seq ?_
          obtain ⟨s47, ho46, h19⟩ := Option.bind_eq_some_iff.1 h19
          refine C_cutG (ι := (Nat → Prop)) (fun (A52 : (Nat → Prop)) => [(0, v_l), (8, v_l), (9, .int .i64 (l.length : Int)), (10, .int .i64 (k7 : Int)), (52, .bool s47)]) (fun (A52 : (Nat → Prop)) => fun w' => Hp w.heap.size A52 w' ([]) ∧ Tr w.heap.size A16 w35 A52 w') ?_ ?_
          · have hr48 : Tr w.heap.size A16 w35 A16 w35 := Tr.refl hA
            refine C_region_qt 21 Tryd_mixed (by kernel_rfl) ?_
            simp only [List.take, List.drop]
            refine VQ_y (fun w' hw' => Y_move rfl) rfl rfl rfl ?_
            refine VQ_y (fun w' hw' => Y_gtr rfl rfl) rfl rfl rfl ?_
            refine VQ_y (fun w' hw' => Y_move rfl) rfl rfl rfl ?_
            rcases Bool.eq_false_or_eq_true (decide ((0 : Int) < (k7 : Int))) with hc54 | hc54
            · rw [if_pos hc54] at ho46
              refine VQ_ge rfl rfl rfl hc54 ?_
              have h55 := El_staff_Form_0 h37
              refine VQ_y (fun w' hw' => Y_fieldAddr Tryd.underlying51 rfl Tryd.sizeOf3 (by decide) rfl) rfl rfl rfl ?_
              refine VQ_ge rfl rfl rfl hc54 ?_
              refine VQ_y (fun w' hw' => Y_load (El.int (El.kp h55 hw')) Tryd.isAgg3 rfl) rfl rfl rfl ?_
              refine VQ_ge rfl rfl rfl hc54 ?_
              refine VQ_y (fun w' hw' => Y_move rfl) rfl rfl rfl ?_
              refine VQ_ge rfl rfl rfl hc54 ?_
              refine VQ_y (fun w' hw' => Y_move rfl) rfl rfl rfl ?_
              refine VQ_ge rfl rfl rfl hc54 ?_
              refine VQ_y (fun w' hw' => Y_subI rfl rfl) rfl rfl rfl ?_
              refine VQ_ge rfl rfl rfl hc54 ?_
              obtain ⟨x56, hx56, ho46⟩ := Option.bind_eq_some_iff.1 ho46
              refine VQ_indexAddr h_l hx56 Tryd.underlying25 Tryd.sizeOf51 rfl rfl rfl ?_
              intro b57 o58 h59
              refine VQ_ge rfl rfl rfl hc54 ?_
              have h60 := El_staff_Form_0 h59
              refine VQ_y (fun w' hw' => Y_fieldAddr Tryd.underlying51 rfl Tryd.sizeOf3 (by decide) rfl) rfl rfl rfl ?_
              refine VQ_ge rfl rfl rfl hc54 ?_
              refine VQ_y (fun w' hw' => Y_load (El.int (El.kp h60 hw')) Tryd.isAgg3 rfl) rfl rfl rfl ?_
              refine VQ_ge rfl rfl rfl hc54 ?_
              refine VQ_call (.int .i64 (cmp_Compare_int x27.from_ x56.from_)) Tryd.call26 rfl rfl rfl rfl (fun w' hw' => (cmp_Compare_int_c w' x27.from_ x56.from_).mono (fun _ _ h => ⟨h.1, h.2 ▸ hw'⟩)) ?_
              refine VQ_ge rfl rfl rfl hc54 ?_
              have h61 := El_staff_Form_1 h37
              refine VQ_y (fun w' hw' => Y_fieldAddr Tryd.underlying51 rfl Tryd.sizeOf3 (by decide) rfl) rfl rfl rfl ?_
              refine VQ_ge rfl rfl rfl hc54 ?_
              refine VQ_y (fun w' hw' => Y_load (El.int (El.kp h61 hw')) Tryd.isAgg3 rfl) rfl rfl rfl ?_
              refine VQ_ge rfl rfl rfl hc54 ?_
              refine VQ_y (fun w' hw' => Y_move rfl) rfl rfl rfl ?_
              refine VQ_ge rfl rfl rfl hc54 ?_
              refine VQ_y (fun w' hw' => Y_move rfl) rfl rfl rfl ?_
              refine VQ_ge rfl rfl rfl hc54 ?_
              refine VQ_y (fun w' hw' => Y_subI rfl rfl) rfl rfl rfl ?_
              refine VQ_ge rfl rfl rfl hc54 ?_
              refine VQ_indexAddr h_l hx56 Tryd.underlying25 Tryd.sizeOf51 rfl rfl rfl ?_
              intro b62 o63 h64
              refine VQ_ge rfl rfl rfl hc54 ?_
              have h65 := El_staff_Form_1 h64
              refine VQ_y (fun w' hw' => Y_fieldAddr Tryd.underlying51 rfl Tryd.sizeOf3 (by decide) rfl) rfl rfl rfl ?_
              refine VQ_ge rfl rfl rfl hc54 ?_
              refine VQ_y (fun w' hw' => Y_load (El.int (El.kp h65 hw')) Tryd.isAgg3 rfl) rfl rfl rfl ?_
              refine VQ_ge rfl rfl rfl hc54 ?_
              refine VQ_call (.int .i64 (cmp_Compare_int x27.slots x56.slots)) Tryd.call26 rfl rfl rfl rfl (fun w' hw' => (cmp_Compare_int_c w' x27.slots x56.slots).mono (fun _ _ h => ⟨h.1, h.2 ▸ hw'⟩)) ?_
              refine VQ_tail (fun w66 hk67 => ?_)
              try simp only [List.take, List.drop]
              have ht68 := Kp.tr hk67 hA hB
              replace hH := Hp.kp hH hk67
              replace h_l := Sl.tr h_l ht68
              replace h37 := El.tr h37 ht68
              replace h55 := El.tr h55 ht68
              replace h59 := El.tr h59 ht68
              replace h60 := El.tr h60 ht68
              replace h61 := El.tr h61 ht68
              replace h64 := El.tr h64 ht68
              replace h65 := El.tr h65 ht68
              replace hK := Tr.trans hK ht68
              replace hr6 := Tr.trans hr6 ht68
              replace hr48 := Tr.trans hr48 ht68
              replace hB := Nat.le_trans hB ht68.ex.size
              replace hA := ht68.new
              refine V_ge rfl rfl rfl hc54 ?_
              refine V_buildSlice (l := ([(cmp_Compare_int x27.from_ x56.from_), (cmp_Compare_int x27.slots x56.slots)] : List Int)) (len := 2) Tryd.underlying27 Tryd.sizeOf3 Tryd.zeroValue3 rfl (by with_unfolding_all rfl) (by decide) (by decide) hA ⟨[.int .i64 (cmp_Compare_int x27.from_ x56.from_)], _, rfl, rfl, ⟨[.int .i64 (cmp_Compare_int x27.slots x56.slots)], _, rfl, rfl, rfl⟩⟩ rfl rfl ?_
              intro v69 w70 hk72 h71
              have ht73 := Kp.tr hk72 hA hB
              replace hH := Hp.kp hH hk72
              replace h_l := Sl.tr h_l ht73
              replace h37 := El.tr h37 ht73
              replace h55 := El.tr h55 ht73
              replace h59 := El.tr h59 ht73
              replace h60 := El.tr h60 ht73
              replace h61 := El.tr h61 ht73
              replace h64 := El.tr h64 ht73
              replace h65 := El.tr h65 ht73
              replace hK := Tr.trans hK ht73
              replace hr6 := Tr.trans hr6 ht73
              replace hr48 := Tr.trans hr48 ht73
              replace hB := Nat.le_trans hB ht73.ex.size
              replace hA := ht73.new
              refine V_ge rfl rfl rfl hc54 ?_
              obtain ⟨x74, hx74, ho46⟩ := Option.bind_eq_some_iff.1 ho46
              refine V_call Tryd.call25 rfl rfl rfl rfl (cmp_Or_int_c w70 ([(cmp_Compare_int x27.from_ x56.from_), (cmp_Compare_int x27.slots x56.slots)] : List Int) v69 h71 hx74) ?_
              rintro _ _ ⟨rfl, rfl⟩
              refine V_ge rfl rfl rfl hc54 ?_
              refine V_y (Y_leq rfl rfl) rfl rfl rfl ?_
              refine V_y (Y_pick_te rfl hc54 rfl) rfl rfl rfl ?_
              obtain rfl := Option.some.inj ho46
              refine V_end (fun a ha75 => ?_)
              exact ⟨A16, ha75.sub ⟨rfl, rfl, rfl, rfl, rfl, trivial⟩, ⟨hH, hr48⟩⟩
            · rw [if_neg (nt hc54)] at ho46
              refine VQ_gn rfl rfl rfl hc54 rfl rfl rfl ?_
              refine VQ_gn rfl rfl rfl hc54 rfl rfl rfl ?_
              refine VQ_gn rfl rfl rfl hc54 rfl rfl rfl ?_
              refine VQ_gn rfl rfl rfl hc54 rfl rfl rfl ?_
              refine VQ_gn rfl rfl rfl hc54 rfl rfl rfl ?_
              refine VQ_gn rfl rfl rfl hc54 rfl rfl rfl ?_
              refine VQ_gn rfl rfl rfl hc54 rfl rfl rfl ?_
              refine VQ_gn rfl rfl rfl hc54 rfl rfl rfl ?_
              refine VQ_gn rfl rfl rfl hc54 rfl rfl rfl ?_
              refine VQ_gn rfl rfl rfl hc54 rfl rfl rfl ?_
              refine VQ_gn rfl rfl rfl hc54 rfl rfl rfl ?_
              refine VQ_gn rfl rfl rfl hc54 rfl rfl rfl ?_
              refine VQ_gn rfl rfl rfl hc54 rfl rfl rfl ?_
              refine VQ_gn rfl rfl rfl hc54 rfl rfl rfl ?_
              refine VQ_gn rfl rfl rfl hc54 rfl rfl rfl ?_
              refine VQ_gn rfl rfl rfl hc54 rfl rfl rfl ?_
              refine VQ_gn rfl rfl rfl hc54 rfl rfl rfl ?_
              refine VQ_gn rfl rfl rfl hc54 rfl rfl rfl ?_
              refine VQ_tail (fun w76 hk77 => ?_)
              try simp only [List.take, List.drop]
              have ht78 := Kp.tr hk77 hA hB
              replace hH := Hp.kp hH hk77
              replace h_l := Sl.tr h_l ht78
              replace h37 := El.tr h37 ht78
              replace hK := Tr.trans hK ht78
              replace hr6 := Tr.trans hr6 ht78
              replace hr48 := Tr.trans hr48 ht78
              replace hB := Nat.le_trans hB ht78.ex.size
              replace hA := ht78.new
              refine V_gn rfl rfl rfl hc54 rfl rfl rfl ?_
              refine V_gn rfl rfl rfl hc54 rfl rfl rfl ?_
              refine V_gn rfl rfl rfl hc54 rfl rfl rfl ?_
              refine V_y (Y_pick_fe rfl hc54 rfl) rfl rfl rfl ?_
              obtain rfl := Option.some.inj ho46
              refine V_end (fun a ha79 => ?_)
              exact ⟨A16, ha79.sub ⟨rfl, rfl, rfl, rfl, rfl, trivial⟩, ⟨hH, hr48⟩⟩
          rintro A52 w49 ⟨hH53, hk50⟩ a ha51
          replace h_l := Sl.tr h_l hk50
          replace hK := Tr.trans hK hk50
          replace hr6 := Tr.trans hr6 hk50
          replace hB := Nat.le_trans hB hk50.ex.size
          replace hA := hk50.new
          replace hH : Hp w.heap.size A52 w49 ([]) := hH53
          refine C_at (n := ⟨54, [], none⟩) (fun _ _ => rfl) ?_ ha51
          refine C_cond rfl (fun hc80 => ?_) (fun hc80 => ?_)
          · rw [if_pos hc80] at h19
            refine C_seq ?_
            refine C_region ?_
            refine V_y (Y_assign rfl) rfl rfl rfl ?_
            refine V_to (fun _ _ => rfl) ?_
            obtain rfl := Option.some.inj h19
            obtain rfl := (h20 : Lp.rt _ = _)
            rw [Lp.andThen_rt] at hm
            obtain rfl := Option.some.inj hm
            refine C_ret ?_
            try simp only [↓inBlock_ret, ↓then_ret]
            exact retQ rfl (Res.one Tryd.results14 rfl) ⟨rfl, hK.kp⟩
          · rw [if_neg (nt hc80)] at h19
            refine C_skip_to (fun _ _ => rfl) ?_
            refine C_region ?_
            refine V_y (Y_addI rfl rfl) rfl rfl rfl ?_
            refine V_y (Y_move rfl) rfl rfl rfl ?_
            obtain rfl := Option.some.inj h19
            refine V_end (fun a ha81 => ?_)
            exact ⟨(), hlt22, h20, ⟨A52, ha81.sub ⟨rfl, rfl, rfl, (congrArg (fun z => some (Value.int .i64 z)) (w64_succ hlt22 hn25)), trivial⟩, ⟨hH, hr6⟩⟩⟩
      · refine C_exit (fun a ha82 => ?_)
        exact ⟨((), A16), ha82.sub trivial, ⟨(h23 (eq_of_dec hle21 hc26)).symm, hH, hr6⟩⟩
    rintro ⟨s5, A12⟩ w9 ⟨rfl, hH13, hk10⟩ a ha11
    rw [Lp.andThen_fin] at hm
    replace hK := Tr.trans hK hk10
    replace hB := Nat.le_trans hB hk10.ex.size
    replace hA := hk10.new
    replace hH : Hp w.heap.size A12 w9 ([]) := hH13
    refine C_at (n := ⟨54, [], none⟩) (fun _ _ => rfl) ?_ ha11
    refine C_seq ?_
    refine C_region ?_
    refine V_y (Y_assign rfl) rfl rfl rfl ?_
    refine V_to (fun _ _ => rfl) ?_
    obtain rfl := Option.some.inj hm
    refine C_ret ?_
    try simp only [↓inBlock_ret, ↓then_ret]
    exact retQ rfl (Res.one Tryd.results14 rfl) ⟨rfl, hK.kp⟩

set_option maxRecDepth 4000 in
set_option maxHeartbeats 4000000 in
theorem staff_checkNumbers_c (w : World) {A : Nat → Prop} (l : (List Int)) (v_l : Value) (h_l : Sl A w v_l l) (most : Int) {r : Int} (hm : staff_checkNumbers l most = some r) : Ret Tryd.prog 27 #[v_l, .int .i64 most] w fun v w' => v = .int .i64 r ∧ w = w' := by
  unfold staff_checkNumbers at hm
  refine enter Tryd.func27 rfl Tryd.ntmps27 rfl ?_
  refine C_seq ?_
  refine C_region ?_
  refine V_y (Y_assign rfl) rfl rfl rfl ?_
  refine V_to (fun _ _ => rfl) ?_
  refine C_seq ?_
  refine C_seq ?_
  refine C_region ?_
  refine V_y (Y_move rfl) rfl rfl rfl ?_
  refine V_y (Y_lenSl h_l rfl Tryd.underlying27 rfl) rfl rfl rfl ?_
  refine V_y (Y_move rfl) rfl rfl rfl ?_
  refine V_to (fun _ _ => rfl) ?_
  have hn19 := Sl.le h_l
  obtain ⟨o3, ho3, hm⟩ := Option.bind_eq_some_iff.1 hm
  refine C_cutG (ι := Unit) (fun (s4 : Unit) => []) (fun (s4 : Unit) => fun w' => o3 = .fin s4 ∧ w = w') ?_ ?_
  · refine C_block ?_
    refine C_range ho3 (fun k6 _ a w' => ∃ i : Unit, Has ⟨18, [], none⟩ a ([(1, .int .i64 most), (7, v_l), (8, .int .i64 (l.length : Int)), (9, .int .i64 (k6 : Int))]) ∧ w = w') (fun a ha => ⟨(), ha.sub ⟨rfl, rfl, rfl, rfl, trivial⟩, rfl⟩) ?_
    rintro K k6 _ a _ ⟨_, ha28, rfl⟩ hle15 K18 h17
    refine C_of ?_ ha28
    refine C_seq (C_region (V_y (Y_lss rfl rfl) rfl rfl rfl (V_to (fun _ _ => rfl) ?_)))
    refine C_seq ?_
    refine C_cond rfl (fun hc20 => ?_) (fun hc20 => ?_)
    · have hlt16 := lt_of_dec hc20
      obtain ⟨x12, h13, h14⟩ := K18 hlt16
      refine C_skip_to (fun _ _ => rfl) ?_
      refine C_seq ?_
      refine C_block ?_
      refine C_seq ?_
      refine C_region ?_
      obtain ⟨x21, hx21, h13⟩ := Option.bind_eq_some_iff.1 h13
      refine V_indexAddr h_l hx21 Tryd.underlying27 Tryd.sizeOf3 rfl rfl rfl ?_
      intro b22 o23 h24
      refine V_y (Y_load (El.int h24) Tryd.isAgg3 rfl) rfl rfl rfl ?_
      refine V_y (Y_assign rfl) rfl rfl rfl ?_
      refine V_to (fun _ _ => rfl) ?_
      refine C_seq ?_
      refine C_region ?_
      refine V_y (Y_move rfl) rfl rfl rfl ?_
      refine V_y (Y_move rfl) rfl rfl rfl ?_
      refine V_call Tryd.call18 rfl rfl rfl rfl (staff_within_c w x21 0 most) ?_
      rintro _ _ ⟨rfl, rfl⟩
      refine V_y (Y_not rfl) rfl rfl rfl ?_
      refine V_to (fun _ _ => rfl) ?_
      refine C_cond rfl (fun hc25 => ?_) (fun hc25 => ?_)
      · rw [if_pos hc25] at h13
        refine C_seq ?_
        refine C_region ?_
        refine V_y (Y_assign rfl) rfl rfl rfl ?_
        refine V_to (fun _ _ => rfl) ?_
        obtain rfl := Option.some.inj h13
        obtain rfl := (h14 : Lp.rt _ = _)
        rw [Lp.andThen_rt] at hm
        obtain rfl := Option.some.inj hm
        refine C_ret ?_
        try simp only [↓inBlock_ret, ↓then_ret]
        exact retQ rfl (Res.one Tryd.results27 rfl) ⟨rfl, rfl⟩
      · rw [if_neg (nt hc25)] at h13
        refine C_skip_to (fun _ _ => rfl) ?_
        refine C_region ?_
        refine V_y (Y_addI rfl rfl) rfl rfl rfl ?_
        refine V_y (Y_move rfl) rfl rfl rfl ?_
        obtain rfl := Option.some.inj h13
        refine V_end (fun a ha26 => ?_)
        exact ⟨(), hlt16, h14, ⟨(), ha26.sub ⟨rfl, rfl, rfl, (congrArg (fun z => some (Value.int .i64 z)) (w64_succ hlt16 hn19)), trivial⟩, rfl⟩⟩
    · refine C_exit (fun a ha27 => ?_)
      exact ⟨(), ha27.sub trivial, ⟨(h17 (eq_of_dec hle15 hc20)).symm, rfl⟩⟩
  rintro s4 _ ⟨rfl, rfl⟩ a ha9
  rw [Lp.andThen_fin] at hm
  refine C_at (n := ⟨18, [], none⟩) (fun _ _ => rfl) ?_ ha9
  refine C_seq ?_
  refine C_region ?_
  refine V_y (Y_assign rfl) rfl rfl rfl ?_
  refine V_to (fun _ _ => rfl) ?_
  obtain rfl := Option.some.inj hm
  refine C_ret ?_
  try simp only [↓inBlock_ret, ↓then_ret]
  exact retQ rfl (Res.one Tryd.results27 rfl) ⟨rfl, rfl⟩

set_option maxRecDepth 4000 in
set_option maxHeartbeats 4000000 in
theorem staff_checkDemand_c (w : World) {A : Nat → Prop} (l : (List Int)) (v_l : Value) (h_l : Sl A w v_l l) (most : Int) {r : Int} (hm : staff_checkDemand l most = some r) : Ret Tryd.prog 15 #[v_l, .int .i64 most] w fun v w' => v = .int .i64 r ∧ w = w' := by
  unfold staff_checkDemand at hm
  refine enter Tryd.func15 rfl Tryd.ntmps15 rfl ?_
  refine C_seq ?_
  refine C_region ?_
  refine V_y (Y_assign rfl) rfl rfl rfl ?_
  refine V_to (fun _ _ => rfl) ?_
  refine C_seq ?_
  refine C_seq ?_
  refine C_region ?_
  refine V_y (Y_move rfl) rfl rfl rfl ?_
  refine V_y (Y_lenSl h_l rfl Tryd.underlying27 rfl) rfl rfl rfl ?_
  refine V_y (Y_gtr rfl rfl) rfl rfl rfl ?_
  refine V_to (fun _ _ => rfl) ?_
  refine C_cond rfl (fun hc3 => ?_) (fun hc3 => ?_)
  · rw [if_pos hc3] at hm
    refine C_seq ?_
    refine C_region ?_
    refine V_y (Y_assign rfl) rfl rfl rfl ?_
    refine V_to (fun _ _ => rfl) ?_
    obtain rfl := Option.some.inj hm
    refine C_ret ?_
    try simp only [↓inBlock_ret, ↓then_ret]
    exact retQ rfl (Res.one Tryd.results15 rfl) ⟨rfl, rfl⟩
  · rw [if_neg (nt hc3)] at hm
    refine C_skip_to (fun _ _ => rfl) ?_
    refine C_seq ?_
    refine C_region ?_
    refine V_y (Y_move rfl) rfl rfl rfl ?_
    refine V_y (Y_move rfl) rfl rfl rfl ?_
    obtain ⟨x4, hx4, hm⟩ := Option.bind_eq_some_iff.1 hm
    refine V_call Tryd.call27 rfl rfl rfl rfl (staff_checkNumbers_c w l v_l h_l most hx4) ?_
    rintro _ _ ⟨rfl, rfl⟩
    refine V_y (Y_assign rfl) rfl rfl rfl ?_
    refine V_to (fun _ _ => rfl) ?_
    obtain rfl := Option.some.inj hm
    refine C_ret ?_
    try simp only [↓inBlock_ret, ↓then_ret]
    exact retQ rfl (Res.one Tryd.results15 rfl) ⟨rfl, rfl⟩

set_option maxRecDepth 4000 in
set_option maxHeartbeats 4000000 in
theorem staff_longest_c (w : World) {A : Nat → Prop} (hA : ∀ b, w.heap.size ≤ b → A b) (forms : (List staff_Form)) (v_forms : Value) (h_forms : Sl A w v_forms forms) (slot : Int) {r : Int} (hm : staff_longest forms slot = some r) : Ret Tryd.prog 16 #[v_forms, .int .i64 slot] w fun v w' => v = .int .i64 r ∧ Kp w w' := by
  unfold staff_longest at hm
  refine enter Tryd.func16 rfl Tryd.ntmps16 rfl ?_
  have hA0 := hA
  have hB := Nat.le_refl w.heap.size
  have hK : Tr w.heap.size A w A w := Tr.refl hA
  have hH : Hp w.heap.size A w [] := Hp.nil
  refine C_seq ?_
  refine C_region ?_
  refine V_y (Y_assign rfl) rfl rfl rfl ?_
  refine V_to (fun _ _ => rfl) ?_
  refine C_seq ?_
  refine C_region ?_
  refine V_y (Y_assign rfl) rfl rfl rfl ?_
  refine V_to (fun _ _ => rfl) ?_
  refine C_seq ?_
  refine C_seq ?_
  refine C_region ?_
  refine V_y (Y_move rfl) rfl rfl rfl ?_
  refine V_y (Y_lenSl h_forms rfl Tryd.underlying25 rfl) rfl rfl rfl ?_
  refine V_y (Y_move rfl) rfl rfl rfl ?_
  refine V_to (fun _ _ => rfl) ?_
  have hn23 := Sl.le h_forms
  obtain ⟨o3, ho3, hm⟩ := Option.bind_eq_some_iff.1 hm
  refine C_cutG (ι := (Int × (Nat → Prop))) (fun ⟨s4, A10⟩ => [(5, .int .i64 s4)]) (fun ⟨s4, A10⟩ => fun w' => o3 = .fin s4 ∧ Hp w.heap.size A10 w' ([]) ∧ Tr w.heap.size A w A10 w') ?_ ?_
  · refine C_block ?_
    refine C_range ho3 (fun k6 s12 a w' => ∃ i : (Nat → Prop), Has ⟨54, [], none⟩ a ([(0, v_forms), (1, .int .i64 slot), (5, .int .i64 s12), (8, v_forms), (9, .int .i64 (forms.length : Int)), (10, .int .i64 (k6 : Int))]) ∧ Hp w.heap.size i w' ([]) ∧ Tr w.heap.size A w i w') (fun a ha => ⟨A, ha.sub ⟨rfl, rfl, rfl, rfl, rfl, rfl, trivial⟩, ⟨hH, Tr.refl hA⟩⟩) ?_
    rintro K k6 s12 a w13 ⟨A14, ha81, hH15, hr5⟩ hle19 K22 h21
    refine C_of ?_ ha81
    replace h_forms := Sl.tr h_forms hr5
    replace hK := Tr.trans hK hr5
    replace hB := Nat.le_trans hB hr5.ex.size
    replace hA := hr5.new
    replace hH : Hp w.heap.size A14 w13 ([]) := hH15
    refine C_seq (C_region (V_y (Y_lss rfl rfl) rfl rfl rfl (V_to (fun _ _ => rfl) ?_)))
    refine C_seq ?_
    refine C_cond rfl (fun hc24 => ?_) (fun hc24 => ?_)
    · have hlt20 := lt_of_dec hc24
      obtain ⟨x16, h17, h18⟩ := K22 hlt20
      refine C_skip_to (fun _ _ => rfl) ?_
      refine C_seq ?_
      obtain ⟨s26, ho25, h17⟩ := Option.bind_eq_some_iff.1 h17
      refine C_cutG (ι := (Nat → Prop)) (fun (A31 : (Nat → Prop)) => [(0, v_forms), (1, .int .i64 slot), (5, .int .i64 s26), (8, v_forms), (9, .int .i64 (forms.length : Int)), (10, .int .i64 (k6 : Int))]) (fun (A31 : (Nat → Prop)) => fun w' => Hp w.heap.size A31 w' ([]) ∧ Tr w.heap.size A14 w13 A31 w') ?_ ?_
      · have hr27 : Tr w.heap.size A14 w13 A14 w13 := Tr.refl hA
        refine C_block ?_
        refine C_seq ?_
        refine C_region ?_
        refine V_y (Y_move rfl) rfl rfl rfl ?_
        obtain ⟨x33, hx33, ho25⟩ := Option.bind_eq_some_iff.1 ho25
        refine V_indexAddr h_forms hx33 Tryd.underlying25 Tryd.sizeOf51 rfl rfl rfl ?_
        intro b34 o35 h36
        obtain ⟨h37, _⟩ := El_staff_Form h36
        refine V_y (Y_loadA h37 Tryd.isAgg51 Tryd.sizeOf51 rfl) rfl rfl rfl ?_
        refine V_alloc Tryd.zeroValue51 rfl ?_
        intro b38 w39 h40
        refine V_y (Y_assign rfl) rfl rfl rfl ?_
        refine V_storeNew h40 Tryd.sizeOf51 rfl rfl rfl rfl (by exact (List.forall_mem_cons.2 ⟨rfl, (List.forall_mem_cons.2 ⟨rfl, (fun _ h => nomatch h)⟩)⟩)) ?_
        intro w41 h42
        have hk44 := h42.kp
        have h43 : El (α := staff_Form) A14 w41 b38 0 x33 := h42.el hA ⟨[.int .i64 x33.from_], _, rfl, rfl, rfl⟩
        have ht45 := Kp.tr hk44 hA hB
        replace hH := Hp.kp hH hk44
        replace h_forms := Sl.tr h_forms ht45
        replace h36 := El.tr h36 ht45
        replace hK := Tr.trans hK ht45
        replace hr5 := Tr.trans hr5 ht45
        replace hr27 := Tr.trans hr27 ht45
        replace hB := Nat.le_trans hB ht45.ex.size
        replace hA := ht45.new
        refine V_to (fun _ _ => rfl) ?_
        refine C_seq ?_
        refine C_region_q Tryd_mixed (by kernel_rfl) ?_
        have h46 := El_staff_Form_0 h43
        refine VQ_y (fun w' hw' => Y_fieldAddr Tryd.underlying51 rfl Tryd.sizeOf3 (by decide) rfl) rfl rfl rfl ?_
        refine VQ_y (fun w' hw' => Y_load (El.int (El.kp h46 hw')) Tryd.isAgg3 rfl) rfl rfl rfl ?_
        refine VQ_y (fun w' hw' => Y_move rfl) rfl rfl rfl ?_
        refine VQ_y (fun w' hw' => Y_leq rfl rfl) rfl rfl rfl ?_
        refine VQ_y (fun w' hw' => Y_move rfl) rfl rfl rfl ?_
        refine VQ_cut 8 (fun _ : Unit => [(0, v_forms), (1, .int .i64 slot), (5, .int .i64 s12), (6, .int .i64 (k6 : Int)), (7, .pointer (some ⟨b38, 0, none⟩)), (8, v_forms), (9, .int .i64 (forms.length : Int)), (10, .int .i64 (k6 : Int)), (27, .bool ((decide (x33.from_ ≤ slot)) && (decide (slot < (w64 (x33.from_ + x33.slots))))))]) (fun _ => True) ?_ ?_
        · simp only [List.take, List.drop]
          rcases Bool.eq_false_or_eq_true (decide (x33.from_ ≤ slot)) with hc47 | hc47
          · refine VQ_ge rfl rfl rfl hc47 ?_
            refine VQ_y (fun w' hw' => Y_move rfl) rfl rfl rfl ?_
            refine VQ_ge rfl rfl rfl hc47 ?_
            have h49 := El_staff_Form_0 h43
            refine VQ_y (fun w' hw' => Y_fieldAddr Tryd.underlying51 rfl Tryd.sizeOf3 (by decide) rfl) rfl rfl rfl ?_
            refine VQ_ge rfl rfl rfl hc47 ?_
            refine VQ_y (fun w' hw' => Y_load (El.int (El.kp h49 hw')) Tryd.isAgg3 rfl) rfl rfl rfl ?_
            refine VQ_ge rfl rfl rfl hc47 ?_
            have h50 := El_staff_Form_1 h43
            refine VQ_y (fun w' hw' => Y_fieldAddr Tryd.underlying51 rfl Tryd.sizeOf3 (by decide) rfl) rfl rfl rfl ?_
            refine VQ_ge rfl rfl rfl hc47 ?_
            refine VQ_y (fun w' hw' => Y_load (El.int (El.kp h50 hw')) Tryd.isAgg3 rfl) rfl rfl rfl ?_
            refine VQ_ge rfl rfl rfl hc47 ?_
            refine VQ_y (fun w' hw' => Y_addI rfl rfl) rfl rfl rfl ?_
            refine VQ_ge rfl rfl rfl hc47 ?_
            refine VQ_y (fun w' hw' => Y_lss rfl rfl) rfl rfl rfl ?_
            refine VQ_y (fun _ _ => Y_pick_te rfl hc47 rfl) rfl rfl rfl ?_
            exact VQ_end fun a ha => ⟨(), ha.sub ⟨rfl, rfl, rfl, rfl, rfl, rfl, rfl, rfl, (by rw [hc47]; rfl), trivial⟩, trivial⟩
          · refine VQ_gn rfl rfl rfl hc47 rfl rfl rfl ?_
            refine VQ_gn rfl rfl rfl hc47 rfl rfl rfl ?_
            refine VQ_gn rfl rfl rfl hc47 rfl rfl rfl ?_
            refine VQ_gn rfl rfl rfl hc47 rfl rfl rfl ?_
            refine VQ_gn rfl rfl rfl hc47 rfl rfl rfl ?_
            refine VQ_gn rfl rfl rfl hc47 rfl rfl rfl ?_
            refine VQ_gn rfl rfl rfl hc47 rfl rfl rfl ?_
            refine VQ_y (fun _ _ => Y_pick_fe rfl hc47 rfl) rfl rfl rfl ?_
            exact VQ_end fun a ha => ⟨(), ha.sub ⟨rfl, rfl, rfl, rfl, rfl, rfl, rfl, rfl, (by rw [hc47]; rfl), trivial⟩, trivial⟩
        simp only [List.take, List.drop]
        rintro _ _
        refine VQ_y (fun w' hw' => Y_move rfl) rfl rfl rfl ?_
        obtain ⟨s52, hs52, ho25⟩ := Option.bind_eq_some_iff.1 ho25
        refine VQ_cut 22 (fun _ : Unit => [(0, v_forms), (1, .int .i64 slot), (5, .int .i64 s12), (6, .int .i64 (k6 : Int)), (8, v_forms), (9, .int .i64 (forms.length : Int)), (10, .int .i64 (k6 : Int)), (50, .bool s52)]) (fun _ => True) ?_ ?_
        · simp only [List.take, List.drop]
          rcases Bool.eq_false_or_eq_true (((decide (x33.from_ ≤ slot)) && (decide (slot < (w64 (x33.from_ + x33.slots)))))) with hc51 | hc51
          · rw [if_pos hc51] at hs52
            refine VQ_ge rfl rfl rfl hc51 ?_
            refine VQ_y (fun w' hw' => Y_move rfl) rfl rfl rfl ?_
            refine VQ_ge rfl rfl rfl hc51 ?_
            refine VQ_y (fun w' hw' => Y_lss rfl rfl) rfl rfl rfl ?_
            refine VQ_ge rfl rfl rfl hc51 ?_
            refine VQ_y (fun w' hw' => Y_move rfl) rfl rfl rfl ?_
            obtain ⟨s54, hs54, hs52⟩ := Option.bind_eq_some_iff.1 hs52
            refine VQ_cut 18 (fun _ : Unit => [(0, v_forms), (1, .int .i64 slot), (5, .int .i64 s12), (6, .int .i64 (k6 : Int)), (8, v_forms), (9, .int .i64 (forms.length : Int)), (10, .int .i64 (k6 : Int)), (28, .bool ((decide (x33.from_ ≤ slot)) && (decide (slot < (w64 (x33.from_ + x33.slots)))))), (49, .bool s54)]) (fun _ => True) ?_ ?_
            · simp only [List.take, List.drop]
              rcases Bool.eq_false_or_eq_true (decide (s12 < 0)) with hc53 | hc53
              · rw [if_pos hc53] at hs54
                refine VQ_gn rfl rfl rfl hc53 rfl rfl rfl ?_
                refine VQ_gn rfl rfl rfl hc53 rfl rfl rfl ?_
                refine VQ_gn rfl rfl rfl hc53 rfl rfl rfl ?_
                refine VQ_gn rfl rfl rfl hc53 rfl rfl rfl ?_
                refine VQ_gn rfl rfl rfl hc53 rfl rfl rfl ?_
                refine VQ_gn rfl rfl rfl hc53 rfl rfl rfl ?_
                refine VQ_gn rfl rfl rfl hc53 rfl rfl rfl ?_
                refine VQ_gn rfl rfl rfl hc53 rfl rfl rfl ?_
                refine VQ_gn rfl rfl rfl hc53 rfl rfl rfl ?_
                refine VQ_gn rfl rfl rfl hc53 rfl rfl rfl ?_
                refine VQ_gn rfl rfl rfl hc53 rfl rfl rfl ?_
                refine VQ_gn rfl rfl rfl hc53 rfl rfl rfl ?_
                refine VQ_gn rfl rfl rfl hc53 rfl rfl rfl ?_
                refine VQ_gn rfl rfl rfl hc53 rfl rfl rfl ?_
                refine VQ_gn rfl rfl rfl hc53 rfl rfl rfl ?_
                refine VQ_gn rfl rfl rfl hc53 rfl rfl rfl ?_
                refine VQ_gn rfl rfl rfl hc53 rfl rfl rfl ?_
                refine VQ_ge rfl rfl rfl hc51 ?_
                refine VQ_y (fun _ _ => Y_pick_te rfl hc53 rfl) rfl rfl rfl ?_
                obtain rfl := Option.some.inj hs54
                exact VQ_end fun a ha => ⟨(), ha.sub ⟨rfl, rfl, rfl, rfl, rfl, rfl, rfl, rfl, rfl, trivial⟩, trivial⟩
              · rw [if_neg (nt hc53)] at hs54
                refine VQ_ge rfl rfl rfl hc53 ?_
                have h55 := El_staff_Form_0 h43
                refine VQ_y (fun w' hw' => Y_fieldAddr Tryd.underlying51 rfl Tryd.sizeOf3 (by decide) rfl) rfl rfl rfl ?_
                refine VQ_ge rfl rfl rfl hc53 ?_
                refine VQ_y (fun w' hw' => Y_load (El.int (El.kp h55 hw')) Tryd.isAgg3 rfl) rfl rfl rfl ?_
                refine VQ_ge rfl rfl rfl hc53 ?_
                have h56 := El_staff_Form_1 h43
                refine VQ_y (fun w' hw' => Y_fieldAddr Tryd.underlying51 rfl Tryd.sizeOf3 (by decide) rfl) rfl rfl rfl ?_
                refine VQ_ge rfl rfl rfl hc53 ?_
                refine VQ_y (fun w' hw' => Y_load (El.int (El.kp h56 hw')) Tryd.isAgg3 rfl) rfl rfl rfl ?_
                refine VQ_ge rfl rfl rfl hc53 ?_
                refine VQ_y (fun w' hw' => Y_addI rfl rfl) rfl rfl rfl ?_
                refine VQ_ge rfl rfl rfl hc53 ?_
                refine VQ_y (fun w' hw' => Y_move rfl) rfl rfl rfl ?_
                refine VQ_ge rfl rfl rfl hc53 ?_
                refine VQ_y (fun w' hw' => Y_move rfl) rfl rfl rfl ?_
                refine VQ_ge rfl rfl rfl hc53 ?_
                obtain ⟨x57, hx57, hs54⟩ := Option.bind_eq_some_iff.1 hs54
                refine VQ_indexAddr h_forms hx57 Tryd.underlying25 Tryd.sizeOf51 rfl rfl rfl ?_
                intro b58 o59 h60
                refine VQ_ge rfl rfl rfl hc53 ?_
                have h61 := El_staff_Form_0 h60
                refine VQ_y (fun w' hw' => Y_fieldAddr Tryd.underlying51 rfl Tryd.sizeOf3 (by decide) rfl) rfl rfl rfl ?_
                refine VQ_ge rfl rfl rfl hc53 ?_
                refine VQ_y (fun w' hw' => Y_load (El.int (El.kp h61 hw')) Tryd.isAgg3 rfl) rfl rfl rfl ?_
                refine VQ_ge rfl rfl rfl hc53 ?_
                refine VQ_y (fun w' hw' => Y_move rfl) rfl rfl rfl ?_
                refine VQ_ge rfl rfl rfl hc53 ?_
                refine VQ_y (fun w' hw' => Y_move rfl) rfl rfl rfl ?_
                refine VQ_ge rfl rfl rfl hc53 ?_
                refine VQ_indexAddr h_forms hx57 Tryd.underlying25 Tryd.sizeOf51 rfl rfl rfl ?_
                intro b62 o63 h64
                refine VQ_ge rfl rfl rfl hc53 ?_
                have h65 := El_staff_Form_1 h64
                refine VQ_y (fun w' hw' => Y_fieldAddr Tryd.underlying51 rfl Tryd.sizeOf3 (by decide) rfl) rfl rfl rfl ?_
                refine VQ_ge rfl rfl rfl hc53 ?_
                refine VQ_y (fun w' hw' => Y_load (El.int (El.kp h65 hw')) Tryd.isAgg3 rfl) rfl rfl rfl ?_
                refine VQ_ge rfl rfl rfl hc53 ?_
                refine VQ_y (fun w' hw' => Y_addI rfl rfl) rfl rfl rfl ?_
                refine VQ_ge rfl rfl rfl hc53 ?_
                refine VQ_y (fun w' hw' => Y_gtr rfl rfl) rfl rfl rfl ?_
                refine VQ_ge rfl rfl rfl hc51 ?_
                refine VQ_y (fun _ _ => Y_pick_fe rfl hc53 rfl) rfl rfl rfl ?_
                obtain rfl := Option.some.inj hs54
                exact VQ_end fun a ha => ⟨(), ha.sub ⟨rfl, rfl, rfl, rfl, rfl, rfl, rfl, rfl, rfl, trivial⟩, trivial⟩
            simp only [List.take, List.drop]
            rintro _ _
            refine VQ_y (fun _ _ => Y_pick_te rfl hc51 rfl) rfl rfl rfl ?_
            obtain rfl := Option.some.inj hs52
            exact VQ_end fun a ha => ⟨(), ha.sub ⟨rfl, rfl, rfl, rfl, rfl, rfl, rfl, rfl, trivial⟩, trivial⟩
          · rw [if_neg (nt hc51)] at hs52
            refine VQ_gn rfl rfl rfl hc51 rfl rfl rfl ?_
            refine VQ_gn rfl rfl rfl hc51 rfl rfl rfl ?_
            refine VQ_gn rfl rfl rfl hc51 rfl rfl rfl ?_
            refine VQ_gu rfl rfl rfl rfl rfl ?_
            refine VQ_gu rfl rfl rfl rfl rfl ?_
            refine VQ_gu rfl rfl rfl rfl rfl ?_
            refine VQ_gu rfl rfl rfl rfl rfl ?_
            refine VQ_gu rfl rfl rfl rfl rfl ?_
            refine VQ_gu rfl rfl rfl rfl rfl ?_
            refine VQ_gu rfl rfl rfl rfl rfl ?_
            refine VQ_gu rfl rfl rfl rfl rfl ?_
            refine VQ_gu rfl rfl rfl rfl rfl ?_
            refine VQ_gu rfl rfl rfl rfl rfl ?_
            refine VQ_gu rfl rfl rfl rfl rfl ?_
            refine VQ_gu rfl rfl rfl rfl rfl ?_
            refine VQ_gu rfl rfl rfl rfl rfl ?_
            refine VQ_gu rfl rfl rfl rfl rfl ?_
            refine VQ_gu rfl rfl rfl rfl rfl ?_
            refine VQ_gu rfl rfl rfl rfl rfl ?_
            refine VQ_gu rfl rfl rfl rfl rfl ?_
            refine VQ_gn rfl rfl rfl hc51 rfl rfl rfl ?_
            refine VQ_y (fun _ _ => Y_pick_fe rfl hc51 rfl) rfl rfl rfl ?_
            obtain rfl := Option.some.inj hs52
            exact VQ_end fun a ha => ⟨(), ha.sub ⟨rfl, rfl, rfl, rfl, rfl, rfl, rfl, rfl, trivial⟩, trivial⟩
        simp only [List.take, List.drop]
        rintro _ _
        refine VQ_to (fun _ _ => rfl) (fun w66 hk67 => ?_)
        have ht68 := Kp.tr hk67 hA hB
        replace hH := Hp.kp hH hk67
        replace h_forms := Sl.tr h_forms ht68
        replace hK := Tr.trans hK ht68
        replace hr5 := Tr.trans hr5 ht68
        replace hr27 := Tr.trans hr27 ht68
        replace hB := Nat.le_trans hB ht68.ex.size
        replace hA := ht68.new
        obtain ⟨s70, ho69, ho25⟩ := Option.bind_eq_some_iff.1 ho25
        refine C_cutG (ι := Unit) (fun (_ : Unit) => [(0, v_forms), (1, .int .i64 slot), (5, .int .i64 s70), (8, v_forms), (9, .int .i64 (forms.length : Int)), (10, .int .i64 (k6 : Int))]) (fun (_ : Unit) => fun w' => w66 = w') ?_ ?_
        · refine C_cond rfl (fun hc75 => ?_) (fun hc75 => ?_)
          · rw [if_pos hc75] at ho69
            refine C_region ?_
            refine V_y (Y_move rfl) rfl rfl rfl ?_
            refine V_y (Y_assign rfl) rfl rfl rfl ?_
            obtain rfl := Option.some.inj ho69
            refine V_end (fun a ha76 => ?_)
            exact ⟨(), ha76.sub ⟨rfl, rfl, rfl, rfl, rfl, rfl, trivial⟩, rfl⟩
          · rw [if_neg (nt hc75)] at ho69
            obtain rfl := Option.some.inj ho69
            refine C_skip (fun a ha77 => ?_)
            exact ⟨(), ha77.sub ⟨rfl, rfl, rfl, rfl, rfl, rfl, trivial⟩, rfl⟩
        rintro _ _ rfl a ha74
        obtain rfl := Option.some.inj ho25
        exact ⟨A14, ha74.sub ⟨rfl, rfl, rfl, rfl, rfl, rfl, trivial⟩, ⟨hH, hr27⟩⟩
      rintro A31 w28 ⟨hH32, hk29⟩ a ha30
      replace h_forms := Sl.tr h_forms hk29
      replace hK := Tr.trans hK hk29
      replace hr5 := Tr.trans hr5 hk29
      replace hB := Nat.le_trans hB hk29.ex.size
      replace hA := hk29.new
      replace hH : Hp w.heap.size A31 w28 ([]) := hH32
      refine C_at (n := ⟨54, [], none⟩) (fun _ _ => rfl) ?_ ha30
      refine C_region ?_
      refine V_y (Y_addI rfl rfl) rfl rfl rfl ?_
      refine V_y (Y_move rfl) rfl rfl rfl ?_
      obtain rfl := Option.some.inj h17
      refine V_end (fun a ha79 => ?_)
      exact ⟨s26, hlt20, h18, ⟨A31, ha79.sub ⟨rfl, rfl, rfl, rfl, rfl, (congrArg (fun z => some (Value.int .i64 z)) (w64_succ hlt20 hn23)), trivial⟩, ⟨hH, hr5⟩⟩⟩
    · refine C_exit (fun a ha80 => ?_)
      exact ⟨(s12, A14), ha80.sub ⟨rfl, trivial⟩, ⟨(h21 (eq_of_dec hle19 hc24)).symm, hH, hr5⟩⟩
  rintro ⟨s4, A10⟩ w7 ⟨rfl, hH11, hk8⟩ a ha9
  rw [Lp.andThen_fin] at hm
  replace hK := Tr.trans hK hk8
  replace hB := Nat.le_trans hB hk8.ex.size
  replace hA := hk8.new
  replace hH : Hp w.heap.size A10 w7 ([]) := hH11
  refine C_at (n := ⟨54, [], none⟩) (fun _ _ => rfl) ?_ ha9
  refine C_seq ?_
  refine C_region ?_
  refine V_y (Y_move rfl) rfl rfl rfl ?_
  refine V_y (Y_assign rfl) rfl rfl rfl ?_
  refine V_to (fun _ _ => rfl) ?_
  obtain rfl := Option.some.inj hm
  refine C_ret ?_
  try simp only [↓inBlock_ret, ↓then_ret]
  exact retQ rfl (Res.one Tryd.results16 rfl) ⟨rfl, hK.kp⟩

set_option maxRecDepth 4000 in
set_option maxHeartbeats 4000000 in
theorem staff_Plan_c (w : World) {A : Nat → Prop} (hA : ∀ b, w.heap.size ≤ b → A b) (forms : (List staff_Form)) (v_forms : Value) (h_forms : Sl A w v_forms forms) (demand : (List Int)) (v_demand : Value) (h_demand : Sl A w v_demand demand) {r : ((List Int) × Int)} (hm : staff_Plan forms demand = some r) : Ret Tryd.prog 6 #[v_forms, v_demand] w fun v w' => ∃ s0, v = .tuple #[s0, .int .i64 r.2] ∧ Ownd 3 w w' s0 r.1 ∧ Kp w w' := by
  unfold staff_Plan at hm
  refine enter Tryd.func6 rfl Tryd.ntmps6 rfl ?_
  have hA0 := hA
  have hB := Nat.le_refl w.heap.size
  have hK : Tr w.heap.size A w A w := Tr.refl hA
  have hH : Hp w.heap.size A w [] := Hp.nil
  refine C_seq ?_
  refine C_region ?_
  refine V_y (Y_assign rfl) rfl rfl rfl ?_
  refine V_y (Y_assign rfl) rfl rfl rfl ?_
  refine V_to (fun _ _ => rfl) ?_
  refine C_seq ?_
  refine C_seq ?_
  refine C_region ?_
  refine V_y (Y_move rfl) rfl rfl rfl ?_
  obtain ⟨x5, hx5, hm⟩ := Option.bind_eq_some_iff.1 hm
  refine V_call Tryd.call14 rfl rfl rfl rfl (staff_CheckForms_c w hA forms v_forms h_forms hx5) ?_
  rintro _ w6 ⟨rfl, hk7⟩
  have ht8 := Kp.tr hk7 hA hB
  replace hH := Hp.kp hH hk7
  replace h_forms := Sl.tr h_forms ht8
  replace h_demand := Sl.tr h_demand ht8
  replace hK := Tr.trans hK ht8
  replace hB := Nat.le_trans hB ht8.ex.size
  replace hA := ht8.new
  refine V_y (Y_move rfl) rfl rfl rfl ?_
  obtain ⟨x9, hx9, hm⟩ := Option.bind_eq_some_iff.1 hm
  refine V_call Tryd.call15 rfl rfl rfl rfl (staff_checkDemand_c w6 demand v_demand h_demand 60 hx9) ?_
  rintro _ _ ⟨rfl, rfl⟩
  refine V_buildSlice (l := ([x5, x9] : List Int)) (len := 2) Tryd.underlying63 Tryd.sizeOf28 Tryd.zeroValue28 rfl (by with_unfolding_all rfl) (by decide) (by decide) hA ⟨[.int .i64 x5], _, rfl, rfl, ⟨[.int .i64 x9], _, rfl, rfl, rfl⟩⟩ rfl rfl ?_
  intro v10 w11 hk13 h12
  have ht14 := Kp.tr hk13 hA hB
  replace hH := Hp.kp hH hk13
  replace h_forms := Sl.tr h_forms ht14
  replace h_demand := Sl.tr h_demand ht14
  replace hK := Tr.trans hK ht14
  replace hB := Nat.le_trans hB ht14.ex.size
  replace hA := ht14.new
  obtain ⟨x15, hx15, hm⟩ := Option.bind_eq_some_iff.1 hm
  refine V_call Tryd.call13 rfl rfl rfl rfl (cmp_Or_api_Errno_c w11 ([x5, x9] : List Int) v10 h12 hx15) ?_
  rintro _ _ ⟨rfl, rfl⟩
  refine V_y (Y_assign rfl) rfl rfl rfl ?_
  refine V_to (fun _ _ => rfl) ?_
  refine C_seq ?_
  refine C_region ?_
  refine V_y (Y_move rfl) rfl rfl rfl ?_
  refine V_y (Y_neq rfl rfl) rfl rfl rfl ?_
  refine V_to (fun _ _ => rfl) ?_
  refine C_cond rfl (fun hc16 => ?_) (fun hc16 => ?_)
  · rw [if_pos hc16] at hm
    refine C_seq ?_
    refine C_region ?_
    refine V_y (Y_move rfl) rfl rfl rfl ?_
    refine V_y (Y_assign rfl) rfl rfl rfl ?_
    refine V_y (Y_assign rfl) rfl rfl rfl ?_
    refine V_to (fun _ _ => rfl) ?_
    obtain rfl := Option.some.inj hm
    replace hH : Hp w.heap.size A w11 (obS (α := Int) 3 (.slice none 0 0) ([] : (List Int)) :: []) := Hp.addNil (α := Int) (e := 3) hH
    refine C_ret ?_
    try simp only [↓inBlock_ret, ↓then_ret]
    exact retQ rfl (Res.two Tryd.results6 rfl rfl) ⟨.slice none 0 0, rfl, (Hp.ownd hH (i := 0) rfl), hK.kp⟩
  · rw [if_neg (nt hc16)] at hm
    refine C_skip_to (fun _ _ => rfl) ?_
    refine C_seq ?_
    refine C_seq ?_
    refine C_region ?_
    refine V_y (Y_move rfl) rfl rfl rfl ?_
    refine V_y (Y_lenSl h_demand rfl Tryd.underlying27 rfl) rfl rfl rfl ?_
    refine V_y (Y_move rfl) rfl rfl rfl ?_
    refine V_to (fun _ _ => rfl) ?_
    have hn37 := Sl.le h_demand
    obtain ⟨o17, ho17, hm⟩ := Option.bind_eq_some_iff.1 hm
    refine C_cutG (ι := (Unit × (Nat → Prop))) (fun ⟨s18, A24⟩ => [(0, v_forms), (1, v_demand)]) (fun ⟨s18, A24⟩ => fun w' => o17 = .fin s18 ∧ Hp w.heap.size A24 w' ([]) ∧ Tr w.heap.size A w11 A24 w') ?_ ?_
    · refine C_block ?_
      refine C_range ho17 (fun k20 _ a w' => ∃ i : (Nat → Prop), Has ⟨109, [], none⟩ a ([(0, v_forms), (1, v_demand), (25, v_demand), (26, .int .i64 (demand.length : Int)), (27, .int .i64 (k20 : Int))]) ∧ Hp w.heap.size i w' ([]) ∧ Tr w.heap.size A w11 i w') (fun a ha => ⟨A, ha.sub ⟨rfl, rfl, rfl, rfl, rfl, trivial⟩, ⟨hH, Tr.refl hA⟩⟩) ?_
      rintro K k20 _ a w27 ⟨A28, ha61, hH29, hr19⟩ hle33 K36 h35
      refine C_of ?_ ha61
      replace h_forms := Sl.tr h_forms hr19
      replace h_demand := Sl.tr h_demand hr19
      replace hK := Tr.trans hK hr19
      replace hB := Nat.le_trans hB hr19.ex.size
      replace hA := hr19.new
      replace hH : Hp w.heap.size A28 w27 ([]) := hH29
      refine C_seq (C_region (V_y (Y_lss rfl rfl) rfl rfl rfl (V_to (fun _ _ => rfl) ?_)))
      refine C_seq ?_
      refine C_cond rfl (fun hc38 => ?_) (fun hc38 => ?_)
      · have hlt34 := lt_of_dec hc38
        obtain ⟨x30, h31, h32⟩ := K36 hlt34
        refine C_skip_to (fun _ _ => rfl) ?_
        refine C_seq ?_
        refine C_block ?_
        refine C_seq ?_
        refine C_region ?_
        refine V_y (Y_move rfl) rfl rfl rfl ?_
        obtain ⟨x39, hx39, h31⟩ := Option.bind_eq_some_iff.1 h31
        refine V_indexAddr h_demand hx39 Tryd.underlying27 Tryd.sizeOf3 rfl rfl rfl ?_
        intro b40 o41 h42
        refine V_y (Y_load (El.int h42) Tryd.isAgg3 rfl) rfl rfl rfl ?_
        refine V_y (Y_assign rfl) rfl rfl rfl ?_
        refine V_y (Y_assign rfl) rfl rfl rfl ?_
        refine V_to (fun _ _ => rfl) ?_
        refine C_seq ?_
        obtain ⟨s44, ho43, h31⟩ := Option.bind_eq_some_iff.1 h31
        refine C_cutG (ι := (Nat → Prop)) (fun (A49 : (Nat → Prop)) => [(0, v_forms), (1, v_demand), (25, v_demand), (26, .int .i64 (demand.length : Int)), (27, .int .i64 (k20 : Int)), (39, .bool s44)]) (fun (A49 : (Nat → Prop)) => fun w' => Hp w.heap.size A49 w' ([]) ∧ Tr w.heap.size A28 w27 A49 w') ?_ ?_
        · have hr45 : Tr w.heap.size A28 w27 A28 w27 := Tr.refl hA
          refine C_region ?_
          refine V_y (Y_move rfl) rfl rfl rfl ?_
          refine V_y (Y_gtr rfl rfl) rfl rfl rfl ?_
          refine V_y (Y_move rfl) rfl rfl rfl ?_
          rcases Bool.eq_false_or_eq_true (decide ((0 : Int) < x39)) with hc51 | hc51
          · rw [if_pos hc51] at ho43
            refine V_ge rfl rfl rfl hc51 ?_
            refine V_y (Y_move rfl) rfl rfl rfl ?_
            refine V_ge rfl rfl rfl hc51 ?_
            refine V_y (Y_move rfl) rfl rfl rfl ?_
            refine V_ge rfl rfl rfl hc51 ?_
            obtain ⟨x52, hx52, ho43⟩ := Option.bind_eq_some_iff.1 ho43
            refine V_call Tryd.call16 rfl rfl rfl rfl (staff_longest_c w27 hA forms v_forms h_forms (k20 : Int) hx52) ?_
            rintro _ w53 ⟨rfl, hk54⟩
            have ht55 := Kp.tr hk54 hA hB
            replace hH := Hp.kp hH hk54
            replace h_forms := Sl.tr h_forms ht55
            replace h_demand := Sl.tr h_demand ht55
            replace hK := Tr.trans hK ht55
            replace hr19 := Tr.trans hr19 ht55
            replace hr45 := Tr.trans hr45 ht55
            replace hB := Nat.le_trans hB ht55.ex.size
            replace hA := ht55.new
            refine V_ge rfl rfl rfl hc51 ?_
            refine V_y (Y_lss rfl rfl) rfl rfl rfl ?_
            refine V_y (Y_pick_te rfl hc51 rfl) rfl rfl rfl ?_
            obtain rfl := Option.some.inj ho43
            refine V_end (fun a ha56 => ?_)
            exact ⟨A28, ha56.sub ⟨rfl, rfl, rfl, rfl, rfl, rfl, trivial⟩, ⟨hH, hr45⟩⟩
          · rw [if_neg (nt hc51)] at ho43
            refine V_gn rfl rfl rfl hc51 rfl rfl rfl ?_
            refine V_gn rfl rfl rfl hc51 rfl rfl rfl ?_
            refine V_gn rfl rfl rfl hc51 rfl rfl rfl ?_
            refine V_gn rfl rfl rfl hc51 rfl rfl rfl ?_
            refine V_y (Y_pick_fe rfl hc51 rfl) rfl rfl rfl ?_
            obtain rfl := Option.some.inj ho43
            refine V_end (fun a ha57 => ?_)
            exact ⟨A28, ha57.sub ⟨rfl, rfl, rfl, rfl, rfl, rfl, trivial⟩, ⟨hH, hr45⟩⟩
        rintro A49 w46 ⟨hH50, hk47⟩ a ha48
        replace h_forms := Sl.tr h_forms hk47
        replace h_demand := Sl.tr h_demand hk47
        replace hK := Tr.trans hK hk47
        replace hr19 := Tr.trans hr19 hk47
        replace hB := Nat.le_trans hB hk47.ex.size
        replace hA := hk47.new
        replace hH : Hp w.heap.size A49 w46 ([]) := hH50
        refine C_at (n := ⟨109, [], none⟩) (fun _ _ => rfl) ?_ ha48
        refine C_cond rfl (fun hc58 => ?_) (fun hc58 => ?_)
        · rw [if_pos hc58] at h31
          refine C_seq ?_
          refine C_region ?_
          refine V_y (Y_assign rfl) rfl rfl rfl ?_
          refine V_y (Y_assign rfl) rfl rfl rfl ?_
          refine V_to (fun _ _ => rfl) ?_
          obtain rfl := Option.some.inj h31
          obtain rfl := (h32 : Lp.rt _ = _)
          rw [Lp.andThen_rt] at hm
          obtain rfl := Option.some.inj hm
          replace hH : Hp w.heap.size A49 w46 (obS (α := Int) 3 (.slice none 0 0) ([] : (List Int)) :: []) := Hp.addNil (α := Int) (e := 3) hH
          refine C_ret ?_
          try simp only [↓inBlock_ret, ↓then_ret]
          exact retQ rfl (Res.two Tryd.results6 rfl rfl) ⟨.slice none 0 0, rfl, (Hp.ownd hH (i := 0) rfl), hK.kp⟩
        · rw [if_neg (nt hc58)] at h31
          refine C_skip_to (fun _ _ => rfl) ?_
          refine C_region ?_
          refine V_y (Y_addI rfl rfl) rfl rfl rfl ?_
          refine V_y (Y_move rfl) rfl rfl rfl ?_
          obtain rfl := Option.some.inj h31
          refine V_end (fun a ha59 => ?_)
          exact ⟨(), hlt34, h32, ⟨A49, ha59.sub ⟨rfl, rfl, rfl, rfl, (congrArg (fun z => some (Value.int .i64 z)) (w64_succ hlt34 hn37)), trivial⟩, ⟨hH, hr19⟩⟩⟩
      · refine C_exit (fun a ha60 => ?_)
        exact ⟨((), A28), ha60.sub ⟨rfl, rfl, trivial⟩, ⟨(h35 (eq_of_dec hle33 hc38)).symm, hH, hr19⟩⟩
    rintro ⟨s18, A24⟩ w21 ⟨rfl, hH25, hk22⟩ a ha23
    rw [Lp.andThen_fin] at hm
    replace h_forms := Sl.tr h_forms hk22
    replace h_demand := Sl.tr h_demand hk22
    replace hK := Tr.trans hK hk22
    replace hB := Nat.le_trans hB hk22.ex.size
    replace hA := hk22.new
    replace hH : Hp w.heap.size A24 w21 ([]) := hH25
    refine C_at (n := ⟨109, [], none⟩) (fun _ _ => rfl) ?_ ha23
    refine C_seq ?_
    refine C_region ?_
    refine V_y (Y_move rfl) rfl rfl rfl ?_
    refine V_y (Y_lenSl h_forms rfl Tryd.underlying25 rfl) rfl rfl rfl ?_
    obtain ⟨x62, hx62, hm⟩ := Option.bind_eq_some_iff.1 hm
    refine V_makeH (e := 3) (ti := Tryd.t3) hH hx62 (fun _ _ => rfl) Tryd.underlying27 Tryd_info3 rfl rfl rfl (by decide) (by decide) hB hA rfl rfl rfl ?_
    intro v63 w65 A66 hH67 ht68
    replace h_forms := Sl.tr h_forms ht68
    replace h_demand := Sl.tr h_demand ht68
    replace hK := Tr.trans hK ht68
    replace hB := Nat.le_trans hB ht68.ex.size
    replace hA := ht68.new
    replace hH : Hp w.heap.size A66 w65 (obS (α := Int) 3 v63 x62 :: []) := hH67
    refine V_y (Y_assign rfl) rfl rfl rfl ?_
    refine V_to (fun _ _ => rfl) ?_
    refine C_seq ?_
    refine C_region ?_
    refine V_y (Y_move rfl) rfl rfl rfl ?_
    refine V_y (Y_lenSl h_demand rfl Tryd.underlying27 rfl) rfl rfl rfl ?_
    obtain ⟨x69, hx69, hm⟩ := Option.bind_eq_some_iff.1 hm
    refine V_makeH (e := 3) (ti := Tryd.t3) hH hx69 (fun _ _ => rfl) Tryd.underlying27 Tryd_info3 rfl rfl rfl (by decide) (by decide) hB hA rfl rfl rfl ?_
    intro v70 w71 A72 hH73 ht74
    replace h_forms := Sl.tr h_forms ht74
    replace h_demand := Sl.tr h_demand ht74
    replace hK := Tr.trans hK ht74
    replace hB := Nat.le_trans hB ht74.ex.size
    replace hA := ht74.new
    replace hH : Hp w.heap.size A72 w71 (obS (α := Int) 3 v70 x69 :: obS (α := Int) 3 v63 x62 :: []) := hH73
    refine V_y (Y_assign rfl) rfl rfl rfl ?_
    refine V_to (fun _ _ => rfl) ?_
    refine C_seq ?_
    refine C_seq ?_
    refine C_region ?_
    refine V_y (Y_move rfl) rfl rfl rfl ?_
    refine V_y (Y_lenSl h_demand rfl Tryd.underlying27 rfl) rfl rfl rfl ?_
    refine V_y (Y_move rfl) rfl rfl rfl ?_
    refine V_to (fun _ _ => rfl) ?_
    have hn103 := Sl.le h_demand
    obtain ⟨o75, ho75, hm⟩ := Option.bind_eq_some_iff.1 hm
    refine C_cutG (ι := (((List Int) × (List Int)) × Value × Value × (Nat → Prop))) (fun ⟨s76, v82, v84, A86⟩ => [(9, v82)]) (fun ⟨s76, v82, v84, A86⟩ => fun w' => o75 = .fin s76 ∧ Hp w.heap.size A86 w' (obS (α := Int) 3 v84 s76.2 :: obS (α := Int) 3 v82 s76.1 :: []) ∧ Tr w.heap.size A72 w71 A86 w') ?_ ?_
    · refine C_block ?_
      refine C_range ho75 (fun k78 s88 a w' => ∃ i : (Value × Value × (Nat → Prop)), Has ⟨109, [], none⟩ a ([(0, v_forms), (9, i.1), (10, i.2.1), (47, v_demand), (48, .int .i64 (demand.length : Int)), (49, .int .i64 (k78 : Int))]) ∧ Hp w.heap.size i.2.2 w' (obS (α := Int) 3 i.2.1 s88.2 :: obS (α := Int) 3 i.1 s88.1 :: []) ∧ Tr w.heap.size A72 w71 i.2.2 w') (fun a ha => ⟨(v63, v70, A72), ha.sub ⟨rfl, rfl, rfl, rfl, rfl, rfl, trivial⟩, ⟨hH, Tr.refl hA⟩⟩) ?_
      rintro K k78 s88 a w89 ⟨⟨v90, v92, A94⟩, ha211, hH95, hr77⟩ hle99 K102 h101
      refine C_of ?_ ha211
      replace h_forms := Sl.tr h_forms hr77
      replace h_demand := Sl.tr h_demand hr77
      replace hK := Tr.trans hK hr77
      replace hB := Nat.le_trans hB hr77.ex.size
      replace hA := hr77.new
      replace hH : Hp w.heap.size A94 w89 (obS (α := Int) 3 v92 s88.2 :: obS (α := Int) 3 v90 s88.1 :: []) := hH95
      refine C_seq (C_region (V_y (Y_lss rfl rfl) rfl rfl rfl (V_to (fun _ _ => rfl) ?_)))
      refine C_seq ?_
      refine C_cond rfl (fun hc104 => ?_) (fun hc104 => ?_)
      · have hlt100 := lt_of_dec hc104
        obtain ⟨x96, h97, h98⟩ := K102 hlt100
        refine C_skip_to (fun _ _ => rfl) ?_
        refine C_seq ?_
        obtain ⟨o105, ho105, h97⟩ := Option.bind_eq_some_iff.1 h97
        refine C_cutG (ι := (((List Int) × (List Int)) × Value × Value × (Nat → Prop))) (fun ⟨s106, v108, v110, A115⟩ => [(0, v_forms), (9, v108), (10, v110), (47, v_demand), (48, .int .i64 (demand.length : Int)), (49, .int .i64 (k78 : Int))]) (fun ⟨s106, v108, v110, A115⟩ => fun w' => o105 = .fin s106 ∧ Hp w.heap.size A115 w' (obS (α := Int) 3 v110 s106.2 :: obS (α := Int) 3 v108 s106.1 :: []) ∧ Tr w.heap.size A94 w89 A115 w') ?_ ?_
        · have hr107 : Tr w.heap.size A94 w89 A94 w89 := Tr.refl hA
          refine C_block ?_
          refine C_seq ?_
          refine C_region ?_
          refine V_y (Y_move rfl) rfl rfl rfl ?_
          obtain ⟨x117, hx117, ho105⟩ := Option.bind_eq_some_iff.1 ho105
          refine V_indexAddr h_demand hx117 Tryd.underlying27 Tryd.sizeOf3 rfl rfl rfl ?_
          intro b118 o119 h120
          refine V_y (Y_load (El.int h120) Tryd.isAgg3 rfl) rfl rfl rfl ?_
          refine V_y (Y_assign rfl) rfl rfl rfl ?_
          refine V_y (Y_assign rfl) rfl rfl rfl ?_
          refine V_to (fun _ _ => rfl) ?_
          refine C_seq ?_
          refine C_region ?_
          refine V_y (Y_move rfl) rfl rfl rfl ?_
          refine V_y (Y_move rfl) rfl rfl rfl ?_
          refine V_y (Y_move rfl) rfl rfl rfl ?_
          obtain ⟨x121, hx121, ho105⟩ := Option.bind_eq_some_iff.1 ho105
          refine V_indexAddrH (α := Int) (e := 3) (v := v92) (l := s88.2) hH (i := 0) rfl hx121 Tryd.underlying27 Tryd.sizeOf3 rfl rfl rfl ?_
          intro b122 o123 h124 hl125
          refine V_y (Y_load (El.int h124) Tryd.isAgg3 rfl) rfl rfl rfl ?_
          refine V_y (Y_subI rfl rfl) rfl rfl rfl ?_
          refine V_y (Y_assign rfl) rfl rfl rfl ?_
          refine V_to (fun _ _ => rfl) ?_
          refine C_seq ?_
          refine C_seq ?_
          refine C_region ?_
          refine V_y (Y_move rfl) rfl rfl rfl ?_
          refine V_y (Y_leq rfl rfl) rfl rfl rfl ?_
          refine V_to (fun _ _ => rfl) ?_
          refine C_cond rfl (fun hc126 => ?_) (fun hc126 => ?_)
          · rw [if_pos hc126] at ho105
            obtain rfl := Option.some.inj ho105
            refine C_exit (fun a ha127 => ?_)
            exact ⟨((s88.1, s88.2), v90, v92, A94), ha127.sub ⟨rfl, rfl, rfl, rfl, rfl, rfl, trivial⟩, ⟨rfl, hH, hr107⟩⟩
          · rw [if_neg (nt hc126)] at ho105
            refine C_skip_to (fun _ _ => rfl) ?_
            refine C_seq ?_
            refine C_region ?_
            refine V_y (Y_move rfl) rfl rfl rfl ?_
            refine V_y (Y_move rfl) rfl rfl rfl ?_
            obtain ⟨x128, hx128, ho105⟩ := Option.bind_eq_some_iff.1 ho105
            refine V_call Tryd.call16 rfl rfl rfl rfl (staff_longest_c w89 hA forms v_forms h_forms (k78 : Int) hx128) ?_
            rintro _ w129 ⟨rfl, hk130⟩
            have ht131 := Kp.tr hk130 hA hB
            replace hH := Hp.kp hH hk130
            replace h_forms := Sl.tr h_forms ht131
            replace h_demand := Sl.tr h_demand ht131
            replace hK := Tr.trans hK ht131
            replace hr77 := Tr.trans hr77 ht131
            replace hr107 := Tr.trans hr107 ht131
            replace hB := Nat.le_trans hB ht131.ex.size
            replace hA := ht131.new
            refine V_y (Y_assign rfl) rfl rfl rfl ?_
            refine V_to (fun _ _ => rfl) ?_
            refine C_seq ?_
            refine C_region ?_
            refine V_y (Y_move rfl) rfl rfl rfl ?_
            refine V_y (Y_move rfl) rfl rfl rfl ?_
            obtain ⟨x132, hx132, ho105⟩ := Option.bind_eq_some_iff.1 ho105
            refine V_indexAddrH (α := Int) (e := 3) (v := v90) (l := s88.1) hH (i := 1) rfl hx132 Tryd.underlying27 Tryd.sizeOf3 rfl rfl rfl ?_
            intro b133 o134 h135 hl136
            refine V_y (Y_load (El.int h135) Tryd.isAgg3 rfl) rfl rfl rfl ?_
            refine V_y (Y_move rfl) rfl rfl rfl ?_
            refine V_y (Y_addI rfl rfl) rfl rfl rfl ?_
            refine V_indexAddrH (α := Int) (e := 3) (v := v90) (l := s88.1) hH (i := 1) rfl hx132 Tryd.underlying27 Tryd.sizeOf3 rfl rfl rfl ?_
            intro b137 o138 h139 hl140
            obtain ⟨x141, hx141, ho105⟩ := Option.bind_eq_some_iff.1 ho105
            refine V_storeH (α := Int) (e := 3) (v := v90) (l := s88.1) hH (i := 1) rfl hl140 hx141 rfl Tryd.sizeOf3 rfl hB hA rfl rfl ?_
            intro w142 hH143 ht144
            replace h_forms := Sl.tr h_forms ht144
            replace h_demand := Sl.tr h_demand ht144
            replace hK := Tr.trans hK ht144
            replace hr77 := Tr.trans hr77 ht144
            replace hr107 := Tr.trans hr107 ht144
            replace hB := Nat.le_trans hB ht144.ex.size
            replace hA := ht144.new
            replace hH : Hp w.heap.size A94 w142 (obS (α := Int) 3 v92 s88.2 :: obS (α := Int) 3 v90 x141 :: []) := hH143
            refine V_to (fun _ _ => rfl) ?_
            refine C_seq ?_
            refine C_seq ?_
            refine C_region ?_
            refine V_y (Y_move rfl) rfl rfl rfl ?_
            refine V_y (Y_move rfl) rfl rfl rfl ?_
            obtain ⟨x145, hx145, ho105⟩ := Option.bind_eq_some_iff.1 ho105
            refine V_indexAddrH (α := Int) (e := 3) (v := v90) (l := x141) hH (i := 1) rfl hx145 Tryd.underlying27 Tryd.sizeOf3 rfl rfl rfl ?_
            intro b146 o147 h148 hl149
            refine V_y (Y_load (El.int h148) Tryd.isAgg3 rfl) rfl rfl rfl ?_
            refine V_y (Y_gtr rfl rfl) rfl rfl rfl ?_
            refine V_to (fun _ _ => rfl) ?_
            refine C_cond rfl (fun hc150 => ?_) (fun hc150 => ?_)
            · rw [if_pos hc150] at ho105
              refine C_seq ?_
              refine C_region ?_
              refine V_y (Y_assign rfl) rfl rfl rfl ?_
              refine V_y (Y_assign rfl) rfl rfl rfl ?_
              refine V_to (fun _ _ => rfl) ?_
              obtain rfl := Option.some.inj ho105
              rw [Lp.andThen_rt] at h97
              obtain rfl := Option.some.inj h97
              obtain rfl := (h98 : Lp.rt _ = _)
              rw [Lp.andThen_rt] at hm
              obtain rfl := Option.some.inj hm
              replace hH : Hp w.heap.size A94 w142 (obS (α := Int) 3 (.slice none 0 0) ([] : (List Int)) :: obS (α := Int) 3 v92 s88.2 :: obS (α := Int) 3 v90 x141 :: []) := Hp.addNil (α := Int) (e := 3) hH
              refine C_ret ?_
              try simp only [↓inBlock_ret, ↓then_ret]
              exact retQ rfl (Res.two Tryd.results6 rfl rfl) ⟨.slice none 0 0, rfl, (Hp.ownd hH (i := 0) rfl), hK.kp⟩
            · rw [if_neg (nt hc150)] at ho105
              refine C_skip_to (fun _ _ => rfl) ?_
              refine C_seq ?_
              refine C_region ?_
              refine V_y (Y_move rfl) rfl rfl rfl ?_
              refine V_y (Y_move rfl) rfl rfl rfl ?_
              obtain ⟨x151, hx151, ho105⟩ := Option.bind_eq_some_iff.1 ho105
              refine V_indexAddr h_forms hx151 Tryd.underlying25 Tryd.sizeOf51 rfl rfl rfl ?_
              intro b152 o153 h154
              have h155 := El_staff_Form_0 h154
              refine V_y (Y_fieldAddr Tryd.underlying51 rfl Tryd.sizeOf3 (by decide) rfl) rfl rfl rfl ?_
              refine V_y (Y_load (El.int h155) Tryd.isAgg3 rfl) rfl rfl rfl ?_
              refine V_y (Y_assign rfl) rfl rfl rfl ?_
              refine V_to (fun _ _ => rfl) ?_
              obtain ⟨o156, ho156, ho105⟩ := Option.bind_eq_some_iff.1 ho105
              refine C_cutG (ι := (((List Int) × Int) × Value × (Nat → Prop))) (fun ⟨s157, v163, A165⟩ => [(0, v_forms), (9, v90), (10, v163), (47, v_demand), (48, .int .i64 (demand.length : Int)), (49, .int .i64 (k78 : Int))]) (fun ⟨s157, v163, A165⟩ => fun w' => o156 = .fin s157 ∧ Hp w.heap.size A165 w' (obS (α := Int) 3 v163 s157.1 :: obS (α := Int) 3 v90 x141 :: []) ∧ Tr w.heap.size A94 w142 A165 w') ?_ ?_
              · refine C_block ?_
                refine C_while ho156 (fun s167 a w' => ∃ i : (Value × (Nat → Prop)), Has ⟨109, [], none⟩ a ([(0, v_forms), (9, v90), (10, i.1), (13, .int .i64 (w64 (x117 - x121))), (14, .int .i64 x128), (15, .int .i64 s167.2), (47, v_demand), (48, .int .i64 (demand.length : Int)), (49, .int .i64 (k78 : Int))]) ∧ Hp w.heap.size i.2 w' (obS (α := Int) 3 i.1 s167.1 :: obS (α := Int) 3 v90 x141 :: []) ∧ Tr w.heap.size A94 w142 i.2 w') (fun a ha => ⟨(v92, A94), ha.sub ⟨rfl, rfl, rfl, rfl, rfl, rfl, rfl, rfl, rfl, trivial⟩, ⟨hH, Tr.refl hA⟩⟩) ?_
                rintro K s167 a w168 ⟨⟨v169, A171⟩, ha207, hH172, hr158⟩ K179
                refine C_of ?_ ha207
                replace h_forms := Sl.tr h_forms hr158
                replace h_demand := Sl.tr h_demand hr158
                replace hK := Tr.trans hK hr158
                replace hr77 := Tr.trans hr77 hr158
                replace hr107 := Tr.trans hr107 hr158
                replace hB := Nat.le_trans hB hr158.ex.size
                replace hA := hr158.new
                replace hH : Hp w.heap.size A171 w168 (obS (α := Int) 3 v169 s167.1 :: obS (α := Int) 3 v90 x141 :: []) := hH172
                obtain ⟨x173, h174, h175⟩ := K179
                refine C_seq ?_
                refine C_seq ?_
                refine C_region_q Tryd_mixed (by kernel_rfl) ?_
                refine VQ_y (fun w' hw' => Y_move rfl) rfl rfl rfl ?_
                refine VQ_y (fun w' hw' => Y_move rfl) rfl rfl rfl ?_
                refine VQ_y (fun w' hw' => Y_lenSl (Hp.any (α := Int) (e := 3) (v := v169) (l := s167.1) hH (i := 0) rfl) rfl Tryd.underlying27 rfl) rfl rfl rfl ?_
                refine VQ_y (fun w' hw' => Y_move rfl) rfl rfl rfl ?_
                refine VQ_y (fun w' hw' => Y_move rfl) rfl rfl rfl ?_
                refine VQ_indexAddr h_forms hx151 Tryd.underlying25 Tryd.sizeOf51 rfl rfl rfl ?_
                intro b180 o181 h182
                have h183 := El_staff_Form_0 h182
                refine VQ_y (fun w' hw' => Y_fieldAddr Tryd.underlying51 rfl Tryd.sizeOf3 (by decide) rfl) rfl rfl rfl ?_
                refine VQ_y (fun w' hw' => Y_load (El.int (El.kp h183 hw')) Tryd.isAgg3 rfl) rfl rfl rfl ?_
                refine VQ_y (fun w' hw' => Y_move rfl) rfl rfl rfl ?_
                refine VQ_y (fun w' hw' => Y_move rfl) rfl rfl rfl ?_
                refine VQ_indexAddr h_forms hx151 Tryd.underlying25 Tryd.sizeOf51 rfl rfl rfl ?_
                intro b184 o185 h186
                have h187 := El_staff_Form_1 h186
                refine VQ_y (fun w' hw' => Y_fieldAddr Tryd.underlying51 rfl Tryd.sizeOf3 (by decide) rfl) rfl rfl rfl ?_
                refine VQ_y (fun w' hw' => Y_load (El.int (El.kp h187 hw')) Tryd.isAgg3 rfl) rfl rfl rfl ?_
                refine VQ_y (fun w' hw' => Y_addI rfl rfl) rfl rfl rfl ?_
                refine VQ_y (fun w' hw' => Y_min2 rfl rfl) rfl rfl rfl ?_
                refine VQ_y (fun w' hw' => Y_lss rfl rfl) rfl rfl rfl ?_
                refine VQ_to (fun _ _ => rfl) (fun w188 hk189 => ?_)
                have ht190 := Kp.tr hk189 hA hB
                replace hH := Hp.kp hH hk189
                replace h_forms := Sl.tr h_forms ht190
                replace h_demand := Sl.tr h_demand ht190
                replace hK := Tr.trans hK ht190
                replace hr77 := Tr.trans hr77 ht190
                replace hr107 := Tr.trans hr107 ht190
                replace hr158 := Tr.trans hr158 ht190
                replace hB := Nat.le_trans hB ht190.ex.size
                replace hA := ht190.new
                refine C_cond rfl (fun hc191 => ?_) (fun hc191 => ?_)
                · rw [if_pos hc191] at h174
                  refine C_skip_to (fun _ _ => rfl) ?_
                  refine C_seq ?_
                  refine C_block ?_
                  refine C_region ?_
                  refine V_y (Y_move rfl) rfl rfl rfl ?_
                  refine V_y (Y_move rfl) rfl rfl rfl ?_
                  obtain ⟨x192, hx192, h174⟩ := Option.bind_eq_some_iff.1 h174
                  refine V_indexAddrH (α := Int) (e := 3) (v := v169) (l := s167.1) hH (i := 0) rfl hx192 Tryd.underlying27 Tryd.sizeOf3 rfl rfl rfl ?_
                  intro b193 o194 h195 hl196
                  refine V_y (Y_load (El.int h195) Tryd.isAgg3 rfl) rfl rfl rfl ?_
                  refine V_y (Y_move rfl) rfl rfl rfl ?_
                  refine V_y (Y_addI rfl rfl) rfl rfl rfl ?_
                  refine V_indexAddrH (α := Int) (e := 3) (v := v169) (l := s167.1) hH (i := 0) rfl hx192 Tryd.underlying27 Tryd.sizeOf3 rfl rfl rfl ?_
                  intro b197 o198 h199 hl200
                  obtain ⟨x201, hx201, h174⟩ := Option.bind_eq_some_iff.1 h174
                  refine V_storeH (α := Int) (e := 3) (v := v169) (l := s167.1) hH (i := 0) rfl hl200 hx201 rfl Tryd.sizeOf3 rfl hB hA rfl rfl ?_
                  intro w202 hH203 ht204
                  replace h_forms := Sl.tr h_forms ht204
                  replace h_demand := Sl.tr h_demand ht204
                  replace hK := Tr.trans hK ht204
                  replace hr77 := Tr.trans hr77 ht204
                  replace hr107 := Tr.trans hr107 ht204
                  replace hr158 := Tr.trans hr158 ht204
                  replace hB := Nat.le_trans hB ht204.ex.size
                  replace hA := ht204.new
                  replace hH : Hp w.heap.size A171 w202 (obS (α := Int) 3 v169 x201 :: obS (α := Int) 3 v90 x141 :: []) := hH203
                  refine V_to (fun _ _ => rfl) ?_
                  refine C_region ?_
                  refine V_y (Y_move rfl) rfl rfl rfl ?_
                  refine V_y (Y_addI rfl rfl) rfl rfl rfl ?_
                  refine V_y (Y_assign rfl) rfl rfl rfl ?_
                  obtain rfl := Option.some.inj h174
                  refine V_end (fun a ha205 => ?_)
                  exact ⟨(x201, w64 (s167.2 + 1)), h175, ⟨(v169, A171), ha205.sub ⟨rfl, rfl, rfl, rfl, rfl, rfl, rfl, rfl, rfl, trivial⟩, ⟨hH, hr158⟩⟩⟩
                · rw [if_neg (nt hc191)] at h174
                  obtain rfl := Option.some.inj h174
                  refine C_exit (fun a ha206 => ?_)
                  exact ⟨((s167.1, s167.2), v169, A171), ha206.sub ⟨rfl, rfl, rfl, rfl, rfl, rfl, trivial⟩, ⟨h175.symm, hH, hr158⟩⟩
              rintro ⟨s157, v163, A165⟩ w160 ⟨rfl, hH166, hk161⟩ a ha162
              rw [Lp.andThen_fin] at ho105
              replace h_forms := Sl.tr h_forms hk161
              replace h_demand := Sl.tr h_demand hk161
              replace hK := Tr.trans hK hk161
              replace hr77 := Tr.trans hr77 hk161
              replace hr107 := Tr.trans hr107 hk161
              replace hB := Nat.le_trans hB hk161.ex.size
              replace hA := hk161.new
              replace hH : Hp w.heap.size A165 w160 (obS (α := Int) 3 v163 s157.1 :: obS (α := Int) 3 v90 x141 :: []) := hH166
              obtain rfl := Option.some.inj ho105
              exact ⟨((x141, s157.1), v90, v163, A165), ha162.sub ⟨rfl, rfl, rfl, rfl, rfl, rfl, trivial⟩, ⟨rfl, hH, hr107⟩⟩
        rintro ⟨s106, v108, v110, A115⟩ w112 ⟨rfl, hH116, hk113⟩ a ha114
        rw [Lp.andThen_fin] at h97
        replace h_forms := Sl.tr h_forms hk113
        replace h_demand := Sl.tr h_demand hk113
        replace hK := Tr.trans hK hk113
        replace hr77 := Tr.trans hr77 hk113
        replace hB := Nat.le_trans hB hk113.ex.size
        replace hA := hk113.new
        replace hH : Hp w.heap.size A115 w112 (obS (α := Int) 3 v110 s106.2 :: obS (α := Int) 3 v108 s106.1 :: []) := hH116
        refine C_at (n := ⟨109, [], none⟩) (fun _ _ => rfl) ?_ ha114
        refine C_region ?_
        refine V_y (Y_addI rfl rfl) rfl rfl rfl ?_
        refine V_y (Y_move rfl) rfl rfl rfl ?_
        obtain rfl := Option.some.inj h97
        refine V_end (fun a ha209 => ?_)
        exact ⟨(s106.1, s106.2), hlt100, h98, ⟨(v108, v110, A115), ha209.sub ⟨rfl, rfl, rfl, rfl, rfl, (congrArg (fun z => some (Value.int .i64 z)) (w64_succ hlt100 hn103)), trivial⟩, ⟨hH, hr77⟩⟩⟩
      · refine C_exit (fun a ha210 => ?_)
        exact ⟨((s88.1, s88.2), v90, v92, A94), ha210.sub ⟨rfl, trivial⟩, ⟨(h101 (eq_of_dec hle99 hc104)).symm, hH, hr77⟩⟩
    rintro ⟨s76, v82, v84, A86⟩ w79 ⟨rfl, hH87, hk80⟩ a ha81
    rw [Lp.andThen_fin] at hm
    replace hK := Tr.trans hK hk80
    replace hB := Nat.le_trans hB hk80.ex.size
    replace hA := hk80.new
    replace hH : Hp w.heap.size A86 w79 (obS (α := Int) 3 v84 s76.2 :: obS (α := Int) 3 v82 s76.1 :: []) := hH87
    refine C_at (n := ⟨109, [], none⟩) (fun _ _ => rfl) ?_ ha81
    refine C_seq ?_
    refine C_region ?_
    refine V_y (Y_move rfl) rfl rfl rfl ?_
    refine V_y (Y_assign rfl) rfl rfl rfl ?_
    refine V_y (Y_assign rfl) rfl rfl rfl ?_
    refine V_to (fun _ _ => rfl) ?_
    obtain rfl := Option.some.inj hm
    refine C_ret ?_
    try simp only [↓inBlock_ret, ↓then_ret]
    exact retQ rfl (Res.two Tryd.results6 rfl rfl) ⟨v82, rfl, (Hp.ownd hH (i := 1) rfl), hK.kp⟩

set_option maxRecDepth 4000 in
set_option maxHeartbeats 4000000 in
theorem staff_checkPlan_c (w : World) {A : Nat → Prop} (forms : (List staff_Form)) (v_forms : Value) (h_forms : Sl A w v_forms forms) (plan : (List Int)) (v_plan : Value) (h_plan : Sl A w v_plan plan) {r : Int} (hm : staff_checkPlan forms plan = some r) : Ret Tryd.prog 17 #[v_forms, v_plan] w fun v w' => v = .int .i64 r ∧ w = w' := by
  unfold staff_checkPlan at hm
  refine enter Tryd.func17 rfl Tryd.ntmps17 rfl ?_
  refine C_seq ?_
  refine C_region ?_
  refine V_y (Y_assign rfl) rfl rfl rfl ?_
  refine V_to (fun _ _ => rfl) ?_
  refine C_seq ?_
  refine C_seq ?_
  refine C_region ?_
  refine V_y (Y_move rfl) rfl rfl rfl ?_
  refine V_y (Y_lenSl h_plan rfl Tryd.underlying27 rfl) rfl rfl rfl ?_
  refine V_y (Y_move rfl) rfl rfl rfl ?_
  refine V_y (Y_lenSl h_forms rfl Tryd.underlying25 rfl) rfl rfl rfl ?_
  refine V_y (Y_neq rfl rfl) rfl rfl rfl ?_
  refine V_to (fun _ _ => rfl) ?_
  refine C_cond rfl (fun hc5 => ?_) (fun hc5 => ?_)
  · rw [if_pos hc5] at hm
    refine C_seq ?_
    refine C_region ?_
    refine V_y (Y_assign rfl) rfl rfl rfl ?_
    refine V_to (fun _ _ => rfl) ?_
    obtain rfl := Option.some.inj hm
    refine C_ret ?_
    try simp only [↓inBlock_ret, ↓then_ret]
    exact retQ rfl (Res.one Tryd.results17 rfl) ⟨rfl, rfl⟩
  · rw [if_neg (nt hc5)] at hm
    refine C_skip_to (fun _ _ => rfl) ?_
    refine C_seq ?_
    refine C_region ?_
    refine V_y (Y_move rfl) rfl rfl rfl ?_
    obtain ⟨x6, hx6, hm⟩ := Option.bind_eq_some_iff.1 hm
    refine V_call Tryd.call27 rfl rfl rfl rfl (staff_checkNumbers_c w plan v_plan h_plan 60 hx6) ?_
    rintro _ _ ⟨rfl, rfl⟩
    refine V_y (Y_assign rfl) rfl rfl rfl ?_
    refine V_to (fun _ _ => rfl) ?_
    obtain rfl := Option.some.inj hm
    refine C_ret ?_
    try simp only [↓inBlock_ret, ↓then_ret]
    exact retQ rfl (Res.one Tryd.results17 rfl) ⟨rfl, rfl⟩

end Go.Proofs.YtcehkbhloaeflaaDoor.W
