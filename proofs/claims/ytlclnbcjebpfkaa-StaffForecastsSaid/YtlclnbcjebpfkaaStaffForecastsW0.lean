/-
  Written by program (gen.py) from the IR of the dump: each function computes its model.
-/
import Derived.Test.YtlclnbcjebpfkaaProg
import Derived.Test.YtlclnbcjebpfkaaFm
import Derived.Test.YtlclnbcjebpfkaaStaffForecastsM
import Derived.KernelRfl
namespace Go.Proofs.Ytlclnbcjebpfkaa.W
open Go Go.RowKit Go.Pu Go.Fw Go.Proofs Go.Proofs.Ytlclnbcjebpfkaa.M
set_option linter.unusedVariables false
set_option linter.unusedSimpArgs false

theorem Try_mixed : Try.prog.follows .mixedOrders = true := by kernel_rfl


set_option maxRecDepth 4000 in
theorem staff_within_c (w : World)  (n : Int) (low : Int) (high : Int) : Ret Try.prog 33 #[.int .i64 n, .int .i64 low, .int .i64 high] w fun v w' => v = .bool (staff_within n low high) ∧ w = w' := by
  generalize hm : staff_within n low high = r
  unfold staff_within at hm
  refine enter Try.func33 rfl Try.ntmps33 rfl ?_
  refine C_seq ?_
  refine C_region ?_
  refine V_y (Y_assign rfl) rfl rfl rfl ?_
  refine V_to (fun _ _ => rfl) ?_
  refine C_seq ?_
  refine C_region ?_
  refine V_y (Y_move rfl) rfl rfl rfl ?_
  refine V_y (Y_move rfl) rfl rfl rfl ?_
  refine V_y (Y_geq rfl rfl) rfl rfl rfl ?_
  refine V_y (Y_move rfl) rfl rfl rfl ?_
  refine V_cut 4 (fun _ : Unit => [(14, .bool ((decide (low ≤ n)) && (decide (n ≤ high))))]) (fun _ w' => w = w') ?_ ?_
  · simp only [List.take, List.drop]
    rcases Bool.eq_false_or_eq_true (decide (low ≤ n)) with hc1 | hc1
    · refine V_ge rfl rfl rfl hc1 ?_
      refine V_y (Y_move rfl) rfl rfl rfl ?_
      refine V_ge rfl rfl rfl hc1 ?_
      refine V_y (Y_move rfl) rfl rfl rfl ?_
      refine V_ge rfl rfl rfl hc1 ?_
      refine V_y (Y_leq rfl rfl) rfl rfl rfl ?_
      refine V_y (Y_pick_te rfl hc1 rfl) rfl rfl rfl ?_
      exact V_end fun a ha => ⟨(), ha.sub ⟨(by rw [hc1]; rfl), trivial⟩, rfl⟩
    · refine V_gn rfl rfl rfl hc1 rfl rfl rfl ?_
      refine V_gn rfl rfl rfl hc1 rfl rfl rfl ?_
      refine V_gn rfl rfl rfl hc1 rfl rfl rfl ?_
      refine V_y (Y_pick_fe rfl hc1 rfl) rfl rfl rfl ?_
      exact V_end fun a ha => ⟨(), ha.sub ⟨(by rw [hc1]; rfl), trivial⟩, rfl⟩
  simp only [List.take, List.drop]
  rintro _ _ rfl
  refine V_y (Y_assign rfl) rfl rfl rfl ?_
  refine V_to (fun _ _ => rfl) ?_
  obtain rfl := hm
  refine C_ret fun a ha => ?_
  try simp only [↓inBlock_ret, ↓then_ret]
  exact ret1 ha Try.results33 rfl ⟨rfl, rfl⟩

set_option maxRecDepth 4000 in
theorem staff_Forecast_c (w : World) {A : Nat → Prop}  (history : (List Int)) (v_history : Value) (h_history : Sl A w v_history history) (season : Int) (back : Int) {r : (Int × Int)} (hm : staff_Forecast history season back = some r) : Ret Try.prog 10 #[v_history, .int .i64 season, .int .i64 back] w fun v w' => v = .tuple #[.int .i64 r.1, .int .i64 r.2] ∧ w = w' := by
  unfold staff_Forecast at hm
  refine enter Try.func10 rfl Try.ntmps10 rfl ?_
  refine C_seq ?_
  refine C_region ?_
  refine V_y (Y_assign rfl) rfl rfl rfl ?_
  refine V_y (Y_assign rfl) rfl rfl rfl ?_
  refine V_to (fun _ _ => rfl) ?_
  refine C_seq ?_
  refine C_seq ?_
  refine C_region ?_
  refine V_y (Y_move rfl) rfl rfl rfl ?_
  refine V_y (Y_lenSl h_history rfl Try.underlying22 rfl) rfl rfl rfl ?_
  refine V_y (Y_gtr rfl rfl) rfl rfl rfl ?_
  refine V_to (fun _ _ => rfl) ?_
  refine C_cond rfl (fun hc7 => ?_) (fun hc7 => ?_)
  · rw [if_pos hc7] at hm
    refine C_seq ?_
    refine C_region ?_
    refine V_y (Y_assign rfl) rfl rfl rfl ?_
    refine V_y (Y_assign rfl) rfl rfl rfl ?_
    refine V_to (fun _ _ => rfl) ?_
    obtain rfl := Option.some.inj hm
    refine C_ret fun a ha => ?_
    try simp only [↓inBlock_ret, ↓then_ret]
    exact ret2 ha Try.results10 rfl rfl ⟨rfl, rfl⟩
  · rw [if_neg (nt hc7)] at hm
    refine C_skip_to (fun _ _ => rfl) ?_
    refine C_seq ?_
    refine C_seq ?_
    refine C_region ?_
    refine V_y (Y_move rfl) rfl rfl rfl ?_
    refine V_y (Y_lenSl h_history rfl Try.underlying22 rfl) rfl rfl rfl ?_
    refine V_y (Y_move rfl) rfl rfl rfl ?_
    refine V_to (fun _ _ => rfl) ?_
    obtain ⟨o12, ho12, hm⟩ := Option.bind_eq_some_iff.1 hm
    refine C_cutG (ι := Unit) (fun (s13 : Unit) => [(0, v_history), (1, .int .i64 season), (2, .int .i64 back)]) (fun (s13 : Unit) => fun w' => o12 = .fin s13 ∧ w = w') ?_ ?_
    · refine C_block ?_
      refine C_range ho12 (fun k16 _ a w' => ∃ i : Unit, Has 65 a ([(0, v_history), (1, .int .i64 season), (2, .int .i64 back), (16, v_history), (17, .int .i64 (history.length : Int)), (18, .int .i64 (k16 : Int))]) ∧ w = w') (fun a ha => ⟨(), ha.sub ⟨rfl, rfl, rfl, rfl, rfl, rfl, trivial⟩, rfl⟩) ?_
      rintro K k16 _ a _ ⟨_, ha32, rfl⟩ hle22 K25 h24
      refine C_of ?_ ha32
      refine C_seq (C_region (V_y (Y_lss rfl rfl) rfl rfl rfl (V_to (fun _ _ => rfl) ?_)))
      refine C_seq ?_
      refine C_cond rfl (fun hc26 => ?_) (fun hc26 => ?_)
      · have hlt23 := lt_of_dec hc26
        obtain ⟨x19, h20, h21⟩ := K25 hlt23
        refine C_skip_to (fun _ _ => rfl) ?_
        refine C_seq ?_
        refine C_block ?_
        refine C_seq ?_
        refine C_region ?_
        obtain ⟨x27, hx27, h20⟩ := Option.bind_eq_some_iff.1 h20
        refine V_indexAddr h_history hx27 Try.underlying22 Try.sizeOf3 rfl rfl rfl ?_
        intro b28 o29 h30
        refine V_y (Y_load (El.int h30) Try.isAgg3 rfl) rfl rfl rfl ?_
        refine V_y (Y_assign rfl) rfl rfl rfl ?_
        refine V_to (fun _ _ => rfl) ?_
        refine C_seq ?_
        refine C_region ?_
        refine V_y (Y_move rfl) rfl rfl rfl ?_
        refine V_call Try.call33 rfl rfl rfl rfl (staff_within_c w x27 0 100000) ?_
        rintro _ _ ⟨rfl, rfl⟩
        refine V_y (Y_not rfl) rfl rfl rfl ?_
        refine V_to (fun _ _ => rfl) ?_
        refine C_cond rfl (fun hc31 => ?_) (fun hc31 => ?_)
        · rw [if_pos hc31] at h20
          refine C_seq ?_
          refine C_region ?_
          refine V_y (Y_assign rfl) rfl rfl rfl ?_
          refine V_y (Y_assign rfl) rfl rfl rfl ?_
          refine V_to (fun _ _ => rfl) ?_
          obtain rfl := Option.some.inj h20
          obtain rfl := (h21 : Lp.rt _ = _)
          rw [Lp.andThen_rt] at hm
          obtain rfl := Option.some.inj hm
          refine C_ret fun a ha => ?_
          try simp only [↓inBlock_ret, ↓then_ret]
          exact ret2 ha Try.results10 rfl rfl ⟨rfl, rfl⟩
        · rw [if_neg (nt hc31)] at h20
          refine C_skip_to (fun _ _ => rfl) ?_
          refine C_region ?_
          refine V_y (Y_addI rfl rfl) rfl rfl rfl ?_
          refine V_y (Y_move rfl) rfl rfl rfl ?_
          obtain rfl := Option.some.inj h20
          exact V_end fun a ha => ⟨(), hlt23, h21, ⟨(), ha.sub ⟨rfl, rfl, rfl, rfl, rfl, (congrArg (fun z => some (Value.int .i64 z)) (w64_succ hlt23 (Sl.le h_history))), trivial⟩, rfl⟩⟩
      · exact C_exit fun a ha => ⟨(), ha.sub ⟨rfl, rfl, rfl, trivial⟩, ⟨(h24 (eq_of_dec hle22 hc26)).symm, rfl⟩⟩
    rintro s13 _ ⟨rfl, rfl⟩ a ha35
    rw [Lp.andThen_fin] at hm
    refine C_at (fun _ _ => rfl) ?_ ha35
    refine C_seq ?_
    refine C_seq ?_
    refine C_region ?_
    refine V_y (Y_move rfl) rfl rfl rfl ?_
    refine V_call Try.call33 rfl rfl rfl rfl (staff_within_c w season 1 5000) ?_
    rintro _ _ ⟨rfl, rfl⟩
    refine V_y (Y_not rfl) rfl rfl rfl ?_
    refine V_y (Y_move rfl) rfl rfl rfl ?_
    refine V_cut 4 (fun _ : Unit => [(0, v_history), (1, .int .i64 season), (2, .int .i64 back), (33, .bool ((!(staff_within season 1 5000)) || (!(staff_within back 1 100))))]) (fun _ w' => w = w') ?_ ?_
    · simp only [List.take, List.drop]
      rcases Bool.eq_false_or_eq_true (!(staff_within season 1 5000)) with hc36 | hc36
      · refine V_gn rfl rfl rfl hc36 rfl rfl rfl ?_
        refine V_gn rfl rfl rfl hc36 rfl rfl rfl ?_
        refine V_gn rfl rfl rfl hc36 rfl rfl rfl ?_
        refine V_y (Y_pick_te rfl hc36 rfl) rfl rfl rfl ?_
        exact V_end fun a ha => ⟨(), ha.sub ⟨rfl, rfl, rfl, (by rw [hc36]; rfl), trivial⟩, rfl⟩
      · refine V_ge rfl rfl rfl hc36 ?_
        refine V_y (Y_move rfl) rfl rfl rfl ?_
        refine V_ge rfl rfl rfl hc36 ?_
        refine V_call Try.call33 rfl rfl rfl rfl (staff_within_c w back 1 100) ?_
        rintro _ _ ⟨rfl, rfl⟩
        refine V_ge rfl rfl rfl hc36 ?_
        refine V_y (Y_not rfl) rfl rfl rfl ?_
        refine V_y (Y_pick_fe rfl hc36 rfl) rfl rfl rfl ?_
        exact V_end fun a ha => ⟨(), ha.sub ⟨rfl, rfl, rfl, (by rw [hc36]; rfl), trivial⟩, rfl⟩
    simp only [List.take, List.drop]
    rintro _ _ rfl
    refine V_to (fun _ _ => rfl) ?_
    refine C_cond rfl (fun hc39 => ?_) (fun hc39 => ?_)
    · rw [if_pos hc39] at hm
      refine C_seq ?_
      refine C_region ?_
      refine V_y (Y_assign rfl) rfl rfl rfl ?_
      refine V_y (Y_assign rfl) rfl rfl rfl ?_
      refine V_to (fun _ _ => rfl) ?_
      obtain rfl := Option.some.inj hm
      refine C_ret fun a ha => ?_
      try simp only [↓inBlock_ret, ↓then_ret]
      exact ret2 ha Try.results10 rfl rfl ⟨rfl, rfl⟩
    · rw [if_neg (nt hc39)] at hm
      refine C_skip_to (fun _ _ => rfl) ?_
      refine C_seq ?_
      refine C_region ?_
      refine V_y (Y_assign rfl) rfl rfl rfl ?_
      refine V_y (Y_assign rfl) rfl rfl rfl ?_
      refine V_to (fun _ _ => rfl) ?_
      refine C_seq ?_
      refine C_seq ?_
      refine C_region ?_
      refine V_y (Y_move rfl) rfl rfl rfl ?_
      refine V_y (Y_lenSl h_history rfl Try.underlying22 rfl) rfl rfl rfl ?_
      refine V_y (Y_move rfl) rfl rfl rfl ?_
      refine V_y (Y_subI rfl rfl) rfl rfl rfl ?_
      refine V_y (Y_assign rfl) rfl rfl rfl ?_
      refine V_to (fun _ _ => rfl) ?_
      obtain ⟨o44, ho44, hm⟩ := Option.bind_eq_some_iff.1 hm
      refine C_cutG (ι := (Int × Int × Int)) (fun (s45 : (Int × Int × Int)) => [(10, .int .i64 s45.1), (11, .int .i64 s45.2.1)]) (fun (s45 : (Int × Int × Int)) => fun w' => o44 = .fin s45 ∧ w = w') ?_ ?_
      · refine C_block ?_
        refine C_while ho44 (fun s49 a w' => ∃ i : Unit, Has 65 a ([(0, v_history), (1, .int .i64 season), (2, .int .i64 back), (10, .int .i64 s49.1), (11, .int .i64 s49.2.1), (12, .int .i64 s49.2.2)]) ∧ w = w') (fun a ha => ⟨(), ha.sub ⟨rfl, rfl, rfl, rfl, rfl, rfl, trivial⟩, rfl⟩) ?_
        rintro K s49 a _ ⟨_, ha66, rfl⟩ K57
        refine C_of ?_ ha66
        obtain ⟨x51, h52, h53⟩ := K57
        refine C_seq ?_
        refine C_seq ?_
        refine C_region ?_
        refine V_y (Y_move rfl) rfl rfl rfl ?_
        refine V_y (Y_geq rfl rfl) rfl rfl rfl ?_
        refine V_y (Y_move rfl) rfl rfl rfl ?_
        refine V_cut 4 (fun _ : Unit => [(0, v_history), (1, .int .i64 season), (2, .int .i64 back), (10, .int .i64 s49.1), (11, .int .i64 s49.2.1), (12, .int .i64 s49.2.2), (44, .bool ((decide ((0 : Int) ≤ s49.2.2)) && (decide (s49.2.1 < back))))]) (fun _ w' => w = w') ?_ ?_
        · simp only [List.take, List.drop]
          rcases Bool.eq_false_or_eq_true (decide ((0 : Int) ≤ s49.2.2)) with hc58 | hc58
          · refine V_ge rfl rfl rfl hc58 ?_
            refine V_y (Y_move rfl) rfl rfl rfl ?_
            refine V_ge rfl rfl rfl hc58 ?_
            refine V_y (Y_move rfl) rfl rfl rfl ?_
            refine V_ge rfl rfl rfl hc58 ?_
            refine V_y (Y_lss rfl rfl) rfl rfl rfl ?_
            refine V_y (Y_pick_te rfl hc58 rfl) rfl rfl rfl ?_
            exact V_end fun a ha => ⟨(), ha.sub ⟨rfl, rfl, rfl, rfl, rfl, rfl, (by rw [hc58]; rfl), trivial⟩, rfl⟩
          · refine V_gn rfl rfl rfl hc58 rfl rfl rfl ?_
            refine V_gn rfl rfl rfl hc58 rfl rfl rfl ?_
            refine V_gn rfl rfl rfl hc58 rfl rfl rfl ?_
            refine V_y (Y_pick_fe rfl hc58 rfl) rfl rfl rfl ?_
            exact V_end fun a ha => ⟨(), ha.sub ⟨rfl, rfl, rfl, rfl, rfl, rfl, (by rw [hc58]; rfl), trivial⟩, rfl⟩
        simp only [List.take, List.drop]
        rintro _ _ rfl
        refine V_to (fun _ _ => rfl) ?_
        refine C_cond rfl (fun hc61 => ?_) (fun hc61 => ?_)
        · rw [if_pos hc61] at h52
          refine C_skip_to (fun _ _ => rfl) ?_
          refine C_seq ?_
          refine C_block ?_
          refine C_seq ?_
          refine C_region ?_
          refine V_y (Y_move rfl) rfl rfl rfl ?_
          refine V_y (Y_move rfl) rfl rfl rfl ?_
          refine V_y (Y_move rfl) rfl rfl rfl ?_
          obtain ⟨x62, hx62, h52⟩ := Option.bind_eq_some_iff.1 h52
          refine V_indexAddr h_history hx62 Try.underlying22 Try.sizeOf3 rfl rfl rfl ?_
          intro b63 o64 h65
          refine V_y (Y_load (El.int h65) Try.isAgg3 rfl) rfl rfl rfl ?_
          refine V_y (Y_addI rfl rfl) rfl rfl rfl ?_
          refine V_y (Y_assign rfl) rfl rfl rfl ?_
          refine V_to (fun _ _ => rfl) ?_
          refine C_region ?_
          refine V_y (Y_move rfl) rfl rfl rfl ?_
          refine V_y (Y_addI rfl rfl) rfl rfl rfl ?_
          refine V_y (Y_assign rfl) rfl rfl rfl ?_
          refine V_to (fun _ _ => rfl) ?_
          refine C_region ?_
          refine V_y (Y_move rfl) rfl rfl rfl ?_
          refine V_y (Y_move rfl) rfl rfl rfl ?_
          refine V_y (Y_subI rfl rfl) rfl rfl rfl ?_
          refine V_y (Y_assign rfl) rfl rfl rfl ?_
          obtain rfl := Option.some.inj h52
          exact V_end fun a ha => ⟨(w64 (s49.1 + x62), w64 (s49.2.1 + 1), w64 (s49.2.2 - season)), h53, ⟨(), ha.sub ⟨rfl, rfl, rfl, rfl, rfl, rfl, trivial⟩, rfl⟩⟩
        · rw [if_neg (nt hc61)] at h52
          obtain rfl := Option.some.inj h52
          exact C_exit fun a ha => ⟨(s49.1, s49.2.1, s49.2.2), ha.sub ⟨rfl, rfl, trivial⟩, ⟨h53.symm, rfl⟩⟩
      rintro s45 _ ⟨rfl, rfl⟩ a ha69
      rw [Lp.andThen_fin] at hm
      refine C_at (fun _ _ => rfl) ?_ ha69
      refine C_seq ?_
      refine C_seq ?_
      refine C_region ?_
      refine V_y (Y_move rfl) rfl rfl rfl ?_
      refine V_y (Y_eql rfl rfl) rfl rfl rfl ?_
      refine V_to (fun _ _ => rfl) ?_
      refine C_cond rfl (fun hc70 => ?_) (fun hc70 => ?_)
      · rw [if_pos hc70] at hm
        refine C_seq ?_
        refine C_region ?_
        refine V_y (Y_assign rfl) rfl rfl rfl ?_
        refine V_y (Y_assign rfl) rfl rfl rfl ?_
        refine V_to (fun _ _ => rfl) ?_
        obtain rfl := Option.some.inj hm
        refine C_ret fun a ha => ?_
        try simp only [↓inBlock_ret, ↓then_ret]
        exact ret2 ha Try.results10 rfl rfl ⟨rfl, rfl⟩
      · rw [if_neg (nt hc70)] at hm
        refine C_skip_to (fun _ _ => rfl) ?_
        refine C_seq ?_
        refine C_region ?_
        refine V_y (Y_move rfl) rfl rfl rfl ?_
        refine V_y (Y_mulI rfl rfl) rfl rfl rfl ?_
        refine V_y (Y_move rfl) rfl rfl rfl ?_
        refine V_y (Y_addI rfl rfl) rfl rfl rfl ?_
        refine V_y (Y_move rfl) rfl rfl rfl ?_
        refine V_y (Y_mulI rfl rfl) rfl rfl rfl ?_
        obtain ⟨x71, hx71, hm⟩ := Option.bind_eq_some_iff.1 hm
        refine V_y (Y_quo hx71 rfl rfl) rfl rfl rfl ?_
        refine V_y (Y_assign rfl) rfl rfl rfl ?_
        refine V_y (Y_assign rfl) rfl rfl rfl ?_
        refine V_to (fun _ _ => rfl) ?_
        obtain rfl := Option.some.inj hm
        refine C_ret fun a ha => ?_
        try simp only [↓inBlock_ret, ↓then_ret]
        exact ret2 ha Try.results10 rfl rfl ⟨rfl, rfl⟩

set_option maxRecDepth 4000 in
theorem slices_IndexFunc_Lint_int_c (w : World) {A : Nat → Prop} (hA : ∀ b, w.heap.size ≤ b → A b) (s : (List Int)) (v_s : Value) (h_s : Sl A w v_s s) (f : Int → Option Bool) (f_f : FuncId) (f_a f_c : Array Value) (f_call : ∀ (args : Array Value) (w : World), (callFunc f_f args).run Try.prog w = .ok (.enter f_f args) w) (f_spec : ∀ w1, Kp w w1 → ∀ (y0 : Int) (r : Bool), f y0 = some r → Ret Try.prog f_f (f_a ++ #[.int .i64 y0] ++ f_c) w1 fun v w' => v = .bool r ∧ Kp w1 w') {r : Int} (hm : slices_IndexFunc_Lint_int s f = some r) : Ret Try.prog 68 #[v_s, .func (.func f_f) f_a f_c] w fun v w' => v = .int .i64 r ∧ Kp w w' := by
  unfold slices_IndexFunc_Lint_int at hm
  refine enter Try.func68 rfl Try.ntmps68 rfl ?_
  have hK := Kp.refl w
  refine C_seq ?_
  refine C_region ?_
  refine V_y (Y_assign rfl) rfl rfl rfl ?_
  refine V_to (fun _ _ => rfl) ?_
  refine C_seq ?_
  refine C_seq ?_
  refine C_region ?_
  refine V_y (Y_move rfl) rfl rfl rfl ?_
  refine V_y (Y_lenSl h_s rfl Try.underlying22 rfl) rfl rfl rfl ?_
  refine V_y (Y_move rfl) rfl rfl rfl ?_
  refine V_to (fun _ _ => rfl) ?_
  obtain ⟨o7, ho7, hm⟩ := Option.bind_eq_some_iff.1 hm
  refine C_cutG (ι := Unit) (fun (s8 : Unit) => []) (fun (s8 : Unit) => fun w' => o7 = .fin s8 ∧ Kp w w') ?_ ?_
  · refine C_block ?_
    refine C_range ho7 (fun k11 _ a w' => ∃ i : Unit, Has 19 a ([(0, v_s), (1, .func (.func f_f) f_a f_c), (7, .int .i64 (s.length : Int)), (8, .int .i64 (k11 : Int))]) ∧ Kp w w') (fun a ha => ⟨(), ha.sub ⟨rfl, rfl, rfl, rfl, trivial⟩, Kp.refl _⟩) ?_
    rintro K k11 _ a w13 ⟨_, ha30, hr10⟩ hle17 K20 h19
    refine C_of ?_ ha30
    replace h_s := h_s.kp hr10
    replace hK := Kp.trans hK hr10
    replace hA : ∀ b, w13.heap.size ≤ b → A b := fun b hb => hA b (Nat.le_trans hr10.size hb)
    refine C_seq (C_region (V_y (Y_lss rfl rfl) rfl rfl rfl (V_to (fun _ _ => rfl) ?_)))
    refine C_seq ?_
    refine C_cond rfl (fun hc21 => ?_) (fun hc21 => ?_)
    · have hlt18 := lt_of_dec hc21
      obtain ⟨x14, h15, h16⟩ := K20 hlt18
      refine C_skip_to (fun _ _ => rfl) ?_
      refine C_seq ?_
      refine C_block ?_
      refine C_seq ?_
      refine C_region ?_
      refine V_y (Y_move rfl) rfl rfl rfl ?_
      refine V_y (Y_assign rfl) rfl rfl rfl ?_
      refine V_to (fun _ _ => rfl) ?_
      refine C_seq ?_
      refine C_region ?_
      refine V_y (Y_move rfl) rfl rfl rfl ?_
      refine V_y (Y_move rfl) rfl rfl rfl ?_
      refine V_y (Y_move rfl) rfl rfl rfl ?_
      obtain ⟨x22, hx22, h15⟩ := Option.bind_eq_some_iff.1 h15
      refine V_indexAddr h_s hx22 Try.underlying22 Try.sizeOf3 rfl rfl rfl ?_
      intro b23 o24 h25
      refine V_y (Y_load (El.int h25) Try.isAgg3 rfl) rfl rfl rfl ?_
      obtain ⟨x26, hx26, h15⟩ := Option.bind_eq_some_iff.1 h15
      refine V_call f_call rfl rfl rfl rfl (f_spec w13 hK x22 _ hx26) ?_
      rintro _ w27 ⟨rfl, hk28⟩
      replace h_s := h_s.kp hk28
      replace h25 := h25.kp hk28
      replace hK := Kp.trans hK hk28
      replace hr10 := Kp.trans hr10 hk28
      replace hA : ∀ b, w27.heap.size ≤ b → A b := fun b hb => hA b (Nat.le_trans hk28.size hb)
      refine V_to (fun _ _ => rfl) ?_
      refine C_cond rfl (fun hc29 => ?_) (fun hc29 => ?_)
      · rw [if_pos hc29] at h15
        refine C_seq ?_
        refine C_region ?_
        refine V_y (Y_move rfl) rfl rfl rfl ?_
        refine V_y (Y_assign rfl) rfl rfl rfl ?_
        refine V_to (fun _ _ => rfl) ?_
        obtain rfl := Option.some.inj h15
        obtain rfl := (h16 : Lp.rt _ = _)
        rw [Lp.andThen_rt] at hm
        obtain rfl := Option.some.inj hm
        refine C_ret fun a ha => ?_
        try simp only [↓inBlock_ret, ↓then_ret]
        exact ret1 ha Try.results68 rfl ⟨rfl, hK⟩
      · rw [if_neg (nt hc29)] at h15
        refine C_skip_to (fun _ _ => rfl) ?_
        refine C_region ?_
        refine V_y (Y_addI rfl rfl) rfl rfl rfl ?_
        refine V_y (Y_move rfl) rfl rfl rfl ?_
        obtain rfl := Option.some.inj h15
        exact V_end fun a ha => ⟨(), hlt18, h16, ⟨(), ha.sub ⟨rfl, rfl, rfl, (congrArg (fun z => some (Value.int .i64 z)) (w64_succ hlt18 (Sl.le h_s))), trivial⟩, hr10⟩⟩
    · exact C_exit fun a ha => ⟨(), ha.sub trivial, ⟨(h19 (eq_of_dec hle17 hc21)).symm, hr10⟩⟩
  rintro s8 w31 ⟨rfl, hk32⟩ a ha33
  rw [Lp.andThen_fin] at hm
  replace hK := Kp.trans hK hk32
  replace hA : ∀ b, w31.heap.size ≤ b → A b := fun b hb => hA b (Nat.le_trans hk32.size hb)
  refine C_at (fun _ _ => rfl) ?_ ha33
  refine C_seq ?_
  refine C_region ?_
  refine V_y (Y_assign rfl) rfl rfl rfl ?_
  refine V_to (fun _ _ => rfl) ?_
  obtain rfl := Option.some.inj hm
  refine C_ret fun a ha => ?_
  try simp only [↓inBlock_ret, ↓then_ret]
  exact ret1 ha Try.results68 rfl ⟨rfl, hK⟩

set_option maxRecDepth 4000 in
theorem slices_ContainsFunc_Lint_int_c (w : World) {A : Nat → Prop} (hA : ∀ b, w.heap.size ≤ b → A b) (s : (List Int)) (v_s : Value) (h_s : Sl A w v_s s) (f : Int → Option Bool) (f_f : FuncId) (f_a f_c : Array Value) (f_call : ∀ (args : Array Value) (w : World), (callFunc f_f args).run Try.prog w = .ok (.enter f_f args) w) (f_spec : ∀ w1, Kp w w1 → ∀ (y0 : Int) (r : Bool), f y0 = some r → Ret Try.prog f_f (f_a ++ #[.int .i64 y0] ++ f_c) w1 fun v w' => v = .bool r ∧ Kp w1 w') {r : Bool} (hm : slices_ContainsFunc_Lint_int s f = some r) : Ret Try.prog 34 #[v_s, .func (.func f_f) f_a f_c] w fun v w' => v = .bool r ∧ Kp w w' := by
  unfold slices_ContainsFunc_Lint_int at hm
  refine enter Try.func34 rfl Try.ntmps34 rfl ?_
  have hK := Kp.refl w
  refine C_seq ?_
  refine C_region ?_
  refine V_y (Y_assign rfl) rfl rfl rfl ?_
  refine V_to (fun _ _ => rfl) ?_
  refine C_seq ?_
  refine C_region ?_
  refine V_y (Y_move rfl) rfl rfl rfl ?_
  refine V_y (Y_move rfl) rfl rfl rfl ?_
  obtain ⟨x3, hx3, hm⟩ := Option.bind_eq_some_iff.1 hm
  refine V_call Try.call68 rfl rfl rfl rfl (slices_IndexFunc_Lint_int_c w hA s v_s h_s f f_f f_a f_c f_call (fun w1 hk => f_spec w1 (Kp.trans hK hk)) hx3) ?_
  rintro _ w4 ⟨rfl, hk5⟩
  replace h_s := h_s.kp hk5
  replace hK := Kp.trans hK hk5
  replace hA : ∀ b, w4.heap.size ≤ b → A b := fun b hb => hA b (Nat.le_trans hk5.size hb)
  refine V_y (Y_geq rfl rfl) rfl rfl rfl ?_
  refine V_y (Y_assign rfl) rfl rfl rfl ?_
  refine V_to (fun _ _ => rfl) ?_
  obtain rfl := Option.some.inj hm
  refine C_ret fun a ha => ?_
  try simp only [↓inBlock_ret, ↓then_ret]
  exact ret1 ha Try.results34 rfl ⟨rfl, hK⟩

set_option maxRecDepth 4000 in
theorem portref2_ForecastOf_1_c (w : World)  (n : Int) : Ret Try.prog 35 #[.int .i64 n] w fun v w' => v = .bool (portref2_ForecastOf_1 n) ∧ w = w' := by
  generalize hm : portref2_ForecastOf_1 n = r
  unfold portref2_ForecastOf_1 at hm
  refine enter Try.func35 rfl Try.ntmps35 rfl ?_
  refine C_seq ?_
  refine C_region ?_
  refine V_y (Y_assign rfl) rfl rfl rfl ?_
  refine V_to (fun _ _ => rfl) ?_
  refine C_seq ?_
  refine C_region ?_
  refine V_y (Y_move rfl) rfl rfl rfl ?_
  refine V_y (Y_lss rfl rfl) rfl rfl rfl ?_
  refine V_y (Y_move rfl) rfl rfl rfl ?_
  refine V_cut 3 (fun _ : Unit => [(8, .bool ((decide (n < 0)) || (decide ((100000 : Int) < n))))]) (fun _ w' => w = w') ?_ ?_
  · simp only [List.take, List.drop]
    rcases Bool.eq_false_or_eq_true (decide (n < 0)) with hc1 | hc1
    · refine V_gn rfl rfl rfl hc1 rfl rfl rfl ?_
      refine V_gn rfl rfl rfl hc1 rfl rfl rfl ?_
      refine V_y (Y_pick_te rfl hc1 rfl) rfl rfl rfl ?_
      exact V_end fun a ha => ⟨(), ha.sub ⟨(by rw [hc1]; rfl), trivial⟩, rfl⟩
    · refine V_ge rfl rfl rfl hc1 ?_
      refine V_y (Y_move rfl) rfl rfl rfl ?_
      refine V_ge rfl rfl rfl hc1 ?_
      refine V_y (Y_gtr rfl rfl) rfl rfl rfl ?_
      refine V_y (Y_pick_fe rfl hc1 rfl) rfl rfl rfl ?_
      exact V_end fun a ha => ⟨(), ha.sub ⟨(by rw [hc1]; rfl), trivial⟩, rfl⟩
  simp only [List.take, List.drop]
  rintro _ _ rfl
  refine V_y (Y_assign rfl) rfl rfl rfl ?_
  refine V_to (fun _ _ => rfl) ?_
  obtain rfl := hm
  refine C_ret fun a ha => ?_
  try simp only [↓inBlock_ret, ↓then_ret]
  exact ret1 ha Try.results35 rfl ⟨rfl, rfl⟩

set_option maxRecDepth 4000 in
theorem portref2_ForecastOf_c (w : World) {A : Nat → Prop} (hA : ∀ b, w.heap.size ≤ b → A b) (history : (List Int)) (v_history : Value) (h_history : Sl A w v_history history) (season : Int) (back : Int) {r : (Int × Int)} (hm : portref2_ForecastOf history season back = some r) : Ret Try.prog 11 #[v_history, .int .i64 season, .int .i64 back] w fun v w' => v = .tuple #[.int .i64 r.1, .int .i64 r.2] ∧ Kp w w' := by
  unfold portref2_ForecastOf at hm
  refine enter Try.func11 rfl Try.ntmps11 rfl ?_
  have hK := Kp.refl w
  refine C_seq ?_
  refine C_region ?_
  refine V_y (Y_assign rfl) rfl rfl rfl ?_
  refine V_y (Y_assign rfl) rfl rfl rfl ?_
  refine V_to (fun _ _ => rfl) ?_
  refine C_seq ?_
  refine C_seq ?_
  refine C_region ?_
  refine V_y (Y_move rfl) rfl rfl rfl ?_
  refine V_y (Y_lenSl h_history rfl Try.underlying22 rfl) rfl rfl rfl ?_
  refine V_y (Y_gtr rfl rfl) rfl rfl rfl ?_
  refine V_to (fun _ _ => rfl) ?_
  refine C_cond rfl (fun hc7 => ?_) (fun hc7 => ?_)
  · rw [if_pos hc7] at hm
    refine C_seq ?_
    refine C_region ?_
    refine V_y (Y_assign rfl) rfl rfl rfl ?_
    refine V_y (Y_assign rfl) rfl rfl rfl ?_
    refine V_to (fun _ _ => rfl) ?_
    obtain rfl := Option.some.inj hm
    refine C_ret fun a ha => ?_
    try simp only [↓inBlock_ret, ↓then_ret]
    exact ret2 ha Try.results11 rfl rfl ⟨rfl, hK⟩
  · rw [if_neg (nt hc7)] at hm
    refine C_skip_to (fun _ _ => rfl) ?_
    refine C_seq ?_
    refine C_seq ?_
    refine C_region ?_
    refine V_y (Y_move rfl) rfl rfl rfl ?_
    obtain ⟨x9, hx9, hm⟩ := Option.bind_eq_some_iff.1 hm
    refine V_call Try.call34 rfl rfl rfl rfl (slices_ContainsFunc_Lint_int_c w hA history v_history h_history (fun y15 => some (portref2_ForecastOf_1 y15)) 35 #[] #[] Try.call35 (fun w13 hk14 y10 r11 h12 => (portref2_ForecastOf_1_c w13  y10 ).mono (fun _ _ h => ⟨h.1.trans (by rw [← Option.some.inj h12]), h.2 ▸ Kp.refl _⟩)) hx9) ?_
    rintro _ w16 ⟨rfl, hk17⟩
    replace h_history := h_history.kp hk17
    replace hK := Kp.trans hK hk17
    replace hA : ∀ b, w16.heap.size ≤ b → A b := fun b hb => hA b (Nat.le_trans hk17.size hb)
    refine V_y (Y_move rfl) rfl rfl rfl ?_
    refine V_cut 3 (fun _ : Unit => [(0, v_history), (1, .int .i64 season), (2, .int .i64 back), (19, .bool (x9 || (decide (season < 1))))]) (fun _ w' => w16 = w') ?_ ?_
    · simp only [List.take, List.drop]
      rcases Bool.eq_false_or_eq_true (x9) with hc18 | hc18
      · refine V_gn rfl rfl rfl hc18 rfl rfl rfl ?_
        refine V_gn rfl rfl rfl hc18 rfl rfl rfl ?_
        refine V_y (Y_pick_te rfl hc18 rfl) rfl rfl rfl ?_
        exact V_end fun a ha => ⟨(), ha.sub ⟨rfl, rfl, rfl, (by rw [hc18]; rfl), trivial⟩, rfl⟩
      · refine V_ge rfl rfl rfl hc18 ?_
        refine V_y (Y_move rfl) rfl rfl rfl ?_
        refine V_ge rfl rfl rfl hc18 ?_
        refine V_y (Y_lss rfl rfl) rfl rfl rfl ?_
        refine V_y (Y_pick_fe rfl hc18 rfl) rfl rfl rfl ?_
        exact V_end fun a ha => ⟨(), ha.sub ⟨rfl, rfl, rfl, (by rw [hc18]; rfl), trivial⟩, rfl⟩
    simp only [List.take, List.drop]
    rintro _ _ rfl
    refine V_y (Y_move rfl) rfl rfl rfl ?_
    refine V_cut 3 (fun _ : Unit => [(0, v_history), (1, .int .i64 season), (2, .int .i64 back), (23, .bool ((x9 || (decide (season < 1))) || (decide ((5000 : Int) < season))))]) (fun _ w' => w16 = w') ?_ ?_
    · simp only [List.take, List.drop]
      rcases Bool.eq_false_or_eq_true ((x9 || (decide (season < 1)))) with hc21 | hc21
      · refine V_gn rfl rfl rfl hc21 rfl rfl rfl ?_
        refine V_gn rfl rfl rfl hc21 rfl rfl rfl ?_
        refine V_y (Y_pick_te rfl hc21 rfl) rfl rfl rfl ?_
        exact V_end fun a ha => ⟨(), ha.sub ⟨rfl, rfl, rfl, (by rw [hc21]; rfl), trivial⟩, rfl⟩
      · refine V_ge rfl rfl rfl hc21 ?_
        refine V_y (Y_move rfl) rfl rfl rfl ?_
        refine V_ge rfl rfl rfl hc21 ?_
        refine V_y (Y_gtr rfl rfl) rfl rfl rfl ?_
        refine V_y (Y_pick_fe rfl hc21 rfl) rfl rfl rfl ?_
        exact V_end fun a ha => ⟨(), ha.sub ⟨rfl, rfl, rfl, (by rw [hc21]; rfl), trivial⟩, rfl⟩
    simp only [List.take, List.drop]
    rintro _ _ rfl
    refine V_y (Y_move rfl) rfl rfl rfl ?_
    refine V_cut 3 (fun _ : Unit => [(0, v_history), (1, .int .i64 season), (2, .int .i64 back), (27, .bool (((x9 || (decide (season < 1))) || (decide ((5000 : Int) < season))) || (decide (back < 1))))]) (fun _ w' => w16 = w') ?_ ?_
    · simp only [List.take, List.drop]
      rcases Bool.eq_false_or_eq_true (((x9 || (decide (season < 1))) || (decide ((5000 : Int) < season)))) with hc24 | hc24
      · refine V_gn rfl rfl rfl hc24 rfl rfl rfl ?_
        refine V_gn rfl rfl rfl hc24 rfl rfl rfl ?_
        refine V_y (Y_pick_te rfl hc24 rfl) rfl rfl rfl ?_
        exact V_end fun a ha => ⟨(), ha.sub ⟨rfl, rfl, rfl, (by rw [hc24]; rfl), trivial⟩, rfl⟩
      · refine V_ge rfl rfl rfl hc24 ?_
        refine V_y (Y_move rfl) rfl rfl rfl ?_
        refine V_ge rfl rfl rfl hc24 ?_
        refine V_y (Y_lss rfl rfl) rfl rfl rfl ?_
        refine V_y (Y_pick_fe rfl hc24 rfl) rfl rfl rfl ?_
        exact V_end fun a ha => ⟨(), ha.sub ⟨rfl, rfl, rfl, (by rw [hc24]; rfl), trivial⟩, rfl⟩
    simp only [List.take, List.drop]
    rintro _ _ rfl
    refine V_y (Y_move rfl) rfl rfl rfl ?_
    refine V_cut 3 (fun _ : Unit => [(0, v_history), (1, .int .i64 season), (2, .int .i64 back), (31, .bool ((((x9 || (decide (season < 1))) || (decide ((5000 : Int) < season))) || (decide (back < 1))) || (decide ((100 : Int) < back))))]) (fun _ w' => w16 = w') ?_ ?_
    · simp only [List.take, List.drop]
      rcases Bool.eq_false_or_eq_true ((((x9 || (decide (season < 1))) || (decide ((5000 : Int) < season))) || (decide (back < 1)))) with hc27 | hc27
      · refine V_gn rfl rfl rfl hc27 rfl rfl rfl ?_
        refine V_gn rfl rfl rfl hc27 rfl rfl rfl ?_
        refine V_y (Y_pick_te rfl hc27 rfl) rfl rfl rfl ?_
        exact V_end fun a ha => ⟨(), ha.sub ⟨rfl, rfl, rfl, (by rw [hc27]; rfl), trivial⟩, rfl⟩
      · refine V_ge rfl rfl rfl hc27 ?_
        refine V_y (Y_move rfl) rfl rfl rfl ?_
        refine V_ge rfl rfl rfl hc27 ?_
        refine V_y (Y_gtr rfl rfl) rfl rfl rfl ?_
        refine V_y (Y_pick_fe rfl hc27 rfl) rfl rfl rfl ?_
        exact V_end fun a ha => ⟨(), ha.sub ⟨rfl, rfl, rfl, (by rw [hc27]; rfl), trivial⟩, rfl⟩
    simp only [List.take, List.drop]
    rintro _ _ rfl
    refine V_to (fun _ _ => rfl) ?_
    refine C_cond rfl (fun hc30 => ?_) (fun hc30 => ?_)
    · rw [if_pos hc30] at hm
      refine C_seq ?_
      refine C_region ?_
      refine V_y (Y_assign rfl) rfl rfl rfl ?_
      refine V_y (Y_assign rfl) rfl rfl rfl ?_
      refine V_to (fun _ _ => rfl) ?_
      obtain rfl := Option.some.inj hm
      refine C_ret fun a ha => ?_
      try simp only [↓inBlock_ret, ↓then_ret]
      exact ret2 ha Try.results11 rfl rfl ⟨rfl, hK⟩
    · rw [if_neg (nt hc30)] at hm
      refine C_skip_to (fun _ _ => rfl) ?_
      refine C_seq ?_
      refine C_region ?_
      refine V_y (Y_assign rfl) rfl rfl rfl ?_
      refine V_y (Y_assign rfl) rfl rfl rfl ?_
      refine V_to (fun _ _ => rfl) ?_
      refine C_seq ?_
      refine C_seq ?_
      refine C_region ?_
      refine V_y (Y_move rfl) rfl rfl rfl ?_
      refine V_y (Y_lenSl h_history rfl Try.underlying22 rfl) rfl rfl rfl ?_
      refine V_y (Y_move rfl) rfl rfl rfl ?_
      refine V_y (Y_subI rfl rfl) rfl rfl rfl ?_
      refine V_y (Y_assign rfl) rfl rfl rfl ?_
      refine V_to (fun _ _ => rfl) ?_
      obtain ⟨o35, ho35, hm⟩ := Option.bind_eq_some_iff.1 hm
      refine C_cutG (ι := (Int × Int × Int)) (fun (s36 : (Int × Int × Int)) => [(8, .int .i64 s36.1), (9, .int .i64 s36.2.1)]) (fun (s36 : (Int × Int × Int)) => fun w' => o35 = .fin s36 ∧ w16 = w') ?_ ?_
      · refine C_block ?_
        refine C_while ho35 (fun s40 a w' => ∃ i : Unit, Has 63 a ([(0, v_history), (1, .int .i64 season), (2, .int .i64 back), (8, .int .i64 s40.1), (9, .int .i64 s40.2.1), (10, .int .i64 s40.2.2)]) ∧ w16 = w') (fun a ha => ⟨(), ha.sub ⟨rfl, rfl, rfl, rfl, rfl, rfl, trivial⟩, rfl⟩) ?_
        rintro K s40 a _ ⟨_, ha57, rfl⟩ K48
        refine C_of ?_ ha57
        obtain ⟨x42, h43, h44⟩ := K48
        refine C_seq ?_
        refine C_seq ?_
        refine C_region ?_
        refine V_y (Y_move rfl) rfl rfl rfl ?_
        refine V_y (Y_geq rfl rfl) rfl rfl rfl ?_
        refine V_y (Y_move rfl) rfl rfl rfl ?_
        refine V_cut 4 (fun _ : Unit => [(0, v_history), (1, .int .i64 season), (2, .int .i64 back), (8, .int .i64 s40.1), (9, .int .i64 s40.2.1), (10, .int .i64 s40.2.2), (42, .bool ((decide ((0 : Int) ≤ s40.2.2)) && (decide (s40.2.1 < back))))]) (fun _ w' => w16 = w') ?_ ?_
        · simp only [List.take, List.drop]
          rcases Bool.eq_false_or_eq_true (decide ((0 : Int) ≤ s40.2.2)) with hc49 | hc49
          · refine V_ge rfl rfl rfl hc49 ?_
            refine V_y (Y_move rfl) rfl rfl rfl ?_
            refine V_ge rfl rfl rfl hc49 ?_
            refine V_y (Y_move rfl) rfl rfl rfl ?_
            refine V_ge rfl rfl rfl hc49 ?_
            refine V_y (Y_lss rfl rfl) rfl rfl rfl ?_
            refine V_y (Y_pick_te rfl hc49 rfl) rfl rfl rfl ?_
            exact V_end fun a ha => ⟨(), ha.sub ⟨rfl, rfl, rfl, rfl, rfl, rfl, (by rw [hc49]; rfl), trivial⟩, rfl⟩
          · refine V_gn rfl rfl rfl hc49 rfl rfl rfl ?_
            refine V_gn rfl rfl rfl hc49 rfl rfl rfl ?_
            refine V_gn rfl rfl rfl hc49 rfl rfl rfl ?_
            refine V_y (Y_pick_fe rfl hc49 rfl) rfl rfl rfl ?_
            exact V_end fun a ha => ⟨(), ha.sub ⟨rfl, rfl, rfl, rfl, rfl, rfl, (by rw [hc49]; rfl), trivial⟩, rfl⟩
        simp only [List.take, List.drop]
        rintro _ _ rfl
        refine V_to (fun _ _ => rfl) ?_
        refine C_cond rfl (fun hc52 => ?_) (fun hc52 => ?_)
        · rw [if_pos hc52] at h43
          refine C_skip_to (fun _ _ => rfl) ?_
          refine C_seq ?_
          refine C_block ?_
          refine C_region ?_
          refine V_y (Y_move rfl) rfl rfl rfl ?_
          refine V_y (Y_move rfl) rfl rfl rfl ?_
          refine V_y (Y_move rfl) rfl rfl rfl ?_
          obtain ⟨x53, hx53, h43⟩ := Option.bind_eq_some_iff.1 h43
          refine V_indexAddr h_history hx53 Try.underlying22 Try.sizeOf3 rfl rfl rfl ?_
          intro b54 o55 h56
          refine V_y (Y_load (El.int h56) Try.isAgg3 rfl) rfl rfl rfl ?_
          refine V_y (Y_addI rfl rfl) rfl rfl rfl ?_
          refine V_y (Y_move rfl) rfl rfl rfl ?_
          refine V_y (Y_addI rfl rfl) rfl rfl rfl ?_
          refine V_y (Y_assign rfl) rfl rfl rfl ?_
          refine V_y (Y_assign rfl) rfl rfl rfl ?_
          refine V_to (fun _ _ => rfl) ?_
          refine C_region ?_
          refine V_y (Y_move rfl) rfl rfl rfl ?_
          refine V_y (Y_move rfl) rfl rfl rfl ?_
          refine V_y (Y_subI rfl rfl) rfl rfl rfl ?_
          refine V_y (Y_assign rfl) rfl rfl rfl ?_
          obtain rfl := Option.some.inj h43
          exact V_end fun a ha => ⟨(w64 (s40.1 + x53), w64 (s40.2.1 + 1), w64 (s40.2.2 - season)), h44, ⟨(), ha.sub ⟨rfl, rfl, rfl, rfl, rfl, rfl, trivial⟩, rfl⟩⟩
        · rw [if_neg (nt hc52)] at h43
          obtain rfl := Option.some.inj h43
          exact C_exit fun a ha => ⟨(s40.1, s40.2.1, s40.2.2), ha.sub ⟨rfl, rfl, trivial⟩, ⟨h44.symm, rfl⟩⟩
      rintro s36 _ ⟨rfl, rfl⟩ a ha60
      rw [Lp.andThen_fin] at hm
      refine C_at (fun _ _ => rfl) ?_ ha60
      refine C_seq ?_
      refine C_seq ?_
      refine C_region ?_
      refine V_y (Y_move rfl) rfl rfl rfl ?_
      refine V_y (Y_eql rfl rfl) rfl rfl rfl ?_
      refine V_to (fun _ _ => rfl) ?_
      refine C_cond rfl (fun hc61 => ?_) (fun hc61 => ?_)
      · rw [if_pos hc61] at hm
        refine C_seq ?_
        refine C_region ?_
        refine V_y (Y_assign rfl) rfl rfl rfl ?_
        refine V_y (Y_assign rfl) rfl rfl rfl ?_
        refine V_to (fun _ _ => rfl) ?_
        obtain rfl := Option.some.inj hm
        refine C_ret fun a ha => ?_
        try simp only [↓inBlock_ret, ↓then_ret]
        exact ret2 ha Try.results11 rfl rfl ⟨rfl, hK⟩
      · rw [if_neg (nt hc61)] at hm
        refine C_skip_to (fun _ _ => rfl) ?_
        refine C_seq ?_
        refine C_region ?_
        refine V_y (Y_move rfl) rfl rfl rfl ?_
        refine V_y (Y_mulI rfl rfl) rfl rfl rfl ?_
        refine V_y (Y_move rfl) rfl rfl rfl ?_
        refine V_y (Y_addI rfl rfl) rfl rfl rfl ?_
        refine V_y (Y_move rfl) rfl rfl rfl ?_
        refine V_y (Y_mulI rfl rfl) rfl rfl rfl ?_
        obtain ⟨x62, hx62, hm⟩ := Option.bind_eq_some_iff.1 hm
        refine V_y (Y_quo hx62 rfl rfl) rfl rfl rfl ?_
        refine V_y (Y_assign rfl) rfl rfl rfl ?_
        refine V_y (Y_assign rfl) rfl rfl rfl ?_
        refine V_to (fun _ _ => rfl) ?_
        obtain rfl := Option.some.inj hm
        refine C_ret fun a ha => ?_
        try simp only [↓inBlock_ret, ↓then_ret]
        exact ret2 ha Try.results11 rfl rfl ⟨rfl, hK⟩

set_option maxRecDepth 4000 in
theorem portlaw2_StaffForecasts_c (w : World) {A : Nat → Prop} (hA : ∀ b, w.heap.size ≤ b → A b) (history : (List Int)) (v_history : Value) (h_history : Sl A w v_history history) (season : Int) (back : Int) {r : Bool} (hm : portlaw2_StaffForecasts history season back = some r) : Ret Try.prog 3 #[v_history, .int .i64 season, .int .i64 back] w fun v w' => v = .bool r ∧ Kp w w' := by
  unfold portlaw2_StaffForecasts at hm
  refine enter Try.func3 rfl Try.ntmps3 rfl ?_
  have hK := Kp.refl w
  refine C_seq ?_
  refine C_region ?_
  refine V_y (Y_assign rfl) rfl rfl rfl ?_
  refine V_to (fun _ _ => rfl) ?_
  refine C_seq ?_
  refine C_region ?_
  refine V_y (Y_move rfl) rfl rfl rfl ?_
  refine V_y (Y_move rfl) rfl rfl rfl ?_
  refine V_y (Y_move rfl) rfl rfl rfl ?_
  obtain ⟨x3, hx3, hm⟩ := Option.bind_eq_some_iff.1 hm
  refine V_call Try.call10 rfl rfl rfl rfl (staff_Forecast_c w history v_history h_history season back hx3) ?_
  rintro _ _ ⟨rfl, rfl⟩
  refine V_y (Y_move rfl) rfl rfl rfl ?_
  refine V_y (Y_extract rfl rfl) rfl rfl rfl ?_
  refine V_y (Y_extract rfl rfl) rfl rfl rfl ?_
  refine V_y (Y_assign rfl) rfl rfl rfl ?_
  refine V_y (Y_assign rfl) rfl rfl rfl ?_
  refine V_to (fun _ _ => rfl) ?_
  refine C_seq ?_
  refine C_region ?_
  refine V_y (Y_move rfl) rfl rfl rfl ?_
  refine V_y (Y_move rfl) rfl rfl rfl ?_
  refine V_y (Y_move rfl) rfl rfl rfl ?_
  obtain ⟨x4, hx4, hm⟩ := Option.bind_eq_some_iff.1 hm
  refine V_call Try.call11 rfl rfl rfl rfl (portref2_ForecastOf_c w hA history v_history h_history season back hx4) ?_
  rintro _ w5 ⟨rfl, hk6⟩
  replace h_history := h_history.kp hk6
  replace hK := Kp.trans hK hk6
  replace hA : ∀ b, w5.heap.size ≤ b → A b := fun b hb => hA b (Nat.le_trans hk6.size hb)
  refine V_y (Y_move rfl) rfl rfl rfl ?_
  refine V_y (Y_extract rfl rfl) rfl rfl rfl ?_
  refine V_y (Y_extract rfl rfl) rfl rfl rfl ?_
  refine V_y (Y_assign rfl) rfl rfl rfl ?_
  refine V_y (Y_assign rfl) rfl rfl rfl ?_
  refine V_to (fun _ _ => rfl) ?_
  refine C_seq ?_
  refine C_region ?_
  refine V_y (Y_move rfl) rfl rfl rfl ?_
  refine V_y (Y_move rfl) rfl rfl rfl ?_
  refine V_y (Y_eql rfl rfl) rfl rfl rfl ?_
  refine V_y (Y_move rfl) rfl rfl rfl ?_
  refine V_cut 4 (fun _ : Unit => [(32, .bool ((x3.1 == x4.1) && (x3.2 == x4.2)))]) (fun _ w' => w5 = w') ?_ ?_
  · simp only [List.take, List.drop]
    rcases Bool.eq_false_or_eq_true (x3.1 == x4.1) with hc7 | hc7
    · refine V_ge rfl rfl rfl hc7 ?_
      refine V_y (Y_move rfl) rfl rfl rfl ?_
      refine V_ge rfl rfl rfl hc7 ?_
      refine V_y (Y_move rfl) rfl rfl rfl ?_
      refine V_ge rfl rfl rfl hc7 ?_
      refine V_y (Y_eql rfl rfl) rfl rfl rfl ?_
      refine V_y (Y_pick_te rfl hc7 rfl) rfl rfl rfl ?_
      exact V_end fun a ha => ⟨(), ha.sub ⟨(by rw [hc7]; rfl), trivial⟩, rfl⟩
    · refine V_gn rfl rfl rfl hc7 rfl rfl rfl ?_
      refine V_gn rfl rfl rfl hc7 rfl rfl rfl ?_
      refine V_gn rfl rfl rfl hc7 rfl rfl rfl ?_
      refine V_y (Y_pick_fe rfl hc7 rfl) rfl rfl rfl ?_
      exact V_end fun a ha => ⟨(), ha.sub ⟨(by rw [hc7]; rfl), trivial⟩, rfl⟩
  simp only [List.take, List.drop]
  rintro _ _ rfl
  refine V_y (Y_assign rfl) rfl rfl rfl ?_
  refine V_to (fun _ _ => rfl) ?_
  obtain rfl := Option.some.inj hm
  refine C_ret fun a ha => ?_
  try simp only [↓inBlock_ret, ↓then_ret]
  exact ret1 ha Try.results3 rfl ⟨rfl, hK⟩

end Go.Proofs.Ytlclnbcjebpfkaa.W
