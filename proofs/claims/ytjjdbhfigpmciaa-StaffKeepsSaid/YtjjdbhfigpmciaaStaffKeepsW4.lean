/-
  Written by program (gen.py) from the IR of the dump: each function computes its model.
-/
import Derived.Test.YtjjdbhfigpmciaaStaffKeepsW3
namespace Go.Proofs.Ytjjdbhfigpmciaa.W
open Go Go.RowKit Go.Pu Go.Gw Go.Proofs Go.Proofs.Ytjjdbhfigpmciaa.M
set_option linter.unusedVariables false
set_option linter.unusedSimpArgs false

set_option maxRecDepth 4000 in
set_option maxHeartbeats 4000000 in
theorem portref2_KeepsOf_c (w : World) {A : Nat → Prop} (hA : ∀ b, w.heap.size ≤ b → A b) (l : staff_Load) (p : staff_Promise) (n : Int) {r : (Bool × Int)} (hm : portref2_KeepsOf l p n = some r) : Ret Try.prog 6 #[.agg #[.int .i64 l.calls, .int .i64 l.length, .int .i64 l.span], .agg #[.int .i64 p.share, .int .i64 p.of, .int .i64 p.wait, .int .i64 p.parts], .int .i64 n] w fun v w' => v = .tuple #[.bool r.1, .int .i64 r.2] ∧ Kp w w' := by
  unfold portref2_KeepsOf at hm
  refine enter Try.func6 rfl Try.ntmps6 rfl ?_
  have hA0 := hA
  have hB := Nat.le_refl w.heap.size
  have hK : Tr w.heap.size A w A w := Tr.refl hA
  have hH : Hp w.heap.size A w [] := Hp.nil
  refine C_seq ?_
  refine C_region ?_
  refine V_box rfl rfl ?_
  intro b1 w2 h3
  have hk5 := h3.kp
  have h4 : El (α := staff_Load) A w2 b1 0 l := h3.el hA ⟨[.int .i64 l.calls], _, rfl, rfl, ⟨[.int .i64 l.length], _, rfl, rfl, rfl⟩⟩
  have ht6 := Kp.tr hk5 hA hB
  replace hH := Hp.kp hH hk5
  replace hK := Tr.trans hK ht6
  replace hB := Nat.le_trans hB ht6.ex.size
  replace hA := ht6.new
  refine V_box rfl rfl ?_
  intro b7 w9 h10
  have hk12 := h10.kp
  have h11 : El (α := staff_Promise) A w9 b7 0 p := h10.el hA ⟨[.int .i64 p.share], _, rfl, rfl, ⟨[.int .i64 p.of], _, rfl, rfl, ⟨[.int .i64 p.wait], _, rfl, rfl, rfl⟩⟩⟩
  have ht13 := Kp.tr hk12 hA hB
  replace hH := Hp.kp hH hk12
  replace h4 := El.tr h4 ht13
  replace hK := Tr.trans hK ht13
  replace hB := Nat.le_trans hB ht13.ex.size
  replace hA := ht13.new
  refine V_y (Y_assign rfl) rfl rfl rfl ?_
  refine V_y (Y_assign rfl) rfl rfl rfl ?_
  refine V_to (fun _ _ => rfl) ?_
  refine C_seq ?_
  refine C_seq ?_
  refine C_region ?_
  obtain ⟨h14, _⟩ := El_staff_Load h4
  refine V_y (Y_loadA h14 Try.isAgg23 Try.sizeOf23 rfl) rfl rfl rfl ?_
  refine V_y (Y_move rfl) rfl rfl rfl ?_
  obtain ⟨x15, hx15, hm⟩ := Option.bind_eq_some_iff.1 hm
  refine V_call Try.call17 rfl rfl rfl rfl (portref2_loadFault_c w9 hA l n hx15) ?_
  rintro _ w17 ⟨rfl, hk18⟩
  have ht19 := Kp.tr hk18 hA hB
  replace hH := Hp.kp hH hk18
  replace h4 := El.tr h4 ht19
  replace h11 := El.tr h11 ht19
  replace hK := Tr.trans hK ht19
  replace hB := Nat.le_trans hB ht19.ex.size
  replace hA := ht19.new
  refine V_y (Y_assign rfl) rfl rfl rfl ?_
  refine V_to (fun _ _ => rfl) ?_
  refine C_seq ?_
  refine C_region ?_
  refine V_y (Y_move rfl) rfl rfl rfl ?_
  refine V_y (Y_neq rfl rfl) rfl rfl rfl ?_
  refine V_to (fun _ _ => rfl) ?_
  refine C_cond rfl (fun hc20 => ?_) (fun hc20 => ?_)
  · rw [if_pos hc20] at hm
    refine C_seq ?_
    refine C_region ?_
    refine V_y (Y_move rfl) rfl rfl rfl ?_
    refine V_y (Y_assign rfl) rfl rfl rfl ?_
    refine V_y (Y_assign rfl) rfl rfl rfl ?_
    refine V_to (fun _ _ => rfl) ?_
    obtain rfl := Option.some.inj hm
    refine C_ret ?_
    try simp only [↓inBlock_ret, ↓then_ret]
    exact retQ rfl (Res.two Try.results6 rfl rfl) ⟨rfl, hK.kp⟩
  · rw [if_neg (nt hc20)] at hm
    refine C_skip_to (fun _ _ => rfl) ?_
    refine C_seq ?_
    refine C_seq ?_
    refine C_region ?_
    obtain ⟨h21, _⟩ := El_staff_Promise h11
    refine V_y (Y_loadA h21 Try.isAgg25 Try.sizeOf25 rfl) rfl rfl rfl ?_
    obtain ⟨x22, hx22, hm⟩ := Option.bind_eq_some_iff.1 hm
    refine V_call Try.call18 rfl rfl rfl rfl (portref2_PromiseFault_c w17 hA p hx22) ?_
    rintro _ w23 ⟨rfl, hk24⟩
    have ht25 := Kp.tr hk24 hA hB
    replace hH := Hp.kp hH hk24
    replace h4 := El.tr h4 ht25
    replace h11 := El.tr h11 ht25
    replace hK := Tr.trans hK ht25
    replace hB := Nat.le_trans hB ht25.ex.size
    replace hA := ht25.new
    refine V_y (Y_assign rfl) rfl rfl rfl ?_
    refine V_to (fun _ _ => rfl) ?_
    refine C_seq ?_
    refine C_region ?_
    refine V_y (Y_move rfl) rfl rfl rfl ?_
    refine V_y (Y_neq rfl rfl) rfl rfl rfl ?_
    refine V_to (fun _ _ => rfl) ?_
    refine C_cond rfl (fun hc26 => ?_) (fun hc26 => ?_)
    · rw [if_pos hc26] at hm
      refine C_seq ?_
      refine C_region ?_
      refine V_y (Y_move rfl) rfl rfl rfl ?_
      refine V_y (Y_assign rfl) rfl rfl rfl ?_
      refine V_y (Y_assign rfl) rfl rfl rfl ?_
      refine V_to (fun _ _ => rfl) ?_
      obtain rfl := Option.some.inj hm
      refine C_ret ?_
      try simp only [↓inBlock_ret, ↓then_ret]
      exact retQ rfl (Res.two Try.results6 rfl rfl) ⟨rfl, hK.kp⟩
    · rw [if_neg (nt hc26)] at hm
      refine C_skip_to (fun _ _ => rfl) ?_
      refine C_seq ?_
      refine C_region ?_
      obtain ⟨h27, _⟩ := El_staff_Load h4
      refine V_y (Y_loadA h27 Try.isAgg23 Try.sizeOf23 rfl) rfl rfl rfl ?_
      obtain ⟨h28, _⟩ := El_staff_Promise h11
      refine V_y (Y_loadA h28 Try.isAgg25 Try.sizeOf25 rfl) rfl rfl rfl ?_
      refine V_y (Y_move rfl) rfl rfl rfl ?_
      obtain ⟨x29, hx29, hm⟩ := Option.bind_eq_some_iff.1 hm
      refine V_call Try.call19 rfl rfl rfl rfl (portref2_keeps_c w23 hA l p n hx29) ?_
      rintro _ w30 ⟨rfl, hk31⟩
      have ht32 := Kp.tr hk31 hA hB
      replace hH := Hp.kp hH hk31
      replace h4 := El.tr h4 ht32
      replace h11 := El.tr h11 ht32
      replace hK := Tr.trans hK ht32
      replace hB := Nat.le_trans hB ht32.ex.size
      replace hA := ht32.new
      refine V_y (Y_assign rfl) rfl rfl rfl ?_
      refine V_y (Y_assign rfl) rfl rfl rfl ?_
      refine V_to (fun _ _ => rfl) ?_
      obtain rfl := Option.some.inj hm
      refine C_ret ?_
      try simp only [↓inBlock_ret, ↓then_ret]
      exact retQ rfl (Res.two Try.results6 rfl rfl) ⟨rfl, hK.kp⟩

set_option maxRecDepth 4000 in
set_option maxHeartbeats 4000000 in
theorem staff_Staff_c (w : World) {A : Nat → Prop} (hA : ∀ b, w.heap.size ≤ b → A b) (l : staff_Load) (p : staff_Promise) {r : (Int × Int)} (hm : staff_Staff l p = some r) : Ret Try.prog 7 #[.agg #[.int .i64 l.calls, .int .i64 l.length, .int .i64 l.span], .agg #[.int .i64 p.share, .int .i64 p.of, .int .i64 p.wait, .int .i64 p.parts]] w fun v w' => v = .tuple #[.int .i64 r.1, .int .i64 r.2] ∧ Kp w w' := by
  unfold staff_Staff at hm
  refine enter Try.func7 rfl Try.ntmps7 rfl ?_
  have hA0 := hA
  have hB := Nat.le_refl w.heap.size
  have hK : Tr w.heap.size A w A w := Tr.refl hA
  have hH : Hp w.heap.size A w [] := Hp.nil
  refine C_seq ?_
  refine C_region ?_
  refine V_box rfl rfl ?_
  intro b1 w2 h3
  have hk5 := h3.kp
  have h4 : El (α := staff_Load) A w2 b1 0 l := h3.el hA ⟨[.int .i64 l.calls], _, rfl, rfl, ⟨[.int .i64 l.length], _, rfl, rfl, rfl⟩⟩
  have ht6 := Kp.tr hk5 hA hB
  replace hH := Hp.kp hH hk5
  replace hK := Tr.trans hK ht6
  replace hB := Nat.le_trans hB ht6.ex.size
  replace hA := ht6.new
  refine V_box rfl rfl ?_
  intro b7 w9 h10
  have hk12 := h10.kp
  have h11 : El (α := staff_Promise) A w9 b7 0 p := h10.el hA ⟨[.int .i64 p.share], _, rfl, rfl, ⟨[.int .i64 p.of], _, rfl, rfl, ⟨[.int .i64 p.wait], _, rfl, rfl, rfl⟩⟩⟩
  have ht13 := Kp.tr hk12 hA hB
  replace hH := Hp.kp hH hk12
  replace h4 := El.tr h4 ht13
  replace hK := Tr.trans hK ht13
  replace hB := Nat.le_trans hB ht13.ex.size
  replace hA := ht13.new
  refine V_y (Y_assign rfl) rfl rfl rfl ?_
  refine V_y (Y_assign rfl) rfl rfl rfl ?_
  refine V_to (fun _ _ => rfl) ?_
  refine C_seq ?_
  refine C_seq ?_
  refine C_region_qt 4 Try_mixed (by kernel_rfl) ?_
  simp only [List.take, List.drop]
  obtain ⟨h14, _⟩ := El_staff_Load h4
  refine VQ_y (fun w' hw' => Y_loadA (At.kp h14 hw' h4.2.1) Try.isAgg23 Try.sizeOf23 rfl) rfl rfl rfl ?_
  obtain ⟨x15, hx15, hm⟩ := Option.bind_eq_some_iff.1 hm
  refine VQ_call (.int .i64 x15) Try.call13 rfl rfl rfl rfl (fun w' hw' => (staff_checkLoad_c w' (fun b hb => hA b (Nat.le_trans hw'.size hb)) l hx15).mono (fun _ _ h => ⟨h.1, Kp.trans hw' h.2⟩)) ?_
  obtain ⟨h16, _⟩ := El_staff_Promise h11
  refine VQ_y (fun w' hw' => Y_loadA (At.kp h16 hw' h11.2.1) Try.isAgg25 Try.sizeOf25 rfl) rfl rfl rfl ?_
  obtain ⟨x17, hx17, hm⟩ := Option.bind_eq_some_iff.1 hm
  refine VQ_call (.int .i64 x17) Try.call15 rfl rfl rfl rfl (fun w' hw' => (staff_checkPromise_c w' (fun b hb => hA b (Nat.le_trans hw'.size hb)) p hx17).mono (fun _ _ h => ⟨h.1, Kp.trans hw' h.2⟩)) ?_
  refine VQ_tail (fun w18 hk19 => ?_)
  try simp only [List.take, List.drop]
  have ht20 := Kp.tr hk19 hA hB
  replace hH := Hp.kp hH hk19
  replace h4 := El.tr h4 ht20
  replace h11 := El.tr h11 ht20
  replace hK := Tr.trans hK ht20
  replace hB := Nat.le_trans hB ht20.ex.size
  replace hA := ht20.new
  refine V_buildSlice (l := ([x15, x17] : List Int)) (len := 2) Try.underlying45 Try.sizeOf26 Try.zeroValue26 rfl (by with_unfolding_all rfl) (by decide) (by decide) hA ⟨[.int .i64 x15], _, rfl, rfl, ⟨[.int .i64 x17], _, rfl, rfl, rfl⟩⟩ rfl rfl ?_
  intro v21 w22 hk24 h23
  have ht25 := Kp.tr hk24 hA hB
  replace hH := Hp.kp hH hk24
  replace h4 := El.tr h4 ht25
  replace h11 := El.tr h11 ht25
  replace hK := Tr.trans hK ht25
  replace hB := Nat.le_trans hB ht25.ex.size
  replace hA := ht25.new
  obtain ⟨x26, hx26, hm⟩ := Option.bind_eq_some_iff.1 hm
  refine V_call Try.call12 rfl rfl rfl rfl (cmp_Or_api_Errno_c w22 ([x15, x17] : List Int) v21 h23 hx26) ?_
  rintro _ _ ⟨rfl, rfl⟩
  refine V_y (Y_assign rfl) rfl rfl rfl ?_
  refine V_to (fun _ _ => rfl) ?_
  refine C_seq ?_
  refine C_region ?_
  refine V_y (Y_move rfl) rfl rfl rfl ?_
  refine V_y (Y_neq rfl rfl) rfl rfl rfl ?_
  refine V_to (fun _ _ => rfl) ?_
  refine C_cond rfl (fun hc27 => ?_) (fun hc27 => ?_)
  · rw [if_pos hc27] at hm
    refine C_seq ?_
    refine C_region ?_
    refine V_y (Y_move rfl) rfl rfl rfl ?_
    refine V_y (Y_assign rfl) rfl rfl rfl ?_
    refine V_y (Y_assign rfl) rfl rfl rfl ?_
    refine V_to (fun _ _ => rfl) ?_
    obtain rfl := Option.some.inj hm
    refine C_ret ?_
    try simp only [↓inBlock_ret, ↓then_ret]
    exact retQ rfl (Res.two Try.results7 rfl rfl) ⟨rfl, hK.kp⟩
  · rw [if_neg (nt hc27)] at hm
    refine C_skip_to (fun _ _ => rfl) ?_
    refine C_seq ?_
    refine C_seq ?_
    refine C_region ?_
    refine V_y (Y_move rfl) rfl rfl rfl ?_
    refine V_to (fun _ _ => rfl) ?_
    obtain ⟨o28, ho28, hm⟩ := Option.bind_eq_some_iff.1 hm
    refine C_cutG (ι := (Int × (Nat → Prop))) (fun ⟨s29, A36⟩ => []) (fun ⟨s29, A36⟩ => fun w' => o28 = .fin s29 ∧ Hp w.heap.size A36 w' ([]) ∧ Tr w.heap.size A w22 A36 w') ?_ ?_
    · refine C_block ?_
      refine C_while ho28 (fun s38 a w' => ∃ i : (Nat → Prop), Has ⟨26, [], none⟩ a ([(2, .pointer (some ⟨b1, 0, none⟩)), (3, .pointer (some ⟨b7, 0, none⟩)), (17, .int .i64 s38)]) ∧ Hp w.heap.size i w' ([]) ∧ Tr w.heap.size A w22 i w') (fun a ha => ⟨A, ha.sub ⟨rfl, rfl, rfl, trivial⟩, ⟨hH, Tr.refl hA⟩⟩) ?_
      rintro K s38 a w39 ⟨A40, ha59, hH41, hr30⟩ K48
      refine C_of ?_ ha59
      replace h4 := El.tr h4 hr30
      replace h11 := El.tr h11 hr30
      replace hK := Tr.trans hK hr30
      replace hB := Nat.le_trans hB hr30.ex.size
      replace hA := hr30.new
      replace hH : Hp w.heap.size A40 w39 ([]) := hH41
      obtain ⟨x42, h43, h44⟩ := K48
      refine C_seq ?_
      refine C_region ?_
      refine V_y (Y_lss rfl rfl) rfl rfl rfl ?_
      refine V_to (fun _ _ => rfl) ?_
      refine C_seq ?_
      refine C_cond rfl (fun hc49 => ?_) (fun hc49 => ?_)
      · rw [if_pos hc49] at h43
        refine C_skip_to (fun _ _ => rfl) ?_
        refine C_seq ?_
        refine C_block ?_
        refine C_seq ?_
        refine C_region ?_
        refine V_y (Y_move rfl) rfl rfl rfl ?_
        refine V_y (Y_assign rfl) rfl rfl rfl ?_
        refine V_to (fun _ _ => rfl) ?_
        refine C_seq ?_
        refine C_region ?_
        obtain ⟨h50, _⟩ := El_staff_Load h4
        refine V_y (Y_loadA h50 Try.isAgg23 Try.sizeOf23 rfl) rfl rfl rfl ?_
        obtain ⟨h51, _⟩ := El_staff_Promise h11
        refine V_y (Y_loadA h51 Try.isAgg25 Try.sizeOf25 rfl) rfl rfl rfl ?_
        refine V_y (Y_move rfl) rfl rfl rfl ?_
        obtain ⟨x52, hx52, h43⟩ := Option.bind_eq_some_iff.1 h43
        refine V_call Try.call16 rfl rfl rfl rfl (staff_Load_keeps_c w39 hA l p s38 hx52) ?_
        rintro _ w53 ⟨rfl, hk54⟩
        have ht55 := Kp.tr hk54 hA hB
        replace hH := Hp.kp hH hk54
        replace h4 := El.tr h4 ht55
        replace h11 := El.tr h11 ht55
        replace hK := Tr.trans hK ht55
        replace hr30 := Tr.trans hr30 ht55
        replace hB := Nat.le_trans hB ht55.ex.size
        replace hA := ht55.new
        refine V_to (fun _ _ => rfl) ?_
        refine C_cond rfl (fun hc56 => ?_) (fun hc56 => ?_)
        · rw [if_pos hc56] at h43
          refine C_seq ?_
          refine C_region ?_
          refine V_y (Y_move rfl) rfl rfl rfl ?_
          refine V_y (Y_assign rfl) rfl rfl rfl ?_
          refine V_y (Y_assign rfl) rfl rfl rfl ?_
          refine V_to (fun _ _ => rfl) ?_
          obtain rfl := Option.some.inj h43
          obtain rfl := (h44 : Lp.rt _ = _)
          rw [Lp.andThen_rt] at hm
          obtain rfl := Option.some.inj hm
          refine C_ret ?_
          try simp only [↓inBlock_ret, ↓then_ret]
          exact retQ rfl (Res.two Try.results7 rfl rfl) ⟨rfl, hK.kp⟩
        · rw [if_neg (nt hc56)] at h43
          refine C_skip_to (fun _ _ => rfl) ?_
          refine C_region ?_
          refine V_y (Y_addI rfl rfl) rfl rfl rfl ?_
          refine V_y (Y_move rfl) rfl rfl rfl ?_
          obtain rfl := Option.some.inj h43
          refine V_end (fun a ha57 => ?_)
          exact ⟨w64 (s38 + 1), h44, ⟨A40, ha57.sub ⟨rfl, rfl, rfl, trivial⟩, ⟨hH, hr30⟩⟩⟩
      · rw [if_neg (nt hc49)] at h43
        obtain rfl := Option.some.inj h43
        refine C_exit (fun a ha58 => ?_)
        exact ⟨(s38, A40), ha58.sub trivial, ⟨h44.symm, hH, hr30⟩⟩
    rintro ⟨s29, A36⟩ w33 ⟨rfl, hH37, hk34⟩ a ha35
    rw [Lp.andThen_fin] at hm
    replace hK := Tr.trans hK hk34
    replace hB := Nat.le_trans hB hk34.ex.size
    replace hA := hk34.new
    replace hH : Hp w.heap.size A36 w33 ([]) := hH37
    refine C_at (n := ⟨26, [], none⟩) (fun _ _ => rfl) ?_ ha35
    refine C_seq ?_
    refine C_region ?_
    refine V_y (Y_assign rfl) rfl rfl rfl ?_
    refine V_y (Y_assign rfl) rfl rfl rfl ?_
    refine V_to (fun _ _ => rfl) ?_
    obtain rfl := Option.some.inj hm
    refine C_ret ?_
    try simp only [↓inBlock_ret, ↓then_ret]
    exact retQ rfl (Res.two Try.results7 rfl rfl) ⟨rfl, hK.kp⟩

set_option maxRecDepth 4000 in
set_option maxHeartbeats 4000000 in
theorem portref2_least_c (w : World) {A : Nat → Prop} (hA : ∀ b, w.heap.size ≤ b → A b) (l : staff_Load) (p : staff_Promise) {r : Int} (hm : portref2_least l p = some r) : Ret Try.prog 21 #[.agg #[.int .i64 l.calls, .int .i64 l.length, .int .i64 l.span], .agg #[.int .i64 p.share, .int .i64 p.of, .int .i64 p.wait, .int .i64 p.parts]] w fun v w' => v = .int .i64 r ∧ Kp w w' := by
  unfold portref2_least at hm
  refine enter Try.func21 rfl Try.ntmps21 rfl ?_
  have hA0 := hA
  have hB := Nat.le_refl w.heap.size
  have hK : Tr w.heap.size A w A w := Tr.refl hA
  have hH : Hp w.heap.size A w [] := Hp.nil
  refine C_seq ?_
  refine C_region ?_
  refine V_box rfl rfl ?_
  intro b1 w2 h3
  have hk5 := h3.kp
  have h4 : El (α := staff_Load) A w2 b1 0 l := h3.el hA ⟨[.int .i64 l.calls], _, rfl, rfl, ⟨[.int .i64 l.length], _, rfl, rfl, rfl⟩⟩
  have ht6 := Kp.tr hk5 hA hB
  replace hH := Hp.kp hH hk5
  replace hK := Tr.trans hK ht6
  replace hB := Nat.le_trans hB ht6.ex.size
  replace hA := ht6.new
  refine V_box rfl rfl ?_
  intro b7 w9 h10
  have hk12 := h10.kp
  have h11 : El (α := staff_Promise) A w9 b7 0 p := h10.el hA ⟨[.int .i64 p.share], _, rfl, rfl, ⟨[.int .i64 p.of], _, rfl, rfl, ⟨[.int .i64 p.wait], _, rfl, rfl, rfl⟩⟩⟩
  have ht13 := Kp.tr hk12 hA hB
  replace hH := Hp.kp hH hk12
  replace h4 := El.tr h4 ht13
  replace hK := Tr.trans hK ht13
  replace hB := Nat.le_trans hB ht13.ex.size
  replace hA := ht13.new
  refine V_y (Y_assign rfl) rfl rfl rfl ?_
  refine V_to (fun _ _ => rfl) ?_
  refine C_seq ?_
  refine C_seq ?_
  refine C_region ?_
  refine V_y (Y_move rfl) rfl rfl rfl ?_
  refine V_to (fun _ _ => rfl) ?_
  obtain ⟨o14, ho14, hm⟩ := Option.bind_eq_some_iff.1 hm
  refine C_cutG (ι := (Int × (Nat → Prop))) (fun ⟨s15, A21⟩ => []) (fun ⟨s15, A21⟩ => fun w' => o14 = .fin s15 ∧ Hp w.heap.size A21 w' ([]) ∧ Tr w.heap.size A w9 A21 w') ?_ ?_
  · refine C_block ?_
    refine C_while ho14 (fun s23 a w' => ∃ i : (Nat → Prop), Has ⟨15, [], none⟩ a ([(2, .pointer (some ⟨b1, 0, none⟩)), (3, .pointer (some ⟨b7, 0, none⟩)), (6, .int .i64 s23)]) ∧ Hp w.heap.size i w' ([]) ∧ Tr w.heap.size A w9 i w') (fun a ha => ⟨A, ha.sub ⟨rfl, rfl, rfl, trivial⟩, ⟨hH, Tr.refl hA⟩⟩) ?_
    rintro K s23 a w24 ⟨A25, ha44, hH26, hr16⟩ K33
    refine C_of ?_ ha44
    replace h4 := El.tr h4 hr16
    replace h11 := El.tr h11 hr16
    replace hK := Tr.trans hK hr16
    replace hB := Nat.le_trans hB hr16.ex.size
    replace hA := hr16.new
    replace hH : Hp w.heap.size A25 w24 ([]) := hH26
    obtain ⟨x27, h28, h29⟩ := K33
    refine C_seq ?_
    refine C_region ?_
    refine V_y (Y_lss rfl rfl) rfl rfl rfl ?_
    refine V_to (fun _ _ => rfl) ?_
    refine C_seq ?_
    refine C_cond rfl (fun hc34 => ?_) (fun hc34 => ?_)
    · rw [if_pos hc34] at h28
      refine C_skip_to (fun _ _ => rfl) ?_
      refine C_seq ?_
      refine C_block ?_
      refine C_seq ?_
      refine C_region ?_
      refine V_y (Y_move rfl) rfl rfl rfl ?_
      refine V_y (Y_assign rfl) rfl rfl rfl ?_
      refine V_to (fun _ _ => rfl) ?_
      refine C_seq ?_
      refine C_region ?_
      obtain ⟨h35, _⟩ := El_staff_Load h4
      refine V_y (Y_loadA h35 Try.isAgg23 Try.sizeOf23 rfl) rfl rfl rfl ?_
      obtain ⟨h36, _⟩ := El_staff_Promise h11
      refine V_y (Y_loadA h36 Try.isAgg25 Try.sizeOf25 rfl) rfl rfl rfl ?_
      refine V_y (Y_move rfl) rfl rfl rfl ?_
      obtain ⟨x37, hx37, h28⟩ := Option.bind_eq_some_iff.1 h28
      refine V_call Try.call19 rfl rfl rfl rfl (portref2_keeps_c w24 hA l p s23 hx37) ?_
      rintro _ w38 ⟨rfl, hk39⟩
      have ht40 := Kp.tr hk39 hA hB
      replace hH := Hp.kp hH hk39
      replace h4 := El.tr h4 ht40
      replace h11 := El.tr h11 ht40
      replace hK := Tr.trans hK ht40
      replace hr16 := Tr.trans hr16 ht40
      replace hB := Nat.le_trans hB ht40.ex.size
      replace hA := ht40.new
      refine V_to (fun _ _ => rfl) ?_
      refine C_cond rfl (fun hc41 => ?_) (fun hc41 => ?_)
      · rw [if_pos hc41] at h28
        refine C_seq ?_
        refine C_region ?_
        refine V_y (Y_move rfl) rfl rfl rfl ?_
        refine V_y (Y_assign rfl) rfl rfl rfl ?_
        refine V_to (fun _ _ => rfl) ?_
        obtain rfl := Option.some.inj h28
        obtain rfl := (h29 : Lp.rt _ = _)
        rw [Lp.andThen_rt] at hm
        obtain rfl := Option.some.inj hm
        refine C_ret ?_
        try simp only [↓inBlock_ret, ↓then_ret]
        exact retQ rfl (Res.one Try.results21 rfl) ⟨rfl, hK.kp⟩
      · rw [if_neg (nt hc41)] at h28
        refine C_skip_to (fun _ _ => rfl) ?_
        refine C_region ?_
        refine V_y (Y_addI rfl rfl) rfl rfl rfl ?_
        refine V_y (Y_move rfl) rfl rfl rfl ?_
        obtain rfl := Option.some.inj h28
        refine V_end (fun a ha42 => ?_)
        exact ⟨w64 (s23 + 1), h29, ⟨A25, ha42.sub ⟨rfl, rfl, rfl, trivial⟩, ⟨hH, hr16⟩⟩⟩
    · rw [if_neg (nt hc34)] at h28
      obtain rfl := Option.some.inj h28
      refine C_exit (fun a ha43 => ?_)
      exact ⟨(s23, A25), ha43.sub trivial, ⟨h29.symm, hH, hr16⟩⟩
  rintro ⟨s15, A21⟩ w18 ⟨rfl, hH22, hk19⟩ a ha20
  rw [Lp.andThen_fin] at hm
  replace hK := Tr.trans hK hk19
  replace hB := Nat.le_trans hB hk19.ex.size
  replace hA := hk19.new
  replace hH : Hp w.heap.size A21 w18 ([]) := hH22
  refine C_at (n := ⟨15, [], none⟩) (fun _ _ => rfl) ?_ ha20
  refine C_seq ?_
  refine C_region ?_
  refine V_y (Y_assign rfl) rfl rfl rfl ?_
  refine V_to (fun _ _ => rfl) ?_
  obtain rfl := Option.some.inj hm
  refine C_ret ?_
  try simp only [↓inBlock_ret, ↓then_ret]
  exact retQ rfl (Res.one Try.results21 rfl) ⟨rfl, hK.kp⟩

set_option maxRecDepth 4000 in
set_option maxHeartbeats 4000000 in
theorem portref2_StaffOf_c (w : World) {A : Nat → Prop} (hA : ∀ b, w.heap.size ≤ b → A b) (l : staff_Load) (p : staff_Promise) {r : (Int × Int)} (hm : portref2_StaffOf l p = some r) : Ret Try.prog 8 #[.agg #[.int .i64 l.calls, .int .i64 l.length, .int .i64 l.span], .agg #[.int .i64 p.share, .int .i64 p.of, .int .i64 p.wait, .int .i64 p.parts]] w fun v w' => v = .tuple #[.int .i64 r.1, .int .i64 r.2] ∧ Kp w w' := by
  unfold portref2_StaffOf at hm
  refine enter Try.func8 rfl Try.ntmps8 rfl ?_
  have hA0 := hA
  have hB := Nat.le_refl w.heap.size
  have hK : Tr w.heap.size A w A w := Tr.refl hA
  have hH : Hp w.heap.size A w [] := Hp.nil
  refine C_seq ?_
  refine C_region ?_
  refine V_box rfl rfl ?_
  intro b1 w2 h3
  have hk5 := h3.kp
  have h4 : El (α := staff_Load) A w2 b1 0 l := h3.el hA ⟨[.int .i64 l.calls], _, rfl, rfl, ⟨[.int .i64 l.length], _, rfl, rfl, rfl⟩⟩
  have ht6 := Kp.tr hk5 hA hB
  replace hH := Hp.kp hH hk5
  replace hK := Tr.trans hK ht6
  replace hB := Nat.le_trans hB ht6.ex.size
  replace hA := ht6.new
  refine V_box rfl rfl ?_
  intro b7 w9 h10
  have hk12 := h10.kp
  have h11 : El (α := staff_Promise) A w9 b7 0 p := h10.el hA ⟨[.int .i64 p.share], _, rfl, rfl, ⟨[.int .i64 p.of], _, rfl, rfl, ⟨[.int .i64 p.wait], _, rfl, rfl, rfl⟩⟩⟩
  have ht13 := Kp.tr hk12 hA hB
  replace hH := Hp.kp hH hk12
  replace h4 := El.tr h4 ht13
  replace hK := Tr.trans hK ht13
  replace hB := Nat.le_trans hB ht13.ex.size
  replace hA := ht13.new
  refine V_y (Y_assign rfl) rfl rfl rfl ?_
  refine V_y (Y_assign rfl) rfl rfl rfl ?_
  refine V_to (fun _ _ => rfl) ?_
  refine C_seq ?_
  refine C_seq ?_
  refine C_region ?_
  obtain ⟨h14, _⟩ := El_staff_Load h4
  refine V_y (Y_loadA h14 Try.isAgg23 Try.sizeOf23 rfl) rfl rfl rfl ?_
  obtain ⟨x15, hx15, hm⟩ := Option.bind_eq_some_iff.1 hm
  refine V_call Try.call20 rfl rfl rfl rfl (portref2_LoadFault_c w9 hA l hx15) ?_
  rintro _ w17 ⟨rfl, hk18⟩
  have ht19 := Kp.tr hk18 hA hB
  replace hH := Hp.kp hH hk18
  replace h4 := El.tr h4 ht19
  replace h11 := El.tr h11 ht19
  replace hK := Tr.trans hK ht19
  replace hB := Nat.le_trans hB ht19.ex.size
  replace hA := ht19.new
  refine V_y (Y_assign rfl) rfl rfl rfl ?_
  refine V_to (fun _ _ => rfl) ?_
  refine C_seq ?_
  refine C_region ?_
  refine V_y (Y_move rfl) rfl rfl rfl ?_
  refine V_y (Y_neq rfl rfl) rfl rfl rfl ?_
  refine V_to (fun _ _ => rfl) ?_
  refine C_cond rfl (fun hc20 => ?_) (fun hc20 => ?_)
  · rw [if_pos hc20] at hm
    refine C_seq ?_
    refine C_region ?_
    refine V_y (Y_move rfl) rfl rfl rfl ?_
    refine V_y (Y_assign rfl) rfl rfl rfl ?_
    refine V_y (Y_assign rfl) rfl rfl rfl ?_
    refine V_to (fun _ _ => rfl) ?_
    obtain rfl := Option.some.inj hm
    refine C_ret ?_
    try simp only [↓inBlock_ret, ↓then_ret]
    exact retQ rfl (Res.two Try.results8 rfl rfl) ⟨rfl, hK.kp⟩
  · rw [if_neg (nt hc20)] at hm
    refine C_skip_to (fun _ _ => rfl) ?_
    refine C_seq ?_
    refine C_seq ?_
    refine C_region ?_
    obtain ⟨h21, _⟩ := El_staff_Promise h11
    refine V_y (Y_loadA h21 Try.isAgg25 Try.sizeOf25 rfl) rfl rfl rfl ?_
    obtain ⟨x22, hx22, hm⟩ := Option.bind_eq_some_iff.1 hm
    refine V_call Try.call18 rfl rfl rfl rfl (portref2_PromiseFault_c w17 hA p hx22) ?_
    rintro _ w23 ⟨rfl, hk24⟩
    have ht25 := Kp.tr hk24 hA hB
    replace hH := Hp.kp hH hk24
    replace h4 := El.tr h4 ht25
    replace h11 := El.tr h11 ht25
    replace hK := Tr.trans hK ht25
    replace hB := Nat.le_trans hB ht25.ex.size
    replace hA := ht25.new
    refine V_y (Y_assign rfl) rfl rfl rfl ?_
    refine V_to (fun _ _ => rfl) ?_
    refine C_seq ?_
    refine C_region ?_
    refine V_y (Y_move rfl) rfl rfl rfl ?_
    refine V_y (Y_neq rfl rfl) rfl rfl rfl ?_
    refine V_to (fun _ _ => rfl) ?_
    refine C_cond rfl (fun hc26 => ?_) (fun hc26 => ?_)
    · rw [if_pos hc26] at hm
      refine C_seq ?_
      refine C_region ?_
      refine V_y (Y_move rfl) rfl rfl rfl ?_
      refine V_y (Y_assign rfl) rfl rfl rfl ?_
      refine V_y (Y_assign rfl) rfl rfl rfl ?_
      refine V_to (fun _ _ => rfl) ?_
      obtain rfl := Option.some.inj hm
      refine C_ret ?_
      try simp only [↓inBlock_ret, ↓then_ret]
      exact retQ rfl (Res.two Try.results8 rfl rfl) ⟨rfl, hK.kp⟩
    · rw [if_neg (nt hc26)] at hm
      refine C_skip_to (fun _ _ => rfl) ?_
      refine C_seq ?_
      refine C_region ?_
      obtain ⟨h27, _⟩ := El_staff_Load h4
      refine V_y (Y_loadA h27 Try.isAgg23 Try.sizeOf23 rfl) rfl rfl rfl ?_
      obtain ⟨h28, _⟩ := El_staff_Promise h11
      refine V_y (Y_loadA h28 Try.isAgg25 Try.sizeOf25 rfl) rfl rfl rfl ?_
      obtain ⟨x29, hx29, hm⟩ := Option.bind_eq_some_iff.1 hm
      refine V_call Try.call21 rfl rfl rfl rfl (portref2_least_c w23 hA l p hx29) ?_
      rintro _ w30 ⟨rfl, hk31⟩
      have ht32 := Kp.tr hk31 hA hB
      replace hH := Hp.kp hH hk31
      replace h4 := El.tr h4 ht32
      replace h11 := El.tr h11 ht32
      replace hK := Tr.trans hK ht32
      replace hB := Nat.le_trans hB ht32.ex.size
      replace hA := ht32.new
      refine V_y (Y_assign rfl) rfl rfl rfl ?_
      refine V_to (fun _ _ => rfl) ?_
      refine C_seq ?_
      refine C_seq ?_
      refine C_region ?_
      refine V_y (Y_move rfl) rfl rfl rfl ?_
      refine V_y (Y_lss rfl rfl) rfl rfl rfl ?_
      refine V_to (fun _ _ => rfl) ?_
      refine C_cond rfl (fun hc33 => ?_) (fun hc33 => ?_)
      · rw [if_pos hc33] at hm
        refine C_seq ?_
        refine C_region ?_
        refine V_y (Y_assign rfl) rfl rfl rfl ?_
        refine V_y (Y_assign rfl) rfl rfl rfl ?_
        refine V_to (fun _ _ => rfl) ?_
        obtain rfl := Option.some.inj hm
        refine C_ret ?_
        try simp only [↓inBlock_ret, ↓then_ret]
        exact retQ rfl (Res.two Try.results8 rfl rfl) ⟨rfl, hK.kp⟩
      · rw [if_neg (nt hc33)] at hm
        refine C_skip_to (fun _ _ => rfl) ?_
        refine C_seq ?_
        refine C_region ?_
        refine V_y (Y_move rfl) rfl rfl rfl ?_
        refine V_y (Y_assign rfl) rfl rfl rfl ?_
        refine V_y (Y_assign rfl) rfl rfl rfl ?_
        refine V_to (fun _ _ => rfl) ?_
        obtain rfl := Option.some.inj hm
        refine C_ret ?_
        try simp only [↓inBlock_ret, ↓then_ret]
        exact retQ rfl (Res.two Try.results8 rfl rfl) ⟨rfl, hK.kp⟩

set_option maxRecDepth 4000 in
set_option maxHeartbeats 4000000 in
theorem portlaw2_StaffKeeps_c (w : World) {A : Nat → Prop} (hA : ∀ b, w.heap.size ≤ b → A b) (l : staff_Load) (p : staff_Promise) (n : Int) {r : Bool} (hm : portlaw2_StaffKeeps l p n = some r) : Ret Try.prog 3 #[.agg #[.int .i64 l.calls, .int .i64 l.length, .int .i64 l.span], .agg #[.int .i64 p.share, .int .i64 p.of, .int .i64 p.wait, .int .i64 p.parts], .int .i64 n] w fun v w' => v = .bool r ∧ Kp w w' := by
  unfold portlaw2_StaffKeeps at hm
  refine enter Try.func3 rfl Try.ntmps3 rfl ?_
  have hA0 := hA
  have hB := Nat.le_refl w.heap.size
  have hK : Tr w.heap.size A w A w := Tr.refl hA
  have hH : Hp w.heap.size A w [] := Hp.nil
  refine C_seq ?_
  refine C_region ?_
  refine V_box rfl rfl ?_
  intro b1 w2 h3
  have hk5 := h3.kp
  have h4 : El (α := staff_Load) A w2 b1 0 l := h3.el hA ⟨[.int .i64 l.calls], _, rfl, rfl, ⟨[.int .i64 l.length], _, rfl, rfl, rfl⟩⟩
  have ht6 := Kp.tr hk5 hA hB
  replace hH := Hp.kp hH hk5
  replace hK := Tr.trans hK ht6
  replace hB := Nat.le_trans hB ht6.ex.size
  replace hA := ht6.new
  refine V_box rfl rfl ?_
  intro b7 w9 h10
  have hk12 := h10.kp
  have h11 : El (α := staff_Promise) A w9 b7 0 p := h10.el hA ⟨[.int .i64 p.share], _, rfl, rfl, ⟨[.int .i64 p.of], _, rfl, rfl, ⟨[.int .i64 p.wait], _, rfl, rfl, rfl⟩⟩⟩
  have ht13 := Kp.tr hk12 hA hB
  replace hH := Hp.kp hH hk12
  replace h4 := El.tr h4 ht13
  replace hK := Tr.trans hK ht13
  replace hB := Nat.le_trans hB ht13.ex.size
  replace hA := ht13.new
  refine V_y (Y_assign rfl) rfl rfl rfl ?_
  refine V_to (fun _ _ => rfl) ?_
  refine C_seq ?_
  refine C_region ?_
  obtain ⟨h14, _⟩ := El_staff_Load h4
  refine V_y (Y_loadA h14 Try.isAgg23 Try.sizeOf23 rfl) rfl rfl rfl ?_
  obtain ⟨h15, _⟩ := El_staff_Promise h11
  refine V_y (Y_loadA h15 Try.isAgg25 Try.sizeOf25 rfl) rfl rfl rfl ?_
  refine V_y (Y_move rfl) rfl rfl rfl ?_
  obtain ⟨x16, hx16, hm⟩ := Option.bind_eq_some_iff.1 hm
  refine V_call Try.call5 rfl rfl rfl rfl (staff_Keeps_c w9 hA l p n hx16) ?_
  rintro _ w17 ⟨rfl, hk18⟩
  have ht19 := Kp.tr hk18 hA hB
  replace hH := Hp.kp hH hk18
  replace h4 := El.tr h4 ht19
  replace h11 := El.tr h11 ht19
  replace hK := Tr.trans hK ht19
  replace hB := Nat.le_trans hB ht19.ex.size
  replace hA := ht19.new
  refine V_y (Y_move rfl) rfl rfl rfl ?_
  refine V_y (Y_extract rfl rfl) rfl rfl rfl ?_
  refine V_y (Y_extract rfl rfl) rfl rfl rfl ?_
  refine V_y (Y_assign rfl) rfl rfl rfl ?_
  refine V_y (Y_assign rfl) rfl rfl rfl ?_
  refine V_to (fun _ _ => rfl) ?_
  refine C_seq ?_
  refine C_region ?_
  obtain ⟨h20, _⟩ := El_staff_Load h4
  refine V_y (Y_loadA h20 Try.isAgg23 Try.sizeOf23 rfl) rfl rfl rfl ?_
  obtain ⟨h21, _⟩ := El_staff_Promise h11
  refine V_y (Y_loadA h21 Try.isAgg25 Try.sizeOf25 rfl) rfl rfl rfl ?_
  refine V_y (Y_move rfl) rfl rfl rfl ?_
  obtain ⟨x22, hx22, hm⟩ := Option.bind_eq_some_iff.1 hm
  refine V_call Try.call6 rfl rfl rfl rfl (portref2_KeepsOf_c w17 hA l p n hx22) ?_
  rintro _ w23 ⟨rfl, hk24⟩
  have ht25 := Kp.tr hk24 hA hB
  replace hH := Hp.kp hH hk24
  replace h4 := El.tr h4 ht25
  replace h11 := El.tr h11 ht25
  replace hK := Tr.trans hK ht25
  replace hB := Nat.le_trans hB ht25.ex.size
  replace hA := ht25.new
  refine V_y (Y_move rfl) rfl rfl rfl ?_
  refine V_y (Y_extract rfl rfl) rfl rfl rfl ?_
  refine V_y (Y_extract rfl rfl) rfl rfl rfl ?_
  refine V_y (Y_assign rfl) rfl rfl rfl ?_
  refine V_y (Y_assign rfl) rfl rfl rfl ?_
  refine V_to (fun _ _ => rfl) ?_
  refine C_seq ?_
  refine C_region ?_
  obtain ⟨h26, _⟩ := El_staff_Load h4
  refine V_y (Y_loadA h26 Try.isAgg23 Try.sizeOf23 rfl) rfl rfl rfl ?_
  obtain ⟨h27, _⟩ := El_staff_Promise h11
  refine V_y (Y_loadA h27 Try.isAgg25 Try.sizeOf25 rfl) rfl rfl rfl ?_
  obtain ⟨x28, hx28, hm⟩ := Option.bind_eq_some_iff.1 hm
  refine V_call Try.call7 rfl rfl rfl rfl (staff_Staff_c w23 hA l p hx28) ?_
  rintro _ w29 ⟨rfl, hk30⟩
  have ht31 := Kp.tr hk30 hA hB
  replace hH := Hp.kp hH hk30
  replace h4 := El.tr h4 ht31
  replace h11 := El.tr h11 ht31
  replace hK := Tr.trans hK ht31
  replace hB := Nat.le_trans hB ht31.ex.size
  replace hA := ht31.new
  refine V_y (Y_move rfl) rfl rfl rfl ?_
  refine V_y (Y_extract rfl rfl) rfl rfl rfl ?_
  refine V_y (Y_extract rfl rfl) rfl rfl rfl ?_
  refine V_y (Y_assign rfl) rfl rfl rfl ?_
  refine V_y (Y_assign rfl) rfl rfl rfl ?_
  refine V_to (fun _ _ => rfl) ?_
  refine C_seq ?_
  refine C_region ?_
  obtain ⟨h32, _⟩ := El_staff_Load h4
  refine V_y (Y_loadA h32 Try.isAgg23 Try.sizeOf23 rfl) rfl rfl rfl ?_
  obtain ⟨h33, _⟩ := El_staff_Promise h11
  refine V_y (Y_loadA h33 Try.isAgg25 Try.sizeOf25 rfl) rfl rfl rfl ?_
  obtain ⟨x34, hx34, hm⟩ := Option.bind_eq_some_iff.1 hm
  refine V_call Try.call8 rfl rfl rfl rfl (portref2_StaffOf_c w29 hA l p hx34) ?_
  rintro _ w35 ⟨rfl, hk36⟩
  have ht37 := Kp.tr hk36 hA hB
  replace hH := Hp.kp hH hk36
  replace h4 := El.tr h4 ht37
  replace h11 := El.tr h11 ht37
  replace hK := Tr.trans hK ht37
  replace hB := Nat.le_trans hB ht37.ex.size
  replace hA := ht37.new
  refine V_y (Y_move rfl) rfl rfl rfl ?_
  refine V_y (Y_extract rfl rfl) rfl rfl rfl ?_
  refine V_y (Y_extract rfl rfl) rfl rfl rfl ?_
  refine V_y (Y_assign rfl) rfl rfl rfl ?_
  refine V_y (Y_assign rfl) rfl rfl rfl ?_
  refine V_to (fun _ _ => rfl) ?_
  refine C_seq ?_
  refine C_region ?_
  refine V_y (Y_move rfl) rfl rfl rfl ?_
  refine V_y (Y_move rfl) rfl rfl rfl ?_
  refine V_y (Y_beql Try.underlying4 rfl rfl) rfl rfl rfl ?_
  refine V_y (Y_move rfl) rfl rfl rfl ?_
  refine V_cut 4 (fun _ : Unit => [(8, .int .i64 x16.2), (10, .int .i64 x22.2), (12, .int .i64 x28.2), (14, .int .i64 x34.2), (48, .bool ((x16.1 == x22.1) && (x28.1 == x34.1)))]) (fun _ w' => w35 = w') ?_ ?_
  · simp only [List.take, List.drop]
    rcases Bool.eq_false_or_eq_true (x16.1 == x22.1) with hc38 | hc38
    · refine V_ge rfl rfl rfl hc38 ?_
      refine V_y (Y_move rfl) rfl rfl rfl ?_
      refine V_ge rfl rfl rfl hc38 ?_
      refine V_y (Y_move rfl) rfl rfl rfl ?_
      refine V_ge rfl rfl rfl hc38 ?_
      refine V_y (Y_eql rfl rfl) rfl rfl rfl ?_
      refine V_y (Y_pick_te rfl hc38 rfl) rfl rfl rfl ?_
      exact V_end fun a ha => ⟨(), ha.sub ⟨rfl, rfl, rfl, rfl, (by rw [hc38]; rfl), trivial⟩, rfl⟩
    · refine V_gn rfl rfl rfl hc38 rfl rfl rfl ?_
      refine V_gn rfl rfl rfl hc38 rfl rfl rfl ?_
      refine V_gn rfl rfl rfl hc38 rfl rfl rfl ?_
      refine V_y (Y_pick_fe rfl hc38 rfl) rfl rfl rfl ?_
      exact V_end fun a ha => ⟨(), ha.sub ⟨rfl, rfl, rfl, rfl, (by rw [hc38]; rfl), trivial⟩, rfl⟩
  simp only [List.take, List.drop]
  rintro _ _ rfl
  refine V_y (Y_move rfl) rfl rfl rfl ?_
  refine V_cut 4 (fun _ : Unit => [(12, .int .i64 x28.2), (14, .int .i64 x34.2), (53, .bool (((x16.1 == x22.1) && (x28.1 == x34.1)) && (x16.2 == x22.2)))]) (fun _ w' => w35 = w') ?_ ?_
  · simp only [List.take, List.drop]
    rcases Bool.eq_false_or_eq_true (((x16.1 == x22.1) && (x28.1 == x34.1))) with hc40 | hc40
    · refine V_ge rfl rfl rfl hc40 ?_
      refine V_y (Y_move rfl) rfl rfl rfl ?_
      refine V_ge rfl rfl rfl hc40 ?_
      refine V_y (Y_move rfl) rfl rfl rfl ?_
      refine V_ge rfl rfl rfl hc40 ?_
      refine V_y (Y_eql rfl rfl) rfl rfl rfl ?_
      refine V_y (Y_pick_te rfl hc40 rfl) rfl rfl rfl ?_
      exact V_end fun a ha => ⟨(), ha.sub ⟨rfl, rfl, (by rw [hc40]; rfl), trivial⟩, rfl⟩
    · refine V_gn rfl rfl rfl hc40 rfl rfl rfl ?_
      refine V_gn rfl rfl rfl hc40 rfl rfl rfl ?_
      refine V_gn rfl rfl rfl hc40 rfl rfl rfl ?_
      refine V_y (Y_pick_fe rfl hc40 rfl) rfl rfl rfl ?_
      exact V_end fun a ha => ⟨(), ha.sub ⟨rfl, rfl, (by rw [hc40]; rfl), trivial⟩, rfl⟩
  simp only [List.take, List.drop]
  rintro _ _ rfl
  refine V_y (Y_move rfl) rfl rfl rfl ?_
  refine V_cut 4 (fun _ : Unit => [(58, .bool ((((x16.1 == x22.1) && (x28.1 == x34.1)) && (x16.2 == x22.2)) && (x28.2 == x34.2)))]) (fun _ w' => w35 = w') ?_ ?_
  · simp only [List.take, List.drop]
    rcases Bool.eq_false_or_eq_true ((((x16.1 == x22.1) && (x28.1 == x34.1)) && (x16.2 == x22.2))) with hc42 | hc42
    · refine V_ge rfl rfl rfl hc42 ?_
      refine V_y (Y_move rfl) rfl rfl rfl ?_
      refine V_ge rfl rfl rfl hc42 ?_
      refine V_y (Y_move rfl) rfl rfl rfl ?_
      refine V_ge rfl rfl rfl hc42 ?_
      refine V_y (Y_eql rfl rfl) rfl rfl rfl ?_
      refine V_y (Y_pick_te rfl hc42 rfl) rfl rfl rfl ?_
      exact V_end fun a ha => ⟨(), ha.sub ⟨(by rw [hc42]; rfl), trivial⟩, rfl⟩
    · refine V_gn rfl rfl rfl hc42 rfl rfl rfl ?_
      refine V_gn rfl rfl rfl hc42 rfl rfl rfl ?_
      refine V_gn rfl rfl rfl hc42 rfl rfl rfl ?_
      refine V_y (Y_pick_fe rfl hc42 rfl) rfl rfl rfl ?_
      exact V_end fun a ha => ⟨(), ha.sub ⟨(by rw [hc42]; rfl), trivial⟩, rfl⟩
  simp only [List.take, List.drop]
  rintro _ _ rfl
  refine V_y (Y_assign rfl) rfl rfl rfl ?_
  refine V_to (fun _ _ => rfl) ?_
  obtain rfl := Option.some.inj hm
  refine C_ret ?_
  try simp only [↓inBlock_ret, ↓then_ret]
  exact retQ rfl (Res.one Try.results3 rfl) ⟨rfl, hK.kp⟩

end Go.Proofs.Ytjjdbhfigpmciaa.W
