/-
  Written by program (gen.py) from the IR of the dump: each function computes its model.
-/
import Derived.Test.YtlclnbcjebpfkaaProg
import Derived.Test.YtlclnbcjebpfkaaGd
import Derived.Test.YtlclnbcjebpfkaaPlanMakesM
import Derived.KernelRfl
namespace Go.Proofs.Ytlclnbcjebpfkaa.W
open Go Go.RowKit Go.Pu Go.Gw Go.Proofs Go.Proofs.Ytlclnbcjebpfkaa.M
set_option linter.unusedVariables false

theorem Try_info3 : Try.prog.info? 3 = some Try.t3 := by kernel_rfl
theorem Try_mixed : Try.prog.follows .mixedOrders = true := by kernel_rfl

instance : GoT staff_Form := GoT.of (β := Int × Int) fun x => (x.from_, x.slots)

instance : Flat staff_Form := ⟨fun {A w A1 w1 cs x} h => Flat.flat (α := Int × Int) (x := (x.from_, x.slots)) (A := A) (w := w) h⟩

theorem El_staff_Form_ {A : Nat → Prop} {w : World} {b off : Nat} {x : staff_Form} (h : El A w b off x) : El (α := Int × Int) A w b off (x.from_, x.slots) := h

theorem El_staff_Form_0 {A : Nat → Prop} {w : World} {b off : Nat} {x : staff_Form} (h : El A w b off x) : El A w b (off + 0) x.from_ := El.fst (El_staff_Form_ h)

theorem El_staff_Form_1 {A : Nat → Prop} {w : World} {b off : Nat} {x : staff_Form} (h : El A w b off x) : El A w b (off + 1) x.slots := El.snd (El_staff_Form_ h)

theorem El_staff_Form {A : Nat → Prop} {w : World} {b off : Nat} {x : staff_Form} (h : El A w b off x) : At w b off [.int .i64 x.from_, .int .i64 x.slots] ∧ True := by
  obtain ⟨h1, h2, cs, h3, h4⟩ := h
  obtain ⟨_, _, rfl, rfl, rfl⟩ := h3
  exact ⟨h4, trivial⟩

set_option maxRecDepth 4000 in
set_option maxHeartbeats 4000000 in
theorem staff_within_c (w : World) (n : Int) (low : Int) (high : Int) : Ret Try.prog 33 #[.int .i64 n, .int .i64 low, .int .i64 high] w fun v w' => v = .bool (staff_within n low high) ∧ w = w' := by
  generalize hm : staff_within n low high = r
  unfold staff_within at hm
  refine enter Try.func33 rfl Try.ntmps33 rfl ?_
  refine C_seq ?_
  refine C_region ?_
  refine V_y (Y_assign rfl) rfl rfl rfl ?_
  refine V_to (fun _ _ => rfl) ?_
  refine C_seq ?_
  refine C_region ?_
  refine V_y (Y_move rfl) rfl rfl rfl ?_
  refine V_y (Y_move rfl) rfl rfl rfl ?_
  refine V_y (Y_geq rfl rfl) rfl rfl rfl ?_
  refine V_y (Y_move rfl) rfl rfl rfl ?_
  refine V_cut 4 (fun _ : Unit => [(14, .bool ((decide (low ≤ n)) && (decide (n ≤ high))))]) (fun _ w' => w = w') ?_ ?_
  · simp only [List.take, List.drop]
    rcases Bool.eq_false_or_eq_true (decide (low ≤ n)) with hc1 | hc1
    · refine V_ge rfl rfl rfl hc1 ?_
      refine V_y (Y_move rfl) rfl rfl rfl ?_
      refine V_ge rfl rfl rfl hc1 ?_
      refine V_y (Y_move rfl) rfl rfl rfl ?_
      refine V_ge rfl rfl rfl hc1 ?_
      refine V_y (Y_leq rfl rfl) rfl rfl rfl ?_
      refine V_y (Y_pick_te rfl hc1 rfl) rfl rfl rfl ?_
      exact V_end fun a ha => ⟨(), ha.sub ⟨(by rw [hc1]; rfl), trivial⟩, rfl⟩
    · refine V_gn rfl rfl rfl hc1 rfl rfl rfl ?_
      refine V_gn rfl rfl rfl hc1 rfl rfl rfl ?_
      refine V_gn rfl rfl rfl hc1 rfl rfl rfl ?_
      refine V_y (Y_pick_fe rfl hc1 rfl) rfl rfl rfl ?_
      exact V_end fun a ha => ⟨(), ha.sub ⟨(by rw [hc1]; rfl), trivial⟩, rfl⟩
  simp only [List.take, List.drop]
  rintro _ _ rfl
  refine V_y (Y_assign rfl) rfl rfl rfl ?_
  refine V_to (fun _ _ => rfl) ?_
  obtain rfl := hm
  refine C_ret ?_
  try simp only [↓inBlock_ret, ↓then_ret]
  exact retQ rfl (Res.one Try.results33 rfl) ⟨rfl, rfl⟩

set_option maxRecDepth 4000 in
set_option maxHeartbeats 4000000 in
theorem cmp_isNaN_int_c (w : World) (x : Int) : Ret Try.prog 72 #[.int .i64 x] w fun v w' => v = .bool (cmp_isNaN_int x) ∧ w = w' := by
  generalize hm : cmp_isNaN_int x = r
  unfold cmp_isNaN_int at hm
  refine enter Try.func72 rfl Try.ntmps72 rfl ?_
  refine C_seq ?_
  refine C_region ?_
  refine V_y (Y_assign rfl) rfl rfl rfl ?_
  refine V_to (fun _ _ => rfl) ?_
  refine C_seq ?_
  refine C_region ?_
  refine V_y (Y_move rfl) rfl rfl rfl ?_
  refine V_y (Y_move rfl) rfl rfl rfl ?_
  refine V_y (Y_neq rfl rfl) rfl rfl rfl ?_
  refine V_y (Y_assign rfl) rfl rfl rfl ?_
  refine V_to (fun _ _ => rfl) ?_
  obtain rfl := hm
  refine C_ret ?_
  try simp only [↓inBlock_ret, ↓then_ret]
  exact retQ rfl (Res.one Try.results72 rfl) ⟨rfl, rfl⟩

set_option maxRecDepth 4000 in
set_option maxHeartbeats 4000000 in
theorem cmp_Compare_int_c (w : World) (x : Int) (y : Int) : Ret Try.prog 49 #[.int .i64 x, .int .i64 y] w fun v w' => v = .int .i64 (cmp_Compare_int x y) ∧ w = w' := by
  generalize hm : cmp_Compare_int x y = r
  unfold cmp_Compare_int at hm
  refine enter Try.func49 rfl Try.ntmps49 rfl ?_
  refine C_seq ?_
  refine C_region ?_
  refine V_y (Y_assign rfl) rfl rfl rfl ?_
  refine V_to (fun _ _ => rfl) ?_
  refine C_seq ?_
  refine C_region ?_
  refine V_y (Y_move rfl) rfl rfl rfl ?_
  refine V_call Try.call72 rfl rfl rfl rfl (cmp_isNaN_int_c w x) ?_
  rintro _ _ ⟨rfl, rfl⟩
  refine V_y (Y_assign rfl) rfl rfl rfl ?_
  refine V_to (fun _ _ => rfl) ?_
  refine C_seq ?_
  refine C_region ?_
  refine V_y (Y_move rfl) rfl rfl rfl ?_
  refine V_call Try.call72 rfl rfl rfl rfl (cmp_isNaN_int_c w y) ?_
  rintro _ _ ⟨rfl, rfl⟩
  refine V_y (Y_assign rfl) rfl rfl rfl ?_
  refine V_to (fun _ _ => rfl) ?_
  refine C_seq ?_
  refine C_seq ?_
  refine C_region ?_
  refine V_y (Y_move rfl) rfl rfl rfl ?_
  refine V_to (fun _ _ => rfl) ?_
  refine C_cond rfl (fun hc1 => ?_) (fun hc1 => ?_)
  · rw [if_pos hc1] at hm
    refine C_seq ?_
    refine C_seq ?_
    refine C_region ?_
    refine V_y (Y_move rfl) rfl rfl rfl ?_
    refine V_to (fun _ _ => rfl) ?_
    refine C_cond rfl (fun hc2 => ?_) (fun hc2 => ?_)
    · rw [if_pos hc2] at hm
      refine C_seq ?_
      refine C_region ?_
      refine V_y (Y_assign rfl) rfl rfl rfl ?_
      refine V_to (fun _ _ => rfl) ?_
      obtain rfl := hm
      refine C_ret ?_
      try simp only [↓inBlock_ret, ↓then_ret]
      exact retQ rfl (Res.one Try.results49 rfl) ⟨rfl, rfl⟩
    · rw [if_neg (nt hc2)] at hm
      refine C_skip_to (fun _ _ => rfl) ?_
      refine C_seq ?_
      refine C_region ?_
      refine V_y (Y_assign rfl) rfl rfl rfl ?_
      refine V_to (fun _ _ => rfl) ?_
      obtain rfl := hm
      refine C_ret ?_
      try simp only [↓inBlock_ret, ↓then_ret]
      exact retQ rfl (Res.one Try.results49 rfl) ⟨rfl, rfl⟩
  · rw [if_neg (nt hc1)] at hm
    refine C_skip_to (fun _ _ => rfl) ?_
    refine C_seq ?_
    refine C_seq ?_
    refine C_region ?_
    refine V_y (Y_move rfl) rfl rfl rfl ?_
    refine V_to (fun _ _ => rfl) ?_
    refine C_cond rfl (fun hc3 => ?_) (fun hc3 => ?_)
    · rw [if_pos hc3] at hm
      refine C_seq ?_
      refine C_region ?_
      refine V_y (Y_assign rfl) rfl rfl rfl ?_
      refine V_to (fun _ _ => rfl) ?_
      obtain rfl := hm
      refine C_ret ?_
      try simp only [↓inBlock_ret, ↓then_ret]
      exact retQ rfl (Res.one Try.results49 rfl) ⟨rfl, rfl⟩
    · rw [if_neg (nt hc3)] at hm
      refine C_skip_to (fun _ _ => rfl) ?_
      refine C_seq ?_
      refine C_seq ?_
      refine C_region ?_
      refine V_y (Y_move rfl) rfl rfl rfl ?_
      refine V_y (Y_move rfl) rfl rfl rfl ?_
      refine V_y (Y_lss rfl rfl) rfl rfl rfl ?_
      refine V_to (fun _ _ => rfl) ?_
      refine C_cond rfl (fun hc4 => ?_) (fun hc4 => ?_)
      · rw [if_pos hc4] at hm
        refine C_seq ?_
        refine C_region ?_
        refine V_y (Y_assign rfl) rfl rfl rfl ?_
        refine V_to (fun _ _ => rfl) ?_
        obtain rfl := hm
        refine C_ret ?_
        try simp only [↓inBlock_ret, ↓then_ret]
        exact retQ rfl (Res.one Try.results49 rfl) ⟨rfl, rfl⟩
      · rw [if_neg (nt hc4)] at hm
        refine C_skip_to (fun _ _ => rfl) ?_
        refine C_seq ?_
        refine C_seq ?_
        refine C_region ?_
        refine V_y (Y_move rfl) rfl rfl rfl ?_
        refine V_y (Y_move rfl) rfl rfl rfl ?_
        refine V_y (Y_gtr rfl rfl) rfl rfl rfl ?_
        refine V_to (fun _ _ => rfl) ?_
        refine C_cond rfl (fun hc5 => ?_) (fun hc5 => ?_)
        · rw [if_pos hc5] at hm
          refine C_seq ?_
          refine C_region ?_
          refine V_y (Y_assign rfl) rfl rfl rfl ?_
          refine V_to (fun _ _ => rfl) ?_
          obtain rfl := hm
          refine C_ret ?_
          try simp only [↓inBlock_ret, ↓then_ret]
          exact retQ rfl (Res.one Try.results49 rfl) ⟨rfl, rfl⟩
        · rw [if_neg (nt hc5)] at hm
          refine C_skip_to (fun _ _ => rfl) ?_
          refine C_seq ?_
          refine C_region ?_
          refine V_y (Y_assign rfl) rfl rfl rfl ?_
          refine V_to (fun _ _ => rfl) ?_
          obtain rfl := hm
          refine C_ret ?_
          try simp only [↓inBlock_ret, ↓then_ret]
          exact retQ rfl (Res.one Try.results49 rfl) ⟨rfl, rfl⟩

set_option maxRecDepth 4000 in
set_option maxHeartbeats 4000000 in
theorem cmp_Or_int_c (w : World) {A : Nat → Prop} (vals : (List Int)) (v_vals : Value) (h_vals : Sl A w v_vals vals) {r : Int} (hm : cmp_Or_int vals = some r) : Ret Try.prog 48 #[v_vals] w fun v w' => v = .int .i64 r ∧ w = w' := by
  unfold cmp_Or_int at hm
  refine enter Try.func48 rfl Try.ntmps48 rfl ?_
  refine C_seq ?_
  refine C_region ?_
  refine V_y (Y_assign rfl) rfl rfl rfl ?_
  refine V_to (fun _ _ => rfl) ?_
  refine C_seq ?_
  refine C_region ?_
  refine V_y (Y_assign rfl) rfl rfl rfl ?_
  refine V_to (fun _ _ => rfl) ?_
  refine C_seq ?_
  refine C_seq ?_
  refine C_region ?_
  refine V_y (Y_move rfl) rfl rfl rfl ?_
  refine V_y (Y_lenSl h_vals rfl Try.underlying22 rfl) rfl rfl rfl ?_
  refine V_y (Y_move rfl) rfl rfl rfl ?_
  refine V_to (fun _ _ => rfl) ?_
  have hn19 := Sl.le h_vals
  obtain ⟨o3, ho3, hm⟩ := Option.bind_eq_some_iff.1 hm
  refine C_cutG (ι := Unit) (fun (s4 : Unit) => [(3, .int .i64 0)]) (fun (s4 : Unit) => fun w' => o3 = .fin s4 ∧ w = w') ?_ ?_
  · refine C_block ?_
    refine C_range ho3 (fun k6 _ a w' => ∃ i : Unit, Has ⟨18, [], none⟩ a ([(3, .int .i64 0), (6, v_vals), (7, .int .i64 (vals.length : Int)), (8, .int .i64 (k6 : Int))]) ∧ w = w') (fun a ha => ⟨(), ha.sub ⟨rfl, rfl, rfl, rfl, trivial⟩, rfl⟩) ?_
    rintro K k6 _ a _ ⟨_, ha28, rfl⟩ hle15 K18 h17
    refine C_of ?_ ha28
    refine C_seq (C_region (V_y (Y_lss rfl rfl) rfl rfl rfl (V_to (fun _ _ => rfl) ?_)))
    refine C_seq ?_
    refine C_cond rfl (fun hc20 => ?_) (fun hc20 => ?_)
    · have hlt16 := lt_of_dec hc20
      obtain ⟨x12, h13, h14⟩ := K18 hlt16
      refine C_skip_to (fun _ _ => rfl) ?_
      refine C_seq ?_
      refine C_block ?_
      refine C_seq ?_
      refine C_region ?_
      obtain ⟨x21, hx21, h13⟩ := Option.bind_eq_some_iff.1 h13
      refine V_indexAddr h_vals hx21 Try.underlying22 Try.sizeOf3 rfl rfl rfl ?_
      intro b22 o23 h24
      refine V_y (Y_load (El.int h24) Try.isAgg3 rfl) rfl rfl rfl ?_
      refine V_y (Y_assign rfl) rfl rfl rfl ?_
      refine V_to (fun _ _ => rfl) ?_
      refine C_seq ?_
      refine C_region ?_
      refine V_y (Y_move rfl) rfl rfl rfl ?_
      refine V_y (Y_move rfl) rfl rfl rfl ?_
      refine V_y (Y_neq rfl rfl) rfl rfl rfl ?_
      refine V_to (fun _ _ => rfl) ?_
      refine C_cond rfl (fun hc25 => ?_) (fun hc25 => ?_)
      · rw [if_pos hc25] at h13
        refine C_seq ?_
        refine C_region ?_
        refine V_y (Y_move rfl) rfl rfl rfl ?_
        refine V_y (Y_assign rfl) rfl rfl rfl ?_
        refine V_to (fun _ _ => rfl) ?_
        obtain rfl := Option.some.inj h13
        obtain rfl := (h14 : Lp.rt _ = _)
        rw [Lp.andThen_rt] at hm
        obtain rfl := Option.some.inj hm
        refine C_ret ?_
        try simp only [↓inBlock_ret, ↓then_ret]
        exact retQ rfl (Res.one Try.results48 rfl) ⟨rfl, rfl⟩
      · rw [if_neg (nt hc25)] at h13
        refine C_skip_to (fun _ _ => rfl) ?_
        refine C_region ?_
        refine V_y (Y_addI rfl rfl) rfl rfl rfl ?_
        refine V_y (Y_move rfl) rfl rfl rfl ?_
        obtain rfl := Option.some.inj h13
        refine V_end (fun a ha26 => ?_)
        exact ⟨(), hlt16, h14, ⟨(), ha26.sub ⟨rfl, rfl, rfl, (congrArg (fun z => some (Value.int .i64 z)) (w64_succ hlt16 hn19)), trivial⟩, rfl⟩⟩
    · refine C_exit (fun a ha27 => ?_)
      exact ⟨(), ha27.sub ⟨rfl, trivial⟩, ⟨(h17 (eq_of_dec hle15 hc20)).symm, rfl⟩⟩
  rintro s4 _ ⟨rfl, rfl⟩ a ha9
  rw [Lp.andThen_fin] at hm
  refine C_at (n := ⟨18, [], none⟩) (fun _ _ => rfl) ?_ ha9
  refine C_seq ?_
  refine C_region ?_
  refine V_y (Y_move rfl) rfl rfl rfl ?_
  refine V_y (Y_assign rfl) rfl rfl rfl ?_
  refine V_to (fun _ _ => rfl) ?_
  obtain rfl := Option.some.inj hm
  refine C_ret ?_
  try simp only [↓inBlock_ret, ↓then_ret]
  exact retQ rfl (Res.one Try.results48 rfl) ⟨rfl, rfl⟩

set_option maxRecDepth 4000 in
set_option maxHeartbeats 4000000 in
theorem staff_CheckForms_c (w : World) {A : Nat → Prop} (hA : ∀ b, w.heap.size ≤ b → A b) (l : (List staff_Form)) (v_l : Value) (h_l : Sl A w v_l l) {r : Int} (hm : staff_CheckForms l = some r) : Ret Try.prog 19 #[v_l] w fun v w' => v = .int .i64 r ∧ Kp w w' := by
  unfold staff_CheckForms at hm
  refine enter Try.func19 rfl Try.ntmps19 rfl ?_
  have hA0 := hA
  have hB := Nat.le_refl w.heap.size
  have hK : Tr w.heap.size A w A w := Tr.refl hA
  have hH : Hp w.heap.size A w [] := Hp.nil
  refine C_seq ?_
  refine C_region ?_
  refine V_y (Y_assign rfl) rfl rfl rfl ?_
  refine V_to (fun _ _ => rfl) ?_
  refine C_seq ?_
  refine C_seq ?_
  refine C_region ?_
  refine V_y (Y_move rfl) rfl rfl rfl ?_
  refine V_y (Y_lenSl h_l rfl Try.underlying27 rfl) rfl rfl rfl ?_
  refine V_y (Y_gtr rfl rfl) rfl rfl rfl ?_
  refine V_to (fun _ _ => rfl) ?_
  refine C_cond rfl (fun hc3 => ?_) (fun hc3 => ?_)
  · rw [if_pos hc3] at hm
    refine C_seq ?_
    refine C_region ?_
    refine V_y (Y_assign rfl) rfl rfl rfl ?_
    refine V_to (fun _ _ => rfl) ?_
    obtain rfl := Option.some.inj hm
    refine C_ret ?_
    try simp only [↓inBlock_ret, ↓then_ret]
    exact retQ rfl (Res.one Try.results19 rfl) ⟨rfl, hK.kp⟩
  · rw [if_neg (nt hc3)] at hm
    refine C_skip_to (fun _ _ => rfl) ?_
    refine C_seq ?_
    refine C_seq ?_
    refine C_region ?_
    refine V_y (Y_move rfl) rfl rfl rfl ?_
    refine V_y (Y_lenSl h_l rfl Try.underlying27 rfl) rfl rfl rfl ?_
    refine V_y (Y_move rfl) rfl rfl rfl ?_
    refine V_to (fun _ _ => rfl) ?_
    have hn25 := Sl.le h_l
    obtain ⟨o4, ho4, hm⟩ := Option.bind_eq_some_iff.1 hm
    refine C_cutG (ι := (Unit × (Nat → Prop))) (fun ⟨s5, A12⟩ => []) (fun ⟨s5, A12⟩ => fun w' => o4 = .fin s5 ∧ Hp w.heap.size A12 w' ([]) ∧ Tr w.heap.size A w A12 w') ?_ ?_
    · refine C_block ?_
      refine C_range ho4 (fun k7 _ a w' => ∃ i : (Nat → Prop), Has ⟨54, [], none⟩ a ([(0, v_l), (8, v_l), (9, .int .i64 (l.length : Int)), (10, .int .i64 (k7 : Int))]) ∧ Hp w.heap.size i w' ([]) ∧ Tr w.heap.size A w i w') (fun a ha => ⟨A, ha.sub ⟨rfl, rfl, rfl, rfl, trivial⟩, ⟨hH, Tr.refl hA⟩⟩) ?_
      rintro K k7 _ a w15 ⟨A16, ha83, hH17, hr6⟩ hle21 K24 h23
      refine C_of ?_ ha83
      replace h_l := Sl.tr h_l hr6
      replace hK := Tr.trans hK hr6
      replace hB := Nat.le_trans hB hr6.ex.size
      replace hA := hr6.new
      replace hH : Hp w.heap.size A16 w15 ([]) := hH17
      refine C_seq (C_region (V_y (Y_lss rfl rfl) rfl rfl rfl (V_to (fun _ _ => rfl) ?_)))
      refine C_seq ?_
      refine C_cond rfl (fun hc26 => ?_) (fun hc26 => ?_)
      · have hlt22 := lt_of_dec hc26
        obtain ⟨x18, h19, h20⟩ := K24 hlt22
        refine C_skip_to (fun _ _ => rfl) ?_
        refine C_seq ?_
        refine C_block ?_
        refine C_seq ?_
        refine C_region ?_
        refine V_y (Y_move rfl) rfl rfl rfl ?_
        obtain ⟨x27, hx27, h19⟩ := Option.bind_eq_some_iff.1 h19
        refine V_indexAddr h_l hx27 Try.underlying27 Try.sizeOf65 rfl rfl rfl ?_
        intro b28 o29 h30
        obtain ⟨h31, _⟩ := El_staff_Form h30
        refine V_y (Y_loadA h31 Try.isAgg65 Try.sizeOf65 rfl) rfl rfl rfl ?_
        refine V_alloc Try.zeroValue65 rfl ?_
        intro b32 w33 h34
        refine V_y (Y_assign rfl) rfl rfl rfl ?_
        refine V_storeNew h34 Try.sizeOf65 rfl rfl rfl rfl (by exact (List.forall_mem_cons.2 ⟨rfl, (List.forall_mem_cons.2 ⟨rfl, (fun _ h => nomatch h)⟩)⟩)) ?_
        intro w35 h36
        have hk38 := h36.kp
        have h37 : El (α := staff_Form) A16 w35 b32 0 x27 := h36.el hA ⟨[.int .i64 x27.from_], _, rfl, rfl, rfl⟩
        have ht39 := Kp.tr hk38 hA hB
        replace hH := Hp.kp hH hk38
        replace h_l := Sl.tr h_l ht39
        replace h30 := El.tr h30 ht39
        replace hK := Tr.trans hK ht39
        replace hr6 := Tr.trans hr6 ht39
        replace hB := Nat.le_trans hB ht39.ex.size
        replace hA := ht39.new
        refine V_to (fun _ _ => rfl) ?_
        refine C_seq ?_
        refine C_seq ?_
        refine C_region ?_
        have h40 := El_staff_Form_0 h37
        refine V_y (Y_fieldAddr Try.underlying65 rfl Try.sizeOf3 (by decide) rfl) rfl rfl rfl ?_
        refine V_y (Y_load (El.int h40) Try.isAgg3 rfl) rfl rfl rfl ?_
        refine V_call Try.call33 rfl rfl rfl rfl (staff_within_c w35 x27.from_ 0 399) ?_
        rintro _ _ ⟨rfl, rfl⟩
        refine V_y (Y_not rfl) rfl rfl rfl ?_
        refine V_y (Y_move rfl) rfl rfl rfl ?_
        refine V_cut 8 (fun _ : Unit => [(0, v_l), (3, .int .i64 (k7 : Int)), (4, .pointer (some ⟨b32, 0, none⟩)), (8, v_l), (9, .int .i64 (l.length : Int)), (10, .int .i64 (k7 : Int)), (27, .bool ((!(staff_within x27.from_ 0 399)) || (!(staff_within x27.slots 1 (w64 (400 - x27.from_))))))]) (fun _ w' => w35 = w') ?_ ?_
        · simp only [List.take, List.drop]
          rcases Bool.eq_false_or_eq_true (!(staff_within x27.from_ 0 399)) with hc41 | hc41
          · refine V_gn rfl rfl rfl hc41 rfl rfl rfl ?_
            refine V_gn rfl rfl rfl hc41 rfl rfl rfl ?_
            refine V_gn rfl rfl rfl hc41 rfl rfl rfl ?_
            refine V_gn rfl rfl rfl hc41 rfl rfl rfl ?_
            refine V_gn rfl rfl rfl hc41 rfl rfl rfl ?_
            refine V_gn rfl rfl rfl hc41 rfl rfl rfl ?_
            refine V_gn rfl rfl rfl hc41 rfl rfl rfl ?_
            refine V_y (Y_pick_te rfl hc41 rfl) rfl rfl rfl ?_
            exact V_end fun a ha => ⟨(), ha.sub ⟨rfl, rfl, rfl, rfl, rfl, rfl, (by rw [hc41]; rfl), trivial⟩, rfl⟩
          · refine V_ge rfl rfl rfl hc41 ?_
            have h43 := El_staff_Form_1 h37
            refine V_y (Y_fieldAddr Try.underlying65 rfl Try.sizeOf3 (by decide) rfl) rfl rfl rfl ?_
            refine V_ge rfl rfl rfl hc41 ?_
            refine V_y (Y_load (El.int h43) Try.isAgg3 rfl) rfl rfl rfl ?_
            refine V_ge rfl rfl rfl hc41 ?_
            have h44 := El_staff_Form_0 h37
            refine V_y (Y_fieldAddr Try.underlying65 rfl Try.sizeOf3 (by decide) rfl) rfl rfl rfl ?_
            refine V_ge rfl rfl rfl hc41 ?_
            refine V_y (Y_load (El.int h44) Try.isAgg3 rfl) rfl rfl rfl ?_
            refine V_ge rfl rfl rfl hc41 ?_
            refine V_y (Y_subI rfl rfl) rfl rfl rfl ?_
            refine V_ge rfl rfl rfl hc41 ?_
            refine V_call Try.call33 rfl rfl rfl rfl (staff_within_c w35 x27.slots 1 (w64 (400 - x27.from_))) ?_
            rintro _ _ ⟨rfl, rfl⟩
            refine V_ge rfl rfl rfl hc41 ?_
            refine V_y (Y_not rfl) rfl rfl rfl ?_
            refine V_y (Y_pick_fe rfl hc41 rfl) rfl rfl rfl ?_
            exact V_end fun a ha => ⟨(), ha.sub ⟨rfl, rfl, rfl, rfl, rfl, rfl, (by rw [hc41]; rfl), trivial⟩, rfl⟩
        simp only [List.take, List.drop]
        rintro _ _ rfl
        refine V_to (fun _ _ => rfl) ?_
        refine C_cond rfl (fun hc45 => ?_) (fun hc45 => ?_)
        · rw [if_pos hc45] at h19
          refine C_seq ?_
          refine C_region ?_
          refine V_y (Y_assign rfl) rfl rfl rfl ?_
          refine V_to (fun _ _ => rfl) ?_
          obtain rfl := Option.some.inj h19
          obtain rfl := (h20 : Lp.rt _ = _)
          rw [Lp.andThen_rt] at hm
          obtain rfl := Option.some.inj hm
          refine C_ret ?_
          try simp only [↓inBlock_ret, ↓then_ret]
          exact retQ rfl (Res.one Try.results19 rfl) ⟨rfl, hK.kp⟩
        · rw [if_neg (nt hc45)] at h19
          refine C_skip_to (fun _ _ => rfl) ?_
          refine C_seq ?_
          obtain ⟨s47, ho46, h19⟩ := Option.bind_eq_some_iff.1 h19
          refine C_cutG (ι := (Nat → Prop)) (fun (A52 : (Nat → Prop)) => [(0, v_l), (8, v_l), (9, .int .i64 (l.length : Int)), (10, .int .i64 (k7 : Int)), (52, .bool s47)]) (fun (A52 : (Nat → Prop)) => fun w' => Hp w.heap.size A52 w' ([]) ∧ Tr w.heap.size A16 w35 A52 w') ?_ ?_
          · have hr48 : Tr w.heap.size A16 w35 A16 w35 := Tr.refl hA
            refine C_region_qt 21 Try_mixed (by kernel_rfl) ?_
            simp only [List.take, List.drop]
            refine VQ_y (fun w' hw' => Y_move rfl) rfl rfl rfl ?_
            refine VQ_y (fun w' hw' => Y_gtr rfl rfl) rfl rfl rfl ?_
            refine VQ_y (fun w' hw' => Y_move rfl) rfl rfl rfl ?_
            rcases Bool.eq_false_or_eq_true (decide ((0 : Int) < (k7 : Int))) with hc54 | hc54
            · rw [if_pos hc54] at ho46
              refine VQ_ge rfl rfl rfl hc54 ?_
              have h55 := El_staff_Form_0 h37
              refine VQ_y (fun w' hw' => Y_fieldAddr Try.underlying65 rfl Try.sizeOf3 (by decide) rfl) rfl rfl rfl ?_
              refine VQ_ge rfl rfl rfl hc54 ?_
              refine VQ_y (fun w' hw' => Y_load (El.int (El.kp h55 hw')) Try.isAgg3 rfl) rfl rfl rfl ?_
              refine VQ_ge rfl rfl rfl hc54 ?_
              refine VQ_y (fun w' hw' => Y_move rfl) rfl rfl rfl ?_
              refine VQ_ge rfl rfl rfl hc54 ?_
              refine VQ_y (fun w' hw' => Y_move rfl) rfl rfl rfl ?_
              refine VQ_ge rfl rfl rfl hc54 ?_
              refine VQ_y (fun w' hw' => Y_subI rfl rfl) rfl rfl rfl ?_
              refine VQ_ge rfl rfl rfl hc54 ?_
              obtain ⟨x56, hx56, ho46⟩ := Option.bind_eq_some_iff.1 ho46
              refine VQ_indexAddr h_l hx56 Try.underlying27 Try.sizeOf65 rfl rfl rfl ?_
              intro b57 o58 h59
              refine VQ_ge rfl rfl rfl hc54 ?_
              have h60 := El_staff_Form_0 h59
              refine VQ_y (fun w' hw' => Y_fieldAddr Try.underlying65 rfl Try.sizeOf3 (by decide) rfl) rfl rfl rfl ?_
              refine VQ_ge rfl rfl rfl hc54 ?_
              refine VQ_y (fun w' hw' => Y_load (El.int (El.kp h60 hw')) Try.isAgg3 rfl) rfl rfl rfl ?_
              refine VQ_ge rfl rfl rfl hc54 ?_
              refine VQ_call (.int .i64 (cmp_Compare_int x27.from_ x56.from_)) Try.call49 rfl rfl rfl rfl (fun w' hw' => (cmp_Compare_int_c w' x27.from_ x56.from_).mono (fun _ _ h => ⟨h.1, h.2 ▸ hw'⟩)) ?_
              refine VQ_ge rfl rfl rfl hc54 ?_
              have h61 := El_staff_Form_1 h37
              refine VQ_y (fun w' hw' => Y_fieldAddr Try.underlying65 rfl Try.sizeOf3 (by decide) rfl) rfl rfl rfl ?_
              refine VQ_ge rfl rfl rfl hc54 ?_
              refine VQ_y (fun w' hw' => Y_load (El.int (El.kp h61 hw')) Try.isAgg3 rfl) rfl rfl rfl ?_
              refine VQ_ge rfl rfl rfl hc54 ?_
              refine VQ_y (fun w' hw' => Y_move rfl) rfl rfl rfl ?_
              refine VQ_ge rfl rfl rfl hc54 ?_
              refine VQ_y (fun w' hw' => Y_move rfl) rfl rfl rfl ?_
              refine VQ_ge rfl rfl rfl hc54 ?_
              refine VQ_y (fun w' hw' => Y_subI rfl rfl) rfl rfl rfl ?_
              refine VQ_ge rfl rfl rfl hc54 ?_
              refine VQ_indexAddr h_l hx56 Try.underlying27 Try.sizeOf65 rfl rfl rfl ?_
              intro b62 o63 h64
              refine VQ_ge rfl rfl rfl hc54 ?_
              have h65 := El_staff_Form_1 h64
              refine VQ_y (fun w' hw' => Y_fieldAddr Try.underlying65 rfl Try.sizeOf3 (by decide) rfl) rfl rfl rfl ?_
              refine VQ_ge rfl rfl rfl hc54 ?_
              refine VQ_y (fun w' hw' => Y_load (El.int (El.kp h65 hw')) Try.isAgg3 rfl) rfl rfl rfl ?_
              refine VQ_ge rfl rfl rfl hc54 ?_
              refine VQ_call (.int .i64 (cmp_Compare_int x27.slots x56.slots)) Try.call49 rfl rfl rfl rfl (fun w' hw' => (cmp_Compare_int_c w' x27.slots x56.slots).mono (fun _ _ h => ⟨h.1, h.2 ▸ hw'⟩)) ?_
              refine VQ_tail (fun w66 hk67 => ?_)
              try simp only [List.take, List.drop]
              have ht68 := Kp.tr hk67 hA hB
              replace hH := Hp.kp hH hk67
              replace h_l := Sl.tr h_l ht68
              replace h37 := El.tr h37 ht68
              replace h55 := El.tr h55 ht68
              replace h59 := El.tr h59 ht68
              replace h60 := El.tr h60 ht68
              replace h61 := El.tr h61 ht68
              replace h64 := El.tr h64 ht68
              replace h65 := El.tr h65 ht68
              replace hK := Tr.trans hK ht68
              replace hr6 := Tr.trans hr6 ht68
              replace hr48 := Tr.trans hr48 ht68
              replace hB := Nat.le_trans hB ht68.ex.size
              replace hA := ht68.new
              refine V_ge rfl rfl rfl hc54 ?_
              refine V_buildSlice (l := ([(cmp_Compare_int x27.from_ x56.from_), (cmp_Compare_int x27.slots x56.slots)] : List Int)) (len := 2) Try.underlying22 Try.sizeOf3 Try.zeroValue3 rfl (by with_unfolding_all rfl) (by decide) (by decide) hA ⟨[.int .i64 (cmp_Compare_int x27.from_ x56.from_)], _, rfl, rfl, ⟨[.int .i64 (cmp_Compare_int x27.slots x56.slots)], _, rfl, rfl, rfl⟩⟩ rfl rfl ?_
              intro v69 w70 hk72 h71
              have ht73 := Kp.tr hk72 hA hB
              replace hH := Hp.kp hH hk72
              replace h_l := Sl.tr h_l ht73
              replace h37 := El.tr h37 ht73
              replace h55 := El.tr h55 ht73
              replace h59 := El.tr h59 ht73
              replace h60 := El.tr h60 ht73
              replace h61 := El.tr h61 ht73
              replace h64 := El.tr h64 ht73
              replace h65 := El.tr h65 ht73
              replace hK := Tr.trans hK ht73
              replace hr6 := Tr.trans hr6 ht73
              replace hr48 := Tr.trans hr48 ht73
              replace hB := Nat.le_trans hB ht73.ex.size
              replace hA := ht73.new
              refine V_ge rfl rfl rfl hc54 ?_
              obtain ⟨x74, hx74, ho46⟩ := Option.bind_eq_some_iff.1 ho46
              refine V_call Try.call48 rfl rfl rfl rfl (cmp_Or_int_c w70 ([(cmp_Compare_int x27.from_ x56.from_), (cmp_Compare_int x27.slots x56.slots)] : List Int) v69 h71 hx74) ?_
              rintro _ _ ⟨rfl, rfl⟩
              refine V_ge rfl rfl rfl hc54 ?_
              refine V_y (Y_leq rfl rfl) rfl rfl rfl ?_
              refine V_y (Y_pick_te rfl hc54 rfl) rfl rfl rfl ?_
              obtain rfl := Option.some.inj ho46
              refine V_end (fun a ha75 => ?_)
              exact ⟨A16, ha75.sub ⟨rfl, rfl, rfl, rfl, rfl, trivial⟩, ⟨hH, hr48⟩⟩
            · rw [if_neg (nt hc54)] at ho46
              refine VQ_gn rfl rfl rfl hc54 rfl rfl rfl ?_
              refine VQ_gn rfl rfl rfl hc54 rfl rfl rfl ?_
              refine VQ_gn rfl rfl rfl hc54 rfl rfl rfl ?_
              refine VQ_gn rfl rfl rfl hc54 rfl rfl rfl ?_
              refine VQ_gn rfl rfl rfl hc54 rfl rfl rfl ?_
              refine VQ_gn rfl rfl rfl hc54 rfl rfl rfl ?_
              refine VQ_gn rfl rfl rfl hc54 rfl rfl rfl ?_
              refine VQ_gn rfl rfl rfl hc54 rfl rfl rfl ?_
              refine VQ_gn rfl rfl rfl hc54 rfl rfl rfl ?_
              refine VQ_gn rfl rfl rfl hc54 rfl rfl rfl ?_
              refine VQ_gn rfl rfl rfl hc54 rfl rfl rfl ?_
              refine VQ_gn rfl rfl rfl hc54 rfl rfl rfl ?_
              refine VQ_gn rfl rfl rfl hc54 rfl rfl rfl ?_
              refine VQ_gn rfl rfl rfl hc54 rfl rfl rfl ?_
              refine VQ_gn rfl rfl rfl hc54 rfl rfl rfl ?_
              refine VQ_gn rfl rfl rfl hc54 rfl rfl rfl ?_
              refine VQ_gn rfl rfl rfl hc54 rfl rfl rfl ?_
              refine VQ_gn rfl rfl rfl hc54 rfl rfl rfl ?_
              refine VQ_tail (fun w76 hk77 => ?_)
              try simp only [List.take, List.drop]
              have ht78 := Kp.tr hk77 hA hB
              replace hH := Hp.kp hH hk77
              replace h_l := Sl.tr h_l ht78
              replace h37 := El.tr h37 ht78
              replace hK := Tr.trans hK ht78
              replace hr6 := Tr.trans hr6 ht78
              replace hr48 := Tr.trans hr48 ht78
              replace hB := Nat.le_trans hB ht78.ex.size
              replace hA := ht78.new
              refine V_gn rfl rfl rfl hc54 rfl rfl rfl ?_
              refine V_gn rfl rfl rfl hc54 rfl rfl rfl ?_
              refine V_gn rfl rfl rfl hc54 rfl rfl rfl ?_
              refine V_y (Y_pick_fe rfl hc54 rfl) rfl rfl rfl ?_
              obtain rfl := Option.some.inj ho46
              refine V_end (fun a ha79 => ?_)
              exact ⟨A16, ha79.sub ⟨rfl, rfl, rfl, rfl, rfl, trivial⟩, ⟨hH, hr48⟩⟩
          rintro A52 w49 ⟨hH53, hk50⟩ a ha51
          replace h_l := Sl.tr h_l hk50
          replace hK := Tr.trans hK hk50
          replace hr6 := Tr.trans hr6 hk50
          replace hB := Nat.le_trans hB hk50.ex.size
          replace hA := hk50.new
          replace hH : Hp w.heap.size A52 w49 ([]) := hH53
          refine C_at (n := ⟨54, [], none⟩) (fun _ _ => rfl) ?_ ha51
          refine C_cond rfl (fun hc80 => ?_) (fun hc80 => ?_)
          · rw [if_pos hc80] at h19
            refine C_seq ?_
            refine C_region ?_
            refine V_y (Y_assign rfl) rfl rfl rfl ?_
            refine V_to (fun _ _ => rfl) ?_
            obtain rfl := Option.some.inj h19
            obtain rfl := (h20 : Lp.rt _ = _)
            rw [Lp.andThen_rt] at hm
            obtain rfl := Option.some.inj hm
            refine C_ret ?_
            try simp only [↓inBlock_ret, ↓then_ret]
            exact retQ rfl (Res.one Try.results19 rfl) ⟨rfl, hK.kp⟩
          · rw [if_neg (nt hc80)] at h19
            refine C_skip_to (fun _ _ => rfl) ?_
            refine C_region ?_
            refine V_y (Y_addI rfl rfl) rfl rfl rfl ?_
            refine V_y (Y_move rfl) rfl rfl rfl ?_
            obtain rfl := Option.some.inj h19
            refine V_end (fun a ha81 => ?_)
            exact ⟨(), hlt22, h20, ⟨A52, ha81.sub ⟨rfl, rfl, rfl, (congrArg (fun z => some (Value.int .i64 z)) (w64_succ hlt22 hn25)), trivial⟩, ⟨hH, hr6⟩⟩⟩
      · refine C_exit (fun a ha82 => ?_)
        exact ⟨((), A16), ha82.sub trivial, ⟨(h23 (eq_of_dec hle21 hc26)).symm, hH, hr6⟩⟩
    rintro ⟨s5, A12⟩ w9 ⟨rfl, hH13, hk10⟩ a ha11
    rw [Lp.andThen_fin] at hm
    replace hK := Tr.trans hK hk10
    replace hB := Nat.le_trans hB hk10.ex.size
    replace hA := hk10.new
    replace hH : Hp w.heap.size A12 w9 ([]) := hH13
    refine C_at (n := ⟨54, [], none⟩) (fun _ _ => rfl) ?_ ha11
    refine C_seq ?_
    refine C_region ?_
    refine V_y (Y_assign rfl) rfl rfl rfl ?_
    refine V_to (fun _ _ => rfl) ?_
    obtain rfl := Option.some.inj hm
    refine C_ret ?_
    try simp only [↓inBlock_ret, ↓then_ret]
    exact retQ rfl (Res.one Try.results19 rfl) ⟨rfl, hK.kp⟩

set_option maxRecDepth 4000 in
set_option maxHeartbeats 4000000 in
theorem staff_checkNumbers_c (w : World) {A : Nat → Prop} (l : (List Int)) (v_l : Value) (h_l : Sl A w v_l l) (most : Int) {r : Int} (hm : staff_checkNumbers l most = some r) : Ret Try.prog 69 #[v_l, .int .i64 most] w fun v w' => v = .int .i64 r ∧ w = w' := by
  unfold staff_checkNumbers at hm
  refine enter Try.func69 rfl Try.ntmps69 rfl ?_
  refine C_seq ?_
  refine C_region ?_
  refine V_y (Y_assign rfl) rfl rfl rfl ?_
  refine V_to (fun _ _ => rfl) ?_
  refine C_seq ?_
  refine C_seq ?_
  refine C_region ?_
  refine V_y (Y_move rfl) rfl rfl rfl ?_
  refine V_y (Y_lenSl h_l rfl Try.underlying22 rfl) rfl rfl rfl ?_
  refine V_y (Y_move rfl) rfl rfl rfl ?_
  refine V_to (fun _ _ => rfl) ?_
  have hn19 := Sl.le h_l
  obtain ⟨o3, ho3, hm⟩ := Option.bind_eq_some_iff.1 hm
  refine C_cutG (ι := Unit) (fun (s4 : Unit) => []) (fun (s4 : Unit) => fun w' => o3 = .fin s4 ∧ w = w') ?_ ?_
  · refine C_block ?_
    refine C_range ho3 (fun k6 _ a w' => ∃ i : Unit, Has ⟨18, [], none⟩ a ([(1, .int .i64 most), (7, v_l), (8, .int .i64 (l.length : Int)), (9, .int .i64 (k6 : Int))]) ∧ w = w') (fun a ha => ⟨(), ha.sub ⟨rfl, rfl, rfl, rfl, trivial⟩, rfl⟩) ?_
    rintro K k6 _ a _ ⟨_, ha28, rfl⟩ hle15 K18 h17
    refine C_of ?_ ha28
    refine C_seq (C_region (V_y (Y_lss rfl rfl) rfl rfl rfl (V_to (fun _ _ => rfl) ?_)))
    refine C_seq ?_
    refine C_cond rfl (fun hc20 => ?_) (fun hc20 => ?_)
    · have hlt16 := lt_of_dec hc20
      obtain ⟨x12, h13, h14⟩ := K18 hlt16
      refine C_skip_to (fun _ _ => rfl) ?_
      refine C_seq ?_
      refine C_block ?_
      refine C_seq ?_
      refine C_region ?_
      obtain ⟨x21, hx21, h13⟩ := Option.bind_eq_some_iff.1 h13
      refine V_indexAddr h_l hx21 Try.underlying22 Try.sizeOf3 rfl rfl rfl ?_
      intro b22 o23 h24
      refine V_y (Y_load (El.int h24) Try.isAgg3 rfl) rfl rfl rfl ?_
      refine V_y (Y_assign rfl) rfl rfl rfl ?_
      refine V_to (fun _ _ => rfl) ?_
      refine C_seq ?_
      refine C_region ?_
      refine V_y (Y_move rfl) rfl rfl rfl ?_
      refine V_y (Y_move rfl) rfl rfl rfl ?_
      refine V_call Try.call33 rfl rfl rfl rfl (staff_within_c w x21 0 most) ?_
      rintro _ _ ⟨rfl, rfl⟩
      refine V_y (Y_not rfl) rfl rfl rfl ?_
      refine V_to (fun _ _ => rfl) ?_
      refine C_cond rfl (fun hc25 => ?_) (fun hc25 => ?_)
      · rw [if_pos hc25] at h13
        refine C_seq ?_
        refine C_region ?_
        refine V_y (Y_assign rfl) rfl rfl rfl ?_
        refine V_to (fun _ _ => rfl) ?_
        obtain rfl := Option.some.inj h13
        obtain rfl := (h14 : Lp.rt _ = _)
        rw [Lp.andThen_rt] at hm
        obtain rfl := Option.some.inj hm
        refine C_ret ?_
        try simp only [↓inBlock_ret, ↓then_ret]
        exact retQ rfl (Res.one Try.results69 rfl) ⟨rfl, rfl⟩
      · rw [if_neg (nt hc25)] at h13
        refine C_skip_to (fun _ _ => rfl) ?_
        refine C_region ?_
        refine V_y (Y_addI rfl rfl) rfl rfl rfl ?_
        refine V_y (Y_move rfl) rfl rfl rfl ?_
        obtain rfl := Option.some.inj h13
        refine V_end (fun a ha26 => ?_)
        exact ⟨(), hlt16, h14, ⟨(), ha26.sub ⟨rfl, rfl, rfl, (congrArg (fun z => some (Value.int .i64 z)) (w64_succ hlt16 hn19)), trivial⟩, rfl⟩⟩
    · refine C_exit (fun a ha27 => ?_)
      exact ⟨(), ha27.sub trivial, ⟨(h17 (eq_of_dec hle15 hc20)).symm, rfl⟩⟩
  rintro s4 _ ⟨rfl, rfl⟩ a ha9
  rw [Lp.andThen_fin] at hm
  refine C_at (n := ⟨18, [], none⟩) (fun _ _ => rfl) ?_ ha9
  refine C_seq ?_
  refine C_region ?_
  refine V_y (Y_assign rfl) rfl rfl rfl ?_
  refine V_to (fun _ _ => rfl) ?_
  obtain rfl := Option.some.inj hm
  refine C_ret ?_
  try simp only [↓inBlock_ret, ↓then_ret]
  exact retQ rfl (Res.one Try.results69 rfl) ⟨rfl, rfl⟩

set_option maxRecDepth 4000 in
set_option maxHeartbeats 4000000 in
theorem staff_checkDemand_c (w : World) {A : Nat → Prop} (l : (List Int)) (v_l : Value) (h_l : Sl A w v_l l) (most : Int) {r : Int} (hm : staff_checkDemand l most = some r) : Ret Try.prog 37 #[v_l, .int .i64 most] w fun v w' => v = .int .i64 r ∧ w = w' := by
  unfold staff_checkDemand at hm
  refine enter Try.func37 rfl Try.ntmps37 rfl ?_
  refine C_seq ?_
  refine C_region ?_
  refine V_y (Y_assign rfl) rfl rfl rfl ?_
  refine V_to (fun _ _ => rfl) ?_
  refine C_seq ?_
  refine C_seq ?_
  refine C_region ?_
  refine V_y (Y_move rfl) rfl rfl rfl ?_
  refine V_y (Y_lenSl h_l rfl Try.underlying22 rfl) rfl rfl rfl ?_
  refine V_y (Y_gtr rfl rfl) rfl rfl rfl ?_
  refine V_to (fun _ _ => rfl) ?_
  refine C_cond rfl (fun hc3 => ?_) (fun hc3 => ?_)
  · rw [if_pos hc3] at hm
    refine C_seq ?_
    refine C_region ?_
    refine V_y (Y_assign rfl) rfl rfl rfl ?_
    refine V_to (fun _ _ => rfl) ?_
    obtain rfl := Option.some.inj hm
    refine C_ret ?_
    try simp only [↓inBlock_ret, ↓then_ret]
    exact retQ rfl (Res.one Try.results37 rfl) ⟨rfl, rfl⟩
  · rw [if_neg (nt hc3)] at hm
    refine C_skip_to (fun _ _ => rfl) ?_
    refine C_seq ?_
    refine C_region ?_
    refine V_y (Y_move rfl) rfl rfl rfl ?_
    refine V_y (Y_move rfl) rfl rfl rfl ?_
    obtain ⟨x4, hx4, hm⟩ := Option.bind_eq_some_iff.1 hm
    refine V_call Try.call69 rfl rfl rfl rfl (staff_checkNumbers_c w l v_l h_l most hx4) ?_
    rintro _ _ ⟨rfl, rfl⟩
    refine V_y (Y_assign rfl) rfl rfl rfl ?_
    refine V_to (fun _ _ => rfl) ?_
    obtain rfl := Option.some.inj hm
    refine C_ret ?_
    try simp only [↓inBlock_ret, ↓then_ret]
    exact retQ rfl (Res.one Try.results37 rfl) ⟨rfl, rfl⟩

set_option maxRecDepth 4000 in
set_option maxHeartbeats 4000000 in
theorem cmp_Or_api_Errno_c (w : World) {A : Nat → Prop} (vals : (List Int)) (v_vals : Value) (h_vals : Sl A w v_vals vals) {r : Int} (hm : cmp_Or_api_Errno vals = some r) : Ret Try.prog 36 #[v_vals] w fun v w' => v = .int .i64 r ∧ w = w' := by
  unfold cmp_Or_api_Errno at hm
  refine enter Try.func36 rfl Try.ntmps36 rfl ?_
  refine C_seq ?_
  refine C_region ?_
  refine V_y (Y_assign rfl) rfl rfl rfl ?_
  refine V_to (fun _ _ => rfl) ?_
  refine C_seq ?_
  refine C_region ?_
  refine V_y (Y_assign rfl) rfl rfl rfl ?_
  refine V_to (fun _ _ => rfl) ?_
  refine C_seq ?_
  refine C_seq ?_
  refine C_region ?_
  refine V_y (Y_move rfl) rfl rfl rfl ?_
  refine V_y (Y_lenSl h_vals rfl Try.underlying91 rfl) rfl rfl rfl ?_
  refine V_y (Y_move rfl) rfl rfl rfl ?_
  refine V_to (fun _ _ => rfl) ?_
  have hn19 := Sl.le h_vals
  obtain ⟨o3, ho3, hm⟩ := Option.bind_eq_some_iff.1 hm
  refine C_cutG (ι := Unit) (fun (s4 : Unit) => [(3, .int .i64 0)]) (fun (s4 : Unit) => fun w' => o3 = .fin s4 ∧ w = w') ?_ ?_
  · refine C_block ?_
    refine C_range ho3 (fun k6 _ a w' => ∃ i : Unit, Has ⟨18, [], none⟩ a ([(3, .int .i64 0), (6, v_vals), (7, .int .i64 (vals.length : Int)), (8, .int .i64 (k6 : Int))]) ∧ w = w') (fun a ha => ⟨(), ha.sub ⟨rfl, rfl, rfl, rfl, trivial⟩, rfl⟩) ?_
    rintro K k6 _ a _ ⟨_, ha28, rfl⟩ hle15 K18 h17
    refine C_of ?_ ha28
    refine C_seq (C_region (V_y (Y_lss rfl rfl) rfl rfl rfl (V_to (fun _ _ => rfl) ?_)))
    refine C_seq ?_
    refine C_cond rfl (fun hc20 => ?_) (fun hc20 => ?_)
    · have hlt16 := lt_of_dec hc20
      obtain ⟨x12, h13, h14⟩ := K18 hlt16
      refine C_skip_to (fun _ _ => rfl) ?_
      refine C_seq ?_
      refine C_block ?_
      refine C_seq ?_
      refine C_region ?_
      obtain ⟨x21, hx21, h13⟩ := Option.bind_eq_some_iff.1 h13
      refine V_indexAddr h_vals hx21 Try.underlying91 Try.sizeOf23 rfl rfl rfl ?_
      intro b22 o23 h24
      refine V_y (Y_load (El.int h24) Try.isAgg23 rfl) rfl rfl rfl ?_
      refine V_y (Y_assign rfl) rfl rfl rfl ?_
      refine V_to (fun _ _ => rfl) ?_
      refine C_seq ?_
      refine C_region ?_
      refine V_y (Y_move rfl) rfl rfl rfl ?_
      refine V_y (Y_move rfl) rfl rfl rfl ?_
      refine V_y (Y_neq rfl rfl) rfl rfl rfl ?_
      refine V_to (fun _ _ => rfl) ?_
      refine C_cond rfl (fun hc25 => ?_) (fun hc25 => ?_)
      · rw [if_pos hc25] at h13
        refine C_seq ?_
        refine C_region ?_
        refine V_y (Y_move rfl) rfl rfl rfl ?_
        refine V_y (Y_assign rfl) rfl rfl rfl ?_
        refine V_to (fun _ _ => rfl) ?_
        obtain rfl := Option.some.inj h13
        obtain rfl := (h14 : Lp.rt _ = _)
        rw [Lp.andThen_rt] at hm
        obtain rfl := Option.some.inj hm
        refine C_ret ?_
        try simp only [↓inBlock_ret, ↓then_ret]
        exact retQ rfl (Res.one Try.results36 rfl) ⟨rfl, rfl⟩
      · rw [if_neg (nt hc25)] at h13
        refine C_skip_to (fun _ _ => rfl) ?_
        refine C_region ?_
        refine V_y (Y_addI rfl rfl) rfl rfl rfl ?_
        refine V_y (Y_move rfl) rfl rfl rfl ?_
        obtain rfl := Option.some.inj h13
        refine V_end (fun a ha26 => ?_)
        exact ⟨(), hlt16, h14, ⟨(), ha26.sub ⟨rfl, rfl, rfl, (congrArg (fun z => some (Value.int .i64 z)) (w64_succ hlt16 hn19)), trivial⟩, rfl⟩⟩
    · refine C_exit (fun a ha27 => ?_)
      exact ⟨(), ha27.sub ⟨rfl, trivial⟩, ⟨(h17 (eq_of_dec hle15 hc20)).symm, rfl⟩⟩
  rintro s4 _ ⟨rfl, rfl⟩ a ha9
  rw [Lp.andThen_fin] at hm
  refine C_at (n := ⟨18, [], none⟩) (fun _ _ => rfl) ?_ ha9
  refine C_seq ?_
  refine C_region ?_
  refine V_y (Y_move rfl) rfl rfl rfl ?_
  refine V_y (Y_assign rfl) rfl rfl rfl ?_
  refine V_to (fun _ _ => rfl) ?_
  obtain rfl := Option.some.inj hm
  refine C_ret ?_
  try simp only [↓inBlock_ret, ↓then_ret]
  exact retQ rfl (Res.one Try.results36 rfl) ⟨rfl, rfl⟩

set_option maxRecDepth 4000 in
set_option maxHeartbeats 4000000 in
theorem staff_longest_c (w : World) {A : Nat → Prop} (hA : ∀ b, w.heap.size ≤ b → A b) (forms : (List staff_Form)) (v_forms : Value) (h_forms : Sl A w v_forms forms) (slot : Int) {r : Int} (hm : staff_longest forms slot = some r) : Ret Try.prog 38 #[v_forms, .int .i64 slot] w fun v w' => v = .int .i64 r ∧ Kp w w' := by
  unfold staff_longest at hm
  refine enter Try.func38 rfl Try.ntmps38 rfl ?_
  have hA0 := hA
  have hB := Nat.le_refl w.heap.size
  have hK : Tr w.heap.size A w A w := Tr.refl hA
  have hH : Hp w.heap.size A w [] := Hp.nil
  refine C_seq ?_
  refine C_region ?_
  refine V_y (Y_assign rfl) rfl rfl rfl ?_
  refine V_to (fun _ _ => rfl) ?_
  refine C_seq ?_
  refine C_region ?_
  refine V_y (Y_assign rfl) rfl rfl rfl ?_
  refine V_to (fun _ _ => rfl) ?_
  refine C_seq ?_
  refine C_seq ?_
  refine C_region ?_
  refine V_y (Y_move rfl) rfl rfl rfl ?_
  refine V_y (Y_lenSl h_forms rfl Try.underlying27 rfl) rfl rfl rfl ?_
  refine V_y (Y_move rfl) rfl rfl rfl ?_
  refine V_to (fun _ _ => rfl) ?_
  have hn23 := Sl.le h_forms
  obtain ⟨o3, ho3, hm⟩ := Option.bind_eq_some_iff.1 hm
  refine C_cutG (ι := (Int × (Nat → Prop))) (fun ⟨s4, A10⟩ => [(5, .int .i64 s4)]) (fun ⟨s4, A10⟩ => fun w' => o3 = .fin s4 ∧ Hp w.heap.size A10 w' ([]) ∧ Tr w.heap.size A w A10 w') ?_ ?_
  · refine C_block ?_
    refine C_range ho3 (fun k6 s12 a w' => ∃ i : (Nat → Prop), Has ⟨54, [], none⟩ a ([(0, v_forms), (1, .int .i64 slot), (5, .int .i64 s12), (8, v_forms), (9, .int .i64 (forms.length : Int)), (10, .int .i64 (k6 : Int))]) ∧ Hp w.heap.size i w' ([]) ∧ Tr w.heap.size A w i w') (fun a ha => ⟨A, ha.sub ⟨rfl, rfl, rfl, rfl, rfl, rfl, trivial⟩, ⟨hH, Tr.refl hA⟩⟩) ?_
    rintro K k6 s12 a w13 ⟨A14, ha81, hH15, hr5⟩ hle19 K22 h21
    refine C_of ?_ ha81
    replace h_forms := Sl.tr h_forms hr5
    replace hK := Tr.trans hK hr5
    replace hB := Nat.le_trans hB hr5.ex.size
    replace hA := hr5.new
    replace hH : Hp w.heap.size A14 w13 ([]) := hH15
    refine C_seq (C_region (V_y (Y_lss rfl rfl) rfl rfl rfl (V_to (fun _ _ => rfl) ?_)))
    refine C_seq ?_
    refine C_cond rfl (fun hc24 => ?_) (fun hc24 => ?_)
    · have hlt20 := lt_of_dec hc24
      obtain ⟨x16, h17, h18⟩ := K22 hlt20
      refine C_skip_to (fun _ _ => rfl) ?_
      refine C_seq ?_
      obtain ⟨s26, ho25, h17⟩ := Option.bind_eq_some_iff.1 h17
      refine C_cutG (ι := (Nat → Prop)) (fun (A31 : (Nat → Prop)) => [(0, v_forms), (1, .int .i64 slot), (5, .int .i64 s26), (8, v_forms), (9, .int .i64 (forms.length : Int)), (10, .int .i64 (k6 : Int))]) (fun (A31 : (Nat → Prop)) => fun w' => Hp w.heap.size A31 w' ([]) ∧ Tr w.heap.size A14 w13 A31 w') ?_ ?_
      · have hr27 : Tr w.heap.size A14 w13 A14 w13 := Tr.refl hA
        refine C_block ?_
        refine C_seq ?_
        refine C_region ?_
        refine V_y (Y_move rfl) rfl rfl rfl ?_
        obtain ⟨x33, hx33, ho25⟩ := Option.bind_eq_some_iff.1 ho25
        refine V_indexAddr h_forms hx33 Try.underlying27 Try.sizeOf65 rfl rfl rfl ?_
        intro b34 o35 h36
        obtain ⟨h37, _⟩ := El_staff_Form h36
        refine V_y (Y_loadA h37 Try.isAgg65 Try.sizeOf65 rfl) rfl rfl rfl ?_
        refine V_alloc Try.zeroValue65 rfl ?_
        intro b38 w39 h40
        refine V_y (Y_assign rfl) rfl rfl rfl ?_
        refine V_storeNew h40 Try.sizeOf65 rfl rfl rfl rfl (by exact (List.forall_mem_cons.2 ⟨rfl, (List.forall_mem_cons.2 ⟨rfl, (fun _ h => nomatch h)⟩)⟩)) ?_
        intro w41 h42
        have hk44 := h42.kp
        have h43 : El (α := staff_Form) A14 w41 b38 0 x33 := h42.el hA ⟨[.int .i64 x33.from_], _, rfl, rfl, rfl⟩
        have ht45 := Kp.tr hk44 hA hB
        replace hH := Hp.kp hH hk44
        replace h_forms := Sl.tr h_forms ht45
        replace h36 := El.tr h36 ht45
        replace hK := Tr.trans hK ht45
        replace hr5 := Tr.trans hr5 ht45
        replace hr27 := Tr.trans hr27 ht45
        replace hB := Nat.le_trans hB ht45.ex.size
        replace hA := ht45.new
        refine V_to (fun _ _ => rfl) ?_
        refine C_seq ?_
        refine C_region_q Try_mixed (by kernel_rfl) ?_
        have h46 := El_staff_Form_0 h43
        refine VQ_y (fun w' hw' => Y_fieldAddr Try.underlying65 rfl Try.sizeOf3 (by decide) rfl) rfl rfl rfl ?_
        refine VQ_y (fun w' hw' => Y_load (El.int (El.kp h46 hw')) Try.isAgg3 rfl) rfl rfl rfl ?_
        refine VQ_y (fun w' hw' => Y_move rfl) rfl rfl rfl ?_
        refine VQ_y (fun w' hw' => Y_leq rfl rfl) rfl rfl rfl ?_
        refine VQ_y (fun w' hw' => Y_move rfl) rfl rfl rfl ?_
        refine VQ_cut 8 (fun _ : Unit => [(0, v_forms), (1, .int .i64 slot), (5, .int .i64 s12), (6, .int .i64 (k6 : Int)), (7, .pointer (some ⟨b38, 0, none⟩)), (8, v_forms), (9, .int .i64 (forms.length : Int)), (10, .int .i64 (k6 : Int)), (27, .bool ((decide (x33.from_ ≤ slot)) && (decide (slot < (w64 (x33.from_ + x33.slots))))))]) (fun _ => True) ?_ ?_
        · simp only [List.take, List.drop]
          rcases Bool.eq_false_or_eq_true (decide (x33.from_ ≤ slot)) with hc47 | hc47
          · refine VQ_ge rfl rfl rfl hc47 ?_
            refine VQ_y (fun w' hw' => Y_move rfl) rfl rfl rfl ?_
            refine VQ_ge rfl rfl rfl hc47 ?_
            have h49 := El_staff_Form_0 h43
            refine VQ_y (fun w' hw' => Y_fieldAddr Try.underlying65 rfl Try.sizeOf3 (by decide) rfl) rfl rfl rfl ?_
            refine VQ_ge rfl rfl rfl hc47 ?_
            refine VQ_y (fun w' hw' => Y_load (El.int (El.kp h49 hw')) Try.isAgg3 rfl) rfl rfl rfl ?_
            refine VQ_ge rfl rfl rfl hc47 ?_
            have h50 := El_staff_Form_1 h43
            refine VQ_y (fun w' hw' => Y_fieldAddr Try.underlying65 rfl Try.sizeOf3 (by decide) rfl) rfl rfl rfl ?_
            refine VQ_ge rfl rfl rfl hc47 ?_
            refine VQ_y (fun w' hw' => Y_load (El.int (El.kp h50 hw')) Try.isAgg3 rfl) rfl rfl rfl ?_
            refine VQ_ge rfl rfl rfl hc47 ?_
            refine VQ_y (fun w' hw' => Y_addI rfl rfl) rfl rfl rfl ?_
            refine VQ_ge rfl rfl rfl hc47 ?_
            refine VQ_y (fun w' hw' => Y_lss rfl rfl) rfl rfl rfl ?_
            refine VQ_y (fun _ _ => Y_pick_te rfl hc47 rfl) rfl rfl rfl ?_
            exact VQ_end fun a ha => ⟨(), ha.sub ⟨rfl, rfl, rfl, rfl, rfl, rfl, rfl, rfl, (by rw [hc47]; rfl), trivial⟩, trivial⟩
          · refine VQ_gn rfl rfl rfl hc47 rfl rfl rfl ?_
            refine VQ_gn rfl rfl rfl hc47 rfl rfl rfl ?_
            refine VQ_gn rfl rfl rfl hc47 rfl rfl rfl ?_
            refine VQ_gn rfl rfl rfl hc47 rfl rfl rfl ?_
            refine VQ_gn rfl rfl rfl hc47 rfl rfl rfl ?_
            refine VQ_gn rfl rfl rfl hc47 rfl rfl rfl ?_
            refine VQ_gn rfl rfl rfl hc47 rfl rfl rfl ?_
            refine VQ_y (fun _ _ => Y_pick_fe rfl hc47 rfl) rfl rfl rfl ?_
            exact VQ_end fun a ha => ⟨(), ha.sub ⟨rfl, rfl, rfl, rfl, rfl, rfl, rfl, rfl, (by rw [hc47]; rfl), trivial⟩, trivial⟩
        simp only [List.take, List.drop]
        rintro _ _
        refine VQ_y (fun w' hw' => Y_move rfl) rfl rfl rfl ?_
        obtain ⟨s52, hs52, ho25⟩ := Option.bind_eq_some_iff.1 ho25
        refine VQ_cut 22 (fun _ : Unit => [(0, v_forms), (1, .int .i64 slot), (5, .int .i64 s12), (6, .int .i64 (k6 : Int)), (8, v_forms), (9, .int .i64 (forms.length : Int)), (10, .int .i64 (k6 : Int)), (50, .bool s52)]) (fun _ => True) ?_ ?_
        · simp only [List.take, List.drop]
          rcases Bool.eq_false_or_eq_true (((decide (x33.from_ ≤ slot)) && (decide (slot < (w64 (x33.from_ + x33.slots)))))) with hc51 | hc51
          · rw [if_pos hc51] at hs52
            refine VQ_ge rfl rfl rfl hc51 ?_
            refine VQ_y (fun w' hw' => Y_move rfl) rfl rfl rfl ?_
            refine VQ_ge rfl rfl rfl hc51 ?_
            refine VQ_y (fun w' hw' => Y_lss rfl rfl) rfl rfl rfl ?_
            refine VQ_ge rfl rfl rfl hc51 ?_
            refine VQ_y (fun w' hw' => Y_move rfl) rfl rfl rfl ?_
            obtain ⟨s54, hs54, hs52⟩ := Option.bind_eq_some_iff.1 hs52
            refine VQ_cut 18 (fun _ : Unit => [(0, v_forms), (1, .int .i64 slot), (5, .int .i64 s12), (6, .int .i64 (k6 : Int)), (8, v_forms), (9, .int .i64 (forms.length : Int)), (10, .int .i64 (k6 : Int)), (28, .bool ((decide (x33.from_ ≤ slot)) && (decide (slot < (w64 (x33.from_ + x33.slots)))))), (49, .bool s54)]) (fun _ => True) ?_ ?_
            · simp only [List.take, List.drop]
              rcases Bool.eq_false_or_eq_true (decide (s12 < 0)) with hc53 | hc53
              · rw [if_pos hc53] at hs54
                refine VQ_gn rfl rfl rfl hc53 rfl rfl rfl ?_
                refine VQ_gn rfl rfl rfl hc53 rfl rfl rfl ?_
                refine VQ_gn rfl rfl rfl hc53 rfl rfl rfl ?_
                refine VQ_gn rfl rfl rfl hc53 rfl rfl rfl ?_
                refine VQ_gn rfl rfl rfl hc53 rfl rfl rfl ?_
                refine VQ_gn rfl rfl rfl hc53 rfl rfl rfl ?_
                refine VQ_gn rfl rfl rfl hc53 rfl rfl rfl ?_
                refine VQ_gn rfl rfl rfl hc53 rfl rfl rfl ?_
                refine VQ_gn rfl rfl rfl hc53 rfl rfl rfl ?_
                refine VQ_gn rfl rfl rfl hc53 rfl rfl rfl ?_
                refine VQ_gn rfl rfl rfl hc53 rfl rfl rfl ?_
                refine VQ_gn rfl rfl rfl hc53 rfl rfl rfl ?_
                refine VQ_gn rfl rfl rfl hc53 rfl rfl rfl ?_
                refine VQ_gn rfl rfl rfl hc53 rfl rfl rfl ?_
                refine VQ_gn rfl rfl rfl hc53 rfl rfl rfl ?_
                refine VQ_gn rfl rfl rfl hc53 rfl rfl rfl ?_
                refine VQ_gn rfl rfl rfl hc53 rfl rfl rfl ?_
                refine VQ_ge rfl rfl rfl hc51 ?_
                refine VQ_y (fun _ _ => Y_pick_te rfl hc53 rfl) rfl rfl rfl ?_
                obtain rfl := Option.some.inj hs54
                exact VQ_end fun a ha => ⟨(), ha.sub ⟨rfl, rfl, rfl, rfl, rfl, rfl, rfl, rfl, rfl, trivial⟩, trivial⟩
              · rw [if_neg (nt hc53)] at hs54
                refine VQ_ge rfl rfl rfl hc53 ?_
                have h55 := El_staff_Form_0 h43
                refine VQ_y (fun w' hw' => Y_fieldAddr Try.underlying65 rfl Try.sizeOf3 (by decide) rfl) rfl rfl rfl ?_
                refine VQ_ge rfl rfl rfl hc53 ?_
                refine VQ_y (fun w' hw' => Y_load (El.int (El.kp h55 hw')) Try.isAgg3 rfl) rfl rfl rfl ?_
                refine VQ_ge rfl rfl rfl hc53 ?_
                have h56 := El_staff_Form_1 h43
                refine VQ_y (fun w' hw' => Y_fieldAddr Try.underlying65 rfl Try.sizeOf3 (by decide) rfl) rfl rfl rfl ?_
                refine VQ_ge rfl rfl rfl hc53 ?_
                refine VQ_y (fun w' hw' => Y_load (El.int (El.kp h56 hw')) Try.isAgg3 rfl) rfl rfl rfl ?_
                refine VQ_ge rfl rfl rfl hc53 ?_
                refine VQ_y (fun w' hw' => Y_addI rfl rfl) rfl rfl rfl ?_
                refine VQ_ge rfl rfl rfl hc53 ?_
                refine VQ_y (fun w' hw' => Y_move rfl) rfl rfl rfl ?_
                refine VQ_ge rfl rfl rfl hc53 ?_
                refine VQ_y (fun w' hw' => Y_move rfl) rfl rfl rfl ?_
                refine VQ_ge rfl rfl rfl hc53 ?_
                obtain ⟨x57, hx57, hs54⟩ := Option.bind_eq_some_iff.1 hs54
                refine VQ_indexAddr h_forms hx57 Try.underlying27 Try.sizeOf65 rfl rfl rfl ?_
                intro b58 o59 h60
                refine VQ_ge rfl rfl rfl hc53 ?_
                have h61 := El_staff_Form_0 h60
                refine VQ_y (fun w' hw' => Y_fieldAddr Try.underlying65 rfl Try.sizeOf3 (by decide) rfl) rfl rfl rfl ?_
                refine VQ_ge rfl rfl rfl hc53 ?_
                refine VQ_y (fun w' hw' => Y_load (El.int (El.kp h61 hw')) Try.isAgg3 rfl) rfl rfl rfl ?_
                refine VQ_ge rfl rfl rfl hc53 ?_
                refine VQ_y (fun w' hw' => Y_move rfl) rfl rfl rfl ?_
                refine VQ_ge rfl rfl rfl hc53 ?_
                refine VQ_y (fun w' hw' => Y_move rfl) rfl rfl rfl ?_
                refine VQ_ge rfl rfl rfl hc53 ?_
                refine VQ_indexAddr h_forms hx57 Try.underlying27 Try.sizeOf65 rfl rfl rfl ?_
                intro b62 o63 h64
                refine VQ_ge rfl rfl rfl hc53 ?_
                have h65 := El_staff_Form_1 h64
                refine VQ_y (fun w' hw' => Y_fieldAddr Try.underlying65 rfl Try.sizeOf3 (by decide) rfl) rfl rfl rfl ?_
                refine VQ_ge rfl rfl rfl hc53 ?_
                refine VQ_y (fun w' hw' => Y_load (El.int (El.kp h65 hw')) Try.isAgg3 rfl) rfl rfl rfl ?_
                refine VQ_ge rfl rfl rfl hc53 ?_
                refine VQ_y (fun w' hw' => Y_addI rfl rfl) rfl rfl rfl ?_
                refine VQ_ge rfl rfl rfl hc53 ?_
                refine VQ_y (fun w' hw' => Y_gtr rfl rfl) rfl rfl rfl ?_
                refine VQ_ge rfl rfl rfl hc51 ?_
                refine VQ_y (fun _ _ => Y_pick_fe rfl hc53 rfl) rfl rfl rfl ?_
                obtain rfl := Option.some.inj hs54
                exact VQ_end fun a ha => ⟨(), ha.sub ⟨rfl, rfl, rfl, rfl, rfl, rfl, rfl, rfl, rfl, trivial⟩, trivial⟩
            simp only [List.take, List.drop]
            rintro _ _
            refine VQ_y (fun _ _ => Y_pick_te rfl hc51 rfl) rfl rfl rfl ?_
            obtain rfl := Option.some.inj hs52
            exact VQ_end fun a ha => ⟨(), ha.sub ⟨rfl, rfl, rfl, rfl, rfl, rfl, rfl, rfl, trivial⟩, trivial⟩
          · rw [if_neg (nt hc51)] at hs52
            refine VQ_gn rfl rfl rfl hc51 rfl rfl rfl ?_
            refine VQ_gn rfl rfl rfl hc51 rfl rfl rfl ?_
            refine VQ_gn rfl rfl rfl hc51 rfl rfl rfl ?_
            refine VQ_gu rfl rfl rfl rfl rfl ?_
            refine VQ_gu rfl rfl rfl rfl rfl ?_
            refine VQ_gu rfl rfl rfl rfl rfl ?_
            refine VQ_gu rfl rfl rfl rfl rfl ?_
            refine VQ_gu rfl rfl rfl rfl rfl ?_
            refine VQ_gu rfl rfl rfl rfl rfl ?_
            refine VQ_gu rfl rfl rfl rfl rfl ?_
            refine VQ_gu rfl rfl rfl rfl rfl ?_
            refine VQ_gu rfl rfl rfl rfl rfl ?_
            refine VQ_gu rfl rfl rfl rfl rfl ?_
            refine VQ_gu rfl rfl rfl rfl rfl ?_
            refine VQ_gu rfl rfl rfl rfl rfl ?_
            refine VQ_gu rfl rfl rfl rfl rfl ?_
            refine VQ_gu rfl rfl rfl rfl rfl ?_
            refine VQ_gu rfl rfl rfl rfl rfl ?_
            refine VQ_gu rfl rfl rfl rfl rfl ?_
            refine VQ_gu rfl rfl rfl rfl rfl ?_
            refine VQ_gn rfl rfl rfl hc51 rfl rfl rfl ?_
            refine VQ_y (fun _ _ => Y_pick_fe rfl hc51 rfl) rfl rfl rfl ?_
            obtain rfl := Option.some.inj hs52
            exact VQ_end fun a ha => ⟨(), ha.sub ⟨rfl, rfl, rfl, rfl, rfl, rfl, rfl, rfl, trivial⟩, trivial⟩
        simp only [List.take, List.drop]
        rintro _ _
        refine VQ_to (fun _ _ => rfl) (fun w66 hk67 => ?_)
        have ht68 := Kp.tr hk67 hA hB
        replace hH := Hp.kp hH hk67
        replace h_forms := Sl.tr h_forms ht68
        replace hK := Tr.trans hK ht68
        replace hr5 := Tr.trans hr5 ht68
        replace hr27 := Tr.trans hr27 ht68
        replace hB := Nat.le_trans hB ht68.ex.size
        replace hA := ht68.new
        obtain ⟨s70, ho69, ho25⟩ := Option.bind_eq_some_iff.1 ho25
        refine C_cutG (ι := Unit) (fun (_ : Unit) => [(0, v_forms), (1, .int .i64 slot), (5, .int .i64 s70), (8, v_forms), (9, .int .i64 (forms.length : Int)), (10, .int .i64 (k6 : Int))]) (fun (_ : Unit) => fun w' => w66 = w') ?_ ?_
        · refine C_cond rfl (fun hc75 => ?_) (fun hc75 => ?_)
          · rw [if_pos hc75] at ho69
            refine C_region ?_
            refine V_y (Y_move rfl) rfl rfl rfl ?_
            refine V_y (Y_assign rfl) rfl rfl rfl ?_
            obtain rfl := Option.some.inj ho69
            refine V_end (fun a ha76 => ?_)
            exact ⟨(), ha76.sub ⟨rfl, rfl, rfl, rfl, rfl, rfl, trivial⟩, rfl⟩
          · rw [if_neg (nt hc75)] at ho69
            obtain rfl := Option.some.inj ho69
            refine C_skip (fun a ha77 => ?_)
            exact ⟨(), ha77.sub ⟨rfl, rfl, rfl, rfl, rfl, rfl, trivial⟩, rfl⟩
        rintro _ _ rfl a ha74
        obtain rfl := Option.some.inj ho25
        exact ⟨A14, ha74.sub ⟨rfl, rfl, rfl, rfl, rfl, rfl, trivial⟩, ⟨hH, hr27⟩⟩
      rintro A31 w28 ⟨hH32, hk29⟩ a ha30
      replace h_forms := Sl.tr h_forms hk29
      replace hK := Tr.trans hK hk29
      replace hr5 := Tr.trans hr5 hk29
      replace hB := Nat.le_trans hB hk29.ex.size
      replace hA := hk29.new
      replace hH : Hp w.heap.size A31 w28 ([]) := hH32
      refine C_at (n := ⟨54, [], none⟩) (fun _ _ => rfl) ?_ ha30
      refine C_region ?_
      refine V_y (Y_addI rfl rfl) rfl rfl rfl ?_
      refine V_y (Y_move rfl) rfl rfl rfl ?_
      obtain rfl := Option.some.inj h17
      refine V_end (fun a ha79 => ?_)
      exact ⟨s26, hlt20, h18, ⟨A31, ha79.sub ⟨rfl, rfl, rfl, rfl, rfl, (congrArg (fun z => some (Value.int .i64 z)) (w64_succ hlt20 hn23)), trivial⟩, ⟨hH, hr5⟩⟩⟩
    · refine C_exit (fun a ha80 => ?_)
      exact ⟨(s12, A14), ha80.sub ⟨rfl, trivial⟩, ⟨(h21 (eq_of_dec hle19 hc24)).symm, hH, hr5⟩⟩
  rintro ⟨s4, A10⟩ w7 ⟨rfl, hH11, hk8⟩ a ha9
  rw [Lp.andThen_fin] at hm
  replace hK := Tr.trans hK hk8
  replace hB := Nat.le_trans hB hk8.ex.size
  replace hA := hk8.new
  replace hH : Hp w.heap.size A10 w7 ([]) := hH11
  refine C_at (n := ⟨54, [], none⟩) (fun _ _ => rfl) ?_ ha9
  refine C_seq ?_
  refine C_region ?_
  refine V_y (Y_move rfl) rfl rfl rfl ?_
  refine V_y (Y_assign rfl) rfl rfl rfl ?_
  refine V_to (fun _ _ => rfl) ?_
  obtain rfl := Option.some.inj hm
  refine C_ret ?_
  try simp only [↓inBlock_ret, ↓then_ret]
  exact retQ rfl (Res.one Try.results38 rfl) ⟨rfl, hK.kp⟩

set_option maxRecDepth 4000 in
set_option maxHeartbeats 4000000 in
theorem staff_Plan_c (w : World) {A : Nat → Prop} (hA : ∀ b, w.heap.size ≤ b → A b) (forms : (List staff_Form)) (v_forms : Value) (h_forms : Sl A w v_forms forms) (demand : (List Int)) (v_demand : Value) (h_demand : Sl A w v_demand demand) {r : ((List Int) × Int)} (hm : staff_Plan forms demand = some r) : Ret Try.prog 12 #[v_forms, v_demand] w fun v w' => ∃ s0, v = .tuple #[s0, .int .i64 r.2] ∧ Ownd 3 w w' s0 r.1 ∧ Kp w w' := by
  unfold staff_Plan at hm
  refine enter Try.func12 rfl Try.ntmps12 rfl ?_
  have hA0 := hA
  have hB := Nat.le_refl w.heap.size
  have hK : Tr w.heap.size A w A w := Tr.refl hA
  have hH : Hp w.heap.size A w [] := Hp.nil
  refine C_seq ?_
  refine C_region ?_
  refine V_y (Y_assign rfl) rfl rfl rfl ?_
  refine V_y (Y_assign rfl) rfl rfl rfl ?_
  refine V_to (fun _ _ => rfl) ?_
  refine C_seq ?_
  refine C_seq ?_
  refine C_region ?_
  refine V_y (Y_move rfl) rfl rfl rfl ?_
  obtain ⟨x5, hx5, hm⟩ := Option.bind_eq_some_iff.1 hm
  refine V_call Try.call19 rfl rfl rfl rfl (staff_CheckForms_c w hA forms v_forms h_forms hx5) ?_
  rintro _ w6 ⟨rfl, hk7⟩
  have ht8 := Kp.tr hk7 hA hB
  replace hH := Hp.kp hH hk7
  replace h_forms := Sl.tr h_forms ht8
  replace h_demand := Sl.tr h_demand ht8
  replace hK := Tr.trans hK ht8
  replace hB := Nat.le_trans hB ht8.ex.size
  replace hA := ht8.new
  refine V_y (Y_move rfl) rfl rfl rfl ?_
  obtain ⟨x9, hx9, hm⟩ := Option.bind_eq_some_iff.1 hm
  refine V_call Try.call37 rfl rfl rfl rfl (staff_checkDemand_c w6 demand v_demand h_demand 60 hx9) ?_
  rintro _ _ ⟨rfl, rfl⟩
  refine V_buildSlice (l := ([x5, x9] : List Int)) (len := 2) Try.underlying91 Try.sizeOf23 Try.zeroValue23 rfl (by with_unfolding_all rfl) (by decide) (by decide) hA ⟨[.int .i64 x5], _, rfl, rfl, ⟨[.int .i64 x9], _, rfl, rfl, rfl⟩⟩ rfl rfl ?_
  intro v10 w11 hk13 h12
  have ht14 := Kp.tr hk13 hA hB
  replace hH := Hp.kp hH hk13
  replace h_forms := Sl.tr h_forms ht14
  replace h_demand := Sl.tr h_demand ht14
  replace hK := Tr.trans hK ht14
  replace hB := Nat.le_trans hB ht14.ex.size
  replace hA := ht14.new
  obtain ⟨x15, hx15, hm⟩ := Option.bind_eq_some_iff.1 hm
  refine V_call Try.call36 rfl rfl rfl rfl (cmp_Or_api_Errno_c w11 ([x5, x9] : List Int) v10 h12 hx15) ?_
  rintro _ _ ⟨rfl, rfl⟩
  refine V_y (Y_assign rfl) rfl rfl rfl ?_
  refine V_to (fun _ _ => rfl) ?_
  refine C_seq ?_
  refine C_region ?_
  refine V_y (Y_move rfl) rfl rfl rfl ?_
  refine V_y (Y_neq rfl rfl) rfl rfl rfl ?_
  refine V_to (fun _ _ => rfl) ?_
  refine C_cond rfl (fun hc16 => ?_) (fun hc16 => ?_)
  · rw [if_pos hc16] at hm
    refine C_seq ?_
    refine C_region ?_
    refine V_y (Y_move rfl) rfl rfl rfl ?_
    refine V_y (Y_assign rfl) rfl rfl rfl ?_
    refine V_y (Y_assign rfl) rfl rfl rfl ?_
    refine V_to (fun _ _ => rfl) ?_
    obtain rfl := Option.some.inj hm
    replace hH : Hp w.heap.size A w11 (obS (α := Int) 3 (.slice none 0 0) ([] : (List Int)) :: []) := Hp.addNil (α := Int) (e := 3) hH
    refine C_ret ?_
    try simp only [↓inBlock_ret, ↓then_ret]
    exact retQ rfl (Res.two Try.results12 rfl rfl) ⟨.slice none 0 0, rfl, (Hp.ownd hH (i := 0) rfl), hK.kp⟩
  · rw [if_neg (nt hc16)] at hm
    refine C_skip_to (fun _ _ => rfl) ?_
    refine C_seq ?_
    refine C_seq ?_
    refine C_region ?_
    refine V_y (Y_move rfl) rfl rfl rfl ?_
    refine V_y (Y_lenSl h_demand rfl Try.underlying22 rfl) rfl rfl rfl ?_
    refine V_y (Y_move rfl) rfl rfl rfl ?_
    refine V_to (fun _ _ => rfl) ?_
    have hn37 := Sl.le h_demand
    obtain ⟨o17, ho17, hm⟩ := Option.bind_eq_some_iff.1 hm
    refine C_cutG (ι := (Unit × (Nat → Prop))) (fun ⟨s18, A24⟩ => [(0, v_forms), (1, v_demand)]) (fun ⟨s18, A24⟩ => fun w' => o17 = .fin s18 ∧ Hp w.heap.size A24 w' ([]) ∧ Tr w.heap.size A w11 A24 w') ?_ ?_
    · refine C_block ?_
      refine C_range ho17 (fun k20 _ a w' => ∃ i : (Nat → Prop), Has ⟨109, [], none⟩ a ([(0, v_forms), (1, v_demand), (25, v_demand), (26, .int .i64 (demand.length : Int)), (27, .int .i64 (k20 : Int))]) ∧ Hp w.heap.size i w' ([]) ∧ Tr w.heap.size A w11 i w') (fun a ha => ⟨A, ha.sub ⟨rfl, rfl, rfl, rfl, rfl, trivial⟩, ⟨hH, Tr.refl hA⟩⟩) ?_
      rintro K k20 _ a w27 ⟨A28, ha61, hH29, hr19⟩ hle33 K36 h35
      refine C_of ?_ ha61
      replace h_forms := Sl.tr h_forms hr19
      replace h_demand := Sl.tr h_demand hr19
      replace hK := Tr.trans hK hr19
      replace hB := Nat.le_trans hB hr19.ex.size
      replace hA := hr19.new
      replace hH : Hp w.heap.size A28 w27 ([]) := hH29
      refine C_seq (C_region (V_y (Y_lss rfl rfl) rfl rfl rfl (V_to (fun _ _ => rfl) ?_)))
      refine C_seq ?_
      refine C_cond rfl (fun hc38 => ?_) (fun hc38 => ?_)
      · have hlt34 := lt_of_dec hc38
        obtain ⟨x30, h31, h32⟩ := K36 hlt34
        refine C_skip_to (fun _ _ => rfl) ?_
        refine C_seq ?_
        refine C_block ?_
        refine C_seq ?_
        refine C_region ?_
        refine V_y (Y_move rfl) rfl rfl rfl ?_
        obtain ⟨x39, hx39, h31⟩ := Option.bind_eq_some_iff.1 h31
        refine V_indexAddr h_demand hx39 Try.underlying22 Try.sizeOf3 rfl rfl rfl ?_
        intro b40 o41 h42
        refine V_y (Y_load (El.int h42) Try.isAgg3 rfl) rfl rfl rfl ?_
        refine V_y (Y_assign rfl) rfl rfl rfl ?_
        refine V_y (Y_assign rfl) rfl rfl rfl ?_
        refine V_to (fun _ _ => rfl) ?_
        refine C_seq ?_
        obtain ⟨s44, ho43, h31⟩ := Option.bind_eq_some_iff.1 h31
        refine C_cutG (ι := (Nat → Prop)) (fun (A49 : (Nat → Prop)) => [(0, v_forms), (1, v_demand), (25, v_demand), (26, .int .i64 (demand.length : Int)), (27, .int .i64 (k20 : Int)), (39, .bool s44)]) (fun (A49 : (Nat → Prop)) => fun w' => Hp w.heap.size A49 w' ([]) ∧ Tr w.heap.size A28 w27 A49 w') ?_ ?_
        · have hr45 : Tr w.heap.size A28 w27 A28 w27 := Tr.refl hA
          refine C_region ?_
          refine V_y (Y_move rfl) rfl rfl rfl ?_
          refine V_y (Y_gtr rfl rfl) rfl rfl rfl ?_
          refine V_y (Y_move rfl) rfl rfl rfl ?_
          rcases Bool.eq_false_or_eq_true (decide ((0 : Int) < x39)) with hc51 | hc51
          · rw [if_pos hc51] at ho43
            refine V_ge rfl rfl rfl hc51 ?_
            refine V_y (Y_move rfl) rfl rfl rfl ?_
            refine V_ge rfl rfl rfl hc51 ?_
            refine V_y (Y_move rfl) rfl rfl rfl ?_
            refine V_ge rfl rfl rfl hc51 ?_
            obtain ⟨x52, hx52, ho43⟩ := Option.bind_eq_some_iff.1 ho43
            refine V_call Try.call38 rfl rfl rfl rfl (staff_longest_c w27 hA forms v_forms h_forms (k20 : Int) hx52) ?_
            rintro _ w53 ⟨rfl, hk54⟩
            have ht55 := Kp.tr hk54 hA hB
            replace hH := Hp.kp hH hk54
            replace h_forms := Sl.tr h_forms ht55
            replace h_demand := Sl.tr h_demand ht55
            replace hK := Tr.trans hK ht55
            replace hr19 := Tr.trans hr19 ht55
            replace hr45 := Tr.trans hr45 ht55
            replace hB := Nat.le_trans hB ht55.ex.size
            replace hA := ht55.new
            refine V_ge rfl rfl rfl hc51 ?_
            refine V_y (Y_lss rfl rfl) rfl rfl rfl ?_
            refine V_y (Y_pick_te rfl hc51 rfl) rfl rfl rfl ?_
            obtain rfl := Option.some.inj ho43
            refine V_end (fun a ha56 => ?_)
            exact ⟨A28, ha56.sub ⟨rfl, rfl, rfl, rfl, rfl, rfl, trivial⟩, ⟨hH, hr45⟩⟩
          · rw [if_neg (nt hc51)] at ho43
            refine V_gn rfl rfl rfl hc51 rfl rfl rfl ?_
            refine V_gn rfl rfl rfl hc51 rfl rfl rfl ?_
            refine V_gn rfl rfl rfl hc51 rfl rfl rfl ?_
            refine V_gn rfl rfl rfl hc51 rfl rfl rfl ?_
            refine V_y (Y_pick_fe rfl hc51 rfl) rfl rfl rfl ?_
            obtain rfl := Option.some.inj ho43
            refine V_end (fun a ha57 => ?_)
            exact ⟨A28, ha57.sub ⟨rfl, rfl, rfl, rfl, rfl, rfl, trivial⟩, ⟨hH, hr45⟩⟩
        rintro A49 w46 ⟨hH50, hk47⟩ a ha48
        replace h_forms := Sl.tr h_forms hk47
        replace h_demand := Sl.tr h_demand hk47
        replace hK := Tr.trans hK hk47
        replace hr19 := Tr.trans hr19 hk47
        replace hB := Nat.le_trans hB hk47.ex.size
        replace hA := hk47.new
        replace hH : Hp w.heap.size A49 w46 ([]) := hH50
        refine C_at (n := ⟨109, [], none⟩) (fun _ _ => rfl) ?_ ha48
        refine C_cond rfl (fun hc58 => ?_) (fun hc58 => ?_)
        · rw [if_pos hc58] at h31
          refine C_seq ?_
          refine C_region ?_
          refine V_y (Y_assign rfl) rfl rfl rfl ?_
          refine V_y (Y_assign rfl) rfl rfl rfl ?_
          refine V_to (fun _ _ => rfl) ?_
          obtain rfl := Option.some.inj h31
          obtain rfl := (h32 : Lp.rt _ = _)
          rw [Lp.andThen_rt] at hm
          obtain rfl := Option.some.inj hm
          replace hH : Hp w.heap.size A49 w46 (obS (α := Int) 3 (.slice none 0 0) ([] : (List Int)) :: []) := Hp.addNil (α := Int) (e := 3) hH
          refine C_ret ?_
          try simp only [↓inBlock_ret, ↓then_ret]
          exact retQ rfl (Res.two Try.results12 rfl rfl) ⟨.slice none 0 0, rfl, (Hp.ownd hH (i := 0) rfl), hK.kp⟩
        · rw [if_neg (nt hc58)] at h31
          refine C_skip_to (fun _ _ => rfl) ?_
          refine C_region ?_
          refine V_y (Y_addI rfl rfl) rfl rfl rfl ?_
          refine V_y (Y_move rfl) rfl rfl rfl ?_
          obtain rfl := Option.some.inj h31
          refine V_end (fun a ha59 => ?_)
          exact ⟨(), hlt34, h32, ⟨A49, ha59.sub ⟨rfl, rfl, rfl, rfl, (congrArg (fun z => some (Value.int .i64 z)) (w64_succ hlt34 hn37)), trivial⟩, ⟨hH, hr19⟩⟩⟩
      · refine C_exit (fun a ha60 => ?_)
        exact ⟨((), A28), ha60.sub ⟨rfl, rfl, trivial⟩, ⟨(h35 (eq_of_dec hle33 hc38)).symm, hH, hr19⟩⟩
    rintro ⟨s18, A24⟩ w21 ⟨rfl, hH25, hk22⟩ a ha23
    rw [Lp.andThen_fin] at hm
    replace h_forms := Sl.tr h_forms hk22
    replace h_demand := Sl.tr h_demand hk22
    replace hK := Tr.trans hK hk22
    replace hB := Nat.le_trans hB hk22.ex.size
    replace hA := hk22.new
    replace hH : Hp w.heap.size A24 w21 ([]) := hH25
    refine C_at (n := ⟨109, [], none⟩) (fun _ _ => rfl) ?_ ha23
    refine C_seq ?_
    refine C_region ?_
    refine V_y (Y_move rfl) rfl rfl rfl ?_
    refine V_y (Y_lenSl h_forms rfl Try.underlying27 rfl) rfl rfl rfl ?_
    obtain ⟨x62, hx62, hm⟩ := Option.bind_eq_some_iff.1 hm
    refine V_makeH (e := 3) (ti := Try.t3) hH hx62 (fun _ _ => rfl) Try.underlying22 Try_info3 rfl rfl rfl (by decide) (by decide) hB hA rfl rfl rfl ?_
    intro v63 w65 A66 hH67 ht68
    replace h_forms := Sl.tr h_forms ht68
    replace h_demand := Sl.tr h_demand ht68
    replace hK := Tr.trans hK ht68
    replace hB := Nat.le_trans hB ht68.ex.size
    replace hA := ht68.new
    replace hH : Hp w.heap.size A66 w65 (obS (α := Int) 3 v63 x62 :: []) := hH67
    refine V_y (Y_assign rfl) rfl rfl rfl ?_
    refine V_to (fun _ _ => rfl) ?_
    refine C_seq ?_
    refine C_region ?_
    refine V_y (Y_move rfl) rfl rfl rfl ?_
    refine V_y (Y_lenSl h_demand rfl Try.underlying22 rfl) rfl rfl rfl ?_
    obtain ⟨x69, hx69, hm⟩ := Option.bind_eq_some_iff.1 hm
    refine V_makeH (e := 3) (ti := Try.t3) hH hx69 (fun _ _ => rfl) Try.underlying22 Try_info3 rfl rfl rfl (by decide) (by decide) hB hA rfl rfl rfl ?_
    intro v70 w71 A72 hH73 ht74
    replace h_forms := Sl.tr h_forms ht74
    replace h_demand := Sl.tr h_demand ht74
    replace hK := Tr.trans hK ht74
    replace hB := Nat.le_trans hB ht74.ex.size
    replace hA := ht74.new
    replace hH : Hp w.heap.size A72 w71 (obS (α := Int) 3 v70 x69 :: obS (α := Int) 3 v63 x62 :: []) := hH73
    refine V_y (Y_assign rfl) rfl rfl rfl ?_
    refine V_to (fun _ _ => rfl) ?_
    refine C_seq ?_
    refine C_seq ?_
    refine C_region ?_
    refine V_y (Y_move rfl) rfl rfl rfl ?_
    refine V_y (Y_lenSl h_demand rfl Try.underlying22 rfl) rfl rfl rfl ?_
    refine V_y (Y_move rfl) rfl rfl rfl ?_
    refine V_to (fun _ _ => rfl) ?_
    have hn103 := Sl.le h_demand
    obtain ⟨o75, ho75, hm⟩ := Option.bind_eq_some_iff.1 hm
    refine C_cutG (ι := (((List Int) × (List Int)) × Value × Value × (Nat → Prop))) (fun ⟨s76, v82, v84, A86⟩ => [(9, v82)]) (fun ⟨s76, v82, v84, A86⟩ => fun w' => o75 = .fin s76 ∧ Hp w.heap.size A86 w' (obS (α := Int) 3 v84 s76.2 :: obS (α := Int) 3 v82 s76.1 :: []) ∧ Tr w.heap.size A72 w71 A86 w') ?_ ?_
    · refine C_block ?_
      refine C_range ho75 (fun k78 s88 a w' => ∃ i : (Value × Value × (Nat → Prop)), Has ⟨109, [], none⟩ a ([(0, v_forms), (9, i.1), (10, i.2.1), (47, v_demand), (48, .int .i64 (demand.length : Int)), (49, .int .i64 (k78 : Int))]) ∧ Hp w.heap.size i.2.2 w' (obS (α := Int) 3 i.2.1 s88.2 :: obS (α := Int) 3 i.1 s88.1 :: []) ∧ Tr w.heap.size A72 w71 i.2.2 w') (fun a ha => ⟨(v63, v70, A72), ha.sub ⟨rfl, rfl, rfl, rfl, rfl, rfl, trivial⟩, ⟨hH, Tr.refl hA⟩⟩) ?_
      rintro K k78 s88 a w89 ⟨⟨v90, v92, A94⟩, ha211, hH95, hr77⟩ hle99 K102 h101
      refine C_of ?_ ha211
      replace h_forms := Sl.tr h_forms hr77
      replace h_demand := Sl.tr h_demand hr77
      replace hK := Tr.trans hK hr77
      replace hB := Nat.le_trans hB hr77.ex.size
      replace hA := hr77.new
      replace hH : Hp w.heap.size A94 w89 (obS (α := Int) 3 v92 s88.2 :: obS (α := Int) 3 v90 s88.1 :: []) := hH95
      refine C_seq (C_region (V_y (Y_lss rfl rfl) rfl rfl rfl (V_to (fun _ _ => rfl) ?_)))
      refine C_seq ?_
      refine C_cond rfl (fun hc104 => ?_) (fun hc104 => ?_)
      · have hlt100 := lt_of_dec hc104
        obtain ⟨x96, h97, h98⟩ := K102 hlt100
        refine C_skip_to (fun _ _ => rfl) ?_
        refine C_seq ?_
        obtain ⟨o105, ho105, h97⟩ := Option.bind_eq_some_iff.1 h97
        refine C_cutG (ι := (((List Int) × (List Int)) × Value × Value × (Nat → Prop))) (fun ⟨s106, v108, v110, A115⟩ => [(0, v_forms), (9, v108), (10, v110), (47, v_demand), (48, .int .i64 (demand.length : Int)), (49, .int .i64 (k78 : Int))]) (fun ⟨s106, v108, v110, A115⟩ => fun w' => o105 = .fin s106 ∧ Hp w.heap.size A115 w' (obS (α := Int) 3 v110 s106.2 :: obS (α := Int) 3 v108 s106.1 :: []) ∧ Tr w.heap.size A94 w89 A115 w') ?_ ?_
        · have hr107 : Tr w.heap.size A94 w89 A94 w89 := Tr.refl hA
          refine C_block ?_
          refine C_seq ?_
          refine C_region ?_
          refine V_y (Y_move rfl) rfl rfl rfl ?_
          obtain ⟨x117, hx117, ho105⟩ := Option.bind_eq_some_iff.1 ho105
          refine V_indexAddr h_demand hx117 Try.underlying22 Try.sizeOf3 rfl rfl rfl ?_
          intro b118 o119 h120
          refine V_y (Y_load (El.int h120) Try.isAgg3 rfl) rfl rfl rfl ?_
          refine V_y (Y_assign rfl) rfl rfl rfl ?_
          refine V_y (Y_assign rfl) rfl rfl rfl ?_
          refine V_to (fun _ _ => rfl) ?_
          refine C_seq ?_
          refine C_region ?_
          refine V_y (Y_move rfl) rfl rfl rfl ?_
          refine V_y (Y_move rfl) rfl rfl rfl ?_
          refine V_y (Y_move rfl) rfl rfl rfl ?_
          obtain ⟨x121, hx121, ho105⟩ := Option.bind_eq_some_iff.1 ho105
          refine V_indexAddrH (α := Int) (e := 3) (v := v92) (l := s88.2) hH (i := 0) rfl hx121 Try.underlying22 Try.sizeOf3 rfl rfl rfl ?_
          intro b122 o123 h124 hl125
          refine V_y (Y_load (El.int h124) Try.isAgg3 rfl) rfl rfl rfl ?_
          refine V_y (Y_subI rfl rfl) rfl rfl rfl ?_
          refine V_y (Y_assign rfl) rfl rfl rfl ?_
          refine V_to (fun _ _ => rfl) ?_
          refine C_seq ?_
          refine C_seq ?_
          refine C_region ?_
          refine V_y (Y_move rfl) rfl rfl rfl ?_
          refine V_y (Y_leq rfl rfl) rfl rfl rfl ?_
          refine V_to (fun _ _ => rfl) ?_
          refine C_cond rfl (fun hc126 => ?_) (fun hc126 => ?_)
          · rw [if_pos hc126] at ho105
            obtain rfl := Option.some.inj ho105
            refine C_exit (fun a ha127 => ?_)
            exact ⟨((s88.1, s88.2), v90, v92, A94), ha127.sub ⟨rfl, rfl, rfl, rfl, rfl, rfl, trivial⟩, ⟨rfl, hH, hr107⟩⟩
          · rw [if_neg (nt hc126)] at ho105
            refine C_skip_to (fun _ _ => rfl) ?_
            refine C_seq ?_
            refine C_region ?_
            refine V_y (Y_move rfl) rfl rfl rfl ?_
            refine V_y (Y_move rfl) rfl rfl rfl ?_
            obtain ⟨x128, hx128, ho105⟩ := Option.bind_eq_some_iff.1 ho105
            refine V_call Try.call38 rfl rfl rfl rfl (staff_longest_c w89 hA forms v_forms h_forms (k78 : Int) hx128) ?_
            rintro _ w129 ⟨rfl, hk130⟩
            have ht131 := Kp.tr hk130 hA hB
            replace hH := Hp.kp hH hk130
            replace h_forms := Sl.tr h_forms ht131
            replace h_demand := Sl.tr h_demand ht131
            replace hK := Tr.trans hK ht131
            replace hr77 := Tr.trans hr77 ht131
            replace hr107 := Tr.trans hr107 ht131
            replace hB := Nat.le_trans hB ht131.ex.size
            replace hA := ht131.new
            refine V_y (Y_assign rfl) rfl rfl rfl ?_
            refine V_to (fun _ _ => rfl) ?_
            refine C_seq ?_
            refine C_region ?_
            refine V_y (Y_move rfl) rfl rfl rfl ?_
            refine V_y (Y_move rfl) rfl rfl rfl ?_
            obtain ⟨x132, hx132, ho105⟩ := Option.bind_eq_some_iff.1 ho105
            refine V_indexAddrH (α := Int) (e := 3) (v := v90) (l := s88.1) hH (i := 1) rfl hx132 Try.underlying22 Try.sizeOf3 rfl rfl rfl ?_
            intro b133 o134 h135 hl136
            refine V_y (Y_load (El.int h135) Try.isAgg3 rfl) rfl rfl rfl ?_
            refine V_y (Y_move rfl) rfl rfl rfl ?_
            refine V_y (Y_addI rfl rfl) rfl rfl rfl ?_
            refine V_indexAddrH (α := Int) (e := 3) (v := v90) (l := s88.1) hH (i := 1) rfl hx132 Try.underlying22 Try.sizeOf3 rfl rfl rfl ?_
            intro b137 o138 h139 hl140
            obtain ⟨x141, hx141, ho105⟩ := Option.bind_eq_some_iff.1 ho105
            refine V_storeH (α := Int) (e := 3) (v := v90) (l := s88.1) hH (i := 1) rfl hl140 hx141 rfl Try.sizeOf3 rfl hB hA rfl rfl ?_
            intro w142 hH143 ht144
            replace h_forms := Sl.tr h_forms ht144
            replace h_demand := Sl.tr h_demand ht144
            replace hK := Tr.trans hK ht144
            replace hr77 := Tr.trans hr77 ht144
            replace hr107 := Tr.trans hr107 ht144
            replace hB := Nat.le_trans hB ht144.ex.size
            replace hA := ht144.new
            replace hH : Hp w.heap.size A94 w142 (obS (α := Int) 3 v92 s88.2 :: obS (α := Int) 3 v90 x141 :: []) := hH143
            refine V_to (fun _ _ => rfl) ?_
            refine C_seq ?_
            refine C_seq ?_
            refine C_region ?_
            refine V_y (Y_move rfl) rfl rfl rfl ?_
            refine V_y (Y_move rfl) rfl rfl rfl ?_
            obtain ⟨x145, hx145, ho105⟩ := Option.bind_eq_some_iff.1 ho105
            refine V_indexAddrH (α := Int) (e := 3) (v := v90) (l := x141) hH (i := 1) rfl hx145 Try.underlying22 Try.sizeOf3 rfl rfl rfl ?_
            intro b146 o147 h148 hl149
            refine V_y (Y_load (El.int h148) Try.isAgg3 rfl) rfl rfl rfl ?_
            refine V_y (Y_gtr rfl rfl) rfl rfl rfl ?_
            refine V_to (fun _ _ => rfl) ?_
            refine C_cond rfl (fun hc150 => ?_) (fun hc150 => ?_)
            · rw [if_pos hc150] at ho105
              refine C_seq ?_
              refine C_region ?_
              refine V_y (Y_assign rfl) rfl rfl rfl ?_
              refine V_y (Y_assign rfl) rfl rfl rfl ?_
              refine V_to (fun _ _ => rfl) ?_
              obtain rfl := Option.some.inj ho105
              rw [Lp.andThen_rt] at h97
              obtain rfl := Option.some.inj h97
              obtain rfl := (h98 : Lp.rt _ = _)
              rw [Lp.andThen_rt] at hm
              obtain rfl := Option.some.inj hm
              replace hH : Hp w.heap.size A94 w142 (obS (α := Int) 3 (.slice none 0 0) ([] : (List Int)) :: obS (α := Int) 3 v92 s88.2 :: obS (α := Int) 3 v90 x141 :: []) := Hp.addNil (α := Int) (e := 3) hH
              refine C_ret ?_
              try simp only [↓inBlock_ret, ↓then_ret]
              exact retQ rfl (Res.two Try.results12 rfl rfl) ⟨.slice none 0 0, rfl, (Hp.ownd hH (i := 0) rfl), hK.kp⟩
            · rw [if_neg (nt hc150)] at ho105
              refine C_skip_to (fun _ _ => rfl) ?_
              refine C_seq ?_
              refine C_region ?_
              refine V_y (Y_move rfl) rfl rfl rfl ?_
              refine V_y (Y_move rfl) rfl rfl rfl ?_
              obtain ⟨x151, hx151, ho105⟩ := Option.bind_eq_some_iff.1 ho105
              refine V_indexAddr h_forms hx151 Try.underlying27 Try.sizeOf65 rfl rfl rfl ?_
              intro b152 o153 h154
              have h155 := El_staff_Form_0 h154
              refine V_y (Y_fieldAddr Try.underlying65 rfl Try.sizeOf3 (by decide) rfl) rfl rfl rfl ?_
              refine V_y (Y_load (El.int h155) Try.isAgg3 rfl) rfl rfl rfl ?_
              refine V_y (Y_assign rfl) rfl rfl rfl ?_
              refine V_to (fun _ _ => rfl) ?_
              obtain ⟨o156, ho156, ho105⟩ := Option.bind_eq_some_iff.1 ho105
              refine C_cutG (ι := (((List Int) × Int) × Value × (Nat → Prop))) (fun ⟨s157, v163, A165⟩ => [(0, v_forms), (9, v90), (10, v163), (47, v_demand), (48, .int .i64 (demand.length : Int)), (49, .int .i64 (k78 : Int))]) (fun ⟨s157, v163, A165⟩ => fun w' => o156 = .fin s157 ∧ Hp w.heap.size A165 w' (obS (α := Int) 3 v163 s157.1 :: obS (α := Int) 3 v90 x141 :: []) ∧ Tr w.heap.size A94 w142 A165 w') ?_ ?_
              · refine C_block ?_
                refine C_while ho156 (fun s167 a w' => ∃ i : (Value × (Nat → Prop)), Has ⟨109, [], none⟩ a ([(0, v_forms), (9, v90), (10, i.1), (13, .int .i64 (w64 (x117 - x121))), (14, .int .i64 x128), (15, .int .i64 s167.2), (47, v_demand), (48, .int .i64 (demand.length : Int)), (49, .int .i64 (k78 : Int))]) ∧ Hp w.heap.size i.2 w' (obS (α := Int) 3 i.1 s167.1 :: obS (α := Int) 3 v90 x141 :: []) ∧ Tr w.heap.size A94 w142 i.2 w') (fun a ha => ⟨(v92, A94), ha.sub ⟨rfl, rfl, rfl, rfl, rfl, rfl, rfl, rfl, rfl, trivial⟩, ⟨hH, Tr.refl hA⟩⟩) ?_
                rintro K s167 a w168 ⟨⟨v169, A171⟩, ha207, hH172, hr158⟩ K179
                refine C_of ?_ ha207
                replace h_forms := Sl.tr h_forms hr158
                replace h_demand := Sl.tr h_demand hr158
                replace hK := Tr.trans hK hr158
                replace hr77 := Tr.trans hr77 hr158
                replace hr107 := Tr.trans hr107 hr158
                replace hB := Nat.le_trans hB hr158.ex.size
                replace hA := hr158.new
                replace hH : Hp w.heap.size A171 w168 (obS (α := Int) 3 v169 s167.1 :: obS (α := Int) 3 v90 x141 :: []) := hH172
                obtain ⟨x173, h174, h175⟩ := K179
                refine C_seq ?_
                refine C_seq ?_
                refine C_region_q Try_mixed (by kernel_rfl) ?_
                refine VQ_y (fun w' hw' => Y_move rfl) rfl rfl rfl ?_
                refine VQ_y (fun w' hw' => Y_move rfl) rfl rfl rfl ?_
                refine VQ_y (fun w' hw' => Y_lenSl (Hp.any (α := Int) (e := 3) (v := v169) (l := s167.1) hH (i := 0) rfl) rfl Try.underlying22 rfl) rfl rfl rfl ?_
                refine VQ_y (fun w' hw' => Y_move rfl) rfl rfl rfl ?_
                refine VQ_y (fun w' hw' => Y_move rfl) rfl rfl rfl ?_
                refine VQ_indexAddr h_forms hx151 Try.underlying27 Try.sizeOf65 rfl rfl rfl ?_
                intro b180 o181 h182
                have h183 := El_staff_Form_0 h182
                refine VQ_y (fun w' hw' => Y_fieldAddr Try.underlying65 rfl Try.sizeOf3 (by decide) rfl) rfl rfl rfl ?_
                refine VQ_y (fun w' hw' => Y_load (El.int (El.kp h183 hw')) Try.isAgg3 rfl) rfl rfl rfl ?_
                refine VQ_y (fun w' hw' => Y_move rfl) rfl rfl rfl ?_
                refine VQ_y (fun w' hw' => Y_move rfl) rfl rfl rfl ?_
                refine VQ_indexAddr h_forms hx151 Try.underlying27 Try.sizeOf65 rfl rfl rfl ?_
                intro b184 o185 h186
                have h187 := El_staff_Form_1 h186
                refine VQ_y (fun w' hw' => Y_fieldAddr Try.underlying65 rfl Try.sizeOf3 (by decide) rfl) rfl rfl rfl ?_
                refine VQ_y (fun w' hw' => Y_load (El.int (El.kp h187 hw')) Try.isAgg3 rfl) rfl rfl rfl ?_
                refine VQ_y (fun w' hw' => Y_addI rfl rfl) rfl rfl rfl ?_
                refine VQ_y (fun w' hw' => Y_min2 rfl rfl) rfl rfl rfl ?_
                refine VQ_y (fun w' hw' => Y_lss rfl rfl) rfl rfl rfl ?_
                refine VQ_to (fun _ _ => rfl) (fun w188 hk189 => ?_)
                have ht190 := Kp.tr hk189 hA hB
                replace hH := Hp.kp hH hk189
                replace h_forms := Sl.tr h_forms ht190
                replace h_demand := Sl.tr h_demand ht190
                replace hK := Tr.trans hK ht190
                replace hr77 := Tr.trans hr77 ht190
                replace hr107 := Tr.trans hr107 ht190
                replace hr158 := Tr.trans hr158 ht190
                replace hB := Nat.le_trans hB ht190.ex.size
                replace hA := ht190.new
                refine C_cond rfl (fun hc191 => ?_) (fun hc191 => ?_)
                · rw [if_pos hc191] at h174
                  refine C_skip_to (fun _ _ => rfl) ?_
                  refine C_seq ?_
                  refine C_block ?_
                  refine C_region ?_
                  refine V_y (Y_move rfl) rfl rfl rfl ?_
                  refine V_y (Y_move rfl) rfl rfl rfl ?_
                  obtain ⟨x192, hx192, h174⟩ := Option.bind_eq_some_iff.1 h174
                  refine V_indexAddrH (α := Int) (e := 3) (v := v169) (l := s167.1) hH (i := 0) rfl hx192 Try.underlying22 Try.sizeOf3 rfl rfl rfl ?_
                  intro b193 o194 h195 hl196
                  refine V_y (Y_load (El.int h195) Try.isAgg3 rfl) rfl rfl rfl ?_
                  refine V_y (Y_move rfl) rfl rfl rfl ?_
                  refine V_y (Y_addI rfl rfl) rfl rfl rfl ?_
                  refine V_indexAddrH (α := Int) (e := 3) (v := v169) (l := s167.1) hH (i := 0) rfl hx192 Try.underlying22 Try.sizeOf3 rfl rfl rfl ?_
                  intro b197 o198 h199 hl200
                  obtain ⟨x201, hx201, h174⟩ := Option.bind_eq_some_iff.1 h174
                  refine V_storeH (α := Int) (e := 3) (v := v169) (l := s167.1) hH (i := 0) rfl hl200 hx201 rfl Try.sizeOf3 rfl hB hA rfl rfl ?_
                  intro w202 hH203 ht204
                  replace h_forms := Sl.tr h_forms ht204
                  replace h_demand := Sl.tr h_demand ht204
                  replace hK := Tr.trans hK ht204
                  replace hr77 := Tr.trans hr77 ht204
                  replace hr107 := Tr.trans hr107 ht204
                  replace hr158 := Tr.trans hr158 ht204
                  replace hB := Nat.le_trans hB ht204.ex.size
                  replace hA := ht204.new
                  replace hH : Hp w.heap.size A171 w202 (obS (α := Int) 3 v169 x201 :: obS (α := Int) 3 v90 x141 :: []) := hH203
                  refine V_to (fun _ _ => rfl) ?_
                  refine C_region ?_
                  refine V_y (Y_move rfl) rfl rfl rfl ?_
                  refine V_y (Y_addI rfl rfl) rfl rfl rfl ?_
                  refine V_y (Y_assign rfl) rfl rfl rfl ?_
                  obtain rfl := Option.some.inj h174
                  refine V_end (fun a ha205 => ?_)
                  exact ⟨(x201, w64 (s167.2 + 1)), h175, ⟨(v169, A171), ha205.sub ⟨rfl, rfl, rfl, rfl, rfl, rfl, rfl, rfl, rfl, trivial⟩, ⟨hH, hr158⟩⟩⟩
                · rw [if_neg (nt hc191)] at h174
                  obtain rfl := Option.some.inj h174
                  refine C_exit (fun a ha206 => ?_)
                  exact ⟨((s167.1, s167.2), v169, A171), ha206.sub ⟨rfl, rfl, rfl, rfl, rfl, rfl, trivial⟩, ⟨h175.symm, hH, hr158⟩⟩
              rintro ⟨s157, v163, A165⟩ w160 ⟨rfl, hH166, hk161⟩ a ha162
              rw [Lp.andThen_fin] at ho105
              replace h_forms := Sl.tr h_forms hk161
              replace h_demand := Sl.tr h_demand hk161
              replace hK := Tr.trans hK hk161
              replace hr77 := Tr.trans hr77 hk161
              replace hr107 := Tr.trans hr107 hk161
              replace hB := Nat.le_trans hB hk161.ex.size
              replace hA := hk161.new
              replace hH : Hp w.heap.size A165 w160 (obS (α := Int) 3 v163 s157.1 :: obS (α := Int) 3 v90 x141 :: []) := hH166
              obtain rfl := Option.some.inj ho105
              exact ⟨((x141, s157.1), v90, v163, A165), ha162.sub ⟨rfl, rfl, rfl, rfl, rfl, rfl, trivial⟩, ⟨rfl, hH, hr107⟩⟩
        rintro ⟨s106, v108, v110, A115⟩ w112 ⟨rfl, hH116, hk113⟩ a ha114
        rw [Lp.andThen_fin] at h97
        replace h_forms := Sl.tr h_forms hk113
        replace h_demand := Sl.tr h_demand hk113
        replace hK := Tr.trans hK hk113
        replace hr77 := Tr.trans hr77 hk113
        replace hB := Nat.le_trans hB hk113.ex.size
        replace hA := hk113.new
        replace hH : Hp w.heap.size A115 w112 (obS (α := Int) 3 v110 s106.2 :: obS (α := Int) 3 v108 s106.1 :: []) := hH116
        refine C_at (n := ⟨109, [], none⟩) (fun _ _ => rfl) ?_ ha114
        refine C_region ?_
        refine V_y (Y_addI rfl rfl) rfl rfl rfl ?_
        refine V_y (Y_move rfl) rfl rfl rfl ?_
        obtain rfl := Option.some.inj h97
        refine V_end (fun a ha209 => ?_)
        exact ⟨(s106.1, s106.2), hlt100, h98, ⟨(v108, v110, A115), ha209.sub ⟨rfl, rfl, rfl, rfl, rfl, (congrArg (fun z => some (Value.int .i64 z)) (w64_succ hlt100 hn103)), trivial⟩, ⟨hH, hr77⟩⟩⟩
      · refine C_exit (fun a ha210 => ?_)
        exact ⟨((s88.1, s88.2), v90, v92, A94), ha210.sub ⟨rfl, trivial⟩, ⟨(h101 (eq_of_dec hle99 hc104)).symm, hH, hr77⟩⟩
    rintro ⟨s76, v82, v84, A86⟩ w79 ⟨rfl, hH87, hk80⟩ a ha81
    rw [Lp.andThen_fin] at hm
    replace hK := Tr.trans hK hk80
    replace hB := Nat.le_trans hB hk80.ex.size
    replace hA := hk80.new
    replace hH : Hp w.heap.size A86 w79 (obS (α := Int) 3 v84 s76.2 :: obS (α := Int) 3 v82 s76.1 :: []) := hH87
    refine C_at (n := ⟨109, [], none⟩) (fun _ _ => rfl) ?_ ha81
    refine C_seq ?_
    refine C_region ?_
    refine V_y (Y_move rfl) rfl rfl rfl ?_
    refine V_y (Y_assign rfl) rfl rfl rfl ?_
    refine V_y (Y_assign rfl) rfl rfl rfl ?_
    refine V_to (fun _ _ => rfl) ?_
    obtain rfl := Option.some.inj hm
    refine C_ret ?_
    try simp only [↓inBlock_ret, ↓then_ret]
    exact retQ rfl (Res.two Try.results12 rfl rfl) ⟨v82, rfl, (Hp.ownd hH (i := 1) rfl), hK.kp⟩

set_option maxRecDepth 4000 in
set_option maxHeartbeats 4000000 in
theorem portref2_FormsFault_c (w : World) {A : Nat → Prop} (hA : ∀ b, w.heap.size ≤ b → A b) (l : (List staff_Form)) (v_l : Value) (h_l : Sl A w v_l l) {r : Int} (hm : portref2_FormsFault l = some r) : Ret Try.prog 20 #[v_l] w fun v w' => v = .int .i64 r ∧ Kp w w' := by
  unfold portref2_FormsFault at hm
  refine enter Try.func20 rfl Try.ntmps20 rfl ?_
  have hA0 := hA
  have hB := Nat.le_refl w.heap.size
  have hK : Tr w.heap.size A w A w := Tr.refl hA
  have hH : Hp w.heap.size A w [] := Hp.nil
  refine C_seq ?_
  refine C_region ?_
  refine V_y (Y_assign rfl) rfl rfl rfl ?_
  refine V_to (fun _ _ => rfl) ?_
  refine C_seq ?_
  refine C_seq ?_
  refine C_region ?_
  refine V_y (Y_move rfl) rfl rfl rfl ?_
  refine V_y (Y_lenSl h_l rfl Try.underlying27 rfl) rfl rfl rfl ?_
  refine V_y (Y_gtr rfl rfl) rfl rfl rfl ?_
  refine V_to (fun _ _ => rfl) ?_
  refine C_cond rfl (fun hc3 => ?_) (fun hc3 => ?_)
  · rw [if_pos hc3] at hm
    refine C_seq ?_
    refine C_region ?_
    refine V_y (Y_assign rfl) rfl rfl rfl ?_
    refine V_to (fun _ _ => rfl) ?_
    obtain rfl := Option.some.inj hm
    refine C_ret ?_
    try simp only [↓inBlock_ret, ↓then_ret]
    exact retQ rfl (Res.one Try.results20 rfl) ⟨rfl, hK.kp⟩
  · rw [if_neg (nt hc3)] at hm
    refine C_skip_to (fun _ _ => rfl) ?_
    refine C_seq ?_
    refine C_seq ?_
    refine C_region ?_
    refine V_y (Y_move rfl) rfl rfl rfl ?_
    refine V_y (Y_lenSl h_l rfl Try.underlying27 rfl) rfl rfl rfl ?_
    refine V_y (Y_move rfl) rfl rfl rfl ?_
    refine V_to (fun _ _ => rfl) ?_
    have hn25 := Sl.le h_l
    obtain ⟨o4, ho4, hm⟩ := Option.bind_eq_some_iff.1 hm
    refine C_cutG (ι := (Unit × (Nat → Prop))) (fun ⟨s5, A12⟩ => []) (fun ⟨s5, A12⟩ => fun w' => o4 = .fin s5 ∧ Hp w.heap.size A12 w' ([]) ∧ Tr w.heap.size A w A12 w') ?_ ?_
    · refine C_block ?_
      refine C_range ho4 (fun k7 _ a w' => ∃ i : (Nat → Prop), Has ⟨62, [], none⟩ a ([(0, v_l), (8, v_l), (9, .int .i64 (l.length : Int)), (10, .int .i64 (k7 : Int))]) ∧ Hp w.heap.size i w' ([]) ∧ Tr w.heap.size A w i w') (fun a ha => ⟨A, ha.sub ⟨rfl, rfl, rfl, rfl, trivial⟩, ⟨hH, Tr.refl hA⟩⟩) ?_
      rintro K k7 _ a w15 ⟨A16, ha89, hH17, hr6⟩ hle21 K24 h23
      refine C_of ?_ ha89
      replace h_l := Sl.tr h_l hr6
      replace hK := Tr.trans hK hr6
      replace hB := Nat.le_trans hB hr6.ex.size
      replace hA := hr6.new
      replace hH : Hp w.heap.size A16 w15 ([]) := hH17
      refine C_seq (C_region (V_y (Y_lss rfl rfl) rfl rfl rfl (V_to (fun _ _ => rfl) ?_)))
      refine C_seq ?_
      refine C_cond rfl (fun hc26 => ?_) (fun hc26 => ?_)
      · have hlt22 := lt_of_dec hc26
        obtain ⟨x18, h19, h20⟩ := K24 hlt22
        refine C_skip_to (fun _ _ => rfl) ?_
        refine C_seq ?_
        refine C_block ?_
        refine C_seq ?_
        refine C_region ?_
        refine V_y (Y_move rfl) rfl rfl rfl ?_
        obtain ⟨x27, hx27, h19⟩ := Option.bind_eq_some_iff.1 h19
        refine V_indexAddr h_l hx27 Try.underlying27 Try.sizeOf65 rfl rfl rfl ?_
        intro b28 o29 h30
        obtain ⟨h31, _⟩ := El_staff_Form h30
        refine V_y (Y_loadA h31 Try.isAgg65 Try.sizeOf65 rfl) rfl rfl rfl ?_
        refine V_alloc Try.zeroValue65 rfl ?_
        intro b32 w33 h34
        refine V_y (Y_assign rfl) rfl rfl rfl ?_
        refine V_storeNew h34 Try.sizeOf65 rfl rfl rfl rfl (by exact (List.forall_mem_cons.2 ⟨rfl, (List.forall_mem_cons.2 ⟨rfl, (fun _ h => nomatch h)⟩)⟩)) ?_
        intro w35 h36
        have hk38 := h36.kp
        have h37 : El (α := staff_Form) A16 w35 b32 0 x27 := h36.el hA ⟨[.int .i64 x27.from_], _, rfl, rfl, rfl⟩
        have ht39 := Kp.tr hk38 hA hB
        replace hH := Hp.kp hH hk38
        replace h_l := Sl.tr h_l ht39
        replace h30 := El.tr h30 ht39
        replace hK := Tr.trans hK ht39
        replace hr6 := Tr.trans hr6 ht39
        replace hB := Nat.le_trans hB ht39.ex.size
        replace hA := ht39.new
        refine V_to (fun _ _ => rfl) ?_
        refine C_seq ?_
        refine C_seq ?_
        refine C_region ?_
        have h40 := El_staff_Form_0 h37
        refine V_y (Y_fieldAddr Try.underlying65 rfl Try.sizeOf3 (by decide) rfl) rfl rfl rfl ?_
        refine V_y (Y_load (El.int h40) Try.isAgg3 rfl) rfl rfl rfl ?_
        refine V_y (Y_lss rfl rfl) rfl rfl rfl ?_
        refine V_y (Y_move rfl) rfl rfl rfl ?_
        refine V_cut 4 (fun _ : Unit => [(0, v_l), (3, .int .i64 (k7 : Int)), (4, .pointer (some ⟨b32, 0, none⟩)), (8, v_l), (9, .int .i64 (l.length : Int)), (10, .int .i64 (k7 : Int)), (22, .bool ((decide (x27.from_ < 0)) || (decide ((400 : Int) ≤ x27.from_))))]) (fun _ w' => w35 = w') ?_ ?_
        · simp only [List.take, List.drop]
          rcases Bool.eq_false_or_eq_true (decide (x27.from_ < 0)) with hc41 | hc41
          · refine V_gn rfl rfl rfl hc41 rfl rfl rfl ?_
            refine V_gn rfl rfl rfl hc41 rfl rfl rfl ?_
            refine V_gn rfl rfl rfl hc41 rfl rfl rfl ?_
            refine V_y (Y_pick_te rfl hc41 rfl) rfl rfl rfl ?_
            exact V_end fun a ha => ⟨(), ha.sub ⟨rfl, rfl, rfl, rfl, rfl, rfl, (by rw [hc41]; rfl), trivial⟩, rfl⟩
          · refine V_ge rfl rfl rfl hc41 ?_
            have h43 := El_staff_Form_0 h37
            refine V_y (Y_fieldAddr Try.underlying65 rfl Try.sizeOf3 (by decide) rfl) rfl rfl rfl ?_
            refine V_ge rfl rfl rfl hc41 ?_
            refine V_y (Y_load (El.int h43) Try.isAgg3 rfl) rfl rfl rfl ?_
            refine V_ge rfl rfl rfl hc41 ?_
            refine V_y (Y_geq rfl rfl) rfl rfl rfl ?_
            refine V_y (Y_pick_fe rfl hc41 rfl) rfl rfl rfl ?_
            exact V_end fun a ha => ⟨(), ha.sub ⟨rfl, rfl, rfl, rfl, rfl, rfl, (by rw [hc41]; rfl), trivial⟩, rfl⟩
        simp only [List.take, List.drop]
        rintro _ _ rfl
        refine V_y (Y_move rfl) rfl rfl rfl ?_
        refine V_cut 4 (fun _ : Unit => [(0, v_l), (3, .int .i64 (k7 : Int)), (4, .pointer (some ⟨b32, 0, none⟩)), (8, v_l), (9, .int .i64 (l.length : Int)), (10, .int .i64 (k7 : Int)), (27, .bool (((decide (x27.from_ < 0)) || (decide ((400 : Int) ≤ x27.from_))) || (decide (x27.slots < 1))))]) (fun _ w' => w35 = w') ?_ ?_
        · simp only [List.take, List.drop]
          rcases Bool.eq_false_or_eq_true (((decide (x27.from_ < 0)) || (decide ((400 : Int) ≤ x27.from_)))) with hc44 | hc44
          · refine V_gn rfl rfl rfl hc44 rfl rfl rfl ?_
            refine V_gn rfl rfl rfl hc44 rfl rfl rfl ?_
            refine V_gn rfl rfl rfl hc44 rfl rfl rfl ?_
            refine V_y (Y_pick_te rfl hc44 rfl) rfl rfl rfl ?_
            exact V_end fun a ha => ⟨(), ha.sub ⟨rfl, rfl, rfl, rfl, rfl, rfl, (by rw [hc44]; rfl), trivial⟩, rfl⟩
          · refine V_ge rfl rfl rfl hc44 ?_
            have h46 := El_staff_Form_1 h37
            refine V_y (Y_fieldAddr Try.underlying65 rfl Try.sizeOf3 (by decide) rfl) rfl rfl rfl ?_
            refine V_ge rfl rfl rfl hc44 ?_
            refine V_y (Y_load (El.int h46) Try.isAgg3 rfl) rfl rfl rfl ?_
            refine V_ge rfl rfl rfl hc44 ?_
            refine V_y (Y_lss rfl rfl) rfl rfl rfl ?_
            refine V_y (Y_pick_fe rfl hc44 rfl) rfl rfl rfl ?_
            exact V_end fun a ha => ⟨(), ha.sub ⟨rfl, rfl, rfl, rfl, rfl, rfl, (by rw [hc44]; rfl), trivial⟩, rfl⟩
        simp only [List.take, List.drop]
        rintro _ _ rfl
        refine V_y (Y_move rfl) rfl rfl rfl ?_
        refine V_cut 7 (fun _ : Unit => [(0, v_l), (3, .int .i64 (k7 : Int)), (4, .pointer (some ⟨b32, 0, none⟩)), (8, v_l), (9, .int .i64 (l.length : Int)), (10, .int .i64 (k7 : Int)), (35, .bool ((((decide (x27.from_ < 0)) || (decide ((400 : Int) ≤ x27.from_))) || (decide (x27.slots < 1))) || (decide ((w64 (400 - x27.from_)) < x27.slots))))]) (fun _ w' => w35 = w') ?_ ?_
        · simp only [List.take, List.drop]
          rcases Bool.eq_false_or_eq_true ((((decide (x27.from_ < 0)) || (decide ((400 : Int) ≤ x27.from_))) || (decide (x27.slots < 1)))) with hc47 | hc47
          · refine V_gn rfl rfl rfl hc47 rfl rfl rfl ?_
            refine V_gn rfl rfl rfl hc47 rfl rfl rfl ?_
            refine V_gn rfl rfl rfl hc47 rfl rfl rfl ?_
            refine V_gn rfl rfl rfl hc47 rfl rfl rfl ?_
            refine V_gn rfl rfl rfl hc47 rfl rfl rfl ?_
            refine V_gn rfl rfl rfl hc47 rfl rfl rfl ?_
            refine V_y (Y_pick_te rfl hc47 rfl) rfl rfl rfl ?_
            exact V_end fun a ha => ⟨(), ha.sub ⟨rfl, rfl, rfl, rfl, rfl, rfl, (by rw [hc47]; rfl), trivial⟩, rfl⟩
          · refine V_ge rfl rfl rfl hc47 ?_
            have h49 := El_staff_Form_1 h37
            refine V_y (Y_fieldAddr Try.underlying65 rfl Try.sizeOf3 (by decide) rfl) rfl rfl rfl ?_
            refine V_ge rfl rfl rfl hc47 ?_
            refine V_y (Y_load (El.int h49) Try.isAgg3 rfl) rfl rfl rfl ?_
            refine V_ge rfl rfl rfl hc47 ?_
            have h50 := El_staff_Form_0 h37
            refine V_y (Y_fieldAddr Try.underlying65 rfl Try.sizeOf3 (by decide) rfl) rfl rfl rfl ?_
            refine V_ge rfl rfl rfl hc47 ?_
            refine V_y (Y_load (El.int h50) Try.isAgg3 rfl) rfl rfl rfl ?_
            refine V_ge rfl rfl rfl hc47 ?_
            refine V_y (Y_subI rfl rfl) rfl rfl rfl ?_
            refine V_ge rfl rfl rfl hc47 ?_
            refine V_y (Y_gtr rfl rfl) rfl rfl rfl ?_
            refine V_y (Y_pick_fe rfl hc47 rfl) rfl rfl rfl ?_
            exact V_end fun a ha => ⟨(), ha.sub ⟨rfl, rfl, rfl, rfl, rfl, rfl, (by rw [hc47]; rfl), trivial⟩, rfl⟩
        simp only [List.take, List.drop]
        rintro _ _ rfl
        refine V_to (fun _ _ => rfl) ?_
        refine C_cond rfl (fun hc51 => ?_) (fun hc51 => ?_)
        · rw [if_pos hc51] at h19
          refine C_seq ?_
          refine C_region ?_
          refine V_y (Y_assign rfl) rfl rfl rfl ?_
          refine V_to (fun _ _ => rfl) ?_
          obtain rfl := Option.some.inj h19
          obtain rfl := (h20 : Lp.rt _ = _)
          rw [Lp.andThen_rt] at hm
          obtain rfl := Option.some.inj hm
          refine C_ret ?_
          try simp only [↓inBlock_ret, ↓then_ret]
          exact retQ rfl (Res.one Try.results20 rfl) ⟨rfl, hK.kp⟩
        · rw [if_neg (nt hc51)] at h19
          refine C_skip_to (fun _ _ => rfl) ?_
          refine C_seq ?_
          obtain ⟨s53, ho52, h19⟩ := Option.bind_eq_some_iff.1 h19
          refine C_cutG (ι := (Nat → Prop)) (fun (A58 : (Nat → Prop)) => [(0, v_l), (8, v_l), (9, .int .i64 (l.length : Int)), (10, .int .i64 (k7 : Int)), (60, .bool s53)]) (fun (A58 : (Nat → Prop)) => fun w' => Hp w.heap.size A58 w' ([]) ∧ Tr w.heap.size A16 w35 A58 w') ?_ ?_
          · have hr54 : Tr w.heap.size A16 w35 A16 w35 := Tr.refl hA
            refine C_region_qt 21 Try_mixed (by kernel_rfl) ?_
            simp only [List.take, List.drop]
            refine VQ_y (fun w' hw' => Y_move rfl) rfl rfl rfl ?_
            refine VQ_y (fun w' hw' => Y_gtr rfl rfl) rfl rfl rfl ?_
            refine VQ_y (fun w' hw' => Y_move rfl) rfl rfl rfl ?_
            rcases Bool.eq_false_or_eq_true (decide ((0 : Int) < (k7 : Int))) with hc60 | hc60
            · rw [if_pos hc60] at ho52
              refine VQ_ge rfl rfl rfl hc60 ?_
              refine VQ_y (fun w' hw' => Y_move rfl) rfl rfl rfl ?_
              refine VQ_ge rfl rfl rfl hc60 ?_
              refine VQ_y (fun w' hw' => Y_move rfl) rfl rfl rfl ?_
              refine VQ_ge rfl rfl rfl hc60 ?_
              refine VQ_y (fun w' hw' => Y_subI rfl rfl) rfl rfl rfl ?_
              refine VQ_ge rfl rfl rfl hc60 ?_
              obtain ⟨x61, hx61, ho52⟩ := Option.bind_eq_some_iff.1 ho52
              refine VQ_indexAddr h_l hx61 Try.underlying27 Try.sizeOf65 rfl rfl rfl ?_
              intro b62 o63 h64
              refine VQ_ge rfl rfl rfl hc60 ?_
              have h65 := El_staff_Form_0 h64
              refine VQ_y (fun w' hw' => Y_fieldAddr Try.underlying65 rfl Try.sizeOf3 (by decide) rfl) rfl rfl rfl ?_
              refine VQ_ge rfl rfl rfl hc60 ?_
              refine VQ_y (fun w' hw' => Y_load (El.int (El.kp h65 hw')) Try.isAgg3 rfl) rfl rfl rfl ?_
              refine VQ_ge rfl rfl rfl hc60 ?_
              have h66 := El_staff_Form_0 h37
              refine VQ_y (fun w' hw' => Y_fieldAddr Try.underlying65 rfl Try.sizeOf3 (by decide) rfl) rfl rfl rfl ?_
              refine VQ_ge rfl rfl rfl hc60 ?_
              refine VQ_y (fun w' hw' => Y_load (El.int (El.kp h66 hw')) Try.isAgg3 rfl) rfl rfl rfl ?_
              refine VQ_ge rfl rfl rfl hc60 ?_
              refine VQ_call (.int .i64 (cmp_Compare_int x61.from_ x27.from_)) Try.call49 rfl rfl rfl rfl (fun w' hw' => (cmp_Compare_int_c w' x61.from_ x27.from_).mono (fun _ _ h => ⟨h.1, h.2 ▸ hw'⟩)) ?_
              refine VQ_ge rfl rfl rfl hc60 ?_
              refine VQ_y (fun w' hw' => Y_move rfl) rfl rfl rfl ?_
              refine VQ_ge rfl rfl rfl hc60 ?_
              refine VQ_y (fun w' hw' => Y_move rfl) rfl rfl rfl ?_
              refine VQ_ge rfl rfl rfl hc60 ?_
              refine VQ_y (fun w' hw' => Y_subI rfl rfl) rfl rfl rfl ?_
              refine VQ_ge rfl rfl rfl hc60 ?_
              refine VQ_indexAddr h_l hx61 Try.underlying27 Try.sizeOf65 rfl rfl rfl ?_
              intro b67 o68 h69
              refine VQ_ge rfl rfl rfl hc60 ?_
              have h70 := El_staff_Form_1 h69
              refine VQ_y (fun w' hw' => Y_fieldAddr Try.underlying65 rfl Try.sizeOf3 (by decide) rfl) rfl rfl rfl ?_
              refine VQ_ge rfl rfl rfl hc60 ?_
              refine VQ_y (fun w' hw' => Y_load (El.int (El.kp h70 hw')) Try.isAgg3 rfl) rfl rfl rfl ?_
              refine VQ_ge rfl rfl rfl hc60 ?_
              have h71 := El_staff_Form_1 h37
              refine VQ_y (fun w' hw' => Y_fieldAddr Try.underlying65 rfl Try.sizeOf3 (by decide) rfl) rfl rfl rfl ?_
              refine VQ_ge rfl rfl rfl hc60 ?_
              refine VQ_y (fun w' hw' => Y_load (El.int (El.kp h71 hw')) Try.isAgg3 rfl) rfl rfl rfl ?_
              refine VQ_ge rfl rfl rfl hc60 ?_
              refine VQ_call (.int .i64 (cmp_Compare_int x61.slots x27.slots)) Try.call49 rfl rfl rfl rfl (fun w' hw' => (cmp_Compare_int_c w' x61.slots x27.slots).mono (fun _ _ h => ⟨h.1, h.2 ▸ hw'⟩)) ?_
              refine VQ_tail (fun w72 hk73 => ?_)
              try simp only [List.take, List.drop]
              have ht74 := Kp.tr hk73 hA hB
              replace hH := Hp.kp hH hk73
              replace h_l := Sl.tr h_l ht74
              replace h37 := El.tr h37 ht74
              replace h64 := El.tr h64 ht74
              replace h65 := El.tr h65 ht74
              replace h66 := El.tr h66 ht74
              replace h69 := El.tr h69 ht74
              replace h70 := El.tr h70 ht74
              replace h71 := El.tr h71 ht74
              replace hK := Tr.trans hK ht74
              replace hr6 := Tr.trans hr6 ht74
              replace hr54 := Tr.trans hr54 ht74
              replace hB := Nat.le_trans hB ht74.ex.size
              replace hA := ht74.new
              refine V_ge rfl rfl rfl hc60 ?_
              refine V_buildSlice (l := ([(cmp_Compare_int x61.from_ x27.from_), (cmp_Compare_int x61.slots x27.slots)] : List Int)) (len := 2) Try.underlying22 Try.sizeOf3 Try.zeroValue3 rfl (by with_unfolding_all rfl) (by decide) (by decide) hA ⟨[.int .i64 (cmp_Compare_int x61.from_ x27.from_)], _, rfl, rfl, ⟨[.int .i64 (cmp_Compare_int x61.slots x27.slots)], _, rfl, rfl, rfl⟩⟩ rfl rfl ?_
              intro v75 w76 hk78 h77
              have ht79 := Kp.tr hk78 hA hB
              replace hH := Hp.kp hH hk78
              replace h_l := Sl.tr h_l ht79
              replace h37 := El.tr h37 ht79
              replace h64 := El.tr h64 ht79
              replace h65 := El.tr h65 ht79
              replace h66 := El.tr h66 ht79
              replace h69 := El.tr h69 ht79
              replace h70 := El.tr h70 ht79
              replace h71 := El.tr h71 ht79
              replace hK := Tr.trans hK ht79
              replace hr6 := Tr.trans hr6 ht79
              replace hr54 := Tr.trans hr54 ht79
              replace hB := Nat.le_trans hB ht79.ex.size
              replace hA := ht79.new
              refine V_ge rfl rfl rfl hc60 ?_
              obtain ⟨x80, hx80, ho52⟩ := Option.bind_eq_some_iff.1 ho52
              refine V_call Try.call48 rfl rfl rfl rfl (cmp_Or_int_c w76 ([(cmp_Compare_int x61.from_ x27.from_), (cmp_Compare_int x61.slots x27.slots)] : List Int) v75 h77 hx80) ?_
              rintro _ _ ⟨rfl, rfl⟩
              refine V_ge rfl rfl rfl hc60 ?_
              refine V_y (Y_geq rfl rfl) rfl rfl rfl ?_
              refine V_y (Y_pick_te rfl hc60 rfl) rfl rfl rfl ?_
              obtain rfl := Option.some.inj ho52
              refine V_end (fun a ha81 => ?_)
              exact ⟨A16, ha81.sub ⟨rfl, rfl, rfl, rfl, rfl, trivial⟩, ⟨hH, hr54⟩⟩
            · rw [if_neg (nt hc60)] at ho52
              refine VQ_gn rfl rfl rfl hc60 rfl rfl rfl ?_
              refine VQ_gn rfl rfl rfl hc60 rfl rfl rfl ?_
              refine VQ_gn rfl rfl rfl hc60 rfl rfl rfl ?_
              refine VQ_gn rfl rfl rfl hc60 rfl rfl rfl ?_
              refine VQ_gn rfl rfl rfl hc60 rfl rfl rfl ?_
              refine VQ_gn rfl rfl rfl hc60 rfl rfl rfl ?_
              refine VQ_gn rfl rfl rfl hc60 rfl rfl rfl ?_
              refine VQ_gn rfl rfl rfl hc60 rfl rfl rfl ?_
              refine VQ_gn rfl rfl rfl hc60 rfl rfl rfl ?_
              refine VQ_gn rfl rfl rfl hc60 rfl rfl rfl ?_
              refine VQ_gn rfl rfl rfl hc60 rfl rfl rfl ?_
              refine VQ_gn rfl rfl rfl hc60 rfl rfl rfl ?_
              refine VQ_gn rfl rfl rfl hc60 rfl rfl rfl ?_
              refine VQ_gn rfl rfl rfl hc60 rfl rfl rfl ?_
              refine VQ_gn rfl rfl rfl hc60 rfl rfl rfl ?_
              refine VQ_gn rfl rfl rfl hc60 rfl rfl rfl ?_
              refine VQ_gn rfl rfl rfl hc60 rfl rfl rfl ?_
              refine VQ_gn rfl rfl rfl hc60 rfl rfl rfl ?_
              refine VQ_tail (fun w82 hk83 => ?_)
              try simp only [List.take, List.drop]
              have ht84 := Kp.tr hk83 hA hB
              replace hH := Hp.kp hH hk83
              replace h_l := Sl.tr h_l ht84
              replace h37 := El.tr h37 ht84
              replace hK := Tr.trans hK ht84
              replace hr6 := Tr.trans hr6 ht84
              replace hr54 := Tr.trans hr54 ht84
              replace hB := Nat.le_trans hB ht84.ex.size
              replace hA := ht84.new
              refine V_gn rfl rfl rfl hc60 rfl rfl rfl ?_
              refine V_gn rfl rfl rfl hc60 rfl rfl rfl ?_
              refine V_gn rfl rfl rfl hc60 rfl rfl rfl ?_
              refine V_y (Y_pick_fe rfl hc60 rfl) rfl rfl rfl ?_
              obtain rfl := Option.some.inj ho52
              refine V_end (fun a ha85 => ?_)
              exact ⟨A16, ha85.sub ⟨rfl, rfl, rfl, rfl, rfl, trivial⟩, ⟨hH, hr54⟩⟩
          rintro A58 w55 ⟨hH59, hk56⟩ a ha57
          replace h_l := Sl.tr h_l hk56
          replace hK := Tr.trans hK hk56
          replace hr6 := Tr.trans hr6 hk56
          replace hB := Nat.le_trans hB hk56.ex.size
          replace hA := hk56.new
          replace hH : Hp w.heap.size A58 w55 ([]) := hH59
          refine C_at (n := ⟨62, [], none⟩) (fun _ _ => rfl) ?_ ha57
          refine C_cond rfl (fun hc86 => ?_) (fun hc86 => ?_)
          · rw [if_pos hc86] at h19
            refine C_seq ?_
            refine C_region ?_
            refine V_y (Y_assign rfl) rfl rfl rfl ?_
            refine V_to (fun _ _ => rfl) ?_
            obtain rfl := Option.some.inj h19
            obtain rfl := (h20 : Lp.rt _ = _)
            rw [Lp.andThen_rt] at hm
            obtain rfl := Option.some.inj hm
            refine C_ret ?_
            try simp only [↓inBlock_ret, ↓then_ret]
            exact retQ rfl (Res.one Try.results20 rfl) ⟨rfl, hK.kp⟩
          · rw [if_neg (nt hc86)] at h19
            refine C_skip_to (fun _ _ => rfl) ?_
            refine C_region ?_
            refine V_y (Y_addI rfl rfl) rfl rfl rfl ?_
            refine V_y (Y_move rfl) rfl rfl rfl ?_
            obtain rfl := Option.some.inj h19
            refine V_end (fun a ha87 => ?_)
            exact ⟨(), hlt22, h20, ⟨A58, ha87.sub ⟨rfl, rfl, rfl, (congrArg (fun z => some (Value.int .i64 z)) (w64_succ hlt22 hn25)), trivial⟩, ⟨hH, hr6⟩⟩⟩
      · refine C_exit (fun a ha88 => ?_)
        exact ⟨((), A16), ha88.sub trivial, ⟨(h23 (eq_of_dec hle21 hc26)).symm, hH, hr6⟩⟩
    rintro ⟨s5, A12⟩ w9 ⟨rfl, hH13, hk10⟩ a ha11
    rw [Lp.andThen_fin] at hm
    replace hK := Tr.trans hK hk10
    replace hB := Nat.le_trans hB hk10.ex.size
    replace hA := hk10.new
    replace hH : Hp w.heap.size A12 w9 ([]) := hH13
    refine C_at (n := ⟨62, [], none⟩) (fun _ _ => rfl) ?_ ha11
    refine C_seq ?_
    refine C_region ?_
    refine V_y (Y_assign rfl) rfl rfl rfl ?_
    refine V_to (fun _ _ => rfl) ?_
    obtain rfl := Option.some.inj hm
    refine C_ret ?_
    try simp only [↓inBlock_ret, ↓then_ret]
    exact retQ rfl (Res.one Try.results20 rfl) ⟨rfl, hK.kp⟩

set_option maxRecDepth 4000 in
set_option maxHeartbeats 4000000 in
theorem slices_IndexFunc_Lint_int_c (w : World) {A : Nat → Prop} (hA : ∀ b, w.heap.size ≤ b → A b) (s : (List Int)) (v_s : Value) (h_s : Sl A w v_s s) (f : Int → Option Bool) (f_f : FuncId) (f_a f_c : Array Value) (f_call : ∀ (args : Array Value) (w : World), (callFunc f_f args).run Try.prog w = .ok (.enter f_f args) w) (f_spec : ∀ (w1 : World) (A1 : Nat → Prop), Tr w.heap.size A w A1 w1 → (∀ b, w1.heap.size ≤ b → A1 b) → ∀ (y0 : Int) (r : Bool), f y0 = some r → Ret Try.prog f_f (f_a ++ #[.int .i64 y0] ++ f_c) w1 fun v w' => v = .bool r ∧ Kp w1 w') {r : Int} (hm : slices_IndexFunc_Lint_int s f = some r) : Ret Try.prog 68 #[v_s, .func (.func f_f) f_a f_c] w fun v w' => v = .int .i64 r ∧ Kp w w' := by
  unfold slices_IndexFunc_Lint_int at hm
  refine enter Try.func68 rfl Try.ntmps68 rfl ?_
  have hA0 := hA
  have hB := Nat.le_refl w.heap.size
  have hK : Tr w.heap.size A w A w := Tr.refl hA
  have hH : Hp w.heap.size A w [] := Hp.nil
  refine C_seq ?_
  refine C_region ?_
  refine V_y (Y_assign rfl) rfl rfl rfl ?_
  refine V_to (fun _ _ => rfl) ?_
  refine C_seq ?_
  refine C_seq ?_
  refine C_region ?_
  refine V_y (Y_move rfl) rfl rfl rfl ?_
  refine V_y (Y_lenSl h_s rfl Try.underlying22 rfl) rfl rfl rfl ?_
  refine V_y (Y_move rfl) rfl rfl rfl ?_
  refine V_to (fun _ _ => rfl) ?_
  have hn23 := Sl.le h_s
  obtain ⟨o3, ho3, hm⟩ := Option.bind_eq_some_iff.1 hm
  refine C_cutG (ι := (Unit × (Nat → Prop))) (fun ⟨s4, A10⟩ => []) (fun ⟨s4, A10⟩ => fun w' => o3 = .fin s4 ∧ Hp w.heap.size A10 w' ([]) ∧ Tr w.heap.size A w A10 w') ?_ ?_
  · refine C_block ?_
    refine C_range ho3 (fun k6 _ a w' => ∃ i : (Nat → Prop), Has ⟨19, [], none⟩ a ([(0, v_s), (1, .func (.func f_f) f_a f_c), (7, .int .i64 (s.length : Int)), (8, .int .i64 (k6 : Int))]) ∧ Hp w.heap.size i w' ([]) ∧ Tr w.heap.size A w i w') (fun a ha => ⟨A, ha.sub ⟨rfl, rfl, rfl, rfl, trivial⟩, ⟨hH, Tr.refl hA⟩⟩) ?_
    rintro K k6 _ a w13 ⟨A14, ha36, hH15, hr5⟩ hle19 K22 h21
    refine C_of ?_ ha36
    replace h_s := Sl.tr h_s hr5
    replace hK := Tr.trans hK hr5
    replace hB := Nat.le_trans hB hr5.ex.size
    replace hA := hr5.new
    replace hH : Hp w.heap.size A14 w13 ([]) := hH15
    refine C_seq (C_region (V_y (Y_lss rfl rfl) rfl rfl rfl (V_to (fun _ _ => rfl) ?_)))
    refine C_seq ?_
    refine C_cond rfl (fun hc24 => ?_) (fun hc24 => ?_)
    · have hlt20 := lt_of_dec hc24
      obtain ⟨x16, h17, h18⟩ := K22 hlt20
      refine C_skip_to (fun _ _ => rfl) ?_
      refine C_seq ?_
      refine C_block ?_
      refine C_seq ?_
      refine C_region ?_
      refine V_y (Y_move rfl) rfl rfl rfl ?_
      refine V_y (Y_assign rfl) rfl rfl rfl ?_
      refine V_to (fun _ _ => rfl) ?_
      refine C_seq ?_
      refine C_region ?_
      refine V_y (Y_move rfl) rfl rfl rfl ?_
      refine V_y (Y_move rfl) rfl rfl rfl ?_
      refine V_y (Y_move rfl) rfl rfl rfl ?_
      obtain ⟨x25, hx25, h17⟩ := Option.bind_eq_some_iff.1 h17
      refine V_indexAddr h_s hx25 Try.underlying22 Try.sizeOf3 rfl rfl rfl ?_
      intro b26 o27 h28
      refine V_y (Y_load (El.int h28) Try.isAgg3 rfl) rfl rfl rfl ?_
      obtain ⟨x29, hx29, h17⟩ := Option.bind_eq_some_iff.1 h17
      refine V_call f_call rfl rfl rfl rfl (f_spec w13 _ hK hA x25 _ hx29) ?_
      rintro _ w30 ⟨rfl, hk31⟩
      have ht32 := Kp.tr hk31 hA hB
      replace hH := Hp.kp hH hk31
      replace h_s := Sl.tr h_s ht32
      replace h28 := El.tr h28 ht32
      replace hK := Tr.trans hK ht32
      replace hr5 := Tr.trans hr5 ht32
      replace hB := Nat.le_trans hB ht32.ex.size
      replace hA := ht32.new
      refine V_to (fun _ _ => rfl) ?_
      refine C_cond rfl (fun hc33 => ?_) (fun hc33 => ?_)
      · rw [if_pos hc33] at h17
        refine C_seq ?_
        refine C_region ?_
        refine V_y (Y_move rfl) rfl rfl rfl ?_
        refine V_y (Y_assign rfl) rfl rfl rfl ?_
        refine V_to (fun _ _ => rfl) ?_
        obtain rfl := Option.some.inj h17
        obtain rfl := (h18 : Lp.rt _ = _)
        rw [Lp.andThen_rt] at hm
        obtain rfl := Option.some.inj hm
        refine C_ret ?_
        try simp only [↓inBlock_ret, ↓then_ret]
        exact retQ rfl (Res.one Try.results68 rfl) ⟨rfl, hK.kp⟩
      · rw [if_neg (nt hc33)] at h17
        refine C_skip_to (fun _ _ => rfl) ?_
        refine C_region ?_
        refine V_y (Y_addI rfl rfl) rfl rfl rfl ?_
        refine V_y (Y_move rfl) rfl rfl rfl ?_
        obtain rfl := Option.some.inj h17
        refine V_end (fun a ha34 => ?_)
        exact ⟨(), hlt20, h18, ⟨A14, ha34.sub ⟨rfl, rfl, rfl, (congrArg (fun z => some (Value.int .i64 z)) (w64_succ hlt20 hn23)), trivial⟩, ⟨hH, hr5⟩⟩⟩
    · refine C_exit (fun a ha35 => ?_)
      exact ⟨((), A14), ha35.sub trivial, ⟨(h21 (eq_of_dec hle19 hc24)).symm, hH, hr5⟩⟩
  rintro ⟨s4, A10⟩ w7 ⟨rfl, hH11, hk8⟩ a ha9
  rw [Lp.andThen_fin] at hm
  replace hK := Tr.trans hK hk8
  replace hB := Nat.le_trans hB hk8.ex.size
  replace hA := hk8.new
  replace hH : Hp w.heap.size A10 w7 ([]) := hH11
  refine C_at (n := ⟨19, [], none⟩) (fun _ _ => rfl) ?_ ha9
  refine C_seq ?_
  refine C_region ?_
  refine V_y (Y_assign rfl) rfl rfl rfl ?_
  refine V_to (fun _ _ => rfl) ?_
  obtain rfl := Option.some.inj hm
  refine C_ret ?_
  try simp only [↓inBlock_ret, ↓then_ret]
  exact retQ rfl (Res.one Try.results68 rfl) ⟨rfl, hK.kp⟩

set_option maxRecDepth 4000 in
set_option maxHeartbeats 4000000 in
theorem slices_ContainsFunc_Lint_int_c (w : World) {A : Nat → Prop} (hA : ∀ b, w.heap.size ≤ b → A b) (s : (List Int)) (v_s : Value) (h_s : Sl A w v_s s) (f : Int → Option Bool) (f_f : FuncId) (f_a f_c : Array Value) (f_call : ∀ (args : Array Value) (w : World), (callFunc f_f args).run Try.prog w = .ok (.enter f_f args) w) (f_spec : ∀ (w1 : World) (A1 : Nat → Prop), Tr w.heap.size A w A1 w1 → (∀ b, w1.heap.size ≤ b → A1 b) → ∀ (y0 : Int) (r : Bool), f y0 = some r → Ret Try.prog f_f (f_a ++ #[.int .i64 y0] ++ f_c) w1 fun v w' => v = .bool r ∧ Kp w1 w') {r : Bool} (hm : slices_ContainsFunc_Lint_int s f = some r) : Ret Try.prog 34 #[v_s, .func (.func f_f) f_a f_c] w fun v w' => v = .bool r ∧ Kp w w' := by
  unfold slices_ContainsFunc_Lint_int at hm
  refine enter Try.func34 rfl Try.ntmps34 rfl ?_
  have hA0 := hA
  have hB := Nat.le_refl w.heap.size
  have hK : Tr w.heap.size A w A w := Tr.refl hA
  have hH : Hp w.heap.size A w [] := Hp.nil
  refine C_seq ?_
  refine C_region ?_
  refine V_y (Y_assign rfl) rfl rfl rfl ?_
  refine V_to (fun _ _ => rfl) ?_
  refine C_seq ?_
  refine C_region ?_
  refine V_y (Y_move rfl) rfl rfl rfl ?_
  refine V_y (Y_move rfl) rfl rfl rfl ?_
  obtain ⟨x3, hx3, hm⟩ := Option.bind_eq_some_iff.1 hm
  refine V_call Try.call68 rfl rfl rfl rfl (slices_IndexFunc_Lint_int_c w hA s v_s h_s f f_f f_a f_c f_call (fun w1 A1 ht => f_spec w1 A1 (Tr.trans hK ht)) hx3) ?_
  rintro _ w4 ⟨rfl, hk5⟩
  have ht6 := Kp.tr hk5 hA hB
  replace hH := Hp.kp hH hk5
  replace h_s := Sl.tr h_s ht6
  replace hK := Tr.trans hK ht6
  replace hB := Nat.le_trans hB ht6.ex.size
  replace hA := ht6.new
  refine V_y (Y_geq rfl rfl) rfl rfl rfl ?_
  refine V_y (Y_assign rfl) rfl rfl rfl ?_
  refine V_to (fun _ _ => rfl) ?_
  obtain rfl := Option.some.inj hm
  refine C_ret ?_
  try simp only [↓inBlock_ret, ↓then_ret]
  exact retQ rfl (Res.one Try.results34 rfl) ⟨rfl, hK.kp⟩

set_option maxRecDepth 4000 in
set_option maxHeartbeats 4000000 in
theorem portref2_outside_1_c (w : World) {A : Nat → Prop} (n : Int) (p1 : Int) (b_p1 : Nat) (h_p1 : El A w b_p1 0 p1) {r : Bool} (hm : portref2_outside_1 n p1 = some r) : Ret Try.prog 71 #[.int .i64 n, .pointer (some ⟨b_p1, 0, none⟩)] w fun v w' => v = .bool r ∧ w = w' := by
  unfold portref2_outside_1 at hm
  refine enter Try.func71 rfl Try.ntmps71 rfl ?_
  refine C_seq ?_
  refine C_region ?_
  refine V_y (Y_assign rfl) rfl rfl rfl ?_
  refine V_to (fun _ _ => rfl) ?_
  refine C_seq ?_
  refine C_region ?_
  refine V_y (Y_move rfl) rfl rfl rfl ?_
  refine V_y (Y_lss rfl rfl) rfl rfl rfl ?_
  refine V_y (Y_move rfl) rfl rfl rfl ?_
  refine V_cut 4 (fun _ : Unit => [(10, .bool ((decide (n < 0)) || (decide (p1 < n))))]) (fun _ w' => w = w') ?_ ?_
  · simp only [List.take, List.drop]
    rcases Bool.eq_false_or_eq_true (decide (n < 0)) with hc1 | hc1
    · refine V_gn rfl rfl rfl hc1 rfl rfl rfl ?_
      refine V_gn rfl rfl rfl hc1 rfl rfl rfl ?_
      refine V_gn rfl rfl rfl hc1 rfl rfl rfl ?_
      refine V_y (Y_pick_te rfl hc1 rfl) rfl rfl rfl ?_
      exact V_end fun a ha => ⟨(), ha.sub ⟨(by rw [hc1]; rfl), trivial⟩, rfl⟩
    · refine V_ge rfl rfl rfl hc1 ?_
      refine V_y (Y_move rfl) rfl rfl rfl ?_
      refine V_ge rfl rfl rfl hc1 ?_
      refine V_y (Y_load (El.int h_p1) Try.isAgg3 rfl) rfl rfl rfl ?_
      refine V_ge rfl rfl rfl hc1 ?_
      refine V_y (Y_gtr rfl rfl) rfl rfl rfl ?_
      refine V_y (Y_pick_fe rfl hc1 rfl) rfl rfl rfl ?_
      exact V_end fun a ha => ⟨(), ha.sub ⟨(by rw [hc1]; rfl), trivial⟩, rfl⟩
  simp only [List.take, List.drop]
  rintro _ _ rfl
  refine V_y (Y_assign rfl) rfl rfl rfl ?_
  refine V_to (fun _ _ => rfl) ?_
  obtain rfl := Option.some.inj hm
  refine C_ret ?_
  try simp only [↓inBlock_ret, ↓then_ret]
  exact retQ rfl (Res.one Try.results71 rfl) ⟨rfl, rfl⟩

set_option maxRecDepth 4000 in
set_option maxHeartbeats 4000000 in
theorem portref2_outside_c (w : World) {A : Nat → Prop} (hA : ∀ b, w.heap.size ≤ b → A b) (l : (List Int)) (v_l : Value) (h_l : Sl A w v_l l) (most : Int) {r : Bool} (hm : portref2_outside l most = some r) : Ret Try.prog 44 #[v_l, .int .i64 most] w fun v w' => v = .bool r ∧ Kp w w' := by
  unfold portref2_outside at hm
  refine enter Try.func44 rfl Try.ntmps44 rfl ?_
  have hA0 := hA
  have hB := Nat.le_refl w.heap.size
  have hK : Tr w.heap.size A w A w := Tr.refl hA
  have hH : Hp w.heap.size A w [] := Hp.nil
  refine C_seq ?_
  refine C_region ?_
  refine V_box rfl rfl ?_
  intro b3 w4 h5
  have hk7 := h5.kp
  have h6 : El (α := Int) A w4 b3 0 most := h5.el hA rfl
  have ht8 := Kp.tr hk7 hA hB
  replace hH := Hp.kp hH hk7
  replace h_l := Sl.tr h_l ht8
  replace hK := Tr.trans hK ht8
  replace hB := Nat.le_trans hB ht8.ex.size
  replace hA := ht8.new
  refine V_y (Y_assign rfl) rfl rfl rfl ?_
  refine V_to (fun _ _ => rfl) ?_
  refine C_seq ?_
  refine C_region ?_
  refine V_y (Y_move rfl) rfl rfl rfl ?_
  refine V_y (Y_makeFunc rfl rfl) rfl rfl rfl ?_
  obtain ⟨x10, hx10, hm⟩ := Option.bind_eq_some_iff.1 hm
  refine V_call Try.call34 rfl rfl rfl rfl (slices_ContainsFunc_Lint_int_c w4 hA l v_l h_l (fun y18 => portref2_outside_1 y18 most) 71 #[] #[.pointer (some ⟨b3, 0, none⟩)] Try.call71 (fun w14 A15 ht16 h17 y11 r12 h13 => (portref2_outside_1_c w14  y11 most b3 (El.tr h6 ht16) h13).mono (fun _ _ h => ⟨h.1, h.2 ▸ Kp.refl _⟩)) hx10) ?_
  rintro _ w19 ⟨rfl, hk20⟩
  have ht21 := Kp.tr hk20 hA hB
  replace hH := Hp.kp hH hk20
  replace h_l := Sl.tr h_l ht21
  replace h6 := El.tr h6 ht21
  replace hK := Tr.trans hK ht21
  replace hB := Nat.le_trans hB ht21.ex.size
  replace hA := ht21.new
  refine V_y (Y_assign rfl) rfl rfl rfl ?_
  refine V_to (fun _ _ => rfl) ?_
  obtain rfl := Option.some.inj hm
  refine C_ret ?_
  try simp only [↓inBlock_ret, ↓then_ret]
  exact retQ rfl (Res.one Try.results44 rfl) ⟨rfl, hK.kp⟩

set_option maxRecDepth 4000 in
set_option maxHeartbeats 4000000 in
theorem portref2_demandFault_c (w : World) {A : Nat → Prop} (hA : ∀ b, w.heap.size ≤ b → A b) (l : (List Int)) (v_l : Value) (h_l : Sl A w v_l l) (most : Int) {r : Int} (hm : portref2_demandFault l most = some r) : Ret Try.prog 39 #[v_l, .int .i64 most] w fun v w' => v = .int .i64 r ∧ Kp w w' := by
  unfold portref2_demandFault at hm
  refine enter Try.func39 rfl Try.ntmps39 rfl ?_
  have hA0 := hA
  have hB := Nat.le_refl w.heap.size
  have hK : Tr w.heap.size A w A w := Tr.refl hA
  have hH : Hp w.heap.size A w [] := Hp.nil
  refine C_seq ?_
  refine C_region ?_
  refine V_y (Y_assign rfl) rfl rfl rfl ?_
  refine V_to (fun _ _ => rfl) ?_
  refine C_seq ?_
  refine C_block ?_
  refine C_seq ?_
  refine C_region ?_
  refine V_y (Y_move rfl) rfl rfl rfl ?_
  refine V_y (Y_lenSl h_l rfl Try.underlying22 rfl) rfl rfl rfl ?_
  refine V_y (Y_gtr rfl rfl) rfl rfl rfl ?_
  refine V_y (Y_assign rfl) rfl rfl rfl ?_
  refine V_to (fun _ _ => rfl) ?_
  refine C_cond rfl (fun hc3 => ?_) (fun hc3 => ?_)
  · rw [if_pos hc3] at hm
    refine C_seq ?_
    refine C_region ?_
    refine V_y (Y_assign rfl) rfl rfl rfl ?_
    refine V_to (fun _ _ => rfl) ?_
    obtain rfl := Option.some.inj hm
    refine C_ret ?_
    try simp only [↓inBlock_ret, ↓then_ret]
    exact retQ rfl (Res.one Try.results39 rfl) ⟨rfl, hK.kp⟩
  · rw [if_neg (nt hc3)] at hm
    refine C_seq ?_
    refine C_region ?_
    refine V_y (Y_move rfl) rfl rfl rfl ?_
    refine V_y (Y_move rfl) rfl rfl rfl ?_
    obtain ⟨x4, hx4, hm⟩ := Option.bind_eq_some_iff.1 hm
    refine V_call Try.call44 rfl rfl rfl rfl (portref2_outside_c w hA l v_l h_l most hx4) ?_
    rintro _ w5 ⟨rfl, hk6⟩
    have ht7 := Kp.tr hk6 hA hB
    replace hH := Hp.kp hH hk6
    replace h_l := Sl.tr h_l ht7
    replace hK := Tr.trans hK ht7
    replace hB := Nat.le_trans hB ht7.ex.size
    replace hA := ht7.new
    refine V_y (Y_assign rfl) rfl rfl rfl ?_
    refine V_to (fun _ _ => rfl) ?_
    refine C_cond rfl (fun hc8 => ?_) (fun hc8 => ?_)
    · rw [if_pos hc8] at hm
      refine C_seq ?_
      refine C_region ?_
      refine V_y (Y_assign rfl) rfl rfl rfl ?_
      refine V_to (fun _ _ => rfl) ?_
      obtain rfl := Option.some.inj hm
      refine C_ret ?_
      try simp only [↓inBlock_ret, ↓then_ret]
      exact retQ rfl (Res.one Try.results39 rfl) ⟨rfl, hK.kp⟩
    · rw [if_neg (nt hc8)] at hm
      refine C_skip_to (fun _ _ => rfl) ?_
      refine C_seq ?_
      refine C_region ?_
      refine V_y (Y_assign rfl) rfl rfl rfl ?_
      refine V_to (fun _ _ => rfl) ?_
      obtain rfl := Option.some.inj hm
      refine C_ret ?_
      try simp only [↓inBlock_ret, ↓then_ret]
      exact retQ rfl (Res.one Try.results39 rfl) ⟨rfl, hK.kp⟩

set_option maxRecDepth 4000 in
set_option maxHeartbeats 4000000 in
theorem slices_IndexFunc_Lstaff_Form_staff_Form_c (w : World) {A : Nat → Prop} (hA : ∀ b, w.heap.size ≤ b → A b) (s : (List staff_Form)) (v_s : Value) (h_s : Sl A w v_s s) (f : staff_Form → Option Bool) (f_f : FuncId) (f_a f_c : Array Value) (f_call : ∀ (args : Array Value) (w : World), (callFunc f_f args).run Try.prog w = .ok (.enter f_f args) w) (f_spec : ∀ (w1 : World) (A1 : Nat → Prop), Tr w.heap.size A w A1 w1 → (∀ b, w1.heap.size ≤ b → A1 b) → ∀ (y0 : staff_Form) (r : Bool), f y0 = some r → Ret Try.prog f_f (f_a ++ #[.agg #[.int .i64 y0.from_, .int .i64 y0.slots]] ++ f_c) w1 fun v w' => v = .bool r ∧ Kp w1 w') {r : Int} (hm : slices_IndexFunc_Lstaff_Form_staff_Form s f = some r) : Ret Try.prog 70 #[v_s, .func (.func f_f) f_a f_c] w fun v w' => v = .int .i64 r ∧ Kp w w' := by
  unfold slices_IndexFunc_Lstaff_Form_staff_Form at hm
  refine enter Try.func70 rfl Try.ntmps70 rfl ?_
  have hA0 := hA
  have hB := Nat.le_refl w.heap.size
  have hK : Tr w.heap.size A w A w := Tr.refl hA
  have hH : Hp w.heap.size A w [] := Hp.nil
  refine C_seq ?_
  refine C_region ?_
  refine V_y (Y_assign rfl) rfl rfl rfl ?_
  refine V_to (fun _ _ => rfl) ?_
  refine C_seq ?_
  refine C_seq ?_
  refine C_region ?_
  refine V_y (Y_move rfl) rfl rfl rfl ?_
  refine V_y (Y_lenSl h_s rfl Try.underlying27 rfl) rfl rfl rfl ?_
  refine V_y (Y_move rfl) rfl rfl rfl ?_
  refine V_to (fun _ _ => rfl) ?_
  have hn23 := Sl.le h_s
  obtain ⟨o3, ho3, hm⟩ := Option.bind_eq_some_iff.1 hm
  refine C_cutG (ι := (Unit × (Nat → Prop))) (fun ⟨s4, A10⟩ => []) (fun ⟨s4, A10⟩ => fun w' => o3 = .fin s4 ∧ Hp w.heap.size A10 w' ([]) ∧ Tr w.heap.size A w A10 w') ?_ ?_
  · refine C_block ?_
    refine C_range ho3 (fun k6 _ a w' => ∃ i : (Nat → Prop), Has ⟨19, [], none⟩ a ([(0, v_s), (1, .func (.func f_f) f_a f_c), (7, .int .i64 (s.length : Int)), (8, .int .i64 (k6 : Int))]) ∧ Hp w.heap.size i w' ([]) ∧ Tr w.heap.size A w i w') (fun a ha => ⟨A, ha.sub ⟨rfl, rfl, rfl, rfl, trivial⟩, ⟨hH, Tr.refl hA⟩⟩) ?_
    rintro K k6 _ a w13 ⟨A14, ha37, hH15, hr5⟩ hle19 K22 h21
    refine C_of ?_ ha37
    replace h_s := Sl.tr h_s hr5
    replace hK := Tr.trans hK hr5
    replace hB := Nat.le_trans hB hr5.ex.size
    replace hA := hr5.new
    replace hH : Hp w.heap.size A14 w13 ([]) := hH15
    refine C_seq (C_region (V_y (Y_lss rfl rfl) rfl rfl rfl (V_to (fun _ _ => rfl) ?_)))
    refine C_seq ?_
    refine C_cond rfl (fun hc24 => ?_) (fun hc24 => ?_)
    · have hlt20 := lt_of_dec hc24
      obtain ⟨x16, h17, h18⟩ := K22 hlt20
      refine C_skip_to (fun _ _ => rfl) ?_
      refine C_seq ?_
      refine C_block ?_
      refine C_seq ?_
      refine C_region ?_
      refine V_y (Y_move rfl) rfl rfl rfl ?_
      refine V_y (Y_assign rfl) rfl rfl rfl ?_
      refine V_to (fun _ _ => rfl) ?_
      refine C_seq ?_
      refine C_region ?_
      refine V_y (Y_move rfl) rfl rfl rfl ?_
      refine V_y (Y_move rfl) rfl rfl rfl ?_
      refine V_y (Y_move rfl) rfl rfl rfl ?_
      obtain ⟨x25, hx25, h17⟩ := Option.bind_eq_some_iff.1 h17
      refine V_indexAddr h_s hx25 Try.underlying27 Try.sizeOf65 rfl rfl rfl ?_
      intro b26 o27 h28
      obtain ⟨h29, _⟩ := El_staff_Form h28
      refine V_y (Y_loadA h29 Try.isAgg65 Try.sizeOf65 rfl) rfl rfl rfl ?_
      obtain ⟨x30, hx30, h17⟩ := Option.bind_eq_some_iff.1 h17
      refine V_call f_call rfl rfl rfl rfl (f_spec w13 _ hK hA x25 _ hx30) ?_
      rintro _ w31 ⟨rfl, hk32⟩
      have ht33 := Kp.tr hk32 hA hB
      replace hH := Hp.kp hH hk32
      replace h_s := Sl.tr h_s ht33
      replace h28 := El.tr h28 ht33
      replace hK := Tr.trans hK ht33
      replace hr5 := Tr.trans hr5 ht33
      replace hB := Nat.le_trans hB ht33.ex.size
      replace hA := ht33.new
      refine V_to (fun _ _ => rfl) ?_
      refine C_cond rfl (fun hc34 => ?_) (fun hc34 => ?_)
      · rw [if_pos hc34] at h17
        refine C_seq ?_
        refine C_region ?_
        refine V_y (Y_move rfl) rfl rfl rfl ?_
        refine V_y (Y_assign rfl) rfl rfl rfl ?_
        refine V_to (fun _ _ => rfl) ?_
        obtain rfl := Option.some.inj h17
        obtain rfl := (h18 : Lp.rt _ = _)
        rw [Lp.andThen_rt] at hm
        obtain rfl := Option.some.inj hm
        refine C_ret ?_
        try simp only [↓inBlock_ret, ↓then_ret]
        exact retQ rfl (Res.one Try.results70 rfl) ⟨rfl, hK.kp⟩
      · rw [if_neg (nt hc34)] at h17
        refine C_skip_to (fun _ _ => rfl) ?_
        refine C_region ?_
        refine V_y (Y_addI rfl rfl) rfl rfl rfl ?_
        refine V_y (Y_move rfl) rfl rfl rfl ?_
        obtain rfl := Option.some.inj h17
        refine V_end (fun a ha35 => ?_)
        exact ⟨(), hlt20, h18, ⟨A14, ha35.sub ⟨rfl, rfl, rfl, (congrArg (fun z => some (Value.int .i64 z)) (w64_succ hlt20 hn23)), trivial⟩, ⟨hH, hr5⟩⟩⟩
    · refine C_exit (fun a ha36 => ?_)
      exact ⟨((), A14), ha36.sub trivial, ⟨(h21 (eq_of_dec hle19 hc24)).symm, hH, hr5⟩⟩
  rintro ⟨s4, A10⟩ w7 ⟨rfl, hH11, hk8⟩ a ha9
  rw [Lp.andThen_fin] at hm
  replace hK := Tr.trans hK hk8
  replace hB := Nat.le_trans hB hk8.ex.size
  replace hA := hk8.new
  replace hH : Hp w.heap.size A10 w7 ([]) := hH11
  refine C_at (n := ⟨19, [], none⟩) (fun _ _ => rfl) ?_ ha9
  refine C_seq ?_
  refine C_region ?_
  refine V_y (Y_assign rfl) rfl rfl rfl ?_
  refine V_to (fun _ _ => rfl) ?_
  obtain rfl := Option.some.inj hm
  refine C_ret ?_
  try simp only [↓inBlock_ret, ↓then_ret]
  exact retQ rfl (Res.one Try.results70 rfl) ⟨rfl, hK.kp⟩

set_option maxRecDepth 4000 in
set_option maxHeartbeats 4000000 in
theorem slices_ContainsFunc_Lstaff_Form_staff_Form_c (w : World) {A : Nat → Prop} (hA : ∀ b, w.heap.size ≤ b → A b) (s : (List staff_Form)) (v_s : Value) (h_s : Sl A w v_s s) (f : staff_Form → Option Bool) (f_f : FuncId) (f_a f_c : Array Value) (f_call : ∀ (args : Array Value) (w : World), (callFunc f_f args).run Try.prog w = .ok (.enter f_f args) w) (f_spec : ∀ (w1 : World) (A1 : Nat → Prop), Tr w.heap.size A w A1 w1 → (∀ b, w1.heap.size ≤ b → A1 b) → ∀ (y0 : staff_Form) (r : Bool), f y0 = some r → Ret Try.prog f_f (f_a ++ #[.agg #[.int .i64 y0.from_, .int .i64 y0.slots]] ++ f_c) w1 fun v w' => v = .bool r ∧ Kp w1 w') {r : Bool} (hm : slices_ContainsFunc_Lstaff_Form_staff_Form s f = some r) : Ret Try.prog 41 #[v_s, .func (.func f_f) f_a f_c] w fun v w' => v = .bool r ∧ Kp w w' := by
  unfold slices_ContainsFunc_Lstaff_Form_staff_Form at hm
  refine enter Try.func41 rfl Try.ntmps41 rfl ?_
  have hA0 := hA
  have hB := Nat.le_refl w.heap.size
  have hK : Tr w.heap.size A w A w := Tr.refl hA
  have hH : Hp w.heap.size A w [] := Hp.nil
  refine C_seq ?_
  refine C_region ?_
  refine V_y (Y_assign rfl) rfl rfl rfl ?_
  refine V_to (fun _ _ => rfl) ?_
  refine C_seq ?_
  refine C_region ?_
  refine V_y (Y_move rfl) rfl rfl rfl ?_
  refine V_y (Y_move rfl) rfl rfl rfl ?_
  obtain ⟨x3, hx3, hm⟩ := Option.bind_eq_some_iff.1 hm
  refine V_call Try.call70 rfl rfl rfl rfl (slices_IndexFunc_Lstaff_Form_staff_Form_c w hA s v_s h_s f f_f f_a f_c f_call (fun w1 A1 ht => f_spec w1 A1 (Tr.trans hK ht)) hx3) ?_
  rintro _ w4 ⟨rfl, hk5⟩
  have ht6 := Kp.tr hk5 hA hB
  replace hH := Hp.kp hH hk5
  replace h_s := Sl.tr h_s ht6
  replace hK := Tr.trans hK ht6
  replace hB := Nat.le_trans hB ht6.ex.size
  replace hA := ht6.new
  refine V_y (Y_geq rfl rfl) rfl rfl rfl ?_
  refine V_y (Y_assign rfl) rfl rfl rfl ?_
  refine V_to (fun _ _ => rfl) ?_
  obtain rfl := Option.some.inj hm
  refine C_ret ?_
  try simp only [↓inBlock_ret, ↓then_ret]
  exact retQ rfl (Res.one Try.results41 rfl) ⟨rfl, hK.kp⟩

set_option maxRecDepth 4000 in
set_option maxHeartbeats 4000000 in
theorem portref2_PlanOf_2_c (w : World) {A : Nat → Prop} (hA : ∀ b, w.heap.size ≤ b → A b) (f : staff_Form) (p1 : staff_Form → Int → Option Bool) (p1_f : FuncId) (p1_a p1_c : Array Value) (p1_call : ∀ (args : Array Value) (w : World), (callFunc p1_f args).run Try.prog w = .ok (.enter p1_f args) w) (p1_spec : ∀ (w1 : World) (A1 : Nat → Prop), Tr w.heap.size A w A1 w1 → (∀ b, w1.heap.size ≤ b → A1 b) → ∀ (y0 : staff_Form) (y1 : Int) (r : Bool), p1 y0 y1 = some r → Ret Try.prog p1_f (p1_a ++ #[.agg #[.int .i64 y0.from_, .int .i64 y0.slots], .int .i64 y1] ++ p1_c) w1 fun v w' => v = .bool r ∧ Kp w1 w') (b_p1 : Nat) (h_p1 : Vb A w b_p1 (.func (.func p1_f) p1_a p1_c)) (p2 : Int) (b_p2 : Nat) (h_p2 : El A w b_p2 0 p2) {r : Bool} (hm : portref2_PlanOf_2 f p1 p2 = some r) : Ret Try.prog 42 #[.agg #[.int .i64 f.from_, .int .i64 f.slots], .pointer (some ⟨b_p1, 0, none⟩), .pointer (some ⟨b_p2, 0, none⟩)] w fun v w' => v = .bool r ∧ Kp w w' := by
  unfold portref2_PlanOf_2 at hm
  refine enter Try.func42 rfl Try.ntmps42 rfl ?_
  have hA0 := hA
  have hB := Nat.le_refl w.heap.size
  have hK : Tr w.heap.size A w A w := Tr.refl hA
  have hH : Hp w.heap.size A w [] := Hp.nil
  refine C_seq ?_
  refine C_region ?_
  refine V_box rfl rfl ?_
  intro b1 w2 h3
  have hk5 := h3.kp
  have h4 : El (α := staff_Form) A w2 b1 0 f := h3.el hA ⟨[.int .i64 f.from_], _, rfl, rfl, rfl⟩
  have ht6 := Kp.tr hk5 hA hB
  replace hH := Hp.kp hH hk5
  replace h_p1 := Vb.tr h_p1 ht6
  replace h_p2 := El.tr h_p2 ht6
  replace hK := Tr.trans hK ht6
  replace hB := Nat.le_trans hB ht6.ex.size
  replace hA := ht6.new
  refine V_y (Y_assign rfl) rfl rfl rfl ?_
  refine V_to (fun _ _ => rfl) ?_
  refine C_seq ?_
  refine C_region ?_
  refine V_y (Y_load h_p1.2.2 Try.isAgg66 rfl) rfl rfl rfl ?_
  obtain ⟨h7, _⟩ := El_staff_Form h4
  refine V_y (Y_loadA h7 Try.isAgg65 Try.sizeOf65 rfl) rfl rfl rfl ?_
  refine V_y (Y_load (El.int h_p2) Try.isAgg3 rfl) rfl rfl rfl ?_
  obtain ⟨x8, hx8, hm⟩ := Option.bind_eq_some_iff.1 hm
  refine V_call p1_call rfl rfl rfl rfl (p1_spec w2 _ hK hA f p2 _ hx8) ?_
  rintro _ w9 ⟨rfl, hk10⟩
  have ht11 := Kp.tr hk10 hA hB
  replace hH := Hp.kp hH hk10
  replace h_p1 := Vb.tr h_p1 ht11
  replace h_p2 := El.tr h_p2 ht11
  replace h4 := El.tr h4 ht11
  replace hK := Tr.trans hK ht11
  replace hB := Nat.le_trans hB ht11.ex.size
  replace hA := ht11.new
  refine V_y (Y_assign rfl) rfl rfl rfl ?_
  refine V_to (fun _ _ => rfl) ?_
  obtain rfl := Option.some.inj hm
  refine C_ret ?_
  try simp only [↓inBlock_ret, ↓then_ret]
  exact retQ rfl (Res.one Try.results42 rfl) ⟨rfl, hK.kp⟩

set_option maxRecDepth 4000 in
set_option maxHeartbeats 4000000 in
theorem portref2_PlanOf_1_c (w : World) {A : Nat → Prop} (hA : ∀ b, w.heap.size ≤ b → A b) (f : staff_Form) (s : Int) {r : Bool} (hm : portref2_PlanOf_1 f s = some r) : Ret Try.prog 40 #[.agg #[.int .i64 f.from_, .int .i64 f.slots], .int .i64 s] w fun v w' => v = .bool r ∧ Kp w w' := by
  unfold portref2_PlanOf_1 at hm
  refine enter Try.func40 rfl Try.ntmps40 rfl ?_
  have hA0 := hA
  have hB := Nat.le_refl w.heap.size
  have hK : Tr w.heap.size A w A w := Tr.refl hA
  have hH : Hp w.heap.size A w [] := Hp.nil
  refine C_seq ?_
  refine C_region ?_
  refine V_box rfl rfl ?_
  intro b1 w2 h3
  have hk5 := h3.kp
  have h4 : El (α := staff_Form) A w2 b1 0 f := h3.el hA ⟨[.int .i64 f.from_], _, rfl, rfl, rfl⟩
  have ht6 := Kp.tr hk5 hA hB
  replace hH := Hp.kp hH hk5
  replace hK := Tr.trans hK ht6
  replace hB := Nat.le_trans hB ht6.ex.size
  replace hA := ht6.new
  refine V_y (Y_assign rfl) rfl rfl rfl ?_
  refine V_to (fun _ _ => rfl) ?_
  refine C_seq ?_
  refine C_region ?_
  refine V_y (Y_move rfl) rfl rfl rfl ?_
  have h7 := El_staff_Form_0 h4
  refine V_y (Y_fieldAddr Try.underlying65 rfl Try.sizeOf3 (by decide) rfl) rfl rfl rfl ?_
  refine V_y (Y_load (El.int h7) Try.isAgg3 rfl) rfl rfl rfl ?_
  refine V_y (Y_geq rfl rfl) rfl rfl rfl ?_
  refine V_y (Y_move rfl) rfl rfl rfl ?_
  refine V_cut 8 (fun _ : Unit => [(17, .bool ((decide (f.from_ ≤ s)) && (decide (s < (w64 (f.from_ + f.slots))))))]) (fun _ w' => w2 = w') ?_ ?_
  · simp only [List.take, List.drop]
    rcases Bool.eq_false_or_eq_true (decide (f.from_ ≤ s)) with hc8 | hc8
    · refine V_ge rfl rfl rfl hc8 ?_
      refine V_y (Y_move rfl) rfl rfl rfl ?_
      refine V_ge rfl rfl rfl hc8 ?_
      have h10 := El_staff_Form_0 h4
      refine V_y (Y_fieldAddr Try.underlying65 rfl Try.sizeOf3 (by decide) rfl) rfl rfl rfl ?_
      refine V_ge rfl rfl rfl hc8 ?_
      refine V_y (Y_load (El.int h10) Try.isAgg3 rfl) rfl rfl rfl ?_
      refine V_ge rfl rfl rfl hc8 ?_
      have h11 := El_staff_Form_1 h4
      refine V_y (Y_fieldAddr Try.underlying65 rfl Try.sizeOf3 (by decide) rfl) rfl rfl rfl ?_
      refine V_ge rfl rfl rfl hc8 ?_
      refine V_y (Y_load (El.int h11) Try.isAgg3 rfl) rfl rfl rfl ?_
      refine V_ge rfl rfl rfl hc8 ?_
      refine V_y (Y_addI rfl rfl) rfl rfl rfl ?_
      refine V_ge rfl rfl rfl hc8 ?_
      refine V_y (Y_lss rfl rfl) rfl rfl rfl ?_
      refine V_y (Y_pick_te rfl hc8 rfl) rfl rfl rfl ?_
      exact V_end fun a ha => ⟨(), ha.sub ⟨(by rw [hc8]; rfl), trivial⟩, rfl⟩
    · refine V_gn rfl rfl rfl hc8 rfl rfl rfl ?_
      refine V_gn rfl rfl rfl hc8 rfl rfl rfl ?_
      refine V_gn rfl rfl rfl hc8 rfl rfl rfl ?_
      refine V_gn rfl rfl rfl hc8 rfl rfl rfl ?_
      refine V_gn rfl rfl rfl hc8 rfl rfl rfl ?_
      refine V_gn rfl rfl rfl hc8 rfl rfl rfl ?_
      refine V_gn rfl rfl rfl hc8 rfl rfl rfl ?_
      refine V_y (Y_pick_fe rfl hc8 rfl) rfl rfl rfl ?_
      exact V_end fun a ha => ⟨(), ha.sub ⟨(by rw [hc8]; rfl), trivial⟩, rfl⟩
  simp only [List.take, List.drop]
  rintro _ _ rfl
  refine V_y (Y_assign rfl) rfl rfl rfl ?_
  refine V_to (fun _ _ => rfl) ?_
  obtain rfl := Option.some.inj hm
  refine C_ret ?_
  try simp only [↓inBlock_ret, ↓then_ret]
  exact retQ rfl (Res.one Try.results40 rfl) ⟨rfl, hK.kp⟩

end Go.Proofs.Ytlclnbcjebpfkaa.W
