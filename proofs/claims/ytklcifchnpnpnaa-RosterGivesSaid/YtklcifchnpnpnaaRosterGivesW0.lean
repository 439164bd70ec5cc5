/-
  Written by program (gen.py) from the IR of the dump: each function computes its model.
-/
import Derived.Test.YtklcifchnpnpnaaProg
import Derived.Test.YtklcifchnpnpnaaGe
import Derived.Test.YtklcifchnpnpnaaRosterGivesM
import Derived.KernelRfl
import Derived.Test.YtklcifchnpnpnaaGy
namespace Go.Proofs.Ytklcifchnpnpnaa.W
open Go Go.RowKit Go.Pu Go.Gw Go.Proofs Go.Proofs.Ytklcifchnpnpnaa.M
set_option linter.unusedVariables false
set_option linter.unusedSimpArgs false

theorem Try_info3 : Try.prog.info? 3 = some Try.t3 := by kernel_rfl
theorem Try_info29 : Try.prog.info? 29 = some Try.t29 := by kernel_rfl
theorem Try_info37 : Try.prog.info? 37 = some Try.t37 := by kernel_rfl
theorem Try_info52 : Try.prog.info? 52 = some Try.t52 := by kernel_rfl
theorem Try_places37 : ∀ fs, Try.prog.underlying 37 = some (.struct fs) → ∀ w : World, (Array.mapM (fun (f : Field) => do pure (f.offset, ← Go.sizeOf f.type)) fs).run Try.prog w = .ok #[(0, 1), (1, 1)] w := by
  intro fs h w
  rw [Try.underlying37] at h
  cases h
  kernel_rfl
theorem Try_eqt37_10000 (a0 : Int) (a1 : Int) (b0 : Int) (b1 : Int) (w : World) : (Op.equalIn 10000 37 (.agg #[.int .i64 a0, .int .i64 a1]) (.agg #[.int .i64 b0, .int .i64 b1])).run Try.prog w = .ok (a0 == b0 && (a1 == b1)) w := by
  refine (run_equalIn_struct w 9999 37 _ _ (by kernel_rfl) (by kernel_rfl)).trans ?_
  rw [show Try.prog.fieldsOf 37 = _ from by unfold Program.fieldsOf; rw [Try.underlying37]]
  cases h0 : (a0 == b0) <;> cases h1 : (a1 == b1) <;> simp_all [Op.eqFields, part, strEq, Try.isAgg3, run_equalIn_int _ _ _ _ _ _ _ Try.underlying3]
theorem Try_eqg37 : Try.prog.eqGuardType Try.prog.depth 37 = false := by kernel_rfl
theorem Try_mixed : Try.prog.follows .mixedOrders = true := by kernel_rfl

instance : GoT staff_Form := GoT.of (β := Int × Int) fun x => (x.from_, x.slots)

instance : Flat staff_Form := ⟨fun {A w A1 w1 cs x} h => Flat.flat (α := Int × Int) (x := (x.from_, x.slots)) (A := A) (w := w) h⟩

theorem El_staff_Form_ {A : Nat → Prop} {w : World} {b off : Nat} {x : staff_Form} (h : El A w b off x) : El (α := Int × Int) A w b off (x.from_, x.slots) := h

theorem El_staff_Form_0 {A : Nat → Prop} {w : World} {b off : Nat} {x : staff_Form} (h : El A w b off x) : El A w b (off + 0) x.from_ := El.fst (El_staff_Form_ h)

theorem El_staff_Form_1 {A : Nat → Prop} {w : World} {b off : Nat} {x : staff_Form} (h : El A w b off x) : El A w b (off + 1) x.slots := El.snd (El_staff_Form_ h)

theorem El_staff_Form {A : Nat → Prop} {w : World} {b off : Nat} {x : staff_Form} (h : El A w b off x) : At w b off [.int .i64 x.from_, .int .i64 x.slots] ∧ True := by
  obtain ⟨h1, h2, cs, h3, h4⟩ := h
  obtain ⟨_, _, rfl, rfl, rfl⟩ := h3
  exact ⟨h4, trivial⟩

instance : GoT staff_Rules := GoT.of (β := Int × Int × Int) fun x => (x.people, x.rest_, x.most)

instance : Flat staff_Rules := ⟨fun {A w A1 w1 cs x} h => Flat.flat (α := Int × Int × Int) (x := (x.people, x.rest_, x.most)) (A := A) (w := w) h⟩

theorem El_staff_Rules_ {A : Nat → Prop} {w : World} {b off : Nat} {x : staff_Rules} (h : El A w b off x) : El (α := Int × Int × Int) A w b off (x.people, x.rest_, x.most) := h

theorem El_staff_Rules_0 {A : Nat → Prop} {w : World} {b off : Nat} {x : staff_Rules} (h : El A w b off x) : El A w b (off + 0) x.people := El.fst (El_staff_Rules_ h)

theorem El_staff_Rules_1 {A : Nat → Prop} {w : World} {b off : Nat} {x : staff_Rules} (h : El A w b off x) : El A w b (off + 1) x.rest_ := El.fst (El.snd (El_staff_Rules_ h))

theorem El_staff_Rules_2 {A : Nat → Prop} {w : World} {b off : Nat} {x : staff_Rules} (h : El A w b off x) : El A w b (off + 2) x.most := El.snd (El.snd (El_staff_Rules_ h))

theorem El_staff_Rules {A : Nat → Prop} {w : World} {b off : Nat} {x : staff_Rules} (h : El A w b off x) : At w b off [.int .i64 x.people, .int .i64 x.rest_, .int .i64 x.most] ∧ True := by
  obtain ⟨h1, h2, cs, h3, h4⟩ := h
  obtain ⟨_, _, rfl, rfl, ⟨_, _, rfl, rfl, rfl⟩⟩ := h3
  exact ⟨h4, trivial⟩

instance : GoT staff_Duty := GoT.of (β := Int × Int) fun x => (x.form, x.person)

instance : Flat staff_Duty := ⟨fun {A w A1 w1 cs x} h => Flat.flat (α := Int × Int) (x := (x.form, x.person)) (A := A) (w := w) h⟩

theorem El_staff_Duty_ {A : Nat → Prop} {w : World} {b off : Nat} {x : staff_Duty} (h : El A w b off x) : El (α := Int × Int) A w b off (x.form, x.person) := h

theorem El_staff_Duty_0 {A : Nat → Prop} {w : World} {b off : Nat} {x : staff_Duty} (h : El A w b off x) : El A w b (off + 0) x.form := El.fst (El_staff_Duty_ h)

theorem El_staff_Duty_1 {A : Nat → Prop} {w : World} {b off : Nat} {x : staff_Duty} (h : El A w b off x) : El A w b (off + 1) x.person := El.snd (El_staff_Duty_ h)

theorem El_staff_Duty {A : Nat → Prop} {w : World} {b off : Nat} {x : staff_Duty} (h : El A w b off x) : At w b off [.int .i64 x.form, .int .i64 x.person] ∧ True := by
  obtain ⟨h1, h2, cs, h3, h4⟩ := h
  obtain ⟨_, _, rfl, rfl, rfl⟩ := h3
  exact ⟨h4, trivial⟩

set_option maxRecDepth 4000 in
set_option maxHeartbeats 4000000 in
theorem staff_within_c (w : World) (n : Int) (low : Int) (high : Int) : Ret Try.prog 13 #[.int .i64 n, .int .i64 low, .int .i64 high] w fun v w' => v = .bool (staff_within n low high) ∧ w = w' := by
  generalize hm : staff_within n low high = r
  unfold staff_within at hm
  refine enter Try.func13 rfl Try.ntmps13 rfl ?_
  refine C_seq ?_
  refine C_region ?_
  refine V_y (Y_assign rfl) rfl rfl rfl ?_
  refine V_to (fun _ _ => rfl) ?_
  refine C_seq ?_
  refine C_region ?_
  refine V_y (Y_move rfl) rfl rfl rfl ?_
  refine V_y (Y_move rfl) rfl rfl rfl ?_
  refine V_y (Y_geq rfl rfl) rfl rfl rfl ?_
  refine V_y (Y_move rfl) rfl rfl rfl ?_
  refine V_cut 4 (fun _ : Unit => [(14, .bool ((decide (low ≤ n)) && (decide (n ≤ high))))]) (fun _ w' => w = w') ?_ ?_
  · simp only [List.take, List.drop]
    rcases Bool.eq_false_or_eq_true (decide (low ≤ n)) with hc1 | hc1
    · refine V_ge rfl rfl rfl hc1 ?_
      refine V_y (Y_move rfl) rfl rfl rfl ?_
      refine V_ge rfl rfl rfl hc1 ?_
      refine V_y (Y_move rfl) rfl rfl rfl ?_
      refine V_ge rfl rfl rfl hc1 ?_
      refine V_y (Y_leq rfl rfl) rfl rfl rfl ?_
      refine V_y (Y_pick_te rfl hc1 rfl) rfl rfl rfl ?_
      exact V_end fun a ha => ⟨(), ha.sub ⟨(by rw [hc1]; rfl), trivial⟩, rfl⟩
    · refine V_gn rfl rfl rfl hc1 rfl rfl rfl ?_
      refine V_gn rfl rfl rfl hc1 rfl rfl rfl ?_
      refine V_gn rfl rfl rfl hc1 rfl rfl rfl ?_
      refine V_y (Y_pick_fe rfl hc1 rfl) rfl rfl rfl ?_
      exact V_end fun a ha => ⟨(), ha.sub ⟨(by rw [hc1]; rfl), trivial⟩, rfl⟩
  simp only [List.take, List.drop]
  rintro _ _ rfl
  refine V_y (Y_assign rfl) rfl rfl rfl ?_
  refine V_to (fun _ _ => rfl) ?_
  obtain rfl := hm
  refine C_ret ?_
  try simp only [↓inBlock_ret, ↓then_ret]
  exact retQ rfl (Res.one Try.results13 rfl) ⟨rfl, rfl⟩

set_option maxRecDepth 4000 in
set_option maxHeartbeats 4000000 in
theorem cmp_isNaN_int_c (w : World) (x : Int) : Ret Try.prog 49 #[.int .i64 x] w fun v w' => v = .bool (cmp_isNaN_int x) ∧ w = w' := by
  generalize hm : cmp_isNaN_int x = r
  unfold cmp_isNaN_int at hm
  refine enter Try.func49 rfl Try.ntmps49 rfl ?_
  refine C_seq ?_
  refine C_region ?_
  refine V_y (Y_assign rfl) rfl rfl rfl ?_
  refine V_to (fun _ _ => rfl) ?_
  refine C_seq ?_
  refine C_region ?_
  refine V_y (Y_move rfl) rfl rfl rfl ?_
  refine V_y (Y_move rfl) rfl rfl rfl ?_
  refine V_y (Y_neq rfl rfl) rfl rfl rfl ?_
  refine V_y (Y_assign rfl) rfl rfl rfl ?_
  refine V_to (fun _ _ => rfl) ?_
  obtain rfl := hm
  refine C_ret ?_
  try simp only [↓inBlock_ret, ↓then_ret]
  exact retQ rfl (Res.one Try.results49 rfl) ⟨rfl, rfl⟩

set_option maxRecDepth 4000 in
set_option maxHeartbeats 4000000 in
theorem cmp_Compare_int_c (w : World) (x : Int) (y : Int) : Ret Try.prog 32 #[.int .i64 x, .int .i64 y] w fun v w' => v = .int .i64 (cmp_Compare_int x y) ∧ w = w' := by
  generalize hm : cmp_Compare_int x y = r
  unfold cmp_Compare_int at hm
  refine enter Try.func32 rfl Try.ntmps32 rfl ?_
  refine C_seq ?_
  refine C_region ?_
  refine V_y (Y_assign rfl) rfl rfl rfl ?_
  refine V_to (fun _ _ => rfl) ?_
  refine C_seq ?_
  refine C_region ?_
  refine V_y (Y_move rfl) rfl rfl rfl ?_
  refine V_call Try.call49 rfl rfl rfl rfl (cmp_isNaN_int_c w x) ?_
  rintro _ _ ⟨rfl, rfl⟩
  refine V_y (Y_assign rfl) rfl rfl rfl ?_
  refine V_to (fun _ _ => rfl) ?_
  refine C_seq ?_
  refine C_region ?_
  refine V_y (Y_move rfl) rfl rfl rfl ?_
  refine V_call Try.call49 rfl rfl rfl rfl (cmp_isNaN_int_c w y) ?_
  rintro _ _ ⟨rfl, rfl⟩
  refine V_y (Y_assign rfl) rfl rfl rfl ?_
  refine V_to (fun _ _ => rfl) ?_
  refine C_seq ?_
  refine C_seq ?_
  refine C_region ?_
  refine V_y (Y_move rfl) rfl rfl rfl ?_
  refine V_to (fun _ _ => rfl) ?_
  refine C_cond rfl (fun hc1 => ?_) (fun hc1 => ?_)
  · rw [if_pos hc1] at hm
    refine C_seq ?_
    refine C_seq ?_
    refine C_region ?_
    refine V_y (Y_move rfl) rfl rfl rfl ?_
    refine V_to (fun _ _ => rfl) ?_
    refine C_cond rfl (fun hc2 => ?_) (fun hc2 => ?_)
    · rw [if_pos hc2] at hm
      refine C_seq ?_
      refine C_region ?_
      refine V_y (Y_assign rfl) rfl rfl rfl ?_
      refine V_to (fun _ _ => rfl) ?_
      obtain rfl := hm
      refine C_ret ?_
      try simp only [↓inBlock_ret, ↓then_ret]
      exact retQ rfl (Res.one Try.results32 rfl) ⟨rfl, rfl⟩
    · rw [if_neg (nt hc2)] at hm
      refine C_skip_to (fun _ _ => rfl) ?_
      refine C_seq ?_
      refine C_region ?_
      refine V_y (Y_assign rfl) rfl rfl rfl ?_
      refine V_to (fun _ _ => rfl) ?_
      obtain rfl := hm
      refine C_ret ?_
      try simp only [↓inBlock_ret, ↓then_ret]
      exact retQ rfl (Res.one Try.results32 rfl) ⟨rfl, rfl⟩
  · rw [if_neg (nt hc1)] at hm
    refine C_skip_to (fun _ _ => rfl) ?_
    refine C_seq ?_
    refine C_seq ?_
    refine C_region ?_
    refine V_y (Y_move rfl) rfl rfl rfl ?_
    refine V_to (fun _ _ => rfl) ?_
    refine C_cond rfl (fun hc3 => ?_) (fun hc3 => ?_)
    · rw [if_pos hc3] at hm
      refine C_seq ?_
      refine C_region ?_
      refine V_y (Y_assign rfl) rfl rfl rfl ?_
      refine V_to (fun _ _ => rfl) ?_
      obtain rfl := hm
      refine C_ret ?_
      try simp only [↓inBlock_ret, ↓then_ret]
      exact retQ rfl (Res.one Try.results32 rfl) ⟨rfl, rfl⟩
    · rw [if_neg (nt hc3)] at hm
      refine C_skip_to (fun _ _ => rfl) ?_
      refine C_seq ?_
      refine C_seq ?_
      refine C_region ?_
      refine V_y (Y_move rfl) rfl rfl rfl ?_
      refine V_y (Y_move rfl) rfl rfl rfl ?_
      refine V_y (Y_lss rfl rfl) rfl rfl rfl ?_
      refine V_to (fun _ _ => rfl) ?_
      refine C_cond rfl (fun hc4 => ?_) (fun hc4 => ?_)
      · rw [if_pos hc4] at hm
        refine C_seq ?_
        refine C_region ?_
        refine V_y (Y_assign rfl) rfl rfl rfl ?_
        refine V_to (fun _ _ => rfl) ?_
        obtain rfl := hm
        refine C_ret ?_
        try simp only [↓inBlock_ret, ↓then_ret]
        exact retQ rfl (Res.one Try.results32 rfl) ⟨rfl, rfl⟩
      · rw [if_neg (nt hc4)] at hm
        refine C_skip_to (fun _ _ => rfl) ?_
        refine C_seq ?_
        refine C_seq ?_
        refine C_region ?_
        refine V_y (Y_move rfl) rfl rfl rfl ?_
        refine V_y (Y_move rfl) rfl rfl rfl ?_
        refine V_y (Y_gtr rfl rfl) rfl rfl rfl ?_
        refine V_to (fun _ _ => rfl) ?_
        refine C_cond rfl (fun hc5 => ?_) (fun hc5 => ?_)
        · rw [if_pos hc5] at hm
          refine C_seq ?_
          refine C_region ?_
          refine V_y (Y_assign rfl) rfl rfl rfl ?_
          refine V_to (fun _ _ => rfl) ?_
          obtain rfl := hm
          refine C_ret ?_
          try simp only [↓inBlock_ret, ↓then_ret]
          exact retQ rfl (Res.one Try.results32 rfl) ⟨rfl, rfl⟩
        · rw [if_neg (nt hc5)] at hm
          refine C_skip_to (fun _ _ => rfl) ?_
          refine C_seq ?_
          refine C_region ?_
          refine V_y (Y_assign rfl) rfl rfl rfl ?_
          refine V_to (fun _ _ => rfl) ?_
          obtain rfl := hm
          refine C_ret ?_
          try simp only [↓inBlock_ret, ↓then_ret]
          exact retQ rfl (Res.one Try.results32 rfl) ⟨rfl, rfl⟩

set_option maxRecDepth 4000 in
set_option maxHeartbeats 4000000 in
theorem cmp_Or_int_c (w : World) {A : Nat → Prop} (vals : (List Int)) (v_vals : Value) (h_vals : Sl A w v_vals vals) {r : Int} (hm : cmp_Or_int vals = some r) : Ret Try.prog 31 #[v_vals] w fun v w' => v = .int .i64 r ∧ w = w' := by
  unfold cmp_Or_int at hm
  refine enter Try.func31 rfl Try.ntmps31 rfl ?_
  refine C_seq ?_
  refine C_region ?_
  refine V_y (Y_assign rfl) rfl rfl rfl ?_
  refine V_to (fun _ _ => rfl) ?_
  refine C_seq ?_
  refine C_region ?_
  refine V_y (Y_assign rfl) rfl rfl rfl ?_
  refine V_to (fun _ _ => rfl) ?_
  refine C_seq ?_
  refine C_seq ?_
  refine C_region ?_
  refine V_y (Y_move rfl) rfl rfl rfl ?_
  refine V_y (Y_lenSl h_vals rfl Try.underlying23 rfl) rfl rfl rfl ?_
  refine V_y (Y_move rfl) rfl rfl rfl ?_
  refine V_to (fun _ _ => rfl) ?_
  have hn19 := Sl.le h_vals
  obtain ⟨o3, ho3, hm⟩ := Option.bind_eq_some_iff.1 hm
  refine C_cutG (ι := Unit) (fun (s4 : Unit) => [(3, .int .i64 0)]) (fun (s4 : Unit) => fun w' => o3 = .fin s4 ∧ w = w') ?_ ?_
  · refine C_block ?_
    refine C_range ho3 (fun k6 _ a w' => ∃ i : Unit, Has ⟨18, [], none⟩ a ([(3, .int .i64 0), (6, v_vals), (7, .int .i64 (vals.length : Int)), (8, .int .i64 (k6 : Int))]) ∧ w = w') (fun a ha => ⟨(), ha.sub ⟨rfl, rfl, rfl, rfl, trivial⟩, rfl⟩) ?_
    rintro K k6 _ a _ ⟨_, ha28, rfl⟩ hle15 K18 h17
    refine C_of ?_ ha28
    refine C_seq (C_region (V_y (Y_lss rfl rfl) rfl rfl rfl (V_to (fun _ _ => rfl) ?_)))
    refine C_seq ?_
    refine C_cond rfl (fun hc20 => ?_) (fun hc20 => ?_)
    · have hlt16 := lt_of_dec hc20
      obtain ⟨x12, h13, h14⟩ := K18 hlt16
      refine C_skip_to (fun _ _ => rfl) ?_
      refine C_seq ?_
      refine C_block ?_
      refine C_seq ?_
      refine C_region ?_
      obtain ⟨x21, hx21, h13⟩ := Option.bind_eq_some_iff.1 h13
      refine V_indexAddr h_vals hx21 Try.underlying23 Try.sizeOf3 rfl rfl rfl ?_
      intro b22 o23 h24
      refine V_y (Y_load (El.int h24) Try.isAgg3 rfl) rfl rfl rfl ?_
      refine V_y (Y_assign rfl) rfl rfl rfl ?_
      refine V_to (fun _ _ => rfl) ?_
      refine C_seq ?_
      refine C_region ?_
      refine V_y (Y_move rfl) rfl rfl rfl ?_
      refine V_y (Y_move rfl) rfl rfl rfl ?_
      refine V_y (Y_neq rfl rfl) rfl rfl rfl ?_
      refine V_to (fun _ _ => rfl) ?_
      refine C_cond rfl (fun hc25 => ?_) (fun hc25 => ?_)
      · rw [if_pos hc25] at h13
        refine C_seq ?_
        refine C_region ?_
        refine V_y (Y_move rfl) rfl rfl rfl ?_
        refine V_y (Y_assign rfl) rfl rfl rfl ?_
        refine V_to (fun _ _ => rfl) ?_
        obtain rfl := Option.some.inj h13
        obtain rfl := (h14 : Lp.rt _ = _)
        rw [Lp.andThen_rt] at hm
        obtain rfl := Option.some.inj hm
        refine C_ret ?_
        try simp only [↓inBlock_ret, ↓then_ret]
        exact retQ rfl (Res.one Try.results31 rfl) ⟨rfl, rfl⟩
      · rw [if_neg (nt hc25)] at h13
        refine C_skip_to (fun _ _ => rfl) ?_
        refine C_region ?_
        refine V_y (Y_addI rfl rfl) rfl rfl rfl ?_
        refine V_y (Y_move rfl) rfl rfl rfl ?_
        obtain rfl := Option.some.inj h13
        refine V_end (fun a ha26 => ?_)
        exact ⟨(), hlt16, h14, ⟨(), ha26.sub ⟨rfl, rfl, rfl, (congrArg (fun z => some (Value.int .i64 z)) (w64_succ hlt16 hn19)), trivial⟩, rfl⟩⟩
    · refine C_exit (fun a ha27 => ?_)
      exact ⟨(), ha27.sub ⟨rfl, trivial⟩, ⟨(h17 (eq_of_dec hle15 hc20)).symm, rfl⟩⟩
  rintro s4 _ ⟨rfl, rfl⟩ a ha9
  rw [Lp.andThen_fin] at hm
  refine C_at (n := ⟨18, [], none⟩) (fun _ _ => rfl) ?_ ha9
  refine C_seq ?_
  refine C_region ?_
  refine V_y (Y_move rfl) rfl rfl rfl ?_
  refine V_y (Y_assign rfl) rfl rfl rfl ?_
  refine V_to (fun _ _ => rfl) ?_
  obtain rfl := Option.some.inj hm
  refine C_ret ?_
  try simp only [↓inBlock_ret, ↓then_ret]
  exact retQ rfl (Res.one Try.results31 rfl) ⟨rfl, rfl⟩

set_option maxRecDepth 4000 in
set_option maxHeartbeats 4000000 in
theorem staff_CheckForms_c (w : World) {A : Nat → Prop} (hA : ∀ b, w.heap.size ≤ b → A b) (l : (List staff_Form)) (v_l : Value) (h_l : Sl A w v_l l) {r : Int} (hm : staff_CheckForms l = some r) : Ret Try.prog 19 #[v_l] w fun v w' => v = .int .i64 r ∧ Kp w w' := by
  unfold staff_CheckForms at hm
  refine enter Try.func19 rfl Try.ntmps19 rfl ?_
  have hA0 := hA
  have hB := Nat.le_refl w.heap.size
  have hK : Tr w.heap.size A w A w := Tr.refl hA
  have hH : Hp w.heap.size A w [] := Hp.nil
  refine C_seq ?_
  refine C_region ?_
  refine V_y (Y_assign rfl) rfl rfl rfl ?_
  refine V_to (fun _ _ => rfl) ?_
  refine C_seq ?_
  refine C_seq ?_
  refine C_region ?_
  refine V_y (Y_move rfl) rfl rfl rfl ?_
  refine V_y (Y_lenSl h_l rfl Try.underlying29 rfl) rfl rfl rfl ?_
  refine V_y (Y_gtr rfl rfl) rfl rfl rfl ?_
  refine V_to (fun _ _ => rfl) ?_
  refine C_cond rfl (fun hc3 => ?_) (fun hc3 => ?_)
  · rw [if_pos hc3] at hm
    refine C_seq ?_
    refine C_region ?_
    refine V_y (Y_assign rfl) rfl rfl rfl ?_
    refine V_to (fun _ _ => rfl) ?_
    obtain rfl := Option.some.inj hm
    refine C_ret ?_
    try simp only [↓inBlock_ret, ↓then_ret]
    exact retQ rfl (Res.one Try.results19 rfl) ⟨rfl, hK.kp⟩
  · rw [if_neg (nt hc3)] at hm
    refine C_skip_to (fun _ _ => rfl) ?_
    refine C_seq ?_
    refine C_seq ?_
    refine C_region ?_
    refine V_y (Y_move rfl) rfl rfl rfl ?_
    refine V_y (Y_lenSl h_l rfl Try.underlying29 rfl) rfl rfl rfl ?_
    refine V_y (Y_move rfl) rfl rfl rfl ?_
    refine V_to (fun _ _ => rfl) ?_
    have hn25 := Sl.le h_l
    obtain ⟨o4, ho4, hm⟩ := Option.bind_eq_some_iff.1 hm
    refine C_cutG (ι := (Unit × (Nat → Prop))) (fun ⟨s5, A12⟩ => []) (fun ⟨s5, A12⟩ => fun w' => o4 = .fin s5 ∧ Hp w.heap.size A12 w' ([]) ∧ Tr w.heap.size A w A12 w') ?_ ?_
    · refine C_block ?_
      refine C_range ho4 (fun k7 _ a w' => ∃ i : (Nat → Prop), Has ⟨54, [], none⟩ a ([(0, v_l), (8, v_l), (9, .int .i64 (l.length : Int)), (10, .int .i64 (k7 : Int))]) ∧ Hp w.heap.size i w' ([]) ∧ Tr w.heap.size A w i w') (fun a ha => ⟨A, ha.sub ⟨rfl, rfl, rfl, rfl, trivial⟩, ⟨hH, Tr.refl hA⟩⟩) ?_
      rintro K k7 _ a w15 ⟨A16, ha83, hH17, hr6⟩ hle21 K24 h23
      refine C_of ?_ ha83
      replace h_l := Sl.tr h_l hr6
      replace hK := Tr.trans hK hr6
      replace hB := Nat.le_trans hB hr6.ex.size
      replace hA := hr6.new
      replace hH : Hp w.heap.size A16 w15 ([]) := hH17
      refine C_seq (C_region (V_y (Y_lss rfl rfl) rfl rfl rfl (V_to (fun _ _ => rfl) ?_)))
      refine C_seq ?_
      refine C_cond rfl (fun hc26 => ?_) (fun hc26 => ?_)
      · have hlt22 := lt_of_dec hc26
        obtain ⟨x18, h19, h20⟩ := K24 hlt22
        refine C_skip_to (fun _ _ => rfl) ?_
        refine C_seq ?_
        refine C_block ?_
        refine C_seq ?_
        refine C_region ?_
        refine V_y (Y_move rfl) rfl rfl rfl ?_
        obtain ⟨x27, hx27, h19⟩ := Option.bind_eq_some_iff.1 h19
        refine V_indexAddr h_l hx27 Try.underlying29 Try.sizeOf52 rfl rfl rfl ?_
        intro b28 o29 h30
        obtain ⟨h31, _⟩ := El_staff_Form h30
        refine V_y (Y_loadA h31 Try.isAgg52 Try.sizeOf52 rfl) rfl rfl rfl ?_
        refine V_alloc Try.zeroValue52 rfl ?_
        intro b32 w33 h34
        refine V_y (Y_assign rfl) rfl rfl rfl ?_
        refine V_storeNew h34 Try.sizeOf52 rfl rfl rfl rfl (by exact (List.forall_mem_cons.2 ⟨rfl, (List.forall_mem_cons.2 ⟨rfl, (fun _ h => nomatch h)⟩)⟩)) ?_
        intro w35 h36
        have hk38 := h36.kp
        have h37 : El (α := staff_Form) A16 w35 b32 0 x27 := h36.el hA ⟨[.int .i64 x27.from_], _, rfl, rfl, rfl⟩
        have ht39 := Kp.tr hk38 hA hB
        replace hH := Hp.kp hH hk38
        replace h_l := Sl.tr h_l ht39
        replace h30 := El.tr h30 ht39
        replace hK := Tr.trans hK ht39
        replace hr6 := Tr.trans hr6 ht39
        replace hB := Nat.le_trans hB ht39.ex.size
        replace hA := ht39.new
        refine V_to (fun _ _ => rfl) ?_
        refine C_seq ?_
        refine C_seq ?_
        refine C_region ?_
        have h40 := El_staff_Form_0 h37
        refine V_y (Y_fieldAddr Try.underlying52 rfl Try.sizeOf3 (by decide) rfl) rfl rfl rfl ?_
        refine V_y (Y_load (El.int h40) Try.isAgg3 rfl) rfl rfl rfl ?_
        refine V_call Try.call13 rfl rfl rfl rfl (staff_within_c w35 x27.from_ 0 399) ?_
        rintro _ _ ⟨rfl, rfl⟩
        refine V_y (Y_not rfl) rfl rfl rfl ?_
        refine V_y (Y_move rfl) rfl rfl rfl ?_
        refine V_cut 8 (fun _ : Unit => [(0, v_l), (3, .int .i64 (k7 : Int)), (4, .pointer (some ⟨b32, 0, none⟩)), (8, v_l), (9, .int .i64 (l.length : Int)), (10, .int .i64 (k7 : Int)), (27, .bool ((!(staff_within x27.from_ 0 399)) || (!(staff_within x27.slots 1 (w64 (400 - x27.from_))))))]) (fun _ w' => w35 = w') ?_ ?_
        · simp only [List.take, List.drop]
          rcases Bool.eq_false_or_eq_true (!(staff_within x27.from_ 0 399)) with hc41 | hc41
          · refine V_gn rfl rfl rfl hc41 rfl rfl rfl ?_
            refine V_gn rfl rfl rfl hc41 rfl rfl rfl ?_
            refine V_gn rfl rfl rfl hc41 rfl rfl rfl ?_
            refine V_gn rfl rfl rfl hc41 rfl rfl rfl ?_
            refine V_gn rfl rfl rfl hc41 rfl rfl rfl ?_
            refine V_gn rfl rfl rfl hc41 rfl rfl rfl ?_
            refine V_gn rfl rfl rfl hc41 rfl rfl rfl ?_
            refine V_y (Y_pick_te rfl hc41 rfl) rfl rfl rfl ?_
            exact V_end fun a ha => ⟨(), ha.sub ⟨rfl, rfl, rfl, rfl, rfl, rfl, (by rw [hc41]; rfl), trivial⟩, rfl⟩
          · refine V_ge rfl rfl rfl hc41 ?_
            have h43 := El_staff_Form_1 h37
            refine V_y (Y_fieldAddr Try.underlying52 rfl Try.sizeOf3 (by decide) rfl) rfl rfl rfl ?_
            refine V_ge rfl rfl rfl hc41 ?_
            refine V_y (Y_load (El.int h43) Try.isAgg3 rfl) rfl rfl rfl ?_
            refine V_ge rfl rfl rfl hc41 ?_
            have h44 := El_staff_Form_0 h37
            refine V_y (Y_fieldAddr Try.underlying52 rfl Try.sizeOf3 (by decide) rfl) rfl rfl rfl ?_
            refine V_ge rfl rfl rfl hc41 ?_
            refine V_y (Y_load (El.int h44) Try.isAgg3 rfl) rfl rfl rfl ?_
            refine V_ge rfl rfl rfl hc41 ?_
            refine V_y (Y_subI rfl rfl) rfl rfl rfl ?_
            refine V_ge rfl rfl rfl hc41 ?_
            refine V_call Try.call13 rfl rfl rfl rfl (staff_within_c w35 x27.slots 1 (w64 (400 - x27.from_))) ?_
            rintro _ _ ⟨rfl, rfl⟩
            refine V_ge rfl rfl rfl hc41 ?_
            refine V_y (Y_not rfl) rfl rfl rfl ?_
            refine V_y (Y_pick_fe rfl hc41 rfl) rfl rfl rfl ?_
            exact V_end fun a ha => ⟨(), ha.sub ⟨rfl, rfl, rfl, rfl, rfl, rfl, (by rw [hc41]; rfl), trivial⟩, rfl⟩
        simp only [List.take, List.drop]
        rintro _ _ rfl
        refine V_to (fun _ _ => rfl) ?_
        refine C_cond rfl (fun hc45 => ?_) (fun hc45 => ?_)
        · rw [if_pos hc45] at h19
          refine C_seq ?_
          refine C_region ?_
          refine V_y (Y_assign rfl) rfl rfl rfl ?_
          refine V_to (fun _ _ => rfl) ?_
          obtain rfl := Option.some.inj h19
          obtain rfl := (h20 : Lp.rt _ = _)
          rw [Lp.andThen_rt] at hm
          obtain rfl := Option.some.inj hm
          refine C_ret ?_
          try simp only [↓inBlock_ret, ↓then_ret]
          exact retQ rfl (Res.one Try.results19 rfl) ⟨rfl, hK.kp⟩
        · rw [if_neg (nt hc45)] at h19
          refine C_skip_to (fun _ _ => rfl) ?_
          refine C_seq ?_
          obtain ⟨s47, ho46, h19⟩ := Option.bind_eq_some_iff.1 h19
          refine C_cutG (ι := (Nat → Prop)) (fun (A52 : (Nat → Prop)) => [(0, v_l), (8, v_l), (9, .int .i64 (l.length : Int)), (10, .int .i64 (k7 : Int)), (52, .bool s47)]) (fun (A52 : (Nat → Prop)) => fun w' => Hp w.heap.size A52 w' ([]) ∧ Tr w.heap.size A16 w35 A52 w') ?_ ?_
          · have hr48 : Tr w.heap.size A16 w35 A16 w35 := Tr.refl hA
            refine C_region_qt 21 Try_mixed (by kernel_rfl) ?_
            simp only [List.take, List.drop]
            refine VQ_y (fun w' hw' => Y_move rfl) rfl rfl rfl ?_
            refine VQ_y (fun w' hw' => Y_gtr rfl rfl) rfl rfl rfl ?_
            refine VQ_y (fun w' hw' => Y_move rfl) rfl rfl rfl ?_
            rcases Bool.eq_false_or_eq_true (decide ((0 : Int) < (k7 : Int))) with hc54 | hc54
            · rw [if_pos hc54] at ho46
              refine VQ_ge rfl rfl rfl hc54 ?_
              have h55 := El_staff_Form_0 h37
              refine VQ_y (fun w' hw' => Y_fieldAddr Try.underlying52 rfl Try.sizeOf3 (by decide) rfl) rfl rfl rfl ?_
              refine VQ_ge rfl rfl rfl hc54 ?_
              refine VQ_y (fun w' hw' => Y_load (El.int (El.kp h55 hw')) Try.isAgg3 rfl) rfl rfl rfl ?_
              refine VQ_ge rfl rfl rfl hc54 ?_
              refine VQ_y (fun w' hw' => Y_move rfl) rfl rfl rfl ?_
              refine VQ_ge rfl rfl rfl hc54 ?_
              refine VQ_y (fun w' hw' => Y_move rfl) rfl rfl rfl ?_
              refine VQ_ge rfl rfl rfl hc54 ?_
              refine VQ_y (fun w' hw' => Y_subI rfl rfl) rfl rfl rfl ?_
              refine VQ_ge rfl rfl rfl hc54 ?_
              obtain ⟨x56, hx56, ho46⟩ := Option.bind_eq_some_iff.1 ho46
              refine VQ_indexAddr h_l hx56 Try.underlying29 Try.sizeOf52 rfl rfl rfl ?_
              intro b57 o58 h59
              refine VQ_ge rfl rfl rfl hc54 ?_
              have h60 := El_staff_Form_0 h59
              refine VQ_y (fun w' hw' => Y_fieldAddr Try.underlying52 rfl Try.sizeOf3 (by decide) rfl) rfl rfl rfl ?_
              refine VQ_ge rfl rfl rfl hc54 ?_
              refine VQ_y (fun w' hw' => Y_load (El.int (El.kp h60 hw')) Try.isAgg3 rfl) rfl rfl rfl ?_
              refine VQ_ge rfl rfl rfl hc54 ?_
              refine VQ_call (.int .i64 (cmp_Compare_int x27.from_ x56.from_)) Try.call32 rfl rfl rfl rfl (fun w' hw' => (cmp_Compare_int_c w' x27.from_ x56.from_).mono (fun _ _ h => ⟨h.1, h.2 ▸ hw'⟩)) ?_
              refine VQ_ge rfl rfl rfl hc54 ?_
              have h61 := El_staff_Form_1 h37
              refine VQ_y (fun w' hw' => Y_fieldAddr Try.underlying52 rfl Try.sizeOf3 (by decide) rfl) rfl rfl rfl ?_
              refine VQ_ge rfl rfl rfl hc54 ?_
              refine VQ_y (fun w' hw' => Y_load (El.int (El.kp h61 hw')) Try.isAgg3 rfl) rfl rfl rfl ?_
              refine VQ_ge rfl rfl rfl hc54 ?_
              refine VQ_y (fun w' hw' => Y_move rfl) rfl rfl rfl ?_
              refine VQ_ge rfl rfl rfl hc54 ?_
              refine VQ_y (fun w' hw' => Y_move rfl) rfl rfl rfl ?_
              refine VQ_ge rfl rfl rfl hc54 ?_
              refine VQ_y (fun w' hw' => Y_subI rfl rfl) rfl rfl rfl ?_
              refine VQ_ge rfl rfl rfl hc54 ?_
              refine VQ_indexAddr h_l hx56 Try.underlying29 Try.sizeOf52 rfl rfl rfl ?_
              intro b62 o63 h64
              refine VQ_ge rfl rfl rfl hc54 ?_
              have h65 := El_staff_Form_1 h64
              refine VQ_y (fun w' hw' => Y_fieldAddr Try.underlying52 rfl Try.sizeOf3 (by decide) rfl) rfl rfl rfl ?_
              refine VQ_ge rfl rfl rfl hc54 ?_
              refine VQ_y (fun w' hw' => Y_load (El.int (El.kp h65 hw')) Try.isAgg3 rfl) rfl rfl rfl ?_
              refine VQ_ge rfl rfl rfl hc54 ?_
              refine VQ_call (.int .i64 (cmp_Compare_int x27.slots x56.slots)) Try.call32 rfl rfl rfl rfl (fun w' hw' => (cmp_Compare_int_c w' x27.slots x56.slots).mono (fun _ _ h => ⟨h.1, h.2 ▸ hw'⟩)) ?_
              refine VQ_tail (fun w66 hk67 => ?_)
              try simp only [List.take, List.drop]
              have ht68 := Kp.tr hk67 hA hB
              replace hH := Hp.kp hH hk67
              replace h_l := Sl.tr h_l ht68
              replace h37 := El.tr h37 ht68
              replace h55 := El.tr h55 ht68
              replace h59 := El.tr h59 ht68
              replace h60 := El.tr h60 ht68
              replace h61 := El.tr h61 ht68
              replace h64 := El.tr h64 ht68
              replace h65 := El.tr h65 ht68
              replace hK := Tr.trans hK ht68
              replace hr6 := Tr.trans hr6 ht68
              replace hr48 := Tr.trans hr48 ht68
              replace hB := Nat.le_trans hB ht68.ex.size
              replace hA := ht68.new
              refine V_ge rfl rfl rfl hc54 ?_
              refine V_buildSlice (l := ([(cmp_Compare_int x27.from_ x56.from_), (cmp_Compare_int x27.slots x56.slots)] : List Int)) (len := 2) Try.underlying23 Try.sizeOf3 Try.zeroValue3 rfl (by with_unfolding_all rfl) (by decide) (by decide) hA ⟨[.int .i64 (cmp_Compare_int x27.from_ x56.from_)], _, rfl, rfl, ⟨[.int .i64 (cmp_Compare_int x27.slots x56.slots)], _, rfl, rfl, rfl⟩⟩ rfl rfl ?_
              intro v69 w70 hk72 h71
              have ht73 := Kp.tr hk72 hA hB
              replace hH := Hp.kp hH hk72
              replace h_l := Sl.tr h_l ht73
              replace h37 := El.tr h37 ht73
              replace h55 := El.tr h55 ht73
              replace h59 := El.tr h59 ht73
              replace h60 := El.tr h60 ht73
              replace h61 := El.tr h61 ht73
              replace h64 := El.tr h64 ht73
              replace h65 := El.tr h65 ht73
              replace hK := Tr.trans hK ht73
              replace hr6 := Tr.trans hr6 ht73
              replace hr48 := Tr.trans hr48 ht73
              replace hB := Nat.le_trans hB ht73.ex.size
              replace hA := ht73.new
              refine V_ge rfl rfl rfl hc54 ?_
              obtain ⟨x74, hx74, ho46⟩ := Option.bind_eq_some_iff.1 ho46
              refine V_call Try.call31 rfl rfl rfl rfl (cmp_Or_int_c w70 ([(cmp_Compare_int x27.from_ x56.from_), (cmp_Compare_int x27.slots x56.slots)] : List Int) v69 h71 hx74) ?_
              rintro _ _ ⟨rfl, rfl⟩
              refine V_ge rfl rfl rfl hc54 ?_
              refine V_y (Y_leq rfl rfl) rfl rfl rfl ?_
              refine V_y (Y_pick_te rfl hc54 rfl) rfl rfl rfl ?_
              obtain rfl := Option.some.inj ho46
              refine V_end (fun a ha75 => ?_)
              exact ⟨A16, ha75.sub ⟨rfl, rfl, rfl, rfl, rfl, trivial⟩, ⟨hH, hr48⟩⟩
            · rw [if_neg (nt hc54)] at ho46
              refine VQ_gn rfl rfl rfl hc54 rfl rfl rfl ?_
              refine VQ_gn rfl rfl rfl hc54 rfl rfl rfl ?_
              refine VQ_gn rfl rfl rfl hc54 rfl rfl rfl ?_
              refine VQ_gn rfl rfl rfl hc54 rfl rfl rfl ?_
              refine VQ_gn rfl rfl rfl hc54 rfl rfl rfl ?_
              refine VQ_gn rfl rfl rfl hc54 rfl rfl rfl ?_
              refine VQ_gn rfl rfl rfl hc54 rfl rfl rfl ?_
              refine VQ_gn rfl rfl rfl hc54 rfl rfl rfl ?_
              refine VQ_gn rfl rfl rfl hc54 rfl rfl rfl ?_
              refine VQ_gn rfl rfl rfl hc54 rfl rfl rfl ?_
              refine VQ_gn rfl rfl rfl hc54 rfl rfl rfl ?_
              refine VQ_gn rfl rfl rfl hc54 rfl rfl rfl ?_
              refine VQ_gn rfl rfl rfl hc54 rfl rfl rfl ?_
              refine VQ_gn rfl rfl rfl hc54 rfl rfl rfl ?_
              refine VQ_gn rfl rfl rfl hc54 rfl rfl rfl ?_
              refine VQ_gn rfl rfl rfl hc54 rfl rfl rfl ?_
              refine VQ_gn rfl rfl rfl hc54 rfl rfl rfl ?_
              refine VQ_gn rfl rfl rfl hc54 rfl rfl rfl ?_
              refine VQ_tail (fun w76 hk77 => ?_)
              try simp only [List.take, List.drop]
              have ht78 := Kp.tr hk77 hA hB
              replace hH := Hp.kp hH hk77
              replace h_l := Sl.tr h_l ht78
              replace h37 := El.tr h37 ht78
              replace hK := Tr.trans hK ht78
              replace hr6 := Tr.trans hr6 ht78
              replace hr48 := Tr.trans hr48 ht78
              replace hB := Nat.le_trans hB ht78.ex.size
              replace hA := ht78.new
              refine V_gn rfl rfl rfl hc54 rfl rfl rfl ?_
              refine V_gn rfl rfl rfl hc54 rfl rfl rfl ?_
              refine V_gn rfl rfl rfl hc54 rfl rfl rfl ?_
              refine V_y (Y_pick_fe rfl hc54 rfl) rfl rfl rfl ?_
              obtain rfl := Option.some.inj ho46
              refine V_end (fun a ha79 => ?_)
              exact ⟨A16, ha79.sub ⟨rfl, rfl, rfl, rfl, rfl, trivial⟩, ⟨hH, hr48⟩⟩
          rintro A52 w49 ⟨hH53, hk50⟩ a ha51
          replace h_l := Sl.tr h_l hk50
          replace hK := Tr.trans hK hk50
          replace hr6 := Tr.trans hr6 hk50
          replace hB := Nat.le_trans hB hk50.ex.size
          replace hA := hk50.new
          replace hH : Hp w.heap.size A52 w49 ([]) := hH53
          refine C_at (n := ⟨54, [], none⟩) (fun _ _ => rfl) ?_ ha51
          refine C_cond rfl (fun hc80 => ?_) (fun hc80 => ?_)
          · rw [if_pos hc80] at h19
            refine C_seq ?_
            refine C_region ?_
            refine V_y (Y_assign rfl) rfl rfl rfl ?_
            refine V_to (fun _ _ => rfl) ?_
            obtain rfl := Option.some.inj h19
            obtain rfl := (h20 : Lp.rt _ = _)
            rw [Lp.andThen_rt] at hm
            obtain rfl := Option.some.inj hm
            refine C_ret ?_
            try simp only [↓inBlock_ret, ↓then_ret]
            exact retQ rfl (Res.one Try.results19 rfl) ⟨rfl, hK.kp⟩
          · rw [if_neg (nt hc80)] at h19
            refine C_skip_to (fun _ _ => rfl) ?_
            refine C_region ?_
            refine V_y (Y_addI rfl rfl) rfl rfl rfl ?_
            refine V_y (Y_move rfl) rfl rfl rfl ?_
            obtain rfl := Option.some.inj h19
            refine V_end (fun a ha81 => ?_)
            exact ⟨(), hlt22, h20, ⟨A52, ha81.sub ⟨rfl, rfl, rfl, (congrArg (fun z => some (Value.int .i64 z)) (w64_succ hlt22 hn25)), trivial⟩, ⟨hH, hr6⟩⟩⟩
      · refine C_exit (fun a ha82 => ?_)
        exact ⟨((), A16), ha82.sub trivial, ⟨(h23 (eq_of_dec hle21 hc26)).symm, hH, hr6⟩⟩
    rintro ⟨s5, A12⟩ w9 ⟨rfl, hH13, hk10⟩ a ha11
    rw [Lp.andThen_fin] at hm
    replace hK := Tr.trans hK hk10
    replace hB := Nat.le_trans hB hk10.ex.size
    replace hA := hk10.new
    replace hH : Hp w.heap.size A12 w9 ([]) := hH13
    refine C_at (n := ⟨54, [], none⟩) (fun _ _ => rfl) ?_ ha11
    refine C_seq ?_
    refine C_region ?_
    refine V_y (Y_assign rfl) rfl rfl rfl ?_
    refine V_to (fun _ _ => rfl) ?_
    obtain rfl := Option.some.inj hm
    refine C_ret ?_
    try simp only [↓inBlock_ret, ↓then_ret]
    exact retQ rfl (Res.one Try.results19 rfl) ⟨rfl, hK.kp⟩

set_option maxRecDepth 4000 in
set_option maxHeartbeats 4000000 in
theorem staff_checkNumbers_c (w : World) {A : Nat → Prop} (l : (List Int)) (v_l : Value) (h_l : Sl A w v_l l) (most : Int) {r : Int} (hm : staff_checkNumbers l most = some r) : Ret Try.prog 33 #[v_l, .int .i64 most] w fun v w' => v = .int .i64 r ∧ w = w' := by
  unfold staff_checkNumbers at hm
  refine enter Try.func33 rfl Try.ntmps33 rfl ?_
  refine C_seq ?_
  refine C_region ?_
  refine V_y (Y_assign rfl) rfl rfl rfl ?_
  refine V_to (fun _ _ => rfl) ?_
  refine C_seq ?_
  refine C_seq ?_
  refine C_region ?_
  refine V_y (Y_move rfl) rfl rfl rfl ?_
  refine V_y (Y_lenSl h_l rfl Try.underlying23 rfl) rfl rfl rfl ?_
  refine V_y (Y_move rfl) rfl rfl rfl ?_
  refine V_to (fun _ _ => rfl) ?_
  have hn19 := Sl.le h_l
  obtain ⟨o3, ho3, hm⟩ := Option.bind_eq_some_iff.1 hm
  refine C_cutG (ι := Unit) (fun (s4 : Unit) => []) (fun (s4 : Unit) => fun w' => o3 = .fin s4 ∧ w = w') ?_ ?_
  · refine C_block ?_
    refine C_range ho3 (fun k6 _ a w' => ∃ i : Unit, Has ⟨18, [], none⟩ a ([(1, .int .i64 most), (7, v_l), (8, .int .i64 (l.length : Int)), (9, .int .i64 (k6 : Int))]) ∧ w = w') (fun a ha => ⟨(), ha.sub ⟨rfl, rfl, rfl, rfl, trivial⟩, rfl⟩) ?_
    rintro K k6 _ a _ ⟨_, ha28, rfl⟩ hle15 K18 h17
    refine C_of ?_ ha28
    refine C_seq (C_region (V_y (Y_lss rfl rfl) rfl rfl rfl (V_to (fun _ _ => rfl) ?_)))
    refine C_seq ?_
    refine C_cond rfl (fun hc20 => ?_) (fun hc20 => ?_)
    · have hlt16 := lt_of_dec hc20
      obtain ⟨x12, h13, h14⟩ := K18 hlt16
      refine C_skip_to (fun _ _ => rfl) ?_
      refine C_seq ?_
      refine C_block ?_
      refine C_seq ?_
      refine C_region ?_
      obtain ⟨x21, hx21, h13⟩ := Option.bind_eq_some_iff.1 h13
      refine V_indexAddr h_l hx21 Try.underlying23 Try.sizeOf3 rfl rfl rfl ?_
      intro b22 o23 h24
      refine V_y (Y_load (El.int h24) Try.isAgg3 rfl) rfl rfl rfl ?_
      refine V_y (Y_assign rfl) rfl rfl rfl ?_
      refine V_to (fun _ _ => rfl) ?_
      refine C_seq ?_
      refine C_region ?_
      refine V_y (Y_move rfl) rfl rfl rfl ?_
      refine V_y (Y_move rfl) rfl rfl rfl ?_
      refine V_call Try.call13 rfl rfl rfl rfl (staff_within_c w x21 0 most) ?_
      rintro _ _ ⟨rfl, rfl⟩
      refine V_y (Y_not rfl) rfl rfl rfl ?_
      refine V_to (fun _ _ => rfl) ?_
      refine C_cond rfl (fun hc25 => ?_) (fun hc25 => ?_)
      · rw [if_pos hc25] at h13
        refine C_seq ?_
        refine C_region ?_
        refine V_y (Y_assign rfl) rfl rfl rfl ?_
        refine V_to (fun _ _ => rfl) ?_
        obtain rfl := Option.some.inj h13
        obtain rfl := (h14 : Lp.rt _ = _)
        rw [Lp.andThen_rt] at hm
        obtain rfl := Option.some.inj hm
        refine C_ret ?_
        try simp only [↓inBlock_ret, ↓then_ret]
        exact retQ rfl (Res.one Try.results33 rfl) ⟨rfl, rfl⟩
      · rw [if_neg (nt hc25)] at h13
        refine C_skip_to (fun _ _ => rfl) ?_
        refine C_region ?_
        refine V_y (Y_addI rfl rfl) rfl rfl rfl ?_
        refine V_y (Y_move rfl) rfl rfl rfl ?_
        obtain rfl := Option.some.inj h13
        refine V_end (fun a ha26 => ?_)
        exact ⟨(), hlt16, h14, ⟨(), ha26.sub ⟨rfl, rfl, rfl, (congrArg (fun z => some (Value.int .i64 z)) (w64_succ hlt16 hn19)), trivial⟩, rfl⟩⟩
    · refine C_exit (fun a ha27 => ?_)
      exact ⟨(), ha27.sub trivial, ⟨(h17 (eq_of_dec hle15 hc20)).symm, rfl⟩⟩
  rintro s4 _ ⟨rfl, rfl⟩ a ha9
  rw [Lp.andThen_fin] at hm
  refine C_at (n := ⟨18, [], none⟩) (fun _ _ => rfl) ?_ ha9
  refine C_seq ?_
  refine C_region ?_
  refine V_y (Y_assign rfl) rfl rfl rfl ?_
  refine V_to (fun _ _ => rfl) ?_
  obtain rfl := Option.some.inj hm
  refine C_ret ?_
  try simp only [↓inBlock_ret, ↓then_ret]
  exact retQ rfl (Res.one Try.results33 rfl) ⟨rfl, rfl⟩

set_option maxRecDepth 4000 in
set_option maxHeartbeats 4000000 in
theorem staff_checkPlan_c (w : World) {A : Nat → Prop} (forms : (List staff_Form)) (v_forms : Value) (h_forms : Sl A w v_forms forms) (plan : (List Int)) (v_plan : Value) (h_plan : Sl A w v_plan plan) {r : Int} (hm : staff_checkPlan forms plan = some r) : Ret Try.prog 20 #[v_forms, v_plan] w fun v w' => v = .int .i64 r ∧ w = w' := by
  unfold staff_checkPlan at hm
  refine enter Try.func20 rfl Try.ntmps20 rfl ?_
  refine C_seq ?_
  refine C_region ?_
  refine V_y (Y_assign rfl) rfl rfl rfl ?_
  refine V_to (fun _ _ => rfl) ?_
  refine C_seq ?_
  refine C_seq ?_
  refine C_region ?_
  refine V_y (Y_move rfl) rfl rfl rfl ?_
  refine V_y (Y_lenSl h_plan rfl Try.underlying23 rfl) rfl rfl rfl ?_
  refine V_y (Y_move rfl) rfl rfl rfl ?_
  refine V_y (Y_lenSl h_forms rfl Try.underlying29 rfl) rfl rfl rfl ?_
  refine V_y (Y_neq rfl rfl) rfl rfl rfl ?_
  refine V_to (fun _ _ => rfl) ?_
  refine C_cond rfl (fun hc5 => ?_) (fun hc5 => ?_)
  · rw [if_pos hc5] at hm
    refine C_seq ?_
    refine C_region ?_
    refine V_y (Y_assign rfl) rfl rfl rfl ?_
    refine V_to (fun _ _ => rfl) ?_
    obtain rfl := Option.some.inj hm
    refine C_ret ?_
    try simp only [↓inBlock_ret, ↓then_ret]
    exact retQ rfl (Res.one Try.results20 rfl) ⟨rfl, rfl⟩
  · rw [if_neg (nt hc5)] at hm
    refine C_skip_to (fun _ _ => rfl) ?_
    refine C_seq ?_
    refine C_region ?_
    refine V_y (Y_move rfl) rfl rfl rfl ?_
    obtain ⟨x6, hx6, hm⟩ := Option.bind_eq_some_iff.1 hm
    refine V_call Try.call33 rfl rfl rfl rfl (staff_checkNumbers_c w plan v_plan h_plan 60 hx6) ?_
    rintro _ _ ⟨rfl, rfl⟩
    refine V_y (Y_assign rfl) rfl rfl rfl ?_
    refine V_to (fun _ _ => rfl) ?_
    obtain rfl := Option.some.inj hm
    refine C_ret ?_
    try simp only [↓inBlock_ret, ↓then_ret]
    exact retQ rfl (Res.one Try.results20 rfl) ⟨rfl, rfl⟩

set_option maxRecDepth 4000 in
set_option maxHeartbeats 4000000 in
theorem staff_CheckRules_c (w : World) {A : Nat → Prop} (hA : ∀ b, w.heap.size ≤ b → A b) (r_ : staff_Rules) {r : Int} (hm : staff_CheckRules r_ = some r) : Ret Try.prog 11 #[.agg #[.int .i64 r_.people, .int .i64 r_.rest_, .int .i64 r_.most]] w fun v w' => v = .int .i64 r ∧ Kp w w' := by
  unfold staff_CheckRules at hm
  refine enter Try.func11 rfl Try.ntmps11 rfl ?_
  have hA0 := hA
  have hB := Nat.le_refl w.heap.size
  have hK : Tr w.heap.size A w A w := Tr.refl hA
  have hH : Hp w.heap.size A w [] := Hp.nil
  refine C_seq ?_
  refine C_region ?_
  refine V_box rfl rfl ?_
  intro b1 w2 h3
  have hk5 := h3.kp
  have h4 : El (α := staff_Rules) A w2 b1 0 r_ := h3.el hA ⟨[.int .i64 r_.people], _, rfl, rfl, ⟨[.int .i64 r_.rest_], _, rfl, rfl, rfl⟩⟩
  have ht6 := Kp.tr hk5 hA hB
  replace hH := Hp.kp hH hk5
  replace hK := Tr.trans hK ht6
  replace hB := Nat.le_trans hB ht6.ex.size
  replace hA := ht6.new
  refine V_y (Y_assign rfl) rfl rfl rfl ?_
  refine V_to (fun _ _ => rfl) ?_
  refine C_seq ?_
  refine C_seq ?_
  refine C_region ?_
  have h7 := El_staff_Rules_0 h4
  refine V_y (Y_fieldAddr Try.underlying31 rfl Try.sizeOf3 (by decide) rfl) rfl rfl rfl ?_
  refine V_y (Y_load (El.int h7) Try.isAgg3 rfl) rfl rfl rfl ?_
  refine V_call Try.call13 rfl rfl rfl rfl (staff_within_c w2 r_.people 0 60) ?_
  rintro _ _ ⟨rfl, rfl⟩
  refine V_y (Y_not rfl) rfl rfl rfl ?_
  refine V_y (Y_move rfl) rfl rfl rfl ?_
  refine V_cut 5 (fun _ : Unit => [(1, .pointer (some ⟨b1, 0, none⟩)), (12, .bool ((!(staff_within r_.people 0 60)) || (!(staff_within r_.rest_ 0 400))))]) (fun _ w' => w2 = w') ?_ ?_
  · simp only [List.take, List.drop]
    rcases Bool.eq_false_or_eq_true (!(staff_within r_.people 0 60)) with hc8 | hc8
    · refine V_gn rfl rfl rfl hc8 rfl rfl rfl ?_
      refine V_gn rfl rfl rfl hc8 rfl rfl rfl ?_
      refine V_gn rfl rfl rfl hc8 rfl rfl rfl ?_
      refine V_gn rfl rfl rfl hc8 rfl rfl rfl ?_
      refine V_y (Y_pick_te rfl hc8 rfl) rfl rfl rfl ?_
      exact V_end fun a ha => ⟨(), ha.sub ⟨rfl, (by rw [hc8]; rfl), trivial⟩, rfl⟩
    · refine V_ge rfl rfl rfl hc8 ?_
      have h10 := El_staff_Rules_1 h4
      refine V_y (Y_fieldAddr Try.underlying31 rfl Try.sizeOf3 (by decide) rfl) rfl rfl rfl ?_
      refine V_ge rfl rfl rfl hc8 ?_
      refine V_y (Y_load (El.int h10) Try.isAgg3 rfl) rfl rfl rfl ?_
      refine V_ge rfl rfl rfl hc8 ?_
      refine V_call Try.call13 rfl rfl rfl rfl (staff_within_c w2 r_.rest_ 0 400) ?_
      rintro _ _ ⟨rfl, rfl⟩
      refine V_ge rfl rfl rfl hc8 ?_
      refine V_y (Y_not rfl) rfl rfl rfl ?_
      refine V_y (Y_pick_fe rfl hc8 rfl) rfl rfl rfl ?_
      exact V_end fun a ha => ⟨(), ha.sub ⟨rfl, (by rw [hc8]; rfl), trivial⟩, rfl⟩
  simp only [List.take, List.drop]
  rintro _ _ rfl
  refine V_y (Y_move rfl) rfl rfl rfl ?_
  refine V_cut 5 (fun _ : Unit => [(18, .bool (((!(staff_within r_.people 0 60)) || (!(staff_within r_.rest_ 0 400))) || (!(staff_within r_.most 0 400))))]) (fun _ w' => w2 = w') ?_ ?_
  · simp only [List.take, List.drop]
    rcases Bool.eq_false_or_eq_true (((!(staff_within r_.people 0 60)) || (!(staff_within r_.rest_ 0 400)))) with hc11 | hc11
    · refine V_gn rfl rfl rfl hc11 rfl rfl rfl ?_
      refine V_gn rfl rfl rfl hc11 rfl rfl rfl ?_
      refine V_gn rfl rfl rfl hc11 rfl rfl rfl ?_
      refine V_gn rfl rfl rfl hc11 rfl rfl rfl ?_
      refine V_y (Y_pick_te rfl hc11 rfl) rfl rfl rfl ?_
      exact V_end fun a ha => ⟨(), ha.sub ⟨(by rw [hc11]; rfl), trivial⟩, rfl⟩
    · refine V_ge rfl rfl rfl hc11 ?_
      have h13 := El_staff_Rules_2 h4
      refine V_y (Y_fieldAddr Try.underlying31 rfl Try.sizeOf3 (by decide) rfl) rfl rfl rfl ?_
      refine V_ge rfl rfl rfl hc11 ?_
      refine V_y (Y_load (El.int h13) Try.isAgg3 rfl) rfl rfl rfl ?_
      refine V_ge rfl rfl rfl hc11 ?_
      refine V_call Try.call13 rfl rfl rfl rfl (staff_within_c w2 r_.most 0 400) ?_
      rintro _ _ ⟨rfl, rfl⟩
      refine V_ge rfl rfl rfl hc11 ?_
      refine V_y (Y_not rfl) rfl rfl rfl ?_
      refine V_y (Y_pick_fe rfl hc11 rfl) rfl rfl rfl ?_
      exact V_end fun a ha => ⟨(), ha.sub ⟨(by rw [hc11]; rfl), trivial⟩, rfl⟩
  simp only [List.take, List.drop]
  rintro _ _ rfl
  refine V_to (fun _ _ => rfl) ?_
  refine C_cond rfl (fun hc14 => ?_) (fun hc14 => ?_)
  · rw [if_pos hc14] at hm
    refine C_seq ?_
    refine C_region ?_
    refine V_y (Y_assign rfl) rfl rfl rfl ?_
    refine V_to (fun _ _ => rfl) ?_
    obtain rfl := Option.some.inj hm
    refine C_ret ?_
    try simp only [↓inBlock_ret, ↓then_ret]
    exact retQ rfl (Res.one Try.results11 rfl) ⟨rfl, hK.kp⟩
  · rw [if_neg (nt hc14)] at hm
    refine C_skip_to (fun _ _ => rfl) ?_
    refine C_seq ?_
    refine C_region ?_
    refine V_y (Y_assign rfl) rfl rfl rfl ?_
    refine V_to (fun _ _ => rfl) ?_
    obtain rfl := Option.some.inj hm
    refine C_ret ?_
    try simp only [↓inBlock_ret, ↓then_ret]
    exact retQ rfl (Res.one Try.results11 rfl) ⟨rfl, hK.kp⟩

set_option maxRecDepth 4000 in
set_option maxHeartbeats 4000000 in
theorem cmp_Or_api_Errno_c (w : World) {A : Nat → Prop} (vals : (List Int)) (v_vals : Value) (h_vals : Sl A w v_vals vals) {r : Int} (hm : cmp_Or_api_Errno vals = some r) : Ret Try.prog 18 #[v_vals] w fun v w' => v = .int .i64 r ∧ w = w' := by
  unfold cmp_Or_api_Errno at hm
  refine enter Try.func18 rfl Try.ntmps18 rfl ?_
  refine C_seq ?_
  refine C_region ?_
  refine V_y (Y_assign rfl) rfl rfl rfl ?_
  refine V_to (fun _ _ => rfl) ?_
  refine C_seq ?_
  refine C_region ?_
  refine V_y (Y_assign rfl) rfl rfl rfl ?_
  refine V_to (fun _ _ => rfl) ?_
  refine C_seq ?_
  refine C_seq ?_
  refine C_region ?_
  refine V_y (Y_move rfl) rfl rfl rfl ?_
  refine V_y (Y_lenSl h_vals rfl Try.underlying62 rfl) rfl rfl rfl ?_
  refine V_y (Y_move rfl) rfl rfl rfl ?_
  refine V_to (fun _ _ => rfl) ?_
  have hn19 := Sl.le h_vals
  obtain ⟨o3, ho3, hm⟩ := Option.bind_eq_some_iff.1 hm
  refine C_cutG (ι := Unit) (fun (s4 : Unit) => [(3, .int .i64 0)]) (fun (s4 : Unit) => fun w' => o3 = .fin s4 ∧ w = w') ?_ ?_
  · refine C_block ?_
    refine C_range ho3 (fun k6 _ a w' => ∃ i : Unit, Has ⟨18, [], none⟩ a ([(3, .int .i64 0), (6, v_vals), (7, .int .i64 (vals.length : Int)), (8, .int .i64 (k6 : Int))]) ∧ w = w') (fun a ha => ⟨(), ha.sub ⟨rfl, rfl, rfl, rfl, trivial⟩, rfl⟩) ?_
    rintro K k6 _ a _ ⟨_, ha28, rfl⟩ hle15 K18 h17
    refine C_of ?_ ha28
    refine C_seq (C_region (V_y (Y_lss rfl rfl) rfl rfl rfl (V_to (fun _ _ => rfl) ?_)))
    refine C_seq ?_
    refine C_cond rfl (fun hc20 => ?_) (fun hc20 => ?_)
    · have hlt16 := lt_of_dec hc20
      obtain ⟨x12, h13, h14⟩ := K18 hlt16
      refine C_skip_to (fun _ _ => rfl) ?_
      refine C_seq ?_
      refine C_block ?_
      refine C_seq ?_
      refine C_region ?_
      obtain ⟨x21, hx21, h13⟩ := Option.bind_eq_some_iff.1 h13
      refine V_indexAddr h_vals hx21 Try.underlying62 Try.sizeOf24 rfl rfl rfl ?_
      intro b22 o23 h24
      refine V_y (Y_load (El.int h24) Try.isAgg24 rfl) rfl rfl rfl ?_
      refine V_y (Y_assign rfl) rfl rfl rfl ?_
      refine V_to (fun _ _ => rfl) ?_
      refine C_seq ?_
      refine C_region ?_
      refine V_y (Y_move rfl) rfl rfl rfl ?_
      refine V_y (Y_move rfl) rfl rfl rfl ?_
      refine V_y (Y_neq rfl rfl) rfl rfl rfl ?_
      refine V_to (fun _ _ => rfl) ?_
      refine C_cond rfl (fun hc25 => ?_) (fun hc25 => ?_)
      · rw [if_pos hc25] at h13
        refine C_seq ?_
        refine C_region ?_
        refine V_y (Y_move rfl) rfl rfl rfl ?_
        refine V_y (Y_assign rfl) rfl rfl rfl ?_
        refine V_to (fun _ _ => rfl) ?_
        obtain rfl := Option.some.inj h13
        obtain rfl := (h14 : Lp.rt _ = _)
        rw [Lp.andThen_rt] at hm
        obtain rfl := Option.some.inj hm
        refine C_ret ?_
        try simp only [↓inBlock_ret, ↓then_ret]
        exact retQ rfl (Res.one Try.results18 rfl) ⟨rfl, rfl⟩
      · rw [if_neg (nt hc25)] at h13
        refine C_skip_to (fun _ _ => rfl) ?_
        refine C_region ?_
        refine V_y (Y_addI rfl rfl) rfl rfl rfl ?_
        refine V_y (Y_move rfl) rfl rfl rfl ?_
        obtain rfl := Option.some.inj h13
        refine V_end (fun a ha26 => ?_)
        exact ⟨(), hlt16, h14, ⟨(), ha26.sub ⟨rfl, rfl, rfl, (congrArg (fun z => some (Value.int .i64 z)) (w64_succ hlt16 hn19)), trivial⟩, rfl⟩⟩
    · refine C_exit (fun a ha27 => ?_)
      exact ⟨(), ha27.sub ⟨rfl, trivial⟩, ⟨(h17 (eq_of_dec hle15 hc20)).symm, rfl⟩⟩
  rintro s4 _ ⟨rfl, rfl⟩ a ha9
  rw [Lp.andThen_fin] at hm
  refine C_at (n := ⟨18, [], none⟩) (fun _ _ => rfl) ?_ ha9
  refine C_seq ?_
  refine C_region ?_
  refine V_y (Y_move rfl) rfl rfl rfl ?_
  refine V_y (Y_assign rfl) rfl rfl rfl ?_
  refine V_to (fun _ _ => rfl) ?_
  obtain rfl := Option.some.inj hm
  refine C_ret ?_
  try simp only [↓inBlock_ret, ↓then_ret]
  exact retQ rfl (Res.one Try.results18 rfl) ⟨rfl, rfl⟩

set_option maxRecDepth 4000 in
set_option maxHeartbeats 4000000 in
theorem slices_IndexFunc_Lstaff_Form_staff_Form_c (w : World) {A : Nat → Prop} (hA : ∀ b, w.heap.size ≤ b → A b) (s : (List staff_Form)) (v_s : Value) (h_s : Sl A w v_s s) (f : staff_Form → Option Bool) (f_f : FuncId) (f_a f_c : Array Value) (f_call : ∀ (args : Array Value) (w : World), (callFunc f_f args).run Try.prog w = .ok (.enter f_f args) w) (f_spec : ∀ (w1 : World) (A1 : Nat → Prop), Tr w.heap.size A w A1 w1 → (∀ b, w1.heap.size ≤ b → A1 b) → ∀ (y0 : staff_Form) (r : Bool), f y0 = some r → Ret Try.prog f_f (f_a ++ #[.agg #[.int .i64 y0.from_, .int .i64 y0.slots]] ++ f_c) w1 fun v w' => v = .bool r ∧ Kp w1 w') {r : Int} (hm : slices_IndexFunc_Lstaff_Form_staff_Form s f = some r) : Ret Try.prog 34 #[v_s, .func (.func f_f) f_a f_c] w fun v w' => v = .int .i64 r ∧ Kp w w' := by
  unfold slices_IndexFunc_Lstaff_Form_staff_Form at hm
  refine enter Try.func34 rfl Try.ntmps34 rfl ?_
  have hA0 := hA
  have hB := Nat.le_refl w.heap.size
  have hK : Tr w.heap.size A w A w := Tr.refl hA
  have hH : Hp w.heap.size A w [] := Hp.nil
  refine C_seq ?_
  refine C_region ?_
  refine V_y (Y_assign rfl) rfl rfl rfl ?_
  refine V_to (fun _ _ => rfl) ?_
  refine C_seq ?_
  refine C_seq ?_
  refine C_region ?_
  refine V_y (Y_move rfl) rfl rfl rfl ?_
  refine V_y (Y_lenSl h_s rfl Try.underlying29 rfl) rfl rfl rfl ?_
  refine V_y (Y_move rfl) rfl rfl rfl ?_
  refine V_to (fun _ _ => rfl) ?_
  have hn23 := Sl.le h_s
  obtain ⟨o3, ho3, hm⟩ := Option.bind_eq_some_iff.1 hm
  refine C_cutG (ι := (Unit × (Nat → Prop))) (fun ⟨s4, A10⟩ => []) (fun ⟨s4, A10⟩ => fun w' => o3 = .fin s4 ∧ Hp w.heap.size A10 w' ([]) ∧ Tr w.heap.size A w A10 w') ?_ ?_
  · refine C_block ?_
    refine C_range ho3 (fun k6 _ a w' => ∃ i : (Nat → Prop), Has ⟨19, [], none⟩ a ([(0, v_s), (1, .func (.func f_f) f_a f_c), (7, .int .i64 (s.length : Int)), (8, .int .i64 (k6 : Int))]) ∧ Hp w.heap.size i w' ([]) ∧ Tr w.heap.size A w i w') (fun a ha => ⟨A, ha.sub ⟨rfl, rfl, rfl, rfl, trivial⟩, ⟨hH, Tr.refl hA⟩⟩) ?_
    rintro K k6 _ a w13 ⟨A14, ha37, hH15, hr5⟩ hle19 K22 h21
    refine C_of ?_ ha37
    replace h_s := Sl.tr h_s hr5
    replace hK := Tr.trans hK hr5
    replace hB := Nat.le_trans hB hr5.ex.size
    replace hA := hr5.new
    replace hH : Hp w.heap.size A14 w13 ([]) := hH15
    refine C_seq (C_region (V_y (Y_lss rfl rfl) rfl rfl rfl (V_to (fun _ _ => rfl) ?_)))
    refine C_seq ?_
    refine C_cond rfl (fun hc24 => ?_) (fun hc24 => ?_)
    · have hlt20 := lt_of_dec hc24
      obtain ⟨x16, h17, h18⟩ := K22 hlt20
      refine C_skip_to (fun _ _ => rfl) ?_
      refine C_seq ?_
      refine C_block ?_
      refine C_seq ?_
      refine C_region ?_
      refine V_y (Y_move rfl) rfl rfl rfl ?_
      refine V_y (Y_assign rfl) rfl rfl rfl ?_
      refine V_to (fun _ _ => rfl) ?_
      refine C_seq ?_
      refine C_region ?_
      refine V_y (Y_move rfl) rfl rfl rfl ?_
      refine V_y (Y_move rfl) rfl rfl rfl ?_
      refine V_y (Y_move rfl) rfl rfl rfl ?_
      obtain ⟨x25, hx25, h17⟩ := Option.bind_eq_some_iff.1 h17
      refine V_indexAddr h_s hx25 Try.underlying29 Try.sizeOf52 rfl rfl rfl ?_
      intro b26 o27 h28
      obtain ⟨h29, _⟩ := El_staff_Form h28
      refine V_y (Y_loadA h29 Try.isAgg52 Try.sizeOf52 rfl) rfl rfl rfl ?_
      obtain ⟨x30, hx30, h17⟩ := Option.bind_eq_some_iff.1 h17
      refine V_call f_call rfl rfl rfl rfl (f_spec w13 _ hK hA x25 _ hx30) ?_
      rintro _ w31 ⟨rfl, hk32⟩
      have ht33 := Kp.tr hk32 hA hB
      replace hH := Hp.kp hH hk32
      replace h_s := Sl.tr h_s ht33
      replace h28 := El.tr h28 ht33
      replace hK := Tr.trans hK ht33
      replace hr5 := Tr.trans hr5 ht33
      replace hB := Nat.le_trans hB ht33.ex.size
      replace hA := ht33.new
      refine V_to (fun _ _ => rfl) ?_
      refine C_cond rfl (fun hc34 => ?_) (fun hc34 => ?_)
      · rw [if_pos hc34] at h17
        refine C_seq ?_
        refine C_region ?_
        refine V_y (Y_move rfl) rfl rfl rfl ?_
        refine V_y (Y_assign rfl) rfl rfl rfl ?_
        refine V_to (fun _ _ => rfl) ?_
        obtain rfl := Option.some.inj h17
        obtain rfl := (h18 : Lp.rt _ = _)
        rw [Lp.andThen_rt] at hm
        obtain rfl := Option.some.inj hm
        refine C_ret ?_
        try simp only [↓inBlock_ret, ↓then_ret]
        exact retQ rfl (Res.one Try.results34 rfl) ⟨rfl, hK.kp⟩
      · rw [if_neg (nt hc34)] at h17
        refine C_skip_to (fun _ _ => rfl) ?_
        refine C_region ?_
        refine V_y (Y_addI rfl rfl) rfl rfl rfl ?_
        refine V_y (Y_move rfl) rfl rfl rfl ?_
        obtain rfl := Option.some.inj h17
        refine V_end (fun a ha35 => ?_)
        exact ⟨(), hlt20, h18, ⟨A14, ha35.sub ⟨rfl, rfl, rfl, (congrArg (fun z => some (Value.int .i64 z)) (w64_succ hlt20 hn23)), trivial⟩, ⟨hH, hr5⟩⟩⟩
    · refine C_exit (fun a ha36 => ?_)
      exact ⟨((), A14), ha36.sub trivial, ⟨(h21 (eq_of_dec hle19 hc24)).symm, hH, hr5⟩⟩
  rintro ⟨s4, A10⟩ w7 ⟨rfl, hH11, hk8⟩ a ha9
  rw [Lp.andThen_fin] at hm
  replace hK := Tr.trans hK hk8
  replace hB := Nat.le_trans hB hk8.ex.size
  replace hA := hk8.new
  replace hH : Hp w.heap.size A10 w7 ([]) := hH11
  refine C_at (n := ⟨19, [], none⟩) (fun _ _ => rfl) ?_ ha9
  refine C_seq ?_
  refine C_region ?_
  refine V_y (Y_assign rfl) rfl rfl rfl ?_
  refine V_to (fun _ _ => rfl) ?_
  obtain rfl := Option.some.inj hm
  refine C_ret ?_
  try simp only [↓inBlock_ret, ↓then_ret]
  exact retQ rfl (Res.one Try.results34 rfl) ⟨rfl, hK.kp⟩

set_option maxRecDepth 4000 in
set_option maxHeartbeats 4000000 in
theorem slices_ContainsFunc_Lstaff_Form_staff_Form_c (w : World) {A : Nat → Prop} (hA : ∀ b, w.heap.size ≤ b → A b) (s : (List staff_Form)) (v_s : Value) (h_s : Sl A w v_s s) (f : staff_Form → Option Bool) (f_f : FuncId) (f_a f_c : Array Value) (f_call : ∀ (args : Array Value) (w : World), (callFunc f_f args).run Try.prog w = .ok (.enter f_f args) w) (f_spec : ∀ (w1 : World) (A1 : Nat → Prop), Tr w.heap.size A w A1 w1 → (∀ b, w1.heap.size ≤ b → A1 b) → ∀ (y0 : staff_Form) (r : Bool), f y0 = some r → Ret Try.prog f_f (f_a ++ #[.agg #[.int .i64 y0.from_, .int .i64 y0.slots]] ++ f_c) w1 fun v w' => v = .bool r ∧ Kp w1 w') {r : Bool} (hm : slices_ContainsFunc_Lstaff_Form_staff_Form s f = some r) : Ret Try.prog 21 #[v_s, .func (.func f_f) f_a f_c] w fun v w' => v = .bool r ∧ Kp w w' := by
  unfold slices_ContainsFunc_Lstaff_Form_staff_Form at hm
  refine enter Try.func21 rfl Try.ntmps21 rfl ?_
  have hA0 := hA
  have hB := Nat.le_refl w.heap.size
  have hK : Tr w.heap.size A w A w := Tr.refl hA
  have hH : Hp w.heap.size A w [] := Hp.nil
  refine C_seq ?_
  refine C_region ?_
  refine V_y (Y_assign rfl) rfl rfl rfl ?_
  refine V_to (fun _ _ => rfl) ?_
  refine C_seq ?_
  refine C_region ?_
  refine V_y (Y_move rfl) rfl rfl rfl ?_
  refine V_y (Y_move rfl) rfl rfl rfl ?_
  obtain ⟨x3, hx3, hm⟩ := Option.bind_eq_some_iff.1 hm
  refine V_call Try.call34 rfl rfl rfl rfl (slices_IndexFunc_Lstaff_Form_staff_Form_c w hA s v_s h_s f f_f f_a f_c f_call (fun w1 A1 ht => f_spec w1 A1 (Tr.trans hK ht)) hx3) ?_
  rintro _ w4 ⟨rfl, hk5⟩
  have ht6 := Kp.tr hk5 hA hB
  replace hH := Hp.kp hH hk5
  replace h_s := Sl.tr h_s ht6
  replace hK := Tr.trans hK ht6
  replace hB := Nat.le_trans hB ht6.ex.size
  replace hA := ht6.new
  refine V_y (Y_geq rfl rfl) rfl rfl rfl ?_
  refine V_y (Y_assign rfl) rfl rfl rfl ?_
  refine V_to (fun _ _ => rfl) ?_
  obtain rfl := Option.some.inj hm
  refine C_ret ?_
  try simp only [↓inBlock_ret, ↓then_ret]
  exact retQ rfl (Res.one Try.results21 rfl) ⟨rfl, hK.kp⟩

set_option maxRecDepth 4000 in
set_option maxHeartbeats 4000000 in
theorem staff_apart_c (w : World) {A : Nat → Prop} (hA : ∀ b, w.heap.size ≤ b → A b) (a_ : staff_Form) (b : staff_Form) (rest_ : Int) {r : Bool} (hm : staff_apart a_ b rest_ = some r) : Ret Try.prog 23 #[.agg #[.int .i64 a_.from_, .int .i64 a_.slots], .agg #[.int .i64 b.from_, .int .i64 b.slots], .int .i64 rest_] w fun v w' => v = .bool r ∧ Kp w w' := by
  unfold staff_apart at hm
  refine enter Try.func23 rfl Try.ntmps23 rfl ?_
  have hA0 := hA
  have hB := Nat.le_refl w.heap.size
  have hK : Tr w.heap.size A w A w := Tr.refl hA
  have hH : Hp w.heap.size A w [] := Hp.nil
  refine C_seq ?_
  refine C_region ?_
  refine V_box rfl rfl ?_
  intro b1 w2 h3
  have hk5 := h3.kp
  have h4 : El (α := staff_Form) A w2 b1 0 a_ := h3.el hA ⟨[.int .i64 a_.from_], _, rfl, rfl, rfl⟩
  have ht6 := Kp.tr hk5 hA hB
  replace hH := Hp.kp hH hk5
  replace hK := Tr.trans hK ht6
  replace hB := Nat.le_trans hB ht6.ex.size
  replace hA := ht6.new
  refine V_box rfl rfl ?_
  intro b7 w9 h10
  have hk12 := h10.kp
  have h11 : El (α := staff_Form) A w9 b7 0 b := h10.el hA ⟨[.int .i64 b.from_], _, rfl, rfl, rfl⟩
  have ht13 := Kp.tr hk12 hA hB
  replace hH := Hp.kp hH hk12
  replace h4 := El.tr h4 ht13
  replace hK := Tr.trans hK ht13
  replace hB := Nat.le_trans hB ht13.ex.size
  replace hA := ht13.new
  refine V_y (Y_assign rfl) rfl rfl rfl ?_
  refine V_to (fun _ _ => rfl) ?_
  refine C_seq ?_
  refine C_region ?_
  have h14 := El_staff_Form_0 h4
  refine V_y (Y_fieldAddr Try.underlying52 rfl Try.sizeOf3 (by decide) rfl) rfl rfl rfl ?_
  refine V_y (Y_load (El.int h14) Try.isAgg3 rfl) rfl rfl rfl ?_
  have h15 := El_staff_Form_1 h4
  refine V_y (Y_fieldAddr Try.underlying52 rfl Try.sizeOf3 (by decide) rfl) rfl rfl rfl ?_
  refine V_y (Y_load (El.int h15) Try.isAgg3 rfl) rfl rfl rfl ?_
  refine V_y (Y_addI rfl rfl) rfl rfl rfl ?_
  refine V_y (Y_move rfl) rfl rfl rfl ?_
  refine V_y (Y_addI rfl rfl) rfl rfl rfl ?_
  have h16 := El_staff_Form_0 h11
  refine V_y (Y_fieldAddr Try.underlying52 rfl Try.sizeOf3 (by decide) rfl) rfl rfl rfl ?_
  refine V_y (Y_load (El.int h16) Try.isAgg3 rfl) rfl rfl rfl ?_
  refine V_y (Y_leq rfl rfl) rfl rfl rfl ?_
  refine V_y (Y_move rfl) rfl rfl rfl ?_
  refine V_cut 11 (fun _ : Unit => [(28, .bool ((decide ((w64 ((w64 (a_.from_ + a_.slots)) + rest_)) ≤ b.from_)) || (decide ((w64 ((w64 (b.from_ + b.slots)) + rest_)) ≤ a_.from_))))]) (fun _ w' => w9 = w') ?_ ?_
  · simp only [List.take, List.drop]
    rcases Bool.eq_false_or_eq_true (decide ((w64 ((w64 (a_.from_ + a_.slots)) + rest_)) ≤ b.from_)) with hc17 | hc17
    · refine V_gn rfl rfl rfl hc17 rfl rfl rfl ?_
      refine V_gn rfl rfl rfl hc17 rfl rfl rfl ?_
      refine V_gn rfl rfl rfl hc17 rfl rfl rfl ?_
      refine V_gn rfl rfl rfl hc17 rfl rfl rfl ?_
      refine V_gn rfl rfl rfl hc17 rfl rfl rfl ?_
      refine V_gn rfl rfl rfl hc17 rfl rfl rfl ?_
      refine V_gn rfl rfl rfl hc17 rfl rfl rfl ?_
      refine V_gn rfl rfl rfl hc17 rfl rfl rfl ?_
      refine V_gn rfl rfl rfl hc17 rfl rfl rfl ?_
      refine V_gn rfl rfl rfl hc17 rfl rfl rfl ?_
      refine V_y (Y_pick_te rfl hc17 rfl) rfl rfl rfl ?_
      exact V_end fun a ha => ⟨(), ha.sub ⟨(by rw [hc17]; rfl), trivial⟩, rfl⟩
    · refine V_ge rfl rfl rfl hc17 ?_
      have h19 := El_staff_Form_0 h11
      refine V_y (Y_fieldAddr Try.underlying52 rfl Try.sizeOf3 (by decide) rfl) rfl rfl rfl ?_
      refine V_ge rfl rfl rfl hc17 ?_
      refine V_y (Y_load (El.int h19) Try.isAgg3 rfl) rfl rfl rfl ?_
      refine V_ge rfl rfl rfl hc17 ?_
      have h20 := El_staff_Form_1 h11
      refine V_y (Y_fieldAddr Try.underlying52 rfl Try.sizeOf3 (by decide) rfl) rfl rfl rfl ?_
      refine V_ge rfl rfl rfl hc17 ?_
      refine V_y (Y_load (El.int h20) Try.isAgg3 rfl) rfl rfl rfl ?_
      refine V_ge rfl rfl rfl hc17 ?_
      refine V_y (Y_addI rfl rfl) rfl rfl rfl ?_
      refine V_ge rfl rfl rfl hc17 ?_
      refine V_y (Y_move rfl) rfl rfl rfl ?_
      refine V_ge rfl rfl rfl hc17 ?_
      refine V_y (Y_addI rfl rfl) rfl rfl rfl ?_
      refine V_ge rfl rfl rfl hc17 ?_
      have h21 := El_staff_Form_0 h4
      refine V_y (Y_fieldAddr Try.underlying52 rfl Try.sizeOf3 (by decide) rfl) rfl rfl rfl ?_
      refine V_ge rfl rfl rfl hc17 ?_
      refine V_y (Y_load (El.int h21) Try.isAgg3 rfl) rfl rfl rfl ?_
      refine V_ge rfl rfl rfl hc17 ?_
      refine V_y (Y_leq rfl rfl) rfl rfl rfl ?_
      refine V_y (Y_pick_fe rfl hc17 rfl) rfl rfl rfl ?_
      exact V_end fun a ha => ⟨(), ha.sub ⟨(by rw [hc17]; rfl), trivial⟩, rfl⟩
  simp only [List.take, List.drop]
  rintro _ _ rfl
  refine V_y (Y_assign rfl) rfl rfl rfl ?_
  refine V_to (fun _ _ => rfl) ?_
  obtain rfl := Option.some.inj hm
  refine C_ret ?_
  try simp only [↓inBlock_ret, ↓then_ret]
  exact retQ rfl (Res.one Try.results23 rfl) ⟨rfl, hK.kp⟩

set_option maxRecDepth 4000 in
set_option maxHeartbeats 4000000 in
theorem staff_Roster_1_c (w : World) {A : Nat → Prop} (hA : ∀ b, w.heap.size ≤ b → A b) (x : staff_Form) (p1 : staff_Form) (b_p1 : Nat) (h_p1 : El A w b_p1 0 p1) (p2 : staff_Rules) (b_p2 : Nat) (h_p2 : El A w b_p2 0 p2) {r : Bool} (hm : staff_Roster_1 x p1 p2 = some r) : Ret Try.prog 22 #[.agg #[.int .i64 x.from_, .int .i64 x.slots], .pointer (some ⟨b_p1, 0, none⟩), .pointer (some ⟨b_p2, 0, none⟩)] w fun v w' => v = .bool r ∧ Kp w w' := by
  unfold staff_Roster_1 at hm
  refine enter Try.func22 rfl Try.ntmps22 rfl ?_
  have hA0 := hA
  have hB := Nat.le_refl w.heap.size
  have hK : Tr w.heap.size A w A w := Tr.refl hA
  have hH : Hp w.heap.size A w [] := Hp.nil
  refine C_seq ?_
  refine C_region ?_
  refine V_box rfl rfl ?_
  intro b1 w2 h3
  have hk5 := h3.kp
  have h4 : El (α := staff_Form) A w2 b1 0 x := h3.el hA ⟨[.int .i64 x.from_], _, rfl, rfl, rfl⟩
  have ht6 := Kp.tr hk5 hA hB
  replace hH := Hp.kp hH hk5
  replace h_p1 := El.tr h_p1 ht6
  replace h_p2 := El.tr h_p2 ht6
  replace hK := Tr.trans hK ht6
  replace hB := Nat.le_trans hB ht6.ex.size
  replace hA := ht6.new
  refine V_y (Y_assign rfl) rfl rfl rfl ?_
  refine V_to (fun _ _ => rfl) ?_
  refine C_seq ?_
  refine C_region ?_
  obtain ⟨h7, _⟩ := El_staff_Form h4
  refine V_y (Y_loadA h7 Try.isAgg52 Try.sizeOf52 rfl) rfl rfl rfl ?_
  obtain ⟨h8, _⟩ := El_staff_Form h_p1
  refine V_y (Y_loadA h8 Try.isAgg52 Try.sizeOf52 rfl) rfl rfl rfl ?_
  have h9 := El_staff_Rules_1 h_p2
  refine V_y (Y_fieldAddr Try.underlying31 rfl Try.sizeOf3 (by decide) rfl) rfl rfl rfl ?_
  refine V_y (Y_load (El.int h9) Try.isAgg3 rfl) rfl rfl rfl ?_
  obtain ⟨x10, hx10, hm⟩ := Option.bind_eq_some_iff.1 hm
  refine V_call Try.call23 rfl rfl rfl rfl (staff_apart_c w2 hA x p1 p2.rest_ hx10) ?_
  rintro _ w11 ⟨rfl, hk12⟩
  have ht13 := Kp.tr hk12 hA hB
  replace hH := Hp.kp hH hk12
  replace h_p1 := El.tr h_p1 ht13
  replace h_p2 := El.tr h_p2 ht13
  replace h4 := El.tr h4 ht13
  replace h9 := El.tr h9 ht13
  replace hK := Tr.trans hK ht13
  replace hB := Nat.le_trans hB ht13.ex.size
  replace hA := ht13.new
  refine V_y (Y_not rfl) rfl rfl rfl ?_
  refine V_y (Y_assign rfl) rfl rfl rfl ?_
  refine V_to (fun _ _ => rfl) ?_
  obtain rfl := Option.some.inj hm
  refine C_ret ?_
  try simp only [↓inBlock_ret, ↓then_ret]
  exact retQ rfl (Res.one Try.results22 rfl) ⟨rfl, hK.kp⟩

set_option maxRecDepth 4000 in
set_option maxHeartbeats 4000000 in
theorem staff_Roster_c (w : World) {A : Nat → Prop} {B : Nat} (hB : B ≤ w.heap.size) (hA : ∀ b, w.heap.size ≤ b → A b) (forms : (List staff_Form)) (v_forms : Value) (h_forms : Sl A w v_forms forms) (plan : (List Int)) (v_plan : Value) (h_plan : Sl A w v_plan plan) (r_ : staff_Rules) {L : List Ob} (hH : Hp B A w (L)) {r : ((List staff_Duty) × (List staff_Duty) × Int)} (hm : staff_Roster forms plan r_ = some r) : Ret Try.prog 8 #[v_forms, v_plan, .agg #[.int .i64 r_.people, .int .i64 r_.rest_, .int .i64 r_.most]] w fun v w' => ∃ s0, ∃ s1, ∃ A1 : Nat → Prop, v = .tuple #[s0, s1, .int .i64 r.2.2] ∧ Hp B A1 w' (obS (α := staff_Duty) 37 s0 r.1 :: obS (α := staff_Duty) 37 s1 r.2.1 :: L) ∧ Tr B A w A1 w' := by
  unfold staff_Roster at hm
  refine enter Try.func8 rfl Try.ntmps8 rfl ?_
  have hK : Tr B A w A w := Tr.refl hA
  refine C_seq ?_
  refine C_region ?_
  refine V_box rfl rfl ?_
  intro b5 w6 h7
  have hk9 := h7.kp
  have h8 : El (α := staff_Rules) A w6 b5 0 r_ := h7.el hA ⟨[.int .i64 r_.people], _, rfl, rfl, ⟨[.int .i64 r_.rest_], _, rfl, rfl, rfl⟩⟩
  have ht10 := Kp.tr hk9 hA hB
  replace hH := Hp.kp hH hk9
  replace h_forms := Sl.tr h_forms ht10
  replace h_plan := Sl.tr h_plan ht10
  replace hK := Tr.trans hK ht10
  replace hB := Nat.le_trans hB ht10.ex.size
  replace hA := ht10.new
  refine V_y (Y_assign rfl) rfl rfl rfl ?_
  refine V_y (Y_assign rfl) rfl rfl rfl ?_
  refine V_y (Y_assign rfl) rfl rfl rfl ?_
  refine V_to (fun _ _ => rfl) ?_
  refine C_seq ?_
  refine C_seq ?_
  refine C_region_qt 7 Try_mixed (by kernel_rfl) ?_
  simp only [List.take, List.drop]
  refine VQ_y (fun w' hw' => Y_move rfl) rfl rfl rfl ?_
  obtain ⟨x11, hx11, hm⟩ := Option.bind_eq_some_iff.1 hm
  refine VQ_call (.int .i64 x11) Try.call19 rfl rfl rfl rfl (fun w' hw' => (staff_CheckForms_c w' (fun b hb => hA b (Nat.le_trans hw'.size hb)) forms v_forms (Sl.kp h_forms hw') hx11).mono (fun _ _ h => ⟨h.1, Kp.trans hw' h.2⟩)) ?_
  refine VQ_y (fun w' hw' => Y_move rfl) rfl rfl rfl ?_
  refine VQ_y (fun w' hw' => Y_move rfl) rfl rfl rfl ?_
  obtain ⟨x12, hx12, hm⟩ := Option.bind_eq_some_iff.1 hm
  refine VQ_call (.int .i64 x12) Try.call20 rfl rfl rfl rfl (fun w' hw' => (staff_checkPlan_c w' forms v_forms (Sl.kp h_forms hw') plan v_plan (Sl.kp h_plan hw') hx12).mono (fun _ _ h => ⟨h.1, h.2 ▸ hw'⟩)) ?_
  obtain ⟨h13, _⟩ := El_staff_Rules h8
  refine VQ_y (fun w' hw' => Y_loadA (At.kp h13 hw' h8.2.1) Try.isAgg31 Try.sizeOf31 rfl) rfl rfl rfl ?_
  obtain ⟨x14, hx14, hm⟩ := Option.bind_eq_some_iff.1 hm
  refine VQ_call (.int .i64 x14) Try.call11 rfl rfl rfl rfl (fun w' hw' => (staff_CheckRules_c w' (fun b hb => hA b (Nat.le_trans hw'.size hb)) r_ hx14).mono (fun _ _ h => ⟨h.1, Kp.trans hw' h.2⟩)) ?_
  refine VQ_tail (fun w15 hk16 => ?_)
  try simp only [List.take, List.drop]
  have ht17 := Kp.tr hk16 hA hB
  replace hH := Hp.kp hH hk16
  replace h_forms := Sl.tr h_forms ht17
  replace h_plan := Sl.tr h_plan ht17
  replace h8 := El.tr h8 ht17
  replace hK := Tr.trans hK ht17
  replace hB := Nat.le_trans hB ht17.ex.size
  replace hA := ht17.new
  refine V_buildSlice (l := ([x11, x12, x14] : List Int)) (len := 3) Try.underlying62 Try.sizeOf24 Try.zeroValue24 rfl (by with_unfolding_all rfl) (by decide) (by decide) hA ⟨[.int .i64 x11], _, rfl, rfl, ⟨[.int .i64 x12], _, rfl, rfl, ⟨[.int .i64 x14], _, rfl, rfl, rfl⟩⟩⟩ rfl rfl ?_
  intro v18 w19 hk21 h20
  have ht22 := Kp.tr hk21 hA hB
  replace hH := Hp.kp hH hk21
  replace h_forms := Sl.tr h_forms ht22
  replace h_plan := Sl.tr h_plan ht22
  replace h8 := El.tr h8 ht22
  replace hK := Tr.trans hK ht22
  replace hB := Nat.le_trans hB ht22.ex.size
  replace hA := ht22.new
  obtain ⟨x23, hx23, hm⟩ := Option.bind_eq_some_iff.1 hm
  refine V_call Try.call18 rfl rfl rfl rfl (cmp_Or_api_Errno_c w19 ([x11, x12, x14] : List Int) v18 h20 hx23) ?_
  rintro _ _ ⟨rfl, rfl⟩
  refine V_y (Y_assign rfl) rfl rfl rfl ?_
  refine V_to (fun _ _ => rfl) ?_
  refine C_seq ?_
  refine C_region ?_
  refine V_y (Y_move rfl) rfl rfl rfl ?_
  refine V_y (Y_neq rfl rfl) rfl rfl rfl ?_
  refine V_to (fun _ _ => rfl) ?_
  refine C_cond rfl (fun hc24 => ?_) (fun hc24 => ?_)
  · rw [if_pos hc24] at hm
    refine C_seq ?_
    refine C_region ?_
    refine V_y (Y_move rfl) rfl rfl rfl ?_
    refine V_y (Y_assign rfl) rfl rfl rfl ?_
    refine V_y (Y_assign rfl) rfl rfl rfl ?_
    refine V_y (Y_assign rfl) rfl rfl rfl ?_
    refine V_to (fun _ _ => rfl) ?_
    obtain rfl := Option.some.inj hm
    replace hH : Hp B A w19 (obS (α := staff_Duty) 37 (.slice none 0 0) ([] : (List staff_Duty)) :: L) := Hp.addNil (α := staff_Duty) (e := 37) hH
    replace hH : Hp B A w19 (obS (α := staff_Duty) 37 (.slice none 0 0) ([] : (List staff_Duty)) :: obS (α := staff_Duty) 37 (.slice none 0 0) ([] : (List staff_Duty)) :: L) := Hp.addNil (α := staff_Duty) (e := 37) hH
    replace hH : Hp B A w19 (obS (α := staff_Duty) 37 (.slice none 0 0) ([] : (List staff_Duty)) :: obS (α := staff_Duty) 37 (.slice none 0 0) ([] : (List staff_Duty)) :: L) := Hp.front hH (i := 1) rfl
    refine C_ret ?_
    try simp only [↓inBlock_ret, ↓then_ret]
    exact retQ rfl (Res.three Try.results8 rfl rfl rfl) ⟨.slice none 0 0, .slice none 0 0, A, rfl, hH, hK⟩
  · rw [if_neg (nt hc24)] at hm
    refine C_skip_to (fun _ _ => rfl) ?_
    refine C_seq ?_
    refine C_region ?_
    refine V_y (Y_assign rfl) rfl rfl rfl ?_
    refine V_to (fun _ _ => rfl) ?_
    refine C_seq ?_
    refine C_seq ?_
    refine C_region ?_
    refine V_y (Y_move rfl) rfl rfl rfl ?_
    refine V_y (Y_lenSl h_plan rfl Try.underlying23 rfl) rfl rfl rfl ?_
    refine V_y (Y_move rfl) rfl rfl rfl ?_
    refine V_to (fun _ _ => rfl) ?_
    have hn41 := Sl.le h_plan
    obtain ⟨o25, ho25, hm⟩ := Option.bind_eq_some_iff.1 hm
    refine C_cutG (ι := Int) (fun (s26 : Int) => [(0, v_forms), (1, v_plan), (5, .pointer (some ⟨b5, 0, none⟩)), (10, .int .i64 s26)]) (fun (s26 : Int) => fun w' => o25 = .fin s26 ∧ w19 = w') ?_ ?_
    · refine C_block ?_
      refine C_range ho25 (fun k28 s32 a w' => ∃ i : Unit, Has ⟨143, [], none⟩ a ([(0, v_forms), (1, v_plan), (5, .pointer (some ⟨b5, 0, none⟩)), (10, .int .i64 s32), (34, v_plan), (35, .int .i64 (plan.length : Int)), (36, .int .i64 (k28 : Int))]) ∧ w19 = w') (fun a ha => ⟨(), ha.sub ⟨rfl, rfl, rfl, rfl, rfl, rfl, rfl, trivial⟩, rfl⟩) ?_
      rintro K k28 s32 a _ ⟨_, ha49, rfl⟩ hle37 K40 h39
      refine C_of ?_ ha49
      refine C_seq (C_region (V_y (Y_lss rfl rfl) rfl rfl rfl (V_to (fun _ _ => rfl) ?_)))
      refine C_seq ?_
      refine C_cond rfl (fun hc42 => ?_) (fun hc42 => ?_)
      · have hlt38 := lt_of_dec hc42
        obtain ⟨x34, h35, h36⟩ := K40 hlt38
        refine C_skip_to (fun _ _ => rfl) ?_
        refine C_seq ?_
        refine C_block ?_
        refine C_seq ?_
        refine C_region ?_
        obtain ⟨x43, hx43, h35⟩ := Option.bind_eq_some_iff.1 h35
        refine V_indexAddr h_plan hx43 Try.underlying23 Try.sizeOf3 rfl rfl rfl ?_
        intro b44 o45 h46
        refine V_y (Y_load (El.int h46) Try.isAgg3 rfl) rfl rfl rfl ?_
        refine V_y (Y_assign rfl) rfl rfl rfl ?_
        refine V_to (fun _ _ => rfl) ?_
        refine C_region ?_
        refine V_y (Y_move rfl) rfl rfl rfl ?_
        refine V_y (Y_move rfl) rfl rfl rfl ?_
        refine V_y (Y_addI rfl rfl) rfl rfl rfl ?_
        refine V_y (Y_assign rfl) rfl rfl rfl ?_
        refine V_to (fun _ _ => rfl) ?_
        refine C_region ?_
        refine V_y (Y_addI rfl rfl) rfl rfl rfl ?_
        refine V_y (Y_move rfl) rfl rfl rfl ?_
        obtain rfl := Option.some.inj h35
        refine V_end (fun a ha47 => ?_)
        exact ⟨w64 (s32 + x43), hlt38, h36, ⟨(), ha47.sub ⟨rfl, rfl, rfl, rfl, rfl, rfl, (congrArg (fun z => some (Value.int .i64 z)) (w64_succ hlt38 hn41)), trivial⟩, rfl⟩⟩
      · refine C_exit (fun a ha48 => ?_)
        exact ⟨s32, ha48.sub ⟨rfl, rfl, rfl, rfl, trivial⟩, ⟨(h39 (eq_of_dec hle37 hc42)).symm, rfl⟩⟩
    rintro s26 _ ⟨rfl, rfl⟩ a ha31
    rw [Lp.andThen_fin] at hm
    refine C_at (n := ⟨143, [], none⟩) (fun _ _ => rfl) ?_ ha31
    refine C_seq ?_
    refine C_seq ?_
    refine C_region ?_
    refine V_y (Y_move rfl) rfl rfl rfl ?_
    refine V_y (Y_gtr rfl rfl) rfl rfl rfl ?_
    refine V_to (fun _ _ => rfl) ?_
    refine C_cond rfl (fun hc50 => ?_) (fun hc50 => ?_)
    · rw [if_pos hc50] at hm
      refine C_seq ?_
      refine C_region ?_
      refine V_y (Y_assign rfl) rfl rfl rfl ?_
      refine V_y (Y_assign rfl) rfl rfl rfl ?_
      refine V_y (Y_assign rfl) rfl rfl rfl ?_
      refine V_to (fun _ _ => rfl) ?_
      obtain rfl := Option.some.inj hm
      replace hH : Hp B A w19 (obS (α := staff_Duty) 37 (.slice none 0 0) ([] : (List staff_Duty)) :: L) := Hp.addNil (α := staff_Duty) (e := 37) hH
      replace hH : Hp B A w19 (obS (α := staff_Duty) 37 (.slice none 0 0) ([] : (List staff_Duty)) :: obS (α := staff_Duty) 37 (.slice none 0 0) ([] : (List staff_Duty)) :: L) := Hp.addNil (α := staff_Duty) (e := 37) hH
      replace hH : Hp B A w19 (obS (α := staff_Duty) 37 (.slice none 0 0) ([] : (List staff_Duty)) :: obS (α := staff_Duty) 37 (.slice none 0 0) ([] : (List staff_Duty)) :: L) := Hp.front hH (i := 1) rfl
      refine C_ret ?_
      try simp only [↓inBlock_ret, ↓then_ret]
      exact retQ rfl (Res.three Try.results8 rfl rfl rfl) ⟨.slice none 0 0, .slice none 0 0, A, rfl, hH, hK⟩
    · rw [if_neg (nt hc50)] at hm
      refine C_skip_to (fun _ _ => rfl) ?_
      refine C_seq ?_
      refine C_region ?_
      have h51 := El_staff_Rules_0 h8
      refine V_y (Y_fieldAddr Try.underlying31 rfl Try.sizeOf3 (by decide) rfl) rfl rfl rfl ?_
      refine V_y (Y_load (El.int h51) Try.isAgg3 rfl) rfl rfl rfl ?_
      obtain ⟨x52, hx52, hm⟩ := Option.bind_eq_some_iff.1 hm
      refine V_makeSS (α := staff_Form) (e := 29) (e2 := 52) (ti := Try.t29) hH hx52 rfl Try.underlying50 Try_info29 rfl rfl rfl (by decide) (by decide) hB hA rfl rfl rfl ?_
      intro v53 w54 A55 hH56 ht57
      replace h_forms := Sl.tr h_forms ht57
      replace h_plan := Sl.tr h_plan ht57
      replace h8 := El.tr h8 ht57
      replace h51 := El.tr h51 ht57
      replace hK := Tr.trans hK ht57
      replace hB := Nat.le_trans hB ht57.ex.size
      replace hA := ht57.new
      replace hH : Hp B A55 w54 (obSS (α := staff_Form) 29 52 v53 x52 :: L) := hH56
      refine V_y (Y_assign rfl) rfl rfl rfl ?_
      refine V_to (fun _ _ => rfl) ?_
      refine C_seq ?_
      refine C_region ?_
      have h58 := El_staff_Rules_0 h8
      refine V_y (Y_fieldAddr Try.underlying31 rfl Try.sizeOf3 (by decide) rfl) rfl rfl rfl ?_
      refine V_y (Y_load (El.int h58) Try.isAgg3 rfl) rfl rfl rfl ?_
      obtain ⟨x59, hx59, hm⟩ := Option.bind_eq_some_iff.1 hm
      refine V_makeH (e := 3) (ti := Try.t3) hH hx59 (fun _ _ => rfl) Try.underlying23 Try_info3 rfl rfl rfl (by decide) (by decide) hB hA rfl rfl rfl ?_
      intro v60 w61 A62 hH63 ht64
      replace h_forms := Sl.tr h_forms ht64
      replace h_plan := Sl.tr h_plan ht64
      replace h8 := El.tr h8 ht64
      replace h58 := El.tr h58 ht64
      replace hK := Tr.trans hK ht64
      replace hB := Nat.le_trans hB ht64.ex.size
      replace hA := ht64.new
      replace hH : Hp B A62 w61 (obS (α := Int) 3 v60 x59 :: obSS (α := staff_Form) 29 52 v53 x52 :: L) := hH63
      refine V_y (Y_assign rfl) rfl rfl rfl ?_
      refine V_to (fun _ _ => rfl) ?_
      refine C_seq ?_
      refine C_region ?_
      refine V_y (Y_assign rfl) rfl rfl rfl ?_
      refine V_y (Y_assign rfl) rfl rfl rfl ?_
      refine V_to (fun _ _ => rfl) ?_
      refine C_seq ?_
      refine C_seq ?_
      refine C_region ?_
      refine V_y (Y_move rfl) rfl rfl rfl ?_
      refine V_y (Y_lenSl h_forms rfl Try.underlying29 rfl) rfl rfl rfl ?_
      refine V_y (Y_move rfl) rfl rfl rfl ?_
      refine V_to (fun _ _ => rfl) ?_
      replace hH : Hp B A62 w61 (obS (α := staff_Duty) 37 (.slice none 0 0) ([] : (List staff_Duty)) :: obS (α := Int) 3 v60 x59 :: obSS (α := staff_Form) 29 52 v53 x52 :: L) := Hp.addNil (α := staff_Duty) (e := 37) hH
      replace hH : Hp B A62 w61 (obS (α := staff_Duty) 37 (.slice none 0 0) ([] : (List staff_Duty)) :: obS (α := staff_Duty) 37 (.slice none 0 0) ([] : (List staff_Duty)) :: obS (α := Int) 3 v60 x59 :: obSS (α := staff_Form) 29 52 v53 x52 :: L) := Hp.addNil (α := staff_Duty) (e := 37) hH
      have hn101 := Sl.le h_forms
      obtain ⟨o65, ho65, hm⟩ := Option.bind_eq_some_iff.1 hm
      refine C_cutG (ι := (((List (List staff_Form)) × (List Int) × (List staff_Duty) × (List staff_Duty)) × Value × Value × Value × Value × (Nat → Prop))) (fun ⟨s66, v72, v74, v76, v78, A80⟩ => [(15, v76), (16, v78)]) (fun ⟨s66, v72, v74, v76, v78, A80⟩ => fun w' => o65 = .fin s66 ∧ Hp B A80 w' (obS (α := staff_Duty) 37 v78 s66.2.2.2 :: obS (α := staff_Duty) 37 v76 s66.2.2.1 :: obS (α := Int) 3 v74 s66.2.1 :: obSS (α := staff_Form) 29 52 v72 s66.1 :: L) ∧ Tr B A62 w61 A80 w') ?_ ?_
      · refine C_block ?_
        refine C_range ho65 (fun k68 s82 a w' => ∃ i : (Value × Value × Value × Value × (Nat → Prop)), Has ⟨143, [], none⟩ a ([(1, v_plan), (5, .pointer (some ⟨b5, 0, none⟩)), (13, i.1), (14, i.2.1), (15, i.2.2.1), (16, i.2.2.2.1), (52, v_forms), (53, .int .i64 (forms.length : Int)), (54, .int .i64 (k68 : Int))]) ∧ Hp B i.2.2.2.2 w' (obS (α := staff_Duty) 37 i.2.2.2.1 s82.2.2.2 :: obS (α := staff_Duty) 37 i.2.2.1 s82.2.2.1 :: obS (α := Int) 3 i.2.1 s82.2.1 :: obSS (α := staff_Form) 29 52 i.1 s82.1 :: L) ∧ Tr B A62 w61 i.2.2.2.2 w') (fun a ha => ⟨(v53, v60, .slice none 0 0, .slice none 0 0, A62), ha.sub ⟨rfl, rfl, rfl, rfl, rfl, rfl, rfl, rfl, rfl, trivial⟩, ⟨hH, Tr.refl hA⟩⟩) ?_
        rintro K k68 s82 a w83 ⟨⟨v84, v86, v88, v90, A92⟩, ha359, hH93, hr67⟩ hle97 K100 h99
        refine C_of ?_ ha359
        replace h_plan := Sl.tr h_plan hr67
        replace h8 := El.tr h8 hr67
        replace h_forms := Sl.tr h_forms hr67
        replace hK := Tr.trans hK hr67
        replace hB := Nat.le_trans hB hr67.ex.size
        replace hA := hr67.new
        replace hH : Hp B A92 w83 (obS (α := staff_Duty) 37 v90 s82.2.2.2 :: obS (α := staff_Duty) 37 v88 s82.2.2.1 :: obS (α := Int) 3 v86 s82.2.1 :: obSS (α := staff_Form) 29 52 v84 s82.1 :: L) := hH93
        refine C_seq (C_region (V_y (Y_lss rfl rfl) rfl rfl rfl (V_to (fun _ _ => rfl) ?_)))
        refine C_seq ?_
        refine C_cond rfl (fun hc102 => ?_) (fun hc102 => ?_)
        · have hlt98 := lt_of_dec hc102
          obtain ⟨x94, h95, h96⟩ := K100 hlt98
          refine C_skip_to (fun _ _ => rfl) ?_
          refine C_seq ?_
          obtain ⟨s104, ho103, h95⟩ := Option.bind_eq_some_iff.1 h95
          refine C_cutG (ι := (Value × Value × Value × Value × (Nat → Prop))) (fun ⟨v106, v108, v110, v112, A117⟩ => [(1, v_plan), (5, .pointer (some ⟨b5, 0, none⟩)), (13, v106), (14, v108), (15, v110), (16, v112), (52, v_forms), (53, .int .i64 (forms.length : Int)), (54, .int .i64 (k68 : Int))]) (fun ⟨v106, v108, v110, v112, A117⟩ => fun w' => Hp B A117 w' (obS (α := staff_Duty) 37 v112 s104.2.2.2 :: obS (α := staff_Duty) 37 v110 s104.2.2.1 :: obS (α := Int) 3 v108 s104.2.1 :: obSS (α := staff_Form) 29 52 v106 s104.1 :: L) ∧ Tr B A92 w83 A117 w') ?_ ?_
          · have hr105 : Tr B A92 w83 A92 w83 := Tr.refl hA
            refine C_block ?_
            refine C_seq ?_
            refine C_region ?_
            refine V_y (Y_move rfl) rfl rfl rfl ?_
            obtain ⟨x119, hx119, ho103⟩ := Option.bind_eq_some_iff.1 ho103
            refine V_indexAddr h_forms hx119 Try.underlying29 Try.sizeOf52 rfl rfl rfl ?_
            intro b120 o121 h122
            obtain ⟨h123, _⟩ := El_staff_Form h122
            refine V_y (Y_loadA h123 Try.isAgg52 Try.sizeOf52 rfl) rfl rfl rfl ?_
            refine V_alloc Try.zeroValue52 rfl ?_
            intro b124 w125 h126
            refine V_y (Y_assign rfl) rfl rfl rfl ?_
            refine V_storeNew h126 Try.sizeOf52 rfl rfl rfl rfl (by exact (List.forall_mem_cons.2 ⟨rfl, (List.forall_mem_cons.2 ⟨rfl, (fun _ h => nomatch h)⟩)⟩)) ?_
            intro w127 h128
            have hk130 := h128.kp
            have h129 : El (α := staff_Form) A92 w127 b124 0 x119 := h128.el hA ⟨[.int .i64 x119.from_], _, rfl, rfl, rfl⟩
            have ht131 := Kp.tr hk130 hA hB
            replace hH := Hp.kp hH hk130
            replace h_plan := Sl.tr h_plan ht131
            replace h8 := El.tr h8 ht131
            replace h_forms := Sl.tr h_forms ht131
            replace h122 := El.tr h122 ht131
            replace hK := Tr.trans hK ht131
            replace hr67 := Tr.trans hr67 ht131
            replace hr105 := Tr.trans hr105 ht131
            replace hB := Nat.le_trans hB ht131.ex.size
            replace hA := ht131.new
            refine V_to (fun _ _ => rfl) ?_
            refine C_seq ?_
            refine C_region ?_
            refine V_y (Y_move rfl) rfl rfl rfl ?_
            refine V_y (Y_move rfl) rfl rfl rfl ?_
            obtain ⟨x132, hx132, ho103⟩ := Option.bind_eq_some_iff.1 ho103
            refine V_indexAddr h_plan hx132 Try.underlying23 Try.sizeOf3 rfl rfl rfl ?_
            intro b133 o134 h135
            refine V_y (Y_load (El.int h135) Try.isAgg3 rfl) rfl rfl rfl ?_
            refine V_y (Y_move rfl) rfl rfl rfl ?_
            refine V_to (fun _ _ => rfl) ?_
            obtain ⟨o136, ho136, ho103⟩ := Option.bind_eq_some_iff.1 ho103
            refine C_cutG (ι := (((List (List staff_Form)) × (List Int) × (List staff_Duty) × (List staff_Duty) × Int) × Value × Value × Value × Value × (Nat → Prop))) (fun ⟨s137, v143, v145, v147, v149, A151⟩ => [(1, v_plan), (5, .pointer (some ⟨b5, 0, none⟩)), (13, v143), (14, v145), (15, v147), (16, v149), (52, v_forms), (53, .int .i64 (forms.length : Int)), (54, .int .i64 (k68 : Int))]) (fun ⟨s137, v143, v145, v147, v149, A151⟩ => fun w' => o136 = .fin s137 ∧ Hp B A151 w' (obS (α := staff_Duty) 37 v149 s137.2.2.2.1 :: obS (α := staff_Duty) 37 v147 s137.2.2.1 :: obS (α := Int) 3 v145 s137.2.1 :: obSS (α := staff_Form) 29 52 v143 s137.1 :: L) ∧ Tr B A92 w127 A151 w') ?_ ?_
            · refine C_block ?_
              refine C_while ho136 (fun s153 a w' => ∃ i : (Value × Value × Value × Value × (Nat → Prop)), Has ⟨143, [], none⟩ a ([(1, v_plan), (5, .pointer (some ⟨b5, 0, none⟩)), (13, i.1), (14, i.2.1), (15, i.2.2.1), (16, i.2.2.2.1), (17, .int .i64 (k68 : Int)), (18, .pointer (some ⟨b124, 0, none⟩)), (52, v_forms), (53, .int .i64 (forms.length : Int)), (54, .int .i64 (k68 : Int)), (62, .int .i64 x132), (63, .int .i64 s153.2.2.2.2)]) ∧ Hp B i.2.2.2.2 w' (obS (α := staff_Duty) 37 i.2.2.2.1 s153.2.2.2.1 :: obS (α := staff_Duty) 37 i.2.2.1 s153.2.2.1 :: obS (α := Int) 3 i.2.1 s153.2.1 :: obSS (α := staff_Form) 29 52 i.1 s153.1 :: L) ∧ Tr B A92 w127 i.2.2.2.2 w') (fun a ha => ⟨(v84, v86, v88, v90, A92), ha.sub ⟨rfl, rfl, rfl, rfl, rfl, rfl, rfl, rfl, rfl, rfl, rfl, rfl, rfl, trivial⟩, ⟨hH, Tr.refl hA⟩⟩) ?_
              rintro K s153 a w154 ⟨⟨v155, v157, v159, v161, A163⟩, ha355, hH164, hr138⟩ K171
              refine C_of ?_ ha355
              replace h_plan := Sl.tr h_plan hr138
              replace h8 := El.tr h8 hr138
              replace h_forms := Sl.tr h_forms hr138
              replace h129 := El.tr h129 hr138
              replace hK := Tr.trans hK hr138
              replace hr67 := Tr.trans hr67 hr138
              replace hr105 := Tr.trans hr105 hr138
              replace hB := Nat.le_trans hB hr138.ex.size
              replace hA := hr138.new
              replace hH : Hp B A163 w154 (obS (α := staff_Duty) 37 v161 s153.2.2.2.1 :: obS (α := staff_Duty) 37 v159 s153.2.2.1 :: obS (α := Int) 3 v157 s153.2.1 :: obSS (α := staff_Form) 29 52 v155 s153.1 :: L) := hH164
              obtain ⟨x165, h166, h167⟩ := K171
              refine C_seq ?_
              refine C_region ?_
              refine V_y (Y_lss rfl rfl) rfl rfl rfl ?_
              refine V_to (fun _ _ => rfl) ?_
              refine C_seq ?_
              refine C_cond rfl (fun hc172 => ?_) (fun hc172 => ?_)
              · rw [if_pos hc172] at h166
                refine C_skip_to (fun _ _ => rfl) ?_
                refine C_seq ?_
                obtain ⟨s174, ho173, h166⟩ := Option.bind_eq_some_iff.1 h166
                refine C_cutG (ι := (Value × Value × Value × Value × (Nat → Prop))) (fun ⟨v176, v178, v180, v182, A187⟩ => [(1, v_plan), (5, .pointer (some ⟨b5, 0, none⟩)), (13, v176), (14, v178), (15, v180), (16, v182), (17, .int .i64 (k68 : Int)), (18, .pointer (some ⟨b124, 0, none⟩)), (52, v_forms), (53, .int .i64 (forms.length : Int)), (54, .int .i64 (k68 : Int)), (62, .int .i64 x132), (63, .int .i64 s153.2.2.2.2)]) (fun ⟨v176, v178, v180, v182, A187⟩ => fun w' => Hp B A187 w' (obS (α := staff_Duty) 37 v182 s174.2.2.2 :: obS (α := staff_Duty) 37 v180 s174.2.2.1 :: obS (α := Int) 3 v178 s174.2.1 :: obSS (α := staff_Form) 29 52 v176 s174.1 :: L) ∧ Tr B A163 w154 A187 w') ?_ ?_
                · have hr175 : Tr B A163 w154 A163 w154 := Tr.refl hA
                  refine C_block ?_
                  refine C_seq ?_
                  refine C_region ?_
                  refine V_y (Y_assign rfl) rfl rfl rfl ?_
                  refine V_to (fun _ _ => rfl) ?_
                  refine C_seq ?_
                  refine C_seq ?_
                  refine C_region ?_
                  have h189 := El_staff_Rules_0 h8
                  refine V_y (Y_fieldAddr Try.underlying31 rfl Try.sizeOf3 (by decide) rfl) rfl rfl rfl ?_
                  refine V_y (Y_load (El.int h189) Try.isAgg3 rfl) rfl rfl rfl ?_
                  refine V_y (Y_move rfl) rfl rfl rfl ?_
                  refine V_to (fun _ _ => rfl) ?_
                  obtain ⟨o190, ho190, ho173⟩ := Option.bind_eq_some_iff.1 ho173
                  refine C_cutG (ι := ((Int × Int) × (Nat → Prop))) (fun ⟨s191, A197⟩ => [(1, v_plan), (5, .pointer (some ⟨b5, 0, none⟩)), (13, v155), (14, v157), (15, v159), (16, v161), (17, .int .i64 (k68 : Int)), (18, .pointer (some ⟨b124, 0, none⟩)), (19, .int .i64 s191.1), (52, v_forms), (53, .int .i64 (forms.length : Int)), (54, .int .i64 (k68 : Int)), (62, .int .i64 x132), (63, .int .i64 s153.2.2.2.2)]) (fun ⟨s191, A197⟩ => fun w' => o190 = .fin s191 ∧ Hp B A197 w' (obS (α := staff_Duty) 37 v161 s153.2.2.2.1 :: obS (α := staff_Duty) 37 v159 s153.2.2.1 :: obS (α := Int) 3 v157 s153.2.1 :: obSS (α := staff_Form) 29 52 v155 s153.1 :: L) ∧ Tr B A163 w154 A197 w') ?_ ?_
                  · refine C_block ?_
                    refine C_while ho190 (fun s199 a w' => ∃ i : (Nat → Prop), Has ⟨143, [], none⟩ a ([(1, v_plan), (5, .pointer (some ⟨b5, 0, none⟩)), (13, v155), (14, v157), (15, v159), (16, v161), (17, .int .i64 (k68 : Int)), (18, .pointer (some ⟨b124, 0, none⟩)), (19, .int .i64 s199.1), (52, v_forms), (53, .int .i64 (forms.length : Int)), (54, .int .i64 (k68 : Int)), (62, .int .i64 x132), (63, .int .i64 s153.2.2.2.2), (66, .int .i64 r_.people), (67, .int .i64 s199.2)]) ∧ Hp B i w' (obS (α := staff_Duty) 37 v161 s153.2.2.2.1 :: obS (α := staff_Duty) 37 v159 s153.2.2.1 :: obS (α := Int) 3 v157 s153.2.1 :: obSS (α := staff_Form) 29 52 v155 s153.1 :: L) ∧ Tr B A163 w154 i w') (fun a ha => ⟨A163, ha.sub ⟨rfl, rfl, rfl, rfl, rfl, rfl, rfl, rfl, rfl, rfl, rfl, rfl, rfl, rfl, rfl, rfl, trivial⟩, ⟨hH, Tr.refl hA⟩⟩) ?_
                    rintro K s199 a w200 ⟨A201, ha277, hH202, hr192⟩ K209
                    refine C_of ?_ ha277
                    replace h_plan := Sl.tr h_plan hr192
                    replace h8 := El.tr h8 hr192
                    replace h_forms := Sl.tr h_forms hr192
                    replace h129 := El.tr h129 hr192
                    replace hK := Tr.trans hK hr192
                    replace hr67 := Tr.trans hr67 hr192
                    replace hr105 := Tr.trans hr105 hr192
                    replace hr138 := Tr.trans hr138 hr192
                    replace hr175 := Tr.trans hr175 hr192
                    replace hB := Nat.le_trans hB hr192.ex.size
                    replace hA := hr192.new
                    replace hH : Hp B A201 w200 (obS (α := staff_Duty) 37 v161 s153.2.2.2.1 :: obS (α := staff_Duty) 37 v159 s153.2.2.1 :: obS (α := Int) 3 v157 s153.2.1 :: obSS (α := staff_Form) 29 52 v155 s153.1 :: L) := hH202
                    obtain ⟨x203, h204, h205⟩ := K209
                    refine C_seq ?_
                    refine C_region ?_
                    refine V_y (Y_lss rfl rfl) rfl rfl rfl ?_
                    refine V_to (fun _ _ => rfl) ?_
                    refine C_seq ?_
                    refine C_cond rfl (fun hc210 => ?_) (fun hc210 => ?_)
                    · rw [if_pos hc210] at h204
                      refine C_skip_to (fun _ _ => rfl) ?_
                      refine C_seq ?_
                      obtain ⟨s212, ho211, h204⟩ := Option.bind_eq_some_iff.1 h204
                      refine C_cutG (ι := (Nat → Prop)) (fun (A217 : (Nat → Prop)) => [(1, v_plan), (5, .pointer (some ⟨b5, 0, none⟩)), (13, v155), (14, v157), (15, v159), (16, v161), (17, .int .i64 (k68 : Int)), (18, .pointer (some ⟨b124, 0, none⟩)), (19, .int .i64 s212), (52, v_forms), (53, .int .i64 (forms.length : Int)), (54, .int .i64 (k68 : Int)), (62, .int .i64 x132), (63, .int .i64 s153.2.2.2.2), (66, .int .i64 r_.people), (67, .int .i64 s199.2)]) (fun (A217 : (Nat → Prop)) => fun w' => Hp B A217 w' (obS (α := staff_Duty) 37 v161 s153.2.2.2.1 :: obS (α := staff_Duty) 37 v159 s153.2.2.1 :: obS (α := Int) 3 v157 s153.2.1 :: obSS (α := staff_Form) 29 52 v155 s153.1 :: L) ∧ Tr B A201 w200 A217 w') ?_ ?_
                      · have hr213 : Tr B A201 w200 A201 w200 := Tr.refl hA
                        refine C_block ?_
                        refine C_seq ?_
                        refine C_region ?_
                        refine V_y (Y_move rfl) rfl rfl rfl ?_
                        refine V_y (Y_assign rfl) rfl rfl rfl ?_
                        refine V_to (fun _ _ => rfl) ?_
                        refine C_seq ?_
                        refine C_region_q Try_mixed (by kernel_rfl) ?_
                        refine VQ_y (fun w' hw' => Y_move rfl) rfl rfl rfl ?_
                        refine VQ_y (fun w' hw' => Y_move rfl) rfl rfl rfl ?_
                        obtain ⟨x219, hx219, ho211⟩ := Option.bind_eq_some_iff.1 ho211
                        refine VQ_indexAddrH (α := Int) (e := 3) (v := v157) (l := s153.2.1) hH (i := 2) rfl hx219 Try.underlying23 Try.sizeOf3 rfl rfl rfl ?_
                        intro b220 o221 h222 hl223
                        refine VQ_y (fun w' hw' => Y_load (El.int (El.kp h222 hw')) Try.isAgg3 rfl) rfl rfl rfl ?_
                        have h224 := El_staff_Form_1 h129
                        refine VQ_y (fun w' hw' => Y_fieldAddr Try.underlying52 rfl Try.sizeOf3 (by decide) rfl) rfl rfl rfl ?_
                        refine VQ_y (fun w' hw' => Y_load (El.int (El.kp h224 hw')) Try.isAgg3 rfl) rfl rfl rfl ?_
                        refine VQ_y (fun w' hw' => Y_addI rfl rfl) rfl rfl rfl ?_
                        have h225 := El_staff_Rules_2 h8
                        refine VQ_y (fun w' hw' => Y_fieldAddr Try.underlying31 rfl Try.sizeOf3 (by decide) rfl) rfl rfl rfl ?_
                        refine VQ_y (fun w' hw' => Y_load (El.int (El.kp h225 hw')) Try.isAgg3 rfl) rfl rfl rfl ?_
                        refine VQ_y (fun w' hw' => Y_leq rfl rfl) rfl rfl rfl ?_
                        refine VQ_y (fun w' hw' => Y_move rfl) rfl rfl rfl ?_
                        obtain ⟨s227, hs227, ho211⟩ := Option.bind_eq_some_iff.1 ho211
                        refine VQ_cut 8 (fun _ : Unit => [(1, v_plan), (5, .pointer (some ⟨b5, 0, none⟩)), (13, v155), (14, v157), (15, v159), (16, v161), (17, .int .i64 (k68 : Int)), (18, .pointer (some ⟨b124, 0, none⟩)), (19, .int .i64 s199.1), (20, .int .i64 s199.2), (52, v_forms), (53, .int .i64 (forms.length : Int)), (54, .int .i64 (k68 : Int)), (62, .int .i64 x132), (63, .int .i64 s153.2.2.2.2), (66, .int .i64 r_.people), (67, .int .i64 s199.2), (88, .bool s227)]) (fun _ => True) ?_ ?_
                        · simp only [List.take, List.drop]
                          rcases Bool.eq_false_or_eq_true (decide ((w64 (x219 + x119.slots)) ≤ r_.most)) with hc226 | hc226
                          · rw [if_pos hc226] at hs227
                            refine VQ_ge rfl rfl rfl hc226 ?_
                            refine VQ_y (fun w' hw' => Y_move rfl) rfl rfl rfl ?_
                            refine VQ_ge rfl rfl rfl hc226 ?_
                            refine VQ_y (fun w' hw' => Y_move rfl) rfl rfl rfl ?_
                            refine VQ_ge rfl rfl rfl hc226 ?_
                            obtain ⟨x228, hx228, hs227⟩ := Option.bind_eq_some_iff.1 hs227
                            refine VQ_indexAddrSS (α := staff_Form) (e := 29) (v := v155) (l := s153.1) hH (i := 3) rfl hx228 Try.underlying50 Try.sizeOf29 rfl rfl rfl ?_
                            intro b229 o230 h231 hl232
                            refine VQ_ge rfl rfl rfl hc226 ?_
                            obtain ⟨v233, h234, h235⟩ := El.list h231
                            refine VQ_y (fun w' hw' => Y_load ((World.cell?_of_block (hw'.block _ (World.block_lt_of_cell? _ _ h234))).trans h234) Try.isAgg29 rfl) rfl rfl rfl ?_
                            refine VQ_ge rfl rfl rfl hc226 ?_
                            refine VQ_y (fun w' hw' => Y_makeFunc rfl rfl) rfl rfl rfl ?_
                            refine VQ_ge rfl rfl rfl hc226 ?_
                            obtain ⟨x237, hx237, hs227⟩ := Option.bind_eq_some_iff.1 hs227
                            refine VQ_call (.bool x237) Try.call21 rfl rfl rfl rfl (fun w' hw' => (slices_ContainsFunc_Lstaff_Form_staff_Form_c w' (A := fun _ => True) (fun _ _ => trivial) x228 v233 (Sl.kp (Sl.any h235) hw') (fun y245 => staff_Roster_1 y245 x119 r_) 22 #[] #[.pointer (some ⟨b124, 0, none⟩), .pointer (some ⟨b5, 0, none⟩)] Try.call22 (fun w241 A242 ht243 h244 y238 r239 h240 => (staff_Roster_1_c w241 h244 y238 x119 b124 (El.tr (El.kp (El.keep h129 .any) hw') ht243) r_ b5 (El.tr (El.kp (El.keep h8 .any) hw') ht243) h240).mono (fun _ _ h => ⟨h.1, h.2⟩)) hx237).mono (fun _ _ h => ⟨h.1, Kp.trans hw' h.2⟩)) ?_
                            refine VQ_ge rfl rfl rfl hc226 ?_
                            refine VQ_y (fun w' hw' => Y_not rfl) rfl rfl rfl ?_
                            refine VQ_y (fun _ _ => Y_pick_te rfl hc226 rfl) rfl rfl rfl ?_
                            obtain rfl := Option.some.inj hs227
                            exact VQ_end fun a ha => ⟨(), ha.sub ⟨rfl, rfl, rfl, rfl, rfl, rfl, rfl, rfl, rfl, rfl, rfl, rfl, rfl, rfl, rfl, rfl, rfl, rfl, trivial⟩, trivial⟩
                          · rw [if_neg (nt hc226)] at hs227
                            refine VQ_gn rfl rfl rfl hc226 rfl rfl rfl ?_
                            refine VQ_gn rfl rfl rfl hc226 rfl rfl rfl ?_
                            refine VQ_gn rfl rfl rfl hc226 rfl rfl rfl ?_
                            refine VQ_gn rfl rfl rfl hc226 rfl rfl rfl ?_
                            refine VQ_gn rfl rfl rfl hc226 rfl rfl rfl ?_
                            refine VQ_gn rfl rfl rfl hc226 rfl rfl rfl ?_
                            refine VQ_gn rfl rfl rfl hc226 rfl rfl rfl ?_
                            refine VQ_y (fun _ _ => Y_pick_fe rfl hc226 rfl) rfl rfl rfl ?_
                            obtain rfl := Option.some.inj hs227
                            exact VQ_end fun a ha => ⟨(), ha.sub ⟨rfl, rfl, rfl, rfl, rfl, rfl, rfl, rfl, rfl, rfl, rfl, rfl, rfl, rfl, rfl, rfl, rfl, rfl, trivial⟩, trivial⟩
                        simp only [List.take, List.drop]
                        rintro _ _
                        refine VQ_y (fun w' hw' => Y_assign rfl) rfl rfl rfl ?_
                        refine VQ_to (fun _ _ => rfl) (fun w246 hk247 => ?_)
                        have ht248 := Kp.tr hk247 hA hB
                        replace hH := Hp.kp hH hk247
                        replace h_plan := Sl.tr h_plan ht248
                        replace h8 := El.tr h8 ht248
                        replace h_forms := Sl.tr h_forms ht248
                        replace h129 := El.tr h129 ht248
                        replace hK := Tr.trans hK ht248
                        replace hr67 := Tr.trans hr67 ht248
                        replace hr105 := Tr.trans hr105 ht248
                        replace hr138 := Tr.trans hr138 ht248
                        replace hr175 := Tr.trans hr175 ht248
                        replace hr192 := Tr.trans hr192 ht248
                        replace hr213 := Tr.trans hr213 ht248
                        replace hB := Nat.le_trans hB ht248.ex.size
                        replace hA := ht248.new
                        refine C_seq ?_
                        refine C_region_q Try_mixed (by kernel_rfl) ?_
                        refine VQ_y (fun w' hw' => Y_move rfl) rfl rfl rfl ?_
                        refine VQ_y (fun w' hw' => Y_move rfl) rfl rfl rfl ?_
                        obtain ⟨s250, hs250, ho211⟩ := Option.bind_eq_some_iff.1 ho211
                        refine VQ_cut 14 (fun _ : Unit => [(1, v_plan), (5, .pointer (some ⟨b5, 0, none⟩)), (13, v155), (14, v157), (15, v159), (16, v161), (17, .int .i64 (k68 : Int)), (18, .pointer (some ⟨b124, 0, none⟩)), (19, .int .i64 s199.1), (20, .int .i64 s199.2), (52, v_forms), (53, .int .i64 (forms.length : Int)), (54, .int .i64 (k68 : Int)), (62, .int .i64 x132), (63, .int .i64 s153.2.2.2.2), (66, .int .i64 r_.people), (67, .int .i64 s199.2), (104, .bool s250)]) (fun _ => True) ?_ ?_
                        · simp only [List.take, List.drop]
                          rcases Bool.eq_false_or_eq_true (s227) with hc249 | hc249
                          · rw [if_pos hc249] at hs250
                            refine VQ_ge rfl rfl rfl hc249 ?_
                            refine VQ_y (fun w' hw' => Y_move rfl) rfl rfl rfl ?_
                            refine VQ_ge rfl rfl rfl hc249 ?_
                            refine VQ_y (fun w' hw' => Y_lss rfl rfl) rfl rfl rfl ?_
                            refine VQ_ge rfl rfl rfl hc249 ?_
                            refine VQ_y (fun w' hw' => Y_move rfl) rfl rfl rfl ?_
                            obtain ⟨s252, hs252, hs250⟩ := Option.bind_eq_some_iff.1 hs250
                            refine VQ_cut 10 (fun _ : Unit => [(1, v_plan), (5, .pointer (some ⟨b5, 0, none⟩)), (13, v155), (14, v157), (15, v159), (16, v161), (17, .int .i64 (k68 : Int)), (18, .pointer (some ⟨b124, 0, none⟩)), (19, .int .i64 s199.1), (20, .int .i64 s199.2), (52, v_forms), (53, .int .i64 (forms.length : Int)), (54, .int .i64 (k68 : Int)), (62, .int .i64 x132), (63, .int .i64 s153.2.2.2.2), (66, .int .i64 r_.people), (67, .int .i64 s199.2), (90, .bool s227), (103, .bool s252)]) (fun _ => True) ?_ ?_
                            · simp only [List.take, List.drop]
                              rcases Bool.eq_false_or_eq_true (decide (s199.1 < 0)) with hc251 | hc251
                              · rw [if_pos hc251] at hs252
                                refine VQ_gn rfl rfl rfl hc251 rfl rfl rfl ?_
                                refine VQ_gn rfl rfl rfl hc251 rfl rfl rfl ?_
                                refine VQ_gn rfl rfl rfl hc251 rfl rfl rfl ?_
                                refine VQ_gn rfl rfl rfl hc251 rfl rfl rfl ?_
                                refine VQ_gn rfl rfl rfl hc251 rfl rfl rfl ?_
                                refine VQ_gn rfl rfl rfl hc251 rfl rfl rfl ?_
                                refine VQ_gn rfl rfl rfl hc251 rfl rfl rfl ?_
                                refine VQ_gn rfl rfl rfl hc251 rfl rfl rfl ?_
                                refine VQ_gn rfl rfl rfl hc251 rfl rfl rfl ?_
                                refine VQ_ge rfl rfl rfl hc249 ?_
                                refine VQ_y (fun _ _ => Y_pick_te rfl hc251 rfl) rfl rfl rfl ?_
                                obtain rfl := Option.some.inj hs252
                                exact VQ_end fun a ha => ⟨(), ha.sub ⟨rfl, rfl, rfl, rfl, rfl, rfl, rfl, rfl, rfl, rfl, rfl, rfl, rfl, rfl, rfl, rfl, rfl, rfl, rfl, trivial⟩, trivial⟩
                              · rw [if_neg (nt hc251)] at hs252
                                refine VQ_ge rfl rfl rfl hc251 ?_
                                refine VQ_y (fun w' hw' => Y_move rfl) rfl rfl rfl ?_
                                refine VQ_ge rfl rfl rfl hc251 ?_
                                refine VQ_y (fun w' hw' => Y_move rfl) rfl rfl rfl ?_
                                refine VQ_ge rfl rfl rfl hc251 ?_
                                refine VQ_indexAddrH (α := Int) (e := 3) (v := v157) (l := s153.2.1) hH (i := 2) rfl hx219 Try.underlying23 Try.sizeOf3 rfl rfl rfl ?_
                                intro b253 o254 h255 hl256
                                refine VQ_ge rfl rfl rfl hc251 ?_
                                refine VQ_y (fun w' hw' => Y_load (El.int (El.kp h255 hw')) Try.isAgg3 rfl) rfl rfl rfl ?_
                                refine VQ_ge rfl rfl rfl hc251 ?_
                                refine VQ_y (fun w' hw' => Y_move rfl) rfl rfl rfl ?_
                                refine VQ_ge rfl rfl rfl hc251 ?_
                                refine VQ_y (fun w' hw' => Y_move rfl) rfl rfl rfl ?_
                                refine VQ_ge rfl rfl rfl hc251 ?_
                                obtain ⟨x257, hx257, hs252⟩ := Option.bind_eq_some_iff.1 hs252
                                refine VQ_indexAddrH (α := Int) (e := 3) (v := v157) (l := s153.2.1) hH (i := 2) rfl hx257 Try.underlying23 Try.sizeOf3 rfl rfl rfl ?_
                                intro b258 o259 h260 hl261
                                refine VQ_ge rfl rfl rfl hc251 ?_
                                refine VQ_y (fun w' hw' => Y_load (El.int (El.kp h260 hw')) Try.isAgg3 rfl) rfl rfl rfl ?_
                                refine VQ_ge rfl rfl rfl hc251 ?_
                                refine VQ_y (fun w' hw' => Y_lss rfl rfl) rfl rfl rfl ?_
                                refine VQ_ge rfl rfl rfl hc249 ?_
                                refine VQ_y (fun _ _ => Y_pick_fe rfl hc251 rfl) rfl rfl rfl ?_
                                obtain rfl := Option.some.inj hs252
                                exact VQ_end fun a ha => ⟨(), ha.sub ⟨rfl, rfl, rfl, rfl, rfl, rfl, rfl, rfl, rfl, rfl, rfl, rfl, rfl, rfl, rfl, rfl, rfl, rfl, rfl, trivial⟩, trivial⟩
                            simp only [List.take, List.drop]
                            rintro _ _
                            refine VQ_y (fun _ _ => Y_pick_te rfl hc249 rfl) rfl rfl rfl ?_
                            obtain rfl := Option.some.inj hs250
                            exact VQ_end fun a ha => ⟨(), ha.sub ⟨rfl, rfl, rfl, rfl, rfl, rfl, rfl, rfl, rfl, rfl, rfl, rfl, rfl, rfl, rfl, rfl, rfl, rfl, trivial⟩, trivial⟩
                          · rw [if_neg (nt hc249)] at hs250
                            refine VQ_gn rfl rfl rfl hc249 rfl rfl rfl ?_
                            refine VQ_gn rfl rfl rfl hc249 rfl rfl rfl ?_
                            refine VQ_gn rfl rfl rfl hc249 rfl rfl rfl ?_
                            refine VQ_gu rfl rfl rfl rfl rfl ?_
                            refine VQ_gu rfl rfl rfl rfl rfl ?_
                            refine VQ_gu rfl rfl rfl rfl rfl ?_
                            refine VQ_gu rfl rfl rfl rfl rfl ?_
                            refine VQ_gu rfl rfl rfl rfl rfl ?_
                            refine VQ_gu rfl rfl rfl rfl rfl ?_
                            refine VQ_gu rfl rfl rfl rfl rfl ?_
                            refine VQ_gu rfl rfl rfl rfl rfl ?_
                            refine VQ_gu rfl rfl rfl rfl rfl ?_
                            refine VQ_gn rfl rfl rfl hc249 rfl rfl rfl ?_
                            refine VQ_y (fun _ _ => Y_pick_fe rfl hc249 rfl) rfl rfl rfl ?_
                            obtain rfl := Option.some.inj hs250
                            exact VQ_end fun a ha => ⟨(), ha.sub ⟨rfl, rfl, rfl, rfl, rfl, rfl, rfl, rfl, rfl, rfl, rfl, rfl, rfl, rfl, rfl, rfl, rfl, rfl, trivial⟩, trivial⟩
                        simp only [List.take, List.drop]
                        rintro _ _
                        refine VQ_to (fun _ _ => rfl) (fun w262 hk263 => ?_)
                        have ht264 := Kp.tr hk263 hA hB
                        replace hH := Hp.kp hH hk263
                        replace h_plan := Sl.tr h_plan ht264
                        replace h8 := El.tr h8 ht264
                        replace h_forms := Sl.tr h_forms ht264
                        replace h129 := El.tr h129 ht264
                        replace hK := Tr.trans hK ht264
                        replace hr67 := Tr.trans hr67 ht264
                        replace hr105 := Tr.trans hr105 ht264
                        replace hr138 := Tr.trans hr138 ht264
                        replace hr175 := Tr.trans hr175 ht264
                        replace hr192 := Tr.trans hr192 ht264
                        replace hr213 := Tr.trans hr213 ht264
                        replace hB := Nat.le_trans hB ht264.ex.size
                        replace hA := ht264.new
                        obtain ⟨s266, ho265, ho211⟩ := Option.bind_eq_some_iff.1 ho211
                        refine C_cutG (ι := Unit) (fun (_ : Unit) => [(1, v_plan), (5, .pointer (some ⟨b5, 0, none⟩)), (13, v155), (14, v157), (15, v159), (16, v161), (17, .int .i64 (k68 : Int)), (18, .pointer (some ⟨b124, 0, none⟩)), (19, .int .i64 s266), (52, v_forms), (53, .int .i64 (forms.length : Int)), (54, .int .i64 (k68 : Int)), (62, .int .i64 x132), (63, .int .i64 s153.2.2.2.2), (66, .int .i64 r_.people), (67, .int .i64 s199.2)]) (fun (_ : Unit) => fun w' => w262 = w') ?_ ?_
                        · refine C_cond rfl (fun hc271 => ?_) (fun hc271 => ?_)
                          · rw [if_pos hc271] at ho265
                            refine C_region ?_
                            refine V_y (Y_move rfl) rfl rfl rfl ?_
                            refine V_y (Y_assign rfl) rfl rfl rfl ?_
                            obtain rfl := Option.some.inj ho265
                            refine V_end (fun a ha272 => ?_)
                            exact ⟨(), ha272.sub ⟨rfl, rfl, rfl, rfl, rfl, rfl, rfl, rfl, rfl, rfl, rfl, rfl, rfl, rfl, rfl, rfl, trivial⟩, rfl⟩
                          · rw [if_neg (nt hc271)] at ho265
                            obtain rfl := Option.some.inj ho265
                            refine C_skip (fun a ha273 => ?_)
                            exact ⟨(), ha273.sub ⟨rfl, rfl, rfl, rfl, rfl, rfl, rfl, rfl, rfl, rfl, rfl, rfl, rfl, rfl, rfl, rfl, trivial⟩, rfl⟩
                        rintro _ _ rfl a ha270
                        obtain rfl := Option.some.inj ho211
                        exact ⟨A201, ha270.sub ⟨rfl, rfl, rfl, rfl, rfl, rfl, rfl, rfl, rfl, rfl, rfl, rfl, rfl, rfl, rfl, rfl, trivial⟩, ⟨hH, hr213⟩⟩
                      rintro A217 w214 ⟨hH218, hk215⟩ a ha216
                      replace h_plan := Sl.tr h_plan hk215
                      replace h8 := El.tr h8 hk215
                      replace h_forms := Sl.tr h_forms hk215
                      replace h129 := El.tr h129 hk215
                      replace hK := Tr.trans hK hk215
                      replace hr67 := Tr.trans hr67 hk215
                      replace hr105 := Tr.trans hr105 hk215
                      replace hr138 := Tr.trans hr138 hk215
                      replace hr175 := Tr.trans hr175 hk215
                      replace hr192 := Tr.trans hr192 hk215
                      replace hB := Nat.le_trans hB hk215.ex.size
                      replace hA := hk215.new
                      replace hH : Hp B A217 w214 (obS (α := staff_Duty) 37 v161 s153.2.2.2.1 :: obS (α := staff_Duty) 37 v159 s153.2.2.1 :: obS (α := Int) 3 v157 s153.2.1 :: obSS (α := staff_Form) 29 52 v155 s153.1 :: L) := hH218
                      refine C_at (n := ⟨143, [], none⟩) (fun _ _ => rfl) ?_ ha216
                      refine C_region ?_
                      refine V_y (Y_addI rfl rfl) rfl rfl rfl ?_
                      refine V_y (Y_move rfl) rfl rfl rfl ?_
                      obtain rfl := Option.some.inj h204
                      refine V_end (fun a ha275 => ?_)
                      exact ⟨(s212, w64 (s199.2 + 1)), h205, ⟨A217, ha275.sub ⟨rfl, rfl, rfl, rfl, rfl, rfl, rfl, rfl, rfl, rfl, rfl, rfl, rfl, rfl, rfl, rfl, trivial⟩, ⟨hH, hr192⟩⟩⟩
                    · rw [if_neg (nt hc210)] at h204
                      obtain rfl := Option.some.inj h204
                      refine C_exit (fun a ha276 => ?_)
                      exact ⟨((s199.1, s199.2), A201), ha276.sub ⟨rfl, rfl, rfl, rfl, rfl, rfl, rfl, rfl, rfl, rfl, rfl, rfl, rfl, rfl, trivial⟩, ⟨h205.symm, hH, hr192⟩⟩
                  rintro ⟨s191, A197⟩ w194 ⟨rfl, hH198, hk195⟩ a ha196
                  rw [Lp.andThen_fin] at ho173
                  replace h_plan := Sl.tr h_plan hk195
                  replace h8 := El.tr h8 hk195
                  replace h_forms := Sl.tr h_forms hk195
                  replace h129 := El.tr h129 hk195
                  replace hK := Tr.trans hK hk195
                  replace hr67 := Tr.trans hr67 hk195
                  replace hr105 := Tr.trans hr105 hk195
                  replace hr138 := Tr.trans hr138 hk195
                  replace hr175 := Tr.trans hr175 hk195
                  replace hB := Nat.le_trans hB hk195.ex.size
                  replace hA := hk195.new
                  replace hH : Hp B A197 w194 (obS (α := staff_Duty) 37 v161 s153.2.2.2.1 :: obS (α := staff_Duty) 37 v159 s153.2.2.1 :: obS (α := Int) 3 v157 s153.2.1 :: obSS (α := staff_Form) 29 52 v155 s153.1 :: L) := hH198
                  refine C_at (n := ⟨143, [], none⟩) (fun _ _ => rfl) ?_ ha196
                  refine C_seq ?_
                  refine C_seq ?_
                  refine C_region ?_
                  refine V_y (Y_move rfl) rfl rfl rfl ?_
                  refine V_y (Y_lss rfl rfl) rfl rfl rfl ?_
                  refine V_to (fun _ _ => rfl) ?_
                  refine C_cond rfl (fun hc278 => ?_) (fun hc278 => ?_)
                  · rw [if_pos hc278] at ho173
                    refine C_seq ?_
                    refine C_region ?_
                    refine V_y (Y_move rfl) rfl rfl rfl ?_
                    refine V_y (Y_move rfl) rfl rfl rfl ?_
                    refine V_y (Y_build Try.underlying37 Try.zeroValue37 (Try_places37 _ Try.underlying37) rfl (by with_unfolding_all rfl)) rfl rfl rfl ?_
                    refine V_buildSlice (l := ([(⟨(k68 : Int), 0⟩ : staff_Duty)] : List staff_Duty)) (len := 1) Try.underlying32 Try.sizeOf37 Try.zeroValue37 rfl (by with_unfolding_all rfl) (by decide) (by decide) hA ⟨[.int .i64 (k68 : Int), .int .i64 0], _, rfl, ⟨[.int .i64 (k68 : Int)], _, rfl, rfl, rfl⟩, rfl⟩ rfl rfl ?_
                    intro v279 w280 hk282 h281
                    have ht283 := Kp.tr hk282 hA hB
                    replace hH := Hp.kp hH hk282
                    replace h_plan := Sl.tr h_plan ht283
                    replace h8 := El.tr h8 ht283
                    replace h_forms := Sl.tr h_forms ht283
                    replace h129 := El.tr h129 ht283
                    replace hK := Tr.trans hK ht283
                    replace hr67 := Tr.trans hr67 ht283
                    replace hr105 := Tr.trans hr105 ht283
                    replace hr138 := Tr.trans hr138 ht283
                    replace hr175 := Tr.trans hr175 ht283
                    replace hB := Nat.le_trans hB ht283.ex.size
                    replace hA := ht283.new
                    obtain ⟨x284, hx284, ho173⟩ := Option.bind_eq_some_iff.1 ho173
                    refine V_appendH (e := 37) (v := v161) (l := s153.2.2.2.1) (ti := Try.t37) (bytes := 16) (lim := 8796093022208) hH (i := 0) rfl h281 hx284 Try.underlying32 Try_info37 rfl rfl rfl rfl (by decide) (by decide) (by decide) hB hA rfl rfl rfl ?_
                    intro v285 w286 A287 hH288 ht289
                    replace h_plan := Sl.tr h_plan ht289
                    replace h8 := El.tr h8 ht289
                    replace h_forms := Sl.tr h_forms ht289
                    replace h129 := El.tr h129 ht289
                    replace h281 := Sl.tr h281 ht289
                    replace hK := Tr.trans hK ht289
                    replace hr67 := Tr.trans hr67 ht289
                    replace hr105 := Tr.trans hr105 ht289
                    replace hr138 := Tr.trans hr138 ht289
                    replace hr175 := Tr.trans hr175 ht289
                    replace hB := Nat.le_trans hB ht289.ex.size
                    replace hA := ht289.new
                    replace hH : Hp B A287 w286 (obS (α := staff_Duty) 37 v285 x284 :: obS (α := staff_Duty) 37 v159 s153.2.2.1 :: obS (α := Int) 3 v157 s153.2.1 :: obSS (α := staff_Form) 29 52 v155 s153.1 :: L) := hH288
                    refine V_y (Y_assign rfl) rfl rfl rfl ?_
                    refine V_to (fun _ _ => rfl) ?_
                    obtain rfl := Option.some.inj ho173
                    refine C_exit (fun a ha290 => ?_)
                    exact ⟨(v155, v157, v159, v285, A287), ha290.sub ⟨rfl, rfl, rfl, rfl, rfl, rfl, rfl, rfl, rfl, rfl, rfl, rfl, rfl, trivial⟩, ⟨hH, hr175⟩⟩
                  · rw [if_neg (nt hc278)] at ho173
                    refine C_skip_to (fun _ _ => rfl) ?_
                    refine C_seq ?_
                    obtain ⟨vs291, hl292, hH⟩ := Hp.ssOpen (α := staff_Form) (e := 29) (e2 := 52) (v := v155) (l := s153.1) hH (i := 3) rfl
                    replace hH : Hp B A197 w194 (obS (α := Sv) 29 v155 vs291 :: obZ (α := staff_Form) 52 vs291 s153.1 :: obS (α := staff_Duty) 37 v161 s153.2.2.2.1 :: obS (α := staff_Duty) 37 v159 s153.2.2.1 :: obS (α := Int) 3 v157 s153.2.1 :: L) := hH
                    refine C_region_ch A197 11 [(1, 0), (1, 1), (1, 2), (1, 3), (0, 4), (0, 5), (1, 6), (2, 7), (4, 8), (0, 9), (4, 10)] Try_mixed (by kernel_rfl) (fun w293 hk294 => ?_)
                    have ht295 := Kp.tr hk294 hA hB
                    replace hH := Hp.kp hH hk294
                    replace h_plan := Sl.tr h_plan ht295
                    replace h8 := El.tr h8 ht295
                    replace h_forms := Sl.tr h_forms ht295
                    replace h129 := El.tr h129 ht295
                    replace hK := Tr.trans hK ht295
                    replace hr67 := Tr.trans hr67 ht295
                    replace hr105 := Tr.trans hr105 ht295
                    replace hr138 := Tr.trans hr138 ht295
                    replace hr175 := Tr.trans hr175 ht295
                    replace hB := Nat.le_trans hB ht295.ex.size
                    replace hA := ht295.new
                    refine CH_q2 rfl ?_
                    refine VQ_y (fun w' hw' => Y_move rfl) rfl rfl rfl ?_
                    refine VQ_CH ?_
                    refine CH_q2 rfl ?_
                    refine VQ_y (fun w' hw' => Y_move rfl) rfl rfl rfl ?_
                    refine VQ_CH ?_
                    refine CH_q2 rfl ?_
                    refine VQ_y (fun w' hw' => Y_move rfl) rfl rfl rfl ?_
                    refine VQ_CH ?_
                    refine CH_q2 rfl ?_
                    refine VQ_y (fun w' hw' => Y_move rfl) rfl rfl rfl ?_
                    refine VQ_CH ?_
                    refine CH_q1 rfl ?_
                    obtain ⟨x296, hx296, ho173⟩ := Option.bind_eq_some_iff.1 ho173
                    obtain ⟨y301, hy302⟩ := ssIdx hx296 hl292
                    refine VQ_indexAddrH (α := Sv) (e := 29) (v := v155) (l := vs291) hH (i := 0) rfl hy302 Try.underlying50 Try.sizeOf29 rfl rfl rfl ?_
                    intro b297 o298 h299 hl300
                    refine VQ_CH ?_
                    refine CH_q1 rfl ?_
                    have h303 : Sl (α := staff_Form) (fun _ => True) w293 y301.v x296 := (Hp.zTake hH (i := 1) rfl hx296 hy302).any (i := 0) rfl
                    refine VQ_y (fun w' hw' => Y_load (El.sv (El.kp h299 hw')) Try.isAgg29 rfl) rfl rfl rfl ?_
                    refine VQ_CH ?_
                    refine CH_q2 rfl ?_
                    obtain ⟨h304, _⟩ := El_staff_Form h129
                    refine VQ_y (fun w' hw' => Y_loadA (At.same h304 (hw'.2 _ h129.2.1 h129.1)) Try.isAgg52 Try.sizeOf52 rfl) rfl rfl rfl ?_
                    refine VQ_CH ?_
                    refine CH_l1 (k := 0) rfl ?_
                    refine V_buildSlice (l := ([x119] : List staff_Form)) (len := 1) Try.underlying29 Try.sizeOf52 Try.zeroValue52 rfl (by with_unfolding_all rfl) (by decide) (by decide) hA ⟨[.int .i64 x119.from_, .int .i64 x119.slots], _, rfl, ⟨[.int .i64 x119.from_], _, rfl, rfl, rfl⟩, rfl⟩ rfl rfl ?_
                    intro v305 w306 hk308 h307
                    have ht309 := Kp.tr hk308 hA hB
                    replace hH := Hp.kp hH hk308
                    replace h_plan := Sl.tr h_plan ht309
                    replace h8 := El.tr h8 ht309
                    replace h_forms := Sl.tr h_forms ht309
                    replace h129 := El.tr h129 ht309
                    replace h299 := El.kp h299 hk308
                    replace h303 := Sl.kp h303 hk308
                    replace hK := Tr.trans hK ht309
                    replace hr67 := Tr.trans hr67 ht309
                    replace hr105 := Tr.trans hr105 ht309
                    replace hr138 := Tr.trans hr138 ht309
                    replace hr175 := Tr.trans hr175 ht309
                    replace hB := Nat.le_trans hB ht309.ex.size
                    replace hA := ht309.new
                    refine V_CH (hk308) ?_
                    refine CH_l1 (k := 2) rfl ?_
                    replace hH : Hp B A197 w306 (obS (α := staff_Form) 52 y301.v x296 :: obS (α := Sv) 29 v155 vs291 :: obZX (α := staff_Form) 52 vs291 s153.1 (Int.toNat s191.1) :: obS (α := staff_Duty) 37 v161 s153.2.2.2.1 :: obS (α := staff_Duty) 37 v159 s153.2.2.1 :: obS (α := Int) 3 v157 s153.2.1 :: L) := Hp.zTake hH (i := 1) rfl hx296 hy302
                    obtain ⟨x310, hx310, ho173⟩ := Option.bind_eq_some_iff.1 ho173
                    refine V_appendH (e := 52) (v := y301.v) (l := x296) (ti := Try.t52) (bytes := 16) (lim := 8796093022208) hH (i := 0) rfl h307 hx310 Try.underlying29 Try_info52 rfl rfl rfl rfl (by decide) (by decide) (by decide) hB hA rfl rfl rfl ?_
                    intro v311 w312 A313 hH314 ht315
                    replace h_plan := Sl.tr h_plan ht315
                    replace h8 := El.tr h8 ht315
                    replace h_forms := Sl.tr h_forms ht315
                    replace h129 := El.tr h129 ht315
                    replace h307 := Sl.tr h307 ht315
                    replace hK := Tr.trans hK ht315
                    replace hr67 := Tr.trans hr67 ht315
                    replace hr105 := Tr.trans hr105 ht315
                    replace hr138 := Tr.trans hr138 ht315
                    replace hr175 := Tr.trans hr175 ht315
                    replace hB := Nat.le_trans hB ht315.ex.size
                    replace hA := ht315.new
                    replace hH : Hp B A313 w312 (obS (α := staff_Form) 52 v311 x310 :: obS (α := Sv) 29 v155 vs291 :: obZX (α := staff_Form) 52 vs291 s153.1 (Int.toNat s191.1) :: obS (α := staff_Duty) 37 v161 s153.2.2.2.1 :: obS (α := staff_Duty) 37 v159 s153.2.2.1 :: obS (α := Int) 3 v157 s153.2.1 :: L) := hH314
                    refine V_CHw ?_
                    refine CH_q1 rfl ?_
                    refine VQ_indexAddrH (α := Sv) (e := 29) (v := v155) (l := vs291) hH (i := 1) rfl hy302 Try.underlying50 Try.sizeOf29 rfl rfl rfl ?_
                    intro b316 o317 h318 hl319
                    refine VQ_CH ?_
                    refine CH_l1 (k := 2) rfl ?_
                    replace hH : Hp B A313 w312 (obZX (α := staff_Form) 52 vs291 s153.1 (Int.toNat s191.1) :: obS (α := staff_Form) 52 v311 x310 :: obS (α := Sv) 29 v155 vs291 :: obS (α := staff_Duty) 37 v161 s153.2.2.2.1 :: obS (α := staff_Duty) 37 v159 s153.2.2.1 :: obS (α := Int) 3 v157 s153.2.1 :: L) := Hp.front hH (i := 2) rfl
                    replace hH : Hp B A313 w312 (obS (α := staff_Form) 52 v311 x310 :: obZX (α := staff_Form) 52 vs291 s153.1 (Int.toNat s191.1) :: obS (α := Sv) 29 v155 vs291 :: obS (α := staff_Duty) 37 v161 s153.2.2.2.1 :: obS (α := staff_Duty) 37 v159 s153.2.2.1 :: obS (α := Int) 3 v157 s153.2.1 :: L) := Hp.front hH (i := 1) rfl
                    replace hH : Hp B A313 w312 (obS (α := Sv) 29 v155 vs291 :: obS (α := staff_Form) 52 v311 x310 :: obZX (α := staff_Form) 52 vs291 s153.1 (Int.toNat s191.1) :: obS (α := staff_Duty) 37 v161 s153.2.2.2.1 :: obS (α := staff_Duty) 37 v159 s153.2.2.1 :: obS (α := Int) 3 v157 s153.2.1 :: L) := Hp.front hH (i := 2) rfl
                    obtain ⟨x320, hx320, ho173⟩ := Option.bind_eq_some_iff.1 ho173
                    refine V_storeSS (p := y301) (α := staff_Form) (e := 29) (e2 := 52) (v := v155) (vs := vs291) (l := s153.1) (ix := s191.1) (nv := v311) (c' := x310) hH hl292 hy302 hl319 hx320 Try.sizeOf29 rfl hB hA rfl rfl ?_
                    intro w321 hH322 ht323
                    replace h_plan := Sl.tr h_plan ht323
                    replace h8 := El.tr h8 ht323
                    replace h_forms := Sl.tr h_forms ht323
                    replace h129 := El.tr h129 ht323
                    replace h307 := Sl.tr h307 ht323
                    replace hK := Tr.trans hK ht323
                    replace hr67 := Tr.trans hr67 ht323
                    replace hr105 := Tr.trans hr105 ht323
                    replace hr138 := Tr.trans hr138 ht323
                    replace hr175 := Tr.trans hr175 ht323
                    replace hB := Nat.le_trans hB ht323.ex.size
                    replace hA := ht323.new
                    replace hH : Hp B A313 w321 (obSS (α := staff_Form) 29 52 v155 x320 :: obS (α := staff_Duty) 37 v161 s153.2.2.2.1 :: obS (α := staff_Duty) 37 v159 s153.2.2.1 :: obS (α := Int) 3 v157 s153.2.1 :: L) := hH322
                    refine V_CHw ?_
                    refine CH_tail ?_
                    show V _ _ _ _ [] _ _
                    refine V_to (fun _ _ => rfl) ?_
                    refine C_seq ?_
                    refine C_region_qt 8 Try_mixed (by kernel_rfl) ?_
                    simp only [List.take, List.drop]
                    refine VQ_y (fun w' hw' => Y_move rfl) rfl rfl rfl ?_
                    refine VQ_y (fun w' hw' => Y_move rfl) rfl rfl rfl ?_
                    obtain ⟨x324, hx324, ho173⟩ := Option.bind_eq_some_iff.1 ho173
                    refine VQ_indexAddrH (α := Int) (e := 3) (v := v157) (l := s153.2.1) hH (i := 3) rfl hx324 Try.underlying23 Try.sizeOf3 rfl rfl rfl ?_
                    intro b325 o326 h327 hl328
                    refine VQ_y (fun w' hw' => Y_load (El.int (El.kp h327 hw')) Try.isAgg3 rfl) rfl rfl rfl ?_
                    have h329 := El_staff_Form_1 h129
                    refine VQ_y (fun w' hw' => Y_fieldAddr Try.underlying52 rfl Try.sizeOf3 (by decide) rfl) rfl rfl rfl ?_
                    refine VQ_y (fun w' hw' => Y_load (El.int (El.kp h329 hw')) Try.isAgg3 rfl) rfl rfl rfl ?_
                    refine VQ_y (fun w' hw' => Y_addI rfl rfl) rfl rfl rfl ?_
                    refine VQ_indexAddrH (α := Int) (e := 3) (v := v157) (l := s153.2.1) hH (i := 3) rfl hx324 Try.underlying23 Try.sizeOf3 rfl rfl rfl ?_
                    intro b330 o331 h332 hl333
                    refine VQ_tail (fun w334 hk335 => ?_)
                    try simp only [List.take, List.drop]
                    have ht336 := Kp.tr hk335 hA hB
                    replace hH := Hp.kp hH hk335
                    replace h_plan := Sl.tr h_plan ht336
                    replace h8 := El.tr h8 ht336
                    replace h_forms := Sl.tr h_forms ht336
                    replace h129 := El.tr h129 ht336
                    replace h327 := El.kp h327 hk335
                    replace h329 := El.tr h329 ht336
                    replace h332 := El.kp h332 hk335
                    replace hK := Tr.trans hK ht336
                    replace hr67 := Tr.trans hr67 ht336
                    replace hr105 := Tr.trans hr105 ht336
                    replace hr138 := Tr.trans hr138 ht336
                    replace hr175 := Tr.trans hr175 ht336
                    replace hB := Nat.le_trans hB ht336.ex.size
                    replace hA := ht336.new
                    obtain ⟨x337, hx337, ho173⟩ := Option.bind_eq_some_iff.1 ho173
                    refine V_storeH (α := Int) (e := 3) (v := v157) (l := s153.2.1) hH (i := 3) rfl hl333 hx337 rfl Try.sizeOf3 rfl hB hA rfl rfl ?_
                    intro w338 hH339 ht340
                    replace h_plan := Sl.tr h_plan ht340
                    replace h8 := El.tr h8 ht340
                    replace h_forms := Sl.tr h_forms ht340
                    replace h129 := El.tr h129 ht340
                    replace h329 := El.tr h329 ht340
                    replace hK := Tr.trans hK ht340
                    replace hr67 := Tr.trans hr67 ht340
                    replace hr105 := Tr.trans hr105 ht340
                    replace hr138 := Tr.trans hr138 ht340
                    replace hr175 := Tr.trans hr175 ht340
                    replace hB := Nat.le_trans hB ht340.ex.size
                    replace hA := ht340.new
                    replace hH : Hp B A313 w338 (obSS (α := staff_Form) 29 52 v155 x320 :: obS (α := staff_Duty) 37 v161 s153.2.2.2.1 :: obS (α := staff_Duty) 37 v159 s153.2.2.1 :: obS (α := Int) 3 v157 x337 :: L) := hH339
                    refine V_to (fun _ _ => rfl) ?_
                    refine C_region ?_
                    refine V_y (Y_move rfl) rfl rfl rfl ?_
                    refine V_y (Y_move rfl) rfl rfl rfl ?_
                    refine V_y (Y_move rfl) rfl rfl rfl ?_
                    refine V_y (Y_addI rfl rfl) rfl rfl rfl ?_
                    refine V_y (Y_build Try.underlying37 Try.zeroValue37 (Try_places37 _ Try.underlying37) rfl (by with_unfolding_all rfl)) rfl rfl rfl ?_
                    refine V_buildSlice (l := ([(⟨(k68 : Int), w64 (s191.1 + 1)⟩ : staff_Duty)] : List staff_Duty)) (len := 1) Try.underlying32 Try.sizeOf37 Try.zeroValue37 rfl (by with_unfolding_all rfl) (by decide) (by decide) hA ⟨[.int .i64 (k68 : Int), .int .i64 (w64 (s191.1 + 1))], _, rfl, ⟨[.int .i64 (k68 : Int)], _, rfl, rfl, rfl⟩, rfl⟩ rfl rfl ?_
                    intro v341 w342 hk344 h343
                    have ht345 := Kp.tr hk344 hA hB
                    replace hH := Hp.kp hH hk344
                    replace h_plan := Sl.tr h_plan ht345
                    replace h8 := El.tr h8 ht345
                    replace h_forms := Sl.tr h_forms ht345
                    replace h129 := El.tr h129 ht345
                    replace hK := Tr.trans hK ht345
                    replace hr67 := Tr.trans hr67 ht345
                    replace hr105 := Tr.trans hr105 ht345
                    replace hr138 := Tr.trans hr138 ht345
                    replace hr175 := Tr.trans hr175 ht345
                    replace hB := Nat.le_trans hB ht345.ex.size
                    replace hA := ht345.new
                    obtain ⟨x346, hx346, ho173⟩ := Option.bind_eq_some_iff.1 ho173
                    refine V_appendH (e := 37) (v := v159) (l := s153.2.2.1) (ti := Try.t37) (bytes := 16) (lim := 8796093022208) hH (i := 2) rfl h343 hx346 Try.underlying32 Try_info37 rfl rfl rfl rfl (by decide) (by decide) (by decide) hB hA rfl rfl rfl ?_
                    intro v347 w348 A349 hH350 ht351
                    replace h_plan := Sl.tr h_plan ht351
                    replace h8 := El.tr h8 ht351
                    replace h_forms := Sl.tr h_forms ht351
                    replace h129 := El.tr h129 ht351
                    replace h343 := Sl.tr h343 ht351
                    replace hK := Tr.trans hK ht351
                    replace hr67 := Tr.trans hr67 ht351
                    replace hr105 := Tr.trans hr105 ht351
                    replace hr138 := Tr.trans hr138 ht351
                    replace hr175 := Tr.trans hr175 ht351
                    replace hB := Nat.le_trans hB ht351.ex.size
                    replace hA := ht351.new
                    replace hH : Hp B A349 w348 (obSS (α := staff_Form) 29 52 v155 x320 :: obS (α := staff_Duty) 37 v161 s153.2.2.2.1 :: obS (α := staff_Duty) 37 v347 x346 :: obS (α := Int) 3 v157 x337 :: L) := hH350
                    refine V_y (Y_assign rfl) rfl rfl rfl ?_
                    obtain rfl := Option.some.inj ho173
                    refine V_end (fun a ha352 => ?_)
                    replace hH : Hp B A349 w348 (obS (α := Int) 3 v157 x337 :: obSS (α := staff_Form) 29 52 v155 x320 :: obS (α := staff_Duty) 37 v161 s153.2.2.2.1 :: obS (α := staff_Duty) 37 v347 x346 :: L) := Hp.front hH (i := 3) rfl
                    replace hH : Hp B A349 w348 (obS (α := staff_Duty) 37 v347 x346 :: obS (α := Int) 3 v157 x337 :: obSS (α := staff_Form) 29 52 v155 x320 :: obS (α := staff_Duty) 37 v161 s153.2.2.2.1 :: L) := Hp.front hH (i := 3) rfl
                    replace hH : Hp B A349 w348 (obS (α := staff_Duty) 37 v161 s153.2.2.2.1 :: obS (α := staff_Duty) 37 v347 x346 :: obS (α := Int) 3 v157 x337 :: obSS (α := staff_Form) 29 52 v155 x320 :: L) := Hp.front hH (i := 3) rfl
                    exact ⟨(v155, v157, v347, v161, A349), ha352.sub ⟨rfl, rfl, rfl, rfl, rfl, rfl, rfl, rfl, rfl, rfl, rfl, rfl, rfl, trivial⟩, ⟨hH, hr175⟩⟩
                rintro ⟨v176, v178, v180, v182, A187⟩ w184 ⟨hH188, hk185⟩ a ha186
                replace h_plan := Sl.tr h_plan hk185
                replace h8 := El.tr h8 hk185
                replace h_forms := Sl.tr h_forms hk185
                replace h129 := El.tr h129 hk185
                replace hK := Tr.trans hK hk185
                replace hr67 := Tr.trans hr67 hk185
                replace hr105 := Tr.trans hr105 hk185
                replace hr138 := Tr.trans hr138 hk185
                replace hB := Nat.le_trans hB hk185.ex.size
                replace hA := hk185.new
                replace hH : Hp B A187 w184 (obS (α := staff_Duty) 37 v182 s174.2.2.2 :: obS (α := staff_Duty) 37 v180 s174.2.2.1 :: obS (α := Int) 3 v178 s174.2.1 :: obSS (α := staff_Form) 29 52 v176 s174.1 :: L) := hH188
                refine C_at (n := ⟨143, [], none⟩) (fun _ _ => rfl) ?_ ha186
                refine C_region ?_
                refine V_y (Y_addI rfl rfl) rfl rfl rfl ?_
                refine V_y (Y_move rfl) rfl rfl rfl ?_
                obtain rfl := Option.some.inj h166
                refine V_end (fun a ha353 => ?_)
                exact ⟨(s174.1, s174.2.1, s174.2.2.1, s174.2.2.2, w64 (s153.2.2.2.2 + 1)), h167, ⟨(v176, v178, v180, v182, A187), ha353.sub ⟨rfl, rfl, rfl, rfl, rfl, rfl, rfl, rfl, rfl, rfl, rfl, rfl, rfl, trivial⟩, ⟨hH, hr138⟩⟩⟩
              · rw [if_neg (nt hc172)] at h166
                obtain rfl := Option.some.inj h166
                refine C_exit (fun a ha354 => ?_)
                exact ⟨((s153.1, s153.2.1, s153.2.2.1, s153.2.2.2.1, s153.2.2.2.2), v155, v157, v159, v161, A163), ha354.sub ⟨rfl, rfl, rfl, rfl, rfl, rfl, rfl, rfl, rfl, trivial⟩, ⟨h167.symm, hH, hr138⟩⟩
            rintro ⟨s137, v143, v145, v147, v149, A151⟩ w140 ⟨rfl, hH152, hk141⟩ a ha142
            rw [Lp.andThen_fin] at ho103
            replace h_plan := Sl.tr h_plan hk141
            replace h8 := El.tr h8 hk141
            replace h_forms := Sl.tr h_forms hk141
            replace hK := Tr.trans hK hk141
            replace hr67 := Tr.trans hr67 hk141
            replace hr105 := Tr.trans hr105 hk141
            replace hB := Nat.le_trans hB hk141.ex.size
            replace hA := hk141.new
            replace hH : Hp B A151 w140 (obS (α := staff_Duty) 37 v149 s137.2.2.2.1 :: obS (α := staff_Duty) 37 v147 s137.2.2.1 :: obS (α := Int) 3 v145 s137.2.1 :: obSS (α := staff_Form) 29 52 v143 s137.1 :: L) := hH152
            obtain rfl := Option.some.inj ho103
            exact ⟨(v143, v145, v147, v149, A151), ha142.sub ⟨rfl, rfl, rfl, rfl, rfl, rfl, rfl, rfl, rfl, trivial⟩, ⟨hH, hr105⟩⟩
          rintro ⟨v106, v108, v110, v112, A117⟩ w114 ⟨hH118, hk115⟩ a ha116
          replace h_plan := Sl.tr h_plan hk115
          replace h8 := El.tr h8 hk115
          replace h_forms := Sl.tr h_forms hk115
          replace hK := Tr.trans hK hk115
          replace hr67 := Tr.trans hr67 hk115
          replace hB := Nat.le_trans hB hk115.ex.size
          replace hA := hk115.new
          replace hH : Hp B A117 w114 (obS (α := staff_Duty) 37 v112 s104.2.2.2 :: obS (α := staff_Duty) 37 v110 s104.2.2.1 :: obS (α := Int) 3 v108 s104.2.1 :: obSS (α := staff_Form) 29 52 v106 s104.1 :: L) := hH118
          refine C_at (n := ⟨143, [], none⟩) (fun _ _ => rfl) ?_ ha116
          refine C_region ?_
          refine V_y (Y_addI rfl rfl) rfl rfl rfl ?_
          refine V_y (Y_move rfl) rfl rfl rfl ?_
          obtain rfl := Option.some.inj h95
          refine V_end (fun a ha357 => ?_)
          exact ⟨(s104.1, s104.2.1, s104.2.2.1, s104.2.2.2), hlt98, h96, ⟨(v106, v108, v110, v112, A117), ha357.sub ⟨rfl, rfl, rfl, rfl, rfl, rfl, rfl, rfl, (congrArg (fun z => some (Value.int .i64 z)) (w64_succ hlt98 hn101)), trivial⟩, ⟨hH, hr67⟩⟩⟩
        · refine C_exit (fun a ha358 => ?_)
          exact ⟨((s82.1, s82.2.1, s82.2.2.1, s82.2.2.2), v84, v86, v88, v90, A92), ha358.sub ⟨rfl, rfl, trivial⟩, ⟨(h99 (eq_of_dec hle97 hc102)).symm, hH, hr67⟩⟩
      rintro ⟨s66, v72, v74, v76, v78, A80⟩ w69 ⟨rfl, hH81, hk70⟩ a ha71
      rw [Lp.andThen_fin] at hm
      replace hK := Tr.trans hK hk70
      replace hB := Nat.le_trans hB hk70.ex.size
      replace hA := hk70.new
      replace hH : Hp B A80 w69 (obS (α := staff_Duty) 37 v78 s66.2.2.2 :: obS (α := staff_Duty) 37 v76 s66.2.2.1 :: obS (α := Int) 3 v74 s66.2.1 :: obSS (α := staff_Form) 29 52 v72 s66.1 :: L) := hH81
      refine C_at (n := ⟨143, [], none⟩) (fun _ _ => rfl) ?_ ha71
      refine C_seq ?_
      refine C_region ?_
      refine V_y (Y_move rfl) rfl rfl rfl ?_
      refine V_y (Y_move rfl) rfl rfl rfl ?_
      refine V_y (Y_assign rfl) rfl rfl rfl ?_
      refine V_y (Y_assign rfl) rfl rfl rfl ?_
      refine V_y (Y_assign rfl) rfl rfl rfl ?_
      refine V_to (fun _ _ => rfl) ?_
      obtain rfl := Option.some.inj hm
      replace hH : Hp B A80 w69 (obS (α := staff_Duty) 37 v76 s66.2.2.1 :: obS (α := staff_Duty) 37 v78 s66.2.2.2 :: obS (α := Int) 3 v74 s66.2.1 :: obSS (α := staff_Form) 29 52 v72 s66.1 :: L) := Hp.front hH (i := 1) rfl
      replace hH : Hp B A80 w69 (obS (α := staff_Duty) 37 v76 s66.2.2.1 :: obS (α := staff_Duty) 37 v78 s66.2.2.2 :: obSS (α := staff_Form) 29 52 v72 s66.1 :: L) := Hp.drop hH (i := 2) rfl
      replace hH : Hp B A80 w69 (obS (α := staff_Duty) 37 v76 s66.2.2.1 :: obS (α := staff_Duty) 37 v78 s66.2.2.2 :: L) := Hp.drop hH (i := 2) rfl
      refine C_ret ?_
      try simp only [↓inBlock_ret, ↓then_ret]
      exact retQ rfl (Res.three Try.results8 rfl rfl rfl) ⟨v76, v78, A80, rfl, hH, hK⟩

end Go.Proofs.Ytklcifchnpnpnaa.W
