/-
  Written by program (gen.py) from the IR of the dump: each function computes its model.
-/
import Derived.Test.YtcfhifbmjjhhdaaProg
import Derived.Test.YtcfhifbmjjhhdaaGe
import Derived.Test.YtcfhifbmjjhhdaaRosterJudgesM
import Derived.KernelRfl
import Derived.Test.YtcfhifbmjjhhdaaHa
import Derived.Test.YtcfhifbmjjhhdaaGy
import Derived.Test.YtcfhifbmjjhhdaaHe
namespace Go.Proofs.Ytcfhifbmjjhhdaa.W
open Go Go.RowKit Go.Pu Go.Gw Go.Proofs Go.Proofs.Ytcfhifbmjjhhdaa.M
set_option linter.unusedVariables false
set_option linter.unusedSimpArgs false
variable {Dw : Prop}

theorem Try_info3 : Try.prog.info? 3 = some Try.t3 := by kernel_rfl
theorem Try_info4 : Try.prog.info? 4 = some Try.t4 := by kernel_rfl
theorem Try_info32 : Try.prog.info? 32 = some Try.t32 := by kernel_rfl
theorem Try_info45 : Try.prog.info? 45 = some Try.t45 := by kernel_rfl
theorem Try_places32 : ∀ fs, Try.prog.underlying 32 = some (.struct fs) → ∀ w : World, (Array.mapM (fun (f : Field) => do pure (f.offset, ← Go.sizeOf f.type)) fs).run Try.prog w = .ok #[(0, 1), (1, 1), (2, 1)] w := by
  intro fs h w
  rw [Try.underlying32] at h
  cases h
  kernel_rfl
theorem Try_eqt32_10000 (a0 : Int) (a1 : Int) (a2 : Int) (b0 : Int) (b1 : Int) (b2 : Int) (w : World) : (Op.equalIn 10000 32 (.agg #[.int .i64 a0, .int .i64 a1, .int .i64 a2]) (.agg #[.int .i64 b0, .int .i64 b1, .int .i64 b2])).run Try.prog w = .ok (a0 == b0 && (a1 == b1 && (a2 == b2))) w := by
  refine (run_equalIn_struct w 9999 32 _ _ (by kernel_rfl) (by kernel_rfl)).trans ?_
  rw [show Try.prog.fieldsOf 32 = _ from by unfold Program.fieldsOf; rw [Try.underlying32]]
  cases h0 : (a0 == b0) <;> cases h1 : (a1 == b1) <;> cases h2 : (a2 == b2) <;> simp_all [Op.eqFields, part, strEq, Try.isAgg3, run_equalIn_int _ _ _ _ _ _ _ Try.underlying3]
theorem Try_eqg32 : Try.prog.eqGuardType Try.prog.depth 32 = false := by kernel_rfl
theorem Try_mixed : Try.prog.follows .mixedOrders = true := by kernel_rfl

instance : GoT staff_Form := GoT.of (β := Int × Int) fun x => (x.from_, x.slots)

instance : Flat staff_Form := ⟨fun {A w A1 w1 cs x} h => Flat.flat (α := Int × Int) (x := (x.from_, x.slots)) (A := A) (w := w) h⟩

theorem El_staff_Form_ {A : Nat → Prop} {w : World} {b off : Nat} {x : staff_Form} (h : El A w b off x) : El (α := Int × Int) A w b off (x.from_, x.slots) := h

theorem El_staff_Form_0 {A : Nat → Prop} {w : World} {b off : Nat} {x : staff_Form} (h : El A w b off x) : El A w b (off + 0) x.from_ := El.fst (El_staff_Form_ h)

theorem El_staff_Form_1 {A : Nat → Prop} {w : World} {b off : Nat} {x : staff_Form} (h : El A w b off x) : El A w b (off + 1) x.slots := El.snd (El_staff_Form_ h)

theorem El_staff_Form {A : Nat → Prop} {w : World} {b off : Nat} {x : staff_Form} (h : El A w b off x) : At w b off [.int .i64 x.from_, .int .i64 x.slots] ∧ True := by
  obtain ⟨h1, h2, cs, h3, h4⟩ := h
  obtain ⟨_, _, rfl, rfl, rfl⟩ := h3
  exact ⟨h4, trivial⟩

instance : GoT staff_Rules := GoT.of (β := Int × Int × Int) fun x => (x.people, x.rest_, x.most)

instance : Flat staff_Rules := ⟨fun {A w A1 w1 cs x} h => Flat.flat (α := Int × Int × Int) (x := (x.people, x.rest_, x.most)) (A := A) (w := w) h⟩

theorem El_staff_Rules_ {A : Nat → Prop} {w : World} {b off : Nat} {x : staff_Rules} (h : El A w b off x) : El (α := Int × Int × Int) A w b off (x.people, x.rest_, x.most) := h

theorem El_staff_Rules_0 {A : Nat → Prop} {w : World} {b off : Nat} {x : staff_Rules} (h : El A w b off x) : El A w b (off + 0) x.people := El.fst (El_staff_Rules_ h)

theorem El_staff_Rules_1 {A : Nat → Prop} {w : World} {b off : Nat} {x : staff_Rules} (h : El A w b off x) : El A w b (off + 1) x.rest_ := El.fst (El.snd (El_staff_Rules_ h))

theorem El_staff_Rules_2 {A : Nat → Prop} {w : World} {b off : Nat} {x : staff_Rules} (h : El A w b off x) : El A w b (off + 2) x.most := El.snd (El.snd (El_staff_Rules_ h))

theorem El_staff_Rules {A : Nat → Prop} {w : World} {b off : Nat} {x : staff_Rules} (h : El A w b off x) : At w b off [.int .i64 x.people, .int .i64 x.rest_, .int .i64 x.most] ∧ True := by
  obtain ⟨h1, h2, cs, h3, h4⟩ := h
  obtain ⟨_, _, rfl, rfl, ⟨_, _, rfl, rfl, rfl⟩⟩ := h3
  exact ⟨h4, trivial⟩

instance : GoT staff_Duty := GoT.of (β := Int × Int) fun x => (x.form, x.person)

instance : Flat staff_Duty := ⟨fun {A w A1 w1 cs x} h => Flat.flat (α := Int × Int) (x := (x.form, x.person)) (A := A) (w := w) h⟩

theorem El_staff_Duty_ {A : Nat → Prop} {w : World} {b off : Nat} {x : staff_Duty} (h : El A w b off x) : El (α := Int × Int) A w b off (x.form, x.person) := h

theorem El_staff_Duty_0 {A : Nat → Prop} {w : World} {b off : Nat} {x : staff_Duty} (h : El A w b off x) : El A w b (off + 0) x.form := El.fst (El_staff_Duty_ h)

theorem El_staff_Duty_1 {A : Nat → Prop} {w : World} {b off : Nat} {x : staff_Duty} (h : El A w b off x) : El A w b (off + 1) x.person := El.snd (El_staff_Duty_ h)

theorem El_staff_Duty {A : Nat → Prop} {w : World} {b off : Nat} {x : staff_Duty} (h : El A w b off x) : At w b off [.int .i64 x.form, .int .i64 x.person] ∧ True := by
  obtain ⟨h1, h2, cs, h3, h4⟩ := h
  obtain ⟨_, _, rfl, rfl, rfl⟩ := h3
  exact ⟨h4, trivial⟩

instance : GoT staff_Breach := GoT.of (β := Int × Int × Int) fun x => (x.kind, x.first, x.second)

instance : Flat staff_Breach := ⟨fun {A w A1 w1 cs x} h => Flat.flat (α := Int × Int × Int) (x := (x.kind, x.first, x.second)) (A := A) (w := w) h⟩

theorem El_staff_Breach_ {A : Nat → Prop} {w : World} {b off : Nat} {x : staff_Breach} (h : El A w b off x) : El (α := Int × Int × Int) A w b off (x.kind, x.first, x.second) := h

theorem El_staff_Breach_0 {A : Nat → Prop} {w : World} {b off : Nat} {x : staff_Breach} (h : El A w b off x) : El A w b (off + 0) x.kind := El.fst (El_staff_Breach_ h)

theorem El_staff_Breach_1 {A : Nat → Prop} {w : World} {b off : Nat} {x : staff_Breach} (h : El A w b off x) : El A w b (off + 1) x.first := El.fst (El.snd (El_staff_Breach_ h))

theorem El_staff_Breach_2 {A : Nat → Prop} {w : World} {b off : Nat} {x : staff_Breach} (h : El A w b off x) : El A w b (off + 2) x.second := El.snd (El.snd (El_staff_Breach_ h))

theorem El_staff_Breach {A : Nat → Prop} {w : World} {b off : Nat} {x : staff_Breach} (h : El A w b off x) : At w b off [.int .i64 x.kind, .int .i64 x.first, .int .i64 x.second] ∧ True := by
  obtain ⟨h1, h2, cs, h3, h4⟩ := h
  obtain ⟨_, _, rfl, rfl, ⟨_, _, rfl, rfl, rfl⟩⟩ := h3
  exact ⟨h4, trivial⟩

theorem Rep_staff_Breach {A : Nat → Prop} {w : World} {cs : List Value} {x : staff_Breach} (h : GoT.rep A w cs x) : cs = [.int .i64 x.kind, .int .i64 x.first, .int .i64 x.second] ∧ True := by
  obtain ⟨_, _, rfl, rfl, ⟨_, _, rfl, rfl, rfl⟩⟩ := h
  exact ⟨rfl, trivial⟩

set_option maxRecDepth 4000 in
set_option maxHeartbeats 4000000 in
theorem staff_within_c (w : World) (n : Int) (low : Int) (high : Int) : Ret Try.prog 16 #[.int .i64 n, .int .i64 low, .int .i64 high] w fun v w' => v = .bool (staff_within n low high) ∧ w = w' := by
  generalize hm : staff_within n low high = r
  unfold staff_within at hm
  refine enter Try.func16 rfl Try.ntmps16 rfl ?_
  refine C_seq ?_
  refine C_region ?_
  refine V_y (Y_assign rfl) rfl rfl rfl ?_
  refine V_to (fun _ _ => rfl) ?_
  refine C_seq ?_
  refine C_region ?_
  refine V_y (Y_move rfl) rfl rfl rfl ?_
  refine V_y (Y_move rfl) rfl rfl rfl ?_
  refine V_y (Y_geq rfl rfl) rfl rfl rfl ?_
  refine V_y (Y_move rfl) rfl rfl rfl ?_
  refine V_cut 4 (fun _ : Unit => [(14, .bool ((decide (low ≤ n)) && (decide (n ≤ high))))]) (fun _ w' => w = w') ?_ ?_
  · simp only [List.take, List.drop]
    rcases Bool.eq_false_or_eq_true (decide (low ≤ n)) with hc1 | hc1
    · refine V_ge rfl rfl rfl hc1 ?_
      refine V_y (Y_move rfl) rfl rfl rfl ?_
      refine V_ge rfl rfl rfl hc1 ?_
      refine V_y (Y_move rfl) rfl rfl rfl ?_
      refine V_ge rfl rfl rfl hc1 ?_
      refine V_y (Y_leq rfl rfl) rfl rfl rfl ?_
      refine V_y (Y_pick_te rfl hc1 rfl) rfl rfl rfl ?_
      exact V_end fun a ha => ⟨(), ha.sub ⟨(by rw [hc1]; rfl), trivial⟩, rfl⟩
    · refine V_gn rfl rfl rfl hc1 rfl rfl rfl ?_
      refine V_gn rfl rfl rfl hc1 rfl rfl rfl ?_
      refine V_gn rfl rfl rfl hc1 rfl rfl rfl ?_
      refine V_y (Y_pick_fe rfl hc1 rfl) rfl rfl rfl ?_
      exact V_end fun a ha => ⟨(), ha.sub ⟨(by rw [hc1]; rfl), trivial⟩, rfl⟩
  simp only [List.take, List.drop]
  rintro _ _ rfl
  refine V_y (Y_assign rfl) rfl rfl rfl ?_
  refine V_to (fun _ _ => rfl) ?_
  obtain rfl := hm
  refine C_ret ?_
  try simp only [↓inBlock_ret, ↓then_ret]
  exact retQ rfl (Res.one Try.results16 rfl) ⟨rfl, rfl⟩

set_option maxRecDepth 4000 in
set_option maxHeartbeats 4000000 in
theorem cmp_isNaN_int_c (w : World) (x : Int) : Ret Try.prog 37 #[.int .i64 x] w fun v w' => v = .bool (cmp_isNaN_int x) ∧ w = w' := by
  generalize hm : cmp_isNaN_int x = r
  unfold cmp_isNaN_int at hm
  refine enter Try.func37 rfl Try.ntmps37 rfl ?_
  refine C_seq ?_
  refine C_region ?_
  refine V_y (Y_assign rfl) rfl rfl rfl ?_
  refine V_to (fun _ _ => rfl) ?_
  refine C_seq ?_
  refine C_region ?_
  refine V_y (Y_move rfl) rfl rfl rfl ?_
  refine V_y (Y_move rfl) rfl rfl rfl ?_
  refine V_y (Y_neq rfl rfl) rfl rfl rfl ?_
  refine V_y (Y_assign rfl) rfl rfl rfl ?_
  refine V_to (fun _ _ => rfl) ?_
  obtain rfl := hm
  refine C_ret ?_
  try simp only [↓inBlock_ret, ↓then_ret]
  exact retQ rfl (Res.one Try.results37 rfl) ⟨rfl, rfl⟩

set_option maxRecDepth 4000 in
set_option maxHeartbeats 4000000 in
theorem cmp_Compare_int_c (w : World) (x : Int) (y : Int) : Ret Try.prog 21 #[.int .i64 x, .int .i64 y] w fun v w' => v = .int .i64 (cmp_Compare_int x y) ∧ w = w' := by
  generalize hm : cmp_Compare_int x y = r
  unfold cmp_Compare_int at hm
  refine enter Try.func21 rfl Try.ntmps21 rfl ?_
  refine C_seq ?_
  refine C_region ?_
  refine V_y (Y_assign rfl) rfl rfl rfl ?_
  refine V_to (fun _ _ => rfl) ?_
  refine C_seq ?_
  refine C_region ?_
  refine V_y (Y_move rfl) rfl rfl rfl ?_
  refine V_call Try.call37 rfl rfl rfl rfl (cmp_isNaN_int_c w x) ?_
  rintro _ _ ⟨rfl, rfl⟩
  refine V_y (Y_assign rfl) rfl rfl rfl ?_
  refine V_to (fun _ _ => rfl) ?_
  refine C_seq ?_
  refine C_region ?_
  refine V_y (Y_move rfl) rfl rfl rfl ?_
  refine V_call Try.call37 rfl rfl rfl rfl (cmp_isNaN_int_c w y) ?_
  rintro _ _ ⟨rfl, rfl⟩
  refine V_y (Y_assign rfl) rfl rfl rfl ?_
  refine V_to (fun _ _ => rfl) ?_
  refine C_seq ?_
  refine C_seq ?_
  refine C_region ?_
  refine V_y (Y_move rfl) rfl rfl rfl ?_
  refine V_to (fun _ _ => rfl) ?_
  refine C_cond rfl (fun hc1 => ?_) (fun hc1 => ?_)
  · rw [if_pos hc1] at hm
    refine C_seq ?_
    refine C_seq ?_
    refine C_region ?_
    refine V_y (Y_move rfl) rfl rfl rfl ?_
    refine V_to (fun _ _ => rfl) ?_
    refine C_cond rfl (fun hc2 => ?_) (fun hc2 => ?_)
    · rw [if_pos hc2] at hm
      refine C_seq ?_
      refine C_region ?_
      refine V_y (Y_assign rfl) rfl rfl rfl ?_
      refine V_to (fun _ _ => rfl) ?_
      obtain rfl := hm
      refine C_ret ?_
      try simp only [↓inBlock_ret, ↓then_ret]
      exact retQ rfl (Res.one Try.results21 rfl) ⟨rfl, rfl⟩
    · rw [if_neg (nt hc2)] at hm
      refine C_skip_to (fun _ _ => rfl) ?_
      refine C_seq ?_
      refine C_region ?_
      refine V_y (Y_assign rfl) rfl rfl rfl ?_
      refine V_to (fun _ _ => rfl) ?_
      obtain rfl := hm
      refine C_ret ?_
      try simp only [↓inBlock_ret, ↓then_ret]
      exact retQ rfl (Res.one Try.results21 rfl) ⟨rfl, rfl⟩
  · rw [if_neg (nt hc1)] at hm
    refine C_skip_to (fun _ _ => rfl) ?_
    refine C_seq ?_
    refine C_seq ?_
    refine C_region ?_
    refine V_y (Y_move rfl) rfl rfl rfl ?_
    refine V_to (fun _ _ => rfl) ?_
    refine C_cond rfl (fun hc3 => ?_) (fun hc3 => ?_)
    · rw [if_pos hc3] at hm
      refine C_seq ?_
      refine C_region ?_
      refine V_y (Y_assign rfl) rfl rfl rfl ?_
      refine V_to (fun _ _ => rfl) ?_
      obtain rfl := hm
      refine C_ret ?_
      try simp only [↓inBlock_ret, ↓then_ret]
      exact retQ rfl (Res.one Try.results21 rfl) ⟨rfl, rfl⟩
    · rw [if_neg (nt hc3)] at hm
      refine C_skip_to (fun _ _ => rfl) ?_
      refine C_seq ?_
      refine C_seq ?_
      refine C_region ?_
      refine V_y (Y_move rfl) rfl rfl rfl ?_
      refine V_y (Y_move rfl) rfl rfl rfl ?_
      refine V_y (Y_lss rfl rfl) rfl rfl rfl ?_
      refine V_to (fun _ _ => rfl) ?_
      refine C_cond rfl (fun hc4 => ?_) (fun hc4 => ?_)
      · rw [if_pos hc4] at hm
        refine C_seq ?_
        refine C_region ?_
        refine V_y (Y_assign rfl) rfl rfl rfl ?_
        refine V_to (fun _ _ => rfl) ?_
        obtain rfl := hm
        refine C_ret ?_
        try simp only [↓inBlock_ret, ↓then_ret]
        exact retQ rfl (Res.one Try.results21 rfl) ⟨rfl, rfl⟩
      · rw [if_neg (nt hc4)] at hm
        refine C_skip_to (fun _ _ => rfl) ?_
        refine C_seq ?_
        refine C_seq ?_
        refine C_region ?_
        refine V_y (Y_move rfl) rfl rfl rfl ?_
        refine V_y (Y_move rfl) rfl rfl rfl ?_
        refine V_y (Y_gtr rfl rfl) rfl rfl rfl ?_
        refine V_to (fun _ _ => rfl) ?_
        refine C_cond rfl (fun hc5 => ?_) (fun hc5 => ?_)
        · rw [if_pos hc5] at hm
          refine C_seq ?_
          refine C_region ?_
          refine V_y (Y_assign rfl) rfl rfl rfl ?_
          refine V_to (fun _ _ => rfl) ?_
          obtain rfl := hm
          refine C_ret ?_
          try simp only [↓inBlock_ret, ↓then_ret]
          exact retQ rfl (Res.one Try.results21 rfl) ⟨rfl, rfl⟩
        · rw [if_neg (nt hc5)] at hm
          refine C_skip_to (fun _ _ => rfl) ?_
          refine C_seq ?_
          refine C_region ?_
          refine V_y (Y_assign rfl) rfl rfl rfl ?_
          refine V_to (fun _ _ => rfl) ?_
          obtain rfl := hm
          refine C_ret ?_
          try simp only [↓inBlock_ret, ↓then_ret]
          exact retQ rfl (Res.one Try.results21 rfl) ⟨rfl, rfl⟩

set_option maxRecDepth 4000 in
set_option maxHeartbeats 4000000 in
theorem cmp_Or_int_c (w : World) {A : Nat → Prop} (vals : (List Int)) (v_vals : Value) (h_vals : Sl A w v_vals vals) {r : Int} (hm : cmp_Or_int vals = some r) : Ret Try.prog 20 #[v_vals] w fun v w' => v = .int .i64 r ∧ w = w' := by
  unfold cmp_Or_int at hm
  refine enter Try.func20 rfl Try.ntmps20 rfl ?_
  refine C_seq ?_
  refine C_region ?_
  refine V_y (Y_assign rfl) rfl rfl rfl ?_
  refine V_to (fun _ _ => rfl) ?_
  refine C_seq ?_
  refine C_region ?_
  refine V_y (Y_assign rfl) rfl rfl rfl ?_
  refine V_to (fun _ _ => rfl) ?_
  refine C_seq ?_
  refine C_seq ?_
  refine C_region ?_
  refine V_y (Y_move rfl) rfl rfl rfl ?_
  refine V_y (Y_lenSl h_vals rfl Try.underlying45 rfl) rfl rfl rfl ?_
  refine V_y (Y_move rfl) rfl rfl rfl ?_
  refine V_to (fun _ _ => rfl) ?_
  have hn19 := Sl.le h_vals
  obtain ⟨o3, ho3, hm⟩ := Option.bind_eq_some_iff.1 hm
  refine C_cutG (ι := Unit) (fun (s4 : Unit) => [(3, .int .i64 0)]) (fun (s4 : Unit) => fun w' => o3 = .fin s4 ∧ w = w') ?_ ?_
  · refine C_block ?_
    refine C_range ho3 (fun k6 _ a w' => ∃ i : Unit, Has ⟨18, [], none⟩ a ([(3, .int .i64 0), (6, v_vals), (7, .int .i64 (vals.length : Int)), (8, .int .i64 (k6 : Int))]) ∧ w = w') (fun a ha => ⟨(), ha.sub ⟨rfl, rfl, rfl, rfl, trivial⟩, rfl⟩) ?_
    rintro K k6 _ a _ ⟨_, ha28, rfl⟩ hle15 K18 h17
    refine C_of ?_ ha28
    refine C_seq (C_region (V_y (Y_lss rfl rfl) rfl rfl rfl (V_to (fun _ _ => rfl) ?_)))
    refine C_seq ?_
    refine C_cond rfl (fun hc20 => ?_) (fun hc20 => ?_)
    · have hlt16 := lt_of_dec hc20
      obtain ⟨x12, h13, h14⟩ := K18 hlt16
      refine C_skip_to (fun _ _ => rfl) ?_
      refine C_seq ?_
      refine C_block ?_
      refine C_seq ?_
      refine C_region ?_
      obtain ⟨x21, hx21, h13⟩ := Option.bind_eq_some_iff.1 h13
      refine V_indexAddr h_vals hx21 Try.underlying45 Try.sizeOf3 rfl rfl rfl ?_
      intro b22 o23 h24
      refine V_y (Y_load (El.int h24) Try.isAgg3 rfl) rfl rfl rfl ?_
      refine V_y (Y_assign rfl) rfl rfl rfl ?_
      refine V_to (fun _ _ => rfl) ?_
      refine C_seq ?_
      refine C_region ?_
      refine V_y (Y_move rfl) rfl rfl rfl ?_
      refine V_y (Y_move rfl) rfl rfl rfl ?_
      refine V_y (Y_neq rfl rfl) rfl rfl rfl ?_
      refine V_to (fun _ _ => rfl) ?_
      refine C_cond rfl (fun hc25 => ?_) (fun hc25 => ?_)
      · rw [if_pos hc25] at h13
        refine C_seq ?_
        refine C_region ?_
        refine V_y (Y_move rfl) rfl rfl rfl ?_
        refine V_y (Y_assign rfl) rfl rfl rfl ?_
        refine V_to (fun _ _ => rfl) ?_
        obtain rfl := Option.some.inj h13
        obtain rfl := (h14 : Lp.rt _ = _)
        rw [Lp.andThen_rt] at hm
        obtain rfl := Option.some.inj hm
        refine C_ret ?_
        try simp only [↓inBlock_ret, ↓then_ret]
        exact retQ rfl (Res.one Try.results20 rfl) ⟨rfl, rfl⟩
      · rw [if_neg (nt hc25)] at h13
        refine C_skip_to (fun _ _ => rfl) ?_
        refine C_region ?_
        refine V_y (Y_addI rfl rfl) rfl rfl rfl ?_
        refine V_y (Y_move rfl) rfl rfl rfl ?_
        obtain rfl := Option.some.inj h13
        refine V_end (fun a ha26 => ?_)
        exact ⟨(), hlt16, h14, ⟨(), ha26.sub ⟨rfl, rfl, rfl, (congrArg (fun z => some (Value.int .i64 z)) (w64_succ hlt16 hn19)), trivial⟩, rfl⟩⟩
    · refine C_exit (fun a ha27 => ?_)
      exact ⟨(), ha27.sub ⟨rfl, trivial⟩, ⟨(h17 (eq_of_dec hle15 hc20)).symm, rfl⟩⟩
  rintro s4 _ ⟨rfl, rfl⟩ a ha9
  rw [Lp.andThen_fin] at hm
  refine C_at (n := ⟨18, [], none⟩) (fun _ _ => rfl) ?_ ha9
  refine C_seq ?_
  refine C_region ?_
  refine V_y (Y_move rfl) rfl rfl rfl ?_
  refine V_y (Y_assign rfl) rfl rfl rfl ?_
  refine V_to (fun _ _ => rfl) ?_
  obtain rfl := Option.some.inj hm
  refine C_ret ?_
  try simp only [↓inBlock_ret, ↓then_ret]
  exact retQ rfl (Res.one Try.results20 rfl) ⟨rfl, rfl⟩

set_option maxRecDepth 4000 in
set_option maxHeartbeats 4000000 in
theorem staff_CheckForms_c (w : World) {A : Nat → Prop} (hA : ∀ b, w.heap.size ≤ b → A b) (l : (List staff_Form)) (v_l : Value) (h_l : Sl A w v_l l) {r : Int} (hm : staff_CheckForms l = some r) : Ret Try.prog 14 #[v_l] w fun v w' => v = .int .i64 r ∧ Kp Dw w w' := by
  unfold staff_CheckForms at hm
  refine enter Try.func14 rfl Try.ntmps14 rfl ?_
  have hA0 := hA
  have hB := Nat.le_refl w.heap.size
  have hK : Tr Dw w.heap.size A w A w := Tr.refl (Dw := Dw) hA
  have hH : Hp w.heap.size A w [] := Hp.nil
  refine C_seq ?_
  refine C_region ?_
  refine V_y (Y_assign rfl) rfl rfl rfl ?_
  refine V_to (fun _ _ => rfl) ?_
  refine C_seq ?_
  refine C_seq ?_
  refine C_region ?_
  refine V_y (Y_move rfl) rfl rfl rfl ?_
  refine V_y (Y_lenSl h_l rfl Try.underlying22 rfl) rfl rfl rfl ?_
  refine V_y (Y_gtr rfl rfl) rfl rfl rfl ?_
  refine V_to (fun _ _ => rfl) ?_
  refine C_cond rfl (fun hc3 => ?_) (fun hc3 => ?_)
  · rw [if_pos hc3] at hm
    refine C_seq ?_
    refine C_region ?_
    refine V_y (Y_assign rfl) rfl rfl rfl ?_
    refine V_to (fun _ _ => rfl) ?_
    obtain rfl := Option.some.inj hm
    refine C_ret ?_
    try simp only [↓inBlock_ret, ↓then_ret]
    exact retQ rfl (Res.one Try.results14 rfl) ⟨rfl, hK.kp⟩
  · rw [if_neg (nt hc3)] at hm
    refine C_skip_to (fun _ _ => rfl) ?_
    refine C_seq ?_
    refine C_seq ?_
    refine C_region ?_
    refine V_y (Y_move rfl) rfl rfl rfl ?_
    refine V_y (Y_lenSl h_l rfl Try.underlying22 rfl) rfl rfl rfl ?_
    refine V_y (Y_move rfl) rfl rfl rfl ?_
    refine V_to (fun _ _ => rfl) ?_
    have hn25 := Sl.le h_l
    obtain ⟨o4, ho4, hm⟩ := Option.bind_eq_some_iff.1 hm
    refine C_cutG (ι := (Unit × (Nat → Prop))) (fun ⟨s5, A12⟩ => []) (fun ⟨s5, A12⟩ => fun w' => o4 = .fin s5 ∧ Hp w.heap.size A12 w' ([]) ∧ Tr Dw w.heap.size A w A12 w') ?_ ?_
    · refine C_block ?_
      refine C_range ho4 (fun k7 _ a w' => ∃ i : (Nat → Prop), Has ⟨54, [], none⟩ a ([(0, v_l), (8, v_l), (9, .int .i64 (l.length : Int)), (10, .int .i64 (k7 : Int))]) ∧ Hp w.heap.size i w' ([]) ∧ Tr Dw w.heap.size A w i w') (fun a ha => ⟨A, ha.sub ⟨rfl, rfl, rfl, rfl, trivial⟩, ⟨hH, Tr.refl (Dw := Dw) hA⟩⟩) ?_
      rintro K k7 _ a w15 ⟨A16, ha85, hH17, hr6⟩ hle21 K24 h23
      refine C_of ?_ ha85
      replace h_l := Sl.tr (Dw := Dw) h_l hr6
      replace hK := Tr.trans (Dw := Dw) hK hr6
      replace hB := Nat.le_trans hB hr6.ex.size
      replace hA := hr6.new
      replace hH : Hp w.heap.size A16 w15 ([]) := hH17
      refine C_seq (C_region (V_y (Y_lss rfl rfl) rfl rfl rfl (V_to (fun _ _ => rfl) ?_)))
      refine C_seq ?_
      refine C_cond rfl (fun hc26 => ?_) (fun hc26 => ?_)
      · have hlt22 := lt_of_dec hc26
        obtain ⟨x18, h19, h20⟩ := K24 hlt22
        refine C_skip_to (fun _ _ => rfl) ?_
        refine C_seq ?_
        refine C_block ?_
        refine C_seq ?_
        refine C_region ?_
        refine V_y (Y_move rfl) rfl rfl rfl ?_
        obtain ⟨x27, hx27, h19⟩ := Option.bind_eq_some_iff.1 h19
        refine V_indexAddr h_l hx27 Try.underlying22 Try.sizeOf53 rfl rfl rfl ?_
        intro b28 o29 h30
        obtain ⟨h31, _⟩ := El_staff_Form h30
        refine V_y (Y_loadA h31 Try.isAgg53 Try.sizeOf53 rfl) rfl rfl rfl ?_
        refine V_alloc Try.zeroValue53 rfl ?_
        intro b32 w33 h34
        refine V_y (Y_assign rfl) rfl rfl rfl ?_
        refine V_storeNew h34 Try.sizeOf53 rfl rfl rfl rfl (by exact (List.forall_mem_cons.2 ⟨rfl, (List.forall_mem_cons.2 ⟨rfl, (fun _ h => nomatch h)⟩)⟩)) ?_
        intro w35 h36
        have hk38 := h36.kp (Dw := Dw)
        have h37 : El (α := staff_Form) A16 w35 b32 0 x27 := h36.el hA ⟨[.int .i64 x27.from_], _, rfl, rfl, rfl⟩
        have ht39 := Kp.tr (Dw := Dw) hk38 hA hB
        replace hH := Hp.kp (Dw := Dw) hH hk38
        replace h_l := Sl.tr (Dw := Dw) h_l ht39
        replace h30 := El.tr (Dw := Dw) h30 ht39
        replace hK := Tr.trans (Dw := Dw) hK ht39
        replace hr6 := Tr.trans (Dw := Dw) hr6 ht39
        replace hB := Nat.le_trans hB ht39.ex.size
        replace hA := ht39.new
        refine V_to (fun _ _ => rfl) ?_
        refine C_seq ?_
        refine C_seq ?_
        refine C_region ?_
        have h40 := El_staff_Form_0 h37
        refine V_y (Y_fieldAddr Try.underlying53 rfl Try.sizeOf3 (by decide) rfl) rfl rfl rfl ?_
        refine V_y (Y_load (El.int h40) Try.isAgg3 rfl) rfl rfl rfl ?_
        refine V_call Try.call16 rfl rfl rfl rfl (staff_within_c w35 x27.from_ 0 399) ?_
        rintro _ _ ⟨rfl, rfl⟩
        refine V_y (Y_not rfl) rfl rfl rfl ?_
        refine V_y (Y_move rfl) rfl rfl rfl ?_
        refine V_cut 8 (fun _ : Unit => [(0, v_l), (3, .int .i64 (k7 : Int)), (4, .pointer (some ⟨b32, 0, none⟩)), (8, v_l), (9, .int .i64 (l.length : Int)), (10, .int .i64 (k7 : Int)), (27, .bool ((!(staff_within x27.from_ 0 399)) || (!(staff_within x27.slots 1 (w64 (400 - x27.from_))))))]) (fun _ w' => w35 = w') ?_ ?_
        · simp only [List.take, List.drop]
          rcases Bool.eq_false_or_eq_true (!(staff_within x27.from_ 0 399)) with hc41 | hc41
          · refine V_gn rfl rfl rfl hc41 rfl rfl rfl ?_
            refine V_gn rfl rfl rfl hc41 rfl rfl rfl ?_
            refine V_gn rfl rfl rfl hc41 rfl rfl rfl ?_
            refine V_gn rfl rfl rfl hc41 rfl rfl rfl ?_
            refine V_gn rfl rfl rfl hc41 rfl rfl rfl ?_
            refine V_gn rfl rfl rfl hc41 rfl rfl rfl ?_
            refine V_gn rfl rfl rfl hc41 rfl rfl rfl ?_
            refine V_y (Y_pick_te rfl hc41 rfl) rfl rfl rfl ?_
            exact V_end fun a ha => ⟨(), ha.sub ⟨rfl, rfl, rfl, rfl, rfl, rfl, (by rw [hc41]; rfl), trivial⟩, rfl⟩
          · refine V_ge rfl rfl rfl hc41 ?_
            have h43 := El_staff_Form_1 h37
            refine V_y (Y_fieldAddr Try.underlying53 rfl Try.sizeOf3 (by decide) rfl) rfl rfl rfl ?_
            refine V_ge rfl rfl rfl hc41 ?_
            refine V_y (Y_load (El.int h43) Try.isAgg3 rfl) rfl rfl rfl ?_
            refine V_ge rfl rfl rfl hc41 ?_
            have h44 := El_staff_Form_0 h37
            refine V_y (Y_fieldAddr Try.underlying53 rfl Try.sizeOf3 (by decide) rfl) rfl rfl rfl ?_
            refine V_ge rfl rfl rfl hc41 ?_
            refine V_y (Y_load (El.int h44) Try.isAgg3 rfl) rfl rfl rfl ?_
            refine V_ge rfl rfl rfl hc41 ?_
            refine V_y (Y_subI rfl rfl) rfl rfl rfl ?_
            refine V_ge rfl rfl rfl hc41 ?_
            refine V_call Try.call16 rfl rfl rfl rfl (staff_within_c w35 x27.slots 1 (w64 (400 - x27.from_))) ?_
            rintro _ _ ⟨rfl, rfl⟩
            refine V_ge rfl rfl rfl hc41 ?_
            refine V_y (Y_not rfl) rfl rfl rfl ?_
            refine V_y (Y_pick_fe rfl hc41 rfl) rfl rfl rfl ?_
            exact V_end fun a ha => ⟨(), ha.sub ⟨rfl, rfl, rfl, rfl, rfl, rfl, (by rw [hc41]; rfl), trivial⟩, rfl⟩
        simp only [List.take, List.drop]
        rintro _ _ rfl
        refine V_to (fun _ _ => rfl) ?_
        refine C_cond rfl (fun hc45 => ?_) (fun hc45 => ?_)
        · rw [if_pos hc45] at h19
          refine C_seq ?_
          refine C_region ?_
          refine V_y (Y_assign rfl) rfl rfl rfl ?_
          refine V_to (fun _ _ => rfl) ?_
          obtain rfl := Option.some.inj h19
          obtain rfl := (h20 : Lp.rt _ = _)
          rw [Lp.andThen_rt] at hm
          obtain rfl := Option.some.inj hm
          refine C_ret ?_
          try simp only [↓inBlock_ret, ↓then_ret]
          exact retQ rfl (Res.one Try.results14 rfl) ⟨rfl, hK.kp⟩
        · rw [if_neg (nt hc45)] at h19
          refine C_skip_to (fun _ _ => rfl) ?_
          refine C_seq ?_
          obtain ⟨s47, ho46, h19⟩ := Option.bind_eq_some_iff.1 h19
          refine C_cutG (ι := (Nat → Prop)) (fun (A52 : (Nat → Prop)) => [(0, v_l), (8, v_l), (9, .int .i64 (l.length : Int)), (10, .int .i64 (k7 : Int)), (52, .bool s47)]) (fun (A52 : (Nat → Prop)) => fun w' => Hp w.heap.size A52 w' ([]) ∧ Tr Dw w.heap.size A16 w35 A52 w') ?_ ?_
          · have hr48 : Tr Dw w.heap.size A16 w35 A16 w35 := Tr.refl (Dw := Dw) hA
            refine C_region_qt (Dw := Dw) 21 Try_mixed (by kernel_rfl) ?_
            simp only [List.take, List.drop]
            refine VQ_y (fun w' hw' => Y_move rfl) rfl rfl rfl ?_
            refine VQ_y (fun w' hw' => Y_gtr rfl rfl) rfl rfl rfl ?_
            refine VQ_y (fun w' hw' => Y_move rfl) rfl rfl rfl ?_
            rcases Bool.eq_false_or_eq_true (decide ((0 : Int) < (k7 : Int))) with hc54 | hc54
            · rw [if_pos hc54] at ho46
              refine VQ_ge rfl rfl rfl hc54 ?_
              have h55 := El_staff_Form_0 h37
              refine VQ_y (fun w' hw' => Y_fieldAddr Try.underlying53 rfl Try.sizeOf3 (by decide) rfl) rfl rfl rfl ?_
              refine VQ_ge rfl rfl rfl hc54 ?_
              refine VQ_y (fun w' hw' => Y_load (El.int (El.kp (Dw := Dw) h55 hw')) Try.isAgg3 rfl) rfl rfl rfl ?_
              refine VQ_ge rfl rfl rfl hc54 ?_
              refine VQ_y (fun w' hw' => Y_move rfl) rfl rfl rfl ?_
              refine VQ_ge rfl rfl rfl hc54 ?_
              refine VQ_y (fun w' hw' => Y_move rfl) rfl rfl rfl ?_
              refine VQ_ge rfl rfl rfl hc54 ?_
              refine VQ_y (fun w' hw' => Y_subI rfl rfl) rfl rfl rfl ?_
              refine VQ_ge rfl rfl rfl hc54 ?_
              obtain ⟨x56, hx56, ho46⟩ := Option.bind_eq_some_iff.1 ho46
              refine VQ_indexAddr h_l hx56 Try.underlying22 Try.sizeOf53 rfl rfl rfl ?_
              intro b57 o58 h59
              refine VQ_ge rfl rfl rfl hc54 ?_
              have h60 := El_staff_Form_0 h59
              refine VQ_y (fun w' hw' => Y_fieldAddr Try.underlying53 rfl Try.sizeOf3 (by decide) rfl) rfl rfl rfl ?_
              refine VQ_ge rfl rfl rfl hc54 ?_
              refine VQ_y (fun w' hw' => Y_load (El.int (El.kp (Dw := Dw) h60 hw')) Try.isAgg3 rfl) rfl rfl rfl ?_
              refine VQ_ge rfl rfl rfl hc54 ?_
              refine VQ_call (.int .i64 (cmp_Compare_int x27.from_ x56.from_)) Try.call21 rfl rfl rfl rfl (fun w' hw' => (cmp_Compare_int_c w' x27.from_ x56.from_).mono (fun _ _ h => ⟨h.1, h.2 ▸ hw'⟩)) ?_
              refine VQ_ge rfl rfl rfl hc54 ?_
              have h61 := El_staff_Form_1 h37
              refine VQ_y (fun w' hw' => Y_fieldAddr Try.underlying53 rfl Try.sizeOf3 (by decide) rfl) rfl rfl rfl ?_
              refine VQ_ge rfl rfl rfl hc54 ?_
              refine VQ_y (fun w' hw' => Y_load (El.int (El.kp (Dw := Dw) h61 hw')) Try.isAgg3 rfl) rfl rfl rfl ?_
              refine VQ_ge rfl rfl rfl hc54 ?_
              refine VQ_y (fun w' hw' => Y_move rfl) rfl rfl rfl ?_
              refine VQ_ge rfl rfl rfl hc54 ?_
              refine VQ_y (fun w' hw' => Y_move rfl) rfl rfl rfl ?_
              refine VQ_ge rfl rfl rfl hc54 ?_
              refine VQ_y (fun w' hw' => Y_subI rfl rfl) rfl rfl rfl ?_
              refine VQ_ge rfl rfl rfl hc54 ?_
              refine VQ_indexAddr h_l hx56 Try.underlying22 Try.sizeOf53 rfl rfl rfl ?_
              intro b62 o63 h64
              refine VQ_ge rfl rfl rfl hc54 ?_
              have h65 := El_staff_Form_1 h64
              refine VQ_y (fun w' hw' => Y_fieldAddr Try.underlying53 rfl Try.sizeOf3 (by decide) rfl) rfl rfl rfl ?_
              refine VQ_ge rfl rfl rfl hc54 ?_
              refine VQ_y (fun w' hw' => Y_load (El.int (El.kp (Dw := Dw) h65 hw')) Try.isAgg3 rfl) rfl rfl rfl ?_
              refine VQ_ge rfl rfl rfl hc54 ?_
              refine VQ_call (.int .i64 (cmp_Compare_int x27.slots x56.slots)) Try.call21 rfl rfl rfl rfl (fun w' hw' => (cmp_Compare_int_c w' x27.slots x56.slots).mono (fun _ _ h => ⟨h.1, h.2 ▸ hw'⟩)) ?_
              refine VQ_tail (fun w66 hk67 => ?_)
              try simp only [List.take, List.drop]
              have ht68 := Kp.tr (Dw := Dw) hk67 hA hB
              replace hH := Hp.kp (Dw := Dw) hH hk67
              replace h_l := Sl.tr (Dw := Dw) h_l ht68
              replace h37 := El.tr (Dw := Dw) h37 ht68
              replace h55 := El.tr (Dw := Dw) h55 ht68
              replace h59 := El.tr (Dw := Dw) h59 ht68
              replace h60 := El.tr (Dw := Dw) h60 ht68
              replace h61 := El.tr (Dw := Dw) h61 ht68
              replace h64 := El.tr (Dw := Dw) h64 ht68
              replace h65 := El.tr (Dw := Dw) h65 ht68
              replace hK := Tr.trans (Dw := Dw) hK ht68
              replace hr6 := Tr.trans (Dw := Dw) hr6 ht68
              replace hr48 := Tr.trans (Dw := Dw) hr48 ht68
              replace hB := Nat.le_trans hB ht68.ex.size
              replace hA := ht68.new
              refine V_ge rfl rfl rfl hc54 ?_
              refine V_buildSlice (Dw := Dw) (cells := #[.int .i64 (cmp_Compare_int x27.from_ x56.from_), .int .i64 (cmp_Compare_int x27.slots x56.slots)]) (l := ([(cmp_Compare_int x27.from_ x56.from_), (cmp_Compare_int x27.slots x56.slots)] : List Int)) (len := 2) Try.underlying45 Try.sizeOf3 Try.zeroValue3 rfl (by generalize ((cmp_Compare_int x27.from_ x56.from_) : Int) = z73; generalize ((cmp_Compare_int x27.slots x56.slots) : Int) = z74; kernel_rfl) (show (2 * 1 : Nat) ≠ 0 by decide) (show (2 * 1 : Nat) ≤ 2 ^ 24 by decide) hA ⟨[.int .i64 (cmp_Compare_int x27.from_ x56.from_)], _, rfl, rfl, ⟨[.int .i64 (cmp_Compare_int x27.slots x56.slots)], _, rfl, rfl, rfl⟩⟩ rfl rfl ?_
              intro v69 w70 hk72 h71
              have ht75 := Kp.tr (Dw := Dw) hk72 hA hB
              replace hH := Hp.kp (Dw := Dw) hH hk72
              replace h_l := Sl.tr (Dw := Dw) h_l ht75
              replace h37 := El.tr (Dw := Dw) h37 ht75
              replace h55 := El.tr (Dw := Dw) h55 ht75
              replace h59 := El.tr (Dw := Dw) h59 ht75
              replace h60 := El.tr (Dw := Dw) h60 ht75
              replace h61 := El.tr (Dw := Dw) h61 ht75
              replace h64 := El.tr (Dw := Dw) h64 ht75
              replace h65 := El.tr (Dw := Dw) h65 ht75
              replace hK := Tr.trans (Dw := Dw) hK ht75
              replace hr6 := Tr.trans (Dw := Dw) hr6 ht75
              replace hr48 := Tr.trans (Dw := Dw) hr48 ht75
              replace hB := Nat.le_trans hB ht75.ex.size
              replace hA := ht75.new
              refine V_ge rfl rfl rfl hc54 ?_
              obtain ⟨x76, hx76, ho46⟩ := Option.bind_eq_some_iff.1 ho46
              refine V_call Try.call20 rfl rfl rfl rfl (cmp_Or_int_c w70 ([(cmp_Compare_int x27.from_ x56.from_), (cmp_Compare_int x27.slots x56.slots)] : List Int) v69 h71 hx76) ?_
              rintro _ _ ⟨rfl, rfl⟩
              refine V_ge rfl rfl rfl hc54 ?_
              refine V_y (Y_leq rfl rfl) rfl rfl rfl ?_
              refine V_y (Y_pick_te rfl hc54 rfl) rfl rfl rfl ?_
              obtain rfl := Option.some.inj ho46
              refine V_end (fun a ha77 => ?_)
              exact ⟨A16, ha77.sub ⟨rfl, rfl, rfl, rfl, rfl, trivial⟩, ⟨hH, hr48⟩⟩
            · rw [if_neg (nt hc54)] at ho46
              refine VQ_gn rfl rfl rfl hc54 rfl rfl rfl ?_
              refine VQ_gn rfl rfl rfl hc54 rfl rfl rfl ?_
              refine VQ_gn rfl rfl rfl hc54 rfl rfl rfl ?_
              refine VQ_gn rfl rfl rfl hc54 rfl rfl rfl ?_
              refine VQ_gn rfl rfl rfl hc54 rfl rfl rfl ?_
              refine VQ_gn rfl rfl rfl hc54 rfl rfl rfl ?_
              refine VQ_gn rfl rfl rfl hc54 rfl rfl rfl ?_
              refine VQ_gn rfl rfl rfl hc54 rfl rfl rfl ?_
              refine VQ_gn rfl rfl rfl hc54 rfl rfl rfl ?_
              refine VQ_gn rfl rfl rfl hc54 rfl rfl rfl ?_
              refine VQ_gn rfl rfl rfl hc54 rfl rfl rfl ?_
              refine VQ_gn rfl rfl rfl hc54 rfl rfl rfl ?_
              refine VQ_gn rfl rfl rfl hc54 rfl rfl rfl ?_
              refine VQ_gn rfl rfl rfl hc54 rfl rfl rfl ?_
              refine VQ_gn rfl rfl rfl hc54 rfl rfl rfl ?_
              refine VQ_gn rfl rfl rfl hc54 rfl rfl rfl ?_
              refine VQ_gn rfl rfl rfl hc54 rfl rfl rfl ?_
              refine VQ_gn rfl rfl rfl hc54 rfl rfl rfl ?_
              refine VQ_tail (fun w78 hk79 => ?_)
              try simp only [List.take, List.drop]
              have ht80 := Kp.tr (Dw := Dw) hk79 hA hB
              replace hH := Hp.kp (Dw := Dw) hH hk79
              replace h_l := Sl.tr (Dw := Dw) h_l ht80
              replace h37 := El.tr (Dw := Dw) h37 ht80
              replace hK := Tr.trans (Dw := Dw) hK ht80
              replace hr6 := Tr.trans (Dw := Dw) hr6 ht80
              replace hr48 := Tr.trans (Dw := Dw) hr48 ht80
              replace hB := Nat.le_trans hB ht80.ex.size
              replace hA := ht80.new
              refine V_gn rfl rfl rfl hc54 rfl rfl rfl ?_
              refine V_gn rfl rfl rfl hc54 rfl rfl rfl ?_
              refine V_gn rfl rfl rfl hc54 rfl rfl rfl ?_
              refine V_y (Y_pick_fe rfl hc54 rfl) rfl rfl rfl ?_
              obtain rfl := Option.some.inj ho46
              refine V_end (fun a ha81 => ?_)
              exact ⟨A16, ha81.sub ⟨rfl, rfl, rfl, rfl, rfl, trivial⟩, ⟨hH, hr48⟩⟩
          rintro A52 w49 ⟨hH53, hk50⟩ a ha51
          replace h_l := Sl.tr (Dw := Dw) h_l hk50
          replace hK := Tr.trans (Dw := Dw) hK hk50
          replace hr6 := Tr.trans (Dw := Dw) hr6 hk50
          replace hB := Nat.le_trans hB hk50.ex.size
          replace hA := hk50.new
          replace hH : Hp w.heap.size A52 w49 ([]) := hH53
          refine C_at (n := ⟨54, [], none⟩) (fun _ _ => rfl) ?_ ha51
          refine C_cond rfl (fun hc82 => ?_) (fun hc82 => ?_)
          · rw [if_pos hc82] at h19
            refine C_seq ?_
            refine C_region ?_
            refine V_y (Y_assign rfl) rfl rfl rfl ?_
            refine V_to (fun _ _ => rfl) ?_
            obtain rfl := Option.some.inj h19
            obtain rfl := (h20 : Lp.rt _ = _)
            rw [Lp.andThen_rt] at hm
            obtain rfl := Option.some.inj hm
            refine C_ret ?_
            try simp only [↓inBlock_ret, ↓then_ret]
            exact retQ rfl (Res.one Try.results14 rfl) ⟨rfl, hK.kp⟩
          · rw [if_neg (nt hc82)] at h19
            refine C_skip_to (fun _ _ => rfl) ?_
            refine C_region ?_
            refine V_y (Y_addI rfl rfl) rfl rfl rfl ?_
            refine V_y (Y_move rfl) rfl rfl rfl ?_
            obtain rfl := Option.some.inj h19
            refine V_end (fun a ha83 => ?_)
            exact ⟨(), hlt22, h20, ⟨A52, ha83.sub ⟨rfl, rfl, rfl, (congrArg (fun z => some (Value.int .i64 z)) (w64_succ hlt22 hn25)), trivial⟩, ⟨hH, hr6⟩⟩⟩
      · refine C_exit (fun a ha84 => ?_)
        exact ⟨((), A16), ha84.sub trivial, ⟨(h23 (eq_of_dec hle21 hc26)).symm, hH, hr6⟩⟩
    rintro ⟨s5, A12⟩ w9 ⟨rfl, hH13, hk10⟩ a ha11
    rw [Lp.andThen_fin] at hm
    replace hK := Tr.trans (Dw := Dw) hK hk10
    replace hB := Nat.le_trans hB hk10.ex.size
    replace hA := hk10.new
    replace hH : Hp w.heap.size A12 w9 ([]) := hH13
    refine C_at (n := ⟨54, [], none⟩) (fun _ _ => rfl) ?_ ha11
    refine C_seq ?_
    refine C_region ?_
    refine V_y (Y_assign rfl) rfl rfl rfl ?_
    refine V_to (fun _ _ => rfl) ?_
    obtain rfl := Option.some.inj hm
    refine C_ret ?_
    try simp only [↓inBlock_ret, ↓then_ret]
    exact retQ rfl (Res.one Try.results14 rfl) ⟨rfl, hK.kp⟩

set_option maxRecDepth 4000 in
set_option maxHeartbeats 4000000 in
theorem staff_CheckRules_c (w : World) {A : Nat → Prop} (hA : ∀ b, w.heap.size ≤ b → A b) (r_ : staff_Rules) {r : Int} (hm : staff_CheckRules r_ = some r) : Ret Try.prog 15 #[.agg #[.int .i64 r_.people, .int .i64 r_.rest_, .int .i64 r_.most]] w fun v w' => v = .int .i64 r ∧ Kp Dw w w' := by
  unfold staff_CheckRules at hm
  refine enter Try.func15 rfl Try.ntmps15 rfl ?_
  have hA0 := hA
  have hB := Nat.le_refl w.heap.size
  have hK : Tr Dw w.heap.size A w A w := Tr.refl (Dw := Dw) hA
  have hH : Hp w.heap.size A w [] := Hp.nil
  refine C_seq ?_
  refine C_region ?_
  refine V_box rfl rfl ?_
  intro b1 w2 h3
  have hk5 := h3.kp (Dw := Dw)
  have h4 : El (α := staff_Rules) A w2 b1 0 r_ := h3.el hA ⟨[.int .i64 r_.people], _, rfl, rfl, ⟨[.int .i64 r_.rest_], _, rfl, rfl, rfl⟩⟩
  have ht6 := Kp.tr (Dw := Dw) hk5 hA hB
  replace hH := Hp.kp (Dw := Dw) hH hk5
  replace hK := Tr.trans (Dw := Dw) hK ht6
  replace hB := Nat.le_trans hB ht6.ex.size
  replace hA := ht6.new
  refine V_y (Y_assign rfl) rfl rfl rfl ?_
  refine V_to (fun _ _ => rfl) ?_
  refine C_seq ?_
  refine C_seq ?_
  refine C_region ?_
  have h7 := El_staff_Rules_0 h4
  refine V_y (Y_fieldAddr Try.underlying24 rfl Try.sizeOf3 (by decide) rfl) rfl rfl rfl ?_
  refine V_y (Y_load (El.int h7) Try.isAgg3 rfl) rfl rfl rfl ?_
  refine V_call Try.call16 rfl rfl rfl rfl (staff_within_c w2 r_.people 0 60) ?_
  rintro _ _ ⟨rfl, rfl⟩
  refine V_y (Y_not rfl) rfl rfl rfl ?_
  refine V_y (Y_move rfl) rfl rfl rfl ?_
  refine V_cut 5 (fun _ : Unit => [(1, .pointer (some ⟨b1, 0, none⟩)), (12, .bool ((!(staff_within r_.people 0 60)) || (!(staff_within r_.rest_ 0 400))))]) (fun _ w' => w2 = w') ?_ ?_
  · simp only [List.take, List.drop]
    rcases Bool.eq_false_or_eq_true (!(staff_within r_.people 0 60)) with hc8 | hc8
    · refine V_gn rfl rfl rfl hc8 rfl rfl rfl ?_
      refine V_gn rfl rfl rfl hc8 rfl rfl rfl ?_
      refine V_gn rfl rfl rfl hc8 rfl rfl rfl ?_
      refine V_gn rfl rfl rfl hc8 rfl rfl rfl ?_
      refine V_y (Y_pick_te rfl hc8 rfl) rfl rfl rfl ?_
      exact V_end fun a ha => ⟨(), ha.sub ⟨rfl, (by rw [hc8]; rfl), trivial⟩, rfl⟩
    · refine V_ge rfl rfl rfl hc8 ?_
      have h10 := El_staff_Rules_1 h4
      refine V_y (Y_fieldAddr Try.underlying24 rfl Try.sizeOf3 (by decide) rfl) rfl rfl rfl ?_
      refine V_ge rfl rfl rfl hc8 ?_
      refine V_y (Y_load (El.int h10) Try.isAgg3 rfl) rfl rfl rfl ?_
      refine V_ge rfl rfl rfl hc8 ?_
      refine V_call Try.call16 rfl rfl rfl rfl (staff_within_c w2 r_.rest_ 0 400) ?_
      rintro _ _ ⟨rfl, rfl⟩
      refine V_ge rfl rfl rfl hc8 ?_
      refine V_y (Y_not rfl) rfl rfl rfl ?_
      refine V_y (Y_pick_fe rfl hc8 rfl) rfl rfl rfl ?_
      exact V_end fun a ha => ⟨(), ha.sub ⟨rfl, (by rw [hc8]; rfl), trivial⟩, rfl⟩
  simp only [List.take, List.drop]
  rintro _ _ rfl
  refine V_y (Y_move rfl) rfl rfl rfl ?_
  refine V_cut 5 (fun _ : Unit => [(18, .bool (((!(staff_within r_.people 0 60)) || (!(staff_within r_.rest_ 0 400))) || (!(staff_within r_.most 0 400))))]) (fun _ w' => w2 = w') ?_ ?_
  · simp only [List.take, List.drop]
    rcases Bool.eq_false_or_eq_true (((!(staff_within r_.people 0 60)) || (!(staff_within r_.rest_ 0 400)))) with hc11 | hc11
    · refine V_gn rfl rfl rfl hc11 rfl rfl rfl ?_
      refine V_gn rfl rfl rfl hc11 rfl rfl rfl ?_
      refine V_gn rfl rfl rfl hc11 rfl rfl rfl ?_
      refine V_gn rfl rfl rfl hc11 rfl rfl rfl ?_
      refine V_y (Y_pick_te rfl hc11 rfl) rfl rfl rfl ?_
      exact V_end fun a ha => ⟨(), ha.sub ⟨(by rw [hc11]; rfl), trivial⟩, rfl⟩
    · refine V_ge rfl rfl rfl hc11 ?_
      have h13 := El_staff_Rules_2 h4
      refine V_y (Y_fieldAddr Try.underlying24 rfl Try.sizeOf3 (by decide) rfl) rfl rfl rfl ?_
      refine V_ge rfl rfl rfl hc11 ?_
      refine V_y (Y_load (El.int h13) Try.isAgg3 rfl) rfl rfl rfl ?_
      refine V_ge rfl rfl rfl hc11 ?_
      refine V_call Try.call16 rfl rfl rfl rfl (staff_within_c w2 r_.most 0 400) ?_
      rintro _ _ ⟨rfl, rfl⟩
      refine V_ge rfl rfl rfl hc11 ?_
      refine V_y (Y_not rfl) rfl rfl rfl ?_
      refine V_y (Y_pick_fe rfl hc11 rfl) rfl rfl rfl ?_
      exact V_end fun a ha => ⟨(), ha.sub ⟨(by rw [hc11]; rfl), trivial⟩, rfl⟩
  simp only [List.take, List.drop]
  rintro _ _ rfl
  refine V_to (fun _ _ => rfl) ?_
  refine C_cond rfl (fun hc14 => ?_) (fun hc14 => ?_)
  · rw [if_pos hc14] at hm
    refine C_seq ?_
    refine C_region ?_
    refine V_y (Y_assign rfl) rfl rfl rfl ?_
    refine V_to (fun _ _ => rfl) ?_
    obtain rfl := Option.some.inj hm
    refine C_ret ?_
    try simp only [↓inBlock_ret, ↓then_ret]
    exact retQ rfl (Res.one Try.results15 rfl) ⟨rfl, hK.kp⟩
  · rw [if_neg (nt hc14)] at hm
    refine C_skip_to (fun _ _ => rfl) ?_
    refine C_seq ?_
    refine C_region ?_
    refine V_y (Y_assign rfl) rfl rfl rfl ?_
    refine V_to (fun _ _ => rfl) ?_
    obtain rfl := Option.some.inj hm
    refine C_ret ?_
    try simp only [↓inBlock_ret, ↓then_ret]
    exact retQ rfl (Res.one Try.results15 rfl) ⟨rfl, hK.kp⟩

set_option maxRecDepth 4000 in
set_option maxHeartbeats 4000000 in
theorem cmp_Or_api_Errno_c (w : World) {A : Nat → Prop} (vals : (List Int)) (v_vals : Value) (h_vals : Sl A w v_vals vals) {r : Int} (hm : cmp_Or_api_Errno vals = some r) : Ret Try.prog 13 #[v_vals] w fun v w' => v = .int .i64 r ∧ w = w' := by
  unfold cmp_Or_api_Errno at hm
  refine enter Try.func13 rfl Try.ntmps13 rfl ?_
  refine C_seq ?_
  refine C_region ?_
  refine V_y (Y_assign rfl) rfl rfl rfl ?_
  refine V_to (fun _ _ => rfl) ?_
  refine C_seq ?_
  refine C_region ?_
  refine V_y (Y_assign rfl) rfl rfl rfl ?_
  refine V_to (fun _ _ => rfl) ?_
  refine C_seq ?_
  refine C_seq ?_
  refine C_region ?_
  refine V_y (Y_move rfl) rfl rfl rfl ?_
  refine V_y (Y_lenSl h_vals rfl Try.underlying67 rfl) rfl rfl rfl ?_
  refine V_y (Y_move rfl) rfl rfl rfl ?_
  refine V_to (fun _ _ => rfl) ?_
  have hn19 := Sl.le h_vals
  obtain ⟨o3, ho3, hm⟩ := Option.bind_eq_some_iff.1 hm
  refine C_cutG (ι := Unit) (fun (s4 : Unit) => [(3, .int .i64 0)]) (fun (s4 : Unit) => fun w' => o3 = .fin s4 ∧ w = w') ?_ ?_
  · refine C_block ?_
    refine C_range ho3 (fun k6 _ a w' => ∃ i : Unit, Has ⟨18, [], none⟩ a ([(3, .int .i64 0), (6, v_vals), (7, .int .i64 (vals.length : Int)), (8, .int .i64 (k6 : Int))]) ∧ w = w') (fun a ha => ⟨(), ha.sub ⟨rfl, rfl, rfl, rfl, trivial⟩, rfl⟩) ?_
    rintro K k6 _ a _ ⟨_, ha28, rfl⟩ hle15 K18 h17
    refine C_of ?_ ha28
    refine C_seq (C_region (V_y (Y_lss rfl rfl) rfl rfl rfl (V_to (fun _ _ => rfl) ?_)))
    refine C_seq ?_
    refine C_cond rfl (fun hc20 => ?_) (fun hc20 => ?_)
    · have hlt16 := lt_of_dec hc20
      obtain ⟨x12, h13, h14⟩ := K18 hlt16
      refine C_skip_to (fun _ _ => rfl) ?_
      refine C_seq ?_
      refine C_block ?_
      refine C_seq ?_
      refine C_region ?_
      obtain ⟨x21, hx21, h13⟩ := Option.bind_eq_some_iff.1 h13
      refine V_indexAddr h_vals hx21 Try.underlying67 Try.sizeOf27 rfl rfl rfl ?_
      intro b22 o23 h24
      refine V_y (Y_load (El.int h24) Try.isAgg27 rfl) rfl rfl rfl ?_
      refine V_y (Y_assign rfl) rfl rfl rfl ?_
      refine V_to (fun _ _ => rfl) ?_
      refine C_seq ?_
      refine C_region ?_
      refine V_y (Y_move rfl) rfl rfl rfl ?_
      refine V_y (Y_move rfl) rfl rfl rfl ?_
      refine V_y (Y_neq rfl rfl) rfl rfl rfl ?_
      refine V_to (fun _ _ => rfl) ?_
      refine C_cond rfl (fun hc25 => ?_) (fun hc25 => ?_)
      · rw [if_pos hc25] at h13
        refine C_seq ?_
        refine C_region ?_
        refine V_y (Y_move rfl) rfl rfl rfl ?_
        refine V_y (Y_assign rfl) rfl rfl rfl ?_
        refine V_to (fun _ _ => rfl) ?_
        obtain rfl := Option.some.inj h13
        obtain rfl := (h14 : Lp.rt _ = _)
        rw [Lp.andThen_rt] at hm
        obtain rfl := Option.some.inj hm
        refine C_ret ?_
        try simp only [↓inBlock_ret, ↓then_ret]
        exact retQ rfl (Res.one Try.results13 rfl) ⟨rfl, rfl⟩
      · rw [if_neg (nt hc25)] at h13
        refine C_skip_to (fun _ _ => rfl) ?_
        refine C_region ?_
        refine V_y (Y_addI rfl rfl) rfl rfl rfl ?_
        refine V_y (Y_move rfl) rfl rfl rfl ?_
        obtain rfl := Option.some.inj h13
        refine V_end (fun a ha26 => ?_)
        exact ⟨(), hlt16, h14, ⟨(), ha26.sub ⟨rfl, rfl, rfl, (congrArg (fun z => some (Value.int .i64 z)) (w64_succ hlt16 hn19)), trivial⟩, rfl⟩⟩
    · refine C_exit (fun a ha27 => ?_)
      exact ⟨(), ha27.sub ⟨rfl, trivial⟩, ⟨(h17 (eq_of_dec hle15 hc20)).symm, rfl⟩⟩
  rintro s4 _ ⟨rfl, rfl⟩ a ha9
  rw [Lp.andThen_fin] at hm
  refine C_at (n := ⟨18, [], none⟩) (fun _ _ => rfl) ?_ ha9
  refine C_seq ?_
  refine C_region ?_
  refine V_y (Y_move rfl) rfl rfl rfl ?_
  refine V_y (Y_assign rfl) rfl rfl rfl ?_
  refine V_to (fun _ _ => rfl) ?_
  obtain rfl := Option.some.inj hm
  refine C_ret ?_
  try simp only [↓inBlock_ret, ↓then_ret]
  exact retQ rfl (Res.one Try.results13 rfl) ⟨rfl, rfl⟩

set_option maxRecDepth 4000 in
set_option maxHeartbeats 4000000 in
theorem staff_apart_c (w : World) {A : Nat → Prop} (hA : ∀ b, w.heap.size ≤ b → A b) (a_ : staff_Form) (b : staff_Form) (rest_ : Int) {r : Bool} (hm : staff_apart a_ b rest_ = some r) : Ret Try.prog 17 #[.agg #[.int .i64 a_.from_, .int .i64 a_.slots], .agg #[.int .i64 b.from_, .int .i64 b.slots], .int .i64 rest_] w fun v w' => v = .bool r ∧ Kp Dw w w' := by
  unfold staff_apart at hm
  refine enter Try.func17 rfl Try.ntmps17 rfl ?_
  have hA0 := hA
  have hB := Nat.le_refl w.heap.size
  have hK : Tr Dw w.heap.size A w A w := Tr.refl (Dw := Dw) hA
  have hH : Hp w.heap.size A w [] := Hp.nil
  refine C_seq ?_
  refine C_region ?_
  refine V_box rfl rfl ?_
  intro b1 w2 h3
  have hk5 := h3.kp (Dw := Dw)
  have h4 : El (α := staff_Form) A w2 b1 0 a_ := h3.el hA ⟨[.int .i64 a_.from_], _, rfl, rfl, rfl⟩
  have ht6 := Kp.tr (Dw := Dw) hk5 hA hB
  replace hH := Hp.kp (Dw := Dw) hH hk5
  replace hK := Tr.trans (Dw := Dw) hK ht6
  replace hB := Nat.le_trans hB ht6.ex.size
  replace hA := ht6.new
  refine V_box rfl rfl ?_
  intro b7 w9 h10
  have hk12 := h10.kp (Dw := Dw)
  have h11 : El (α := staff_Form) A w9 b7 0 b := h10.el hA ⟨[.int .i64 b.from_], _, rfl, rfl, rfl⟩
  have ht13 := Kp.tr (Dw := Dw) hk12 hA hB
  replace hH := Hp.kp (Dw := Dw) hH hk12
  replace h4 := El.tr (Dw := Dw) h4 ht13
  replace hK := Tr.trans (Dw := Dw) hK ht13
  replace hB := Nat.le_trans hB ht13.ex.size
  replace hA := ht13.new
  refine V_y (Y_assign rfl) rfl rfl rfl ?_
  refine V_to (fun _ _ => rfl) ?_
  refine C_seq ?_
  refine C_region ?_
  have h14 := El_staff_Form_0 h4
  refine V_y (Y_fieldAddr Try.underlying53 rfl Try.sizeOf3 (by decide) rfl) rfl rfl rfl ?_
  refine V_y (Y_load (El.int h14) Try.isAgg3 rfl) rfl rfl rfl ?_
  have h15 := El_staff_Form_1 h4
  refine V_y (Y_fieldAddr Try.underlying53 rfl Try.sizeOf3 (by decide) rfl) rfl rfl rfl ?_
  refine V_y (Y_load (El.int h15) Try.isAgg3 rfl) rfl rfl rfl ?_
  refine V_y (Y_addI rfl rfl) rfl rfl rfl ?_
  refine V_y (Y_move rfl) rfl rfl rfl ?_
  refine V_y (Y_addI rfl rfl) rfl rfl rfl ?_
  have h16 := El_staff_Form_0 h11
  refine V_y (Y_fieldAddr Try.underlying53 rfl Try.sizeOf3 (by decide) rfl) rfl rfl rfl ?_
  refine V_y (Y_load (El.int h16) Try.isAgg3 rfl) rfl rfl rfl ?_
  refine V_y (Y_leq rfl rfl) rfl rfl rfl ?_
  refine V_y (Y_move rfl) rfl rfl rfl ?_
  refine V_cut 11 (fun _ : Unit => [(28, .bool ((decide ((w64 ((w64 (a_.from_ + a_.slots)) + rest_)) ≤ b.from_)) || (decide ((w64 ((w64 (b.from_ + b.slots)) + rest_)) ≤ a_.from_))))]) (fun _ w' => w9 = w') ?_ ?_
  · simp only [List.take, List.drop]
    rcases Bool.eq_false_or_eq_true (decide ((w64 ((w64 (a_.from_ + a_.slots)) + rest_)) ≤ b.from_)) with hc17 | hc17
    · refine V_gn rfl rfl rfl hc17 rfl rfl rfl ?_
      refine V_gn rfl rfl rfl hc17 rfl rfl rfl ?_
      refine V_gn rfl rfl rfl hc17 rfl rfl rfl ?_
      refine V_gn rfl rfl rfl hc17 rfl rfl rfl ?_
      refine V_gn rfl rfl rfl hc17 rfl rfl rfl ?_
      refine V_gn rfl rfl rfl hc17 rfl rfl rfl ?_
      refine V_gn rfl rfl rfl hc17 rfl rfl rfl ?_
      refine V_gn rfl rfl rfl hc17 rfl rfl rfl ?_
      refine V_gn rfl rfl rfl hc17 rfl rfl rfl ?_
      refine V_gn rfl rfl rfl hc17 rfl rfl rfl ?_
      refine V_y (Y_pick_te rfl hc17 rfl) rfl rfl rfl ?_
      exact V_end fun a ha => ⟨(), ha.sub ⟨(by rw [hc17]; rfl), trivial⟩, rfl⟩
    · refine V_ge rfl rfl rfl hc17 ?_
      have h19 := El_staff_Form_0 h11
      refine V_y (Y_fieldAddr Try.underlying53 rfl Try.sizeOf3 (by decide) rfl) rfl rfl rfl ?_
      refine V_ge rfl rfl rfl hc17 ?_
      refine V_y (Y_load (El.int h19) Try.isAgg3 rfl) rfl rfl rfl ?_
      refine V_ge rfl rfl rfl hc17 ?_
      have h20 := El_staff_Form_1 h11
      refine V_y (Y_fieldAddr Try.underlying53 rfl Try.sizeOf3 (by decide) rfl) rfl rfl rfl ?_
      refine V_ge rfl rfl rfl hc17 ?_
      refine V_y (Y_load (El.int h20) Try.isAgg3 rfl) rfl rfl rfl ?_
      refine V_ge rfl rfl rfl hc17 ?_
      refine V_y (Y_addI rfl rfl) rfl rfl rfl ?_
      refine V_ge rfl rfl rfl hc17 ?_
      refine V_y (Y_move rfl) rfl rfl rfl ?_
      refine V_ge rfl rfl rfl hc17 ?_
      refine V_y (Y_addI rfl rfl) rfl rfl rfl ?_
      refine V_ge rfl rfl rfl hc17 ?_
      have h21 := El_staff_Form_0 h4
      refine V_y (Y_fieldAddr Try.underlying53 rfl Try.sizeOf3 (by decide) rfl) rfl rfl rfl ?_
      refine V_ge rfl rfl rfl hc17 ?_
      refine V_y (Y_load (El.int h21) Try.isAgg3 rfl) rfl rfl rfl ?_
      refine V_ge rfl rfl rfl hc17 ?_
      refine V_y (Y_leq rfl rfl) rfl rfl rfl ?_
      refine V_y (Y_pick_fe rfl hc17 rfl) rfl rfl rfl ?_
      exact V_end fun a ha => ⟨(), ha.sub ⟨(by rw [hc17]; rfl), trivial⟩, rfl⟩
  simp only [List.take, List.drop]
  rintro _ _ rfl
  refine V_y (Y_assign rfl) rfl rfl rfl ?_
  refine V_to (fun _ _ => rfl) ?_
  obtain rfl := Option.some.inj hm
  refine C_ret ?_
  try simp only [↓inBlock_ret, ↓then_ret]
  exact retQ rfl (Res.one Try.results17 rfl) ⟨rfl, hK.kp⟩

set_option maxRecDepth 4000 in
set_option maxHeartbeats 4000000 in
theorem staff_Judge_1_c (w : World) {A : Nat → Prop} (hA : ∀ b, w.heap.size ≤ b → A b) (a_ : staff_Breach) (b : staff_Breach) {r : Int} (hm : staff_Judge_1 a_ b = some r) : Ret Try.prog 19 #[.agg #[.int .i64 a_.kind, .int .i64 a_.first, .int .i64 a_.second], .agg #[.int .i64 b.kind, .int .i64 b.first, .int .i64 b.second]] w fun v w' => v = .int .i64 r ∧ Kp Dw w w' := by
  unfold staff_Judge_1 at hm
  refine enter Try.func19 rfl Try.ntmps19 rfl ?_
  have hA0 := hA
  have hB := Nat.le_refl w.heap.size
  have hK : Tr Dw w.heap.size A w A w := Tr.refl (Dw := Dw) hA
  have hH : Hp w.heap.size A w [] := Hp.nil
  refine C_seq ?_
  refine C_region ?_
  refine V_box rfl rfl ?_
  intro b1 w2 h3
  have hk5 := h3.kp (Dw := Dw)
  have h4 : El (α := staff_Breach) A w2 b1 0 a_ := h3.el hA ⟨[.int .i64 a_.kind], _, rfl, rfl, ⟨[.int .i64 a_.first], _, rfl, rfl, rfl⟩⟩
  have ht6 := Kp.tr (Dw := Dw) hk5 hA hB
  replace hH := Hp.kp (Dw := Dw) hH hk5
  replace hK := Tr.trans (Dw := Dw) hK ht6
  replace hB := Nat.le_trans hB ht6.ex.size
  replace hA := ht6.new
  refine V_box rfl rfl ?_
  intro b7 w9 h10
  have hk12 := h10.kp (Dw := Dw)
  have h11 : El (α := staff_Breach) A w9 b7 0 b := h10.el hA ⟨[.int .i64 b.kind], _, rfl, rfl, ⟨[.int .i64 b.first], _, rfl, rfl, rfl⟩⟩
  have ht13 := Kp.tr (Dw := Dw) hk12 hA hB
  replace hH := Hp.kp (Dw := Dw) hH hk12
  replace h4 := El.tr (Dw := Dw) h4 ht13
  replace hK := Tr.trans (Dw := Dw) hK ht13
  replace hB := Nat.le_trans hB ht13.ex.size
  replace hA := ht13.new
  refine V_y (Y_assign rfl) rfl rfl rfl ?_
  refine V_to (fun _ _ => rfl) ?_
  refine C_seq ?_
  refine C_region_qt (Dw := Dw) 15 Try_mixed (by kernel_rfl) ?_
  simp only [List.take, List.drop]
  have h14 := El_staff_Breach_1 h4
  refine VQ_y (fun w' hw' => Y_fieldAddr Try.underlying32 rfl Try.sizeOf3 (by decide) rfl) rfl rfl rfl ?_
  refine VQ_y (fun w' hw' => Y_load (El.int (El.kp (Dw := Dw) h14 hw')) Try.isAgg3 rfl) rfl rfl rfl ?_
  have h15 := El_staff_Breach_1 h11
  refine VQ_y (fun w' hw' => Y_fieldAddr Try.underlying32 rfl Try.sizeOf3 (by decide) rfl) rfl rfl rfl ?_
  refine VQ_y (fun w' hw' => Y_load (El.int (El.kp (Dw := Dw) h15 hw')) Try.isAgg3 rfl) rfl rfl rfl ?_
  refine VQ_call (.int .i64 (cmp_Compare_int a_.first b.first)) Try.call21 rfl rfl rfl rfl (fun w' hw' => (cmp_Compare_int_c w' a_.first b.first).mono (fun _ _ h => ⟨h.1, h.2 ▸ hw'⟩)) ?_
  have h16 := El_staff_Breach_0 h4
  refine VQ_y (fun w' hw' => Y_fieldAddr Try.underlying32 rfl Try.sizeOf3 (by decide) rfl) rfl rfl rfl ?_
  refine VQ_y (fun w' hw' => Y_load (El.int (El.kp (Dw := Dw) h16 hw')) Try.isAgg3 rfl) rfl rfl rfl ?_
  have h17 := El_staff_Breach_0 h11
  refine VQ_y (fun w' hw' => Y_fieldAddr Try.underlying32 rfl Try.sizeOf3 (by decide) rfl) rfl rfl rfl ?_
  refine VQ_y (fun w' hw' => Y_load (El.int (El.kp (Dw := Dw) h17 hw')) Try.isAgg3 rfl) rfl rfl rfl ?_
  refine VQ_call (.int .i64 (cmp_Compare_int a_.kind b.kind)) Try.call21 rfl rfl rfl rfl (fun w' hw' => (cmp_Compare_int_c w' a_.kind b.kind).mono (fun _ _ h => ⟨h.1, h.2 ▸ hw'⟩)) ?_
  have h18 := El_staff_Breach_2 h4
  refine VQ_y (fun w' hw' => Y_fieldAddr Try.underlying32 rfl Try.sizeOf3 (by decide) rfl) rfl rfl rfl ?_
  refine VQ_y (fun w' hw' => Y_load (El.int (El.kp (Dw := Dw) h18 hw')) Try.isAgg3 rfl) rfl rfl rfl ?_
  have h19 := El_staff_Breach_2 h11
  refine VQ_y (fun w' hw' => Y_fieldAddr Try.underlying32 rfl Try.sizeOf3 (by decide) rfl) rfl rfl rfl ?_
  refine VQ_y (fun w' hw' => Y_load (El.int (El.kp (Dw := Dw) h19 hw')) Try.isAgg3 rfl) rfl rfl rfl ?_
  refine VQ_call (.int .i64 (cmp_Compare_int a_.second b.second)) Try.call21 rfl rfl rfl rfl (fun w' hw' => (cmp_Compare_int_c w' a_.second b.second).mono (fun _ _ h => ⟨h.1, h.2 ▸ hw'⟩)) ?_
  refine VQ_tail (fun w20 hk21 => ?_)
  try simp only [List.take, List.drop]
  have ht22 := Kp.tr (Dw := Dw) hk21 hA hB
  replace hH := Hp.kp (Dw := Dw) hH hk21
  replace h4 := El.tr (Dw := Dw) h4 ht22
  replace h11 := El.tr (Dw := Dw) h11 ht22
  replace h14 := El.tr (Dw := Dw) h14 ht22
  replace h15 := El.tr (Dw := Dw) h15 ht22
  replace h16 := El.tr (Dw := Dw) h16 ht22
  replace h17 := El.tr (Dw := Dw) h17 ht22
  replace h18 := El.tr (Dw := Dw) h18 ht22
  replace h19 := El.tr (Dw := Dw) h19 ht22
  replace hK := Tr.trans (Dw := Dw) hK ht22
  replace hB := Nat.le_trans hB ht22.ex.size
  replace hA := ht22.new
  refine V_buildSlice (Dw := Dw) (cells := #[.int .i64 (cmp_Compare_int a_.first b.first), .int .i64 (cmp_Compare_int a_.kind b.kind), .int .i64 (cmp_Compare_int a_.second b.second)]) (l := ([(cmp_Compare_int a_.first b.first), (cmp_Compare_int a_.kind b.kind), (cmp_Compare_int a_.second b.second)] : List Int)) (len := 3) Try.underlying45 Try.sizeOf3 Try.zeroValue3 rfl (by generalize ((cmp_Compare_int a_.second b.second) : Int) = z27; generalize ((cmp_Compare_int a_.first b.first) : Int) = z28; generalize ((cmp_Compare_int a_.kind b.kind) : Int) = z29; kernel_rfl) (show (3 * 1 : Nat) ≠ 0 by decide) (show (3 * 1 : Nat) ≤ 2 ^ 24 by decide) hA ⟨[.int .i64 (cmp_Compare_int a_.first b.first)], _, rfl, rfl, ⟨[.int .i64 (cmp_Compare_int a_.kind b.kind)], _, rfl, rfl, ⟨[.int .i64 (cmp_Compare_int a_.second b.second)], _, rfl, rfl, rfl⟩⟩⟩ rfl rfl ?_
  intro v23 w24 hk26 h25
  have ht30 := Kp.tr (Dw := Dw) hk26 hA hB
  replace hH := Hp.kp (Dw := Dw) hH hk26
  replace h4 := El.tr (Dw := Dw) h4 ht30
  replace h11 := El.tr (Dw := Dw) h11 ht30
  replace h14 := El.tr (Dw := Dw) h14 ht30
  replace h15 := El.tr (Dw := Dw) h15 ht30
  replace h16 := El.tr (Dw := Dw) h16 ht30
  replace h17 := El.tr (Dw := Dw) h17 ht30
  replace h18 := El.tr (Dw := Dw) h18 ht30
  replace h19 := El.tr (Dw := Dw) h19 ht30
  replace hK := Tr.trans (Dw := Dw) hK ht30
  replace hB := Nat.le_trans hB ht30.ex.size
  replace hA := ht30.new
  obtain ⟨x31, hx31, hm⟩ := Option.bind_eq_some_iff.1 hm
  refine V_call Try.call20 rfl rfl rfl rfl (cmp_Or_int_c w24 ([(cmp_Compare_int a_.first b.first), (cmp_Compare_int a_.kind b.kind), (cmp_Compare_int a_.second b.second)] : List Int) v23 h25 hx31) ?_
  rintro _ _ ⟨rfl, rfl⟩
  refine V_y (Y_assign rfl) rfl rfl rfl ?_
  refine V_to (fun _ _ => rfl) ?_
  obtain rfl := Option.some.inj hm
  refine C_ret ?_
  try simp only [↓inBlock_ret, ↓then_ret]
  exact retQ rfl (Res.one Try.results19 rfl) ⟨rfl, hK.kp⟩

def Try_sf18_ren : Go.Shelf.Ren := ⟨fun | 6 => 18 | 14 => 35 | 15 => 36 | 20 => 47 | 21 => 48 | 22 => 49 | 23 => 50 | 24 => 51 | 25 => 52 | 26 => 53 | 27 => 54 | 28 => 55 | 29 => 56 | 46 => 60 | 47 => 61 | 48 => 62 | 49 => 63 | 50 => 64 | 57 => 82 | n => n, fun | 0 => 0 | 1 => 1 | 2 => 2 | 3 => 3 | 4 => 4 | 5 => 5 | 6 => 6 | 7 => 7 | 8 => 8 | 9 => 9 | 10 => 10 | 11 => 11 | 12 => 12 | 13 => 13 | 14 => 14 | 15 => 15 | 16 => 16 | 17 => 17 | 18 => 18 | 19 => 19 | 20 => 20 | 21 => 21 | 22 => 26 | 23 => 54 | 24 => 32 | 25 => 57 | 27 => 45 | 29 => 56 | 30 => 76 | 37 => 68 | 38 => 69 | 39 => 70 | 42 => 66 | 44 => 80 | 45 => 81 | 46 => 82 | 47 => 83 | 48 => 84 | 49 => 85 | 50 => 86 | 51 => 87 | 52 => 88 | 53 => 89 | 54 => 90 | 55 => 91 | 66 => 95 | 67 => 96 | 68 => 97 | 69 => 98 | 70 => 99 | 71 => 100 | 76 => 112 | 77 => 113 | 78 => 114 | 81 => 121 | 82 => 122 | 83 => 123 | 84 => 124 | 85 => 125 | 86 => 126 | 87 => 127 | 88 => 128 | 89 => 129 | 90 => 130 | 91 => 131 | 92 => 132 | 93 => 133 | 94 => 134 | 95 => 135 | 96 => 136 | n => n, fun n => n⟩
theorem Try_sf18_lay : Go.Proofs.SlLaysF0.n6 Try.prog Try_sf18_ren := {
  mixed := by kernel_rfl,
  f6 := ⟨ "slices.SortFunc[[]porterslodge/staff.Breach,porterslodge/staff.Breach]", by kernel_rfl, Try.func18.trans (congrArg some (by kernel_rfl))⟩,
  f14 := ⟨ "slices.pdqsortCmpFunc[porterslodge/staff.Breach]", by kernel_rfl, Try.func35.trans (congrArg some (by kernel_rfl))⟩,
  f15 := Try.func36.trans (congrArg some (by kernel_rfl)),
  f20 := ⟨ "slices.insertionSortCmpFunc[porterslodge/staff.Breach]", by kernel_rfl, Try.func47.trans (congrArg some (by kernel_rfl))⟩,
  f21 := ⟨ "slices.heapSortCmpFunc[porterslodge/staff.Breach]", by kernel_rfl, Try.func48.trans (congrArg some (by kernel_rfl))⟩,
  f22 := ⟨ "slices.breakPatternsCmpFunc[porterslodge/staff.Breach]", by kernel_rfl, Try.func49.trans (congrArg some (by kernel_rfl))⟩,
  f23 := ⟨ "slices.choosePivotCmpFunc[porterslodge/staff.Breach]", by kernel_rfl, Try.func50.trans (congrArg some (by kernel_rfl))⟩,
  f24 := ⟨ "slices.reverseRangeCmpFunc[porterslodge/staff.Breach]", by kernel_rfl, Try.func51.trans (congrArg some (by kernel_rfl))⟩,
  f25 := ⟨ "slices.partialInsertionSortCmpFunc[porterslodge/staff.Breach]", by kernel_rfl, Try.func52.trans (congrArg some (by kernel_rfl))⟩,
  f26 := ⟨ "slices.partitionEqualCmpFunc[porterslodge/staff.Breach]", by kernel_rfl, Try.func53.trans (congrArg some (by kernel_rfl))⟩,
  f27 := ⟨ "slices.partitionCmpFunc[porterslodge/staff.Breach]", by kernel_rfl, Try.func54.trans (congrArg some (by kernel_rfl))⟩,
  f28 := Try.func55.trans (congrArg some (by kernel_rfl)),
  f29 := Try.func56.trans (congrArg some (by kernel_rfl)),
  f46 := ⟨ "slices.siftDownCmpFunc[porterslodge/staff.Breach]", by kernel_rfl, Try.func60.trans (congrArg some (by kernel_rfl))⟩,
  f47 := Try.func61.trans (congrArg some (by kernel_rfl)),
  f48 := Try.func62.trans (congrArg some (by kernel_rfl)),
  f49 := ⟨ "slices.medianAdjacentCmpFunc[porterslodge/staff.Breach]", by kernel_rfl, Try.func63.trans (congrArg some (by kernel_rfl))⟩,
  f50 := ⟨ "slices.medianCmpFunc[porterslodge/staff.Breach]", by kernel_rfl, Try.func64.trans (congrArg some (by kernel_rfl))⟩,
  f57 := ⟨ "slices.order2CmpFunc[porterslodge/staff.Breach]", by kernel_rfl, Try.func82.trans (congrArg some (by kernel_rfl))⟩,
  t0 := Try.underlying0,
  a0 := Try.isAgg0,
  z0 := Try.sizeOf0,
  v0 := Try.zeroValue0,
  t3 := Try.underlying3,
  a3 := Try.isAgg3,
  z3 := Try.sizeOf3,
  v3 := Try.zeroValue3,
  t4 := Try.underlying4,
  a4 := Try.isAgg4,
  z4 := Try.sizeOf4,
  v4 := Try.zeroValue4,
  t5 := Try.underlying5,
  a5 := Try.isAgg5,
  z5 := Try.sizeOf5,
  v5 := Try.zeroValue5,
  t9 := Try.underlying9,
  a9 := Try.isAgg9,
  z9 := Try.sizeOf9,
  v9 := Try.zeroValue9,
  t22 := Try.underlying26,
  a22 := Try.isAgg26,
  z22 := Try.sizeOf26,
  v22 := Try.zeroValue26,
  t25 := Try.underlying57,
  a25 := Try.isAgg57,
  z25 := Try.sizeOf57,
  v25 := Try.zeroValue57,
  t39 := Try.underlying70,
  a39 := Try.isAgg70,
  z39 := Try.sizeOf70,
  v39 := Try.zeroValue70,
  t45 := Try.underlying81,
  a45 := Try.isAgg81,
  z45 := Try.sizeOf81,
  v45 := Try.zeroValue81,
  t46 := Try.underlying82,
  a46 := Try.isAgg82,
  z46 := Try.sizeOf82,
  v46 := Try.zeroValue82,
  t50 := Try.underlying86,
  a50 := Try.isAgg86,
  z50 := Try.sizeOf86,
  v50 := Try.zeroValue86,
  t53 := Try.underlying89,
  a53 := Try.isAgg89,
  z53 := Try.sizeOf89,
  v53 := Try.zeroValue89,
  t55 := Try.underlying91,
  a55 := Try.isAgg91,
  z55 := Try.sizeOf91,
  v55 := Try.zeroValue91,
  t66 := Try.underlying95,
  a66 := Try.isAgg95,
  z66 := Try.sizeOf95,
  v66 := Try.zeroValue95,
  t70 := Try.underlying99,
  a70 := Try.isAgg99,
  z70 := Try.sizeOf99,
  v70 := Try.zeroValue99,
  t76 := Try.underlying112,
  a76 := Try.isAgg112,
  z76 := Try.sizeOf112,
  v76 := Try.zeroValue112,
  t77 := Try.underlying113,
  a77 := Try.isAgg113,
  z77 := Try.sizeOf113,
  v77 := Try.zeroValue113 }
theorem Try_sf18 {cmp : staff_Breach → staff_Breach → Option Int} {l r : List staff_Breach} {g : FuncId} {cb : Array Value} {B : Nat} {A : Nat → Prop} {w : World} {L : List Ob} {i : Nat} {v : Value} (eg : ∀ (args : Array Value) (w : World), (callFunc g args).run Try.prog w = .ok (.enter g args) w) (hcl : ∀ (w1 : World), Tr True B A w A w1 → (∀ b, w1.heap.size ≤ b → A b) → ∀ (x y : staff_Breach) (cx cy : List Value) (c : Int), GoT.rep A w1 cx x → GoT.rep A w1 cy y → cmp x y = some c → Ret Try.prog g (#[.agg cx.toArray, .agg cy.toArray] ++ cb) w1 fun v w' => v = .int .i64 c ∧ Kp True w1 w') (hH : Hp B A w L) (hi : L[i]? = some (obS (α := staff_Breach) 32 v l)) (hB : B ≤ w.heap.size) (hA : ∀ b, w.heap.size ≤ b → A b) (hr : sortFuncL cmp l = some r) : Ret Try.prog 18 #[v, .func (.func g) #[] cb] w fun u w' => u = .tuple #[] ∧ Hp B A w' (L.set i (obS (α := staff_Breach) 32 v r)) ∧ Tr Dw B A w A w' :=
  Hp.sortFuncK (Dw := Dw) (fun p c w => Go.Proofs.AnyF.slices_SortFunc_none Try_sf18_lay p c _ w) (fun enc hk hone cf hO blk off cap d w hc hh hb hs => Go.Proofs.AnyQ.slices_SortFunc Try_sf18_lay _ Try.isAgg32 Try.sizeOf32 enc hk hone cf hO g cb blk off cap d w eg hc hh hb hs) hcl hH hi hB hA hr

set_option maxRecDepth 4000 in
set_option maxHeartbeats 4000000 in
theorem staff_Judge_c (w : World) {A : Nat → Prop} (hA : ∀ b, w.heap.size ≤ b → A b) (forms : (List staff_Form)) (v_forms : Value) (h_forms : Sl A w v_forms forms) (r_ : staff_Rules) (l : (List staff_Duty)) (v_l : Value) (h_l : Sl A w v_l l) {r : ((List staff_Breach) × Int)} (hm : staff_Judge forms r_ l = some r) : Ret Try.prog 5 #[v_forms, .agg #[.int .i64 r_.people, .int .i64 r_.rest_, .int .i64 r_.most], v_l] w fun v w' => ∃ s0, v = .tuple #[s0, .int .i64 r.2] ∧ Ownd 32 w w' s0 r.1 ∧ Kp Dw w w' := by
  unfold staff_Judge at hm
  refine enter Try.func5 rfl Try.ntmps5 rfl ?_
  have hA0 := hA
  have hB := Nat.le_refl w.heap.size
  have hK : Tr Dw w.heap.size A w A w := Tr.refl (Dw := Dw) hA
  have hH : Hp w.heap.size A w [] := Hp.nil
  refine C_seq ?_
  refine C_region ?_
  refine V_box rfl rfl ?_
  intro b5 w6 h7
  have hk9 := h7.kp (Dw := Dw)
  have h8 : El (α := staff_Rules) A w6 b5 0 r_ := h7.el hA ⟨[.int .i64 r_.people], _, rfl, rfl, ⟨[.int .i64 r_.rest_], _, rfl, rfl, rfl⟩⟩
  have ht10 := Kp.tr (Dw := Dw) hk9 hA hB
  replace hH := Hp.kp (Dw := Dw) hH hk9
  replace h_forms := Sl.tr (Dw := Dw) h_forms ht10
  replace h_l := Sl.tr (Dw := Dw) h_l ht10
  replace hK := Tr.trans (Dw := Dw) hK ht10
  replace hB := Nat.le_trans hB ht10.ex.size
  replace hA := ht10.new
  refine V_y (Y_assign rfl) rfl rfl rfl ?_
  refine V_y (Y_assign rfl) rfl rfl rfl ?_
  refine V_to (fun _ _ => rfl) ?_
  refine C_seq ?_
  refine C_seq ?_
  refine C_region_qt (Dw := Dw) 4 Try_mixed (by kernel_rfl) ?_
  simp only [List.take, List.drop]
  refine VQ_y (fun w' hw' => Y_move rfl) rfl rfl rfl ?_
  obtain ⟨x11, hx11, hm⟩ := Option.bind_eq_some_iff.1 hm
  refine VQ_call (.int .i64 x11) Try.call14 rfl rfl rfl rfl (fun w' hw' => (staff_CheckForms_c (Dw := Dw) w' (fun b hb => hA b (Nat.le_trans hw'.size hb)) forms v_forms (Sl.kp (Dw := Dw) h_forms hw') hx11).mono (fun _ _ h => ⟨h.1, Kp.trans (Dw := Dw) hw' h.2⟩)) ?_
  obtain ⟨h12, _⟩ := El_staff_Rules h8
  refine VQ_y (fun w' hw' => Y_loadA (At.kp (Dw := Dw) h12 hw' h8.2.1) Try.isAgg24 Try.sizeOf24 rfl) rfl rfl rfl ?_
  obtain ⟨x13, hx13, hm⟩ := Option.bind_eq_some_iff.1 hm
  refine VQ_call (.int .i64 x13) Try.call15 rfl rfl rfl rfl (fun w' hw' => (staff_CheckRules_c (Dw := Dw) w' (fun b hb => hA b (Nat.le_trans hw'.size hb)) r_ hx13).mono (fun _ _ h => ⟨h.1, Kp.trans (Dw := Dw) hw' h.2⟩)) ?_
  refine VQ_tail (fun w14 hk15 => ?_)
  try simp only [List.take, List.drop]
  have ht16 := Kp.tr (Dw := Dw) hk15 hA hB
  replace hH := Hp.kp (Dw := Dw) hH hk15
  replace h_forms := Sl.tr (Dw := Dw) h_forms ht16
  replace h_l := Sl.tr (Dw := Dw) h_l ht16
  replace h8 := El.tr (Dw := Dw) h8 ht16
  replace hK := Tr.trans (Dw := Dw) hK ht16
  replace hB := Nat.le_trans hB ht16.ex.size
  replace hA := ht16.new
  refine V_buildSlice (Dw := Dw) (l := ([x11, x13] : List Int)) (len := 2) Try.underlying67 Try.sizeOf27 Try.zeroValue27 rfl (by with_unfolding_all rfl) (show (2 * 1 : Nat) ≠ 0 by decide) (show (2 * 1 : Nat) ≤ 2 ^ 24 by decide) hA ⟨[.int .i64 x11], _, rfl, rfl, ⟨[.int .i64 x13], _, rfl, rfl, rfl⟩⟩ rfl rfl ?_
  intro v17 w18 hk20 h19
  have ht21 := Kp.tr (Dw := Dw) hk20 hA hB
  replace hH := Hp.kp (Dw := Dw) hH hk20
  replace h_forms := Sl.tr (Dw := Dw) h_forms ht21
  replace h_l := Sl.tr (Dw := Dw) h_l ht21
  replace h8 := El.tr (Dw := Dw) h8 ht21
  replace hK := Tr.trans (Dw := Dw) hK ht21
  replace hB := Nat.le_trans hB ht21.ex.size
  replace hA := ht21.new
  obtain ⟨x22, hx22, hm⟩ := Option.bind_eq_some_iff.1 hm
  refine V_call Try.call13 rfl rfl rfl rfl (cmp_Or_api_Errno_c w18 ([x11, x13] : List Int) v17 h19 hx22) ?_
  rintro _ _ ⟨rfl, rfl⟩
  refine V_y (Y_assign rfl) rfl rfl rfl ?_
  refine V_to (fun _ _ => rfl) ?_
  refine C_seq ?_
  refine C_region ?_
  refine V_y (Y_move rfl) rfl rfl rfl ?_
  refine V_y (Y_neq rfl rfl) rfl rfl rfl ?_
  refine V_to (fun _ _ => rfl) ?_
  refine C_cond rfl (fun hc23 => ?_) (fun hc23 => ?_)
  · rw [if_pos hc23] at hm
    refine C_seq ?_
    refine C_region ?_
    refine V_y (Y_move rfl) rfl rfl rfl ?_
    refine V_y (Y_assign rfl) rfl rfl rfl ?_
    refine V_y (Y_assign rfl) rfl rfl rfl ?_
    refine V_to (fun _ _ => rfl) ?_
    obtain rfl := Option.some.inj hm
    replace hH : Hp w.heap.size A w18 (obS (α := staff_Breach) 32 (.slice none 0 0) ([] : (List staff_Breach)) :: []) := Hp.addNil (α := staff_Breach) (e := 32) hH
    refine C_ret ?_
    try simp only [↓inBlock_ret, ↓then_ret]
    exact retQ rfl (Res.two Try.results5 rfl rfl) ⟨.slice none 0 0, rfl, (Hp.ownd hH (i := 0) rfl), hK.kp⟩
  · rw [if_neg (nt hc23)] at hm
    refine C_skip_to (fun _ _ => rfl) ?_
    refine C_seq ?_
    refine C_seq ?_
    refine C_region ?_
    refine V_y (Y_move rfl) rfl rfl rfl ?_
    refine V_y (Y_lenSl h_l rfl Try.underlying25 rfl) rfl rfl rfl ?_
    refine V_y (Y_gtr rfl rfl) rfl rfl rfl ?_
    refine V_to (fun _ _ => rfl) ?_
    refine C_cond rfl (fun hc24 => ?_) (fun hc24 => ?_)
    · rw [if_pos hc24] at hm
      refine C_seq ?_
      refine C_region ?_
      refine V_y (Y_assign rfl) rfl rfl rfl ?_
      refine V_y (Y_assign rfl) rfl rfl rfl ?_
      refine V_to (fun _ _ => rfl) ?_
      obtain rfl := Option.some.inj hm
      replace hH : Hp w.heap.size A w18 (obS (α := staff_Breach) 32 (.slice none 0 0) ([] : (List staff_Breach)) :: []) := Hp.addNil (α := staff_Breach) (e := 32) hH
      refine C_ret ?_
      try simp only [↓inBlock_ret, ↓then_ret]
      exact retQ rfl (Res.two Try.results5 rfl rfl) ⟨.slice none 0 0, rfl, (Hp.ownd hH (i := 0) rfl), hK.kp⟩
    · rw [if_neg (nt hc24)] at hm
      refine C_skip_to (fun _ _ => rfl) ?_
      refine C_seq ?_
      refine C_region ?_
      refine V_y (Y_assign rfl) rfl rfl rfl ?_
      refine V_to (fun _ _ => rfl) ?_
      refine C_seq ?_
      refine C_region ?_
      have h25 := El_staff_Rules_0 h8
      refine V_y (Y_fieldAddr Try.underlying24 rfl Try.sizeOf3 (by decide) rfl) rfl rfl rfl ?_
      refine V_y (Y_load (El.int h25) Try.isAgg3 rfl) rfl rfl rfl ?_
      refine V_y (Y_addI rfl rfl) rfl rfl rfl ?_
      obtain ⟨x26, hx26, hm⟩ := Option.bind_eq_some_iff.1 hm
      refine V_makeH (Dw := Dw) (e := 3) (ti := Try.t3) hH hx26 (fun _ _ => rfl) Try.underlying45 Try_info3 rfl rfl rfl (by decide) (by decide) hB hA rfl rfl rfl ?_
      intro v27 w28 A29 hH30 ht31
      replace h_forms := Sl.tr (Dw := Dw) h_forms ht31
      replace h_l := Sl.tr (Dw := Dw) h_l ht31
      replace h8 := El.tr (Dw := Dw) h8 ht31
      replace h25 := El.tr (Dw := Dw) h25 ht31
      replace hK := Tr.trans (Dw := Dw) hK ht31
      replace hB := Nat.le_trans hB ht31.ex.size
      replace hA := ht31.new
      replace hH : Hp w.heap.size A29 w28 (obS (α := Int) 3 v27 x26 :: []) := hH30
      refine V_y (Y_assign rfl) rfl rfl rfl ?_
      refine V_to (fun _ _ => rfl) ?_
      refine C_seq ?_
      refine C_region ?_
      have h32 := El_staff_Rules_0 h8
      refine V_y (Y_fieldAddr Try.underlying24 rfl Try.sizeOf3 (by decide) rfl) rfl rfl rfl ?_
      refine V_y (Y_load (El.int h32) Try.isAgg3 rfl) rfl rfl rfl ?_
      refine V_y (Y_addI rfl rfl) rfl rfl rfl ?_
      obtain ⟨x33, hx33, hm⟩ := Option.bind_eq_some_iff.1 hm
      refine V_makeH (Dw := Dw) (e := 4) (ti := Try.t4) hH hx33 (fun _ _ => rfl) Try.underlying46 Try_info4 rfl rfl rfl (by decide) (by decide) hB hA rfl rfl rfl ?_
      intro v34 w35 A36 hH37 ht38
      replace h_forms := Sl.tr (Dw := Dw) h_forms ht38
      replace h_l := Sl.tr (Dw := Dw) h_l ht38
      replace h8 := El.tr (Dw := Dw) h8 ht38
      replace h32 := El.tr (Dw := Dw) h32 ht38
      replace hK := Tr.trans (Dw := Dw) hK ht38
      replace hB := Nat.le_trans hB ht38.ex.size
      replace hA := ht38.new
      replace hH : Hp w.heap.size A36 w35 (obS (α := Bool) 4 v34 x33 :: obS (α := Int) 3 v27 x26 :: []) := hH37
      refine V_y (Y_assign rfl) rfl rfl rfl ?_
      refine V_to (fun _ _ => rfl) ?_
      refine C_seq ?_
      refine C_region ?_
      have h39 := El_staff_Rules_0 h8
      refine V_y (Y_fieldAddr Try.underlying24 rfl Try.sizeOf3 (by decide) rfl) rfl rfl rfl ?_
      refine V_y (Y_load (El.int h39) Try.isAgg3 rfl) rfl rfl rfl ?_
      refine V_y (Y_addI rfl rfl) rfl rfl rfl ?_
      obtain ⟨x40, hx40, hm⟩ := Option.bind_eq_some_iff.1 hm
      refine V_makeSS (Dw := Dw) (α := Int) (e := 45) (e2 := 3) (ti := Try.t45) hH hx40 rfl Try.underlying47 Try_info45 rfl rfl rfl (by decide) (by decide) hB hA rfl rfl rfl ?_
      intro v41 w42 A43 hH44 ht45
      replace h_forms := Sl.tr (Dw := Dw) h_forms ht45
      replace h_l := Sl.tr (Dw := Dw) h_l ht45
      replace h8 := El.tr (Dw := Dw) h8 ht45
      replace h39 := El.tr (Dw := Dw) h39 ht45
      replace hK := Tr.trans (Dw := Dw) hK ht45
      replace hB := Nat.le_trans hB ht45.ex.size
      replace hA := ht45.new
      replace hH : Hp w.heap.size A43 w42 (obSS (α := Int) 45 3 v41 x40 :: obS (α := Bool) 4 v34 x33 :: obS (α := Int) 3 v27 x26 :: []) := hH44
      refine V_y (Y_assign rfl) rfl rfl rfl ?_
      refine V_to (fun _ _ => rfl) ?_
      refine C_seq ?_
      refine C_seq ?_
      refine C_region ?_
      refine V_y (Y_move rfl) rfl rfl rfl ?_
      refine V_y (Y_lenSl h_l rfl Try.underlying25 rfl) rfl rfl rfl ?_
      refine V_y (Y_move rfl) rfl rfl rfl ?_
      refine V_to (fun _ _ => rfl) ?_
      replace hH : Hp w.heap.size A43 w42 (obS (α := staff_Breach) 32 (.slice none 0 0) ([] : (List staff_Breach)) :: obSS (α := Int) 45 3 v41 x40 :: obS (α := Bool) 4 v34 x33 :: obS (α := Int) 3 v27 x26 :: []) := Hp.addNil (α := staff_Breach) (e := 32) hH
      have hn83 := Sl.le h_l
      obtain ⟨o46, ho46, hm⟩ := Option.bind_eq_some_iff.1 hm
      refine C_cutG (ι := (((List staff_Breach) × (List Int) × (List Bool) × (List (List Int))) × Value × Value × Value × Value × (Nat → Prop))) (fun ⟨s47, v53, v55, v57, v59, A61⟩ => [(9, v53)]) (fun ⟨s47, v53, v55, v57, v59, A61⟩ => fun w' => o46 = .fin s47 ∧ Hp w.heap.size A61 w' (obS (α := staff_Breach) 32 v53 s47.1 :: obSS (α := Int) 45 3 v59 s47.2.2.2 :: obS (α := Bool) 4 v57 s47.2.2.1 :: obS (α := Int) 3 v55 s47.2.1 :: []) ∧ Tr Dw w.heap.size A43 w42 A61 w') ?_ ?_
      · refine C_block ?_
        refine C_range ho46 (fun k49 s63 a w' => ∃ i : (Value × Value × Value × Value × (Nat → Prop)), Has ⟨174, [], none⟩ a ([(0, v_forms), (2, v_l), (4, .pointer (some ⟨b5, 0, none⟩)), (9, i.1), (10, i.2.1), (11, i.2.2.1), (12, i.2.2.2.1), (41, v_l), (42, .int .i64 (l.length : Int)), (43, .int .i64 (k49 : Int))]) ∧ Hp w.heap.size i.2.2.2.2 w' (obS (α := staff_Breach) 32 i.1 s63.1 :: obSS (α := Int) 45 3 i.2.2.2.1 s63.2.2.2 :: obS (α := Bool) 4 i.2.2.1 s63.2.2.1 :: obS (α := Int) 3 i.2.1 s63.2.1 :: []) ∧ Tr Dw w.heap.size A43 w42 i.2.2.2.2 w') (fun a ha => ⟨(.slice none 0 0, v27, v34, v41, A43), ha.sub ⟨rfl, rfl, rfl, rfl, rfl, rfl, rfl, rfl, rfl, rfl, trivial⟩, ⟨hH, Tr.refl (Dw := Dw) hA⟩⟩) ?_
        rintro K k49 s63 a w65 ⟨⟨v66, v68, v70, v72, A74⟩, ha394, hH75, hr48⟩ hle79 K82 h81
        refine C_of ?_ ha394
        replace h_forms := Sl.tr (Dw := Dw) h_forms hr48
        replace h_l := Sl.tr (Dw := Dw) h_l hr48
        replace h8 := El.tr (Dw := Dw) h8 hr48
        replace hK := Tr.trans (Dw := Dw) hK hr48
        replace hB := Nat.le_trans hB hr48.ex.size
        replace hA := hr48.new
        replace hH : Hp w.heap.size A74 w65 (obS (α := staff_Breach) 32 v66 s63.1 :: obSS (α := Int) 45 3 v72 s63.2.2.2 :: obS (α := Bool) 4 v70 s63.2.2.1 :: obS (α := Int) 3 v68 s63.2.1 :: []) := hH75
        refine C_seq (C_region (V_y (Y_lss rfl rfl) rfl rfl rfl (V_to (fun _ _ => rfl) ?_)))
        refine C_seq ?_
        refine C_cond rfl (fun hc84 => ?_) (fun hc84 => ?_)
        · have hlt80 := lt_of_dec hc84
          obtain ⟨x76, h77, h78⟩ := K82 hlt80
          refine C_skip_to (fun _ _ => rfl) ?_
          refine C_seq ?_
          obtain ⟨s86, ho85, h77⟩ := Option.bind_eq_some_iff.1 h77
          refine C_cutG (ι := (Value × Value × Value × Value × (Nat → Prop))) (fun ⟨v88, v90, v92, v94, A99⟩ => [(0, v_forms), (2, v_l), (4, .pointer (some ⟨b5, 0, none⟩)), (9, v88), (10, v90), (11, v92), (12, v94), (41, v_l), (42, .int .i64 (l.length : Int)), (43, .int .i64 (k49 : Int))]) (fun ⟨v88, v90, v92, v94, A99⟩ => fun w' => Hp w.heap.size A99 w' (obS (α := staff_Breach) 32 v88 s86.1 :: obSS (α := Int) 45 3 v94 s86.2.2.2 :: obS (α := Bool) 4 v92 s86.2.2.1 :: obS (α := Int) 3 v90 s86.2.1 :: []) ∧ Tr Dw w.heap.size A74 w65 A99 w') ?_ ?_
          · have hr87 : Tr Dw w.heap.size A74 w65 A74 w65 := Tr.refl (Dw := Dw) hA
            refine C_block ?_
            refine C_seq ?_
            refine C_region ?_
            refine V_y (Y_move rfl) rfl rfl rfl ?_
            obtain ⟨x101, hx101, ho85⟩ := Option.bind_eq_some_iff.1 ho85
            refine V_indexAddr h_l hx101 Try.underlying25 Try.sizeOf49 rfl rfl rfl ?_
            intro b102 o103 h104
            obtain ⟨h105, _⟩ := El_staff_Duty h104
            refine V_y (Y_loadA h105 Try.isAgg49 Try.sizeOf49 rfl) rfl rfl rfl ?_
            refine V_alloc Try.zeroValue49 rfl ?_
            intro b106 w107 h108
            refine V_y (Y_assign rfl) rfl rfl rfl ?_
            refine V_storeNew h108 Try.sizeOf49 rfl rfl rfl rfl (by exact (List.forall_mem_cons.2 ⟨rfl, (List.forall_mem_cons.2 ⟨rfl, (fun _ h => nomatch h)⟩)⟩)) ?_
            intro w109 h110
            have hk112 := h110.kp (Dw := Dw)
            have h111 : El (α := staff_Duty) A74 w109 b106 0 x101 := h110.el hA ⟨[.int .i64 x101.form], _, rfl, rfl, rfl⟩
            have ht113 := Kp.tr (Dw := Dw) hk112 hA hB
            replace hH := Hp.kp (Dw := Dw) hH hk112
            replace h_forms := Sl.tr (Dw := Dw) h_forms ht113
            replace h_l := Sl.tr (Dw := Dw) h_l ht113
            replace h8 := El.tr (Dw := Dw) h8 ht113
            replace h104 := El.tr (Dw := Dw) h104 ht113
            replace hK := Tr.trans (Dw := Dw) hK ht113
            replace hr48 := Tr.trans (Dw := Dw) hr48 ht113
            replace hr87 := Tr.trans (Dw := Dw) hr87 ht113
            replace hB := Nat.le_trans hB ht113.ex.size
            replace hA := ht113.new
            refine V_to (fun _ _ => rfl) ?_
            refine C_seq ?_
            refine C_seq ?_
            refine C_region ?_
            have h114 := El_staff_Duty_0 h111
            refine V_y (Y_fieldAddr Try.underlying49 rfl Try.sizeOf3 (by decide) rfl) rfl rfl rfl ?_
            refine V_y (Y_load (El.int h114) Try.isAgg3 rfl) rfl rfl rfl ?_
            refine V_y (Y_move rfl) rfl rfl rfl ?_
            refine V_y (Y_lenSl h_forms rfl Try.underlying22 rfl) rfl rfl rfl ?_
            refine V_y (Y_subI rfl rfl) rfl rfl rfl ?_
            refine V_call Try.call16 rfl rfl rfl rfl (staff_within_c w109 x101.form 0 (w64 ((forms.length : Int) - 1))) ?_
            rintro _ _ ⟨rfl, rfl⟩
            refine V_y (Y_not rfl) rfl rfl rfl ?_
            refine V_to (fun _ _ => rfl) ?_
            obtain ⟨s116, ho115, ho85⟩ := Option.bind_eq_some_iff.1 ho85
            refine C_cutG (ι := (Value × (Nat → Prop))) (fun ⟨v118, A123⟩ => [(0, v_forms), (2, v_l), (4, .pointer (some ⟨b5, 0, none⟩)), (9, v118), (10, v68), (11, v70), (12, v72), (13, .int .i64 (k49 : Int)), (14, .pointer (some ⟨b106, 0, none⟩)), (41, v_l), (42, .int .i64 (l.length : Int)), (43, .int .i64 (k49 : Int))]) (fun ⟨v118, A123⟩ => fun w' => Hp w.heap.size A123 w' (obS (α := staff_Breach) 32 v118 s116 :: obSS (α := Int) 45 3 v72 s63.2.2.2 :: obS (α := Bool) 4 v70 s63.2.2.1 :: obS (α := Int) 3 v68 s63.2.1 :: []) ∧ Tr Dw w.heap.size A74 w109 A123 w') ?_ ?_
            · have hr117 : Tr Dw w.heap.size A74 w109 A74 w109 := Tr.refl (Dw := Dw) hA
              refine C_cond rfl (fun hc125 => ?_) (fun hc125 => ?_)
              · rw [if_pos hc125] at ho115
                refine C_region ?_
                refine V_y (Y_move rfl) rfl rfl rfl ?_
                refine V_y (Y_move rfl) rfl rfl rfl ?_
                refine V_y (Y_build Try.underlying32 Try.zeroValue32 (Try_places32 _ Try.underlying32) rfl (by with_unfolding_all rfl)) rfl rfl rfl ?_
                refine V_buildSlice (Dw := Dw) (cells := #[.int .i64 1, .int .i64 (k49 : Int), .int .i64 (-1)]) (l := ([(⟨1, (k49 : Int), (-1)⟩ : staff_Breach)] : List staff_Breach)) (len := 1) Try.underlying26 Try.sizeOf32 Try.zeroValue32 rfl (by generalize ((k49 : Int) : Int) = z130; generalize ((-1) : Int) = z131; kernel_rfl) (show (1 * 3 : Nat) ≠ 0 by decide) (show (1 * 3 : Nat) ≤ 2 ^ 24 by decide) hA ⟨[.int .i64 1, .int .i64 (k49 : Int), .int .i64 (-1)], _, rfl, ⟨[.int .i64 1], _, rfl, rfl, ⟨[.int .i64 (k49 : Int)], _, rfl, rfl, rfl⟩⟩, rfl⟩ rfl rfl ?_
                intro v126 w127 hk129 h128
                have ht132 := Kp.tr (Dw := Dw) hk129 hA hB
                replace hH := Hp.kp (Dw := Dw) hH hk129
                replace h_forms := Sl.tr (Dw := Dw) h_forms ht132
                replace h_l := Sl.tr (Dw := Dw) h_l ht132
                replace h8 := El.tr (Dw := Dw) h8 ht132
                replace h111 := El.tr (Dw := Dw) h111 ht132
                replace hK := Tr.trans (Dw := Dw) hK ht132
                replace hr48 := Tr.trans (Dw := Dw) hr48 ht132
                replace hr87 := Tr.trans (Dw := Dw) hr87 ht132
                replace hr117 := Tr.trans (Dw := Dw) hr117 ht132
                replace hB := Nat.le_trans hB ht132.ex.size
                replace hA := ht132.new
                obtain ⟨x133, hx133, ho115⟩ := Option.bind_eq_some_iff.1 ho115
                refine V_appendH (Dw := Dw) (e := 32) (v := v66) (l := s63.1) (ti := Try.t32) (bytes := 24) (lim := 5864062014805) hH (i := 0) rfl h128 hx133 Try.underlying26 Try_info32 rfl rfl rfl rfl (by decide) (by decide) (by decide) hB hA rfl rfl rfl ?_
                intro v134 w135 A136 hH137 ht138
                replace h_forms := Sl.tr (Dw := Dw) h_forms ht138
                replace h_l := Sl.tr (Dw := Dw) h_l ht138
                replace h8 := El.tr (Dw := Dw) h8 ht138
                replace h111 := El.tr (Dw := Dw) h111 ht138
                replace h128 := Sl.tr (Dw := Dw) h128 ht138
                replace hK := Tr.trans (Dw := Dw) hK ht138
                replace hr48 := Tr.trans (Dw := Dw) hr48 ht138
                replace hr87 := Tr.trans (Dw := Dw) hr87 ht138
                replace hr117 := Tr.trans (Dw := Dw) hr117 ht138
                replace hB := Nat.le_trans hB ht138.ex.size
                replace hA := ht138.new
                replace hH : Hp w.heap.size A136 w135 (obS (α := staff_Breach) 32 v134 x133 :: obSS (α := Int) 45 3 v72 s63.2.2.2 :: obS (α := Bool) 4 v70 s63.2.2.1 :: obS (α := Int) 3 v68 s63.2.1 :: []) := hH137
                refine V_y (Y_assign rfl) rfl rfl rfl ?_
                obtain rfl := Option.some.inj ho115
                refine V_end (fun a ha139 => ?_)
                exact ⟨(v134, A136), ha139.sub ⟨rfl, rfl, rfl, rfl, rfl, rfl, rfl, rfl, rfl, rfl, rfl, rfl, trivial⟩, ⟨hH, hr117⟩⟩
              · rw [if_neg (nt hc125)] at ho115
                obtain rfl := Option.some.inj ho115
                refine C_skip (fun a ha140 => ?_)
                exact ⟨(v66, A74), ha140.sub ⟨rfl, rfl, rfl, rfl, rfl, rfl, rfl, rfl, rfl, rfl, rfl, rfl, trivial⟩, ⟨hH, hr117⟩⟩
            rintro ⟨v118, A123⟩ w120 ⟨hH124, hk121⟩ a ha122
            replace h_forms := Sl.tr (Dw := Dw) h_forms hk121
            replace h_l := Sl.tr (Dw := Dw) h_l hk121
            replace h8 := El.tr (Dw := Dw) h8 hk121
            replace h111 := El.tr (Dw := Dw) h111 hk121
            replace hK := Tr.trans (Dw := Dw) hK hk121
            replace hr48 := Tr.trans (Dw := Dw) hr48 hk121
            replace hr87 := Tr.trans (Dw := Dw) hr87 hk121
            replace hB := Nat.le_trans hB hk121.ex.size
            replace hA := hk121.new
            replace hH : Hp w.heap.size A123 w120 (obS (α := staff_Breach) 32 v118 s116 :: obSS (α := Int) 45 3 v72 s63.2.2.2 :: obS (α := Bool) 4 v70 s63.2.2.1 :: obS (α := Int) 3 v68 s63.2.1 :: []) := hH124
            refine C_at (n := ⟨174, [], none⟩) (fun _ _ => rfl) ?_ ha122
            refine C_seq ?_
            refine C_seq ?_
            refine C_region ?_
            have h141 := El_staff_Duty_1 h111
            refine V_y (Y_fieldAddr Try.underlying49 rfl Try.sizeOf3 (by decide) rfl) rfl rfl rfl ?_
            refine V_y (Y_load (El.int h141) Try.isAgg3 rfl) rfl rfl rfl ?_
            have h142 := El_staff_Rules_0 h8
            refine V_y (Y_fieldAddr Try.underlying24 rfl Try.sizeOf3 (by decide) rfl) rfl rfl rfl ?_
            refine V_y (Y_load (El.int h142) Try.isAgg3 rfl) rfl rfl rfl ?_
            refine V_call Try.call16 rfl rfl rfl rfl (staff_within_c w120 x101.person 1 r_.people) ?_
            rintro _ _ ⟨rfl, rfl⟩
            refine V_y (Y_not rfl) rfl rfl rfl ?_
            refine V_to (fun _ _ => rfl) ?_
            obtain ⟨s144, ho143, ho85⟩ := Option.bind_eq_some_iff.1 ho85
            refine C_cutG (ι := (Value × (Nat → Prop))) (fun ⟨v146, A151⟩ => [(0, v_forms), (2, v_l), (4, .pointer (some ⟨b5, 0, none⟩)), (9, v146), (10, v68), (11, v70), (12, v72), (13, .int .i64 (k49 : Int)), (14, .pointer (some ⟨b106, 0, none⟩)), (41, v_l), (42, .int .i64 (l.length : Int)), (43, .int .i64 (k49 : Int))]) (fun ⟨v146, A151⟩ => fun w' => Hp w.heap.size A151 w' (obS (α := staff_Breach) 32 v146 s144 :: obSS (α := Int) 45 3 v72 s63.2.2.2 :: obS (α := Bool) 4 v70 s63.2.2.1 :: obS (α := Int) 3 v68 s63.2.1 :: []) ∧ Tr Dw w.heap.size A123 w120 A151 w') ?_ ?_
            · have hr145 : Tr Dw w.heap.size A123 w120 A123 w120 := Tr.refl (Dw := Dw) hA
              refine C_cond rfl (fun hc153 => ?_) (fun hc153 => ?_)
              · rw [if_pos hc153] at ho143
                refine C_region ?_
                refine V_y (Y_move rfl) rfl rfl rfl ?_
                refine V_y (Y_move rfl) rfl rfl rfl ?_
                refine V_y (Y_build Try.underlying32 Try.zeroValue32 (Try_places32 _ Try.underlying32) rfl (by with_unfolding_all rfl)) rfl rfl rfl ?_
                refine V_buildSlice (Dw := Dw) (cells := #[.int .i64 2, .int .i64 (k49 : Int), .int .i64 (-1)]) (l := ([(⟨2, (k49 : Int), (-1)⟩ : staff_Breach)] : List staff_Breach)) (len := 1) Try.underlying26 Try.sizeOf32 Try.zeroValue32 rfl (by generalize ((k49 : Int) : Int) = z158; generalize ((-1) : Int) = z159; kernel_rfl) (show (1 * 3 : Nat) ≠ 0 by decide) (show (1 * 3 : Nat) ≤ 2 ^ 24 by decide) hA ⟨[.int .i64 2, .int .i64 (k49 : Int), .int .i64 (-1)], _, rfl, ⟨[.int .i64 2], _, rfl, rfl, ⟨[.int .i64 (k49 : Int)], _, rfl, rfl, rfl⟩⟩, rfl⟩ rfl rfl ?_
                intro v154 w155 hk157 h156
                have ht160 := Kp.tr (Dw := Dw) hk157 hA hB
                replace hH := Hp.kp (Dw := Dw) hH hk157
                replace h_forms := Sl.tr (Dw := Dw) h_forms ht160
                replace h_l := Sl.tr (Dw := Dw) h_l ht160
                replace h8 := El.tr (Dw := Dw) h8 ht160
                replace h111 := El.tr (Dw := Dw) h111 ht160
                replace hK := Tr.trans (Dw := Dw) hK ht160
                replace hr48 := Tr.trans (Dw := Dw) hr48 ht160
                replace hr87 := Tr.trans (Dw := Dw) hr87 ht160
                replace hr145 := Tr.trans (Dw := Dw) hr145 ht160
                replace hB := Nat.le_trans hB ht160.ex.size
                replace hA := ht160.new
                obtain ⟨x161, hx161, ho143⟩ := Option.bind_eq_some_iff.1 ho143
                refine V_appendH (Dw := Dw) (e := 32) (v := v118) (l := s116) (ti := Try.t32) (bytes := 24) (lim := 5864062014805) hH (i := 0) rfl h156 hx161 Try.underlying26 Try_info32 rfl rfl rfl rfl (by decide) (by decide) (by decide) hB hA rfl rfl rfl ?_
                intro v162 w163 A164 hH165 ht166
                replace h_forms := Sl.tr (Dw := Dw) h_forms ht166
                replace h_l := Sl.tr (Dw := Dw) h_l ht166
                replace h8 := El.tr (Dw := Dw) h8 ht166
                replace h111 := El.tr (Dw := Dw) h111 ht166
                replace h156 := Sl.tr (Dw := Dw) h156 ht166
                replace hK := Tr.trans (Dw := Dw) hK ht166
                replace hr48 := Tr.trans (Dw := Dw) hr48 ht166
                replace hr87 := Tr.trans (Dw := Dw) hr87 ht166
                replace hr145 := Tr.trans (Dw := Dw) hr145 ht166
                replace hB := Nat.le_trans hB ht166.ex.size
                replace hA := ht166.new
                replace hH : Hp w.heap.size A164 w163 (obS (α := staff_Breach) 32 v162 x161 :: obSS (α := Int) 45 3 v72 s63.2.2.2 :: obS (α := Bool) 4 v70 s63.2.2.1 :: obS (α := Int) 3 v68 s63.2.1 :: []) := hH165
                refine V_y (Y_assign rfl) rfl rfl rfl ?_
                obtain rfl := Option.some.inj ho143
                refine V_end (fun a ha167 => ?_)
                exact ⟨(v162, A164), ha167.sub ⟨rfl, rfl, rfl, rfl, rfl, rfl, rfl, rfl, rfl, rfl, rfl, rfl, trivial⟩, ⟨hH, hr145⟩⟩
              · rw [if_neg (nt hc153)] at ho143
                obtain rfl := Option.some.inj ho143
                refine C_skip (fun a ha168 => ?_)
                exact ⟨(v118, A123), ha168.sub ⟨rfl, rfl, rfl, rfl, rfl, rfl, rfl, rfl, rfl, rfl, rfl, rfl, trivial⟩, ⟨hH, hr145⟩⟩
            rintro ⟨v146, A151⟩ w148 ⟨hH152, hk149⟩ a ha150
            replace h_forms := Sl.tr (Dw := Dw) h_forms hk149
            replace h_l := Sl.tr (Dw := Dw) h_l hk149
            replace h8 := El.tr (Dw := Dw) h8 hk149
            replace h111 := El.tr (Dw := Dw) h111 hk149
            replace hK := Tr.trans (Dw := Dw) hK hk149
            replace hr48 := Tr.trans (Dw := Dw) hr48 hk149
            replace hr87 := Tr.trans (Dw := Dw) hr87 hk149
            replace hB := Nat.le_trans hB hk149.ex.size
            replace hA := hk149.new
            replace hH : Hp w.heap.size A151 w148 (obS (α := staff_Breach) 32 v146 s144 :: obSS (α := Int) 45 3 v72 s63.2.2.2 :: obS (α := Bool) 4 v70 s63.2.2.1 :: obS (α := Int) 3 v68 s63.2.1 :: []) := hH152
            refine C_at (n := ⟨174, [], none⟩) (fun _ _ => rfl) ?_ ha150
            refine C_seq ?_
            refine C_seq ?_
            refine C_region ?_
            have h169 := El_staff_Duty_0 h111
            refine V_y (Y_fieldAddr Try.underlying49 rfl Try.sizeOf3 (by decide) rfl) rfl rfl rfl ?_
            refine V_y (Y_load (El.int h169) Try.isAgg3 rfl) rfl rfl rfl ?_
            refine V_y (Y_move rfl) rfl rfl rfl ?_
            refine V_y (Y_lenSl h_forms rfl Try.underlying22 rfl) rfl rfl rfl ?_
            refine V_y (Y_subI rfl rfl) rfl rfl rfl ?_
            refine V_call Try.call16 rfl rfl rfl rfl (staff_within_c w148 x101.form 0 (w64 ((forms.length : Int) - 1))) ?_
            rintro _ _ ⟨rfl, rfl⟩
            refine V_y (Y_not rfl) rfl rfl rfl ?_
            refine V_y (Y_move rfl) rfl rfl rfl ?_
            refine V_cut 7 (fun _ : Unit => [(0, v_forms), (2, v_l), (4, .pointer (some ⟨b5, 0, none⟩)), (9, v146), (10, v68), (11, v70), (12, v72), (13, .int .i64 (k49 : Int)), (14, .pointer (some ⟨b106, 0, none⟩)), (41, v_l), (42, .int .i64 (l.length : Int)), (43, .int .i64 (k49 : Int)), (85, .bool ((!(staff_within x101.form 0 (w64 ((forms.length : Int) - 1)))) || (!(staff_within x101.person 1 r_.people))))]) (fun _ w' => w148 = w') ?_ ?_
            · simp only [List.take, List.drop]
              rcases Bool.eq_false_or_eq_true (!(staff_within x101.form 0 (w64 ((forms.length : Int) - 1)))) with hc170 | hc170
              · refine V_gn rfl rfl rfl hc170 rfl rfl rfl ?_
                refine V_gn rfl rfl rfl hc170 rfl rfl rfl ?_
                refine V_gn rfl rfl rfl hc170 rfl rfl rfl ?_
                refine V_gn rfl rfl rfl hc170 rfl rfl rfl ?_
                refine V_gn rfl rfl rfl hc170 rfl rfl rfl ?_
                refine V_gn rfl rfl rfl hc170 rfl rfl rfl ?_
                refine V_y (Y_pick_te rfl hc170 rfl) rfl rfl rfl ?_
                exact V_end fun a ha => ⟨(), ha.sub ⟨rfl, rfl, rfl, rfl, rfl, rfl, rfl, rfl, rfl, rfl, rfl, rfl, (by rw [hc170]; rfl), trivial⟩, rfl⟩
              · refine V_ge rfl rfl rfl hc170 ?_
                have h172 := El_staff_Duty_1 h111
                refine V_y (Y_fieldAddr Try.underlying49 rfl Try.sizeOf3 (by decide) rfl) rfl rfl rfl ?_
                refine V_ge rfl rfl rfl hc170 ?_
                refine V_y (Y_load (El.int h172) Try.isAgg3 rfl) rfl rfl rfl ?_
                refine V_ge rfl rfl rfl hc170 ?_
                have h173 := El_staff_Rules_0 h8
                refine V_y (Y_fieldAddr Try.underlying24 rfl Try.sizeOf3 (by decide) rfl) rfl rfl rfl ?_
                refine V_ge rfl rfl rfl hc170 ?_
                refine V_y (Y_load (El.int h173) Try.isAgg3 rfl) rfl rfl rfl ?_
                refine V_ge rfl rfl rfl hc170 ?_
                refine V_call Try.call16 rfl rfl rfl rfl (staff_within_c w148 x101.person 1 r_.people) ?_
                rintro _ _ ⟨rfl, rfl⟩
                refine V_ge rfl rfl rfl hc170 ?_
                refine V_y (Y_not rfl) rfl rfl rfl ?_
                refine V_y (Y_pick_fe rfl hc170 rfl) rfl rfl rfl ?_
                exact V_end fun a ha => ⟨(), ha.sub ⟨rfl, rfl, rfl, rfl, rfl, rfl, rfl, rfl, rfl, rfl, rfl, rfl, (by rw [hc170]; rfl), trivial⟩, rfl⟩
            simp only [List.take, List.drop]
            rintro _ _ rfl
            refine V_to (fun _ _ => rfl) ?_
            refine C_cond rfl (fun hc174 => ?_) (fun hc174 => ?_)
            · rw [if_pos hc174] at ho85
              obtain rfl := Option.some.inj ho85
              refine C_exit (fun a ha175 => ?_)
              exact ⟨(v146, v68, v70, v72, A151), ha175.sub ⟨rfl, rfl, rfl, rfl, rfl, rfl, rfl, rfl, rfl, rfl, trivial⟩, ⟨hH, hr87⟩⟩
            · rw [if_neg (nt hc174)] at ho85
              refine C_skip_to (fun _ _ => rfl) ?_
              refine C_seq ?_
              refine C_seq ?_
              obtain ⟨vs176, hl177, hH⟩ := Hp.ssOpen (α := Int) (e := 45) (e2 := 3) (v := v72) (l := s63.2.2.2) hH (i := 1) rfl
              replace hH : Hp w.heap.size A151 w148 (obS (α := Sv) 45 v72 vs176 :: obZ (α := Int) 3 vs176 s63.2.2.2 :: obS (α := staff_Breach) 32 v146 s144 :: obS (α := Bool) 4 v70 s63.2.2.1 :: obS (α := Int) 3 v68 s63.2.1 :: []) := hH
              refine C_region ?_
              refine V_y (Y_move rfl) rfl rfl rfl ?_
              have h178 := El_staff_Duty_1 h111
              refine V_y (Y_fieldAddr Try.underlying49 rfl Try.sizeOf3 (by decide) rfl) rfl rfl rfl ?_
              refine V_y (Y_load (El.int h178) Try.isAgg3 rfl) rfl rfl rfl ?_
              obtain ⟨x179, hx179, ho85⟩ := Option.bind_eq_some_iff.1 ho85
              obtain ⟨y184, hy185⟩ := ssIdx hx179 hl177
              refine V_indexAddrH (α := Sv) (e := 45) (v := v72) (l := vs176) hH (i := 0) rfl hy185 Try.underlying47 Try.sizeOf45 rfl rfl rfl ?_
              intro b180 o181 h182 hl183
              have h186 : Sl (α := Int) (fun _ => True) w148 y184.v x179 := (Hp.zTake hH (i := 1) rfl hx179 hy185).any (i := 0) rfl
              refine V_y (Y_load (El.sv h182) Try.isAgg45 rfl) rfl rfl rfl ?_
              replace hH : Hp w.heap.size A151 w148 (obS (α := Int) 3 y184.v x179 :: obS (α := Sv) 45 v72 vs176 :: obZX (α := Int) 3 vs176 s63.2.2.2 (Int.toNat x101.person) :: obS (α := staff_Breach) 32 v146 s144 :: obS (α := Bool) 4 v70 s63.2.2.1 :: obS (α := Int) 3 v68 s63.2.1 :: []) := Hp.zTake hH (i := 1) rfl hx179 hy185
              refine V_y (Y_lenSl (Hp.any (α := Int) (e := 3) (v := y184.v) (l := x179) hH (i := 0) rfl) rfl Try.underlying45 rfl) rfl rfl rfl ?_
              refine V_y (Y_move rfl) rfl rfl rfl ?_
              refine V_to (fun _ _ => rfl) ?_
              have hn211 := Hp.le (α := Int) (e := 3) (v := y184.v) (l := x179) hH (i := 0) rfl
              obtain ⟨o187, ho187, ho85⟩ := Option.bind_eq_some_iff.1 ho85
              refine C_cutG (ι := ((List staff_Breach) × Value × (Nat → Prop))) (fun ⟨s188, v194, A196⟩ => [(0, v_forms), (2, v_l), (4, .pointer (some ⟨b5, 0, none⟩)), (9, v194), (10, v68), (11, v70), (12, v72), (13, .int .i64 (k49 : Int)), (14, .pointer (some ⟨b106, 0, none⟩)), (41, v_l), (42, .int .i64 (l.length : Int)), (43, .int .i64 (k49 : Int))]) (fun ⟨s188, v194, A196⟩ => fun w' => o187 = .fin s188 ∧ Hp w.heap.size A196 w' (obS (α := Int) 3 y184.v x179 :: obS (α := Sv) 45 v72 vs176 :: obZX (α := Int) 3 vs176 s63.2.2.2 (Int.toNat x101.person) :: obS (α := staff_Breach) 32 v194 s188 :: obS (α := Bool) 4 v70 s63.2.2.1 :: obS (α := Int) 3 v68 s63.2.1 :: []) ∧ Tr Dw w.heap.size A151 w148 A196 w') ?_ ?_
              · refine C_block ?_
                refine C_range ho187 (fun k190 s198 a w' => ∃ i : (Value × (Nat → Prop)), Has ⟨174, [], none⟩ a ([(0, v_forms), (2, v_l), (4, .pointer (some ⟨b5, 0, none⟩)), (9, i.1), (10, v68), (11, v70), (12, v72), (13, .int .i64 (k49 : Int)), (14, .pointer (some ⟨b106, 0, none⟩)), (41, v_l), (42, .int .i64 (l.length : Int)), (43, .int .i64 (k49 : Int)), (90, y184.v), (91, .int .i64 (x179.length : Int)), (92, .int .i64 (k190 : Int))]) ∧ Hp w.heap.size i.2 w' (obS (α := Int) 3 y184.v x179 :: obS (α := Sv) 45 v72 vs176 :: obZX (α := Int) 3 vs176 s63.2.2.2 (Int.toNat x101.person) :: obS (α := staff_Breach) 32 i.1 s198 :: obS (α := Bool) 4 v70 s63.2.2.1 :: obS (α := Int) 3 v68 s63.2.1 :: []) ∧ Tr Dw w.heap.size A151 w148 i.2 w') (fun a ha => ⟨(v146, A151), ha.sub ⟨rfl, rfl, rfl, rfl, rfl, rfl, rfl, rfl, rfl, rfl, rfl, rfl, rfl, rfl, rfl, trivial⟩, ⟨hH, Tr.refl (Dw := Dw) hA⟩⟩) ?_
                rintro K k190 s198 a w199 ⟨⟨v200, A202⟩, ha277, hH203, hr189⟩ hle207 K210 h209
                refine C_of ?_ ha277
                replace h_forms := Sl.tr (Dw := Dw) h_forms hr189
                replace h_l := Sl.tr (Dw := Dw) h_l hr189
                replace h8 := El.tr (Dw := Dw) h8 hr189
                replace h111 := El.tr (Dw := Dw) h111 hr189
                replace hK := Tr.trans (Dw := Dw) hK hr189
                replace hr48 := Tr.trans (Dw := Dw) hr48 hr189
                replace hr87 := Tr.trans (Dw := Dw) hr87 hr189
                replace hB := Nat.le_trans hB hr189.ex.size
                replace hA := hr189.new
                replace hH : Hp w.heap.size A202 w199 (obS (α := Int) 3 y184.v x179 :: obS (α := Sv) 45 v72 vs176 :: obZX (α := Int) 3 vs176 s63.2.2.2 (Int.toNat x101.person) :: obS (α := staff_Breach) 32 v200 s198 :: obS (α := Bool) 4 v70 s63.2.2.1 :: obS (α := Int) 3 v68 s63.2.1 :: []) := hH203
                refine C_seq (C_region (V_y (Y_lss rfl rfl) rfl rfl rfl (V_to (fun _ _ => rfl) ?_)))
                refine C_seq ?_
                refine C_cond rfl (fun hc212 => ?_) (fun hc212 => ?_)
                · have hlt208 := lt_of_dec hc212
                  obtain ⟨x204, h205, h206⟩ := K210 hlt208
                  refine C_skip_to (fun _ _ => rfl) ?_
                  refine C_seq ?_
                  obtain ⟨s214, ho213, h205⟩ := Option.bind_eq_some_iff.1 h205
                  refine C_cutG (ι := (Value × (Nat → Prop))) (fun ⟨v216, A221⟩ => [(0, v_forms), (2, v_l), (4, .pointer (some ⟨b5, 0, none⟩)), (9, v216), (10, v68), (11, v70), (12, v72), (13, .int .i64 (k49 : Int)), (14, .pointer (some ⟨b106, 0, none⟩)), (41, v_l), (42, .int .i64 (l.length : Int)), (43, .int .i64 (k49 : Int)), (90, y184.v), (91, .int .i64 (x179.length : Int)), (92, .int .i64 (k190 : Int))]) (fun ⟨v216, A221⟩ => fun w' => Hp w.heap.size A221 w' (obS (α := Int) 3 y184.v x179 :: obS (α := Sv) 45 v72 vs176 :: obZX (α := Int) 3 vs176 s63.2.2.2 (Int.toNat x101.person) :: obS (α := staff_Breach) 32 v216 s214 :: obS (α := Bool) 4 v70 s63.2.2.1 :: obS (α := Int) 3 v68 s63.2.1 :: []) ∧ Tr Dw w.heap.size A202 w199 A221 w') ?_ ?_
                  · have hr215 : Tr Dw w.heap.size A202 w199 A202 w199 := Tr.refl (Dw := Dw) hA
                    refine C_block ?_
                    refine C_seq ?_
                    refine C_region ?_
                    obtain ⟨x223, hx223, ho213⟩ := Option.bind_eq_some_iff.1 ho213
                    refine V_indexAddrH (α := Int) (e := 3) (v := y184.v) (l := x179) hH (i := 0) rfl hx223 Try.underlying45 Try.sizeOf3 rfl rfl rfl ?_
                    intro b224 o225 h226 hl227
                    refine V_y (Y_load (El.int h226) Try.isAgg3 rfl) rfl rfl rfl ?_
                    refine V_y (Y_assign rfl) rfl rfl rfl ?_
                    refine V_to (fun _ _ => rfl) ?_
                    refine C_seq ?_
                    refine C_region_q (Dw := Dw) Try_mixed (by kernel_rfl) ?_
                    refine VQ_y (fun w' hw' => Y_move rfl) rfl rfl rfl ?_
                    refine VQ_y (fun w' hw' => Y_move rfl) rfl rfl rfl ?_
                    refine VQ_y (fun w' hw' => Y_move rfl) rfl rfl rfl ?_
                    obtain ⟨x228, hx228, ho213⟩ := Option.bind_eq_some_iff.1 ho213
                    refine VQ_indexAddr h_l hx228 Try.underlying25 Try.sizeOf49 rfl rfl rfl ?_
                    intro b229 o230 h231
                    have h232 := El_staff_Duty_0 h231
                    refine VQ_y (fun w' hw' => Y_fieldAddr Try.underlying49 rfl Try.sizeOf3 (by decide) rfl) rfl rfl rfl ?_
                    refine VQ_y (fun w' hw' => Y_load (El.int (El.kp (Dw := Dw) h232 hw')) Try.isAgg3 rfl) rfl rfl rfl ?_
                    obtain ⟨x233, hx233, ho213⟩ := Option.bind_eq_some_iff.1 ho213
                    refine VQ_indexAddr h_forms hx233 Try.underlying22 Try.sizeOf53 rfl rfl rfl ?_
                    intro b234 o235 h236
                    obtain ⟨h237, _⟩ := El_staff_Form h236
                    refine VQ_y (fun w' hw' => Y_loadA (At.kp (Dw := Dw) h237 hw' h236.2.1) Try.isAgg53 Try.sizeOf53 rfl) rfl rfl rfl ?_
                    refine VQ_y (fun w' hw' => Y_move rfl) rfl rfl rfl ?_
                    have h238 := El_staff_Duty_0 h111
                    refine VQ_y (fun w' hw' => Y_fieldAddr Try.underlying49 rfl Try.sizeOf3 (by decide) rfl) rfl rfl rfl ?_
                    refine VQ_y (fun w' hw' => Y_load (El.int (El.kp (Dw := Dw) h238 hw')) Try.isAgg3 rfl) rfl rfl rfl ?_
                    obtain ⟨x239, hx239, ho213⟩ := Option.bind_eq_some_iff.1 ho213
                    refine VQ_indexAddr h_forms hx239 Try.underlying22 Try.sizeOf53 rfl rfl rfl ?_
                    intro b240 o241 h242
                    obtain ⟨h243, _⟩ := El_staff_Form h242
                    refine VQ_y (fun w' hw' => Y_loadA (At.kp (Dw := Dw) h243 hw' h242.2.1) Try.isAgg53 Try.sizeOf53 rfl) rfl rfl rfl ?_
                    have h244 := El_staff_Rules_1 h8
                    refine VQ_y (fun w' hw' => Y_fieldAddr Try.underlying24 rfl Try.sizeOf3 (by decide) rfl) rfl rfl rfl ?_
                    refine VQ_y (fun w' hw' => Y_load (El.int (El.kp (Dw := Dw) h244 hw')) Try.isAgg3 rfl) rfl rfl rfl ?_
                    obtain ⟨x245, hx245, ho213⟩ := Option.bind_eq_some_iff.1 ho213
                    refine VQ_call (.bool x245) Try.call17 rfl rfl rfl rfl (fun w' hw' => (staff_apart_c (Dw := Dw) w' (fun b hb => hA b (Nat.le_trans hw'.size hb)) x233 x239 r_.rest_ hx245).mono (fun _ _ h => ⟨h.1, Kp.trans (Dw := Dw) hw' h.2⟩)) ?_
                    refine VQ_y (fun w' hw' => Y_not rfl) rfl rfl rfl ?_
                    refine VQ_to (fun _ _ => rfl) (fun w246 hk247 => ?_)
                    have ht248 := Kp.tr (Dw := Dw) hk247 hA hB
                    replace hH := Hp.kp (Dw := Dw) hH hk247
                    replace h_forms := Sl.tr (Dw := Dw) h_forms ht248
                    replace h_l := Sl.tr (Dw := Dw) h_l ht248
                    replace h8 := El.tr (Dw := Dw) h8 ht248
                    replace h111 := El.tr (Dw := Dw) h111 ht248
                    replace hK := Tr.trans (Dw := Dw) hK ht248
                    replace hr48 := Tr.trans (Dw := Dw) hr48 ht248
                    replace hr87 := Tr.trans (Dw := Dw) hr87 ht248
                    replace hr189 := Tr.trans (Dw := Dw) hr189 ht248
                    replace hr215 := Tr.trans (Dw := Dw) hr215 ht248
                    replace hB := Nat.le_trans hB ht248.ex.size
                    replace hA := ht248.new
                    obtain ⟨s250, ho249, ho213⟩ := Option.bind_eq_some_iff.1 ho213
                    refine C_cutG (ι := (Value × (Nat → Prop))) (fun ⟨v252, A257⟩ => [(0, v_forms), (2, v_l), (4, .pointer (some ⟨b5, 0, none⟩)), (9, v252), (10, v68), (11, v70), (12, v72), (13, .int .i64 (k49 : Int)), (14, .pointer (some ⟨b106, 0, none⟩)), (41, v_l), (42, .int .i64 (l.length : Int)), (43, .int .i64 (k49 : Int)), (90, y184.v), (91, .int .i64 (x179.length : Int)), (92, .int .i64 (k190 : Int))]) (fun ⟨v252, A257⟩ => fun w' => Hp w.heap.size A257 w' (obS (α := Int) 3 y184.v x179 :: obS (α := Sv) 45 v72 vs176 :: obZX (α := Int) 3 vs176 s63.2.2.2 (Int.toNat x101.person) :: obS (α := staff_Breach) 32 v252 s250 :: obS (α := Bool) 4 v70 s63.2.2.1 :: obS (α := Int) 3 v68 s63.2.1 :: []) ∧ Tr Dw w.heap.size A202 w246 A257 w') ?_ ?_
                    · have hr251 : Tr Dw w.heap.size A202 w246 A202 w246 := Tr.refl (Dw := Dw) hA
                      refine C_cond rfl (fun hc259 => ?_) (fun hc259 => ?_)
                      · rw [if_pos hc259] at ho249
                        refine C_region ?_
                        refine V_y (Y_move rfl) rfl rfl rfl ?_
                        refine V_y (Y_move rfl) rfl rfl rfl ?_
                        refine V_y (Y_move rfl) rfl rfl rfl ?_
                        refine V_y (Y_build Try.underlying32 Try.zeroValue32 (Try_places32 _ Try.underlying32) rfl (by with_unfolding_all rfl)) rfl rfl rfl ?_
                        refine V_buildSlice (Dw := Dw) (cells := #[.int .i64 3, .int .i64 x223, .int .i64 (k49 : Int)]) (l := ([(⟨3, x223, (k49 : Int)⟩ : staff_Breach)] : List staff_Breach)) (len := 1) Try.underlying26 Try.sizeOf32 Try.zeroValue32 rfl (by generalize ((k49 : Int) : Int) = z264; kernel_rfl) (show (1 * 3 : Nat) ≠ 0 by decide) (show (1 * 3 : Nat) ≤ 2 ^ 24 by decide) hA ⟨[.int .i64 3, .int .i64 x223, .int .i64 (k49 : Int)], _, rfl, ⟨[.int .i64 3], _, rfl, rfl, ⟨[.int .i64 x223], _, rfl, rfl, rfl⟩⟩, rfl⟩ rfl rfl ?_
                        intro v260 w261 hk263 h262
                        have ht265 := Kp.tr (Dw := Dw) hk263 hA hB
                        replace hH := Hp.kp (Dw := Dw) hH hk263
                        replace h_forms := Sl.tr (Dw := Dw) h_forms ht265
                        replace h_l := Sl.tr (Dw := Dw) h_l ht265
                        replace h8 := El.tr (Dw := Dw) h8 ht265
                        replace h111 := El.tr (Dw := Dw) h111 ht265
                        replace hK := Tr.trans (Dw := Dw) hK ht265
                        replace hr48 := Tr.trans (Dw := Dw) hr48 ht265
                        replace hr87 := Tr.trans (Dw := Dw) hr87 ht265
                        replace hr189 := Tr.trans (Dw := Dw) hr189 ht265
                        replace hr215 := Tr.trans (Dw := Dw) hr215 ht265
                        replace hr251 := Tr.trans (Dw := Dw) hr251 ht265
                        replace hB := Nat.le_trans hB ht265.ex.size
                        replace hA := ht265.new
                        obtain ⟨x266, hx266, ho249⟩ := Option.bind_eq_some_iff.1 ho249
                        refine V_appendH (Dw := Dw) (e := 32) (v := v200) (l := s198) (ti := Try.t32) (bytes := 24) (lim := 5864062014805) hH (i := 3) rfl h262 hx266 Try.underlying26 Try_info32 rfl rfl rfl rfl (by decide) (by decide) (by decide) hB hA rfl rfl rfl ?_
                        intro v267 w268 A269 hH270 ht271
                        replace h_forms := Sl.tr (Dw := Dw) h_forms ht271
                        replace h_l := Sl.tr (Dw := Dw) h_l ht271
                        replace h8 := El.tr (Dw := Dw) h8 ht271
                        replace h111 := El.tr (Dw := Dw) h111 ht271
                        replace h262 := Sl.tr (Dw := Dw) h262 ht271
                        replace hK := Tr.trans (Dw := Dw) hK ht271
                        replace hr48 := Tr.trans (Dw := Dw) hr48 ht271
                        replace hr87 := Tr.trans (Dw := Dw) hr87 ht271
                        replace hr189 := Tr.trans (Dw := Dw) hr189 ht271
                        replace hr215 := Tr.trans (Dw := Dw) hr215 ht271
                        replace hr251 := Tr.trans (Dw := Dw) hr251 ht271
                        replace hB := Nat.le_trans hB ht271.ex.size
                        replace hA := ht271.new
                        replace hH : Hp w.heap.size A269 w268 (obS (α := Int) 3 y184.v x179 :: obS (α := Sv) 45 v72 vs176 :: obZX (α := Int) 3 vs176 s63.2.2.2 (Int.toNat x101.person) :: obS (α := staff_Breach) 32 v267 x266 :: obS (α := Bool) 4 v70 s63.2.2.1 :: obS (α := Int) 3 v68 s63.2.1 :: []) := hH270
                        refine V_y (Y_assign rfl) rfl rfl rfl ?_
                        obtain rfl := Option.some.inj ho249
                        refine V_end (fun a ha272 => ?_)
                        exact ⟨(v267, A269), ha272.sub ⟨rfl, rfl, rfl, rfl, rfl, rfl, rfl, rfl, rfl, rfl, rfl, rfl, rfl, rfl, rfl, trivial⟩, ⟨hH, hr251⟩⟩
                      · rw [if_neg (nt hc259)] at ho249
                        obtain rfl := Option.some.inj ho249
                        refine C_skip (fun a ha273 => ?_)
                        exact ⟨(v200, A202), ha273.sub ⟨rfl, rfl, rfl, rfl, rfl, rfl, rfl, rfl, rfl, rfl, rfl, rfl, rfl, rfl, rfl, trivial⟩, ⟨hH, hr251⟩⟩
                    rintro ⟨v252, A257⟩ w254 ⟨hH258, hk255⟩ a ha256
                    replace h_forms := Sl.tr (Dw := Dw) h_forms hk255
                    replace h_l := Sl.tr (Dw := Dw) h_l hk255
                    replace h8 := El.tr (Dw := Dw) h8 hk255
                    replace h111 := El.tr (Dw := Dw) h111 hk255
                    replace hK := Tr.trans (Dw := Dw) hK hk255
                    replace hr48 := Tr.trans (Dw := Dw) hr48 hk255
                    replace hr87 := Tr.trans (Dw := Dw) hr87 hk255
                    replace hr189 := Tr.trans (Dw := Dw) hr189 hk255
                    replace hr215 := Tr.trans (Dw := Dw) hr215 hk255
                    replace hB := Nat.le_trans hB hk255.ex.size
                    replace hA := hk255.new
                    replace hH : Hp w.heap.size A257 w254 (obS (α := Int) 3 y184.v x179 :: obS (α := Sv) 45 v72 vs176 :: obZX (α := Int) 3 vs176 s63.2.2.2 (Int.toNat x101.person) :: obS (α := staff_Breach) 32 v252 s250 :: obS (α := Bool) 4 v70 s63.2.2.1 :: obS (α := Int) 3 v68 s63.2.1 :: []) := hH258
                    obtain rfl := Option.some.inj ho213
                    exact ⟨(v252, A257), ha256.sub ⟨rfl, rfl, rfl, rfl, rfl, rfl, rfl, rfl, rfl, rfl, rfl, rfl, rfl, rfl, rfl, trivial⟩, ⟨hH, hr215⟩⟩
                  rintro ⟨v216, A221⟩ w218 ⟨hH222, hk219⟩ a ha220
                  replace h_forms := Sl.tr (Dw := Dw) h_forms hk219
                  replace h_l := Sl.tr (Dw := Dw) h_l hk219
                  replace h8 := El.tr (Dw := Dw) h8 hk219
                  replace h111 := El.tr (Dw := Dw) h111 hk219
                  replace hK := Tr.trans (Dw := Dw) hK hk219
                  replace hr48 := Tr.trans (Dw := Dw) hr48 hk219
                  replace hr87 := Tr.trans (Dw := Dw) hr87 hk219
                  replace hr189 := Tr.trans (Dw := Dw) hr189 hk219
                  replace hB := Nat.le_trans hB hk219.ex.size
                  replace hA := hk219.new
                  replace hH : Hp w.heap.size A221 w218 (obS (α := Int) 3 y184.v x179 :: obS (α := Sv) 45 v72 vs176 :: obZX (α := Int) 3 vs176 s63.2.2.2 (Int.toNat x101.person) :: obS (α := staff_Breach) 32 v216 s214 :: obS (α := Bool) 4 v70 s63.2.2.1 :: obS (α := Int) 3 v68 s63.2.1 :: []) := hH222
                  refine C_at (n := ⟨174, [], none⟩) (fun _ _ => rfl) ?_ ha220
                  refine C_region ?_
                  refine V_y (Y_addI rfl rfl) rfl rfl rfl ?_
                  refine V_y (Y_move rfl) rfl rfl rfl ?_
                  obtain rfl := Option.some.inj h205
                  refine V_end (fun a ha275 => ?_)
                  exact ⟨s214, hlt208, h206, ⟨(v216, A221), ha275.sub ⟨rfl, rfl, rfl, rfl, rfl, rfl, rfl, rfl, rfl, rfl, rfl, rfl, rfl, rfl, (congrArg (fun z => some (Value.int .i64 z)) (w64_succ hlt208 hn211)), trivial⟩, ⟨hH, hr189⟩⟩⟩
                · refine C_exit (fun a ha276 => ?_)
                  exact ⟨(s198, v200, A202), ha276.sub ⟨rfl, rfl, rfl, rfl, rfl, rfl, rfl, rfl, rfl, rfl, rfl, rfl, trivial⟩, ⟨(h209 (eq_of_dec hle207 hc212)).symm, hH, hr189⟩⟩
              rintro ⟨s188, v194, A196⟩ w191 ⟨rfl, hH197, hk192⟩ a ha193
              rw [Lp.andThen_fin] at ho85
              replace h_forms := Sl.tr (Dw := Dw) h_forms hk192
              replace h_l := Sl.tr (Dw := Dw) h_l hk192
              replace h8 := El.tr (Dw := Dw) h8 hk192
              replace h111 := El.tr (Dw := Dw) h111 hk192
              replace hK := Tr.trans (Dw := Dw) hK hk192
              replace hr48 := Tr.trans (Dw := Dw) hr48 hk192
              replace hr87 := Tr.trans (Dw := Dw) hr87 hk192
              replace hB := Nat.le_trans hB hk192.ex.size
              replace hA := hk192.new
              replace hH : Hp w.heap.size A196 w191 (obS (α := Int) 3 y184.v x179 :: obS (α := Sv) 45 v72 vs176 :: obZX (α := Int) 3 vs176 s63.2.2.2 (Int.toNat x101.person) :: obS (α := staff_Breach) 32 v194 s188 :: obS (α := Bool) 4 v70 s63.2.2.1 :: obS (α := Int) 3 v68 s63.2.1 :: []) := hH197
              refine C_at (n := ⟨174, [], none⟩) (fun _ _ => rfl) ?_ ha193
              refine C_seq ?_
              replace hH : Hp w.heap.size A196 w191 (obSS (α := Int) 45 3 v72 s63.2.2.2 :: obS (α := staff_Breach) 32 v194 s188 :: obS (α := Bool) 4 v70 s63.2.2.1 :: obS (α := Int) 3 v68 s63.2.1 :: []) := Hp.ssBack hH (i := 2) (j := 0) (k := 0) rfl rfl rfl hx179 hy185 hl177
              obtain ⟨vs278, hl279, hH⟩ := Hp.ssOpen (α := Int) (e := 45) (e2 := 3) (v := v72) (l := s63.2.2.2) hH (i := 0) rfl
              replace hH : Hp w.heap.size A196 w191 (obS (α := Sv) 45 v72 vs278 :: obZ (α := Int) 3 vs278 s63.2.2.2 :: obS (α := staff_Breach) 32 v194 s188 :: obS (α := Bool) 4 v70 s63.2.2.1 :: obS (α := Int) 3 v68 s63.2.1 :: []) := hH
              refine C_region_ch (Dw := Dw) A196 13 [(1, 0), (1, 1), (1, 2), (1, 3), (1, 4), (1, 5), (0, 6), (0, 7), (1, 8), (2, 9), (3, 10), (0, 11), (4, 12)] Try_mixed (by kernel_rfl) (fun w280 hk281 => ?_)
              have ht282 := Kp.tr (Dw := Dw) hk281 hA hB
              replace hH := Hp.kp (Dw := Dw) hH hk281
              replace h_forms := Sl.tr (Dw := Dw) h_forms ht282
              replace h_l := Sl.tr (Dw := Dw) h_l ht282
              replace h8 := El.tr (Dw := Dw) h8 ht282
              replace h111 := El.tr (Dw := Dw) h111 ht282
              replace hK := Tr.trans (Dw := Dw) hK ht282
              replace hr48 := Tr.trans (Dw := Dw) hr48 ht282
              replace hr87 := Tr.trans (Dw := Dw) hr87 ht282
              replace hB := Nat.le_trans hB ht282.ex.size
              replace hA := ht282.new
              refine CH_q2 (Dw := Dw) rfl ?_
              refine VQ_y (fun w' hw' => Y_move rfl) rfl rfl rfl ?_
              refine VQ_CH (Dw := Dw) ?_
              refine CH_q2 (Dw := Dw) rfl ?_
              have h283 := El_staff_Duty_1 h111
              refine VQ_y (fun w' hw' => Y_fieldAddr Try.underlying49 rfl Try.sizeOf3 (by decide) rfl) rfl rfl rfl ?_
              refine VQ_CH (Dw := Dw) ?_
              refine CH_q2 (Dw := Dw) rfl ?_
              refine VQ_y (fun w' hw' => Y_load (El.int (El.keep h283 (XA.ex hw'))) Try.isAgg3 rfl) rfl rfl rfl ?_
              refine VQ_CH (Dw := Dw) ?_
              refine CH_q2 (Dw := Dw) rfl ?_
              refine VQ_y (fun w' hw' => Y_move rfl) rfl rfl rfl ?_
              refine VQ_CH (Dw := Dw) ?_
              refine CH_q2 (Dw := Dw) rfl ?_
              have h284 := El_staff_Duty_1 h111
              refine VQ_y (fun w' hw' => Y_fieldAddr Try.underlying49 rfl Try.sizeOf3 (by decide) rfl) rfl rfl rfl ?_
              refine VQ_CH (Dw := Dw) ?_
              refine CH_q2 (Dw := Dw) rfl ?_
              refine VQ_y (fun w' hw' => Y_load (El.int (El.keep h284 (XA.ex hw'))) Try.isAgg3 rfl) rfl rfl rfl ?_
              refine VQ_CH (Dw := Dw) ?_
              refine CH_q1 (Dw := Dw) rfl ?_
              obtain ⟨y289, hy290⟩ := ssIdx hx179 hl279
              refine VQ_indexAddrH (α := Sv) (e := 45) (v := v72) (l := vs278) hH (i := 0) rfl hy290 Try.underlying47 Try.sizeOf45 rfl rfl rfl ?_
              intro b285 o286 h287 hl288
              refine VQ_CH (Dw := Dw) ?_
              refine CH_q1 (Dw := Dw) rfl ?_
              have h291 : Sl (α := Int) (fun _ => True) w280 y289.v x179 := (Hp.zTake hH (i := 1) rfl hx179 hy290).any (i := 0) rfl
              refine VQ_y (fun w' hw' => Y_load (El.sv (El.kp (Dw := Dw) h287 hw')) Try.isAgg45 rfl) rfl rfl rfl ?_
              refine VQ_CH (Dw := Dw) ?_
              refine CH_q2 (Dw := Dw) rfl ?_
              refine VQ_y (fun w' hw' => Y_move rfl) rfl rfl rfl ?_
              refine VQ_CH (Dw := Dw) ?_
              refine CH_l1 (Dw := Dw) (k := 0) rfl ?_
              refine V_buildSlice (Dw := Dw) (cells := #[.int .i64 (k49 : Int)]) (l := ([(k49 : Int)] : List Int)) (len := 1) Try.underlying45 Try.sizeOf3 Try.zeroValue3 rfl (by generalize ((k49 : Int) : Int) = z296; kernel_rfl) (show (1 * 1 : Nat) ≠ 0 by decide) (show (1 * 1 : Nat) ≤ 2 ^ 24 by decide) hA ⟨[.int .i64 (k49 : Int)], _, rfl, rfl, rfl⟩ rfl rfl ?_
              intro v292 w293 hk295 h294
              have ht297 := Kp.tr (Dw := Dw) hk295 hA hB
              replace hH := Hp.kp (Dw := Dw) hH hk295
              replace h_forms := Sl.tr (Dw := Dw) h_forms ht297
              replace h_l := Sl.tr (Dw := Dw) h_l ht297
              replace h8 := El.tr (Dw := Dw) h8 ht297
              replace h111 := El.tr (Dw := Dw) h111 ht297
              replace h283 := El.tr (Dw := Dw) h283 ht297
              replace h284 := El.tr (Dw := Dw) h284 ht297
              replace h287 := El.kp (Dw := Dw) h287 hk295
              replace h291 := Sl.kp (Dw := Dw) h291 hk295
              replace hK := Tr.trans (Dw := Dw) hK ht297
              replace hr48 := Tr.trans (Dw := Dw) hr48 ht297
              replace hr87 := Tr.trans (Dw := Dw) hr87 ht297
              replace hB := Nat.le_trans hB ht297.ex.size
              replace hA := ht297.new
              refine V_CH (Dw := Dw) (hk295) ?_
              refine CH_l1 (Dw := Dw) (k := 1) rfl ?_
              replace hH : Hp w.heap.size A196 w293 (obS (α := Int) 3 y289.v x179 :: obS (α := Sv) 45 v72 vs278 :: obZX (α := Int) 3 vs278 s63.2.2.2 (Int.toNat x101.person) :: obS (α := staff_Breach) 32 v194 s188 :: obS (α := Bool) 4 v70 s63.2.2.1 :: obS (α := Int) 3 v68 s63.2.1 :: []) := Hp.zTake hH (i := 1) rfl hx179 hy290
              obtain ⟨x298, hx298, ho85⟩ := Option.bind_eq_some_iff.1 ho85
              refine V_appendH (Dw := Dw) (e := 3) (v := y289.v) (l := x179) (ti := Try.t3) (bytes := 8) (lim := 17592186044416) hH (i := 0) rfl h294 hx298 Try.underlying45 Try_info3 rfl rfl rfl rfl (by decide) (by decide) (by decide) hB hA rfl rfl rfl ?_
              intro v299 w300 A301 hH302 ht303
              replace h_forms := Sl.tr (Dw := Dw) h_forms ht303
              replace h_l := Sl.tr (Dw := Dw) h_l ht303
              replace h8 := El.tr (Dw := Dw) h8 ht303
              replace h111 := El.tr (Dw := Dw) h111 ht303
              replace h283 := El.tr (Dw := Dw) h283 ht303
              replace h284 := El.tr (Dw := Dw) h284 ht303
              replace h294 := Sl.tr (Dw := Dw) h294 ht303
              replace hK := Tr.trans (Dw := Dw) hK ht303
              replace hr48 := Tr.trans (Dw := Dw) hr48 ht303
              replace hr87 := Tr.trans (Dw := Dw) hr87 ht303
              replace hB := Nat.le_trans hB ht303.ex.size
              replace hA := ht303.new
              replace hH : Hp w.heap.size A301 w300 (obS (α := Int) 3 v299 x298 :: obS (α := Sv) 45 v72 vs278 :: obZX (α := Int) 3 vs278 s63.2.2.2 (Int.toNat x101.person) :: obS (α := staff_Breach) 32 v194 s188 :: obS (α := Bool) 4 v70 s63.2.2.1 :: obS (α := Int) 3 v68 s63.2.1 :: []) := hH302
              refine V_CHx (Dw := Dw) (XA.tr (Dw := Dw) ht303) ?_
              refine CH_q1 (Dw := Dw) rfl ?_
              refine VQ_indexAddrH (α := Sv) (e := 45) (v := v72) (l := vs278) hH (i := 1) rfl hy290 Try.underlying47 Try.sizeOf45 rfl rfl rfl ?_
              intro b304 o305 h306 hl307
              refine VQ_CH (Dw := Dw) ?_
              refine CH_l1 (Dw := Dw) (k := 2) rfl ?_
              replace hH : Hp w.heap.size A301 w300 (obZX (α := Int) 3 vs278 s63.2.2.2 (Int.toNat x101.person) :: obS (α := Int) 3 v299 x298 :: obS (α := Sv) 45 v72 vs278 :: obS (α := staff_Breach) 32 v194 s188 :: obS (α := Bool) 4 v70 s63.2.2.1 :: obS (α := Int) 3 v68 s63.2.1 :: []) := Hp.front hH (i := 2) rfl
              replace hH : Hp w.heap.size A301 w300 (obS (α := Int) 3 v299 x298 :: obZX (α := Int) 3 vs278 s63.2.2.2 (Int.toNat x101.person) :: obS (α := Sv) 45 v72 vs278 :: obS (α := staff_Breach) 32 v194 s188 :: obS (α := Bool) 4 v70 s63.2.2.1 :: obS (α := Int) 3 v68 s63.2.1 :: []) := Hp.front hH (i := 1) rfl
              replace hH : Hp w.heap.size A301 w300 (obS (α := Sv) 45 v72 vs278 :: obS (α := Int) 3 v299 x298 :: obZX (α := Int) 3 vs278 s63.2.2.2 (Int.toNat x101.person) :: obS (α := staff_Breach) 32 v194 s188 :: obS (α := Bool) 4 v70 s63.2.2.1 :: obS (α := Int) 3 v68 s63.2.1 :: []) := Hp.front hH (i := 2) rfl
              obtain ⟨x308, hx308, ho85⟩ := Option.bind_eq_some_iff.1 ho85
              refine V_storeSS (Dw := Dw) (p := y289) (α := Int) (e := 45) (e2 := 3) (v := v72) (vs := vs278) (l := s63.2.2.2) (ix := x101.person) (nv := v299) (c' := x298) hH hl279 hy290 hl307 hx308 Try.sizeOf45 rfl hB hA rfl rfl ?_
              intro w309 hH310 ht311
              replace h_forms := Sl.tr (Dw := Dw) h_forms ht311
              replace h_l := Sl.tr (Dw := Dw) h_l ht311
              replace h8 := El.tr (Dw := Dw) h8 ht311
              replace h111 := El.tr (Dw := Dw) h111 ht311
              replace h283 := El.tr (Dw := Dw) h283 ht311
              replace h284 := El.tr (Dw := Dw) h284 ht311
              replace h294 := Sl.tr (Dw := Dw) h294 ht311
              replace hK := Tr.trans (Dw := Dw) hK ht311
              replace hr48 := Tr.trans (Dw := Dw) hr48 ht311
              replace hr87 := Tr.trans (Dw := Dw) hr87 ht311
              replace hB := Nat.le_trans hB ht311.ex.size
              replace hA := ht311.new
              replace hH : Hp w.heap.size A301 w309 (obSS (α := Int) 45 3 v72 x308 :: obS (α := staff_Breach) 32 v194 s188 :: obS (α := Bool) 4 v70 s63.2.2.1 :: obS (α := Int) 3 v68 s63.2.1 :: []) := hH310
              refine V_CHw (Dw := Dw) ?_
              refine CH_tail (Dw := Dw) ?_
              show V _ _ _ _ [] _ _
              refine V_to (fun _ _ => rfl) ?_
              refine C_seq ?_
              refine C_region_qt (Dw := Dw) 13 Try_mixed (by kernel_rfl) ?_
              simp only [List.take, List.drop]
              refine VQ_y (fun w' hw' => Y_move rfl) rfl rfl rfl ?_
              have h312 := El_staff_Duty_1 h111
              refine VQ_y (fun w' hw' => Y_fieldAddr Try.underlying49 rfl Try.sizeOf3 (by decide) rfl) rfl rfl rfl ?_
              refine VQ_y (fun w' hw' => Y_load (El.int (El.kp (Dw := Dw) h312 hw')) Try.isAgg3 rfl) rfl rfl rfl ?_
              obtain ⟨x313, hx313, ho85⟩ := Option.bind_eq_some_iff.1 ho85
              refine VQ_indexAddrH (α := Int) (e := 3) (v := v68) (l := s63.2.1) hH (i := 3) rfl hx313 Try.underlying45 Try.sizeOf3 rfl rfl rfl ?_
              intro b314 o315 h316 hl317
              refine VQ_y (fun w' hw' => Y_load (El.int (El.kp (Dw := Dw) h316 hw')) Try.isAgg3 rfl) rfl rfl rfl ?_
              refine VQ_y (fun w' hw' => Y_move rfl) rfl rfl rfl ?_
              have h318 := El_staff_Duty_0 h111
              refine VQ_y (fun w' hw' => Y_fieldAddr Try.underlying49 rfl Try.sizeOf3 (by decide) rfl) rfl rfl rfl ?_
              refine VQ_y (fun w' hw' => Y_load (El.int (El.kp (Dw := Dw) h318 hw')) Try.isAgg3 rfl) rfl rfl rfl ?_
              obtain ⟨x319, hx319, ho85⟩ := Option.bind_eq_some_iff.1 ho85
              refine VQ_indexAddr h_forms hx319 Try.underlying22 Try.sizeOf53 rfl rfl rfl ?_
              intro b320 o321 h322
              have h323 := El_staff_Form_1 h322
              refine VQ_y (fun w' hw' => Y_fieldAddr Try.underlying53 rfl Try.sizeOf3 (by decide) rfl) rfl rfl rfl ?_
              refine VQ_y (fun w' hw' => Y_load (El.int (El.kp (Dw := Dw) h323 hw')) Try.isAgg3 rfl) rfl rfl rfl ?_
              refine VQ_y (fun w' hw' => Y_addI rfl rfl) rfl rfl rfl ?_
              refine VQ_indexAddrH (α := Int) (e := 3) (v := v68) (l := s63.2.1) hH (i := 3) rfl hx313 Try.underlying45 Try.sizeOf3 rfl rfl rfl ?_
              intro b324 o325 h326 hl327
              refine VQ_tail (fun w328 hk329 => ?_)
              try simp only [List.take, List.drop]
              have ht330 := Kp.tr (Dw := Dw) hk329 hA hB
              replace hH := Hp.kp (Dw := Dw) hH hk329
              replace h_forms := Sl.tr (Dw := Dw) h_forms ht330
              replace h_l := Sl.tr (Dw := Dw) h_l ht330
              replace h8 := El.tr (Dw := Dw) h8 ht330
              replace h111 := El.tr (Dw := Dw) h111 ht330
              replace h312 := El.tr (Dw := Dw) h312 ht330
              replace h316 := El.kp (Dw := Dw) h316 hk329
              replace h318 := El.tr (Dw := Dw) h318 ht330
              replace h322 := El.tr (Dw := Dw) h322 ht330
              replace h323 := El.tr (Dw := Dw) h323 ht330
              replace h326 := El.kp (Dw := Dw) h326 hk329
              replace hK := Tr.trans (Dw := Dw) hK ht330
              replace hr48 := Tr.trans (Dw := Dw) hr48 ht330
              replace hr87 := Tr.trans (Dw := Dw) hr87 ht330
              replace hB := Nat.le_trans hB ht330.ex.size
              replace hA := ht330.new
              obtain ⟨x331, hx331, ho85⟩ := Option.bind_eq_some_iff.1 ho85
              refine V_storeH (Dw := Dw) (α := Int) (e := 3) (v := v68) (l := s63.2.1) hH (i := 3) rfl hl327 hx331 rfl Try.sizeOf3 rfl hB hA rfl rfl ?_
              intro w332 hH333 ht334
              replace h_forms := Sl.tr (Dw := Dw) h_forms ht334
              replace h_l := Sl.tr (Dw := Dw) h_l ht334
              replace h8 := El.tr (Dw := Dw) h8 ht334
              replace h111 := El.tr (Dw := Dw) h111 ht334
              replace h312 := El.tr (Dw := Dw) h312 ht334
              replace h318 := El.tr (Dw := Dw) h318 ht334
              replace h322 := El.tr (Dw := Dw) h322 ht334
              replace h323 := El.tr (Dw := Dw) h323 ht334
              replace hK := Tr.trans (Dw := Dw) hK ht334
              replace hr48 := Tr.trans (Dw := Dw) hr48 ht334
              replace hr87 := Tr.trans (Dw := Dw) hr87 ht334
              replace hB := Nat.le_trans hB ht334.ex.size
              replace hA := ht334.new
              replace hH : Hp w.heap.size A301 w332 (obSS (α := Int) 45 3 v72 x308 :: obS (α := staff_Breach) 32 v194 s188 :: obS (α := Bool) 4 v70 s63.2.2.1 :: obS (α := Int) 3 v68 x331 :: []) := hH333
              refine V_to (fun _ _ => rfl) ?_
              refine C_seq ?_
              refine C_region_q (Dw := Dw) Try_mixed (by kernel_rfl) ?_
              refine VQ_y (fun w' hw' => Y_move rfl) rfl rfl rfl ?_
              have h335 := El_staff_Duty_1 h111
              refine VQ_y (fun w' hw' => Y_fieldAddr Try.underlying49 rfl Try.sizeOf3 (by decide) rfl) rfl rfl rfl ?_
              refine VQ_y (fun w' hw' => Y_load (El.int (El.kp (Dw := Dw) h335 hw')) Try.isAgg3 rfl) rfl rfl rfl ?_
              obtain ⟨x336, hx336, ho85⟩ := Option.bind_eq_some_iff.1 ho85
              refine VQ_indexAddrH (α := Int) (e := 3) (v := v68) (l := x331) hH (i := 3) rfl hx336 Try.underlying45 Try.sizeOf3 rfl rfl rfl ?_
              intro b337 o338 h339 hl340
              refine VQ_y (fun w' hw' => Y_load (El.int (El.kp (Dw := Dw) h339 hw')) Try.isAgg3 rfl) rfl rfl rfl ?_
              have h341 := El_staff_Rules_2 h8
              refine VQ_y (fun w' hw' => Y_fieldAddr Try.underlying24 rfl Try.sizeOf3 (by decide) rfl) rfl rfl rfl ?_
              refine VQ_y (fun w' hw' => Y_load (El.int (El.kp (Dw := Dw) h341 hw')) Try.isAgg3 rfl) rfl rfl rfl ?_
              refine VQ_y (fun w' hw' => Y_gtr rfl rfl) rfl rfl rfl ?_
              refine VQ_y (fun w' hw' => Y_move rfl) rfl rfl rfl ?_
              obtain ⟨s343, hs343, ho85⟩ := Option.bind_eq_some_iff.1 ho85
              refine VQ_cut 7 (fun _ : Unit => [(0, v_forms), (2, v_l), (4, .pointer (some ⟨b5, 0, none⟩)), (9, v194), (10, v68), (11, v70), (12, v72), (13, .int .i64 (k49 : Int)), (14, .pointer (some ⟨b106, 0, none⟩)), (41, v_l), (42, .int .i64 (l.length : Int)), (43, .int .i64 (k49 : Int)), (160, .bool s343)]) (fun _ => True) ?_ ?_
              · simp only [List.take, List.drop]
                rcases Bool.eq_false_or_eq_true (decide (r_.most < x336)) with hc342 | hc342
                · rw [if_pos hc342] at hs343
                  refine VQ_ge rfl rfl rfl hc342 ?_
                  refine VQ_y (fun w' hw' => Y_move rfl) rfl rfl rfl ?_
                  refine VQ_ge rfl rfl rfl hc342 ?_
                  have h344 := El_staff_Duty_1 h111
                  refine VQ_y (fun w' hw' => Y_fieldAddr Try.underlying49 rfl Try.sizeOf3 (by decide) rfl) rfl rfl rfl ?_
                  refine VQ_ge rfl rfl rfl hc342 ?_
                  refine VQ_y (fun w' hw' => Y_load (El.int (El.kp (Dw := Dw) h344 hw')) Try.isAgg3 rfl) rfl rfl rfl ?_
                  refine VQ_ge rfl rfl rfl hc342 ?_
                  obtain ⟨x345, hx345, hs343⟩ := Option.bind_eq_some_iff.1 hs343
                  refine VQ_indexAddrH (α := Bool) (e := 4) (v := v70) (l := s63.2.2.1) hH (i := 2) rfl hx345 Try.underlying46 Try.sizeOf4 rfl rfl rfl ?_
                  intro b346 o347 h348 hl349
                  refine VQ_ge rfl rfl rfl hc342 ?_
                  refine VQ_y (fun w' hw' => Y_load (El.bool (El.kp (Dw := Dw) h348 hw')) Try.isAgg4 rfl) rfl rfl rfl ?_
                  refine VQ_ge rfl rfl rfl hc342 ?_
                  refine VQ_y (fun w' hw' => Y_not rfl) rfl rfl rfl ?_
                  refine VQ_y (fun _ _ => Y_pick_te rfl hc342 rfl) rfl rfl rfl ?_
                  obtain rfl := Option.some.inj hs343
                  exact VQ_end fun a ha => ⟨(), ha.sub ⟨rfl, rfl, rfl, rfl, rfl, rfl, rfl, rfl, rfl, rfl, rfl, rfl, rfl, trivial⟩, trivial⟩
                · rw [if_neg (nt hc342)] at hs343
                  refine VQ_gn rfl rfl rfl hc342 rfl rfl rfl ?_
                  refine VQ_gn rfl rfl rfl hc342 rfl rfl rfl ?_
                  refine VQ_gn rfl rfl rfl hc342 rfl rfl rfl ?_
                  refine VQ_gn rfl rfl rfl hc342 rfl rfl rfl ?_
                  refine VQ_gn rfl rfl rfl hc342 rfl rfl rfl ?_
                  refine VQ_gn rfl rfl rfl hc342 rfl rfl rfl ?_
                  refine VQ_y (fun _ _ => Y_pick_fe rfl hc342 rfl) rfl rfl rfl ?_
                  obtain rfl := Option.some.inj hs343
                  exact VQ_end fun a ha => ⟨(), ha.sub ⟨rfl, rfl, rfl, rfl, rfl, rfl, rfl, rfl, rfl, rfl, rfl, rfl, rfl, trivial⟩, trivial⟩
              simp only [List.take, List.drop]
              rintro _ _
              refine VQ_to (fun _ _ => rfl) (fun w350 hk351 => ?_)
              have ht352 := Kp.tr (Dw := Dw) hk351 hA hB
              replace hH := Hp.kp (Dw := Dw) hH hk351
              replace h_forms := Sl.tr (Dw := Dw) h_forms ht352
              replace h_l := Sl.tr (Dw := Dw) h_l ht352
              replace h8 := El.tr (Dw := Dw) h8 ht352
              replace h111 := El.tr (Dw := Dw) h111 ht352
              replace hK := Tr.trans (Dw := Dw) hK ht352
              replace hr48 := Tr.trans (Dw := Dw) hr48 ht352
              replace hr87 := Tr.trans (Dw := Dw) hr87 ht352
              replace hB := Nat.le_trans hB ht352.ex.size
              replace hA := ht352.new
              obtain ⟨s354, ho353, ho85⟩ := Option.bind_eq_some_iff.1 ho85
              refine C_cutG (ι := (Value × Value × (Nat → Prop))) (fun ⟨v356, v358, A363⟩ => [(0, v_forms), (2, v_l), (4, .pointer (some ⟨b5, 0, none⟩)), (9, v356), (10, v68), (11, v358), (12, v72), (41, v_l), (42, .int .i64 (l.length : Int)), (43, .int .i64 (k49 : Int))]) (fun ⟨v356, v358, A363⟩ => fun w' => Hp w.heap.size A363 w' (obSS (α := Int) 45 3 v72 x308 :: obS (α := staff_Breach) 32 v356 s354.1 :: obS (α := Bool) 4 v358 s354.2 :: obS (α := Int) 3 v68 x331 :: []) ∧ Tr Dw w.heap.size A301 w350 A363 w') ?_ ?_
              · have hr355 : Tr Dw w.heap.size A301 w350 A301 w350 := Tr.refl (Dw := Dw) hA
                refine C_cond rfl (fun hc365 => ?_) (fun hc365 => ?_)
                · rw [if_pos hc365] at ho353
                  refine C_seq ?_
                  refine C_region ?_
                  refine V_y (Y_move rfl) rfl rfl rfl ?_
                  have h366 := El_staff_Duty_1 h111
                  refine V_y (Y_fieldAddr Try.underlying49 rfl Try.sizeOf3 (by decide) rfl) rfl rfl rfl ?_
                  refine V_y (Y_load (El.int h366) Try.isAgg3 rfl) rfl rfl rfl ?_
                  obtain ⟨x367, hx367, ho353⟩ := Option.bind_eq_some_iff.1 ho353
                  refine V_indexAddrH (α := Bool) (e := 4) (v := v70) (l := s63.2.2.1) hH (i := 2) rfl hx367 Try.underlying46 Try.sizeOf4 rfl rfl rfl ?_
                  intro b368 o369 h370 hl371
                  obtain ⟨x372, hx372, ho353⟩ := Option.bind_eq_some_iff.1 ho353
                  refine V_storeH (Dw := Dw) (α := Bool) (e := 4) (v := v70) (l := s63.2.2.1) hH (i := 2) rfl hl371 hx372 rfl Try.sizeOf4 rfl hB hA rfl rfl ?_
                  intro w373 hH374 ht375
                  replace h_forms := Sl.tr (Dw := Dw) h_forms ht375
                  replace h_l := Sl.tr (Dw := Dw) h_l ht375
                  replace h8 := El.tr (Dw := Dw) h8 ht375
                  replace h111 := El.tr (Dw := Dw) h111 ht375
                  replace h366 := El.tr (Dw := Dw) h366 ht375
                  replace hK := Tr.trans (Dw := Dw) hK ht375
                  replace hr48 := Tr.trans (Dw := Dw) hr48 ht375
                  replace hr87 := Tr.trans (Dw := Dw) hr87 ht375
                  replace hr355 := Tr.trans (Dw := Dw) hr355 ht375
                  replace hB := Nat.le_trans hB ht375.ex.size
                  replace hA := ht375.new
                  replace hH : Hp w.heap.size A301 w373 (obSS (α := Int) 45 3 v72 x308 :: obS (α := staff_Breach) 32 v194 s188 :: obS (α := Bool) 4 v70 x372 :: obS (α := Int) 3 v68 x331 :: []) := hH374
                  refine V_to (fun _ _ => rfl) ?_
                  refine C_region ?_
                  refine V_y (Y_move rfl) rfl rfl rfl ?_
                  refine V_y (Y_move rfl) rfl rfl rfl ?_
                  refine V_y (Y_build Try.underlying32 Try.zeroValue32 (Try_places32 _ Try.underlying32) rfl (by with_unfolding_all rfl)) rfl rfl rfl ?_
                  refine V_buildSlice (Dw := Dw) (cells := #[.int .i64 4, .int .i64 (k49 : Int), .int .i64 (-1)]) (l := ([(⟨4, (k49 : Int), (-1)⟩ : staff_Breach)] : List staff_Breach)) (len := 1) Try.underlying26 Try.sizeOf32 Try.zeroValue32 rfl (by generalize ((k49 : Int) : Int) = z380; generalize ((-1) : Int) = z381; kernel_rfl) (show (1 * 3 : Nat) ≠ 0 by decide) (show (1 * 3 : Nat) ≤ 2 ^ 24 by decide) hA ⟨[.int .i64 4, .int .i64 (k49 : Int), .int .i64 (-1)], _, rfl, ⟨[.int .i64 4], _, rfl, rfl, ⟨[.int .i64 (k49 : Int)], _, rfl, rfl, rfl⟩⟩, rfl⟩ rfl rfl ?_
                  intro v376 w377 hk379 h378
                  have ht382 := Kp.tr (Dw := Dw) hk379 hA hB
                  replace hH := Hp.kp (Dw := Dw) hH hk379
                  replace h_forms := Sl.tr (Dw := Dw) h_forms ht382
                  replace h_l := Sl.tr (Dw := Dw) h_l ht382
                  replace h8 := El.tr (Dw := Dw) h8 ht382
                  replace hK := Tr.trans (Dw := Dw) hK ht382
                  replace hr48 := Tr.trans (Dw := Dw) hr48 ht382
                  replace hr87 := Tr.trans (Dw := Dw) hr87 ht382
                  replace hr355 := Tr.trans (Dw := Dw) hr355 ht382
                  replace hB := Nat.le_trans hB ht382.ex.size
                  replace hA := ht382.new
                  obtain ⟨x383, hx383, ho353⟩ := Option.bind_eq_some_iff.1 ho353
                  refine V_appendH (Dw := Dw) (e := 32) (v := v194) (l := s188) (ti := Try.t32) (bytes := 24) (lim := 5864062014805) hH (i := 1) rfl h378 hx383 Try.underlying26 Try_info32 rfl rfl rfl rfl (by decide) (by decide) (by decide) hB hA rfl rfl rfl ?_
                  intro v384 w385 A386 hH387 ht388
                  replace h_forms := Sl.tr (Dw := Dw) h_forms ht388
                  replace h_l := Sl.tr (Dw := Dw) h_l ht388
                  replace h8 := El.tr (Dw := Dw) h8 ht388
                  replace h378 := Sl.tr (Dw := Dw) h378 ht388
                  replace hK := Tr.trans (Dw := Dw) hK ht388
                  replace hr48 := Tr.trans (Dw := Dw) hr48 ht388
                  replace hr87 := Tr.trans (Dw := Dw) hr87 ht388
                  replace hr355 := Tr.trans (Dw := Dw) hr355 ht388
                  replace hB := Nat.le_trans hB ht388.ex.size
                  replace hA := ht388.new
                  replace hH : Hp w.heap.size A386 w385 (obSS (α := Int) 45 3 v72 x308 :: obS (α := staff_Breach) 32 v384 x383 :: obS (α := Bool) 4 v70 x372 :: obS (α := Int) 3 v68 x331 :: []) := hH387
                  refine V_y (Y_assign rfl) rfl rfl rfl ?_
                  obtain rfl := Option.some.inj ho353
                  refine V_end (fun a ha389 => ?_)
                  exact ⟨(v384, v70, A386), ha389.sub ⟨rfl, rfl, rfl, rfl, rfl, rfl, rfl, rfl, rfl, rfl, trivial⟩, ⟨hH, hr355⟩⟩
                · rw [if_neg (nt hc365)] at ho353
                  obtain rfl := Option.some.inj ho353
                  refine C_skip (fun a ha390 => ?_)
                  exact ⟨(v194, v70, A301), ha390.sub ⟨rfl, rfl, rfl, rfl, rfl, rfl, rfl, rfl, rfl, rfl, trivial⟩, ⟨hH, hr355⟩⟩
              rintro ⟨v356, v358, A363⟩ w360 ⟨hH364, hk361⟩ a ha362
              replace h_forms := Sl.tr (Dw := Dw) h_forms hk361
              replace h_l := Sl.tr (Dw := Dw) h_l hk361
              replace h8 := El.tr (Dw := Dw) h8 hk361
              replace hK := Tr.trans (Dw := Dw) hK hk361
              replace hr48 := Tr.trans (Dw := Dw) hr48 hk361
              replace hr87 := Tr.trans (Dw := Dw) hr87 hk361
              replace hB := Nat.le_trans hB hk361.ex.size
              replace hA := hk361.new
              replace hH : Hp w.heap.size A363 w360 (obSS (α := Int) 45 3 v72 x308 :: obS (α := staff_Breach) 32 v356 s354.1 :: obS (α := Bool) 4 v358 s354.2 :: obS (α := Int) 3 v68 x331 :: []) := hH364
              obtain rfl := Option.some.inj ho85
              replace hH : Hp w.heap.size A363 w360 (obS (α := Int) 3 v68 x331 :: obSS (α := Int) 45 3 v72 x308 :: obS (α := staff_Breach) 32 v356 s354.1 :: obS (α := Bool) 4 v358 s354.2 :: []) := Hp.front hH (i := 3) rfl
              replace hH : Hp w.heap.size A363 w360 (obS (α := Bool) 4 v358 s354.2 :: obS (α := Int) 3 v68 x331 :: obSS (α := Int) 45 3 v72 x308 :: obS (α := staff_Breach) 32 v356 s354.1 :: []) := Hp.front hH (i := 3) rfl
              replace hH : Hp w.heap.size A363 w360 (obSS (α := Int) 45 3 v72 x308 :: obS (α := Bool) 4 v358 s354.2 :: obS (α := Int) 3 v68 x331 :: obS (α := staff_Breach) 32 v356 s354.1 :: []) := Hp.front hH (i := 2) rfl
              replace hH : Hp w.heap.size A363 w360 (obS (α := staff_Breach) 32 v356 s354.1 :: obSS (α := Int) 45 3 v72 x308 :: obS (α := Bool) 4 v358 s354.2 :: obS (α := Int) 3 v68 x331 :: []) := Hp.front hH (i := 3) rfl
              exact ⟨(v356, v68, v358, v72, A363), ha362.sub ⟨rfl, rfl, rfl, rfl, rfl, rfl, rfl, rfl, rfl, rfl, trivial⟩, ⟨hH, hr87⟩⟩
          rintro ⟨v88, v90, v92, v94, A99⟩ w96 ⟨hH100, hk97⟩ a ha98
          replace h_forms := Sl.tr (Dw := Dw) h_forms hk97
          replace h_l := Sl.tr (Dw := Dw) h_l hk97
          replace h8 := El.tr (Dw := Dw) h8 hk97
          replace hK := Tr.trans (Dw := Dw) hK hk97
          replace hr48 := Tr.trans (Dw := Dw) hr48 hk97
          replace hB := Nat.le_trans hB hk97.ex.size
          replace hA := hk97.new
          replace hH : Hp w.heap.size A99 w96 (obS (α := staff_Breach) 32 v88 s86.1 :: obSS (α := Int) 45 3 v94 s86.2.2.2 :: obS (α := Bool) 4 v92 s86.2.2.1 :: obS (α := Int) 3 v90 s86.2.1 :: []) := hH100
          refine C_at (n := ⟨174, [], none⟩) (fun _ _ => rfl) ?_ ha98
          refine C_region ?_
          refine V_y (Y_addI rfl rfl) rfl rfl rfl ?_
          refine V_y (Y_move rfl) rfl rfl rfl ?_
          obtain rfl := Option.some.inj h77
          refine V_end (fun a ha392 => ?_)
          exact ⟨(s86.1, s86.2.1, s86.2.2.1, s86.2.2.2), hlt80, h78, ⟨(v88, v90, v92, v94, A99), ha392.sub ⟨rfl, rfl, rfl, rfl, rfl, rfl, rfl, rfl, rfl, (congrArg (fun z => some (Value.int .i64 z)) (w64_succ hlt80 hn83)), trivial⟩, ⟨hH, hr48⟩⟩⟩
        · refine C_exit (fun a ha393 => ?_)
          exact ⟨((s63.1, s63.2.1, s63.2.2.1, s63.2.2.2), v66, v68, v70, v72, A74), ha393.sub ⟨rfl, trivial⟩, ⟨(h81 (eq_of_dec hle79 hc84)).symm, hH, hr48⟩⟩
      rintro ⟨s47, v53, v55, v57, v59, A61⟩ w50 ⟨rfl, hH62, hk51⟩ a ha52
      rw [Lp.andThen_fin] at hm
      replace hK := Tr.trans (Dw := Dw) hK hk51
      replace hB := Nat.le_trans hB hk51.ex.size
      replace hA := hk51.new
      replace hH : Hp w.heap.size A61 w50 (obS (α := staff_Breach) 32 v53 s47.1 :: obSS (α := Int) 45 3 v59 s47.2.2.2 :: obS (α := Bool) 4 v57 s47.2.2.1 :: obS (α := Int) 3 v55 s47.2.1 :: []) := hH62
      refine C_at (n := ⟨174, [], none⟩) (fun _ _ => rfl) ?_ ha52
      refine C_seq ?_
      refine C_region ?_
      refine V_y (Y_move rfl) rfl rfl rfl ?_
      obtain ⟨x395, hx395, hm⟩ := Option.bind_eq_some_iff.1 hm
      refine V_call Try.call18 rfl rfl rfl rfl (Try_sf18 (Dw := Dw) Try.call19 (fun w401 ht402 h403 p405 q408 c406 c409 c411 h407 h410 h404 => by obtain ⟨rfl, _⟩ := Rep_staff_Breach h407; obtain ⟨rfl, _⟩ := Rep_staff_Breach h410; exact (staff_Judge_1_c (Dw := True) w401 h403 p405 q408 h404).mono fun _ _ h => ⟨h.1, h.2⟩) hH (i := 0) rfl hB hA hx395) ?_
      rintro _ w396 ⟨rfl, hH397, ht398⟩
      replace hK := Tr.trans (Dw := Dw) hK ht398
      replace hB := Nat.le_trans hB ht398.ex.size
      replace hA := ht398.new
      replace hH : Hp w.heap.size A61 w396 (obS (α := staff_Breach) 32 v53 x395 :: obSS (α := Int) 45 3 v59 s47.2.2.2 :: obS (α := Bool) 4 v57 s47.2.2.1 :: obS (α := Int) 3 v55 s47.2.1 :: []) := hH397
      refine V_to (fun _ _ => rfl) ?_
      refine C_seq ?_
      refine C_region ?_
      refine V_y (Y_move rfl) rfl rfl rfl ?_
      refine V_y (Y_assign rfl) rfl rfl rfl ?_
      refine V_y (Y_assign rfl) rfl rfl rfl ?_
      refine V_to (fun _ _ => rfl) ?_
      obtain rfl := Option.some.inj hm
      refine C_ret ?_
      try simp only [↓inBlock_ret, ↓then_ret]
      exact retQ rfl (Res.two Try.results5 rfl rfl) ⟨v53, rfl, (Hp.ownd hH (i := 0) rfl), hK.kp⟩

end Go.Proofs.Ytcfhifbmjjhhdaa.W
