/-
  Written by program (gen.py) from the IR of the dump: each function computes its model.
-/
import Derived.Test.YtigplgkbilmabaaDoorProg
import Derived.Test.YtigplgkbilmabaaDoorGe
import Derived.Test.YtigplgkbilmabaaDoorRouteNeedsM
import Derived.KernelRfl
import Derived.Shelf.Strings.SlTrimAscii
import Derived.Test.YtigplgkbilmabaaDoorGp
import Derived.Test.YtigplgkbilmabaaDoorGv
namespace Go.Proofs.YtigplgkbilmabaaDoor.W
open Go Go.RowKit Go.Pu Go.Gw Go.Proofs Go.Proofs.YtigplgkbilmabaaDoor.M
set_option linter.unusedVariables false
set_option linter.unusedSimpArgs false

theorem Tryd_info3 : Tryd.prog.info? 3 = some Tryd.t3 := by kernel_rfl
theorem Tryd_info42 : Tryd.prog.info? 42 = some Tryd.t42 := by kernel_rfl
theorem Tryd_eqt42_10000 (a0 : ByteArray) (a1 : Int) (b0 : ByteArray) (b1 : Int) (w : World) : (Op.equalIn 10000 42 (.agg #[.string a0, .int .i64 a1]) (.agg #[.string b0, .int .i64 b1])).run Tryd.prog w = .ok (strEq a0 b0 && (a1 == b1)) w := by
  refine (run_equalIn_struct w 9999 42 _ _ (by kernel_rfl) (by kernel_rfl)).trans ?_
  rw [show Tryd.prog.fieldsOf 42 = _ from by unfold Program.fieldsOf; rw [Tryd.underlying42]]
  cases h0 : (strEq a0 b0) <;> cases h1 : (a1 == b1) <;> simp_all [Op.eqFields, part, strEq, Tryd.isAgg3, Tryd.isAgg9, run_equalIn_int _ _ _ _ _ _ _ Tryd.underlying3, run_equalIn_string _ _ _ _ _ Tryd.underlying9]
theorem Tryd_eqg42 : Tryd.prog.eqGuardType Tryd.prog.depth 42 = false := by kernel_rfl
theorem Tryd_mixed : Tryd.prog.follows .mixedOrders = true := by kernel_rfl

instance : GoT route_Skill := GoT.of (β := ByteArray × Int) fun x => (x.name, x.rank)

instance : Flat route_Skill := ⟨fun {A w A1 w1 cs x} h => Flat.flat (α := ByteArray × Int) (x := (x.name, x.rank)) (A := A) (w := w) h⟩

theorem El_route_Skill_ {A : Nat → Prop} {w : World} {b off : Nat} {x : route_Skill} (h : El A w b off x) : El (α := ByteArray × Int) A w b off (x.name, x.rank) := h

theorem El_route_Skill_0 {A : Nat → Prop} {w : World} {b off : Nat} {x : route_Skill} (h : El A w b off x) : El A w b (off + 0) x.name := El.fst (El_route_Skill_ h)

theorem El_route_Skill_1 {A : Nat → Prop} {w : World} {b off : Nat} {x : route_Skill} (h : El A w b off x) : El A w b (off + 1) x.rank := El.snd (El_route_Skill_ h)

theorem El_route_Skill {A : Nat → Prop} {w : World} {b off : Nat} {x : route_Skill} (h : El A w b off x) : At w b off [.string x.name, .int .i64 x.rank] ∧ True := by
  obtain ⟨h1, h2, cs, h3, h4⟩ := h
  obtain ⟨_, _, rfl, rfl, rfl⟩ := h3
  exact ⟨h4, trivial⟩

instance : GoT route_Person := GoT.of (β := Int × Int × Int × (List route_Skill)) fun x => (x.no, x.capacity, x.calendar, x.skills)

theorem El_route_Person_ {A : Nat → Prop} {w : World} {b off : Nat} {x : route_Person} (h : El A w b off x) : El (α := Int × Int × Int × (List route_Skill)) A w b off (x.no, x.capacity, x.calendar, x.skills) := h

theorem El_route_Person_0 {A : Nat → Prop} {w : World} {b off : Nat} {x : route_Person} (h : El A w b off x) : El A w b (off + 0) x.no := El.fst (El_route_Person_ h)

theorem El_route_Person_1 {A : Nat → Prop} {w : World} {b off : Nat} {x : route_Person} (h : El A w b off x) : El A w b (off + 1) x.capacity := El.fst (El.snd (El_route_Person_ h))

theorem El_route_Person_2 {A : Nat → Prop} {w : World} {b off : Nat} {x : route_Person} (h : El A w b off x) : El A w b (off + 2) x.calendar := El.fst (El.snd (El.snd (El_route_Person_ h)))

theorem El_route_Person_3 {A : Nat → Prop} {w : World} {b off : Nat} {x : route_Person} (h : El A w b off x) : El A w b (off + 3) x.skills := El.snd (El.snd (El.snd (El_route_Person_ h)))

theorem El_route_Person {A : Nat → Prop} {w : World} {b off : Nat} {x : route_Person} (h : El A w b off x) : ∃ v1, At w b off [.int .i64 x.no, .int .i64 x.capacity, .int .i64 x.calendar, v1] ∧ Sl A w v1 x.skills := by
  obtain ⟨h1, h2, cs, h3, h4⟩ := h
  obtain ⟨_, _, rfl, rfl, ⟨_, _, rfl, rfl, ⟨_, _, rfl, rfl, ⟨u1, rfl, g1⟩⟩⟩⟩ := h3
  exact ⟨u1, h4, g1⟩

instance : GoT route_Work := GoT.of (β := Int × Int × Int × Int × Int × (List route_Skill)) fun x => (x.ticket, x.weight, x.urgency, x.since, x.former, x.needs)

theorem El_route_Work_ {A : Nat → Prop} {w : World} {b off : Nat} {x : route_Work} (h : El A w b off x) : El (α := Int × Int × Int × Int × Int × (List route_Skill)) A w b off (x.ticket, x.weight, x.urgency, x.since, x.former, x.needs) := h

theorem El_route_Work_0 {A : Nat → Prop} {w : World} {b off : Nat} {x : route_Work} (h : El A w b off x) : El A w b (off + 0) x.ticket := El.fst (El_route_Work_ h)

theorem El_route_Work_1 {A : Nat → Prop} {w : World} {b off : Nat} {x : route_Work} (h : El A w b off x) : El A w b (off + 1) x.weight := El.fst (El.snd (El_route_Work_ h))

theorem El_route_Work_2 {A : Nat → Prop} {w : World} {b off : Nat} {x : route_Work} (h : El A w b off x) : El A w b (off + 2) x.urgency := El.fst (El.snd (El.snd (El_route_Work_ h)))

theorem El_route_Work_3 {A : Nat → Prop} {w : World} {b off : Nat} {x : route_Work} (h : El A w b off x) : El A w b (off + 3) x.since := El.fst (El.snd (El.snd (El.snd (El_route_Work_ h))))

theorem El_route_Work_4 {A : Nat → Prop} {w : World} {b off : Nat} {x : route_Work} (h : El A w b off x) : El A w b (off + 4) x.former := El.fst (El.snd (El.snd (El.snd (El.snd (El_route_Work_ h)))))

theorem El_route_Work_5 {A : Nat → Prop} {w : World} {b off : Nat} {x : route_Work} (h : El A w b off x) : El A w b (off + 5) x.needs := El.snd (El.snd (El.snd (El.snd (El.snd (El_route_Work_ h)))))

theorem El_route_Work {A : Nat → Prop} {w : World} {b off : Nat} {x : route_Work} (h : El A w b off x) : ∃ v1, At w b off [.int .i64 x.ticket, .int .i64 x.weight, .int .i64 x.urgency, .int .i64 x.since, .int .i64 x.former, v1] ∧ Sl A w v1 x.needs := by
  obtain ⟨h1, h2, cs, h3, h4⟩ := h
  obtain ⟨_, _, rfl, rfl, ⟨_, _, rfl, rfl, ⟨_, _, rfl, rfl, ⟨_, _, rfl, rfl, ⟨_, _, rfl, rfl, ⟨u1, rfl, g1⟩⟩⟩⟩⟩⟩ := h3
  exact ⟨u1, h4, g1⟩

instance : GoT route_Step := GoT.of (β := Int × Int × Bool) fun x => (x.after, x.lower, x.any)

instance : Flat route_Step := ⟨fun {A w A1 w1 cs x} h => Flat.flat (α := Int × Int × Bool) (x := (x.after, x.lower, x.any)) (A := A) (w := w) h⟩

theorem El_route_Step_ {A : Nat → Prop} {w : World} {b off : Nat} {x : route_Step} (h : El A w b off x) : El (α := Int × Int × Bool) A w b off (x.after, x.lower, x.any) := h

theorem El_route_Step_0 {A : Nat → Prop} {w : World} {b off : Nat} {x : route_Step} (h : El A w b off x) : El A w b (off + 0) x.after := El.fst (El_route_Step_ h)

theorem El_route_Step_1 {A : Nat → Prop} {w : World} {b off : Nat} {x : route_Step} (h : El A w b off x) : El A w b (off + 1) x.lower := El.fst (El.snd (El_route_Step_ h))

theorem El_route_Step_2 {A : Nat → Prop} {w : World} {b off : Nat} {x : route_Step} (h : El A w b off x) : El A w b (off + 2) x.any := El.snd (El.snd (El_route_Step_ h))

theorem El_route_Step {A : Nat → Prop} {w : World} {b off : Nat} {x : route_Step} (h : El A w b off x) : At w b off [.int .i64 x.after, .int .i64 x.lower, .bool x.any] ∧ True := by
  obtain ⟨h1, h2, cs, h3, h4⟩ := h
  obtain ⟨_, _, rfl, rfl, ⟨_, _, rfl, rfl, rfl⟩⟩ := h3
  exact ⟨h4, trivial⟩

set_option maxRecDepth 4000 in
set_option maxHeartbeats 4000000 in
theorem route_within_c (w : World) (n : Int) (low : Int) (high : Int) : Ret Tryd.prog 39 #[.int .i64 n, .int .i64 low, .int .i64 high] w fun v w' => v = .bool (route_within n low high) ∧ w = w' := by
  generalize hm : route_within n low high = r
  unfold route_within at hm
  refine enter Tryd.func39 rfl Tryd.ntmps39 rfl ?_
  refine C_seq ?_
  refine C_region ?_
  refine V_y (Y_assign rfl) rfl rfl rfl ?_
  refine V_to (fun _ _ => rfl) ?_
  refine C_seq ?_
  refine C_region ?_
  refine V_y (Y_move rfl) rfl rfl rfl ?_
  refine V_y (Y_move rfl) rfl rfl rfl ?_
  refine V_y (Y_geq rfl rfl) rfl rfl rfl ?_
  refine V_y (Y_move rfl) rfl rfl rfl ?_
  refine V_cut 4 (fun _ : Unit => [(14, .bool ((decide (low ≤ n)) && (decide (n ≤ high))))]) (fun _ w' => w = w') ?_ ?_
  · simp only [List.take, List.drop]
    rcases Bool.eq_false_or_eq_true (decide (low ≤ n)) with hc1 | hc1
    · refine V_ge rfl rfl rfl hc1 ?_
      refine V_y (Y_move rfl) rfl rfl rfl ?_
      refine V_ge rfl rfl rfl hc1 ?_
      refine V_y (Y_move rfl) rfl rfl rfl ?_
      refine V_ge rfl rfl rfl hc1 ?_
      refine V_y (Y_leq rfl rfl) rfl rfl rfl ?_
      refine V_y (Y_pick_te rfl hc1 rfl) rfl rfl rfl ?_
      exact V_end fun a ha => ⟨(), ha.sub ⟨(by rw [hc1]; rfl), trivial⟩, rfl⟩
    · refine V_gn rfl rfl rfl hc1 rfl rfl rfl ?_
      refine V_gn rfl rfl rfl hc1 rfl rfl rfl ?_
      refine V_gn rfl rfl rfl hc1 rfl rfl rfl ?_
      refine V_y (Y_pick_fe rfl hc1 rfl) rfl rfl rfl ?_
      exact V_end fun a ha => ⟨(), ha.sub ⟨(by rw [hc1]; rfl), trivial⟩, rfl⟩
  simp only [List.take, List.drop]
  rintro _ _ rfl
  refine V_y (Y_assign rfl) rfl rfl rfl ?_
  refine V_to (fun _ _ => rfl) ?_
  obtain rfl := hm
  refine C_ret ?_
  try simp only [↓inBlock_ret, ↓then_ret]
  exact retQ rfl (Res.one Tryd.results39 rfl) ⟨rfl, rfl⟩

set_option maxRecDepth 4000 in
set_option maxHeartbeats 4000000 in
theorem slices_IndexFunc_Lroute_Work_route_Work_c (w : World) {A : Nat → Prop} (hA : ∀ b, w.heap.size ≤ b → A b) (s : (List route_Work)) (v_s : Value) (h_s : Sl A w v_s s) (f : route_Work → Option Bool) (f_f : FuncId) (f_a f_c : Array Value) (f_call : ∀ (args : Array Value) (w : World), (callFunc f_f args).run Tryd.prog w = .ok (.enter f_f args) w) (f_spec : ∀ (w1 : World) (A1 : Nat → Prop), Tr w.heap.size A w A1 w1 → (∀ b, w1.heap.size ≤ b → A1 b) → ∀ (y0 : route_Work) (v1 : Value) (h2 : Sl A1 w1 v1 y0.needs) (r : Bool), f y0 = some r → Ret Tryd.prog f_f (f_a ++ #[.agg #[.int .i64 y0.ticket, .int .i64 y0.weight, .int .i64 y0.urgency, .int .i64 y0.since, .int .i64 y0.former, v1]] ++ f_c) w1 fun v w' => v = .bool r ∧ Kp w1 w') {r : Int} (hm : slices_IndexFunc_Lroute_Work_route_Work s f = some r) : Ret Tryd.prog 53 #[v_s, .func (.func f_f) f_a f_c] w fun v w' => v = .int .i64 r ∧ Kp w w' := by
  unfold slices_IndexFunc_Lroute_Work_route_Work at hm
  refine enter Tryd.func53 rfl Tryd.ntmps53 rfl ?_
  have hA0 := hA
  have hB := Nat.le_refl w.heap.size
  have hK : Tr w.heap.size A w A w := Tr.refl hA
  have hH : Hp w.heap.size A w [] := Hp.nil
  refine C_seq ?_
  refine C_region ?_
  refine V_y (Y_assign rfl) rfl rfl rfl ?_
  refine V_to (fun _ _ => rfl) ?_
  refine C_seq ?_
  refine C_seq ?_
  refine C_region ?_
  refine V_y (Y_move rfl) rfl rfl rfl ?_
  refine V_y (Y_lenSl h_s rfl Tryd.underlying53 rfl) rfl rfl rfl ?_
  refine V_y (Y_move rfl) rfl rfl rfl ?_
  refine V_to (fun _ _ => rfl) ?_
  have hn23 := Sl.le h_s
  obtain ⟨o3, ho3, hm⟩ := Option.bind_eq_some_iff.1 hm
  refine C_cutG (ι := (Unit × (Nat → Prop))) (fun ⟨s4, A10⟩ => []) (fun ⟨s4, A10⟩ => fun w' => o3 = .fin s4 ∧ Hp w.heap.size A10 w' ([]) ∧ Tr w.heap.size A w A10 w') ?_ ?_
  · refine C_block ?_
    refine C_range ho3 (fun k6 _ a w' => ∃ i : (Nat → Prop), Has ⟨19, [], none⟩ a ([(0, v_s), (1, .func (.func f_f) f_a f_c), (7, .int .i64 (s.length : Int)), (8, .int .i64 (k6 : Int))]) ∧ Hp w.heap.size i w' ([]) ∧ Tr w.heap.size A w i w') (fun a ha => ⟨A, ha.sub ⟨rfl, rfl, rfl, rfl, trivial⟩, ⟨hH, Tr.refl hA⟩⟩) ?_
    rintro K k6 _ a w13 ⟨A14, ha39, hH15, hr5⟩ hle19 K22 h21
    refine C_of ?_ ha39
    replace h_s := Sl.tr h_s hr5
    replace hK := Tr.trans hK hr5
    replace hB := Nat.le_trans hB hr5.ex.size
    replace hA := hr5.new
    replace hH : Hp w.heap.size A14 w13 ([]) := hH15
    refine C_seq (C_region (V_y (Y_lss rfl rfl) rfl rfl rfl (V_to (fun _ _ => rfl) ?_)))
    refine C_seq ?_
    refine C_cond rfl (fun hc24 => ?_) (fun hc24 => ?_)
    · have hlt20 := lt_of_dec hc24
      obtain ⟨x16, h17, h18⟩ := K22 hlt20
      refine C_skip_to (fun _ _ => rfl) ?_
      refine C_seq ?_
      refine C_block ?_
      refine C_seq ?_
      refine C_region ?_
      refine V_y (Y_move rfl) rfl rfl rfl ?_
      refine V_y (Y_assign rfl) rfl rfl rfl ?_
      refine V_to (fun _ _ => rfl) ?_
      refine C_seq ?_
      refine C_region ?_
      refine V_y (Y_move rfl) rfl rfl rfl ?_
      refine V_y (Y_move rfl) rfl rfl rfl ?_
      refine V_y (Y_move rfl) rfl rfl rfl ?_
      obtain ⟨x25, hx25, h17⟩ := Option.bind_eq_some_iff.1 h17
      refine V_indexAddr h_s hx25 Tryd.underlying53 Tryd.sizeOf35 rfl rfl rfl ?_
      intro b26 o27 h28
      obtain ⟨v29, h31, h30⟩ := El_route_Work h28
      refine V_y (Y_loadA h31 Tryd.isAgg35 Tryd.sizeOf35 rfl) rfl rfl rfl ?_
      obtain ⟨x32, hx32, h17⟩ := Option.bind_eq_some_iff.1 h17
      refine V_call f_call rfl rfl rfl rfl (f_spec w13 _ hK hA x25 v29 h30 _ hx32) ?_
      rintro _ w33 ⟨rfl, hk34⟩
      have ht35 := Kp.tr hk34 hA hB
      replace hH := Hp.kp hH hk34
      replace h_s := Sl.tr h_s ht35
      replace h28 := El.tr h28 ht35
      replace h30 := Sl.tr h30 ht35
      replace hK := Tr.trans hK ht35
      replace hr5 := Tr.trans hr5 ht35
      replace hB := Nat.le_trans hB ht35.ex.size
      replace hA := ht35.new
      refine V_to (fun _ _ => rfl) ?_
      refine C_cond rfl (fun hc36 => ?_) (fun hc36 => ?_)
      · rw [if_pos hc36] at h17
        refine C_seq ?_
        refine C_region ?_
        refine V_y (Y_move rfl) rfl rfl rfl ?_
        refine V_y (Y_assign rfl) rfl rfl rfl ?_
        refine V_to (fun _ _ => rfl) ?_
        obtain rfl := Option.some.inj h17
        obtain rfl := (h18 : Lp.rt _ = _)
        rw [Lp.andThen_rt] at hm
        obtain rfl := Option.some.inj hm
        refine C_ret ?_
        try simp only [↓inBlock_ret, ↓then_ret]
        exact retQ rfl (Res.one Tryd.results53 rfl) ⟨rfl, hK.kp⟩
      · rw [if_neg (nt hc36)] at h17
        refine C_skip_to (fun _ _ => rfl) ?_
        refine C_region ?_
        refine V_y (Y_addI rfl rfl) rfl rfl rfl ?_
        refine V_y (Y_move rfl) rfl rfl rfl ?_
        obtain rfl := Option.some.inj h17
        refine V_end (fun a ha37 => ?_)
        exact ⟨(), hlt20, h18, ⟨A14, ha37.sub ⟨rfl, rfl, rfl, (congrArg (fun z => some (Value.int .i64 z)) (w64_succ hlt20 hn23)), trivial⟩, ⟨hH, hr5⟩⟩⟩
    · refine C_exit (fun a ha38 => ?_)
      exact ⟨((), A14), ha38.sub trivial, ⟨(h21 (eq_of_dec hle19 hc24)).symm, hH, hr5⟩⟩
  rintro ⟨s4, A10⟩ w7 ⟨rfl, hH11, hk8⟩ a ha9
  rw [Lp.andThen_fin] at hm
  replace hK := Tr.trans hK hk8
  replace hB := Nat.le_trans hB hk8.ex.size
  replace hA := hk8.new
  replace hH : Hp w.heap.size A10 w7 ([]) := hH11
  refine C_at (n := ⟨19, [], none⟩) (fun _ _ => rfl) ?_ ha9
  refine C_seq ?_
  refine C_region ?_
  refine V_y (Y_assign rfl) rfl rfl rfl ?_
  refine V_to (fun _ _ => rfl) ?_
  obtain rfl := Option.some.inj hm
  refine C_ret ?_
  try simp only [↓inBlock_ret, ↓then_ret]
  exact retQ rfl (Res.one Tryd.results53 rfl) ⟨rfl, hK.kp⟩

set_option maxRecDepth 4000 in
set_option maxHeartbeats 4000000 in
theorem slices_ContainsFunc_Lroute_Work_route_Work_c (w : World) {A : Nat → Prop} (hA : ∀ b, w.heap.size ≤ b → A b) (s : (List route_Work)) (v_s : Value) (h_s : Sl A w v_s s) (f : route_Work → Option Bool) (f_f : FuncId) (f_a f_c : Array Value) (f_call : ∀ (args : Array Value) (w : World), (callFunc f_f args).run Tryd.prog w = .ok (.enter f_f args) w) (f_spec : ∀ (w1 : World) (A1 : Nat → Prop), Tr w.heap.size A w A1 w1 → (∀ b, w1.heap.size ≤ b → A1 b) → ∀ (y0 : route_Work) (v1 : Value) (h2 : Sl A1 w1 v1 y0.needs) (r : Bool), f y0 = some r → Ret Tryd.prog f_f (f_a ++ #[.agg #[.int .i64 y0.ticket, .int .i64 y0.weight, .int .i64 y0.urgency, .int .i64 y0.since, .int .i64 y0.former, v1]] ++ f_c) w1 fun v w' => v = .bool r ∧ Kp w1 w') {r : Bool} (hm : slices_ContainsFunc_Lroute_Work_route_Work s f = some r) : Ret Tryd.prog 41 #[v_s, .func (.func f_f) f_a f_c] w fun v w' => v = .bool r ∧ Kp w w' := by
  unfold slices_ContainsFunc_Lroute_Work_route_Work at hm
  refine enter Tryd.func41 rfl Tryd.ntmps41 rfl ?_
  have hA0 := hA
  have hB := Nat.le_refl w.heap.size
  have hK : Tr w.heap.size A w A w := Tr.refl hA
  have hH : Hp w.heap.size A w [] := Hp.nil
  refine C_seq ?_
  refine C_region ?_
  refine V_y (Y_assign rfl) rfl rfl rfl ?_
  refine V_to (fun _ _ => rfl) ?_
  refine C_seq ?_
  refine C_region ?_
  refine V_y (Y_move rfl) rfl rfl rfl ?_
  refine V_y (Y_move rfl) rfl rfl rfl ?_
  obtain ⟨x3, hx3, hm⟩ := Option.bind_eq_some_iff.1 hm
  refine V_call Tryd.call53 rfl rfl rfl rfl (slices_IndexFunc_Lroute_Work_route_Work_c w hA s v_s h_s f f_f f_a f_c f_call (fun w1 A1 ht => f_spec w1 A1 (Tr.trans hK ht)) hx3) ?_
  rintro _ w4 ⟨rfl, hk5⟩
  have ht6 := Kp.tr hk5 hA hB
  replace hH := Hp.kp hH hk5
  replace h_s := Sl.tr h_s ht6
  replace hK := Tr.trans hK ht6
  replace hB := Nat.le_trans hB ht6.ex.size
  replace hA := ht6.new
  refine V_y (Y_geq rfl rfl) rfl rfl rfl ?_
  refine V_y (Y_assign rfl) rfl rfl rfl ?_
  refine V_to (fun _ _ => rfl) ?_
  obtain rfl := Option.some.inj hm
  refine C_ret ?_
  try simp only [↓inBlock_ret, ↓then_ret]
  exact retQ rfl (Res.one Tryd.results41 rfl) ⟨rfl, hK.kp⟩

set_option maxRecDepth 4000 in
set_option maxHeartbeats 4000000 in
theorem route_CheckWork_1_c (w : World) {A : Nat → Prop} (hA : ∀ b, w.heap.size ≤ b → A b) (x : route_Work) (v_x : Value) (h_x : Sl A w v_x x.needs) (p1 : route_Work) (b_p1 : Nat) (h_p1 : El A w b_p1 0 p1) {r : Bool} (hm : route_CheckWork_1 x p1 = some r) : Ret Tryd.prog 42 #[.agg #[.int .i64 x.ticket, .int .i64 x.weight, .int .i64 x.urgency, .int .i64 x.since, .int .i64 x.former, v_x], .pointer (some ⟨b_p1, 0, none⟩)] w fun v w' => v = .bool r ∧ Kp w w' := by
  unfold route_CheckWork_1 at hm
  refine enter Tryd.func42 rfl Tryd.ntmps42 rfl ?_
  have hA0 := hA
  have hB := Nat.le_refl w.heap.size
  have hK : Tr w.heap.size A w A w := Tr.refl hA
  have hH : Hp w.heap.size A w [] := Hp.nil
  refine C_seq ?_
  refine C_region ?_
  refine V_box rfl rfl ?_
  intro b3 w4 h5
  have hk7 := h5.kp
  have h6 : El (α := route_Work) A w4 b3 0 x := h5.el hA ⟨[.int .i64 x.ticket], _, rfl, rfl, ⟨[.int .i64 x.weight], _, rfl, rfl, ⟨[.int .i64 x.urgency], _, rfl, rfl, ⟨[.int .i64 x.since], _, rfl, rfl, ⟨[.int .i64 x.former], _, rfl, rfl, ⟨_, rfl, h_x⟩⟩⟩⟩⟩⟩
  have ht8 := Kp.tr hk7 hA hB
  replace hH := Hp.kp hH hk7
  replace h_x := Sl.tr h_x ht8
  replace h_p1 := El.tr h_p1 ht8
  replace hK := Tr.trans hK ht8
  replace hB := Nat.le_trans hB ht8.ex.size
  replace hA := ht8.new
  refine V_y (Y_assign rfl) rfl rfl rfl ?_
  refine V_to (fun _ _ => rfl) ?_
  refine C_seq ?_
  refine C_region ?_
  have h9 := El_route_Work_0 h6
  refine V_y (Y_fieldAddr Tryd.underlying35 rfl Tryd.sizeOf3 (by decide) rfl) rfl rfl rfl ?_
  refine V_y (Y_load (El.int h9) Tryd.isAgg3 rfl) rfl rfl rfl ?_
  have h10 := El_route_Work_0 h_p1
  refine V_y (Y_fieldAddr Tryd.underlying35 rfl Tryd.sizeOf3 (by decide) rfl) rfl rfl rfl ?_
  refine V_y (Y_load (El.int h10) Tryd.isAgg3 rfl) rfl rfl rfl ?_
  refine V_y (Y_eql rfl rfl) rfl rfl rfl ?_
  refine V_y (Y_assign rfl) rfl rfl rfl ?_
  refine V_to (fun _ _ => rfl) ?_
  obtain rfl := Option.some.inj hm
  refine C_ret ?_
  try simp only [↓inBlock_ret, ↓then_ret]
  exact retQ rfl (Res.one Tryd.results42 rfl) ⟨rfl, hK.kp⟩

set_option maxRecDepth 4000 in
set_option maxHeartbeats 4000000 in
theorem route_name_c (w : World) (s : ByteArray) {r : Bool} (hm : route_name s = some r) : Ret Tryd.prog 45 #[.string s] w fun v w' => v = .bool r ∧ w = w' := by
  unfold route_name at hm
  refine enter Tryd.func45 rfl Tryd.ntmps45 rfl ?_
  refine C_seq ?_
  refine C_region ?_
  refine V_y (Y_assign rfl) rfl rfl rfl ?_
  refine V_to (fun _ _ => rfl) ?_
  refine C_seq ?_
  refine C_seq ?_
  refine C_region ?_
  refine V_y (Y_move rfl) rfl rfl rfl ?_
  refine V_y (Y_lenStr rfl Tryd.underlying9 rfl) rfl rfl rfl ?_
  refine V_y (Y_move rfl) rfl rfl rfl ?_
  refine V_to (fun _ _ => rfl) ?_
  obtain ⟨o1, ho1, hm⟩ := Option.bind_eq_some_iff.1 hm
  refine C_cutG (ι := Int) (fun (s2 : Int) => [(0, .string s)]) (fun (s2 : Int) => fun w' => o1 = .fin s2 ∧ w = w') ?_ ?_
  · refine C_block ?_
    refine C_while ho1 (fun s8 a w' => ∃ i : Unit, Has ⟨41, [], none⟩ a ([(0, .string s), (6, .int .i64 (s.size : Int)), (7, .int .i64 s8)]) ∧ w = w') (fun a ha => ⟨(), ha.sub ⟨rfl, rfl, rfl, trivial⟩, rfl⟩) ?_
    rintro K s8 a _ ⟨_, ha30, rfl⟩ K16
    refine C_of ?_ ha30
    obtain ⟨x10, h11, h12⟩ := K16
    refine C_seq ?_
    refine C_region ?_
    refine V_y (Y_lss rfl rfl) rfl rfl rfl ?_
    refine V_to (fun _ _ => rfl) ?_
    refine C_seq ?_
    refine C_cond rfl (fun hc17 => ?_) (fun hc17 => ?_)
    · rw [if_pos hc17] at h11
      refine C_skip_to (fun _ _ => rfl) ?_
      refine C_seq ?_
      refine C_block ?_
      refine C_seq ?_
      refine C_region ?_
      refine V_y (Y_move rfl) rfl rfl rfl ?_
      refine V_y (Y_assign rfl) rfl rfl rfl ?_
      refine V_to (fun _ _ => rfl) ?_
      refine C_seq ?_
      refine C_region ?_
      refine V_y (Y_move rfl) rfl rfl rfl ?_
      refine V_y (Y_move rfl) rfl rfl rfl ?_
      obtain ⟨x18, hx18, h11⟩ := Option.bind_eq_some_iff.1 h11
      refine V_y (Y_indexS hx18 Tryd.underlying9 rfl rfl) rfl rfl rfl ?_
      refine V_y (Y_assign rfl) rfl rfl rfl ?_
      refine V_to (fun _ _ => rfl) ?_
      refine C_seq ?_
      refine C_region ?_
      refine V_y (Y_move rfl) rfl rfl rfl ?_
      refine V_y (Y_geq rfl rfl) rfl rfl rfl ?_
      refine V_y (Y_move rfl) rfl rfl rfl ?_
      refine V_cut 3 (fun _ : Unit => [(0, .string s), (4, .int .u8 (x18.toNat : Int)), (6, .int .i64 (s.size : Int)), (7, .int .i64 s8), (18, .bool ((decide ((97 : Int) ≤ (x18.toNat : Int))) && (decide ((x18.toNat : Int) ≤ 122))))]) (fun _ w' => w = w') ?_ ?_
      · simp only [List.take, List.drop]
        rcases Bool.eq_false_or_eq_true (decide ((97 : Int) ≤ (x18.toNat : Int))) with hc19 | hc19
        · refine V_ge rfl rfl rfl hc19 ?_
          refine V_y (Y_move rfl) rfl rfl rfl ?_
          refine V_ge rfl rfl rfl hc19 ?_
          refine V_y (Y_leq rfl rfl) rfl rfl rfl ?_
          refine V_y (Y_pick_te rfl hc19 rfl) rfl rfl rfl ?_
          exact V_end fun a ha => ⟨(), ha.sub ⟨rfl, rfl, rfl, rfl, (by rw [hc19]; rfl), trivial⟩, rfl⟩
        · refine V_gn rfl rfl rfl hc19 rfl rfl rfl ?_
          refine V_gn rfl rfl rfl hc19 rfl rfl rfl ?_
          refine V_y (Y_pick_fe rfl hc19 rfl) rfl rfl rfl ?_
          exact V_end fun a ha => ⟨(), ha.sub ⟨rfl, rfl, rfl, rfl, (by rw [hc19]; rfl), trivial⟩, rfl⟩
      simp only [List.take, List.drop]
      rintro _ _ rfl
      refine V_y (Y_not rfl) rfl rfl rfl ?_
      refine V_y (Y_move rfl) rfl rfl rfl ?_
      refine V_cut 8 (fun _ : Unit => [(0, .string s), (4, .int .u8 (x18.toNat : Int)), (6, .int .i64 (s.size : Int)), (7, .int .i64 s8), (28, .bool ((!((decide ((97 : Int) ≤ (x18.toNat : Int))) && (decide ((x18.toNat : Int) ≤ 122)))) && (!((decide ((48 : Int) ≤ (x18.toNat : Int))) && (decide ((x18.toNat : Int) ≤ 57))))))]) (fun _ w' => w = w') ?_ ?_
      · simp only [List.take, List.drop]
        rcases Bool.eq_false_or_eq_true (!((decide ((97 : Int) ≤ (x18.toNat : Int))) && (decide ((x18.toNat : Int) ≤ 122)))) with hc21 | hc21
        · refine V_ge rfl rfl rfl hc21 ?_
          refine V_y (Y_move rfl) rfl rfl rfl ?_
          refine V_ge rfl rfl rfl hc21 ?_
          refine V_y (Y_geq rfl rfl) rfl rfl rfl ?_
          refine V_ge rfl rfl rfl hc21 ?_
          refine V_y (Y_move rfl) rfl rfl rfl ?_
          refine V_cut 3 (fun _ : Unit => [(0, .string s), (4, .int .u8 (x18.toNat : Int)), (6, .int .i64 (s.size : Int)), (7, .int .i64 s8), (20, .bool (!((decide ((97 : Int) ≤ (x18.toNat : Int))) && (decide ((x18.toNat : Int) ≤ 122))))), (26, .bool ((decide ((48 : Int) ≤ (x18.toNat : Int))) && (decide ((x18.toNat : Int) ≤ 57))))]) (fun _ w' => w = w') ?_ ?_
          · simp only [List.take, List.drop]
            rcases Bool.eq_false_or_eq_true (decide ((48 : Int) ≤ (x18.toNat : Int))) with hc23 | hc23
            · refine V_ge rfl rfl rfl hc23 ?_
              refine V_y (Y_move rfl) rfl rfl rfl ?_
              refine V_ge rfl rfl rfl hc23 ?_
              refine V_y (Y_leq rfl rfl) rfl rfl rfl ?_
              refine V_ge rfl rfl rfl hc21 ?_
              refine V_y (Y_pick_te rfl hc23 rfl) rfl rfl rfl ?_
              exact V_end fun a ha => ⟨(), ha.sub ⟨rfl, rfl, rfl, rfl, rfl, (by rw [hc23]; rfl), trivial⟩, rfl⟩
            · refine V_gn rfl rfl rfl hc23 rfl rfl rfl ?_
              refine V_gn rfl rfl rfl hc23 rfl rfl rfl ?_
              refine V_ge rfl rfl rfl hc21 ?_
              refine V_y (Y_pick_fe rfl hc23 rfl) rfl rfl rfl ?_
              exact V_end fun a ha => ⟨(), ha.sub ⟨rfl, rfl, rfl, rfl, rfl, (by rw [hc23]; rfl), trivial⟩, rfl⟩
          simp only [List.take, List.drop]
          rintro _ _ rfl
          refine V_ge rfl rfl rfl hc21 ?_
          refine V_y (Y_not rfl) rfl rfl rfl ?_
          refine V_y (Y_pick_te rfl hc21 rfl) rfl rfl rfl ?_
          exact V_end fun a ha => ⟨(), ha.sub ⟨rfl, rfl, rfl, rfl, (by rw [hc21]; rfl), trivial⟩, rfl⟩
        · refine V_gn rfl rfl rfl hc21 rfl rfl rfl ?_
          refine V_gn rfl rfl rfl hc21 rfl rfl rfl ?_
          refine V_gn rfl rfl rfl hc21 rfl rfl rfl ?_
          refine V_gu rfl rfl rfl rfl rfl ?_
          refine V_gu rfl rfl rfl rfl rfl ?_
          refine V_gn rfl rfl rfl hc21 rfl rfl rfl ?_
          refine V_gn rfl rfl rfl hc21 rfl rfl rfl ?_
          refine V_y (Y_pick_fe rfl hc21 rfl) rfl rfl rfl ?_
          exact V_end fun a ha => ⟨(), ha.sub ⟨rfl, rfl, rfl, rfl, (by rw [hc21]; rfl), trivial⟩, rfl⟩
      simp only [List.take, List.drop]
      rintro _ _ rfl
      refine V_y (Y_move rfl) rfl rfl rfl ?_
      refine V_cut 3 (fun _ : Unit => [(0, .string s), (6, .int .i64 (s.size : Int)), (7, .int .i64 s8), (32, .bool (((!((decide ((97 : Int) ≤ (x18.toNat : Int))) && (decide ((x18.toNat : Int) ≤ 122)))) && (!((decide ((48 : Int) ≤ (x18.toNat : Int))) && (decide ((x18.toNat : Int) ≤ 57))))) && ((x18.toNat : Int) != 95)))]) (fun _ w' => w = w') ?_ ?_
      · simp only [List.take, List.drop]
        rcases Bool.eq_false_or_eq_true (((!((decide ((97 : Int) ≤ (x18.toNat : Int))) && (decide ((x18.toNat : Int) ≤ 122)))) && (!((decide ((48 : Int) ≤ (x18.toNat : Int))) && (decide ((x18.toNat : Int) ≤ 57)))))) with hc25 | hc25
        · refine V_ge rfl rfl rfl hc25 ?_
          refine V_y (Y_move rfl) rfl rfl rfl ?_
          refine V_ge rfl rfl rfl hc25 ?_
          refine V_y (Y_neq rfl rfl) rfl rfl rfl ?_
          refine V_y (Y_pick_te rfl hc25 rfl) rfl rfl rfl ?_
          exact V_end fun a ha => ⟨(), ha.sub ⟨rfl, rfl, rfl, (by rw [hc25]; rfl), trivial⟩, rfl⟩
        · refine V_gn rfl rfl rfl hc25 rfl rfl rfl ?_
          refine V_gn rfl rfl rfl hc25 rfl rfl rfl ?_
          refine V_y (Y_pick_fe rfl hc25 rfl) rfl rfl rfl ?_
          exact V_end fun a ha => ⟨(), ha.sub ⟨rfl, rfl, rfl, (by rw [hc25]; rfl), trivial⟩, rfl⟩
      simp only [List.take, List.drop]
      rintro _ _ rfl
      refine V_to (fun _ _ => rfl) ?_
      refine C_cond rfl (fun hc27 => ?_) (fun hc27 => ?_)
      · rw [if_pos hc27] at h11
        refine C_seq ?_
        refine C_region ?_
        refine V_y (Y_assign rfl) rfl rfl rfl ?_
        refine V_to (fun _ _ => rfl) ?_
        obtain rfl := Option.some.inj h11
        obtain rfl := (h12 : Lp.rt _ = _)
        rw [Lp.andThen_rt] at hm
        obtain rfl := Option.some.inj hm
        refine C_ret ?_
        try simp only [↓inBlock_ret, ↓then_ret]
        exact retQ rfl (Res.one Tryd.results45 rfl) ⟨rfl, rfl⟩
      · rw [if_neg (nt hc27)] at h11
        refine C_skip_to (fun _ _ => rfl) ?_
        refine C_region ?_
        refine V_y (Y_addI rfl rfl) rfl rfl rfl ?_
        refine V_y (Y_move rfl) rfl rfl rfl ?_
        obtain rfl := Option.some.inj h11
        refine V_end (fun a ha28 => ?_)
        exact ⟨w64 (s8 + 1), h12, ⟨(), ha28.sub ⟨rfl, rfl, rfl, trivial⟩, rfl⟩⟩
    · rw [if_neg (nt hc17)] at h11
      obtain rfl := Option.some.inj h11
      refine C_exit (fun a ha29 => ?_)
      exact ⟨s8, ha29.sub ⟨rfl, trivial⟩, ⟨h12.symm, rfl⟩⟩
  rintro s2 _ ⟨rfl, rfl⟩ a ha7
  rw [Lp.andThen_fin] at hm
  refine C_at (n := ⟨41, [], none⟩) (fun _ _ => rfl) ?_ ha7
  refine C_seq ?_
  refine C_region ?_
  refine V_y (Y_move rfl) rfl rfl rfl ?_
  refine V_y (Y_sneq rfl rfl) rfl rfl rfl ?_
  refine V_y (Y_move rfl) rfl rfl rfl ?_
  refine V_cut 4 (fun _ : Unit => [(40, .bool ((!(strEq s (⟨#[]⟩ : ByteArray))) && (decide ((s.size : Int) ≤ 20))))]) (fun _ w' => w = w') ?_ ?_
  · simp only [List.take, List.drop]
    rcases Bool.eq_false_or_eq_true (!(strEq s (⟨#[]⟩ : ByteArray))) with hc31 | hc31
    · refine V_ge rfl rfl rfl hc31 ?_
      refine V_y (Y_move rfl) rfl rfl rfl ?_
      refine V_ge rfl rfl rfl hc31 ?_
      refine V_y (Y_lenStr rfl Tryd.underlying9 rfl) rfl rfl rfl ?_
      refine V_ge rfl rfl rfl hc31 ?_
      refine V_y (Y_leq rfl rfl) rfl rfl rfl ?_
      refine V_y (Y_pick_te rfl hc31 rfl) rfl rfl rfl ?_
      exact V_end fun a ha => ⟨(), ha.sub ⟨(by rw [hc31]; rfl), trivial⟩, rfl⟩
    · refine V_gn rfl rfl rfl hc31 rfl rfl rfl ?_
      refine V_gn rfl rfl rfl hc31 rfl rfl rfl ?_
      refine V_gn rfl rfl rfl hc31 rfl rfl rfl ?_
      refine V_y (Y_pick_fe rfl hc31 rfl) rfl rfl rfl ?_
      exact V_end fun a ha => ⟨(), ha.sub ⟨(by rw [hc31]; rfl), trivial⟩, rfl⟩
  simp only [List.take, List.drop]
  rintro _ _ rfl
  refine V_y (Y_assign rfl) rfl rfl rfl ?_
  refine V_to (fun _ _ => rfl) ?_
  obtain rfl := Option.some.inj hm
  refine C_ret ?_
  try simp only [↓inBlock_ret, ↓then_ret]
  exact retQ rfl (Res.one Tryd.results45 rfl) ⟨rfl, rfl⟩

set_option maxRecDepth 4000 in
set_option maxHeartbeats 4000000 in
theorem route_checkSkills_c (w : World) {A : Nat → Prop} (hA : ∀ b, w.heap.size ≤ b → A b) (l : (List route_Skill)) (v_l : Value) (h_l : Sl A w v_l l) {r : Int} (hm : route_checkSkills l = some r) : Ret Tryd.prog 34 #[v_l] w fun v w' => v = .int .i64 r ∧ Kp w w' := by
  unfold route_checkSkills at hm
  refine enter Tryd.func34 rfl Tryd.ntmps34 rfl ?_
  have hA0 := hA
  have hB := Nat.le_refl w.heap.size
  have hK : Tr w.heap.size A w A w := Tr.refl hA
  have hH : Hp w.heap.size A w [] := Hp.nil
  refine C_seq ?_
  refine C_region ?_
  refine V_y (Y_assign rfl) rfl rfl rfl ?_
  refine V_to (fun _ _ => rfl) ?_
  refine C_seq ?_
  refine C_seq ?_
  refine C_region ?_
  refine V_y (Y_move rfl) rfl rfl rfl ?_
  refine V_y (Y_lenSl h_l rfl Tryd.underlying33 rfl) rfl rfl rfl ?_
  refine V_y (Y_gtr rfl rfl) rfl rfl rfl ?_
  refine V_to (fun _ _ => rfl) ?_
  refine C_cond rfl (fun hc3 => ?_) (fun hc3 => ?_)
  · rw [if_pos hc3] at hm
    refine C_seq ?_
    refine C_region ?_
    refine V_y (Y_assign rfl) rfl rfl rfl ?_
    refine V_to (fun _ _ => rfl) ?_
    obtain rfl := Option.some.inj hm
    refine C_ret ?_
    try simp only [↓inBlock_ret, ↓then_ret]
    exact retQ rfl (Res.one Tryd.results34 rfl) ⟨rfl, hK.kp⟩
  · rw [if_neg (nt hc3)] at hm
    refine C_skip_to (fun _ _ => rfl) ?_
    refine C_seq ?_
    refine C_seq ?_
    refine C_region ?_
    refine V_y (Y_move rfl) rfl rfl rfl ?_
    refine V_y (Y_lenSl h_l rfl Tryd.underlying33 rfl) rfl rfl rfl ?_
    refine V_y (Y_move rfl) rfl rfl rfl ?_
    refine V_to (fun _ _ => rfl) ?_
    have hn25 := Sl.le h_l
    obtain ⟨o4, ho4, hm⟩ := Option.bind_eq_some_iff.1 hm
    refine C_cutG (ι := (Unit × (Nat → Prop))) (fun ⟨s5, A12⟩ => []) (fun ⟨s5, A12⟩ => fun w' => o4 = .fin s5 ∧ Hp w.heap.size A12 w' ([]) ∧ Tr w.heap.size A w A12 w') ?_ ?_
    · refine C_block ?_
      refine C_range ho4 (fun k7 _ a w' => ∃ i : (Nat → Prop), Has ⟨40, [], none⟩ a ([(0, v_l), (8, v_l), (9, .int .i64 (l.length : Int)), (10, .int .i64 (k7 : Int))]) ∧ Hp w.heap.size i w' ([]) ∧ Tr w.heap.size A w i w') (fun a ha => ⟨A, ha.sub ⟨rfl, rfl, rfl, rfl, trivial⟩, ⟨hH, Tr.refl hA⟩⟩) ?_
      rintro K k7 _ a w15 ⟨A16, ha59, hH17, hr6⟩ hle21 K24 h23
      refine C_of ?_ ha59
      replace h_l := Sl.tr h_l hr6
      replace hK := Tr.trans hK hr6
      replace hB := Nat.le_trans hB hr6.ex.size
      replace hA := hr6.new
      replace hH : Hp w.heap.size A16 w15 ([]) := hH17
      refine C_seq (C_region (V_y (Y_lss rfl rfl) rfl rfl rfl (V_to (fun _ _ => rfl) ?_)))
      refine C_seq ?_
      refine C_cond rfl (fun hc26 => ?_) (fun hc26 => ?_)
      · have hlt22 := lt_of_dec hc26
        obtain ⟨x18, h19, h20⟩ := K24 hlt22
        refine C_skip_to (fun _ _ => rfl) ?_
        refine C_seq ?_
        refine C_block ?_
        refine C_seq ?_
        refine C_region ?_
        refine V_y (Y_move rfl) rfl rfl rfl ?_
        obtain ⟨x27, hx27, h19⟩ := Option.bind_eq_some_iff.1 h19
        refine V_indexAddr h_l hx27 Tryd.underlying33 Tryd.sizeOf42 rfl rfl rfl ?_
        intro b28 o29 h30
        obtain ⟨h31, _⟩ := El_route_Skill h30
        refine V_y (Y_loadA h31 Tryd.isAgg42 Tryd.sizeOf42 rfl) rfl rfl rfl ?_
        refine V_alloc Tryd.zeroValue42 rfl ?_
        intro b32 w33 h34
        refine V_y (Y_assign rfl) rfl rfl rfl ?_
        refine V_storeNew h34 Tryd.sizeOf42 rfl rfl rfl rfl (by exact (List.forall_mem_cons.2 ⟨rfl, (List.forall_mem_cons.2 ⟨rfl, (fun _ h => nomatch h)⟩)⟩)) ?_
        intro w35 h36
        have hk38 := h36.kp
        have h37 : El (α := route_Skill) A16 w35 b32 0 x27 := h36.el hA ⟨[.string x27.name], _, rfl, rfl, rfl⟩
        have ht39 := Kp.tr hk38 hA hB
        replace hH := Hp.kp hH hk38
        replace h_l := Sl.tr h_l ht39
        replace h30 := El.tr h30 ht39
        replace hK := Tr.trans hK ht39
        replace hr6 := Tr.trans hr6 ht39
        replace hB := Nat.le_trans hB ht39.ex.size
        replace hA := ht39.new
        refine V_to (fun _ _ => rfl) ?_
        refine C_block ?_
        refine C_seq ?_
        refine C_region ?_
        have h40 := El_route_Skill_0 h37
        refine V_y (Y_fieldAddr Tryd.underlying42 rfl Tryd.sizeOf9 (by decide) rfl) rfl rfl rfl ?_
        refine V_y (Y_load (El.str h40) Tryd.isAgg9 rfl) rfl rfl rfl ?_
        obtain ⟨x41, hx41, h19⟩ := Option.bind_eq_some_iff.1 h19
        refine V_call Tryd.call45 rfl rfl rfl rfl (route_name_c w35 x27.name hx41) ?_
        rintro _ _ ⟨rfl, rfl⟩
        refine V_y (Y_not rfl) rfl rfl rfl ?_
        refine V_y (Y_assign rfl) rfl rfl rfl ?_
        refine V_to (fun _ _ => rfl) ?_
        refine C_cond rfl (fun hc42 => ?_) (fun hc42 => ?_)
        · rw [if_pos hc42] at h19
          refine C_seq ?_
          refine C_region ?_
          refine V_y (Y_assign rfl) rfl rfl rfl ?_
          refine V_to (fun _ _ => rfl) ?_
          obtain rfl := Option.some.inj h19
          obtain rfl := (h20 : Lp.rt _ = _)
          rw [Lp.andThen_rt] at hm
          obtain rfl := Option.some.inj hm
          refine C_ret ?_
          try simp only [↓inBlock_ret, ↓then_ret]
          exact retQ rfl (Res.one Tryd.results34 rfl) ⟨rfl, hK.kp⟩
        · rw [if_neg (nt hc42)] at h19
          refine C_seq ?_
          refine C_region_q Tryd_mixed (by kernel_rfl) ?_
          refine VQ_y (fun w' hw' => Y_move rfl) rfl rfl rfl ?_
          refine VQ_y (fun w' hw' => Y_gtr rfl rfl) rfl rfl rfl ?_
          refine VQ_y (fun w' hw' => Y_move rfl) rfl rfl rfl ?_
          obtain ⟨s44, hs44, h19⟩ := Option.bind_eq_some_iff.1 h19
          refine VQ_cut 10 (fun _ : Unit => [(0, v_l), (4, .pointer (some ⟨b32, 0, none⟩)), (8, v_l), (9, .int .i64 (l.length : Int)), (10, .int .i64 (k7 : Int)), (33, .bool s44)]) (fun _ => True) ?_ ?_
          · simp only [List.take, List.drop]
            rcases Bool.eq_false_or_eq_true (decide ((0 : Int) < (k7 : Int))) with hc43 | hc43
            · rw [if_pos hc43] at hs44
              refine VQ_ge rfl rfl rfl hc43 ?_
              have h45 := El_route_Skill_0 h37
              refine VQ_y (fun w' hw' => Y_fieldAddr Tryd.underlying42 rfl Tryd.sizeOf9 (by decide) rfl) rfl rfl rfl ?_
              refine VQ_ge rfl rfl rfl hc43 ?_
              refine VQ_y (fun w' hw' => Y_load (El.str (El.kp h45 hw')) Tryd.isAgg9 rfl) rfl rfl rfl ?_
              refine VQ_ge rfl rfl rfl hc43 ?_
              refine VQ_y (fun w' hw' => Y_move rfl) rfl rfl rfl ?_
              refine VQ_ge rfl rfl rfl hc43 ?_
              refine VQ_y (fun w' hw' => Y_move rfl) rfl rfl rfl ?_
              refine VQ_ge rfl rfl rfl hc43 ?_
              refine VQ_y (fun w' hw' => Y_subI rfl rfl) rfl rfl rfl ?_
              refine VQ_ge rfl rfl rfl hc43 ?_
              obtain ⟨x46, hx46, hs44⟩ := Option.bind_eq_some_iff.1 hs44
              refine VQ_indexAddr h_l hx46 Tryd.underlying33 Tryd.sizeOf42 rfl rfl rfl ?_
              intro b47 o48 h49
              refine VQ_ge rfl rfl rfl hc43 ?_
              have h50 := El_route_Skill_0 h49
              refine VQ_y (fun w' hw' => Y_fieldAddr Tryd.underlying42 rfl Tryd.sizeOf9 (by decide) rfl) rfl rfl rfl ?_
              refine VQ_ge rfl rfl rfl hc43 ?_
              refine VQ_y (fun w' hw' => Y_load (El.str (El.kp h50 hw')) Tryd.isAgg9 rfl) rfl rfl rfl ?_
              refine VQ_ge rfl rfl rfl hc43 ?_
              refine VQ_y (fun w' hw' => Y_sleq rfl rfl) rfl rfl rfl ?_
              refine VQ_y (fun _ _ => Y_pick_te rfl hc43 rfl) rfl rfl rfl ?_
              obtain rfl := Option.some.inj hs44
              exact VQ_end fun a ha => ⟨(), ha.sub ⟨rfl, rfl, rfl, rfl, rfl, rfl, trivial⟩, trivial⟩
            · rw [if_neg (nt hc43)] at hs44
              refine VQ_gn rfl rfl rfl hc43 rfl rfl rfl ?_
              refine VQ_gn rfl rfl rfl hc43 rfl rfl rfl ?_
              refine VQ_gn rfl rfl rfl hc43 rfl rfl rfl ?_
              refine VQ_gn rfl rfl rfl hc43 rfl rfl rfl ?_
              refine VQ_gn rfl rfl rfl hc43 rfl rfl rfl ?_
              refine VQ_gn rfl rfl rfl hc43 rfl rfl rfl ?_
              refine VQ_gn rfl rfl rfl hc43 rfl rfl rfl ?_
              refine VQ_gn rfl rfl rfl hc43 rfl rfl rfl ?_
              refine VQ_gn rfl rfl rfl hc43 rfl rfl rfl ?_
              refine VQ_y (fun _ _ => Y_pick_fe rfl hc43 rfl) rfl rfl rfl ?_
              obtain rfl := Option.some.inj hs44
              exact VQ_end fun a ha => ⟨(), ha.sub ⟨rfl, rfl, rfl, rfl, rfl, rfl, trivial⟩, trivial⟩
          simp only [List.take, List.drop]
          rintro _ _
          refine VQ_y (fun w' hw' => Y_assign rfl) rfl rfl rfl ?_
          refine VQ_to (fun _ _ => rfl) (fun w51 hk52 => ?_)
          have ht53 := Kp.tr hk52 hA hB
          replace hH := Hp.kp hH hk52
          replace h_l := Sl.tr h_l ht53
          replace h37 := El.tr h37 ht53
          replace hK := Tr.trans hK ht53
          replace hr6 := Tr.trans hr6 ht53
          replace hB := Nat.le_trans hB ht53.ex.size
          replace hA := ht53.new
          refine C_cond rfl (fun hc54 => ?_) (fun hc54 => ?_)
          · rw [if_pos hc54] at h19
            refine C_seq ?_
            refine C_region ?_
            refine V_y (Y_assign rfl) rfl rfl rfl ?_
            refine V_to (fun _ _ => rfl) ?_
            obtain rfl := Option.some.inj h19
            obtain rfl := (h20 : Lp.rt _ = _)
            rw [Lp.andThen_rt] at hm
            obtain rfl := Option.some.inj hm
            refine C_ret ?_
            try simp only [↓inBlock_ret, ↓then_ret]
            exact retQ rfl (Res.one Tryd.results34 rfl) ⟨rfl, hK.kp⟩
          · rw [if_neg (nt hc54)] at h19
            refine C_seq ?_
            refine C_region ?_
            have h55 := El_route_Skill_1 h37
            refine V_y (Y_fieldAddr Tryd.underlying42 rfl Tryd.sizeOf3 (by decide) rfl) rfl rfl rfl ?_
            refine V_y (Y_load (El.int h55) Tryd.isAgg3 rfl) rfl rfl rfl ?_
            refine V_call Tryd.call39 rfl rfl rfl rfl (route_within_c w51 x27.rank 1 9) ?_
            rintro _ _ ⟨rfl, rfl⟩
            refine V_y (Y_not rfl) rfl rfl rfl ?_
            refine V_y (Y_assign rfl) rfl rfl rfl ?_
            refine V_to (fun _ _ => rfl) ?_
            refine C_cond rfl (fun hc56 => ?_) (fun hc56 => ?_)
            · rw [if_pos hc56] at h19
              refine C_seq ?_
              refine C_region ?_
              refine V_y (Y_assign rfl) rfl rfl rfl ?_
              refine V_to (fun _ _ => rfl) ?_
              obtain rfl := Option.some.inj h19
              obtain rfl := (h20 : Lp.rt _ = _)
              rw [Lp.andThen_rt] at hm
              obtain rfl := Option.some.inj hm
              refine C_ret ?_
              try simp only [↓inBlock_ret, ↓then_ret]
              exact retQ rfl (Res.one Tryd.results34 rfl) ⟨rfl, hK.kp⟩
            · rw [if_neg (nt hc56)] at h19
              refine C_skip_to (fun _ _ => rfl) ?_
              refine C_region ?_
              refine V_y (Y_addI rfl rfl) rfl rfl rfl ?_
              refine V_y (Y_move rfl) rfl rfl rfl ?_
              obtain rfl := Option.some.inj h19
              refine V_end (fun a ha57 => ?_)
              exact ⟨(), hlt22, h20, ⟨A16, ha57.sub ⟨rfl, rfl, rfl, (congrArg (fun z => some (Value.int .i64 z)) (w64_succ hlt22 hn25)), trivial⟩, ⟨hH, hr6⟩⟩⟩
      · refine C_exit (fun a ha58 => ?_)
        exact ⟨((), A16), ha58.sub trivial, ⟨(h23 (eq_of_dec hle21 hc26)).symm, hH, hr6⟩⟩
    rintro ⟨s5, A12⟩ w9 ⟨rfl, hH13, hk10⟩ a ha11
    rw [Lp.andThen_fin] at hm
    replace hK := Tr.trans hK hk10
    replace hB := Nat.le_trans hB hk10.ex.size
    replace hA := hk10.new
    replace hH : Hp w.heap.size A12 w9 ([]) := hH13
    refine C_at (n := ⟨40, [], none⟩) (fun _ _ => rfl) ?_ ha11
    refine C_seq ?_
    refine C_region ?_
    refine V_y (Y_assign rfl) rfl rfl rfl ?_
    refine V_to (fun _ _ => rfl) ?_
    obtain rfl := Option.some.inj hm
    refine C_ret ?_
    try simp only [↓inBlock_ret, ↓then_ret]
    exact retQ rfl (Res.one Tryd.results34 rfl) ⟨rfl, hK.kp⟩

set_option maxRecDepth 4000 in
set_option maxHeartbeats 4000000 in
theorem route_CheckWork_c (w : World) {A : Nat → Prop} (hA : ∀ b, w.heap.size ≤ b → A b) (l : (List route_Work)) (v_l : Value) (h_l : Sl A w v_l l) {r : Int} (hm : route_CheckWork l = some r) : Ret Tryd.prog 26 #[v_l] w fun v w' => v = .int .i64 r ∧ Kp w w' := by
  unfold route_CheckWork at hm
  refine enter Tryd.func26 rfl Tryd.ntmps26 rfl ?_
  have hA0 := hA
  have hB := Nat.le_refl w.heap.size
  have hK : Tr w.heap.size A w A w := Tr.refl hA
  have hH : Hp w.heap.size A w [] := Hp.nil
  refine C_seq ?_
  refine C_region ?_
  refine V_y (Y_assign rfl) rfl rfl rfl ?_
  refine V_to (fun _ _ => rfl) ?_
  refine C_seq ?_
  refine C_seq ?_
  refine C_region ?_
  refine V_y (Y_move rfl) rfl rfl rfl ?_
  refine V_y (Y_lenSl h_l rfl Tryd.underlying53 rfl) rfl rfl rfl ?_
  refine V_y (Y_gtr rfl rfl) rfl rfl rfl ?_
  refine V_to (fun _ _ => rfl) ?_
  refine C_cond rfl (fun hc3 => ?_) (fun hc3 => ?_)
  · rw [if_pos hc3] at hm
    refine C_seq ?_
    refine C_region ?_
    refine V_y (Y_assign rfl) rfl rfl rfl ?_
    refine V_to (fun _ _ => rfl) ?_
    obtain rfl := Option.some.inj hm
    refine C_ret ?_
    try simp only [↓inBlock_ret, ↓then_ret]
    exact retQ rfl (Res.one Tryd.results26 rfl) ⟨rfl, hK.kp⟩
  · rw [if_neg (nt hc3)] at hm
    refine C_skip_to (fun _ _ => rfl) ?_
    refine C_seq ?_
    refine C_seq ?_
    refine C_region ?_
    refine V_y (Y_move rfl) rfl rfl rfl ?_
    refine V_y (Y_lenSl h_l rfl Tryd.underlying53 rfl) rfl rfl rfl ?_
    refine V_y (Y_move rfl) rfl rfl rfl ?_
    refine V_to (fun _ _ => rfl) ?_
    have hn25 := Sl.le h_l
    obtain ⟨o4, ho4, hm⟩ := Option.bind_eq_some_iff.1 hm
    refine C_cutG (ι := (Unit × (Nat → Prop))) (fun ⟨s5, A12⟩ => []) (fun ⟨s5, A12⟩ => fun w' => o4 = .fin s5 ∧ Hp w.heap.size A12 w' ([]) ∧ Tr w.heap.size A w A12 w') ?_ ?_
    · refine C_block ?_
      refine C_range ho4 (fun k7 _ a w' => ∃ i : (Nat → Prop), Has ⟨57, [], none⟩ a ([(0, v_l), (9, v_l), (10, .int .i64 (l.length : Int)), (11, .int .i64 (k7 : Int))]) ∧ Hp w.heap.size i w' ([]) ∧ Tr w.heap.size A w i w') (fun a ha => ⟨A, ha.sub ⟨rfl, rfl, rfl, rfl, trivial⟩, ⟨hH, Tr.refl hA⟩⟩) ?_
      rintro K k7 _ a w15 ⟨A16, ha88, hH17, hr6⟩ hle21 K24 h23
      refine C_of ?_ ha88
      replace h_l := Sl.tr h_l hr6
      replace hK := Tr.trans hK hr6
      replace hB := Nat.le_trans hB hr6.ex.size
      replace hA := hr6.new
      replace hH : Hp w.heap.size A16 w15 ([]) := hH17
      refine C_seq (C_region (V_y (Y_lss rfl rfl) rfl rfl rfl (V_to (fun _ _ => rfl) ?_)))
      refine C_seq ?_
      refine C_cond rfl (fun hc26 => ?_) (fun hc26 => ?_)
      · have hlt22 := lt_of_dec hc26
        obtain ⟨x18, h19, h20⟩ := K24 hlt22
        refine C_skip_to (fun _ _ => rfl) ?_
        refine C_seq ?_
        refine C_block ?_
        refine C_seq ?_
        refine C_region ?_
        refine V_y (Y_move rfl) rfl rfl rfl ?_
        obtain ⟨x27, hx27, h19⟩ := Option.bind_eq_some_iff.1 h19
        refine V_indexAddr h_l hx27 Tryd.underlying53 Tryd.sizeOf35 rfl rfl rfl ?_
        intro b28 o29 h30
        obtain ⟨v31, h33, h32⟩ := El_route_Work h30
        refine V_y (Y_loadA h33 Tryd.isAgg35 Tryd.sizeOf35 rfl) rfl rfl rfl ?_
        refine V_alloc Tryd.zeroValue35 rfl ?_
        intro b34 w35 h36
        refine V_y (Y_assign rfl) rfl rfl rfl ?_
        have h41 : (v31).oneCell' = true := by obtain ⟨_, _, e, _⟩ := Sl.form h32; rw [e]; rfl
        refine V_storeNew h36 Tryd.sizeOf35 rfl rfl rfl rfl (by exact (List.forall_mem_cons.2 ⟨rfl, (List.forall_mem_cons.2 ⟨rfl, (List.forall_mem_cons.2 ⟨rfl, (List.forall_mem_cons.2 ⟨rfl, (List.forall_mem_cons.2 ⟨rfl, (List.forall_mem_cons.2 ⟨h41, (fun _ h => nomatch h)⟩)⟩)⟩)⟩)⟩)⟩)) ?_
        intro w37 h38
        have hk43 := h38.kp
        have h42 : El (α := route_Work) A16 w37 b34 0 x27 := h38.el hA ⟨[.int .i64 x27.ticket], _, rfl, rfl, ⟨[.int .i64 x27.weight], _, rfl, rfl, ⟨[.int .i64 x27.urgency], _, rfl, rfl, ⟨[.int .i64 x27.since], _, rfl, rfl, ⟨[.int .i64 x27.former], _, rfl, rfl, ⟨_, rfl, h32⟩⟩⟩⟩⟩⟩
        have ht44 := Kp.tr hk43 hA hB
        replace hH := Hp.kp hH hk43
        replace h_l := Sl.tr h_l ht44
        replace h30 := El.tr h30 ht44
        replace h32 := Sl.tr h32 ht44
        replace hK := Tr.trans hK ht44
        replace hr6 := Tr.trans hr6 ht44
        replace hB := Nat.le_trans hB ht44.ex.size
        replace hA := ht44.new
        refine V_to (fun _ _ => rfl) ?_
        refine C_seq ?_
        refine C_block ?_
        refine C_seq ?_
        refine C_region ?_
        have h45 := El_route_Work_0 h42
        refine V_y (Y_fieldAddr Tryd.underlying35 rfl Tryd.sizeOf3 (by decide) rfl) rfl rfl rfl ?_
        refine V_y (Y_load (El.int h45) Tryd.isAgg3 rfl) rfl rfl rfl ?_
        refine V_call Tryd.call39 rfl rfl rfl rfl (route_within_c w37 x27.ticket 1 400) ?_
        rintro _ _ ⟨rfl, rfl⟩
        refine V_y (Y_not rfl) rfl rfl rfl ?_
        refine V_y (Y_assign rfl) rfl rfl rfl ?_
        refine V_to (fun _ _ => rfl) ?_
        refine C_cond rfl (fun hc46 => ?_) (fun hc46 => ?_)
        · rw [if_pos hc46] at h19
          refine C_seq ?_
          refine C_region ?_
          refine V_y (Y_assign rfl) rfl rfl rfl ?_
          refine V_to (fun _ _ => rfl) ?_
          obtain rfl := Option.some.inj h19
          obtain rfl := (h20 : Lp.rt _ = _)
          rw [Lp.andThen_rt] at hm
          obtain rfl := Option.some.inj hm
          refine C_ret ?_
          try simp only [↓inBlock_ret, ↓then_ret]
          exact retQ rfl (Res.one Tryd.results26 rfl) ⟨rfl, hK.kp⟩
        · rw [if_neg (nt hc46)] at h19
          refine C_seq ?_
          refine C_region ?_
          refine V_y (Y_move rfl) rfl rfl rfl ?_
          refine V_y (Y_move rfl) rfl rfl rfl ?_
          obtain ⟨x47, hx47, h19⟩ := Option.bind_eq_some_iff.1 h19
          obtain ⟨v48, h49, h49y⟩ := sliceL_val hx47 h_l
          refine V_y (Y_sliceLH h49y Tryd.underlying53 Tryd.sizeOf35 rfl rfl) rfl rfl rfl ?_
          refine V_y (Y_makeFunc rfl rfl) rfl rfl rfl ?_
          obtain ⟨x51, hx51, h19⟩ := Option.bind_eq_some_iff.1 h19
          refine V_call Tryd.call41 rfl rfl rfl rfl (slices_ContainsFunc_Lroute_Work_route_Work_c w37 hA x47 v48 h49 (fun y61 => route_CheckWork_1 y61 x27) 42 #[] #[.pointer (some ⟨b34, 0, none⟩)] Tryd.call42 (fun w57 A58 ht59 h60 y52 v53 h54 r55 h56 => (route_CheckWork_1_c w57 h60 y52 v53 h54 x27 b34 (El.tr h42 ht59) h56).mono (fun _ _ h => ⟨h.1, h.2⟩)) hx51) ?_
          rintro _ w62 ⟨rfl, hk63⟩
          have ht64 := Kp.tr hk63 hA hB
          replace hH := Hp.kp hH hk63
          replace h_l := Sl.tr h_l ht64
          replace h42 := El.tr h42 ht64
          replace h49 := Sl.tr h49 ht64
          replace hK := Tr.trans hK ht64
          replace hr6 := Tr.trans hr6 ht64
          replace hB := Nat.le_trans hB ht64.ex.size
          replace hA := ht64.new
          refine V_y (Y_assign rfl) rfl rfl rfl ?_
          refine V_to (fun _ _ => rfl) ?_
          refine C_cond rfl (fun hc65 => ?_) (fun hc65 => ?_)
          · rw [if_pos hc65] at h19
            refine C_seq ?_
            refine C_region ?_
            refine V_y (Y_assign rfl) rfl rfl rfl ?_
            refine V_to (fun _ _ => rfl) ?_
            obtain rfl := Option.some.inj h19
            obtain rfl := (h20 : Lp.rt _ = _)
            rw [Lp.andThen_rt] at hm
            obtain rfl := Option.some.inj hm
            refine C_ret ?_
            try simp only [↓inBlock_ret, ↓then_ret]
            exact retQ rfl (Res.one Tryd.results26 rfl) ⟨rfl, hK.kp⟩
          · rw [if_neg (nt hc65)] at h19
            refine C_seq ?_
            refine C_region ?_
            have h66 := El_route_Work_1 h42
            refine V_y (Y_fieldAddr Tryd.underlying35 rfl Tryd.sizeOf3 (by decide) rfl) rfl rfl rfl ?_
            refine V_y (Y_load (El.int h66) Tryd.isAgg3 rfl) rfl rfl rfl ?_
            refine V_call Tryd.call39 rfl rfl rfl rfl (route_within_c w62 x27.weight 1 20) ?_
            rintro _ _ ⟨rfl, rfl⟩
            refine V_y (Y_not rfl) rfl rfl rfl ?_
            refine V_y (Y_move rfl) rfl rfl rfl ?_
            refine V_cut 5 (fun _ : Unit => [(0, v_l), (4, .pointer (some ⟨b34, 0, none⟩)), (9, v_l), (10, .int .i64 (l.length : Int)), (11, .int .i64 (k7 : Int)), (37, .bool ((!(route_within x27.weight 1 20)) || (!(route_within x27.urgency 0 9))))]) (fun _ w' => w62 = w') ?_ ?_
            · simp only [List.take, List.drop]
              rcases Bool.eq_false_or_eq_true (!(route_within x27.weight 1 20)) with hc67 | hc67
              · refine V_gn rfl rfl rfl hc67 rfl rfl rfl ?_
                refine V_gn rfl rfl rfl hc67 rfl rfl rfl ?_
                refine V_gn rfl rfl rfl hc67 rfl rfl rfl ?_
                refine V_gn rfl rfl rfl hc67 rfl rfl rfl ?_
                refine V_y (Y_pick_te rfl hc67 rfl) rfl rfl rfl ?_
                exact V_end fun a ha => ⟨(), ha.sub ⟨rfl, rfl, rfl, rfl, rfl, (by rw [hc67]; rfl), trivial⟩, rfl⟩
              · refine V_ge rfl rfl rfl hc67 ?_
                have h69 := El_route_Work_2 h42
                refine V_y (Y_fieldAddr Tryd.underlying35 rfl Tryd.sizeOf3 (by decide) rfl) rfl rfl rfl ?_
                refine V_ge rfl rfl rfl hc67 ?_
                refine V_y (Y_load (El.int h69) Tryd.isAgg3 rfl) rfl rfl rfl ?_
                refine V_ge rfl rfl rfl hc67 ?_
                refine V_call Tryd.call39 rfl rfl rfl rfl (route_within_c w62 x27.urgency 0 9) ?_
                rintro _ _ ⟨rfl, rfl⟩
                refine V_ge rfl rfl rfl hc67 ?_
                refine V_y (Y_not rfl) rfl rfl rfl ?_
                refine V_y (Y_pick_fe rfl hc67 rfl) rfl rfl rfl ?_
                exact V_end fun a ha => ⟨(), ha.sub ⟨rfl, rfl, rfl, rfl, rfl, (by rw [hc67]; rfl), trivial⟩, rfl⟩
            simp only [List.take, List.drop]
            rintro _ _ rfl
            refine V_y (Y_move rfl) rfl rfl rfl ?_
            refine V_cut 5 (fun _ : Unit => [(0, v_l), (4, .pointer (some ⟨b34, 0, none⟩)), (9, v_l), (10, .int .i64 (l.length : Int)), (11, .int .i64 (k7 : Int)), (43, .bool (((!(route_within x27.weight 1 20)) || (!(route_within x27.urgency 0 9))) || (!(route_within x27.since 0 3000000))))]) (fun _ w' => w62 = w') ?_ ?_
            · simp only [List.take, List.drop]
              rcases Bool.eq_false_or_eq_true (((!(route_within x27.weight 1 20)) || (!(route_within x27.urgency 0 9)))) with hc70 | hc70
              · refine V_gn rfl rfl rfl hc70 rfl rfl rfl ?_
                refine V_gn rfl rfl rfl hc70 rfl rfl rfl ?_
                refine V_gn rfl rfl rfl hc70 rfl rfl rfl ?_
                refine V_gn rfl rfl rfl hc70 rfl rfl rfl ?_
                refine V_y (Y_pick_te rfl hc70 rfl) rfl rfl rfl ?_
                exact V_end fun a ha => ⟨(), ha.sub ⟨rfl, rfl, rfl, rfl, rfl, (by rw [hc70]; rfl), trivial⟩, rfl⟩
              · refine V_ge rfl rfl rfl hc70 ?_
                have h72 := El_route_Work_3 h42
                refine V_y (Y_fieldAddr Tryd.underlying35 rfl Tryd.sizeOf3 (by decide) rfl) rfl rfl rfl ?_
                refine V_ge rfl rfl rfl hc70 ?_
                refine V_y (Y_load (El.int h72) Tryd.isAgg3 rfl) rfl rfl rfl ?_
                refine V_ge rfl rfl rfl hc70 ?_
                refine V_call Tryd.call39 rfl rfl rfl rfl (route_within_c w62 x27.since 0 3000000) ?_
                rintro _ _ ⟨rfl, rfl⟩
                refine V_ge rfl rfl rfl hc70 ?_
                refine V_y (Y_not rfl) rfl rfl rfl ?_
                refine V_y (Y_pick_fe rfl hc70 rfl) rfl rfl rfl ?_
                exact V_end fun a ha => ⟨(), ha.sub ⟨rfl, rfl, rfl, rfl, rfl, (by rw [hc70]; rfl), trivial⟩, rfl⟩
            simp only [List.take, List.drop]
            rintro _ _ rfl
            refine V_y (Y_move rfl) rfl rfl rfl ?_
            refine V_cut 5 (fun _ : Unit => [(0, v_l), (4, .pointer (some ⟨b34, 0, none⟩)), (9, v_l), (10, .int .i64 (l.length : Int)), (11, .int .i64 (k7 : Int)), (49, .bool ((((!(route_within x27.weight 1 20)) || (!(route_within x27.urgency 0 9))) || (!(route_within x27.since 0 3000000))) || (!(route_within x27.former 0 40))))]) (fun _ w' => w62 = w') ?_ ?_
            · simp only [List.take, List.drop]
              rcases Bool.eq_false_or_eq_true ((((!(route_within x27.weight 1 20)) || (!(route_within x27.urgency 0 9))) || (!(route_within x27.since 0 3000000)))) with hc73 | hc73
              · refine V_gn rfl rfl rfl hc73 rfl rfl rfl ?_
                refine V_gn rfl rfl rfl hc73 rfl rfl rfl ?_
                refine V_gn rfl rfl rfl hc73 rfl rfl rfl ?_
                refine V_gn rfl rfl rfl hc73 rfl rfl rfl ?_
                refine V_y (Y_pick_te rfl hc73 rfl) rfl rfl rfl ?_
                exact V_end fun a ha => ⟨(), ha.sub ⟨rfl, rfl, rfl, rfl, rfl, (by rw [hc73]; rfl), trivial⟩, rfl⟩
              · refine V_ge rfl rfl rfl hc73 ?_
                have h75 := El_route_Work_4 h42
                refine V_y (Y_fieldAddr Tryd.underlying35 rfl Tryd.sizeOf3 (by decide) rfl) rfl rfl rfl ?_
                refine V_ge rfl rfl rfl hc73 ?_
                refine V_y (Y_load (El.int h75) Tryd.isAgg3 rfl) rfl rfl rfl ?_
                refine V_ge rfl rfl rfl hc73 ?_
                refine V_call Tryd.call39 rfl rfl rfl rfl (route_within_c w62 x27.former 0 40) ?_
                rintro _ _ ⟨rfl, rfl⟩
                refine V_ge rfl rfl rfl hc73 ?_
                refine V_y (Y_not rfl) rfl rfl rfl ?_
                refine V_y (Y_pick_fe rfl hc73 rfl) rfl rfl rfl ?_
                exact V_end fun a ha => ⟨(), ha.sub ⟨rfl, rfl, rfl, rfl, rfl, (by rw [hc73]; rfl), trivial⟩, rfl⟩
            simp only [List.take, List.drop]
            rintro _ _ rfl
            refine V_y (Y_assign rfl) rfl rfl rfl ?_
            refine V_to (fun _ _ => rfl) ?_
            refine C_cond rfl (fun hc76 => ?_) (fun hc76 => ?_)
            · rw [if_pos hc76] at h19
              refine C_seq ?_
              refine C_region ?_
              refine V_y (Y_assign rfl) rfl rfl rfl ?_
              refine V_to (fun _ _ => rfl) ?_
              obtain rfl := Option.some.inj h19
              obtain rfl := (h20 : Lp.rt _ = _)
              rw [Lp.andThen_rt] at hm
              obtain rfl := Option.some.inj hm
              refine C_ret ?_
              try simp only [↓inBlock_ret, ↓then_ret]
              exact retQ rfl (Res.one Tryd.results26 rfl) ⟨rfl, hK.kp⟩
            · rw [if_neg (nt hc76)] at h19
              refine C_skip_to (fun _ _ => rfl) ?_
              refine C_seq ?_
              refine C_region ?_
              have h77 := El_route_Work_5 h42
              refine V_y (Y_fieldAddr Tryd.underlying35 rfl Tryd.sizeOf33 (by decide) rfl) rfl rfl rfl ?_
              obtain ⟨v78, h79, h80⟩ := El.list h77
              refine V_y (Y_load h79 Tryd.isAgg33 rfl) rfl rfl rfl ?_
              obtain ⟨x81, hx81, h19⟩ := Option.bind_eq_some_iff.1 h19
              refine V_call Tryd.call34 rfl rfl rfl rfl (route_checkSkills_c w62 hA x27.needs v78 h80 hx81) ?_
              rintro _ w82 ⟨rfl, hk83⟩
              have ht84 := Kp.tr hk83 hA hB
              replace hH := Hp.kp hH hk83
              replace h_l := Sl.tr h_l ht84
              replace h42 := El.tr h42 ht84
              replace h77 := El.tr h77 ht84
              replace h80 := Sl.tr h80 ht84
              replace hK := Tr.trans hK ht84
              replace hr6 := Tr.trans hr6 ht84
              replace hB := Nat.le_trans hB ht84.ex.size
              replace hA := ht84.new
              refine V_y (Y_assign rfl) rfl rfl rfl ?_
              refine V_to (fun _ _ => rfl) ?_
              refine C_seq ?_
              refine C_region ?_
              refine V_y (Y_move rfl) rfl rfl rfl ?_
              refine V_y (Y_neq rfl rfl) rfl rfl rfl ?_
              refine V_to (fun _ _ => rfl) ?_
              refine C_cond rfl (fun hc85 => ?_) (fun hc85 => ?_)
              · rw [if_pos hc85] at h19
                refine C_seq ?_
                refine C_region ?_
                refine V_y (Y_move rfl) rfl rfl rfl ?_
                refine V_y (Y_assign rfl) rfl rfl rfl ?_
                refine V_to (fun _ _ => rfl) ?_
                obtain rfl := Option.some.inj h19
                obtain rfl := (h20 : Lp.rt _ = _)
                rw [Lp.andThen_rt] at hm
                obtain rfl := Option.some.inj hm
                refine C_ret ?_
                try simp only [↓inBlock_ret, ↓then_ret]
                exact retQ rfl (Res.one Tryd.results26 rfl) ⟨rfl, hK.kp⟩
              · rw [if_neg (nt hc85)] at h19
                refine C_skip_to (fun _ _ => rfl) ?_
                refine C_region ?_
                refine V_y (Y_addI rfl rfl) rfl rfl rfl ?_
                refine V_y (Y_move rfl) rfl rfl rfl ?_
                obtain rfl := Option.some.inj h19
                refine V_end (fun a ha86 => ?_)
                exact ⟨(), hlt22, h20, ⟨A16, ha86.sub ⟨rfl, rfl, rfl, (congrArg (fun z => some (Value.int .i64 z)) (w64_succ hlt22 hn25)), trivial⟩, ⟨hH, hr6⟩⟩⟩
      · refine C_exit (fun a ha87 => ?_)
        exact ⟨((), A16), ha87.sub trivial, ⟨(h23 (eq_of_dec hle21 hc26)).symm, hH, hr6⟩⟩
    rintro ⟨s5, A12⟩ w9 ⟨rfl, hH13, hk10⟩ a ha11
    rw [Lp.andThen_fin] at hm
    replace hK := Tr.trans hK hk10
    replace hB := Nat.le_trans hB hk10.ex.size
    replace hA := hk10.new
    replace hH : Hp w.heap.size A12 w9 ([]) := hH13
    refine C_at (n := ⟨57, [], none⟩) (fun _ _ => rfl) ?_ ha11
    refine C_seq ?_
    refine C_region ?_
    refine V_y (Y_assign rfl) rfl rfl rfl ?_
    refine V_to (fun _ _ => rfl) ?_
    obtain rfl := Option.some.inj hm
    refine C_ret ?_
    try simp only [↓inBlock_ret, ↓then_ret]
    exact retQ rfl (Res.one Tryd.results26 rfl) ⟨rfl, hK.kp⟩

set_option maxRecDepth 4000 in
set_option maxHeartbeats 4000000 in
theorem route_CheckSteps_c (w : World) {A : Nat → Prop} (hA : ∀ b, w.heap.size ≤ b → A b) (l : (List route_Step)) (v_l : Value) (h_l : Sl A w v_l l) {r : Int} (hm : route_CheckSteps l = some r) : Ret Tryd.prog 27 #[v_l] w fun v w' => v = .int .i64 r ∧ Kp w w' := by
  unfold route_CheckSteps at hm
  refine enter Tryd.func27 rfl Tryd.ntmps27 rfl ?_
  have hA0 := hA
  have hB := Nat.le_refl w.heap.size
  have hK : Tr w.heap.size A w A w := Tr.refl hA
  have hH : Hp w.heap.size A w [] := Hp.nil
  refine C_seq ?_
  refine C_region ?_
  refine V_y (Y_assign rfl) rfl rfl rfl ?_
  refine V_to (fun _ _ => rfl) ?_
  refine C_seq ?_
  refine C_seq ?_
  refine C_region ?_
  refine V_y (Y_move rfl) rfl rfl rfl ?_
  refine V_y (Y_lenSl h_l rfl Tryd.underlying36 rfl) rfl rfl rfl ?_
  refine V_y (Y_gtr rfl rfl) rfl rfl rfl ?_
  refine V_to (fun _ _ => rfl) ?_
  refine C_cond rfl (fun hc3 => ?_) (fun hc3 => ?_)
  · rw [if_pos hc3] at hm
    refine C_seq ?_
    refine C_region ?_
    refine V_y (Y_assign rfl) rfl rfl rfl ?_
    refine V_to (fun _ _ => rfl) ?_
    obtain rfl := Option.some.inj hm
    refine C_ret ?_
    try simp only [↓inBlock_ret, ↓then_ret]
    exact retQ rfl (Res.one Tryd.results27 rfl) ⟨rfl, hK.kp⟩
  · rw [if_neg (nt hc3)] at hm
    refine C_skip_to (fun _ _ => rfl) ?_
    refine C_seq ?_
    refine C_seq ?_
    refine C_region ?_
    refine V_y (Y_move rfl) rfl rfl rfl ?_
    refine V_y (Y_lenSl h_l rfl Tryd.underlying36 rfl) rfl rfl rfl ?_
    refine V_y (Y_move rfl) rfl rfl rfl ?_
    refine V_to (fun _ _ => rfl) ?_
    have hn25 := Sl.le h_l
    obtain ⟨o4, ho4, hm⟩ := Option.bind_eq_some_iff.1 hm
    refine C_cutG (ι := (Unit × (Nat → Prop))) (fun ⟨s5, A12⟩ => []) (fun ⟨s5, A12⟩ => fun w' => o4 = .fin s5 ∧ Hp w.heap.size A12 w' ([]) ∧ Tr w.heap.size A w A12 w') ?_ ?_
    · refine C_block ?_
      refine C_range ho4 (fun k7 _ a w' => ∃ i : (Nat → Prop), Has ⟨39, [], none⟩ a ([(0, v_l), (8, v_l), (9, .int .i64 (l.length : Int)), (10, .int .i64 (k7 : Int))]) ∧ Hp w.heap.size i w' ([]) ∧ Tr w.heap.size A w i w') (fun a ha => ⟨A, ha.sub ⟨rfl, rfl, rfl, rfl, trivial⟩, ⟨hH, Tr.refl hA⟩⟩) ?_
      rintro K k7 _ a w15 ⟨A16, ha59, hH17, hr6⟩ hle21 K24 h23
      refine C_of ?_ ha59
      replace h_l := Sl.tr h_l hr6
      replace hK := Tr.trans hK hr6
      replace hB := Nat.le_trans hB hr6.ex.size
      replace hA := hr6.new
      replace hH : Hp w.heap.size A16 w15 ([]) := hH17
      refine C_seq (C_region (V_y (Y_lss rfl rfl) rfl rfl rfl (V_to (fun _ _ => rfl) ?_)))
      refine C_seq ?_
      refine C_cond rfl (fun hc26 => ?_) (fun hc26 => ?_)
      · have hlt22 := lt_of_dec hc26
        obtain ⟨x18, h19, h20⟩ := K24 hlt22
        refine C_skip_to (fun _ _ => rfl) ?_
        refine C_seq ?_
        refine C_block ?_
        refine C_seq ?_
        refine C_region ?_
        refine V_y (Y_move rfl) rfl rfl rfl ?_
        obtain ⟨x27, hx27, h19⟩ := Option.bind_eq_some_iff.1 h19
        refine V_indexAddr h_l hx27 Tryd.underlying36 Tryd.sizeOf69 rfl rfl rfl ?_
        intro b28 o29 h30
        obtain ⟨h31, _⟩ := El_route_Step h30
        refine V_y (Y_loadA h31 Tryd.isAgg69 Tryd.sizeOf69 rfl) rfl rfl rfl ?_
        refine V_alloc Tryd.zeroValue69 rfl ?_
        intro b32 w33 h34
        refine V_y (Y_assign rfl) rfl rfl rfl ?_
        refine V_storeNew h34 Tryd.sizeOf69 rfl rfl rfl rfl (by exact (List.forall_mem_cons.2 ⟨rfl, (List.forall_mem_cons.2 ⟨rfl, (List.forall_mem_cons.2 ⟨rfl, (fun _ h => nomatch h)⟩)⟩)⟩)) ?_
        intro w35 h36
        have hk38 := h36.kp
        have h37 : El (α := route_Step) A16 w35 b32 0 x27 := h36.el hA ⟨[.int .i64 x27.after], _, rfl, rfl, ⟨[.int .i64 x27.lower], _, rfl, rfl, rfl⟩⟩
        have ht39 := Kp.tr hk38 hA hB
        replace hH := Hp.kp hH hk38
        replace h_l := Sl.tr h_l ht39
        replace h30 := El.tr h30 ht39
        replace hK := Tr.trans hK ht39
        replace hr6 := Tr.trans hr6 ht39
        replace hB := Nat.le_trans hB ht39.ex.size
        replace hA := ht39.new
        refine V_to (fun _ _ => rfl) ?_
        refine C_seq ?_
        refine C_seq ?_
        refine C_region ?_
        have h40 := El_route_Step_0 h37
        refine V_y (Y_fieldAddr Tryd.underlying69 rfl Tryd.sizeOf3 (by decide) rfl) rfl rfl rfl ?_
        refine V_y (Y_load (El.int h40) Tryd.isAgg3 rfl) rfl rfl rfl ?_
        refine V_call Tryd.call39 rfl rfl rfl rfl (route_within_c w35 x27.after 1 3000000) ?_
        rintro _ _ ⟨rfl, rfl⟩
        refine V_y (Y_not rfl) rfl rfl rfl ?_
        refine V_y (Y_move rfl) rfl rfl rfl ?_
        refine V_cut 5 (fun _ : Unit => [(0, v_l), (3, .int .i64 (k7 : Int)), (4, .pointer (some ⟨b32, 0, none⟩)), (8, v_l), (9, .int .i64 (l.length : Int)), (10, .int .i64 (k7 : Int)), (24, .bool ((!(route_within x27.after 1 3000000)) || (!(route_within x27.lower 0 9))))]) (fun _ w' => w35 = w') ?_ ?_
        · simp only [List.take, List.drop]
          rcases Bool.eq_false_or_eq_true (!(route_within x27.after 1 3000000)) with hc41 | hc41
          · refine V_gn rfl rfl rfl hc41 rfl rfl rfl ?_
            refine V_gn rfl rfl rfl hc41 rfl rfl rfl ?_
            refine V_gn rfl rfl rfl hc41 rfl rfl rfl ?_
            refine V_gn rfl rfl rfl hc41 rfl rfl rfl ?_
            refine V_y (Y_pick_te rfl hc41 rfl) rfl rfl rfl ?_
            exact V_end fun a ha => ⟨(), ha.sub ⟨rfl, rfl, rfl, rfl, rfl, rfl, (by rw [hc41]; rfl), trivial⟩, rfl⟩
          · refine V_ge rfl rfl rfl hc41 ?_
            have h43 := El_route_Step_1 h37
            refine V_y (Y_fieldAddr Tryd.underlying69 rfl Tryd.sizeOf3 (by decide) rfl) rfl rfl rfl ?_
            refine V_ge rfl rfl rfl hc41 ?_
            refine V_y (Y_load (El.int h43) Tryd.isAgg3 rfl) rfl rfl rfl ?_
            refine V_ge rfl rfl rfl hc41 ?_
            refine V_call Tryd.call39 rfl rfl rfl rfl (route_within_c w35 x27.lower 0 9) ?_
            rintro _ _ ⟨rfl, rfl⟩
            refine V_ge rfl rfl rfl hc41 ?_
            refine V_y (Y_not rfl) rfl rfl rfl ?_
            refine V_y (Y_pick_fe rfl hc41 rfl) rfl rfl rfl ?_
            exact V_end fun a ha => ⟨(), ha.sub ⟨rfl, rfl, rfl, rfl, rfl, rfl, (by rw [hc41]; rfl), trivial⟩, rfl⟩
        simp only [List.take, List.drop]
        rintro _ _ rfl
        refine V_to (fun _ _ => rfl) ?_
        refine C_cond rfl (fun hc44 => ?_) (fun hc44 => ?_)
        · rw [if_pos hc44] at h19
          refine C_seq ?_
          refine C_region ?_
          refine V_y (Y_assign rfl) rfl rfl rfl ?_
          refine V_to (fun _ _ => rfl) ?_
          obtain rfl := Option.some.inj h19
          obtain rfl := (h20 : Lp.rt _ = _)
          rw [Lp.andThen_rt] at hm
          obtain rfl := Option.some.inj hm
          refine C_ret ?_
          try simp only [↓inBlock_ret, ↓then_ret]
          exact retQ rfl (Res.one Tryd.results27 rfl) ⟨rfl, hK.kp⟩
        · rw [if_neg (nt hc44)] at h19
          refine C_skip_to (fun _ _ => rfl) ?_
          refine C_seq ?_
          refine C_region_q Tryd_mixed (by kernel_rfl) ?_
          refine VQ_y (fun w' hw' => Y_move rfl) rfl rfl rfl ?_
          refine VQ_y (fun w' hw' => Y_gtr rfl rfl) rfl rfl rfl ?_
          refine VQ_y (fun w' hw' => Y_move rfl) rfl rfl rfl ?_
          obtain ⟨s46, hs46, h19⟩ := Option.bind_eq_some_iff.1 h19
          refine VQ_cut 10 (fun _ : Unit => [(0, v_l), (8, v_l), (9, .int .i64 (l.length : Int)), (10, .int .i64 (k7 : Int)), (37, .bool s46)]) (fun _ => True) ?_ ?_
          · simp only [List.take, List.drop]
            rcases Bool.eq_false_or_eq_true (decide ((0 : Int) < (k7 : Int))) with hc45 | hc45
            · rw [if_pos hc45] at hs46
              refine VQ_ge rfl rfl rfl hc45 ?_
              have h47 := El_route_Step_0 h37
              refine VQ_y (fun w' hw' => Y_fieldAddr Tryd.underlying69 rfl Tryd.sizeOf3 (by decide) rfl) rfl rfl rfl ?_
              refine VQ_ge rfl rfl rfl hc45 ?_
              refine VQ_y (fun w' hw' => Y_load (El.int (El.kp h47 hw')) Tryd.isAgg3 rfl) rfl rfl rfl ?_
              refine VQ_ge rfl rfl rfl hc45 ?_
              refine VQ_y (fun w' hw' => Y_move rfl) rfl rfl rfl ?_
              refine VQ_ge rfl rfl rfl hc45 ?_
              refine VQ_y (fun w' hw' => Y_move rfl) rfl rfl rfl ?_
              refine VQ_ge rfl rfl rfl hc45 ?_
              refine VQ_y (fun w' hw' => Y_subI rfl rfl) rfl rfl rfl ?_
              refine VQ_ge rfl rfl rfl hc45 ?_
              obtain ⟨x48, hx48, hs46⟩ := Option.bind_eq_some_iff.1 hs46
              refine VQ_indexAddr h_l hx48 Tryd.underlying36 Tryd.sizeOf69 rfl rfl rfl ?_
              intro b49 o50 h51
              refine VQ_ge rfl rfl rfl hc45 ?_
              have h52 := El_route_Step_0 h51
              refine VQ_y (fun w' hw' => Y_fieldAddr Tryd.underlying69 rfl Tryd.sizeOf3 (by decide) rfl) rfl rfl rfl ?_
              refine VQ_ge rfl rfl rfl hc45 ?_
              refine VQ_y (fun w' hw' => Y_load (El.int (El.kp h52 hw')) Tryd.isAgg3 rfl) rfl rfl rfl ?_
              refine VQ_ge rfl rfl rfl hc45 ?_
              refine VQ_y (fun w' hw' => Y_leq rfl rfl) rfl rfl rfl ?_
              refine VQ_y (fun _ _ => Y_pick_te rfl hc45 rfl) rfl rfl rfl ?_
              obtain rfl := Option.some.inj hs46
              exact VQ_end fun a ha => ⟨(), ha.sub ⟨rfl, rfl, rfl, rfl, rfl, trivial⟩, trivial⟩
            · rw [if_neg (nt hc45)] at hs46
              refine VQ_gn rfl rfl rfl hc45 rfl rfl rfl ?_
              refine VQ_gn rfl rfl rfl hc45 rfl rfl rfl ?_
              refine VQ_gn rfl rfl rfl hc45 rfl rfl rfl ?_
              refine VQ_gn rfl rfl rfl hc45 rfl rfl rfl ?_
              refine VQ_gn rfl rfl rfl hc45 rfl rfl rfl ?_
              refine VQ_gn rfl rfl rfl hc45 rfl rfl rfl ?_
              refine VQ_gn rfl rfl rfl hc45 rfl rfl rfl ?_
              refine VQ_gn rfl rfl rfl hc45 rfl rfl rfl ?_
              refine VQ_gn rfl rfl rfl hc45 rfl rfl rfl ?_
              refine VQ_y (fun _ _ => Y_pick_fe rfl hc45 rfl) rfl rfl rfl ?_
              obtain rfl := Option.some.inj hs46
              exact VQ_end fun a ha => ⟨(), ha.sub ⟨rfl, rfl, rfl, rfl, rfl, trivial⟩, trivial⟩
          simp only [List.take, List.drop]
          rintro _ _
          refine VQ_to (fun _ _ => rfl) (fun w53 hk54 => ?_)
          have ht55 := Kp.tr hk54 hA hB
          replace hH := Hp.kp hH hk54
          replace h_l := Sl.tr h_l ht55
          replace hK := Tr.trans hK ht55
          replace hr6 := Tr.trans hr6 ht55
          replace hB := Nat.le_trans hB ht55.ex.size
          replace hA := ht55.new
          refine C_cond rfl (fun hc56 => ?_) (fun hc56 => ?_)
          · rw [if_pos hc56] at h19
            refine C_seq ?_
            refine C_region ?_
            refine V_y (Y_assign rfl) rfl rfl rfl ?_
            refine V_to (fun _ _ => rfl) ?_
            obtain rfl := Option.some.inj h19
            obtain rfl := (h20 : Lp.rt _ = _)
            rw [Lp.andThen_rt] at hm
            obtain rfl := Option.some.inj hm
            refine C_ret ?_
            try simp only [↓inBlock_ret, ↓then_ret]
            exact retQ rfl (Res.one Tryd.results27 rfl) ⟨rfl, hK.kp⟩
          · rw [if_neg (nt hc56)] at h19
            refine C_skip_to (fun _ _ => rfl) ?_
            refine C_region ?_
            refine V_y (Y_addI rfl rfl) rfl rfl rfl ?_
            refine V_y (Y_move rfl) rfl rfl rfl ?_
            obtain rfl := Option.some.inj h19
            refine V_end (fun a ha57 => ?_)
            exact ⟨(), hlt22, h20, ⟨A16, ha57.sub ⟨rfl, rfl, rfl, (congrArg (fun z => some (Value.int .i64 z)) (w64_succ hlt22 hn25)), trivial⟩, ⟨hH, hr6⟩⟩⟩
      · refine C_exit (fun a ha58 => ?_)
        exact ⟨((), A16), ha58.sub trivial, ⟨(h23 (eq_of_dec hle21 hc26)).symm, hH, hr6⟩⟩
    rintro ⟨s5, A12⟩ w9 ⟨rfl, hH13, hk10⟩ a ha11
    rw [Lp.andThen_fin] at hm
    replace hK := Tr.trans hK hk10
    replace hB := Nat.le_trans hB hk10.ex.size
    replace hA := hk10.new
    replace hH : Hp w.heap.size A12 w9 ([]) := hH13
    refine C_at (n := ⟨39, [], none⟩) (fun _ _ => rfl) ?_ ha11
    refine C_seq ?_
    refine C_region ?_
    refine V_y (Y_assign rfl) rfl rfl rfl ?_
    refine V_to (fun _ _ => rfl) ?_
    obtain rfl := Option.some.inj hm
    refine C_ret ?_
    try simp only [↓inBlock_ret, ↓then_ret]
    exact retQ rfl (Res.one Tryd.results27 rfl) ⟨rfl, hK.kp⟩

set_option maxRecDepth 4000 in
set_option maxHeartbeats 4000000 in
theorem route_moment_c (w : World) (m : Int) : Ret Tryd.prog 28 #[.int .i64 m] w fun v w' => v = .int .i64 (route_moment m) ∧ w = w' := by
  generalize hm : route_moment m = r
  unfold route_moment at hm
  refine enter Tryd.func28 rfl Tryd.ntmps28 rfl ?_
  refine C_seq ?_
  refine C_region ?_
  refine V_y (Y_assign rfl) rfl rfl rfl ?_
  refine V_to (fun _ _ => rfl) ?_
  refine C_seq ?_
  refine C_seq ?_
  refine C_region ?_
  refine V_y (Y_move rfl) rfl rfl rfl ?_
  refine V_call Tryd.call39 rfl rfl rfl rfl (route_within_c w m 0 3000000) ?_
  rintro _ _ ⟨rfl, rfl⟩
  refine V_y (Y_not rfl) rfl rfl rfl ?_
  refine V_to (fun _ _ => rfl) ?_
  refine C_cond rfl (fun hc1 => ?_) (fun hc1 => ?_)
  · rw [if_pos hc1] at hm
    refine C_seq ?_
    refine C_region ?_
    refine V_y (Y_assign rfl) rfl rfl rfl ?_
    refine V_to (fun _ _ => rfl) ?_
    obtain rfl := hm
    refine C_ret ?_
    try simp only [↓inBlock_ret, ↓then_ret]
    exact retQ rfl (Res.one Tryd.results28 rfl) ⟨rfl, rfl⟩
  · rw [if_neg (nt hc1)] at hm
    refine C_skip_to (fun _ _ => rfl) ?_
    refine C_seq ?_
    refine C_region ?_
    refine V_y (Y_assign rfl) rfl rfl rfl ?_
    refine V_to (fun _ _ => rfl) ?_
    obtain rfl := hm
    refine C_ret ?_
    try simp only [↓inBlock_ret, ↓then_ret]
    exact retQ rfl (Res.one Tryd.results28 rfl) ⟨rfl, rfl⟩

set_option maxRecDepth 4000 in
set_option maxHeartbeats 4000000 in
theorem cmp_Or_api_Errno_c (w : World) {A : Nat → Prop} (vals : (List Int)) (v_vals : Value) (h_vals : Sl A w v_vals vals) {r : Int} (hm : cmp_Or_api_Errno vals = some r) : Ret Tryd.prog 25 #[v_vals] w fun v w' => v = .int .i64 r ∧ w = w' := by
  unfold cmp_Or_api_Errno at hm
  refine enter Tryd.func25 rfl Tryd.ntmps25 rfl ?_
  refine C_seq ?_
  refine C_region ?_
  refine V_y (Y_assign rfl) rfl rfl rfl ?_
  refine V_to (fun _ _ => rfl) ?_
  refine C_seq ?_
  refine C_region ?_
  refine V_y (Y_assign rfl) rfl rfl rfl ?_
  refine V_to (fun _ _ => rfl) ?_
  refine C_seq ?_
  refine C_seq ?_
  refine C_region ?_
  refine V_y (Y_move rfl) rfl rfl rfl ?_
  refine V_y (Y_lenSl h_vals rfl Tryd.underlying65 rfl) rfl rfl rfl ?_
  refine V_y (Y_move rfl) rfl rfl rfl ?_
  refine V_to (fun _ _ => rfl) ?_
  have hn19 := Sl.le h_vals
  obtain ⟨o3, ho3, hm⟩ := Option.bind_eq_some_iff.1 hm
  refine C_cutG (ι := Unit) (fun (s4 : Unit) => [(3, .int .i64 0)]) (fun (s4 : Unit) => fun w' => o3 = .fin s4 ∧ w = w') ?_ ?_
  · refine C_block ?_
    refine C_range ho3 (fun k6 _ a w' => ∃ i : Unit, Has ⟨18, [], none⟩ a ([(3, .int .i64 0), (6, v_vals), (7, .int .i64 (vals.length : Int)), (8, .int .i64 (k6 : Int))]) ∧ w = w') (fun a ha => ⟨(), ha.sub ⟨rfl, rfl, rfl, rfl, trivial⟩, rfl⟩) ?_
    rintro K k6 _ a _ ⟨_, ha28, rfl⟩ hle15 K18 h17
    refine C_of ?_ ha28
    refine C_seq (C_region (V_y (Y_lss rfl rfl) rfl rfl rfl (V_to (fun _ _ => rfl) ?_)))
    refine C_seq ?_
    refine C_cond rfl (fun hc20 => ?_) (fun hc20 => ?_)
    · have hlt16 := lt_of_dec hc20
      obtain ⟨x12, h13, h14⟩ := K18 hlt16
      refine C_skip_to (fun _ _ => rfl) ?_
      refine C_seq ?_
      refine C_block ?_
      refine C_seq ?_
      refine C_region ?_
      obtain ⟨x21, hx21, h13⟩ := Option.bind_eq_some_iff.1 h13
      refine V_indexAddr h_vals hx21 Tryd.underlying65 Tryd.sizeOf25 rfl rfl rfl ?_
      intro b22 o23 h24
      refine V_y (Y_load (El.int h24) Tryd.isAgg25 rfl) rfl rfl rfl ?_
      refine V_y (Y_assign rfl) rfl rfl rfl ?_
      refine V_to (fun _ _ => rfl) ?_
      refine C_seq ?_
      refine C_region ?_
      refine V_y (Y_move rfl) rfl rfl rfl ?_
      refine V_y (Y_move rfl) rfl rfl rfl ?_
      refine V_y (Y_neq rfl rfl) rfl rfl rfl ?_
      refine V_to (fun _ _ => rfl) ?_
      refine C_cond rfl (fun hc25 => ?_) (fun hc25 => ?_)
      · rw [if_pos hc25] at h13
        refine C_seq ?_
        refine C_region ?_
        refine V_y (Y_move rfl) rfl rfl rfl ?_
        refine V_y (Y_assign rfl) rfl rfl rfl ?_
        refine V_to (fun _ _ => rfl) ?_
        obtain rfl := Option.some.inj h13
        obtain rfl := (h14 : Lp.rt _ = _)
        rw [Lp.andThen_rt] at hm
        obtain rfl := Option.some.inj hm
        refine C_ret ?_
        try simp only [↓inBlock_ret, ↓then_ret]
        exact retQ rfl (Res.one Tryd.results25 rfl) ⟨rfl, rfl⟩
      · rw [if_neg (nt hc25)] at h13
        refine C_skip_to (fun _ _ => rfl) ?_
        refine C_region ?_
        refine V_y (Y_addI rfl rfl) rfl rfl rfl ?_
        refine V_y (Y_move rfl) rfl rfl rfl ?_
        obtain rfl := Option.some.inj h13
        refine V_end (fun a ha26 => ?_)
        exact ⟨(), hlt16, h14, ⟨(), ha26.sub ⟨rfl, rfl, rfl, (congrArg (fun z => some (Value.int .i64 z)) (w64_succ hlt16 hn19)), trivial⟩, rfl⟩⟩
    · refine C_exit (fun a ha27 => ?_)
      exact ⟨(), ha27.sub ⟨rfl, trivial⟩, ⟨(h17 (eq_of_dec hle15 hc20)).symm, rfl⟩⟩
  rintro s4 _ ⟨rfl, rfl⟩ a ha9
  rw [Lp.andThen_fin] at hm
  refine C_at (n := ⟨18, [], none⟩) (fun _ _ => rfl) ?_ ha9
  refine C_seq ?_
  refine C_region ?_
  refine V_y (Y_move rfl) rfl rfl rfl ?_
  refine V_y (Y_assign rfl) rfl rfl rfl ?_
  refine V_to (fun _ _ => rfl) ?_
  obtain rfl := Option.some.inj hm
  refine C_ret ?_
  try simp only [↓inBlock_ret, ↓then_ret]
  exact retQ rfl (Res.one Tryd.results25 rfl) ⟨rfl, rfl⟩

set_option maxRecDepth 4000 in
set_option maxHeartbeats 4000000 in
theorem slices_Clone_Lroute_Skill_route_Skill_c (w : World) {A : Nat → Prop} (hA : ∀ b, w.heap.size ≤ b → A b) (s : (List route_Skill)) (v_s : Value) (h_s : Sl A w v_s s) {r : (List route_Skill)} (hm : slices_Clone_Lroute_Skill_route_Skill s = some r) : Ret Tryd.prog 43 #[v_s] w fun v w' => ∃ s0, v = s0 ∧ Ownd 42 w w' s0 r ∧ Kp w w' := by
  unfold slices_Clone_Lroute_Skill_route_Skill at hm
  refine enter Tryd.func43 rfl Tryd.ntmps43 rfl ?_
  have hA0 := hA
  have hB := Nat.le_refl w.heap.size
  have hK : Tr w.heap.size A w A w := Tr.refl hA
  have hH : Hp w.heap.size A w [] := Hp.nil
  rcases Sl.split h_s with ⟨rfl, rfl⟩ | ⟨a0, n0, c0, rfl⟩
  · replace hm : some ([] : (List route_Skill)) = some r := by simpa [appendL] using hm
    refine C_seq ?_
    refine C_region ?_
    refine V_y (Y_assign rfl) rfl rfl rfl ?_
    refine V_to (fun _ _ => rfl) ?_
    refine C_seq ?_
    refine C_seq ?_
    refine C_region ?_
    refine V_y (Y_move rfl) rfl rfl rfl ?_
    refine V_y (Y_eqlNilT rfl rfl Tryd.underlying33) rfl rfl rfl ?_
    refine V_to (fun _ _ => rfl) ?_
    refine C_cond rfl (fun hc => ?_) (fun hc => ?_)
    · refine C_seq ?_
      refine C_region ?_
      refine V_y (Y_assign rfl) rfl rfl rfl ?_
      refine V_to (fun _ _ => rfl) ?_
      obtain rfl := Option.some.inj hm
      replace hH : Hp w.heap.size A w (obS (α := route_Skill) 42 (.slice none 0 0) ([] : (List route_Skill)) :: []) := Hp.addNil (α := route_Skill) (e := 42) hH
      refine C_ret ?_
      try simp only [↓inBlock_ret, ↓then_ret]
      exact retQ rfl (Res.one Tryd.results43 rfl) ⟨.slice none 0 0, rfl, (Hp.ownd hH (i := 0) rfl), hK.kp⟩
    · exact absurd hc (by decide)
  · refine C_seq ?_
    refine C_region ?_
    refine V_y (Y_assign rfl) rfl rfl rfl ?_
    refine V_to (fun _ _ => rfl) ?_
    refine C_seq ?_
    refine C_seq ?_
    refine C_region ?_
    refine V_y (Y_move rfl) rfl rfl rfl ?_
    refine V_y (Y_eqlNilF rfl rfl Tryd.underlying33) rfl rfl rfl ?_
    refine V_to (fun _ _ => rfl) ?_
    refine C_cond rfl (fun hc => ?_) (fun hc => ?_)
    · exact absurd hc (by decide)
    · refine C_skip_to (fun _ _ => rfl) ?_
      refine C_seq ?_
      refine C_region ?_
      refine V_buildOwn0H (α := route_Skill) hH Tryd.underlying33 Tryd.sizeOf42 hB hA rfl ?_
      intro v3 w4 A5 hH6 ht7
      replace h_s := Sl.tr h_s ht7
      replace hK := Tr.trans hK ht7
      replace hB := Nat.le_trans hB ht7.ex.size
      replace hA := ht7.new
      replace hH : Hp w.heap.size A5 w4 (obS (α := route_Skill) 42 v3 ([] : List route_Skill) :: []) := hH6
      refine V_y (Y_move rfl) rfl rfl rfl ?_
      obtain ⟨x8, hx8, hm⟩ := Option.bind_eq_some_iff.1 hm
      refine V_appendH (e := 42) (v := v3) (l := ([] : List route_Skill)) (ti := Tryd.t42) (bytes := 24) (lim := 5864062014805) hH (i := 0) rfl h_s hx8 Tryd.underlying33 Tryd_info42 rfl rfl rfl rfl (by decide) (by decide) (by decide) hB hA rfl rfl rfl ?_
      intro v9 w10 A11 hH12 ht13
      replace h_s := Sl.tr h_s ht13
      replace hK := Tr.trans hK ht13
      replace hB := Nat.le_trans hB ht13.ex.size
      replace hA := ht13.new
      replace hH : Hp w.heap.size A11 w10 (obS (α := route_Skill) 42 v9 x8 :: []) := hH12
      refine V_y (Y_assign rfl) rfl rfl rfl ?_
      refine V_to (fun _ _ => rfl) ?_
      obtain rfl := Option.some.inj hm
      refine C_ret ?_
      try simp only [↓inBlock_ret, ↓then_ret]
      exact retQ rfl (Res.one Tryd.results43 rfl) ⟨v9, rfl, (Hp.ownd hH (i := 0) rfl), hK.kp⟩

set_option maxRecDepth 4000 in
set_option maxHeartbeats 4000000 in
theorem route_needsAt_c (w : World) {A : Nat → Prop} (hA : ∀ b, w.heap.size ≤ b → A b) (w_ : route_Work) (v_w_ : Value) (h_w_ : Sl A w v_w_ w_.needs) (steps : (List route_Step)) (v_steps : Value) (h_steps : Sl A w v_steps steps) (m : Int) {r : (List route_Skill)} (hm : route_needsAt w_ steps m = some r) : Ret Tryd.prog 29 #[.agg #[.int .i64 w_.ticket, .int .i64 w_.weight, .int .i64 w_.urgency, .int .i64 w_.since, .int .i64 w_.former, v_w_], v_steps, .int .i64 m] w fun v w' => ∃ s0, v = s0 ∧ Ownd 42 w w' s0 r ∧ Kp w w' := by
  unfold route_needsAt at hm
  refine enter Tryd.func29 rfl Tryd.ntmps29 rfl ?_
  have hA0 := hA
  have hB := Nat.le_refl w.heap.size
  have hK : Tr w.heap.size A w A w := Tr.refl hA
  have hH : Hp w.heap.size A w [] := Hp.nil
  refine C_seq ?_
  refine C_region ?_
  refine V_box rfl rfl ?_
  intro b5 w6 h7
  have hk9 := h7.kp
  have h8 : El (α := route_Work) A w6 b5 0 w_ := h7.el hA ⟨[.int .i64 w_.ticket], _, rfl, rfl, ⟨[.int .i64 w_.weight], _, rfl, rfl, ⟨[.int .i64 w_.urgency], _, rfl, rfl, ⟨[.int .i64 w_.since], _, rfl, rfl, ⟨[.int .i64 w_.former], _, rfl, rfl, ⟨_, rfl, h_w_⟩⟩⟩⟩⟩⟩
  have ht10 := Kp.tr hk9 hA hB
  replace hH := Hp.kp hH hk9
  replace h_w_ := Sl.tr h_w_ ht10
  replace h_steps := Sl.tr h_steps ht10
  replace hK := Tr.trans hK ht10
  replace hB := Nat.le_trans hB ht10.ex.size
  replace hA := ht10.new
  refine V_y (Y_assign rfl) rfl rfl rfl ?_
  refine V_to (fun _ _ => rfl) ?_
  refine C_seq ?_
  refine C_region ?_
  refine V_y (Y_assign rfl) rfl rfl rfl ?_
  refine V_to (fun _ _ => rfl) ?_
  refine C_seq ?_
  refine C_seq ?_
  refine C_region ?_
  refine V_y (Y_move rfl) rfl rfl rfl ?_
  refine V_y (Y_lenSl h_steps rfl Tryd.underlying36 rfl) rfl rfl rfl ?_
  refine V_y (Y_move rfl) rfl rfl rfl ?_
  refine V_to (fun _ _ => rfl) ?_
  have hn31 := Sl.le h_steps
  obtain ⟨o11, ho11, hm⟩ := Option.bind_eq_some_iff.1 hm
  refine C_cutG (ι := (Int × (Nat → Prop))) (fun ⟨s12, A18⟩ => [(3, .pointer (some ⟨b5, 0, none⟩)), (7, ptrV v_steps 3 s12)]) (fun ⟨s12, A18⟩ => fun w' => o11 = .fin s12 ∧ Hp w.heap.size A18 w' ([]) ∧ Tr w.heap.size A w6 A18 w') ?_ ?_
  · refine C_block ?_
    refine C_range ho11 (fun k14 s20 a w' => ∃ i : (Nat → Prop), Has ⟨66, [], none⟩ a ([(1, v_steps), (2, .int .i64 m), (3, .pointer (some ⟨b5, 0, none⟩)), (7, ptrV v_steps 3 s20), (13, .int .i64 (steps.length : Int)), (14, .int .i64 (k14 : Int))]) ∧ Hp w.heap.size i w' ([]) ∧ Tr w.heap.size A w6 i w') (fun a ha => ⟨A, ha.sub ⟨rfl, rfl, rfl, rfl, rfl, rfl, trivial⟩, ⟨hH, Tr.refl hA⟩⟩) ?_
    rintro K k14 s20 a w21 ⟨A22, ha62, hH23, hr13⟩ hle27 K30 h29
    refine C_of ?_ ha62
    replace h_steps := Sl.tr h_steps hr13
    replace h8 := El.tr h8 hr13
    replace hK := Tr.trans hK hr13
    replace hB := Nat.le_trans hB hr13.ex.size
    replace hA := hr13.new
    replace hH : Hp w.heap.size A22 w21 ([]) := hH23
    refine C_seq (C_region (V_y (Y_lss rfl rfl) rfl rfl rfl (V_to (fun _ _ => rfl) ?_)))
    refine C_seq ?_
    refine C_cond rfl (fun hc32 => ?_) (fun hc32 => ?_)
    · have hlt28 := lt_of_dec hc32
      obtain ⟨x24, h25, h26⟩ := K30 hlt28
      refine C_skip_to (fun _ _ => rfl) ?_
      refine C_seq ?_
      obtain ⟨s34, ho33, h25⟩ := Option.bind_eq_some_iff.1 h25
      refine C_cutG (ι := (Nat → Prop)) (fun (A39 : (Nat → Prop)) => [(1, v_steps), (2, .int .i64 m), (3, .pointer (some ⟨b5, 0, none⟩)), (7, ptrV v_steps 3 s34), (13, .int .i64 (steps.length : Int)), (14, .int .i64 (k14 : Int))]) (fun (A39 : (Nat → Prop)) => fun w' => Hp w.heap.size A39 w' ([]) ∧ Tr w.heap.size A22 w21 A39 w') ?_ ?_
      · have hr35 : Tr w.heap.size A22 w21 A22 w21 := Tr.refl hA
        refine C_block ?_
        refine C_seq ?_
        refine C_region ?_
        refine V_y (Y_move rfl) rfl rfl rfl ?_
        refine V_y (Y_assign rfl) rfl rfl rfl ?_
        refine V_to (fun _ _ => rfl) ?_
        refine C_seq ?_
        refine C_region_q Tryd_mixed (by kernel_rfl) ?_
        refine VQ_y (fun w' hw' => Y_move rfl) rfl rfl rfl ?_
        refine VQ_y (fun w' hw' => Y_move rfl) rfl rfl rfl ?_
        obtain ⟨x41, hx41, ho33⟩ := Option.bind_eq_some_iff.1 ho33
        refine VQ_indexAddr h_steps hx41 Tryd.underlying36 Tryd.sizeOf69 rfl rfl rfl ?_
        intro b42 o43 h44
        have h45 := El_route_Step_0 h44
        refine VQ_y (fun w' hw' => Y_fieldAddr Tryd.underlying69 rfl Tryd.sizeOf3 (by decide) rfl) rfl rfl rfl ?_
        refine VQ_y (fun w' hw' => Y_load (El.int (El.kp h45 hw')) Tryd.isAgg3 rfl) rfl rfl rfl ?_
        refine VQ_y (fun w' hw' => Y_move rfl) rfl rfl rfl ?_
        have h46 := El_route_Work_3 h8
        refine VQ_y (fun w' hw' => Y_fieldAddr Tryd.underlying35 rfl Tryd.sizeOf3 (by decide) rfl) rfl rfl rfl ?_
        refine VQ_y (fun w' hw' => Y_load (El.int (El.kp h46 hw')) Tryd.isAgg3 rfl) rfl rfl rfl ?_
        refine VQ_y (fun w' hw' => Y_subI rfl rfl) rfl rfl rfl ?_
        refine VQ_y (fun w' hw' => Y_leq rfl rfl) rfl rfl rfl ?_
        refine VQ_to (fun _ _ => rfl) (fun w47 hk48 => ?_)
        have ht49 := Kp.tr hk48 hA hB
        replace hH := Hp.kp hH hk48
        replace h_steps := Sl.tr h_steps ht49
        replace h8 := El.tr h8 ht49
        replace hK := Tr.trans hK ht49
        replace hr13 := Tr.trans hr13 ht49
        replace hr35 := Tr.trans hr35 ht49
        replace hB := Nat.le_trans hB ht49.ex.size
        replace hA := ht49.new
        obtain ⟨s51, ho50, ho33⟩ := Option.bind_eq_some_iff.1 ho33
        refine C_cutG (ι := Unit) (fun (_ : Unit) => [(1, v_steps), (2, .int .i64 m), (3, .pointer (some ⟨b5, 0, none⟩)), (7, ptrV v_steps 3 s51), (13, .int .i64 (steps.length : Int)), (14, .int .i64 (k14 : Int))]) (fun (_ : Unit) => fun w' => w47 = w') ?_ ?_
        · refine C_cond rfl (fun hc56 => ?_) (fun hc56 => ?_)
          · rw [if_pos hc56] at ho50
            refine C_region ?_
            refine V_y (Y_move rfl) rfl rfl rfl ?_
            refine V_y (Y_move rfl) rfl rfl rfl ?_
            refine V_y (Y_indexIP h_steps hx41 Tryd.underlying36 Tryd.sizeOf69 rfl rfl) rfl rfl rfl ?_
            refine V_y (Y_assign rfl) rfl rfl rfl ?_
            obtain rfl := Option.some.inj ho50
            refine V_end (fun a ha57 => ?_)
            exact ⟨(), ha57.sub ⟨rfl, rfl, rfl, rfl, rfl, rfl, trivial⟩, rfl⟩
          · rw [if_neg (nt hc56)] at ho50
            obtain rfl := Option.some.inj ho50
            refine C_skip (fun a ha58 => ?_)
            exact ⟨(), ha58.sub ⟨rfl, rfl, rfl, rfl, rfl, rfl, trivial⟩, rfl⟩
        rintro _ _ rfl a ha55
        obtain rfl := Option.some.inj ho33
        exact ⟨A22, ha55.sub ⟨rfl, rfl, rfl, rfl, rfl, rfl, trivial⟩, ⟨hH, hr35⟩⟩
      rintro A39 w36 ⟨hH40, hk37⟩ a ha38
      replace h_steps := Sl.tr h_steps hk37
      replace h8 := El.tr h8 hk37
      replace hK := Tr.trans hK hk37
      replace hr13 := Tr.trans hr13 hk37
      replace hB := Nat.le_trans hB hk37.ex.size
      replace hA := hk37.new
      replace hH : Hp w.heap.size A39 w36 ([]) := hH40
      refine C_at (n := ⟨66, [], none⟩) (fun _ _ => rfl) ?_ ha38
      refine C_region ?_
      refine V_y (Y_addI rfl rfl) rfl rfl rfl ?_
      refine V_y (Y_move rfl) rfl rfl rfl ?_
      obtain rfl := Option.some.inj h25
      refine V_end (fun a ha60 => ?_)
      exact ⟨s34, hlt28, h26, ⟨A39, ha60.sub ⟨rfl, rfl, rfl, rfl, rfl, (congrArg (fun z => some (Value.int .i64 z)) (w64_succ hlt28 hn31)), trivial⟩, ⟨hH, hr13⟩⟩⟩
    · refine C_exit (fun a ha61 => ?_)
      exact ⟨(s20, A22), ha61.sub ⟨rfl, rfl, trivial⟩, ⟨(h29 (eq_of_dec hle27 hc32)).symm, hH, hr13⟩⟩
  rintro ⟨s12, A18⟩ w15 ⟨rfl, hH19, hk16⟩ a ha17
  rw [Lp.andThen_fin] at hm
  replace h8 := El.tr h8 hk16
  replace h_steps := Sl.tr h_steps hk16
  replace hK := Tr.trans hK hk16
  replace hB := Nat.le_trans hB hk16.ex.size
  replace hA := hk16.new
  replace hH : Hp w.heap.size A18 w15 ([]) := hH19
  refine C_at (n := ⟨66, [], none⟩) (fun _ _ => rfl) ?_ ha17
  refine C_seq ?_
  refine C_block ?_
  refine C_seq ?_
  refine C_region ?_
  refine V_y (Y_move rfl) rfl rfl rfl ?_
  obtain ⟨x63, hx63, hm⟩ := Option.bind_eq_some_iff.1 hm
  refine V_y (Y_eqlIP h_steps rfl hx63 Tryd.underlying70 rfl rfl) rfl rfl rfl ?_
  refine V_y (Y_assign rfl) rfl rfl rfl ?_
  refine V_to (fun _ _ => rfl) ?_
  refine C_cond rfl (fun hc64 => ?_) (fun hc64 => ?_)
  · rw [if_pos hc64] at hm
    refine C_seq ?_
    refine C_region ?_
    have h65 := El_route_Work_5 h8
    refine V_y (Y_fieldAddr Tryd.underlying35 rfl Tryd.sizeOf33 (by decide) rfl) rfl rfl rfl ?_
    obtain ⟨v66, h67, h68⟩ := El.list h65
    refine V_y (Y_load h67 Tryd.isAgg33 rfl) rfl rfl rfl ?_
    obtain ⟨x69, hx69, hm⟩ := Option.bind_eq_some_iff.1 hm
    refine V_call Tryd.call43 rfl rfl rfl rfl (slices_Clone_Lroute_Skill_route_Skill_c w15 hA w_.needs v66 h68 hx69) ?_
    rintro v70 w72 ⟨_, rfl, h71, hk73⟩
    obtain ⟨A74, ht75, hH76⟩ := Hp.addOwnd hH hB hA hk73 h71
    replace h8 := El.tr h8 ht75
    replace h_steps := Sl.tr h_steps ht75
    replace h65 := El.tr h65 ht75
    replace h68 := Sl.tr h68 ht75
    replace hK := Tr.trans hK ht75
    replace hB := Nat.le_trans hB ht75.ex.size
    replace hA := ht75.new
    replace hH : Hp w.heap.size A74 w72 (obS (α := route_Skill) 42 v70 x69 :: []) := hH76
    refine V_y (Y_assign rfl) rfl rfl rfl ?_
    refine V_to (fun _ _ => rfl) ?_
    obtain rfl := Option.some.inj hm
    refine C_ret ?_
    try simp only [↓inBlock_ret, ↓then_ret]
    exact retQ rfl (Res.one Tryd.results29 rfl) ⟨v70, rfl, (Hp.ownd hH (i := 0) rfl), hK.kp⟩
  · rw [if_neg (nt hc64)] at hm
    refine C_seq ?_
    refine C_region ?_
    refine V_y (Y_move rfl) rfl rfl rfl ?_
    obtain ⟨x77, hx77, hm⟩ := Option.bind_eq_some_iff.1 hm
    obtain ⟨b78, o79, h80, h81⟩ := ptr_at h_steps hx77
    refine V_y (Y_nilCheck (congrArg some h80)) rfl rfl rfl ?_
    have h82 := El_route_Step_2 h81
    refine V_y (Y_fieldAddr Tryd.underlying69 rfl Tryd.sizeOf4 (by decide) rfl) rfl rfl rfl ?_
    refine V_y (Y_load (El.bool h82) Tryd.isAgg4 rfl) rfl rfl rfl ?_
    refine V_y (Y_assign rfl) rfl rfl rfl ?_
    refine V_to (fun _ _ => rfl) ?_
    refine C_cond rfl (fun hc83 => ?_) (fun hc83 => ?_)
    · rw [if_pos hc83] at hm
      refine C_seq ?_
      refine C_region ?_
      refine V_y (Y_assign rfl) rfl rfl rfl ?_
      refine V_to (fun _ _ => rfl) ?_
      obtain rfl := Option.some.inj hm
      replace hH : Hp w.heap.size A18 w15 (obS (α := route_Skill) 42 (.slice none 0 0) ([] : (List route_Skill)) :: []) := Hp.addNil (α := route_Skill) (e := 42) hH
      refine C_ret ?_
      try simp only [↓inBlock_ret, ↓then_ret]
      exact retQ rfl (Res.one Tryd.results29 rfl) ⟨.slice none 0 0, rfl, (Hp.ownd hH (i := 0) rfl), hK.kp⟩
    · rw [if_neg (nt hc83)] at hm
      refine C_skip_to (fun _ _ => rfl) ?_
      refine C_seq ?_
      refine C_region ?_
      refine V_y (Y_assign rfl) rfl rfl rfl ?_
      refine V_to (fun _ _ => rfl) ?_
      refine C_seq ?_
      refine C_seq ?_
      refine C_region ?_
      have h84 := El_route_Work_5 h8
      refine V_y (Y_fieldAddr Tryd.underlying35 rfl Tryd.sizeOf33 (by decide) rfl) rfl rfl rfl ?_
      obtain ⟨v85, h86, h87⟩ := El.list h84
      refine V_y (Y_load h86 Tryd.isAgg33 rfl) rfl rfl rfl ?_
      refine V_y (Y_lenSl h87 rfl Tryd.underlying33 rfl) rfl rfl rfl ?_
      refine V_y (Y_move rfl) rfl rfl rfl ?_
      refine V_to (fun _ _ => rfl) ?_
      replace hH : Hp w.heap.size A18 w15 (obS (α := route_Skill) 42 (.slice none 0 0) ([] : (List route_Skill)) :: []) := Hp.addNil (α := route_Skill) (e := 42) hH
      have hn112 := Sl.le h87
      obtain ⟨o88, ho88, hm⟩ := Option.bind_eq_some_iff.1 hm
      refine C_cutG (ι := ((List route_Skill) × Value × (Nat → Prop))) (fun ⟨s89, v95, A97⟩ => [(9, v95)]) (fun ⟨s89, v95, A97⟩ => fun w' => o88 = .fin s89 ∧ Hp w.heap.size A97 w' (obS (α := route_Skill) 42 v95 s89 :: []) ∧ Tr w.heap.size A18 w15 A97 w') ?_ ?_
      · refine C_block ?_
        refine C_range ho88 (fun k91 s99 a w' => ∃ i : (Value × (Nat → Prop)), Has ⟨66, [], none⟩ a ([(7, ptrV v_steps 3 s12), (9, i.1), (43, v85), (44, .int .i64 (w_.needs.length : Int)), (45, .int .i64 (k91 : Int))]) ∧ Hp w.heap.size i.2 w' (obS (α := route_Skill) 42 i.1 s99 :: []) ∧ Tr w.heap.size A18 w15 i.2 w') (fun a ha => ⟨(.slice none 0 0, A18), ha.sub ⟨rfl, rfl, rfl, rfl, rfl, trivial⟩, ⟨hH, Tr.refl hA⟩⟩) ?_
        rintro K k91 s99 a w100 ⟨⟨v101, A103⟩, ha175, hH104, hr90⟩ hle108 K111 h110
        refine C_of ?_ ha175
        replace h_steps := Sl.tr h_steps hr90
        replace h87 := Sl.tr h87 hr90
        replace hK := Tr.trans hK hr90
        replace hB := Nat.le_trans hB hr90.ex.size
        replace hA := hr90.new
        replace hH : Hp w.heap.size A103 w100 (obS (α := route_Skill) 42 v101 s99 :: []) := hH104
        refine C_seq (C_region (V_y (Y_lss rfl rfl) rfl rfl rfl (V_to (fun _ _ => rfl) ?_)))
        refine C_seq ?_
        refine C_cond rfl (fun hc113 => ?_) (fun hc113 => ?_)
        · have hlt109 := lt_of_dec hc113
          obtain ⟨x105, h106, h107⟩ := K111 hlt109
          refine C_skip_to (fun _ _ => rfl) ?_
          refine C_seq ?_
          obtain ⟨s115, ho114, h106⟩ := Option.bind_eq_some_iff.1 h106
          refine C_cutG (ι := (Value × (Nat → Prop))) (fun ⟨v117, A122⟩ => [(7, ptrV v_steps 3 s12), (9, v117), (43, v85), (44, .int .i64 (w_.needs.length : Int)), (45, .int .i64 (k91 : Int))]) (fun ⟨v117, A122⟩ => fun w' => Hp w.heap.size A122 w' (obS (α := route_Skill) 42 v117 s115 :: []) ∧ Tr w.heap.size A103 w100 A122 w') ?_ ?_
          · have hr116 : Tr w.heap.size A103 w100 A103 w100 := Tr.refl hA
            refine C_block ?_
            refine C_seq ?_
            refine C_region ?_
            obtain ⟨x124, hx124, ho114⟩ := Option.bind_eq_some_iff.1 ho114
            refine V_indexAddr h87 hx124 Tryd.underlying33 Tryd.sizeOf42 rfl rfl rfl ?_
            intro b125 o126 h127
            obtain ⟨h128, _⟩ := El_route_Skill h127
            refine V_y (Y_loadA h128 Tryd.isAgg42 Tryd.sizeOf42 rfl) rfl rfl rfl ?_
            refine V_allocH (B := w.heap.size) hH Tryd.zeroValue42 hB hA rfl ?_
            intro b129 w130 A131 hH132 ht133
            replace h_steps := Sl.tr h_steps ht133
            replace h87 := Sl.tr h87 ht133
            replace h127 := El.tr h127 ht133
            replace hK := Tr.trans hK ht133
            replace hr90 := Tr.trans hr90 ht133
            replace hr116 := Tr.trans hr116 ht133
            replace hB := Nat.le_trans hB ht133.ex.size
            replace hA := ht133.new
            replace hH : Hp w.heap.size A131 w130 (obC b129 [.string ByteArray.empty, .int .i64 0] 42 :: obS (α := route_Skill) 42 v101 s99 :: []) := hH132
            refine V_storeC (off := 0) (ds := [.string x124.name, .int .i64 x124.rank]) hH (i := 0) rfl Tryd.sizeOf42 rfl (Nat.le_of_ble_eq_true rfl) (by simp [Value.cells, Value.oneCell']) rfl hB hA rfl rfl ?_
            intro w134 hH135 ht136
            replace h_steps := Sl.tr h_steps ht136
            replace h87 := Sl.tr h87 ht136
            replace h127 := El.tr h127 ht136
            replace hK := Tr.trans hK ht136
            replace hr90 := Tr.trans hr90 ht136
            replace hr116 := Tr.trans hr116 ht136
            replace hB := Nat.le_trans hB ht136.ex.size
            replace hA := ht136.new
            replace hH : Hp w.heap.size A131 w134 (obC b129 [.string x124.name, .int .i64 x124.rank] 42 :: obS (α := route_Skill) 42 v101 s99 :: []) := hH135
            refine V_to (fun _ _ => rfl) ?_
            refine C_seq ?_
            refine C_region_qt 8 Tryd_mixed (by kernel_rfl) ?_
            simp only [List.take, List.drop]
            refine VQ_y (fun w' hw' => Y_fieldAddrC (off2 := 1) Tryd.underlying42 rfl Tryd.sizeOf3 (by decide) rfl rfl) rfl rfl rfl ?_
            refine VQ_y (fun w' hw' => Y_load ((World.cell?_of_block (hw'.block _ (World.block_lt_of_cell? _ _ (Hp.cell (j := 1) hH (i := 0) rfl rfl)))).trans (Hp.cell (j := 1) hH (i := 0) rfl rfl)) Tryd.isAgg3 rfl) rfl rfl rfl ?_
            refine VQ_y (fun w' hw' => Y_move rfl) rfl rfl rfl ?_
            obtain ⟨b137, o138, h139, h140⟩ := ptr_at h_steps hx77
            refine VQ_y (fun w' hw' => Y_nilCheck (congrArg some h139)) rfl rfl rfl ?_
            have h141 := El_route_Step_1 h140
            refine VQ_y (fun w' hw' => Y_fieldAddr Tryd.underlying69 rfl Tryd.sizeOf3 (by decide) rfl) rfl rfl rfl ?_
            refine VQ_y (fun w' hw' => Y_load (El.int (El.kp h141 hw')) Tryd.isAgg3 rfl) rfl rfl rfl ?_
            refine VQ_y (fun w' hw' => Y_subI rfl rfl) rfl rfl rfl ?_
            refine VQ_y (fun w' hw' => Y_fieldAddrC (off2 := 1) Tryd.underlying42 rfl Tryd.sizeOf3 (by decide) rfl rfl) rfl rfl rfl ?_
            refine VQ_tail (fun w142 hk143 => ?_)
            try simp only [List.take, List.drop]
            have ht144 := Kp.tr hk143 hA hB
            replace hH := Hp.kp hH hk143
            replace h_steps := Sl.tr h_steps ht144
            replace h87 := Sl.tr h87 ht144
            replace h140 := El.tr h140 ht144
            replace h141 := El.tr h141 ht144
            replace hK := Tr.trans hK ht144
            replace hr90 := Tr.trans hr90 ht144
            replace hr116 := Tr.trans hr116 ht144
            replace hB := Nat.le_trans hB ht144.ex.size
            replace hA := ht144.new
            refine V_storeC (off := 1) (ds := [.string x124.name, .int .i64 (w64 (x124.rank - x77.lower))]) hH (i := 0) rfl Tryd.sizeOf3 rfl (Nat.le_of_ble_eq_true rfl) (by simp [Value.cells, Value.oneCell']) rfl hB hA rfl rfl ?_
            intro w145 hH146 ht147
            replace h_steps := Sl.tr h_steps ht147
            replace h87 := Sl.tr h87 ht147
            replace h140 := El.tr h140 ht147
            replace h141 := El.tr h141 ht147
            replace hK := Tr.trans hK ht147
            replace hr90 := Tr.trans hr90 ht147
            replace hr116 := Tr.trans hr116 ht147
            replace hB := Nat.le_trans hB ht147.ex.size
            replace hA := ht147.new
            replace hH : Hp w.heap.size A131 w145 (obC b129 [.string x124.name, .int .i64 (w64 (x124.rank - x77.lower))] 42 :: obS (α := route_Skill) 42 v101 s99 :: []) := hH146
            refine V_to (fun _ _ => rfl) ?_
            refine C_seq ?_
            refine C_region ?_
            refine V_y (Y_fieldAddrC (off2 := 1) Tryd.underlying42 rfl Tryd.sizeOf3 (by decide) rfl rfl) rfl rfl rfl ?_
            refine V_y (Y_load (Hp.cell (j := 1) hH (i := 0) rfl rfl) Tryd.isAgg3 rfl) rfl rfl rfl ?_
            refine V_y (Y_geq rfl rfl) rfl rfl rfl ?_
            refine V_to (fun _ _ => rfl) ?_
            obtain ⟨s149, ho148, ho114⟩ := Option.bind_eq_some_iff.1 ho114
            refine C_cutG (ι := (Value × (Nat → Prop))) (fun ⟨v151, A156⟩ => [(7, ptrV v_steps 3 s12), (9, v151), (43, v85), (44, .int .i64 (w_.needs.length : Int)), (45, .int .i64 (k91 : Int))]) (fun ⟨v151, A156⟩ => fun w' => Hp w.heap.size A156 w' (obC b129 [.string x124.name, .int .i64 (w64 (x124.rank - x77.lower))] 42 :: obS (α := route_Skill) 42 v151 s149 :: []) ∧ Tr w.heap.size A131 w145 A156 w') ?_ ?_
            · have hr150 : Tr w.heap.size A131 w145 A131 w145 := Tr.refl hA
              refine C_cond rfl (fun hc158 => ?_) (fun hc158 => ?_)
              · rw [if_pos hc158] at ho148
                refine C_region ?_
                refine V_y (Y_move rfl) rfl rfl rfl ?_
                refine V_y (Y_loadA (Hp.part (off := 0) (n := 2) (ds := [.string x124.name, .int .i64 (w64 (x124.rank - x77.lower))]) hH (i := 0) rfl rfl) Tryd.isAgg42 Tryd.sizeOf42 rfl) rfl rfl rfl ?_
                refine V_buildSlice (l := ([(⟨x124.name, w64 (x124.rank - x77.lower)⟩ : route_Skill)] : List route_Skill)) (len := 1) Tryd.underlying33 Tryd.sizeOf42 Tryd.zeroValue42 rfl (by with_unfolding_all rfl) (by decide) (by decide) hA ⟨[.string x124.name, .int .i64 (w64 (x124.rank - x77.lower))], _, rfl, ⟨[.string x124.name], _, rfl, rfl, rfl⟩, rfl⟩ rfl rfl ?_
                intro v159 w160 hk162 h161
                have ht163 := Kp.tr hk162 hA hB
                replace hH := Hp.kp hH hk162
                replace h_steps := Sl.tr h_steps ht163
                replace h87 := Sl.tr h87 ht163
                replace hK := Tr.trans hK ht163
                replace hr90 := Tr.trans hr90 ht163
                replace hr116 := Tr.trans hr116 ht163
                replace hr150 := Tr.trans hr150 ht163
                replace hB := Nat.le_trans hB ht163.ex.size
                replace hA := ht163.new
                obtain ⟨x164, hx164, ho148⟩ := Option.bind_eq_some_iff.1 ho148
                refine V_appendH (e := 42) (v := v101) (l := s99) (ti := Tryd.t42) (bytes := 24) (lim := 5864062014805) hH (i := 1) rfl h161 hx164 Tryd.underlying33 Tryd_info42 rfl rfl rfl rfl (by decide) (by decide) (by decide) hB hA rfl rfl rfl ?_
                intro v165 w166 A167 hH168 ht169
                replace h_steps := Sl.tr h_steps ht169
                replace h87 := Sl.tr h87 ht169
                replace h161 := Sl.tr h161 ht169
                replace hK := Tr.trans hK ht169
                replace hr90 := Tr.trans hr90 ht169
                replace hr116 := Tr.trans hr116 ht169
                replace hr150 := Tr.trans hr150 ht169
                replace hB := Nat.le_trans hB ht169.ex.size
                replace hA := ht169.new
                replace hH : Hp w.heap.size A167 w166 (obC b129 [.string x124.name, .int .i64 (w64 (x124.rank - x77.lower))] 42 :: obS (α := route_Skill) 42 v165 x164 :: []) := hH168
                refine V_y (Y_assign rfl) rfl rfl rfl ?_
                obtain rfl := Option.some.inj ho148
                refine V_end (fun a ha170 => ?_)
                exact ⟨(v165, A167), ha170.sub ⟨rfl, rfl, rfl, rfl, rfl, trivial⟩, ⟨hH, hr150⟩⟩
              · rw [if_neg (nt hc158)] at ho148
                obtain rfl := Option.some.inj ho148
                refine C_skip (fun a ha171 => ?_)
                exact ⟨(v101, A131), ha171.sub ⟨rfl, rfl, rfl, rfl, rfl, trivial⟩, ⟨hH, hr150⟩⟩
            rintro ⟨v151, A156⟩ w153 ⟨hH157, hk154⟩ a ha155
            replace h_steps := Sl.tr h_steps hk154
            replace h87 := Sl.tr h87 hk154
            replace hK := Tr.trans hK hk154
            replace hr90 := Tr.trans hr90 hk154
            replace hr116 := Tr.trans hr116 hk154
            replace hB := Nat.le_trans hB hk154.ex.size
            replace hA := hk154.new
            replace hH : Hp w.heap.size A156 w153 (obC b129 [.string x124.name, .int .i64 (w64 (x124.rank - x77.lower))] 42 :: obS (α := route_Skill) 42 v151 s149 :: []) := hH157
            obtain rfl := Option.some.inj ho114
            replace hH : Hp w.heap.size A156 w153 (obS (α := route_Skill) 42 v151 s149 :: obC b129 [.string x124.name, .int .i64 (w64 (x124.rank - x77.lower))] 42 :: []) := Hp.front hH (i := 1) rfl
            replace hH : Hp w.heap.size A156 w153 (obS (α := route_Skill) 42 v151 s149 :: []) := Hp.drop hH (i := 1) rfl
            exact ⟨(v151, A156), ha155.sub ⟨rfl, rfl, rfl, rfl, rfl, trivial⟩, ⟨hH, hr116⟩⟩
          rintro ⟨v117, A122⟩ w119 ⟨hH123, hk120⟩ a ha121
          replace h_steps := Sl.tr h_steps hk120
          replace h87 := Sl.tr h87 hk120
          replace hK := Tr.trans hK hk120
          replace hr90 := Tr.trans hr90 hk120
          replace hB := Nat.le_trans hB hk120.ex.size
          replace hA := hk120.new
          replace hH : Hp w.heap.size A122 w119 (obS (α := route_Skill) 42 v117 s115 :: []) := hH123
          refine C_at (n := ⟨66, [], none⟩) (fun _ _ => rfl) ?_ ha121
          refine C_region ?_
          refine V_y (Y_addI rfl rfl) rfl rfl rfl ?_
          refine V_y (Y_move rfl) rfl rfl rfl ?_
          obtain rfl := Option.some.inj h106
          refine V_end (fun a ha173 => ?_)
          exact ⟨s115, hlt109, h107, ⟨(v117, A122), ha173.sub ⟨rfl, rfl, rfl, rfl, (congrArg (fun z => some (Value.int .i64 z)) (w64_succ hlt109 hn112)), trivial⟩, ⟨hH, hr90⟩⟩⟩
        · refine C_exit (fun a ha174 => ?_)
          exact ⟨(s99, v101, A103), ha174.sub ⟨rfl, trivial⟩, ⟨(h110 (eq_of_dec hle108 hc113)).symm, hH, hr90⟩⟩
      rintro ⟨s89, v95, A97⟩ w92 ⟨rfl, hH98, hk93⟩ a ha94
      rw [Lp.andThen_fin] at hm
      replace hK := Tr.trans hK hk93
      replace hB := Nat.le_trans hB hk93.ex.size
      replace hA := hk93.new
      replace hH : Hp w.heap.size A97 w92 (obS (α := route_Skill) 42 v95 s89 :: []) := hH98
      refine C_at (n := ⟨66, [], none⟩) (fun _ _ => rfl) ?_ ha94
      refine C_seq ?_
      refine C_region ?_
      refine V_y (Y_move rfl) rfl rfl rfl ?_
      refine V_y (Y_assign rfl) rfl rfl rfl ?_
      refine V_to (fun _ _ => rfl) ?_
      obtain rfl := Option.some.inj hm
      refine C_ret ?_
      try simp only [↓inBlock_ret, ↓then_ret]
      exact retQ rfl (Res.one Tryd.results29 rfl) ⟨v95, rfl, (Hp.ownd hH (i := 0) rfl), hK.kp⟩

set_option maxRecDepth 4000 in
set_option maxHeartbeats 4000000 in
theorem route_NeedsAt_c (w : World) {A : Nat → Prop} (hA : ∀ b, w.heap.size ≤ b → A b) (w_ : route_Work) (v_w_ : Value) (h_w_ : Sl A w v_w_ w_.needs) (steps : (List route_Step)) (v_steps : Value) (h_steps : Sl A w v_steps steps) (m : Int) {r : ((List route_Skill) × Int)} (hm : route_NeedsAt w_ steps m = some r) : Ret Tryd.prog 12 #[.agg #[.int .i64 w_.ticket, .int .i64 w_.weight, .int .i64 w_.urgency, .int .i64 w_.since, .int .i64 w_.former, v_w_], v_steps, .int .i64 m] w fun v w' => ∃ s0, v = .tuple #[s0, .int .i64 r.2] ∧ Ownd 42 w w' s0 r.1 ∧ Kp w w' := by
  unfold route_NeedsAt at hm
  refine enter Tryd.func12 rfl Tryd.ntmps12 rfl ?_
  have hA0 := hA
  have hB := Nat.le_refl w.heap.size
  have hK : Tr w.heap.size A w A w := Tr.refl hA
  have hH : Hp w.heap.size A w [] := Hp.nil
  refine C_seq ?_
  refine C_region ?_
  refine V_box rfl rfl ?_
  intro b5 w6 h7
  have hk9 := h7.kp
  have h8 : El (α := route_Work) A w6 b5 0 w_ := h7.el hA ⟨[.int .i64 w_.ticket], _, rfl, rfl, ⟨[.int .i64 w_.weight], _, rfl, rfl, ⟨[.int .i64 w_.urgency], _, rfl, rfl, ⟨[.int .i64 w_.since], _, rfl, rfl, ⟨[.int .i64 w_.former], _, rfl, rfl, ⟨_, rfl, h_w_⟩⟩⟩⟩⟩⟩
  have ht10 := Kp.tr hk9 hA hB
  replace hH := Hp.kp hH hk9
  replace h_w_ := Sl.tr h_w_ ht10
  replace h_steps := Sl.tr h_steps ht10
  replace hK := Tr.trans hK ht10
  replace hB := Nat.le_trans hB ht10.ex.size
  replace hA := ht10.new
  refine V_y (Y_assign rfl) rfl rfl rfl ?_
  refine V_y (Y_assign rfl) rfl rfl rfl ?_
  refine V_to (fun _ _ => rfl) ?_
  refine C_seq ?_
  refine C_seq ?_
  refine C_region ?_
  obtain ⟨v11, h13, h12⟩ := El_route_Work h8
  refine V_y (Y_loadA h13 Tryd.isAgg35 Tryd.sizeOf35 rfl) rfl rfl rfl ?_
  refine V_buildSlice (l := ([w_] : List route_Work)) (len := 1) Tryd.underlying53 Tryd.sizeOf35 Tryd.zeroValue35 rfl (by with_unfolding_all rfl) (by decide) (by decide) hA ⟨[.int .i64 w_.ticket, .int .i64 w_.weight, .int .i64 w_.urgency, .int .i64 w_.since, .int .i64 w_.former, v11], _, rfl, ⟨[.int .i64 w_.ticket], _, rfl, rfl, ⟨[.int .i64 w_.weight], _, rfl, rfl, ⟨[.int .i64 w_.urgency], _, rfl, rfl, ⟨[.int .i64 w_.since], _, rfl, rfl, ⟨[.int .i64 w_.former], _, rfl, rfl, ⟨_, rfl, h12⟩⟩⟩⟩⟩⟩, rfl⟩ rfl rfl ?_
  intro v14 w15 hk17 h16
  have ht18 := Kp.tr hk17 hA hB
  replace hH := Hp.kp hH hk17
  replace h_steps := Sl.tr h_steps ht18
  replace h8 := El.tr h8 ht18
  replace h12 := Sl.tr h12 ht18
  replace hK := Tr.trans hK ht18
  replace hB := Nat.le_trans hB ht18.ex.size
  replace hA := ht18.new
  obtain ⟨x19, hx19, hm⟩ := Option.bind_eq_some_iff.1 hm
  refine V_call Tryd.call26 rfl rfl rfl rfl (route_CheckWork_c w15 hA ([w_] : List route_Work) v14 h16 hx19) ?_
  rintro _ w20 ⟨rfl, hk21⟩
  have ht22 := Kp.tr hk21 hA hB
  replace hH := Hp.kp hH hk21
  replace h_steps := Sl.tr h_steps ht22
  replace h8 := El.tr h8 ht22
  replace h12 := Sl.tr h12 ht22
  replace h16 := Sl.tr h16 ht22
  replace hK := Tr.trans hK ht22
  replace hB := Nat.le_trans hB ht22.ex.size
  replace hA := ht22.new
  refine V_y (Y_move rfl) rfl rfl rfl ?_
  obtain ⟨x23, hx23, hm⟩ := Option.bind_eq_some_iff.1 hm
  refine V_call Tryd.call27 rfl rfl rfl rfl (route_CheckSteps_c w20 hA steps v_steps h_steps hx23) ?_
  rintro _ w24 ⟨rfl, hk25⟩
  have ht26 := Kp.tr hk25 hA hB
  replace hH := Hp.kp hH hk25
  replace h_steps := Sl.tr h_steps ht26
  replace h8 := El.tr h8 ht26
  replace h12 := Sl.tr h12 ht26
  replace h16 := Sl.tr h16 ht26
  replace hK := Tr.trans hK ht26
  replace hB := Nat.le_trans hB ht26.ex.size
  replace hA := ht26.new
  refine V_y (Y_move rfl) rfl rfl rfl ?_
  refine V_call Tryd.call28 rfl rfl rfl rfl (route_moment_c w24 m) ?_
  rintro _ _ ⟨rfl, rfl⟩
  refine V_buildSlice (l := ([x19, x23, (route_moment m)] : List Int)) (len := 3) Tryd.underlying65 Tryd.sizeOf25 Tryd.zeroValue25 rfl (by with_unfolding_all rfl) (by decide) (by decide) hA ⟨[.int .i64 x19], _, rfl, rfl, ⟨[.int .i64 x23], _, rfl, rfl, ⟨[.int .i64 (route_moment m)], _, rfl, rfl, rfl⟩⟩⟩ rfl rfl ?_
  intro v27 w28 hk30 h29
  have ht31 := Kp.tr hk30 hA hB
  replace hH := Hp.kp hH hk30
  replace h_steps := Sl.tr h_steps ht31
  replace h8 := El.tr h8 ht31
  replace h12 := Sl.tr h12 ht31
  replace h16 := Sl.tr h16 ht31
  replace hK := Tr.trans hK ht31
  replace hB := Nat.le_trans hB ht31.ex.size
  replace hA := ht31.new
  obtain ⟨x32, hx32, hm⟩ := Option.bind_eq_some_iff.1 hm
  refine V_call Tryd.call25 rfl rfl rfl rfl (cmp_Or_api_Errno_c w28 ([x19, x23, (route_moment m)] : List Int) v27 h29 hx32) ?_
  rintro _ _ ⟨rfl, rfl⟩
  refine V_y (Y_assign rfl) rfl rfl rfl ?_
  refine V_to (fun _ _ => rfl) ?_
  refine C_seq ?_
  refine C_region ?_
  refine V_y (Y_move rfl) rfl rfl rfl ?_
  refine V_y (Y_neq rfl rfl) rfl rfl rfl ?_
  refine V_to (fun _ _ => rfl) ?_
  refine C_cond rfl (fun hc33 => ?_) (fun hc33 => ?_)
  · rw [if_pos hc33] at hm
    refine C_seq ?_
    refine C_region ?_
    refine V_y (Y_move rfl) rfl rfl rfl ?_
    refine V_y (Y_assign rfl) rfl rfl rfl ?_
    refine V_y (Y_assign rfl) rfl rfl rfl ?_
    refine V_to (fun _ _ => rfl) ?_
    obtain rfl := Option.some.inj hm
    replace hH : Hp w.heap.size A w28 (obS (α := route_Skill) 42 (.slice none 0 0) ([] : (List route_Skill)) :: []) := Hp.addNil (α := route_Skill) (e := 42) hH
    refine C_ret ?_
    try simp only [↓inBlock_ret, ↓then_ret]
    exact retQ rfl (Res.two Tryd.results12 rfl rfl) ⟨.slice none 0 0, rfl, (Hp.ownd hH (i := 0) rfl), hK.kp⟩
  · rw [if_neg (nt hc33)] at hm
    refine C_skip_to (fun _ _ => rfl) ?_
    refine C_seq ?_
    refine C_region ?_
    obtain ⟨v34, h36, h35⟩ := El_route_Work h8
    refine V_y (Y_loadA h36 Tryd.isAgg35 Tryd.sizeOf35 rfl) rfl rfl rfl ?_
    refine V_y (Y_move rfl) rfl rfl rfl ?_
    refine V_y (Y_move rfl) rfl rfl rfl ?_
    obtain ⟨x37, hx37, hm⟩ := Option.bind_eq_some_iff.1 hm
    refine V_call Tryd.call29 rfl rfl rfl rfl (route_needsAt_c w28 hA w_ v34 h35 steps v_steps h_steps m hx37) ?_
    rintro v38 w40 ⟨_, rfl, h39, hk41⟩
    obtain ⟨A42, ht43, hH44⟩ := Hp.addOwnd hH hB hA hk41 h39
    replace h_steps := Sl.tr h_steps ht43
    replace h8 := El.tr h8 ht43
    replace h35 := Sl.tr h35 ht43
    replace hK := Tr.trans hK ht43
    replace hB := Nat.le_trans hB ht43.ex.size
    replace hA := ht43.new
    replace hH : Hp w.heap.size A42 w40 (obS (α := route_Skill) 42 v38 x37 :: []) := hH44
    refine V_y (Y_assign rfl) rfl rfl rfl ?_
    refine V_y (Y_assign rfl) rfl rfl rfl ?_
    refine V_to (fun _ _ => rfl) ?_
    obtain rfl := Option.some.inj hm
    refine C_ret ?_
    try simp only [↓inBlock_ret, ↓then_ret]
    exact retQ rfl (Res.two Tryd.results12 rfl rfl) ⟨v38, rfl, (Hp.ownd hH (i := 0) rfl), hK.kp⟩

set_option maxRecDepth 4000 in
set_option maxHeartbeats 4000000 in
theorem portref2_WorkFault_1_c (w : World) {A : Nat → Prop} (hA : ∀ b, w.heap.size ≤ b → A b) (x : route_Work) (v_x : Value) (h_x : Sl A w v_x x.needs) (p1 : route_Work) (b_p1 : Nat) (h_p1 : El A w b_p1 0 p1) {r : Bool} (hm : portref2_WorkFault_1 x p1 = some r) : Ret Tryd.prog 44 #[.agg #[.int .i64 x.ticket, .int .i64 x.weight, .int .i64 x.urgency, .int .i64 x.since, .int .i64 x.former, v_x], .pointer (some ⟨b_p1, 0, none⟩)] w fun v w' => v = .bool r ∧ Kp w w' := by
  unfold portref2_WorkFault_1 at hm
  refine enter Tryd.func44 rfl Tryd.ntmps44 rfl ?_
  have hA0 := hA
  have hB := Nat.le_refl w.heap.size
  have hK : Tr w.heap.size A w A w := Tr.refl hA
  have hH : Hp w.heap.size A w [] := Hp.nil
  refine C_seq ?_
  refine C_region ?_
  refine V_box rfl rfl ?_
  intro b3 w4 h5
  have hk7 := h5.kp
  have h6 : El (α := route_Work) A w4 b3 0 x := h5.el hA ⟨[.int .i64 x.ticket], _, rfl, rfl, ⟨[.int .i64 x.weight], _, rfl, rfl, ⟨[.int .i64 x.urgency], _, rfl, rfl, ⟨[.int .i64 x.since], _, rfl, rfl, ⟨[.int .i64 x.former], _, rfl, rfl, ⟨_, rfl, h_x⟩⟩⟩⟩⟩⟩
  have ht8 := Kp.tr hk7 hA hB
  replace hH := Hp.kp hH hk7
  replace h_x := Sl.tr h_x ht8
  replace h_p1 := El.tr h_p1 ht8
  replace hK := Tr.trans hK ht8
  replace hB := Nat.le_trans hB ht8.ex.size
  replace hA := ht8.new
  refine V_y (Y_assign rfl) rfl rfl rfl ?_
  refine V_to (fun _ _ => rfl) ?_
  refine C_seq ?_
  refine C_region ?_
  have h9 := El_route_Work_0 h6
  refine V_y (Y_fieldAddr Tryd.underlying35 rfl Tryd.sizeOf3 (by decide) rfl) rfl rfl rfl ?_
  refine V_y (Y_load (El.int h9) Tryd.isAgg3 rfl) rfl rfl rfl ?_
  have h10 := El_route_Work_0 h_p1
  refine V_y (Y_fieldAddr Tryd.underlying35 rfl Tryd.sizeOf3 (by decide) rfl) rfl rfl rfl ?_
  refine V_y (Y_load (El.int h10) Tryd.isAgg3 rfl) rfl rfl rfl ?_
  refine V_y (Y_eql rfl rfl) rfl rfl rfl ?_
  refine V_y (Y_assign rfl) rfl rfl rfl ?_
  refine V_to (fun _ _ => rfl) ?_
  obtain rfl := Option.some.inj hm
  refine C_ret ?_
  try simp only [↓inBlock_ret, ↓then_ret]
  exact retQ rfl (Res.one Tryd.results44 rfl) ⟨rfl, hK.kp⟩

set_option maxRecDepth 4000 in
set_option maxHeartbeats 4000000 in
theorem portref2_IsMoment_c (w : World) (m : Int) : Ret Tryd.prog 32 #[.int .i64 m] w fun v w' => v = .bool (portref2_IsMoment m) ∧ w = w' := by
  generalize hm : portref2_IsMoment m = r
  unfold portref2_IsMoment at hm
  refine enter Tryd.func32 rfl Tryd.ntmps32 rfl ?_
  refine C_seq ?_
  refine C_region ?_
  refine V_y (Y_assign rfl) rfl rfl rfl ?_
  refine V_to (fun _ _ => rfl) ?_
  refine C_seq ?_
  refine C_region ?_
  refine V_y (Y_move rfl) rfl rfl rfl ?_
  refine V_y (Y_geq rfl rfl) rfl rfl rfl ?_
  refine V_y (Y_move rfl) rfl rfl rfl ?_
  refine V_cut 3 (fun _ : Unit => [(8, .bool ((decide ((0 : Int) ≤ m)) && (decide (m ≤ 3000000))))]) (fun _ w' => w = w') ?_ ?_
  · simp only [List.take, List.drop]
    rcases Bool.eq_false_or_eq_true (decide ((0 : Int) ≤ m)) with hc1 | hc1
    · refine V_ge rfl rfl rfl hc1 ?_
      refine V_y (Y_move rfl) rfl rfl rfl ?_
      refine V_ge rfl rfl rfl hc1 ?_
      refine V_y (Y_leq rfl rfl) rfl rfl rfl ?_
      refine V_y (Y_pick_te rfl hc1 rfl) rfl rfl rfl ?_
      exact V_end fun a ha => ⟨(), ha.sub ⟨(by rw [hc1]; rfl), trivial⟩, rfl⟩
    · refine V_gn rfl rfl rfl hc1 rfl rfl rfl ?_
      refine V_gn rfl rfl rfl hc1 rfl rfl rfl ?_
      refine V_y (Y_pick_fe rfl hc1 rfl) rfl rfl rfl ?_
      exact V_end fun a ha => ⟨(), ha.sub ⟨(by rw [hc1]; rfl), trivial⟩, rfl⟩
  simp only [List.take, List.drop]
  rintro _ _ rfl
  refine V_y (Y_assign rfl) rfl rfl rfl ?_
  refine V_to (fun _ _ => rfl) ?_
  obtain rfl := hm
  refine C_ret ?_
  try simp only [↓inBlock_ret, ↓then_ret]
  exact retQ rfl (Res.one Tryd.results32 rfl) ⟨rfl, rfl⟩

def Tryd_strings_Trim_lay_ren : Go.Shelf.Ren := ⟨fun | 119 => 71 | 120 => 69 | 137 => 70 | 151 => 65 | 152 => 68 | 160 => 55 | 197 => 64 | 217 => 74 | 224 => 72 | 225 => 73 | 227 => 58 | 228 => 63 | 231 => 56 | 232 => 57 | 233 => 59 | 234 => 60 | 235 => 61 | 236 => 62 | 260 => 67 | 266 => 75 | 271 => 66 | n => n, fun | 0 => 0 | 1 => 1 | 2 => 2 | 3 => 3 | 4 => 4 | 5 => 5 | 6 => 6 | 7 => 7 | 8 => 8 | 9 => 9 | 10 => 10 | 11 => 11 | 12 => 12 | 13 => 13 | 14 => 14 | 15 => 15 | 16 => 16 | 17 => 17 | 18 => 18 | 19 => 19 | 20 => 20 | 21 => 21 | 23 => 79 | 27 => 100 | 28 => 24 | 34 => 30 | 36 => 49 | 40 => 98 | 41 => 87 | 46 => 93 | 51 => 108 | 55 => 97 | 63 => 90 | 64 => 91 | 80 => 101 | 81 => 107 | 104 => 72 | 105 => 88 | 106 => 89 | 111 => 57 | 114 => 99 | 115 => 81 | 116 => 82 | 117 => 83 | 118 => 84 | 119 => 92 | 122 => 80 | 123 => 85 | 124 => 86 | 127 => 112 | 137 => 94 | 138 => 95 | 139 => 96 | 164 => 117 | 229 => 47 | 238 => 102 | 239 => 103 | 240 => 104 | 241 => 105 | 242 => 106 | 243 => 109 | 244 => 110 | 245 => 111 | 246 => 113 | 247 => 114 | 248 => 115 | 249 => 116 | n => n, fun | 1 => 2 | 3 => 0 | 4 => 1 | n => n⟩
theorem Tryd_strings_Trim_lay : Go.Proofs.Lays.n160 Tryd.prog Tryd_strings_Trim_lay_ren := {
  mixed := by kernel_rfl,
  f119 := Tryd.func71.trans (congrArg some (by kernel_rfl)),
  f120 := Tryd.func69.trans (congrArg some (by kernel_rfl)),
  f137 := Tryd.func70.trans (congrArg some (by kernel_rfl)),
  f151 := Tryd.func65.trans (congrArg some (by kernel_rfl)),
  f152 := Tryd.func68.trans (congrArg some (by kernel_rfl)),
  f160 := Tryd.func55.trans (congrArg some (by kernel_rfl)),
  f197 := Tryd.func64.trans (congrArg some (by kernel_rfl)),
  f217 := Tryd.func74.trans (congrArg some (by kernel_rfl)),
  f224 := Tryd.func72.trans (congrArg some (by kernel_rfl)),
  f225 := Tryd.func73.trans (congrArg some (by kernel_rfl)),
  f227 := Tryd.func58.trans (congrArg some (by kernel_rfl)),
  f228 := Tryd.func63.trans (congrArg some (by kernel_rfl)),
  f231 := Tryd.func56.trans (congrArg some (by kernel_rfl)),
  f232 := Tryd.func57.trans (congrArg some (by kernel_rfl)),
  f233 := Tryd.func59.trans (congrArg some (by kernel_rfl)),
  f234 := Tryd.func60.trans (congrArg some (by kernel_rfl)),
  f235 := Tryd.func61.trans (congrArg some (by kernel_rfl)),
  f236 := Tryd.func62.trans (congrArg some (by kernel_rfl)),
  f260 := Tryd.func67.trans (congrArg some (by kernel_rfl)),
  f266 := Tryd.func75.trans (congrArg some (by kernel_rfl)),
  f271 := Tryd.func66.trans (congrArg some (by kernel_rfl)),
  t0 := Tryd.underlying0,
  a0 := Tryd.isAgg0,
  z0 := Tryd.sizeOf0,
  v0 := Tryd.zeroValue0,
  t3 := Tryd.underlying3,
  a3 := Tryd.isAgg3,
  z3 := Tryd.sizeOf3,
  v3 := Tryd.zeroValue3,
  t4 := Tryd.underlying4,
  a4 := Tryd.isAgg4,
  z4 := Tryd.sizeOf4,
  v4 := Tryd.zeroValue4,
  t5 := Tryd.underlying5,
  a5 := Tryd.isAgg5,
  z5 := Tryd.sizeOf5,
  v5 := Tryd.zeroValue5,
  t9 := Tryd.underlying9,
  a9 := Tryd.isAgg9,
  z9 := Tryd.sizeOf9,
  v9 := Tryd.zeroValue9,
  t21 := Tryd.underlying21,
  a21 := Tryd.isAgg21,
  z21 := Tryd.sizeOf21,
  v21 := Tryd.zeroValue21,
  t46 := Tryd.underlying93,
  a46 := Tryd.isAgg93,
  z46 := Tryd.sizeOf93,
  v46 := Tryd.zeroValue93,
  t105 := Tryd.underlying88,
  a105 := Tryd.isAgg88,
  z105 := Tryd.sizeOf88,
  v105 := Tryd.zeroValue88,
  t116 := Tryd.underlying82,
  a116 := Tryd.isAgg82,
  z116 := Tryd.sizeOf82,
  t117 := Tryd.underlying83,
  a117 := Tryd.isAgg83,
  z117 := Tryd.sizeOf83,
  v117 := Tryd.zeroValue83,
  t119 := Tryd.underlying92,
  a119 := Tryd.isAgg92,
  z119 := Tryd.sizeOf92,
  t124 := Tryd.underlying86,
  a124 := Tryd.isAgg86,
  z124 := Tryd.sizeOf86,
  v124 := Tryd.zeroValue86,
  t138 := Tryd.underlying95,
  a138 := Tryd.isAgg95,
  z138 := Tryd.sizeOf95,
  v138 := Tryd.zeroValue95,
  t139 := Tryd.underlying96,
  a139 := Tryd.isAgg96,
  z139 := Tryd.sizeOf96,
  v139 := Tryd.zeroValue96,
  g3 := by kernel_rfl,
  g4 := by kernel_rfl }
theorem strings_Trim_c (w : World) {A : Nat → Prop} (hA : ∀ b, w.heap.size ≤ b → A b) (s : ByteArray) (cutset : ByteArray) {r : ByteArray} (hm : strings_Trim s cutset = some r) : Ret Tryd.prog 55 #[.string s, .string cutset] w fun v w' => v = .string r ∧ Kp w w' := by
  unfold strings_Trim at hm
  split at hm
  case isFalse => cases hm
  rename_i h
  obtain rfl := Option.some.inj hm
  refine Calls.mono (Go.Proofs.Any.strings_Trim_laid Tryd_strings_Trim_lay (by kernel_rfl) s cutset w h.1 h.2.1 (Go.Proofs.ascii_of_all h.2.2)) ?_
  rintro _ w' ⟨rfl, hk⟩
  exact ⟨_, rfl, rfl, hk⟩

set_option maxRecDepth 4000 in
set_option maxHeartbeats 4000000 in
theorem portref2_IsName_c (w : World) {A : Nat → Prop} (hA : ∀ b, w.heap.size ≤ b → A b) (s : ByteArray) {r : Bool} (hm : portref2_IsName s = some r) : Ret Tryd.prog 48 #[.string s] w fun v w' => v = .bool r ∧ Kp w w' := by
  unfold portref2_IsName at hm
  refine enter Tryd.func48 rfl Tryd.ntmps48 rfl ?_
  have hA0 := hA
  have hB := Nat.le_refl w.heap.size
  have hK : Tr w.heap.size A w A w := Tr.refl hA
  have hH : Hp w.heap.size A w [] := Hp.nil
  refine C_seq ?_
  refine C_region ?_
  refine V_y (Y_assign rfl) rfl rfl rfl ?_
  refine V_to (fun _ _ => rfl) ?_
  refine C_seq ?_
  obtain ⟨s2, ho1, hm⟩ := Option.bind_eq_some_iff.1 hm
  refine C_cutG (ι := (Nat → Prop)) (fun (A7 : (Nat → Prop)) => [(2, .bool s2)]) (fun (A7 : (Nat → Prop)) => fun w' => Hp w.heap.size A7 w' ([]) ∧ Tr w.heap.size A w A7 w') ?_ ?_
  · have hr3 : Tr w.heap.size A w A w := Tr.refl hA
    refine C_region ?_
    refine V_y (Y_move rfl) rfl rfl rfl ?_
    refine V_y (Y_lenStr rfl Tryd.underlying9 rfl) rfl rfl rfl ?_
    refine V_y (Y_geq rfl rfl) rfl rfl rfl ?_
    refine V_y (Y_move rfl) rfl rfl rfl ?_
    rcases Bool.eq_false_or_eq_true (decide ((1 : Int) ≤ (s.size : Int))) with hc9 | hc9
    · rw [if_pos hc9] at ho1
      refine V_ge rfl rfl rfl hc9 ?_
      refine V_y (Y_move rfl) rfl rfl rfl ?_
      refine V_ge rfl rfl rfl hc9 ?_
      refine V_y (Y_lenStr rfl Tryd.underlying9 rfl) rfl rfl rfl ?_
      refine V_ge rfl rfl rfl hc9 ?_
      refine V_y (Y_leq rfl rfl) rfl rfl rfl ?_
      refine V_y (Y_pick_te rfl hc9 rfl) rfl rfl rfl ?_
      refine V_y (Y_move rfl) rfl rfl rfl ?_
      rcases Bool.eq_false_or_eq_true (decide ((s.size : Int) ≤ 20)) with hc10 | hc10
      · rw [if_pos hc10] at ho1
        refine V_ge rfl rfl rfl hc10 ?_
        refine V_y (Y_move rfl) rfl rfl rfl ?_
        refine V_ge rfl rfl rfl hc10 ?_
        obtain ⟨x11, hx11, ho1⟩ := Option.bind_eq_some_iff.1 ho1
        refine V_call Tryd.call55 rfl rfl rfl rfl (strings_Trim_c w hA s (⟨#[97, 98, 99, 100, 101, 102, 103, 104, 105, 106, 107, 108, 109, 110, 111, 112, 113, 114, 115, 116, 117, 118, 119, 120, 121, 122, 48, 49, 50, 51, 52, 53, 54, 55, 56, 57, 95]⟩ : ByteArray) hx11) ?_
        rintro _ w12 ⟨rfl, hk13⟩
        have ht14 := Kp.tr hk13 hA hB
        replace hH := Hp.kp hH hk13
        replace hK := Tr.trans hK ht14
        replace hr3 := Tr.trans hr3 ht14
        replace hB := Nat.le_trans hB ht14.ex.size
        replace hA := ht14.new
        refine V_ge rfl rfl rfl hc10 ?_
        refine V_y (Y_seql rfl rfl) rfl rfl rfl ?_
        refine V_y (Y_pick_te rfl hc10 rfl) rfl rfl rfl ?_
        refine V_y (Y_assign rfl) rfl rfl rfl ?_
        obtain rfl := Option.some.inj ho1
        refine V_end (fun a ha15 => ?_)
        exact ⟨A, ha15.sub ⟨rfl, trivial⟩, ⟨hH, hr3⟩⟩
      · rw [if_neg (nt hc10)] at ho1
        refine V_gn rfl rfl rfl hc10 rfl rfl rfl ?_
        refine V_gn rfl rfl rfl hc10 rfl rfl rfl ?_
        refine V_gn rfl rfl rfl hc10 rfl rfl rfl ?_
        refine V_y (Y_pick_fe rfl hc10 rfl) rfl rfl rfl ?_
        refine V_y (Y_assign rfl) rfl rfl rfl ?_
        obtain rfl := Option.some.inj ho1
        refine V_end (fun a ha16 => ?_)
        exact ⟨A, ha16.sub ⟨rfl, trivial⟩, ⟨hH, hr3⟩⟩
    · rw [if_neg (nt hc9)] at ho1
      refine V_gn rfl rfl rfl hc9 rfl rfl rfl ?_
      refine V_gn rfl rfl rfl hc9 rfl rfl rfl ?_
      refine V_gn rfl rfl rfl hc9 rfl rfl rfl ?_
      refine V_y (Y_pick_fe rfl hc9 rfl) rfl rfl rfl ?_
      refine V_y (Y_move rfl) rfl rfl rfl ?_
      rcases Bool.eq_false_or_eq_true (false) with hc17 | hc17
      · rw [if_pos hc17] at ho1
        refine V_ge rfl rfl rfl hc17 ?_
        refine V_y (Y_move rfl) rfl rfl rfl ?_
        refine V_ge rfl rfl rfl hc17 ?_
        obtain ⟨x18, hx18, ho1⟩ := Option.bind_eq_some_iff.1 ho1
        refine V_call Tryd.call55 rfl rfl rfl rfl (strings_Trim_c w hA s (⟨#[97, 98, 99, 100, 101, 102, 103, 104, 105, 106, 107, 108, 109, 110, 111, 112, 113, 114, 115, 116, 117, 118, 119, 120, 121, 122, 48, 49, 50, 51, 52, 53, 54, 55, 56, 57, 95]⟩ : ByteArray) hx18) ?_
        rintro _ w19 ⟨rfl, hk20⟩
        have ht21 := Kp.tr hk20 hA hB
        replace hH := Hp.kp hH hk20
        replace hK := Tr.trans hK ht21
        replace hr3 := Tr.trans hr3 ht21
        replace hB := Nat.le_trans hB ht21.ex.size
        replace hA := ht21.new
        refine V_ge rfl rfl rfl hc17 ?_
        refine V_y (Y_seql rfl rfl) rfl rfl rfl ?_
        refine V_y (Y_pick_te rfl hc17 rfl) rfl rfl rfl ?_
        refine V_y (Y_assign rfl) rfl rfl rfl ?_
        obtain rfl := Option.some.inj ho1
        refine V_end (fun a ha22 => ?_)
        exact ⟨A, ha22.sub ⟨rfl, trivial⟩, ⟨hH, hr3⟩⟩
      · rw [if_neg (nt hc17)] at ho1
        refine V_gn rfl rfl rfl hc17 rfl rfl rfl ?_
        refine V_gn rfl rfl rfl hc17 rfl rfl rfl ?_
        refine V_gn rfl rfl rfl hc17 rfl rfl rfl ?_
        refine V_y (Y_pick_fe rfl hc17 rfl) rfl rfl rfl ?_
        refine V_y (Y_assign rfl) rfl rfl rfl ?_
        obtain rfl := Option.some.inj ho1
        refine V_end (fun a ha23 => ?_)
        exact ⟨A, ha23.sub ⟨rfl, trivial⟩, ⟨hH, hr3⟩⟩
  rintro A7 w4 ⟨hH8, hk5⟩ a ha6
  replace hK := Tr.trans hK hk5
  replace hB := Nat.le_trans hB hk5.ex.size
  replace hA := hk5.new
  replace hH : Hp w.heap.size A7 w4 ([]) := hH8
  refine C_at (n := ⟨16, [], none⟩) (fun _ _ => rfl) ?_ ha6
  obtain rfl := Option.some.inj hm
  refine C_ret ?_
  try simp only [↓inBlock_ret, ↓then_ret]
  exact retQ rfl (Res.one Tryd.results48 rfl) ⟨rfl, hK.kp⟩

set_option maxRecDepth 4000 in
set_option maxHeartbeats 4000000 in
theorem portref2_skillsFault_c (w : World) {A : Nat → Prop} (hA : ∀ b, w.heap.size ≤ b → A b) (l : (List route_Skill)) (v_l : Value) (h_l : Sl A w v_l l) {r : Int} (hm : portref2_skillsFault l = some r) : Ret Tryd.prog 36 #[v_l] w fun v w' => v = .int .i64 r ∧ Kp w w' := by
  unfold portref2_skillsFault at hm
  refine enter Tryd.func36 rfl Tryd.ntmps36 rfl ?_
  have hA0 := hA
  have hB := Nat.le_refl w.heap.size
  have hK : Tr w.heap.size A w A w := Tr.refl hA
  have hH : Hp w.heap.size A w [] := Hp.nil
  refine C_seq ?_
  refine C_region ?_
  refine V_y (Y_assign rfl) rfl rfl rfl ?_
  refine V_to (fun _ _ => rfl) ?_
  refine C_seq ?_
  refine C_seq ?_
  refine C_region ?_
  refine V_y (Y_move rfl) rfl rfl rfl ?_
  refine V_y (Y_lenSl h_l rfl Tryd.underlying33 rfl) rfl rfl rfl ?_
  refine V_y (Y_gtr rfl rfl) rfl rfl rfl ?_
  refine V_to (fun _ _ => rfl) ?_
  refine C_cond rfl (fun hc3 => ?_) (fun hc3 => ?_)
  · rw [if_pos hc3] at hm
    refine C_seq ?_
    refine C_region ?_
    refine V_y (Y_assign rfl) rfl rfl rfl ?_
    refine V_to (fun _ _ => rfl) ?_
    obtain rfl := Option.some.inj hm
    refine C_ret ?_
    try simp only [↓inBlock_ret, ↓then_ret]
    exact retQ rfl (Res.one Tryd.results36 rfl) ⟨rfl, hK.kp⟩
  · rw [if_neg (nt hc3)] at hm
    refine C_skip_to (fun _ _ => rfl) ?_
    refine C_seq ?_
    refine C_seq ?_
    refine C_region ?_
    refine V_y (Y_move rfl) rfl rfl rfl ?_
    refine V_y (Y_lenSl h_l rfl Tryd.underlying33 rfl) rfl rfl rfl ?_
    refine V_y (Y_move rfl) rfl rfl rfl ?_
    refine V_to (fun _ _ => rfl) ?_
    have hn25 := Sl.le h_l
    obtain ⟨o4, ho4, hm⟩ := Option.bind_eq_some_iff.1 hm
    refine C_cutG (ι := (Unit × (Nat → Prop))) (fun ⟨s5, A12⟩ => []) (fun ⟨s5, A12⟩ => fun w' => o4 = .fin s5 ∧ Hp w.heap.size A12 w' ([]) ∧ Tr w.heap.size A w A12 w') ?_ ?_
    · refine C_block ?_
      refine C_range ho4 (fun k7 _ a w' => ∃ i : (Nat → Prop), Has ⟨44, [], none⟩ a ([(0, v_l), (8, v_l), (9, .int .i64 (l.length : Int)), (10, .int .i64 (k7 : Int))]) ∧ Hp w.heap.size i w' ([]) ∧ Tr w.heap.size A w i w') (fun a ha => ⟨A, ha.sub ⟨rfl, rfl, rfl, rfl, trivial⟩, ⟨hH, Tr.refl hA⟩⟩) ?_
      rintro K k7 _ a w15 ⟨A16, ha65, hH17, hr6⟩ hle21 K24 h23
      refine C_of ?_ ha65
      replace h_l := Sl.tr h_l hr6
      replace hK := Tr.trans hK hr6
      replace hB := Nat.le_trans hB hr6.ex.size
      replace hA := hr6.new
      replace hH : Hp w.heap.size A16 w15 ([]) := hH17
      refine C_seq (C_region (V_y (Y_lss rfl rfl) rfl rfl rfl (V_to (fun _ _ => rfl) ?_)))
      refine C_seq ?_
      refine C_cond rfl (fun hc26 => ?_) (fun hc26 => ?_)
      · have hlt22 := lt_of_dec hc26
        obtain ⟨x18, h19, h20⟩ := K24 hlt22
        refine C_skip_to (fun _ _ => rfl) ?_
        refine C_seq ?_
        refine C_block ?_
        refine C_seq ?_
        refine C_region ?_
        refine V_y (Y_move rfl) rfl rfl rfl ?_
        obtain ⟨x27, hx27, h19⟩ := Option.bind_eq_some_iff.1 h19
        refine V_indexAddr h_l hx27 Tryd.underlying33 Tryd.sizeOf42 rfl rfl rfl ?_
        intro b28 o29 h30
        obtain ⟨h31, _⟩ := El_route_Skill h30
        refine V_y (Y_loadA h31 Tryd.isAgg42 Tryd.sizeOf42 rfl) rfl rfl rfl ?_
        refine V_alloc Tryd.zeroValue42 rfl ?_
        intro b32 w33 h34
        refine V_y (Y_assign rfl) rfl rfl rfl ?_
        refine V_storeNew h34 Tryd.sizeOf42 rfl rfl rfl rfl (by exact (List.forall_mem_cons.2 ⟨rfl, (List.forall_mem_cons.2 ⟨rfl, (fun _ h => nomatch h)⟩)⟩)) ?_
        intro w35 h36
        have hk38 := h36.kp
        have h37 : El (α := route_Skill) A16 w35 b32 0 x27 := h36.el hA ⟨[.string x27.name], _, rfl, rfl, rfl⟩
        have ht39 := Kp.tr hk38 hA hB
        replace hH := Hp.kp hH hk38
        replace h_l := Sl.tr h_l ht39
        replace h30 := El.tr h30 ht39
        replace hK := Tr.trans hK ht39
        replace hr6 := Tr.trans hr6 ht39
        replace hB := Nat.le_trans hB ht39.ex.size
        replace hA := ht39.new
        refine V_to (fun _ _ => rfl) ?_
        refine C_block ?_
        refine C_seq ?_
        refine C_region ?_
        have h40 := El_route_Skill_0 h37
        refine V_y (Y_fieldAddr Tryd.underlying42 rfl Tryd.sizeOf9 (by decide) rfl) rfl rfl rfl ?_
        refine V_y (Y_load (El.str h40) Tryd.isAgg9 rfl) rfl rfl rfl ?_
        obtain ⟨x41, hx41, h19⟩ := Option.bind_eq_some_iff.1 h19
        refine V_call Tryd.call48 rfl rfl rfl rfl (portref2_IsName_c w35 hA x27.name hx41) ?_
        rintro _ w42 ⟨rfl, hk43⟩
        have ht44 := Kp.tr hk43 hA hB
        replace hH := Hp.kp hH hk43
        replace h_l := Sl.tr h_l ht44
        replace h37 := El.tr h37 ht44
        replace h40 := El.tr h40 ht44
        replace hK := Tr.trans hK ht44
        replace hr6 := Tr.trans hr6 ht44
        replace hB := Nat.le_trans hB ht44.ex.size
        replace hA := ht44.new
        refine V_y (Y_not rfl) rfl rfl rfl ?_
        refine V_y (Y_assign rfl) rfl rfl rfl ?_
        refine V_to (fun _ _ => rfl) ?_
        refine C_cond rfl (fun hc45 => ?_) (fun hc45 => ?_)
        · rw [if_pos hc45] at h19
          refine C_seq ?_
          refine C_region ?_
          refine V_y (Y_assign rfl) rfl rfl rfl ?_
          refine V_to (fun _ _ => rfl) ?_
          obtain rfl := Option.some.inj h19
          obtain rfl := (h20 : Lp.rt _ = _)
          rw [Lp.andThen_rt] at hm
          obtain rfl := Option.some.inj hm
          refine C_ret ?_
          try simp only [↓inBlock_ret, ↓then_ret]
          exact retQ rfl (Res.one Tryd.results36 rfl) ⟨rfl, hK.kp⟩
        · rw [if_neg (nt hc45)] at h19
          refine C_seq ?_
          refine C_region_q Tryd_mixed (by kernel_rfl) ?_
          refine VQ_y (fun w' hw' => Y_move rfl) rfl rfl rfl ?_
          refine VQ_y (fun w' hw' => Y_gtr rfl rfl) rfl rfl rfl ?_
          refine VQ_y (fun w' hw' => Y_move rfl) rfl rfl rfl ?_
          obtain ⟨s47, hs47, h19⟩ := Option.bind_eq_some_iff.1 h19
          refine VQ_cut 10 (fun _ : Unit => [(0, v_l), (4, .pointer (some ⟨b32, 0, none⟩)), (8, v_l), (9, .int .i64 (l.length : Int)), (10, .int .i64 (k7 : Int)), (33, .bool s47)]) (fun _ => True) ?_ ?_
          · simp only [List.take, List.drop]
            rcases Bool.eq_false_or_eq_true (decide ((0 : Int) < (k7 : Int))) with hc46 | hc46
            · rw [if_pos hc46] at hs47
              refine VQ_ge rfl rfl rfl hc46 ?_
              have h48 := El_route_Skill_0 h37
              refine VQ_y (fun w' hw' => Y_fieldAddr Tryd.underlying42 rfl Tryd.sizeOf9 (by decide) rfl) rfl rfl rfl ?_
              refine VQ_ge rfl rfl rfl hc46 ?_
              refine VQ_y (fun w' hw' => Y_load (El.str (El.kp h48 hw')) Tryd.isAgg9 rfl) rfl rfl rfl ?_
              refine VQ_ge rfl rfl rfl hc46 ?_
              refine VQ_y (fun w' hw' => Y_move rfl) rfl rfl rfl ?_
              refine VQ_ge rfl rfl rfl hc46 ?_
              refine VQ_y (fun w' hw' => Y_move rfl) rfl rfl rfl ?_
              refine VQ_ge rfl rfl rfl hc46 ?_
              refine VQ_y (fun w' hw' => Y_subI rfl rfl) rfl rfl rfl ?_
              refine VQ_ge rfl rfl rfl hc46 ?_
              obtain ⟨x49, hx49, hs47⟩ := Option.bind_eq_some_iff.1 hs47
              refine VQ_indexAddr h_l hx49 Tryd.underlying33 Tryd.sizeOf42 rfl rfl rfl ?_
              intro b50 o51 h52
              refine VQ_ge rfl rfl rfl hc46 ?_
              have h53 := El_route_Skill_0 h52
              refine VQ_y (fun w' hw' => Y_fieldAddr Tryd.underlying42 rfl Tryd.sizeOf9 (by decide) rfl) rfl rfl rfl ?_
              refine VQ_ge rfl rfl rfl hc46 ?_
              refine VQ_y (fun w' hw' => Y_load (El.str (El.kp h53 hw')) Tryd.isAgg9 rfl) rfl rfl rfl ?_
              refine VQ_ge rfl rfl rfl hc46 ?_
              refine VQ_y (fun w' hw' => Y_sleq rfl rfl) rfl rfl rfl ?_
              refine VQ_y (fun _ _ => Y_pick_te rfl hc46 rfl) rfl rfl rfl ?_
              obtain rfl := Option.some.inj hs47
              exact VQ_end fun a ha => ⟨(), ha.sub ⟨rfl, rfl, rfl, rfl, rfl, rfl, trivial⟩, trivial⟩
            · rw [if_neg (nt hc46)] at hs47
              refine VQ_gn rfl rfl rfl hc46 rfl rfl rfl ?_
              refine VQ_gn rfl rfl rfl hc46 rfl rfl rfl ?_
              refine VQ_gn rfl rfl rfl hc46 rfl rfl rfl ?_
              refine VQ_gn rfl rfl rfl hc46 rfl rfl rfl ?_
              refine VQ_gn rfl rfl rfl hc46 rfl rfl rfl ?_
              refine VQ_gn rfl rfl rfl hc46 rfl rfl rfl ?_
              refine VQ_gn rfl rfl rfl hc46 rfl rfl rfl ?_
              refine VQ_gn rfl rfl rfl hc46 rfl rfl rfl ?_
              refine VQ_gn rfl rfl rfl hc46 rfl rfl rfl ?_
              refine VQ_y (fun _ _ => Y_pick_fe rfl hc46 rfl) rfl rfl rfl ?_
              obtain rfl := Option.some.inj hs47
              exact VQ_end fun a ha => ⟨(), ha.sub ⟨rfl, rfl, rfl, rfl, rfl, rfl, trivial⟩, trivial⟩
          simp only [List.take, List.drop]
          rintro _ _
          refine VQ_y (fun w' hw' => Y_assign rfl) rfl rfl rfl ?_
          refine VQ_to (fun _ _ => rfl) (fun w54 hk55 => ?_)
          have ht56 := Kp.tr hk55 hA hB
          replace hH := Hp.kp hH hk55
          replace h_l := Sl.tr h_l ht56
          replace h37 := El.tr h37 ht56
          replace hK := Tr.trans hK ht56
          replace hr6 := Tr.trans hr6 ht56
          replace hB := Nat.le_trans hB ht56.ex.size
          replace hA := ht56.new
          refine C_cond rfl (fun hc57 => ?_) (fun hc57 => ?_)
          · rw [if_pos hc57] at h19
            refine C_seq ?_
            refine C_region ?_
            refine V_y (Y_assign rfl) rfl rfl rfl ?_
            refine V_to (fun _ _ => rfl) ?_
            obtain rfl := Option.some.inj h19
            obtain rfl := (h20 : Lp.rt _ = _)
            rw [Lp.andThen_rt] at hm
            obtain rfl := Option.some.inj hm
            refine C_ret ?_
            try simp only [↓inBlock_ret, ↓then_ret]
            exact retQ rfl (Res.one Tryd.results36 rfl) ⟨rfl, hK.kp⟩
          · rw [if_neg (nt hc57)] at h19
            refine C_seq ?_
            refine C_region ?_
            have h58 := El_route_Skill_1 h37
            refine V_y (Y_fieldAddr Tryd.underlying42 rfl Tryd.sizeOf3 (by decide) rfl) rfl rfl rfl ?_
            refine V_y (Y_load (El.int h58) Tryd.isAgg3 rfl) rfl rfl rfl ?_
            refine V_y (Y_lss rfl rfl) rfl rfl rfl ?_
            refine V_y (Y_move rfl) rfl rfl rfl ?_
            refine V_cut 4 (fun _ : Unit => [(0, v_l), (8, v_l), (9, .int .i64 (l.length : Int)), (10, .int .i64 (k7 : Int)), (42, .bool ((decide (x27.rank < 1)) || (decide ((9 : Int) < x27.rank))))]) (fun _ w' => w54 = w') ?_ ?_
            · simp only [List.take, List.drop]
              rcases Bool.eq_false_or_eq_true (decide (x27.rank < 1)) with hc59 | hc59
              · refine V_gn rfl rfl rfl hc59 rfl rfl rfl ?_
                refine V_gn rfl rfl rfl hc59 rfl rfl rfl ?_
                refine V_gn rfl rfl rfl hc59 rfl rfl rfl ?_
                refine V_y (Y_pick_te rfl hc59 rfl) rfl rfl rfl ?_
                exact V_end fun a ha => ⟨(), ha.sub ⟨rfl, rfl, rfl, rfl, (by rw [hc59]; rfl), trivial⟩, rfl⟩
              · refine V_ge rfl rfl rfl hc59 ?_
                have h61 := El_route_Skill_1 h37
                refine V_y (Y_fieldAddr Tryd.underlying42 rfl Tryd.sizeOf3 (by decide) rfl) rfl rfl rfl ?_
                refine V_ge rfl rfl rfl hc59 ?_
                refine V_y (Y_load (El.int h61) Tryd.isAgg3 rfl) rfl rfl rfl ?_
                refine V_ge rfl rfl rfl hc59 ?_
                refine V_y (Y_gtr rfl rfl) rfl rfl rfl ?_
                refine V_y (Y_pick_fe rfl hc59 rfl) rfl rfl rfl ?_
                exact V_end fun a ha => ⟨(), ha.sub ⟨rfl, rfl, rfl, rfl, (by rw [hc59]; rfl), trivial⟩, rfl⟩
            simp only [List.take, List.drop]
            rintro _ _ rfl
            refine V_y (Y_assign rfl) rfl rfl rfl ?_
            refine V_to (fun _ _ => rfl) ?_
            refine C_cond rfl (fun hc62 => ?_) (fun hc62 => ?_)
            · rw [if_pos hc62] at h19
              refine C_seq ?_
              refine C_region ?_
              refine V_y (Y_assign rfl) rfl rfl rfl ?_
              refine V_to (fun _ _ => rfl) ?_
              obtain rfl := Option.some.inj h19
              obtain rfl := (h20 : Lp.rt _ = _)
              rw [Lp.andThen_rt] at hm
              obtain rfl := Option.some.inj hm
              refine C_ret ?_
              try simp only [↓inBlock_ret, ↓then_ret]
              exact retQ rfl (Res.one Tryd.results36 rfl) ⟨rfl, hK.kp⟩
            · rw [if_neg (nt hc62)] at h19
              refine C_skip_to (fun _ _ => rfl) ?_
              refine C_region ?_
              refine V_y (Y_addI rfl rfl) rfl rfl rfl ?_
              refine V_y (Y_move rfl) rfl rfl rfl ?_
              obtain rfl := Option.some.inj h19
              refine V_end (fun a ha63 => ?_)
              exact ⟨(), hlt22, h20, ⟨A16, ha63.sub ⟨rfl, rfl, rfl, (congrArg (fun z => some (Value.int .i64 z)) (w64_succ hlt22 hn25)), trivial⟩, ⟨hH, hr6⟩⟩⟩
      · refine C_exit (fun a ha64 => ?_)
        exact ⟨((), A16), ha64.sub trivial, ⟨(h23 (eq_of_dec hle21 hc26)).symm, hH, hr6⟩⟩
    rintro ⟨s5, A12⟩ w9 ⟨rfl, hH13, hk10⟩ a ha11
    rw [Lp.andThen_fin] at hm
    replace hK := Tr.trans hK hk10
    replace hB := Nat.le_trans hB hk10.ex.size
    replace hA := hk10.new
    replace hH : Hp w.heap.size A12 w9 ([]) := hH13
    refine C_at (n := ⟨44, [], none⟩) (fun _ _ => rfl) ?_ ha11
    refine C_seq ?_
    refine C_region ?_
    refine V_y (Y_assign rfl) rfl rfl rfl ?_
    refine V_to (fun _ _ => rfl) ?_
    obtain rfl := Option.some.inj hm
    refine C_ret ?_
    try simp only [↓inBlock_ret, ↓then_ret]
    exact retQ rfl (Res.one Tryd.results36 rfl) ⟨rfl, hK.kp⟩

end Go.Proofs.YtigplgkbilmabaaDoor.W
