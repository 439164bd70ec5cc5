/-
  Written by program (gen.py) from the IR of the dump: each function computes its model.
-/
import Derived.Test.YtehofjchjogbkaaDoorRouteDutyW2
namespace Go.Proofs.YtehofjchjogbkaaDoor.W
open Go Go.RowKit Go.Pu Go.Gw Go.Proofs Go.Proofs.YtehofjchjogbkaaDoor.M
set_option linter.unusedVariables false
set_option linter.unusedSimpArgs false
variable {Dw : Prop}

set_option maxRecDepth 4000 in
set_option maxHeartbeats 4000000 in
theorem slices_IndexFunc_Lroute_Person_route_Person_c (w : World) {A : Nat → Prop} (hA : ∀ b, w.heap.size ≤ b → A b) (s : (List route_Person)) (v_s : Value) (h_s : Sl A w v_s s) (f : route_Person → Option Bool) (f_f : FuncId) (f_a f_c : Array Value) (f_call : ∀ (args : Array Value) (w : World), (callFunc f_f args).run Tryd.prog w = .ok (.enter f_f args) w) (f_spec : ∀ (w1 : World) (A1 : Nat → Prop), Tr Dw w.heap.size A w A1 w1 → (∀ b, w1.heap.size ≤ b → A1 b) → ∀ (y0 : route_Person) (v1 : Value) (h2 : Sl A1 w1 v1 y0.skills) (r : Bool), f y0 = some r → Ret Tryd.prog f_f (f_a ++ #[.agg #[.int .i64 y0.no, .int .i64 y0.capacity, .int .i64 y0.calendar, v1]] ++ f_c) w1 fun v w' => v = .bool r ∧ Kp Dw w1 w') {r : Int} (hm : slices_IndexFunc_Lroute_Person_route_Person s f = some r) : Ret Tryd.prog 31 #[v_s, .func (.func f_f) f_a f_c] w fun v w' => v = .int .i64 r ∧ Kp Dw w w' := by
  unfold slices_IndexFunc_Lroute_Person_route_Person at hm
  refine enter Tryd.func31 rfl Tryd.ntmps31 rfl ?_
  have hA0 := hA
  have hB := Nat.le_refl w.heap.size
  have hK : Tr Dw w.heap.size A w A w := Tr.refl (Dw := Dw) hA
  have hH : Hp w.heap.size A w [] := Hp.nil
  refine C_seq ?_
  refine C_region ?_
  refine V_y (Y_assign rfl) rfl rfl rfl ?_
  refine V_to (fun _ _ => rfl) ?_
  refine C_seq ?_
  refine C_seq ?_
  refine C_region ?_
  refine V_y (Y_move rfl) rfl rfl rfl ?_
  refine V_y (Y_lenSl h_s rfl Tryd.underlying22 rfl) rfl rfl rfl ?_
  refine V_y (Y_move rfl) rfl rfl rfl ?_
  refine V_to (fun _ _ => rfl) ?_
  have hn23 := Sl.le h_s
  obtain ⟨o3, ho3, hm⟩ := Option.bind_eq_some_iff.1 hm
  refine C_cutG (ι := (Unit × (Nat → Prop))) (fun ⟨s4, A10⟩ => []) (fun ⟨s4, A10⟩ => fun w' => o3 = .fin s4 ∧ Hp w.heap.size A10 w' ([]) ∧ Tr Dw w.heap.size A w A10 w') ?_ ?_
  · refine C_block ?_
    refine C_range ho3 (fun k6 _ a w' => ∃ i : (Nat → Prop), Has ⟨19, [], none⟩ a ([(0, v_s), (1, .func (.func f_f) f_a f_c), (7, .int .i64 (s.length : Int)), (8, .int .i64 (k6 : Int))]) ∧ Hp w.heap.size i w' ([]) ∧ Tr Dw w.heap.size A w i w') (fun a ha => ⟨A, ha.sub ⟨rfl, rfl, rfl, rfl, trivial⟩, ⟨hH, Tr.refl (Dw := Dw) hA⟩⟩) ?_
    rintro K k6 _ a w13 ⟨A14, ha39, hH15, hr5⟩ hle19 K22 h21
    refine C_of ?_ ha39
    replace h_s := Sl.tr (Dw := Dw) h_s hr5
    replace hK := Tr.trans (Dw := Dw) hK hr5
    replace hB := Nat.le_trans hB hr5.ex.size
    replace hA := hr5.new
    replace hH : Hp w.heap.size A14 w13 ([]) := hH15
    refine C_seq (C_region (V_y (Y_lss rfl rfl) rfl rfl rfl (V_to (fun _ _ => rfl) ?_)))
    refine C_seq ?_
    refine C_cond rfl (fun hc24 => ?_) (fun hc24 => ?_)
    · have hlt20 := lt_of_dec hc24
      obtain ⟨x16, h17, h18⟩ := K22 hlt20
      refine C_skip_to (fun _ _ => rfl) ?_
      refine C_seq ?_
      refine C_block ?_
      refine C_seq ?_
      refine C_region ?_
      refine V_y (Y_move rfl) rfl rfl rfl ?_
      refine V_y (Y_assign rfl) rfl rfl rfl ?_
      refine V_to (fun _ _ => rfl) ?_
      refine C_seq ?_
      refine C_region ?_
      refine V_y (Y_move rfl) rfl rfl rfl ?_
      refine V_y (Y_move rfl) rfl rfl rfl ?_
      refine V_y (Y_move rfl) rfl rfl rfl ?_
      obtain ⟨x25, hx25, h17⟩ := Option.bind_eq_some_iff.1 h17
      refine V_indexAddr h_s hx25 Tryd.underlying22 Tryd.sizeOf37 rfl rfl rfl ?_
      intro b26 o27 h28
      obtain ⟨v29, h31, h30⟩ := El_route_Person h28
      refine V_y (Y_loadA h31 Tryd.isAgg37 Tryd.sizeOf37 rfl) rfl rfl rfl ?_
      obtain ⟨x32, hx32, h17⟩ := Option.bind_eq_some_iff.1 h17
      refine V_call f_call rfl rfl rfl rfl (f_spec w13 _ hK hA x25 v29 h30 _ hx32) ?_
      rintro _ w33 ⟨rfl, hk34⟩
      have ht35 := Kp.tr (Dw := Dw) hk34 hA hB
      replace hH := Hp.kp (Dw := Dw) hH hk34
      replace h_s := Sl.tr (Dw := Dw) h_s ht35
      replace h28 := El.tr (Dw := Dw) h28 ht35
      replace h30 := Sl.tr (Dw := Dw) h30 ht35
      replace hK := Tr.trans (Dw := Dw) hK ht35
      replace hr5 := Tr.trans (Dw := Dw) hr5 ht35
      replace hB := Nat.le_trans hB ht35.ex.size
      replace hA := ht35.new
      refine V_to (fun _ _ => rfl) ?_
      refine C_cond rfl (fun hc36 => ?_) (fun hc36 => ?_)
      · rw [if_pos hc36] at h17
        refine C_seq ?_
        refine C_region ?_
        refine V_y (Y_move rfl) rfl rfl rfl ?_
        refine V_y (Y_assign rfl) rfl rfl rfl ?_
        refine V_to (fun _ _ => rfl) ?_
        obtain rfl := Option.some.inj h17
        obtain rfl := (h18 : Lp.rt _ = _)
        rw [Lp.andThen_rt] at hm
        obtain rfl := Option.some.inj hm
        refine C_ret ?_
        try simp only [↓inBlock_ret, ↓then_ret]
        exact retQ rfl (Res.one Tryd.results31 rfl) ⟨rfl, hK.kp⟩
      · rw [if_neg (nt hc36)] at h17
        refine C_skip_to (fun _ _ => rfl) ?_
        refine C_region ?_
        refine V_y (Y_addI rfl rfl) rfl rfl rfl ?_
        refine V_y (Y_move rfl) rfl rfl rfl ?_
        obtain rfl := Option.some.inj h17
        refine V_end (fun a ha37 => ?_)
        exact ⟨(), hlt20, h18, ⟨A14, ha37.sub ⟨rfl, rfl, rfl, (congrArg (fun z => some (Value.int .i64 z)) (w64_succ hlt20 hn23)), trivial⟩, ⟨hH, hr5⟩⟩⟩
    · refine C_exit (fun a ha38 => ?_)
      exact ⟨((), A14), ha38.sub trivial, ⟨(h21 (eq_of_dec hle19 hc24)).symm, hH, hr5⟩⟩
  rintro ⟨s4, A10⟩ w7 ⟨rfl, hH11, hk8⟩ a ha9
  rw [Lp.andThen_fin] at hm
  replace hK := Tr.trans (Dw := Dw) hK hk8
  replace hB := Nat.le_trans hB hk8.ex.size
  replace hA := hk8.new
  replace hH : Hp w.heap.size A10 w7 ([]) := hH11
  refine C_at (n := ⟨19, [], none⟩) (fun _ _ => rfl) ?_ ha9
  refine C_seq ?_
  refine C_region ?_
  refine V_y (Y_assign rfl) rfl rfl rfl ?_
  refine V_to (fun _ _ => rfl) ?_
  obtain rfl := Option.some.inj hm
  refine C_ret ?_
  try simp only [↓inBlock_ret, ↓then_ret]
  exact retQ rfl (Res.one Tryd.results31 rfl) ⟨rfl, hK.kp⟩

set_option maxRecDepth 4000 in
set_option maxHeartbeats 4000000 in
theorem slices_ContainsFunc_Lroute_Person_route_Person_c (w : World) {A : Nat → Prop} (hA : ∀ b, w.heap.size ≤ b → A b) (s : (List route_Person)) (v_s : Value) (h_s : Sl A w v_s s) (f : route_Person → Option Bool) (f_f : FuncId) (f_a f_c : Array Value) (f_call : ∀ (args : Array Value) (w : World), (callFunc f_f args).run Tryd.prog w = .ok (.enter f_f args) w) (f_spec : ∀ (w1 : World) (A1 : Nat → Prop), Tr Dw w.heap.size A w A1 w1 → (∀ b, w1.heap.size ≤ b → A1 b) → ∀ (y0 : route_Person) (v1 : Value) (h2 : Sl A1 w1 v1 y0.skills) (r : Bool), f y0 = some r → Ret Tryd.prog f_f (f_a ++ #[.agg #[.int .i64 y0.no, .int .i64 y0.capacity, .int .i64 y0.calendar, v1]] ++ f_c) w1 fun v w' => v = .bool r ∧ Kp Dw w1 w') {r : Bool} (hm : slices_ContainsFunc_Lroute_Person_route_Person s f = some r) : Ret Tryd.prog 17 #[v_s, .func (.func f_f) f_a f_c] w fun v w' => v = .bool r ∧ Kp Dw w w' := by
  unfold slices_ContainsFunc_Lroute_Person_route_Person at hm
  refine enter Tryd.func17 rfl Tryd.ntmps17 rfl ?_
  have hA0 := hA
  have hB := Nat.le_refl w.heap.size
  have hK : Tr Dw w.heap.size A w A w := Tr.refl (Dw := Dw) hA
  have hH : Hp w.heap.size A w [] := Hp.nil
  refine C_seq ?_
  refine C_region ?_
  refine V_y (Y_assign rfl) rfl rfl rfl ?_
  refine V_to (fun _ _ => rfl) ?_
  refine C_seq ?_
  refine C_region ?_
  refine V_y (Y_move rfl) rfl rfl rfl ?_
  refine V_y (Y_move rfl) rfl rfl rfl ?_
  obtain ⟨x3, hx3, hm⟩ := Option.bind_eq_some_iff.1 hm
  refine V_call Tryd.call31 rfl rfl rfl rfl (slices_IndexFunc_Lroute_Person_route_Person_c (Dw := Dw) w hA s v_s h_s f f_f f_a f_c f_call (fun w1 A1 ht => f_spec w1 A1 (Tr.trans (Dw := Dw) hK ht)) hx3) ?_
  rintro _ w4 ⟨rfl, hk5⟩
  have ht6 := Kp.tr (Dw := Dw) hk5 hA hB
  replace hH := Hp.kp (Dw := Dw) hH hk5
  replace h_s := Sl.tr (Dw := Dw) h_s ht6
  replace hK := Tr.trans (Dw := Dw) hK ht6
  replace hB := Nat.le_trans hB ht6.ex.size
  replace hA := ht6.new
  refine V_y (Y_geq rfl rfl) rfl rfl rfl ?_
  refine V_y (Y_assign rfl) rfl rfl rfl ?_
  refine V_to (fun _ _ => rfl) ?_
  obtain rfl := Option.some.inj hm
  refine C_ret ?_
  try simp only [↓inBlock_ret, ↓then_ret]
  exact retQ rfl (Res.one Tryd.results17 rfl) ⟨rfl, hK.kp⟩

set_option maxRecDepth 4000 in
set_option maxHeartbeats 4000000 in
theorem portref2_dutyFault_1_c (w : World) {A : Nat → Prop} (hA : ∀ b, w.heap.size ≤ b → A b) (p : route_Person) (v_p : Value) (h_p : Sl A w v_p p.skills) (p1 : (List cal_Calendar)) (b_p1 : Nat) (h_p1 : El A w b_p1 0 p1) {r : Bool} (hm : portref2_dutyFault_1 p p1 = some r) : Ret Tryd.prog 28 #[.agg #[.int .i64 p.no, .int .i64 p.capacity, .int .i64 p.calendar, v_p], .pointer (some ⟨b_p1, 0, none⟩)] w fun v w' => v = .bool r ∧ Kp Dw w w' := by
  unfold portref2_dutyFault_1 at hm
  refine enter Tryd.func28 rfl Tryd.ntmps28 rfl ?_
  have hA0 := hA
  have hB := Nat.le_refl w.heap.size
  have hK : Tr Dw w.heap.size A w A w := Tr.refl (Dw := Dw) hA
  have hH : Hp w.heap.size A w [] := Hp.nil
  refine C_seq ?_
  refine C_region ?_
  refine V_box rfl rfl ?_
  intro b3 w4 h5
  have hk7 := h5.kp (Dw := Dw)
  have h6 : El (α := route_Person) A w4 b3 0 p := h5.el hA ⟨[.int .i64 p.no], _, rfl, rfl, ⟨[.int .i64 p.capacity], _, rfl, rfl, ⟨[.int .i64 p.calendar], _, rfl, rfl, ⟨_, rfl, h_p⟩⟩⟩⟩
  have ht8 := Kp.tr (Dw := Dw) hk7 hA hB
  replace hH := Hp.kp (Dw := Dw) hH hk7
  replace h_p := Sl.tr (Dw := Dw) h_p ht8
  replace h_p1 := El.tr (Dw := Dw) h_p1 ht8
  replace hK := Tr.trans (Dw := Dw) hK ht8
  replace hB := Nat.le_trans hB ht8.ex.size
  replace hA := ht8.new
  refine V_y (Y_assign rfl) rfl rfl rfl ?_
  refine V_to (fun _ _ => rfl) ?_
  refine C_seq ?_
  refine C_region ?_
  have h9 := El_route_Person_2 h6
  refine V_y (Y_fieldAddr Tryd.underlying37 rfl Tryd.sizeOf3 (by decide) rfl) rfl rfl rfl ?_
  refine V_y (Y_load (El.int h9) Tryd.isAgg3 rfl) rfl rfl rfl ?_
  obtain ⟨v10, h11, h12⟩ := El.list h_p1
  refine V_y (Y_load h11 Tryd.isAgg23 rfl) rfl rfl rfl ?_
  refine V_y (Y_lenSl h12 rfl Tryd.underlying23 rfl) rfl rfl rfl ?_
  refine V_y (Y_geq rfl rfl) rfl rfl rfl ?_
  refine V_y (Y_assign rfl) rfl rfl rfl ?_
  refine V_to (fun _ _ => rfl) ?_
  obtain rfl := Option.some.inj hm
  refine C_ret ?_
  try simp only [↓inBlock_ret, ↓then_ret]
  exact retQ rfl (Res.one Tryd.results28 rfl) ⟨rfl, hK.kp⟩

set_option maxRecDepth 4000 in
set_option maxHeartbeats 4000000 in
theorem portref2_dutyFault_c (w : World) {A : Nat → Prop} (hA : ∀ b, w.heap.size ≤ b → A b) (people : (List route_Person)) (v_people : Value) (h_people : Sl A w v_people people) (cals : (List cal_Calendar)) (v_cals : Value) (h_cals : Sl A w v_cals cals) {r : Int} (hm : portref2_dutyFault people cals = some r) : Ret Tryd.prog 13 #[v_people, v_cals] w fun v w' => v = .int .i64 r ∧ Kp False w w' := by
  unfold portref2_dutyFault at hm
  refine enter Tryd.func13 rfl Tryd.ntmps13 rfl ?_
  have hA0 := hA
  have hB := Nat.le_refl w.heap.size
  have hK : Tr False w.heap.size A w A w := Tr.refl (Dw := False) hA
  have hH : Hp w.heap.size A w [] := Hp.nil
  refine C_seq ?_
  refine C_region ?_
  refine V_box rfl rfl ?_
  intro b5 w6 h7
  have h12 : (v_cals).oneCell' = true := by obtain ⟨_, _, e, _⟩ := Sl.form h_cals; rw [e]; rfl
  have hk9 := h7.kp (Dw := False)
  have h8 : El (α := (List cal_Calendar)) A w6 b5 0 cals := h7.el hA (by rw [Value.cells_one h12]; exact ⟨_, rfl, h_cals⟩)
  have ht13 := Kp.tr (Dw := False) hk9 hA hB
  replace hH := Hp.kp (Dw := False) hH hk9
  replace h_people := Sl.tr (Dw := False) h_people ht13
  replace h_cals := Sl.tr (Dw := False) h_cals ht13
  replace hK := Tr.trans (Dw := False) hK ht13
  replace hB := Nat.le_trans hB ht13.ex.size
  replace hA := ht13.new
  refine V_y (Y_assign rfl) rfl rfl rfl ?_
  refine V_to (fun _ _ => rfl) ?_
  refine C_seq ?_
  refine C_seq ?_
  refine C_region ?_
  refine V_y (Y_move rfl) rfl rfl rfl ?_
  obtain ⟨x14, hx14, hm⟩ := Option.bind_eq_some_iff.1 hm
  refine V_call Tryd.call26 rfl rfl rfl rfl (portref2_PeopleFault_c w6 hA people v_people h_people hx14) ?_
  rintro _ w15 ⟨rfl, hk16⟩
  have ht17 := Kp.tr (Dw := False) hk16 hA hB
  replace hH := Hp.kp (Dw := False) hH hk16
  replace h_people := Sl.tr (Dw := False) h_people ht17
  replace h8 := El.tr (Dw := False) h8 ht17
  replace hK := Tr.trans (Dw := False) hK ht17
  replace hB := Nat.le_trans hB ht17.ex.size
  replace hA := ht17.new
  refine V_y (Y_assign rfl) rfl rfl rfl ?_
  refine V_to (fun _ _ => rfl) ?_
  refine C_seq ?_
  refine C_region ?_
  refine V_y (Y_move rfl) rfl rfl rfl ?_
  refine V_y (Y_neq rfl rfl) rfl rfl rfl ?_
  refine V_to (fun _ _ => rfl) ?_
  refine C_cond rfl (fun hc18 => ?_) (fun hc18 => ?_)
  · rw [if_pos hc18] at hm
    refine C_seq ?_
    refine C_region ?_
    refine V_y (Y_move rfl) rfl rfl rfl ?_
    refine V_y (Y_assign rfl) rfl rfl rfl ?_
    refine V_to (fun _ _ => rfl) ?_
    obtain rfl := Option.some.inj hm
    refine C_ret ?_
    try simp only [↓inBlock_ret, ↓then_ret]
    exact retQ rfl (Res.one Tryd.results13 rfl) ⟨rfl, hK.kp⟩
  · rw [if_neg (nt hc18)] at hm
    refine C_skip_to (fun _ _ => rfl) ?_
    refine C_seq ?_
    refine C_seq ?_
    refine C_region ?_
    obtain ⟨v19, h20, h21⟩ := El.list h8
    refine V_y (Y_load h20 Tryd.isAgg23 rfl) rfl rfl rfl ?_
    obtain ⟨x22, hx22, hm⟩ := Option.bind_eq_some_iff.1 hm
    refine V_call Tryd.call27 rfl rfl rfl rfl (portref2_CalsFault_c (Dw := False) w15 hA cals v19 h21 20 hx22) ?_
    rintro _ w23 ⟨rfl, hk24⟩
    have ht25 := Kp.tr (Dw := False) hk24 hA hB
    replace hH := Hp.kp (Dw := False) hH hk24
    replace h_people := Sl.tr (Dw := False) h_people ht25
    replace h8 := El.tr (Dw := False) h8 ht25
    replace h21 := Sl.tr (Dw := False) h21 ht25
    replace hK := Tr.trans (Dw := False) hK ht25
    replace hB := Nat.le_trans hB ht25.ex.size
    replace hA := ht25.new
    refine V_y (Y_assign rfl) rfl rfl rfl ?_
    refine V_to (fun _ _ => rfl) ?_
    refine C_seq ?_
    refine C_region ?_
    refine V_y (Y_move rfl) rfl rfl rfl ?_
    refine V_y (Y_neq rfl rfl) rfl rfl rfl ?_
    refine V_to (fun _ _ => rfl) ?_
    refine C_cond rfl (fun hc26 => ?_) (fun hc26 => ?_)
    · rw [if_pos hc26] at hm
      refine C_seq ?_
      refine C_region ?_
      refine V_y (Y_move rfl) rfl rfl rfl ?_
      refine V_y (Y_assign rfl) rfl rfl rfl ?_
      refine V_to (fun _ _ => rfl) ?_
      obtain rfl := Option.some.inj hm
      refine C_ret ?_
      try simp only [↓inBlock_ret, ↓then_ret]
      exact retQ rfl (Res.one Tryd.results13 rfl) ⟨rfl, hK.kp⟩
    · rw [if_neg (nt hc26)] at hm
      refine C_skip_to (fun _ _ => rfl) ?_
      refine C_seq ?_
      refine C_seq ?_
      refine C_region ?_
      refine V_y (Y_move rfl) rfl rfl rfl ?_
      refine V_y (Y_makeFunc rfl rfl) rfl rfl rfl ?_
      obtain ⟨x28, hx28, hm⟩ := Option.bind_eq_some_iff.1 hm
      refine V_call Tryd.call17 rfl rfl rfl rfl (slices_ContainsFunc_Lroute_Person_route_Person_c (Dw := False) w23 hA people v_people h_people (fun y38 => portref2_dutyFault_1 y38 cals) 28 #[] #[.pointer (some ⟨b5, 0, none⟩)] Tryd.call28 (fun w34 A35 ht36 h37 y29 v30 h31 r32 h33 => (portref2_dutyFault_1_c (Dw := False) w34 h37 y29 v30 h31 cals b5 (El.tr (Dw := False) h8 ht36) h33).mono (fun _ _ h => ⟨h.1, h.2⟩)) hx28) ?_
      rintro _ w39 ⟨rfl, hk40⟩
      have ht41 := Kp.tr (Dw := False) hk40 hA hB
      replace hH := Hp.kp (Dw := False) hH hk40
      replace h_people := Sl.tr (Dw := False) h_people ht41
      replace h8 := El.tr (Dw := False) h8 ht41
      replace hK := Tr.trans (Dw := False) hK ht41
      replace hB := Nat.le_trans hB ht41.ex.size
      replace hA := ht41.new
      refine V_to (fun _ _ => rfl) ?_
      refine C_cond rfl (fun hc42 => ?_) (fun hc42 => ?_)
      · rw [if_pos hc42] at hm
        refine C_seq ?_
        refine C_region ?_
        refine V_y (Y_assign rfl) rfl rfl rfl ?_
        refine V_to (fun _ _ => rfl) ?_
        obtain rfl := Option.some.inj hm
        refine C_ret ?_
        try simp only [↓inBlock_ret, ↓then_ret]
        exact retQ rfl (Res.one Tryd.results13 rfl) ⟨rfl, hK.kp⟩
      · rw [if_neg (nt hc42)] at hm
        refine C_skip_to (fun _ _ => rfl) ?_
        refine C_seq ?_
        refine C_region ?_
        refine V_y (Y_assign rfl) rfl rfl rfl ?_
        refine V_to (fun _ _ => rfl) ?_
        obtain rfl := Option.some.inj hm
        refine C_ret ?_
        try simp only [↓inBlock_ret, ↓then_ret]
        exact retQ rfl (Res.one Tryd.results13 rfl) ⟨rfl, hK.kp⟩

set_option maxRecDepth 4000 in
set_option maxHeartbeats 4000000 in
theorem portref2_IsMoment_c (w : World) (m : Int) : Ret Tryd.prog 14 #[.int .i64 m] w fun v w' => v = .bool (portref2_IsMoment m) ∧ w = w' := by
  generalize hm : portref2_IsMoment m = r
  unfold portref2_IsMoment at hm
  refine enter Tryd.func14 rfl Tryd.ntmps14 rfl ?_
  refine C_seq ?_
  refine C_region ?_
  refine V_y (Y_assign rfl) rfl rfl rfl ?_
  refine V_to (fun _ _ => rfl) ?_
  refine C_seq ?_
  refine C_region ?_
  refine V_y (Y_move rfl) rfl rfl rfl ?_
  refine V_y (Y_geq rfl rfl) rfl rfl rfl ?_
  refine V_y (Y_move rfl) rfl rfl rfl ?_
  refine V_cut 3 (fun _ : Unit => [(8, .bool ((decide ((0 : Int) ≤ m)) && (decide (m ≤ 3000000))))]) (fun _ w' => w = w') ?_ ?_
  · simp only [List.take, List.drop]
    rcases Bool.eq_false_or_eq_true (decide ((0 : Int) ≤ m)) with hc1 | hc1
    · refine V_ge rfl rfl rfl hc1 ?_
      refine V_y (Y_move rfl) rfl rfl rfl ?_
      refine V_ge rfl rfl rfl hc1 ?_
      refine V_y (Y_leq rfl rfl) rfl rfl rfl ?_
      refine V_y (Y_pick_te rfl hc1 rfl) rfl rfl rfl ?_
      exact V_end fun a ha => ⟨(), ha.sub ⟨(by rw [hc1]; rfl), trivial⟩, rfl⟩
    · refine V_gn rfl rfl rfl hc1 rfl rfl rfl ?_
      refine V_gn rfl rfl rfl hc1 rfl rfl rfl ?_
      refine V_y (Y_pick_fe rfl hc1 rfl) rfl rfl rfl ?_
      exact V_end fun a ha => ⟨(), ha.sub ⟨(by rw [hc1]; rfl), trivial⟩, rfl⟩
  simp only [List.take, List.drop]
  rintro _ _ rfl
  refine V_y (Y_assign rfl) rfl rfl rfl ?_
  refine V_to (fun _ _ => rfl) ?_
  obtain rfl := hm
  refine C_ret ?_
  try simp only [↓inBlock_ret, ↓then_ret]
  exact retQ rfl (Res.one Tryd.results14 rfl) ⟨rfl, rfl⟩

set_option maxRecDepth 4000 in
set_option maxHeartbeats 4000000 in
theorem portref2_floorDiv_c (w : World) {A : Nat → Prop} (hA : ∀ b, w.heap.size ≤ b → A b) (a_ : Int) (b : Int) {r : (Int × Int)} (hm : portref2_floorDiv a_ b = some r) : Ret Tryd.prog 55 #[.int .i64 a_, .int .i64 b] w fun v w' => v = .tuple #[.int .i64 r.1, .int .i64 r.2] ∧ Kp Dw w w' := by
  unfold portref2_floorDiv at hm
  refine enter Tryd.func55 rfl Tryd.ntmps55 rfl ?_
  have hA0 := hA
  have hB := Nat.le_refl w.heap.size
  have hK : Tr Dw w.heap.size A w A w := Tr.refl (Dw := Dw) hA
  have hH : Hp w.heap.size A w [] := Hp.nil
  refine C_seq ?_
  refine C_region ?_
  refine V_y (Y_assign rfl) rfl rfl rfl ?_
  refine V_y (Y_assign rfl) rfl rfl rfl ?_
  refine V_to (fun _ _ => rfl) ?_
  refine C_seq ?_
  refine C_region_q (Dw := Dw) Tryd_mixed (by kernel_rfl) ?_
  refine VQ_y (fun w' hw' => Y_move rfl) rfl rfl rfl ?_
  refine VQ_y (fun w' hw' => Y_move rfl) rfl rfl rfl ?_
  obtain ⟨x1, hx1, hm⟩ := Option.bind_eq_some_iff.1 hm
  refine VQ_y (fun w' hw' => Y_quo hx1 rfl rfl) rfl rfl rfl ?_
  refine VQ_y (fun w' hw' => Y_move rfl) rfl rfl rfl ?_
  refine VQ_y (fun w' hw' => Y_move rfl) rfl rfl rfl ?_
  obtain ⟨x2, hx2, hm⟩ := Option.bind_eq_some_iff.1 hm
  refine VQ_y (fun w' hw' => Y_rem hx2 rfl rfl) rfl rfl rfl ?_
  refine VQ_y (fun w' hw' => Y_assign rfl) rfl rfl rfl ?_
  refine VQ_y (fun w' hw' => Y_assign rfl) rfl rfl rfl ?_
  refine VQ_to (fun _ _ => rfl) (fun w3 hk4 => ?_)
  have ht5 := Kp.tr (Dw := Dw) hk4 hA hB
  replace hH := Hp.kp (Dw := Dw) hH hk4
  replace hK := Tr.trans (Dw := Dw) hK ht5
  replace hB := Nat.le_trans hB ht5.ex.size
  replace hA := ht5.new
  refine C_seq ?_
  refine C_seq ?_
  refine C_region ?_
  refine V_y (Y_move rfl) rfl rfl rfl ?_
  refine V_y (Y_lss rfl rfl) rfl rfl rfl ?_
  refine V_to (fun _ _ => rfl) ?_
  obtain ⟨s7, ho6, hm⟩ := Option.bind_eq_some_iff.1 hm
  refine C_cutG (ι := Unit) (fun (_ : Unit) => [(6, .int .i64 s7.1), (7, .int .i64 s7.2)]) (fun (_ : Unit) => fun w' => w3 = w') ?_ ?_
  · refine C_cond rfl (fun hc12 => ?_) (fun hc12 => ?_)
    · rw [if_pos hc12] at ho6
      refine C_region ?_
      refine V_y (Y_move rfl) rfl rfl rfl ?_
      refine V_y (Y_subI rfl rfl) rfl rfl rfl ?_
      refine V_y (Y_move rfl) rfl rfl rfl ?_
      refine V_y (Y_move rfl) rfl rfl rfl ?_
      refine V_y (Y_addI rfl rfl) rfl rfl rfl ?_
      refine V_y (Y_assign rfl) rfl rfl rfl ?_
      refine V_y (Y_assign rfl) rfl rfl rfl ?_
      obtain rfl := Option.some.inj ho6
      refine V_end (fun a ha13 => ?_)
      exact ⟨(), ha13.sub ⟨rfl, rfl, trivial⟩, rfl⟩
    · rw [if_neg (nt hc12)] at ho6
      obtain rfl := Option.some.inj ho6
      refine C_skip (fun a ha14 => ?_)
      exact ⟨(), ha14.sub ⟨rfl, rfl, trivial⟩, rfl⟩
  rintro _ _ rfl a ha11
  refine C_at (n := ⟨23, [], none⟩) (fun _ _ => rfl) ?_ ha11
  refine C_seq ?_
  refine C_region ?_
  refine V_y (Y_move rfl) rfl rfl rfl ?_
  refine V_y (Y_move rfl) rfl rfl rfl ?_
  refine V_y (Y_assign rfl) rfl rfl rfl ?_
  refine V_y (Y_assign rfl) rfl rfl rfl ?_
  refine V_to (fun _ _ => rfl) ?_
  obtain rfl := Option.some.inj hm
  refine C_ret ?_
  try simp only [↓inBlock_ret, ↓then_ret]
  exact retQ rfl (Res.two Tryd.results55 rfl rfl) ⟨rfl, hK.kp⟩

set_option maxRecDepth 4000 in
set_option maxHeartbeats 4000000 in
theorem portref2_ShiftsIn_c (w : World) {A : Nat → Prop} (hA : ∀ b, w.heap.size ≤ b → A b) (c : cal_Calendar) (v_c0 : Value) (h_c0 : Sl A w v_c0 c.zone.changes) (v_c1 : Value) (h_c1 : Sl A w v_c1 c.week) (v_c2 : Value) (h_c2 : Sl A w v_c2 c.specials) (day : Int) {r : (List cal_Shift)} (hm : portref2_ShiftsIn c day = some r) : Ret Tryd.prog 57 #[.agg #[.int .i64 c.zone.offset, v_c0, v_c1, v_c2], .int .i64 day] w fun v w' => ∃ s0, v = s0 ∧ Sl A w' s0 r ∧ Kp Dw w w' := by
  unfold portref2_ShiftsIn at hm
  refine enter Tryd.func57 rfl Tryd.ntmps57 rfl ?_
  have hA0 := hA
  have hB := Nat.le_refl w.heap.size
  have hK : Tr Dw w.heap.size A w A w := Tr.refl (Dw := Dw) hA
  have hH : Hp w.heap.size A w [] := Hp.nil
  refine C_seq ?_
  refine C_region ?_
  refine V_box rfl rfl ?_
  intro b7 w9 h10
  have hk12 := h10.kp (Dw := Dw)
  have h11 : El (α := cal_Calendar) A w9 b7 0 c := h10.el hA ⟨[.int .i64 c.zone.offset, v_c0], _, rfl, ⟨[.int .i64 c.zone.offset], _, rfl, rfl, ⟨_, rfl, h_c0⟩⟩, ⟨[v_c1], _, rfl, ⟨_, rfl, h_c1⟩, ⟨_, rfl, h_c2⟩⟩⟩
  have ht13 := Kp.tr (Dw := Dw) hk12 hA hB
  replace hH := Hp.kp (Dw := Dw) hH hk12
  replace h_c0 := Sl.tr (Dw := Dw) h_c0 ht13
  replace h_c1 := Sl.tr (Dw := Dw) h_c1 ht13
  replace h_c2 := Sl.tr (Dw := Dw) h_c2 ht13
  replace hK := Tr.trans (Dw := Dw) hK ht13
  replace hB := Nat.le_trans hB ht13.ex.size
  replace hA := ht13.new
  refine V_y (Y_assign rfl) rfl rfl rfl ?_
  refine V_to (fun _ _ => rfl) ?_
  refine C_seq ?_
  refine C_seq ?_
  refine C_region ?_
  have h14 := El_cal_Calendar_2 h11
  refine V_y (Y_fieldAddr Tryd.underlying46 rfl Tryd.sizeOf44 (by decide) rfl) rfl rfl rfl ?_
  obtain ⟨v15, h16, h17⟩ := El.list h14
  refine V_y (Y_load h16 Tryd.isAgg44 rfl) rfl rfl rfl ?_
  refine V_y (Y_lenSl h17 rfl Tryd.underlying44 rfl) rfl rfl rfl ?_
  refine V_y (Y_move rfl) rfl rfl rfl ?_
  refine V_to (fun _ _ => rfl) ?_
  have hn38 := Sl.le h17
  obtain ⟨o18, ho18, hm⟩ := Option.bind_eq_some_iff.1 hm
  refine C_cutG (ι := (Unit × (Nat → Prop))) (fun ⟨s19, A25⟩ => [(1, .int .i64 day), (2, .pointer (some ⟨b7, 0, none⟩))]) (fun ⟨s19, A25⟩ => fun w' => o18 = .fin s19 ∧ Hp w.heap.size A25 w' ([]) ∧ Tr Dw w.heap.size A w9 A25 w') ?_ ?_
  · refine C_block ?_
    refine C_range ho18 (fun k21 _ a w' => ∃ i : (Nat → Prop), Has ⟨52, [], none⟩ a ([(1, .int .i64 day), (2, .pointer (some ⟨b7, 0, none⟩)), (13, v15), (14, .int .i64 (c.specials.length : Int)), (15, .int .i64 (k21 : Int))]) ∧ Hp w.heap.size i w' ([]) ∧ Tr Dw w.heap.size A w9 i w') (fun a ha => ⟨A, ha.sub ⟨rfl, rfl, rfl, rfl, rfl, trivial⟩, ⟨hH, Tr.refl (Dw := Dw) hA⟩⟩) ?_
    rintro K k21 _ a w28 ⟨A29, ha66, hH30, hr20⟩ hle34 K37 h36
    refine C_of ?_ ha66
    replace h11 := El.tr (Dw := Dw) h11 hr20
    replace h17 := Sl.tr (Dw := Dw) h17 hr20
    replace hK := Tr.trans (Dw := Dw) hK hr20
    replace hB := Nat.le_trans hB hr20.ex.size
    replace hA := hr20.new
    replace hH : Hp w.heap.size A29 w28 ([]) := hH30
    refine C_seq (C_region (V_y (Y_lss rfl rfl) rfl rfl rfl (V_to (fun _ _ => rfl) ?_)))
    refine C_seq ?_
    refine C_cond rfl (fun hc39 => ?_) (fun hc39 => ?_)
    · have hlt35 := lt_of_dec hc39
      obtain ⟨x31, h32, h33⟩ := K37 hlt35
      refine C_skip_to (fun _ _ => rfl) ?_
      refine C_seq ?_
      refine C_block ?_
      refine C_seq ?_
      refine C_region ?_
      obtain ⟨x40, hx40, h32⟩ := Option.bind_eq_some_iff.1 h32
      refine V_indexAddr h17 hx40 Tryd.underlying44 Tryd.sizeOf77 rfl rfl rfl ?_
      intro b41 o42 h43
      obtain ⟨v44, h46, h45⟩ := El_cal_Special h43
      refine V_y (Y_loadA h46 Tryd.isAgg77 Tryd.sizeOf77 rfl) rfl rfl rfl ?_
      refine V_alloc Tryd.zeroValue77 rfl ?_
      intro b47 w48 h49
      have h54 : (v44).oneCell' = true := by obtain ⟨_, _, e, _⟩ := Sl.form h45; rw [e]; rfl
      refine V_storeNew h49 Tryd.sizeOf77 rfl rfl rfl rfl (by exact (List.forall_mem_cons.2 ⟨rfl, (List.forall_mem_cons.2 ⟨h54, (fun _ h => nomatch h)⟩)⟩)) ?_
      intro w50 h51
      have hk56 := h51.kp (Dw := Dw)
      have h55 : El (α := cal_Special) A29 w50 b47 0 x40 := h51.el hA ⟨[.int .i64 x40.day], _, rfl, rfl, ⟨_, rfl, h45⟩⟩
      have ht57 := Kp.tr (Dw := Dw) hk56 hA hB
      replace hH := Hp.kp (Dw := Dw) hH hk56
      replace h11 := El.tr (Dw := Dw) h11 ht57
      replace h17 := Sl.tr (Dw := Dw) h17 ht57
      replace h43 := El.tr (Dw := Dw) h43 ht57
      replace h45 := Sl.tr (Dw := Dw) h45 ht57
      replace hK := Tr.trans (Dw := Dw) hK ht57
      replace hr20 := Tr.trans (Dw := Dw) hr20 ht57
      replace hB := Nat.le_trans hB ht57.ex.size
      replace hA := ht57.new
      refine V_to (fun _ _ => rfl) ?_
      refine C_seq ?_
      refine C_region ?_
      have h58 := El_cal_Special_0 h55
      refine V_y (Y_fieldAddr Tryd.underlying77 rfl Tryd.sizeOf3 (by decide) rfl) rfl rfl rfl ?_
      refine V_y (Y_load (El.int h58) Tryd.isAgg3 rfl) rfl rfl rfl ?_
      refine V_y (Y_move rfl) rfl rfl rfl ?_
      refine V_y (Y_eql rfl rfl) rfl rfl rfl ?_
      refine V_to (fun _ _ => rfl) ?_
      refine C_cond rfl (fun hc59 => ?_) (fun hc59 => ?_)
      · rw [if_pos hc59] at h32
        refine C_seq ?_
        refine C_region ?_
        have h60 := El_cal_Special_1 h55
        refine V_y (Y_fieldAddr Tryd.underlying77 rfl Tryd.sizeOf43 (by decide) rfl) rfl rfl rfl ?_
        obtain ⟨v61, h62, h63⟩ := El.list h60
        refine V_y (Y_load h62 Tryd.isAgg43 rfl) rfl rfl rfl ?_
        refine V_y (Y_assign rfl) rfl rfl rfl ?_
        refine V_to (fun _ _ => rfl) ?_
        obtain rfl := Option.some.inj h32
        obtain rfl := (h33 : Lp.rt _ = _)
        rw [Lp.andThen_rt] at hm
        obtain rfl := Option.some.inj hm
        refine C_ret ?_
        try simp only [↓inBlock_ret, ↓then_ret]
        exact retQ rfl (Res.one Tryd.results57 rfl) ⟨v61, rfl, (Sl.out (Dw := Dw) h63 hA0 hK), hK.kp⟩
      · rw [if_neg (nt hc59)] at h32
        refine C_skip_to (fun _ _ => rfl) ?_
        refine C_region ?_
        refine V_y (Y_addI rfl rfl) rfl rfl rfl ?_
        refine V_y (Y_move rfl) rfl rfl rfl ?_
        obtain rfl := Option.some.inj h32
        refine V_end (fun a ha64 => ?_)
        exact ⟨(), hlt35, h33, ⟨A29, ha64.sub ⟨rfl, rfl, rfl, rfl, (congrArg (fun z => some (Value.int .i64 z)) (w64_succ hlt35 hn38)), trivial⟩, ⟨hH, hr20⟩⟩⟩
    · refine C_exit (fun a ha65 => ?_)
      exact ⟨((), A29), ha65.sub ⟨rfl, rfl, trivial⟩, ⟨(h36 (eq_of_dec hle34 hc39)).symm, hH, hr20⟩⟩
  rintro ⟨s19, A25⟩ w22 ⟨rfl, hH26, hk23⟩ a ha24
  rw [Lp.andThen_fin] at hm
  replace h11 := El.tr (Dw := Dw) h11 hk23
  replace hK := Tr.trans (Dw := Dw) hK hk23
  replace hB := Nat.le_trans hB hk23.ex.size
  replace hA := hk23.new
  replace hH : Hp w.heap.size A25 w22 ([]) := hH26
  refine C_at (n := ⟨52, [], none⟩) (fun _ _ => rfl) ?_ ha24
  refine C_seq ?_
  refine C_region ?_
  refine V_y (Y_assign rfl) rfl rfl rfl ?_
  refine V_to (fun _ _ => rfl) ?_
  refine C_seq ?_
  refine C_region ?_
  refine V_y (Y_move rfl) rfl rfl rfl ?_
  obtain ⟨x67, hx67, hm⟩ := Option.bind_eq_some_iff.1 hm
  refine V_call Tryd.call55 rfl rfl rfl rfl (portref2_floorDiv_c (Dw := Dw) w22 hA day 7 hx67) ?_
  rintro _ w68 ⟨rfl, hk69⟩
  have ht70 := Kp.tr (Dw := Dw) hk69 hA hB
  replace hH := Hp.kp (Dw := Dw) hH hk69
  replace h11 := El.tr (Dw := Dw) h11 ht70
  replace hK := Tr.trans (Dw := Dw) hK ht70
  replace hB := Nat.le_trans hB ht70.ex.size
  replace hA := ht70.new
  refine V_y (Y_move rfl) rfl rfl rfl ?_
  refine V_y (Y_extract rfl rfl) rfl rfl rfl ?_
  refine V_y (Y_extract rfl rfl) rfl rfl rfl ?_
  refine V_y (Y_assign rfl) rfl rfl rfl ?_
  refine V_y (Y_assign rfl) rfl rfl rfl ?_
  refine V_to (fun _ _ => rfl) ?_
  refine C_seq ?_
  refine C_seq ?_
  refine C_region ?_
  have h71 := El_cal_Calendar_1 h11
  refine V_y (Y_fieldAddr Tryd.underlying46 rfl Tryd.sizeOf43 (by decide) rfl) rfl rfl rfl ?_
  obtain ⟨v72, h73, h74⟩ := El.list h71
  refine V_y (Y_load h73 Tryd.isAgg43 rfl) rfl rfl rfl ?_
  refine V_y (Y_lenSl h74 rfl Tryd.underlying43 rfl) rfl rfl rfl ?_
  refine V_y (Y_move rfl) rfl rfl rfl ?_
  refine V_to (fun _ _ => rfl) ?_
  replace hH : Hp w.heap.size A25 w68 (obS (α := cal_Shift) 89 (.slice none 0 0) ([] : (List cal_Shift)) :: []) := Hp.addNil (α := cal_Shift) (e := 89) hH
  have hn99 := Sl.le h74
  obtain ⟨o75, ho75, hm⟩ := Option.bind_eq_some_iff.1 hm
  refine C_cutG (ι := ((List cal_Shift) × Value × (Nat → Prop))) (fun ⟨s76, v82, A84⟩ => [(7, v82)]) (fun ⟨s76, v82, A84⟩ => fun w' => o75 = .fin s76 ∧ Hp w.heap.size A84 w' (obS (α := cal_Shift) 89 v82 s76 :: []) ∧ Tr Dw w.heap.size A25 w68 A84 w') ?_ ?_
  · refine C_block ?_
    refine C_range ho75 (fun k78 s86 a w' => ∃ i : (Value × (Nat → Prop)), Has ⟨52, [], none⟩ a ([(7, i.1), (9, .int .i64 x67.2), (32, v72), (33, .int .i64 (c.week.length : Int)), (34, .int .i64 (k78 : Int))]) ∧ Hp w.heap.size i.2 w' (obS (α := cal_Shift) 89 i.1 s86 :: []) ∧ Tr Dw w.heap.size A25 w68 i.2 w') (fun a ha => ⟨(.slice none 0 0, A25), ha.sub ⟨rfl, rfl, rfl, rfl, rfl, trivial⟩, ⟨hH, Tr.refl (Dw := Dw) hA⟩⟩) ?_
    rintro K k78 s86 a w87 ⟨⟨v88, A90⟩, ha154, hH91, hr77⟩ hle95 K98 h97
    refine C_of ?_ ha154
    replace h74 := Sl.tr (Dw := Dw) h74 hr77
    replace hK := Tr.trans (Dw := Dw) hK hr77
    replace hB := Nat.le_trans hB hr77.ex.size
    replace hA := hr77.new
    replace hH : Hp w.heap.size A90 w87 (obS (α := cal_Shift) 89 v88 s86 :: []) := hH91
    refine C_seq (C_region (V_y (Y_lss rfl rfl) rfl rfl rfl (V_to (fun _ _ => rfl) ?_)))
    refine C_seq ?_
    refine C_cond rfl (fun hc100 => ?_) (fun hc100 => ?_)
    · have hlt96 := lt_of_dec hc100
      obtain ⟨x92, h93, h94⟩ := K98 hlt96
      refine C_skip_to (fun _ _ => rfl) ?_
      refine C_seq ?_
      obtain ⟨s102, ho101, h93⟩ := Option.bind_eq_some_iff.1 h93
      refine C_cutG (ι := (Value × (Nat → Prop))) (fun ⟨v104, A109⟩ => [(7, v104), (9, .int .i64 x67.2), (32, v72), (33, .int .i64 (c.week.length : Int)), (34, .int .i64 (k78 : Int))]) (fun ⟨v104, A109⟩ => fun w' => Hp w.heap.size A109 w' (obS (α := cal_Shift) 89 v104 s102 :: []) ∧ Tr Dw w.heap.size A90 w87 A109 w') ?_ ?_
      · have hr103 : Tr Dw w.heap.size A90 w87 A90 w87 := Tr.refl (Dw := Dw) hA
        refine C_block ?_
        refine C_seq ?_
        refine C_region ?_
        obtain ⟨x111, hx111, ho101⟩ := Option.bind_eq_some_iff.1 ho101
        refine V_indexAddr h74 hx111 Tryd.underlying43 Tryd.sizeOf89 rfl rfl rfl ?_
        intro b112 o113 h114
        obtain ⟨h115, _⟩ := El_cal_Shift h114
        refine V_y (Y_loadA h115 Tryd.isAgg89 Tryd.sizeOf89 rfl) rfl rfl rfl ?_
        refine V_alloc Tryd.zeroValue89 rfl ?_
        intro b116 w117 h118
        refine V_storeNew h118 Tryd.sizeOf89 rfl rfl rfl rfl (by exact (List.forall_mem_cons.2 ⟨rfl, (List.forall_mem_cons.2 ⟨rfl, (List.forall_mem_cons.2 ⟨rfl, (fun _ h => nomatch h)⟩)⟩)⟩)) ?_
        intro w119 h120
        have hk122 := h120.kp (Dw := Dw)
        have h121 : El (α := cal_Shift) A90 w119 b116 0 x111 := h120.el hA ⟨[.int .i64 x111.day], _, rfl, rfl, ⟨[.int .i64 x111.from_], _, rfl, rfl, rfl⟩⟩
        have ht123 := Kp.tr (Dw := Dw) hk122 hA hB
        replace hH := Hp.kp (Dw := Dw) hH hk122
        replace h74 := Sl.tr (Dw := Dw) h74 ht123
        replace h114 := El.tr (Dw := Dw) h114 ht123
        replace hK := Tr.trans (Dw := Dw) hK ht123
        replace hr77 := Tr.trans (Dw := Dw) hr77 ht123
        replace hr103 := Tr.trans (Dw := Dw) hr103 ht123
        replace hB := Nat.le_trans hB ht123.ex.size
        replace hA := ht123.new
        refine V_to (fun _ _ => rfl) ?_
        refine C_seq ?_
        refine C_region ?_
        have h124 := El_cal_Shift_0 h121
        refine V_y (Y_fieldAddr Tryd.underlying89 rfl Tryd.sizeOf3 (by decide) rfl) rfl rfl rfl ?_
        refine V_y (Y_load (El.int h124) Tryd.isAgg3 rfl) rfl rfl rfl ?_
        refine V_y (Y_move rfl) rfl rfl rfl ?_
        refine V_y (Y_eql rfl rfl) rfl rfl rfl ?_
        refine V_to (fun _ _ => rfl) ?_
        obtain ⟨s126, ho125, ho101⟩ := Option.bind_eq_some_iff.1 ho101
        refine C_cutG (ι := (Value × (Nat → Prop))) (fun ⟨v128, A133⟩ => [(7, v128), (9, .int .i64 x67.2), (32, v72), (33, .int .i64 (c.week.length : Int)), (34, .int .i64 (k78 : Int))]) (fun ⟨v128, A133⟩ => fun w' => Hp w.heap.size A133 w' (obS (α := cal_Shift) 89 v128 s126 :: []) ∧ Tr Dw w.heap.size A90 w119 A133 w') ?_ ?_
        · have hr127 : Tr Dw w.heap.size A90 w119 A90 w119 := Tr.refl (Dw := Dw) hA
          refine C_cond rfl (fun hc135 => ?_) (fun hc135 => ?_)
          · rw [if_pos hc135] at ho125
            refine C_region ?_
            refine V_y (Y_move rfl) rfl rfl rfl ?_
            have h136 := El_cal_Shift_1 h121
            refine V_y (Y_fieldAddr Tryd.underlying89 rfl Tryd.sizeOf3 (by decide) rfl) rfl rfl rfl ?_
            refine V_y (Y_load (El.int h136) Tryd.isAgg3 rfl) rfl rfl rfl ?_
            have h137 := El_cal_Shift_2 h121
            refine V_y (Y_fieldAddr Tryd.underlying89 rfl Tryd.sizeOf3 (by decide) rfl) rfl rfl rfl ?_
            refine V_y (Y_load (El.int h137) Tryd.isAgg3 rfl) rfl rfl rfl ?_
            refine V_y (Y_build Tryd.underlying89 Tryd.zeroValue89 (Tryd_places89 _ Tryd.underlying89) rfl (by with_unfolding_all rfl)) rfl rfl rfl ?_
            refine V_buildSlice (Dw := Dw) (cells := #[.int .i64 0, .int .i64 x111.from_, .int .i64 x111.to_]) (l := ([(⟨0, x111.from_, x111.to_⟩ : cal_Shift)] : List cal_Shift)) (len := 1) Tryd.underlying43 Tryd.sizeOf89 Tryd.zeroValue89 rfl (by kernel_rfl) (show (1 * 3 : Nat) ≠ 0 by decide) (show (1 * 3 : Nat) ≤ 2 ^ 24 by decide) hA ⟨[.int .i64 0, .int .i64 x111.from_, .int .i64 x111.to_], _, rfl, ⟨[.int .i64 0], _, rfl, rfl, ⟨[.int .i64 x111.from_], _, rfl, rfl, rfl⟩⟩, rfl⟩ rfl rfl ?_
            intro v138 w139 hk141 h140
            have ht142 := Kp.tr (Dw := Dw) hk141 hA hB
            replace hH := Hp.kp (Dw := Dw) hH hk141
            replace h74 := Sl.tr (Dw := Dw) h74 ht142
            replace h121 := El.tr (Dw := Dw) h121 ht142
            replace h136 := El.tr (Dw := Dw) h136 ht142
            replace h137 := El.tr (Dw := Dw) h137 ht142
            replace hK := Tr.trans (Dw := Dw) hK ht142
            replace hr77 := Tr.trans (Dw := Dw) hr77 ht142
            replace hr103 := Tr.trans (Dw := Dw) hr103 ht142
            replace hr127 := Tr.trans (Dw := Dw) hr127 ht142
            replace hB := Nat.le_trans hB ht142.ex.size
            replace hA := ht142.new
            obtain ⟨x143, hx143, ho125⟩ := Option.bind_eq_some_iff.1 ho125
            refine V_appendH (Dw := Dw) (e := 89) (v := v88) (l := s86) (ti := Tryd.t89) (bytes := 24) (lim := 5864062014805) hH (i := 0) rfl h140 hx143 Tryd.underlying43 Tryd_info89 rfl rfl rfl rfl (by decide) (by decide) (by decide) hB hA rfl rfl rfl ?_
            intro v144 w145 A146 hH147 ht148
            replace h74 := Sl.tr (Dw := Dw) h74 ht148
            replace h121 := El.tr (Dw := Dw) h121 ht148
            replace h136 := El.tr (Dw := Dw) h136 ht148
            replace h137 := El.tr (Dw := Dw) h137 ht148
            replace h140 := Sl.tr (Dw := Dw) h140 ht148
            replace hK := Tr.trans (Dw := Dw) hK ht148
            replace hr77 := Tr.trans (Dw := Dw) hr77 ht148
            replace hr103 := Tr.trans (Dw := Dw) hr103 ht148
            replace hr127 := Tr.trans (Dw := Dw) hr127 ht148
            replace hB := Nat.le_trans hB ht148.ex.size
            replace hA := ht148.new
            replace hH : Hp w.heap.size A146 w145 (obS (α := cal_Shift) 89 v144 x143 :: []) := hH147
            refine V_y (Y_assign rfl) rfl rfl rfl ?_
            obtain rfl := Option.some.inj ho125
            refine V_end (fun a ha149 => ?_)
            exact ⟨(v144, A146), ha149.sub ⟨rfl, rfl, rfl, rfl, rfl, trivial⟩, ⟨hH, hr127⟩⟩
          · rw [if_neg (nt hc135)] at ho125
            obtain rfl := Option.some.inj ho125
            refine C_skip (fun a ha150 => ?_)
            exact ⟨(v88, A90), ha150.sub ⟨rfl, rfl, rfl, rfl, rfl, trivial⟩, ⟨hH, hr127⟩⟩
        rintro ⟨v128, A133⟩ w130 ⟨hH134, hk131⟩ a ha132
        replace h74 := Sl.tr (Dw := Dw) h74 hk131
        replace hK := Tr.trans (Dw := Dw) hK hk131
        replace hr77 := Tr.trans (Dw := Dw) hr77 hk131
        replace hr103 := Tr.trans (Dw := Dw) hr103 hk131
        replace hB := Nat.le_trans hB hk131.ex.size
        replace hA := hk131.new
        replace hH : Hp w.heap.size A133 w130 (obS (α := cal_Shift) 89 v128 s126 :: []) := hH134
        obtain rfl := Option.some.inj ho101
        exact ⟨(v128, A133), ha132.sub ⟨rfl, rfl, rfl, rfl, rfl, trivial⟩, ⟨hH, hr103⟩⟩
      rintro ⟨v104, A109⟩ w106 ⟨hH110, hk107⟩ a ha108
      replace h74 := Sl.tr (Dw := Dw) h74 hk107
      replace hK := Tr.trans (Dw := Dw) hK hk107
      replace hr77 := Tr.trans (Dw := Dw) hr77 hk107
      replace hB := Nat.le_trans hB hk107.ex.size
      replace hA := hk107.new
      replace hH : Hp w.heap.size A109 w106 (obS (α := cal_Shift) 89 v104 s102 :: []) := hH110
      refine C_at (n := ⟨52, [], none⟩) (fun _ _ => rfl) ?_ ha108
      refine C_region ?_
      refine V_y (Y_addI rfl rfl) rfl rfl rfl ?_
      refine V_y (Y_move rfl) rfl rfl rfl ?_
      obtain rfl := Option.some.inj h93
      refine V_end (fun a ha152 => ?_)
      exact ⟨s102, hlt96, h94, ⟨(v104, A109), ha152.sub ⟨rfl, rfl, rfl, rfl, (congrArg (fun z => some (Value.int .i64 z)) (w64_succ hlt96 hn99)), trivial⟩, ⟨hH, hr77⟩⟩⟩
    · refine C_exit (fun a ha153 => ?_)
      exact ⟨(s86, v88, A90), ha153.sub ⟨rfl, trivial⟩, ⟨(h97 (eq_of_dec hle95 hc100)).symm, hH, hr77⟩⟩
  rintro ⟨s76, v82, A84⟩ w79 ⟨rfl, hH85, hk80⟩ a ha81
  rw [Lp.andThen_fin] at hm
  replace hK := Tr.trans (Dw := Dw) hK hk80
  replace hB := Nat.le_trans hB hk80.ex.size
  replace hA := hk80.new
  replace hH : Hp w.heap.size A84 w79 (obS (α := cal_Shift) 89 v82 s76 :: []) := hH85
  refine C_at (n := ⟨52, [], none⟩) (fun _ _ => rfl) ?_ ha81
  refine C_seq ?_
  refine C_region ?_
  refine V_y (Y_move rfl) rfl rfl rfl ?_
  refine V_y (Y_assign rfl) rfl rfl rfl ?_
  refine V_to (fun _ _ => rfl) ?_
  obtain rfl := Option.some.inj hm
  obtain ⟨A155, ht156, h157, hH158⟩ := Hp.freeze (Dw := Dw) (α := cal_Shift) (v := v82) (l := s76) hH (i := 0) rfl hA
  replace hK := Tr.trans (Dw := Dw) hK ht156
  replace hB := Nat.le_trans hB ht156.ex.size
  replace hA := ht156.new
  replace hH : Hp w.heap.size A155 w79 ([]) := hH158
  refine C_ret ?_
  try simp only [↓inBlock_ret, ↓then_ret]
  exact retQ rfl (Res.one Tryd.results57 rfl) ⟨v82, rfl, (Sl.out (Dw := Dw) h157 hA0 hK), hK.kp⟩

set_option maxRecDepth 4000 in
set_option maxHeartbeats 4000000 in
theorem portref2_NewClock_c (w : World) {A : Nat → Prop} {B : Nat} (hB : B ≤ w.heap.size) (hA : ∀ b, w.heap.size ≤ b → A b) (c : cal_Calendar) (v0 : Value) (h0 : Sl A w v0 c.zone.changes) (v1 : Value) (h1 : Sl A w v1 c.week) (v2 : Value) (h2 : Sl A w v2 c.specials) {L : List Ob} (hH : Hp B A w L) {r : cal_Calendar} (hm : portref2_NewClock c = some r) : Ret Tryd.prog 42 #[.agg #[.int .i64 c.zone.offset, v0, v1, v2]] w fun v w' => ∃ b, ∃ A1 : Nat → Prop, v = .pointer (some ⟨b, 0, none⟩) ∧ Hp B A1 w' (obCk 86 portref2_ShiftsIn b r :: L) ∧ Tr Dw B A w A1 w' := by
  obtain rfl := Option.some.inj hm
  refine enter Tryd.func42 rfl Tryd.ntmps42 rfl ?_
  have hK : Tr Dw B A w A w := Tr.refl (Dw := Dw) hA
  refine C_seq ?_
  refine C_region ?_
  refine V_box rfl rfl ?_
  intro b1 w1 n1
  have e1 : El (α := cal_Calendar) A w1 b1 0 c := n1.el hA ⟨[.int .i64 c.zone.offset, v0], _, rfl, ⟨[.int .i64 c.zone.offset], _, rfl, rfl, ⟨_, rfl, h0⟩⟩, ⟨[v1], _, rfl, ⟨_, rfl, h1⟩, ⟨_, rfl, h2⟩⟩⟩
  have t1 := Kp.tr (Dw := Dw) n1.kp hA hB
  replace hH := Hp.kp (Dw := Dw) hH n1.kp
  replace hK := Tr.trans (Dw := Dw) hK t1
  replace hB := Nat.le_trans hB t1.ex.size
  replace hA := t1.new
  refine V_y (Y_assign rfl) rfl rfl rfl ?_
  refine V_to (fun _ _ => rfl) ?_
  refine C_seq ?_
  refine C_region ?_
  obtain ⟨_, _, cs, hr, hat⟩ := e1
  have hr0 := hr
  obtain ⟨u0, u1, u2, rfl, s0, s1, s2⟩ := Rep_cal_Calendar hr0
  refine V_y (Y_loadA hat Tryd.isAgg46 Tryd.sizeOf46 rfl) rfl rfl rfl ?_
  refine V_makeMapF (Dw := Dw) (portref2_ShiftsIn c) hH hB hA rfl ?_
  intro mb w2 A2 h2 t2
  replace hr := GoT.keep hr t2.ex
  replace hK := Tr.trans (Dw := Dw) hK t2
  replace hB := Nat.le_trans hB t2.ex.size
  replace hA := t2.new
  refine V_y (Y_build Tryd.underlying86 Tryd.zeroValue86 (Tryd_places86 _ Tryd.underlying86) rfl (by with_unfolding_all rfl)) rfl rfl rfl ?_
  refine V_boxH (Dw := Dw) h2 rfl hB hA rfl ?_
  intro b3 w3 A3 h3 t3
  replace hr := GoT.keep hr t3.ex
  replace hK := Tr.trans (Dw := Dw) hK t3
  refine V_y (Y_assign rfl) rfl rfl rfl ?_
  refine V_to (fun _ _ => rfl) ?_
  have h4 : Hp B A3 w3 (ckL 86 portref2_ShiftsIn b3 c (mb, [.int .i64 c.zone.offset, u0, u1, u2]) ++ L) := h3.free (O' := obF (fun A w => GoT.rep A w [.int .i64 c.zone.offset, u0, u1, u2] c) (fun h he => GoT.keep h he)) ⟨rfl, hr⟩
  refine C_ret ?_
  try simp only [↓inBlock_ret, ↓then_ret]
  exact retQ rfl (Res.one Tryd.results42 rfl) ⟨b3, A3, rfl, Hp.pack _ h4, hK⟩

set_option maxRecDepth 4000 in
set_option maxHeartbeats 4000000 in
theorem portref2_newMeter_c (w : World) {A : Nat → Prop} {B : Nat} (hB : B ≤ w.heap.size) (hA : ∀ b, w.heap.size ≤ b → A b) (cals : (List cal_Calendar)) (v_cals : Value) (h_cals : Sl A w v_cals cals) {L : List Ob} (hH : Hp B A w (L)) {r : portref2_meter} (hm : portref2_newMeter cals = some r) : Ret Tryd.prog 29 #[v_cals] w fun v w' => ∃ b0, ∃ p0, ∃ A1 : Nat → Prop, v = .pointer (some ⟨b0, 0, none⟩) ∧ Hp B A1 w' (obC b0 [p0] 65 :: obPS (obCk 86 portref2_ShiftsIn) 71 p0 r.clocks :: L) ∧ Tr Dw B A w A1 w' := by
  unfold portref2_newMeter at hm
  refine enter Tryd.func29 rfl Tryd.ntmps29 rfl ?_
  have hK : Tr Dw B A w A w := Tr.refl (Dw := Dw) hA
  refine C_seq ?_
  refine C_region ?_
  refine V_y (Y_assign rfl) rfl rfl rfl ?_
  refine V_to (fun _ _ => rfl) ?_
  refine C_seq ?_
  refine C_region ?_
  refine V_y (Y_build Tryd.underlying65 Tryd.zeroValue65 (Tryd_places65 _ Tryd.underlying65) rfl (by with_unfolding_all rfl)) rfl rfl rfl ?_
  refine V_boxH (Dw := Dw) (B := B) hH rfl hB hA rfl ?_
  intro b3 w4 A5 hH6 ht7
  replace h_cals := Sl.tr (Dw := Dw) h_cals ht7
  replace hK := Tr.trans (Dw := Dw) hK ht7
  replace hB := Nat.le_trans hB ht7.ex.size
  replace hA := ht7.new
  replace hH : Hp B A5 w4 (obC b3 [.slice none 0 0] 65 :: L) := hH6
  refine V_y (Y_assign rfl) rfl rfl rfl ?_
  refine V_to (fun _ _ => rfl) ?_
  refine C_seq ?_
  refine C_seq ?_
  refine C_region ?_
  refine V_y (Y_move rfl) rfl rfl rfl ?_
  refine V_y (Y_lenSl h_cals rfl Tryd.underlying23 rfl) rfl rfl rfl ?_
  refine V_y (Y_move rfl) rfl rfl rfl ?_
  refine V_to (fun _ _ => rfl) ?_
  replace hH : Hp B A5 w4 (obPS (obCk 86 portref2_ShiftsIn) 71 (.slice none 0 0) ([] : (List cal_Calendar)) :: obC b3 [.slice none 0 0] 65 :: L) := Hp.psNil hH
  have hn32 := Sl.le h_cals
  obtain ⟨o8, ho8, hm⟩ := Option.bind_eq_some_iff.1 hm
  refine C_cutG (ι := (portref2_meter × Value × (Nat → Prop))) (fun ⟨s9, v15, A17⟩ => [(3, .pointer (some ⟨b3, 0, none⟩))]) (fun ⟨s9, v15, A17⟩ => fun w' => o8 = .fin s9 ∧ Hp B A17 w' (obPS (obCk 86 portref2_ShiftsIn) 71 v15 s9.clocks :: obC b3 [v15] 65 :: L) ∧ Tr Dw B A5 w4 A17 w') ?_ ?_
  · refine C_block ?_
    refine C_range ho8 (fun k11 s19 a w' => ∃ i : (Value × (Nat → Prop)), Has ⟨27, [], none⟩ a ([(3, .pointer (some ⟨b3, 0, none⟩)), (8, v_cals), (9, .int .i64 (cals.length : Int)), (10, .int .i64 (k11 : Int))]) ∧ Hp B i.2 w' (obPS (obCk 86 portref2_ShiftsIn) 71 i.1 s19.clocks :: obC b3 [i.1] 65 :: L) ∧ Tr Dw B A5 w4 i.2 w') (fun a ha => ⟨(.slice none 0 0, A5), ha.sub ⟨rfl, rfl, rfl, rfl, trivial⟩, ⟨hH, Tr.refl (Dw := Dw) hA⟩⟩) ?_
    rintro K k11 s19 a w20 ⟨⟨v21, A23⟩, ha100, hH24, hr10⟩ hle28 K31 h30
    refine C_of ?_ ha100
    replace h_cals := Sl.tr (Dw := Dw) h_cals hr10
    replace hK := Tr.trans (Dw := Dw) hK hr10
    replace hB := Nat.le_trans hB hr10.ex.size
    replace hA := hr10.new
    replace hH : Hp B A23 w20 (obPS (obCk 86 portref2_ShiftsIn) 71 v21 s19.clocks :: obC b3 [v21] 65 :: L) := hH24
    refine C_seq (C_region (V_y (Y_lss rfl rfl) rfl rfl rfl (V_to (fun _ _ => rfl) ?_)))
    refine C_seq ?_
    refine C_cond rfl (fun hc33 => ?_) (fun hc33 => ?_)
    · have hlt29 := lt_of_dec hc33
      obtain ⟨x25, h26, h27⟩ := K31 hlt29
      refine C_skip_to (fun _ _ => rfl) ?_
      refine C_seq ?_
      refine C_block ?_
      refine C_seq ?_
      refine C_region ?_
      obtain ⟨x34, hx34, h26⟩ := Option.bind_eq_some_iff.1 h26
      refine V_indexAddr h_cals hx34 Tryd.underlying23 Tryd.sizeOf46 rfl rfl rfl ?_
      intro b35 o36 h37
      obtain ⟨v38, v40, v42, h44, h39, h41, h43⟩ := El_cal_Calendar h37
      refine V_y (Y_loadA h44 Tryd.isAgg46 Tryd.sizeOf46 rfl) rfl rfl rfl ?_
      refine V_alloc Tryd.zeroValue46 rfl ?_
      intro b45 w46 h47
      have h52 : (v38).oneCell' = true := by obtain ⟨_, _, e, _⟩ := Sl.form h39; rw [e]; rfl
      have h55 : (v40).oneCell' = true := by obtain ⟨_, _, e, _⟩ := Sl.form h41; rw [e]; rfl
      have h58 : (v42).oneCell' = true := by obtain ⟨_, _, e, _⟩ := Sl.form h43; rw [e]; rfl
      refine V_storeNew h47 Tryd.sizeOf46 rfl rfl rfl rfl (by exact (List.forall_mem_cons.2 ⟨rfl, (List.forall_mem_cons.2 ⟨h52, (List.forall_mem_cons.2 ⟨h55, (List.forall_mem_cons.2 ⟨h58, (fun _ h => nomatch h)⟩)⟩)⟩)⟩)) ?_
      intro w48 h49
      have hk60 := h49.kp (Dw := Dw)
      have h59 : El (α := cal_Calendar) A23 w48 b45 0 x34 := h49.el hA ⟨[.int .i64 x34.zone.offset, v38], _, rfl, ⟨[.int .i64 x34.zone.offset], _, rfl, rfl, ⟨_, rfl, h39⟩⟩, ⟨[v40], _, rfl, ⟨_, rfl, h41⟩, ⟨_, rfl, h43⟩⟩⟩
      have ht61 := Kp.tr (Dw := Dw) hk60 hA hB
      replace hH := Hp.kp (Dw := Dw) hH hk60
      replace h_cals := Sl.tr (Dw := Dw) h_cals ht61
      replace h37 := El.tr (Dw := Dw) h37 ht61
      replace h39 := Sl.tr (Dw := Dw) h39 ht61
      replace h41 := Sl.tr (Dw := Dw) h41 ht61
      replace h43 := Sl.tr (Dw := Dw) h43 ht61
      replace hK := Tr.trans (Dw := Dw) hK ht61
      replace hr10 := Tr.trans (Dw := Dw) hr10 ht61
      replace hB := Nat.le_trans hB ht61.ex.size
      replace hA := ht61.new
      refine V_to (fun _ _ => rfl) ?_
      refine C_region_ch (Dw := Dw) A23 12 [(1, 0), (1, 1), (1, 2), (1, 3), (0, 4), (1, 5), (2, 6), (2, 7), (4, 8), (1, 9), (1, 10), (4, 11)] Tryd_mixed (by kernel_rfl) (fun w62 hk63 => ?_)
      have ht64 := Kp.tr (Dw := Dw) hk63 hA hB
      replace hH := Hp.kp (Dw := Dw) hH hk63
      replace h_cals := Sl.tr (Dw := Dw) h_cals ht64
      replace h59 := El.tr (Dw := Dw) h59 ht64
      replace hK := Tr.trans (Dw := Dw) hK ht64
      replace hr10 := Tr.trans (Dw := Dw) hr10 ht64
      replace hB := Nat.le_trans hB ht64.ex.size
      replace hA := ht64.new
      refine CH_q2 (Dw := Dw) rfl ?_
      refine VQ_y (fun w' hw' => Y_move rfl) rfl rfl rfl ?_
      refine VQ_CH (Dw := Dw) ?_
      refine CH_q2 (Dw := Dw) rfl ?_
      refine VQ_y (fun w' hw' => Y_move rfl) rfl rfl rfl ?_
      refine VQ_CH (Dw := Dw) ?_
      refine CH_q2 (Dw := Dw) rfl ?_
      refine VQ_y (fun w' hw' => Y_nilCheck rfl) rfl rfl rfl ?_
      refine VQ_CH (Dw := Dw) ?_
      refine CH_q2 (Dw := Dw) rfl ?_
      refine VQ_y (fun w' hw' => Y_fieldAddrC (off2 := 0) Tryd.underlying65 rfl Tryd.sizeOf63 (by decide) rfl rfl) rfl rfl rfl ?_
      refine VQ_CH (Dw := Dw) ?_
      refine CH_q1 (Dw := Dw) rfl ?_
      refine VQ_y (fun w' hw' => Y_load ((World.cell?_of_block (hw'.block _ (World.block_lt_of_cell? _ _ (Hp.cell (j := 0) hH (i := 1) rfl rfl)))).trans (Hp.cell (j := 0) hH (i := 1) rfl rfl)) Tryd.isAgg63 rfl) rfl rfl rfl ?_
      refine VQ_CH (Dw := Dw) ?_
      refine CH_q2 (Dw := Dw) rfl ?_
      obtain ⟨v65, v67, v69, h71, h66, h68, h70⟩ := El_cal_Calendar h59
      refine VQ_y (fun w' hw' => Y_loadA (At.same h71 (hw'.2 _ h59.2.1 h59.1)) Tryd.isAgg46 Tryd.sizeOf46 rfl) rfl rfl rfl ?_
      refine VQ_CH (Dw := Dw) ?_
      refine CH_l1 (Dw := Dw) (k := 0) rfl ?_
      obtain ⟨x72, hx72, h26⟩ := Option.bind_eq_some_iff.1 h26
      refine V_call Tryd.call42 rfl rfl rfl rfl (portref2_NewClock_c (Dw := Dw) w62 (B := w62.heap.size) (Nat.le_refl _) hA x34 v65 h66 v67 h68 v69 h70 Hp.nil hx72) ?_
      rintro _ w74 ⟨b73, A75, rfl, hH76, ht77⟩
      have hk78 : Kp Dw w62 w74 := ht77.below
      have hH79 := Hp.join (Dw := Dw) hH hB ht77 hH76
      have ht80 := Tr.lower (Dw := Dw) ht77 hB
      replace h_cals := Sl.tr (Dw := Dw) h_cals ht80
      replace h59 := El.tr (Dw := Dw) h59 ht80
      replace h66 := Sl.tr (Dw := Dw) h66 ht80
      replace h68 := Sl.tr (Dw := Dw) h68 ht80
      replace h70 := Sl.tr (Dw := Dw) h70 ht80
      replace hK := Tr.trans (Dw := Dw) hK ht80
      replace hr10 := Tr.trans (Dw := Dw) hr10 ht80
      replace hB := Nat.le_trans hB ht80.ex.size
      replace hA := ht80.new
      replace hH : Hp B A75 w74 (obCk 86 portref2_ShiftsIn b73 x72 :: obPS (obCk 86 portref2_ShiftsIn) 71 v21 s19.clocks :: obC b3 [v21] 65 :: L) := hH79
      refine V_CH (Dw := Dw) (hk78) ?_
      refine CH_l1 (Dw := Dw) (k := 0) rfl ?_
      refine V_buildSlice (Dw := Dw) (l := [(⟨b73⟩ : Ptr)]) (len := 1) Tryd.underlying63 Tryd.sizeOf71 Tryd.zeroValue71 rfl (by with_unfolding_all rfl) (by decide) (by decide) hA ⟨[.pointer (some ⟨b73, 0, none⟩)], _, rfl, rfl, rfl⟩ rfl rfl ?_
      intro v81 w82 hk84 h83
      have ht85 := Kp.tr (Dw := Dw) hk84 hA hB
      replace hH := Hp.kp (Dw := Dw) hH hk84
      replace h_cals := Sl.tr (Dw := Dw) h_cals ht85
      replace h59 := El.tr (Dw := Dw) h59 ht85
      replace h66 := Sl.tr (Dw := Dw) h66 ht85
      replace h68 := Sl.tr (Dw := Dw) h68 ht85
      replace h70 := Sl.tr (Dw := Dw) h70 ht85
      replace hK := Tr.trans (Dw := Dw) hK ht85
      replace hr10 := Tr.trans (Dw := Dw) hr10 ht85
      replace hB := Nat.le_trans hB ht85.ex.size
      replace hA := ht85.new
      refine V_CH (Dw := Dw) (hk84) ?_
      refine CH_l1 (Dw := Dw) (k := 2) rfl ?_
      obtain ⟨x86, hx86, h26⟩ := Option.bind_eq_some_iff.1 h26
      refine V_appendPS (Dw := Dw) (f := obCk 86 portref2_ShiftsIn) (e := 71) (v := v21) (cs := s19.clocks) (c := x72) (ti := Tryd.t71) (bytes := 8) (lim := 17592186044416) hH (i := 0) rfl h83 hx86 Tryd.underlying63 Tryd_info71 rfl rfl rfl rfl (by decide) (by decide) hB hA rfl rfl rfl ?_
      intro v87 w88 A89 hH90 ht91
      replace h_cals := Sl.tr (Dw := Dw) h_cals ht91
      replace h59 := El.tr (Dw := Dw) h59 ht91
      replace h66 := Sl.tr (Dw := Dw) h66 ht91
      replace h68 := Sl.tr (Dw := Dw) h68 ht91
      replace h70 := Sl.tr (Dw := Dw) h70 ht91
      replace h83 := Sl.tr (Dw := Dw) h83 ht91
      replace hK := Tr.trans (Dw := Dw) hK ht91
      replace hr10 := Tr.trans (Dw := Dw) hr10 ht91
      replace hB := Nat.le_trans hB ht91.ex.size
      replace hA := ht91.new
      replace hH : Hp B A89 w88 (obPS (obCk 86 portref2_ShiftsIn) 71 v87 x86 :: obC b3 [v21] 65 :: L) := hH90
      refine V_CHw (Dw := Dw) ?_
      refine CH_q2 (Dw := Dw) rfl ?_
      refine VQ_y (fun w' hw' => Y_nilCheck rfl) rfl rfl rfl ?_
      refine VQ_CH (Dw := Dw) ?_
      refine CH_q2 (Dw := Dw) rfl ?_
      refine VQ_y (fun w' hw' => Y_fieldAddrC (off2 := 0) Tryd.underlying65 rfl Tryd.sizeOf63 (by decide) rfl rfl) rfl rfl rfl ?_
      refine VQ_CH (Dw := Dw) ?_
      refine CH_l1 (Dw := Dw) (k := 2) rfl ?_
      have h97 : (v87).oneCell' = true := Hp.psOne (f := obCk 86 portref2_ShiftsIn) (e := 71) (v := v87) (cs := x86) hH (i := 0) rfl
      refine V_storeC (Dw := Dw) (off := 0) (ds := [v87]) hH (i := 1) rfl Tryd.sizeOf63 (by rw [← Array.length_toList, Value.cells_one h97]; rfl) (Nat.le_of_ble_eq_true rfl) (by intro u hu; rw [Value.cells_one h97] at hu; simp at hu; subst hu; assumption) (by rw [Value.cells_one h97]; rfl) hB hA rfl rfl ?_
      intro w92 hH93 ht94
      replace h_cals := Sl.tr (Dw := Dw) h_cals ht94
      replace h59 := El.tr (Dw := Dw) h59 ht94
      replace h66 := Sl.tr (Dw := Dw) h66 ht94
      replace h68 := Sl.tr (Dw := Dw) h68 ht94
      replace h70 := Sl.tr (Dw := Dw) h70 ht94
      replace h83 := Sl.tr (Dw := Dw) h83 ht94
      replace hK := Tr.trans (Dw := Dw) hK ht94
      replace hr10 := Tr.trans (Dw := Dw) hr10 ht94
      replace hB := Nat.le_trans hB ht94.ex.size
      replace hA := ht94.new
      replace hH : Hp B A89 w92 (obPS (obCk 86 portref2_ShiftsIn) 71 v87 x86 :: obC b3 [v87] 65 :: L) := hH93
      refine V_CHw (Dw := Dw) ?_
      refine CH_tail (Dw := Dw) ?_
      show V _ _ _ _ [] _ _
      refine V_to (fun _ _ => rfl) ?_
      refine C_region ?_
      refine V_y (Y_addI rfl rfl) rfl rfl rfl ?_
      refine V_y (Y_move rfl) rfl rfl rfl ?_
      obtain rfl := Option.some.inj h26
      refine V_end (fun a ha98 => ?_)
      exact ⟨(⟨x86⟩ : portref2_meter), hlt29, h27, ⟨(v87, A89), ha98.sub ⟨rfl, rfl, rfl, (congrArg (fun z => some (Value.int .i64 z)) (w64_succ hlt29 hn32)), trivial⟩, ⟨hH, hr10⟩⟩⟩
    · refine C_exit (fun a ha99 => ?_)
      exact ⟨(s19, v21, A23), ha99.sub ⟨rfl, trivial⟩, ⟨(h30 (eq_of_dec hle28 hc33)).symm, hH, hr10⟩⟩
  rintro ⟨s9, v15, A17⟩ w12 ⟨rfl, hH18, hk13⟩ a ha14
  rw [Lp.andThen_fin] at hm
  replace hK := Tr.trans (Dw := Dw) hK hk13
  replace hB := Nat.le_trans hB hk13.ex.size
  replace hA := hk13.new
  replace hH : Hp B A17 w12 (obPS (obCk 86 portref2_ShiftsIn) 71 v15 s9.clocks :: obC b3 [v15] 65 :: L) := hH18
  refine C_at (n := ⟨27, [], none⟩) (fun _ _ => rfl) ?_ ha14
  refine C_seq ?_
  refine C_region ?_
  refine V_y (Y_move rfl) rfl rfl rfl ?_
  refine V_y (Y_assign rfl) rfl rfl rfl ?_
  refine V_to (fun _ _ => rfl) ?_
  obtain rfl := Option.some.inj hm
  replace hH : Hp B A17 w12 (obC b3 [v15] 65 :: obPS (obCk 86 portref2_ShiftsIn) 71 v15 s9.clocks :: L) := Hp.front hH (i := 1) rfl
  refine C_ret ?_
  try simp only [↓inBlock_ret, ↓then_ret]
  exact retQ rfl (Res.one Tryd.results29 rfl) ⟨b3, v15, A17, rfl, hH, hK⟩

set_option maxRecDepth 4000 in
set_option maxHeartbeats 4000000 in
theorem portref2_newDuty_c (w : World) {A : Nat → Prop} {B : Nat} (hB : B ≤ w.heap.size) (hA : ∀ b, w.heap.size ≤ b → A b) (people : (List route_Person)) (v_people : Value) (h_people : Sl A w v_people people) (cals : (List cal_Calendar)) (v_cals : Value) (h_cals : Sl A w v_cals cals) {L : List Ob} (hH : Hp B A w (L)) {r : portref2_duty} (hm : portref2_newDuty people cals = some r) : Ret Tryd.prog 15 #[v_people, v_cals] w fun v w' => ∃ b0, ∃ p0, ∃ p1, ∃ q0, ∃ A1 : Nat → Prop, v = .pointer (some ⟨b0, 0, none⟩) ∧ Sl A1 w' p0 r.people ∧ Hp B A1 w' (obC b0 [p0, p1, .map (some q0)] 70 :: obPS (obCk 86 portref2_ShiftsIn) 71 p1 r.clocks :: obSM (κ := Int) (α := Bool) q0 r.away :: L) ∧ Tr Dw B A w A1 w' := by
  unfold portref2_newDuty at hm
  refine enter Tryd.func15 rfl Tryd.ntmps15 rfl ?_
  have hK : Tr Dw B A w A w := Tr.refl (Dw := Dw) hA
  refine C_seq ?_
  refine C_region ?_
  refine V_y (Y_assign rfl) rfl rfl rfl ?_
  refine V_to (fun _ _ => rfl) ?_
  refine C_seq ?_
  refine C_region ?_
  refine V_y (Y_move rfl) rfl rfl rfl ?_
  refine V_y (Y_move rfl) rfl rfl rfl ?_
  obtain ⟨x5, hx5, hm⟩ := Option.bind_eq_some_iff.1 hm
  refine V_call Tryd.call29 rfl rfl rfl rfl (portref2_newMeter_c (Dw := Dw) w hB hA cals v_cals h_cals hH hx5) ?_
  rintro _ w9 ⟨b6, v7, A10, rfl, hH11, ht12⟩
  replace h_people := Sl.tr (Dw := Dw) h_people ht12
  replace h_cals := Sl.tr (Dw := Dw) h_cals ht12
  replace hK := Tr.trans (Dw := Dw) hK ht12
  replace hB := Nat.le_trans hB ht12.ex.size
  replace hA := ht12.new
  replace hH : Hp B A10 w9 (obC b6 [v7] 65 :: obPS (obCk 86 portref2_ShiftsIn) 71 v7 x5.clocks :: L) := hH11
  refine V_y (Y_nilCheck rfl) rfl rfl rfl ?_
  refine V_y (Y_fieldAddrC (off2 := 0) Tryd.underlying65 rfl Tryd.sizeOf63 (by decide) rfl rfl) rfl rfl rfl ?_
  refine V_y (Y_load (Hp.cell (j := 0) hH (i := 0) rfl rfl) Tryd.isAgg63 rfl) rfl rfl rfl ?_
  refine V_makeMapS (Dw := Dw) (B := B) Int Bool hH hB hA rfl ?_
  intro b13 w14 A15 hH16 ht17
  replace h_people := Sl.tr (Dw := Dw) h_people ht17
  replace h_cals := Sl.tr (Dw := Dw) h_cals ht17
  replace hK := Tr.trans (Dw := Dw) hK ht17
  replace hB := Nat.le_trans hB ht17.ex.size
  replace hA := ht17.new
  replace hH : Hp B A15 w14 (obSM (κ := Int) (α := Bool) b13 ([] : List (Int × Bool)) :: obC b6 [v7] 65 :: obPS (obCk 86 portref2_ShiftsIn) 71 v7 x5.clocks :: L) := hH16
  refine V_y (Y_build (cells := #[v_people, v7, .map (some b13)]) Tryd.underlying70 Tryd.zeroValue70 (Tryd_places70 _ Tryd.underlying70) rfl (by obtain ⟨a18, c19, e20, _⟩ := Sl.form h_people; subst e20; obtain ⟨a21, c22, e23, _⟩ := Hp.psForm (f := obCk 86 portref2_ShiftsIn) (e := 71) (v := v7) (cs := x5.clocks) hH (i := 2) rfl; subst e23; with_unfolding_all rfl)) rfl rfl rfl ?_
  refine V_boxH (Dw := Dw) (B := B) hH rfl hB hA rfl ?_
  intro b24 w25 A26 hH27 ht28
  replace h_people := Sl.tr (Dw := Dw) h_people ht28
  replace h_cals := Sl.tr (Dw := Dw) h_cals ht28
  replace hK := Tr.trans (Dw := Dw) hK ht28
  replace hB := Nat.le_trans hB ht28.ex.size
  replace hA := ht28.new
  replace hH : Hp B A26 w25 (obC b24 [v_people, v7, .map (some b13)] 70 :: obSM (κ := Int) (α := Bool) b13 ([] : List (Int × Bool)) :: obC b6 [v7] 65 :: obPS (obCk 86 portref2_ShiftsIn) 71 v7 x5.clocks :: L) := hH27
  refine V_y (Y_assign rfl) rfl rfl rfl ?_
  refine V_to (fun _ _ => rfl) ?_
  obtain rfl := Option.some.inj hm
  replace hH : Hp B A26 w25 (obSM (κ := Int) (α := Bool) b13 ([] : List (Int × Bool)) :: obC b24 [v_people, v7, .map (some b13)] 70 :: obC b6 [v7] 65 :: obPS (obCk 86 portref2_ShiftsIn) 71 v7 x5.clocks :: L) := Hp.front hH (i := 1) rfl
  replace hH : Hp B A26 w25 (obPS (obCk 86 portref2_ShiftsIn) 71 v7 x5.clocks :: obSM (κ := Int) (α := Bool) b13 ([] : List (Int × Bool)) :: obC b24 [v_people, v7, .map (some b13)] 70 :: obC b6 [v7] 65 :: L) := Hp.front hH (i := 3) rfl
  replace hH : Hp B A26 w25 (obC b24 [v_people, v7, .map (some b13)] 70 :: obPS (obCk 86 portref2_ShiftsIn) 71 v7 x5.clocks :: obSM (κ := Int) (α := Bool) b13 ([] : List (Int × Bool)) :: obC b6 [v7] 65 :: L) := Hp.front hH (i := 2) rfl
  replace hH : Hp B A26 w25 (obC b24 [v_people, v7, .map (some b13)] 70 :: obPS (obCk 86 portref2_ShiftsIn) 71 v7 x5.clocks :: obSM (κ := Int) (α := Bool) b13 ([] : List (Int × Bool)) :: L) := Hp.drop hH (i := 3) rfl
  refine C_ret ?_
  try simp only [↓inBlock_ret, ↓then_ret]
  exact retQ rfl (Res.one Tryd.results15 rfl) ⟨b24, v_people, v7, b13, A26, rfl, h_people, hH, hK⟩

set_option maxRecDepth 4000 in
set_option maxHeartbeats 4000000 in
theorem portref2_OffsetIn_c (w : World) {A : Nat → Prop} (hA : ∀ b, w.heap.size ≤ b → A b) (z : cal_Zone) (v_z : Value) (h_z : Sl A w v_z z.changes) (m : Int) {r : Int} (hm : portref2_OffsetIn z m = some r) : Ret Tryd.prog 56 #[.agg #[.int .i64 z.offset, v_z], .int .i64 m] w fun v w' => v = .int .i64 r ∧ Kp Dw w w' := by
  unfold portref2_OffsetIn at hm
  refine enter Tryd.func56 rfl Tryd.ntmps56 rfl ?_
  have hA0 := hA
  have hB := Nat.le_refl w.heap.size
  have hK : Tr Dw w.heap.size A w A w := Tr.refl (Dw := Dw) hA
  have hH : Hp w.heap.size A w [] := Hp.nil
  refine C_seq ?_
  refine C_region ?_
  refine V_box rfl rfl ?_
  intro b3 w4 h5
  have hk7 := h5.kp (Dw := Dw)
  have h6 : El (α := cal_Zone) A w4 b3 0 z := h5.el hA ⟨[.int .i64 z.offset], _, rfl, rfl, ⟨_, rfl, h_z⟩⟩
  have ht8 := Kp.tr (Dw := Dw) hk7 hA hB
  replace hH := Hp.kp (Dw := Dw) hH hk7
  replace h_z := Sl.tr (Dw := Dw) h_z ht8
  replace hK := Tr.trans (Dw := Dw) hK ht8
  replace hB := Nat.le_trans hB ht8.ex.size
  replace hA := ht8.new
  refine V_y (Y_assign rfl) rfl rfl rfl ?_
  refine V_to (fun _ _ => rfl) ?_
  refine C_seq ?_
  refine C_region ?_
  have h9 := El_cal_Zone_0 h6
  refine V_y (Y_fieldAddr Tryd.underlying42 rfl Tryd.sizeOf3 (by decide) rfl) rfl rfl rfl ?_
  refine V_y (Y_load (El.int h9) Tryd.isAgg3 rfl) rfl rfl rfl ?_
  refine V_y (Y_assign rfl) rfl rfl rfl ?_
  refine V_to (fun _ _ => rfl) ?_
  refine C_seq ?_
  refine C_seq ?_
  refine C_region ?_
  have h10 := El_cal_Zone_1 h6
  refine V_y (Y_fieldAddr Tryd.underlying42 rfl Tryd.sizeOf40 (by decide) rfl) rfl rfl rfl ?_
  obtain ⟨v11, h12, h13⟩ := El.list h10
  refine V_y (Y_load h12 Tryd.isAgg40 rfl) rfl rfl rfl ?_
  refine V_y (Y_lenSl h13 rfl Tryd.underlying40 rfl) rfl rfl rfl ?_
  refine V_y (Y_move rfl) rfl rfl rfl ?_
  refine V_to (fun _ _ => rfl) ?_
  have hn34 := Sl.le h13
  obtain ⟨o14, ho14, hm⟩ := Option.bind_eq_some_iff.1 hm
  refine C_cutG (ι := (Int × (Nat → Prop))) (fun ⟨s15, A21⟩ => [(5, .int .i64 s15)]) (fun ⟨s15, A21⟩ => fun w' => o14 = .fin s15 ∧ Hp w.heap.size A21 w' ([]) ∧ Tr Dw w.heap.size A w4 A21 w') ?_ ?_
  · refine C_block ?_
    refine C_range ho14 (fun k17 s23 a w' => ∃ i : (Nat → Prop), Has ⟨25, [], none⟩ a ([(1, .int .i64 m), (5, .int .i64 s23), (11, v11), (12, .int .i64 (z.changes.length : Int)), (13, .int .i64 (k17 : Int))]) ∧ Hp w.heap.size i w' ([]) ∧ Tr Dw w.heap.size A w4 i w') (fun a ha => ⟨A, ha.sub ⟨rfl, rfl, rfl, rfl, rfl, trivial⟩, ⟨hH, Tr.refl (Dw := Dw) hA⟩⟩) ?_
    rintro K k17 s23 a w24 ⟨A25, ha71, hH26, hr16⟩ hle30 K33 h32
    refine C_of ?_ ha71
    replace h13 := Sl.tr (Dw := Dw) h13 hr16
    replace hK := Tr.trans (Dw := Dw) hK hr16
    replace hB := Nat.le_trans hB hr16.ex.size
    replace hA := hr16.new
    replace hH : Hp w.heap.size A25 w24 ([]) := hH26
    refine C_seq (C_region (V_y (Y_lss rfl rfl) rfl rfl rfl (V_to (fun _ _ => rfl) ?_)))
    refine C_seq ?_
    refine C_cond rfl (fun hc35 => ?_) (fun hc35 => ?_)
    · have hlt31 := lt_of_dec hc35
      obtain ⟨x27, h28, h29⟩ := K33 hlt31
      refine C_skip_to (fun _ _ => rfl) ?_
      refine C_seq ?_
      obtain ⟨s37, ho36, h28⟩ := Option.bind_eq_some_iff.1 h28
      refine C_cutG (ι := (Nat → Prop)) (fun (A42 : (Nat → Prop)) => [(1, .int .i64 m), (5, .int .i64 s37), (11, v11), (12, .int .i64 (z.changes.length : Int)), (13, .int .i64 (k17 : Int))]) (fun (A42 : (Nat → Prop)) => fun w' => Hp w.heap.size A42 w' ([]) ∧ Tr Dw w.heap.size A25 w24 A42 w') ?_ ?_
      · have hr38 : Tr Dw w.heap.size A25 w24 A25 w24 := Tr.refl (Dw := Dw) hA
        refine C_block ?_
        refine C_seq ?_
        refine C_region ?_
        obtain ⟨x44, hx44, ho36⟩ := Option.bind_eq_some_iff.1 ho36
        refine V_indexAddr h13 hx44 Tryd.underlying40 Tryd.sizeOf94 rfl rfl rfl ?_
        intro b45 o46 h47
        obtain ⟨h48, _⟩ := El_cal_Change h47
        refine V_y (Y_loadA h48 Tryd.isAgg94 Tryd.sizeOf94 rfl) rfl rfl rfl ?_
        refine V_alloc Tryd.zeroValue94 rfl ?_
        intro b49 w50 h51
        refine V_storeNew h51 Tryd.sizeOf94 rfl rfl rfl rfl (by exact (List.forall_mem_cons.2 ⟨rfl, (List.forall_mem_cons.2 ⟨rfl, (fun _ h => nomatch h)⟩)⟩)) ?_
        intro w52 h53
        have hk55 := h53.kp (Dw := Dw)
        have h54 : El (α := cal_Change) A25 w52 b49 0 x44 := h53.el hA ⟨[.int .i64 x44.at_], _, rfl, rfl, rfl⟩
        have ht56 := Kp.tr (Dw := Dw) hk55 hA hB
        replace hH := Hp.kp (Dw := Dw) hH hk55
        replace h13 := Sl.tr (Dw := Dw) h13 ht56
        replace h47 := El.tr (Dw := Dw) h47 ht56
        replace hK := Tr.trans (Dw := Dw) hK ht56
        replace hr16 := Tr.trans (Dw := Dw) hr16 ht56
        replace hr38 := Tr.trans (Dw := Dw) hr38 ht56
        replace hB := Nat.le_trans hB ht56.ex.size
        replace hA := ht56.new
        refine V_to (fun _ _ => rfl) ?_
        refine C_seq ?_
        refine C_region ?_
        have h57 := El_cal_Change_0 h54
        refine V_y (Y_fieldAddr Tryd.underlying94 rfl Tryd.sizeOf3 (by decide) rfl) rfl rfl rfl ?_
        refine V_y (Y_load (El.int h57) Tryd.isAgg3 rfl) rfl rfl rfl ?_
        refine V_y (Y_move rfl) rfl rfl rfl ?_
        refine V_y (Y_leq rfl rfl) rfl rfl rfl ?_
        refine V_to (fun _ _ => rfl) ?_
        obtain ⟨s59, ho58, ho36⟩ := Option.bind_eq_some_iff.1 ho36
        refine C_cutG (ι := Unit) (fun (_ : Unit) => [(1, .int .i64 m), (5, .int .i64 s59), (11, v11), (12, .int .i64 (z.changes.length : Int)), (13, .int .i64 (k17 : Int))]) (fun (_ : Unit) => fun w' => w52 = w') ?_ ?_
        · refine C_cond rfl (fun hc64 => ?_) (fun hc64 => ?_)
          · rw [if_pos hc64] at ho58
            refine C_region ?_
            have h65 := El_cal_Change_1 h54
            refine V_y (Y_fieldAddr Tryd.underlying94 rfl Tryd.sizeOf3 (by decide) rfl) rfl rfl rfl ?_
            refine V_y (Y_load (El.int h65) Tryd.isAgg3 rfl) rfl rfl rfl ?_
            refine V_y (Y_assign rfl) rfl rfl rfl ?_
            obtain rfl := Option.some.inj ho58
            refine V_end (fun a ha66 => ?_)
            exact ⟨(), ha66.sub ⟨rfl, rfl, rfl, rfl, rfl, trivial⟩, rfl⟩
          · rw [if_neg (nt hc64)] at ho58
            obtain rfl := Option.some.inj ho58
            refine C_skip (fun a ha67 => ?_)
            exact ⟨(), ha67.sub ⟨rfl, rfl, rfl, rfl, rfl, trivial⟩, rfl⟩
        rintro _ _ rfl a ha63
        obtain rfl := Option.some.inj ho36
        exact ⟨A25, ha63.sub ⟨rfl, rfl, rfl, rfl, rfl, trivial⟩, ⟨hH, hr38⟩⟩
      rintro A42 w39 ⟨hH43, hk40⟩ a ha41
      replace h13 := Sl.tr (Dw := Dw) h13 hk40
      replace hK := Tr.trans (Dw := Dw) hK hk40
      replace hr16 := Tr.trans (Dw := Dw) hr16 hk40
      replace hB := Nat.le_trans hB hk40.ex.size
      replace hA := hk40.new
      replace hH : Hp w.heap.size A42 w39 ([]) := hH43
      refine C_at (n := ⟨25, [], none⟩) (fun _ _ => rfl) ?_ ha41
      refine C_region ?_
      refine V_y (Y_addI rfl rfl) rfl rfl rfl ?_
      refine V_y (Y_move rfl) rfl rfl rfl ?_
      obtain rfl := Option.some.inj h28
      refine V_end (fun a ha69 => ?_)
      exact ⟨s37, hlt31, h29, ⟨A42, ha69.sub ⟨rfl, rfl, rfl, rfl, (congrArg (fun z => some (Value.int .i64 z)) (w64_succ hlt31 hn34)), trivial⟩, ⟨hH, hr16⟩⟩⟩
    · refine C_exit (fun a ha70 => ?_)
      exact ⟨(s23, A25), ha70.sub ⟨rfl, trivial⟩, ⟨(h32 (eq_of_dec hle30 hc35)).symm, hH, hr16⟩⟩
  rintro ⟨s15, A21⟩ w18 ⟨rfl, hH22, hk19⟩ a ha20
  rw [Lp.andThen_fin] at hm
  replace hK := Tr.trans (Dw := Dw) hK hk19
  replace hB := Nat.le_trans hB hk19.ex.size
  replace hA := hk19.new
  replace hH : Hp w.heap.size A21 w18 ([]) := hH22
  refine C_at (n := ⟨25, [], none⟩) (fun _ _ => rfl) ?_ ha20
  refine C_seq ?_
  refine C_region ?_
  refine V_y (Y_move rfl) rfl rfl rfl ?_
  refine V_y (Y_assign rfl) rfl rfl rfl ?_
  refine V_to (fun _ _ => rfl) ?_
  obtain rfl := Option.some.inj hm
  refine C_ret ?_
  try simp only [↓inBlock_ret, ↓then_ret]
  exact retQ rfl (Res.one Tryd.results56 rfl) ⟨rfl, hK.kp⟩

set_option maxRecDepth 4000 in
set_option maxHeartbeats 4000000 in
theorem portref2_LocalIn_c (w : World) {A : Nat → Prop} (hA : ∀ b, w.heap.size ≤ b → A b) (z : cal_Zone) (v_z : Value) (h_z : Sl A w v_z z.changes) (m : Int) {r : (Int × Int)} (hm : portref2_LocalIn z m = some r) : Ret Tryd.prog 43 #[.agg #[.int .i64 z.offset, v_z], .int .i64 m] w fun v w' => v = .tuple #[.int .i64 r.1, .int .i64 r.2] ∧ Kp Dw w w' := by
  unfold portref2_LocalIn at hm
  refine enter Tryd.func43 rfl Tryd.ntmps43 rfl ?_
  have hA0 := hA
  have hB := Nat.le_refl w.heap.size
  have hK : Tr Dw w.heap.size A w A w := Tr.refl (Dw := Dw) hA
  have hH : Hp w.heap.size A w [] := Hp.nil
  refine C_seq ?_
  refine C_region ?_
  refine V_box rfl rfl ?_
  intro b3 w4 h5
  have hk7 := h5.kp (Dw := Dw)
  have h6 : El (α := cal_Zone) A w4 b3 0 z := h5.el hA ⟨[.int .i64 z.offset], _, rfl, rfl, ⟨_, rfl, h_z⟩⟩
  have ht8 := Kp.tr (Dw := Dw) hk7 hA hB
  replace hH := Hp.kp (Dw := Dw) hH hk7
  replace h_z := Sl.tr (Dw := Dw) h_z ht8
  replace hK := Tr.trans (Dw := Dw) hK ht8
  replace hB := Nat.le_trans hB ht8.ex.size
  replace hA := ht8.new
  refine V_y (Y_assign rfl) rfl rfl rfl ?_
  refine V_y (Y_assign rfl) rfl rfl rfl ?_
  refine V_to (fun _ _ => rfl) ?_
  refine C_seq ?_
  refine C_region ?_
  refine V_y (Y_move rfl) rfl rfl rfl ?_
  obtain ⟨v9, h11, h10⟩ := El_cal_Zone h6
  refine V_y (Y_loadA h11 Tryd.isAgg42 Tryd.sizeOf42 rfl) rfl rfl rfl ?_
  refine V_y (Y_move rfl) rfl rfl rfl ?_
  obtain ⟨x12, hx12, hm⟩ := Option.bind_eq_some_iff.1 hm
  refine V_call Tryd.call56 rfl rfl rfl rfl (portref2_OffsetIn_c (Dw := Dw) w4 hA z v9 h10 m hx12) ?_
  rintro _ w13 ⟨rfl, hk14⟩
  have ht15 := Kp.tr (Dw := Dw) hk14 hA hB
  replace hH := Hp.kp (Dw := Dw) hH hk14
  replace h6 := El.tr (Dw := Dw) h6 ht15
  replace h10 := Sl.tr (Dw := Dw) h10 ht15
  replace hK := Tr.trans (Dw := Dw) hK ht15
  replace hB := Nat.le_trans hB ht15.ex.size
  replace hA := ht15.new
  refine V_y (Y_addI rfl rfl) rfl rfl rfl ?_
  obtain ⟨x16, hx16, hm⟩ := Option.bind_eq_some_iff.1 hm
  refine V_call Tryd.call55 rfl rfl rfl rfl (portref2_floorDiv_c (Dw := Dw) w13 hA (w64 (m + x12)) 1440 hx16) ?_
  rintro _ w17 ⟨rfl, hk18⟩
  have ht19 := Kp.tr (Dw := Dw) hk18 hA hB
  replace hH := Hp.kp (Dw := Dw) hH hk18
  replace h6 := El.tr (Dw := Dw) h6 ht19
  replace h10 := Sl.tr (Dw := Dw) h10 ht19
  replace hK := Tr.trans (Dw := Dw) hK ht19
  replace hB := Nat.le_trans hB ht19.ex.size
  replace hA := ht19.new
  refine V_y (Y_extract rfl rfl) rfl rfl rfl ?_
  refine V_y (Y_extract rfl rfl) rfl rfl rfl ?_
  refine V_y (Y_assign rfl) rfl rfl rfl ?_
  refine V_y (Y_assign rfl) rfl rfl rfl ?_
  refine V_to (fun _ _ => rfl) ?_
  obtain rfl := Option.some.inj hm
  refine C_ret ?_
  try simp only [↓inBlock_ret, ↓then_ret]
  exact retQ rfl (Res.two Tryd.results43 rfl rfl) ⟨rfl, hK.kp⟩

set_option maxRecDepth 4000 in
set_option maxHeartbeats 4000000 in
theorem portref2_Clock_shifts_c (w : World) {A : Nat → Prop} {B : Nat} (hB : B ≤ w.heap.size) (hA : ∀ b, w.heap.size ≤ b → A b) (k : cal_Calendar) (b_k : Nat) (day : Int) {L : List Ob} (hH : Hp B A w (obCk 86 portref2_ShiftsIn b_k k :: L)) {r : (List cal_Shift)} (hm : portref2_Clock_shifts k day = some r) : Ret Tryd.prog 44 #[.pointer (some ⟨b_k, 0, none⟩), .int .i64 day] w fun v w' => ∃ s0, ∃ A1 : Nat → Prop, v = s0 ∧ Sl A1 w' s0 r ∧ Hp B A1 w' (obCk 86 portref2_ShiftsIn b_k k :: L) ∧ Tr Dw B A w A1 w' := by
  unfold portref2_Clock_shifts at hm
  refine enter Tryd.func44 rfl Tryd.ntmps44 rfl ?_
  have hK : Tr Dw B A w A w := Tr.refl (Dw := Dw) hA
  obtain ⟨⟨mb, cs⟩, hH⟩ := Hp.open hH
  have hr : GoT.rep A w cs k := by
    obtain ⟨_, ⟨_, hr⟩, _⟩ := hH.at (i := 0) rfl
    exact hr
  have hr0 := hr
  obtain ⟨u0, u1, u2, rfl, s0, s1, s2⟩ := Rep_cal_Calendar hr0
  replace hH : Hp B A w (obC b_k [.int .i64 k.zone.offset, u0, u1, u2, .map (some mb)] 86 :: obMF (portref2_ShiftsIn k) mb :: L) := hH.drops (L := [_])
  refine C_seq ?_
  refine C_region ?_
  refine V_y (Y_assign rfl) rfl rfl rfl ?_
  refine V_to (fun _ _ => rfl) ?_
  refine C_seq ?_
  refine C_region ?_
  refine V_y (Y_move rfl) rfl rfl rfl ?_
  refine V_y (Y_nilCheck rfl) rfl rfl rfl ?_
  refine V_y (Y_fieldAddrC (off2 := 4) Tryd.underlying86 rfl Tryd.sizeOf84 (by decide) rfl rfl) rfl rfl rfl ?_
  refine V_y (Y_load (Hp.cell (j := 4) hH (i := 0) rfl rfl) Tryd.isAgg84 rfl) rfl rfl rfl ?_
  refine V_y (Y_move rfl) rfl rfl rfl ?_
  refine V_lookupF hH (i := 1) rfl Tryd.underlying84 Tryd.underlying3 Tryd.zeroValue43 rfl rfl rfl ?_ ?_
  · intro v l hl hs
    rw [hm] at hl
    obtain rfl := Option.some.inj hl
    refine V_y (Y_move rfl) rfl rfl rfl ?_
    refine V_y (Y_extract rfl rfl) rfl rfl rfl ?_
    refine V_y (Y_extract rfl rfl) rfl rfl rfl ?_
    refine V_y (Y_assign rfl) rfl rfl rfl ?_
    refine V_y (Y_assign rfl) rfl rfl rfl ?_
    refine V_to (fun _ _ => rfl) ?_
    refine C_seq ?_
    refine C_seq ?_
    refine C_region ?_
    refine V_y (Y_move rfl) rfl rfl rfl ?_
    refine V_y (Y_not rfl) rfl rfl rfl ?_
    refine V_to (fun _ _ => rfl) ?_
    refine C_cond rfl (fun hc => by cases hc) (fun hc => ?_)
    refine C_skip_to (fun _ _ => rfl) ?_
    have h4 : Hp B A w (ckL 86 portref2_ShiftsIn b_k k (mb, [.int .i64 k.zone.offset, u0, u1, u2]) ++ L) := hH.free (O' := obF (fun A w => GoT.rep A w [.int .i64 k.zone.offset, u0, u1, u2] k) (fun h he => GoT.keep h he)) ⟨rfl, hr⟩
    refine C_seq ?_
    refine C_region ?_
    refine V_y (Y_move rfl) rfl rfl rfl ?_
    refine V_y (Y_assign rfl) rfl rfl rfl ?_
    refine V_to (fun _ _ => rfl) ?_
    refine C_ret ?_
    try simp only [↓inBlock_ret, ↓then_ret]
    exact retQ rfl (Res.one Tryd.results44 rfl) ⟨_, A, rfl, hs, Hp.pack _ h4, hK⟩
  · refine V_y (Y_move rfl) rfl rfl rfl ?_
    refine V_y (Y_extract rfl rfl) rfl rfl rfl ?_
    refine V_y (Y_extract rfl rfl) rfl rfl rfl ?_
    refine V_y (Y_assign rfl) rfl rfl rfl ?_
    refine V_y (Y_assign rfl) rfl rfl rfl ?_
    refine V_to (fun _ _ => rfl) ?_
    refine C_seq ?_
    refine C_seq ?_
    refine C_region ?_
    refine V_y (Y_move rfl) rfl rfl rfl ?_
    refine V_y (Y_not rfl) rfl rfl rfl ?_
    refine V_to (fun _ _ => rfl) ?_
    refine C_cond rfl (fun hc => ?_) (fun hc => by cases hc)
    refine C_seq ?_
    refine C_region ?_
    refine V_y (Y_move rfl) rfl rfl rfl ?_
    refine V_y (Y_nilCheck rfl) rfl rfl rfl ?_
    refine V_y (Y_fieldAddrC (off2 := 0) Tryd.underlying86 rfl Tryd.sizeOf46 (by decide) rfl rfl) rfl rfl rfl ?_
    have hat : At w b_k 0 [.int .i64 k.zone.offset, u0, u1, u2] := Hp.part (n := 4) (i := 0) hH rfl rfl
    refine V_y (Y_loadA hat Tryd.isAgg46 Tryd.sizeOf46 rfl) rfl rfl rfl ?_
    refine V_y (Y_move rfl) rfl rfl rfl ?_
    refine V_call Tryd.call57 rfl rfl rfl rfl (portref2_ShiftsIn_c (Dw := Dw) w hA k u0 s0 u1 s1 u2 s2 day hm) ?_
    rintro s1 w1 ⟨_, rfl, hs, hk⟩
    have t1 := Kp.tr (Dw := Dw) hk hA hB
    replace hH := Hp.kp (Dw := Dw) hH hk
    replace hr := GoT.keep hr t1.ex
    replace hK := Tr.trans (Dw := Dw) hK t1
    replace hB := Nat.le_trans hB t1.ex.size
    replace hA := t1.new
    refine V_y (Y_assign rfl) rfl rfl rfl ?_
    refine V_to (fun _ _ => rfl) ?_
    refine C_region ?_
    refine V_y (Y_move rfl) rfl rfl rfl ?_
    refine V_y (Y_nilCheck rfl) rfl rfl rfl ?_
    refine V_y (Y_fieldAddrC (off2 := 4) Tryd.underlying86 rfl Tryd.sizeOf84 (by decide) rfl rfl) rfl rfl rfl ?_
    refine V_y (Y_load (Hp.cell (j := 4) hH (i := 0) rfl rfl) Tryd.isAgg84 rfl) rfl rfl rfl ?_
    refine V_y (Y_move rfl) rfl rfl rfl ?_
    refine V_y (Y_move rfl) rfl rfl rfl ?_
    refine V_mapUpdateF (Dw := Dw) hH (i := 1) rfl Tryd.underlying84 Tryd.underlying3 hm hs rfl rfl rfl hB hA ?_
    intro w2 h2 t2
    replace hH : Hp B A w2 (obC b_k [.int .i64 k.zone.offset, u0, u1, u2, .map (some mb)] 86 :: obMF (portref2_ShiftsIn k) mb :: L) := h2
    replace hs := Sl.tr (Dw := Dw) hs t2
    replace hr := GoT.keep hr t2.ex
    replace hK := Tr.trans (Dw := Dw) hK t2
    refine V_to (fun _ _ => rfl) ?_
    have h4 : Hp B A w2 (ckL 86 portref2_ShiftsIn b_k k (mb, [.int .i64 k.zone.offset, u0, u1, u2]) ++ L) := hH.free (O' := obF (fun A w => GoT.rep A w [.int .i64 k.zone.offset, u0, u1, u2] k) (fun h he => GoT.keep h he)) ⟨rfl, hr⟩
    refine C_seq ?_
    refine C_region ?_
    refine V_y (Y_move rfl) rfl rfl rfl ?_
    refine V_y (Y_assign rfl) rfl rfl rfl ?_
    refine V_to (fun _ _ => rfl) ?_
    refine C_ret ?_
    try simp only [↓inBlock_ret, ↓then_ret]
    exact retQ rfl (Res.one Tryd.results44 rfl) ⟨_, A, rfl, hs, Hp.pack _ h4, hK⟩

set_option maxRecDepth 4000 in
set_option maxHeartbeats 4000000 in
theorem portref2_Clock_Open_c (w : World) {A : Nat → Prop} {B : Nat} (hB : B ≤ w.heap.size) (hA : ∀ b, w.heap.size ≤ b → A b) (k_ : cal_Calendar) (b_k_ : Nat) (m : Int) {L : List Ob} (hH : Hp B A w (obCk 86 portref2_ShiftsIn b_k_ k_ :: L)) {r : Bool} (hm : portref2_Clock_Open k_ m = some r) : Ret Tryd.prog 30 #[.pointer (some ⟨b_k_, 0, none⟩), .int .i64 m] w fun v w' => ∃ A1 : Nat → Prop, v = .bool r ∧ Hp B A1 w' (obCk 86 portref2_ShiftsIn b_k_ k_ :: L) ∧ Tr Dw B A w A1 w' := by
  unfold portref2_Clock_Open at hm
  refine enter Tryd.func30 rfl Tryd.ntmps30 rfl ?_
  have hK : Tr Dw B A w A w := Tr.refl (Dw := Dw) hA
  refine C_seq ?_
  refine C_region ?_
  refine V_y (Y_assign rfl) rfl rfl rfl ?_
  refine V_to (fun _ _ => rfl) ?_
  refine C_seq ?_
  refine C_region ?_
  refine V_y (Y_move rfl) rfl rfl rfl ?_
  refine V_y (Y_nilCheck rfl) rfl rfl rfl ?_
  have h1 := Hp.ck (tb := 86) (F := portref2_ShiftsIn) (b := b_k_) (c := k_) hH (i := 0) rfl
  refine V_y (Y_fieldAddrC (off2 := 0) Tryd.underlying86 rfl Tryd.sizeOf46 (by decide) rfl rfl) rfl rfl rfl ?_
  have h2 := El_cal_Calendar_0 h1
  refine V_y (Y_fieldAddr Tryd.underlying46 rfl Tryd.sizeOf42 (by decide) rfl) rfl rfl rfl ?_
  obtain ⟨v3, h5, h4⟩ := El_cal_Zone h2
  refine V_y (Y_loadA h5 Tryd.isAgg42 Tryd.sizeOf42 rfl) rfl rfl rfl ?_
  refine V_y (Y_move rfl) rfl rfl rfl ?_
  obtain ⟨x6, hx6, hm⟩ := Option.bind_eq_some_iff.1 hm
  refine V_call Tryd.call43 rfl rfl rfl rfl (portref2_LocalIn_c (Dw := Dw) w (A := fun _ => True) (fun _ _ => trivial) k_.zone v3 (Sl.any h4) m hx6) ?_
  rintro _ w7 ⟨rfl, hk8⟩
  have ht9 := Kp.tr (Dw := Dw) hk8 hA hB
  replace hH := Hp.kp (Dw := Dw) hH hk8
  replace h1 := El.kp (Dw := Dw) h1 hk8
  replace h2 := El.kp (Dw := Dw) h2 hk8
  replace h4 := Sl.kp (Dw := Dw) h4 hk8
  replace hK := Tr.trans (Dw := Dw) hK ht9
  replace hB := Nat.le_trans hB ht9.ex.size
  replace hA := ht9.new
  refine V_y (Y_move rfl) rfl rfl rfl ?_
  refine V_y (Y_extract rfl rfl) rfl rfl rfl ?_
  refine V_y (Y_extract rfl rfl) rfl rfl rfl ?_
  refine V_y (Y_assign rfl) rfl rfl rfl ?_
  refine V_y (Y_assign rfl) rfl rfl rfl ?_
  refine V_to (fun _ _ => rfl) ?_
  refine C_seq ?_
  refine C_seq ?_
  refine C_region ?_
  refine V_y (Y_move rfl) rfl rfl rfl ?_
  refine V_y (Y_move rfl) rfl rfl rfl ?_
  obtain ⟨x10, hx10, hm⟩ := Option.bind_eq_some_iff.1 hm
  refine V_call Tryd.call44 rfl rfl rfl rfl (portref2_Clock_shifts_c (Dw := Dw) w7 hB hA k_ b_k_ x6.1 hH hx10) ?_
  rintro v11 w13 ⟨_, A14, rfl, h12, hH15, ht16⟩
  replace hK := Tr.trans (Dw := Dw) hK ht16
  replace hB := Nat.le_trans hB ht16.ex.size
  replace hA := ht16.new
  replace hH : Hp B A14 w13 (obCk 86 portref2_ShiftsIn b_k_ k_ :: L) := hH15
  refine V_y (Y_lenSl h12 rfl Tryd.underlying43 rfl) rfl rfl rfl ?_
  refine V_y (Y_move rfl) rfl rfl rfl ?_
  refine V_to (fun _ _ => rfl) ?_
  have hn37 := Sl.le h12
  obtain ⟨o17, ho17, hm⟩ := Option.bind_eq_some_iff.1 hm
  refine C_cutG (ι := (Unit × (Nat → Prop))) (fun ⟨s18, A24⟩ => [(0, .pointer (some ⟨b_k_, 0, none⟩)), (5, .int .i64 x6.1), (6, .int .i64 x6.2)]) (fun ⟨s18, A24⟩ => fun w' => o17 = .fin s18 ∧ Hp B A24 w' (obCk 86 portref2_ShiftsIn b_k_ k_ :: L) ∧ Tr Dw B A14 w13 A24 w') ?_ ?_
  · refine C_block ?_
    refine C_range ho17 (fun k20 _ a w' => ∃ i : (Nat → Prop), Has ⟨62, [], none⟩ a ([(0, .pointer (some ⟨b_k_, 0, none⟩)), (5, .int .i64 x6.1), (6, .int .i64 x6.2), (23, v11), (24, .int .i64 (x10.length : Int)), (25, .int .i64 (k20 : Int))]) ∧ Hp B i w' (obCk 86 portref2_ShiftsIn b_k_ k_ :: L) ∧ Tr Dw B A14 w13 i w') (fun a ha => ⟨A14, ha.sub ⟨rfl, rfl, rfl, rfl, rfl, rfl, trivial⟩, ⟨hH, Tr.refl (Dw := Dw) hA⟩⟩) ?_
    rintro K k20 _ a w27 ⟨A28, ha59, hH29, hr19⟩ hle33 K36 h35
    refine C_of ?_ ha59
    replace h12 := Sl.tr (Dw := Dw) h12 hr19
    replace hK := Tr.trans (Dw := Dw) hK hr19
    replace hB := Nat.le_trans hB hr19.ex.size
    replace hA := hr19.new
    replace hH : Hp B A28 w27 (obCk 86 portref2_ShiftsIn b_k_ k_ :: L) := hH29
    refine C_seq (C_region (V_y (Y_lss rfl rfl) rfl rfl rfl (V_to (fun _ _ => rfl) ?_)))
    refine C_seq ?_
    refine C_cond rfl (fun hc38 => ?_) (fun hc38 => ?_)
    · have hlt34 := lt_of_dec hc38
      obtain ⟨x30, h31, h32⟩ := K36 hlt34
      refine C_skip_to (fun _ _ => rfl) ?_
      refine C_seq ?_
      refine C_block ?_
      refine C_seq ?_
      refine C_region ?_
      obtain ⟨x39, hx39, h31⟩ := Option.bind_eq_some_iff.1 h31
      refine V_indexAddr h12 hx39 Tryd.underlying43 Tryd.sizeOf89 rfl rfl rfl ?_
      intro b40 o41 h42
      obtain ⟨h43, _⟩ := El_cal_Shift h42
      refine V_y (Y_loadA h43 Tryd.isAgg89 Tryd.sizeOf89 rfl) rfl rfl rfl ?_
      refine V_alloc Tryd.zeroValue89 rfl ?_
      intro b44 w45 h46
      refine V_storeNew h46 Tryd.sizeOf89 rfl rfl rfl rfl (by exact (List.forall_mem_cons.2 ⟨rfl, (List.forall_mem_cons.2 ⟨rfl, (List.forall_mem_cons.2 ⟨rfl, (fun _ h => nomatch h)⟩)⟩)⟩)) ?_
      intro w47 h48
      have hk50 := h48.kp (Dw := Dw)
      have h49 : El (α := cal_Shift) A28 w47 b44 0 x39 := h48.el hA ⟨[.int .i64 x39.day], _, rfl, rfl, ⟨[.int .i64 x39.from_], _, rfl, rfl, rfl⟩⟩
      have ht51 := Kp.tr (Dw := Dw) hk50 hA hB
      replace hH := Hp.kp (Dw := Dw) hH hk50
      replace h12 := Sl.tr (Dw := Dw) h12 ht51
      replace h42 := El.tr (Dw := Dw) h42 ht51
      replace hK := Tr.trans (Dw := Dw) hK ht51
      replace hr19 := Tr.trans (Dw := Dw) hr19 ht51
      replace hB := Nat.le_trans hB ht51.ex.size
      replace hA := ht51.new
      refine V_to (fun _ _ => rfl) ?_
      refine C_seq ?_
      refine C_region ?_
      have h52 := El_cal_Shift_1 h49
      refine V_y (Y_fieldAddr Tryd.underlying89 rfl Tryd.sizeOf3 (by decide) rfl) rfl rfl rfl ?_
      refine V_y (Y_load (El.int h52) Tryd.isAgg3 rfl) rfl rfl rfl ?_
      refine V_y (Y_move rfl) rfl rfl rfl ?_
      refine V_y (Y_leq rfl rfl) rfl rfl rfl ?_
      refine V_y (Y_move rfl) rfl rfl rfl ?_
      refine V_cut 5 (fun _ : Unit => [(0, .pointer (some ⟨b_k_, 0, none⟩)), (5, .int .i64 x6.1), (6, .int .i64 x6.2), (23, v11), (24, .int .i64 (x10.length : Int)), (25, .int .i64 (k20 : Int)), (38, .bool ((decide (x39.from_ ≤ x6.2)) && (decide (x6.2 < x39.to_))))]) (fun _ w' => w47 = w') ?_ ?_
      · simp only [List.take, List.drop]
        rcases Bool.eq_false_or_eq_true (decide (x39.from_ ≤ x6.2)) with hc53 | hc53
        · refine V_ge rfl rfl rfl hc53 ?_
          refine V_y (Y_move rfl) rfl rfl rfl ?_
          refine V_ge rfl rfl rfl hc53 ?_
          have h55 := El_cal_Shift_2 h49
          refine V_y (Y_fieldAddr Tryd.underlying89 rfl Tryd.sizeOf3 (by decide) rfl) rfl rfl rfl ?_
          refine V_ge rfl rfl rfl hc53 ?_
          refine V_y (Y_load (El.int h55) Tryd.isAgg3 rfl) rfl rfl rfl ?_
          refine V_ge rfl rfl rfl hc53 ?_
          refine V_y (Y_lss rfl rfl) rfl rfl rfl ?_
          refine V_y (Y_pick_te rfl hc53 rfl) rfl rfl rfl ?_
          exact V_end fun a ha => ⟨(), ha.sub ⟨rfl, rfl, rfl, rfl, rfl, rfl, (by rw [hc53]; rfl), trivial⟩, rfl⟩
        · refine V_gn rfl rfl rfl hc53 rfl rfl rfl ?_
          refine V_gn rfl rfl rfl hc53 rfl rfl rfl ?_
          refine V_gn rfl rfl rfl hc53 rfl rfl rfl ?_
          refine V_gn rfl rfl rfl hc53 rfl rfl rfl ?_
          refine V_y (Y_pick_fe rfl hc53 rfl) rfl rfl rfl ?_
          exact V_end fun a ha => ⟨(), ha.sub ⟨rfl, rfl, rfl, rfl, rfl, rfl, (by rw [hc53]; rfl), trivial⟩, rfl⟩
      simp only [List.take, List.drop]
      rintro _ _ rfl
      refine V_to (fun _ _ => rfl) ?_
      refine C_cond rfl (fun hc56 => ?_) (fun hc56 => ?_)
      · rw [if_pos hc56] at h31
        refine C_seq ?_
        refine C_region ?_
        refine V_y (Y_assign rfl) rfl rfl rfl ?_
        refine V_to (fun _ _ => rfl) ?_
        obtain rfl := Option.some.inj h31
        obtain rfl := (h32 : Lp.rt _ = _)
        rw [Lp.andThen_rt] at hm
        obtain rfl := Option.some.inj hm
        refine C_ret ?_
        try simp only [↓inBlock_ret, ↓then_ret]
        exact retQ rfl (Res.one Tryd.results30 rfl) ⟨A28, rfl, hH, hK⟩
      · rw [if_neg (nt hc56)] at h31
        refine C_skip_to (fun _ _ => rfl) ?_
        refine C_region ?_
        refine V_y (Y_addI rfl rfl) rfl rfl rfl ?_
        refine V_y (Y_move rfl) rfl rfl rfl ?_
        obtain rfl := Option.some.inj h31
        refine V_end (fun a ha57 => ?_)
        exact ⟨(), hlt34, h32, ⟨A28, ha57.sub ⟨rfl, rfl, rfl, rfl, rfl, (congrArg (fun z => some (Value.int .i64 z)) (w64_succ hlt34 hn37)), trivial⟩, ⟨hH, hr19⟩⟩⟩
    · refine C_exit (fun a ha58 => ?_)
      exact ⟨((), A28), ha58.sub ⟨rfl, rfl, rfl, trivial⟩, ⟨(h35 (eq_of_dec hle33 hc38)).symm, hH, hr19⟩⟩
  rintro ⟨s18, A24⟩ w21 ⟨rfl, hH25, hk22⟩ a ha23
  rw [Lp.andThen_fin] at hm
  replace hK := Tr.trans (Dw := Dw) hK hk22
  replace hB := Nat.le_trans hB hk22.ex.size
  replace hA := hk22.new
  replace hH : Hp B A24 w21 (obCk 86 portref2_ShiftsIn b_k_ k_ :: L) := hH25
  refine C_at (n := ⟨62, [], none⟩) (fun _ _ => rfl) ?_ ha23
  refine C_seq ?_
  refine C_seq ?_
  refine C_region ?_
  refine V_y (Y_move rfl) rfl rfl rfl ?_
  refine V_y (Y_move rfl) rfl rfl rfl ?_
  refine V_y (Y_subI rfl rfl) rfl rfl rfl ?_
  obtain ⟨x60, hx60, hm⟩ := Option.bind_eq_some_iff.1 hm
  refine V_call Tryd.call44 rfl rfl rfl rfl (portref2_Clock_shifts_c (Dw := Dw) w21 hB hA k_ b_k_ (w64 (x6.1 - 1)) hH hx60) ?_
  rintro v61 w63 ⟨_, A64, rfl, h62, hH65, ht66⟩
  replace hK := Tr.trans (Dw := Dw) hK ht66
  replace hB := Nat.le_trans hB ht66.ex.size
  replace hA := ht66.new
  replace hH : Hp B A64 w63 (obCk 86 portref2_ShiftsIn b_k_ k_ :: L) := hH65
  refine V_y (Y_lenSl h62 rfl Tryd.underlying43 rfl) rfl rfl rfl ?_
  refine V_y (Y_move rfl) rfl rfl rfl ?_
  refine V_to (fun _ _ => rfl) ?_
  have hn87 := Sl.le h62
  obtain ⟨o67, ho67, hm⟩ := Option.bind_eq_some_iff.1 hm
  refine C_cutG (ι := (Unit × (Nat → Prop))) (fun ⟨s68, A74⟩ => []) (fun ⟨s68, A74⟩ => fun w' => o67 = .fin s68 ∧ Hp B A74 w' (obCk 86 portref2_ShiftsIn b_k_ k_ :: L) ∧ Tr Dw B A64 w63 A74 w') ?_ ?_
  · refine C_block ?_
    refine C_range ho67 (fun k70 _ a w' => ∃ i : (Nat → Prop), Has ⟨62, [], none⟩ a ([(6, .int .i64 x6.2), (43, v61), (44, .int .i64 (x60.length : Int)), (45, .int .i64 (k70 : Int))]) ∧ Hp B i w' (obCk 86 portref2_ShiftsIn b_k_ k_ :: L) ∧ Tr Dw B A64 w63 i w') (fun a ha => ⟨A64, ha.sub ⟨rfl, rfl, rfl, rfl, trivial⟩, ⟨hH, Tr.refl (Dw := Dw) hA⟩⟩) ?_
    rintro K k70 _ a w77 ⟨A78, ha109, hH79, hr69⟩ hle83 K86 h85
    refine C_of ?_ ha109
    replace h62 := Sl.tr (Dw := Dw) h62 hr69
    replace hK := Tr.trans (Dw := Dw) hK hr69
    replace hB := Nat.le_trans hB hr69.ex.size
    replace hA := hr69.new
    replace hH : Hp B A78 w77 (obCk 86 portref2_ShiftsIn b_k_ k_ :: L) := hH79
    refine C_seq (C_region (V_y (Y_lss rfl rfl) rfl rfl rfl (V_to (fun _ _ => rfl) ?_)))
    refine C_seq ?_
    refine C_cond rfl (fun hc88 => ?_) (fun hc88 => ?_)
    · have hlt84 := lt_of_dec hc88
      obtain ⟨x80, h81, h82⟩ := K86 hlt84
      refine C_skip_to (fun _ _ => rfl) ?_
      refine C_seq ?_
      refine C_block ?_
      refine C_seq ?_
      refine C_region ?_
      obtain ⟨x89, hx89, h81⟩ := Option.bind_eq_some_iff.1 h81
      refine V_indexAddr h62 hx89 Tryd.underlying43 Tryd.sizeOf89 rfl rfl rfl ?_
      intro b90 o91 h92
      obtain ⟨h93, _⟩ := El_cal_Shift h92
      refine V_y (Y_loadA h93 Tryd.isAgg89 Tryd.sizeOf89 rfl) rfl rfl rfl ?_
      refine V_alloc Tryd.zeroValue89 rfl ?_
      intro b94 w95 h96
      refine V_storeNew h96 Tryd.sizeOf89 rfl rfl rfl rfl (by exact (List.forall_mem_cons.2 ⟨rfl, (List.forall_mem_cons.2 ⟨rfl, (List.forall_mem_cons.2 ⟨rfl, (fun _ h => nomatch h)⟩)⟩)⟩)) ?_
      intro w97 h98
      have hk100 := h98.kp (Dw := Dw)
      have h99 : El (α := cal_Shift) A78 w97 b94 0 x89 := h98.el hA ⟨[.int .i64 x89.day], _, rfl, rfl, ⟨[.int .i64 x89.from_], _, rfl, rfl, rfl⟩⟩
      have ht101 := Kp.tr (Dw := Dw) hk100 hA hB
      replace hH := Hp.kp (Dw := Dw) hH hk100
      replace h62 := Sl.tr (Dw := Dw) h62 ht101
      replace h92 := El.tr (Dw := Dw) h92 ht101
      replace hK := Tr.trans (Dw := Dw) hK ht101
      replace hr69 := Tr.trans (Dw := Dw) hr69 ht101
      replace hB := Nat.le_trans hB ht101.ex.size
      replace hA := ht101.new
      refine V_to (fun _ _ => rfl) ?_
      refine C_seq ?_
      refine C_region ?_
      have h102 := El_cal_Shift_1 h99
      refine V_y (Y_fieldAddr Tryd.underlying89 rfl Tryd.sizeOf3 (by decide) rfl) rfl rfl rfl ?_
      refine V_y (Y_load (El.int h102) Tryd.isAgg3 rfl) rfl rfl rfl ?_
      refine V_y (Y_move rfl) rfl rfl rfl ?_
      refine V_y (Y_addI rfl rfl) rfl rfl rfl ?_
      refine V_y (Y_leq rfl rfl) rfl rfl rfl ?_
      refine V_y (Y_move rfl) rfl rfl rfl ?_
      refine V_cut 6 (fun _ : Unit => [(6, .int .i64 x6.2), (43, v61), (44, .int .i64 (x60.length : Int)), (45, .int .i64 (k70 : Int)), (60, .bool ((decide (x89.from_ ≤ (w64 (x6.2 + 1440)))) && (decide ((w64 (x6.2 + 1440)) < x89.to_))))]) (fun _ w' => w97 = w') ?_ ?_
      · simp only [List.take, List.drop]
        rcases Bool.eq_false_or_eq_true (decide (x89.from_ ≤ (w64 (x6.2 + 1440)))) with hc103 | hc103
        · refine V_ge rfl rfl rfl hc103 ?_
          refine V_y (Y_move rfl) rfl rfl rfl ?_
          refine V_ge rfl rfl rfl hc103 ?_
          refine V_y (Y_addI rfl rfl) rfl rfl rfl ?_
          refine V_ge rfl rfl rfl hc103 ?_
          have h105 := El_cal_Shift_2 h99
          refine V_y (Y_fieldAddr Tryd.underlying89 rfl Tryd.sizeOf3 (by decide) rfl) rfl rfl rfl ?_
          refine V_ge rfl rfl rfl hc103 ?_
          refine V_y (Y_load (El.int h105) Tryd.isAgg3 rfl) rfl rfl rfl ?_
          refine V_ge rfl rfl rfl hc103 ?_
          refine V_y (Y_lss rfl rfl) rfl rfl rfl ?_
          refine V_y (Y_pick_te rfl hc103 rfl) rfl rfl rfl ?_
          exact V_end fun a ha => ⟨(), ha.sub ⟨rfl, rfl, rfl, rfl, (by rw [hc103]; rfl), trivial⟩, rfl⟩
        · refine V_gn rfl rfl rfl hc103 rfl rfl rfl ?_
          refine V_gn rfl rfl rfl hc103 rfl rfl rfl ?_
          refine V_gn rfl rfl rfl hc103 rfl rfl rfl ?_
          refine V_gn rfl rfl rfl hc103 rfl rfl rfl ?_
          refine V_gn rfl rfl rfl hc103 rfl rfl rfl ?_
          refine V_y (Y_pick_fe rfl hc103 rfl) rfl rfl rfl ?_
          exact V_end fun a ha => ⟨(), ha.sub ⟨rfl, rfl, rfl, rfl, (by rw [hc103]; rfl), trivial⟩, rfl⟩
      simp only [List.take, List.drop]
      rintro _ _ rfl
      refine V_to (fun _ _ => rfl) ?_
      refine C_cond rfl (fun hc106 => ?_) (fun hc106 => ?_)
      · rw [if_pos hc106] at h81
        refine C_seq ?_
        refine C_region ?_
        refine V_y (Y_assign rfl) rfl rfl rfl ?_
        refine V_to (fun _ _ => rfl) ?_
        obtain rfl := Option.some.inj h81
        obtain rfl := (h82 : Lp.rt _ = _)
        rw [Lp.andThen_rt] at hm
        obtain rfl := Option.some.inj hm
        refine C_ret ?_
        try simp only [↓inBlock_ret, ↓then_ret]
        exact retQ rfl (Res.one Tryd.results30 rfl) ⟨A78, rfl, hH, hK⟩
      · rw [if_neg (nt hc106)] at h81
        refine C_skip_to (fun _ _ => rfl) ?_
        refine C_region ?_
        refine V_y (Y_addI rfl rfl) rfl rfl rfl ?_
        refine V_y (Y_move rfl) rfl rfl rfl ?_
        obtain rfl := Option.some.inj h81
        refine V_end (fun a ha107 => ?_)
        exact ⟨(), hlt84, h82, ⟨A78, ha107.sub ⟨rfl, rfl, rfl, (congrArg (fun z => some (Value.int .i64 z)) (w64_succ hlt84 hn87)), trivial⟩, ⟨hH, hr69⟩⟩⟩
    · refine C_exit (fun a ha108 => ?_)
      exact ⟨((), A78), ha108.sub trivial, ⟨(h85 (eq_of_dec hle83 hc88)).symm, hH, hr69⟩⟩
  rintro ⟨s68, A74⟩ w71 ⟨rfl, hH75, hk72⟩ a ha73
  rw [Lp.andThen_fin] at hm
  replace hK := Tr.trans (Dw := Dw) hK hk72
  replace hB := Nat.le_trans hB hk72.ex.size
  replace hA := hk72.new
  replace hH : Hp B A74 w71 (obCk 86 portref2_ShiftsIn b_k_ k_ :: L) := hH75
  refine C_at (n := ⟨62, [], none⟩) (fun _ _ => rfl) ?_ ha73
  refine C_seq ?_
  refine C_region ?_
  refine V_y (Y_assign rfl) rfl rfl rfl ?_
  refine V_to (fun _ _ => rfl) ?_
  obtain rfl := Option.some.inj hm
  refine C_ret ?_
  try simp only [↓inBlock_ret, ↓then_ret]
  exact retQ rfl (Res.one Tryd.results30 rfl) ⟨A74, rfl, hH, hK⟩

set_option maxRecDepth 4000 in
set_option maxHeartbeats 4000000 in
theorem portref2_duty_on_c (w : World) {A : Nat → Prop} {B : Nat} (hB : B ≤ w.heap.size) (hA : ∀ b, w.heap.size ≤ b → A b) (d : portref2_duty) (b_d : Nat) (v_d0 : Value) (h_d0 : Sl A w v_d0 d.people) (v_d1 : Value) (m_d0 : Nat) (p : route_Person) (v_p : Value) (h_p : Sl A w v_p p.skills) (m : Int) {L : List Ob} (hH : Hp B A w (obC b_d [v_d0, v_d1, .map (some m_d0)] 70 :: obPS (obCk 86 portref2_ShiftsIn) 71 v_d1 d.clocks :: obSM (κ := Int) (α := Bool) m_d0 d.away :: L)) {r : Bool} (hm : portref2_duty_on d p m = some r) : Ret Tryd.prog 16 #[.pointer (some ⟨b_d, 0, none⟩), .agg #[.int .i64 p.no, .int .i64 p.capacity, .int .i64 p.calendar, v_p], .int .i64 m] w fun v w' => ∃ A1 : Nat → Prop, v = .bool r ∧ Hp B A1 w' (obC b_d [v_d0, v_d1, .map (some m_d0)] 70 :: obPS (obCk 86 portref2_ShiftsIn) 71 v_d1 d.clocks :: obSM (κ := Int) (α := Bool) m_d0 d.away :: L) ∧ Tr Dw B A w A1 w' := by
  unfold portref2_duty_on at hm
  refine enter Tryd.func16 rfl Tryd.ntmps16 rfl ?_
  have hK : Tr Dw B A w A w := Tr.refl (Dw := Dw) hA
  refine C_seq ?_
  refine C_region ?_
  refine V_box rfl rfl ?_
  intro b8 w9 h10
  have hk12 := h10.kp (Dw := Dw)
  have h11 : El (α := route_Person) A w9 b8 0 p := h10.el hA ⟨[.int .i64 p.no], _, rfl, rfl, ⟨[.int .i64 p.capacity], _, rfl, rfl, ⟨[.int .i64 p.calendar], _, rfl, rfl, ⟨_, rfl, h_p⟩⟩⟩⟩
  have ht13 := Kp.tr (Dw := Dw) hk12 hA hB
  replace hH := Hp.kp (Dw := Dw) hH hk12
  replace h_p := Sl.tr (Dw := Dw) h_p ht13
  replace h_d0 := Sl.tr (Dw := Dw) h_d0 ht13
  replace hK := Tr.trans (Dw := Dw) hK ht13
  replace hB := Nat.le_trans hB ht13.ex.size
  replace hA := ht13.new
  refine V_y (Y_assign rfl) rfl rfl rfl ?_
  refine V_to (fun _ _ => rfl) ?_
  refine C_seq ?_
  obtain ⟨s15, ho14, hm⟩ := Option.bind_eq_some_iff.1 hm
  refine C_cutG (ι := (Nat → Prop)) (fun (A20 : (Nat → Prop)) => [(6, .bool s15)]) (fun (A20 : (Nat → Prop)) => fun w' => Hp B A20 w' (obC b_d [v_d0, v_d1, .map (some m_d0)] 70 :: obPS (obCk 86 portref2_ShiftsIn) 71 v_d1 d.clocks :: obSM (κ := Int) (α := Bool) m_d0 d.away :: L) ∧ Tr Dw B A w9 A20 w') ?_ ?_
  · have hr16 : Tr Dw B A w9 A w9 := Tr.refl (Dw := Dw) hA
    refine C_region_qt (Dw := Dw) 18 Tryd_mixed (by kernel_rfl) ?_
    simp only [List.take, List.drop]
    refine VQ_y (fun w' hw' => Y_move rfl) rfl rfl rfl ?_
    refine VQ_y (fun w' hw' => Y_nilCheck rfl) rfl rfl rfl ?_
    refine VQ_y (fun w' hw' => Y_fieldAddrC (off2 := 2) Tryd.underlying70 rfl Tryd.sizeOf68 (by decide) rfl rfl) rfl rfl rfl ?_
    refine VQ_y (fun w' hw' => Y_load ((World.cell?_of_block (hw'.block _ (World.block_lt_of_cell? _ _ (Hp.cell (j := 2) hH (i := 0) rfl rfl)))).trans (Hp.cell (j := 2) hH (i := 0) rfl rfl)) Tryd.isAgg68 rfl) rfl rfl rfl ?_
    have h22 := El_route_Person_0 h11
    refine VQ_y (fun w' hw' => Y_fieldAddr Tryd.underlying37 rfl Tryd.sizeOf3 (by decide) rfl) rfl rfl rfl ?_
    refine VQ_y (fun w' hw' => Y_load (El.int (El.kp (Dw := Dw) h22 hw')) Tryd.isAgg3 rfl) rfl rfl rfl ?_
    refine VQ_y (fun w' hw' => Y_lookupS (κ := Int) (α := Bool) (z := false) (l := d.away) (Hp.kp (Dw := Dw) hH hw') (i := 2) rfl Tryd.underlying68 Tryd.underlying3 Tryd.zeroValue4 rfl rfl rfl) rfl rfl rfl ?_
    refine VQ_y (fun w' hw' => Y_not rfl) rfl rfl rfl ?_
    refine VQ_y (fun w' hw' => Y_move rfl) rfl rfl rfl ?_
    rcases Bool.eq_false_or_eq_true (!((mapGet d.away p.no).getD false)) with hc23 | hc23
    · rw [if_pos hc23] at ho14
      refine VQ_ge rfl rfl rfl hc23 ?_
      refine VQ_y (fun w' hw' => Y_move rfl) rfl rfl rfl ?_
      refine VQ_ge rfl rfl rfl hc23 ?_
      refine VQ_y (fun w' hw' => Y_nilCheck rfl) rfl rfl rfl ?_
      refine VQ_ge rfl rfl rfl hc23 ?_
      refine VQ_y (fun w' hw' => Y_fieldAddrC (off2 := 1) Tryd.underlying70 rfl Tryd.sizeOf63 (by decide) rfl rfl) rfl rfl rfl ?_
      refine VQ_ge rfl rfl rfl hc23 ?_
      refine VQ_y (fun w' hw' => Y_load ((World.cell?_of_block (hw'.block _ (World.block_lt_of_cell? _ _ (Hp.cell (j := 1) hH (i := 0) rfl rfl)))).trans (Hp.cell (j := 1) hH (i := 0) rfl rfl)) Tryd.isAgg63 rfl) rfl rfl rfl ?_
      refine VQ_ge rfl rfl rfl hc23 ?_
      have h24 := El_route_Person_2 h11
      refine VQ_y (fun w' hw' => Y_fieldAddr Tryd.underlying37 rfl Tryd.sizeOf3 (by decide) rfl) rfl rfl rfl ?_
      refine VQ_ge rfl rfl rfl hc23 ?_
      refine VQ_y (fun w' hw' => Y_load (El.int (El.kp (Dw := Dw) h24 hw')) Tryd.isAgg3 rfl) rfl rfl rfl ?_
      refine VQ_ge rfl rfl rfl hc23 ?_
      obtain ⟨x25, hx25, ho14⟩ := Option.bind_eq_some_iff.1 ho14
      refine VQ_indexAddrPS (f := obCk 86 portref2_ShiftsIn) (e := 71) (v := v_d1) (cs := d.clocks) hH (i := 1) rfl hx25 Tryd.underlying63 Tryd.sizeOf71 rfl rfl rfl ?_
      intro b26 o27 b29 hk30 h28 hH
      replace hH : Hp B A w9 (obCk 86 portref2_ShiftsIn b29 x25 :: obC b_d [v_d0, v_d1, .map (some m_d0)] 70 :: obPX (obCk 86 portref2_ShiftsIn) 71 v_d1 d.clocks (Int.toNat p.calendar) b29 :: obSM (κ := Int) (α := Bool) m_d0 d.away :: L) := hH
      refine VQ_ge rfl rfl rfl hc23 ?_
      refine VQ_y (fun w' hw' => Y_load ((World.cell?_of_block (hw'.block _ (World.block_lt_of_cell? _ _ (h28)))).trans (h28)) Tryd.isAgg71 rfl) rfl rfl rfl ?_
      refine VQ_ge rfl rfl rfl hc23 ?_
      refine VQ_y (fun w' hw' => Y_move rfl) rfl rfl rfl ?_
      refine VQ_tail (fun w31 hk32 => ?_)
      try simp only [List.take, List.drop]
      have ht33 := Kp.tr (Dw := Dw) hk32 hA hB
      replace hH := Hp.kp (Dw := Dw) hH hk32
      replace h11 := El.tr (Dw := Dw) h11 ht33
      replace h22 := El.tr (Dw := Dw) h22 ht33
      replace h24 := El.tr (Dw := Dw) h24 ht33
      replace h_d0 := Sl.tr (Dw := Dw) h_d0 ht33
      replace hK := Tr.trans (Dw := Dw) hK ht33
      replace hr16 := Tr.trans (Dw := Dw) hr16 ht33
      replace hB := Nat.le_trans hB ht33.ex.size
      replace hA := ht33.new
      refine V_ge rfl rfl rfl hc23 ?_
      obtain ⟨x34, hx34, ho14⟩ := Option.bind_eq_some_iff.1 ho14
      refine V_call Tryd.call30 rfl rfl rfl rfl (portref2_Clock_Open_c (Dw := Dw) w31 hB hA x25 b29 m hH hx34) ?_
      rintro _ w35 ⟨A36, rfl, hH37, ht38⟩
      replace h11 := El.tr (Dw := Dw) h11 ht38
      replace h22 := El.tr (Dw := Dw) h22 ht38
      replace h24 := El.tr (Dw := Dw) h24 ht38
      replace h_d0 := Sl.tr (Dw := Dw) h_d0 ht38
      replace hK := Tr.trans (Dw := Dw) hK ht38
      replace hr16 := Tr.trans (Dw := Dw) hr16 ht38
      replace hB := Nat.le_trans hB ht38.ex.size
      replace hA := ht38.new
      replace hH : Hp B A36 w35 (obCk 86 portref2_ShiftsIn b29 x25 :: obC b_d [v_d0, v_d1, .map (some m_d0)] 70 :: obPX (obCk 86 portref2_ShiftsIn) 71 v_d1 d.clocks (Int.toNat p.calendar) b29 :: obSM (κ := Int) (α := Bool) m_d0 d.away :: L) := hH37
      replace hH : Hp B A36 w35 (obC b_d [v_d0, v_d1, .map (some m_d0)] 70 :: obPS (obCk 86 portref2_ShiftsIn) 71 v_d1 d.clocks :: obSM (κ := Int) (α := Bool) m_d0 d.away :: L) := Hp.psBack hH (i := 1) rfl hk30
      refine V_y (Y_pick_te rfl hc23 rfl) rfl rfl rfl ?_
      refine V_y (Y_assign rfl) rfl rfl rfl ?_
      obtain rfl := Option.some.inj ho14
      refine V_end (fun a ha39 => ?_)
      exact ⟨A36, ha39.sub ⟨rfl, trivial⟩, ⟨hH, hr16⟩⟩
    · rw [if_neg (nt hc23)] at ho14
      refine VQ_gn rfl rfl rfl hc23 rfl rfl rfl ?_
      refine VQ_gn rfl rfl rfl hc23 rfl rfl rfl ?_
      refine VQ_gn rfl rfl rfl hc23 rfl rfl rfl ?_
      refine VQ_gn rfl rfl rfl hc23 rfl rfl rfl ?_
      refine VQ_gn rfl rfl rfl hc23 rfl rfl rfl ?_
      refine VQ_gn rfl rfl rfl hc23 rfl rfl rfl ?_
      refine VQ_gn rfl rfl rfl hc23 rfl rfl rfl ?_
      refine VQ_gn rfl rfl rfl hc23 rfl rfl rfl ?_
      refine VQ_gn rfl rfl rfl hc23 rfl rfl rfl ?_
      refine VQ_tail (fun w40 hk41 => ?_)
      try simp only [List.take, List.drop]
      have ht42 := Kp.tr (Dw := Dw) hk41 hA hB
      replace hH := Hp.kp (Dw := Dw) hH hk41
      replace h11 := El.tr (Dw := Dw) h11 ht42
      replace h22 := El.tr (Dw := Dw) h22 ht42
      replace h_d0 := Sl.tr (Dw := Dw) h_d0 ht42
      replace hK := Tr.trans (Dw := Dw) hK ht42
      replace hr16 := Tr.trans (Dw := Dw) hr16 ht42
      replace hB := Nat.le_trans hB ht42.ex.size
      replace hA := ht42.new
      refine V_gn rfl rfl rfl hc23 rfl rfl rfl ?_
      refine V_y (Y_pick_fe rfl hc23 rfl) rfl rfl rfl ?_
      refine V_y (Y_assign rfl) rfl rfl rfl ?_
      obtain rfl := Option.some.inj ho14
      refine V_end (fun a ha43 => ?_)
      exact ⟨A, ha43.sub ⟨rfl, trivial⟩, ⟨hH, hr16⟩⟩
  rintro A20 w17 ⟨hH21, hk18⟩ a ha19
  replace h_d0 := Sl.tr (Dw := Dw) h_d0 hk18
  replace hK := Tr.trans (Dw := Dw) hK hk18
  replace hB := Nat.le_trans hB hk18.ex.size
  replace hA := hk18.new
  replace hH : Hp B A20 w17 (obC b_d [v_d0, v_d1, .map (some m_d0)] 70 :: obPS (obCk 86 portref2_ShiftsIn) 71 v_d1 d.clocks :: obSM (κ := Int) (α := Bool) m_d0 d.away :: L) := hH21
  refine C_at (n := ⟨27, [], none⟩) (fun _ _ => rfl) ?_ ha19
  obtain rfl := Option.some.inj hm
  refine C_ret ?_
  try simp only [↓inBlock_ret, ↓then_ret]
  exact retQ rfl (Res.one Tryd.results16 rfl) ⟨A20, rfl, hH, hK⟩

set_option maxRecDepth 4000 in
set_option maxHeartbeats 4000000 in
theorem portref2_OnDutyOf_c (w : World) {A : Nat → Prop} (hA : ∀ b, w.heap.size ≤ b → A b) (people : (List route_Person)) (v_people : Value) (h_people : Sl A w v_people people) (cals : (List cal_Calendar)) (v_cals : Value) (h_cals : Sl A w v_cals cals) (m : Int) {r : ((List Int) × Int)} (hm : portref2_OnDutyOf people cals m = some r) : Ret Tryd.prog 5 #[v_people, v_cals, .int .i64 m] w fun v w' => ∃ s0, v = .tuple #[s0, .int .i64 r.2] ∧ Ownd 3 w w' s0 r.1 ∧ Kp False w w' := by
  unfold portref2_OnDutyOf at hm
  refine enter Tryd.func5 rfl Tryd.ntmps5 rfl ?_
  have hA0 := hA
  have hB := Nat.le_refl w.heap.size
  have hK : Tr False w.heap.size A w A w := Tr.refl (Dw := False) hA
  have hH : Hp w.heap.size A w [] := Hp.nil
  refine C_seq ?_
  refine C_region ?_
  refine V_y (Y_assign rfl) rfl rfl rfl ?_
  refine V_y (Y_assign rfl) rfl rfl rfl ?_
  refine V_to (fun _ _ => rfl) ?_
  refine C_seq ?_
  refine C_seq ?_
  refine C_region ?_
  refine V_y (Y_move rfl) rfl rfl rfl ?_
  refine V_y (Y_move rfl) rfl rfl rfl ?_
  obtain ⟨x5, hx5, hm⟩ := Option.bind_eq_some_iff.1 hm
  refine V_call Tryd.call13 rfl rfl rfl rfl (portref2_dutyFault_c w hA people v_people h_people cals v_cals h_cals hx5) ?_
  rintro _ w6 ⟨rfl, hk7⟩
  have ht8 := Kp.tr (Dw := False) hk7 hA hB
  replace hH := Hp.kp (Dw := False) hH hk7
  replace h_people := Sl.tr (Dw := False) h_people ht8
  replace h_cals := Sl.tr (Dw := False) h_cals ht8
  replace hK := Tr.trans (Dw := False) hK ht8
  replace hB := Nat.le_trans hB ht8.ex.size
  replace hA := ht8.new
  refine V_y (Y_assign rfl) rfl rfl rfl ?_
  refine V_to (fun _ _ => rfl) ?_
  refine C_seq ?_
  refine C_region ?_
  refine V_y (Y_move rfl) rfl rfl rfl ?_
  refine V_y (Y_neq rfl rfl) rfl rfl rfl ?_
  refine V_to (fun _ _ => rfl) ?_
  refine C_cond rfl (fun hc9 => ?_) (fun hc9 => ?_)
  · rw [if_pos hc9] at hm
    refine C_seq ?_
    refine C_region ?_
    refine V_y (Y_move rfl) rfl rfl rfl ?_
    refine V_y (Y_assign rfl) rfl rfl rfl ?_
    refine V_y (Y_assign rfl) rfl rfl rfl ?_
    refine V_to (fun _ _ => rfl) ?_
    obtain rfl := Option.some.inj hm
    replace hH : Hp w.heap.size A w6 (obS (α := Int) 3 (.slice none 0 0) ([] : (List Int)) :: []) := Hp.addNil (α := Int) (e := 3) hH
    refine C_ret ?_
    try simp only [↓inBlock_ret, ↓then_ret]
    exact retQ rfl (Res.two Tryd.results5 rfl rfl) ⟨.slice none 0 0, rfl, (Hp.ownd hH (i := 0) rfl), hK.kp⟩
  · rw [if_neg (nt hc9)] at hm
    refine C_skip_to (fun _ _ => rfl) ?_
    refine C_seq ?_
    refine C_seq ?_
    refine C_region ?_
    refine V_y (Y_move rfl) rfl rfl rfl ?_
    refine V_call Tryd.call14 rfl rfl rfl rfl (portref2_IsMoment_c w6 m) ?_
    rintro _ _ ⟨rfl, rfl⟩
    refine V_y (Y_not rfl) rfl rfl rfl ?_
    refine V_to (fun _ _ => rfl) ?_
    refine C_cond rfl (fun hc10 => ?_) (fun hc10 => ?_)
    · rw [if_pos hc10] at hm
      refine C_seq ?_
      refine C_region ?_
      refine V_y (Y_assign rfl) rfl rfl rfl ?_
      refine V_y (Y_assign rfl) rfl rfl rfl ?_
      refine V_to (fun _ _ => rfl) ?_
      obtain rfl := Option.some.inj hm
      replace hH : Hp w.heap.size A w6 (obS (α := Int) 3 (.slice none 0 0) ([] : (List Int)) :: []) := Hp.addNil (α := Int) (e := 3) hH
      refine C_ret ?_
      try simp only [↓inBlock_ret, ↓then_ret]
      exact retQ rfl (Res.two Tryd.results5 rfl rfl) ⟨.slice none 0 0, rfl, (Hp.ownd hH (i := 0) rfl), hK.kp⟩
    · rw [if_neg (nt hc10)] at hm
      refine C_skip_to (fun _ _ => rfl) ?_
      refine C_seq ?_
      refine C_region ?_
      refine V_y (Y_move rfl) rfl rfl rfl ?_
      refine V_y (Y_move rfl) rfl rfl rfl ?_
      obtain ⟨x11, hx11, hm⟩ := Option.bind_eq_some_iff.1 hm
      refine V_call Tryd.call15 rfl rfl rfl rfl (portref2_newDuty_c (Dw := False) w6 hB hA people v_people h_people cals v_cals h_cals hH hx11) ?_
      rintro _ w18 ⟨b12, v13, v15, m17, A19, rfl, h14, hH20, ht21⟩
      replace h_people := Sl.tr (Dw := False) h_people ht21
      replace h_cals := Sl.tr (Dw := False) h_cals ht21
      replace hK := Tr.trans (Dw := False) hK ht21
      replace hB := Nat.le_trans hB ht21.ex.size
      replace hA := ht21.new
      replace hH : Hp w.heap.size A19 w18 (obC b12 [v13, v15, .map (some m17)] 70 :: obPS (obCk 86 portref2_ShiftsIn) 71 v15 x11.clocks :: obSM (κ := Int) (α := Bool) m17 x11.away :: []) := hH20
      refine V_y (Y_assign rfl) rfl rfl rfl ?_
      refine V_to (fun _ _ => rfl) ?_
      refine C_seq ?_
      refine C_region ?_
      refine V_y (Y_assign rfl) rfl rfl rfl ?_
      refine V_to (fun _ _ => rfl) ?_
      refine C_seq ?_
      refine C_seq ?_
      refine C_region ?_
      refine V_y (Y_move rfl) rfl rfl rfl ?_
      refine V_y (Y_lenSl h_people rfl Tryd.underlying22 rfl) rfl rfl rfl ?_
      refine V_y (Y_move rfl) rfl rfl rfl ?_
      refine V_to (fun _ _ => rfl) ?_
      replace hH : Hp w.heap.size A19 w18 (obS (α := Int) 3 (.slice none 0 0) ([] : (List Int)) :: obC b12 [v13, v15, .map (some m17)] 70 :: obPS (obCk 86 portref2_ShiftsIn) 71 v15 x11.clocks :: obSM (κ := Int) (α := Bool) m17 x11.away :: []) := Hp.addNil (α := Int) (e := 3) hH
      have hn46 := Sl.le h_people
      obtain ⟨o22, ho22, hm⟩ := Option.bind_eq_some_iff.1 hm
      refine C_cutG (ι := ((List Int) × Value × (Nat → Prop))) (fun ⟨s23, v29, A31⟩ => [(10, v29)]) (fun ⟨s23, v29, A31⟩ => fun w' => o22 = .fin s23 ∧ Hp w.heap.size A31 w' (obS (α := Int) 3 v29 s23 :: obC b12 [v13, v15, .map (some m17)] 70 :: obPS (obCk 86 portref2_ShiftsIn) 71 v15 x11.clocks :: obSM (κ := Int) (α := Bool) m17 x11.away :: []) ∧ Tr False w.heap.size A19 w18 A31 w') ?_ ?_
      · refine C_block ?_
        refine C_range ho22 (fun k25 s33 a w' => ∃ i : (Value × (Nat → Prop)), Has ⟨42, [], none⟩ a ([(2, .int .i64 m), (9, .pointer (some ⟨b12, 0, none⟩)), (10, i.1), (25, v_people), (26, .int .i64 (people.length : Int)), (27, .int .i64 (k25 : Int))]) ∧ Hp w.heap.size i.2 w' (obS (α := Int) 3 i.1 s33 :: obC b12 [v13, v15, .map (some m17)] 70 :: obPS (obCk 86 portref2_ShiftsIn) 71 v15 x11.clocks :: obSM (κ := Int) (α := Bool) m17 x11.away :: []) ∧ Tr False w.heap.size A19 w18 i.2 w') (fun a ha => ⟨(.slice none 0 0, A19), ha.sub ⟨rfl, rfl, rfl, rfl, rfl, rfl, trivial⟩, ⟨hH, Tr.refl (Dw := False) hA⟩⟩) ?_
        rintro K k25 s33 a w34 ⟨⟨v35, A37⟩, ha112, hH38, hr24⟩ hle42 K45 h44
        refine C_of ?_ ha112
        replace h_people := Sl.tr (Dw := False) h_people hr24
        replace h14 := Sl.tr (Dw := False) h14 hr24
        replace hK := Tr.trans (Dw := False) hK hr24
        replace hB := Nat.le_trans hB hr24.ex.size
        replace hA := hr24.new
        replace hH : Hp w.heap.size A37 w34 (obS (α := Int) 3 v35 s33 :: obC b12 [v13, v15, .map (some m17)] 70 :: obPS (obCk 86 portref2_ShiftsIn) 71 v15 x11.clocks :: obSM (κ := Int) (α := Bool) m17 x11.away :: []) := hH38
        refine C_seq (C_region (V_y (Y_lss rfl rfl) rfl rfl rfl (V_to (fun _ _ => rfl) ?_)))
        refine C_seq ?_
        refine C_cond rfl (fun hc47 => ?_) (fun hc47 => ?_)
        · have hlt43 := lt_of_dec hc47
          obtain ⟨x39, h40, h41⟩ := K45 hlt43
          refine C_skip_to (fun _ _ => rfl) ?_
          refine C_seq ?_
          obtain ⟨s49, ho48, h40⟩ := Option.bind_eq_some_iff.1 h40
          refine C_cutG (ι := (Value × (Nat → Prop))) (fun ⟨v51, A56⟩ => [(2, .int .i64 m), (9, .pointer (some ⟨b12, 0, none⟩)), (10, v51), (25, v_people), (26, .int .i64 (people.length : Int)), (27, .int .i64 (k25 : Int))]) (fun ⟨v51, A56⟩ => fun w' => Hp w.heap.size A56 w' (obS (α := Int) 3 v51 s49 :: obC b12 [v13, v15, .map (some m17)] 70 :: obPS (obCk 86 portref2_ShiftsIn) 71 v15 x11.clocks :: obSM (κ := Int) (α := Bool) m17 x11.away :: []) ∧ Tr False w.heap.size A37 w34 A56 w') ?_ ?_
          · have hr50 : Tr False w.heap.size A37 w34 A37 w34 := Tr.refl (Dw := False) hA
            refine C_block ?_
            refine C_seq ?_
            refine C_region ?_
            refine V_y (Y_move rfl) rfl rfl rfl ?_
            obtain ⟨x58, hx58, ho48⟩ := Option.bind_eq_some_iff.1 ho48
            refine V_indexAddr h_people hx58 Tryd.underlying22 Tryd.sizeOf37 rfl rfl rfl ?_
            intro b59 o60 h61
            obtain ⟨v62, h64, h63⟩ := El_route_Person h61
            refine V_y (Y_loadA h64 Tryd.isAgg37 Tryd.sizeOf37 rfl) rfl rfl rfl ?_
            refine V_alloc Tryd.zeroValue37 rfl ?_
            intro b65 w66 h67
            refine V_y (Y_assign rfl) rfl rfl rfl ?_
            have h72 : (v62).oneCell' = true := by obtain ⟨_, _, e, _⟩ := Sl.form h63; rw [e]; rfl
            refine V_storeNew h67 Tryd.sizeOf37 rfl rfl rfl rfl (by exact (List.forall_mem_cons.2 ⟨rfl, (List.forall_mem_cons.2 ⟨rfl, (List.forall_mem_cons.2 ⟨rfl, (List.forall_mem_cons.2 ⟨h72, (fun _ h => nomatch h)⟩)⟩)⟩)⟩)) ?_
            intro w68 h69
            have hk74 := h69.kp (Dw := False)
            have h73 : El (α := route_Person) A37 w68 b65 0 x58 := h69.el hA ⟨[.int .i64 x58.no], _, rfl, rfl, ⟨[.int .i64 x58.capacity], _, rfl, rfl, ⟨[.int .i64 x58.calendar], _, rfl, rfl, ⟨_, rfl, h63⟩⟩⟩⟩
            have ht75 := Kp.tr (Dw := False) hk74 hA hB
            replace hH := Hp.kp (Dw := False) hH hk74
            replace h_people := Sl.tr (Dw := False) h_people ht75
            replace h61 := El.tr (Dw := False) h61 ht75
            replace h63 := Sl.tr (Dw := False) h63 ht75
            replace h14 := Sl.tr (Dw := False) h14 ht75
            replace hK := Tr.trans (Dw := False) hK ht75
            replace hr24 := Tr.trans (Dw := False) hr24 ht75
            replace hr50 := Tr.trans (Dw := False) hr50 ht75
            replace hB := Nat.le_trans hB ht75.ex.size
            replace hA := ht75.new
            refine V_to (fun _ _ => rfl) ?_
            refine C_seq ?_
            refine C_region ?_
            refine V_y (Y_move rfl) rfl rfl rfl ?_
            obtain ⟨v76, h78, h77⟩ := El_route_Person h73
            refine V_y (Y_loadA h78 Tryd.isAgg37 Tryd.sizeOf37 rfl) rfl rfl rfl ?_
            refine V_y (Y_move rfl) rfl rfl rfl ?_
            replace hH : Hp w.heap.size A37 w68 (obSM (κ := Int) (α := Bool) m17 x11.away :: obS (α := Int) 3 v35 s33 :: obC b12 [v13, v15, .map (some m17)] 70 :: obPS (obCk 86 portref2_ShiftsIn) 71 v15 x11.clocks :: []) := Hp.front hH (i := 3) rfl
            replace hH : Hp w.heap.size A37 w68 (obPS (obCk 86 portref2_ShiftsIn) 71 v15 x11.clocks :: obSM (κ := Int) (α := Bool) m17 x11.away :: obS (α := Int) 3 v35 s33 :: obC b12 [v13, v15, .map (some m17)] 70 :: []) := Hp.front hH (i := 3) rfl
            replace hH : Hp w.heap.size A37 w68 (obC b12 [v13, v15, .map (some m17)] 70 :: obPS (obCk 86 portref2_ShiftsIn) 71 v15 x11.clocks :: obSM (κ := Int) (α := Bool) m17 x11.away :: obS (α := Int) 3 v35 s33 :: []) := Hp.front hH (i := 3) rfl
            obtain ⟨x79, hx79, ho48⟩ := Option.bind_eq_some_iff.1 ho48
            refine V_call Tryd.call16 rfl rfl rfl rfl (portref2_duty_on_c (Dw := False) w68 hB hA x11 b12 v13 h14 v15 m17 x58 v76 h77 m hH hx79) ?_
            rintro _ w80 ⟨A81, rfl, hH82, ht83⟩
            replace h_people := Sl.tr (Dw := False) h_people ht83
            replace h73 := El.tr (Dw := False) h73 ht83
            replace h77 := Sl.tr (Dw := False) h77 ht83
            replace h14 := Sl.tr (Dw := False) h14 ht83
            replace hK := Tr.trans (Dw := False) hK ht83
            replace hr24 := Tr.trans (Dw := False) hr24 ht83
            replace hr50 := Tr.trans (Dw := False) hr50 ht83
            replace hB := Nat.le_trans hB ht83.ex.size
            replace hA := ht83.new
            replace hH : Hp w.heap.size A81 w80 (obC b12 [v13, v15, .map (some m17)] 70 :: obPS (obCk 86 portref2_ShiftsIn) 71 v15 x11.clocks :: obSM (κ := Int) (α := Bool) m17 x11.away :: obS (α := Int) 3 v35 s33 :: []) := hH82
            refine V_to (fun _ _ => rfl) ?_
            obtain ⟨s85, ho84, ho48⟩ := Option.bind_eq_some_iff.1 ho48
            refine C_cutG (ι := (Value × (Nat → Prop))) (fun ⟨v87, A92⟩ => [(2, .int .i64 m), (9, .pointer (some ⟨b12, 0, none⟩)), (10, v87), (25, v_people), (26, .int .i64 (people.length : Int)), (27, .int .i64 (k25 : Int))]) (fun ⟨v87, A92⟩ => fun w' => Hp w.heap.size A92 w' (obC b12 [v13, v15, .map (some m17)] 70 :: obPS (obCk 86 portref2_ShiftsIn) 71 v15 x11.clocks :: obSM (κ := Int) (α := Bool) m17 x11.away :: obS (α := Int) 3 v87 s85 :: []) ∧ Tr False w.heap.size A81 w80 A92 w') ?_ ?_
            · have hr86 : Tr False w.heap.size A81 w80 A81 w80 := Tr.refl (Dw := False) hA
              refine C_cond rfl (fun hc94 => ?_) (fun hc94 => ?_)
              · rw [if_pos hc94] at ho84
                refine C_region ?_
                refine V_y (Y_move rfl) rfl rfl rfl ?_
                refine V_y (Y_move rfl) rfl rfl rfl ?_
                refine V_buildSlice (Dw := False) (cells := #[.int .i64 (k25 : Int)]) (l := ([(k25 : Int)] : List Int)) (len := 1) Tryd.underlying24 Tryd.sizeOf3 Tryd.zeroValue3 rfl (by generalize ((k25 : Int) : Int) = z99; kernel_rfl) (show (1 * 1 : Nat) ≠ 0 by decide) (show (1 * 1 : Nat) ≤ 2 ^ 24 by decide) hA ⟨[.int .i64 (k25 : Int)], _, rfl, rfl, rfl⟩ rfl rfl ?_
                intro v95 w96 hk98 h97
                have ht100 := Kp.tr (Dw := False) hk98 hA hB
                replace hH := Hp.kp (Dw := False) hH hk98
                replace h_people := Sl.tr (Dw := False) h_people ht100
                replace h14 := Sl.tr (Dw := False) h14 ht100
                replace hK := Tr.trans (Dw := False) hK ht100
                replace hr24 := Tr.trans (Dw := False) hr24 ht100
                replace hr50 := Tr.trans (Dw := False) hr50 ht100
                replace hr86 := Tr.trans (Dw := False) hr86 ht100
                replace hB := Nat.le_trans hB ht100.ex.size
                replace hA := ht100.new
                obtain ⟨x101, hx101, ho84⟩ := Option.bind_eq_some_iff.1 ho84
                refine V_appendH (Dw := False) (e := 3) (v := v35) (l := s33) (ti := Tryd.t3) (bytes := 8) (lim := 17592186044416) hH (i := 3) rfl h97 hx101 Tryd.underlying24 Tryd_info3 rfl rfl rfl rfl (by decide) (by decide) (by decide) hB hA rfl rfl rfl ?_
                intro v102 w103 A104 hH105 ht106
                replace h_people := Sl.tr (Dw := False) h_people ht106
                replace h97 := Sl.tr (Dw := False) h97 ht106
                replace h14 := Sl.tr (Dw := False) h14 ht106
                replace hK := Tr.trans (Dw := False) hK ht106
                replace hr24 := Tr.trans (Dw := False) hr24 ht106
                replace hr50 := Tr.trans (Dw := False) hr50 ht106
                replace hr86 := Tr.trans (Dw := False) hr86 ht106
                replace hB := Nat.le_trans hB ht106.ex.size
                replace hA := ht106.new
                replace hH : Hp w.heap.size A104 w103 (obC b12 [v13, v15, .map (some m17)] 70 :: obPS (obCk 86 portref2_ShiftsIn) 71 v15 x11.clocks :: obSM (κ := Int) (α := Bool) m17 x11.away :: obS (α := Int) 3 v102 x101 :: []) := hH105
                refine V_y (Y_assign rfl) rfl rfl rfl ?_
                obtain rfl := Option.some.inj ho84
                refine V_end (fun a ha107 => ?_)
                exact ⟨(v102, A104), ha107.sub ⟨rfl, rfl, rfl, rfl, rfl, rfl, trivial⟩, ⟨hH, hr86⟩⟩
              · rw [if_neg (nt hc94)] at ho84
                obtain rfl := Option.some.inj ho84
                refine C_skip (fun a ha108 => ?_)
                exact ⟨(v35, A81), ha108.sub ⟨rfl, rfl, rfl, rfl, rfl, rfl, trivial⟩, ⟨hH, hr86⟩⟩
            rintro ⟨v87, A92⟩ w89 ⟨hH93, hk90⟩ a ha91
            replace h_people := Sl.tr (Dw := False) h_people hk90
            replace h14 := Sl.tr (Dw := False) h14 hk90
            replace hK := Tr.trans (Dw := False) hK hk90
            replace hr24 := Tr.trans (Dw := False) hr24 hk90
            replace hr50 := Tr.trans (Dw := False) hr50 hk90
            replace hB := Nat.le_trans hB hk90.ex.size
            replace hA := hk90.new
            replace hH : Hp w.heap.size A92 w89 (obC b12 [v13, v15, .map (some m17)] 70 :: obPS (obCk 86 portref2_ShiftsIn) 71 v15 x11.clocks :: obSM (κ := Int) (α := Bool) m17 x11.away :: obS (α := Int) 3 v87 s85 :: []) := hH93
            obtain rfl := Option.some.inj ho48
            replace hH : Hp w.heap.size A92 w89 (obSM (κ := Int) (α := Bool) m17 x11.away :: obC b12 [v13, v15, .map (some m17)] 70 :: obPS (obCk 86 portref2_ShiftsIn) 71 v15 x11.clocks :: obS (α := Int) 3 v87 s85 :: []) := Hp.front hH (i := 2) rfl
            replace hH : Hp w.heap.size A92 w89 (obPS (obCk 86 portref2_ShiftsIn) 71 v15 x11.clocks :: obSM (κ := Int) (α := Bool) m17 x11.away :: obC b12 [v13, v15, .map (some m17)] 70 :: obS (α := Int) 3 v87 s85 :: []) := Hp.front hH (i := 2) rfl
            replace hH : Hp w.heap.size A92 w89 (obC b12 [v13, v15, .map (some m17)] 70 :: obPS (obCk 86 portref2_ShiftsIn) 71 v15 x11.clocks :: obSM (κ := Int) (α := Bool) m17 x11.away :: obS (α := Int) 3 v87 s85 :: []) := Hp.front hH (i := 2) rfl
            replace hH : Hp w.heap.size A92 w89 (obS (α := Int) 3 v87 s85 :: obC b12 [v13, v15, .map (some m17)] 70 :: obPS (obCk 86 portref2_ShiftsIn) 71 v15 x11.clocks :: obSM (κ := Int) (α := Bool) m17 x11.away :: []) := Hp.front hH (i := 3) rfl
            exact ⟨(v87, A92), ha91.sub ⟨rfl, rfl, rfl, rfl, rfl, rfl, trivial⟩, ⟨hH, hr50⟩⟩
          rintro ⟨v51, A56⟩ w53 ⟨hH57, hk54⟩ a ha55
          replace h_people := Sl.tr (Dw := False) h_people hk54
          replace h14 := Sl.tr (Dw := False) h14 hk54
          replace hK := Tr.trans (Dw := False) hK hk54
          replace hr24 := Tr.trans (Dw := False) hr24 hk54
          replace hB := Nat.le_trans hB hk54.ex.size
          replace hA := hk54.new
          replace hH : Hp w.heap.size A56 w53 (obS (α := Int) 3 v51 s49 :: obC b12 [v13, v15, .map (some m17)] 70 :: obPS (obCk 86 portref2_ShiftsIn) 71 v15 x11.clocks :: obSM (κ := Int) (α := Bool) m17 x11.away :: []) := hH57
          refine C_at (n := ⟨42, [], none⟩) (fun _ _ => rfl) ?_ ha55
          refine C_region ?_
          refine V_y (Y_addI rfl rfl) rfl rfl rfl ?_
          refine V_y (Y_move rfl) rfl rfl rfl ?_
          obtain rfl := Option.some.inj h40
          refine V_end (fun a ha110 => ?_)
          exact ⟨s49, hlt43, h41, ⟨(v51, A56), ha110.sub ⟨rfl, rfl, rfl, rfl, rfl, (congrArg (fun z => some (Value.int .i64 z)) (w64_succ hlt43 hn46)), trivial⟩, ⟨hH, hr24⟩⟩⟩
        · refine C_exit (fun a ha111 => ?_)
          exact ⟨(s33, v35, A37), ha111.sub ⟨rfl, trivial⟩, ⟨(h44 (eq_of_dec hle42 hc47)).symm, hH, hr24⟩⟩
      rintro ⟨s23, v29, A31⟩ w26 ⟨rfl, hH32, hk27⟩ a ha28
      rw [Lp.andThen_fin] at hm
      replace h14 := Sl.tr (Dw := False) h14 hk27
      replace hK := Tr.trans (Dw := False) hK hk27
      replace hB := Nat.le_trans hB hk27.ex.size
      replace hA := hk27.new
      replace hH : Hp w.heap.size A31 w26 (obS (α := Int) 3 v29 s23 :: obC b12 [v13, v15, .map (some m17)] 70 :: obPS (obCk 86 portref2_ShiftsIn) 71 v15 x11.clocks :: obSM (κ := Int) (α := Bool) m17 x11.away :: []) := hH32
      refine C_at (n := ⟨42, [], none⟩) (fun _ _ => rfl) ?_ ha28
      refine C_seq ?_
      refine C_region ?_
      refine V_y (Y_move rfl) rfl rfl rfl ?_
      refine V_y (Y_assign rfl) rfl rfl rfl ?_
      refine V_y (Y_assign rfl) rfl rfl rfl ?_
      refine V_to (fun _ _ => rfl) ?_
      obtain rfl := Option.some.inj hm
      refine C_ret ?_
      try simp only [↓inBlock_ret, ↓then_ret]
      exact retQ rfl (Res.two Tryd.results5 rfl rfl) ⟨v29, rfl, (Hp.ownd hH (i := 0) rfl), hK.kp⟩

set_option maxRecDepth 4000 in
set_option maxHeartbeats 4000000 in
theorem route_NextChange_1_c (w : World) {A : Nat → Prop} (hA : ∀ b, w.heap.size ≤ b → A b) (p : route_Person) (v_p : Value) (h_p : Sl A w v_p p.skills) (p1 : Int) (b_p1 : Nat) (h_p1 : El A w b_p1 0 p1) {r : Bool} (hm : route_NextChange_1 p p1 = some r) : Ret Tryd.prog 18 #[.agg #[.int .i64 p.no, .int .i64 p.capacity, .int .i64 p.calendar, v_p], .pointer (some ⟨b_p1, 0, none⟩)] w fun v w' => v = .bool r ∧ Kp Dw w w' := by
  unfold route_NextChange_1 at hm
  refine enter Tryd.func18 rfl Tryd.ntmps18 rfl ?_
  have hA0 := hA
  have hB := Nat.le_refl w.heap.size
  have hK : Tr Dw w.heap.size A w A w := Tr.refl (Dw := Dw) hA
  have hH : Hp w.heap.size A w [] := Hp.nil
  refine C_seq ?_
  refine C_region ?_
  refine V_box rfl rfl ?_
  intro b3 w4 h5
  have hk7 := h5.kp (Dw := Dw)
  have h6 : El (α := route_Person) A w4 b3 0 p := h5.el hA ⟨[.int .i64 p.no], _, rfl, rfl, ⟨[.int .i64 p.capacity], _, rfl, rfl, ⟨[.int .i64 p.calendar], _, rfl, rfl, ⟨_, rfl, h_p⟩⟩⟩⟩
  have ht8 := Kp.tr (Dw := Dw) hk7 hA hB
  replace hH := Hp.kp (Dw := Dw) hH hk7
  replace h_p := Sl.tr (Dw := Dw) h_p ht8
  replace h_p1 := El.tr (Dw := Dw) h_p1 ht8
  replace hK := Tr.trans (Dw := Dw) hK ht8
  replace hB := Nat.le_trans hB ht8.ex.size
  replace hA := ht8.new
  refine V_y (Y_assign rfl) rfl rfl rfl ?_
  refine V_to (fun _ _ => rfl) ?_
  refine C_seq ?_
  refine C_region ?_
  have h9 := El_route_Person_2 h6
  refine V_y (Y_fieldAddr Tryd.underlying37 rfl Tryd.sizeOf3 (by decide) rfl) rfl rfl rfl ?_
  refine V_y (Y_load (El.int h9) Tryd.isAgg3 rfl) rfl rfl rfl ?_
  refine V_y (Y_load (El.int h_p1) Tryd.isAgg3 rfl) rfl rfl rfl ?_
  refine V_y (Y_eql rfl rfl) rfl rfl rfl ?_
  refine V_y (Y_assign rfl) rfl rfl rfl ?_
  refine V_to (fun _ _ => rfl) ?_
  obtain rfl := Option.some.inj hm
  refine C_ret ?_
  try simp only [↓inBlock_ret, ↓then_ret]
  exact retQ rfl (Res.one Tryd.results18 rfl) ⟨rfl, hK.kp⟩

set_option maxRecDepth 4000 in
set_option maxHeartbeats 4000000 in
theorem cal_NextClosed_c (w : World) {A : Nat → Prop} (hA : ∀ b, w.heap.size ≤ b → A b) (c : cal_Calendar) (v_c0 : Value) (h_c0 : Sl A w v_c0 c.zone.changes) (v_c1 : Value) (h_c1 : Sl A w v_c1 c.week) (v_c2 : Value) (h_c2 : Sl A w v_c2 c.specials) (m : Int) {r : (Int × Int)} (hm : cal_NextClosed c m = some r) : Ret Tryd.prog 32 #[.agg #[.int .i64 c.zone.offset, v_c0, v_c1, v_c2], .int .i64 m] w fun v w' => v = .tuple #[.int .i64 r.1, .int .i64 r.2] ∧ Kp Dw w w' := by
  unfold cal_NextClosed at hm
  refine enterM Tryd.func32 rfl Tryd.ntmps32 rfl ?_
  have hA0 := hA
  have hB := Nat.le_refl w.heap.size
  have hK : Tr Dw w.heap.size A w A w := Tr.refl (Dw := Dw) hA
  have hH : Hp w.heap.size A w [] := Hp.nil
  refine C_seq ?_
  refine C_region ?_
  refine V_box rfl rfl ?_
  intro b7 w9 h10
  have hk12 := h10.kp (Dw := Dw)
  have h11 : El (α := cal_Calendar) A w9 b7 0 c := h10.el hA ⟨[.int .i64 c.zone.offset, v_c0], _, rfl, ⟨[.int .i64 c.zone.offset], _, rfl, rfl, ⟨_, rfl, h_c0⟩⟩, ⟨[v_c1], _, rfl, ⟨_, rfl, h_c1⟩, ⟨_, rfl, h_c2⟩⟩⟩
  have ht13 := Kp.tr (Dw := Dw) hk12 hA hB
  replace hH := Hp.kp (Dw := Dw) hH hk12
  replace h_c0 := Sl.tr (Dw := Dw) h_c0 ht13
  replace h_c1 := Sl.tr (Dw := Dw) h_c1 ht13
  replace h_c2 := Sl.tr (Dw := Dw) h_c2 ht13
  replace hK := Tr.trans (Dw := Dw) hK ht13
  replace hB := Nat.le_trans hB ht13.ex.size
  replace hA := ht13.new
  refine V_boxH (Dw := Dw) (B := w.heap.size) hH rfl hB hA rfl ?_
  intro b14 w15 A16 hH17 ht18
  replace h_c0 := Sl.tr (Dw := Dw) h_c0 ht18
  replace h_c1 := Sl.tr (Dw := Dw) h_c1 ht18
  replace h_c2 := Sl.tr (Dw := Dw) h_c2 ht18
  replace h11 := El.tr (Dw := Dw) h11 ht18
  replace hK := Tr.trans (Dw := Dw) hK ht18
  replace hB := Nat.le_trans hB ht18.ex.size
  replace hA := ht18.new
  replace hH : Hp w.heap.size A16 w15 (obC b14 [.int .i64 m] 3 :: []) := hH17
  refine V_y (Y_assign rfl) rfl rfl rfl ?_
  refine V_y (Y_assign rfl) rfl rfl rfl ?_
  refine V_to (fun _ _ => rfl) ?_
  refine C_seq ?_
  refine C_seq ?_
  refine C_region_qt (Dw := Dw) 4 Tryd_mixed (by kernel_rfl) ?_
  simp only [List.take, List.drop]
  obtain ⟨v19, v21, v23, h25, h20, h22, h24⟩ := El_cal_Calendar h11
  refine VQ_y (fun w' hw' => Y_loadA (At.kp (Dw := Dw) h25 hw' h11.2.1) Tryd.isAgg46 Tryd.sizeOf46 rfl) rfl rfl rfl ?_
  obtain ⟨x26, hx26, hm⟩ := Option.bind_eq_some_iff.1 hm
  refine VQ_call (.int .i64 x26) Tryd.call22 rfl rfl rfl rfl (fun w' hw' => (cal_CheckCalendar_c (Dw := Dw) w' (fun b hb => hA b (Nat.le_trans hw'.size hb)) c v19 (Sl.kp (Dw := Dw) h20 hw') v21 (Sl.kp (Dw := Dw) h22 hw') v23 (Sl.kp (Dw := Dw) h24 hw') hx26).mono (fun _ _ h => ⟨h.1, Kp.trans (Dw := Dw) hw' h.2⟩)) ?_
  refine VQ_y (fun w' hw' => Y_load ((World.cell?_of_block (hw'.block _ (World.block_lt_of_cell? _ _ (Hp.cell (j := 0) hH (i := 0) rfl rfl)))).trans (Hp.cell (j := 0) hH (i := 0) rfl rfl)) Tryd.isAgg3 rfl) rfl rfl rfl ?_
  refine VQ_call (.int .i64 (cal_moment m)) Tryd.call24 rfl rfl rfl rfl (fun w' hw' => (cal_moment_c w' m).mono (fun _ _ h => ⟨h.1, h.2 ▸ hw'⟩)) ?_
  refine VQ_tail (fun w27 hk28 => ?_)
  try simp only [List.take, List.drop]
  have ht29 := Kp.tr (Dw := Dw) hk28 hA hB
  replace hH := Hp.kp (Dw := Dw) hH hk28
  replace h11 := El.tr (Dw := Dw) h11 ht29
  replace h20 := Sl.tr (Dw := Dw) h20 ht29
  replace h22 := Sl.tr (Dw := Dw) h22 ht29
  replace h24 := Sl.tr (Dw := Dw) h24 ht29
  replace hK := Tr.trans (Dw := Dw) hK ht29
  replace hB := Nat.le_trans hB ht29.ex.size
  replace hA := ht29.new
  refine V_buildSlice (Dw := Dw) (cells := #[.int .i64 x26, .int .i64 (cal_moment m)]) (l := ([x26, (cal_moment m)] : List Int)) (len := 2) Tryd.underlying55 Tryd.sizeOf25 Tryd.zeroValue25 rfl (by generalize ((cal_moment m) : Int) = z34; kernel_rfl) (show (2 * 1 : Nat) ≠ 0 by decide) (show (2 * 1 : Nat) ≤ 2 ^ 24 by decide) hA ⟨[.int .i64 x26], _, rfl, rfl, ⟨[.int .i64 (cal_moment m)], _, rfl, rfl, rfl⟩⟩ rfl rfl ?_
  intro v30 w31 hk33 h32
  have ht35 := Kp.tr (Dw := Dw) hk33 hA hB
  replace hH := Hp.kp (Dw := Dw) hH hk33
  replace h11 := El.tr (Dw := Dw) h11 ht35
  replace h20 := Sl.tr (Dw := Dw) h20 ht35
  replace h22 := Sl.tr (Dw := Dw) h22 ht35
  replace h24 := Sl.tr (Dw := Dw) h24 ht35
  replace hK := Tr.trans (Dw := Dw) hK ht35
  replace hB := Nat.le_trans hB ht35.ex.size
  replace hA := ht35.new
  obtain ⟨x36, hx36, hm⟩ := Option.bind_eq_some_iff.1 hm
  refine V_call Tryd.call9 rfl rfl rfl rfl (cmp_Or_api_Errno_c w31 ([x26, (cal_moment m)] : List Int) v30 h32 hx36) ?_
  rintro _ _ ⟨rfl, rfl⟩
  refine V_y (Y_assign rfl) rfl rfl rfl ?_
  refine V_to (fun _ _ => rfl) ?_
  refine C_seq ?_
  refine C_region ?_
  refine V_y (Y_move rfl) rfl rfl rfl ?_
  refine V_y (Y_neq rfl rfl) rfl rfl rfl ?_
  refine V_to (fun _ _ => rfl) ?_
  refine C_cond rfl (fun hc37 => ?_) (fun hc37 => ?_)
  · rw [if_pos hc37] at hm
    refine C_seq ?_
    refine C_region ?_
    refine V_y (Y_move rfl) rfl rfl rfl ?_
    refine V_y (Y_assign rfl) rfl rfl rfl ?_
    refine V_y (Y_assign rfl) rfl rfl rfl ?_
    refine V_to (fun _ _ => rfl) ?_
    obtain rfl := Option.some.inj hm
    refine C_ret ?_
    try simp only [↓inBlock_ret, ↓then_ret]
    exact retM rfl (Res.two Tryd.results32 rfl rfl) ⟨rfl, hK.kp⟩
  · rw [if_neg (nt hc37)] at hm
    refine C_skip_to (fun _ _ => rfl) ?_
    refine C_seq ?_
    refine C_seq ?_
    refine C_region ?_
    obtain ⟨v38, v40, v42, h44, h39, h41, h43⟩ := El_cal_Calendar h11
    refine V_y (Y_loadA h44 Tryd.isAgg46 Tryd.sizeOf46 rfl) rfl rfl rfl ?_
    refine V_y (Y_load (Hp.cell (j := 0) hH (i := 0) rfl rfl) Tryd.isAgg3 rfl) rfl rfl rfl ?_
    obtain ⟨x45, hx45, hm⟩ := Option.bind_eq_some_iff.1 hm
    refine V_call Tryd.call25 rfl rfl rfl rfl (cal_Calendar_open_c (Dw := Dw) w31 hA c v38 h39 v40 h41 v42 h43 m 3000001 hx45) ?_
    rintro _ w52 ⟨b46, b48, b50, rfl, h47, h49, h51, hk53⟩
    have ht54 := Kp.tr (Dw := Dw) hk53 hA hB
    replace hH := Hp.kp (Dw := Dw) hH hk53
    replace h11 := El.tr (Dw := Dw) h11 ht54
    replace h39 := Sl.tr (Dw := Dw) h39 ht54
    replace h41 := Sl.tr (Dw := Dw) h41 ht54
    replace h43 := Sl.tr (Dw := Dw) h43 ht54
    replace hK := Tr.trans (Dw := Dw) hK ht54
    replace hB := Nat.le_trans hB ht54.ex.size
    replace hA := ht54.new
    refine V_to (fun _ _ => rfl) ?_
    have hH59 : Hp w.heap.size A16 w52 ((fun (s56 : Int) => obE (fun (i : Unit) => [obC b14 [.int .i64 s56] 3])) m :: []) := Hp.pack (F := fun (i : Unit) => [obC b14 [.int .i64 m] 3]) () hH
    obtain ⟨z55, hz55, hm⟩ := Option.bind_eq_some_iff.1 hm
    refine C_cutN (ι := Nat × (Nat → Prop)) (fun i => ⟨30, [{ target := .collected i.1, args := #[] }], none⟩) (fun i => [(3, .pointer (some ⟨b14, 0, none⟩))]) (fun i w' => Hp w.heap.size i.2 w' ((fun (s56 : Int) => obE (fun (i : Unit) => [obC b14 [.int .i64 s56] 3])) z55.1 :: obO i.1 (.deferred (some [])) :: []) ∧ Tr Dw w.heap.size A16 w52 i.2 w') ?_ ?_
    · refine C_block ?_
      refine C_rangeFunc (Dw := Dw) (B := w.heap.size) (A := A16) (L := []) (X := cal_Span) (fun (x65 : cal_Span) => [.agg #[.int .i64 x65.from_, .int .i64 x65.to_]]) (fun (s56 : Int) => obE (fun (i : Unit) => [obC b14 [.int .i64 s56] 3])) (fun (x65 : cal_Span) (s57 : Int) => Option.bind (if (x65.from_ == s57) = true then some x65.to_ else some s57) fun s89 => some (s89, some 1)) (fun _ => .exit 0) (s0 := m) (zf := z55) rfl rfl rfl (by decide) (fun _ => rfl) hB hA hH59 38 _ rfl Tryd.call38 ?_ ?_ ?_ ?_
      · intro Ys yv w1 A1 L1 h1 h2 h3 h4 h0 h5
        exact (cal_Calendar_open_1_c (Dw := Dw) w1 h1 h2 (yieldB (fun (x65 : cal_Span) (s57 : Int) => Option.bind (if (x65.from_ == s57) = true then some x65.to_ else some s57) fun s89 => some (s89, some 1))) Ys yv h0 (m, none) h5 x45.1 b46 (El.tr (Dw := Dw) h47 h3) x45.2.1 b48 (El.tr (Dw := Dw) h49 h3) x45.2.2 b50 (El.tr (Dw := Dw) h51 h3) h4 hz55).mono fun _ _ ⟨A3, _, hh, tt⟩ => ⟨A3, tt, hh⟩
      · intro l60 rc61 w62 A63 L64 x65 s57 s58 j66 hst67 hB68 hA69 ht70 hH71 h72
        obtain ⟨_, hH71⟩ := Hp.open hH71
        replace h47 := El.tr (Dw := Dw) h47 ht70
        replace h49 := El.tr (Dw := Dw) h49 ht70
        replace h51 := El.tr (Dw := Dw) h51 ht70
        replace hK := Tr.trans (Dw := Dw) hK ht70
        replace hB := Nat.le_trans hB ht70.ex.size
        replace hA := ht70.new
        replace hH : Hp w.heap.size A63 w62 (obC b14 [.int .i64 s57] 3 :: obO l60 (.loop rc61) :: L64) := hH71
        have hr73 : Tr Dw w.heap.size A63 w62 A63 w62 := Tr.refl (Dw := Dw) hA
        show C _ _ _ _ _ _
        refine C_region ?_
        refine V_alloc Tryd.zeroValue80 rfl ?_
        intro b75 w76 h77
        refine V_storeNew h77 Tryd.sizeOf80 rfl rfl rfl rfl (by exact (List.forall_mem_cons.2 ⟨rfl, (List.forall_mem_cons.2 ⟨rfl, (fun _ h => nomatch h)⟩)⟩)) ?_
        intro w78 h79
        have hk81 := h79.kp (Dw := Dw)
        have h80 : El (α := cal_Span) A63 w78 b75 0 x65 := h79.el hA ⟨[.int .i64 x65.from_], _, rfl, rfl, rfl⟩
        have ht82 := Kp.tr (Dw := Dw) hk81 hA hB
        replace hH := Hp.kp (Dw := Dw) hH hk81
        replace h47 := El.tr (Dw := Dw) h47 ht82
        replace h49 := El.tr (Dw := Dw) h49 ht82
        replace h51 := El.tr (Dw := Dw) h51 ht82
        replace hK := Tr.trans (Dw := Dw) hK ht82
        replace hr73 := Tr.trans (Dw := Dw) hr73 ht82
        replace hB := Nat.le_trans hB ht82.ex.size
        replace hA := ht82.new
        refine V_end (fun a ha83 => ?_)
        refine begin_at (Dw := Dw) hH (i := 1) rfl hst67 hB hA (fun w84 hH85 ht86 => ?_) ha83
        replace h80 := El.tr (Dw := Dw) h80 ht86
        replace hK := Tr.trans (Dw := Dw) hK ht86
        replace hr73 := Tr.trans (Dw := Dw) hr73 ht86
        replace hB := Nat.le_trans hB ht86.ex.size
        replace hA := ht86.new
        replace hH : Hp w.heap.size A63 w84 (obC b14 [.int .i64 s57] 3 :: obO l60 (.loop { rc61 with state := .busy }) :: L64) := hH85
        refine C_block ?_
        refine C_seq ?_
        refine C_seq ?_
        refine C_region ?_
        have h87 := El_cal_Span_0 h80
        refine V_y (Y_fieldAddr Tryd.underlying80 rfl Tryd.sizeOf3 (by decide) rfl) rfl rfl rfl ?_
        refine V_y (Y_load (El.int h87) Tryd.isAgg3 rfl) rfl rfl rfl ?_
        refine V_y (Y_load (Hp.cell (j := 0) hH (i := 0) rfl rfl) Tryd.isAgg3 rfl) rfl rfl rfl ?_
        refine V_y (Y_eql rfl rfl) rfl rfl rfl ?_
        refine V_to (fun _ _ => rfl) ?_
        obtain ⟨s89, ho88, h72⟩ := Option.bind_eq_some_iff.1 h72
        refine C_cutG (ι := (Nat → Prop)) (fun (A94 : (Nat → Prop)) => [(3, .pointer (some ⟨b14, 0, none⟩))]) (fun (A94 : (Nat → Prop)) => fun w' => Hp w.heap.size A94 w' (obC b14 [.int .i64 s89] 3 :: obO l60 (.loop { rc61 with state := .busy }) :: L64) ∧ Tr Dw w.heap.size A63 w84 A94 w') ?_ ?_
        · have hr90 : Tr Dw w.heap.size A63 w84 A63 w84 := Tr.refl (Dw := Dw) hA
          refine C_cond rfl (fun hc96 => ?_) (fun hc96 => ?_)
          · rw [if_pos hc96] at ho88
            refine C_region ?_
            have h97 := El_cal_Span_1 h80
            refine V_y (Y_fieldAddr Tryd.underlying80 rfl Tryd.sizeOf3 (by decide) rfl) rfl rfl rfl ?_
            refine V_y (Y_load (El.int h97) Tryd.isAgg3 rfl) rfl rfl rfl ?_
            refine V_storeC (Dw := Dw) (off := 0) (ds := [.int .i64 x65.to_]) hH (i := 0) rfl Tryd.sizeOf3 rfl (Nat.le_of_ble_eq_true rfl) (by simp [Value.cells, Value.oneCell']) rfl hB hA rfl rfl ?_
            intro w98 hH99 ht100
            replace h80 := El.tr (Dw := Dw) h80 ht100
            replace h97 := El.tr (Dw := Dw) h97 ht100
            replace hK := Tr.trans (Dw := Dw) hK ht100
            replace hr73 := Tr.trans (Dw := Dw) hr73 ht100
            replace hr90 := Tr.trans (Dw := Dw) hr90 ht100
            replace hB := Nat.le_trans hB ht100.ex.size
            replace hA := ht100.new
            replace hH : Hp w.heap.size A63 w98 (obC b14 [.int .i64 x65.to_] 3 :: obO l60 (.loop { rc61 with state := .busy }) :: L64) := hH99
            obtain rfl := Option.some.inj ho88
            refine V_end (fun a ha101 => ?_)
            exact ⟨A63, ha101.sub ⟨rfl, trivial⟩, ⟨hH, hr90⟩⟩
          · rw [if_neg (nt hc96)] at ho88
            obtain rfl := Option.some.inj ho88
            refine C_skip (fun a ha102 => ?_)
            exact ⟨A63, ha102.sub ⟨rfl, trivial⟩, ⟨hH, hr90⟩⟩
        rintro A94 w91 ⟨hH95, hk92⟩ a ha93
        replace hK := Tr.trans (Dw := Dw) hK hk92
        replace hr73 := Tr.trans (Dw := Dw) hr73 hk92
        replace hB := Nat.le_trans hB hk92.ex.size
        replace hA := hk92.new
        replace hH : Hp w.heap.size A94 w91 (obC b14 [.int .i64 s89] 3 :: obO l60 (.loop { rc61 with state := .busy }) :: L64) := hH95
        refine C_at (n := ⟨30, [], (some l60)⟩) (fun _ _ => rfl) ?_ ha93
        obtain ⟨rfl, rfl⟩ := Prod.mk.inj (Option.some.inj h72)
        refine C_exit (fun a ha103 => ?_)
        exact ⟨rfl, A94, hr73, Hp.pack (F := fun (i : Unit) => [obC b14 [.int .i64 s89] 3]) () hH⟩
      · intro hc109 D104 w105 A106 ht107 hH108 a ha110
        exact ⟨(D104, A106), ha110.sub ⟨rfl, trivial⟩, hH108, ht107⟩
      · intro k111 hc109 D104 w105 A106 ht107 hH108
        refine C_exit fun a ha110 => ?_
        show Exit.inBlock _ _ _ _ _
        rw [Exit.inBlock, if_pos rfl]
        exact ⟨(D104, A106), ha110.sub ⟨rfl, trivial⟩, hH108, ht107⟩
    rintro ⟨D104, A106⟩ w105 ⟨hH108, ht107⟩ a ha110
    obtain ⟨_, hH108⟩ := Hp.open hH108
    replace hK := Tr.trans (Dw := Dw) hK ht107
    replace hB := Nat.le_trans hB ht107.ex.size
    replace hA := ht107.new
    replace hH : Hp w.heap.size A106 w105 (obC b14 [.int .i64 z55.1] 3 :: obO D104 (.deferred (some [])) :: []) := hH108
    refine C_at (n := ⟨30, [{ target := .collected D104, args := #[] }], none⟩) (fun _ _ => rfl) ?_ ha110
    refine C_seq ?_
    refine C_seq ?_
    refine C_region ?_
    refine V_y (Y_load (Hp.cell (j := 0) hH (i := 0) rfl rfl) Tryd.isAgg3 rfl) rfl rfl rfl ?_
    refine V_y (Y_gtr rfl rfl) rfl rfl rfl ?_
    refine V_to (fun _ _ => rfl) ?_
    refine C_cond rfl (fun hc114 => ?_) (fun hc114 => ?_)
    · rw [if_pos hc114] at hm
      refine C_seq ?_
      refine C_region ?_
      refine V_y (Y_assign rfl) rfl rfl rfl ?_
      refine V_y (Y_assign rfl) rfl rfl rfl ?_
      refine V_to (fun _ _ => rfl) ?_
      obtain rfl := Option.some.inj hm
      have h115 := Hp.obj hH (i := 1) (b := D104) rfl
      obtain ⟨hH116, ht117⟩ := Hp.put (Dw := Dw) (.deferred none) hH (i := 1) (b := D104) rfl hB hA
      replace hK := Tr.trans (Dw := Dw) hK ht117
      replace hB := Nat.le_trans hB ht117.ex.size
      replace hA := ht117.new
      replace hH : Hp w.heap.size A106 (World.putObj w105 D104 (.deferred none)) (obC b14 [.int .i64 z55.1] 3 :: obO D104 (.deferred none) :: []) := hH116
      refine C_ret ?_
      try simp only [↓inBlock_ret, ↓then_ret]
      exact retM1 rfl h115 (Res.two Tryd.results32 rfl rfl) ⟨rfl, hK.kp⟩
    · rw [if_neg (nt hc114)] at hm
      refine C_skip_to (fun _ _ => rfl) ?_
      refine C_seq ?_
      refine C_region ?_
      refine V_y (Y_load (Hp.cell (j := 0) hH (i := 0) rfl rfl) Tryd.isAgg3 rfl) rfl rfl rfl ?_
      refine V_y (Y_assign rfl) rfl rfl rfl ?_
      refine V_y (Y_assign rfl) rfl rfl rfl ?_
      refine V_to (fun _ _ => rfl) ?_
      obtain rfl := Option.some.inj hm
      have h118 := Hp.obj hH (i := 1) (b := D104) rfl
      obtain ⟨hH119, ht120⟩ := Hp.put (Dw := Dw) (.deferred none) hH (i := 1) (b := D104) rfl hB hA
      replace hK := Tr.trans (Dw := Dw) hK ht120
      replace hB := Nat.le_trans hB ht120.ex.size
      replace hA := ht120.new
      replace hH : Hp w.heap.size A106 (World.putObj w105 D104 (.deferred none)) (obC b14 [.int .i64 z55.1] 3 :: obO D104 (.deferred none) :: []) := hH119
      refine C_ret ?_
      try simp only [↓inBlock_ret, ↓then_ret]
      exact retM1 rfl h118 (Res.two Tryd.results32 rfl rfl) ⟨rfl, hK.kp⟩

end Go.Proofs.YtehofjchjogbkaaDoor.W
