/-
  Written by program (gen.py) from the IR of the dump: each function computes its model.
-/
import Derived.Test.YtoflhekllembeaaCalCommonW2
namespace Go.Proofs.Ytoflhekllembeaa.W
open Go Go.RowKit Go.Pu Go.Gw Go.Proofs Go.Proofs.Ytoflhekllembeaa.M
set_option linter.unusedVariables false
set_option linter.unusedSimpArgs false
variable {Dw : Prop}

set_option maxRecDepth 4000 in
set_option maxHeartbeats 4000000 in
theorem portref2_OffsetIn_c (w : World) {A : Nat → Prop} (hA : ∀ b, w.heap.size ≤ b → A b) (z : cal_Zone) (v_z : Value) (h_z : Sl A w v_z z.changes) (m : Int) {r : Int} (hm : portref2_OffsetIn z m = some r) : Ret Try.prog 46 #[.agg #[.int .i64 z.offset, v_z], .int .i64 m] w fun v w' => v = .int .i64 r ∧ Kp Dw w w' := by
  unfold portref2_OffsetIn at hm
  refine enter Try.func46 rfl Try.ntmps46 rfl ?_
  have hA0 := hA
  have hB := Nat.le_refl w.heap.size
  have hK : Tr Dw w.heap.size A w A w := Tr.refl (Dw := Dw) hA
  have hH : Hp w.heap.size A w [] := Hp.nil
  refine C_seq ?_
  refine C_region ?_
  refine V_box rfl rfl ?_
  intro b3 w4 h5
  have hk7 := h5.kp (Dw := Dw)
  have h6 : El (α := cal_Zone) A w4 b3 0 z := h5.el hA ⟨[.int .i64 z.offset], _, rfl, rfl, ⟨_, rfl, h_z⟩⟩
  have ht8 := Kp.tr (Dw := Dw) hk7 hA hB
  replace hH := Hp.kp (Dw := Dw) hH hk7
  replace h_z := Sl.tr (Dw := Dw) h_z ht8
  replace hK := Tr.trans (Dw := Dw) hK ht8
  replace hB := Nat.le_trans hB ht8.ex.size
  replace hA := ht8.new
  refine V_y (Y_assign rfl) rfl rfl rfl ?_
  refine V_to (fun _ _ => rfl) ?_
  refine C_seq ?_
  refine C_region ?_
  have h9 := El_cal_Zone_0 h6
  refine V_y (Y_fieldAddr Try.underlying33 rfl Try.sizeOf3 (by decide) rfl) rfl rfl rfl ?_
  refine V_y (Y_load (El.int h9) Try.isAgg3 rfl) rfl rfl rfl ?_
  refine V_y (Y_assign rfl) rfl rfl rfl ?_
  refine V_to (fun _ _ => rfl) ?_
  refine C_seq ?_
  refine C_seq ?_
  refine C_region ?_
  have h10 := El_cal_Zone_1 h6
  refine V_y (Y_fieldAddr Try.underlying33 rfl Try.sizeOf31 (by decide) rfl) rfl rfl rfl ?_
  obtain ⟨v11, h12, h13⟩ := El.list h10
  refine V_y (Y_load h12 Try.isAgg31 rfl) rfl rfl rfl ?_
  refine V_y (Y_lenSl h13 rfl Try.underlying31 rfl) rfl rfl rfl ?_
  refine V_y (Y_move rfl) rfl rfl rfl ?_
  refine V_to (fun _ _ => rfl) ?_
  have hn34 := Sl.le h13
  obtain ⟨o14, ho14, hm⟩ := Option.bind_eq_some_iff.1 hm
  refine C_cutG (ι := (Int × (Nat → Prop))) (fun ⟨s15, A21⟩ => [(5, .int .i64 s15)]) (fun ⟨s15, A21⟩ => fun w' => o14 = .fin s15 ∧ Hp w.heap.size A21 w' ([]) ∧ Tr Dw w.heap.size A w4 A21 w') ?_ ?_
  · refine C_block ?_
    refine C_range ho14 (fun k17 s23 a w' => ∃ i : (Nat → Prop), Has ⟨25, [], none⟩ a ([(1, .int .i64 m), (5, .int .i64 s23), (11, v11), (12, .int .i64 (z.changes.length : Int)), (13, .int .i64 (k17 : Int))]) ∧ Hp w.heap.size i w' ([]) ∧ Tr Dw w.heap.size A w4 i w') (fun a ha => ⟨A, ha.sub ⟨rfl, rfl, rfl, rfl, rfl, trivial⟩, ⟨hH, Tr.refl (Dw := Dw) hA⟩⟩) ?_
    rintro K k17 s23 a w24 ⟨A25, ha71, hH26, hr16⟩ hle30 K33 h32
    refine C_of ?_ ha71
    replace h13 := Sl.tr (Dw := Dw) h13 hr16
    replace hK := Tr.trans (Dw := Dw) hK hr16
    replace hB := Nat.le_trans hB hr16.ex.size
    replace hA := hr16.new
    replace hH : Hp w.heap.size A25 w24 ([]) := hH26
    refine C_seq (C_region (V_y (Y_lss rfl rfl) rfl rfl rfl (V_to (fun _ _ => rfl) ?_)))
    refine C_seq ?_
    refine C_cond rfl (fun hc35 => ?_) (fun hc35 => ?_)
    · have hlt31 := lt_of_dec hc35
      obtain ⟨x27, h28, h29⟩ := K33 hlt31
      refine C_skip_to (fun _ _ => rfl) ?_
      refine C_seq ?_
      obtain ⟨s37, ho36, h28⟩ := Option.bind_eq_some_iff.1 h28
      refine C_cutG (ι := (Nat → Prop)) (fun (A42 : (Nat → Prop)) => [(1, .int .i64 m), (5, .int .i64 s37), (11, v11), (12, .int .i64 (z.changes.length : Int)), (13, .int .i64 (k17 : Int))]) (fun (A42 : (Nat → Prop)) => fun w' => Hp w.heap.size A42 w' ([]) ∧ Tr Dw w.heap.size A25 w24 A42 w') ?_ ?_
      · have hr38 : Tr Dw w.heap.size A25 w24 A25 w24 := Tr.refl (Dw := Dw) hA
        refine C_block ?_
        refine C_seq ?_
        refine C_region ?_
        obtain ⟨x44, hx44, ho36⟩ := Option.bind_eq_some_iff.1 ho36
        refine V_indexAddr h13 hx44 Try.underlying31 Try.sizeOf75 rfl rfl rfl ?_
        intro b45 o46 h47
        obtain ⟨h48, _⟩ := El_cal_Change h47
        refine V_y (Y_loadA h48 Try.isAgg75 Try.sizeOf75 rfl) rfl rfl rfl ?_
        refine V_alloc Try.zeroValue75 rfl ?_
        intro b49 w50 h51
        refine V_storeNew h51 Try.sizeOf75 rfl rfl rfl rfl (by exact (List.forall_mem_cons.2 ⟨rfl, (List.forall_mem_cons.2 ⟨rfl, (fun _ h => nomatch h)⟩)⟩)) ?_
        intro w52 h53
        have hk55 := h53.kp (Dw := Dw)
        have h54 : El (α := cal_Change) A25 w52 b49 0 x44 := h53.el hA ⟨[.int .i64 x44.at_], _, rfl, rfl, rfl⟩
        have ht56 := Kp.tr (Dw := Dw) hk55 hA hB
        replace hH := Hp.kp (Dw := Dw) hH hk55
        replace h13 := Sl.tr (Dw := Dw) h13 ht56
        replace h47 := El.tr (Dw := Dw) h47 ht56
        replace hK := Tr.trans (Dw := Dw) hK ht56
        replace hr16 := Tr.trans (Dw := Dw) hr16 ht56
        replace hr38 := Tr.trans (Dw := Dw) hr38 ht56
        replace hB := Nat.le_trans hB ht56.ex.size
        replace hA := ht56.new
        refine V_to (fun _ _ => rfl) ?_
        refine C_seq ?_
        refine C_region ?_
        have h57 := El_cal_Change_0 h54
        refine V_y (Y_fieldAddr Try.underlying75 rfl Try.sizeOf3 (by decide) rfl) rfl rfl rfl ?_
        refine V_y (Y_load (El.int h57) Try.isAgg3 rfl) rfl rfl rfl ?_
        refine V_y (Y_move rfl) rfl rfl rfl ?_
        refine V_y (Y_leq rfl rfl) rfl rfl rfl ?_
        refine V_to (fun _ _ => rfl) ?_
        obtain ⟨s59, ho58, ho36⟩ := Option.bind_eq_some_iff.1 ho36
        refine C_cutG (ι := Unit) (fun (_ : Unit) => [(1, .int .i64 m), (5, .int .i64 s59), (11, v11), (12, .int .i64 (z.changes.length : Int)), (13, .int .i64 (k17 : Int))]) (fun (_ : Unit) => fun w' => w52 = w') ?_ ?_
        · refine C_cond rfl (fun hc64 => ?_) (fun hc64 => ?_)
          · rw [if_pos hc64] at ho58
            refine C_region ?_
            have h65 := El_cal_Change_1 h54
            refine V_y (Y_fieldAddr Try.underlying75 rfl Try.sizeOf3 (by decide) rfl) rfl rfl rfl ?_
            refine V_y (Y_load (El.int h65) Try.isAgg3 rfl) rfl rfl rfl ?_
            refine V_y (Y_assign rfl) rfl rfl rfl ?_
            obtain rfl := Option.some.inj ho58
            refine V_end (fun a ha66 => ?_)
            exact ⟨(), ha66.sub ⟨rfl, rfl, rfl, rfl, rfl, trivial⟩, rfl⟩
          · rw [if_neg (nt hc64)] at ho58
            obtain rfl := Option.some.inj ho58
            refine C_skip (fun a ha67 => ?_)
            exact ⟨(), ha67.sub ⟨rfl, rfl, rfl, rfl, rfl, trivial⟩, rfl⟩
        rintro _ _ rfl a ha63
        obtain rfl := Option.some.inj ho36
        exact ⟨A25, ha63.sub ⟨rfl, rfl, rfl, rfl, rfl, trivial⟩, ⟨hH, hr38⟩⟩
      rintro A42 w39 ⟨hH43, hk40⟩ a ha41
      replace h13 := Sl.tr (Dw := Dw) h13 hk40
      replace hK := Tr.trans (Dw := Dw) hK hk40
      replace hr16 := Tr.trans (Dw := Dw) hr16 hk40
      replace hB := Nat.le_trans hB hk40.ex.size
      replace hA := hk40.new
      replace hH : Hp w.heap.size A42 w39 ([]) := hH43
      refine C_at (n := ⟨25, [], none⟩) (fun _ _ => rfl) ?_ ha41
      refine C_region ?_
      refine V_y (Y_addI rfl rfl) rfl rfl rfl ?_
      refine V_y (Y_move rfl) rfl rfl rfl ?_
      obtain rfl := Option.some.inj h28
      refine V_end (fun a ha69 => ?_)
      exact ⟨s37, hlt31, h29, ⟨A42, ha69.sub ⟨rfl, rfl, rfl, rfl, (congrArg (fun z => some (Value.int .i64 z)) (w64_succ hlt31 hn34)), trivial⟩, ⟨hH, hr16⟩⟩⟩
    · refine C_exit (fun a ha70 => ?_)
      exact ⟨(s23, A25), ha70.sub ⟨rfl, trivial⟩, ⟨(h32 (eq_of_dec hle30 hc35)).symm, hH, hr16⟩⟩
  rintro ⟨s15, A21⟩ w18 ⟨rfl, hH22, hk19⟩ a ha20
  rw [Lp.andThen_fin] at hm
  replace hK := Tr.trans (Dw := Dw) hK hk19
  replace hB := Nat.le_trans hB hk19.ex.size
  replace hA := hk19.new
  replace hH : Hp w.heap.size A21 w18 ([]) := hH22
  refine C_at (n := ⟨25, [], none⟩) (fun _ _ => rfl) ?_ ha20
  refine C_seq ?_
  refine C_region ?_
  refine V_y (Y_move rfl) rfl rfl rfl ?_
  refine V_y (Y_assign rfl) rfl rfl rfl ?_
  refine V_to (fun _ _ => rfl) ?_
  obtain rfl := Option.some.inj hm
  refine C_ret ?_
  try simp only [↓inBlock_ret, ↓then_ret]
  exact retQ rfl (Res.one Try.results46 rfl) ⟨rfl, hK.kp⟩

set_option maxRecDepth 4000 in
set_option maxHeartbeats 4000000 in
theorem portref2_LocalIn_c (w : World) {A : Nat → Prop} (hA : ∀ b, w.heap.size ≤ b → A b) (z : cal_Zone) (v_z : Value) (h_z : Sl A w v_z z.changes) (m : Int) {r : (Int × Int)} (hm : portref2_LocalIn z m = some r) : Ret Try.prog 32 #[.agg #[.int .i64 z.offset, v_z], .int .i64 m] w fun v w' => v = .tuple #[.int .i64 r.1, .int .i64 r.2] ∧ Kp Dw w w' := by
  unfold portref2_LocalIn at hm
  refine enter Try.func32 rfl Try.ntmps32 rfl ?_
  have hA0 := hA
  have hB := Nat.le_refl w.heap.size
  have hK : Tr Dw w.heap.size A w A w := Tr.refl (Dw := Dw) hA
  have hH : Hp w.heap.size A w [] := Hp.nil
  refine C_seq ?_
  refine C_region ?_
  refine V_box rfl rfl ?_
  intro b3 w4 h5
  have hk7 := h5.kp (Dw := Dw)
  have h6 : El (α := cal_Zone) A w4 b3 0 z := h5.el hA ⟨[.int .i64 z.offset], _, rfl, rfl, ⟨_, rfl, h_z⟩⟩
  have ht8 := Kp.tr (Dw := Dw) hk7 hA hB
  replace hH := Hp.kp (Dw := Dw) hH hk7
  replace h_z := Sl.tr (Dw := Dw) h_z ht8
  replace hK := Tr.trans (Dw := Dw) hK ht8
  replace hB := Nat.le_trans hB ht8.ex.size
  replace hA := ht8.new
  refine V_y (Y_assign rfl) rfl rfl rfl ?_
  refine V_y (Y_assign rfl) rfl rfl rfl ?_
  refine V_to (fun _ _ => rfl) ?_
  refine C_seq ?_
  refine C_region ?_
  refine V_y (Y_move rfl) rfl rfl rfl ?_
  obtain ⟨v9, h11, h10⟩ := El_cal_Zone h6
  refine V_y (Y_loadA h11 Try.isAgg33 Try.sizeOf33 rfl) rfl rfl rfl ?_
  refine V_y (Y_move rfl) rfl rfl rfl ?_
  obtain ⟨x12, hx12, hm⟩ := Option.bind_eq_some_iff.1 hm
  refine V_call Try.call46 rfl rfl rfl rfl (portref2_OffsetIn_c (Dw := Dw) w4 hA z v9 h10 m hx12) ?_
  rintro _ w13 ⟨rfl, hk14⟩
  have ht15 := Kp.tr (Dw := Dw) hk14 hA hB
  replace hH := Hp.kp (Dw := Dw) hH hk14
  replace h6 := El.tr (Dw := Dw) h6 ht15
  replace h10 := Sl.tr (Dw := Dw) h10 ht15
  replace hK := Tr.trans (Dw := Dw) hK ht15
  replace hB := Nat.le_trans hB ht15.ex.size
  replace hA := ht15.new
  refine V_y (Y_addI rfl rfl) rfl rfl rfl ?_
  obtain ⟨x16, hx16, hm⟩ := Option.bind_eq_some_iff.1 hm
  refine V_call Try.call45 rfl rfl rfl rfl (portref2_floorDiv_c (Dw := Dw) w13 hA (w64 (m + x12)) 1440 hx16) ?_
  rintro _ w17 ⟨rfl, hk18⟩
  have ht19 := Kp.tr (Dw := Dw) hk18 hA hB
  replace hH := Hp.kp (Dw := Dw) hH hk18
  replace h6 := El.tr (Dw := Dw) h6 ht19
  replace h10 := Sl.tr (Dw := Dw) h10 ht19
  replace hK := Tr.trans (Dw := Dw) hK ht19
  replace hB := Nat.le_trans hB ht19.ex.size
  replace hA := ht19.new
  refine V_y (Y_extract rfl rfl) rfl rfl rfl ?_
  refine V_y (Y_extract rfl rfl) rfl rfl rfl ?_
  refine V_y (Y_assign rfl) rfl rfl rfl ?_
  refine V_y (Y_assign rfl) rfl rfl rfl ?_
  refine V_to (fun _ _ => rfl) ?_
  obtain rfl := Option.some.inj hm
  refine C_ret ?_
  try simp only [↓inBlock_ret, ↓then_ret]
  exact retQ rfl (Res.two Try.results32 rfl rfl) ⟨rfl, hK.kp⟩

set_option maxRecDepth 4000 in
set_option maxHeartbeats 4000000 in
theorem portref2_Clock_shifts_c (w : World) {A : Nat → Prop} {B : Nat} (hB : B ≤ w.heap.size) (hA : ∀ b, w.heap.size ≤ b → A b) (k : cal_Calendar) (b_k : Nat) (day : Int) {L : List Ob} (hH : Hp B A w (obCk 68 portref2_ShiftsIn b_k k :: L)) {r : (List cal_Shift)} (hm : portref2_Clock_shifts k day = some r) : Ret Try.prog 33 #[.pointer (some ⟨b_k, 0, none⟩), .int .i64 day] w fun v w' => ∃ s0, ∃ A1 : Nat → Prop, v = s0 ∧ Sl A1 w' s0 r ∧ Hp B A1 w' (obCk 68 portref2_ShiftsIn b_k k :: L) ∧ Tr Dw B A w A1 w' := by
  unfold portref2_Clock_shifts at hm
  refine enter Try.func33 rfl Try.ntmps33 rfl ?_
  have hK : Tr Dw B A w A w := Tr.refl (Dw := Dw) hA
  obtain ⟨⟨mb, cs⟩, hH⟩ := Hp.open hH
  have hr : GoT.rep A w cs k := by
    obtain ⟨_, ⟨_, hr⟩, _⟩ := hH.at (i := 0) rfl
    exact hr
  have hr0 := hr
  obtain ⟨u0, u1, u2, rfl, s0, s1, s2⟩ := Rep_cal_Calendar hr0
  replace hH : Hp B A w (obC b_k [.int .i64 k.zone.offset, u0, u1, u2, .map (some mb)] 68 :: obMF (portref2_ShiftsIn k) mb :: L) := hH.drops (L := [_])
  refine C_seq ?_
  refine C_region ?_
  refine V_y (Y_assign rfl) rfl rfl rfl ?_
  refine V_to (fun _ _ => rfl) ?_
  refine C_seq ?_
  refine C_region ?_
  refine V_y (Y_move rfl) rfl rfl rfl ?_
  refine V_y (Y_nilCheck rfl) rfl rfl rfl ?_
  refine V_y (Y_fieldAddrC (off2 := 4) Try.underlying68 rfl Try.sizeOf66 (by decide) rfl rfl) rfl rfl rfl ?_
  refine V_y (Y_load (Hp.cell (j := 4) hH (i := 0) rfl rfl) Try.isAgg66 rfl) rfl rfl rfl ?_
  refine V_y (Y_move rfl) rfl rfl rfl ?_
  refine V_lookupF hH (i := 1) rfl Try.underlying66 Try.underlying3 Try.zeroValue34 rfl rfl rfl ?_ ?_
  · intro v l hl hs
    rw [hm] at hl
    obtain rfl := Option.some.inj hl
    refine V_y (Y_move rfl) rfl rfl rfl ?_
    refine V_y (Y_extract rfl rfl) rfl rfl rfl ?_
    refine V_y (Y_extract rfl rfl) rfl rfl rfl ?_
    refine V_y (Y_assign rfl) rfl rfl rfl ?_
    refine V_y (Y_assign rfl) rfl rfl rfl ?_
    refine V_to (fun _ _ => rfl) ?_
    refine C_seq ?_
    refine C_seq ?_
    refine C_region ?_
    refine V_y (Y_move rfl) rfl rfl rfl ?_
    refine V_y (Y_not rfl) rfl rfl rfl ?_
    refine V_to (fun _ _ => rfl) ?_
    refine C_cond rfl (fun hc => by cases hc) (fun hc => ?_)
    refine C_skip_to (fun _ _ => rfl) ?_
    have h4 : Hp B A w (ckL 68 portref2_ShiftsIn b_k k (mb, [.int .i64 k.zone.offset, u0, u1, u2]) ++ L) := hH.free (O' := obF (fun A w => GoT.rep A w [.int .i64 k.zone.offset, u0, u1, u2] k) (fun h he => GoT.keep h he)) ⟨rfl, hr⟩
    refine C_seq ?_
    refine C_region ?_
    refine V_y (Y_move rfl) rfl rfl rfl ?_
    refine V_y (Y_assign rfl) rfl rfl rfl ?_
    refine V_to (fun _ _ => rfl) ?_
    refine C_ret ?_
    try simp only [↓inBlock_ret, ↓then_ret]
    exact retQ rfl (Res.one Try.results33 rfl) ⟨_, A, rfl, hs, Hp.pack _ h4, hK⟩
  · refine V_y (Y_move rfl) rfl rfl rfl ?_
    refine V_y (Y_extract rfl rfl) rfl rfl rfl ?_
    refine V_y (Y_extract rfl rfl) rfl rfl rfl ?_
    refine V_y (Y_assign rfl) rfl rfl rfl ?_
    refine V_y (Y_assign rfl) rfl rfl rfl ?_
    refine V_to (fun _ _ => rfl) ?_
    refine C_seq ?_
    refine C_seq ?_
    refine C_region ?_
    refine V_y (Y_move rfl) rfl rfl rfl ?_
    refine V_y (Y_not rfl) rfl rfl rfl ?_
    refine V_to (fun _ _ => rfl) ?_
    refine C_cond rfl (fun hc => ?_) (fun hc => by cases hc)
    refine C_seq ?_
    refine C_region ?_
    refine V_y (Y_move rfl) rfl rfl rfl ?_
    refine V_y (Y_nilCheck rfl) rfl rfl rfl ?_
    refine V_y (Y_fieldAddrC (off2 := 0) Try.underlying68 rfl Try.sizeOf37 (by decide) rfl rfl) rfl rfl rfl ?_
    have hat : At w b_k 0 [.int .i64 k.zone.offset, u0, u1, u2] := Hp.part (n := 4) (i := 0) hH rfl rfl
    refine V_y (Y_loadA hat Try.isAgg37 Try.sizeOf37 rfl) rfl rfl rfl ?_
    refine V_y (Y_move rfl) rfl rfl rfl ?_
    refine V_call Try.call47 rfl rfl rfl rfl (portref2_ShiftsIn_c (Dw := Dw) w hA k u0 s0 u1 s1 u2 s2 day hm) ?_
    rintro s1 w1 ⟨_, rfl, hs, hk⟩
    have t1 := Kp.tr (Dw := Dw) hk hA hB
    replace hH := Hp.kp (Dw := Dw) hH hk
    replace hr := GoT.keep hr t1.ex
    replace hK := Tr.trans (Dw := Dw) hK t1
    replace hB := Nat.le_trans hB t1.ex.size
    replace hA := t1.new
    refine V_y (Y_assign rfl) rfl rfl rfl ?_
    refine V_to (fun _ _ => rfl) ?_
    refine C_region ?_
    refine V_y (Y_move rfl) rfl rfl rfl ?_
    refine V_y (Y_nilCheck rfl) rfl rfl rfl ?_
    refine V_y (Y_fieldAddrC (off2 := 4) Try.underlying68 rfl Try.sizeOf66 (by decide) rfl rfl) rfl rfl rfl ?_
    refine V_y (Y_load (Hp.cell (j := 4) hH (i := 0) rfl rfl) Try.isAgg66 rfl) rfl rfl rfl ?_
    refine V_y (Y_move rfl) rfl rfl rfl ?_
    refine V_y (Y_move rfl) rfl rfl rfl ?_
    refine V_mapUpdateF (Dw := Dw) hH (i := 1) rfl Try.underlying66 Try.underlying3 hm hs rfl rfl rfl hB hA ?_
    intro w2 h2 t2
    replace hH : Hp B A w2 (obC b_k [.int .i64 k.zone.offset, u0, u1, u2, .map (some mb)] 68 :: obMF (portref2_ShiftsIn k) mb :: L) := h2
    replace hs := Sl.tr (Dw := Dw) hs t2
    replace hr := GoT.keep hr t2.ex
    replace hK := Tr.trans (Dw := Dw) hK t2
    refine V_to (fun _ _ => rfl) ?_
    have h4 : Hp B A w2 (ckL 68 portref2_ShiftsIn b_k k (mb, [.int .i64 k.zone.offset, u0, u1, u2]) ++ L) := hH.free (O' := obF (fun A w => GoT.rep A w [.int .i64 k.zone.offset, u0, u1, u2] k) (fun h he => GoT.keep h he)) ⟨rfl, hr⟩
    refine C_seq ?_
    refine C_region ?_
    refine V_y (Y_move rfl) rfl rfl rfl ?_
    refine V_y (Y_assign rfl) rfl rfl rfl ?_
    refine V_to (fun _ _ => rfl) ?_
    refine C_ret ?_
    try simp only [↓inBlock_ret, ↓then_ret]
    exact retQ rfl (Res.one Try.results33 rfl) ⟨_, A, rfl, hs, Hp.pack _ h4, hK⟩

set_option maxRecDepth 4000 in
set_option maxHeartbeats 4000000 in
theorem portref2_Clock_Open_c (w : World) {A : Nat → Prop} {B : Nat} (hB : B ≤ w.heap.size) (hA : ∀ b, w.heap.size ≤ b → A b) (k_ : cal_Calendar) (b_k_ : Nat) (m : Int) {L : List Ob} (hH : Hp B A w (obCk 68 portref2_ShiftsIn b_k_ k_ :: L)) {r : Bool} (hm : portref2_Clock_Open k_ m = some r) : Ret Try.prog 20 #[.pointer (some ⟨b_k_, 0, none⟩), .int .i64 m] w fun v w' => ∃ A1 : Nat → Prop, v = .bool r ∧ Hp B A1 w' (obCk 68 portref2_ShiftsIn b_k_ k_ :: L) ∧ Tr Dw B A w A1 w' := by
  unfold portref2_Clock_Open at hm
  refine enter Try.func20 rfl Try.ntmps20 rfl ?_
  have hK : Tr Dw B A w A w := Tr.refl (Dw := Dw) hA
  refine C_seq ?_
  refine C_region ?_
  refine V_y (Y_assign rfl) rfl rfl rfl ?_
  refine V_to (fun _ _ => rfl) ?_
  refine C_seq ?_
  refine C_region ?_
  refine V_y (Y_move rfl) rfl rfl rfl ?_
  refine V_y (Y_nilCheck rfl) rfl rfl rfl ?_
  have h1 := Hp.ck (tb := 68) (F := portref2_ShiftsIn) (b := b_k_) (c := k_) hH (i := 0) rfl
  refine V_y (Y_fieldAddrC (off2 := 0) Try.underlying68 rfl Try.sizeOf37 (by decide) rfl rfl) rfl rfl rfl ?_
  have h2 := El_cal_Calendar_0 h1
  refine V_y (Y_fieldAddr Try.underlying37 rfl Try.sizeOf33 (by decide) rfl) rfl rfl rfl ?_
  obtain ⟨v3, h5, h4⟩ := El_cal_Zone h2
  refine V_y (Y_loadA h5 Try.isAgg33 Try.sizeOf33 rfl) rfl rfl rfl ?_
  refine V_y (Y_move rfl) rfl rfl rfl ?_
  obtain ⟨x6, hx6, hm⟩ := Option.bind_eq_some_iff.1 hm
  refine V_call Try.call32 rfl rfl rfl rfl (portref2_LocalIn_c (Dw := Dw) w (A := fun _ => True) (fun _ _ => trivial) k_.zone v3 (Sl.any h4) m hx6) ?_
  rintro _ w7 ⟨rfl, hk8⟩
  have ht9 := Kp.tr (Dw := Dw) hk8 hA hB
  replace hH := Hp.kp (Dw := Dw) hH hk8
  replace h1 := El.kp (Dw := Dw) h1 hk8
  replace h2 := El.kp (Dw := Dw) h2 hk8
  replace h4 := Sl.kp (Dw := Dw) h4 hk8
  replace hK := Tr.trans (Dw := Dw) hK ht9
  replace hB := Nat.le_trans hB ht9.ex.size
  replace hA := ht9.new
  refine V_y (Y_move rfl) rfl rfl rfl ?_
  refine V_y (Y_extract rfl rfl) rfl rfl rfl ?_
  refine V_y (Y_extract rfl rfl) rfl rfl rfl ?_
  refine V_y (Y_assign rfl) rfl rfl rfl ?_
  refine V_y (Y_assign rfl) rfl rfl rfl ?_
  refine V_to (fun _ _ => rfl) ?_
  refine C_seq ?_
  refine C_seq ?_
  refine C_region ?_
  refine V_y (Y_move rfl) rfl rfl rfl ?_
  refine V_y (Y_move rfl) rfl rfl rfl ?_
  obtain ⟨x10, hx10, hm⟩ := Option.bind_eq_some_iff.1 hm
  refine V_call Try.call33 rfl rfl rfl rfl (portref2_Clock_shifts_c (Dw := Dw) w7 hB hA k_ b_k_ x6.1 hH hx10) ?_
  rintro v11 w13 ⟨_, A14, rfl, h12, hH15, ht16⟩
  replace hK := Tr.trans (Dw := Dw) hK ht16
  replace hB := Nat.le_trans hB ht16.ex.size
  replace hA := ht16.new
  replace hH : Hp B A14 w13 (obCk 68 portref2_ShiftsIn b_k_ k_ :: L) := hH15
  refine V_y (Y_lenSl h12 rfl Try.underlying34 rfl) rfl rfl rfl ?_
  refine V_y (Y_move rfl) rfl rfl rfl ?_
  refine V_to (fun _ _ => rfl) ?_
  have hn37 := Sl.le h12
  obtain ⟨o17, ho17, hm⟩ := Option.bind_eq_some_iff.1 hm
  refine C_cutG (ι := (Unit × (Nat → Prop))) (fun ⟨s18, A24⟩ => [(0, .pointer (some ⟨b_k_, 0, none⟩)), (5, .int .i64 x6.1), (6, .int .i64 x6.2)]) (fun ⟨s18, A24⟩ => fun w' => o17 = .fin s18 ∧ Hp B A24 w' (obCk 68 portref2_ShiftsIn b_k_ k_ :: L) ∧ Tr Dw B A14 w13 A24 w') ?_ ?_
  · refine C_block ?_
    refine C_range ho17 (fun k20 _ a w' => ∃ i : (Nat → Prop), Has ⟨62, [], none⟩ a ([(0, .pointer (some ⟨b_k_, 0, none⟩)), (5, .int .i64 x6.1), (6, .int .i64 x6.2), (23, v11), (24, .int .i64 (x10.length : Int)), (25, .int .i64 (k20 : Int))]) ∧ Hp B i w' (obCk 68 portref2_ShiftsIn b_k_ k_ :: L) ∧ Tr Dw B A14 w13 i w') (fun a ha => ⟨A14, ha.sub ⟨rfl, rfl, rfl, rfl, rfl, rfl, trivial⟩, ⟨hH, Tr.refl (Dw := Dw) hA⟩⟩) ?_
    rintro K k20 _ a w27 ⟨A28, ha59, hH29, hr19⟩ hle33 K36 h35
    refine C_of ?_ ha59
    replace h12 := Sl.tr (Dw := Dw) h12 hr19
    replace hK := Tr.trans (Dw := Dw) hK hr19
    replace hB := Nat.le_trans hB hr19.ex.size
    replace hA := hr19.new
    replace hH : Hp B A28 w27 (obCk 68 portref2_ShiftsIn b_k_ k_ :: L) := hH29
    refine C_seq (C_region (V_y (Y_lss rfl rfl) rfl rfl rfl (V_to (fun _ _ => rfl) ?_)))
    refine C_seq ?_
    refine C_cond rfl (fun hc38 => ?_) (fun hc38 => ?_)
    · have hlt34 := lt_of_dec hc38
      obtain ⟨x30, h31, h32⟩ := K36 hlt34
      refine C_skip_to (fun _ _ => rfl) ?_
      refine C_seq ?_
      refine C_block ?_
      refine C_seq ?_
      refine C_region ?_
      obtain ⟨x39, hx39, h31⟩ := Option.bind_eq_some_iff.1 h31
      refine V_indexAddr h12 hx39 Try.underlying34 Try.sizeOf73 rfl rfl rfl ?_
      intro b40 o41 h42
      obtain ⟨h43, _⟩ := El_cal_Shift h42
      refine V_y (Y_loadA h43 Try.isAgg73 Try.sizeOf73 rfl) rfl rfl rfl ?_
      refine V_alloc Try.zeroValue73 rfl ?_
      intro b44 w45 h46
      refine V_storeNew h46 Try.sizeOf73 rfl rfl rfl rfl (by exact (List.forall_mem_cons.2 ⟨rfl, (List.forall_mem_cons.2 ⟨rfl, (List.forall_mem_cons.2 ⟨rfl, (fun _ h => nomatch h)⟩)⟩)⟩)) ?_
      intro w47 h48
      have hk50 := h48.kp (Dw := Dw)
      have h49 : El (α := cal_Shift) A28 w47 b44 0 x39 := h48.el hA ⟨[.int .i64 x39.day], _, rfl, rfl, ⟨[.int .i64 x39.from_], _, rfl, rfl, rfl⟩⟩
      have ht51 := Kp.tr (Dw := Dw) hk50 hA hB
      replace hH := Hp.kp (Dw := Dw) hH hk50
      replace h12 := Sl.tr (Dw := Dw) h12 ht51
      replace h42 := El.tr (Dw := Dw) h42 ht51
      replace hK := Tr.trans (Dw := Dw) hK ht51
      replace hr19 := Tr.trans (Dw := Dw) hr19 ht51
      replace hB := Nat.le_trans hB ht51.ex.size
      replace hA := ht51.new
      refine V_to (fun _ _ => rfl) ?_
      refine C_seq ?_
      refine C_region ?_
      have h52 := El_cal_Shift_1 h49
      refine V_y (Y_fieldAddr Try.underlying73 rfl Try.sizeOf3 (by decide) rfl) rfl rfl rfl ?_
      refine V_y (Y_load (El.int h52) Try.isAgg3 rfl) rfl rfl rfl ?_
      refine V_y (Y_move rfl) rfl rfl rfl ?_
      refine V_y (Y_leq rfl rfl) rfl rfl rfl ?_
      refine V_y (Y_move rfl) rfl rfl rfl ?_
      refine V_cut 5 (fun _ : Unit => [(0, .pointer (some ⟨b_k_, 0, none⟩)), (5, .int .i64 x6.1), (6, .int .i64 x6.2), (23, v11), (24, .int .i64 (x10.length : Int)), (25, .int .i64 (k20 : Int)), (38, .bool ((decide (x39.from_ ≤ x6.2)) && (decide (x6.2 < x39.to_))))]) (fun _ w' => w47 = w') ?_ ?_
      · simp only [List.take, List.drop]
        rcases Bool.eq_false_or_eq_true (decide (x39.from_ ≤ x6.2)) with hc53 | hc53
        · refine V_ge rfl rfl rfl hc53 ?_
          refine V_y (Y_move rfl) rfl rfl rfl ?_
          refine V_ge rfl rfl rfl hc53 ?_
          have h55 := El_cal_Shift_2 h49
          refine V_y (Y_fieldAddr Try.underlying73 rfl Try.sizeOf3 (by decide) rfl) rfl rfl rfl ?_
          refine V_ge rfl rfl rfl hc53 ?_
          refine V_y (Y_load (El.int h55) Try.isAgg3 rfl) rfl rfl rfl ?_
          refine V_ge rfl rfl rfl hc53 ?_
          refine V_y (Y_lss rfl rfl) rfl rfl rfl ?_
          refine V_y (Y_pick_te rfl hc53 rfl) rfl rfl rfl ?_
          exact V_end fun a ha => ⟨(), ha.sub ⟨rfl, rfl, rfl, rfl, rfl, rfl, (by rw [hc53]; rfl), trivial⟩, rfl⟩
        · refine V_gn rfl rfl rfl hc53 rfl rfl rfl ?_
          refine V_gn rfl rfl rfl hc53 rfl rfl rfl ?_
          refine V_gn rfl rfl rfl hc53 rfl rfl rfl ?_
          refine V_gn rfl rfl rfl hc53 rfl rfl rfl ?_
          refine V_y (Y_pick_fe rfl hc53 rfl) rfl rfl rfl ?_
          exact V_end fun a ha => ⟨(), ha.sub ⟨rfl, rfl, rfl, rfl, rfl, rfl, (by rw [hc53]; rfl), trivial⟩, rfl⟩
      simp only [List.take, List.drop]
      rintro _ _ rfl
      refine V_to (fun _ _ => rfl) ?_
      refine C_cond rfl (fun hc56 => ?_) (fun hc56 => ?_)
      · rw [if_pos hc56] at h31
        refine C_seq ?_
        refine C_region ?_
        refine V_y (Y_assign rfl) rfl rfl rfl ?_
        refine V_to (fun _ _ => rfl) ?_
        obtain rfl := Option.some.inj h31
        obtain rfl := (h32 : Lp.rt _ = _)
        rw [Lp.andThen_rt] at hm
        obtain rfl := Option.some.inj hm
        refine C_ret ?_
        try simp only [↓inBlock_ret, ↓then_ret]
        exact retQ rfl (Res.one Try.results20 rfl) ⟨A28, rfl, hH, hK⟩
      · rw [if_neg (nt hc56)] at h31
        refine C_skip_to (fun _ _ => rfl) ?_
        refine C_region ?_
        refine V_y (Y_addI rfl rfl) rfl rfl rfl ?_
        refine V_y (Y_move rfl) rfl rfl rfl ?_
        obtain rfl := Option.some.inj h31
        refine V_end (fun a ha57 => ?_)
        exact ⟨(), hlt34, h32, ⟨A28, ha57.sub ⟨rfl, rfl, rfl, rfl, rfl, (congrArg (fun z => some (Value.int .i64 z)) (w64_succ hlt34 hn37)), trivial⟩, ⟨hH, hr19⟩⟩⟩
    · refine C_exit (fun a ha58 => ?_)
      exact ⟨((), A28), ha58.sub ⟨rfl, rfl, rfl, trivial⟩, ⟨(h35 (eq_of_dec hle33 hc38)).symm, hH, hr19⟩⟩
  rintro ⟨s18, A24⟩ w21 ⟨rfl, hH25, hk22⟩ a ha23
  rw [Lp.andThen_fin] at hm
  replace hK := Tr.trans (Dw := Dw) hK hk22
  replace hB := Nat.le_trans hB hk22.ex.size
  replace hA := hk22.new
  replace hH : Hp B A24 w21 (obCk 68 portref2_ShiftsIn b_k_ k_ :: L) := hH25
  refine C_at (n := ⟨62, [], none⟩) (fun _ _ => rfl) ?_ ha23
  refine C_seq ?_
  refine C_seq ?_
  refine C_region ?_
  refine V_y (Y_move rfl) rfl rfl rfl ?_
  refine V_y (Y_move rfl) rfl rfl rfl ?_
  refine V_y (Y_subI rfl rfl) rfl rfl rfl ?_
  obtain ⟨x60, hx60, hm⟩ := Option.bind_eq_some_iff.1 hm
  refine V_call Try.call33 rfl rfl rfl rfl (portref2_Clock_shifts_c (Dw := Dw) w21 hB hA k_ b_k_ (w64 (x6.1 - 1)) hH hx60) ?_
  rintro v61 w63 ⟨_, A64, rfl, h62, hH65, ht66⟩
  replace hK := Tr.trans (Dw := Dw) hK ht66
  replace hB := Nat.le_trans hB ht66.ex.size
  replace hA := ht66.new
  replace hH : Hp B A64 w63 (obCk 68 portref2_ShiftsIn b_k_ k_ :: L) := hH65
  refine V_y (Y_lenSl h62 rfl Try.underlying34 rfl) rfl rfl rfl ?_
  refine V_y (Y_move rfl) rfl rfl rfl ?_
  refine V_to (fun _ _ => rfl) ?_
  have hn87 := Sl.le h62
  obtain ⟨o67, ho67, hm⟩ := Option.bind_eq_some_iff.1 hm
  refine C_cutG (ι := (Unit × (Nat → Prop))) (fun ⟨s68, A74⟩ => []) (fun ⟨s68, A74⟩ => fun w' => o67 = .fin s68 ∧ Hp B A74 w' (obCk 68 portref2_ShiftsIn b_k_ k_ :: L) ∧ Tr Dw B A64 w63 A74 w') ?_ ?_
  · refine C_block ?_
    refine C_range ho67 (fun k70 _ a w' => ∃ i : (Nat → Prop), Has ⟨62, [], none⟩ a ([(6, .int .i64 x6.2), (43, v61), (44, .int .i64 (x60.length : Int)), (45, .int .i64 (k70 : Int))]) ∧ Hp B i w' (obCk 68 portref2_ShiftsIn b_k_ k_ :: L) ∧ Tr Dw B A64 w63 i w') (fun a ha => ⟨A64, ha.sub ⟨rfl, rfl, rfl, rfl, trivial⟩, ⟨hH, Tr.refl (Dw := Dw) hA⟩⟩) ?_
    rintro K k70 _ a w77 ⟨A78, ha109, hH79, hr69⟩ hle83 K86 h85
    refine C_of ?_ ha109
    replace h62 := Sl.tr (Dw := Dw) h62 hr69
    replace hK := Tr.trans (Dw := Dw) hK hr69
    replace hB := Nat.le_trans hB hr69.ex.size
    replace hA := hr69.new
    replace hH : Hp B A78 w77 (obCk 68 portref2_ShiftsIn b_k_ k_ :: L) := hH79
    refine C_seq (C_region (V_y (Y_lss rfl rfl) rfl rfl rfl (V_to (fun _ _ => rfl) ?_)))
    refine C_seq ?_
    refine C_cond rfl (fun hc88 => ?_) (fun hc88 => ?_)
    · have hlt84 := lt_of_dec hc88
      obtain ⟨x80, h81, h82⟩ := K86 hlt84
      refine C_skip_to (fun _ _ => rfl) ?_
      refine C_seq ?_
      refine C_block ?_
      refine C_seq ?_
      refine C_region ?_
      obtain ⟨x89, hx89, h81⟩ := Option.bind_eq_some_iff.1 h81
      refine V_indexAddr h62 hx89 Try.underlying34 Try.sizeOf73 rfl rfl rfl ?_
      intro b90 o91 h92
      obtain ⟨h93, _⟩ := El_cal_Shift h92
      refine V_y (Y_loadA h93 Try.isAgg73 Try.sizeOf73 rfl) rfl rfl rfl ?_
      refine V_alloc Try.zeroValue73 rfl ?_
      intro b94 w95 h96
      refine V_storeNew h96 Try.sizeOf73 rfl rfl rfl rfl (by exact (List.forall_mem_cons.2 ⟨rfl, (List.forall_mem_cons.2 ⟨rfl, (List.forall_mem_cons.2 ⟨rfl, (fun _ h => nomatch h)⟩)⟩)⟩)) ?_
      intro w97 h98
      have hk100 := h98.kp (Dw := Dw)
      have h99 : El (α := cal_Shift) A78 w97 b94 0 x89 := h98.el hA ⟨[.int .i64 x89.day], _, rfl, rfl, ⟨[.int .i64 x89.from_], _, rfl, rfl, rfl⟩⟩
      have ht101 := Kp.tr (Dw := Dw) hk100 hA hB
      replace hH := Hp.kp (Dw := Dw) hH hk100
      replace h62 := Sl.tr (Dw := Dw) h62 ht101
      replace h92 := El.tr (Dw := Dw) h92 ht101
      replace hK := Tr.trans (Dw := Dw) hK ht101
      replace hr69 := Tr.trans (Dw := Dw) hr69 ht101
      replace hB := Nat.le_trans hB ht101.ex.size
      replace hA := ht101.new
      refine V_to (fun _ _ => rfl) ?_
      refine C_seq ?_
      refine C_region ?_
      have h102 := El_cal_Shift_1 h99
      refine V_y (Y_fieldAddr Try.underlying73 rfl Try.sizeOf3 (by decide) rfl) rfl rfl rfl ?_
      refine V_y (Y_load (El.int h102) Try.isAgg3 rfl) rfl rfl rfl ?_
      refine V_y (Y_move rfl) rfl rfl rfl ?_
      refine V_y (Y_addI rfl rfl) rfl rfl rfl ?_
      refine V_y (Y_leq rfl rfl) rfl rfl rfl ?_
      refine V_y (Y_move rfl) rfl rfl rfl ?_
      refine V_cut 6 (fun _ : Unit => [(6, .int .i64 x6.2), (43, v61), (44, .int .i64 (x60.length : Int)), (45, .int .i64 (k70 : Int)), (60, .bool ((decide (x89.from_ ≤ (w64 (x6.2 + 1440)))) && (decide ((w64 (x6.2 + 1440)) < x89.to_))))]) (fun _ w' => w97 = w') ?_ ?_
      · simp only [List.take, List.drop]
        rcases Bool.eq_false_or_eq_true (decide (x89.from_ ≤ (w64 (x6.2 + 1440)))) with hc103 | hc103
        · refine V_ge rfl rfl rfl hc103 ?_
          refine V_y (Y_move rfl) rfl rfl rfl ?_
          refine V_ge rfl rfl rfl hc103 ?_
          refine V_y (Y_addI rfl rfl) rfl rfl rfl ?_
          refine V_ge rfl rfl rfl hc103 ?_
          have h105 := El_cal_Shift_2 h99
          refine V_y (Y_fieldAddr Try.underlying73 rfl Try.sizeOf3 (by decide) rfl) rfl rfl rfl ?_
          refine V_ge rfl rfl rfl hc103 ?_
          refine V_y (Y_load (El.int h105) Try.isAgg3 rfl) rfl rfl rfl ?_
          refine V_ge rfl rfl rfl hc103 ?_
          refine V_y (Y_lss rfl rfl) rfl rfl rfl ?_
          refine V_y (Y_pick_te rfl hc103 rfl) rfl rfl rfl ?_
          exact V_end fun a ha => ⟨(), ha.sub ⟨rfl, rfl, rfl, rfl, (by rw [hc103]; rfl), trivial⟩, rfl⟩
        · refine V_gn rfl rfl rfl hc103 rfl rfl rfl ?_
          refine V_gn rfl rfl rfl hc103 rfl rfl rfl ?_
          refine V_gn rfl rfl rfl hc103 rfl rfl rfl ?_
          refine V_gn rfl rfl rfl hc103 rfl rfl rfl ?_
          refine V_gn rfl rfl rfl hc103 rfl rfl rfl ?_
          refine V_y (Y_pick_fe rfl hc103 rfl) rfl rfl rfl ?_
          exact V_end fun a ha => ⟨(), ha.sub ⟨rfl, rfl, rfl, rfl, (by rw [hc103]; rfl), trivial⟩, rfl⟩
      simp only [List.take, List.drop]
      rintro _ _ rfl
      refine V_to (fun _ _ => rfl) ?_
      refine C_cond rfl (fun hc106 => ?_) (fun hc106 => ?_)
      · rw [if_pos hc106] at h81
        refine C_seq ?_
        refine C_region ?_
        refine V_y (Y_assign rfl) rfl rfl rfl ?_
        refine V_to (fun _ _ => rfl) ?_
        obtain rfl := Option.some.inj h81
        obtain rfl := (h82 : Lp.rt _ = _)
        rw [Lp.andThen_rt] at hm
        obtain rfl := Option.some.inj hm
        refine C_ret ?_
        try simp only [↓inBlock_ret, ↓then_ret]
        exact retQ rfl (Res.one Try.results20 rfl) ⟨A78, rfl, hH, hK⟩
      · rw [if_neg (nt hc106)] at h81
        refine C_skip_to (fun _ _ => rfl) ?_
        refine C_region ?_
        refine V_y (Y_addI rfl rfl) rfl rfl rfl ?_
        refine V_y (Y_move rfl) rfl rfl rfl ?_
        obtain rfl := Option.some.inj h81
        refine V_end (fun a ha107 => ?_)
        exact ⟨(), hlt84, h82, ⟨A78, ha107.sub ⟨rfl, rfl, rfl, (congrArg (fun z => some (Value.int .i64 z)) (w64_succ hlt84 hn87)), trivial⟩, ⟨hH, hr69⟩⟩⟩
    · refine C_exit (fun a ha108 => ?_)
      exact ⟨((), A78), ha108.sub trivial, ⟨(h85 (eq_of_dec hle83 hc88)).symm, hH, hr69⟩⟩
  rintro ⟨s68, A74⟩ w71 ⟨rfl, hH75, hk72⟩ a ha73
  rw [Lp.andThen_fin] at hm
  replace hK := Tr.trans (Dw := Dw) hK hk72
  replace hB := Nat.le_trans hB hk72.ex.size
  replace hA := hk72.new
  replace hH : Hp B A74 w71 (obCk 68 portref2_ShiftsIn b_k_ k_ :: L) := hH75
  refine C_at (n := ⟨62, [], none⟩) (fun _ _ => rfl) ?_ ha73
  refine C_seq ?_
  refine C_region ?_
  refine V_y (Y_assign rfl) rfl rfl rfl ?_
  refine V_to (fun _ _ => rfl) ?_
  obtain rfl := Option.some.inj hm
  refine C_ret ?_
  try simp only [↓inBlock_ret, ↓then_ret]
  exact retQ rfl (Res.one Try.results20 rfl) ⟨A74, rfl, hH, hK⟩

set_option maxRecDepth 4000 in
set_option maxHeartbeats 4000000 in
theorem portref2_CommonIn_1_c (w : World) {A : Nat → Prop} {B : Nat} (hB : B ≤ w.heap.size) (hA : ∀ b, w.heap.size ≤ b → A b) (m : Int) (p1 : (List cal_Calendar)) (b_p1 : Nat) (v_p1 : Value) (p2 : Int) (b_p2 : Nat) (h_p2 : El A w b_p2 0 p2) {L : List Ob} (hH : Hp B A w (obC b_p1 [v_p1] 50 :: obPS (obCk 68 portref2_ShiftsIn) 51 v_p1 p1 :: L)) {r : Bool} (hm : portref2_CommonIn_1 m p1 p2 = some r) : Ret Try.prog 19 #[.int .i64 m, .pointer (some ⟨b_p1, 0, none⟩), .pointer (some ⟨b_p2, 0, none⟩)] w fun v w' => ∃ A1 : Nat → Prop, v = .bool r ∧ Hp B A1 w' (obC b_p1 [v_p1] 50 :: obPS (obCk 68 portref2_ShiftsIn) 51 v_p1 p1 :: L) ∧ Tr Dw B A w A1 w' := by
  unfold portref2_CommonIn_1 at hm
  refine enter Try.func19 rfl Try.ntmps19 rfl ?_
  have hK : Tr Dw B A w A w := Tr.refl (Dw := Dw) hA
  refine C_seq ?_
  refine C_region ?_
  refine V_y (Y_assign rfl) rfl rfl rfl ?_
  refine V_to (fun _ _ => rfl) ?_
  refine C_seq ?_
  refine C_region ?_
  refine V_y (Y_assign rfl) rfl rfl rfl ?_
  refine V_to (fun _ _ => rfl) ?_
  refine C_seq ?_
  refine C_seq ?_
  refine C_region ?_
  refine V_y (Y_load (Hp.cell (j := 0) hH (i := 0) rfl rfl) Try.isAgg50 rfl) rfl rfl rfl ?_
  refine V_y (Y_lenPS (Hp.psForm (f := obCk 68 portref2_ShiftsIn) (e := 51) (v := v_p1) (cs := p1) hH (i := 1) rfl) rfl Try.underlying50 rfl) rfl rfl rfl ?_
  refine V_y (Y_move rfl) rfl rfl rfl ?_
  refine V_to (fun _ _ => rfl) ?_
  have hn23 := Hp.psLe (f := obCk 68 portref2_ShiftsIn) (e := 51) (v := v_p1) (cs := p1) hH (i := 1) rfl
  obtain ⟨o3, ho3, hm⟩ := Option.bind_eq_some_iff.1 hm
  refine C_cutG (ι := (Int × (Nat → Prop))) (fun ⟨s4, A10⟩ => [(2, .pointer (some ⟨b_p2, 0, none⟩)), (5, .int .i64 s4)]) (fun ⟨s4, A10⟩ => fun w' => o3 = .fin s4 ∧ Hp B A10 w' (obC b_p1 [v_p1] 50 :: obPS (obCk 68 portref2_ShiftsIn) 51 v_p1 p1 :: L) ∧ Tr Dw B A w A10 w') ?_ ?_
  · refine C_block ?_
    refine C_range ho3 (fun k6 s12 a w' => ∃ i : (Nat → Prop), Has ⟨23, [], none⟩ a ([(0, .int .i64 m), (2, .pointer (some ⟨b_p2, 0, none⟩)), (5, .int .i64 s12), (8, v_p1), (9, .int .i64 (p1.length : Int)), (10, .int .i64 (k6 : Int))]) ∧ Hp B i w' (obC b_p1 [v_p1] 50 :: obPS (obCk 68 portref2_ShiftsIn) 51 v_p1 p1 :: L) ∧ Tr Dw B A w i w') (fun a ha => ⟨A, ha.sub ⟨rfl, rfl, rfl, rfl, rfl, rfl, trivial⟩, ⟨hH, Tr.refl (Dw := Dw) hA⟩⟩) ?_
    rintro K k6 s12 a w13 ⟨A14, ha56, hH15, hr5⟩ hle19 K22 h21
    refine C_of ?_ ha56
    replace h_p2 := El.tr (Dw := Dw) h_p2 hr5
    replace hK := Tr.trans (Dw := Dw) hK hr5
    replace hB := Nat.le_trans hB hr5.ex.size
    replace hA := hr5.new
    replace hH : Hp B A14 w13 (obC b_p1 [v_p1] 50 :: obPS (obCk 68 portref2_ShiftsIn) 51 v_p1 p1 :: L) := hH15
    refine C_seq (C_region (V_y (Y_lss rfl rfl) rfl rfl rfl (V_to (fun _ _ => rfl) ?_)))
    refine C_seq ?_
    refine C_cond rfl (fun hc24 => ?_) (fun hc24 => ?_)
    · have hlt20 := lt_of_dec hc24
      obtain ⟨x16, h17, h18⟩ := K22 hlt20
      refine C_skip_to (fun _ _ => rfl) ?_
      refine C_seq ?_
      obtain ⟨s26, ho25, h17⟩ := Option.bind_eq_some_iff.1 h17
      refine C_cutG (ι := (Nat → Prop)) (fun (A31 : (Nat → Prop)) => [(0, .int .i64 m), (2, .pointer (some ⟨b_p2, 0, none⟩)), (5, .int .i64 s26), (8, v_p1), (9, .int .i64 (p1.length : Int)), (10, .int .i64 (k6 : Int))]) (fun (A31 : (Nat → Prop)) => fun w' => Hp B A31 w' (obC b_p1 [v_p1] 50 :: obPS (obCk 68 portref2_ShiftsIn) 51 v_p1 p1 :: L) ∧ Tr Dw B A14 w13 A31 w') ?_ ?_
      · have hr27 : Tr Dw B A14 w13 A14 w13 := Tr.refl (Dw := Dw) hA
        refine C_block ?_
        refine C_seq ?_
        refine C_region ?_
        obtain ⟨x33, hx33, ho25⟩ := Option.bind_eq_some_iff.1 ho25
        refine V_indexAddrPS (f := obCk 68 portref2_ShiftsIn) (e := 51) (v := v_p1) (cs := p1) hH (i := 1) rfl hx33 Try.underlying50 Try.sizeOf51 rfl rfl rfl ?_
        intro b34 o35 b37 hk38 h36 hH
        replace hH : Hp B A14 w13 (obCk 68 portref2_ShiftsIn b37 x33 :: obC b_p1 [v_p1] 50 :: obPX (obCk 68 portref2_ShiftsIn) 51 v_p1 p1 (Int.toNat (k6 : Int)) b37 :: L) := hH
        refine V_y (Y_load h36 Try.isAgg51 rfl) rfl rfl rfl ?_
        refine V_y (Y_assign rfl) rfl rfl rfl ?_
        refine V_to (fun _ _ => rfl) ?_
        refine C_seq ?_
        refine C_region ?_
        refine V_y (Y_move rfl) rfl rfl rfl ?_
        refine V_y (Y_move rfl) rfl rfl rfl ?_
        obtain ⟨x39, hx39, ho25⟩ := Option.bind_eq_some_iff.1 ho25
        refine V_call Try.call20 rfl rfl rfl rfl (portref2_Clock_Open_c (Dw := Dw) w13 hB hA x33 b37 m hH hx39) ?_
        rintro _ w40 ⟨A41, rfl, hH42, ht43⟩
        replace h_p2 := El.tr (Dw := Dw) h_p2 ht43
        replace hK := Tr.trans (Dw := Dw) hK ht43
        replace hr5 := Tr.trans (Dw := Dw) hr5 ht43
        replace hr27 := Tr.trans (Dw := Dw) hr27 ht43
        replace hB := Nat.le_trans hB ht43.ex.size
        replace hA := ht43.new
        replace hH : Hp B A41 w40 (obCk 68 portref2_ShiftsIn b37 x33 :: obC b_p1 [v_p1] 50 :: obPX (obCk 68 portref2_ShiftsIn) 51 v_p1 p1 (Int.toNat (k6 : Int)) b37 :: L) := hH42
        replace hH : Hp B A41 w40 (obC b_p1 [v_p1] 50 :: obPS (obCk 68 portref2_ShiftsIn) 51 v_p1 p1 :: L) := Hp.psBack hH (i := 1) rfl hk38
        refine V_to (fun _ _ => rfl) ?_
        obtain ⟨s45, ho44, ho25⟩ := Option.bind_eq_some_iff.1 ho25
        refine C_cutG (ι := Unit) (fun (_ : Unit) => [(0, .int .i64 m), (2, .pointer (some ⟨b_p2, 0, none⟩)), (5, .int .i64 s45), (8, v_p1), (9, .int .i64 (p1.length : Int)), (10, .int .i64 (k6 : Int))]) (fun (_ : Unit) => fun w' => w40 = w') ?_ ?_
        · refine C_cond rfl (fun hc50 => ?_) (fun hc50 => ?_)
          · rw [if_pos hc50] at ho44
            refine C_region ?_
            refine V_y (Y_move rfl) rfl rfl rfl ?_
            refine V_y (Y_addI rfl rfl) rfl rfl rfl ?_
            refine V_y (Y_assign rfl) rfl rfl rfl ?_
            obtain rfl := Option.some.inj ho44
            refine V_end (fun a ha51 => ?_)
            exact ⟨(), ha51.sub ⟨rfl, rfl, rfl, rfl, rfl, rfl, trivial⟩, rfl⟩
          · rw [if_neg (nt hc50)] at ho44
            obtain rfl := Option.some.inj ho44
            refine C_skip (fun a ha52 => ?_)
            exact ⟨(), ha52.sub ⟨rfl, rfl, rfl, rfl, rfl, rfl, trivial⟩, rfl⟩
        rintro _ _ rfl a ha49
        obtain rfl := Option.some.inj ho25
        exact ⟨A41, ha49.sub ⟨rfl, rfl, rfl, rfl, rfl, rfl, trivial⟩, ⟨hH, hr27⟩⟩
      rintro A31 w28 ⟨hH32, hk29⟩ a ha30
      replace h_p2 := El.tr (Dw := Dw) h_p2 hk29
      replace hK := Tr.trans (Dw := Dw) hK hk29
      replace hr5 := Tr.trans (Dw := Dw) hr5 hk29
      replace hB := Nat.le_trans hB hk29.ex.size
      replace hA := hk29.new
      replace hH : Hp B A31 w28 (obC b_p1 [v_p1] 50 :: obPS (obCk 68 portref2_ShiftsIn) 51 v_p1 p1 :: L) := hH32
      refine C_at (n := ⟨23, [], none⟩) (fun _ _ => rfl) ?_ ha30
      refine C_region ?_
      refine V_y (Y_addI rfl rfl) rfl rfl rfl ?_
      refine V_y (Y_move rfl) rfl rfl rfl ?_
      obtain rfl := Option.some.inj h17
      refine V_end (fun a ha54 => ?_)
      exact ⟨s26, hlt20, h18, ⟨A31, ha54.sub ⟨rfl, rfl, rfl, rfl, rfl, (congrArg (fun z => some (Value.int .i64 z)) (w64_succ hlt20 hn23)), trivial⟩, ⟨hH, hr5⟩⟩⟩
    · refine C_exit (fun a ha55 => ?_)
      exact ⟨(s12, A14), ha55.sub ⟨rfl, rfl, trivial⟩, ⟨(h21 (eq_of_dec hle19 hc24)).symm, hH, hr5⟩⟩
  rintro ⟨s4, A10⟩ w7 ⟨rfl, hH11, hk8⟩ a ha9
  rw [Lp.andThen_fin] at hm
  replace h_p2 := El.tr (Dw := Dw) h_p2 hk8
  replace hK := Tr.trans (Dw := Dw) hK hk8
  replace hB := Nat.le_trans hB hk8.ex.size
  replace hA := hk8.new
  replace hH : Hp B A10 w7 (obC b_p1 [v_p1] 50 :: obPS (obCk 68 portref2_ShiftsIn) 51 v_p1 p1 :: L) := hH11
  refine C_at (n := ⟨23, [], none⟩) (fun _ _ => rfl) ?_ ha9
  refine C_seq ?_
  refine C_region ?_
  refine V_y (Y_move rfl) rfl rfl rfl ?_
  refine V_y (Y_load (El.int h_p2) Try.isAgg3 rfl) rfl rfl rfl ?_
  refine V_y (Y_geq rfl rfl) rfl rfl rfl ?_
  refine V_y (Y_assign rfl) rfl rfl rfl ?_
  refine V_to (fun _ _ => rfl) ?_
  obtain rfl := Option.some.inj hm
  refine C_ret ?_
  try simp only [↓inBlock_ret, ↓then_ret]
  exact retQ rfl (Res.one Try.results19 rfl) ⟨A10, rfl, hH, hK⟩

set_option maxRecDepth 4000 in
set_option maxHeartbeats 4000000 in
theorem portref2_CommonIn_c (w : World) {A : Nat → Prop} (hA : ∀ b, w.heap.size ≤ b → A b) (l : (List cal_Calendar)) (v_l : Value) (h_l : Sl A w v_l l) (need : Int) (from_ : Int) (to_ : Int) {r : ((List cal_Span) × Int)} (hm : portref2_CommonIn l need from_ to_ = some r) : Ret Try.prog 5 #[v_l, .int .i64 need, .int .i64 from_, .int .i64 to_] w fun v w' => ∃ s0, v = .tuple #[s0, .int .i64 r.2] ∧ Ownd 29 w w' s0 r.1 ∧ Kp Dw w w' := by
  unfold portref2_CommonIn at hm
  refine enter Try.func5 rfl Try.ntmps5 rfl ?_
  have hA0 := hA
  have hB := Nat.le_refl w.heap.size
  have hK : Tr Dw w.heap.size A w A w := Tr.refl (Dw := Dw) hA
  have hH : Hp w.heap.size A w [] := Hp.nil
  refine C_seq ?_
  refine C_region ?_
  refine V_box rfl rfl ?_
  intro b3 w4 h5
  have hk7 := h5.kp (Dw := Dw)
  have h6 : El (α := Int) A w4 b3 0 need := h5.el hA rfl
  have ht8 := Kp.tr (Dw := Dw) hk7 hA hB
  replace hH := Hp.kp (Dw := Dw) hH hk7
  replace h_l := Sl.tr (Dw := Dw) h_l ht8
  replace hK := Tr.trans (Dw := Dw) hK ht8
  replace hB := Nat.le_trans hB ht8.ex.size
  replace hA := ht8.new
  refine V_y (Y_assign rfl) rfl rfl rfl ?_
  refine V_y (Y_assign rfl) rfl rfl rfl ?_
  refine V_to (fun _ _ => rfl) ?_
  refine C_seq ?_
  refine C_seq ?_
  refine C_region ?_
  refine V_y (Y_move rfl) rfl rfl rfl ?_
  refine V_y (Y_lenSl h_l rfl Try.underlying22 rfl) rfl rfl rfl ?_
  refine V_y (Y_gtr rfl rfl) rfl rfl rfl ?_
  refine V_to (fun _ _ => rfl) ?_
  refine C_cond rfl (fun hc9 => ?_) (fun hc9 => ?_)
  · rw [if_pos hc9] at hm
    refine C_seq ?_
    refine C_region ?_
    refine V_y (Y_assign rfl) rfl rfl rfl ?_
    refine V_y (Y_assign rfl) rfl rfl rfl ?_
    refine V_to (fun _ _ => rfl) ?_
    obtain rfl := Option.some.inj hm
    replace hH : Hp w.heap.size A w4 (obS (α := cal_Span) 29 (.slice none 0 0) ([] : (List cal_Span)) :: []) := Hp.addNil (α := cal_Span) (e := 29) hH
    refine C_ret ?_
    try simp only [↓inBlock_ret, ↓then_ret]
    exact retQ rfl (Res.two Try.results5 rfl rfl) ⟨.slice none 0 0, rfl, (Hp.ownd hH (i := 0) rfl), hK.kp⟩
  · rw [if_neg (nt hc9)] at hm
    refine C_skip_to (fun _ _ => rfl) ?_
    refine C_seq ?_
    refine C_region ?_
    refine V_allocH (Dw := Dw) (B := w.heap.size) hH Try.zeroValue50 hB hA rfl ?_
    intro b10 w11 A12 hH13 ht14
    replace h_l := Sl.tr (Dw := Dw) h_l ht14
    replace h6 := El.tr (Dw := Dw) h6 ht14
    replace hK := Tr.trans (Dw := Dw) hK ht14
    replace hB := Nat.le_trans hB ht14.ex.size
    replace hA := ht14.new
    replace hH : Hp w.heap.size A12 w11 (obC b10 [.slice none 0 0] 50 :: []) := hH13
    refine V_to (fun _ _ => rfl) ?_
    refine C_seq ?_
    refine C_seq ?_
    refine C_region ?_
    refine V_y (Y_move rfl) rfl rfl rfl ?_
    refine V_y (Y_lenSl h_l rfl Try.underlying22 rfl) rfl rfl rfl ?_
    refine V_y (Y_move rfl) rfl rfl rfl ?_
    refine V_to (fun _ _ => rfl) ?_
    replace hH : Hp w.heap.size A12 w11 (obPS (obCk 68 portref2_ShiftsIn) 51 (.slice none 0 0) ([] : (List cal_Calendar)) :: obC b10 [.slice none 0 0] 50 :: []) := Hp.psNil hH
    have hn39 := Sl.le h_l
    obtain ⟨o15, ho15, hm⟩ := Option.bind_eq_some_iff.1 hm
    refine C_cutG (ι := ((List cal_Calendar) × Value × (Nat → Prop))) (fun ⟨s16, v22, A24⟩ => [(2, .int .i64 from_), (3, .int .i64 to_), (5, .pointer (some ⟨b3, 0, none⟩)), (10, .pointer (some ⟨b10, 0, none⟩))]) (fun ⟨s16, v22, A24⟩ => fun w' => o15 = .fin s16 ∧ Hp w.heap.size A24 w' (obPS (obCk 68 portref2_ShiftsIn) 51 v22 s16 :: obC b10 [v22] 50 :: []) ∧ Tr Dw w.heap.size A12 w11 A24 w') ?_ ?_
    · refine C_block ?_
      refine C_range ho15 (fun k18 s26 a w' => ∃ i : (Value × (Nat → Prop)), Has ⟨56, [], none⟩ a ([(2, .int .i64 from_), (3, .int .i64 to_), (5, .pointer (some ⟨b3, 0, none⟩)), (10, .pointer (some ⟨b10, 0, none⟩)), (19, v_l), (20, .int .i64 (l.length : Int)), (21, .int .i64 (k18 : Int))]) ∧ Hp w.heap.size i.2 w' (obPS (obCk 68 portref2_ShiftsIn) 51 i.1 s26 :: obC b10 [i.1] 50 :: []) ∧ Tr Dw w.heap.size A12 w11 i.2 w') (fun a ha => ⟨(.slice none 0 0, A12), ha.sub ⟨rfl, rfl, rfl, rfl, rfl, rfl, rfl, trivial⟩, ⟨hH, Tr.refl (Dw := Dw) hA⟩⟩) ?_
      rintro K k18 s26 a w27 ⟨⟨v28, A30⟩, ha119, hH31, hr17⟩ hle35 K38 h37
      refine C_of ?_ ha119
      replace h6 := El.tr (Dw := Dw) h6 hr17
      replace h_l := Sl.tr (Dw := Dw) h_l hr17
      replace hK := Tr.trans (Dw := Dw) hK hr17
      replace hB := Nat.le_trans hB hr17.ex.size
      replace hA := hr17.new
      replace hH : Hp w.heap.size A30 w27 (obPS (obCk 68 portref2_ShiftsIn) 51 v28 s26 :: obC b10 [v28] 50 :: []) := hH31
      refine C_seq (C_region (V_y (Y_lss rfl rfl) rfl rfl rfl (V_to (fun _ _ => rfl) ?_)))
      refine C_seq ?_
      refine C_cond rfl (fun hc40 => ?_) (fun hc40 => ?_)
      · have hlt36 := lt_of_dec hc40
        obtain ⟨x32, h33, h34⟩ := K38 hlt36
        refine C_skip_to (fun _ _ => rfl) ?_
        refine C_seq ?_
        refine C_block ?_
        refine C_seq ?_
        refine C_region ?_
        obtain ⟨x41, hx41, h33⟩ := Option.bind_eq_some_iff.1 h33
        refine V_indexAddr h_l hx41 Try.underlying22 Try.sizeOf37 rfl rfl rfl ?_
        intro b42 o43 h44
        obtain ⟨v45, v47, v49, h51, h46, h48, h50⟩ := El_cal_Calendar h44
        refine V_y (Y_loadA h51 Try.isAgg37 Try.sizeOf37 rfl) rfl rfl rfl ?_
        refine V_alloc Try.zeroValue37 rfl ?_
        intro b52 w53 h54
        have h59 : (v45).oneCell' = true := by obtain ⟨_, _, e, _⟩ := Sl.form h46; rw [e]; rfl
        have h62 : (v47).oneCell' = true := by obtain ⟨_, _, e, _⟩ := Sl.form h48; rw [e]; rfl
        have h65 : (v49).oneCell' = true := by obtain ⟨_, _, e, _⟩ := Sl.form h50; rw [e]; rfl
        refine V_storeNew h54 Try.sizeOf37 rfl rfl rfl rfl (by exact (List.forall_mem_cons.2 ⟨rfl, (List.forall_mem_cons.2 ⟨h59, (List.forall_mem_cons.2 ⟨h62, (List.forall_mem_cons.2 ⟨h65, (fun _ h => nomatch h)⟩)⟩)⟩)⟩)) ?_
        intro w55 h56
        have hk67 := h56.kp (Dw := Dw)
        have h66 : El (α := cal_Calendar) A30 w55 b52 0 x41 := h56.el hA ⟨[.int .i64 x41.zone.offset, v45], _, rfl, ⟨[.int .i64 x41.zone.offset], _, rfl, rfl, ⟨_, rfl, h46⟩⟩, ⟨[v47], _, rfl, ⟨_, rfl, h48⟩, ⟨_, rfl, h50⟩⟩⟩
        have ht68 := Kp.tr (Dw := Dw) hk67 hA hB
        replace hH := Hp.kp (Dw := Dw) hH hk67
        replace h6 := El.tr (Dw := Dw) h6 ht68
        replace h_l := Sl.tr (Dw := Dw) h_l ht68
        replace h44 := El.tr (Dw := Dw) h44 ht68
        replace h46 := Sl.tr (Dw := Dw) h46 ht68
        replace h48 := Sl.tr (Dw := Dw) h48 ht68
        replace h50 := Sl.tr (Dw := Dw) h50 ht68
        replace hK := Tr.trans (Dw := Dw) hK ht68
        replace hr17 := Tr.trans (Dw := Dw) hr17 ht68
        replace hB := Nat.le_trans hB ht68.ex.size
        replace hA := ht68.new
        refine V_to (fun _ _ => rfl) ?_
        refine C_seq ?_
        refine C_seq ?_
        refine C_region ?_
        obtain ⟨v69, v71, v73, h75, h70, h72, h74⟩ := El_cal_Calendar h66
        refine V_y (Y_loadA h75 Try.isAgg37 Try.sizeOf37 rfl) rfl rfl rfl ?_
        obtain ⟨x76, hx76, h33⟩ := Option.bind_eq_some_iff.1 h33
        refine V_call Try.call15 rfl rfl rfl rfl (portref2_CalendarFault_c (Dw := Dw) w55 hA x41 v69 h70 v71 h72 v73 h74 hx76) ?_
        rintro _ w77 ⟨rfl, hk78⟩
        have ht79 := Kp.tr (Dw := Dw) hk78 hA hB
        replace hH := Hp.kp (Dw := Dw) hH hk78
        replace h6 := El.tr (Dw := Dw) h6 ht79
        replace h_l := Sl.tr (Dw := Dw) h_l ht79
        replace h66 := El.tr (Dw := Dw) h66 ht79
        replace h70 := Sl.tr (Dw := Dw) h70 ht79
        replace h72 := Sl.tr (Dw := Dw) h72 ht79
        replace h74 := Sl.tr (Dw := Dw) h74 ht79
        replace hK := Tr.trans (Dw := Dw) hK ht79
        replace hr17 := Tr.trans (Dw := Dw) hr17 ht79
        replace hB := Nat.le_trans hB ht79.ex.size
        replace hA := ht79.new
        refine V_y (Y_assign rfl) rfl rfl rfl ?_
        refine V_to (fun _ _ => rfl) ?_
        refine C_seq ?_
        refine C_region ?_
        refine V_y (Y_move rfl) rfl rfl rfl ?_
        refine V_y (Y_neq rfl rfl) rfl rfl rfl ?_
        refine V_to (fun _ _ => rfl) ?_
        refine C_cond rfl (fun hc80 => ?_) (fun hc80 => ?_)
        · rw [if_pos hc80] at h33
          refine C_seq ?_
          refine C_region ?_
          refine V_y (Y_move rfl) rfl rfl rfl ?_
          refine V_y (Y_assign rfl) rfl rfl rfl ?_
          refine V_y (Y_assign rfl) rfl rfl rfl ?_
          refine V_to (fun _ _ => rfl) ?_
          obtain rfl := Option.some.inj h33
          obtain rfl := (h34 : Lp.rt _ = _)
          rw [Lp.andThen_rt] at hm
          obtain rfl := Option.some.inj hm
          replace hH : Hp w.heap.size A30 w77 (obS (α := cal_Span) 29 (.slice none 0 0) ([] : (List cal_Span)) :: obPS (obCk 68 portref2_ShiftsIn) 51 v28 s26 :: obC b10 [v28] 50 :: []) := Hp.addNil (α := cal_Span) (e := 29) hH
          refine C_ret ?_
          try simp only [↓inBlock_ret, ↓then_ret]
          exact retQ rfl (Res.two Try.results5 rfl rfl) ⟨.slice none 0 0, rfl, (Hp.ownd hH (i := 0) rfl), hK.kp⟩
        · rw [if_neg (nt hc80)] at h33
          refine C_skip_to (fun _ _ => rfl) ?_
          refine C_region_ch (Dw := Dw) A30 6 [(0, 0), (1, 1), (2, 2), (2, 3), (4, 4), (4, 5)] Try_mixed (by kernel_rfl) (fun w81 hk82 => ?_)
          have ht83 := Kp.tr (Dw := Dw) hk82 hA hB
          replace hH := Hp.kp (Dw := Dw) hH hk82
          replace h6 := El.tr (Dw := Dw) h6 ht83
          replace h_l := Sl.tr (Dw := Dw) h_l ht83
          replace h66 := El.tr (Dw := Dw) h66 ht83
          replace hK := Tr.trans (Dw := Dw) hK ht83
          replace hr17 := Tr.trans (Dw := Dw) hr17 ht83
          replace hB := Nat.le_trans hB ht83.ex.size
          replace hA := ht83.new
          refine CH_q1 (Dw := Dw) rfl ?_
          refine VQ_y (fun w' hw' => Y_load ((World.cell?_of_block (hw'.block _ (World.block_lt_of_cell? _ _ (Hp.cell (j := 0) hH (i := 1) rfl rfl)))).trans (Hp.cell (j := 0) hH (i := 1) rfl rfl)) Try.isAgg50 rfl) rfl rfl rfl ?_
          refine VQ_CH (Dw := Dw) ?_
          refine CH_q2 (Dw := Dw) rfl ?_
          obtain ⟨v84, v86, v88, h90, h85, h87, h89⟩ := El_cal_Calendar h66
          refine VQ_y (fun w' hw' => Y_loadA (At.same h90 (hw'.2 _ h66.2.1 h66.1)) Try.isAgg37 Try.sizeOf37 rfl) rfl rfl rfl ?_
          refine VQ_CH (Dw := Dw) ?_
          refine CH_l1 (Dw := Dw) (k := 0) rfl ?_
          obtain ⟨x91, hx91, h33⟩ := Option.bind_eq_some_iff.1 h33
          refine V_call Try.call16 rfl rfl rfl rfl (portref2_NewClock_c (Dw := Dw) w81 (B := w81.heap.size) (Nat.le_refl _) hA x41 v84 h85 v86 h87 v88 h89 Hp.nil hx91) ?_
          rintro _ w93 ⟨b92, A94, rfl, hH95, ht96⟩
          have hk97 : Kp Dw w81 w93 := ht96.below
          have hH98 := Hp.join (Dw := Dw) hH hB ht96 hH95
          have ht99 := Tr.lower (Dw := Dw) ht96 hB
          replace h6 := El.tr (Dw := Dw) h6 ht99
          replace h_l := Sl.tr (Dw := Dw) h_l ht99
          replace h66 := El.tr (Dw := Dw) h66 ht99
          replace h85 := Sl.tr (Dw := Dw) h85 ht99
          replace h87 := Sl.tr (Dw := Dw) h87 ht99
          replace h89 := Sl.tr (Dw := Dw) h89 ht99
          replace hK := Tr.trans (Dw := Dw) hK ht99
          replace hr17 := Tr.trans (Dw := Dw) hr17 ht99
          replace hB := Nat.le_trans hB ht99.ex.size
          replace hA := ht99.new
          replace hH : Hp w.heap.size A94 w93 (obCk 68 portref2_ShiftsIn b92 x91 :: obPS (obCk 68 portref2_ShiftsIn) 51 v28 s26 :: obC b10 [v28] 50 :: []) := hH98
          refine V_CH (Dw := Dw) (hk97) ?_
          refine CH_l1 (Dw := Dw) (k := 0) rfl ?_
          refine V_buildSlice (Dw := Dw) (l := [(⟨b92⟩ : Ptr)]) (len := 1) Try.underlying50 Try.sizeOf51 Try.zeroValue51 rfl (by with_unfolding_all rfl) (by decide) (by decide) hA ⟨[.pointer (some ⟨b92, 0, none⟩)], _, rfl, rfl, rfl⟩ rfl rfl ?_
          intro v100 w101 hk103 h102
          have ht104 := Kp.tr (Dw := Dw) hk103 hA hB
          replace hH := Hp.kp (Dw := Dw) hH hk103
          replace h6 := El.tr (Dw := Dw) h6 ht104
          replace h_l := Sl.tr (Dw := Dw) h_l ht104
          replace h66 := El.tr (Dw := Dw) h66 ht104
          replace h85 := Sl.tr (Dw := Dw) h85 ht104
          replace h87 := Sl.tr (Dw := Dw) h87 ht104
          replace h89 := Sl.tr (Dw := Dw) h89 ht104
          replace hK := Tr.trans (Dw := Dw) hK ht104
          replace hr17 := Tr.trans (Dw := Dw) hr17 ht104
          replace hB := Nat.le_trans hB ht104.ex.size
          replace hA := ht104.new
          refine V_CH (Dw := Dw) (hk103) ?_
          refine CH_l1 (Dw := Dw) (k := 2) rfl ?_
          obtain ⟨x105, hx105, h33⟩ := Option.bind_eq_some_iff.1 h33
          refine V_appendPS (Dw := Dw) (f := obCk 68 portref2_ShiftsIn) (e := 51) (v := v28) (cs := s26) (c := x91) (ti := Try.t51) (bytes := 8) (lim := 17592186044416) hH (i := 0) rfl h102 hx105 Try.underlying50 Try_info51 rfl rfl rfl rfl (by decide) (by decide) hB hA rfl rfl rfl ?_
          intro v106 w107 A108 hH109 ht110
          replace h6 := El.tr (Dw := Dw) h6 ht110
          replace h_l := Sl.tr (Dw := Dw) h_l ht110
          replace h66 := El.tr (Dw := Dw) h66 ht110
          replace h85 := Sl.tr (Dw := Dw) h85 ht110
          replace h87 := Sl.tr (Dw := Dw) h87 ht110
          replace h89 := Sl.tr (Dw := Dw) h89 ht110
          replace h102 := Sl.tr (Dw := Dw) h102 ht110
          replace hK := Tr.trans (Dw := Dw) hK ht110
          replace hr17 := Tr.trans (Dw := Dw) hr17 ht110
          replace hB := Nat.le_trans hB ht110.ex.size
          replace hA := ht110.new
          replace hH : Hp w.heap.size A108 w107 (obPS (obCk 68 portref2_ShiftsIn) 51 v106 x105 :: obC b10 [v28] 50 :: []) := hH109
          refine V_CHw (Dw := Dw) ?_
          refine CH_l1 (Dw := Dw) (k := 2) rfl ?_
          have h116 : (v106).oneCell' = true := Hp.psOne (f := obCk 68 portref2_ShiftsIn) (e := 51) (v := v106) (cs := x105) hH (i := 0) rfl
          refine V_storeC (Dw := Dw) (off := 0) (ds := [v106]) hH (i := 1) rfl Try.sizeOf50 (by rw [← Array.length_toList, Value.cells_one h116]; rfl) (Nat.le_of_ble_eq_true rfl) (by intro u hu; rw [Value.cells_one h116] at hu; simp at hu; subst hu; assumption) (by rw [Value.cells_one h116]; rfl) hB hA rfl rfl ?_
          intro w111 hH112 ht113
          replace h6 := El.tr (Dw := Dw) h6 ht113
          replace h_l := Sl.tr (Dw := Dw) h_l ht113
          replace h66 := El.tr (Dw := Dw) h66 ht113
          replace h85 := Sl.tr (Dw := Dw) h85 ht113
          replace h87 := Sl.tr (Dw := Dw) h87 ht113
          replace h89 := Sl.tr (Dw := Dw) h89 ht113
          replace h102 := Sl.tr (Dw := Dw) h102 ht113
          replace hK := Tr.trans (Dw := Dw) hK ht113
          replace hr17 := Tr.trans (Dw := Dw) hr17 ht113
          replace hB := Nat.le_trans hB ht113.ex.size
          replace hA := ht113.new
          replace hH : Hp w.heap.size A108 w111 (obPS (obCk 68 portref2_ShiftsIn) 51 v106 x105 :: obC b10 [v106] 50 :: []) := hH112
          refine V_CHw (Dw := Dw) ?_
          refine CH_tail (Dw := Dw) ?_
          show V _ _ _ _ [] _ _
          refine V_to (fun _ _ => rfl) ?_
          refine C_region ?_
          refine V_y (Y_addI rfl rfl) rfl rfl rfl ?_
          refine V_y (Y_move rfl) rfl rfl rfl ?_
          obtain rfl := Option.some.inj h33
          refine V_end (fun a ha117 => ?_)
          exact ⟨x105, hlt36, h34, ⟨(v106, A108), ha117.sub ⟨rfl, rfl, rfl, rfl, rfl, rfl, (congrArg (fun z => some (Value.int .i64 z)) (w64_succ hlt36 hn39)), trivial⟩, ⟨hH, hr17⟩⟩⟩
      · refine C_exit (fun a ha118 => ?_)
        exact ⟨(s26, v28, A30), ha118.sub ⟨rfl, rfl, rfl, rfl, trivial⟩, ⟨(h37 (eq_of_dec hle35 hc40)).symm, hH, hr17⟩⟩
    rintro ⟨s16, v22, A24⟩ w19 ⟨rfl, hH25, hk20⟩ a ha21
    rw [Lp.andThen_fin] at hm
    replace h6 := El.tr (Dw := Dw) h6 hk20
    replace hK := Tr.trans (Dw := Dw) hK hk20
    replace hB := Nat.le_trans hB hk20.ex.size
    replace hA := hk20.new
    replace hH : Hp w.heap.size A24 w19 (obPS (obCk 68 portref2_ShiftsIn) 51 v22 s16 :: obC b10 [v22] 50 :: []) := hH25
    refine C_at (n := ⟨56, [], none⟩) (fun _ _ => rfl) ?_ ha21
    refine C_seq ?_
    refine C_seq ?_
    refine C_region ?_
    refine V_y (Y_load (El.int h6) Try.isAgg3 rfl) rfl rfl rfl ?_
    refine V_y (Y_lss rfl rfl) rfl rfl rfl ?_
    refine V_y (Y_move rfl) rfl rfl rfl ?_
    refine V_cut 3 (fun _ : Unit => [(2, .int .i64 from_), (3, .int .i64 to_), (5, .pointer (some ⟨b3, 0, none⟩)), (10, .pointer (some ⟨b10, 0, none⟩)), (41, .bool ((decide (need < 1)) || (decide ((50 : Int) < need))))]) (fun _ w' => w19 = w') ?_ ?_
    · simp only [List.take, List.drop]
      rcases Bool.eq_false_or_eq_true (decide (need < 1)) with hc120 | hc120
      · refine V_gn rfl rfl rfl hc120 rfl rfl rfl ?_
        refine V_gn rfl rfl rfl hc120 rfl rfl rfl ?_
        refine V_y (Y_pick_te rfl hc120 rfl) rfl rfl rfl ?_
        exact V_end fun a ha => ⟨(), ha.sub ⟨rfl, rfl, rfl, rfl, (by rw [hc120]; rfl), trivial⟩, rfl⟩
      · refine V_ge rfl rfl rfl hc120 ?_
        refine V_y (Y_load (El.int h6) Try.isAgg3 rfl) rfl rfl rfl ?_
        refine V_ge rfl rfl rfl hc120 ?_
        refine V_y (Y_gtr rfl rfl) rfl rfl rfl ?_
        refine V_y (Y_pick_fe rfl hc120 rfl) rfl rfl rfl ?_
        exact V_end fun a ha => ⟨(), ha.sub ⟨rfl, rfl, rfl, rfl, (by rw [hc120]; rfl), trivial⟩, rfl⟩
    simp only [List.take, List.drop]
    rintro _ _ rfl
    refine V_to (fun _ _ => rfl) ?_
    refine C_cond rfl (fun hc122 => ?_) (fun hc122 => ?_)
    · rw [if_pos hc122] at hm
      refine C_seq ?_
      refine C_region ?_
      refine V_y (Y_assign rfl) rfl rfl rfl ?_
      refine V_y (Y_assign rfl) rfl rfl rfl ?_
      refine V_to (fun _ _ => rfl) ?_
      obtain rfl := Option.some.inj hm
      replace hH : Hp w.heap.size A24 w19 (obS (α := cal_Span) 29 (.slice none 0 0) ([] : (List cal_Span)) :: obPS (obCk 68 portref2_ShiftsIn) 51 v22 s16 :: obC b10 [v22] 50 :: []) := Hp.addNil (α := cal_Span) (e := 29) hH
      refine C_ret ?_
      try simp only [↓inBlock_ret, ↓then_ret]
      exact retQ rfl (Res.two Try.results5 rfl rfl) ⟨.slice none 0 0, rfl, (Hp.ownd hH (i := 0) rfl), hK.kp⟩
    · rw [if_neg (nt hc122)] at hm
      refine C_skip_to (fun _ _ => rfl) ?_
      refine C_seq ?_
      refine C_seq ?_
      refine C_region ?_
      refine V_y (Y_move rfl) rfl rfl rfl ?_
      refine V_y (Y_move rfl) rfl rfl rfl ?_
      refine V_call Try.call17 rfl rfl rfl rfl (portref2_rangeFault_c w19 from_ to_) ?_
      rintro _ _ ⟨rfl, rfl⟩
      refine V_y (Y_assign rfl) rfl rfl rfl ?_
      refine V_to (fun _ _ => rfl) ?_
      refine C_seq ?_
      refine C_region ?_
      refine V_y (Y_move rfl) rfl rfl rfl ?_
      refine V_y (Y_neq rfl rfl) rfl rfl rfl ?_
      refine V_to (fun _ _ => rfl) ?_
      refine C_cond rfl (fun hc123 => ?_) (fun hc123 => ?_)
      · rw [if_pos hc123] at hm
        refine C_seq ?_
        refine C_region ?_
        refine V_y (Y_move rfl) rfl rfl rfl ?_
        refine V_y (Y_assign rfl) rfl rfl rfl ?_
        refine V_y (Y_assign rfl) rfl rfl rfl ?_
        refine V_to (fun _ _ => rfl) ?_
        obtain rfl := Option.some.inj hm
        replace hH : Hp w.heap.size A24 w19 (obS (α := cal_Span) 29 (.slice none 0 0) ([] : (List cal_Span)) :: obPS (obCk 68 portref2_ShiftsIn) 51 v22 s16 :: obC b10 [v22] 50 :: []) := Hp.addNil (α := cal_Span) (e := 29) hH
        refine C_ret ?_
        try simp only [↓inBlock_ret, ↓then_ret]
        exact retQ rfl (Res.two Try.results5 rfl rfl) ⟨.slice none 0 0, rfl, (Hp.ownd hH (i := 0) rfl), hK.kp⟩
      · rw [if_neg (nt hc123)] at hm
        refine C_skip_to (fun _ _ => rfl) ?_
        refine C_seq ?_
        refine C_region ?_
        refine V_y (Y_move rfl) rfl rfl rfl ?_
        refine V_y (Y_move rfl) rfl rfl rfl ?_
        refine V_y (Y_makeFunc rfl rfl) rfl rfl rfl ?_
        replace hH : Hp w.heap.size A24 w19 (obC b10 [v22] 50 :: obPS (obCk 68 portref2_ShiftsIn) 51 v22 s16 :: []) := Hp.front hH (i := 1) rfl
        replace hH : Hp w.heap.size A24 w19 (obE (fun _ : Unit => [obC b10 [v22] 50, obPS (obCk 68 portref2_ShiftsIn) 51 v22 s16]) :: []) := Hp.pack (F := fun _ : Unit => [obC b10 [v22] 50, obPS (obCk 68 portref2_ShiftsIn) 51 v22 s16]) () hH
        obtain ⟨x125, hx125, hm⟩ := Option.bind_eq_some_iff.1 hm
        refine V_call Try.call18 rfl rfl rfl rfl (portref2_spansOf_c (Dw := Dw) w19 hB hA from_ to_ (fun y128 => portref2_CommonIn_1 y128 s16 need) (obE (fun _ : Unit => [obC b10 [v22] 50, obPS (obCk 68 portref2_ShiftsIn) 51 v22 s16])) (.func (.func 19) #[] #[.pointer (some ⟨b10, 0, none⟩), .pointer (some ⟨b3, 0, none⟩)]) rfl (fun w2 A2 L2 x2 r2 h1 h2 h3 h4 h5 => CallV.func Try.call19 rfl ((portref2_CommonIn_1_c (Dw := Dw) w2 h1 h2 x2 s16 b10 v22 need b3 (El.tr (Dw := Dw) h6 h3) (Hp.un h4) h5).mono fun _ _ ⟨A3, e, hh, tt⟩ => ⟨e, A3, tt, Hp.pack () hh⟩)) hH hx125) ?_
        rintro v126 w129 ⟨_, A130, rfl, hH131, ht132⟩
        replace h6 := El.tr (Dw := Dw) h6 ht132
        replace hK := Tr.trans (Dw := Dw) hK ht132
        replace hB := Nat.le_trans hB ht132.ex.size
        replace hA := ht132.new
        replace hH : Hp w.heap.size A130 w129 (obS (α := cal_Span) 29 v126 x125 :: obE (fun _ : Unit => [obC b10 [v22] 50, obPS (obCk 68 portref2_ShiftsIn) 51 v22 s16]) :: []) := hH131
        replace hH : Hp w.heap.size A130 w129 (obE (fun _ : Unit => [obC b10 [v22] 50, obPS (obCk 68 portref2_ShiftsIn) 51 v22 s16]) :: obS (α := cal_Span) 29 v126 x125 :: []) := Hp.front hH (i := 1) rfl
        replace hH : Hp w.heap.size A130 w129 (obC b10 [v22] 50 :: obPS (obCk 68 portref2_ShiftsIn) 51 v22 s16 :: obS (α := cal_Span) 29 v126 x125 :: []) := Hp.un hH
        refine V_y (Y_assign rfl) rfl rfl rfl ?_
        refine V_to (fun _ _ => rfl) ?_
        refine C_seq ?_
        refine C_seq ?_
        refine C_region ?_
        refine V_y (Y_move rfl) rfl rfl rfl ?_
        refine V_y (Y_lenSl (Hp.any (α := cal_Span) (e := 29) (v := v126) (l := x125) hH (i := 2) rfl) rfl Try.underlying23 rfl) rfl rfl rfl ?_
        refine V_y (Y_gtr rfl rfl) rfl rfl rfl ?_
        refine V_to (fun _ _ => rfl) ?_
        refine C_cond rfl (fun hc133 => ?_) (fun hc133 => ?_)
        · rw [if_pos hc133] at hm
          refine C_seq ?_
          refine C_region ?_
          refine V_y (Y_assign rfl) rfl rfl rfl ?_
          refine V_y (Y_assign rfl) rfl rfl rfl ?_
          refine V_to (fun _ _ => rfl) ?_
          obtain rfl := Option.some.inj hm
          replace hH : Hp w.heap.size A130 w129 (obS (α := cal_Span) 29 (.slice none 0 0) ([] : (List cal_Span)) :: obC b10 [v22] 50 :: obPS (obCk 68 portref2_ShiftsIn) 51 v22 s16 :: obS (α := cal_Span) 29 v126 x125 :: []) := Hp.addNil (α := cal_Span) (e := 29) hH
          refine C_ret ?_
          try simp only [↓inBlock_ret, ↓then_ret]
          exact retQ rfl (Res.two Try.results5 rfl rfl) ⟨.slice none 0 0, rfl, (Hp.ownd hH (i := 0) rfl), hK.kp⟩
        · rw [if_neg (nt hc133)] at hm
          refine C_skip_to (fun _ _ => rfl) ?_
          refine C_seq ?_
          refine C_region ?_
          refine V_y (Y_move rfl) rfl rfl rfl ?_
          refine V_y (Y_assign rfl) rfl rfl rfl ?_
          refine V_y (Y_assign rfl) rfl rfl rfl ?_
          refine V_to (fun _ _ => rfl) ?_
          obtain rfl := Option.some.inj hm
          refine C_ret ?_
          try simp only [↓inBlock_ret, ↓then_ret]
          exact retQ rfl (Res.two Try.results5 rfl rfl) ⟨v126, rfl, (Hp.ownd hH (i := 2) rfl), hK.kp⟩

set_option maxRecDepth 4000 in
set_option maxHeartbeats 4000000 in
theorem slices_Equal_Lcal_Span_cal_Span_c (w : World) {A : Nat → Prop} (hA : ∀ b, w.heap.size ≤ b → A b) (s1 : (List cal_Span)) (v_s1 : Value) (h_s1 : Sl A w v_s1 s1) (s2 : (List cal_Span)) (v_s2 : Value) (h_s2 : Sl A w v_s2 s2) {r : Bool} (hm : slices_Equal_Lcal_Span_cal_Span s1 s2 = some r) : Ret Try.prog 6 #[v_s1, v_s2] w fun v w' => v = .bool r ∧ Kp Dw w w' := by
  unfold slices_Equal_Lcal_Span_cal_Span at hm
  refine enter Try.func6 rfl Try.ntmps6 rfl ?_
  have hA0 := hA
  have hB := Nat.le_refl w.heap.size
  have hK : Tr Dw w.heap.size A w A w := Tr.refl (Dw := Dw) hA
  have hH : Hp w.heap.size A w [] := Hp.nil
  refine C_seq ?_
  refine C_region ?_
  refine V_y (Y_assign rfl) rfl rfl rfl ?_
  refine V_to (fun _ _ => rfl) ?_
  refine C_seq ?_
  refine C_seq ?_
  refine C_region ?_
  refine V_y (Y_move rfl) rfl rfl rfl ?_
  refine V_y (Y_lenSl h_s1 rfl Try.underlying23 rfl) rfl rfl rfl ?_
  refine V_y (Y_move rfl) rfl rfl rfl ?_
  refine V_y (Y_lenSl h_s2 rfl Try.underlying23 rfl) rfl rfl rfl ?_
  refine V_y (Y_neq rfl rfl) rfl rfl rfl ?_
  refine V_to (fun _ _ => rfl) ?_
  refine C_cond rfl (fun hc5 => ?_) (fun hc5 => ?_)
  · rw [if_pos hc5] at hm
    refine C_seq ?_
    refine C_region ?_
    refine V_y (Y_assign rfl) rfl rfl rfl ?_
    refine V_to (fun _ _ => rfl) ?_
    obtain rfl := Option.some.inj hm
    refine C_ret ?_
    try simp only [↓inBlock_ret, ↓then_ret]
    exact retQ rfl (Res.one Try.results6 rfl) ⟨rfl, hK.kp⟩
  · rw [if_neg (nt hc5)] at hm
    refine C_skip_to (fun _ _ => rfl) ?_
    refine C_seq ?_
    refine C_seq ?_
    refine C_region ?_
    refine V_y (Y_move rfl) rfl rfl rfl ?_
    refine V_y (Y_lenSl h_s1 rfl Try.underlying23 rfl) rfl rfl rfl ?_
    refine V_y (Y_move rfl) rfl rfl rfl ?_
    refine V_to (fun _ _ => rfl) ?_
    have hn27 := Sl.le h_s1
    obtain ⟨o6, ho6, hm⟩ := Option.bind_eq_some_iff.1 hm
    refine C_cutG (ι := (Unit × (Nat → Prop))) (fun ⟨s7, A13⟩ => []) (fun ⟨s7, A13⟩ => fun w' => o6 = .fin s7 ∧ Hp w.heap.size A13 w' ([]) ∧ Tr Dw w.heap.size A w A13 w') ?_ ?_
    · refine C_block ?_
      refine C_range ho6 (fun k9 _ a w' => ∃ i : (Nat → Prop), Has ⟨26, [], none⟩ a ([(0, v_s1), (1, v_s2), (12, .int .i64 (s1.length : Int)), (13, .int .i64 (k9 : Int))]) ∧ Hp w.heap.size i w' ([]) ∧ Tr Dw w.heap.size A w i w') (fun a ha => ⟨A, ha.sub ⟨rfl, rfl, rfl, rfl, trivial⟩, ⟨hH, Tr.refl (Dw := Dw) hA⟩⟩) ?_
      rintro K k9 _ a w17 ⟨A18, ha45, hH19, hr8⟩ hle23 K26 h25
      refine C_of ?_ ha45
      replace h_s1 := Sl.tr (Dw := Dw) h_s1 hr8
      replace h_s2 := Sl.tr (Dw := Dw) h_s2 hr8
      replace hK := Tr.trans (Dw := Dw) hK hr8
      replace hB := Nat.le_trans hB hr8.ex.size
      replace hA := hr8.new
      replace hH : Hp w.heap.size A18 w17 ([]) := hH19
      refine C_seq (C_region (V_y (Y_lss rfl rfl) rfl rfl rfl (V_to (fun _ _ => rfl) ?_)))
      refine C_seq ?_
      refine C_cond rfl (fun hc28 => ?_) (fun hc28 => ?_)
      · have hlt24 := lt_of_dec hc28
        obtain ⟨x20, h21, h22⟩ := K26 hlt24
        refine C_skip_to (fun _ _ => rfl) ?_
        refine C_seq ?_
        refine C_block ?_
        refine C_seq ?_
        refine C_region ?_
        refine V_y (Y_move rfl) rfl rfl rfl ?_
        refine V_y (Y_assign rfl) rfl rfl rfl ?_
        refine V_to (fun _ _ => rfl) ?_
        refine C_seq ?_
        refine C_region_q (Dw := Dw) Try_mixed (by kernel_rfl) ?_
        refine VQ_y (fun w' hw' => Y_move rfl) rfl rfl rfl ?_
        refine VQ_y (fun w' hw' => Y_move rfl) rfl rfl rfl ?_
        obtain ⟨x29, hx29, h21⟩ := Option.bind_eq_some_iff.1 h21
        refine VQ_indexAddr h_s1 hx29 Try.underlying23 Try.sizeOf29 rfl rfl rfl ?_
        intro b30 o31 h32
        obtain ⟨h33, _⟩ := El_cal_Span h32
        refine VQ_y (fun w' hw' => Y_loadA (At.kp (Dw := Dw) h33 hw' h32.2.1) Try.isAgg29 Try.sizeOf29 rfl) rfl rfl rfl ?_
        refine VQ_y (fun w' hw' => Y_move rfl) rfl rfl rfl ?_
        refine VQ_y (fun w' hw' => Y_move rfl) rfl rfl rfl ?_
        obtain ⟨x34, hx34, h21⟩ := Option.bind_eq_some_iff.1 h21
        refine VQ_indexAddr h_s2 hx34 Try.underlying23 Try.sizeOf29 rfl rfl rfl ?_
        intro b35 o36 h37
        obtain ⟨h38, _⟩ := El_cal_Span h37
        refine VQ_y (fun w' hw' => Y_loadA (At.kp (Dw := Dw) h38 hw' h37.2.1) Try.isAgg29 Try.sizeOf29 rfl) rfl rfl rfl ?_
        refine VQ_y (fun w' hw' => Y_neqA (fun w => Try_eqt29_10000 x29.from_ x29.to_ x34.from_ x34.to_ w) Try_eqg29 rfl rfl) rfl rfl rfl ?_
        refine VQ_to (fun _ _ => rfl) (fun w39 hk40 => ?_)
        have ht41 := Kp.tr (Dw := Dw) hk40 hA hB
        replace hH := Hp.kp (Dw := Dw) hH hk40
        replace h_s1 := Sl.tr (Dw := Dw) h_s1 ht41
        replace h_s2 := Sl.tr (Dw := Dw) h_s2 ht41
        replace hK := Tr.trans (Dw := Dw) hK ht41
        replace hr8 := Tr.trans (Dw := Dw) hr8 ht41
        replace hB := Nat.le_trans hB ht41.ex.size
        replace hA := ht41.new
        refine C_cond rfl (fun hc42 => ?_) (fun hc42 => ?_)
        · rw [if_pos hc42] at h21
          refine C_seq ?_
          refine C_region ?_
          refine V_y (Y_assign rfl) rfl rfl rfl ?_
          refine V_to (fun _ _ => rfl) ?_
          obtain rfl := Option.some.inj h21
          obtain rfl := (h22 : Lp.rt _ = _)
          rw [Lp.andThen_rt] at hm
          obtain rfl := Option.some.inj hm
          refine C_ret ?_
          try simp only [↓inBlock_ret, ↓then_ret]
          exact retQ rfl (Res.one Try.results6 rfl) ⟨rfl, hK.kp⟩
        · rw [if_neg (nt hc42)] at h21
          refine C_skip_to (fun _ _ => rfl) ?_
          refine C_region ?_
          refine V_y (Y_addI rfl rfl) rfl rfl rfl ?_
          refine V_y (Y_move rfl) rfl rfl rfl ?_
          obtain rfl := Option.some.inj h21
          refine V_end (fun a ha43 => ?_)
          exact ⟨(), hlt24, h22, ⟨A18, ha43.sub ⟨rfl, rfl, rfl, (congrArg (fun z => some (Value.int .i64 z)) (w64_succ hlt24 hn27)), trivial⟩, ⟨hH, hr8⟩⟩⟩
      · refine C_exit (fun a ha44 => ?_)
        exact ⟨((), A18), ha44.sub trivial, ⟨(h25 (eq_of_dec hle23 hc28)).symm, hH, hr8⟩⟩
    rintro ⟨s7, A13⟩ w10 ⟨rfl, hH14, hk11⟩ a ha12
    rw [Lp.andThen_fin] at hm
    replace hK := Tr.trans (Dw := Dw) hK hk11
    replace hB := Nat.le_trans hB hk11.ex.size
    replace hA := hk11.new
    replace hH : Hp w.heap.size A13 w10 ([]) := hH14
    refine C_at (n := ⟨26, [], none⟩) (fun _ _ => rfl) ?_ ha12
    refine C_seq ?_
    refine C_region ?_
    refine V_y (Y_assign rfl) rfl rfl rfl ?_
    refine V_to (fun _ _ => rfl) ?_
    obtain rfl := Option.some.inj hm
    refine C_ret ?_
    try simp only [↓inBlock_ret, ↓then_ret]
    exact retQ rfl (Res.one Try.results6 rfl) ⟨rfl, hK.kp⟩

set_option maxRecDepth 4000 in
set_option maxHeartbeats 4000000 in
theorem portlaw2_CalCommon_c (w : World) {A : Nat → Prop} (hA : ∀ b, w.heap.size ≤ b → A b) (l : (List cal_Calendar)) (v_l : Value) (h_l : Sl A w v_l l) (need : Int) (from_ : Int) (to_ : Int) {r : Bool} (hm : portlaw2_CalCommon l need from_ to_ = some r) : Ret Try.prog 3 #[v_l, .int .i64 need, .int .i64 from_, .int .i64 to_] w fun v w' => v = .bool r ∧ Kp Dw w w' := by
  unfold portlaw2_CalCommon at hm
  refine enter Try.func3 rfl Try.ntmps3 rfl ?_
  have hA0 := hA
  have hB := Nat.le_refl w.heap.size
  have hK : Tr Dw w.heap.size A w A w := Tr.refl (Dw := Dw) hA
  have hH : Hp w.heap.size A w [] := Hp.nil
  refine C_seq ?_
  refine C_region ?_
  refine V_y (Y_assign rfl) rfl rfl rfl ?_
  refine V_to (fun _ _ => rfl) ?_
  refine C_seq ?_
  refine C_region ?_
  refine V_y (Y_move rfl) rfl rfl rfl ?_
  refine V_y (Y_move rfl) rfl rfl rfl ?_
  refine V_y (Y_move rfl) rfl rfl rfl ?_
  refine V_y (Y_move rfl) rfl rfl rfl ?_
  obtain ⟨x3, hx3, hm⟩ := Option.bind_eq_some_iff.1 hm
  refine V_call Try.call4 rfl rfl rfl rfl (cal_Common_c (Dw := Dw) w hA l v_l h_l need from_ to_ hx3) ?_
  rintro _ w6 ⟨v4, rfl, h5, hk7⟩
  have ht8 := Kp.tr (Dw := Dw) hk7 hA hB
  replace hH := Hp.kp (Dw := Dw) hH hk7
  replace h_l := Sl.tr (Dw := Dw) h_l ht8
  replace hK := Tr.trans (Dw := Dw) hK ht8
  replace hB := Nat.le_trans hB ht8.ex.size
  replace hA := ht8.new
  refine V_y (Y_move rfl) rfl rfl rfl ?_
  refine V_y (Y_extract rfl rfl) rfl rfl rfl ?_
  refine V_y (Y_extract rfl rfl) rfl rfl rfl ?_
  refine V_y (Y_assign rfl) rfl rfl rfl ?_
  refine V_y (Y_assign rfl) rfl rfl rfl ?_
  refine V_to (fun _ _ => rfl) ?_
  refine C_seq ?_
  refine C_region ?_
  refine V_y (Y_move rfl) rfl rfl rfl ?_
  refine V_y (Y_move rfl) rfl rfl rfl ?_
  refine V_y (Y_move rfl) rfl rfl rfl ?_
  refine V_y (Y_move rfl) rfl rfl rfl ?_
  obtain ⟨x9, hx9, hm⟩ := Option.bind_eq_some_iff.1 hm
  refine V_call Try.call5 rfl rfl rfl rfl (portref2_CommonIn_c (Dw := Dw) w6 hA l v_l h_l need from_ to_ hx9) ?_
  rintro _ w12 ⟨v10, rfl, h11, hk13⟩
  obtain ⟨A14, ht15, hH16⟩ := Hp.addOwnd (Dw := Dw) hH hB hA hk13 h11
  replace h_l := Sl.tr (Dw := Dw) h_l ht15
  replace h5 := Sl.tr (Dw := Dw) h5 ht15
  replace hK := Tr.trans (Dw := Dw) hK ht15
  replace hB := Nat.le_trans hB ht15.ex.size
  replace hA := ht15.new
  replace hH : Hp w.heap.size A14 w12 (obS (α := cal_Span) 29 v10 x9.1 :: []) := hH16
  refine V_y (Y_move rfl) rfl rfl rfl ?_
  refine V_y (Y_extract rfl rfl) rfl rfl rfl ?_
  refine V_y (Y_extract rfl rfl) rfl rfl rfl ?_
  refine V_y (Y_assign rfl) rfl rfl rfl ?_
  refine V_y (Y_assign rfl) rfl rfl rfl ?_
  refine V_to (fun _ _ => rfl) ?_
  refine C_seq ?_
  obtain ⟨s18, ho17, hm⟩ := Option.bind_eq_some_iff.1 hm
  refine C_cutG (ι := (Nat → Prop)) (fun (A23 : (Nat → Prop)) => [(8, .bool s18)]) (fun (A23 : (Nat → Prop)) => fun w' => Hp w.heap.size A23 w' (obS (α := cal_Span) 29 v10 x9.1 :: []) ∧ Tr Dw w.heap.size A14 w12 A23 w') ?_ ?_
  · have hr19 : Tr Dw w.heap.size A14 w12 A14 w12 := Tr.refl (Dw := Dw) hA
    refine C_region ?_
    refine V_y (Y_move rfl) rfl rfl rfl ?_
    refine V_y (Y_move rfl) rfl rfl rfl ?_
    refine V_y (Y_eql rfl rfl) rfl rfl rfl ?_
    refine V_y (Y_move rfl) rfl rfl rfl ?_
    rcases Bool.eq_false_or_eq_true (x3.2 == x9.2) with hc25 | hc25
    · rw [if_pos hc25] at ho17
      refine V_ge rfl rfl rfl hc25 ?_
      refine V_y (Y_move rfl) rfl rfl rfl ?_
      refine V_ge rfl rfl rfl hc25 ?_
      refine V_y (Y_move rfl) rfl rfl rfl ?_
      refine V_ge rfl rfl rfl hc25 ?_
      obtain ⟨x26, hx26, ho17⟩ := Option.bind_eq_some_iff.1 ho17
      refine V_call Try.call6 rfl rfl rfl rfl (slices_Equal_Lcal_Span_cal_Span_c (Dw := Dw) w12 (A := fun _ => True) (fun _ _ => trivial) x3.1 v4 (Sl.any h5) x9.1 v10 (Hp.any (α := cal_Span) (e := 29) (v := v10) (l := x9.1) hH (i := 0) rfl) hx26) ?_
      rintro _ w27 ⟨rfl, hk28⟩
      have ht29 := Kp.tr (Dw := Dw) hk28 hA hB
      replace hH := Hp.kp (Dw := Dw) hH hk28
      replace h5 := Sl.tr (Dw := Dw) h5 ht29
      replace hK := Tr.trans (Dw := Dw) hK ht29
      replace hr19 := Tr.trans (Dw := Dw) hr19 ht29
      replace hB := Nat.le_trans hB ht29.ex.size
      replace hA := ht29.new
      refine V_y (Y_pick_te rfl hc25 rfl) rfl rfl rfl ?_
      refine V_y (Y_assign rfl) rfl rfl rfl ?_
      obtain rfl := Option.some.inj ho17
      refine V_end (fun a ha30 => ?_)
      exact ⟨A14, ha30.sub ⟨rfl, trivial⟩, ⟨hH, hr19⟩⟩
    · rw [if_neg (nt hc25)] at ho17
      refine V_gn rfl rfl rfl hc25 rfl rfl rfl ?_
      refine V_gn rfl rfl rfl hc25 rfl rfl rfl ?_
      refine V_gn rfl rfl rfl hc25 rfl rfl rfl ?_
      refine V_y (Y_pick_fe rfl hc25 rfl) rfl rfl rfl ?_
      refine V_y (Y_assign rfl) rfl rfl rfl ?_
      obtain rfl := Option.some.inj ho17
      refine V_end (fun a ha31 => ?_)
      exact ⟨A14, ha31.sub ⟨rfl, trivial⟩, ⟨hH, hr19⟩⟩
  rintro A23 w20 ⟨hH24, hk21⟩ a ha22
  replace hK := Tr.trans (Dw := Dw) hK hk21
  replace hB := Nat.le_trans hB hk21.ex.size
  replace hA := hk21.new
  replace hH : Hp w.heap.size A23 w20 (obS (α := cal_Span) 29 v10 x9.1 :: []) := hH24
  refine C_at (n := ⟨37, [], none⟩) (fun _ _ => rfl) ?_ ha22
  obtain rfl := Option.some.inj hm
  refine C_ret ?_
  try simp only [↓inBlock_ret, ↓then_ret]
  exact retQ rfl (Res.one Try.results3 rfl) ⟨rfl, hK.kp⟩

end Go.Proofs.Ytoflhekllembeaa.W
