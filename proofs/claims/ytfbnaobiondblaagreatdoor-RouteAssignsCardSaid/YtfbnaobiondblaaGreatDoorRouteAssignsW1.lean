import Derived.Test.YtfbnaobiondblaaGreatDoorRouteAssignsW0
namespace Go.Proofs.YtfbnaobiondblaaGreatDoor.W
open Go Go.RowKit Go.Pu Go.Gw Go.Proofs Go.Proofs.YtfbnaobiondblaaGreatDoor.M
set_option linter.unusedVariables false
set_option linter.unusedSimpArgs false
variable {Dw : Prop}
set_option maxHeartbeats 4000000
set_option maxRecDepth 4000
open Tryz
theorem cal_Calendar_shiftsOf_c (w : World) {A : Nat → Prop} (hA : ∀ b, w.heap.size ≤ b → A b) (c : cal_Calendar) (v_c0 : Value) (h_c0 : Sl A w v_c0 c.zone.changes) (v_c1 : Value) (h_c1 : Sl A w v_c1 c.week) (v_c2 : Value) (h_c2 : Sl A w v_c2 c.specials) (day : Int) {r : (List cal_Shift)} (hm : cal_Calendar_shiftsOf c day = some r) : Ret prog 170 #[.agg #[Ii c.zone.offset, v_c0, v_c1, v_c2], Ii day] w fun v w' => ∃ s0, v = s0 ∧ Ownd 75 w w' s0 r ∧ Kp Dw w w' := by
 unfold cal_Calendar_shiftsOf at hm
 refine enter func170 rfl ntmps170 rfl ?_
 have hA0 := hA
 obtain ⟨hB, hK, hH⟩ := St (Dw := Dw) hA
 refine Sr ?_
 refine V_box rfl rfl ?_
 intro b7 w9 h10
 have hk12 := h10.kp (Dw := Dw)
 have h11 : El (α := cal_Calendar) A w9 b7 0 c := h10.el hA ⟨[Ii c.zone.offset, v_c0], _, rfl, ⟨[Ii c.zone.offset], _, rfl, rfl, ⟨_, rfl, h_c0⟩⟩, ⟨[v_c1], _, rfl, ⟨_, rfl, h_c1⟩, ⟨_, rfl, h_c2⟩⟩⟩
 have ht13 := Kp.tr hk12 hA hB; replace hH := Hp.kp hH hk12; replace hK := Tt hK ht13; replace hB := Bx hB ht13; replace hA := ht13.new
 refine As (To ?_)
 refine Sr ?_
 have h14 := El_cal_Calendar_2 h11
 refine Fa underlying68 rfl sizeOf66 ?_
 obtain ⟨v15, h16, h17⟩ := El.list h14
 refine Ld h16 isAgg66 (Mm ?_)
 obtain ⟨x20, hx20, hm⟩ := Bs hm
 refine Vc call180 (slices_BinarySearchFunc_Lcal_Special_cal_Special_int_c (Dw := Dw) w9 hA c.specials v15 h17 day (fun y31 y32 => cal_Calendar_shiftsOf_1 y31 y32) 181 #[] #[] call181 (fun w27 A28 ht29 h30 y21 v22 h23 y24 r25 h26 => (cal_Calendar_shiftsOf_1_c (Dw := Dw) w27 h30 y21 v22 h23 y24  h26).mono (fun _ _ h => ⟨h.1, h.2⟩)) hx20) ?_
 rintro _ w33 ⟨rfl, hk34⟩
 have ht35 := Kp.tr hk34 hA hB; replace hH := Hp.kp hH hk34; replace h11 := El.tr h11 ht35; replace hK := Tt hK ht35; replace hB := Bx hB ht35; replace hA := ht35.new
 refine Mm (Vy (Y_extract rfl rfl) (Vy (Y_extract rfl rfl) (As (As (To ?_)))))
 refine C_seq (Sr (Mm (To ?_)))
 refine Cc (fun hc36 => ?_) fun hc36 => ?_
 ·rw [if_pos hc36] at hm
  refine Sr ?_
  have h37 := El_cal_Calendar_2 h11
  refine Fa underlying68 rfl sizeOf66 ?_
  obtain ⟨v38, h39, h40⟩ := El.list h37
  refine Ld h39 isAgg66 (Mm ?_)
  obtain ⟨x41, hx41, hm⟩ := Bs hm
  refine V_indexAddr h40 hx41 underlying66 sizeOf78 rfl rfl rfl ?_
  intro b42 o43 h44
  have h45 := El_cal_Special_1 h44
  refine Fa underlying78 rfl sizeOf65 ?_
  obtain ⟨v46, h47, h48⟩ := El.list h45
  refine Ld h47 isAgg65 ?_
  obtain ⟨x49, hx49, hm⟩ := Bs hm
  refine Vc call182 (slices_Clone_Lcal_Shift_cal_Shift_c (Dw := Dw) w33 hA x41.shifts v46 h48 hx49) ?_
  rintro v50 w52 ⟨_, rfl, h51, hk53⟩
  obtain ⟨A54, ht55, hH56⟩ := Hp.addOwnd (Dw := Dw) hH hB hA hk53 h51
  replace hK := Tt hK ht55
  replace hH : Hp _ _ _ (o_75 v50 x49 :: []) := hH56
  refine As (To ?_)
  obtain rfl := Oi hm
  refine Rt (Res.one results170 rfl) ?_
  exact ⟨v50, rfl, (Hp.ownd hH (i := 0) rfl), hK.kp⟩
 rw [if_neg (nt hc36)] at hm
 refine Sk ?_
 refine Sr (As (To ?_))
 refine C_seq (Sr ?_)
 have h57 := El_cal_Calendar_1 h11
 refine Fa underlying68 rfl sizeOf65 ?_
 obtain ⟨v58, h59, h60⟩ := El.list h57
 refine Ld h59 isAgg65 (Vy (Y_lenSl h60 rfl underlying65 rfl) (Mm (To ?_)))
 replace hH : Hp w.heap.size A w33 (o_75 (.slice none 0 0) ([] : (List cal_Shift)) :: []) := Hp.addNil (α := cal_Shift) (e := 75) hH
 have hn85 := Sl.le h60
 obtain ⟨o61, ho61, hm⟩ := Bs hm
 refine C_cutG (ι := ((List cal_Shift) × Value × (Nat → Prop))) (fun ⟨s62, v68, A70⟩ => [(7, v68)]) (fun ⟨s62, v68, A70⟩ => fun w' => o61 = .fin s62 ∧ Hp w.heap.size A70 w' (o_75 v68 s62 :: []) ∧ Tr Dw w.heap.size A w33 A70 w') ?_ ?_
 ·refine C_block ?_
  refine C_range ho61 (fun k64 s72 a w' => ∃ i : (Value × (Nat → Prop)), Has ⟨50, [], none⟩ a ([(1, Ii day), (7, i.1), (26, v58), (27, Ii (c.week.length : Int)), (28, Ii (k64 : Int))]) ∧ Hp w.heap.size i.2 w' (o_75 i.1 s72 :: []) ∧ Tr Dw w.heap.size A w33 i.2 w') (fun a ha => ⟨(.slice none 0 0, A), ha.sb, ⟨hH, Tr.refl (Dw := Dw) hA⟩⟩) ?_
  rintro K k64 s72 a w73 ⟨⟨v74, A76⟩, ha144, hH77, hr63⟩ hle81 K84 h83
  refine C_of ?_ ha144
  replace h60 := Sl.tr h60 hr63; replace hB := Bx hB hr63; replace hA := hr63.new
  replace hH : Hp _ _ _ (o_75 v74 s72 :: []) := hH77
  refine Sr (Vy (Y_lss rfl rfl) (To ?_))
  refine C_seq ?_
  refine Cc (fun hc86 => ?_) fun hc86 => ?_
  ·have hlt82 := lt_of_dec hc86
   obtain ⟨x78, h79, h80⟩ := K84 hlt82
   refine Sk ?_
   refine C_seq ?_
   obtain ⟨s88, ho87, h79⟩ := Bs h79
   refine C_cutG (ι := (Value × (Nat → Prop))) (fun ⟨v90, A95⟩ => [(1, Ii day), (7, v90), (26, v58), (27, Ii (c.week.length : Int)), (28, Ii (k64 : Int))]) (fun ⟨v90, A95⟩ => fun w' => Hp w.heap.size A95 w' (o_75 v90 s88 :: []) ∧ Tr Dw w.heap.size A76 w73 A95 w') ?_ ?_
   ·have hr89 : Tr Dw w.heap.size A76 w73 A76 w73 := Tr.refl (Dw := Dw) hA
    refine C_block (Sr ?_)
    obtain ⟨x97, hx97, ho87⟩ := Bs ho87
    refine V_indexAddr h60 hx97 underlying65 sizeOf75 rfl rfl rfl ?_
    intro b98 o99 h100
    obtain ⟨h101, _⟩ := El_cal_Shift h100
    refine Vy (Y_loadA h101 isAgg75 sizeOf75 rfl) ?_
    refine V_alloc zeroValue75 rfl ?_
    intro b102 w103 h104
    refine Sn h104 sizeOf75 ?_
    intro w105 h106
    have hk108 := h106.kp (Dw := Dw)
    have h107 : El (α := cal_Shift) A76 w105 b102 0 x97 := h106.el hA ⟨[Ii x97.day], _, rfl, rfl, ⟨[Ii x97.from_], _, rfl, rfl, rfl⟩⟩
    have ht109 := Kp.tr hk108 hA hB; replace hH := Hp.kp hH hk108; replace hr89 := Tt hr89 ht109; replace hB := Bx hB ht109; replace hA := ht109.new
    refine To ?_
    refine C_seq ?_
    refine C_region_q (Dw := Dw) Tryz_mixed (by kernel_rfl) ?_
    have h110 := El_cal_Shift_0 h107
    refine Qf underlying75 rfl sizeOf3 (Qi h110 isAgg3 (Qm (Qm ?_)))
    obtain ⟨x111, hx111, ho87⟩ := Bs ho87
    refine VQ_call (Ii x111) call171 rfl rfl rfl rfl (fun w' hw' => (cal_floor_c w' day 7 hx111).mono (fun _ _ h => ⟨h.1, h.2 ▸ hw'⟩)) ?_
    refine Qv (fun w' hw' => Y_mulI rfl rfl) (Qv (fun w' hw' => Y_subI rfl rfl) (Qv (fun w' hw' => Y_eql rfl rfl) ?_))
    refine VQ_to (fun _ _ => rfl) (fun w112 hk113 => ?_)
    have ht114 := Kp.tr hk113 hA hB; replace hH := Hp.kp hH hk113; replace h107 := El.tr h107 ht114; replace hr89 := Tt hr89 ht114; replace hB := Bx hB ht114; replace hA := ht114.new
    obtain ⟨s116, ho115, ho87⟩ := Bs ho87
    refine C_cutG (ι := (Value × (Nat → Prop))) (fun ⟨v118, A123⟩ => [(1, Ii day), (7, v118), (26, v58), (27, Ii (c.week.length : Int)), (28, Ii (k64 : Int))]) (fun ⟨v118, A123⟩ => fun w' => Hp w.heap.size A123 w' (o_75 v118 s116 :: []) ∧ Tr Dw w.heap.size A76 w112 A123 w') ?_ ?_
    ·have hr117 : Tr Dw w.heap.size A76 w112 A76 w112 := Tr.refl (Dw := Dw) hA
     refine Cc (fun hc125 => ?_) fun hc125 => ?_
     ·rw [if_pos hc125] at ho115
      refine C_region (Mm ?_)
      have h126 := El_cal_Shift_1 h107
      refine Fa underlying75 rfl sizeOf3 (Li h126 isAgg3 ?_)
      have h127 := El_cal_Shift_2 h107
      refine Fa underlying75 rfl sizeOf3 (Li h127 isAgg3 ?_)
      refine Vy (Y_build underlying75 zeroValue75 (Tryz_places75 _ underlying75) rfl (by with_unfolding_all rfl)) ?_
      refine V_buildSlice (Dw := Dw) (cells := #[Ii 0, Ii x97.from_, Ii x97.to_]) (l := ([(⟨0, x97.from_, x97.to_⟩ : cal_Shift)] : List cal_Shift)) (len := 1) underlying65 sizeOf75 zeroValue75 rfl (by kernel_rfl) (show (1 * 3 : Nat) ≠ 0 by decide) (show (1 * 3 : Nat) ≤ 2 ^ 24 by decide) hA ⟨[Ii 0, Ii x97.from_, Ii x97.to_], _, rfl, ⟨[Ii 0], _, rfl, rfl, ⟨[Ii x97.from_], _, rfl, rfl, rfl⟩⟩, rfl⟩ rfl rfl ?_
      intro v128 w129 hk131 h130
      have ht132 := Kp.tr hk131 hA hB; replace hH := Hp.kp hH hk131; replace hr117 := Tt hr117 ht132; replace hB := Bx hB ht132; replace hA := ht132.new
      obtain ⟨x133, hx133, ho115⟩ := Bs ho115
      refine V_appendH (Dw := Dw) (e := 75) (v := v74) (l := s72) (ti := t75) (bytes := 24) (lim := 5864062014805) hH (i := 0) rfl h130 hx133 underlying65 Tryz_info75 rfl rfl rfl rfl (by decide) (by decide) (by decide) hB hA rfl rfl rfl ?_
      intro v134 w135 A136 hH137 ht138
      replace hr117 := Tt hr117 ht138
      replace hH : Hp _ _ _ (o_75 v134 x133 :: []) := hH137
      refine As ?_
      obtain rfl := Oi ho115
      refine V_end (fun a ha139 => ?_)
      exact ⟨(v134, A136), ha139.sb, ⟨hH, hr117⟩⟩
     rw [if_neg (nt hc125)] at ho115
     obtain rfl := Oi ho115
     refine C_skip (fun a ha140 => ?_)
     exact ⟨(v74, A76), ha140.sb, ⟨hH, hr117⟩⟩
    rintro ⟨v118, A123⟩ w120 ⟨hH124, hk121⟩ a ha122
    replace hr89 := Tr.trans hr89 hk121; replace hA := hk121.new
    replace hH : Hp _ _ _ (o_75 v118 s116 :: []) := hH124
    obtain rfl := Oi ho87
    exact ⟨(v118, A123), ha122.sb, ⟨hH, hr89⟩⟩
   rintro ⟨v90, A95⟩ w92 ⟨hH96, hk93⟩ a ha94
   replace hr63 := Tr.trans hr63 hk93; replace hA := hk93.new
   replace hH : Hp _ _ _ (o_75 v90 s88 :: []) := hH96
   refine C_at (n := ⟨50, [], none⟩) (fun _ _ => rfl) ?_ ha94
   refine C_region (Vy (Y_addI rfl rfl) (Mm ?_))
   obtain rfl := Oi h79
   refine V_end (fun a ha142 => ?_)
   exact ⟨s88, hlt82, h80, ⟨(v90, A95), ha142.sub ⟨rfl, rfl, rfl, rfl, Ws hlt82 hn85, trivial⟩, ⟨hH, hr63⟩⟩⟩
  refine C_exit (fun a ha143 => ?_)
  exact ⟨(s72, v74, A76), ha143.sb, ⟨(h83 (eq_of_dec hle81 hc86)).symm, hH, hr63⟩⟩
 rintro ⟨s62, v68, A70⟩ w65 ⟨rfl, hH71, hk66⟩ a ha67
 rw [Lp.andThen_fin] at hm
 replace hK := Tr.trans hK hk66; replace hA := hk66.new
 replace hH : Hp _ _ _ (o_75 v68 s62 :: []) := hH71
 refine C_at (n := ⟨50, [], none⟩) (fun _ _ => rfl) ?_ ha67
 refine Sr (Mm (As (To ?_)))
 obtain rfl := Oi hm
 refine Rt (Res.one results170 rfl) ?_
 exact ⟨v68, rfl, (Hp.ownd hH (i := 0) rfl), hK.kp⟩
theorem cal_Calendar_shifts_1_1_c (w : World) {A : Nat → Prop} {B : Nat} (hB : B ≤ w.heap.size) (hA : ∀ b, w.heap.size ≤ b → A b) (day : Int) (p1 : cal_Calendar) (b_p1 : Nat) (h_p1 : El A w b_p1 0 p1) (p2 : cal_part) (b_p2 : Nat) (h_p2 : El A w b_p2 0 p2) (p3 : Int) (b_p3 : Nat) (h_p3 : El A w b_p3 0 p3) (p4 : Int) (b_p4 : Nat) (h_p4 : El A w b_p4 0 p4) {p5_S : Type} (p5 : cal_Span → p5_S → Option (Bool × p5_S)) (p5_Y : p5_S → Ob) (p5_v : Value) (p5_one : p5_v.cells.toList = [p5_v]) (p5_s : p5_S) (p5_spec : ∀ (w2 : World) (A2 : Nat → Prop) (L2 : List Ob) (x : cal_Span) (z : p5_S) (b : Bool) (z2 : p5_S), B ≤ w2.heap.size → (∀ b, w2.heap.size ≤ b → A2 b) → Tr Dw B A w A2 w2 → Hp B A2 w2 (p5_Y z :: L2) → p5 x z = some (b, z2) → CallV prog p5_v [.agg #[Ii x.from_, Ii x.to_]] w2 fun v w3 => v = .bool b ∧ ∃ A3, Tr Dw B A2 w2 A3 w3 ∧ Hp B A3 w3 (p5_Y z2 :: L2)) (b_p5 : Nat) (h_p5 : Vb A w b_p5 p5_v) {L : List Ob} (hH : Hp B A w (p5_Y p5_s :: L)) {r : (Bool × p5_S)} (hm : cal_Calendar_shifts_1_1 day p1 p2 p3 p4 p5 p5_s = some r) : Ret prog 169 #[Ii day, Pt b_p1, Pt b_p2, Pt b_p3, Pt b_p4, Pt b_p5] w fun v w' => ∃ A1 : Nat → Prop, v = .bool r.1 ∧ Hp B A1 w' (p5_Y r.2 :: L) ∧ Tr Dw B A w A1 w' := by
 unfold cal_Calendar_shifts_1_1 at hm
 refine enter func169 rfl ntmps169 rfl ?_
 have hK : Tr Dw B A w A w := Tr.refl (Dw := Dw) hA
 refine Sr (As (To ?_))
 refine C_seq (Sr ?_)
 obtain ⟨v1, v3, v5, h7, h2, h4, h6⟩ := El_cal_Calendar h_p1
 refine Vy (Y_loadA h7 isAgg68 sizeOf68 rfl) (Mm ?_)
 obtain ⟨x8, hx8, hm⟩ := Bs hm
 refine Vc call170 (cal_Calendar_shiftsOf_c (Dw := Dw) w hA p1 v1 h2 v3 h4 v5 h6 day hx8) ?_
 rintro v9 w11 ⟨_, rfl, h10, hk12⟩
 obtain ⟨A13, ht14, hH15⟩ := Hp.addOwnd (Dw := Dw) hH hB hA hk12 h10
 replace h_p2 := El.tr h_p2 ht14; replace h_p3 := El.tr h_p3 ht14; replace h_p4 := El.tr h_p4 ht14
 replace h_p5 := Vb.tr (Dw := Dw) h_p5 ht14
 replace hK := Tt hK ht14; replace hB := Bx hB ht14; replace hA := ht14.new
 replace hH : Hp _ _ _ (o_75 v9 x8 :: p5_Y p5_s :: L) := hH15
 refine Vy (Y_lenSl (Hp.any (α := cal_Shift) (e := 75) (v := v9) (l := x8) hH (i := 0) rfl) rfl underlying65 rfl) (Mm (To ?_))
 have hn36 := Hp.le (α := cal_Shift) (e := 75) (v := v9) (l := x8) hH (i := 0) rfl
 obtain ⟨o16, ho16, hm⟩ := Bs hm
 refine C_cutG (ι := (p5_S × (Nat → Prop))) (fun ⟨s17, A23⟩ => []) (fun ⟨s17, A23⟩ => fun w' => o16 = .fin s17 ∧ Hp B A23 w' (o_75 v9 x8 :: p5_Y s17 :: L) ∧ Tr Dw B A13 w11 A23 w') ?_ ?_
 ·refine C_block ?_
  refine C_range ho16 (fun k19 s25 a w' => ∃ i : (Nat → Prop), Has ⟨50, [], none⟩ a ([(0, Ii day), (2, Pt b_p2), (3, Pt b_p3), (4, Pt b_p4), (5, Pt b_p5), (14, v9), (15, Ii (x8.length : Int)), (16, Ii (k19 : Int))]) ∧ Hp B i w' (o_75 v9 x8 :: p5_Y s25 :: L) ∧ Tr Dw B A13 w11 i w') (fun a ha => ⟨A13, ha.sb, ⟨hH, Tr.refl (Dw := Dw) hA⟩⟩) ?_
  rintro K k19 s25 a w26 ⟨A27, ha85, hH28, hr18⟩ hle32 K35 h34
  refine C_of ?_ ha85
  replace h_p2 := El.tr h_p2 hr18; replace h_p3 := El.tr h_p3 hr18; replace h_p4 := El.tr h_p4 hr18
  replace h_p5 := Vb.tr (Dw := Dw) h_p5 hr18
  replace hK := Tt hK hr18; replace hB := Bx hB hr18; replace hA := hr18.new
  replace hH : Hp _ _ _ (o_75 v9 x8 :: p5_Y s25 :: L) := hH28
  refine Sr (Vy (Y_lss rfl rfl) (To ?_))
  refine C_seq ?_
  refine Cc (fun hc37 => ?_) fun hc37 => ?_
  ·have hlt33 := lt_of_dec hc37
   obtain ⟨x29, h30, h31⟩ := K35 hlt33
   refine Sk ?_
   refine C_seq (C_block (Sr ?_))
   obtain ⟨x38, hx38, h30⟩ := Bs h30
   refine V_indexAddrH (α := cal_Shift) (e := 75) (v := v9) (l := x8) hH (i := 0) rfl hx38 underlying65 sizeOf75 rfl rfl rfl ?_
   intro b39 o40 h41 hl42
   obtain ⟨h43, _⟩ := El_cal_Shift h41
   refine Vy (Y_loadA h43 isAgg75 sizeOf75 rfl) ?_
   refine V_alloc zeroValue75 rfl ?_
   intro b44 w45 h46
   refine Sn h46 sizeOf75 ?_
   intro w47 h48
   have hk50 := h48.kp (Dw := Dw)
   have h49 : El (α := cal_Shift) A27 w47 b44 0 x38 := h48.el hA ⟨[Ii x38.day], _, rfl, rfl, ⟨[Ii x38.from_], _, rfl, rfl, rfl⟩⟩
   have ht51 := Kp.tr hk50 hA hB; replace hH := Hp.kp hH hk50; replace h_p2 := El.tr h_p2 ht51; replace h_p3 := El.tr h_p3 ht51; replace h_p4 := El.tr h_p4 ht51
   replace h_p5 := Vb.tr (Dw := Dw) h_p5 ht51
   replace hK := Tt hK ht51; replace hr18 := Tt hr18 ht51; replace hB := Bx hB ht51; replace hA := ht51.new
   refine To ?_
   refine Sr (Mm (Vy (Y_mulI rfl rfl) ?_))
   have h52 := El_cal_part_2 h_p2
   refine Fa underlying281 rfl sizeOf3 (Li h52 isAgg3 (Vy (Y_subI rfl rfl) (As (To ?_))))
   refine Sr (Li h_p3 isAgg3 (Mm ?_))
   have h53 := El_cal_Shift_1 h49
   refine Fa underlying75 rfl sizeOf3 (Li h53 isAgg3 (Vy (Y_addI rfl rfl) (Vy (Y_max2 rfl rfl) (Li h_p4 isAgg3 (Mm ?_)))))
   have h54 := El_cal_Shift_2 h49
   refine Fa underlying75 rfl sizeOf3 (Li h54 isAgg3 (Vy (Y_addI rfl rfl) (Vy (Y_min2 rfl rfl) ?_)))
   refine Vy (Y_build underlying255 zeroValue255 (Tryz_places255 _ underlying255) rfl (by with_unfolding_all rfl)) ?_
   refine V_alloc zeroValue255 rfl ?_
   intro b55 w56 h57
   refine Sn h57 sizeOf255 ?_
   intro w58 h59
   have hk61 := h59.kp (Dw := Dw)
   have h60 : El (α := cal_Span) A27 w58 b55 0 (⟨(if p3 < w64 ((w64 ((w64 (day * 1440)) - p2.offset)) + x38.from_) then w64 ((w64 ((w64 (day * 1440)) - p2.offset)) + x38.from_) else p3), (if w64 ((w64 ((w64 (day * 1440)) - p2.offset)) + x38.to_) < p4 then w64 ((w64 ((w64 (day * 1440)) - p2.offset)) + x38.to_) else p4)⟩ : cal_Span) := h59.el hA ⟨[Ii (if p3 < w64 ((w64 ((w64 (day * 1440)) - p2.offset)) + x38.from_) then w64 ((w64 ((w64 (day * 1440)) - p2.offset)) + x38.from_) else p3)], _, rfl, rfl, rfl⟩
   have ht62 := Kp.tr hk61 hA hB; replace hH := Hp.kp hH hk61
   replace h_p5 := Vb.tr (Dw := Dw) h_p5 ht62
   replace hK := Tt hK ht62; replace hr18 := Tt hr18 ht62; replace hB := Bx hB ht62; replace hA := ht62.new
   refine To ?_
   refine C_seq ?_
   obtain ⟨s64, ho63, h30⟩ := Bs h30
   refine C_cutG (ι := (Nat → Prop)) (fun (A69 : (Nat → Prop)) => [(0, Ii day), (2, Pt b_p2), (3, Pt b_p3), (4, Pt b_p4), (5, Pt b_p5), (14, v9), (15, Ii (x8.length : Int)), (16, Ii (k19 : Int)), (48, .bool s64.1)]) (fun (A69 : (Nat → Prop)) => fun w' => Hp B A69 w' (o_75 v9 x8 :: p5_Y s64.2 :: L) ∧ Tr Dw B A27 w58 A69 w') ?_ ?_
   ·have hr65 : Tr Dw B A27 w58 A27 w58 := Tr.refl (Dw := Dw) hA
    refine C_region ?_
    have h71 := El_cal_Span_0 h60
    refine Fa underlying255 rfl sizeOf3 (Li h71 isAgg3 ?_)
    have h72 := El_cal_Span_1 h60
    refine Fa underlying255 rfl sizeOf3 (Li h72 isAgg3 (Vy (Y_lss rfl rfl) (Mm ?_)))
    rcases Be (decide (((⟨(if p3 < w64 ((w64 ((w64 (day * 1440)) - p2.offset)) + x38.from_) then w64 ((w64 ((w64 (day * 1440)) - p2.offset)) + x38.from_) else p3), (if w64 ((w64 ((w64 (day * 1440)) - p2.offset)) + x38.to_) < p4 then w64 ((w64 ((w64 (day * 1440)) - p2.offset)) + x38.to_) else p4)⟩ : cal_Span).from_) < ((⟨(if p3 < w64 ((w64 ((w64 (day * 1440)) - p2.offset)) + x38.from_) then w64 ((w64 ((w64 (day * 1440)) - p2.offset)) + x38.from_) else p3), (if w64 ((w64 ((w64 (day * 1440)) - p2.offset)) + x38.to_) < p4 then w64 ((w64 ((w64 (day * 1440)) - p2.offset)) + x38.to_) else p4)⟩ : cal_Span).to_))) with hc73 | hc73
    ·rw [if_pos hc73] at ho63
     refine Gf hc73 (Vy (Y_load h_p5.2.2 isAgg253 rfl) (Gf hc73 ?_))
     obtain ⟨h74, _⟩ := El_cal_Span h60
     refine Vy (Y_loadA h74 isAgg255 sizeOf255 rfl) (Gf hc73 ?_)
     obtain ⟨x75, hx75, ho63⟩ := Bs ho63
     replace hH : Hp B A27 w58 (p5_Y s25 :: o_75 v9 x8 :: L) := Hp.front hH (i := 1) rfl
     refine V_callV rfl rfl rfl (p5_spec w58 _ _ (⟨(if p3 < w64 ((w64 ((w64 (day * 1440)) - p2.offset)) + x38.from_) then w64 ((w64 ((w64 (day * 1440)) - p2.offset)) + x38.from_) else p3), (if w64 ((w64 ((w64 (day * 1440)) - p2.offset)) + x38.to_) < p4 then w64 ((w64 ((w64 (day * 1440)) - p2.offset)) + x38.to_) else p4)⟩ : cal_Span) _ x75.1 x75.2 hB hA hK hH hx75) ?_
     rintro _ w76 ⟨rfl, A77, ht79, hH78⟩
     replace h_p5 := Vb.tr (Dw := Dw) h_p5 ht79
     replace hr65 := Tt hr65 ht79
     replace hH : Hp _ _ _ (p5_Y x75.2 :: o_75 v9 x8 :: L) := hH78
     refine Gf hc73 (Vy (Y_not rfl) (Vy (Y_pick_te rfl hc73 rfl) ?_))
     obtain rfl := Oi ho63
     refine V_end (fun a ha80 => ?_)
     replace hH : Hp B A77 w76 (o_75 v9 x8 :: p5_Y x75.2 :: L) := Hp.front hH (i := 1) rfl
     exact ⟨A77, ha80.sb, ⟨hH, hr65⟩⟩
    rw [if_neg (nt hc73)] at ho63
    refine Gm hc73 (Gm hc73 (Gm hc73 (Gm hc73 (Vy (Y_pick_fe rfl hc73 rfl) ?_))))
    obtain rfl := Oi ho63
    refine V_end (fun a ha81 => ?_)
    exact ⟨A27, ha81.sb, ⟨hH, hr65⟩⟩
   rintro A69 w66 ⟨hH70, hk67⟩ a ha68
   replace h_p5 := Vb.tr (Dw := Dw) h_p5 hk67
   replace hK := Tr.trans hK hk67; replace hr18 := Tr.trans hr18 hk67; replace hA := hk67.new
   replace hH : Hp _ _ _ (o_75 v9 x8 :: p5_Y s64.2 :: L) := hH70
   refine C_at (n := ⟨50, [], none⟩) (fun _ _ => rfl) ?_ ha68
   refine Cc (fun hc82 => ?_) fun hc82 => ?_
   ·rw [if_pos hc82] at h30
    refine Sr (As (To ?_))
    obtain rfl := Oi h30
    obtain rfl := (h31 : Lp.rt _ = _)
    rw [Lp.andThen_rt] at hm
    obtain rfl := Oi hm
    replace hH : Hp B A69 w66 (p5_Y s64.2 :: o_75 v9 x8 :: L) := Hp.front hH (i := 1) rfl
    replace hH : Hp B A69 w66 (p5_Y s64.2 :: L) := Hp.drop hH (i := 1) rfl
    refine Rt (Res.one results169 rfl) ?_
    exact ⟨A69, rfl, hH, hK⟩
   rw [if_neg (nt hc82)] at h30
   refine Sk ?_
   refine C_region (Vy (Y_addI rfl rfl) (Mm ?_))
   obtain rfl := Oi h30
   refine V_end (fun a ha83 => ?_)
   exact ⟨s64.2, hlt33, h31, ⟨A69, ha83.sub ⟨rfl, rfl, rfl, rfl, rfl, rfl, rfl, Ws hlt33 hn36, trivial⟩, ⟨hH, hr18⟩⟩⟩
  refine C_exit (fun a ha84 => ?_)
  exact ⟨(s25, A27), ha84.sub trivial, ⟨(h34 (eq_of_dec hle32 hc37)).symm, hH, hr18⟩⟩
 rintro ⟨s17, A23⟩ w20 ⟨rfl, hH24, hk21⟩ a ha22
 rw [Lp.andThen_fin] at hm
 replace hK := Tr.trans hK hk21; replace hA := hk21.new
 replace hH : Hp _ _ _ (o_75 v9 x8 :: p5_Y s17 :: L) := hH24
 refine C_at (n := ⟨50, [], none⟩) (fun _ _ => rfl) ?_ ha22
 refine Sr (As (To ?_))
 obtain rfl := Oi hm
 replace hH : Hp B A23 w20 (p5_Y s17 :: o_75 v9 x8 :: L) := Hp.front hH (i := 1) rfl
 replace hH : Hp B A23 w20 (p5_Y s17 :: L) := Hp.drop hH (i := 1) rfl
 refine Rt (Res.one results169 rfl) ?_
 exact ⟨A23, rfl, hH, hK⟩
theorem cal_Calendar_shifts_1_c (w : World) {A : Nat → Prop} {B : Nat} (hB : B ≤ w.heap.size) (hA : ∀ b, w.heap.size ≤ b → A b) {yield_S : Type} (yield : cal_Span → yield_S → Option (Bool × yield_S)) (yield_Y : yield_S → Ob) (yield_v : Value) (yield_one : yield_v.cells.toList = [yield_v]) (yield_s : yield_S) (yield_spec : ∀ (w2 : World) (A2 : Nat → Prop) (L2 : List Ob) (x : cal_Span) (z : yield_S) (b : Bool) (z2 : yield_S), B ≤ w2.heap.size → (∀ b, w2.heap.size ≤ b → A2 b) → Tr Dw B A w A2 w2 → Hp B A2 w2 (yield_Y z :: L2) → yield x z = some (b, z2) → CallV prog yield_v [.agg #[Ii x.from_, Ii x.to_]] w2 fun v w3 => v = .bool b ∧ ∃ A3, Tr Dw B A2 w2 A3 w3 ∧ Hp B A3 w3 (yield_Y z2 :: L2)) (p1 : cal_Calendar) (b_p1 : Nat) (h_p1 : El A w b_p1 0 p1) (p2 : Int) (b_p2 : Nat) (h_p2 : El A w b_p2 0 p2) (p3 : Int) (b_p3 : Nat) (h_p3 : El A w b_p3 0 p3) {L : List Ob} (hH : Hp B A w (yield_Y yield_s :: L)) {r : yield_S} (hm : cal_Calendar_shifts_1 yield yield_s p1 p2 p3 = some r) : Ret prog 167 #[yield_v, Pt b_p1, Pt b_p2, Pt b_p3] w fun v w' => ∃ A1 : Nat → Prop, v = .tuple #[] ∧ Hp B A1 w' (yield_Y r :: L) ∧ Tr Dw B A w A1 w' := by
 unfold cal_Calendar_shifts_1 at hm
 refine enter func167 rfl ntmps167 rfl ?_
 have hK : Tr Dw B A w A w := Tr.refl (Dw := Dw) hA
 refine Sr ?_
 refine V_box rfl rfl ?_
 intro b1 w2 h3
 have hk4 := h3.kp (Dw := Dw)
 have h5 : Vb A w2 b1 yield_v := h3.vb hA yield_one
 have ht6 := Kp.tr hk4 hA hB; replace hH := Hp.kp hH hk4; replace h_p1 := El.tr h_p1 ht6; replace h_p2 := El.tr h_p2 ht6; replace h_p3 := El.tr h_p3 ht6; replace hK := Tt hK ht6; replace hB := Bx hB ht6; replace hA := ht6.new
 refine To ?_
 refine Sr ?_
 have h7 := El_cal_Calendar_0 h_p1
 refine Fa underlying68 rfl sizeOf64 ?_
 obtain ⟨v8, h10, h9⟩ := El_cal_Zone h7
 refine Vy (Y_loadA h10 isAgg64 sizeOf64 rfl) ?_
 obtain ⟨x11, hx11, hm⟩ := Bs hm
 refine Vc call168 (cal_Zone_parts_c (Dw := Dw) w2 hA p1.zone v8 h9 hx11) ?_
 rintro v12 w14 ⟨_, rfl, h13, hk15⟩
 obtain ⟨A16, ht17, hH18⟩ := Hp.addOwnd (Dw := Dw) hH hB hA hk15 h13
 replace h_p1 := El.tr h_p1 ht17; replace h_p2 := El.tr h_p2 ht17; replace h_p3 := El.tr h_p3 ht17
 replace h5 := Vb.tr (Dw := Dw) h5 ht17
 replace hK := Tt hK ht17; replace hB := Bx hB ht17; replace hA := ht17.new
 replace hH : Hp _ _ _ (o_281 v12 x11 :: yield_Y yield_s :: L) := hH18
 refine Vy (Y_lenSl (Hp.any (α := cal_part) (e := 281) (v := v12) (l := x11) hH (i := 0) rfl) rfl underlying278 rfl) (Mm (To ?_))
 have hn39 := Hp.le (α := cal_part) (e := 281) (v := v12) (l := x11) hH (i := 0) rfl
 obtain ⟨o19, ho19, hm⟩ := Bs hm
 refine C_cutG (ι := (yield_S × (Nat → Prop))) (fun ⟨s20, A26⟩ => []) (fun ⟨s20, A26⟩ => fun w' => o19 = .fin s20 ∧ Hp B A26 w' (o_281 v12 x11 :: yield_Y s20 :: L) ∧ Tr Dw B A16 w14 A26 w') ?_ ?_
 ·refine C_block ?_
  refine C_range ho19 (fun k22 s28 a w' => ∃ i : (Nat → Prop), Has ⟨52, [], none⟩ a ([(1, Pt b_p1), (2, Pt b_p2), (3, Pt b_p3), (4, Pt b1), (13, v12), (14, Ii (x11.length : Int)), (15, Ii (k22 : Int))]) ∧ Hp B i w' (o_281 v12 x11 :: yield_Y s28 :: L) ∧ Tr Dw B A16 w14 i w') (fun a ha => ⟨A16, ha.sb, ⟨hH, Tr.refl (Dw := Dw) hA⟩⟩) ?_
  rintro K k22 s28 a w29 ⟨A30, ha119, hH31, hr21⟩ hle35 K38 h37
  refine C_of ?_ ha119
  replace h_p1 := El.tr h_p1 hr21; replace h_p2 := El.tr h_p2 hr21; replace h_p3 := El.tr h_p3 hr21
  replace h5 := Vb.tr (Dw := Dw) h5 hr21
  replace hK := Tt hK hr21; replace hB := Bx hB hr21; replace hA := hr21.new
  replace hH : Hp _ _ _ (o_281 v12 x11 :: yield_Y s28 :: L) := hH31
  refine Sr (Vy (Y_lss rfl rfl) (To ?_))
  refine C_seq ?_
  refine Cc (fun hc40 => ?_) fun hc40 => ?_
  ·have hlt36 := lt_of_dec hc40
   obtain ⟨x32, h33, h34⟩ := K38 hlt36
   refine Sk ?_
   refine C_seq ?_
   obtain ⟨o41, ho41, h33⟩ := Bs h33
   refine C_cutG (ι := (yield_S × (Nat → Prop))) (fun ⟨s42, A47⟩ => [(1, Pt b_p1), (2, Pt b_p2), (3, Pt b_p3), (4, Pt b1), (13, v12), (14, Ii (x11.length : Int)), (15, Ii (k22 : Int))]) (fun ⟨s42, A47⟩ => fun w' => o41 = .fin s42 ∧ Hp B A47 w' (o_281 v12 x11 :: yield_Y s42 :: L) ∧ Tr Dw B A30 w29 A47 w') ?_ ?_
   ·have hr43 : Tr Dw B A30 w29 A30 w29 := Tr.refl (Dw := Dw) hA
    refine C_block (Sr ?_)
    obtain ⟨x49, hx49, ho41⟩ := Bs ho41
    refine V_indexAddrH (α := cal_part) (e := 281) (v := v12) (l := x11) hH (i := 0) rfl hx49 underlying278 sizeOf281 rfl rfl rfl ?_
    intro b50 o51 h52 hl53
    obtain ⟨h54, _⟩ := El_cal_part h52
    refine Vy (Y_loadA h54 isAgg281 sizeOf281 rfl) ?_
    refine V_alloc zeroValue281 rfl ?_
    intro b55 w56 h57
    refine Sn h57 sizeOf281 ?_
    intro w58 h59
    have hk61 := h59.kp (Dw := Dw)
    have h60 : El (α := cal_part) A30 w58 b55 0 x49 := h59.el hA ⟨[Ii x49.from_], _, rfl, rfl, ⟨[Ii x49.to_], _, rfl, rfl, rfl⟩⟩
    have ht62 := Kp.tr hk61 hA hB; replace hH := Hp.kp hH hk61; replace h_p1 := El.tr h_p1 ht62; replace h_p2 := El.tr h_p2 ht62; replace h_p3 := El.tr h_p3 ht62
    replace h5 := Vb.tr (Dw := Dw) h5 ht62
    replace hK := Tt hK ht62; replace hr43 := Tt hr43 ht62; replace hB := Bx hB ht62; replace hA := ht62.new
    refine To ?_
    refine C_seq ?_
    refine C_region_def (Dw := Dw) (B := B) (k := 8) [(7, 3, Ii 0), (8, 3, Ii 0)] [(22, 3), (26, 7)] Tryz_mixed (by kernel_rfl) rfl ⟨⟨_, _, _, rfl, by simp⟩, zeroValue3, ⟨⟨_, _, _, rfl, by simp⟩, zeroValue3, trivial⟩⟩ ⟨⟨_, _, _, rfl, by decide, by decide⟩, by decide, rfl, sizeOf3, ⟨⟨_, _, _, rfl, by decide, by decide⟩, by decide, rfl, sizeOf3, trivial⟩⟩ rfl rfl (by decide) hH hB hA ?_
    simp only [List.take]
    refine Qi h_p2 isAgg3 ?_
    have h70 := El_cal_part_0 h60
    refine Qf underlying281 rfl sizeOf3 (Qi h70 isAgg3 (Qv (fun w' hw' => Y_max2 rfl rfl) (Qi h_p3 isAgg3 ?_)))
    have h71 := El_cal_part_1 h60
    refine Qf underlying281 rfl sizeOf3 (Qi h71 isAgg3 (Qv (fun w' hw' => Y_min2 rfl rfl) ?_))
    refine VQ_end fun a ha => ⟨_, [Ii (if p2 < x49.from_ then x49.from_ else p2), Ii (if x49.to_ < p3 then x49.to_ else p3)], ha, rfl, rfl, ⟨rfl, (by simp [Value.cells, Value.oneCell']), ⟨rfl, (by simp [Value.cells, Value.oneCell']), trivial⟩⟩, fun b63 w65 A66 hH67 ht68 a ha69 => ?_⟩
    replace h_p1 := El.tr h_p1 ht68
    replace h5 := Vb.tr (Dw := Dw) h5 ht68
    replace h60 := El.tr h60 ht68; replace hK := Tt hK ht68; replace hr43 := Tt hr43 ht68; replace hB := Bx hB ht68; replace hA := ht68.new
    replace hH : Hp _ _ _ (obC (b63 0) [Ii (if p2 < x49.from_ then x49.from_ else p2)] 3 :: obC (b63 1) [Ii (if x49.to_ < p3 then x49.to_ else p3)] 3 :: o_281 v12 x11 :: yield_Y s28 :: L) := hH67
    obtain ⟨A72, ht73, h74, hH75⟩ := Hp.freezeC (Dw := Dw) (α := Int) (x := (if p2 < x49.from_ then x49.from_ else p2)) hH (i := 0) rfl hA (by exact rfl)
    replace h_p1 := El.tr h_p1 ht73
    replace h5 := Vb.tr (Dw := Dw) h5 ht73
    replace h60 := El.tr h60 ht73; replace hK := Tt hK ht73; replace hr43 := Tt hr43 ht73; replace hB := Bx hB ht73; replace hA := ht73.new
    replace hH : Hp _ _ _ (obC (b63 1) [Ii (if x49.to_ < p3 then x49.to_ else p3)] 3 :: o_281 v12 x11 :: yield_Y s28 :: L) := hH75
    obtain ⟨A76, ht77, h78, hH79⟩ := Hp.freezeC (Dw := Dw) (α := Int) (x := (if x49.to_ < p3 then x49.to_ else p3)) hH (i := 0) rfl hA (by exact rfl)
    replace h_p1 := El.tr h_p1 ht77
    replace h5 := Vb.tr (Dw := Dw) h5 ht77
    replace h60 := El.tr h60 ht77; replace h74 := El.tr h74 ht77; replace hK := Tt hK ht77; replace hr43 := Tt hr43 ht77; replace hB := Bx hB ht77; replace hA := ht77.new
    replace hH : Hp _ _ _ (o_281 v12 x11 :: yield_Y s28 :: L) := hH79
    refine C_at (n := ⟨52, [], none⟩) (fun _ _ => rfl) ?_ ha69
    refine Sr (Vy (Y_makeFunc rfl rfl) (As (To ?_)))
    refine C_seq (Sr (Li h74 isAgg3 (Li h78 isAgg3 (Vy (Y_geq rfl rfl) (To ?_)))))
    refine Cc (fun hc80 => ?_) fun hc80 => ?_
    ·rw [if_pos hc80] at ho41
     obtain rfl := Oi ho41
     refine C_exit (fun a ha81 => ?_)
     exact ⟨(s28, A76), ha81.sb, ⟨rfl, hH, hr43⟩⟩
    rw [if_neg (nt hc80)] at ho41
    refine Sk ?_
    refine Sr (Li h74 isAgg3 ?_)
    have h82 := El_cal_part_2 h60
    refine Fa underlying281 rfl sizeOf3 (Li h82 isAgg3 (Vy (Y_addI rfl rfl) ?_))
    obtain ⟨x83, hx83, ho41⟩ := Bs ho41
    refine Vc call171 (cal_floor_c w65 (w64 ((if p2 < x49.from_ then x49.from_ else p2) + x49.offset)) 1440 hx83) ?_
    rintro _ _ ⟨rfl, rfl⟩
    refine Vy (Y_subI rfl rfl) (As (To ?_))
    obtain ⟨o84, ho84, ho41⟩ := Bs ho41
    refine C_cutG (ι := ((Int × yield_S) × (Nat → Prop))) (fun ⟨s85, A91⟩ => [(1, Pt b_p1), (2, Pt b_p2), (3, Pt b_p3), (4, Pt b1), (13, v12), (14, Ii (x11.length : Int)), (15, Ii (k22 : Int))]) (fun ⟨s85, A91⟩ => fun w' => o84 = .fin s85 ∧ Hp B A91 w' (o_281 v12 x11 :: yield_Y s85.2 :: L) ∧ Tr Dw B A76 w65 A91 w') ?_ ?_
    ·refine C_block ?_
     refine C_while ho84 (fun s93 a w' => ∃ i : (Nat → Prop), Has ⟨52, [], none⟩ a ([(1, Pt b_p1), (2, Pt b_p2), (3, Pt b_p3), (4, Pt b1), (6, Pt b55), (8, Pt (b63 1)), (9, .func (.func 169) #[] #[Pt b_p1, Pt b55, Pt (b63 0), Pt (b63 1), Pt b1]), (10, Ii s93.1), (13, v12), (14, Ii (x11.length : Int)), (15, Ii (k22 : Int))]) ∧ Hp B i w' (o_281 v12 x11 :: yield_Y s93.2 :: L) ∧ Tr Dw B A76 w65 i w') (fun a ha => ⟨A76, ha.sb, ⟨hH, Tr.refl (Dw := Dw) hA⟩⟩) ?_
     rintro K s93 a w94 ⟨A95, ha115, hH96, hr86⟩ K103
     refine C_of ?_ ha115
     replace h_p1 := El.tr h_p1 hr86
     replace h5 := Vb.tr (Dw := Dw) h5 hr86
     replace h60 := El.tr h60 hr86; replace h78 := El.tr h78 hr86; replace h74 := El.tr h74 hr86; replace hK := Tt hK hr86; replace hB := Bx hB hr86; replace hA := hr86.new
     replace hH : Hp _ _ _ (o_281 v12 x11 :: yield_Y s93.2 :: L) := hH96
     obtain ⟨x97, h98, h99⟩ := K103
     refine C_seq (Sr (Mm (Li h78 isAgg3 (Vy (Y_subI rfl rfl) ?_))))
     have h104 := El_cal_part_2 h60
     refine Fa underlying281 rfl sizeOf3 (Li h104 isAgg3 (Vy (Y_addI rfl rfl) ?_))
     obtain ⟨x105, hx105, h98⟩ := Bs h98
     refine Vc call171 (cal_floor_c w94 (w64 ((w64 ((if x49.to_ < p3 then x49.to_ else p3) - 1)) + x49.offset)) 1440 hx105) ?_
     rintro _ _ ⟨rfl, rfl⟩
     refine Vy (Y_leq rfl rfl) (To ?_)
     refine Cc (fun hc106 => ?_) fun hc106 => ?_
     ·rw [if_pos hc106] at h98
      refine Sk ?_
      refine C_seq (C_block (Sr (Mm (Mm ?_))))
      replace hH : Hp B A95 w94 (yield_Y s93.2 :: o_281 v12 x11 :: L) := Hp.front hH (i := 1) rfl
      obtain ⟨x107, hx107, h98⟩ := Bs h98
      refine Vc call169 (cal_Calendar_shifts_1_1_c (Dw := Dw) w94 hB hA s93.1 p1 b_p1 h_p1 x49 b55 h60 (if p2 < x49.from_ then x49.from_ else p2) (b63 0) h74 (if x49.to_ < p3 then x49.to_ else p3) (b63 1) h78 yield yield_Y yield_v yield_one s93.2 (fun w2 A2 L2 x2 z2 b2 z3 h1 h2 h3 => yield_spec w2 A2 L2 x2 z2 b2 z3 h1 h2 (Tr.trans hK h3)) b1 h5 hH hx107) ?_
      rintro _ w108 ⟨A109, rfl, hH110, ht111⟩
      replace h5 := Vb.tr (Dw := Dw) h5 ht111
      replace hK := Tt hK ht111; replace hr86 := Tt hr86 ht111
      replace hH : Hp _ _ _ (yield_Y x107.2 :: o_281 v12 x11 :: L) := hH110
      refine Vy (Y_not rfl) (To ?_)
      refine Cc (fun hc112 => ?_) fun hc112 => ?_
      ·rw [if_pos hc112] at h98
       obtain rfl := Oi h98
       obtain rfl := (h99 : Lp.rt _ = _)
       rw [Lp.andThen_rt] at ho41
       obtain rfl := Oi ho41
       rw [Lp.andThen_rt] at h33
       obtain rfl := Oi h33
       obtain rfl := (h34 : Lp.rt _ = _)
       rw [Lp.andThen_rt] at hm
       obtain rfl := Oi hm
       replace hH : Hp B A109 w108 (yield_Y x107.2 :: L) := Hp.drop hH (i := 1) rfl
       refine Rt (Res.zero results167) ?_
       exact ⟨A109, rfl, hH, hK⟩
      rw [if_neg (nt hc112)] at h98
      refine Sk ?_
      refine C_region (Mm (Vy (Y_addI rfl rfl) (As ?_)))
      obtain rfl := Oi h98
      refine V_end (fun a ha113 => ?_)
      replace hH : Hp B A109 w108 (o_281 v12 x11 :: yield_Y x107.2 :: L) := Hp.front hH (i := 1) rfl
      exact ⟨(w64 (s93.1 + 1), x107.2), h99, ⟨A109, ha113.sb, ⟨hH, hr86⟩⟩⟩
     rw [if_neg (nt hc106)] at h98
     obtain rfl := Oi h98
     refine C_exit (fun a ha114 => ?_)
     exact ⟨((s93.1, s93.2), A95), ha114.sb, ⟨h99.symm, hH, hr86⟩⟩
    rintro ⟨s85, A91⟩ w88 ⟨rfl, hH92, hk89⟩ a ha90
    rw [Lp.andThen_fin] at ho41
    replace h5 := Vb.tr (Dw := Dw) h5 hk89
    replace hr43 := Tr.trans hr43 hk89; replace hA := hk89.new
    replace hH : Hp _ _ _ (o_281 v12 x11 :: yield_Y s85.2 :: L) := hH92
    obtain rfl := Oi ho41
    exact ⟨(s85.2, A91), ha90.sb, ⟨rfl, hH, hr43⟩⟩
   rintro ⟨s42, A47⟩ w44 ⟨rfl, hH48, hk45⟩ a ha46
   rw [Lp.andThen_fin] at h33
   replace h5 := Vb.tr (Dw := Dw) h5 hk45
   replace hr21 := Tr.trans hr21 hk45; replace hA := hk45.new
   replace hH : Hp _ _ _ (o_281 v12 x11 :: yield_Y s42 :: L) := hH48
   refine C_at (n := ⟨52, [], none⟩) (fun _ _ => rfl) ?_ ha46
   refine C_region (Vy (Y_addI rfl rfl) (Mm ?_))
   obtain rfl := Oi h33
   refine V_end (fun a ha117 => ?_)
   exact ⟨s42, hlt36, h34, ⟨A47, ha117.sub ⟨rfl, rfl, rfl, rfl, rfl, rfl, Ws hlt36 hn39, trivial⟩, ⟨hH, hr21⟩⟩⟩
  refine C_exit (fun a ha118 => ?_)
  exact ⟨(s28, A30), ha118.sub trivial, ⟨(h37 (eq_of_dec hle35 hc40)).symm, hH, hr21⟩⟩
 rintro ⟨s20, A26⟩ w23 ⟨rfl, hH27, hk24⟩ a ha25
 rw [Lp.andThen_fin] at hm
 replace hK := Tr.trans hK hk24; replace hA := hk24.new
 replace hH : Hp _ _ _ (o_281 v12 x11 :: yield_Y s20 :: L) := hH27
 obtain rfl := Oi hm
 replace hH : Hp B A26 w23 (yield_Y s20 :: o_281 v12 x11 :: L) := Hp.front hH (i := 1) rfl
 replace hH : Hp B A26 w23 (yield_Y s20 :: L) := Hp.drop hH (i := 1) rfl
 try simp only [↓ib, ↓th]
 exact normQ (retQ rfl (Res.zero results167) ⟨A26, rfl, hH, hK⟩ a ha25)
theorem cal_Calendar_open_1_c (w : World) {A : Nat → Prop} {B : Nat} (hB : B ≤ w.heap.size) (hA : ∀ b, w.heap.size ≤ b → A b) {yield_S : Type} (yield : cal_Span → yield_S → Option (Bool × yield_S)) (yield_Y : yield_S → Ob) (yield_v : Value) (yield_one : yield_v.cells.toList = [yield_v]) (yield_s : yield_S) (yield_spec : ∀ (w2 : World) (A2 : Nat → Prop) (L2 : List Ob) (x : cal_Span) (z : yield_S) (b : Bool) (z2 : yield_S), B ≤ w2.heap.size → (∀ b, w2.heap.size ≤ b → A2 b) → Tr Dw B A w A2 w2 → Hp B A2 w2 (yield_Y z :: L2) → yield x z = some (b, z2) → CallV prog yield_v [.agg #[Ii x.from_, Ii x.to_]] w2 fun v w3 => v = .bool b ∧ ∃ A3, Tr Dw B A2 w2 A3 w3 ∧ Hp B A3 w3 (yield_Y z2 :: L2)) (p1 : cal_Calendar) (b_p1 : Nat) (h_p1 : El A w b_p1 0 p1) (p2 : Int) (b_p2 : Nat) (h_p2 : El A w b_p2 0 p2) (p3 : Int) (b_p3 : Nat) (h_p3 : El A w b_p3 0 p3) {L : List Ob} (hH : Hp B A w (yield_Y yield_s :: L)) {r : yield_S} (hm : cal_Calendar_open_1 yield yield_s p1 p2 p3 = some r) : Ret prog 141 #[yield_v, Pt b_p1, Pt b_p2, Pt b_p3] w fun v w' => ∃ A1 : Nat → Prop, v = .tuple #[] ∧ Hp B A1 w' (yield_Y r :: L) ∧ Tr Dw B A w A1 w' := by
 unfold cal_Calendar_open_1 at hm
 refine enterM func141 rfl ntmps141 rfl ?_
 have hK : Tr Dw B A w A w := Tr.refl (Dw := Dw) hA
 refine Sr ?_
 refine V_box rfl rfl ?_
 intro b1 w2 h3
 have hk4 := h3.kp (Dw := Dw)
 have h5 : Vb A w2 b1 yield_v := h3.vb hA yield_one
 have ht6 := Kp.tr hk4 hA hB; replace hH := Hp.kp hH hk4; replace h_p1 := El.tr h_p1 ht6; replace h_p2 := El.tr h_p2 ht6; replace h_p3 := El.tr h_p3 ht6; replace hK := Tt hK ht6; replace hB := Bx hB ht6; replace hA := ht6.new
 refine To ?_
 refine Sr ?_
 refine Vy (Y_build underlying255 zeroValue255 (Tryz_places255 _ underlying255) rfl (by with_unfolding_all rfl)) ?_
 refine V_allocH (Dw := Dw) (B := B) hH zeroValue255 hB hA rfl ?_
 intro b7 w9 A10 hH11 ht12
 replace h_p1 := El.tr h_p1 ht12; replace h_p2 := El.tr h_p2 ht12; replace h_p3 := El.tr h_p3 ht12
 replace h5 := Vb.tr (Dw := Dw) h5 ht12
 replace hK := Tt hK ht12; replace hB := Bx hB ht12; replace hA := ht12.new
 replace hH : Hp _ _ _ (obC b7 [Ii 0, Ii 0] 255 :: yield_Y yield_s :: L) := hH11
 refine V_storeC (Dw := Dw) (off := 0) (ds := [Ii (-1), Ii (-1)]) hH (i := 0) rfl sizeOf255 rfl (Nat.le_of_ble_eq_true rfl) (by simp [Value.cells, Value.oneCell']) rfl hB hA rfl rfl ?_
 intro w13 hH14 ht15
 replace h_p1 := El.tr h_p1 ht15; replace h_p2 := El.tr h_p2 ht15; replace h_p3 := El.tr h_p3 ht15
 replace h5 := Vb.tr (Dw := Dw) h5 ht15
 replace hK := Tt hK ht15; replace hB := Bx hB ht15; replace hA := ht15.new
 replace hH : Hp _ _ _ (obC b7 [Ii (-1), Ii (-1)] 255 :: yield_Y yield_s :: L) := hH14
 refine To ?_
 refine C_seq (Sr ?_)
 obtain ⟨v16, v18, v20, h22, h17, h19, h21⟩ := El_cal_Calendar h_p1
 refine Vy (Y_loadA h22 isAgg68 sizeOf68 rfl) (Li h_p2 isAgg3 (Li h_p3 isAgg3 ?_))
 obtain ⟨x23, hx23, hm⟩ := Bs hm
 refine Vc call142 (cal_Calendar_shifts_c (Dw := Dw) w13 hA p1 v16 h17 v18 h19 v20 h21 p2 p3 hx23) ?_
 rintro _ w30 ⟨b24, b26, b28, rfl, h25, h27, h29, hk31⟩
 have ht32 := Kp.tr hk31 hA hB; replace hH := Hp.kp hH hk31
 replace h5 := Vb.tr (Dw := Dw) h5 ht32
 replace hK := Tt hK ht32; replace hB := Bx hB ht32; replace hA := ht32.new
 refine To ?_
 have hH37 : Hp B A10 w30 ((fun (s34 : (cal_Span × yield_S)) => obE (fun (i : Unit) => [obC b7 [Ii s34.1.from_, Ii s34.1.to_] 255, yield_Y s34.2])) ((⟨(-1), (-1)⟩ : cal_Span), yield_s) :: L) := Hp.pack (F := fun (i : Unit) => [obC b7 [Ii ((⟨(-1), (-1)⟩ : cal_Span), yield_s).1.from_, Ii ((⟨(-1), (-1)⟩ : cal_Span), yield_s).1.to_] 255, yield_Y ((⟨(-1), (-1)⟩ : cal_Span), yield_s).2]) () hH
 obtain ⟨z33, hz33, hm⟩ := Bs hm
 refine C_cutN (ι := Nat × (Nat → Prop)) (fun i => ⟨41, [{ target := .collected i.1, args := #[] }], none⟩) (fun i => [(4, Pt b1), (5, Pt b7)]) (fun i w' => z33.2 ≠ some 0 ∧ Hp B i.2 w' ((fun (s34 : (cal_Span × yield_S)) => obE (fun (i : Unit) => [obC b7 [Ii s34.1.from_, Ii s34.1.to_] 255, yield_Y s34.2])) z33.1 :: obO i.1 (.deferred (some [])) :: L) ∧ Tr Dw B A10 w30 i.2 w') ?_ ?_
 ·refine C_block ?_
  refine C_rangeFunc (Dw := Dw) (B := B) (A := A10) (L := L) (X := cal_Span) (fun (x43 : cal_Span) => [.agg #[Ii x43.from_, Ii x43.to_]]) (fun (s34 : (cal_Span × yield_S)) => obE (fun (i : Unit) => [obC b7 [Ii s34.1.from_, Ii s34.1.to_] 255, yield_Y s34.2])) (fun (x43 : cal_Span) (s35 : (cal_Span × yield_S)) => Option.bind (α := Lp _ _) (Option.bind (α := Lp _ _) (Option.bind (α := Lp _ _) (if (decide (s35.1.from_ < 0)) = true then some (.fin (x43, s35.2)) else Option.bind (α := Lp _ _) (if (decide (x43.from_ ≤ s35.1.to_)) = true then some (.fin ((⟨s35.1.from_, (if s35.1.to_ < x43.to_ then x43.to_ else s35.1.to_)⟩ : cal_Span), s35.2)) else Option.bind (yield s35.1 s35.2) fun x110 => if (!x110.1) = true then some (.rt ((s35.1, x110.2), some 0)) else some (.fin (x43, x110.2))) fun o96 => o96.andThen (fun y => some (.rt y)) fun s97 => some (.fin (s97.1, s97.2))) fun o81 => o81.andThen (fun y => some (.rt y)) fun s82 => some (.fin (s82.1, s82.2))) fun o73 => o73.andThen (fun y => some (.rt y)) fun s74 => some (.fin (s74.1, s74.2))) fun o65 => o65.andThen (fun y => some y) fun s66 => some ((s66.1, s66.2), none)) (fun k => if k = 0 then .ret else .exit 0) (s0 := ((⟨(-1), (-1)⟩ : cal_Span), yield_s)) (zf := z33) rfl rfl rfl (by decide) (fun _ => rfl) hB hA hH37 167 _ rfl call167 ?_ ?_ ?_ ?_
  ·intro Ys yv w1 A1 L1 h1 h2 h3 h4 h0 h5
   exact (cal_Calendar_shifts_1_c (Dw := Dw) w1 h1 h2 (yieldB (fun (x43 : cal_Span) (s35 : (cal_Span × yield_S)) => Option.bind (α := Lp _ _) (Option.bind (α := Lp _ _) (Option.bind (α := Lp _ _) (if (decide (s35.1.from_ < 0)) = true then some (.fin (x43, s35.2)) else Option.bind (α := Lp _ _) (if (decide (x43.from_ ≤ s35.1.to_)) = true then some (.fin ((⟨s35.1.from_, (if s35.1.to_ < x43.to_ then x43.to_ else s35.1.to_)⟩ : cal_Span), s35.2)) else Option.bind (yield s35.1 s35.2) fun x110 => if (!x110.1) = true then some (.rt ((s35.1, x110.2), some 0)) else some (.fin (x43, x110.2))) fun o96 => o96.andThen (fun y => some (.rt y)) fun s97 => some (.fin (s97.1, s97.2))) fun o81 => o81.andThen (fun y => some (.rt y)) fun s82 => some (.fin (s82.1, s82.2))) fun o73 => o73.andThen (fun y => some (.rt y)) fun s74 => some (.fin (s74.1, s74.2))) fun o65 => o65.andThen (fun y => some y) fun s66 => some ((s66.1, s66.2), none))) Ys yv h0 (((⟨(-1), (-1)⟩ : cal_Span), yield_s), none) h5 x23.1 b24 (El.tr h25 h3) x23.2.1 b26 (El.tr h27 h3) x23.2.2 b28 (El.tr h29 h3) h4 hz33).mono fun _ _ ⟨A3, _, hh, tt⟩ => ⟨A3, tt, hh⟩
  ·intro l38 rc39 w40 A41 L42 x43 s35 s36 j44 hst45 hB46 hA47 ht48 hH49 h50
   obtain ⟨_, hH49⟩ := Hp.open hH49
   replace h5 := Vb.tr (Dw := Dw) h5 ht48
   replace hK := Tt hK ht48; replace hB := Bx hB ht48; replace hA := ht48.new
   replace hH : Hp _ _ _ (obC b7 [Ii s35.1.from_, Ii s35.1.to_] 255 :: yield_Y s35.2 :: obO l38 (.loop rc39) :: L42) := hH49
   have hr51 : Tr Dw B A41 w40 A41 w40 := Tr.refl (Dw := Dw) hA
   show C _ _ _ _ _ _
   refine C_region ?_
   refine V_alloc zeroValue255 rfl ?_
   intro b53 w54 h55
   refine Sn h55 sizeOf255 ?_
   intro w56 h57
   have hk59 := h57.kp (Dw := Dw)
   have h58 : El (α := cal_Span) A41 w56 b53 0 x43 := h57.el hA ⟨[Ii x43.from_], _, rfl, rfl, rfl⟩
   have ht60 := Kp.tr hk59 hA hB; replace hH := Hp.kp hH hk59
   replace h5 := Vb.tr (Dw := Dw) h5 ht60
   replace hK := Tt hK ht60; replace hr51 := Tt hr51 ht60; replace hB := Bx hB ht60; replace hA := ht60.new
   refine V_end (fun a ha61 => ?_)
   refine begin_at (Dw := Dw) hH (i := 2) rfl hst45 hB hA (fun w62 hH63 ht64 => ?_) ha61
   replace h5 := Vb.tr (Dw := Dw) h5 ht64
   replace h58 := El.tr h58 ht64; replace hK := Tt hK ht64; replace hr51 := Tt hr51 ht64; replace hB := Bx hB ht64; replace hA := ht64.new
   replace hH : Hp _ _ _ (obC b7 [Ii s35.1.from_, Ii s35.1.to_] 255 :: yield_Y s35.2 :: obO l38 (.loop { rc39 with state := .busy }) :: L42) := hH63
   obtain ⟨o65, ho65, h50⟩ := Bs h50
   refine C_cutG (ι := ((cal_Span × yield_S) × (Nat → Prop))) (fun ⟨s66, A71⟩ => []) (fun ⟨s66, A71⟩ => fun w' => o65 = .fin s66 ∧ Hp B A71 w' (obC b7 [Ii s66.1.from_, Ii s66.1.to_] 255 :: yield_Y s66.2 :: obO l38 (.loop { rc39 with state := .busy }) :: L42) ∧ Tr Dw B A41 w62 A71 w') ?_ ?_
   ·have hr67 : Tr Dw B A41 w62 A41 w62 := Tr.refl (Dw := Dw) hA
    refine C_block ?_
    obtain ⟨o73, ho73, ho65⟩ := Bs ho65
    refine C_cutG (ι := ((cal_Span × yield_S) × (Nat → Prop))) (fun ⟨s74, A79⟩ => []) (fun ⟨s74, A79⟩ => fun w' => o73 = .fin s74 ∧ Hp B A79 w' (obC b7 [Ii s74.1.from_, Ii s74.1.to_] 255 :: yield_Y s74.2 :: obO l38 (.loop { rc39 with state := .busy }) :: L42) ∧ Tr Dw B A41 w62 A79 w') ?_ ?_
    ·have hr75 : Tr Dw B A41 w62 A41 w62 := Tr.refl (Dw := Dw) hA
     refine C_block (Sr (Vy (Y_fieldAddrC (off2 := 0) underlying255 rfl sizeOf3 (by decide) rfl rfl) (Ld (Hp.cell (j := 0) hH (i := 0) rfl rfl) isAgg3 (Vy (Y_lss rfl rfl) (As (To ?_))))))
     obtain ⟨o81, ho81, ho73⟩ := Bs ho73
     refine C_cutG (ι := ((cal_Span × yield_S) × (Nat → Prop))) (fun ⟨s82, A87⟩ => []) (fun ⟨s82, A87⟩ => fun w' => o81 = .fin s82 ∧ Hp B A87 w' (obC b7 [Ii s82.1.from_, Ii s82.1.to_] 255 :: yield_Y s82.2 :: obO l38 (.loop { rc39 with state := .busy }) :: L42) ∧ Tr Dw B A41 w62 A87 w') ?_ ?_
     ·have hr83 : Tr Dw B A41 w62 A41 w62 := Tr.refl (Dw := Dw) hA
      refine Cc (fun hc89 => ?_) fun hc89 => ?_
      ·rw [if_pos hc89] at ho81
       refine C_region ?_
       obtain ⟨h90, _⟩ := El_cal_Span h58
       refine Vy (Y_loadA h90 isAgg255 sizeOf255 rfl) ?_
       refine V_storeC (Dw := Dw) (off := 0) (ds := [Ii x43.from_, Ii x43.to_]) hH (i := 0) rfl sizeOf255 rfl (Nat.le_of_ble_eq_true rfl) (by simp [Value.cells, Value.oneCell']) rfl hB hA rfl rfl ?_
       intro w91 hH92 ht93
       replace h5 := Vb.tr (Dw := Dw) h5 ht93
       replace hr83 := Tt hr83 ht93
       replace hH : Hp _ _ _ (obC b7 [Ii x43.from_, Ii x43.to_] 255 :: yield_Y s35.2 :: obO l38 (.loop { rc39 with state := .busy }) :: L42) := hH92
       obtain rfl := Oi ho81
       refine V_end (fun a ha94 => ?_)
       exact ⟨((x43, s35.2), A41), ha94.sub trivial, ⟨rfl, hH, hr83⟩⟩
      rw [if_neg (nt hc89)] at ho81
      refine Sr ?_
      have h95 := El_cal_Span_0 h58
      refine Fa underlying255 rfl sizeOf3 (Li h95 isAgg3 (Vy (Y_fieldAddrC (off2 := 1) underlying255 rfl sizeOf3 (by decide) rfl rfl) (Ld (Hp.cell (j := 1) hH (i := 0) rfl rfl) isAgg3 (Vy (Y_leq rfl rfl) (As (To ?_))))))
      obtain ⟨o96, ho96, ho81⟩ := Bs ho81
      refine C_cutG (ι := ((cal_Span × yield_S) × (Nat → Prop))) (fun ⟨s97, A102⟩ => []) (fun ⟨s97, A102⟩ => fun w' => o96 = .fin s97 ∧ Hp B A102 w' (obC b7 [Ii s97.1.from_, Ii s97.1.to_] 255 :: yield_Y s97.2 :: obO l38 (.loop { rc39 with state := .busy }) :: L42) ∧ Tr Dw B A41 w62 A102 w') ?_ ?_
      ·have hr98 : Tr Dw B A41 w62 A41 w62 := Tr.refl (Dw := Dw) hA
       refine Cc (fun hc104 => ?_) fun hc104 => ?_
       ·rw [if_pos hc104] at ho96
        refine C_region (Vy (Y_fieldAddrC (off2 := 1) underlying255 rfl sizeOf3 (by decide) rfl rfl) (Ld (Hp.cell (j := 1) hH (i := 0) rfl rfl) isAgg3 ?_))
        have h105 := El_cal_Span_1 h58
        refine Fa underlying255 rfl sizeOf3 (Li h105 isAgg3 (Vy (Y_max2 rfl rfl) (Vy (Y_fieldAddrC (off2 := 1) underlying255 rfl sizeOf3 (by decide) rfl rfl) ?_)))
        refine V_storeC (Dw := Dw) (off := 1) (ds := [Ii s35.1.from_, Ii (if s35.1.to_ < x43.to_ then x43.to_ else s35.1.to_)]) hH (i := 0) rfl sizeOf3 rfl (Nat.le_of_ble_eq_true rfl) (by simp [Value.cells, Value.oneCell']) rfl hB hA rfl rfl ?_
        intro w106 hH107 ht108
        replace h5 := Vb.tr (Dw := Dw) h5 ht108
        replace hr98 := Tt hr98 ht108
        replace hH : Hp _ _ _ (obC b7 [Ii s35.1.from_, Ii (if s35.1.to_ < x43.to_ then x43.to_ else s35.1.to_)] 255 :: yield_Y s35.2 :: obO l38 (.loop { rc39 with state := .busy }) :: L42) := hH107
        obtain rfl := Oi ho96
        refine V_end (fun a ha109 => ?_)
        exact ⟨(((⟨s35.1.from_, (if s35.1.to_ < x43.to_ then x43.to_ else s35.1.to_)⟩ : cal_Span), s35.2), A41), ha109.sub trivial, ⟨rfl, hH, hr98⟩⟩
       rw [if_neg (nt hc104)] at ho96
       refine C_seq (Sr (Vy (Y_load h5.2.2 isAgg253 rfl) (Vy (Y_loadA (Hp.part (off := 0) (n := 2) (ds := [Ii s35.1.from_, Ii s35.1.to_]) hH (i := 0) rfl rfl) isAgg255 sizeOf255 rfl) ?_)))
       obtain ⟨x110, hx110, ho96⟩ := Bs ho96
       replace hH : Hp B A41 w62 (yield_Y s35.2 :: obC b7 [Ii s35.1.from_, Ii s35.1.to_] 255 :: obO l38 (.loop { rc39 with state := .busy }) :: L42) := Hp.front hH (i := 1) rfl
       refine V_callV rfl rfl rfl (yield_spec w62 _ _ s35.1 _ x110.1 x110.2 hB hA hK hH hx110) ?_
       rintro _ w111 ⟨rfl, A112, ht114, hH113⟩
       replace h5 := Vb.tr (Dw := Dw) h5 ht114
       replace h58 := El.tr h58 ht114; replace hr51 := Tt hr51 ht114; replace hr98 := Tt hr98 ht114; replace hB := Bx hB ht114; replace hA := ht114.new
       replace hH : Hp _ _ _ (yield_Y x110.2 :: obC b7 [Ii s35.1.from_, Ii s35.1.to_] 255 :: obO l38 (.loop { rc39 with state := .busy }) :: L42) := hH113
       refine Vy (Y_not rfl) (To ?_)
       refine Cc (fun hc115 => ?_) fun hc115 => ?_
       ·rw [if_pos hc115] at ho96
        obtain rfl := Oi ho96
        rw [Lp.andThen_rt] at ho81
        obtain rfl := Oi ho81
        rw [Lp.andThen_rt] at ho73
        obtain rfl := Oi ho73
        rw [Lp.andThen_rt] at ho65
        obtain rfl := Oi ho65
        rw [Lp.andThen_rt] at h50
        obtain ⟨rfl, rfl⟩ := Prod.mk.inj (Oi h50)
        refine C_ret (fun a ha116 => ?_)
        replace hH : Hp B A112 w111 (obO l38 (.loop { rc39 with state := .busy }) :: yield_Y x110.2 :: obC b7 [Ii s35.1.from_, Ii s35.1.to_] 255 :: L42) := Hp.front hH (i := 2) rfl
        replace hH : Hp B A112 w111 (yield_Y x110.2 :: obO l38 (.loop { rc39 with state := .busy }) :: obC b7 [Ii s35.1.from_, Ii s35.1.to_] 255 :: L42) := Hp.front hH (i := 1) rfl
        replace hH : Hp B A112 w111 (obC b7 [Ii s35.1.from_, Ii s35.1.to_] 255 :: yield_Y x110.2 :: obO l38 (.loop { rc39 with state := .busy }) :: L42) := Hp.front hH (i := 2) rfl
        exact ⟨rfl, A112, hr51, Hp.pack (F := fun (i : Unit) => [obC b7 [Ii (s35.1, x110.2).1.from_, Ii (s35.1, x110.2).1.to_] 255, yield_Y (s35.1, x110.2).2]) () hH⟩
       rw [if_neg (nt hc115)] at ho96
       refine Sk ?_
       refine C_region ?_
       obtain ⟨h117, _⟩ := El_cal_Span h58
       refine Vy (Y_loadA h117 isAgg255 sizeOf255 rfl) ?_
       refine V_storeC (Dw := Dw) (off := 0) (ds := [Ii x43.from_, Ii x43.to_]) hH (i := 1) rfl sizeOf255 rfl (Nat.le_of_ble_eq_true rfl) (by simp [Value.cells, Value.oneCell']) rfl hB hA rfl rfl ?_
       intro w118 hH119 ht120
       replace hr98 := Tt hr98 ht120
       replace hH : Hp _ _ _ (yield_Y x110.2 :: obC b7 [Ii x43.from_, Ii x43.to_] 255 :: obO l38 (.loop { rc39 with state := .busy }) :: L42) := hH119
       obtain rfl := Oi ho96
       refine V_end (fun a ha121 => ?_)
       replace hH : Hp B A112 w118 (obO l38 (.loop { rc39 with state := .busy }) :: yield_Y x110.2 :: obC b7 [Ii x43.from_, Ii x43.to_] 255 :: L42) := Hp.front hH (i := 2) rfl
       replace hH : Hp B A112 w118 (yield_Y x110.2 :: obO l38 (.loop { rc39 with state := .busy }) :: obC b7 [Ii x43.from_, Ii x43.to_] 255 :: L42) := Hp.front hH (i := 1) rfl
       replace hH : Hp B A112 w118 (obC b7 [Ii x43.from_, Ii x43.to_] 255 :: yield_Y x110.2 :: obO l38 (.loop { rc39 with state := .busy }) :: L42) := Hp.front hH (i := 2) rfl
       exact ⟨((x43, x110.2), A112), ha121.sub trivial, ⟨rfl, hH, hr98⟩⟩
      rintro ⟨s97, A102⟩ w99 ⟨rfl, hH103, hk100⟩ a ha101
      rw [Lp.andThen_fin] at ho81
      replace hr83 := Tr.trans hr83 hk100; replace hA := hk100.new
      replace hH : Hp _ _ _ (obC b7 [Ii s97.1.from_, Ii s97.1.to_] 255 :: yield_Y s97.2 :: obO l38 (.loop { rc39 with state := .busy }) :: L42) := hH103
      obtain rfl := Oi ho81
      exact ⟨((s97.1, s97.2), A102), ha101.sub trivial, ⟨rfl, hH, hr83⟩⟩
     rintro ⟨s82, A87⟩ w84 ⟨rfl, hH88, hk85⟩ a ha86
     rw [Lp.andThen_fin] at ho73
     replace hr75 := Tr.trans hr75 hk85; replace hA := hk85.new
     replace hH : Hp _ _ _ (obC b7 [Ii s82.1.from_, Ii s82.1.to_] 255 :: yield_Y s82.2 :: obO l38 (.loop { rc39 with state := .busy }) :: L42) := hH88
     obtain rfl := Oi ho73
     exact ⟨((s82.1, s82.2), A87), ha86.sub trivial, ⟨rfl, hH, hr75⟩⟩
    rintro ⟨s74, A79⟩ w76 ⟨rfl, hH80, hk77⟩ a ha78
    rw [Lp.andThen_fin] at ho65
    replace hr67 := Tr.trans hr67 hk77; replace hA := hk77.new
    replace hH : Hp _ _ _ (obC b7 [Ii s74.1.from_, Ii s74.1.to_] 255 :: yield_Y s74.2 :: obO l38 (.loop { rc39 with state := .busy }) :: L42) := hH80
    obtain rfl := Oi ho65
    exact ⟨((s74.1, s74.2), A79), ha78.sub trivial, ⟨rfl, hH, hr67⟩⟩
   rintro ⟨s66, A71⟩ w68 ⟨rfl, hH72, hk69⟩ a ha70
   rw [Lp.andThen_fin] at h50
   replace hr51 := Tr.trans hr51 hk69; replace hA := hk69.new
   replace hH : Hp _ _ _ (obC b7 [Ii s66.1.from_, Ii s66.1.to_] 255 :: yield_Y s66.2 :: obO l38 (.loop { rc39 with state := .busy }) :: L42) := hH72
   obtain ⟨rfl, rfl⟩ := Prod.mk.inj (Oi h50)
   exact ⟨rfl, A71, hr51, Hp.pack (F := fun (i : Unit) => [obC b7 [Ii (s66.1, s66.2).1.from_, Ii (s66.1, s66.2).1.to_] 255, yield_Y (s66.1, s66.2).2]) () hH⟩
  ·intro hc131 D126 w127 A128 ht129 hH130 a ha132
   exact ⟨(D126, A128), ha132.sb, (by rw [hc131]; simp), hH130, ht129⟩
  intro k133 hc131 D126 w127 A128 ht129 hH130
  by_cases hc134 : k133 = 0
  ·subst hc134
   rw [if_pos hc131] at hm
   obtain ⟨_, hH130⟩ := Hp.open hH130
   replace hK := Tt hK ht129; replace hB := Bx hB ht129; replace hA := ht129.new
   replace hH : Hp _ _ _ (obC b7 [Ii z33.1.1.from_, Ii z33.1.1.to_] 255 :: yield_Y z33.1.2 :: obO D126 (.deferred (some [])) :: L) := hH130
   show C _ _ .ret _ _ _
   obtain rfl := Oi hm
   have h135 := Hp.obj hH (i := 2) (b := D126) rfl
   obtain ⟨hH136, ht137⟩ := Hp.put (Dw := Dw) (.deferred none) hH (i := 2) (b := D126) rfl hB hA
   replace hK := Tt hK ht137
   replace hH : Hp B A128 (World.putObj w127 D126 (.deferred none)) (obC b7 [Ii z33.1.1.from_, Ii z33.1.1.to_] 255 :: yield_Y z33.1.2 :: obO D126 (.deferred none) :: L) := hH136
   replace hH : Hp B A128 (World.putObj w127 D126 (.deferred none)) (yield_Y z33.1.2 :: obC b7 [Ii z33.1.1.from_, Ii z33.1.1.to_] 255 :: obO D126 (.deferred none) :: L) := Hp.front hH (i := 1) rfl
   replace hH : Hp B A128 (World.putObj w127 D126 (.deferred none)) (yield_Y z33.1.2 :: obO D126 (.deferred none) :: L) := Hp.drop hH (i := 1) rfl
   replace hH : Hp B A128 (World.putObj w127 D126 (.deferred none)) (yield_Y z33.1.2 :: L) := Hp.drop hH (i := 1) rfl
   refine C_ret ?_
   try simp only [↓ib, ↓th]
   exact retM1 rfl h135 (Res.zero results141) ⟨A128, rfl, hH, hK⟩
  show C _ _ (if k133 = 0 then _ else _) _ _ _
  rw [if_neg hc134]
  refine C_exit fun a ha132 => ?_
  show Exit.inBlock _ _ _ _ _
  rw [Exit.inBlock, if_pos rfl]
  exact ⟨(D126, A128), ha132.sb, (by rw [hc131]; simpa using hc134), hH130, ht129⟩
 rintro ⟨D126, A128⟩ w127 ⟨hc138, hH130, ht129⟩ a ha132
 rw [if_neg hc138] at hm
 obtain ⟨_, hH130⟩ := Hp.open hH130
 replace h5 := Vb.tr (Dw := Dw) h5 ht129
 replace hK := Tt hK ht129; replace hB := Bx hB ht129; replace hA := ht129.new
 replace hH : Hp _ _ _ (obC b7 [Ii z33.1.1.from_, Ii z33.1.1.to_] 255 :: yield_Y z33.1.2 :: obO D126 (.deferred (some [])) :: L) := hH130
 refine C_at (n := ⟨41, [{ target := .collected D126, args := #[] }], none⟩) (fun _ _ => rfl) ?_ ha132
 refine Sr (Vy (Y_fieldAddrC (off2 := 0) underlying255 rfl sizeOf3 (by decide) rfl rfl) (Ld (Hp.cell (j := 0) hH (i := 0) rfl rfl) isAgg3 (Vy (Y_geq rfl rfl) (To ?_))))
 obtain ⟨s140, ho139, hm⟩ := Bs hm
 refine C_cutG (ι := (Nat → Prop)) (fun (A145 : (Nat → Prop)) => []) (fun (A145 : (Nat → Prop)) => fun w' => Hp B A145 w' (obC b7 [Ii z33.1.1.from_, Ii z33.1.1.to_] 255 :: yield_Y s140 :: obO D126 (.deferred (some [])) :: L) ∧ Tr Dw B A128 w127 A145 w') ?_ ?_
 ·have hr141 : Tr Dw B A128 w127 A128 w127 := Tr.refl (Dw := Dw) hA
  refine Cc (fun hc147 => ?_) fun hc147 => ?_
  ·rw [if_pos hc147] at ho139
   refine C_region (Vy (Y_load h5.2.2 isAgg253 rfl) (Vy (Y_loadA (Hp.part (off := 0) (n := 2) (ds := [Ii z33.1.1.from_, Ii z33.1.1.to_]) hH (i := 0) rfl rfl) isAgg255 sizeOf255 rfl) ?_))
   obtain ⟨x148, hx148, ho139⟩ := Bs ho139
   replace hH : Hp B A128 w127 (yield_Y z33.1.2 :: obC b7 [Ii z33.1.1.from_, Ii z33.1.1.to_] 255 :: obO D126 (.deferred (some [])) :: L) := Hp.front hH (i := 1) rfl
   refine V_callV rfl rfl rfl (yield_spec w127 _ _ z33.1.1 _ x148.1 x148.2 hB hA hK hH hx148) ?_
   rintro _ w149 ⟨rfl, A150, ht152, hH151⟩
   replace h5 := Vb.tr (Dw := Dw) h5 ht152
   replace hr141 := Tt hr141 ht152
   replace hH : Hp _ _ _ (yield_Y x148.2 :: obC b7 [Ii z33.1.1.from_, Ii z33.1.1.to_] 255 :: obO D126 (.deferred (some [])) :: L) := hH151
   obtain rfl := Oi ho139
   refine V_end (fun a ha153 => ?_)
   replace hH : Hp B A150 w149 (obO D126 (.deferred (some [])) :: yield_Y x148.2 :: obC b7 [Ii z33.1.1.from_, Ii z33.1.1.to_] 255 :: L) := Hp.front hH (i := 2) rfl
   replace hH : Hp B A150 w149 (yield_Y x148.2 :: obO D126 (.deferred (some [])) :: obC b7 [Ii z33.1.1.from_, Ii z33.1.1.to_] 255 :: L) := Hp.front hH (i := 1) rfl
   replace hH : Hp B A150 w149 (obC b7 [Ii z33.1.1.from_, Ii z33.1.1.to_] 255 :: yield_Y x148.2 :: obO D126 (.deferred (some [])) :: L) := Hp.front hH (i := 2) rfl
   exact ⟨A150, ha153.sub trivial, ⟨hH, hr141⟩⟩
  rw [if_neg (nt hc147)] at ho139
  obtain rfl := Oi ho139
  refine C_skip (fun a ha154 => ?_)
  exact ⟨A128, ha154.sub trivial, ⟨hH, hr141⟩⟩
 rintro A145 w142 ⟨hH146, hk143⟩ a ha144
 replace hK := Tr.trans hK hk143; replace hB := Nat.le_trans hB hk143.ex.size; replace hA := hk143.new
 replace hH : Hp _ _ _ (obC b7 [Ii z33.1.1.from_, Ii z33.1.1.to_] 255 :: yield_Y s140 :: obO D126 (.deferred (some [])) :: L) := hH146
 obtain rfl := Oi hm
 have h156 := Hp.obj hH (i := 2) (b := D126) rfl
 obtain ⟨hH157, ht158⟩ := Hp.put (Dw := Dw) (.deferred none) hH (i := 2) (b := D126) rfl hB hA
 replace hK := Tt hK ht158
 replace hH : Hp B A145 (World.putObj w142 D126 (.deferred none)) (obC b7 [Ii z33.1.1.from_, Ii z33.1.1.to_] 255 :: yield_Y s140 :: obO D126 (.deferred none) :: L) := hH157
 replace hH : Hp B A145 (World.putObj w142 D126 (.deferred none)) (yield_Y s140 :: obC b7 [Ii z33.1.1.from_, Ii z33.1.1.to_] 255 :: obO D126 (.deferred none) :: L) := Hp.front hH (i := 1) rfl
 replace hH : Hp B A145 (World.putObj w142 D126 (.deferred none)) (yield_Y s140 :: obO D126 (.deferred none) :: L) := Hp.drop hH (i := 1) rfl
 replace hH : Hp B A145 (World.putObj w142 D126 (.deferred none)) (yield_Y s140 :: L) := Hp.drop hH (i := 1) rfl
 try simp only [↓ib, ↓th]
 exact normM (retM1 rfl h156 (Res.zero results141) ⟨A145, rfl, hH, hK⟩ a ha144)
theorem cal_Open_c (w : World) {A : Nat → Prop} (hA : ∀ b, w.heap.size ≤ b → A b) (c : cal_Calendar) (v_c0 : Value) (h_c0 : Sl A w v_c0 c.zone.changes) (v_c1 : Value) (h_c1 : Sl A w v_c1 c.week) (v_c2 : Value) (h_c2 : Sl A w v_c2 c.specials) (m : Int) {r : (Bool × Int)} (hm : cal_Open c m = some r) : Ret prog 102 #[.agg #[Ii c.zone.offset, v_c0, v_c1, v_c2], Ii m] w fun v w' => v = .tuple #[.bool r.1, Ii r.2] ∧ Kp Dw w w' := by
 unfold cal_Open at hm
 refine enterM func102 rfl ntmps102 rfl ?_
 have hA0 := hA
 obtain ⟨hB, hK, hH⟩ := St (Dw := Dw) hA
 refine Sr ?_
 refine V_box rfl rfl ?_
 intro b7 w9 h10
 have hk12 := h10.kp (Dw := Dw)
 have h11 : El (α := cal_Calendar) A w9 b7 0 c := h10.el hA ⟨[Ii c.zone.offset, v_c0], _, rfl, ⟨[Ii c.zone.offset], _, rfl, rfl, ⟨_, rfl, h_c0⟩⟩, ⟨[v_c1], _, rfl, ⟨_, rfl, h_c1⟩, ⟨_, rfl, h_c2⟩⟩⟩
 have ht13 := Kp.tr hk12 hA hB; replace hH := Hp.kp hH hk12; replace hK := Tt hK ht13; replace hB := Bx hB ht13; replace hA := ht13.new
 refine V_allocH (Dw := Dw) (B := w.heap.size) hH zeroValue4 hB hA rfl ?_
 intro b14 w15 A16 hH17 ht18
 replace h11 := El.tr h11 ht18; replace hK := Tt hK ht18; replace hB := Bx hB ht18; replace hA := ht18.new
 replace hH : Hp _ _ _ (obC b14 [.bool false] 4 :: []) := hH17
 refine V_allocH (Dw := Dw) (B := w.heap.size) hH zeroValue27 hB hA rfl ?_
 intro b19 w20 A21 hH22 ht23
 replace h11 := El.tr h11 ht23; replace hK := Tt hK ht23; replace hB := Bx hB ht23; replace hA := ht23.new
 replace hH : Hp _ _ _ (obC b19 [Ii 0] 27 :: obC b14 [.bool false] 4 :: []) := hH22
 refine To ?_
 refine C_seq (Sr ?_)
 obtain ⟨v24, v26, v28, h30, h25, h27, h29⟩ := El_cal_Calendar h11
 refine Vy (Y_loadA h30 isAgg68 sizeOf68 rfl) ?_
 obtain ⟨x31, hx31, hm⟩ := Bs hm
 refine Vc call61 (cal_CheckCalendar_c (Dw := Dw) w20 hA c v24 h25 v26 h27 v28 h29 hx31) ?_
 rintro _ w33 ⟨rfl, hk34⟩
 have ht35 := Kp.tr hk34 hA hB; replace hH := Hp.kp hH hk34; replace h11 := El.tr h11 ht35; replace hK := Tt hK ht35; replace hB := Bx hB ht35; replace hA := ht35.new
 refine Mm ?_
 refine Vc call121 (cal_moment_c w33 m) ?_
 rintro _ _ ⟨rfl, rfl⟩
 refine V_buildSlice (Dw := Dw) (cells := #[Ii x31, Ii (cal_moment m)]) (l := ([x31, (cal_moment m)] : List Int)) (len := 2) underlying166 sizeOf27 zeroValue27 rfl (by generalize ((cal_moment m) : Int) = z40; kernel_rfl) (show (2 * 1 : Nat) ≠ 0 by decide) (show (2 * 1 : Nat) ≤ 2 ^ 24 by decide) hA ⟨[Ii x31], _, rfl, rfl, ⟨[Ii (cal_moment m)], _, rfl, rfl, rfl⟩⟩ rfl rfl ?_
 intro v36 w37 hk39 h38
 have ht41 := Kp.tr hk39 hA hB; replace hH := Hp.kp hH hk39; replace h11 := El.tr h11 ht41; replace hK := Tt hK ht41; replace hB := Bx hB ht41; replace hA := ht41.new
 obtain ⟨x42, hx42, hm⟩ := Bs hm
 refine Vc call8 (cmp_Or_api_Errno_c w37 ([x31, (cal_moment m)] : List Int) v36 h38 hx42) ?_
 rintro _ _ ⟨rfl, rfl⟩
 refine As (To ?_)
 refine Sr (Mm (Vy (Y_neq rfl rfl) (To ?_)))
 refine Cc (fun hc43 => ?_) fun hc43 => ?_
 ·rw [if_pos hc43] at hm
  refine Sr (Mm ?_)
  refine V_storeC (Dw := Dw) (off := 0) (ds := [.bool false]) hH (i := 1) rfl sizeOf4 rfl (Nat.le_of_ble_eq_true rfl) (by simp [Value.cells, Value.oneCell']) rfl hB hA rfl rfl ?_
  intro w44 hH45 ht46
  replace hK := Tt hK ht46; replace hB := Bx hB ht46; replace hA := ht46.new
  replace hH : Hp _ _ _ (obC b19 [Ii 0] 27 :: obC b14 [.bool false] 4 :: []) := hH45
  refine V_storeC (Dw := Dw) (off := 0) (ds := [Ii x42]) hH (i := 0) rfl sizeOf27 rfl (Nat.le_of_ble_eq_true rfl) (by simp [Value.cells, Value.oneCell']) rfl hB hA rfl rfl ?_
  intro w47 hH48 ht49
  replace hK := Tt hK ht49
  replace hH : Hp _ _ _ (obC b19 [Ii x42] 27 :: obC b14 [.bool false] 4 :: []) := hH48
  refine To ?_
  obtain rfl := Oi hm
  refine C_ret ?_
  try simp only [↓ib, ↓th]
  exact retM rfl (Res.l2 results102 (RL.cell rfl (loadVar_one (Hp.cell (j := 0) hH (i := 1) rfl rfl) isAgg4)) (RL.cell rfl (loadVar_one (Hp.cell (j := 0) hH (i := 0) rfl rfl) isAgg27))) ⟨rfl, hK.kp⟩
 rw [if_neg (nt hc43)] at hm
 refine Sk ?_
 refine C_seq (Sr ?_)
 obtain ⟨v50, v52, v54, h56, h51, h53, h55⟩ := El_cal_Calendar h11
 refine Vy (Y_loadA h56 isAgg68 sizeOf68 rfl) (Mm (Mm (Vy (Y_addI rfl rfl) ?_)))
 obtain ⟨x57, hx57, hm⟩ := Bs hm
 refine Vc call122 (cal_Calendar_open_c (Dw := Dw) w37 hA c v50 h51 v52 h53 v54 h55 m (w64 (m + 1)) hx57) ?_
 rintro _ w65 ⟨b58, b60, b62, rfl, h59, h61, h63, hk66⟩
 have ht67 := Kp.tr hk66 hA hB; replace hH := Hp.kp hH hk66; replace hK := Tt hK ht67; replace hB := Bx hB ht67; replace hA := ht67.new
 refine To ?_
 have hH72 : Hp w.heap.size A21 w65 ((fun (s69 : (Int × Bool)) => obE (fun (i : Unit) => [obC b19 [Ii s69.1] 27, obC b14 [.bool s69.2] 4])) (0, false) :: []) := Hp.pack (F := fun (i : Unit) => [obC b19 [Ii (0, false).1] 27, obC b14 [.bool (0, false).2] 4]) () hH
 obtain ⟨z68, hz68, hm⟩ := Bs hm
 refine C_cutN (ι := Nat × (Nat → Prop)) (fun i => ⟨22, [{ target := .collected i.1, args := #[] }], none⟩) (fun i => [(4, Pt b14), (5, Pt b19)]) (fun i w' => z68.2 ≠ some 0 ∧ Hp w.heap.size i.2 w' ((fun (s69 : (Int × Bool)) => obE (fun (i : Unit) => [obC b19 [Ii s69.1] 27, obC b14 [.bool s69.2] 4])) z68.1 :: obO i.1 (.deferred (some [])) :: []) ∧ Tr Dw w.heap.size A21 w65 i.2 w') ?_ ?_
 ·refine C_block ?_
  refine C_rangeFunc (Dw := Dw) (B := w.heap.size) (A := A21) (L := []) (X := cal_Span) (fun (x78 : cal_Span) => [.agg #[Ii x78.from_, Ii x78.to_]]) (fun (s69 : (Int × Bool)) => obE (fun (i : Unit) => [obC b19 [Ii s69.1] 27, obC b14 [.bool s69.2] 4])) (fun (x78 : cal_Span) (s70 : (Int × Bool)) => some ((0, true), some 0)) (fun k => if k = 0 then .ret else .exit 0) (s0 := (0, false)) (zf := z68) rfl rfl rfl (by decide) (fun _ => rfl) hB hA hH72 141 _ rfl call141 ?_ ?_ ?_ ?_
  ·intro Ys yv w1 A1 L1 h1 h2 h3 h4 h0 h5
   exact (cal_Calendar_open_1_c (Dw := Dw) w1 h1 h2 (yieldB (fun (x78 : cal_Span) (s70 : (Int × Bool)) => some ((0, true), some 0))) Ys yv h0 ((0, false), none) h5 x57.1 b58 (El.tr h59 h3) x57.2.1 b60 (El.tr h61 h3) x57.2.2 b62 (El.tr h63 h3) h4 hz68).mono fun _ _ ⟨A3, _, hh, tt⟩ => ⟨A3, tt, hh⟩
  ·intro l73 rc74 w75 A76 L77 x78 s70 s71 j79 hst80 hB81 hA82 ht83 hH84 h85
   obtain ⟨_, hH84⟩ := Hp.open hH84
   replace hB := Bx hB ht83; replace hA := ht83.new
   replace hH : Hp _ _ _ (obC b19 [Ii s70.1] 27 :: obC b14 [.bool s70.2] 4 :: obO l73 (.loop rc74) :: L77) := hH84
   have hr86 : Tr Dw w.heap.size A76 w75 A76 w75 := Tr.refl (Dw := Dw) hA
   show C _ _ _ _ _ _
   refine C_skip (fun a ha88 => ?_)
   refine begin_at (Dw := Dw) hH (i := 2) rfl hst80 hB hA (fun w89 hH90 ht91 => ?_) ha88
   replace hr86 := Tt hr86 ht91; replace hB := Bx hB ht91; replace hA := ht91.new
   replace hH : Hp _ _ _ (obC b19 [Ii s70.1] 27 :: obC b14 [.bool s70.2] 4 :: obO l73 (.loop { rc74 with state := .busy }) :: L77) := hH90
   refine C_block (Sr ?_)
   refine V_storeC (Dw := Dw) (off := 0) (ds := [.bool true]) hH (i := 1) rfl sizeOf4 rfl (Nat.le_of_ble_eq_true rfl) (by simp [Value.cells, Value.oneCell']) rfl hB hA rfl rfl ?_
   intro w92 hH93 ht94
   replace hr86 := Tt hr86 ht94; replace hB := Bx hB ht94; replace hA := ht94.new
   replace hH : Hp _ _ _ (obC b19 [Ii s70.1] 27 :: obC b14 [.bool true] 4 :: obO l73 (.loop { rc74 with state := .busy }) :: L77) := hH93
   refine V_storeC (Dw := Dw) (off := 0) (ds := [Ii 0]) hH (i := 0) rfl sizeOf27 rfl (Nat.le_of_ble_eq_true rfl) (by simp [Value.cells, Value.oneCell']) rfl hB hA rfl rfl ?_
   intro w95 hH96 ht97
   replace hr86 := Tt hr86 ht97
   replace hH : Hp _ _ _ (obC b19 [Ii 0] 27 :: obC b14 [.bool true] 4 :: obO l73 (.loop { rc74 with state := .busy }) :: L77) := hH96
   refine To ?_
   obtain ⟨rfl, rfl⟩ := Prod.mk.inj (Oi h85)
   refine C_ret (fun a ha98 => ?_)
   exact ⟨rfl, A76, hr86, Hp.pack (F := fun (i : Unit) => [obC b19 [Ii (0, true).1] 27, obC b14 [.bool (0, true).2] 4]) () hH⟩
  ·intro hc104 D99 w100 A101 ht102 hH103 a ha105
   exact ⟨(D99, A101), ha105.sb, (by rw [hc104]; simp), hH103, ht102⟩
  intro k106 hc104 D99 w100 A101 ht102 hH103
  by_cases hc107 : k106 = 0
  ·subst hc107
   rw [if_pos hc104] at hm
   obtain ⟨_, hH103⟩ := Hp.open hH103
   replace hK := Tt hK ht102; replace hB := Bx hB ht102; replace hA := ht102.new
   replace hH : Hp _ _ _ (obC b19 [Ii z68.1.1] 27 :: obC b14 [.bool z68.1.2] 4 :: obO D99 (.deferred (some [])) :: []) := hH103
   show C _ _ .ret _ _ _
   obtain rfl := Oi hm
   have h108 := Hp.obj hH (i := 2) (b := D99) rfl
   obtain ⟨hH109, ht110⟩ := Hp.put (Dw := Dw) (.deferred none) hH (i := 2) (b := D99) rfl hB hA
   replace hK := Tt hK ht110
   replace hH : Hp w.heap.size A101 (World.putObj w100 D99 (.deferred none)) (obC b19 [Ii z68.1.1] 27 :: obC b14 [.bool z68.1.2] 4 :: obO D99 (.deferred none) :: []) := hH109
   refine C_ret ?_
   try simp only [↓ib, ↓th]
   exact retM1 rfl h108 (Res.l2 results102 (RL.cell rfl (loadVar_one (Hp.cell (j := 0) hH (i := 1) rfl rfl) isAgg4)) (RL.cell rfl (loadVar_one (Hp.cell (j := 0) hH (i := 0) rfl rfl) isAgg27))) ⟨rfl, hK.kp⟩
  show C _ _ (if k106 = 0 then _ else _) _ _ _
  rw [if_neg hc107]
  refine C_exit fun a ha105 => ?_
  show Exit.inBlock _ _ _ _ _
  rw [Exit.inBlock, if_pos rfl]
  exact ⟨(D99, A101), ha105.sb, (by rw [hc104]; simpa using hc107), hH103, ht102⟩
 rintro ⟨D99, A101⟩ w100 ⟨hc111, hH103, ht102⟩ a ha105
 rw [if_neg hc111] at hm
 obtain ⟨_, hH103⟩ := Hp.open hH103
 replace hK := Tt hK ht102; replace hB := Bx hB ht102; replace hA := ht102.new
 replace hH : Hp _ _ _ (obC b19 [Ii z68.1.1] 27 :: obC b14 [.bool z68.1.2] 4 :: obO D99 (.deferred (some [])) :: []) := hH103
 refine C_at (n := ⟨22, [{ target := .collected D99, args := #[] }], none⟩) (fun _ _ => rfl) ?_ ha105
 refine Sr ?_
 refine V_storeC (Dw := Dw) (off := 0) (ds := [.bool false]) hH (i := 1) rfl sizeOf4 rfl (Nat.le_of_ble_eq_true rfl) (by simp [Value.cells, Value.oneCell']) rfl hB hA rfl rfl ?_
 intro w112 hH113 ht114
 replace hK := Tt hK ht114; replace hB := Bx hB ht114; replace hA := ht114.new
 replace hH : Hp _ _ _ (obC b19 [Ii z68.1.1] 27 :: obC b14 [.bool false] 4 :: obO D99 (.deferred (some [])) :: []) := hH113
 refine V_storeC (Dw := Dw) (off := 0) (ds := [Ii 0]) hH (i := 0) rfl sizeOf27 rfl (Nat.le_of_ble_eq_true rfl) (by simp [Value.cells, Value.oneCell']) rfl hB hA rfl rfl ?_
 intro w115 hH116 ht117
 replace hK := Tt hK ht117; replace hB := Bx hB ht117; replace hA := ht117.new
 replace hH : Hp _ _ _ (obC b19 [Ii 0] 27 :: obC b14 [.bool false] 4 :: obO D99 (.deferred (some [])) :: []) := hH116
 refine To ?_
 obtain rfl := Oi hm
 have h118 := Hp.obj hH (i := 2) (b := D99) rfl
 obtain ⟨hH119, ht120⟩ := Hp.put (Dw := Dw) (.deferred none) hH (i := 2) (b := D99) rfl hB hA
 replace hK := Tt hK ht120
 replace hH : Hp w.heap.size A101 (World.putObj w115 D99 (.deferred none)) (obC b19 [Ii 0] 27 :: obC b14 [.bool false] 4 :: obO D99 (.deferred none) :: []) := hH119
 refine C_ret ?_
 try simp only [↓ib, ↓th]
 exact retM1 rfl h118 (Res.l2 results102 (RL.cell rfl (loadVar_one (Hp.cell (j := 0) hH (i := 1) rfl rfl) isAgg4)) (RL.cell rfl (loadVar_one (Hp.cell (j := 0) hH (i := 0) rfl rfl) isAgg27))) ⟨rfl, hK.kp⟩
theorem route_assigner_at_c (w : World) {A : Nat → Prop} {B : Nat} (hB : B ≤ w.heap.size) (hA : ∀ b, w.heap.size ≤ b → A b) (a_ : route_assigner) (b_a_ : Nat) (h_a_ : El A w b_a_ 0 a_) (held : (List route_Held)) (v_held : Value) (h_held : Sl A w v_held held) (m : Int) {L : List Ob} (hH : Hp B A w (L)) {r : route_desk} (hm : route_assigner_at a_ held m = some r) : Ret prog 67 #[Pt b_a_, v_held, Ii m] w fun v w' => ∃ b0, ∃ p0, ∃ p1, ∃ p2, ∃ p3, ∃ A1 : Nat → Prop, v = Pt b0 ∧ Sl A1 w' p0 r.people ∧ Hp B A1 w' (obC b0 [p0, p1, p2, p3] 181 :: o_4 p1 r.duty :: o_3 p2 r.weights :: o_3 p3 r.latest :: L) ∧ Tr Dw B A w A1 w' := by
 unfold route_assigner_at at hm
 refine enter func67 rfl ntmps67 rfl ?_
 have hK : Tr Dw B A w A w := Tr.refl (Dw := Dw) hA
 refine Sr (As (To ?_))
 refine C_seq ?_
 obtain ⟨x83, hx83, hm⟩ := Bs hm
 obtain ⟨x143, hx143, hm⟩ := Bs hm
 obtain ⟨x203, hx203, hm⟩ := Bs hm
 refine C_region_chm (Dw := Dw) A (fun w3 a' w' => ∃ (v204 : Value) (v144 : Value) (v84 : Value) (v7 : Value), ∃ A' : Nat → Prop, Has ⟨135, [], none⟩ a' [(0, Pt b_a_), (1, v_held), (2, Ii m), (19, v7), (25, v84), (31, v144), (37, v204)] ∧ Hp B A' w' (o_3 v204 x203 :: o_3 v144 x143 :: o_4 v84 x83 :: L) ∧ Sl A' w' v7 a_.people ∧ Tr Dw B A w3 A' w') [9, 15, 21] [(0, 0), (0, 1), (0, 2), (0, 3), (0, 4), (0, 5), (0, 6), (0, 7), (0, 8), (0, 10), (0, 11), (0, 12), (0, 13), (0, 14), (0, 16), (0, 17), (0, 18), (0, 19), (0, 20)] [(0, 22), (2, 23), (0, 24)] Tryz_mixed (by kernel_rfl) (fun w3 hk4 => ?_) (fun w3 hk4 => ?_)
 ·have ht5 := Kp.tr hk4 hA hB
  replace hH := Hp.kp hH hk4; replace h_a_ := El.tr h_a_ ht5; replace h_held := Sl.tr h_held ht5; replace hB := Bx hB ht5; replace hA := ht5.new
  refine CHM_q1 rfl (Qm (VQ_CHM (CHM_q1 rfl (Qn (VQ_CHM (CHM_q1 rfl ?_))))))
  have h6 := El_route_assigner_0 h_a_
  refine Qf underlying49 rfl sizeOf22 (VQ_CHM (CHM_q1 rfl ?_))
  obtain ⟨v7, h8, h9⟩ := El.list h6
  refine Qc h8 isAgg22 (VQ_CHM (CHM_q1 rfl (Qm (VQ_CHM (CHM_q1 rfl (Qn (VQ_CHM (CHM_q1 rfl ?_))))))))
  have h10 := El_route_assigner_0 h_a_
  refine Qf underlying49 rfl sizeOf22 (VQ_CHM (CHM_q1 rfl ?_))
  obtain ⟨v11, h12, h13⟩ := El.list h10
  refine Qc h12 isAgg22 (VQ_CHM (CHM_q1 rfl (Qv (fun w' hw' => Y_lenSl h13 rfl underlying22 rfl) (VQ_CHM (CHM_q1 rfl (Qm (VQ_CHM (CHM_q1 rfl (Qn ?_)))))))))
  refine VQ_CHM (CHM_q1 rfl ?_)
  have h14 := El_route_assigner_0 h_a_
  refine Qf underlying49 rfl sizeOf22 (VQ_CHM (CHM_q1 rfl ?_))
  obtain ⟨v15, h16, h17⟩ := El.list h14
  refine Qc h16 isAgg22 (VQ_CHM (CHM_q1 rfl (Qm (VQ_CHM (CHM_q1 rfl (Qm (VQ_CHM (CHM_q1 rfl (Qn ?_)))))))))
  refine VQ_CHM (CHM_q1 rfl ?_)
  have h18 := El_route_assigner_0 h_a_
  refine Qf underlying49 rfl sizeOf22 (VQ_CHM (CHM_q1 rfl ?_))
  obtain ⟨v19, h20, h21⟩ := El.list h18
  refine Qc h20 isAgg22 (VQ_CHM (CHM_q1 rfl (Qv (fun w' hw' => Y_lenSl h21 rfl underlying22 rfl) (VQ_CHM ?_))))
  refine CHM_nil ?_
  have hT22 : Tr Dw B A w3 A w3 := Tr.refl (Dw := Dw) hA
  refine CHA_3 rfl rfl rfl rfl rfl rfl ?_ ?_ ?_
  ·refine V_makeH (Dw := Dw) (B := w3.heap.size) (L := []) (e := 4) (ti := t4) Hp.nil hx83 (fun _ _ => rfl) underlying47 Tryz_info4 rfl rfl rfl (by decide) (by decide) (Nat.le_refl _) hA rfl rfl rfl ?_
   intro v84 w85 A86 hH87 ht88
   have hk89 : Kp Dw w3 w85 := ht88.below
   have hH90 := Hp.join (Dw := Dw) hH hB ht88 hH87
   have ht91 := Tr.lower (Dw := Dw) ht88 hB
   replace h_held := Sl.tr h_held ht91; replace h9 := Sl.tr h9 ht91; replace h17 := Sl.tr h17 ht91; replace hT22 := Tt hT22 ht91; replace hB := Bx hB ht91; replace hA := ht91.new
   replace hH : Hp _ _ _ (o_4 v84 x83 :: L) := hH90
   refine V_CHA (hk89) ?_
   refine CHA_2 rfl rfl rfl rfl ?_ ?_
   ·refine Vc call101 (route_weights_c (Dw := Dw) w85 hA a_.people v15 h17 held v_held h_held hx143) ?_
    rintro v144 w146 ⟨_, rfl, h145, hk147⟩
    obtain ⟨A148, ht149, hH150⟩ := Hp.addOwnd (Dw := Dw) hH hB hA hk147 h145
    replace h9 := Sl.tr h9 ht149; replace hT22 := Tt hT22 ht149; replace hB := Bx hB ht149; replace hA := ht149.new
    replace hH : Hp _ _ _ (o_3 v144 x143 :: o_4 v84 x83 :: L) := hH150
    refine V_CHA (hk147) ?_
    refine CHA_1 rfl rfl ?_
    refine V_makeH (Dw := Dw) (B := w146.heap.size) (L := []) (e := 3) (ti := t3) Hp.nil hx203 (fun _ _ => rfl) underlying98 Tryz_info3 rfl rfl rfl (by decide) (by decide) (Nat.le_refl _) hA rfl rfl rfl ?_
    intro v204 w205 A206 hH207 ht208
    have hk209 : Kp Dw w146 w205 := ht208.below
    have hH210 := Hp.join (Dw := Dw) hH hB ht208 hH207
    have ht211 := Tr.lower (Dw := Dw) ht208 hB
    replace h9 := Sl.tr h9 ht211; replace hT22 := Tt hT22 ht211
    replace hH : Hp _ _ _ (o_3 v204 x203 :: o_3 v144 x143 :: o_4 v84 x83 :: L) := hH210
    refine V_CHA (hk209) ?_
    exact CHA_0 (fun a ha => ⟨v204, v144, v84, v7, A206, ha.sb, hH, h9, hT22⟩)
   refine V_makeH (Dw := Dw) (B := w85.heap.size) (L := []) (e := 3) (ti := t3) Hp.nil hx203 (fun _ _ => rfl) underlying98 Tryz_info3 rfl rfl rfl (by decide) (by decide) (Nat.le_refl _) hA rfl rfl rfl ?_
   intro v204 w205 A206 hH207 ht208
   have hk209 : Kp Dw w85 w205 := ht208.below
   have hH210 := Hp.join (Dw := Dw) hH hB ht208 hH207
   have ht211 := Tr.lower (Dw := Dw) ht208 hB
   replace h_held := Sl.tr h_held ht211; replace h9 := Sl.tr h9 ht211; replace h17 := Sl.tr h17 ht211; replace hT22 := Tt hT22 ht211; replace hB := Bx hB ht211; replace hA := ht211.new
   replace hH : Hp _ _ _ (o_3 v204 x203 :: o_4 v84 x83 :: L) := hH210
   refine V_CHA (hk209) ?_
   refine CHA_1 rfl rfl ?_
   refine Vc call101 (route_weights_c (Dw := Dw) w205 hA a_.people v15 h17 held v_held h_held hx143) ?_
   rintro v144 w146 ⟨_, rfl, h145, hk147⟩
   obtain ⟨A148, ht149, hH150⟩ := Hp.addOwnd (Dw := Dw) hH hB hA hk147 h145
   replace h9 := Sl.tr h9 ht149; replace hT22 := Tt hT22 ht149
   replace hH : Hp _ _ _ (o_3 v144 x143 :: o_3 v204 x203 :: o_4 v84 x83 :: L) := hH150
   refine V_CHA (hk147) ?_
   replace hH : Hp B A148 w146 (o_4 v84 x83 :: o_3 v144 x143 :: o_3 v204 x203 :: L) := Hp.front hH (i := 2) rfl
   replace hH : Hp B A148 w146 (o_3 v144 x143 :: o_4 v84 x83 :: o_3 v204 x203 :: L) := Hp.front hH (i := 1) rfl
   replace hH : Hp B A148 w146 (o_3 v204 x203 :: o_3 v144 x143 :: o_4 v84 x83 :: L) := Hp.front hH (i := 2) rfl
   exact CHA_0 (fun a ha => ⟨v204, v144, v84, v7, A148, ha.sb, hH, h9, hT22⟩)
  ·refine Vc call101 (route_weights_c (Dw := Dw) w3 hA a_.people v15 h17 held v_held h_held hx143) ?_
   rintro v144 w146 ⟨_, rfl, h145, hk147⟩
   obtain ⟨A148, ht149, hH150⟩ := Hp.addOwnd (Dw := Dw) hH hB hA hk147 h145
   replace h9 := Sl.tr h9 ht149; replace hT22 := Tt hT22 ht149; replace hB := Bx hB ht149; replace hA := ht149.new
   replace hH : Hp _ _ _ (o_3 v144 x143 :: L) := hH150
   refine V_CHA (hk147) ?_
   refine CHA_2 rfl rfl rfl rfl ?_ ?_
   ·refine V_makeH (Dw := Dw) (B := w146.heap.size) (L := []) (e := 4) (ti := t4) Hp.nil hx83 (fun _ _ => rfl) underlying47 Tryz_info4 rfl rfl rfl (by decide) (by decide) (Nat.le_refl _) hA rfl rfl rfl ?_
    intro v84 w85 A86 hH87 ht88
    have hk89 : Kp Dw w146 w85 := ht88.below
    have hH90 := Hp.join (Dw := Dw) hH hB ht88 hH87
    have ht91 := Tr.lower (Dw := Dw) ht88 hB
    replace h9 := Sl.tr h9 ht91; replace hT22 := Tt hT22 ht91; replace hB := Bx hB ht91; replace hA := ht91.new
    replace hH : Hp _ _ _ (o_4 v84 x83 :: o_3 v144 x143 :: L) := hH90
    refine V_CHA (hk89) ?_
    refine CHA_1 rfl rfl ?_
    refine V_makeH (Dw := Dw) (B := w85.heap.size) (L := []) (e := 3) (ti := t3) Hp.nil hx203 (fun _ _ => rfl) underlying98 Tryz_info3 rfl rfl rfl (by decide) (by decide) (Nat.le_refl _) hA rfl rfl rfl ?_
    intro v204 w205 A206 hH207 ht208
    have hk209 : Kp Dw w85 w205 := ht208.below
    have hH210 := Hp.join (Dw := Dw) hH hB ht208 hH207
    have ht211 := Tr.lower (Dw := Dw) ht208 hB
    replace h9 := Sl.tr h9 ht211; replace hT22 := Tt hT22 ht211
    replace hH : Hp _ _ _ (o_3 v204 x203 :: o_4 v84 x83 :: o_3 v144 x143 :: L) := hH210
    refine V_CHA (hk209) ?_
    replace hH : Hp B A206 w205 (o_4 v84 x83 :: o_3 v204 x203 :: o_3 v144 x143 :: L) := Hp.front hH (i := 1) rfl
    replace hH : Hp B A206 w205 (o_3 v144 x143 :: o_4 v84 x83 :: o_3 v204 x203 :: L) := Hp.front hH (i := 2) rfl
    replace hH : Hp B A206 w205 (o_3 v204 x203 :: o_3 v144 x143 :: o_4 v84 x83 :: L) := Hp.front hH (i := 2) rfl
    exact CHA_0 (fun a ha => ⟨v204, v144, v84, v7, A206, ha.sb, hH, h9, hT22⟩)
   refine V_makeH (Dw := Dw) (B := w146.heap.size) (L := []) (e := 3) (ti := t3) Hp.nil hx203 (fun _ _ => rfl) underlying98 Tryz_info3 rfl rfl rfl (by decide) (by decide) (Nat.le_refl _) hA rfl rfl rfl ?_
   intro v204 w205 A206 hH207 ht208
   have hk209 : Kp Dw w146 w205 := ht208.below
   have hH210 := Hp.join (Dw := Dw) hH hB ht208 hH207
   have ht211 := Tr.lower (Dw := Dw) ht208 hB
   replace h9 := Sl.tr h9 ht211; replace hT22 := Tt hT22 ht211; replace hB := Bx hB ht211; replace hA := ht211.new
   replace hH : Hp _ _ _ (o_3 v204 x203 :: o_3 v144 x143 :: L) := hH210
   refine V_CHA (hk209) ?_
   refine CHA_1 rfl rfl ?_
   refine V_makeH (Dw := Dw) (B := w205.heap.size) (L := []) (e := 4) (ti := t4) Hp.nil hx83 (fun _ _ => rfl) underlying47 Tryz_info4 rfl rfl rfl (by decide) (by decide) (Nat.le_refl _) hA rfl rfl rfl ?_
   intro v84 w85 A86 hH87 ht88
   have hk89 : Kp Dw w205 w85 := ht88.below
   have hH90 := Hp.join (Dw := Dw) hH hB ht88 hH87
   have ht91 := Tr.lower (Dw := Dw) ht88 hB
   replace h9 := Sl.tr h9 ht91; replace hT22 := Tt hT22 ht91
   replace hH : Hp _ _ _ (o_4 v84 x83 :: o_3 v204 x203 :: o_3 v144 x143 :: L) := hH90
   refine V_CHA (hk89) ?_
   replace hH : Hp B A86 w85 (o_3 v144 x143 :: o_4 v84 x83 :: o_3 v204 x203 :: L) := Hp.front hH (i := 2) rfl
   replace hH : Hp B A86 w85 (o_3 v204 x203 :: o_3 v144 x143 :: o_4 v84 x83 :: L) := Hp.front hH (i := 2) rfl
   exact CHA_0 (fun a ha => ⟨v204, v144, v84, v7, A86, ha.sb, hH, h9, hT22⟩)
  refine V_makeH (Dw := Dw) (B := w3.heap.size) (L := []) (e := 3) (ti := t3) Hp.nil hx203 (fun _ _ => rfl) underlying98 Tryz_info3 rfl rfl rfl (by decide) (by decide) (Nat.le_refl _) hA rfl rfl rfl ?_
  intro v204 w205 A206 hH207 ht208
  have hk209 : Kp Dw w3 w205 := ht208.below
  have hH210 := Hp.join (Dw := Dw) hH hB ht208 hH207
  have ht211 := Tr.lower (Dw := Dw) ht208 hB
  replace h_held := Sl.tr h_held ht211; replace h9 := Sl.tr h9 ht211; replace h17 := Sl.tr h17 ht211; replace hT22 := Tt hT22 ht211; replace hB := Bx hB ht211; replace hA := ht211.new
  replace hH : Hp _ _ _ (o_3 v204 x203 :: L) := hH210
  refine V_CHA (hk209) ?_
  refine CHA_2 rfl rfl rfl rfl ?_ ?_
  ·refine V_makeH (Dw := Dw) (B := w205.heap.size) (L := []) (e := 4) (ti := t4) Hp.nil hx83 (fun _ _ => rfl) underlying47 Tryz_info4 rfl rfl rfl (by decide) (by decide) (Nat.le_refl _) hA rfl rfl rfl ?_
   intro v84 w85 A86 hH87 ht88
   have hk89 : Kp Dw w205 w85 := ht88.below
   have hH90 := Hp.join (Dw := Dw) hH hB ht88 hH87
   have ht91 := Tr.lower (Dw := Dw) ht88 hB
   replace h_held := Sl.tr h_held ht91; replace h9 := Sl.tr h9 ht91; replace h17 := Sl.tr h17 ht91; replace hT22 := Tt hT22 ht91; replace hB := Bx hB ht91; replace hA := ht91.new
   replace hH : Hp _ _ _ (o_4 v84 x83 :: o_3 v204 x203 :: L) := hH90
   refine V_CHA (hk89) ?_
   refine CHA_1 rfl rfl ?_
   refine Vc call101 (route_weights_c (Dw := Dw) w85 hA a_.people v15 h17 held v_held h_held hx143) ?_
   rintro v144 w146 ⟨_, rfl, h145, hk147⟩
   obtain ⟨A148, ht149, hH150⟩ := Hp.addOwnd (Dw := Dw) hH hB hA hk147 h145
   replace h9 := Sl.tr h9 ht149; replace hT22 := Tt hT22 ht149
   replace hH : Hp _ _ _ (o_3 v144 x143 :: o_4 v84 x83 :: o_3 v204 x203 :: L) := hH150
   refine V_CHA (hk147) ?_
   replace hH : Hp B A148 w146 (o_4 v84 x83 :: o_3 v144 x143 :: o_3 v204 x203 :: L) := Hp.front hH (i := 1) rfl
   replace hH : Hp B A148 w146 (o_3 v144 x143 :: o_4 v84 x83 :: o_3 v204 x203 :: L) := Hp.front hH (i := 1) rfl
   replace hH : Hp B A148 w146 (o_3 v204 x203 :: o_3 v144 x143 :: o_4 v84 x83 :: L) := Hp.front hH (i := 2) rfl
   exact CHA_0 (fun a ha => ⟨v204, v144, v84, v7, A148, ha.sb, hH, h9, hT22⟩)
  refine Vc call101 (route_weights_c (Dw := Dw) w205 hA a_.people v15 h17 held v_held h_held hx143) ?_
  rintro v144 w146 ⟨_, rfl, h145, hk147⟩
  obtain ⟨A148, ht149, hH150⟩ := Hp.addOwnd (Dw := Dw) hH hB hA hk147 h145
  replace h9 := Sl.tr h9 ht149; replace hT22 := Tt hT22 ht149; replace hB := Bx hB ht149; replace hA := ht149.new
  replace hH : Hp _ _ _ (o_3 v144 x143 :: o_3 v204 x203 :: L) := hH150
  refine V_CHA (hk147) ?_
  refine CHA_1 rfl rfl ?_
  refine V_makeH (Dw := Dw) (B := w146.heap.size) (L := []) (e := 4) (ti := t4) Hp.nil hx83 (fun _ _ => rfl) underlying47 Tryz_info4 rfl rfl rfl (by decide) (by decide) (Nat.le_refl _) hA rfl rfl rfl ?_
  intro v84 w85 A86 hH87 ht88
  have hk89 : Kp Dw w146 w85 := ht88.below
  have hH90 := Hp.join (Dw := Dw) hH hB ht88 hH87
  have ht91 := Tr.lower (Dw := Dw) ht88 hB
  replace h9 := Sl.tr h9 ht91; replace hT22 := Tt hT22 ht91
  replace hH : Hp _ _ _ (o_4 v84 x83 :: o_3 v144 x143 :: o_3 v204 x203 :: L) := hH90
  refine V_CHA (hk89) ?_
  replace hH : Hp B A86 w85 (o_3 v144 x143 :: o_4 v84 x83 :: o_3 v204 x203 :: L) := Hp.front hH (i := 1) rfl
  replace hH : Hp B A86 w85 (o_3 v204 x203 :: o_3 v144 x143 :: o_4 v84 x83 :: L) := Hp.front hH (i := 2) rfl
  exact CHA_0 (fun a ha => ⟨v204, v144, v84, v7, A86, ha.sb, hH, h9, hT22⟩)
 have ht323 := Kp.tr hk4 hA hB; replace hH := Hp.kp hH hk4; replace h_a_ := El.tr h_a_ ht323; replace h_held := Sl.tr h_held ht323; replace hK := Tt hK ht323; replace hB := Bx hB ht323; replace hA := ht323.new
 rintro a w322 ⟨v204, v144, v84, v7, A212, ha322, hH322, h9, ht322⟩
 replace h_a_ := El.tr h_a_ ht322; replace h_held := Sl.tr h_held ht322; replace hK := Tt hK ht322; replace hB := Bx hB ht322; replace hA := ht322.new
 replace hH : Hp _ _ _ (o_3 v204 x203 :: o_3 v144 x143 :: o_4 v84 x83 :: L) := hH322
 refine (?_ : CH Dw _ ⟨135, [], none⟩ _ A _ [(0, 22), (2, 23), (0, 24)] [(0, Pt b_a_), (1, v_held), (2, Ii m), (19, v7), (25, v84), (31, v144), (37, v204)] w322) a ha322
 refine CH_q1 rfl ?_
 refine Qv (fun w' hw' => Y_build (cells := #[v7, v84, v144, v204]) underlying181 zeroValue181 (Tryz_places181 _ underlying181) rfl (by obtain ⟨a324, c325, e326, _⟩ := Sl.form h9; subst e326; obtain ⟨a327, c328, e329, _⟩ := Sl.form (Hp.any (α := Bool) (e := 4) (v := v84) (l := x83) hH (i := 2) rfl); subst e329; obtain ⟨a330, c331, e332, _⟩ := Sl.form (Hp.any (α := Int) (e := 3) (v := v144) (l := x143) hH (i := 1) rfl); subst e332; obtain ⟨a333, c334, e335, _⟩ := Sl.form (Hp.any (α := Int) (e := 3) (v := v204) (l := x203) hH (i := 0) rfl); subst e335; with_unfolding_all rfl)) (VQ_CH ?_)
 refine CH_l1 (k := 0) rfl ?_
 refine V_boxHk (Dw := Dw) (B := B) hH rfl hB hA rfl ?_
 intro b336 w337 A338 hk341 hH339 ht340
 replace h_a_ := El.tr h_a_ ht340; replace h_held := Sl.tr h_held ht340; replace h9 := Sl.tr h9 ht340; replace hK := Tt hK ht340; replace hB := Bx hB ht340; replace hA := ht340.new
 replace hH : Hp _ _ _ (obC b336 [v7, v84, v144, v204] 181 :: o_3 v204 x203 :: o_3 v144 x143 :: o_4 v84 x83 :: L) := hH339
 refine V_CH (hk341) ?_
 refine CH_q1 rfl (Qa (VQ_CH ?_))
 refine CH_tail ?_
 show V _ _ _ _ [] _ _
 refine To ?_
 refine Sr (Mm (Nc ?_))
 have h342 := El_route_assigner_1 h_a_
 refine Fa underlying49 rfl sizeOf23 ?_
 obtain ⟨v343, h344, h345⟩ := El.list h342
 refine Ld h344 isAgg23 (Vy (Y_lenSl h345 rfl underlying23 rfl) ?_)
 obtain ⟨x346, hx346, hm⟩ := Bs hm
 refine V_makeH (Dw := Dw) (e := 4) (ti := t4) hH hx346 (fun _ _ => rfl) underlying47 Tryz_info4 rfl rfl rfl (by decide) (by decide) hB hA rfl rfl rfl ?_
 intro v347 w348 A349 hH350 ht351
 replace h_a_ := El.tr h_a_ ht351; replace h_held := Sl.tr h_held ht351; replace h9 := Sl.tr h9 ht351; replace hK := Tt hK ht351; replace hB := Bx hB ht351; replace hA := ht351.new
 replace hH : Hp _ _ _ (o_4 v347 x346 :: obC b336 [v7, v84, v144, v204] 181 :: o_3 v204 x203 :: o_3 v144 x143 :: o_4 v84 x83 :: L) := hH350
 refine As (To ?_)
 refine C_seq (Sr (Mm (Nc ?_)))
 have h352 := El_route_assigner_1 h_a_
 refine Fa underlying49 rfl sizeOf23 ?_
 obtain ⟨v353, h354, h355⟩ := El.list h352
 refine Ld h354 isAgg23 (Vy (Y_lenSl h355 rfl underlying23 rfl) (Mm (To ?_)))
 have hn380 := Sl.le h355
 obtain ⟨o356, ho356, hm⟩ := Bs hm
 refine C_cutG (ι := ((List Bool) × Value × (Nat → Prop))) (fun ⟨s357, v363, A365⟩ => [(0, Pt b_a_), (1, v_held), (7, Pt b336), (8, v363)]) (fun ⟨s357, v363, A365⟩ => fun w' => o356 = .fin s357 ∧ Hp B A365 w' (o_4 v363 s357 :: obC b336 [v7, v84, v144, v204] 181 :: o_3 v204 x203 :: o_3 v144 x143 :: o_4 v84 x83 :: L) ∧ Tr Dw B A349 w348 A365 w') ?_ ?_
 ·refine C_block ?_
  refine C_range ho356 (fun k359 s367 a w' => ∃ i : (Value × (Nat → Prop)), Has ⟨135, [], none⟩ a ([(0, Pt b_a_), (1, v_held), (2, Ii m), (7, Pt b336), (8, i.1), (49, v353), (50, Ii (a_.cals.length : Int)), (51, Ii (k359 : Int))]) ∧ Hp B i.2 w' (o_4 i.1 s367 :: obC b336 [v7, v84, v144, v204] 181 :: o_3 v204 x203 :: o_3 v144 x143 :: o_4 v84 x83 :: L) ∧ Tr Dw B A349 w348 i.2 w') (fun a ha => ⟨(v347, A349), ha.sb, ⟨hH, Tr.refl (Dw := Dw) hA⟩⟩) ?_
  rintro K k359 s367 a w368 ⟨⟨v369, A371⟩, ha432, hH372, hr358⟩ hle376 K379 h378
  refine C_of ?_ ha432
  replace h355 := Sl.tr h355 hr358; replace hB := Bx hB hr358; replace hA := hr358.new
  replace hH : Hp _ _ _ (o_4 v369 s367 :: obC b336 [v7, v84, v144, v204] 181 :: o_3 v204 x203 :: o_3 v144 x143 :: o_4 v84 x83 :: L) := hH372
  refine Sr (Vy (Y_lss rfl rfl) (To ?_))
  refine C_seq ?_
  refine Cc (fun hc381 => ?_) fun hc381 => ?_
  ·have hlt377 := lt_of_dec hc381
   obtain ⟨x373, h374, h375⟩ := K379 hlt377
   refine Sk ?_
   refine C_seq (C_block (Sr (Mm ?_)))
   obtain ⟨x382, hx382, h374⟩ := Bs h374
   refine V_indexAddr h355 hx382 underlying23 sizeOf68 rfl rfl rfl ?_
   intro b383 o384 h385
   obtain ⟨v386, v388, v390, h392, h387, h389, h391⟩ := El_cal_Calendar h385
   refine Vy (Y_loadA h392 isAgg68 sizeOf68 rfl) ?_
   refine V_alloc zeroValue68 rfl ?_
   intro b393 w394 h395
   refine As ?_
   have h400 : (v386).oneCell' = true := by obtain ⟨_, _, e, _⟩ := Sl.form h387; rw [e]; rfl
   have h403 : (v388).oneCell' = true := by obtain ⟨_, _, e, _⟩ := Sl.form h389; rw [e]; rfl
   have h406 : (v390).oneCell' = true := by obtain ⟨_, _, e, _⟩ := Sl.form h391; rw [e]; rfl
   refine Sn h395 sizeOf68 ?_
   intro w396 h397
   have hk408 := h397.kp (Dw := Dw)
   have h407 : El (α := cal_Calendar) A371 w396 b393 0 x382 := h397.el hA ⟨[Ii x382.zone.offset, v386], _, rfl, ⟨[Ii x382.zone.offset], _, rfl, rfl, ⟨_, rfl, h387⟩⟩, ⟨[v388], _, rfl, ⟨_, rfl, h389⟩, ⟨_, rfl, h391⟩⟩⟩
   have ht409 := Kp.tr hk408 hA hB; replace hH := Hp.kp hH hk408; replace hr358 := Tt hr358 ht409; replace hB := Bx hB ht409; replace hA := ht409.new
   refine To ?_
   refine C_region (Mm (Mm ?_))
   obtain ⟨v410, v412, v414, h416, h411, h413, h415⟩ := El_cal_Calendar h407
   refine Vy (Y_loadA h416 isAgg68 sizeOf68 rfl) (Mm ?_)
   obtain ⟨x417, hx417, h374⟩ := Bs h374
   refine Vc call102 (cal_Open_c (Dw := Dw) w396 hA x382 v410 h411 v412 h413 v414 h415 m hx417) ?_
   rintro _ w418 ⟨rfl, hk419⟩
   have ht420 := Kp.tr hk419 hA hB; replace hH := Hp.kp hH hk419; replace hr358 := Tt hr358 ht420; replace hB := Bx hB ht420; replace hA := ht420.new
   refine Mm (Vy (Y_extract rfl rfl) (Vy (Y_extract rfl rfl) ?_))
   obtain ⟨x421, hx421, h374⟩ := Bs h374
   refine V_indexAddrH (α := Bool) (e := 4) (v := v369) (l := s367) hH (i := 0) rfl hx421 underlying47 sizeOf4 rfl rfl rfl ?_
   intro b422 o423 h424 hl425
   obtain ⟨x426, hx426, h374⟩ := Bs h374
   refine V_storeH (Dw := Dw) (α := Bool) (e := 4) (v := v369) (l := s367) hH (i := 0) rfl hl425 hx426 rfl sizeOf4 rfl hB hA rfl rfl ?_
   intro w427 hH428 ht429
   replace hr358 := Tt hr358 ht429
   replace hH : Hp _ _ _ (o_4 v369 x426 :: obC b336 [v7, v84, v144, v204] 181 :: o_3 v204 x203 :: o_3 v144 x143 :: o_4 v84 x83 :: L) := hH428
   refine To ?_
   refine C_region (Vy (Y_addI rfl rfl) (Mm ?_))
   obtain rfl := Oi h374
   refine V_end (fun a ha430 => ?_)
   exact ⟨x426, hlt377, h375, ⟨(v369, A371), ha430.sub ⟨rfl, rfl, rfl, rfl, rfl, rfl, rfl, Ws hlt377 hn380, trivial⟩, ⟨hH, hr358⟩⟩⟩
  refine C_exit (fun a ha431 => ?_)
  exact ⟨(s367, v369, A371), ha431.sb, ⟨(h378 (eq_of_dec hle376 hc381)).symm, hH, hr358⟩⟩
 rintro ⟨s357, v363, A365⟩ w360 ⟨rfl, hH366, hk361⟩ a ha362
 rw [Lp.andThen_fin] at hm
 replace h_a_ := El.tr h_a_ hk361; replace h_held := Sl.tr h_held hk361; replace h9 := Sl.tr h9 hk361; replace hK := Tr.trans hK hk361; replace hB := Nat.le_trans hB hk361.ex.size; replace hA := hk361.new
 replace hH : Hp _ _ _ (o_4 v363 s357 :: obC b336 [v7, v84, v144, v204] 181 :: o_3 v204 x203 :: o_3 v144 x143 :: o_4 v84 x83 :: L) := hH366
 refine C_at (n := ⟨135, [], none⟩) (fun _ _ => rfl) ?_ ha362
 refine C_seq (Sr (Mm (Nc ?_)))
 have h433 := El_route_assigner_0 h_a_
 refine Fa underlying49 rfl sizeOf22 ?_
 obtain ⟨v434, h435, h436⟩ := El.list h433
 refine Ld h435 isAgg22 (Vy (Y_lenSl h436 rfl underlying22 rfl) (Mm (To ?_)))
 have hn473 := Sl.le h436
 obtain ⟨o437, ho437, hm⟩ := Bs hm
 refine C_cutG (ι := (route_desk × Value × Value × Value × Value × (Nat → Prop))) (fun ⟨s438, v444, v446, v448, v450, A452⟩ => [(0, Pt b_a_), (1, v_held), (7, Pt b336)]) (fun ⟨s438, v444, v446, v448, v450, A452⟩ => fun w' => o437 = .fin s438 ∧ Sl A452 w' v444 s438.people ∧ Hp B A452 w' (o_4 v363 s357 :: obC b336 [v444, v446, v448, v450] 181 :: o_3 v450 s438.latest :: o_3 v448 s438.weights :: o_4 v446 s438.duty :: L) ∧ Tr Dw B A365 w360 A452 w') ?_ ?_
 ·refine C_block ?_
  refine C_range ho437 (fun k440 s454 a w' => ∃ i : (Value × Value × Value × Value × (Nat → Prop)), Has ⟨135, [], none⟩ a ([(0, Pt b_a_), (1, v_held), (7, Pt b336), (8, v363), (69, v434), (70, Ii (a_.people.length : Int)), (71, Ii (k440 : Int))]) ∧ Sl i.2.2.2.2 w' i.1 s454.people ∧ Hp B i.2.2.2.2 w' (o_4 v363 s357 :: obC b336 [i.1, i.2.1, i.2.2.1, i.2.2.2.1] 181 :: o_3 i.2.2.2.1 s454.latest :: o_3 i.2.2.1 s454.weights :: o_4 i.2.1 s454.duty :: L) ∧ Tr Dw B A365 w360 i.2.2.2.2 w') (fun a ha => ⟨(v7, v84, v144, v204, A365), ha.sb, ⟨h9, hH, Tr.refl (Dw := Dw) hA⟩⟩) ?_
  rintro K k440 s454 a w455 ⟨⟨v456, v458, v460, v462, A464⟩, ha532, h457, hH465, hr439⟩ hle469 K472 h471
  refine C_of ?_ ha532
  replace h_a_ := El.tr h_a_ hr439; replace h436 := Sl.tr h436 hr439; replace hB := Bx hB hr439; replace hA := hr439.new
  replace hH : Hp _ _ _ (o_4 v363 s357 :: obC b336 [v456, v458, v460, v462] 181 :: o_3 v462 s454.latest :: o_3 v460 s454.weights :: o_4 v458 s454.duty :: L) := hH465
  refine Sr (Vy (Y_lss rfl rfl) (To ?_))
  refine C_seq ?_
  refine Cc (fun hc474 => ?_) fun hc474 => ?_
  ·have hlt470 := lt_of_dec hc474
   obtain ⟨x466, h467, h468⟩ := K472 hlt470
   refine Sk ?_
   refine C_seq (C_block (Sr (Mm ?_)))
   obtain ⟨x475, hx475, h467⟩ := Bs h467
   refine V_indexAddr h436 hx475 underlying22 sizeOf124 rfl rfl rfl ?_
   intro b476 o477 h478
   obtain ⟨v479, h481, h480⟩ := El_route_Person h478
   refine Vy (Y_loadA h481 isAgg124 sizeOf124 rfl) ?_
   refine V_alloc zeroValue124 rfl ?_
   intro b482 w483 h484
   refine As ?_
   have h489 : (v479).oneCell' = true := by obtain ⟨_, _, e, _⟩ := Sl.form h480; rw [e]; rfl
   refine Sn h484 sizeOf124 ?_
   intro w485 h486
   have hk491 := h486.kp (Dw := Dw)
   have h490 : El (α := route_Person) A464 w485 b482 0 x475 := h486.el hA ⟨[Ii x475.no], _, rfl, rfl, ⟨[Ii x475.capacity], _, rfl, rfl, ⟨[Ii x475.calendar], _, rfl, rfl, ⟨_, rfl, h480⟩⟩⟩⟩
   have ht492 := Kp.tr hk491 hA hB; replace hH := Hp.kp hH hk491; replace h_a_ := El.tr h_a_ ht492; replace h457 := Sl.tr h457 ht492; replace hr439 := Tt hr439 ht492; replace hB := Bx hB ht492; replace hA := ht492.new
   refine To ?_
   refine C_seq ?_
   refine C_region_qt (Dw := Dw) 21 Tryz_mixed (by kernel_rfl) ?_
   simp only [List.take, List.drop]
   refine Qm (Qn (Qv (fun w' hw' => Y_fieldAddrC (off2 := 1) underlying181 rfl sizeOf47 (by decide) rfl rfl) ?_))
   refine VQ_y (fun w' hw' => Y_load ((World.cell?_of_block (hw'.block _ (World.block_lt_of_cell? _ _ (Hp.cell (j := 1) hH (i := 1) rfl rfl)))).trans (Hp.cell (j := 1) hH (i := 1) rfl rfl)) isAgg47 rfl) rfl rfl rfl ?_
   refine Qm (Qm ?_)
   have h493 := El_route_Person_2 h490
   refine Qf underlying124 rfl sizeOf3 (Qi h493 isAgg3 ?_)
   obtain ⟨x494, hx494, h467⟩ := Bs h467
   refine VQ_indexAddrH (α := Bool) (e := 4) (v := v363) (l := s357) hH (i := 0) rfl hx494 underlying47 sizeOf4 rfl rfl rfl ?_
   intro b495 o496 h497 hl498
   refine Ql (fun w' hw' => (El.bool (El.kp h497 hw'))) isAgg4 (Qm ?_)
   obtain ⟨s500, hs500, h467⟩ := Bs h467
   refine VQ_cut 9 (fun _ : Unit => [(0, Pt b_a_), (1, v_held), (7, Pt b336), (8, v363), (11, Ii (k440 : Int)), (69, v434), (70, Ii (a_.people.length : Int)), (71, Ii (k440 : Int)), (79, v458), (80, Ii (k440 : Int)), (95, .bool s500)]) (fun _ => True) ?_ ?_
   ·simp only [List.take, List.drop]
    rcases Be (x494) with hc499 | hc499
    ·rw [if_pos hc499] at hs500
     refine Qh hc499 (Qm (Qh hc499 (Qn (Qh hc499 ?_))))
     have h501 := El_route_assigner_3 h_a_
     refine Qf underlying49 rfl sizeOf47 (Qh hc499 ?_)
     obtain ⟨v502, h503, h504⟩ := El.list h501
     refine Qc h503 isAgg47 (Qh hc499 (Qm (Qh hc499 ?_)))
     obtain ⟨x505, hx505, hs500⟩ := Bs hs500
     refine VQ_indexAddr h504 hx505 underlying47 sizeOf4 rfl rfl rfl ?_
     intro b506 o507 h508
     refine Qh hc499 (Ql (fun w' hw' => (El.bool (El.kp h508 hw'))) isAgg4 (Qh hc499 (Qv (fun w' hw' => Y_not rfl) ?_)))
     refine VQ_y (fun _ _ => Y_pick_te rfl hc499 rfl) rfl rfl rfl ?_
     obtain rfl := Oi hs500
     exact VQ_end fun a ha => ⟨(), ha.sb, trivial⟩
    rw [if_neg (nt hc499)] at hs500
    refine Qg hc499 (Qg hc499 (Qg hc499 (Qg hc499 (Qg hc499 (Qg hc499 (Qg hc499 (Qg hc499 ?_)))))))
    refine VQ_y (fun _ _ => Y_pick_fe rfl hc499 rfl) rfl rfl rfl ?_
    obtain rfl := Oi hs500
    exact VQ_end fun a ha => ⟨(), ha.sb, trivial⟩
   simp only [List.take, List.drop]
   rintro _ _
   obtain ⟨x509, hx509, h467⟩ := Bs h467
   refine VQ_indexAddrH (α := Bool) (e := 4) (v := v458) (l := s454.duty) hH (i := 4) rfl hx509 underlying47 sizeOf4 rfl rfl rfl ?_
   intro b510 o511 h512 hl513
   refine VQ_tail (fun w514 hk515 => ?_)
   try simp only [List.take, List.drop]
   have ht516 := Kp.tr hk515 hA hB; replace hH := Hp.kp hH hk515; replace h457 := Sl.tr h457 ht516; replace hr439 := Tt hr439 ht516; replace hB := Bx hB ht516; replace hA := ht516.new
   obtain ⟨x517, hx517, h467⟩ := Bs h467
   refine V_storeH (Dw := Dw) (α := Bool) (e := 4) (v := v458) (l := s454.duty) hH (i := 4) rfl hl513 hx517 rfl sizeOf4 rfl hB hA rfl rfl ?_
   intro w518 hH519 ht520
   replace h457 := Sl.tr h457 ht520; replace hr439 := Tt hr439 ht520; replace hB := Bx hB ht520; replace hA := ht520.new
   replace hH : Hp _ _ _ (o_4 v363 s357 :: obC b336 [v456, v458, v460, v462] 181 :: o_3 v462 s454.latest :: o_3 v460 s454.weights :: o_4 v458 x517 :: L) := hH519
   refine To ?_
   refine C_region (Mm (Nc (Vy (Y_fieldAddrC (off2 := 3) underlying181 rfl sizeOf98 (by decide) rfl rfl) (Ld (Hp.cell (j := 3) hH (i := 1) rfl rfl) isAgg98 (Mm ?_)))))
   obtain ⟨x521, hx521, h467⟩ := Bs h467
   refine V_indexAddrH (α := Int) (e := 3) (v := v462) (l := s454.latest) hH (i := 2) rfl hx521 underlying98 sizeOf3 rfl rfl rfl ?_
   intro b522 o523 h524 hl525
   obtain ⟨x526, hx526, h467⟩ := Bs h467
   refine V_storeH (Dw := Dw) (α := Int) (e := 3) (v := v462) (l := s454.latest) hH (i := 2) rfl hl525 hx526 rfl sizeOf3 rfl hB hA rfl rfl ?_
   intro w527 hH528 ht529
   replace h457 := Sl.tr h457 ht529; replace hr439 := Tt hr439 ht529
   replace hH : Hp _ _ _ (o_4 v363 s357 :: obC b336 [v456, v458, v460, v462] 181 :: o_3 v462 x526 :: o_3 v460 s454.weights :: o_4 v458 x517 :: L) := hH528
   refine To ?_
   refine C_region (Vy (Y_addI rfl rfl) (Mm ?_))
   obtain rfl := Oi h467
   refine V_end (fun a ha530 => ?_)
   exact ⟨(⟨s454.people, x517, s454.weights, x526⟩ : route_desk), hlt470, h468, ⟨(v456, v458, v460, v462, A464), ha530.sub ⟨rfl, rfl, rfl, rfl, rfl, rfl, Ws hlt470 hn473, trivial⟩, ⟨h457, hH, hr439⟩⟩⟩
  refine C_exit (fun a ha531 => ?_)
  exact ⟨(s454, v456, v458, v460, v462, A464), ha531.sb, ⟨(h471 (eq_of_dec hle469 hc474)).symm, h457, hH, hr439⟩⟩
 rintro ⟨s438, v444, v446, v448, v450, A452⟩ w441 ⟨rfl, h445, hH453, hk442⟩ a ha443
 rw [Lp.andThen_fin] at hm
 replace h_a_ := El.tr h_a_ hk442; replace h_held := Sl.tr h_held hk442; replace hK := Tr.trans hK hk442; replace hB := Nat.le_trans hB hk442.ex.size; replace hA := hk442.new
 replace hH : Hp _ _ _ (o_4 v363 s357 :: obC b336 [v444, v446, v448, v450] 181 :: o_3 v450 s438.latest :: o_3 v448 s438.weights :: o_4 v446 s438.duty :: L) := hH453
 refine C_at (n := ⟨135, [], none⟩) (fun _ _ => rfl) ?_ ha443
 refine C_seq (Sr (Mm (Vy (Y_lenSl h_held rfl underlying24 rfl) (Mm (To ?_)))))
 have hn569 := Sl.le h_held
 obtain ⟨o533, ho533, hm⟩ := Bs hm
 refine C_cutG (ι := (route_desk × Value × Value × Value × Value × (Nat → Prop))) (fun ⟨s534, v540, v542, v544, v546, A548⟩ => [(7, Pt b336)]) (fun ⟨s534, v540, v542, v544, v546, A548⟩ => fun w' => o533 = .fin s534 ∧ Sl A548 w' v540 s534.people ∧ Hp B A548 w' (o_4 v363 s357 :: obC b336 [v540, v542, v544, v546] 181 :: o_3 v546 s534.latest :: o_3 v544 s534.weights :: o_4 v542 s534.duty :: L) ∧ Tr Dw B A452 w441 A548 w') ?_ ?_
 ·refine C_block ?_
  refine C_range ho533 (fun k536 s550 a w' => ∃ i : (Value × Value × Value × Value × (Nat → Prop)), Has ⟨135, [], none⟩ a ([(0, Pt b_a_), (7, Pt b336), (104, v_held), (105, Ii (held.length : Int)), (106, Ii (k536 : Int))]) ∧ Sl i.2.2.2.2 w' i.1 s550.people ∧ Hp B i.2.2.2.2 w' (o_4 v363 s357 :: obC b336 [i.1, i.2.1, i.2.2.1, i.2.2.2.1] 181 :: o_3 i.2.2.2.1 s550.latest :: o_3 i.2.2.1 s550.weights :: o_4 i.2.1 s550.duty :: L) ∧ Tr Dw B A452 w441 i.2.2.2.2 w') (fun a ha => ⟨(v444, v446, v448, v450, A452), ha.sb, ⟨h445, hH, Tr.refl (Dw := Dw) hA⟩⟩) ?_
  rintro K k536 s550 a w551 ⟨⟨v552, v554, v556, v558, A560⟩, ha612, h553, hH561, hr535⟩ hle565 K568 h567
  refine C_of ?_ ha612
  replace h_a_ := El.tr h_a_ hr535; replace h_held := Sl.tr h_held hr535; replace hB := Bx hB hr535; replace hA := hr535.new
  replace hH : Hp _ _ _ (o_4 v363 s357 :: obC b336 [v552, v554, v556, v558] 181 :: o_3 v558 s550.latest :: o_3 v556 s550.weights :: o_4 v554 s550.duty :: L) := hH561
  refine Sr (Vy (Y_lss rfl rfl) (To ?_))
  refine C_seq ?_
  refine Cc (fun hc570 => ?_) fun hc570 => ?_
  ·have hlt566 := lt_of_dec hc570
   obtain ⟨x562, h563, h564⟩ := K568 hlt566
   refine Sk ?_
   refine C_seq (C_block (Sr ?_))
   obtain ⟨x571, hx571, h563⟩ := Bs h563
   refine V_indexAddr h_held hx571 underlying24 sizeOf32 rfl rfl rfl ?_
   intro b572 o573 h574
   obtain ⟨h575, _⟩ := El_route_Held h574
   refine Vy (Y_loadA h575 isAgg32 sizeOf32 rfl) ?_
   refine V_alloc zeroValue32 rfl ?_
   intro b576 w577 h578
   refine Sn h578 sizeOf32 ?_
   intro w579 h580
   have hk582 := h580.kp (Dw := Dw)
   have h581 : El (α := route_Held) A560 w579 b576 0 x571 := h580.el hA ⟨[Ii x571.ticket], _, rfl, rfl, ⟨[Ii x571.person], _, rfl, rfl, ⟨[Ii x571.weight], _, rfl, rfl, rfl⟩⟩⟩
   have ht583 := Kp.tr hk582 hA hB; replace hH := Hp.kp hH hk582; replace h_a_ := El.tr h_a_ ht583; replace h553 := Sl.tr h553 ht583; replace hr535 := Tt hr535 ht583; replace hB := Bx hB ht583; replace hA := ht583.new
   refine To ?_
   refine C_seq ?_
   refine C_region_q (Dw := Dw) Tryz_mixed (by kernel_rfl) ?_
   refine Qm (Qn ?_)
   have h584 := El_route_assigner_0 h_a_
   refine Qf underlying49 rfl sizeOf22 ?_
   obtain ⟨v585, h586, h587⟩ := El.list h584
   refine Qc h586 isAgg22 ?_
   have h588 := El_route_Held_1 h581
   refine Qf underlying32 rfl sizeOf3 (Qi h588 isAgg3 ?_)
   obtain ⟨x589, hx589, h563⟩ := Bs h563
   refine VQ_call (Ii x589) call63 rfl rfl rfl rfl (fun w' hw' => (route_position_c (Dw := Dw) w' (fun b hb => hA b (Nat.le_trans hw'.size hb)) a_.people v585 (Sl.kp h587 hw') x571.person hx589).mono (fun _ _ h => ⟨h.1, Kp.trans (Dw := Dw) hw' h.2⟩)) ?_
   refine Qa ?_
   refine VQ_to (fun _ _ => rfl) (fun w590 hk591 => ?_)
   have ht592 := Kp.tr hk591 hA hB; replace hH := Hp.kp hH hk591; replace h581 := El.tr h581 ht592; replace h553 := Sl.tr h553 ht592; replace hr535 := Tt hr535 ht592; replace hB := Bx hB ht592; replace hA := ht592.new
   refine C_region_qt (Dw := Dw) 16 Tryz_mixed (by kernel_rfl) ?_
   simp only [List.take, List.drop]
   refine Qm (Qn (Qv (fun w' hw' => Y_fieldAddrC (off2 := 3) underlying181 rfl sizeOf98 (by decide) rfl rfl) ?_))
   refine VQ_y (fun w' hw' => Y_load ((World.cell?_of_block (hw'.block _ (World.block_lt_of_cell? _ _ (Hp.cell (j := 3) hH (i := 1) rfl rfl)))).trans (Hp.cell (j := 3) hH (i := 1) rfl rfl)) isAgg98 rfl) rfl rfl rfl ?_
   refine Qm (Qm (Qn (Qv (fun w' hw' => Y_fieldAddrC (off2 := 3) underlying181 rfl sizeOf98 (by decide) rfl rfl) ?_)))
   refine VQ_y (fun w' hw' => Y_load ((World.cell?_of_block (hw'.block _ (World.block_lt_of_cell? _ _ (Hp.cell (j := 3) hH (i := 1) rfl rfl)))).trans (Hp.cell (j := 3) hH (i := 1) rfl rfl)) isAgg98 rfl) rfl rfl rfl ?_
   refine Qm ?_
   obtain ⟨x593, hx593, h563⟩ := Bs h563
   refine VQ_indexAddrH (α := Int) (e := 3) (v := v558) (l := s550.latest) hH (i := 2) rfl hx593 underlying98 sizeOf3 rfl rfl rfl ?_
   intro b594 o595 h596 hl597
   refine Qi h596 isAgg3 ?_
   have h598 := El_route_Held_3 h581
   refine Qf underlying32 rfl sizeOf3 (Qi h598 isAgg3 (Qv (fun w' hw' => Y_max2 rfl rfl) ?_))
   refine VQ_indexAddrH (α := Int) (e := 3) (v := v558) (l := s550.latest) hH (i := 2) rfl hx593 underlying98 sizeOf3 rfl rfl rfl ?_
   intro b599 o600 h601 hl602
   refine VQ_tail (fun w603 hk604 => ?_)
   try simp only [List.take, List.drop]
   have ht605 := Kp.tr hk604 hA hB; replace hH := Hp.kp hH hk604; replace h553 := Sl.tr h553 ht605; replace hr535 := Tt hr535 ht605; replace hB := Bx hB ht605; replace hA := ht605.new
   obtain ⟨x606, hx606, h563⟩ := Bs h563
   refine V_storeH (Dw := Dw) (α := Int) (e := 3) (v := v558) (l := s550.latest) hH (i := 2) rfl hl602 hx606 rfl sizeOf3 rfl hB hA rfl rfl ?_
   intro w607 hH608 ht609
   replace h553 := Sl.tr h553 ht609; replace hr535 := Tt hr535 ht609
   replace hH : Hp _ _ _ (o_4 v363 s357 :: obC b336 [v552, v554, v556, v558] 181 :: o_3 v558 x606 :: o_3 v556 s550.weights :: o_4 v554 s550.duty :: L) := hH608
   refine To ?_
   refine C_region (Vy (Y_addI rfl rfl) (Mm ?_))
   obtain rfl := Oi h563
   refine V_end (fun a ha610 => ?_)
   exact ⟨(⟨s550.people, s550.duty, s550.weights, x606⟩ : route_desk), hlt566, h564, ⟨(v552, v554, v556, v558, A560), ha610.sub ⟨rfl, rfl, rfl, rfl, Ws hlt566 hn569, trivial⟩, ⟨h553, hH, hr535⟩⟩⟩
  refine C_exit (fun a ha611 => ?_)
  exact ⟨(s550, v552, v554, v556, v558, A560), ha611.sb, ⟨(h567 (eq_of_dec hle565 hc570)).symm, h553, hH, hr535⟩⟩
 rintro ⟨s534, v540, v542, v544, v546, A548⟩ w537 ⟨rfl, h541, hH549, hk538⟩ a ha539
 rw [Lp.andThen_fin] at hm
 replace hK := Tr.trans hK hk538; replace hA := hk538.new
 replace hH : Hp _ _ _ (o_4 v363 s357 :: obC b336 [v540, v542, v544, v546] 181 :: o_3 v546 s534.latest :: o_3 v544 s534.weights :: o_4 v542 s534.duty :: L) := hH549
 refine C_at (n := ⟨135, [], none⟩) (fun _ _ => rfl) ?_ ha539
 refine Sr (Mm (As (To ?_)))
 obtain rfl := Oi hm
 replace hH : Hp B A548 w537 (o_3 v546 s534.latest :: o_4 v363 s357 :: obC b336 [v540, v542, v544, v546] 181 :: o_3 v544 s534.weights :: o_4 v542 s534.duty :: L) := Hp.front hH (i := 2) rfl
 replace hH : Hp B A548 w537 (o_3 v544 s534.weights :: o_3 v546 s534.latest :: o_4 v363 s357 :: obC b336 [v540, v542, v544, v546] 181 :: o_4 v542 s534.duty :: L) := Hp.front hH (i := 3) rfl
 replace hH : Hp B A548 w537 (o_4 v542 s534.duty :: o_3 v544 s534.weights :: o_3 v546 s534.latest :: o_4 v363 s357 :: obC b336 [v540, v542, v544, v546] 181 :: L) := Hp.front hH (i := 4) rfl
 replace hH : Hp B A548 w537 (obC b336 [v540, v542, v544, v546] 181 :: o_4 v542 s534.duty :: o_3 v544 s534.weights :: o_3 v546 s534.latest :: o_4 v363 s357 :: L) := Hp.front hH (i := 4) rfl
 replace hH : Hp B A548 w537 (obC b336 [v540, v542, v544, v546] 181 :: o_4 v542 s534.duty :: o_3 v544 s534.weights :: o_3 v546 s534.latest :: L) := Hp.drop hH (i := 4) rfl
 refine Rt (Res.one results67 rfl) ?_
 exact ⟨b336, v540, v542, v544, v546, A548, rfl, h541, hH, hK⟩
theorem route_order_1_c (w : World) {A : Nat → Prop} (hA : ∀ b, w.heap.size ≤ b → A b) (a_ : Int) (b : Int) (p2 : (List route_Work)) (b_p2 : Nat) (h_p2 : El A w b_p2 0 p2) {r : Int} (hm : route_order_1 a_ b p2 = some r) : Ret prog 104 #[Ii a_, Ii b, Pt b_p2] w fun v w' => v = Ii r ∧ Kp Dw w w' := by
 unfold route_order_1 at hm
 refine enter func104 rfl ntmps104 rfl ?_
 have hA0 := hA
 obtain ⟨hB, hK, hH⟩ := St (Dw := Dw) hA
 refine Sr (As (To ?_))
 refine C_seq ?_
 refine C_region_def (Dw := Dw) (B := w.heap.size) (k := 8) [(6, 43, .agg #[Ii 0, Ii 0, Ii 0, Ii 0, Ii 0, .slice none 0 0]), (7, 43, .agg #[Ii 0, Ii 0, Ii 0, Ii 0, Ii 0, .slice none 0 0])] [(11, 3), (15, 7)] Tryz_mixed (by kernel_rfl) rfl ⟨⟨_, _, _, rfl, by simp⟩, zeroValue43, ⟨⟨_, _, _, rfl, by simp⟩, zeroValue43, trivial⟩⟩ ⟨⟨_, _, _, rfl, by decide, by decide⟩, by decide, rfl, sizeOf43, ⟨⟨_, _, _, rfl, by decide, by decide⟩, by decide, rfl, sizeOf43, trivial⟩⟩ rfl rfl (by decide) hH hB hA ?_
 simp only [List.take]
 obtain ⟨v7, h8, h9⟩ := El.list h_p2
 refine Qc h8 isAgg25 (Qm ?_)
 obtain ⟨x10, hx10, hm⟩ := Bs hm
 refine VQ_indexAddr h9 hx10 underlying25 sizeOf43 rfl rfl rfl ?_
 intro b11 o12 h13
 obtain ⟨v14, h16, h15⟩ := El_route_Work h13
 refine Qv (fun w' hw' => Y_loadA (At.kp h16 hw' h13.2.1) isAgg43 sizeOf43 rfl) ?_
 obtain ⟨v17, h18, h19⟩ := El.list h_p2
 refine Qc h18 isAgg25 (Qm ?_)
 obtain ⟨x20, hx20, hm⟩ := Bs hm
 refine VQ_indexAddr h19 hx20 underlying25 sizeOf43 rfl rfl rfl ?_
 intro b21 o22 h23
 obtain ⟨v24, h26, h25⟩ := El_route_Work h23
 refine Qv (fun w' hw' => Y_loadA (At.kp h26 hw' h23.2.1) isAgg43 sizeOf43 rfl) ?_
 have h29 : (v24).oneCell' = true := by obtain ⟨_, _, e, _⟩ := Sl.form h25; rw [e]; rfl
 have h32 : (v14).oneCell' = true := by obtain ⟨_, _, e, _⟩ := Sl.form h15; rw [e]; rfl
 refine VQ_end fun a ha => ⟨_, [.agg #[Ii x10.ticket, Ii x10.weight, Ii x10.urgency, Ii x10.since, Ii x10.former, v14], .agg #[Ii x20.ticket, Ii x20.weight, Ii x20.urgency, Ii x20.since, Ii x20.former, v24]], ha, rfl, rfl, ⟨rfl, (by exact (List.forall_mem_cons.2 ⟨rfl, (List.forall_mem_cons.2 ⟨rfl, (List.forall_mem_cons.2 ⟨rfl, (List.forall_mem_cons.2 ⟨rfl, (List.forall_mem_cons.2 ⟨rfl, (List.forall_mem_cons.2 ⟨h32, (fun _ h => nomatch h)⟩)⟩)⟩)⟩)⟩)⟩)), ⟨rfl, (by exact (List.forall_mem_cons.2 ⟨rfl, (List.forall_mem_cons.2 ⟨rfl, (List.forall_mem_cons.2 ⟨rfl, (List.forall_mem_cons.2 ⟨rfl, (List.forall_mem_cons.2 ⟨rfl, (List.forall_mem_cons.2 ⟨h29, (fun _ h => nomatch h)⟩)⟩)⟩)⟩)⟩)⟩)), trivial⟩⟩, fun b1 w2 A3 hH4 ht5 a ha6 => ?_⟩
 replace h15 := Sl.tr h15 ht5; replace h25 := Sl.tr h25 ht5; replace hK := Tt hK ht5; replace hB := Bx hB ht5; replace hA := ht5.new
 replace hH : Hp _ _ _ (obC (b1 0) [Ii x10.ticket, Ii x10.weight, Ii x10.urgency, Ii x10.since, Ii x10.former, v14] 43 :: obC (b1 1) [Ii x20.ticket, Ii x20.weight, Ii x20.urgency, Ii x20.since, Ii x20.former, v24] 43 :: []) := hH4
 obtain ⟨A33, ht34, h35, hH36⟩ := Hp.freezeC (Dw := Dw) (α := route_Work) (x := x10) hH (i := 0) rfl hA (by exact ⟨[Ii x10.ticket], _, rfl, rfl, ⟨[Ii x10.weight], _, rfl, rfl, ⟨[Ii x10.urgency], _, rfl, rfl, ⟨[Ii x10.since], _, rfl, rfl, ⟨[Ii x10.former], _, rfl, rfl, ⟨_, rfl, h15⟩⟩⟩⟩⟩⟩)
 replace h25 := Sl.tr h25 ht34; replace hK := Tt hK ht34; replace hB := Bx hB ht34; replace hA := ht34.new
 replace hH : Hp _ _ _ (obC (b1 1) [Ii x20.ticket, Ii x20.weight, Ii x20.urgency, Ii x20.since, Ii x20.former, v24] 43 :: []) := hH36
 obtain ⟨A37, ht38, h39, hH40⟩ := Hp.freezeC (Dw := Dw) (α := route_Work) (x := x20) hH (i := 0) rfl hA (by exact ⟨[Ii x20.ticket], _, rfl, rfl, ⟨[Ii x20.weight], _, rfl, rfl, ⟨[Ii x20.urgency], _, rfl, rfl, ⟨[Ii x20.since], _, rfl, rfl, ⟨[Ii x20.former], _, rfl, rfl, ⟨_, rfl, h25⟩⟩⟩⟩⟩⟩)
 replace h35 := El.tr h35 ht38; replace hK := Tt hK ht38; replace hB := Bx hB ht38; replace hA := ht38.new; replace hH := hH40
 refine C_at (n := ⟨33, [], none⟩) (fun _ _ => rfl) ?_ ha6
 refine C_seq ?_
 refine C_region_qt (Dw := Dw) 15 Tryz_mixed (by kernel_rfl) ?_
 simp only [List.take, List.drop]
 have h41 := El_route_Work_2 h39
 refine Qf underlying43 rfl sizeOf3 (Qi h41 isAgg3 ?_)
 have h42 := El_route_Work_2 h35
 refine Qf underlying43 rfl sizeOf3 (Qi h42 isAgg3 ?_)
 refine VQ_call (Ii (cmp_Compare_int x20.urgency x10.urgency)) call75 rfl rfl rfl rfl (fun w' hw' => (cmp_Compare_int_c w' x20.urgency x10.urgency).mono (fun _ _ h => ⟨h.1, h.2 ▸ hw'⟩)) ?_
 have h43 := El_route_Work_3 h35
 refine Qf underlying43 rfl sizeOf3 (Qi h43 isAgg3 ?_)
 have h44 := El_route_Work_3 h39
 refine Qf underlying43 rfl sizeOf3 (Qi h44 isAgg3 ?_)
 refine VQ_call (Ii (cmp_Compare_int x10.since x20.since)) call75 rfl rfl rfl rfl (fun w' hw' => (cmp_Compare_int_c w' x10.since x20.since).mono (fun _ _ h => ⟨h.1, h.2 ▸ hw'⟩)) ?_
 have h45 := El_route_Work_0 h35
 refine Qf underlying43 rfl sizeOf3 (Qi h45 isAgg3 ?_)
 have h46 := El_route_Work_0 h39
 refine Qf underlying43 rfl sizeOf3 (Qi h46 isAgg3 ?_)
 refine VQ_call (Ii (cmp_Compare_int x10.ticket x20.ticket)) call75 rfl rfl rfl rfl (fun w' hw' => (cmp_Compare_int_c w' x10.ticket x20.ticket).mono (fun _ _ h => ⟨h.1, h.2 ▸ hw'⟩)) ?_
 refine VQ_tail (fun w47 hk48 => ?_)
 try simp only [List.take, List.drop]
 have ht49 := Kp.tr hk48 hA hB; replace hK := Tt hK ht49; replace hB := Bx hB ht49; replace hA := ht49.new
 refine V_buildSlice (Dw := Dw) (cells := #[Ii (cmp_Compare_int x20.urgency x10.urgency), Ii (cmp_Compare_int x10.since x20.since), Ii (cmp_Compare_int x10.ticket x20.ticket)]) (l := ([(cmp_Compare_int x20.urgency x10.urgency), (cmp_Compare_int x10.since x20.since), (cmp_Compare_int x10.ticket x20.ticket)] : List Int)) (len := 3) underlying98 sizeOf3 zeroValue3 rfl (by generalize ((cmp_Compare_int x20.urgency x10.urgency) : Int) = z54; generalize ((cmp_Compare_int x10.ticket x20.ticket) : Int) = z55; generalize ((cmp_Compare_int x10.since x20.since) : Int) = z56; kernel_rfl) (show (3 * 1 : Nat) ≠ 0 by decide) (show (3 * 1 : Nat) ≤ 2 ^ 24 by decide) hA ⟨[Ii (cmp_Compare_int x20.urgency x10.urgency)], _, rfl, rfl, ⟨[Ii (cmp_Compare_int x10.since x20.since)], _, rfl, rfl, ⟨[Ii (cmp_Compare_int x10.ticket x20.ticket)], _, rfl, rfl, rfl⟩⟩⟩ rfl rfl ?_
 intro v50 w51 hk53 h52
 have ht57 := Kp.tr hk53 hA hB; replace hK := Tt hK ht57
 obtain ⟨x58, hx58, hm⟩ := Bs hm
 refine Vc call105 (cmp_Or_int_c w51 ([(cmp_Compare_int x20.urgency x10.urgency), (cmp_Compare_int x10.since x20.since), (cmp_Compare_int x10.ticket x20.ticket)] : List Int) v50 h52 hx58) ?_
 rintro _ _ ⟨rfl, rfl⟩
 refine As (To ?_)
 obtain rfl := Oi hm
 refine Rt (Res.one results104 rfl) ?_
 exact ⟨rfl, hK.kp⟩
def Tryz_sf103_ren : Go.Shelf.Ren := ⟨fun | 6 => 103 | 14 => 123 | 15 => 110 | 20 => 143 | 21 => 144 | 22 => 145 | 23 => 146 | 24 => 147 | 25 => 148 | 26 => 149 | 27 => 150 | 28 => 133 | 29 => 134 | 46 => 172 | 47 => 152 | 48 => 153 | 49 => 173 | 50 => 174 | 57 => 183 | n => n, fun | 0 => 0 | 1 => 1 | 2 => 2 | 3 => 3 | 4 => 4 | 5 => 5 | 6 => 6 | 7 => 7 | 8 => 8 | 9 => 9 | 10 => 10 | 11 => 11 | 12 => 12 | 13 => 13 | 14 => 14 | 15 => 15 | 16 => 16 | 17 => 17 | 18 => 18 | 19 => 19 | 20 => 20 | 21 => 21 | 22 => 98 | 23 => 217 | 24 => 3 | 25 => 186 | 27 => 98 | 28 => 217 | 29 => 186 | 37 => 233 | 38 => 223 | 39 => 224 | 40 => 54 | 41 => 233 | 42 => 54 | 44 => 256 | 45 => 235 | 46 => 236 | 47 => 257 | 48 => 258 | 49 => 259 | 50 => 240 | 51 => 260 | 52 => 242 | 53 => 243 | 54 => 244 | 55 => 245 | 56 => 256 | 57 => 257 | 58 => 258 | 59 => 259 | 60 => 260 | 66 => 261 | 67 => 262 | 68 => 263 | 69 => 282 | 70 => 265 | 71 => 283 | 72 => 282 | 73 => 283 | 76 => 284 | 77 => 202 | 78 => 293 | 79 => 293 | 81 => 303 | 82 => 304 | 83 => 305 | 84 => 306 | 85 => 307 | 86 => 308 | 87 => 309 | 88 => 310 | 89 => 311 | 90 => 312 | 91 => 313 | 92 => 314 | 93 => 315 | 94 => 316 | 95 => 317 | 96 => 322 | n => n, fun n => n⟩
theorem Tryz_sf103_lay : Go.Proofs.SlLaysF.n6 Tryz.prog Tryz_sf103_ren := {
  mixed := by kernel_rfl,
  f6 := ⟨ "slices.SortFunc[[]int,int]", by kernel_rfl, Tryz.func103.trans (congrArg some (by kernel_rfl))⟩,
  f14 := ⟨ "slices.pdqsortCmpFunc[int]", by kernel_rfl, Tryz.func123.trans (congrArg some (by kernel_rfl))⟩,
  f15 := Tryz.func110.trans (congrArg some (by kernel_rfl)),
  f20 := ⟨ "slices.insertionSortCmpFunc[int]", by kernel_rfl, Tryz.func143.trans (congrArg some (by kernel_rfl))⟩,
  f21 := ⟨ "slices.heapSortCmpFunc[int]", by kernel_rfl, Tryz.func144.trans (congrArg some (by kernel_rfl))⟩,
  f22 := ⟨ "slices.breakPatternsCmpFunc[int]", by kernel_rfl, Tryz.func145.trans (congrArg some (by kernel_rfl))⟩,
  f23 := ⟨ "slices.choosePivotCmpFunc[int]", by kernel_rfl, Tryz.func146.trans (congrArg some (by kernel_rfl))⟩,
  f24 := ⟨ "slices.reverseRangeCmpFunc[int]", by kernel_rfl, Tryz.func147.trans (congrArg some (by kernel_rfl))⟩,
  f25 := ⟨ "slices.partialInsertionSortCmpFunc[int]", by kernel_rfl, Tryz.func148.trans (congrArg some (by kernel_rfl))⟩,
  f26 := ⟨ "slices.partitionEqualCmpFunc[int]", by kernel_rfl, Tryz.func149.trans (congrArg some (by kernel_rfl))⟩,
  f27 := ⟨ "slices.partitionCmpFunc[int]", by kernel_rfl, Tryz.func150.trans (congrArg some (by kernel_rfl))⟩,
  f28 := Tryz.func133.trans (congrArg some (by kernel_rfl)),
  f29 := Tryz.func134.trans (congrArg some (by kernel_rfl)),
  f46 := ⟨ "slices.siftDownCmpFunc[int]", by kernel_rfl, Tryz.func172.trans (congrArg some (by kernel_rfl))⟩,
  f47 := Tryz.func152.trans (congrArg some (by kernel_rfl)),
  f48 := Tryz.func153.trans (congrArg some (by kernel_rfl)),
  f49 := ⟨ "slices.medianAdjacentCmpFunc[int]", by kernel_rfl, Tryz.func173.trans (congrArg some (by kernel_rfl))⟩,
  f50 := ⟨ "slices.medianCmpFunc[int]", by kernel_rfl, Tryz.func174.trans (congrArg some (by kernel_rfl))⟩,
  f57 := ⟨ "slices.order2CmpFunc[int]", by kernel_rfl, Tryz.func183.trans (congrArg some (by kernel_rfl))⟩,
  t0 := Tryz.underlying0,
  a0 := Tryz.isAgg0,
  z0 := Tryz.sizeOf0,
  v0 := Tryz.zeroValue0,
  t3 := Tryz.underlying3,
  a3 := Tryz.isAgg3,
  z3 := Tryz.sizeOf3,
  v3 := Tryz.zeroValue3,
  t4 := Tryz.underlying4,
  a4 := Tryz.isAgg4,
  z4 := Tryz.sizeOf4,
  v4 := Tryz.zeroValue4,
  t5 := Tryz.underlying5,
  a5 := Tryz.isAgg5,
  z5 := Tryz.sizeOf5,
  v5 := Tryz.zeroValue5,
  t9 := Tryz.underlying9,
  a9 := Tryz.isAgg9,
  z9 := Tryz.sizeOf9,
  v9 := Tryz.zeroValue9,
  t22 := Tryz.underlying98,
  a22 := Tryz.isAgg98,
  z22 := Tryz.sizeOf98,
  v22 := Tryz.zeroValue98,
  a24 := Tryz.isAgg3,
  z24 := Tryz.sizeOf3,
  t25 := Tryz.underlying186,
  a25 := Tryz.isAgg186,
  z25 := Tryz.sizeOf186,
  v25 := Tryz.zeroValue186,
  t39 := Tryz.underlying224,
  a39 := Tryz.isAgg224,
  z39 := Tryz.sizeOf224,
  v39 := Tryz.zeroValue224,
  t45 := Tryz.underlying235,
  a45 := Tryz.isAgg235,
  z45 := Tryz.sizeOf235,
  v45 := Tryz.zeroValue235,
  t46 := Tryz.underlying236,
  a46 := Tryz.isAgg236,
  z46 := Tryz.sizeOf236,
  v46 := Tryz.zeroValue236,
  t50 := Tryz.underlying240,
  a50 := Tryz.isAgg240,
  z50 := Tryz.sizeOf240,
  v50 := Tryz.zeroValue240,
  t53 := Tryz.underlying243,
  a53 := Tryz.isAgg243,
  z53 := Tryz.sizeOf243,
  v53 := Tryz.zeroValue243,
  t55 := Tryz.underlying245,
  a55 := Tryz.isAgg245,
  z55 := Tryz.sizeOf245,
  v55 := Tryz.zeroValue245,
  t66 := Tryz.underlying261,
  a66 := Tryz.isAgg261,
  z66 := Tryz.sizeOf261,
  v66 := Tryz.zeroValue261,
  t70 := Tryz.underlying265,
  a70 := Tryz.isAgg265,
  z70 := Tryz.sizeOf265,
  v70 := Tryz.zeroValue265,
  t76 := Tryz.underlying284,
  a76 := Tryz.isAgg284,
  z76 := Tryz.sizeOf284,
  v76 := Tryz.zeroValue284,
  t77 := Tryz.underlying202,
  a77 := Tryz.isAgg202,
  z77 := Tryz.sizeOf202,
  v77 := Tryz.zeroValue202 }
theorem Tryz_sf103 {cmp : Int → Int → Option Int} {l r : List Int} {g : FuncId} {cb : Array Value} {B : Nat} {A : Nat → Prop} {w : World} {L : List Ob} {i : Nat} {v : Value} (eg : ∀ (args : Array Value) (w : World), (callFunc g args).run Tryz.prog w = .ok (.enter g args) w) (hcl : ∀ (w1 : World), Tr True B A w A w1 → (∀ b, w1.heap.size ≤ b → A b) → ∀ (x y c : Int), cmp x y = some c → Ret Tryz.prog g (#[.int .i64 x, .int .i64 y] ++ cb) w1 fun v w' => v = .int .i64 c ∧ Kp True w1 w') (hH : Hp B A w L) (hi : L[i]? = some (o_3 v l)) (hB : B ≤ w.heap.size) (hA : ∀ b, w.heap.size ≤ b → A b) (hr : sortFuncL cmp l = some r) : Ret Tryz.prog 103 #[v, .func (.func g) #[] cb] w fun u w' => u = .tuple #[] ∧ Hp B A w' (L.set i (o_3 v r)) ∧ Tr Dw B A w A w' :=
  Hp.sortFunc1 (Dw := Dw) (fun p c w => Go.Proofs.AnyF.slices_SortFunc_none { Tryz_sf103_lay with } p c _ w) (fun enc hone cf hO blk off cap d w hc hh hb hs => Go.Proofs.Any.slices_SortFunc Tryz_sf103_lay enc hone cf hO g cb blk off cap d w eg hc hh hb hs) hcl hH hi hB hA hr
theorem route_order_c (w : World) {A : Nat → Prop} (hA : ∀ b, w.heap.size ≤ b → A b) (l : (List route_Work)) (v_l : Value) (h_l : Sl A w v_l l) {r : (List Int)} (hm : route_order l = some r) : Ret prog 68 #[v_l] w fun v w' => ∃ s0, v = s0 ∧ Ownd 3 w w' s0 r ∧ Kp Dw w w' := by
 unfold route_order at hm
 refine enter func68 rfl ntmps68 rfl ?_
 have hA0 := hA
 obtain ⟨hB, hK, hH⟩ := St (Dw := Dw) hA
 refine Sr ?_
 refine V_box rfl rfl ?_
 intro b3 w4 h5
 have h10 : (v_l).oneCell' = true := by obtain ⟨_, _, e, _⟩ := Sl.form h_l; rw [e]; rfl
 have hk7 := h5.kp (Dw := Dw)
 have h6 : El (α := (List route_Work)) A w4 b3 0 l := h5.el hA (by rw [Value.cells_one h10]; exact ⟨_, rfl, h_l⟩)
 have ht11 := Kp.tr hk7 hA hB; replace hH := Hp.kp hH hk7; replace hK := Tt hK ht11; replace hB := Bx hB ht11; replace hA := ht11.new
 refine As (To ?_)
 refine Sr (As (To ?_))
 refine C_seq (Sr ?_)
 obtain ⟨v12, h13, h14⟩ := El.list h6
 refine Ld h13 isAgg25 ?_
 have hn15 := Sl.le h14
 refine Vy (Y_lenSl h14 rfl underlying25 rfl) (Mm (To ?_))
 replace hH : Hp w.heap.size A w4 (o_3 (.slice none 0 0) ([] : (List Int)) :: []) := Hp.addNil (α := Int) (e := 3) hH
 obtain ⟨o16, ho16, hm⟩ := Bs hm
 refine C_cutG (ι := ((List Int) × Value × (Nat → Prop))) (fun ⟨s17, v23, A25⟩ => [(1, Pt b3), (3, v23)]) (fun ⟨s17, v23, A25⟩ => fun w' => o16 = .fin s17 ∧ Hp w.heap.size A25 w' (o_3 v23 s17 :: []) ∧ Tr Dw w.heap.size A w4 A25 w') ?_ ?_
 ·refine C_block ?_
  refine C_range ho16 (fun k19 s27 a w' => ∃ i : (Value × (Nat → Prop)), Has ⟨19, [], none⟩ a ([(1, Pt b3), (3, i.1), (6, Ii (l.length : Int)), (7, Ii (k19 : Int))]) ∧ Hp w.heap.size i.2 w' (o_3 i.1 s27 :: []) ∧ Tr Dw w.heap.size A w4 i.2 w') (fun a ha => ⟨(.slice none 0 0, A), ha.sb, ⟨hH, Tr.refl (Dw := Dw) hA⟩⟩) ?_
  rintro K k19 s27 a w28 ⟨⟨v29, A31⟩, ha56, hH32, hr18⟩ hle36 K39 h38
  refine C_of ?_ ha56
  replace hB := Bx hB hr18; replace hA := hr18.new
  replace hH : Hp _ _ _ (o_3 v29 s27 :: []) := hH32
  refine Sr (Vy (Y_lss rfl rfl) (To ?_))
  refine C_seq ?_
  refine Cc (fun hc41 => ?_) fun hc41 => ?_
  ·have hlt37 := lt_of_dec hc41
   obtain ⟨x33, h34, h35⟩ := K39 hlt37
   refine Sk ?_
   refine C_seq (C_block (Sr (Mm (As (To ?_)))))
   refine C_region (Mm (Mm ?_))
   refine V_buildSlice (Dw := Dw) (cells := #[Ii (k19 : Int)]) (l := ([(k19 : Int)] : List Int)) (len := 1) underlying98 sizeOf3 zeroValue3 rfl (by generalize ((k19 : Int) : Int) = z46; kernel_rfl) (show (1 * 1 : Nat) ≠ 0 by decide) (show (1 * 1 : Nat) ≤ 2 ^ 24 by decide) hA ⟨[Ii (k19 : Int)], _, rfl, rfl, rfl⟩ rfl rfl ?_
   intro v42 w43 hk45 h44
   have ht47 := Kp.tr hk45 hA hB; replace hH := Hp.kp hH hk45; replace hr18 := Tt hr18 ht47; replace hB := Bx hB ht47; replace hA := ht47.new
   obtain ⟨x48, hx48, h34⟩ := Bs h34
   refine V_appendH (Dw := Dw) (e := 3) (v := v29) (l := s27) (ti := t3) (bytes := 8) (lim := 17592186044416) hH (i := 0) rfl h44 hx48 underlying98 Tryz_info3 rfl rfl rfl rfl (by decide) (by decide) (by decide) hB hA rfl rfl rfl ?_
   intro v49 w50 A51 hH52 ht53
   replace hr18 := Tt hr18 ht53
   replace hH : Hp _ _ _ (o_3 v49 x48 :: []) := hH52
   refine As (To ?_)
   refine C_region (Vy (Y_addI rfl rfl) (Mm ?_))
   obtain rfl := Oi h34
   refine V_end (fun a ha54 => ?_)
   exact ⟨x48, hlt37, h35, ⟨(v49, A51), ha54.sub ⟨rfl, rfl, rfl, Ws hlt37 hn15, trivial⟩, ⟨hH, hr18⟩⟩⟩
  refine C_exit (fun a ha55 => ?_)
  exact ⟨(s27, v29, A31), ha55.sb, ⟨(h38 (eq_of_dec hle36 hc41)).symm, hH, hr18⟩⟩
 rintro ⟨s17, v23, A25⟩ w20 ⟨rfl, hH26, hk21⟩ a ha22
 rw [Lp.andThen_fin] at hm
 replace h6 := El.tr h6 hk21; replace hK := Tr.trans hK hk21; replace hB := Nat.le_trans hB hk21.ex.size; replace hA := hk21.new
 replace hH : Hp _ _ _ (o_3 v23 s17 :: []) := hH26
 refine C_at (n := ⟨19, [], none⟩) (fun _ _ => rfl) ?_ ha22
 refine Sr (Mm (Vy (Y_makeFunc rfl rfl) ?_))
 obtain ⟨x57, hx57, hm⟩ := Bs hm
 refine V_call call103 rfl rfl rfl rfl (Tryz_sf103 (Dw := Dw) call104 (fun w63 ht64 h65 p67 q68 c69 h66 => by exact (route_order_1_c (Dw := True) w63 h65 p67 q68 l b3 (El.tr h6 ht64) h66).mono fun _ _ h => ⟨h.1, h.2⟩) hH (i := 0) rfl hB hA hx57) ?_
 rintro _ w58 ⟨rfl, hH59, ht60⟩
 replace hK := Tt hK ht60
 replace hH : Hp _ _ _ (o_3 v23 x57 :: []) := hH59
 refine To ?_
 refine Sr (Mm (As (To ?_)))
 obtain rfl := Oi hm
 refine Rt (Res.one results68 rfl) ?_
 exact ⟨v23, rfl, (Hp.ownd hH (i := 0) rfl), hK.kp⟩
theorem slices_Clone_Lroute_Skill_route_Skill_c (w : World) {A : Nat → Prop} (hA : ∀ b, w.heap.size ≤ b → A b) (s : (List route_Skill)) (v_s : Value) (h_s : Sl A w v_s s) {r : (List route_Skill)} (hm : slices_Clone_Lroute_Skill_route_Skill s = some r) : Ret prog 71 #[v_s] w fun v w' => ∃ s0, v = s0 ∧ Ownd 127 w w' s0 r ∧ Kp Dw w w' := by
 unfold slices_Clone_Lroute_Skill_route_Skill at hm
 refine enter func71 rfl ntmps71 rfl ?_
 have hA0 := hA
 obtain ⟨hB, hK, hH⟩ := St (Dw := Dw) hA
 rcases Sl.split h_s with ⟨rfl, rfl⟩ | ⟨a0, n0, c0, rfl⟩
 ·replace hm : some ([] : (List route_Skill)) = some r := by simpa [appendL] using hm
  refine Sr (As (To ?_))
  refine C_seq (Sr (Mm (Vy (Y_eqlNilT rfl rfl underlying41) (To ?_))))
  refine Cc (fun hc => ?_) fun hc => ?_
  ·refine Sr (As (To ?_))
   obtain rfl := Oi hm
   replace hH : Hp w.heap.size A w (o_127 (.slice none 0 0) ([] : (List route_Skill)) :: []) := Hp.addNil (α := route_Skill) (e := 127) hH
   refine Rt (Res.one results71 rfl) ?_
   exact ⟨.slice none 0 0, rfl, (Hp.ownd hH (i := 0) rfl), hK.kp⟩
  exact absurd hc (by decide)
 refine Sr (As (To ?_))
 refine C_seq (Sr (Mm (Vy (Y_eqlNilF rfl rfl underlying41) (To ?_))))
 refine Cc (fun hc => ?_) fun hc => ?_
 ·exact absurd hc (by decide)
 refine Sk ?_
 refine Sr ?_
 refine V_buildOwn0H (Dw := Dw) (α := route_Skill) hH underlying41 sizeOf127 hB hA rfl ?_
 intro v3 w4 A5 hH6 ht7
 replace h_s := Sl.tr h_s ht7; replace hK := Tt hK ht7; replace hB := Bx hB ht7; replace hA := ht7.new
 replace hH : Hp _ _ _ (o_127 v3 ([] : List route_Skill) :: []) := hH6
 refine Mm ?_
 obtain ⟨x8, hx8, hm⟩ := Bs hm
 refine V_appendH (Dw := Dw) (e := 127) (v := v3) (l := ([] : List route_Skill)) (ti := t127) (bytes := 24) (lim := 5864062014805) hH (i := 0) rfl h_s hx8 underlying41 Tryz_info127 rfl rfl rfl rfl (by decide) (by decide) (by decide) hB hA rfl rfl rfl ?_
 intro v9 w10 A11 hH12 ht13
 replace hK := Tt hK ht13
 replace hH : Hp _ _ _ (o_127 v9 x8 :: []) := hH12
 refine As (To ?_)
 obtain rfl := Oi hm
 refine Rt (Res.one results71 rfl) ?_
 exact ⟨v9, rfl, (Hp.ownd hH (i := 0) rfl), hK.kp⟩
theorem route_needsAt_c (w : World) {A : Nat → Prop} (hA : ∀ b, w.heap.size ≤ b → A b) (w_ : route_Work) (v_w_ : Value) (h_w_ : Sl A w v_w_ w_.needs) (steps : (List route_Step)) (v_steps : Value) (h_steps : Sl A w v_steps steps) (m : Int) {r : (List route_Skill)} (hm : route_needsAt w_ steps m = some r) : Ret prog 70 #[.agg #[Ii w_.ticket, Ii w_.weight, Ii w_.urgency, Ii w_.since, Ii w_.former, v_w_], v_steps, Ii m] w fun v w' => ∃ s0, v = s0 ∧ Ownd 127 w w' s0 r ∧ Kp Dw w w' := by
 unfold route_needsAt at hm
 refine enter func70 rfl ntmps70 rfl ?_
 have hA0 := hA
 obtain ⟨hB, hK, hH⟩ := St (Dw := Dw) hA
 refine Sr ?_
 refine V_box rfl rfl ?_
 intro b5 w6 h7
 have hk9 := h7.kp (Dw := Dw)
 have h8 : El (α := route_Work) A w6 b5 0 w_ := h7.el hA ⟨[Ii w_.ticket], _, rfl, rfl, ⟨[Ii w_.weight], _, rfl, rfl, ⟨[Ii w_.urgency], _, rfl, rfl, ⟨[Ii w_.since], _, rfl, rfl, ⟨[Ii w_.former], _, rfl, rfl, ⟨_, rfl, h_w_⟩⟩⟩⟩⟩⟩
 have ht10 := Kp.tr hk9 hA hB; replace hH := Hp.kp hH hk9; replace h_steps := Sl.tr h_steps ht10; replace hK := Tt hK ht10; replace hB := Bx hB ht10; replace hA := ht10.new
 refine As (To ?_)
 refine Sr (As (To ?_))
 refine C_seq (Sr (Mm (Vy (Y_lenSl h_steps rfl underlying26 rfl) (Mm (To ?_)))))
 have hn31 := Sl.le h_steps
 obtain ⟨o11, ho11, hm⟩ := Bs hm
 refine C_cutG (ι := (Int × (Nat → Prop))) (fun ⟨s12, A18⟩ => [(3, Pt b5), (7, ptrV v_steps 3 s12)]) (fun ⟨s12, A18⟩ => fun w' => o11 = .fin s12 ∧ Hp w.heap.size A18 w' ([]) ∧ Tr Dw w.heap.size A w6 A18 w') ?_ ?_
 ·refine C_block ?_
  refine C_range ho11 (fun k14 s20 a w' => ∃ i : (Nat → Prop), Has ⟨66, [], none⟩ a ([(1, v_steps), (2, Ii m), (3, Pt b5), (7, ptrV v_steps 3 s20), (13, Ii (steps.length : Int)), (14, Ii (k14 : Int))]) ∧ Hp w.heap.size i w' ([]) ∧ Tr Dw w.heap.size A w6 i w') (fun a ha => ⟨A, ha.sb, ⟨hH, Tr.refl (Dw := Dw) hA⟩⟩) ?_
  rintro K k14 s20 a w21 ⟨A22, ha62, hH23, hr13⟩ hle27 K30 h29
  refine C_of ?_ ha62
  replace h_steps := Sl.tr h_steps hr13; replace h8 := El.tr h8 hr13; replace hB := Bx hB hr13; replace hA := hr13.new; replace hH := hH23
  refine Sr (Vy (Y_lss rfl rfl) (To ?_))
  refine C_seq ?_
  refine Cc (fun hc32 => ?_) fun hc32 => ?_
  ·have hlt28 := lt_of_dec hc32
   obtain ⟨x24, h25, h26⟩ := K30 hlt28
   refine Sk ?_
   refine C_seq ?_
   obtain ⟨s34, ho33, h25⟩ := Bs h25
   refine C_cutG (ι := (Nat → Prop)) (fun (A39 : (Nat → Prop)) => [(1, v_steps), (2, Ii m), (3, Pt b5), (7, ptrV v_steps 3 s34), (13, Ii (steps.length : Int)), (14, Ii (k14 : Int))]) (fun (A39 : (Nat → Prop)) => fun w' => Hp w.heap.size A39 w' ([]) ∧ Tr Dw w.heap.size A22 w21 A39 w') ?_ ?_
   ·have hr35 : Tr Dw w.heap.size A22 w21 A22 w21 := Tr.refl (Dw := Dw) hA
    refine C_block (Sr (Mm (As (To ?_))))
    refine C_seq ?_
    refine C_region_q (Dw := Dw) Tryz_mixed (by kernel_rfl) ?_
    refine Qm (Qm ?_)
    obtain ⟨x41, hx41, ho33⟩ := Bs ho33
    refine VQ_indexAddr h_steps hx41 underlying26 sizeOf173 rfl rfl rfl ?_
    intro b42 o43 h44
    have h45 := El_route_Step_0 h44
    refine Qf underlying173 rfl sizeOf3 (Qi h45 isAgg3 (Qm ?_))
    have h46 := El_route_Work_3 h8
    refine Qf underlying43 rfl sizeOf3 (Qi h46 isAgg3 (Qv (fun w' hw' => Y_subI rfl rfl) (Qv (fun w' hw' => Y_leq rfl rfl) ?_)))
    refine VQ_to (fun _ _ => rfl) (fun w47 hk48 => ?_)
    have ht49 := Kp.tr hk48 hA hB; replace hH := Hp.kp hH hk48; replace h_steps := Sl.tr h_steps ht49; replace hr35 := Tt hr35 ht49
    obtain ⟨s51, ho50, ho33⟩ := Bs ho33
    refine C_cutG (ι := Unit) (fun (_ : Unit) => [(1, v_steps), (2, Ii m), (3, Pt b5), (7, ptrV v_steps 3 s51), (13, Ii (steps.length : Int)), (14, Ii (k14 : Int))]) (fun (_ : Unit) => fun w' => w47 = w') ?_ ?_
    ·refine Cc (fun hc56 => ?_) fun hc56 => ?_
     ·rw [if_pos hc56] at ho50
      refine C_region (Mm (Mm (Vy (Y_indexIP h_steps hx41 underlying26 sizeOf173 rfl rfl) (As ?_))))
      obtain rfl := Oi ho50
      refine V_end (fun a ha57 => ?_)
      exact ⟨(), ha57.sb, rfl⟩
     rw [if_neg (nt hc56)] at ho50
     obtain rfl := Oi ho50
     refine C_skip (fun a ha58 => ?_)
     exact ⟨(), ha58.sb, rfl⟩
    rintro _ _ rfl a ha55
    obtain rfl := Oi ho33
    exact ⟨A22, ha55.sb, ⟨hH, hr35⟩⟩
   rintro A39 w36 ⟨hH40, hk37⟩ a ha38
   replace hr13 := Tr.trans hr13 hk37; replace hA := hk37.new; replace hH := hH40
   refine C_at (n := ⟨66, [], none⟩) (fun _ _ => rfl) ?_ ha38
   refine C_region (Vy (Y_addI rfl rfl) (Mm ?_))
   obtain rfl := Oi h25
   refine V_end (fun a ha60 => ?_)
   exact ⟨s34, hlt28, h26, ⟨A39, ha60.sub ⟨rfl, rfl, rfl, rfl, rfl, Ws hlt28 hn31, trivial⟩, ⟨hH, hr13⟩⟩⟩
  refine C_exit (fun a ha61 => ?_)
  exact ⟨(s20, A22), ha61.sb, ⟨(h29 (eq_of_dec hle27 hc32)).symm, hH, hr13⟩⟩
 rintro ⟨s12, A18⟩ w15 ⟨rfl, hH19, hk16⟩ a ha17
 rw [Lp.andThen_fin] at hm
 replace h8 := El.tr h8 hk16; replace h_steps := Sl.tr h_steps hk16; replace hK := Tr.trans hK hk16; replace hB := Nat.le_trans hB hk16.ex.size; replace hA := hk16.new; replace hH := hH19
 refine C_at (n := ⟨66, [], none⟩) (fun _ _ => rfl) ?_ ha17
 refine C_seq (C_block (Sr (Mm ?_)))
 obtain ⟨x63, hx63, hm⟩ := Bs hm
 refine Vy (Y_eqlIP h_steps rfl hx63 underlying221 rfl rfl) (As (To ?_))
 refine Cc (fun hc64 => ?_) fun hc64 => ?_
 ·rw [if_pos hc64] at hm
  refine Sr ?_
  have h65 := El_route_Work_5 h8
  refine Fa underlying43 rfl sizeOf41 ?_
  obtain ⟨v66, h67, h68⟩ := El.list h65
  refine Ld h67 isAgg41 ?_
  obtain ⟨x69, hx69, hm⟩ := Bs hm
  refine Vc call71 (slices_Clone_Lroute_Skill_route_Skill_c (Dw := Dw) w15 hA w_.needs v66 h68 hx69) ?_
  rintro v70 w72 ⟨_, rfl, h71, hk73⟩
  obtain ⟨A74, ht75, hH76⟩ := Hp.addOwnd (Dw := Dw) hH hB hA hk73 h71
  replace hK := Tt hK ht75
  replace hH : Hp _ _ _ (o_127 v70 x69 :: []) := hH76
  refine As (To ?_)
  obtain rfl := Oi hm
  refine Rt (Res.one results70 rfl) ?_
  exact ⟨v70, rfl, (Hp.ownd hH (i := 0) rfl), hK.kp⟩
 rw [if_neg (nt hc64)] at hm
 refine Sr (Mm ?_)
 obtain ⟨x77, hx77, hm⟩ := Bs hm
 obtain ⟨b78, o79, h80, h81⟩ := ptr_at h_steps hx77
 refine Vy (Y_nilCheck (congrArg some h80)) ?_
 have h82 := El_route_Step_2 h81
 refine Fa underlying173 rfl sizeOf4 (Ld (El.bool h82) isAgg4 (As (To ?_)))
 refine Cc (fun hc83 => ?_) fun hc83 => ?_
 ·rw [if_pos hc83] at hm
  refine Sr (As (To ?_))
  obtain rfl := Oi hm
  replace hH : Hp w.heap.size A18 w15 (o_127 (.slice none 0 0) ([] : (List route_Skill)) :: []) := Hp.addNil (α := route_Skill) (e := 127) hH
  refine Rt (Res.one results70 rfl) ?_
  exact ⟨.slice none 0 0, rfl, (Hp.ownd hH (i := 0) rfl), hK.kp⟩
 rw [if_neg (nt hc83)] at hm
 refine Sk ?_
 refine Sr (As (To ?_))
 refine C_seq (Sr ?_)
 have h84 := El_route_Work_5 h8
 refine Fa underlying43 rfl sizeOf41 ?_
 obtain ⟨v85, h86, h87⟩ := El.list h84
 refine Ld h86 isAgg41 (Vy (Y_lenSl h87 rfl underlying41 rfl) (Mm (To ?_)))
 replace hH : Hp w.heap.size A18 w15 (o_127 (.slice none 0 0) ([] : (List route_Skill)) :: []) := Hp.addNil (α := route_Skill) (e := 127) hH
 have hn112 := Sl.le h87
 obtain ⟨o88, ho88, hm⟩ := Bs hm
 refine C_cutG (ι := ((List route_Skill) × Value × (Nat → Prop))) (fun ⟨s89, v95, A97⟩ => [(9, v95)]) (fun ⟨s89, v95, A97⟩ => fun w' => o88 = .fin s89 ∧ Hp w.heap.size A97 w' (o_127 v95 s89 :: []) ∧ Tr Dw w.heap.size A18 w15 A97 w') ?_ ?_
 ·refine C_block ?_
  refine C_range ho88 (fun k91 s99 a w' => ∃ i : (Value × (Nat → Prop)), Has ⟨66, [], none⟩ a ([(7, ptrV v_steps 3 s12), (9, i.1), (43, v85), (44, Ii (w_.needs.length : Int)), (45, Ii (k91 : Int))]) ∧ Hp w.heap.size i.2 w' (o_127 i.1 s99 :: []) ∧ Tr Dw w.heap.size A18 w15 i.2 w') (fun a ha => ⟨(.slice none 0 0, A18), ha.sb, ⟨hH, Tr.refl (Dw := Dw) hA⟩⟩) ?_
  rintro K k91 s99 a w100 ⟨⟨v101, A103⟩, ha176, hH104, hr90⟩ hle108 K111 h110
  refine C_of ?_ ha176
  replace h_steps := Sl.tr h_steps hr90; replace h87 := Sl.tr h87 hr90; replace hB := Bx hB hr90; replace hA := hr90.new
  replace hH : Hp _ _ _ (o_127 v101 s99 :: []) := hH104
  refine Sr (Vy (Y_lss rfl rfl) (To ?_))
  refine C_seq ?_
  refine Cc (fun hc113 => ?_) fun hc113 => ?_
  ·have hlt109 := lt_of_dec hc113
   obtain ⟨x105, h106, h107⟩ := K111 hlt109
   refine Sk ?_
   refine C_seq ?_
   obtain ⟨s115, ho114, h106⟩ := Bs h106
   refine C_cutG (ι := (Value × (Nat → Prop))) (fun ⟨v117, A122⟩ => [(7, ptrV v_steps 3 s12), (9, v117), (43, v85), (44, Ii (w_.needs.length : Int)), (45, Ii (k91 : Int))]) (fun ⟨v117, A122⟩ => fun w' => Hp w.heap.size A122 w' (o_127 v117 s115 :: []) ∧ Tr Dw w.heap.size A103 w100 A122 w') ?_ ?_
   ·have hr116 : Tr Dw w.heap.size A103 w100 A103 w100 := Tr.refl (Dw := Dw) hA
    refine C_block (Sr ?_)
    obtain ⟨x124, hx124, ho114⟩ := Bs ho114
    refine V_indexAddr h87 hx124 underlying41 sizeOf127 rfl rfl rfl ?_
    intro b125 o126 h127
    obtain ⟨h128, _⟩ := El_route_Skill h127
    refine Vy (Y_loadA h128 isAgg127 sizeOf127 rfl) ?_
    refine V_allocH (Dw := Dw) (B := w.heap.size) hH zeroValue127 hB hA rfl ?_
    intro b129 w130 A131 hH132 ht133
    replace h_steps := Sl.tr h_steps ht133; replace hr116 := Tt hr116 ht133; replace hB := Bx hB ht133; replace hA := ht133.new
    replace hH : Hp _ _ _ (obC b129 [.string ByteArray.empty, Ii 0] 127 :: o_127 v101 s99 :: []) := hH132
    refine V_storeC (Dw := Dw) (off := 0) (ds := [.string x124.name, Ii x124.rank]) hH (i := 0) rfl sizeOf127 rfl (Nat.le_of_ble_eq_true rfl) (by simp [Value.cells, Value.oneCell']) rfl hB hA rfl rfl ?_
    intro w134 hH135 ht136
    replace h_steps := Sl.tr h_steps ht136; replace hr116 := Tt hr116 ht136; replace hB := Bx hB ht136; replace hA := ht136.new
    replace hH : Hp _ _ _ (obC b129 [.string x124.name, Ii x124.rank] 127 :: o_127 v101 s99 :: []) := hH135
    refine To ?_
    refine C_seq ?_
    refine C_region_qt (Dw := Dw) 8 Tryz_mixed (by kernel_rfl) ?_
    simp only [List.take, List.drop]
    refine Qv (fun w' hw' => Y_fieldAddrC (off2 := 1) underlying127 rfl sizeOf3 (by decide) rfl rfl) ?_
    refine VQ_y (fun w' hw' => Y_load ((World.cell?_of_block (hw'.block _ (World.block_lt_of_cell? _ _ (Hp.cell (j := 1) hH (i := 0) rfl rfl)))).trans (Hp.cell (j := 1) hH (i := 0) rfl rfl)) isAgg3 rfl) rfl rfl rfl ?_
    refine Qm ?_
    obtain ⟨b137, o138, h139, h140⟩ := ptr_at h_steps hx77
    refine Qv (fun w' hw' => Y_nilCheck (congrArg some h139)) ?_
    have h141 := El_route_Step_1 h140
    refine Qf underlying173 rfl sizeOf3 (Qi h141 isAgg3 (Qv (fun w' hw' => Y_subI rfl rfl) (Qv (fun w' hw' => Y_fieldAddrC (off2 := 1) underlying127 rfl sizeOf3 (by decide) rfl rfl) ?_)))
    refine VQ_tail (fun w142 hk143 => ?_)
    try simp only [List.take, List.drop]
    have ht144 := Kp.tr hk143 hA hB; replace hH := Hp.kp hH hk143; replace hr116 := Tt hr116 ht144; replace hB := Bx hB ht144; replace hA := ht144.new
    refine V_storeC (Dw := Dw) (off := 1) (ds := [.string x124.name, Ii (w64 (x124.rank - x77.lower))]) hH (i := 0) rfl sizeOf3 rfl (Nat.le_of_ble_eq_true rfl) (by simp [Value.cells, Value.oneCell']) rfl hB hA rfl rfl ?_
    intro w145 hH146 ht147
    replace hr116 := Tt hr116 ht147; replace hB := Bx hB ht147; replace hA := ht147.new
    replace hH : Hp _ _ _ (obC b129 [.string x124.name, Ii (w64 (x124.rank - x77.lower))] 127 :: o_127 v101 s99 :: []) := hH146
    refine To ?_
    refine Sr (Vy (Y_fieldAddrC (off2 := 1) underlying127 rfl sizeOf3 (by decide) rfl rfl) (Ld (Hp.cell (j := 1) hH (i := 0) rfl rfl) isAgg3 (Vy (Y_geq rfl rfl) (To ?_))))
    obtain ⟨s149, ho148, ho114⟩ := Bs ho114
    refine C_cutG (ι := (Value × (Nat → Prop))) (fun ⟨v151, A156⟩ => [(7, ptrV v_steps 3 s12), (9, v151), (43, v85), (44, Ii (w_.needs.length : Int)), (45, Ii (k91 : Int))]) (fun ⟨v151, A156⟩ => fun w' => Hp w.heap.size A156 w' (obC b129 [.string x124.name, Ii (w64 (x124.rank - x77.lower))] 127 :: o_127 v151 s149 :: []) ∧ Tr Dw w.heap.size A131 w145 A156 w') ?_ ?_
    ·have hr150 : Tr Dw w.heap.size A131 w145 A131 w145 := Tr.refl (Dw := Dw) hA
     refine Cc (fun hc158 => ?_) fun hc158 => ?_
     ·rw [if_pos hc158] at ho148
      refine C_region (Mm (Vy (Y_loadA (Hp.part (off := 0) (n := 2) (ds := [.string x124.name, Ii (w64 (x124.rank - x77.lower))]) hH (i := 0) rfl rfl) isAgg127 sizeOf127 rfl) ?_))
      refine V_buildSlice (Dw := Dw) (cells := #[.string x124.name, Ii (w64 (x124.rank - x77.lower))]) (l := ([(⟨x124.name, w64 (x124.rank - x77.lower)⟩ : route_Skill)] : List route_Skill)) (len := 1) underlying41 sizeOf127 zeroValue127 rfl (by generalize (w64 (x124.rank - x77.lower) : Int) = z163; kernel_rfl) (show (1 * 2 : Nat) ≠ 0 by decide) (show (1 * 2 : Nat) ≤ 2 ^ 24 by decide) hA ⟨[.string x124.name, Ii (w64 (x124.rank - x77.lower))], _, rfl, ⟨[.string x124.name], _, rfl, rfl, rfl⟩, rfl⟩ rfl rfl ?_
      intro v159 w160 hk162 h161
      have ht164 := Kp.tr hk162 hA hB; replace hH := Hp.kp hH hk162; replace hr150 := Tt hr150 ht164; replace hB := Bx hB ht164; replace hA := ht164.new
      obtain ⟨x165, hx165, ho148⟩ := Bs ho148
      refine V_appendH (Dw := Dw) (e := 127) (v := v101) (l := s99) (ti := t127) (bytes := 24) (lim := 5864062014805) hH (i := 1) rfl h161 hx165 underlying41 Tryz_info127 rfl rfl rfl rfl (by decide) (by decide) (by decide) hB hA rfl rfl rfl ?_
      intro v166 w167 A168 hH169 ht170
      replace hr150 := Tt hr150 ht170
      replace hH : Hp _ _ _ (obC b129 [.string x124.name, Ii (w64 (x124.rank - x77.lower))] 127 :: o_127 v166 x165 :: []) := hH169
      refine As ?_
      obtain rfl := Oi ho148
      refine V_end (fun a ha171 => ?_)
      exact ⟨(v166, A168), ha171.sb, ⟨hH, hr150⟩⟩
     rw [if_neg (nt hc158)] at ho148
     obtain rfl := Oi ho148
     refine C_skip (fun a ha172 => ?_)
     exact ⟨(v101, A131), ha172.sb, ⟨hH, hr150⟩⟩
    rintro ⟨v151, A156⟩ w153 ⟨hH157, hk154⟩ a ha155
    replace hr116 := Tr.trans hr116 hk154; replace hA := hk154.new
    replace hH : Hp _ _ _ (obC b129 [.string x124.name, Ii (w64 (x124.rank - x77.lower))] 127 :: o_127 v151 s149 :: []) := hH157
    obtain rfl := Oi ho114
    replace hH : Hp w.heap.size A156 w153 (o_127 v151 s149 :: obC b129 [.string x124.name, Ii (w64 (x124.rank - x77.lower))] 127 :: []) := Hp.front hH (i := 1) rfl
    replace hH : Hp w.heap.size A156 w153 (o_127 v151 s149 :: []) := Hp.drop hH (i := 1) rfl
    exact ⟨(v151, A156), ha155.sb, ⟨hH, hr116⟩⟩
   rintro ⟨v117, A122⟩ w119 ⟨hH123, hk120⟩ a ha121
   replace hr90 := Tr.trans hr90 hk120; replace hA := hk120.new
   replace hH : Hp _ _ _ (o_127 v117 s115 :: []) := hH123
   refine C_at (n := ⟨66, [], none⟩) (fun _ _ => rfl) ?_ ha121
   refine C_region (Vy (Y_addI rfl rfl) (Mm ?_))
   obtain rfl := Oi h106
   refine V_end (fun a ha174 => ?_)
   exact ⟨s115, hlt109, h107, ⟨(v117, A122), ha174.sub ⟨rfl, rfl, rfl, rfl, Ws hlt109 hn112, trivial⟩, ⟨hH, hr90⟩⟩⟩
  refine C_exit (fun a ha175 => ?_)
  exact ⟨(s99, v101, A103), ha175.sb, ⟨(h110 (eq_of_dec hle108 hc113)).symm, hH, hr90⟩⟩
 rintro ⟨s89, v95, A97⟩ w92 ⟨rfl, hH98, hk93⟩ a ha94
 rw [Lp.andThen_fin] at hm
 replace hK := Tr.trans hK hk93; replace hA := hk93.new
 replace hH : Hp _ _ _ (o_127 v95 s89 :: []) := hH98
 refine C_at (n := ⟨66, [], none⟩) (fun _ _ => rfl) ?_ ha94
 refine Sr (Mm (As (To ?_)))
 obtain rfl := Oi hm
 refine Rt (Res.one results70 rfl) ?_
 exact ⟨v95, rfl, (Hp.ownd hH (i := 0) rfl), hK.kp⟩
theorem slices_IndexFunc_Lroute_Skill_route_Skill_c (w : World) {A : Nat → Prop} (hA : ∀ b, w.heap.size ≤ b → A b) (s : (List route_Skill)) (v_s : Value) (h_s : Sl A w v_s s) (f : route_Skill → Option Bool) (f_f : FuncId) (f_a f_c : Array Value) (f_call : ∀ (args : Array Value) (w : World), (callFunc f_f args).run prog w = .ok (.enter f_f args) w) (f_spec : ∀ (w1 : World) (A1 : Nat → Prop), Tr Dw w.heap.size A w A1 w1 → (∀ b, w1.heap.size ≤ b → A1 b) → ∀ (y0 : route_Skill) (r : Bool), f y0 = some r → Ret prog f_f (f_a ++ #[.agg #[.string y0.name, Ii y0.rank]] ++ f_c) w1 fun v w' => v = .bool r ∧ Kp Dw w1 w') {r : Int} (hm : slices_IndexFunc_Lroute_Skill_route_Skill s f = some r) : Ret prog 138 #[v_s, .func (.func f_f) f_a f_c] w fun v w' => v = Ii r ∧ Kp Dw w w' := by
 unfold slices_IndexFunc_Lroute_Skill_route_Skill at hm
 refine enter func138 rfl ntmps138 rfl ?_
 have hA0 := hA
 obtain ⟨hB, hK, hH⟩ := St (Dw := Dw) hA
 refine Sr (As (To ?_))
 refine C_seq (Sr (Mm (Vy (Y_lenSl h_s rfl underlying41 rfl) (Mm (To ?_)))))
 have hn23 := Sl.le h_s
 obtain ⟨o3, ho3, hm⟩ := Bs hm
 refine C_cutG (ι := (Unit × (Nat → Prop))) (fun ⟨s4, A10⟩ => []) (fun ⟨s4, A10⟩ => fun w' => o3 = .fin s4 ∧ Hp w.heap.size A10 w' ([]) ∧ Tr Dw w.heap.size A w A10 w') ?_ ?_
 ·refine C_block ?_
  refine C_range ho3 (fun k6 _ a w' => ∃ i : (Nat → Prop), Has ⟨19, [], none⟩ a ([(0, v_s), (1, .func (.func f_f) f_a f_c), (7, Ii (s.length : Int)), (8, Ii (k6 : Int))]) ∧ Hp w.heap.size i w' ([]) ∧ Tr Dw w.heap.size A w i w') (fun a ha => ⟨A, ha.sb, ⟨hH, Tr.refl (Dw := Dw) hA⟩⟩) ?_
  rintro K k6 _ a w13 ⟨A14, ha37, hH15, hr5⟩ hle19 K22 h21
  refine C_of ?_ ha37
  replace h_s := Sl.tr h_s hr5; replace hK := Tt hK hr5; replace hB := Bx hB hr5; replace hA := hr5.new; replace hH := hH15
  refine Sr (Vy (Y_lss rfl rfl) (To ?_))
  refine C_seq ?_
  refine Cc (fun hc24 => ?_) fun hc24 => ?_
  ·have hlt20 := lt_of_dec hc24
   obtain ⟨x16, h17, h18⟩ := K22 hlt20
   refine Sk ?_
   refine C_seq (C_block (Sr (Mm (As (To ?_)))))
   refine Sr (Mm (Mm (Mm ?_)))
   obtain ⟨x25, hx25, h17⟩ := Bs h17
   refine V_indexAddr h_s hx25 underlying41 sizeOf127 rfl rfl rfl ?_
   intro b26 o27 h28
   obtain ⟨h29, _⟩ := El_route_Skill h28
   refine Vy (Y_loadA h29 isAgg127 sizeOf127 rfl) ?_
   obtain ⟨x30, hx30, h17⟩ := Bs h17
   refine Vc f_call (f_spec w13 _ hK hA x25 _ hx30) ?_
   rintro _ w31 ⟨rfl, hk32⟩
   have ht33 := Kp.tr hk32 hA hB; replace hH := Hp.kp hH hk32; replace hK := Tt hK ht33; replace hr5 := Tt hr5 ht33
   refine To ?_
   refine Cc (fun hc34 => ?_) fun hc34 => ?_
   ·rw [if_pos hc34] at h17
    refine Sr (Mm (As (To ?_)))
    obtain rfl := Oi h17
    obtain rfl := (h18 : Lp.rt _ = _)
    rw [Lp.andThen_rt] at hm
    obtain rfl := Oi hm
    refine Rt (Res.one results138 rfl) ?_
    exact ⟨rfl, hK.kp⟩
   rw [if_neg (nt hc34)] at h17
   refine Sk ?_
   refine C_region (Vy (Y_addI rfl rfl) (Mm ?_))
   obtain rfl := Oi h17
   refine V_end (fun a ha35 => ?_)
   exact ⟨(), hlt20, h18, ⟨A14, ha35.sub ⟨rfl, rfl, rfl, Ws hlt20 hn23, trivial⟩, ⟨hH, hr5⟩⟩⟩
  refine C_exit (fun a ha36 => ?_)
  exact ⟨((), A14), ha36.sub trivial, ⟨(h21 (eq_of_dec hle19 hc24)).symm, hH, hr5⟩⟩
 rintro ⟨s4, A10⟩ w7 ⟨rfl, hH11, hk8⟩ a ha9
 rw [Lp.andThen_fin] at hm
 replace hK := Tr.trans hK hk8; replace hA := hk8.new; replace hH := hH11
 refine C_at (n := ⟨19, [], none⟩) (fun _ _ => rfl) ?_ ha9
 refine Sr (As (To ?_))
 obtain rfl := Oi hm
 refine Rt (Res.one results138 rfl) ?_
 exact ⟨rfl, hK.kp⟩
theorem slices_ContainsFunc_Lroute_Skill_route_Skill_c (w : World) {A : Nat → Prop} (hA : ∀ b, w.heap.size ≤ b → A b) (s : (List route_Skill)) (v_s : Value) (h_s : Sl A w v_s s) (f : route_Skill → Option Bool) (f_f : FuncId) (f_a f_c : Array Value) (f_call : ∀ (args : Array Value) (w : World), (callFunc f_f args).run prog w = .ok (.enter f_f args) w) (f_spec : ∀ (w1 : World) (A1 : Nat → Prop), Tr Dw w.heap.size A w A1 w1 → (∀ b, w1.heap.size ≤ b → A1 b) → ∀ (y0 : route_Skill) (r : Bool), f y0 = some r → Ret prog f_f (f_a ++ #[.agg #[.string y0.name, Ii y0.rank]] ++ f_c) w1 fun v w' => v = .bool r ∧ Kp Dw w1 w') {r : Bool} (hm : slices_ContainsFunc_Lroute_Skill_route_Skill s f = some r) : Ret prog 117 #[v_s, .func (.func f_f) f_a f_c] w fun v w' => v = .bool r ∧ Kp Dw w w' := by
 unfold slices_ContainsFunc_Lroute_Skill_route_Skill at hm
 refine enter func117 rfl ntmps117 rfl ?_
 have hA0 := hA
 obtain ⟨hB, hK, hH⟩ := St (Dw := Dw) hA
 refine Sr (As (To ?_))
 refine Sr (Mm (Mm ?_))
 obtain ⟨x3, hx3, hm⟩ := Bs hm
 refine Vc call138 (slices_IndexFunc_Lroute_Skill_route_Skill_c (Dw := Dw) w hA s v_s h_s f f_f f_a f_c f_call (fun w1 A1 ht => f_spec w1 A1 (Tr.trans hK (Tr.lower (Dw := Dw) ht hB))) hx3) ?_
 rintro _ w4 ⟨rfl, hk5⟩
 have ht6 := Kp.tr hk5 hA hB; replace hK := Tt hK ht6
 refine Vy (Y_geq rfl rfl) (As (To ?_))
 obtain rfl := Oi hm
 refine Rt (Res.one results117 rfl) ?_
 exact ⟨rfl, hK.kp⟩
theorem route_Person_able_1_c (w : World) {A : Nat → Prop} (hA : ∀ b, w.heap.size ≤ b → A b) (s : route_Skill) (p1 : route_Skill) (b_p1 : Nat) (h_p1 : El A w b_p1 0 p1) {r : Bool} (hm : route_Person_able_1 s p1 = some r) : Ret prog 124 #[.agg #[.string s.name, Ii s.rank], Pt b_p1] w fun v w' => v = .bool r ∧ Kp Dw w w' := by
 unfold route_Person_able_1 at hm
 refine enter func124 rfl ntmps124 rfl ?_
 have hA0 := hA
 obtain ⟨hB, hK, hH⟩ := St (Dw := Dw) hA
 refine Sr ?_
 refine V_box rfl rfl ?_
 intro b1 w2 h3
 have hk5 := h3.kp (Dw := Dw)
 have h4 : El (α := route_Skill) A w2 b1 0 s := h3.el hA ⟨[.string s.name], _, rfl, rfl, rfl⟩
 have ht6 := Kp.tr hk5 hA hB; replace h_p1 := El.tr h_p1 ht6; replace hK := Tt hK ht6
 refine As (To ?_)
 refine Sr ?_
 have h7 := El_route_Skill_0 h4
 refine Fa underlying127 rfl sizeOf9 (Ld (El.str h7) isAgg9 ?_)
 have h8 := El_route_Skill_0 h_p1
 refine Fa underlying127 rfl sizeOf9 (Ld (El.str h8) isAgg9 (Vy (Y_seql rfl rfl) (Mm ?_)))
 refine V_cut 6 (fun _ : Unit => [(15, .bool ((strEq s.name p1.name) && (decide (p1.rank ≤ s.rank))))]) (fun _ w' => w2 = w') ?_ ?_
 ·simp only [List.take, List.drop]
  rcases Be (strEq s.name p1.name) with hc9 | hc9
  ·refine Gf hc9 ?_
   have h11 := El_route_Skill_1 h4
   refine Fa underlying127 rfl sizeOf3 (Gf hc9 (Li h11 isAgg3 (Gf hc9 ?_)))
   have h12 := El_route_Skill_1 h_p1
   refine Fa underlying127 rfl sizeOf3 (Gf hc9 (Li h12 isAgg3 (Gf hc9 (Vy (Y_geq rfl rfl) (Vy (Y_pick_te rfl hc9 rfl) ?_)))))
   exact V_end fun a ha => ⟨(), ha.sub ⟨(by rw [hc9]; rfl), trivial⟩, rfl⟩
  refine Gm hc9 (Gm hc9 (Gm hc9 (Gm hc9 (Gm hc9 (Vy (Y_pick_fe rfl hc9 rfl) ?_)))))
  exact V_end fun a ha => ⟨(), ha.sub ⟨(by rw [hc9]; rfl), trivial⟩, rfl⟩
 simp only [List.take, List.drop]
 rintro _ _ rfl
 refine As (To ?_)
 obtain rfl := Oi hm
 refine Rt (Res.one results124 rfl) ?_
 exact ⟨rfl, hK.kp⟩
end Go.Proofs.YtfbnaobiondblaaGreatDoor.W
