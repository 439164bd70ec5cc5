import Derived.Test.YtfbnaobiondblaaGreatDoorRouteAssignsW3
namespace Go.Proofs.YtfbnaobiondblaaGreatDoor.W
open Go Go.RowKit Go.Pu Go.Gw Go.Proofs Go.Proofs.YtfbnaobiondblaaGreatDoor.M
set_option linter.unusedVariables false
set_option linter.unusedSimpArgs false
variable {Dw : Prop}
set_option maxHeartbeats 4000000
set_option maxRecDepth 4000
open Tryz
theorem portref2_Clock_shifts_c (w : World) {A : Nat → Prop} {B : Nat} (hB : B ≤ w.heap.size) (hA : ∀ b, w.heap.size ≤ b → A b) (k : cal_Calendar) (b_k : Nat) (day : Int) {L : List Ob} (hH : Hp B A w (obCk 249 portref2_ShiftsIn b_k k :: L)) {r : (List cal_Shift)} (hm : portref2_Clock_shifts k day = some r) : Ret prog 140 #[Pt b_k, Ii day] w fun v w' => ∃ s0, ∃ A1 : Nat → Prop, v = s0 ∧ Sl A1 w' s0 r ∧ Hp B A1 w' (obCk 249 portref2_ShiftsIn b_k k :: L) ∧ Tr Dw B A w A1 w' := by
 unfold portref2_Clock_shifts at hm
 refine enter func140 rfl ntmps140 rfl ?_
 have hK : Tr Dw B A w A w := Tr.refl (Dw := Dw) hA
 obtain ⟨⟨mb, cs⟩, hH⟩ := Hp.open hH
 have hr : GoT.rep A w cs k := by
  obtain ⟨_, ⟨_, hr⟩, _⟩ := hH.at (i := 0) rfl
  exact hr
 have hr0 := hr
 obtain ⟨u0, u1, u2, rfl, s0, s1, s2⟩ := Rep_cal_Calendar hr0
 replace hH : Hp B A w (obC b_k [Ii k.zone.offset, u0, u1, u2, .map (some mb)] 249 :: obMF (portref2_ShiftsIn k) mb :: L) := hH.drops (L := [_])
 refine Sr (As (To ?_))
 refine Sr (Mm (Nc (Vy (Y_fieldAddrC (off2 := 4) underlying249 rfl sizeOf247 (by decide) rfl rfl) (Ld (Hp.cell (j := 4) hH (i := 0) rfl rfl) isAgg247 (Mm ?_)))))
 refine V_lookupF hH (i := 1) rfl underlying247 underlying3 zeroValue65 rfl rfl rfl ?_ ?_
 ·intro v l hl hs
  rw [hm] at hl
  obtain rfl := Oi hl
  refine Mm (Vy (Y_extract rfl rfl) (Vy (Y_extract rfl rfl) (As (As (To ?_)))))
  refine C_seq (Sr (Mm (Vy (Y_not rfl) (To ?_))))
  refine C_cond rfl (fun hc => by cases hc) (fun hc => ?_)
  refine Sk ?_
  have h4 : Hp B A w (ckL 249 portref2_ShiftsIn b_k k (mb, [Ii k.zone.offset, u0, u1, u2]) ++ L) := hH.free (O' := obF (fun A w => GoT.rep A w [Ii k.zone.offset, u0, u1, u2] k) (fun h he => GoT.keep h he)) ⟨rfl, hr⟩
  refine Sr (Mm (As (To ?_)))
  refine Rt (Res.one results140 rfl) ?_
  exact ⟨_, A, rfl, hs, Hp.pack _ h4, hK⟩
 refine Mm (Vy (Y_extract rfl rfl) (Vy (Y_extract rfl rfl) (As (As (To ?_)))))
 refine C_seq (Sr (Mm (Vy (Y_not rfl) (To ?_))))
 refine C_cond rfl (fun hc => ?_) (fun hc => by cases hc)
 refine Sr (Mm (Nc (Vy (Y_fieldAddrC (off2 := 0) underlying249 rfl sizeOf68 (by decide) rfl rfl) ?_)))
 have hat : At w b_k 0 [Ii k.zone.offset, u0, u1, u2] := Hp.part (n := 4) (i := 0) hH rfl rfl
 refine Vy (Y_loadA hat isAgg68 sizeOf68 rfl) (Mm ?_)
 refine Vc call166 (portref2_ShiftsIn_c (Dw := Dw) w hA k u0 s0 u1 s1 u2 s2 day hm) ?_
 rintro s1 w1 ⟨_, rfl, hs, hk⟩
 have t1 := Kp.tr (Dw := Dw) hk hA hB
 replace hH := Hp.kp (Dw := Dw) hH hk
 replace hr := GoT.keep hr t1.ex; replace hK := Tr.trans hK t1; replace hB := Nat.le_trans hB t1.ex.size; replace hA := t1.new
 refine As (To ?_)
 refine C_region (Mm (Nc (Vy (Y_fieldAddrC (off2 := 4) underlying249 rfl sizeOf247 (by decide) rfl rfl) (Ld (Hp.cell (j := 4) hH (i := 0) rfl rfl) isAgg247 (Mm (Mm ?_))))))
 refine V_mapUpdateF (Dw := Dw) hH (i := 1) rfl underlying247 underlying3 hm hs rfl rfl rfl hB hA ?_
 intro w2 h2 t2
 replace hH : Hp B A w2 (obC b_k [Ii k.zone.offset, u0, u1, u2, .map (some mb)] 249 :: obMF (portref2_ShiftsIn k) mb :: L) := h2
 replace hs := Sl.tr hs t2; replace hr := GoT.keep hr t2.ex; replace hK := Tr.trans hK t2
 refine To ?_
 have h4 : Hp B A w2 (ckL 249 portref2_ShiftsIn b_k k (mb, [Ii k.zone.offset, u0, u1, u2]) ++ L) := hH.free (O' := obF (fun A w => GoT.rep A w [Ii k.zone.offset, u0, u1, u2] k) (fun h he => GoT.keep h he)) ⟨rfl, hr⟩
 refine Sr (Mm (As (To ?_)))
 refine Rt (Res.one results140 rfl) ?_
 exact ⟨_, A, rfl, hs, Hp.pack _ h4, hK⟩
theorem portref2_Clock_Open_c (w : World) {A : Nat → Prop} {B : Nat} (hB : B ≤ w.heap.size) (hA : ∀ b, w.heap.size ≤ b → A b) (k_ : cal_Calendar) (b_k_ : Nat) (m : Int) {L : List Ob} (hH : Hp B A w (obCk 249 portref2_ShiftsIn b_k_ k_ :: L)) {r : Bool} (hm : portref2_Clock_Open k_ m = some r) : Ret prog 119 #[Pt b_k_, Ii m] w fun v w' => ∃ A1 : Nat → Prop, v = .bool r ∧ Hp B A1 w' (obCk 249 portref2_ShiftsIn b_k_ k_ :: L) ∧ Tr Dw B A w A1 w' := by
 unfold portref2_Clock_Open at hm
 refine enter func119 rfl ntmps119 rfl ?_
 have hK : Tr Dw B A w A w := Tr.refl (Dw := Dw) hA
 refine Sr (As (To ?_))
 refine Sr (Mm (Nc ?_))
 have h1 := Hp.ck (tb := 249) (F := portref2_ShiftsIn) (b := b_k_) (c := k_) hH (i := 0) rfl
 refine Vy (Y_fieldAddrC (off2 := 0) underlying249 rfl sizeOf68 (by decide) rfl rfl) ?_
 have h2 := El_cal_Calendar_0 h1
 refine Fa underlying68 rfl sizeOf64 ?_
 obtain ⟨v3, h5, h4⟩ := El_cal_Zone h2
 refine Vy (Y_loadA h5 isAgg64 sizeOf64 rfl) (Mm ?_)
 obtain ⟨x6, hx6, hm⟩ := Bs hm
 refine Vc call139 (portref2_LocalIn_c (Dw := Dw) w (A := fun _ => True) (fun _ _ => trivial) k_.zone v3 (Sl.any h4) m hx6) ?_
 rintro _ w7 ⟨rfl, hk8⟩
 have ht9 := Kp.tr hk8 hA hB; replace hH := Hp.kp hH hk8; replace hK := Tt hK ht9; replace hB := Bx hB ht9; replace hA := ht9.new
 refine Mm (Vy (Y_extract rfl rfl) (Vy (Y_extract rfl rfl) (As (As (To ?_)))))
 refine C_seq (Sr (Mm (Mm ?_)))
 obtain ⟨x10, hx10, hm⟩ := Bs hm
 refine Vc call140 (portref2_Clock_shifts_c (Dw := Dw) w7 hB hA k_ b_k_ x6.1 hH hx10) ?_
 rintro v11 w13 ⟨_, A14, rfl, h12, hH15, ht16⟩
 replace hK := Tt hK ht16; replace hB := Bx hB ht16; replace hA := ht16.new
 replace hH : Hp _ _ _ (obCk 249 portref2_ShiftsIn b_k_ k_ :: L) := hH15
 refine Vy (Y_lenSl h12 rfl underlying65 rfl) (Mm (To ?_))
 have hn37 := Sl.le h12
 obtain ⟨o17, ho17, hm⟩ := Bs hm
 refine C_cutG (ι := (Unit × (Nat → Prop))) (fun ⟨s18, A24⟩ => [(0, Pt b_k_), (5, Ii x6.1), (6, Ii x6.2)]) (fun ⟨s18, A24⟩ => fun w' => o17 = .fin s18 ∧ Hp B A24 w' (obCk 249 portref2_ShiftsIn b_k_ k_ :: L) ∧ Tr Dw B A14 w13 A24 w') ?_ ?_
 ·refine C_block ?_
  refine C_range ho17 (fun k20 _ a w' => ∃ i : (Nat → Prop), Has ⟨62, [], none⟩ a ([(0, Pt b_k_), (5, Ii x6.1), (6, Ii x6.2), (23, v11), (24, Ii (x10.length : Int)), (25, Ii (k20 : Int))]) ∧ Hp B i w' (obCk 249 portref2_ShiftsIn b_k_ k_ :: L) ∧ Tr Dw B A14 w13 i w') (fun a ha => ⟨A14, ha.sb, ⟨hH, Tr.refl (Dw := Dw) hA⟩⟩) ?_
  rintro K k20 _ a w27 ⟨A28, ha59, hH29, hr19⟩ hle33 K36 h35
  refine C_of ?_ ha59
  replace h12 := Sl.tr h12 hr19; replace hK := Tt hK hr19; replace hB := Bx hB hr19; replace hA := hr19.new
  replace hH : Hp _ _ _ (obCk 249 portref2_ShiftsIn b_k_ k_ :: L) := hH29
  refine Sr (Vy (Y_lss rfl rfl) (To ?_))
  refine C_seq ?_
  refine Cc (fun hc38 => ?_) fun hc38 => ?_
  ·have hlt34 := lt_of_dec hc38
   obtain ⟨x30, h31, h32⟩ := K36 hlt34
   refine Sk ?_
   refine C_seq (C_block (Sr ?_))
   obtain ⟨x39, hx39, h31⟩ := Bs h31
   refine V_indexAddr h12 hx39 underlying65 sizeOf75 rfl rfl rfl ?_
   intro b40 o41 h42
   obtain ⟨h43, _⟩ := El_cal_Shift h42
   refine Vy (Y_loadA h43 isAgg75 sizeOf75 rfl) ?_
   refine V_alloc zeroValue75 rfl ?_
   intro b44 w45 h46
   refine Sn h46 sizeOf75 ?_
   intro w47 h48
   have hk50 := h48.kp (Dw := Dw)
   have h49 : El (α := cal_Shift) A28 w47 b44 0 x39 := h48.el hA ⟨[Ii x39.day], _, rfl, rfl, ⟨[Ii x39.from_], _, rfl, rfl, rfl⟩⟩
   have ht51 := Kp.tr hk50 hA hB; replace hH := Hp.kp hH hk50; replace hK := Tt hK ht51; replace hr19 := Tt hr19 ht51
   refine To ?_
   refine Sr ?_
   have h52 := El_cal_Shift_1 h49
   refine Fa underlying75 rfl sizeOf3 (Li h52 isAgg3 (Mm (Vy (Y_leq rfl rfl) (Mm ?_))))
   refine V_cut 5 (fun _ : Unit => [(0, Pt b_k_), (5, Ii x6.1), (6, Ii x6.2), (23, v11), (24, Ii (x10.length : Int)), (25, Ii (k20 : Int)), (38, .bool ((decide (x39.from_ ≤ x6.2)) && (decide (x6.2 < x39.to_))))]) (fun _ w' => w47 = w') ?_ ?_
   ·simp only [List.take, List.drop]
    rcases Be (decide (x39.from_ ≤ x6.2)) with hc53 | hc53
    ·refine Gf hc53 (Mm (Gf hc53 ?_))
     have h55 := El_cal_Shift_2 h49
     refine Fa underlying75 rfl sizeOf3 (Gf hc53 (Li h55 isAgg3 (Gf hc53 (Vy (Y_lss rfl rfl) (Vy (Y_pick_te rfl hc53 rfl) ?_)))))
     exact V_end fun a ha => ⟨(), ha.sub ⟨rfl, rfl, rfl, rfl, rfl, rfl, (by rw [hc53]; rfl), trivial⟩, rfl⟩
    refine Gm hc53 (Gm hc53 (Gm hc53 (Gm hc53 (Vy (Y_pick_fe rfl hc53 rfl) ?_))))
    exact V_end fun a ha => ⟨(), ha.sub ⟨rfl, rfl, rfl, rfl, rfl, rfl, (by rw [hc53]; rfl), trivial⟩, rfl⟩
   simp only [List.take, List.drop]
   rintro _ _ rfl
   refine To ?_
   refine Cc (fun hc56 => ?_) fun hc56 => ?_
   ·rw [if_pos hc56] at h31
    refine Sr (As (To ?_))
    obtain rfl := Oi h31
    obtain rfl := (h32 : Lp.rt _ = _)
    rw [Lp.andThen_rt] at hm
    obtain rfl := Oi hm
    refine Rt (Res.one results119 rfl) ?_
    exact ⟨A28, rfl, hH, hK⟩
   rw [if_neg (nt hc56)] at h31
   refine Sk ?_
   refine C_region (Vy (Y_addI rfl rfl) (Mm ?_))
   obtain rfl := Oi h31
   refine V_end (fun a ha57 => ?_)
   exact ⟨(), hlt34, h32, ⟨A28, ha57.sub ⟨rfl, rfl, rfl, rfl, rfl, Ws hlt34 hn37, trivial⟩, ⟨hH, hr19⟩⟩⟩
  refine C_exit (fun a ha58 => ?_)
  exact ⟨((), A28), ha58.sb, ⟨(h35 (eq_of_dec hle33 hc38)).symm, hH, hr19⟩⟩
 rintro ⟨s18, A24⟩ w21 ⟨rfl, hH25, hk22⟩ a ha23
 rw [Lp.andThen_fin] at hm
 replace hK := Tr.trans hK hk22; replace hB := Nat.le_trans hB hk22.ex.size; replace hA := hk22.new
 replace hH : Hp _ _ _ (obCk 249 portref2_ShiftsIn b_k_ k_ :: L) := hH25
 refine C_at (n := ⟨62, [], none⟩) (fun _ _ => rfl) ?_ ha23
 refine C_seq (Sr (Mm (Mm (Vy (Y_subI rfl rfl) ?_))))
 obtain ⟨x60, hx60, hm⟩ := Bs hm
 refine Vc call140 (portref2_Clock_shifts_c (Dw := Dw) w21 hB hA k_ b_k_ (w64 (x6.1 - 1)) hH hx60) ?_
 rintro v61 w63 ⟨_, A64, rfl, h62, hH65, ht66⟩
 replace hK := Tt hK ht66; replace hB := Bx hB ht66; replace hA := ht66.new
 replace hH : Hp _ _ _ (obCk 249 portref2_ShiftsIn b_k_ k_ :: L) := hH65
 refine Vy (Y_lenSl h62 rfl underlying65 rfl) (Mm (To ?_))
 have hn87 := Sl.le h62
 obtain ⟨o67, ho67, hm⟩ := Bs hm
 refine C_cutG (ι := (Unit × (Nat → Prop))) (fun ⟨s68, A74⟩ => []) (fun ⟨s68, A74⟩ => fun w' => o67 = .fin s68 ∧ Hp B A74 w' (obCk 249 portref2_ShiftsIn b_k_ k_ :: L) ∧ Tr Dw B A64 w63 A74 w') ?_ ?_
 ·refine C_block ?_
  refine C_range ho67 (fun k70 _ a w' => ∃ i : (Nat → Prop), Has ⟨62, [], none⟩ a ([(6, Ii x6.2), (43, v61), (44, Ii (x60.length : Int)), (45, Ii (k70 : Int))]) ∧ Hp B i w' (obCk 249 portref2_ShiftsIn b_k_ k_ :: L) ∧ Tr Dw B A64 w63 i w') (fun a ha => ⟨A64, ha.sb, ⟨hH, Tr.refl (Dw := Dw) hA⟩⟩) ?_
  rintro K k70 _ a w77 ⟨A78, ha109, hH79, hr69⟩ hle83 K86 h85
  refine C_of ?_ ha109
  replace h62 := Sl.tr h62 hr69; replace hK := Tt hK hr69; replace hB := Bx hB hr69; replace hA := hr69.new
  replace hH : Hp _ _ _ (obCk 249 portref2_ShiftsIn b_k_ k_ :: L) := hH79
  refine Sr (Vy (Y_lss rfl rfl) (To ?_))
  refine C_seq ?_
  refine Cc (fun hc88 => ?_) fun hc88 => ?_
  ·have hlt84 := lt_of_dec hc88
   obtain ⟨x80, h81, h82⟩ := K86 hlt84
   refine Sk ?_
   refine C_seq (C_block (Sr ?_))
   obtain ⟨x89, hx89, h81⟩ := Bs h81
   refine V_indexAddr h62 hx89 underlying65 sizeOf75 rfl rfl rfl ?_
   intro b90 o91 h92
   obtain ⟨h93, _⟩ := El_cal_Shift h92
   refine Vy (Y_loadA h93 isAgg75 sizeOf75 rfl) ?_
   refine V_alloc zeroValue75 rfl ?_
   intro b94 w95 h96
   refine Sn h96 sizeOf75 ?_
   intro w97 h98
   have hk100 := h98.kp (Dw := Dw)
   have h99 : El (α := cal_Shift) A78 w97 b94 0 x89 := h98.el hA ⟨[Ii x89.day], _, rfl, rfl, ⟨[Ii x89.from_], _, rfl, rfl, rfl⟩⟩
   have ht101 := Kp.tr hk100 hA hB; replace hH := Hp.kp hH hk100; replace hK := Tt hK ht101; replace hr69 := Tt hr69 ht101
   refine To ?_
   refine Sr ?_
   have h102 := El_cal_Shift_1 h99
   refine Fa underlying75 rfl sizeOf3 (Li h102 isAgg3 (Mm (Vy (Y_addI rfl rfl) (Vy (Y_leq rfl rfl) (Mm ?_)))))
   refine V_cut 6 (fun _ : Unit => [(6, Ii x6.2), (43, v61), (44, Ii (x60.length : Int)), (45, Ii (k70 : Int)), (60, .bool ((decide (x89.from_ ≤ (w64 (x6.2 + 1440)))) && (decide ((w64 (x6.2 + 1440)) < x89.to_))))]) (fun _ w' => w97 = w') ?_ ?_
   ·simp only [List.take, List.drop]
    rcases Be (decide (x89.from_ ≤ (w64 (x6.2 + 1440)))) with hc103 | hc103
    ·refine Gf hc103 (Mm (Gf hc103 (Vy (Y_addI rfl rfl) (Gf hc103 ?_))))
     have h105 := El_cal_Shift_2 h99
     refine Fa underlying75 rfl sizeOf3 (Gf hc103 (Li h105 isAgg3 (Gf hc103 (Vy (Y_lss rfl rfl) (Vy (Y_pick_te rfl hc103 rfl) ?_)))))
     exact V_end fun a ha => ⟨(), ha.sub ⟨rfl, rfl, rfl, rfl, (by rw [hc103]; rfl), trivial⟩, rfl⟩
    refine Gm hc103 (Gm hc103 (Gm hc103 (Gm hc103 (Gm hc103 (Vy (Y_pick_fe rfl hc103 rfl) ?_)))))
    exact V_end fun a ha => ⟨(), ha.sub ⟨rfl, rfl, rfl, rfl, (by rw [hc103]; rfl), trivial⟩, rfl⟩
   simp only [List.take, List.drop]
   rintro _ _ rfl
   refine To ?_
   refine Cc (fun hc106 => ?_) fun hc106 => ?_
   ·rw [if_pos hc106] at h81
    refine Sr (As (To ?_))
    obtain rfl := Oi h81
    obtain rfl := (h82 : Lp.rt _ = _)
    rw [Lp.andThen_rt] at hm
    obtain rfl := Oi hm
    refine Rt (Res.one results119 rfl) ?_
    exact ⟨A78, rfl, hH, hK⟩
   rw [if_neg (nt hc106)] at h81
   refine Sk ?_
   refine C_region (Vy (Y_addI rfl rfl) (Mm ?_))
   obtain rfl := Oi h81
   refine V_end (fun a ha107 => ?_)
   exact ⟨(), hlt84, h82, ⟨A78, ha107.sub ⟨rfl, rfl, rfl, Ws hlt84 hn87, trivial⟩, ⟨hH, hr69⟩⟩⟩
  refine C_exit (fun a ha108 => ?_)
  exact ⟨((), A78), ha108.sub trivial, ⟨(h85 (eq_of_dec hle83 hc88)).symm, hH, hr69⟩⟩
 rintro ⟨s68, A74⟩ w71 ⟨rfl, hH75, hk72⟩ a ha73
 rw [Lp.andThen_fin] at hm
 replace hK := Tr.trans hK hk72; replace hA := hk72.new
 replace hH : Hp _ _ _ (obCk 249 portref2_ShiftsIn b_k_ k_ :: L) := hH75
 refine C_at (n := ⟨62, [], none⟩) (fun _ _ => rfl) ?_ ha73
 refine Sr (As (To ?_))
 obtain rfl := Oi hm
 refine Rt (Res.one results119 rfl) ?_
 exact ⟨A74, rfl, hH, hK⟩
theorem portref2_duty_on_c (w : World) {A : Nat → Prop} {B : Nat} (hB : B ≤ w.heap.size) (hA : ∀ b, w.heap.size ≤ b → A b) (d : portref2_duty) (b_d : Nat) (v_d0 : Value) (h_d0 : Sl A w v_d0 d.people) (v_d1 : Value) (m_d0 : Nat) (p : route_Person) (v_p : Value) (h_p : Sl A w v_p p.skills) (m : Int) {L : List Ob} (hH : Hp B A w (obC b_d [v_d0, v_d1, .map (some m_d0)] 199 :: obPS (obCk 249 portref2_ShiftsIn) 225 v_d1 d.clocks :: obSM (κ := Int) (α := Bool) m_d0 d.away :: L)) {r : Bool} (hm : portref2_duty_on d p m = some r) : Ret prog 91 #[Pt b_d, .agg #[Ii p.no, Ii p.capacity, Ii p.calendar, v_p], Ii m] w fun v w' => ∃ A1 : Nat → Prop, v = .bool r ∧ Hp B A1 w' (obC b_d [v_d0, v_d1, .map (some m_d0)] 199 :: obPS (obCk 249 portref2_ShiftsIn) 225 v_d1 d.clocks :: obSM (κ := Int) (α := Bool) m_d0 d.away :: L) ∧ Tr Dw B A w A1 w' := by
 unfold portref2_duty_on at hm
 refine enter func91 rfl ntmps91 rfl ?_
 have hK : Tr Dw B A w A w := Tr.refl (Dw := Dw) hA
 refine Sr ?_
 refine V_box rfl rfl ?_
 intro b8 w9 h10
 have hk12 := h10.kp (Dw := Dw)
 have h11 : El (α := route_Person) A w9 b8 0 p := h10.el hA ⟨[Ii p.no], _, rfl, rfl, ⟨[Ii p.capacity], _, rfl, rfl, ⟨[Ii p.calendar], _, rfl, rfl, ⟨_, rfl, h_p⟩⟩⟩⟩
 have ht13 := Kp.tr hk12 hA hB; replace hH := Hp.kp hH hk12; replace hK := Tt hK ht13; replace hB := Bx hB ht13; replace hA := ht13.new
 refine As (To ?_)
 refine C_seq ?_
 obtain ⟨s15, ho14, hm⟩ := Bs hm
 refine C_cutG (ι := (Nat → Prop)) (fun (A20 : (Nat → Prop)) => [(6, .bool s15)]) (fun (A20 : (Nat → Prop)) => fun w' => Hp B A20 w' (obC b_d [v_d0, v_d1, .map (some m_d0)] 199 :: obPS (obCk 249 portref2_ShiftsIn) 225 v_d1 d.clocks :: obSM (κ := Int) (α := Bool) m_d0 d.away :: L) ∧ Tr Dw B A w9 A20 w') ?_ ?_
 ·have hr16 : Tr Dw B A w9 A w9 := Tr.refl (Dw := Dw) hA
  refine C_region_qt (Dw := Dw) 18 Tryz_mixed (by kernel_rfl) ?_
  simp only [List.take, List.drop]
  refine Qm (Qn (Qv (fun w' hw' => Y_fieldAddrC (off2 := 2) underlying199 rfl sizeOf197 (by decide) rfl rfl) ?_))
  refine VQ_y (fun w' hw' => Y_load ((World.cell?_of_block (hw'.block _ (World.block_lt_of_cell? _ _ (Hp.cell (j := 2) hH (i := 0) rfl rfl)))).trans (Hp.cell (j := 2) hH (i := 0) rfl rfl)) isAgg197 rfl) rfl rfl rfl ?_
  have h22 := El_route_Person_0 h11
  refine Qf underlying124 rfl sizeOf3 (Qi h22 isAgg3 (Qv (fun w' hw' => Y_lookupS (κ := Int) (α := Bool) (z := false) (l := d.away) (Hp.kp (Dw := Dw) hH hw') (i := 2) rfl underlying197 underlying3 zeroValue4 rfl rfl rfl) (Qv (fun w' hw' => Y_not rfl) (Qm ?_))))
  rcases Be (!((mapGet d.away p.no).getD false)) with hc23 | hc23
  ·rw [if_pos hc23] at ho14
   refine Qh hc23 (Qm (Qh hc23 (Qn (Qh hc23 (Qv (fun w' hw' => Y_fieldAddrC (off2 := 1) underlying199 rfl sizeOf192 (by decide) rfl rfl) (Qh hc23 ?_))))))
   refine VQ_y (fun w' hw' => Y_load ((World.cell?_of_block (hw'.block _ (World.block_lt_of_cell? _ _ (Hp.cell (j := 1) hH (i := 0) rfl rfl)))).trans (Hp.cell (j := 1) hH (i := 0) rfl rfl)) isAgg192 rfl) rfl rfl rfl ?_
   refine Qh hc23 ?_
   have h24 := El_route_Person_2 h11
   refine Qf underlying124 rfl sizeOf3 (Qh hc23 (Qi h24 isAgg3 (Qh hc23 ?_)))
   obtain ⟨x25, hx25, ho14⟩ := Bs ho14
   refine VQ_indexAddrPS (f := obCk 249 portref2_ShiftsIn) (e := 225) (v := v_d1) (cs := d.clocks) hH (i := 1) rfl hx25 underlying192 sizeOf225 rfl rfl rfl ?_
   intro b26 o27 b29 hk30 h28 hH
   replace hH : Hp B A w9 (obCk 249 portref2_ShiftsIn b29 x25 :: obC b_d [v_d0, v_d1, .map (some m_d0)] 199 :: obPX (obCk 249 portref2_ShiftsIn) 225 v_d1 d.clocks (Int.toNat p.calendar) b29 :: obSM (κ := Int) (α := Bool) m_d0 d.away :: L) := hH
   refine Qh hc23 (Ql (fun w' hw' => ((World.cell?_of_block (hw'.block _ (World.block_lt_of_cell? _ _ (h28)))).trans (h28))) isAgg225 (Qh hc23 (Qm ?_)))
   refine VQ_tail (fun w31 hk32 => ?_)
   try simp only [List.take, List.drop]
   have ht33 := Kp.tr hk32 hA hB; replace hH := Hp.kp hH hk32; replace hr16 := Tt hr16 ht33; replace hB := Bx hB ht33; replace hA := ht33.new
   refine Gf hc23 ?_
   obtain ⟨x34, hx34, ho14⟩ := Bs ho14
   refine Vc call119 (portref2_Clock_Open_c (Dw := Dw) w31 hB hA x25 b29 m hH hx34) ?_
   rintro _ w35 ⟨A36, rfl, hH37, ht38⟩
   replace hr16 := Tt hr16 ht38
   replace hH : Hp _ _ _ (obCk 249 portref2_ShiftsIn b29 x25 :: obC b_d [v_d0, v_d1, .map (some m_d0)] 199 :: obPX (obCk 249 portref2_ShiftsIn) 225 v_d1 d.clocks (Int.toNat p.calendar) b29 :: obSM (κ := Int) (α := Bool) m_d0 d.away :: L) := hH37
   replace hH : Hp B A36 w35 (obC b_d [v_d0, v_d1, .map (some m_d0)] 199 :: obPS (obCk 249 portref2_ShiftsIn) 225 v_d1 d.clocks :: obSM (κ := Int) (α := Bool) m_d0 d.away :: L) := Hp.psBack hH (i := 1) rfl hk30
   refine Vy (Y_pick_te rfl hc23 rfl) (As ?_)
   obtain rfl := Oi ho14
   refine V_end (fun a ha39 => ?_)
   exact ⟨A36, ha39.sb, ⟨hH, hr16⟩⟩
  rw [if_neg (nt hc23)] at ho14
  refine Qg hc23 (Qg hc23 (Qg hc23 (Qg hc23 (Qg hc23 (Qg hc23 (Qg hc23 (Qg hc23 (Qg hc23 ?_))))))))
  refine VQ_tail (fun w40 hk41 => ?_)
  try simp only [List.take, List.drop]
  have ht42 := Kp.tr hk41 hA hB; replace hH := Hp.kp hH hk41; replace hr16 := Tt hr16 ht42
  refine Gm hc23 (Vy (Y_pick_fe rfl hc23 rfl) (As ?_))
  obtain rfl := Oi ho14
  refine V_end (fun a ha43 => ?_)
  exact ⟨A, ha43.sb, ⟨hH, hr16⟩⟩
 rintro A20 w17 ⟨hH21, hk18⟩ a ha19
 replace hK := Tr.trans hK hk18; replace hA := hk18.new
 replace hH : Hp _ _ _ (obC b_d [v_d0, v_d1, .map (some m_d0)] 199 :: obPS (obCk 249 portref2_ShiftsIn) 225 v_d1 d.clocks :: obSM (κ := Int) (α := Bool) m_d0 d.away :: L) := hH21
 refine C_at (n := ⟨27, [], none⟩) (fun _ _ => rfl) ?_ ha19
 obtain rfl := Oi hm
 refine Rt (Res.one results91 rfl) ?_
 exact ⟨A20, rfl, hH, hK⟩
theorem portref2_able_1_c (w : World) {A : Nat → Prop} (hA : ∀ b, w.heap.size ≤ b → A b) (s : route_Skill) (p1 : route_Skill) (b_p1 : Nat) (h_p1 : El A w b_p1 0 p1) {r : Bool} (hm : portref2_able_1 s p1 = some r) : Ret prog 118 #[.agg #[.string s.name, Ii s.rank], Pt b_p1] w fun v w' => v = .bool r ∧ Kp Dw w w' := by
 unfold portref2_able_1 at hm
 refine enter func118 rfl ntmps118 rfl ?_
 have hA0 := hA
 obtain ⟨hB, hK, hH⟩ := St (Dw := Dw) hA
 refine Sr ?_
 refine V_box rfl rfl ?_
 intro b1 w2 h3
 have hk5 := h3.kp (Dw := Dw)
 have h4 : El (α := route_Skill) A w2 b1 0 s := h3.el hA ⟨[.string s.name], _, rfl, rfl, rfl⟩
 have ht6 := Kp.tr hk5 hA hB; replace h_p1 := El.tr h_p1 ht6; replace hK := Tt hK ht6
 refine As (To ?_)
 refine Sr ?_
 have h7 := El_route_Skill_0 h4
 refine Fa underlying127 rfl sizeOf9 (Ld (El.str h7) isAgg9 ?_)
 have h8 := El_route_Skill_0 h_p1
 refine Fa underlying127 rfl sizeOf9 (Ld (El.str h8) isAgg9 (Vy (Y_seql rfl rfl) (Mm ?_)))
 refine V_cut 6 (fun _ : Unit => [(15, .bool ((strEq s.name p1.name) && (decide (p1.rank ≤ s.rank))))]) (fun _ w' => w2 = w') ?_ ?_
 ·simp only [List.take, List.drop]
  rcases Be (strEq s.name p1.name) with hc9 | hc9
  ·refine Gf hc9 ?_
   have h11 := El_route_Skill_1 h4
   refine Fa underlying127 rfl sizeOf3 (Gf hc9 (Li h11 isAgg3 (Gf hc9 ?_)))
   have h12 := El_route_Skill_1 h_p1
   refine Fa underlying127 rfl sizeOf3 (Gf hc9 (Li h12 isAgg3 (Gf hc9 (Vy (Y_geq rfl rfl) (Vy (Y_pick_te rfl hc9 rfl) ?_)))))
   exact V_end fun a ha => ⟨(), ha.sub ⟨(by rw [hc9]; rfl), trivial⟩, rfl⟩
  refine Gm hc9 (Gm hc9 (Gm hc9 (Gm hc9 (Gm hc9 (Vy (Y_pick_fe rfl hc9 rfl) ?_)))))
  exact V_end fun a ha => ⟨(), ha.sub ⟨(by rw [hc9]; rfl), trivial⟩, rfl⟩
 simp only [List.take, List.drop]
 rintro _ _ rfl
 refine As (To ?_)
 obtain rfl := Oi hm
 refine Rt (Res.one results118 rfl) ?_
 exact ⟨rfl, hK.kp⟩
theorem portref2_able_c (w : World) {A : Nat → Prop} (hA : ∀ b, w.heap.size ≤ b → A b) (p : route_Person) (v_p : Value) (h_p : Sl A w v_p p.skills) (needs : (List route_Skill)) (v_needs : Value) (h_needs : Sl A w v_needs needs) {r : Bool} (hm : portref2_able p needs = some r) : Ret prog 90 #[.agg #[Ii p.no, Ii p.capacity, Ii p.calendar, v_p], v_needs] w fun v w' => v = .bool r ∧ Kp Dw w w' := by
 unfold portref2_able at hm
 refine enter func90 rfl ntmps90 rfl ?_
 have hA0 := hA
 obtain ⟨hB, hK, hH⟩ := St (Dw := Dw) hA
 refine Sr ?_
 refine V_box rfl rfl ?_
 intro b5 w6 h7
 have hk9 := h7.kp (Dw := Dw)
 have h8 : El (α := route_Person) A w6 b5 0 p := h7.el hA ⟨[Ii p.no], _, rfl, rfl, ⟨[Ii p.capacity], _, rfl, rfl, ⟨[Ii p.calendar], _, rfl, rfl, ⟨_, rfl, h_p⟩⟩⟩⟩
 have ht10 := Kp.tr hk9 hA hB; replace hH := Hp.kp hH hk9; replace h_needs := Sl.tr h_needs ht10; replace hK := Tt hK ht10; replace hB := Bx hB ht10; replace hA := ht10.new
 refine As (To ?_)
 refine C_seq (Sr (Mm (Vy (Y_lenSl h_needs rfl underlying41 rfl) (Mm (To ?_)))))
 have hn31 := Sl.le h_needs
 obtain ⟨o11, ho11, hm⟩ := Bs hm
 refine C_cutG (ι := (Unit × (Nat → Prop))) (fun ⟨s12, A18⟩ => []) (fun ⟨s12, A18⟩ => fun w' => o11 = .fin s12 ∧ Hp w.heap.size A18 w' ([]) ∧ Tr Dw w.heap.size A w6 A18 w') ?_ ?_
 ·refine C_block ?_
  refine C_range ho11 (fun k14 _ a w' => ∃ i : (Nat → Prop), Has ⟨19, [], none⟩ a ([(2, Pt b5), (7, v_needs), (8, Ii (needs.length : Int)), (9, Ii (k14 : Int))]) ∧ Hp w.heap.size i w' ([]) ∧ Tr Dw w.heap.size A w6 i w') (fun a ha => ⟨A, ha.sb, ⟨hH, Tr.refl (Dw := Dw) hA⟩⟩) ?_
  rintro K k14 _ a w21 ⟨A22, ha66, hH23, hr13⟩ hle27 K30 h29
  refine C_of ?_ ha66
  replace h8 := El.tr h8 hr13; replace h_needs := Sl.tr h_needs hr13; replace hK := Tt hK hr13; replace hB := Bx hB hr13; replace hA := hr13.new; replace hH := hH23
  refine Sr (Vy (Y_lss rfl rfl) (To ?_))
  refine C_seq ?_
  refine Cc (fun hc32 => ?_) fun hc32 => ?_
  ·have hlt28 := lt_of_dec hc32
   obtain ⟨x24, h25, h26⟩ := K30 hlt28
   refine Sk ?_
   refine C_seq (C_block (Sr ?_))
   obtain ⟨x33, hx33, h25⟩ := Bs h25
   refine V_indexAddr h_needs hx33 underlying41 sizeOf127 rfl rfl rfl ?_
   intro b34 o35 h36
   obtain ⟨h37, _⟩ := El_route_Skill h36
   refine Vy (Y_loadA h37 isAgg127 sizeOf127 rfl) ?_
   refine V_alloc zeroValue127 rfl ?_
   intro b38 w39 h40
   refine Sn h40 sizeOf127 ?_
   intro w41 h42
   have hk44 := h42.kp (Dw := Dw)
   have h43 : El (α := route_Skill) A22 w41 b38 0 x33 := h42.el hA ⟨[.string x33.name], _, rfl, rfl, rfl⟩
   have ht45 := Kp.tr hk44 hA hB; replace hH := Hp.kp hH hk44; replace h8 := El.tr h8 ht45; replace hK := Tt hK ht45; replace hr13 := Tt hr13 ht45; replace hB := Bx hB ht45; replace hA := ht45.new
   refine To ?_
   refine Sr ?_
   have h46 := El_route_Person_3 h8
   refine Fa underlying124 rfl sizeOf41 ?_
   obtain ⟨v47, h48, h49⟩ := El.list h46
   refine Ld h48 isAgg41 (Vy (Y_makeFunc rfl rfl) ?_)
   obtain ⟨x51, hx51, h25⟩ := Bs h25
   refine Vc call117 (slices_ContainsFunc_Lroute_Skill_route_Skill_c (Dw := Dw) w41 hA p.skills v47 h49 (fun y59 => portref2_able_1 y59 x33) 118 #[] #[Pt b38] call118 (fun w55 A56 ht57 h58 y52 r53 h54 => (portref2_able_1_c (Dw := Dw) w55 h58 y52 x33 b38 (El.tr h43 ht57) h54).mono (fun _ _ h => ⟨h.1, h.2⟩)) hx51) ?_
   rintro _ w60 ⟨rfl, hk61⟩
   have ht62 := Kp.tr hk61 hA hB; replace hH := Hp.kp hH hk61; replace hK := Tt hK ht62; replace hr13 := Tt hr13 ht62
   refine Vy (Y_not rfl) (To ?_)
   refine Cc (fun hc63 => ?_) fun hc63 => ?_
   ·rw [if_pos hc63] at h25
    refine Sr (As (To ?_))
    obtain rfl := Oi h25
    obtain rfl := (h26 : Lp.rt _ = _)
    rw [Lp.andThen_rt] at hm
    obtain rfl := Oi hm
    refine Rt (Res.one results90 rfl) ?_
    exact ⟨rfl, hK.kp⟩
   rw [if_neg (nt hc63)] at h25
   refine Sk ?_
   refine C_region (Vy (Y_addI rfl rfl) (Mm ?_))
   obtain rfl := Oi h25
   refine V_end (fun a ha64 => ?_)
   exact ⟨(), hlt28, h26, ⟨A22, ha64.sub ⟨rfl, rfl, rfl, Ws hlt28 hn31, trivial⟩, ⟨hH, hr13⟩⟩⟩
  refine C_exit (fun a ha65 => ?_)
  exact ⟨((), A22), ha65.sub trivial, ⟨(h29 (eq_of_dec hle27 hc32)).symm, hH, hr13⟩⟩
 rintro ⟨s12, A18⟩ w15 ⟨rfl, hH19, hk16⟩ a ha17
 rw [Lp.andThen_fin] at hm
 replace hK := Tr.trans hK hk16; replace hA := hk16.new; replace hH := hH19
 refine C_at (n := ⟨19, [], none⟩) (fun _ _ => rfl) ?_ ha17
 refine Sr (As (To ?_))
 obtain rfl := Oi hm
 refine Rt (Res.one results90 rfl) ?_
 exact ⟨rfl, hK.kp⟩
theorem portref2_duty_ahead_c (w : World) {A : Nat → Prop} (hA : ∀ b, w.heap.size ≤ b → A b) (v_d : Value) (a_ : route_Person) (v_a_ : Value) (h_a_ : Sl A w v_a_ a_.skills) (b : route_Person) (v_b : Value) (h_b : Sl A w v_b b.skills) (w_ : route_Work) (v_w_ : Value) (h_w_ : Sl A w v_w_ w_.needs) (held : (List route_Held)) (v_held : Value) (h_held : Sl A w v_held held) {r : Bool} (hm : portref2_duty_ahead a_ b w_ held = some r) : Ret prog 92 #[v_d, .agg #[Ii a_.no, Ii a_.capacity, Ii a_.calendar, v_a_], .agg #[Ii b.no, Ii b.capacity, Ii b.calendar, v_b], .agg #[Ii w_.ticket, Ii w_.weight, Ii w_.urgency, Ii w_.since, Ii w_.former, v_w_], v_held] w fun v w' => v = .bool r ∧ Kp Dw w w' := by
 unfold portref2_duty_ahead at hm
 refine enter func92 rfl ntmps92 rfl ?_
 have hA0 := hA
 obtain ⟨hB, hK, hH⟩ := St (Dw := Dw) hA
 refine Sr ?_
 refine V_box rfl rfl ?_
 intro b9 w10 h11
 have hk13 := h11.kp (Dw := Dw)
 have h12 : El (α := route_Person) A w10 b9 0 a_ := h11.el hA ⟨[Ii a_.no], _, rfl, rfl, ⟨[Ii a_.capacity], _, rfl, rfl, ⟨[Ii a_.calendar], _, rfl, rfl, ⟨_, rfl, h_a_⟩⟩⟩⟩
 have ht14 := Kp.tr hk13 hA hB; replace h_b := Sl.tr h_b ht14; replace h_w_ := Sl.tr h_w_ ht14; replace h_held := Sl.tr h_held ht14; replace hK := Tt hK ht14; replace hB := Bx hB ht14; replace hA := ht14.new
 refine V_box rfl rfl ?_
 intro b15 w17 h18
 have hk20 := h18.kp (Dw := Dw)
 have h19 : El (α := route_Person) A w17 b15 0 b := h18.el hA ⟨[Ii b.no], _, rfl, rfl, ⟨[Ii b.capacity], _, rfl, rfl, ⟨[Ii b.calendar], _, rfl, rfl, ⟨_, rfl, h_b⟩⟩⟩⟩
 have ht21 := Kp.tr hk20 hA hB; replace h_w_ := Sl.tr h_w_ ht21; replace h_held := Sl.tr h_held ht21; replace h12 := El.tr h12 ht21; replace hK := Tt hK ht21; replace hB := Bx hB ht21; replace hA := ht21.new
 refine V_box rfl rfl ?_
 intro b22 w23 h24
 have hk26 := h24.kp (Dw := Dw)
 have h25 : El (α := route_Work) A w23 b22 0 w_ := h24.el hA ⟨[Ii w_.ticket], _, rfl, rfl, ⟨[Ii w_.weight], _, rfl, rfl, ⟨[Ii w_.urgency], _, rfl, rfl, ⟨[Ii w_.since], _, rfl, rfl, ⟨[Ii w_.former], _, rfl, rfl, ⟨_, rfl, h_w_⟩⟩⟩⟩⟩⟩
 have ht27 := Kp.tr hk26 hA hB; replace h_held := Sl.tr h_held ht27; replace h12 := El.tr h12 ht27; replace h19 := El.tr h19 ht27; replace hK := Tt hK ht27; replace hB := Bx hB ht27; replace hA := ht27.new
 refine As (To ?_)
 refine C_seq (Sr ?_)
 have h28 := El_route_Person_0 h19
 refine Fa underlying124 rfl sizeOf3 (Li h28 isAgg3 ?_)
 have h29 := El_route_Work_4 h25
 refine Fa underlying43 rfl sizeOf3 (Li h29 isAgg3 (Vy (Y_eql rfl rfl) (To ?_)))
 refine Cc (fun hc30 => ?_) fun hc30 => ?_
 ·rw [if_pos hc30] at hm
  refine Sr (As (To ?_))
  obtain rfl := Oi hm
  refine Rt (Res.one results92 rfl) ?_
  exact ⟨rfl, hK.kp⟩
 rw [if_neg (nt hc30)] at hm
 refine Sk ?_
 refine C_seq (Sr ?_)
 have h31 := El_route_Person_0 h12
 refine Fa underlying124 rfl sizeOf3 (Li h31 isAgg3 ?_)
 have h32 := El_route_Work_4 h25
 refine Fa underlying43 rfl sizeOf3 (Li h32 isAgg3 (Vy (Y_eql rfl rfl) (To ?_)))
 refine Cc (fun hc33 => ?_) fun hc33 => ?_
 ·rw [if_pos hc33] at hm
  refine Sr (As (To ?_))
  obtain rfl := Oi hm
  refine Rt (Res.one results92 rfl) ?_
  exact ⟨rfl, hK.kp⟩
 rw [if_neg (nt hc33)] at hm
 refine Sk ?_
 refine Sr (Mm ?_)
 have h34 := El_route_Person_0 h12
 refine Fa underlying124 rfl sizeOf3 (Li h34 isAgg3 ?_)
 obtain ⟨x35, hx35, hm⟩ := Bs hm
 refine Vc call89 (portref2_weightOf_c (Dw := Dw) w23 hA held v_held h_held a_.no hx35) ?_
 rintro _ w36 ⟨rfl, hk37⟩
 have ht38 := Kp.tr hk37 hA hB; replace h_held := Sl.tr h_held ht38; replace h12 := El.tr h12 ht38; replace h19 := El.tr h19 ht38; replace hK := Tt hK ht38; replace hB := Bx hB ht38; replace hA := ht38.new
 refine Mm (Vy (Y_extract rfl rfl) (Vy (Y_extract rfl rfl) (As (As (To ?_)))))
 refine Sr (Mm ?_)
 have h39 := El_route_Person_0 h19
 refine Fa underlying124 rfl sizeOf3 (Li h39 isAgg3 ?_)
 obtain ⟨x40, hx40, hm⟩ := Bs hm
 refine Vc call89 (portref2_weightOf_c (Dw := Dw) w36 hA held v_held h_held b.no hx40) ?_
 rintro _ w41 ⟨rfl, hk42⟩
 have ht43 := Kp.tr hk42 hA hB; replace h12 := El.tr h12 ht43; replace h19 := El.tr h19 ht43; replace hK := Tt hK ht43; replace hB := Bx hB ht43; replace hA := ht43.new
 refine Mm (Vy (Y_extract rfl rfl) (Vy (Y_extract rfl rfl) (As (As (To ?_)))))
 refine Sr (Mm ?_)
 have h44 := El_route_Person_1 h19
 refine Fa underlying124 rfl sizeOf3 (Li h44 isAgg3 (Vy (Y_mulI rfl rfl) (Mm ?_)))
 have h45 := El_route_Person_1 h12
 refine Fa underlying124 rfl sizeOf3 (Li h45 isAgg3 (Vy (Y_mulI rfl rfl) ?_))
 refine Vc call75 (cmp_Compare_int_c w41 (w64 (x35.1 * b.capacity)) (w64 (x40.1 * a_.capacity))) ?_
 rintro _ _ ⟨rfl, rfl⟩
 refine Mm (Mm ?_)
 refine Vc call75 (cmp_Compare_int_c w41 x35.2 x40.2) ?_
 rintro _ _ ⟨rfl, rfl⟩
 refine V_buildSlice (Dw := Dw) (cells := #[Ii (cmp_Compare_int (w64 (x35.1 * b.capacity)) (w64 (x40.1 * a_.capacity))), Ii (cmp_Compare_int x35.2 x40.2)]) (l := ([(cmp_Compare_int (w64 (x35.1 * b.capacity)) (w64 (x40.1 * a_.capacity))), (cmp_Compare_int x35.2 x40.2)] : List Int)) (len := 2) underlying98 sizeOf3 zeroValue3 rfl (by generalize ((cmp_Compare_int (w64 (x35.1 * b.capacity)) (w64 (x40.1 * a_.capacity))) : Int) = z50; generalize ((cmp_Compare_int x35.2 x40.2) : Int) = z51; kernel_rfl) (show (2 * 1 : Nat) ≠ 0 by decide) (show (2 * 1 : Nat) ≤ 2 ^ 24 by decide) hA ⟨[Ii (cmp_Compare_int (w64 (x35.1 * b.capacity)) (w64 (x40.1 * a_.capacity)))], _, rfl, rfl, ⟨[Ii (cmp_Compare_int x35.2 x40.2)], _, rfl, rfl, rfl⟩⟩ rfl rfl ?_
 intro v46 w47 hk49 h48
 have ht52 := Kp.tr hk49 hA hB; replace hK := Tt hK ht52
 obtain ⟨x53, hx53, hm⟩ := Bs hm
 refine Vc call105 (cmp_Or_int_c w47 ([(cmp_Compare_int (w64 (x35.1 * b.capacity)) (w64 (x40.1 * a_.capacity))), (cmp_Compare_int x35.2 x40.2)] : List Int) v46 h48 hx53) ?_
 rintro _ _ ⟨rfl, rfl⟩
 refine Vy (Y_lss rfl rfl) (As (To ?_))
 obtain rfl := Oi hm
 refine Rt (Res.one results92 rfl) ?_
 exact ⟨rfl, hK.kp⟩
theorem portref2_duty_assign_1_c (w : World) {A : Nat → Prop} (hA : ∀ b, w.heap.size ≤ b → A b) (a_ : route_Held) (b : route_Held) {r : Int} (hm : portref2_duty_assign_1 a_ b = some r) : Ret prog 93 #[.agg #[Ii a_.ticket, Ii a_.person, Ii a_.weight, Ii a_.since], .agg #[Ii b.ticket, Ii b.person, Ii b.weight, Ii b.since]] w fun v w' => v = Ii r ∧ Kp Dw w w' := by
 unfold portref2_duty_assign_1 at hm
 refine enter func93 rfl ntmps93 rfl ?_
 have hA0 := hA
 obtain ⟨hB, hK, hH⟩ := St (Dw := Dw) hA
 refine Sr ?_
 refine V_box rfl rfl ?_
 intro b1 w2 h3
 have hk5 := h3.kp (Dw := Dw)
 have h4 : El (α := route_Held) A w2 b1 0 a_ := h3.el hA ⟨[Ii a_.ticket], _, rfl, rfl, ⟨[Ii a_.person], _, rfl, rfl, ⟨[Ii a_.weight], _, rfl, rfl, rfl⟩⟩⟩
 have ht6 := Kp.tr hk5 hA hB; replace hK := Tt hK ht6; replace hB := Bx hB ht6; replace hA := ht6.new
 refine V_box rfl rfl ?_
 intro b7 w9 h10
 have hk12 := h10.kp (Dw := Dw)
 have h11 : El (α := route_Held) A w9 b7 0 b := h10.el hA ⟨[Ii b.ticket], _, rfl, rfl, ⟨[Ii b.person], _, rfl, rfl, ⟨[Ii b.weight], _, rfl, rfl, rfl⟩⟩⟩
 have ht13 := Kp.tr hk12 hA hB; replace h4 := El.tr h4 ht13; replace hK := Tt hK ht13
 refine As (To ?_)
 refine Sr ?_
 have h14 := El_route_Held_0 h4
 refine Fa underlying32 rfl sizeOf3 (Li h14 isAgg3 ?_)
 have h15 := El_route_Held_0 h11
 refine Fa underlying32 rfl sizeOf3 (Li h15 isAgg3 ?_)
 refine Vc call75 (cmp_Compare_int_c w9 a_.ticket b.ticket) ?_
 rintro _ _ ⟨rfl, rfl⟩
 refine As (To ?_)
 obtain rfl := Oi hm
 refine Rt (Res.one results93 rfl) ?_
 exact ⟨rfl, hK.kp⟩
theorem portref2_duty_assign_c (w : World) {A : Nat → Prop} {B : Nat} (hB : B ≤ w.heap.size) (hA : ∀ b, w.heap.size ≤ b → A b) (d : portref2_duty) (b_d : Nat) (v_d0 : Value) (h_d0 : Sl A w v_d0 d.people) (v_d1 : Value) (m_d0 : Nat) (held : (List route_Held)) (v_held : Value) (h_held : Sl A w v_held held) (waiting : (List route_Work)) (v_waiting : Value) (h_waiting : Sl A w v_waiting waiting) (steps : (List route_Step)) (v_steps : Value) (h_steps : Sl A w v_steps steps) (m : Int) {L : List Ob} (hH : Hp B A w (obC b_d [v_d0, v_d1, .map (some m_d0)] 199 :: obPS (obCk 249 portref2_ShiftsIn) 225 v_d1 d.clocks :: obSM (κ := Int) (α := Bool) m_d0 d.away :: L)) {r : ((List route_Held) × (List route_Work) × (List route_Held))} (hm : portref2_duty_assign d held waiting steps m = some r) : Ret prog 28 #[Pt b_d, v_held, v_waiting, v_steps, Ii m] w fun v w' => ∃ s0, ∃ s1, ∃ s2, ∃ A1 : Nat → Prop, v = .tuple #[s0, s1, s2] ∧ Hp B A1 w' (o_32 s0 r.1 :: o_43 s1 r.2.1 :: o_32 s2 r.2.2 :: obC b_d [v_d0, v_d1, .map (some m_d0)] 199 :: obPS (obCk 249 portref2_ShiftsIn) 225 v_d1 d.clocks :: obSM (κ := Int) (α := Bool) m_d0 d.away :: L) ∧ Tr Dw B A w A1 w' := by
 unfold portref2_duty_assign at hm
 refine enter func28 rfl ntmps28 rfl ?_
 have hK : Tr Dw B A w A w := Tr.refl (Dw := Dw) hA
 refine Sr (As (As (As (To ?_))))
 refine Sr (Mm ?_)
 obtain ⟨x12, hx12, hm⟩ := Bs hm
 refine Vc call86 (slices_Clone_Lroute_Held_route_Held_c (Dw := Dw) w hA held v_held h_held hx12) ?_
 rintro v13 w15 ⟨_, rfl, h14, hk16⟩
 obtain ⟨A17, ht18, hH19⟩ := Hp.addOwnd (Dw := Dw) hH hB hA hk16 h14
 replace h_waiting := Sl.tr h_waiting ht18; replace h_steps := Sl.tr h_steps ht18; replace h_d0 := Sl.tr h_d0 ht18; replace hK := Tt hK ht18; replace hB := Bx hB ht18; replace hA := ht18.new
 replace hH : Hp _ _ _ (o_32 v13 x12 :: obC b_d [v_d0, v_d1, .map (some m_d0)] 199 :: obPS (obCk 249 portref2_ShiftsIn) 225 v_d1 d.clocks :: obSM (κ := Int) (α := Bool) m_d0 d.away :: L) := hH19
 refine As (To ?_)
 refine Sr ?_
 refine V_makeMapS (Dw := Dw) (B := B) Int Bool hH hB hA rfl ?_
 intro b20 w21 A22 hH23 ht24
 replace h_waiting := Sl.tr h_waiting ht24; replace h_steps := Sl.tr h_steps ht24; replace h_d0 := Sl.tr h_d0 ht24; replace hK := Tt hK ht24; replace hB := Bx hB ht24; replace hA := ht24.new
 replace hH : Hp _ _ _ (obSM (κ := Int) (α := Bool) b20 ([] : List (Int × Bool)) :: o_32 v13 x12 :: obC b_d [v_d0, v_d1, .map (some m_d0)] 199 :: obPS (obCk 249 portref2_ShiftsIn) 225 v_d1 d.clocks :: obSM (κ := Int) (α := Bool) m_d0 d.away :: L) := hH23
 refine As (To ?_)
 refine C_seq (Sr (Mm ?_))
 obtain ⟨x25, hx25, hm⟩ := Bs hm
 refine Vc call87 (portref2_orderOf_c (Dw := Dw) w21 hA waiting v_waiting h_waiting hx25) ?_
 rintro v26 w28 ⟨_, rfl, h27, hk29⟩
 obtain ⟨A30, ht31, hH32⟩ := Hp.addOwnd (Dw := Dw) hH hB hA hk29 h27
 replace h_waiting := Sl.tr h_waiting ht31; replace h_steps := Sl.tr h_steps ht31; replace h_d0 := Sl.tr h_d0 ht31; replace hK := Tt hK ht31; replace hB := Bx hB ht31; replace hA := ht31.new
 replace hH : Hp _ _ _ (o_3 v26 x25 :: obSM (κ := Int) (α := Bool) b20 ([] : List (Int × Bool)) :: o_32 v13 x12 :: obC b_d [v_d0, v_d1, .map (some m_d0)] 199 :: obPS (obCk 249 portref2_ShiftsIn) 225 v_d1 d.clocks :: obSM (κ := Int) (α := Bool) m_d0 d.away :: L) := hH32
 refine Vy (Y_lenSl (Hp.any (α := Int) (e := 3) (v := v26) (l := x25) hH (i := 0) rfl) rfl underlying98 rfl) (Mm (To ?_))
 replace hH : Hp B A30 w28 (o_32 (.slice none 0 0) ([] : (List route_Held)) :: o_3 v26 x25 :: obSM (κ := Int) (α := Bool) b20 ([] : List (Int × Bool)) :: o_32 v13 x12 :: obC b_d [v_d0, v_d1, .map (some m_d0)] 199 :: obPS (obCk 249 portref2_ShiftsIn) 225 v_d1 d.clocks :: obSM (κ := Int) (α := Bool) m_d0 d.away :: L) := Hp.addNil (α := route_Held) (e := 32) hH
 have hn61 := Hp.le (α := Int) (e := 3) (v := v26) (l := x25) hH (i := 1) rfl
 obtain ⟨o33, ho33, hm⟩ := Bs hm
 refine C_cutG (ι := (((List route_Held) × (List route_Held) × (List (Int × Bool))) × Value × Value × (Nat → Prop))) (fun ⟨s34, v40, v42, A44⟩ => [(2, v_waiting), (10, v40), (11, .slice none 0 0), (12, v42), (13, .map (some b20))]) (fun ⟨s34, v40, v42, A44⟩ => fun w' => o33 = .fin s34 ∧ Hp B A44 w' (o_32 v42 s34.2.1 :: o_3 v26 x25 :: obSM (κ := Int) (α := Bool) b20 s34.2.2 :: o_32 v40 s34.1 :: obC b_d [v_d0, v_d1, .map (some m_d0)] 199 :: obPS (obCk 249 portref2_ShiftsIn) 225 v_d1 d.clocks :: obSM (κ := Int) (α := Bool) m_d0 d.away :: L) ∧ Tr Dw B A30 w28 A44 w') ?_ ?_
 ·refine C_block ?_
  refine C_range ho33 (fun k36 s46 a w' => ∃ i : (Value × Value × (Nat → Prop)), Has ⟨144, [], none⟩ a ([(0, Pt b_d), (2, v_waiting), (3, v_steps), (4, Ii m), (10, i.1), (11, .slice none 0 0), (12, i.2.1), (13, .map (some b20)), (30, v26), (31, Ii (x25.length : Int)), (32, Ii (k36 : Int))]) ∧ Hp B i.2.2 w' (o_32 i.2.1 s46.2.1 :: o_3 v26 x25 :: obSM (κ := Int) (α := Bool) b20 s46.2.2 :: o_32 i.1 s46.1 :: obC b_d [v_d0, v_d1, .map (some m_d0)] 199 :: obPS (obCk 249 portref2_ShiftsIn) 225 v_d1 d.clocks :: obSM (κ := Int) (α := Bool) m_d0 d.away :: L) ∧ Tr Dw B A30 w28 i.2.2 w') (fun a ha => ⟨(v13, .slice none 0 0, A30), ha.sb, ⟨hH, Tr.refl (Dw := Dw) hA⟩⟩) ?_
  rintro K k36 s46 a w47 ⟨⟨v48, v50, A52⟩, ha971, hH53, hr35⟩ hle57 K60 h59
  refine C_of ?_ ha971
  replace h_waiting := Sl.tr h_waiting hr35; replace h_steps := Sl.tr h_steps hr35; replace h_d0 := Sl.tr h_d0 hr35; replace hB := Bx hB hr35; replace hA := hr35.new
  replace hH : Hp _ _ _ (o_32 v50 s46.2.1 :: o_3 v26 x25 :: obSM (κ := Int) (α := Bool) b20 s46.2.2 :: o_32 v48 s46.1 :: obC b_d [v_d0, v_d1, .map (some m_d0)] 199 :: obPS (obCk 249 portref2_ShiftsIn) 225 v_d1 d.clocks :: obSM (κ := Int) (α := Bool) m_d0 d.away :: L) := hH53
  refine Sr (Vy (Y_lss rfl rfl) (To ?_))
  refine C_seq ?_
  refine Cc (fun hc62 => ?_) fun hc62 => ?_
  ·have hlt58 := lt_of_dec hc62
   obtain ⟨x54, h55, h56⟩ := K60 hlt58
   refine Sk ?_
   refine C_seq ?_
   obtain ⟨s64, ho63, h55⟩ := Bs h55
   refine C_cutG (ι := (Value × Value × (Nat → Prop))) (fun ⟨v66, v68, A73⟩ => [(0, Pt b_d), (2, v_waiting), (3, v_steps), (4, Ii m), (10, v66), (11, .slice none 0 0), (12, v68), (13, .map (some b20)), (30, v26), (31, Ii (x25.length : Int)), (32, Ii (k36 : Int))]) (fun ⟨v66, v68, A73⟩ => fun w' => Hp B A73 w' (o_32 v68 s64.2.1 :: o_3 v26 x25 :: obSM (κ := Int) (α := Bool) b20 s64.2.2 :: o_32 v66 s64.1 :: obC b_d [v_d0, v_d1, .map (some m_d0)] 199 :: obPS (obCk 249 portref2_ShiftsIn) 225 v_d1 d.clocks :: obSM (κ := Int) (α := Bool) m_d0 d.away :: L) ∧ Tr Dw B A52 w47 A73 w') ?_ ?_
   ·have hr65 : Tr Dw B A52 w47 A52 w47 := Tr.refl (Dw := Dw) hA
    refine C_block (Sr ?_)
    obtain ⟨x75, hx75, ho63⟩ := Bs ho63
    refine V_indexAddrH (α := Int) (e := 3) (v := v26) (l := x25) hH (i := 1) rfl hx75 underlying98 sizeOf3 rfl rfl rfl ?_
    intro b76 o77 h78 hl79
    refine Li h78 isAgg3 (As (To ?_))
    refine Sr (Mm (Mm ?_))
    obtain ⟨x80, hx80, ho63⟩ := Bs ho63
    refine V_indexAddr h_waiting hx80 underlying25 sizeOf43 rfl rfl rfl ?_
    intro b81 o82 h83
    obtain ⟨v84, h86, h85⟩ := El_route_Work h83
    refine Vy (Y_loadA h86 isAgg43 sizeOf43 rfl) ?_
    refine V_alloc zeroValue43 rfl ?_
    intro b87 w88 h89
    have h94 : (v84).oneCell' = true := by obtain ⟨_, _, e, _⟩ := Sl.form h85; rw [e]; rfl
    refine Sn h89 sizeOf43 ?_
    intro w90 h91
    have hk96 := h91.kp (Dw := Dw)
    have h95 : El (α := route_Work) A52 w90 b87 0 x80 := h91.el hA ⟨[Ii x80.ticket], _, rfl, rfl, ⟨[Ii x80.weight], _, rfl, rfl, ⟨[Ii x80.urgency], _, rfl, rfl, ⟨[Ii x80.since], _, rfl, rfl, ⟨[Ii x80.former], _, rfl, rfl, ⟨_, rfl, h85⟩⟩⟩⟩⟩⟩
    have ht97 := Kp.tr hk96 hA hB; replace hH := Hp.kp hH hk96; replace h_steps := Sl.tr h_steps ht97; replace h_d0 := Sl.tr h_d0 ht97; replace hr65 := Tt hr65 ht97; replace hB := Bx hB ht97; replace hA := ht97.new
    refine To ?_
    refine Sr ?_
    obtain ⟨v98, h100, h99⟩ := El_route_Work h95
    refine Vy (Y_loadA h100 isAgg43 sizeOf43 rfl) (Mm (Mm ?_))
    obtain ⟨x101, hx101, ho63⟩ := Bs ho63
    refine Vc call88 (portref2_needsAt_c (Dw := Dw) w90 hA x80 v98 h99 steps v_steps h_steps m hx101) ?_
    rintro v102 w104 ⟨_, rfl, h103, hk105⟩
    have ht106 := Kp.tr hk105 hA hB; replace hH := Hp.kp hH hk105; replace h95 := El.tr h95 ht106; replace h_d0 := Sl.tr h_d0 ht106; replace hr65 := Tt hr65 ht106; replace hB := Bx hB ht106; replace hA := ht106.new
    refine As (To ?_)
    refine Sr (As (To ?_))
    refine C_seq (Sr (Mm (Nc (Vy (Y_fieldAddrC (off2 := 0) underlying199 rfl sizeOf22 (by decide) rfl rfl) (Ld (Hp.cell (j := 0) hH (i := 4) rfl rfl) isAgg22 (Vy (Y_lenSl h_d0 rfl underlying22 rfl) (Mm (To ?_))))))))
    have hn127 := Sl.le h_d0
    obtain ⟨o107, ho107, ho63⟩ := Bs ho63
    refine C_cutG (ι := (Int × (Nat → Prop))) (fun ⟨s108, A114⟩ => [(0, Pt b_d), (2, v_waiting), (3, v_steps), (4, Ii m), (10, v48), (11, .slice none 0 0), (12, v50), (13, .map (some b20)), (15, Ii x75), (16, Pt b87), (18, ptrV v_d0 4 s108), (30, v26), (31, Ii (x25.length : Int)), (32, Ii (k36 : Int))]) (fun ⟨s108, A114⟩ => fun w' => o107 = .fin s108 ∧ Hp B A114 w' (o_32 v50 s46.2.1 :: o_3 v26 x25 :: obSM (κ := Int) (α := Bool) b20 s46.2.2 :: o_32 v48 s46.1 :: obC b_d [v_d0, v_d1, .map (some m_d0)] 199 :: obPS (obCk 249 portref2_ShiftsIn) 225 v_d1 d.clocks :: obSM (κ := Int) (α := Bool) m_d0 d.away :: L) ∧ Tr Dw B A52 w104 A114 w') ?_ ?_
    ·refine C_block ?_
     refine C_range ho107 (fun k110 s116 a w' => ∃ i : (Nat → Prop), Has ⟨144, [], none⟩ a ([(0, Pt b_d), (2, v_waiting), (3, v_steps), (4, Ii m), (10, v48), (11, .slice none 0 0), (12, v50), (13, .map (some b20)), (15, Ii x75), (16, Pt b87), (17, v102), (18, ptrV v_d0 4 s116), (30, v26), (31, Ii (x25.length : Int)), (32, Ii (k36 : Int)), (47, v_d0), (48, Ii (d.people.length : Int)), (49, Ii (k110 : Int))]) ∧ Hp B i w' (o_32 v50 s46.2.1 :: o_3 v26 x25 :: obSM (κ := Int) (α := Bool) b20 s46.2.2 :: o_32 v48 s46.1 :: obC b_d [v_d0, v_d1, .map (some m_d0)] 199 :: obPS (obCk 249 portref2_ShiftsIn) 225 v_d1 d.clocks :: obSM (κ := Int) (α := Bool) m_d0 d.away :: L) ∧ Tr Dw B A52 w104 i w') (fun a ha => ⟨A52, ha.sb, ⟨hH, Tr.refl (Dw := Dw) hA⟩⟩) ?_
     rintro K k110 s116 a w117 ⟨A118, ha229, hH119, hr109⟩ hle123 K126 h125
     refine C_of ?_ ha229
     replace h95 := El.tr h95 hr109; replace h103 := Sl.tr h103 hr109; replace h_d0 := Sl.tr h_d0 hr109; replace hB := Bx hB hr109; replace hA := hr109.new
     replace hH : Hp _ _ _ (o_32 v50 s46.2.1 :: o_3 v26 x25 :: obSM (κ := Int) (α := Bool) b20 s46.2.2 :: o_32 v48 s46.1 :: obC b_d [v_d0, v_d1, .map (some m_d0)] 199 :: obPS (obCk 249 portref2_ShiftsIn) 225 v_d1 d.clocks :: obSM (κ := Int) (α := Bool) m_d0 d.away :: L) := hH119
     refine Sr (Vy (Y_lss rfl rfl) (To ?_))
     refine C_seq ?_
     refine Cc (fun hc128 => ?_) fun hc128 => ?_
     ·have hlt124 := lt_of_dec hc128
      obtain ⟨x120, h121, h122⟩ := K126 hlt124
      refine Sk ?_
      refine C_seq ?_
      obtain ⟨s130, ho129, h121⟩ := Bs h121
      refine C_cutG (ι := (Nat → Prop)) (fun (A135 : (Nat → Prop)) => [(0, Pt b_d), (2, v_waiting), (3, v_steps), (4, Ii m), (10, v48), (11, .slice none 0 0), (12, v50), (13, .map (some b20)), (15, Ii x75), (16, Pt b87), (17, v102), (18, ptrV v_d0 4 s130), (30, v26), (31, Ii (x25.length : Int)), (32, Ii (k36 : Int)), (47, v_d0), (48, Ii (d.people.length : Int)), (49, Ii (k110 : Int))]) (fun (A135 : (Nat → Prop)) => fun w' => Hp B A135 w' (o_32 v50 s46.2.1 :: o_3 v26 x25 :: obSM (κ := Int) (α := Bool) b20 s46.2.2 :: o_32 v48 s46.1 :: obC b_d [v_d0, v_d1, .map (some m_d0)] 199 :: obPS (obCk 249 portref2_ShiftsIn) 225 v_d1 d.clocks :: obSM (κ := Int) (α := Bool) m_d0 d.away :: L) ∧ Tr Dw B A118 w117 A135 w') ?_ ?_
      ·have hr131 : Tr Dw B A118 w117 A118 w117 := Tr.refl (Dw := Dw) hA
       refine C_block (Sr (Mm ?_))
       obtain ⟨x137, hx137, ho129⟩ := Bs ho129
       refine V_indexAddr h_d0 hx137 underlying22 sizeOf124 rfl rfl rfl ?_
       intro b138 o139 h140
       obtain ⟨v141, h143, h142⟩ := El_route_Person h140
       refine Vy (Y_loadA h143 isAgg124 sizeOf124 rfl) ?_
       refine V_alloc zeroValue124 rfl ?_
       intro b144 w145 h146
       refine As ?_
       have h151 : (v141).oneCell' = true := by obtain ⟨_, _, e, _⟩ := Sl.form h142; rw [e]; rfl
       refine Sn h146 sizeOf124 ?_
       intro w147 h148
       have hk153 := h148.kp (Dw := Dw)
       have h152 : El (α := route_Person) A118 w147 b144 0 x137 := h148.el hA ⟨[Ii x137.no], _, rfl, rfl, ⟨[Ii x137.capacity], _, rfl, rfl, ⟨[Ii x137.calendar], _, rfl, rfl, ⟨_, rfl, h142⟩⟩⟩⟩
       have ht154 := Kp.tr hk153 hA hB; replace hH := Hp.kp hH hk153; replace h95 := El.tr h95 ht154; replace h103 := Sl.tr h103 ht154; replace h_d0 := Sl.tr h_d0 ht154; replace hr131 := Tt hr131 ht154; replace hB := Bx hB ht154; replace hA := ht154.new
       refine To ?_
       refine Sr (Mm ?_)
       have h155 := El_route_Person_0 h152
       refine Fa underlying124 rfl sizeOf3 (Li h155 isAgg3 ?_)
       obtain ⟨x156, hx156, ho129⟩ := Bs ho129
       refine Vc call89 (portref2_weightOf_c (Dw := Dw) w147 (A := fun _ => True) (fun _ _ => trivial) s46.1 v48 (Hp.any (α := route_Held) (e := 32) (v := v48) (l := s46.1) hH (i := 3) rfl) x137.no hx156) ?_
       rintro _ w157 ⟨rfl, hk158⟩
       have ht159 := Kp.tr hk158 hA hB; replace hH := Hp.kp hH hk158; replace h95 := El.tr h95 ht159; replace h103 := Sl.tr h103 ht159; replace h_d0 := Sl.tr h_d0 ht159; replace h152 := El.tr h152 ht159; replace hr131 := Tt hr131 ht159; replace hB := Bx hB ht159; replace hA := ht159.new
       refine Mm (Vy (Y_extract rfl rfl) (Vy (Y_extract rfl rfl) (As (As (To ?_)))))
       refine C_seq (C_seq ?_)
       obtain ⟨s161, ho160, ho129⟩ := Bs ho129
       refine C_cutG (ι := (Nat → Prop)) (fun (A166 : (Nat → Prop)) => [(0, Pt b_d), (2, v_waiting), (3, v_steps), (4, Ii m), (10, v48), (11, .slice none 0 0), (12, v50), (13, .map (some b20)), (15, Ii x75), (16, Pt b87), (17, v102), (18, ptrV v_d0 4 s116), (19, Ii (k110 : Int)), (20, Pt b144), (30, v26), (31, Ii (x25.length : Int)), (32, Ii (k36 : Int)), (47, v_d0), (48, Ii (d.people.length : Int)), (49, Ii (k110 : Int)), (80, .bool s161)]) (fun (A166 : (Nat → Prop)) => fun w' => Hp B A166 w' (o_32 v50 s46.2.1 :: o_3 v26 x25 :: obSM (κ := Int) (α := Bool) b20 s46.2.2 :: o_32 v48 s46.1 :: obC b_d [v_d0, v_d1, .map (some m_d0)] 199 :: obPS (obCk 249 portref2_ShiftsIn) 225 v_d1 d.clocks :: obSM (κ := Int) (α := Bool) m_d0 d.away :: L) ∧ Tr Dw B A118 w157 A166 w') ?_ ?_
       ·have hr162 : Tr Dw B A118 w157 A118 w157 := Tr.refl (Dw := Dw) hA
        refine C_region ?_
        obtain ⟨v168, h170, h169⟩ := El_route_Person h152
        refine Vy (Y_loadA h170 isAgg124 sizeOf124 rfl) (Mm ?_)
        obtain ⟨x171, hx171, ho160⟩ := Bs ho160
        refine Vc call90 (portref2_able_c (Dw := Dw) w157 hA x137 v168 h169 x101 v102 h103 hx171) ?_
        rintro _ w172 ⟨rfl, hk173⟩
        have ht174 := Kp.tr hk173 hA hB; replace hH := Hp.kp hH hk173; replace h95 := El.tr h95 ht174; replace h_d0 := Sl.tr h_d0 ht174; replace h152 := El.tr h152 ht174; replace hr162 := Tt hr162 ht174; replace hB := Bx hB ht174; replace hA := ht174.new
        refine Vy (Y_not rfl) (Mm ?_)
        rcases Be (!x171) with hc175 | hc175
        ·rw [if_pos hc175] at ho160
         refine Gm hc175 (Gm hc175 (Gm hc175 (Gm hc175 (Gm hc175 (Vy (Y_pick_te rfl hc175 rfl) (Mm ?_))))))
         rcases Be (true) with hc176 | hc176
         ·rw [if_pos hc176] at ho160
          refine Gm hc176 (Gm hc176 (Gm hc176 (Gm hc176 (Gm hc176 (Gm hc176 (Gm hc176 (Vy (Y_pick_te rfl hc176 rfl) ?_)))))))
          obtain rfl := Oi ho160
          refine V_end (fun a ha177 => ?_)
          exact ⟨A118, ha177.sb, ⟨hH, hr162⟩⟩
         rw [if_neg (nt hc176)] at ho160
         refine Gf hc176 ?_
         have h178 := El_route_Person_1 h152
         refine Fa underlying124 rfl sizeOf3 (Gf hc176 (Li h178 isAgg3 (Gf hc176 (Mm (Gf hc176 (Vy (Y_subI rfl rfl) (Gf hc176 ?_)))))))
         have h179 := El_route_Work_1 h95
         refine Fa underlying43 rfl sizeOf3 (Gf hc176 (Li h179 isAgg3 (Gf hc176 (Vy (Y_lss rfl rfl) (Vy (Y_pick_fe rfl hc176 rfl) ?_)))))
         obtain rfl := Oi ho160
         refine V_end (fun a ha180 => ?_)
         exact ⟨A118, ha180.sb, ⟨hH, hr162⟩⟩
        rw [if_neg (nt hc175)] at ho160
        refine Gf hc175 (Mm (Gf hc175 ?_))
        obtain ⟨v181, h183, h182⟩ := El_route_Person h152
        refine Vy (Y_loadA h183 isAgg124 sizeOf124 rfl) (Gf hc175 (Mm (Gf hc175 ?_)))
        replace hH : Hp B A118 w172 (obSM (κ := Int) (α := Bool) m_d0 d.away :: o_32 v50 s46.2.1 :: o_3 v26 x25 :: obSM (κ := Int) (α := Bool) b20 s46.2.2 :: o_32 v48 s46.1 :: obC b_d [v_d0, v_d1, .map (some m_d0)] 199 :: obPS (obCk 249 portref2_ShiftsIn) 225 v_d1 d.clocks :: L) := Hp.front hH (i := 6) rfl
        replace hH : Hp B A118 w172 (obPS (obCk 249 portref2_ShiftsIn) 225 v_d1 d.clocks :: obSM (κ := Int) (α := Bool) m_d0 d.away :: o_32 v50 s46.2.1 :: o_3 v26 x25 :: obSM (κ := Int) (α := Bool) b20 s46.2.2 :: o_32 v48 s46.1 :: obC b_d [v_d0, v_d1, .map (some m_d0)] 199 :: L) := Hp.front hH (i := 6) rfl
        replace hH : Hp B A118 w172 (obC b_d [v_d0, v_d1, .map (some m_d0)] 199 :: obPS (obCk 249 portref2_ShiftsIn) 225 v_d1 d.clocks :: obSM (κ := Int) (α := Bool) m_d0 d.away :: o_32 v50 s46.2.1 :: o_3 v26 x25 :: obSM (κ := Int) (α := Bool) b20 s46.2.2 :: o_32 v48 s46.1 :: L) := Hp.front hH (i := 6) rfl
        obtain ⟨x184, hx184, ho160⟩ := Bs ho160
        refine Vc call91 (portref2_duty_on_c (Dw := Dw) w172 hB hA d b_d v_d0 h_d0 v_d1 m_d0 x137 v181 h182 m hH hx184) ?_
        rintro _ w185 ⟨A186, rfl, hH187, ht188⟩
        replace h95 := El.tr h95 ht188; replace h152 := El.tr h152 ht188; replace hr162 := Tt hr162 ht188
        replace hH : Hp _ _ _ (obC b_d [v_d0, v_d1, .map (some m_d0)] 199 :: obPS (obCk 249 portref2_ShiftsIn) 225 v_d1 d.clocks :: obSM (κ := Int) (α := Bool) m_d0 d.away :: o_32 v50 s46.2.1 :: o_3 v26 x25 :: obSM (κ := Int) (α := Bool) b20 s46.2.2 :: o_32 v48 s46.1 :: L) := hH187
        refine Gf hc175 (Vy (Y_not rfl) (Vy (Y_pick_fe rfl hc175 rfl) (Mm ?_)))
        rcases Be (!x184) with hc189 | hc189
        ·rw [if_pos hc189] at ho160
         refine Gm hc189 (Gm hc189 (Gm hc189 (Gm hc189 (Gm hc189 (Gm hc189 (Gm hc189 (Vy (Y_pick_te rfl hc189 rfl) ?_)))))))
         obtain rfl := Oi ho160
         refine V_end (fun a ha190 => ?_)
         replace hH : Hp B A186 w185 (obSM (κ := Int) (α := Bool) m_d0 d.away :: obC b_d [v_d0, v_d1, .map (some m_d0)] 199 :: obPS (obCk 249 portref2_ShiftsIn) 225 v_d1 d.clocks :: o_32 v50 s46.2.1 :: o_3 v26 x25 :: obSM (κ := Int) (α := Bool) b20 s46.2.2 :: o_32 v48 s46.1 :: L) := Hp.front hH (i := 2) rfl
         replace hH : Hp B A186 w185 (obPS (obCk 249 portref2_ShiftsIn) 225 v_d1 d.clocks :: obSM (κ := Int) (α := Bool) m_d0 d.away :: obC b_d [v_d0, v_d1, .map (some m_d0)] 199 :: o_32 v50 s46.2.1 :: o_3 v26 x25 :: obSM (κ := Int) (α := Bool) b20 s46.2.2 :: o_32 v48 s46.1 :: L) := Hp.front hH (i := 2) rfl
         replace hH : Hp B A186 w185 (obC b_d [v_d0, v_d1, .map (some m_d0)] 199 :: obPS (obCk 249 portref2_ShiftsIn) 225 v_d1 d.clocks :: obSM (κ := Int) (α := Bool) m_d0 d.away :: o_32 v50 s46.2.1 :: o_3 v26 x25 :: obSM (κ := Int) (α := Bool) b20 s46.2.2 :: o_32 v48 s46.1 :: L) := Hp.front hH (i := 2) rfl
         replace hH : Hp B A186 w185 (o_32 v48 s46.1 :: obC b_d [v_d0, v_d1, .map (some m_d0)] 199 :: obPS (obCk 249 portref2_ShiftsIn) 225 v_d1 d.clocks :: obSM (κ := Int) (α := Bool) m_d0 d.away :: o_32 v50 s46.2.1 :: o_3 v26 x25 :: obSM (κ := Int) (α := Bool) b20 s46.2.2 :: L) := Hp.front hH (i := 6) rfl
         replace hH : Hp B A186 w185 (obSM (κ := Int) (α := Bool) b20 s46.2.2 :: o_32 v48 s46.1 :: obC b_d [v_d0, v_d1, .map (some m_d0)] 199 :: obPS (obCk 249 portref2_ShiftsIn) 225 v_d1 d.clocks :: obSM (κ := Int) (α := Bool) m_d0 d.away :: o_32 v50 s46.2.1 :: o_3 v26 x25 :: L) := Hp.front hH (i := 6) rfl
         replace hH : Hp B A186 w185 (o_3 v26 x25 :: obSM (κ := Int) (α := Bool) b20 s46.2.2 :: o_32 v48 s46.1 :: obC b_d [v_d0, v_d1, .map (some m_d0)] 199 :: obPS (obCk 249 portref2_ShiftsIn) 225 v_d1 d.clocks :: obSM (κ := Int) (α := Bool) m_d0 d.away :: o_32 v50 s46.2.1 :: L) := Hp.front hH (i := 6) rfl
         replace hH : Hp B A186 w185 (o_32 v50 s46.2.1 :: o_3 v26 x25 :: obSM (κ := Int) (α := Bool) b20 s46.2.2 :: o_32 v48 s46.1 :: obC b_d [v_d0, v_d1, .map (some m_d0)] 199 :: obPS (obCk 249 portref2_ShiftsIn) 225 v_d1 d.clocks :: obSM (κ := Int) (α := Bool) m_d0 d.away :: L) := Hp.front hH (i := 6) rfl
         exact ⟨A186, ha190.sb, ⟨hH, hr162⟩⟩
        rw [if_neg (nt hc189)] at ho160
        refine Gf hc189 ?_
        have h191 := El_route_Person_1 h152
        refine Fa underlying124 rfl sizeOf3 (Gf hc189 (Li h191 isAgg3 (Gf hc189 (Mm (Gf hc189 (Vy (Y_subI rfl rfl) (Gf hc189 ?_)))))))
        have h192 := El_route_Work_1 h95
        refine Fa underlying43 rfl sizeOf3 (Gf hc189 (Li h192 isAgg3 (Gf hc189 (Vy (Y_lss rfl rfl) (Vy (Y_pick_fe rfl hc189 rfl) ?_)))))
        obtain rfl := Oi ho160
        refine V_end (fun a ha193 => ?_)
        replace hH : Hp B A186 w185 (obSM (κ := Int) (α := Bool) m_d0 d.away :: obC b_d [v_d0, v_d1, .map (some m_d0)] 199 :: obPS (obCk 249 portref2_ShiftsIn) 225 v_d1 d.clocks :: o_32 v50 s46.2.1 :: o_3 v26 x25 :: obSM (κ := Int) (α := Bool) b20 s46.2.2 :: o_32 v48 s46.1 :: L) := Hp.front hH (i := 2) rfl
        replace hH : Hp B A186 w185 (obPS (obCk 249 portref2_ShiftsIn) 225 v_d1 d.clocks :: obSM (κ := Int) (α := Bool) m_d0 d.away :: obC b_d [v_d0, v_d1, .map (some m_d0)] 199 :: o_32 v50 s46.2.1 :: o_3 v26 x25 :: obSM (κ := Int) (α := Bool) b20 s46.2.2 :: o_32 v48 s46.1 :: L) := Hp.front hH (i := 2) rfl
        replace hH : Hp B A186 w185 (obC b_d [v_d0, v_d1, .map (some m_d0)] 199 :: obPS (obCk 249 portref2_ShiftsIn) 225 v_d1 d.clocks :: obSM (κ := Int) (α := Bool) m_d0 d.away :: o_32 v50 s46.2.1 :: o_3 v26 x25 :: obSM (κ := Int) (α := Bool) b20 s46.2.2 :: o_32 v48 s46.1 :: L) := Hp.front hH (i := 2) rfl
        replace hH : Hp B A186 w185 (o_32 v48 s46.1 :: obC b_d [v_d0, v_d1, .map (some m_d0)] 199 :: obPS (obCk 249 portref2_ShiftsIn) 225 v_d1 d.clocks :: obSM (κ := Int) (α := Bool) m_d0 d.away :: o_32 v50 s46.2.1 :: o_3 v26 x25 :: obSM (κ := Int) (α := Bool) b20 s46.2.2 :: L) := Hp.front hH (i := 6) rfl
        replace hH : Hp B A186 w185 (obSM (κ := Int) (α := Bool) b20 s46.2.2 :: o_32 v48 s46.1 :: obC b_d [v_d0, v_d1, .map (some m_d0)] 199 :: obPS (obCk 249 portref2_ShiftsIn) 225 v_d1 d.clocks :: obSM (κ := Int) (α := Bool) m_d0 d.away :: o_32 v50 s46.2.1 :: o_3 v26 x25 :: L) := Hp.front hH (i := 6) rfl
        replace hH : Hp B A186 w185 (o_3 v26 x25 :: obSM (κ := Int) (α := Bool) b20 s46.2.2 :: o_32 v48 s46.1 :: obC b_d [v_d0, v_d1, .map (some m_d0)] 199 :: obPS (obCk 249 portref2_ShiftsIn) 225 v_d1 d.clocks :: obSM (κ := Int) (α := Bool) m_d0 d.away :: o_32 v50 s46.2.1 :: L) := Hp.front hH (i := 6) rfl
        replace hH : Hp B A186 w185 (o_32 v50 s46.2.1 :: o_3 v26 x25 :: obSM (κ := Int) (α := Bool) b20 s46.2.2 :: o_32 v48 s46.1 :: obC b_d [v_d0, v_d1, .map (some m_d0)] 199 :: obPS (obCk 249 portref2_ShiftsIn) 225 v_d1 d.clocks :: obSM (κ := Int) (α := Bool) m_d0 d.away :: L) := Hp.front hH (i := 6) rfl
        exact ⟨A186, ha193.sb, ⟨hH, hr162⟩⟩
       rintro A166 w163 ⟨hH167, hk164⟩ a ha165
       replace h95 := El.tr h95 hk164; replace h_d0 := Sl.tr h_d0 hk164; replace h152 := El.tr h152 hk164; replace hr131 := Tr.trans hr131 hk164; replace hB := Nat.le_trans hB hk164.ex.size; replace hA := hk164.new
       replace hH : Hp _ _ _ (o_32 v50 s46.2.1 :: o_3 v26 x25 :: obSM (κ := Int) (α := Bool) b20 s46.2.2 :: o_32 v48 s46.1 :: obC b_d [v_d0, v_d1, .map (some m_d0)] 199 :: obPS (obCk 249 portref2_ShiftsIn) 225 v_d1 d.clocks :: obSM (κ := Int) (α := Bool) m_d0 d.away :: L) := hH167
       refine C_at (n := ⟨144, [], none⟩) (fun _ _ => rfl) ?_ ha165
       refine Cc (fun hc194 => ?_) fun hc194 => ?_
       ·rw [if_pos hc194] at ho129
        obtain rfl := Oi ho129
        refine C_exit (fun a ha195 => ?_)
        exact ⟨A166, ha195.sb, ⟨hH, hr131⟩⟩
       rw [if_neg (nt hc194)] at ho129
       refine Sk ?_
       refine C_seq ?_
       refine C_region_q (Dw := Dw) Tryz_mixed (by kernel_rfl) ?_
       refine Qm ?_
       obtain ⟨x196, hx196, ho129⟩ := Bs ho129
       refine Qv (fun w' hw' => Y_eqlIP (Sl.kp h_d0 hw') rfl hx196 underlying201 rfl rfl) (Qm ?_)
       obtain ⟨s198, hs198, ho129⟩ := Bs ho129
       refine VQ_cut 9 (fun _ : Unit => [(0, Pt b_d), (2, v_waiting), (3, v_steps), (4, Ii m), (10, v48), (11, .slice none 0 0), (12, v50), (13, .map (some b20)), (15, Ii x75), (16, Pt b87), (17, v102), (18, ptrV v_d0 4 s116), (19, Ii (k110 : Int)), (30, v26), (31, Ii (x25.length : Int)), (32, Ii (k36 : Int)), (47, v_d0), (48, Ii (d.people.length : Int)), (49, Ii (k110 : Int)), (92, .bool s198)]) (fun _ => True) ?_ ?_
       ·simp only [List.take, List.drop]
        rcases Be (x196) with hc197 | hc197
        ·rw [if_pos hc197] at hs198
         refine Qg hc197 (Qg hc197 (Qg hc197 (Qg hc197 (Qg hc197 (Qg hc197 (Qg hc197 (Qg hc197 ?_)))))))
         refine VQ_y (fun _ _ => Y_pick_te rfl hc197 rfl) rfl rfl rfl ?_
         obtain rfl := Oi hs198
         exact VQ_end fun a ha => ⟨(), ha.sb, trivial⟩
        rw [if_neg (nt hc197)] at hs198
        refine Qh hc197 (Qm (Qh hc197 ?_))
        obtain ⟨v199, h201, h200⟩ := El_route_Person h152
        refine Qv (fun w' hw' => Y_loadA (At.kp h201 hw' h152.2.1) isAgg124 sizeOf124 rfl) (Qh hc197 (Qm (Qh hc197 ?_)))
        obtain ⟨x202, hx202, hs198⟩ := Bs hs198
        obtain ⟨b203, o204, h205, h206⟩ := ptr_at h_d0 hx202
        refine Qv (fun w' hw' => Y_nilCheck (congrArg some h205)) (Qh hc197 ?_)
        obtain ⟨v207, h209, h208⟩ := El_route_Person h206
        refine Qv (fun w' hw' => Y_loadA (At.kp h209 hw' h206.2.1) isAgg124 sizeOf124 rfl) (Qh hc197 ?_)
        obtain ⟨v210, h212, h211⟩ := El_route_Work h95
        refine Qv (fun w' hw' => Y_loadA (At.kp h212 hw' h95.2.1) isAgg43 sizeOf43 rfl) (Qh hc197 (Qm (Qh hc197 ?_)))
        obtain ⟨x213, hx213, hs198⟩ := Bs hs198
        refine VQ_call (.bool x213) call92 rfl rfl rfl rfl (fun w' hw' => (portref2_duty_ahead_c (Dw := Dw) w' (A := fun _ => True) (fun _ _ => trivial) (Pt b_d) x137 v199 (Sl.kp (Dw := Dw) (Sl.any h200) hw') x202 v207 (Sl.kp (Dw := Dw) (Sl.any h208) hw') x80 v210 (Sl.kp (Dw := Dw) (Sl.any h211) hw') s46.1 v48 (Sl.kp (Dw := Dw) (Hp.any (α := route_Held) (e := 32) (v := v48) (l := s46.1) hH (i := 3) rfl) hw') hx213).mono (fun _ _ h => ⟨h.1, Kp.trans (Dw := Dw) hw' h.2⟩)) ?_
        refine VQ_y (fun _ _ => Y_pick_fe rfl hc197 rfl) rfl rfl rfl ?_
        obtain rfl := Oi hs198
        exact VQ_end fun a ha => ⟨(), ha.sb, trivial⟩
       simp only [List.take, List.drop]
       rintro _ _
       refine VQ_to (fun _ _ => rfl) (fun w214 hk215 => ?_)
       have ht216 := Kp.tr hk215 hA hB; replace hH := Hp.kp hH hk215; replace h_d0 := Sl.tr h_d0 ht216; replace hr131 := Tt hr131 ht216
       obtain ⟨s218, ho217, ho129⟩ := Bs ho129
       refine C_cutG (ι := Unit) (fun (_ : Unit) => [(0, Pt b_d), (2, v_waiting), (3, v_steps), (4, Ii m), (10, v48), (11, .slice none 0 0), (12, v50), (13, .map (some b20)), (15, Ii x75), (16, Pt b87), (17, v102), (18, ptrV v_d0 4 s218), (30, v26), (31, Ii (x25.length : Int)), (32, Ii (k36 : Int)), (47, v_d0), (48, Ii (d.people.length : Int)), (49, Ii (k110 : Int))]) (fun (_ : Unit) => fun w' => w214 = w') ?_ ?_
       ·refine Cc (fun hc223 => ?_) fun hc223 => ?_
        ·rw [if_pos hc223] at ho217
         refine C_region (Mm (Nc (Vy (Y_fieldAddrC (off2 := 0) underlying199 rfl sizeOf22 (by decide) rfl rfl) (Ld (Hp.cell (j := 0) hH (i := 4) rfl rfl) isAgg22 (Mm (Vy (Y_indexIP h_d0 hx137 underlying22 sizeOf124 rfl rfl) (As ?_)))))))
         obtain rfl := Oi ho217
         refine V_end (fun a ha224 => ?_)
         exact ⟨(), ha224.sb, rfl⟩
        rw [if_neg (nt hc223)] at ho217
        obtain rfl := Oi ho217
        refine C_skip (fun a ha225 => ?_)
        exact ⟨(), ha225.sb, rfl⟩
       rintro _ _ rfl a ha222
       obtain rfl := Oi ho129
       exact ⟨A166, ha222.sb, ⟨hH, hr131⟩⟩
      rintro A135 w132 ⟨hH136, hk133⟩ a ha134
      replace hr109 := Tr.trans hr109 hk133; replace hA := hk133.new
      replace hH : Hp _ _ _ (o_32 v50 s46.2.1 :: o_3 v26 x25 :: obSM (κ := Int) (α := Bool) b20 s46.2.2 :: o_32 v48 s46.1 :: obC b_d [v_d0, v_d1, .map (some m_d0)] 199 :: obPS (obCk 249 portref2_ShiftsIn) 225 v_d1 d.clocks :: obSM (κ := Int) (α := Bool) m_d0 d.away :: L) := hH136
      refine C_at (n := ⟨144, [], none⟩) (fun _ _ => rfl) ?_ ha134
      refine C_region (Vy (Y_addI rfl rfl) (Mm ?_))
      obtain rfl := Oi h121
      refine V_end (fun a ha227 => ?_)
      exact ⟨s130, hlt124, h122, ⟨A135, ha227.sub ⟨rfl, rfl, rfl, rfl, rfl, rfl, rfl, rfl, rfl, rfl, rfl, rfl, rfl, rfl, rfl, rfl, rfl, Ws hlt124 hn127, trivial⟩, ⟨hH, hr109⟩⟩⟩
     refine C_exit (fun a ha228 => ?_)
     exact ⟨(s116, A118), ha228.sb, ⟨(h125 (eq_of_dec hle123 hc128)).symm, hH, hr109⟩⟩
    rintro ⟨s108, A114⟩ w111 ⟨rfl, hH115, hk112⟩ a ha113
    rw [Lp.andThen_fin] at ho63
    replace h95 := El.tr h95 hk112; replace h_d0 := Sl.tr h_d0 hk112; replace hr65 := Tr.trans hr65 hk112; replace hB := Nat.le_trans hB hk112.ex.size; replace hA := hk112.new
    replace hH : Hp _ _ _ (o_32 v50 s46.2.1 :: o_3 v26 x25 :: obSM (κ := Int) (α := Bool) b20 s46.2.2 :: o_32 v48 s46.1 :: obC b_d [v_d0, v_d1, .map (some m_d0)] 199 :: obPS (obCk 249 portref2_ShiftsIn) 225 v_d1 d.clocks :: obSM (κ := Int) (α := Bool) m_d0 d.away :: L) := hH115
    refine C_at (n := ⟨144, [], none⟩) (fun _ _ => rfl) ?_ ha113
    refine Sr (Mm ?_)
    obtain ⟨x230, hx230, ho63⟩ := Bs ho63
    refine Vy (Y_neqIP h_d0 rfl hx230 underlying201 rfl rfl) (To ?_)
    obtain ⟨s232, ho231, ho63⟩ := Bs ho63
    refine C_cutG (ι := (Value × Value × (Nat → Prop))) (fun ⟨v234, v236, A241⟩ => [(0, Pt b_d), (2, v_waiting), (3, v_steps), (4, Ii m), (10, v234), (11, .slice none 0 0), (12, v236), (13, .map (some b20)), (30, v26), (31, Ii (x25.length : Int)), (32, Ii (k36 : Int))]) (fun ⟨v234, v236, A241⟩ => fun w' => Hp B A241 w' (o_32 v236 s232.2.1 :: o_3 v26 x25 :: obSM (κ := Int) (α := Bool) b20 s232.2.2 :: o_32 v234 s232.1 :: obC b_d [v_d0, v_d1, .map (some m_d0)] 199 :: obPS (obCk 249 portref2_ShiftsIn) 225 v_d1 d.clocks :: obSM (κ := Int) (α := Bool) m_d0 d.away :: L) ∧ Tr Dw B A114 w111 A241 w') ?_ ?_
    ·have hr233 : Tr Dw B A114 w111 A114 w111 := Tr.refl (Dw := Dw) hA
     refine Cc (fun hc243 => ?_) fun hc243 => ?_
     ·rw [if_pos hc243] at ho231
      refine C_seq ?_
      refine C_region_def (Dw := Dw) (B := B) (k := 10) [(23, 32, .agg #[Ii 0, Ii 0, Ii 0, Ii 0])] [(111, 9)] Tryz_mixed (by kernel_rfl) rfl ⟨⟨_, _, _, rfl, by simp⟩, zeroValue32, trivial⟩ ⟨⟨_, _, _, rfl, by decide, by decide⟩, by decide, rfl, sizeOf32, trivial⟩ rfl rfl (by decide) hH hB hA ?_
      simp only [List.take]
      have h250 := El_route_Work_0 h95
      refine Qf underlying43 rfl sizeOf3 (Qi h250 isAgg3 (Qm ?_))
      obtain ⟨x251, hx251, ho231⟩ := Bs ho231
      obtain ⟨b252, o253, h254, h255⟩ := ptr_at h_d0 hx251
      refine Qv (fun w' hw' => Y_nilCheck (congrArg some h254)) ?_
      have h256 := El_route_Person_0 h255
      refine Qf underlying124 rfl sizeOf3 (Qi h256 isAgg3 ?_)
      have h257 := El_route_Work_1 h95
      refine Qf underlying43 rfl sizeOf3 (Qi h257 isAgg3 (Qm ?_))
      refine Qv (fun w' hw' => Y_build underlying32 zeroValue32 (Tryz_places32 _ underlying32) rfl (by with_unfolding_all rfl)) ?_
      refine VQ_end fun a ha => ⟨_, [.agg #[Ii x80.ticket, Ii x251.no, Ii x80.weight, Ii m]], ha, rfl, rfl, ⟨rfl, (by exact (List.forall_mem_cons.2 ⟨rfl, (List.forall_mem_cons.2 ⟨rfl, (List.forall_mem_cons.2 ⟨rfl, (List.forall_mem_cons.2 ⟨rfl, (fun _ h => nomatch h)⟩)⟩)⟩)⟩)), trivial⟩, fun b244 w245 A246 hH247 ht248 a ha249 => ?_⟩
      replace hr233 := Tt hr233 ht248; replace hB := Bx hB ht248; replace hA := ht248.new
      replace hH : Hp _ _ _ (obC (b244 0) [Ii x80.ticket, Ii x251.no, Ii x80.weight, Ii m] 32 :: o_32 v50 s46.2.1 :: o_3 v26 x25 :: obSM (κ := Int) (α := Bool) b20 s46.2.2 :: o_32 v48 s46.1 :: obC b_d [v_d0, v_d1, .map (some m_d0)] 199 :: obPS (obCk 249 portref2_ShiftsIn) 225 v_d1 d.clocks :: obSM (κ := Int) (α := Bool) m_d0 d.away :: L) := hH247
      obtain ⟨A258, ht259, h260, hH261⟩ := Hp.freezeC (Dw := Dw) (α := route_Held) (x := (⟨x80.ticket, x251.no, x80.weight, m⟩ : route_Held)) hH (i := 0) rfl hA (by exact ⟨[Ii x80.ticket], _, rfl, rfl, ⟨[Ii x251.no], _, rfl, rfl, ⟨[Ii x80.weight], _, rfl, rfl, rfl⟩⟩⟩)
      replace hr233 := Tt hr233 ht259; replace hB := Bx hB ht259; replace hA := ht259.new
      replace hH : Hp _ _ _ (o_32 v50 s46.2.1 :: o_3 v26 x25 :: obSM (κ := Int) (α := Bool) b20 s46.2.2 :: o_32 v48 s46.1 :: obC b_d [v_d0, v_d1, .map (some m_d0)] 199 :: obPS (obCk 249 portref2_ShiftsIn) 225 v_d1 d.clocks :: obSM (κ := Int) (α := Bool) m_d0 d.away :: L) := hH261
      refine C_at (n := ⟨144, [], none⟩) (fun _ _ => rfl) ?_ ha249
      refine C_seq ?_
      obtain ⟨x662, hx662, ho231⟩ := Bs ho231
      obtain ⟨x782, hx782, ho231⟩ := Bs ho231
      refine C_cutG (ι := (Value × Value × (Nat → Prop))) (fun ⟨v783, v663, A961⟩ => [(0, Pt b_d), (2, v_waiting), (3, v_steps), (4, Ii m), (10, v663), (11, .slice none 0 0), (12, v783), (13, .map (some b20)), (15, Ii x75), (30, v26), (31, Ii (x25.length : Int)), (32, Ii (k36 : Int))]) (fun ⟨v783, v663, A961⟩ => fun w' => Hp B A961 w' (o_32 v783 x782 :: o_3 v26 x25 :: obSM (κ := Int) (α := Bool) b20 s46.2.2 :: o_32 v663 x662 :: obC b_d [v_d0, v_d1, .map (some m_d0)] 199 :: obPS (obCk 249 portref2_ShiftsIn) 225 v_d1 d.clocks :: obSM (κ := Int) (α := Bool) m_d0 d.away :: L) ∧ Tr Dw B A258 w245 A961 w') ?_ ?_
      ·have hT961 : Tr Dw B A258 w245 A258 w245 := Tr.refl (Dw := Dw) hA
       refine C_region_chy (Dw := Dw) A258 6 [5] [(1, 0), (1, 1), (1, 4), (1, 5), (2, 2), (3, 3)] [(4, 7), (1, 8), (1, 9)] Tryz_mixed (by kernel_rfl) (fun w302 hk303 => ?_)
       have ht304 := Kp.tr hk303 hA hB; replace hH := Hp.kp hH hk303; replace h260 := El.tr h260 ht304; replace hT961 := Tt hT961 ht304; replace hB := Bx hB ht304; replace hA := ht304.new
       refine CHZ_q2 rfl (Qm (VQ_CHZ (CHZ_q2 rfl ?_)))
       obtain ⟨h422, _⟩ := El_route_Held h260
       refine Qv (fun w' hw' => Y_loadA (At.same h422 (hw'.2 _ h260.2.1 h260.1)) isAgg32 sizeOf32 rfl) (VQ_CHZ (CHZ_q2 rfl (Qm (VQ_CHZ (CHZ_q2 rfl ?_)))))
       obtain ⟨h542, _⟩ := El_route_Held h260
       refine Qv (fun w' hw' => Y_loadA (At.same h542 (hw'.2 _ h260.2.1 h260.1)) isAgg32 sizeOf32 rfl) (VQ_CHZ ?_)
       refine CHZ_l1 (k := 0) [(2, 6), (2, 2), (3, 3), (4, 7), (1, 8), (1, 9)] rfl ?_ rfl ?_
       ·refine CH_l1 (k := 0) rfl ?_
        refine V_buildSlice (Dw := Dw) (cells := #[Ii x80.ticket, Ii x251.no, Ii x80.weight, Ii m]) (l := ([(⟨x80.ticket, x251.no, x80.weight, m⟩ : route_Held)] : List route_Held)) (len := 1) underlying24 sizeOf32 zeroValue32 rfl (by generalize ((⟨x80.ticket, x251.no, x80.weight, m⟩ : route_Held).ticket : Int) = z726; generalize ((⟨x80.ticket, x251.no, x80.weight, m⟩ : route_Held).person : Int) = z727; generalize ((⟨x80.ticket, x251.no, x80.weight, m⟩ : route_Held).weight : Int) = z728; generalize ((⟨x80.ticket, x251.no, x80.weight, m⟩ : route_Held).since : Int) = z729; kernel_rfl) (show (1 * 4 : Nat) ≠ 0 by decide) (show (1 * 4 : Nat) ≤ 2 ^ 24 by decide) hA ⟨[Ii x80.ticket, Ii x251.no, Ii x80.weight, Ii m], _, rfl, ⟨[Ii x80.ticket], _, rfl, rfl, ⟨[Ii x251.no], _, rfl, rfl, ⟨[Ii x80.weight], _, rfl, rfl, rfl⟩⟩⟩, rfl⟩ rfl rfl ?_
        intro v722 w723 hk725 h724
        have ht730 := Kp.tr hk725 hA hB; replace hH := Hp.kp hH hk725; replace hT961 := Tt hT961 ht730; replace hB := Bx hB ht730; replace hA := ht730.new
        refine V_CH (hk725) ?_
        refine CH_l1 (k := 0) rfl ?_
        refine V_buildSlice (Dw := Dw) (cells := #[Ii x80.ticket, Ii x251.no, Ii x80.weight, Ii m]) (l := ([(⟨x80.ticket, x251.no, x80.weight, m⟩ : route_Held)] : List route_Held)) (len := 1) underlying24 sizeOf32 zeroValue32 rfl (by generalize ((⟨x80.ticket, x251.no, x80.weight, m⟩ : route_Held).ticket : Int) = z606; generalize ((⟨x80.ticket, x251.no, x80.weight, m⟩ : route_Held).person : Int) = z607; generalize ((⟨x80.ticket, x251.no, x80.weight, m⟩ : route_Held).weight : Int) = z608; generalize ((⟨x80.ticket, x251.no, x80.weight, m⟩ : route_Held).since : Int) = z609; kernel_rfl) (show (1 * 4 : Nat) ≠ 0 by decide) (show (1 * 4 : Nat) ≤ 2 ^ 24 by decide) hA ⟨[Ii x80.ticket, Ii x251.no, Ii x80.weight, Ii m], _, rfl, ⟨[Ii x80.ticket], _, rfl, rfl, ⟨[Ii x251.no], _, rfl, rfl, ⟨[Ii x80.weight], _, rfl, rfl, rfl⟩⟩⟩, rfl⟩ rfl rfl ?_
        intro v602 w603 hk605 h604
        have ht610 := Kp.tr hk605 hA hB; replace hH := Hp.kp hH hk605; replace h724 := Sl.tr h724 ht610; replace hT961 := Tt hT961 ht610; replace hB := Bx hB ht610; replace hA := ht610.new
        refine V_CH (hk605) ?_
        refine CH_l1 (k := 1) rfl ?_
        refine V_appendH (Dw := Dw) (e := 32) (v := v48) (l := s46.1) (ti := t32) (bytes := 32) (lim := 4398046511104) hH (i := 3) rfl h604 hx662 underlying24 Tryz_info32 rfl rfl rfl rfl (by decide) (by decide) (by decide) hB hA rfl rfl rfl ?_
        intro v663 w664 A665 hH666 ht667
        replace h724 := Sl.tr h724 ht667; replace hT961 := Tt hT961 ht667; replace hB := Bx hB ht667; replace hA := ht667.new
        replace hH : Hp _ _ _ (o_32 v50 s46.2.1 :: o_3 v26 x25 :: obSM (κ := Int) (α := Bool) b20 s46.2.2 :: o_32 v663 x662 :: obC b_d [v_d0, v_d1, .map (some m_d0)] 199 :: obPS (obCk 249 portref2_ShiftsIn) 225 v_d1 d.clocks :: obSM (κ := Int) (α := Bool) m_d0 d.away :: L) := hH666
        refine V_CHx (XA.tr (Dw := Dw) ht667) ?_
        refine CH_l1 (k := 2) rfl ?_
        refine V_appendH (Dw := Dw) (e := 32) (v := v50) (l := s46.2.1) (ti := t32) (bytes := 32) (lim := 4398046511104) hH (i := 0) rfl h724 hx782 underlying24 Tryz_info32 rfl rfl rfl rfl (by decide) (by decide) (by decide) hB hA rfl rfl rfl ?_
        intro v783 w784 A785 hH786 ht787
        replace hT961 := Tt hT961 ht787
        replace hH : Hp _ _ _ (o_32 v783 x782 :: o_3 v26 x25 :: obSM (κ := Int) (α := Bool) b20 s46.2.2 :: o_32 v663 x662 :: obC b_d [v_d0, v_d1, .map (some m_d0)] 199 :: obPS (obCk 249 portref2_ShiftsIn) 225 v_d1 d.clocks :: obSM (κ := Int) (α := Bool) m_d0 d.away :: L) := hH786
        refine V_CHw ?_
        refine CH_q2 rfl (Qa (VQ_CH (CH_q2 rfl (Qa (VQ_CH ?_)))))
        refine CH_tail ?_
        show V _ _ _ _ [] _ _
        refine V_end (fun a ha902 => ?_)
        exact ⟨⟨v783, v663, A785⟩, ha902.sb, hH, hT961⟩
       refine V_buildSlice (Dw := Dw) (cells := #[Ii x80.ticket, Ii x251.no, Ii x80.weight, Ii m]) (l := ([(⟨x80.ticket, x251.no, x80.weight, m⟩ : route_Held)] : List route_Held)) (len := 1) underlying24 sizeOf32 zeroValue32 rfl (by generalize ((⟨x80.ticket, x251.no, x80.weight, m⟩ : route_Held).ticket : Int) = z606; generalize ((⟨x80.ticket, x251.no, x80.weight, m⟩ : route_Held).person : Int) = z607; generalize ((⟨x80.ticket, x251.no, x80.weight, m⟩ : route_Held).weight : Int) = z608; generalize ((⟨x80.ticket, x251.no, x80.weight, m⟩ : route_Held).since : Int) = z609; kernel_rfl) (show (1 * 4 : Nat) ≠ 0 by decide) (show (1 * 4 : Nat) ≤ 2 ^ 24 by decide) hA ⟨[Ii x80.ticket, Ii x251.no, Ii x80.weight, Ii m], _, rfl, ⟨[Ii x80.ticket], _, rfl, rfl, ⟨[Ii x251.no], _, rfl, rfl, ⟨[Ii x80.weight], _, rfl, rfl, rfl⟩⟩⟩, rfl⟩ rfl rfl ?_
       intro v602 w603 hk605 h604
       have ht610 := Kp.tr hk605 hA hB; replace hH := Hp.kp hH hk605; replace hT961 := Tt hT961 ht610; replace hB := Bx hB ht610; replace hA := ht610.new
       refine V_CHZ (hk605) ?_
       refine CHZ_l1 (k := 1) [(2, 6), (3, 3), (4, 7), (1, 8), (1, 9)] rfl ?_ rfl ?_
       ·refine CH_l1 (k := 0) rfl ?_
        refine V_buildSlice (Dw := Dw) (cells := #[Ii x80.ticket, Ii x251.no, Ii x80.weight, Ii m]) (l := ([(⟨x80.ticket, x251.no, x80.weight, m⟩ : route_Held)] : List route_Held)) (len := 1) underlying24 sizeOf32 zeroValue32 rfl (by generalize ((⟨x80.ticket, x251.no, x80.weight, m⟩ : route_Held).ticket : Int) = z726; generalize ((⟨x80.ticket, x251.no, x80.weight, m⟩ : route_Held).person : Int) = z727; generalize ((⟨x80.ticket, x251.no, x80.weight, m⟩ : route_Held).weight : Int) = z728; generalize ((⟨x80.ticket, x251.no, x80.weight, m⟩ : route_Held).since : Int) = z729; kernel_rfl) (show (1 * 4 : Nat) ≠ 0 by decide) (show (1 * 4 : Nat) ≤ 2 ^ 24 by decide) hA ⟨[Ii x80.ticket, Ii x251.no, Ii x80.weight, Ii m], _, rfl, ⟨[Ii x80.ticket], _, rfl, rfl, ⟨[Ii x251.no], _, rfl, rfl, ⟨[Ii x80.weight], _, rfl, rfl, rfl⟩⟩⟩, rfl⟩ rfl rfl ?_
        intro v722 w723 hk725 h724
        have ht730 := Kp.tr hk725 hA hB; replace hH := Hp.kp hH hk725; replace h604 := Sl.tr h604 ht730; replace hT961 := Tt hT961 ht730; replace hB := Bx hB ht730; replace hA := ht730.new
        refine V_CH (hk725) ?_
        refine CH_l1 (k := 1) rfl ?_
        refine V_appendH (Dw := Dw) (e := 32) (v := v48) (l := s46.1) (ti := t32) (bytes := 32) (lim := 4398046511104) hH (i := 3) rfl h604 hx662 underlying24 Tryz_info32 rfl rfl rfl rfl (by decide) (by decide) (by decide) hB hA rfl rfl rfl ?_
        intro v663 w664 A665 hH666 ht667
        replace h724 := Sl.tr h724 ht667; replace hT961 := Tt hT961 ht667; replace hB := Bx hB ht667; replace hA := ht667.new
        replace hH : Hp _ _ _ (o_32 v50 s46.2.1 :: o_3 v26 x25 :: obSM (κ := Int) (α := Bool) b20 s46.2.2 :: o_32 v663 x662 :: obC b_d [v_d0, v_d1, .map (some m_d0)] 199 :: obPS (obCk 249 portref2_ShiftsIn) 225 v_d1 d.clocks :: obSM (κ := Int) (α := Bool) m_d0 d.away :: L) := hH666
        refine V_CHx (XA.tr (Dw := Dw) ht667) ?_
        refine CH_l1 (k := 2) rfl ?_
        refine V_appendH (Dw := Dw) (e := 32) (v := v50) (l := s46.2.1) (ti := t32) (bytes := 32) (lim := 4398046511104) hH (i := 0) rfl h724 hx782 underlying24 Tryz_info32 rfl rfl rfl rfl (by decide) (by decide) (by decide) hB hA rfl rfl rfl ?_
        intro v783 w784 A785 hH786 ht787
        replace hT961 := Tt hT961 ht787
        replace hH : Hp _ _ _ (o_32 v783 x782 :: o_3 v26 x25 :: obSM (κ := Int) (α := Bool) b20 s46.2.2 :: o_32 v663 x662 :: obC b_d [v_d0, v_d1, .map (some m_d0)] 199 :: obPS (obCk 249 portref2_ShiftsIn) 225 v_d1 d.clocks :: obSM (κ := Int) (α := Bool) m_d0 d.away :: L) := hH786
        refine V_CHw ?_
        refine CH_q2 rfl (Qa (VQ_CH (CH_q2 rfl (Qa (VQ_CH ?_)))))
        refine CH_tail ?_
        show V _ _ _ _ [] _ _
        refine V_end (fun a ha902 => ?_)
        exact ⟨⟨v783, v663, A785⟩, ha902.sb, hH, hT961⟩
       refine V_appendH (Dw := Dw) (e := 32) (v := v48) (l := s46.1) (ti := t32) (bytes := 32) (lim := 4398046511104) hH (i := 3) rfl h604 hx662 underlying24 Tryz_info32 rfl rfl rfl rfl (by decide) (by decide) (by decide) hB hA rfl rfl rfl ?_
       intro v663 w664 A665 hH666 ht667
       replace hT961 := Tt hT961 ht667; replace hB := Bx hB ht667; replace hA := ht667.new
       replace hH : Hp _ _ _ (o_32 v50 s46.2.1 :: o_3 v26 x25 :: obSM (κ := Int) (α := Bool) b20 s46.2.2 :: o_32 v663 x662 :: obC b_d [v_d0, v_d1, .map (some m_d0)] 199 :: obPS (obCk 249 portref2_ShiftsIn) 225 v_d1 d.clocks :: obSM (κ := Int) (α := Bool) m_d0 d.away :: L) := hH666
       refine V_CHZx (XA.tr (Dw := Dw) ht667) ?_
       refine CHZ_nil ?_
       refine CH_l1 (k := 0) rfl ?_
       refine V_buildSlice (Dw := Dw) (cells := #[Ii x80.ticket, Ii x251.no, Ii x80.weight, Ii m]) (l := ([(⟨x80.ticket, x251.no, x80.weight, m⟩ : route_Held)] : List route_Held)) (len := 1) underlying24 sizeOf32 zeroValue32 rfl (by generalize ((⟨x80.ticket, x251.no, x80.weight, m⟩ : route_Held).ticket : Int) = z726; generalize ((⟨x80.ticket, x251.no, x80.weight, m⟩ : route_Held).person : Int) = z727; generalize ((⟨x80.ticket, x251.no, x80.weight, m⟩ : route_Held).weight : Int) = z728; generalize ((⟨x80.ticket, x251.no, x80.weight, m⟩ : route_Held).since : Int) = z729; kernel_rfl) (show (1 * 4 : Nat) ≠ 0 by decide) (show (1 * 4 : Nat) ≤ 2 ^ 24 by decide) hA ⟨[Ii x80.ticket, Ii x251.no, Ii x80.weight, Ii m], _, rfl, ⟨[Ii x80.ticket], _, rfl, rfl, ⟨[Ii x251.no], _, rfl, rfl, ⟨[Ii x80.weight], _, rfl, rfl, rfl⟩⟩⟩, rfl⟩ rfl rfl ?_
       intro v722 w723 hk725 h724
       have ht730 := Kp.tr hk725 hA hB; replace hH := Hp.kp hH hk725; replace hT961 := Tt hT961 ht730; replace hB := Bx hB ht730; replace hA := ht730.new
       refine V_CH (hk725) ?_
       refine CH_l1 (k := 2) rfl ?_
       refine V_appendH (Dw := Dw) (e := 32) (v := v50) (l := s46.2.1) (ti := t32) (bytes := 32) (lim := 4398046511104) hH (i := 0) rfl h724 hx782 underlying24 Tryz_info32 rfl rfl rfl rfl (by decide) (by decide) (by decide) hB hA rfl rfl rfl ?_
       intro v783 w784 A785 hH786 ht787
       replace hT961 := Tt hT961 ht787
       replace hH : Hp _ _ _ (o_32 v783 x782 :: o_3 v26 x25 :: obSM (κ := Int) (α := Bool) b20 s46.2.2 :: o_32 v663 x662 :: obC b_d [v_d0, v_d1, .map (some m_d0)] 199 :: obPS (obCk 249 portref2_ShiftsIn) 225 v_d1 d.clocks :: obSM (κ := Int) (α := Bool) m_d0 d.away :: L) := hH786
       refine V_CHw ?_
       refine CH_q2 rfl (Qa (VQ_CH (CH_q2 rfl (Qa (VQ_CH ?_)))))
       refine CH_tail ?_
       show V _ _ _ _ [] _ _
       refine V_end (fun a ha902 => ?_)
       exact ⟨⟨v783, v663, A785⟩, ha902.sb, hH, hT961⟩
      rintro ⟨v783, v663, A961⟩ w961 ⟨hH961, ht961⟩ a ha961
      replace hr233 := Tt hr233 ht961; replace hB := Bx hB ht961; replace hA := ht961.new
      replace hH : Hp _ _ _ (o_32 v783 x782 :: o_3 v26 x25 :: obSM (κ := Int) (α := Bool) b20 s46.2.2 :: o_32 v663 x662 :: obC b_d [v_d0, v_d1, .map (some m_d0)] 199 :: obPS (obCk 249 portref2_ShiftsIn) 225 v_d1 d.clocks :: obSM (κ := Int) (α := Bool) m_d0 d.away :: L) := hH961
      refine C_at (n := ⟨144, [], none⟩) (fun _ _ => rfl) ?_ ha961
      refine C_region (Mm (Mm ?_))
      refine V_mapUpdateS (Dw := Dw) (κ := Int) (α := Bool) (l := s46.2.2) (c := true) hH (i := 2) rfl underlying197 underlying3 rfl rfl rfl hB hA ?_
      intro w963 hH964 ht965
      replace hr233 := Tt hr233 ht965
      replace hH : Hp _ _ _ (o_32 v783 x782 :: o_3 v26 x25 :: obSM (κ := Int) (α := Bool) b20 (mapPut s46.2.2 x75 true) :: o_32 v663 x662 :: obC b_d [v_d0, v_d1, .map (some m_d0)] 199 :: obPS (obCk 249 portref2_ShiftsIn) 225 v_d1 d.clocks :: obSM (κ := Int) (α := Bool) m_d0 d.away :: L) := hH964
      obtain rfl := Oi ho231
      refine V_end (fun a ha966 => ?_)
      exact ⟨(v663, v783, A961), ha966.sb, ⟨hH, hr233⟩⟩
     rw [if_neg (nt hc243)] at ho231
     obtain rfl := Oi ho231
     refine C_skip (fun a ha967 => ?_)
     exact ⟨(v48, v50, A114), ha967.sb, ⟨hH, hr233⟩⟩
    rintro ⟨v234, v236, A241⟩ w238 ⟨hH242, hk239⟩ a ha240
    replace hr65 := Tr.trans hr65 hk239; replace hA := hk239.new
    replace hH : Hp _ _ _ (o_32 v236 s232.2.1 :: o_3 v26 x25 :: obSM (κ := Int) (α := Bool) b20 s232.2.2 :: o_32 v234 s232.1 :: obC b_d [v_d0, v_d1, .map (some m_d0)] 199 :: obPS (obCk 249 portref2_ShiftsIn) 225 v_d1 d.clocks :: obSM (κ := Int) (α := Bool) m_d0 d.away :: L) := hH242
    obtain rfl := Oi ho63
    exact ⟨(v234, v236, A241), ha240.sb, ⟨hH, hr65⟩⟩
   rintro ⟨v66, v68, A73⟩ w70 ⟨hH74, hk71⟩ a ha72
   replace hr35 := Tr.trans hr35 hk71; replace hA := hk71.new
   replace hH : Hp _ _ _ (o_32 v68 s64.2.1 :: o_3 v26 x25 :: obSM (κ := Int) (α := Bool) b20 s64.2.2 :: o_32 v66 s64.1 :: obC b_d [v_d0, v_d1, .map (some m_d0)] 199 :: obPS (obCk 249 portref2_ShiftsIn) 225 v_d1 d.clocks :: obSM (κ := Int) (α := Bool) m_d0 d.away :: L) := hH74
   refine C_at (n := ⟨144, [], none⟩) (fun _ _ => rfl) ?_ ha72
   refine C_region (Vy (Y_addI rfl rfl) (Mm ?_))
   obtain rfl := Oi h55
   refine V_end (fun a ha969 => ?_)
   exact ⟨(s64.1, s64.2.1, s64.2.2), hlt58, h56, ⟨(v66, v68, A73), ha969.sub ⟨rfl, rfl, rfl, rfl, rfl, rfl, rfl, rfl, rfl, rfl, Ws hlt58 hn61, trivial⟩, ⟨hH, hr35⟩⟩⟩
  refine C_exit (fun a ha970 => ?_)
  exact ⟨((s46.1, s46.2.1, s46.2.2), v48, v50, A52), ha970.sb, ⟨(h59 (eq_of_dec hle57 hc62)).symm, hH, hr35⟩⟩
 rintro ⟨s34, v40, v42, A44⟩ w37 ⟨rfl, hH45, hk38⟩ a ha39
 rw [Lp.andThen_fin] at hm
 replace h_waiting := Sl.tr h_waiting hk38; replace hK := Tr.trans hK hk38; replace hB := Nat.le_trans hB hk38.ex.size; replace hA := hk38.new
 replace hH : Hp _ _ _ (o_32 v42 s34.2.1 :: o_3 v26 x25 :: obSM (κ := Int) (α := Bool) b20 s34.2.2 :: o_32 v40 s34.1 :: obC b_d [v_d0, v_d1, .map (some m_d0)] 199 :: obPS (obCk 249 portref2_ShiftsIn) 225 v_d1 d.clocks :: obSM (κ := Int) (α := Bool) m_d0 d.away :: L) := hH45
 refine C_at (n := ⟨144, [], none⟩) (fun _ _ => rfl) ?_ ha39
 refine C_seq (Sr (Mm (Vy (Y_lenSl h_waiting rfl underlying25 rfl) (Mm (To ?_)))))
 replace hH : Hp B A44 w37 (o_43 (.slice none 0 0) ([] : (List route_Work)) :: o_32 v42 s34.2.1 :: o_3 v26 x25 :: obSM (κ := Int) (α := Bool) b20 s34.2.2 :: o_32 v40 s34.1 :: obC b_d [v_d0, v_d1, .map (some m_d0)] 199 :: obPS (obCk 249 portref2_ShiftsIn) 225 v_d1 d.clocks :: obSM (κ := Int) (α := Bool) m_d0 d.away :: L) := Hp.addNil (α := route_Work) (e := 43) hH
 have hn996 := Sl.le h_waiting
 obtain ⟨o972, ho972, hm⟩ := Bs hm
 refine C_cutG (ι := ((List route_Work) × Value × (Nat → Prop))) (fun ⟨s973, v979, A981⟩ => [(10, v40), (11, v979), (12, v42)]) (fun ⟨s973, v979, A981⟩ => fun w' => o972 = .fin s973 ∧ Hp B A981 w' (o_43 v979 s973 :: o_32 v42 s34.2.1 :: o_3 v26 x25 :: obSM (κ := Int) (α := Bool) b20 s34.2.2 :: o_32 v40 s34.1 :: obC b_d [v_d0, v_d1, .map (some m_d0)] 199 :: obPS (obCk 249 portref2_ShiftsIn) 225 v_d1 d.clocks :: obSM (κ := Int) (α := Bool) m_d0 d.away :: L) ∧ Tr Dw B A44 w37 A981 w') ?_ ?_
 ·refine C_block ?_
  refine C_range ho972 (fun k975 s983 a w' => ∃ i : (Value × (Nat → Prop)), Has ⟨144, [], none⟩ a ([(10, v40), (11, i.1), (12, v42), (13, .map (some b20)), (123, v_waiting), (124, Ii (waiting.length : Int)), (125, Ii (k975 : Int))]) ∧ Hp B i.2 w' (o_43 i.1 s983 :: o_32 v42 s34.2.1 :: o_3 v26 x25 :: obSM (κ := Int) (α := Bool) b20 s34.2.2 :: o_32 v40 s34.1 :: obC b_d [v_d0, v_d1, .map (some m_d0)] 199 :: obPS (obCk 249 portref2_ShiftsIn) 225 v_d1 d.clocks :: obSM (κ := Int) (α := Bool) m_d0 d.away :: L) ∧ Tr Dw B A44 w37 i.2 w') (fun a ha => ⟨(.slice none 0 0, A44), ha.sb, ⟨hH, Tr.refl (Dw := Dw) hA⟩⟩) ?_
  rintro K k975 s983 a w984 ⟨⟨v985, A987⟩, ha1059, hH988, hr974⟩ hle992 K995 h994
  refine C_of ?_ ha1059
  replace h_waiting := Sl.tr h_waiting hr974; replace hB := Bx hB hr974; replace hA := hr974.new
  replace hH : Hp _ _ _ (o_43 v985 s983 :: o_32 v42 s34.2.1 :: o_3 v26 x25 :: obSM (κ := Int) (α := Bool) b20 s34.2.2 :: o_32 v40 s34.1 :: obC b_d [v_d0, v_d1, .map (some m_d0)] 199 :: obPS (obCk 249 portref2_ShiftsIn) 225 v_d1 d.clocks :: obSM (κ := Int) (α := Bool) m_d0 d.away :: L) := hH988
  refine Sr (Vy (Y_lss rfl rfl) (To ?_))
  refine C_seq ?_
  refine Cc (fun hc997 => ?_) fun hc997 => ?_
  ·have hlt993 := lt_of_dec hc997
   obtain ⟨x989, h990, h991⟩ := K995 hlt993
   refine Sk ?_
   refine C_seq ?_
   obtain ⟨s999, ho998, h990⟩ := Bs h990
   refine C_cutG (ι := (Value × (Nat → Prop))) (fun ⟨v1001, A1006⟩ => [(10, v40), (11, v1001), (12, v42), (13, .map (some b20)), (123, v_waiting), (124, Ii (waiting.length : Int)), (125, Ii (k975 : Int))]) (fun ⟨v1001, A1006⟩ => fun w' => Hp B A1006 w' (o_43 v1001 s999 :: o_32 v42 s34.2.1 :: o_3 v26 x25 :: obSM (κ := Int) (α := Bool) b20 s34.2.2 :: o_32 v40 s34.1 :: obC b_d [v_d0, v_d1, .map (some m_d0)] 199 :: obPS (obCk 249 portref2_ShiftsIn) 225 v_d1 d.clocks :: obSM (κ := Int) (α := Bool) m_d0 d.away :: L) ∧ Tr Dw B A987 w984 A1006 w') ?_ ?_
   ·have hr1000 : Tr Dw B A987 w984 A987 w984 := Tr.refl (Dw := Dw) hA
    refine C_block (Sr (Mm ?_))
    obtain ⟨x1008, hx1008, ho998⟩ := Bs ho998
    refine V_indexAddr h_waiting hx1008 underlying25 sizeOf43 rfl rfl rfl ?_
    intro b1009 o1010 h1011
    obtain ⟨v1012, h1014, h1013⟩ := El_route_Work h1011
    refine Vy (Y_loadA h1014 isAgg43 sizeOf43 rfl) ?_
    refine V_alloc zeroValue43 rfl ?_
    intro b1015 w1016 h1017
    refine As ?_
    have h1022 : (v1012).oneCell' = true := by obtain ⟨_, _, e, _⟩ := Sl.form h1013; rw [e]; rfl
    refine Sn h1017 sizeOf43 ?_
    intro w1018 h1019
    have hk1024 := h1019.kp (Dw := Dw)
    have h1023 : El (α := route_Work) A987 w1018 b1015 0 x1008 := h1019.el hA ⟨[Ii x1008.ticket], _, rfl, rfl, ⟨[Ii x1008.weight], _, rfl, rfl, ⟨[Ii x1008.urgency], _, rfl, rfl, ⟨[Ii x1008.since], _, rfl, rfl, ⟨[Ii x1008.former], _, rfl, rfl, ⟨_, rfl, h1013⟩⟩⟩⟩⟩⟩
    have ht1025 := Kp.tr hk1024 hA hB; replace hH := Hp.kp hH hk1024; replace hr1000 := Tt hr1000 ht1025; replace hB := Bx hB ht1025; replace hA := ht1025.new
    refine To ?_
    refine Sr (Mm (Mm (Vy (Y_lookupS (κ := Int) (α := Bool) (z := false) (l := s34.2.2) hH (i := 3) rfl underlying197 underlying3 zeroValue4 rfl rfl rfl) (Vy (Y_not rfl) (To ?_)))))
    obtain ⟨s1027, ho1026, ho998⟩ := Bs ho998
    refine C_cutG (ι := (Value × (Nat → Prop))) (fun ⟨v1029, A1034⟩ => [(10, v40), (11, v1029), (12, v42), (13, .map (some b20)), (123, v_waiting), (124, Ii (waiting.length : Int)), (125, Ii (k975 : Int))]) (fun ⟨v1029, A1034⟩ => fun w' => Hp B A1034 w' (o_43 v1029 s1027 :: o_32 v42 s34.2.1 :: o_3 v26 x25 :: obSM (κ := Int) (α := Bool) b20 s34.2.2 :: o_32 v40 s34.1 :: obC b_d [v_d0, v_d1, .map (some m_d0)] 199 :: obPS (obCk 249 portref2_ShiftsIn) 225 v_d1 d.clocks :: obSM (κ := Int) (α := Bool) m_d0 d.away :: L) ∧ Tr Dw B A987 w1018 A1034 w') ?_ ?_
    ·have hr1028 : Tr Dw B A987 w1018 A987 w1018 := Tr.refl (Dw := Dw) hA
     refine Cc (fun hc1036 => ?_) fun hc1036 => ?_
     ·rw [if_pos hc1036] at ho1026
      refine C_region (Mm ?_)
      obtain ⟨v1037, h1039, h1038⟩ := El_route_Work h1023
      refine Vy (Y_loadA h1039 isAgg43 sizeOf43 rfl) ?_
      refine V_buildSlice (Dw := Dw) (cells := #[Ii x1008.ticket, Ii x1008.weight, Ii x1008.urgency, Ii x1008.since, Ii x1008.former, v1037]) (l := ([x1008] : List route_Work)) (len := 1) underlying25 sizeOf43 zeroValue43 rfl (by obtain ⟨a1044, c1045, e1046, _⟩ := Sl.form h1038; subst e1046; kernel_rfl) (show (1 * 6 : Nat) ≠ 0 by decide) (show (1 * 6 : Nat) ≤ 2 ^ 24 by decide) hA ⟨[Ii x1008.ticket, Ii x1008.weight, Ii x1008.urgency, Ii x1008.since, Ii x1008.former, v1037], _, rfl, ⟨[Ii x1008.ticket], _, rfl, rfl, ⟨[Ii x1008.weight], _, rfl, rfl, ⟨[Ii x1008.urgency], _, rfl, rfl, ⟨[Ii x1008.since], _, rfl, rfl, ⟨[Ii x1008.former], _, rfl, rfl, ⟨_, rfl, h1038⟩⟩⟩⟩⟩⟩, rfl⟩ rfl rfl ?_
      intro v1040 w1041 hk1043 h1042
      have ht1047 := Kp.tr hk1043 hA hB; replace hH := Hp.kp hH hk1043; replace hr1028 := Tt hr1028 ht1047; replace hB := Bx hB ht1047; replace hA := ht1047.new
      obtain ⟨x1048, hx1048, ho1026⟩ := Bs ho1026
      refine V_appendH (Dw := Dw) (e := 43) (v := v985) (l := s983) (ti := t43) (bytes := 64) (lim := 2199023255552) hH (i := 0) rfl h1042 hx1048 underlying25 Tryz_info43 rfl rfl rfl rfl (by decide) (by decide) (by decide) hB hA rfl rfl rfl ?_
      intro v1049 w1050 A1051 hH1052 ht1053
      replace hr1028 := Tt hr1028 ht1053
      replace hH : Hp _ _ _ (o_43 v1049 x1048 :: o_32 v42 s34.2.1 :: o_3 v26 x25 :: obSM (κ := Int) (α := Bool) b20 s34.2.2 :: o_32 v40 s34.1 :: obC b_d [v_d0, v_d1, .map (some m_d0)] 199 :: obPS (obCk 249 portref2_ShiftsIn) 225 v_d1 d.clocks :: obSM (κ := Int) (α := Bool) m_d0 d.away :: L) := hH1052
      refine As ?_
      obtain rfl := Oi ho1026
      refine V_end (fun a ha1054 => ?_)
      exact ⟨(v1049, A1051), ha1054.sb, ⟨hH, hr1028⟩⟩
     rw [if_neg (nt hc1036)] at ho1026
     obtain rfl := Oi ho1026
     refine C_skip (fun a ha1055 => ?_)
     exact ⟨(v985, A987), ha1055.sb, ⟨hH, hr1028⟩⟩
    rintro ⟨v1029, A1034⟩ w1031 ⟨hH1035, hk1032⟩ a ha1033
    replace hr1000 := Tr.trans hr1000 hk1032; replace hA := hk1032.new
    replace hH : Hp _ _ _ (o_43 v1029 s1027 :: o_32 v42 s34.2.1 :: o_3 v26 x25 :: obSM (κ := Int) (α := Bool) b20 s34.2.2 :: o_32 v40 s34.1 :: obC b_d [v_d0, v_d1, .map (some m_d0)] 199 :: obPS (obCk 249 portref2_ShiftsIn) 225 v_d1 d.clocks :: obSM (κ := Int) (α := Bool) m_d0 d.away :: L) := hH1035
    obtain rfl := Oi ho998
    exact ⟨(v1029, A1034), ha1033.sb, ⟨hH, hr1000⟩⟩
   rintro ⟨v1001, A1006⟩ w1003 ⟨hH1007, hk1004⟩ a ha1005
   replace hr974 := Tr.trans hr974 hk1004; replace hA := hk1004.new
   replace hH : Hp _ _ _ (o_43 v1001 s999 :: o_32 v42 s34.2.1 :: o_3 v26 x25 :: obSM (κ := Int) (α := Bool) b20 s34.2.2 :: o_32 v40 s34.1 :: obC b_d [v_d0, v_d1, .map (some m_d0)] 199 :: obPS (obCk 249 portref2_ShiftsIn) 225 v_d1 d.clocks :: obSM (κ := Int) (α := Bool) m_d0 d.away :: L) := hH1007
   refine C_at (n := ⟨144, [], none⟩) (fun _ _ => rfl) ?_ ha1005
   refine C_region (Vy (Y_addI rfl rfl) (Mm ?_))
   obtain rfl := Oi h990
   refine V_end (fun a ha1057 => ?_)
   exact ⟨s999, hlt993, h991, ⟨(v1001, A1006), ha1057.sub ⟨rfl, rfl, rfl, rfl, rfl, rfl, Ws hlt993 hn996, trivial⟩, ⟨hH, hr974⟩⟩⟩
  refine C_exit (fun a ha1058 => ?_)
  exact ⟨(s983, v985, A987), ha1058.sb, ⟨(h994 (eq_of_dec hle992 hc997)).symm, hH, hr974⟩⟩
 rintro ⟨s973, v979, A981⟩ w976 ⟨rfl, hH982, hk977⟩ a ha978
 rw [Lp.andThen_fin] at hm
 replace hK := Tr.trans hK hk977; replace hB := Nat.le_trans hB hk977.ex.size; replace hA := hk977.new
 replace hH : Hp _ _ _ (o_43 v979 s973 :: o_32 v42 s34.2.1 :: o_3 v26 x25 :: obSM (κ := Int) (α := Bool) b20 s34.2.2 :: o_32 v40 s34.1 :: obC b_d [v_d0, v_d1, .map (some m_d0)] 199 :: obPS (obCk 249 portref2_ShiftsIn) 225 v_d1 d.clocks :: obSM (κ := Int) (α := Bool) m_d0 d.away :: L) := hH982
 refine C_at (n := ⟨144, [], none⟩) (fun _ _ => rfl) ?_ ha978
 refine Sr (Mm ?_)
 obtain ⟨x1060, hx1060, hm⟩ := Bs hm
 refine V_call call73 rfl rfl rfl rfl (Tryz_sf73 (Dw := Dw) call93 (fun w1066 ht1067 h1068 p1070 q1073 c1071 c1074 c1076 h1072 h1075 h1069 => by obtain ⟨rfl, _⟩ := Rep_route_Held h1072; obtain ⟨rfl, _⟩ := Rep_route_Held h1075; exact (portref2_duty_assign_1_c (Dw := True) w1066 h1068 p1070 q1073 h1069).mono fun _ _ h => ⟨h.1, h.2⟩) hH (i := 4) rfl hB hA hx1060) ?_
 rintro _ w1061 ⟨rfl, hH1062, ht1063⟩
 replace hK := Tt hK ht1063
 replace hH : Hp _ _ _ (o_43 v979 s973 :: o_32 v42 s34.2.1 :: o_3 v26 x25 :: obSM (κ := Int) (α := Bool) b20 s34.2.2 :: o_32 v40 x1060 :: obC b_d [v_d0, v_d1, .map (some m_d0)] 199 :: obPS (obCk 249 portref2_ShiftsIn) 225 v_d1 d.clocks :: obSM (κ := Int) (α := Bool) m_d0 d.away :: L) := hH1062
 refine To ?_
 refine Sr (Mm (Mm (Mm (As (As (As (To ?_)))))))
 obtain rfl := Oi hm
 replace hH : Hp B A981 w1061 (obSM (κ := Int) (α := Bool) m_d0 d.away :: o_43 v979 s973 :: o_32 v42 s34.2.1 :: o_3 v26 x25 :: obSM (κ := Int) (α := Bool) b20 s34.2.2 :: o_32 v40 x1060 :: obC b_d [v_d0, v_d1, .map (some m_d0)] 199 :: obPS (obCk 249 portref2_ShiftsIn) 225 v_d1 d.clocks :: L) := Hp.front hH (i := 7) rfl
 replace hH : Hp B A981 w1061 (obPS (obCk 249 portref2_ShiftsIn) 225 v_d1 d.clocks :: obSM (κ := Int) (α := Bool) m_d0 d.away :: o_43 v979 s973 :: o_32 v42 s34.2.1 :: o_3 v26 x25 :: obSM (κ := Int) (α := Bool) b20 s34.2.2 :: o_32 v40 x1060 :: obC b_d [v_d0, v_d1, .map (some m_d0)] 199 :: L) := Hp.front hH (i := 7) rfl
 replace hH : Hp B A981 w1061 (obC b_d [v_d0, v_d1, .map (some m_d0)] 199 :: obPS (obCk 249 portref2_ShiftsIn) 225 v_d1 d.clocks :: obSM (κ := Int) (α := Bool) m_d0 d.away :: o_43 v979 s973 :: o_32 v42 s34.2.1 :: o_3 v26 x25 :: obSM (κ := Int) (α := Bool) b20 s34.2.2 :: o_32 v40 x1060 :: L) := Hp.front hH (i := 7) rfl
 replace hH : Hp B A981 w1061 (o_32 v42 s34.2.1 :: obC b_d [v_d0, v_d1, .map (some m_d0)] 199 :: obPS (obCk 249 portref2_ShiftsIn) 225 v_d1 d.clocks :: obSM (κ := Int) (α := Bool) m_d0 d.away :: o_43 v979 s973 :: o_3 v26 x25 :: obSM (κ := Int) (α := Bool) b20 s34.2.2 :: o_32 v40 x1060 :: L) := Hp.front hH (i := 4) rfl
 replace hH : Hp B A981 w1061 (o_43 v979 s973 :: o_32 v42 s34.2.1 :: obC b_d [v_d0, v_d1, .map (some m_d0)] 199 :: obPS (obCk 249 portref2_ShiftsIn) 225 v_d1 d.clocks :: obSM (κ := Int) (α := Bool) m_d0 d.away :: o_3 v26 x25 :: obSM (κ := Int) (α := Bool) b20 s34.2.2 :: o_32 v40 x1060 :: L) := Hp.front hH (i := 4) rfl
 replace hH : Hp B A981 w1061 (o_32 v40 x1060 :: o_43 v979 s973 :: o_32 v42 s34.2.1 :: obC b_d [v_d0, v_d1, .map (some m_d0)] 199 :: obPS (obCk 249 portref2_ShiftsIn) 225 v_d1 d.clocks :: obSM (κ := Int) (α := Bool) m_d0 d.away :: o_3 v26 x25 :: obSM (κ := Int) (α := Bool) b20 s34.2.2 :: L) := Hp.front hH (i := 7) rfl
 replace hH : Hp B A981 w1061 (o_32 v40 x1060 :: o_43 v979 s973 :: o_32 v42 s34.2.1 :: obC b_d [v_d0, v_d1, .map (some m_d0)] 199 :: obPS (obCk 249 portref2_ShiftsIn) 225 v_d1 d.clocks :: obSM (κ := Int) (α := Bool) m_d0 d.away :: obSM (κ := Int) (α := Bool) b20 s34.2.2 :: L) := Hp.drop hH (i := 6) rfl
 replace hH : Hp B A981 w1061 (o_32 v40 x1060 :: o_43 v979 s973 :: o_32 v42 s34.2.1 :: obC b_d [v_d0, v_d1, .map (some m_d0)] 199 :: obPS (obCk 249 portref2_ShiftsIn) 225 v_d1 d.clocks :: obSM (κ := Int) (α := Bool) m_d0 d.away :: L) := Hp.drop hH (i := 6) rfl
 refine Rt (Res.three results28 rfl rfl rfl) ?_
 exact ⟨v40, v979, v42, A981, rfl, hH, hK⟩
theorem portref2_AssignOf_c (w : World) {A : Nat → Prop} (hA : ∀ b, w.heap.size ≤ b → A b) (people : (List route_Person)) (v_people : Value) (h_people : Sl A w v_people people) (cals : (List cal_Calendar)) (v_cals : Value) (h_cals : Sl A w v_cals cals) (held : (List route_Held)) (v_held : Value) (h_held : Sl A w v_held held) (waiting : (List route_Work)) (v_waiting : Value) (h_waiting : Sl A w v_waiting waiting) (steps : (List route_Step)) (v_steps : Value) (h_steps : Sl A w v_steps steps) (m : Int) {r : ((List route_Held) × (List route_Work) × Int)} (hm : portref2_AssignOf people cals held waiting steps m = some r) : Ret prog 5 #[v_people, v_cals, v_held, v_waiting, v_steps, Ii m] w fun v w' => ∃ s0 s1, v = .tuple #[s0, s1, Ii r.2.2] ∧ Sl A w' s0 r.1 ∧ Sl A w' s1 r.2.1 ∧ Kp False w w' := by
 unfold portref2_AssignOf at hm
 refine enter func5 rfl ntmps5 rfl ?_
 have hA0 := hA
 obtain ⟨hB, hK, hH⟩ := St (Dw := False) hA
 refine Sr ?_
 refine V_box rfl rfl ?_
 intro b11 w12 h13
 have h18 : (v_held).oneCell' = true := by obtain ⟨_, _, e, _⟩ := Sl.form h_held; rw [e]; rfl
 have hk15 := h13.kp (Dw := False)
 have h14 : El (α := (List route_Held)) A w12 b11 0 held := h13.el hA (by rw [Value.cells_one h18]; exact ⟨_, rfl, h_held⟩)
 have ht19 := Kp.tr hk15 hA hB; replace hH := Hp.kp hH hk15; replace h_people := Sl.tr h_people ht19; replace h_cals := Sl.tr h_cals ht19; replace h_waiting := Sl.tr h_waiting ht19; replace h_steps := Sl.tr h_steps ht19; replace hK := Tt hK ht19; replace hB := Bx hB ht19; replace hA := ht19.new
 refine As (As (As (To ?_)))
 refine Sr (Mm (Mm ?_))
 obtain ⟨x20, hx20, hm⟩ := Bs hm
 refine Vc call19 (portref2_dutyFault_c w12 hA people v_people h_people cals v_cals h_cals hx20) ?_
 rintro _ w21 ⟨rfl, hk22⟩
 have ht23 := Kp.tr hk22 hA hB; replace hH := Hp.kp hH hk22; replace h_people := Sl.tr h_people ht23; replace h_cals := Sl.tr h_cals ht23; replace h_waiting := Sl.tr h_waiting ht23; replace h_steps := Sl.tr h_steps ht23; replace h14 := El.tr h14 ht23; replace hK := Tt hK ht23; replace hB := Bx hB ht23; replace hA := ht23.new
 refine As (To ?_)
 refine C_seq (Sr (Mm (Vy (Y_eql rfl rfl) (To ?_))))
 obtain ⟨s25, ho24, hm⟩ := Bs hm
 refine C_cutG (ι := (Nat → Prop)) (fun (A30 : (Nat → Prop)) => [(0, v_people), (1, v_cals), (3, v_waiting), (4, v_steps), (5, Ii m), (8, Pt b11), (15, Ii s25)]) (fun (A30 : (Nat → Prop)) => fun w' => Hp w.heap.size A30 w' ([]) ∧ Tr False w.heap.size A w21 A30 w') ?_ ?_
 ·have hr26 : Tr False w.heap.size A w21 A w21 := Tr.refl (Dw := False) hA
  refine Cc (fun hc32 => ?_) fun hc32 => ?_
  ·rw [if_pos hc32] at ho24
   refine C_region (Mm ?_)
   obtain ⟨v33, h34, h35⟩ := El.list h14
   refine Ld h34 isAgg24 ?_
   obtain ⟨x36, hx36, ho24⟩ := Bs ho24
   refine Vc call20 (portref2_heldAlone_c (Dw := False) w21 hA people v_people h_people held v33 h35 hx36) ?_
   rintro _ w37 ⟨rfl, hk38⟩
   have ht39 := Kp.tr hk38 hA hB; replace hH := Hp.kp hH hk38; replace hr26 := Tt hr26 ht39
   refine As ?_
   obtain rfl := Oi ho24
   refine V_end (fun a ha40 => ?_)
   exact ⟨A, ha40.sb, ⟨hH, hr26⟩⟩
  rw [if_neg (nt hc32)] at ho24
  obtain rfl := Oi ho24
  refine C_skip (fun a ha41 => ?_)
  exact ⟨A, ha41.sb, ⟨hH, hr26⟩⟩
 rintro A30 w27 ⟨hH31, hk28⟩ a ha29
 replace h_people := Sl.tr h_people hk28; replace h_cals := Sl.tr h_cals hk28; replace h_waiting := Sl.tr h_waiting hk28; replace h_steps := Sl.tr h_steps hk28; replace h14 := El.tr h14 hk28; replace hK := Tr.trans hK hk28; replace hB := Nat.le_trans hB hk28.ex.size; replace hA := hk28.new; replace hH := hH31
 refine C_at (n := ⟨66, [], none⟩) (fun _ _ => rfl) ?_ ha29
 refine C_seq (Sr (Mm (Vy (Y_eql rfl rfl) (To ?_))))
 obtain ⟨s43, ho42, hm⟩ := Bs hm
 refine C_cutG (ι := (Nat → Prop)) (fun (A48 : (Nat → Prop)) => [(0, v_people), (1, v_cals), (3, v_waiting), (4, v_steps), (5, Ii m), (8, Pt b11), (15, Ii s43)]) (fun (A48 : (Nat → Prop)) => fun w' => Hp w.heap.size A48 w' ([]) ∧ Tr False w.heap.size A30 w27 A48 w') ?_ ?_
 ·have hr44 : Tr False w.heap.size A30 w27 A30 w27 := Tr.refl (Dw := False) hA
  refine Cc (fun hc50 => ?_) fun hc50 => ?_
  ·rw [if_pos hc50] at ho42
   refine C_region (Mm ?_)
   obtain ⟨x51, hx51, ho42⟩ := Bs ho42
   refine Vc call21 (portref2_WorkFault_c w27 hA waiting v_waiting h_waiting hx51) ?_
   rintro _ w52 ⟨rfl, hk53⟩
   have ht54 := Kp.tr hk53 hA hB; replace hH := Hp.kp hH hk53; replace hr44 := Tt hr44 ht54
   refine As ?_
   obtain rfl := Oi ho42
   refine V_end (fun a ha55 => ?_)
   exact ⟨A30, ha55.sb, ⟨hH, hr44⟩⟩
  rw [if_neg (nt hc50)] at ho42
  obtain rfl := Oi ho42
  refine C_skip (fun a ha56 => ?_)
  exact ⟨A30, ha56.sb, ⟨hH, hr44⟩⟩
 rintro A48 w45 ⟨hH49, hk46⟩ a ha47
 replace h_people := Sl.tr h_people hk46; replace h_cals := Sl.tr h_cals hk46; replace h_waiting := Sl.tr h_waiting hk46; replace h_steps := Sl.tr h_steps hk46; replace h14 := El.tr h14 hk46; replace hK := Tr.trans hK hk46; replace hB := Nat.le_trans hB hk46.ex.size; replace hA := hk46.new; replace hH := hH49
 refine C_at (n := ⟨66, [], none⟩) (fun _ _ => rfl) ?_ ha47
 refine C_seq (Sr (Mm (Vy (Y_eql rfl rfl) (To ?_))))
 obtain ⟨s58, ho57, hm⟩ := Bs hm
 refine C_cutG (ι := (Nat → Prop)) (fun (A63 : (Nat → Prop)) => [(0, v_people), (1, v_cals), (3, v_waiting), (4, v_steps), (5, Ii m), (8, Pt b11), (15, Ii s58)]) (fun (A63 : (Nat → Prop)) => fun w' => Hp w.heap.size A63 w' ([]) ∧ Tr False w.heap.size A48 w45 A63 w') ?_ ?_
 ·have hr59 : Tr False w.heap.size A48 w45 A48 w45 := Tr.refl (Dw := False) hA
  refine Cc (fun hc65 => ?_) fun hc65 => ?_
  ·rw [if_pos hc65] at ho57
   refine C_region (Mm ?_)
   obtain ⟨x66, hx66, ho57⟩ := Bs ho57
   refine Vc call22 (portref2_StepsFault_c (Dw := False) w45 hA steps v_steps h_steps hx66) ?_
   rintro _ w67 ⟨rfl, hk68⟩
   have ht69 := Kp.tr hk68 hA hB; replace hH := Hp.kp hH hk68; replace hr59 := Tt hr59 ht69
   refine As ?_
   obtain rfl := Oi ho57
   refine V_end (fun a ha70 => ?_)
   exact ⟨A48, ha70.sb, ⟨hH, hr59⟩⟩
  rw [if_neg (nt hc65)] at ho57
  obtain rfl := Oi ho57
  refine C_skip (fun a ha71 => ?_)
  exact ⟨A48, ha71.sb, ⟨hH, hr59⟩⟩
 rintro A63 w60 ⟨hH64, hk61⟩ a ha62
 replace h_people := Sl.tr h_people hk61; replace h_cals := Sl.tr h_cals hk61; replace h_waiting := Sl.tr h_waiting hk61; replace h_steps := Sl.tr h_steps hk61; replace h14 := El.tr h14 hk61; replace hK := Tr.trans hK hk61; replace hB := Nat.le_trans hB hk61.ex.size; replace hA := hk61.new; replace hH := hH64
 refine C_at (n := ⟨66, [], none⟩) (fun _ _ => rfl) ?_ ha62
 refine C_seq (Sr (Mm (Vy (Y_eql rfl rfl) (Mm ?_))))
 refine V_cut 4 (fun _ : Unit => [(0, v_people), (1, v_cals), (3, v_waiting), (4, v_steps), (5, Ii m), (8, Pt b11), (15, Ii s58), (41, .bool ((s58 == 0) && (!(portref2_IsMoment m))))]) (fun _ w' => w60 = w') ?_ ?_
 ·simp only [List.take, List.drop]
  rcases Be (s58 == 0) with hc72 | hc72
  ·refine Gf hc72 (Mm (Gf hc72 ?_))
   refine Vc call23 (portref2_IsMoment_c w60 m) ?_
   rintro _ _ ⟨rfl, rfl⟩
   refine Gf hc72 (Vy (Y_not rfl) (Vy (Y_pick_te rfl hc72 rfl) ?_))
   exact V_end fun a ha => ⟨(), ha.sub ⟨rfl, rfl, rfl, rfl, rfl, rfl, rfl, (by rw [hc72]; rfl), trivial⟩, rfl⟩
  refine Gm hc72 (Gm hc72 (Gm hc72 (Vy (Y_pick_fe rfl hc72 rfl) ?_)))
  exact V_end fun a ha => ⟨(), ha.sub ⟨rfl, rfl, rfl, rfl, rfl, rfl, rfl, (by rw [hc72]; rfl), trivial⟩, rfl⟩
 simp only [List.take, List.drop]
 rintro _ _ rfl
 refine To ?_
 obtain ⟨s75, ho74, hm⟩ := Bs hm
 refine C_cutG (ι := Unit) (fun (_ : Unit) => [(0, v_people), (1, v_cals), (3, v_waiting), (4, v_steps), (5, Ii m), (8, Pt b11), (15, Ii s75)]) (fun (_ : Unit) => fun w' => w60 = w') ?_ ?_
 ·refine Cc (fun hc80 => ?_) fun hc80 => ?_
  ·rw [if_pos hc80] at ho74
   refine C_region (As ?_)
   obtain rfl := Oi ho74
   refine V_end (fun a ha81 => ?_)
   exact ⟨(), ha81.sb, rfl⟩
  rw [if_neg (nt hc80)] at ho74
  obtain rfl := Oi ho74
  refine C_skip (fun a ha82 => ?_)
  exact ⟨(), ha82.sb, rfl⟩
 rintro _ _ rfl a ha79
 refine C_at (n := ⟨66, [], none⟩) (fun _ _ => rfl) ?_ ha79
 refine C_seq (C_seq ?_)
 obtain ⟨s84, ho83, hm⟩ := Bs hm
 refine C_cutG (ι := (Nat → Prop)) (fun (A89 : (Nat → Prop)) => [(0, v_people), (1, v_cals), (3, v_waiting), (4, v_steps), (5, Ii m), (8, Pt b11), (15, Ii s75), (48, .bool s84)]) (fun (A89 : (Nat → Prop)) => fun w' => Hp w.heap.size A89 w' ([]) ∧ Tr False w.heap.size A63 w60 A89 w') ?_ ?_
 ·have hr85 : Tr False w.heap.size A63 w60 A63 w60 := Tr.refl (Dw := False) hA
  refine C_region (Mm (Vy (Y_eql rfl rfl) (Mm ?_)))
  rcases Be (s75 == 0) with hc91 | hc91
  ·rw [if_pos hc91] at ho83
   refine Gf hc91 (Mm (Gf hc91 (Vy (Y_makeFunc rfl rfl) (Gf hc91 ?_))))
   obtain ⟨x93, hx93, ho83⟩ := Bs ho83
   refine Vc call24 (slices_ContainsFunc_Lroute_Work_route_Work_c (Dw := False) w60 hA waiting v_waiting h_waiting (fun y103 => portref2_AssignOf_1 y103 held) 25 #[] #[Pt b11] call25 (fun w99 A100 ht101 h102 y94 v95 h96 r97 h98 => (portref2_AssignOf_1_c (Dw := False) w99 h102 y94 v95 h96 held b11 (El.tr h14 ht101) h98).mono (fun _ _ h => ⟨h.1, h.2⟩)) hx93) ?_
   rintro _ w104 ⟨rfl, hk105⟩
   have ht106 := Kp.tr hk105 hA hB; replace hH := Hp.kp hH hk105; replace hr85 := Tt hr85 ht106
   refine Vy (Y_pick_te rfl hc91 rfl) ?_
   obtain rfl := Oi ho83
   refine V_end (fun a ha107 => ?_)
   exact ⟨A63, ha107.sb, ⟨hH, hr85⟩⟩
  rw [if_neg (nt hc91)] at ho83
  refine Gm hc91 (Gm hc91 (Gm hc91 (Vy (Y_pick_fe rfl hc91 rfl) ?_)))
  obtain rfl := Oi ho83
  refine V_end (fun a ha108 => ?_)
  exact ⟨A63, ha108.sb, ⟨hH, hr85⟩⟩
 rintro A89 w86 ⟨hH90, hk87⟩ a ha88
 replace h_people := Sl.tr h_people hk87; replace h_cals := Sl.tr h_cals hk87; replace h_waiting := Sl.tr h_waiting hk87; replace h_steps := Sl.tr h_steps hk87; replace h14 := El.tr h14 hk87; replace hK := Tr.trans hK hk87; replace hB := Nat.le_trans hB hk87.ex.size; replace hA := hk87.new; replace hH := hH90
 refine C_at (n := ⟨66, [], none⟩) (fun _ _ => rfl) ?_ ha88
 obtain ⟨s110, ho109, hm⟩ := Bs hm
 refine C_cutG (ι := Unit) (fun (_ : Unit) => [(0, v_people), (1, v_cals), (3, v_waiting), (4, v_steps), (5, Ii m), (8, Pt b11), (15, Ii s110)]) (fun (_ : Unit) => fun w' => w86 = w') ?_ ?_
 ·refine Cc (fun hc115 => ?_) fun hc115 => ?_
  ·rw [if_pos hc115] at ho109
   refine C_region (As ?_)
   obtain rfl := Oi ho109
   refine V_end (fun a ha116 => ?_)
   exact ⟨(), ha116.sb, rfl⟩
  rw [if_neg (nt hc115)] at ho109
  obtain rfl := Oi ho109
  refine C_skip (fun a ha117 => ?_)
  exact ⟨(), ha117.sb, rfl⟩
 rintro _ _ rfl a ha114
 refine C_at (n := ⟨66, [], none⟩) (fun _ _ => rfl) ?_ ha114
 refine C_seq (Sr (Mm (Vy (Y_neq rfl rfl) (To ?_))))
 refine Cc (fun hc118 => ?_) fun hc118 => ?_
 ·rw [if_pos hc118] at hm
  refine Sr (Mm (As (As (As (To ?_)))))
  obtain rfl := Oi hm
  refine Rt (Res.three results5 rfl rfl rfl) ?_
  exact ⟨.slice none 0 0, .slice none 0 0, rfl, Sl.nil, Sl.nil, hK.kp⟩
 rw [if_neg (nt hc118)] at hm
 refine Sk ?_
 refine C_seq ?_
 refine C_region_ch (Dw := False) A89 15 [(1, 0), (1, 1), (1, 3), (1, 4), (1, 5), (1, 6), (2, 2), (4, 7), (1, 8), (1, 9), (1, 10), (1, 11), (1, 12), (1, 13), (1, 14)] Tryz_mixed (by kernel_rfl) (fun w119 hk120 => ?_)
 have ht121 := Kp.tr hk120 hA hB; replace hH := Hp.kp hH hk120; replace h_people := Sl.tr h_people ht121; replace h_cals := Sl.tr h_cals ht121; replace h_waiting := Sl.tr h_waiting ht121; replace h_steps := Sl.tr h_steps ht121; replace h14 := El.tr h14 ht121; replace hK := Tt hK ht121; replace hB := Bx hB ht121; replace hA := ht121.new
 refine CH_q2 rfl (Qm (VQ_CH (CH_q2 rfl (Qm (VQ_CH (CH_q2 rfl ?_))))))
 obtain ⟨v122, h123, h124⟩ := El.list h14
 refine Ql (fun w' hw' => ((World.cell?_of_block (hw'.2 _ h14.2.1 h14.1)).trans h123)) isAgg24 (VQ_CH (CH_q2 rfl (Qm (VQ_CH (CH_q2 rfl (Qm (VQ_CH (CH_q2 rfl (Qm ?_)))))))))
 refine VQ_CH ?_
 refine CH_l1 (k := 0) rfl ?_
 obtain ⟨x125, hx125, hm⟩ := Bs hm
 refine Vc call27 (portref2_newDuty_c (Dw := False) w119 (B := w119.heap.size) (Nat.le_refl _) hA people v_people h_people cals v_cals h_cals Hp.nil hx125) ?_
 rintro _ w132 ⟨b126, v127, v129, m131, A133, rfl, h128, hH134, ht135⟩
 have hk136 : Kp False w119 w132 := ht135.below
 have hH137 := Hp.join (Dw := False) hH hB ht135 hH134
 have ht138 := Tr.lower (Dw := False) ht135 hB
 replace h_waiting := Sl.tr h_waiting ht138; replace h_steps := Sl.tr h_steps ht138; replace h124 := Sl.tr h124 ht138; replace hK := Tt hK ht138; replace hB := Bx hB ht138; replace hA := ht138.new
 replace hH : Hp _ _ _ (obC b126 [v127, v129, .map (some m131)] 199 :: obPS (obCk 249 portref2_ShiftsIn) 225 v129 x125.clocks :: obSM (κ := Int) (α := Bool) m131 x125.away :: []) := hH137
 refine V_CH (hk136) ?_
 refine CH_l1 (k := 2) rfl ?_
 replace hH : Hp w.heap.size A133 w132 (obSM (κ := Int) (α := Bool) m131 x125.away :: obC b126 [v127, v129, .map (some m131)] 199 :: obPS (obCk 249 portref2_ShiftsIn) 225 v129 x125.clocks :: []) := Hp.front hH (i := 2) rfl
 replace hH : Hp w.heap.size A133 w132 (obPS (obCk 249 portref2_ShiftsIn) 225 v129 x125.clocks :: obSM (κ := Int) (α := Bool) m131 x125.away :: obC b126 [v127, v129, .map (some m131)] 199 :: []) := Hp.front hH (i := 2) rfl
 replace hH : Hp w.heap.size A133 w132 (obC b126 [v127, v129, .map (some m131)] 199 :: obPS (obCk 249 portref2_ShiftsIn) 225 v129 x125.clocks :: obSM (κ := Int) (α := Bool) m131 x125.away :: []) := Hp.front hH (i := 2) rfl
 obtain ⟨x139, hx139, hm⟩ := Bs hm
 refine Vc call28 (portref2_duty_assign_c (Dw := False) w132 hB hA x125 b126 v127 h128 v129 m131 held v122 h124 waiting v_waiting h_waiting steps v_steps h_steps m hH hx139) ?_
 rintro _ w146 ⟨v140, v142, v144, A147, rfl, hH148, ht149⟩
 replace hK := Tt hK ht149; replace hA := ht149.new
 replace hH : Hp _ _ _ (o_32 v140 x139.1 :: o_43 v142 x139.2.1 :: o_32 v144 x139.2.2 :: obC b126 [v127, v129, .map (some m131)] 199 :: obPS (obCk 249 portref2_ShiftsIn) 225 v129 x125.clocks :: obSM (κ := Int) (α := Bool) m131 x125.away :: []) := hH148
 refine V_CHw ?_
 refine CH_q2 rfl (Qm (VQ_CH (CH_q2 rfl (Qv (fun w' hw' => Y_extract rfl rfl) (VQ_CH (CH_q2 rfl (Qv (fun w' hw' => Y_extract rfl rfl) (VQ_CH (CH_q2 rfl ?_)))))))))
 refine Qv (fun w' hw' => Y_extract rfl rfl) (VQ_CH (CH_q2 rfl (Qa (VQ_CH (CH_q2 rfl (Qa (VQ_CH (CH_q2 rfl (Qa ?_)))))))))
 refine VQ_CH ?_
 refine CH_tail ?_
 show V _ _ _ _ [] _ _
 refine To ?_
 refine Sr (Mm (Mm (As (As (As (To ?_))))))
 obtain rfl := Oi hm
 obtain ⟨A150, ht151, h152, hH153⟩ := Hp.freeze (Dw := False) (α := route_Held) (v := v140) (l := x139.1) hH (i := 0) rfl hA
 replace hK := Tt hK ht151; replace hA := ht151.new
 replace hH : Hp _ _ _ (o_43 v142 x139.2.1 :: o_32 v144 x139.2.2 :: obC b126 [v127, v129, .map (some m131)] 199 :: obPS (obCk 249 portref2_ShiftsIn) 225 v129 x125.clocks :: obSM (κ := Int) (α := Bool) m131 x125.away :: []) := hH153
 obtain ⟨A155, ht156, h157, hH158⟩ := Hp.freeze (Dw := False) (α := route_Work) (v := v142) (l := x139.2.1) hH (i := 0) rfl hA
 replace h152 := Sl.tr h152 ht156; replace hK := Tt hK ht156
 replace hH : Hp _ _ _ (o_32 v144 x139.2.2 :: obC b126 [v127, v129, .map (some m131)] 199 :: obPS (obCk 249 portref2_ShiftsIn) 225 v129 x125.clocks :: obSM (κ := Int) (α := Bool) m131 x125.away :: []) := hH158
 refine Rt (Res.three results5 rfl rfl rfl) ?_
 exact ⟨v140, v142, rfl, (Sl.out (Dw := False) h152 hA0 hK), (Sl.out (Dw := False) h157 hA0 hK), hK.kp⟩
theorem slices_Equal_Lroute_Held_route_Held_c (w : World) {A : Nat → Prop} (hA : ∀ b, w.heap.size ≤ b → A b) (s1 : (List route_Held)) (v_s1 : Value) (h_s1 : Sl A w v_s1 s1) (s2 : (List route_Held)) (v_s2 : Value) (h_s2 : Sl A w v_s2 s2) {r : Bool} (hm : slices_Equal_Lroute_Held_route_Held s1 s2 = some r) : Ret prog 6 #[v_s1, v_s2] w fun v w' => v = .bool r ∧ Kp Dw w w' := by
 unfold slices_Equal_Lroute_Held_route_Held at hm
 refine enter func6 rfl ntmps6 rfl ?_
 have hA0 := hA
 obtain ⟨hB, hK, hH⟩ := St (Dw := Dw) hA
 refine Sr (As (To ?_))
 refine C_seq (Sr (Mm (Vy (Y_lenSl h_s1 rfl underlying24 rfl) (Mm (Vy (Y_lenSl h_s2 rfl underlying24 rfl) (Vy (Y_neq rfl rfl) (To ?_)))))))
 refine Cc (fun hc5 => ?_) fun hc5 => ?_
 ·rw [if_pos hc5] at hm
  refine Sr (As (To ?_))
  obtain rfl := Oi hm
  refine Rt (Res.one results6 rfl) ?_
  exact ⟨rfl, hK.kp⟩
 rw [if_neg (nt hc5)] at hm
 refine Sk ?_
 refine C_seq (Sr (Mm (Vy (Y_lenSl h_s1 rfl underlying24 rfl) (Mm (To ?_)))))
 have hn27 := Sl.le h_s1
 obtain ⟨o6, ho6, hm⟩ := Bs hm
 refine C_cutG (ι := (Unit × (Nat → Prop))) (fun ⟨s7, A13⟩ => []) (fun ⟨s7, A13⟩ => fun w' => o6 = .fin s7 ∧ Hp w.heap.size A13 w' ([]) ∧ Tr Dw w.heap.size A w A13 w') ?_ ?_
 ·refine C_block ?_
  refine C_range ho6 (fun k9 _ a w' => ∃ i : (Nat → Prop), Has ⟨26, [], none⟩ a ([(0, v_s1), (1, v_s2), (12, Ii (s1.length : Int)), (13, Ii (k9 : Int))]) ∧ Hp w.heap.size i w' ([]) ∧ Tr Dw w.heap.size A w i w') (fun a ha => ⟨A, ha.sb, ⟨hH, Tr.refl (Dw := Dw) hA⟩⟩) ?_
  rintro K k9 _ a w17 ⟨A18, ha45, hH19, hr8⟩ hle23 K26 h25
  refine C_of ?_ ha45
  replace h_s1 := Sl.tr h_s1 hr8; replace h_s2 := Sl.tr h_s2 hr8; replace hK := Tt hK hr8; replace hB := Bx hB hr8; replace hA := hr8.new; replace hH := hH19
  refine Sr (Vy (Y_lss rfl rfl) (To ?_))
  refine C_seq ?_
  refine Cc (fun hc28 => ?_) fun hc28 => ?_
  ·have hlt24 := lt_of_dec hc28
   obtain ⟨x20, h21, h22⟩ := K26 hlt24
   refine Sk ?_
   refine C_seq (C_block (Sr (Mm (As (To ?_)))))
   refine C_seq ?_
   refine C_region_q (Dw := Dw) Tryz_mixed (by kernel_rfl) ?_
   refine Qm (Qm ?_)
   obtain ⟨x29, hx29, h21⟩ := Bs h21
   refine VQ_indexAddr h_s1 hx29 underlying24 sizeOf32 rfl rfl rfl ?_
   intro b30 o31 h32
   obtain ⟨h33, _⟩ := El_route_Held h32
   refine Qv (fun w' hw' => Y_loadA (At.kp h33 hw' h32.2.1) isAgg32 sizeOf32 rfl) (Qm (Qm ?_))
   obtain ⟨x34, hx34, h21⟩ := Bs h21
   refine VQ_indexAddr h_s2 hx34 underlying24 sizeOf32 rfl rfl rfl ?_
   intro b35 o36 h37
   obtain ⟨h38, _⟩ := El_route_Held h37
   refine Qv (fun w' hw' => Y_loadA (At.kp h38 hw' h37.2.1) isAgg32 sizeOf32 rfl) (Qv (fun w' hw' => Y_neqA (fun w => Tryz_eqt32_10000 x29.ticket x29.person x29.weight x29.since x34.ticket x34.person x34.weight x34.since w) Tryz_eqg32 rfl rfl) ?_)
   refine VQ_to (fun _ _ => rfl) (fun w39 hk40 => ?_)
   have ht41 := Kp.tr hk40 hA hB; replace hH := Hp.kp hH hk40; replace hK := Tt hK ht41; replace hr8 := Tt hr8 ht41
   refine Cc (fun hc42 => ?_) fun hc42 => ?_
   ·rw [if_pos hc42] at h21
    refine Sr (As (To ?_))
    obtain rfl := Oi h21
    obtain rfl := (h22 : Lp.rt _ = _)
    rw [Lp.andThen_rt] at hm
    obtain rfl := Oi hm
    refine Rt (Res.one results6 rfl) ?_
    exact ⟨rfl, hK.kp⟩
   rw [if_neg (nt hc42)] at h21
   refine Sk ?_
   refine C_region (Vy (Y_addI rfl rfl) (Mm ?_))
   obtain rfl := Oi h21
   refine V_end (fun a ha43 => ?_)
   exact ⟨(), hlt24, h22, ⟨A18, ha43.sub ⟨rfl, rfl, rfl, Ws hlt24 hn27, trivial⟩, ⟨hH, hr8⟩⟩⟩
  refine C_exit (fun a ha44 => ?_)
  exact ⟨((), A18), ha44.sub trivial, ⟨(h25 (eq_of_dec hle23 hc28)).symm, hH, hr8⟩⟩
 rintro ⟨s7, A13⟩ w10 ⟨rfl, hH14, hk11⟩ a ha12
 rw [Lp.andThen_fin] at hm
 replace hK := Tr.trans hK hk11; replace hA := hk11.new; replace hH := hH14
 refine C_at (n := ⟨26, [], none⟩) (fun _ _ => rfl) ?_ ha12
 refine Sr (As (To ?_))
 obtain rfl := Oi hm
 refine Rt (Res.one results6 rfl) ?_
 exact ⟨rfl, hK.kp⟩
theorem slices_EqualFunc_Lroute_Work_Lroute_Work_route_Work_route_Work_c (w : World) {A : Nat → Prop} (hA : ∀ b, w.heap.size ≤ b → A b) (s1 : (List route_Work)) (v_s1 : Value) (h_s1 : Sl A w v_s1 s1) (s2 : (List route_Work)) (v_s2 : Value) (h_s2 : Sl A w v_s2 s2) (eq : route_Work → route_Work → Option Bool) (eq_f : FuncId) (eq_a eq_c : Array Value) (eq_call : ∀ (args : Array Value) (w : World), (callFunc eq_f args).run prog w = .ok (.enter eq_f args) w) (eq_spec : ∀ (w1 : World) (A1 : Nat → Prop), Tr Dw w.heap.size A w A1 w1 → (∀ b, w1.heap.size ≤ b → A1 b) → ∀ (y0 : route_Work) (v1 : Value) (h2 : Sl A1 w1 v1 y0.needs) (y1 : route_Work) (v3 : Value) (h4 : Sl A1 w1 v3 y1.needs) (r : Bool), eq y0 y1 = some r → Ret prog eq_f (eq_a ++ #[.agg #[Ii y0.ticket, Ii y0.weight, Ii y0.urgency, Ii y0.since, Ii y0.former, v1], .agg #[Ii y1.ticket, Ii y1.weight, Ii y1.urgency, Ii y1.since, Ii y1.former, v3]] ++ eq_c) w1 fun v w' => v = .bool r ∧ Kp Dw w1 w') {r : Bool} (hm : slices_EqualFunc_Lroute_Work_Lroute_Work_route_Work_route_Work s1 s2 eq = some r) : Ret prog 49 #[v_s1, v_s2, .func (.func eq_f) eq_a eq_c] w fun v w' => v = .bool r ∧ Kp Dw w w' := by
 unfold slices_EqualFunc_Lroute_Work_Lroute_Work_route_Work_route_Work at hm
 refine enter func49 rfl ntmps49 rfl ?_
 have hA0 := hA
 obtain ⟨hB, hK, hH⟩ := St (Dw := Dw) hA
 refine Sr (As (To ?_))
 refine C_seq (Sr (Mm (Vy (Y_lenSl h_s1 rfl underlying25 rfl) (Mm (Vy (Y_lenSl h_s2 rfl underlying25 rfl) (Vy (Y_neq rfl rfl) (To ?_)))))))
 refine Cc (fun hc5 => ?_) fun hc5 => ?_
 ·rw [if_pos hc5] at hm
  refine Sr (As (To ?_))
  obtain rfl := Oi hm
  refine Rt (Res.one results49 rfl) ?_
  exact ⟨rfl, hK.kp⟩
 rw [if_neg (nt hc5)] at hm
 refine Sk ?_
 refine C_seq (Sr (Mm (Vy (Y_lenSl h_s1 rfl underlying25 rfl) (Mm (To ?_)))))
 have hn27 := Sl.le h_s1
 obtain ⟨o6, ho6, hm⟩ := Bs hm
 refine C_cutG (ι := (Unit × (Nat → Prop))) (fun ⟨s7, A13⟩ => []) (fun ⟨s7, A13⟩ => fun w' => o6 = .fin s7 ∧ Hp w.heap.size A13 w' ([]) ∧ Tr Dw w.heap.size A w A13 w') ?_ ?_
 ·refine C_block ?_
  refine C_range ho6 (fun k9 _ a w' => ∃ i : (Nat → Prop), Has ⟨32, [], none⟩ a ([(1, v_s2), (2, .func (.func eq_f) eq_a eq_c), (15, v_s1), (16, Ii (s1.length : Int)), (17, Ii (k9 : Int))]) ∧ Hp w.heap.size i w' ([]) ∧ Tr Dw w.heap.size A w i w') (fun a ha => ⟨A, ha.sb, ⟨hH, Tr.refl (Dw := Dw) hA⟩⟩) ?_
  rintro K k9 _ a w17 ⟨A18, ha78, hH19, hr8⟩ hle23 K26 h25
  refine C_of ?_ ha78
  replace h_s2 := Sl.tr h_s2 hr8; replace h_s1 := Sl.tr h_s1 hr8; replace hK := Tt hK hr8; replace hB := Bx hB hr8; replace hA := hr8.new; replace hH := hH19
  refine Sr (Vy (Y_lss rfl rfl) (To ?_))
  refine C_seq ?_
  refine Cc (fun hc28 => ?_) fun hc28 => ?_
  ·have hlt24 := lt_of_dec hc28
   obtain ⟨x20, h21, h22⟩ := K26 hlt24
   refine Sk ?_
   refine C_seq (C_block (Sr (Mm ?_)))
   obtain ⟨x29, hx29, h21⟩ := Bs h21
   refine V_indexAddr h_s1 hx29 underlying25 sizeOf43 rfl rfl rfl ?_
   intro b30 o31 h32
   obtain ⟨v33, h35, h34⟩ := El_route_Work h32
   refine Vy (Y_loadA h35 isAgg43 sizeOf43 rfl) ?_
   refine V_alloc zeroValue43 rfl ?_
   intro b36 w37 h38
   refine As ?_
   have h43 : (v33).oneCell' = true := by obtain ⟨_, _, e, _⟩ := Sl.form h34; rw [e]; rfl
   refine Sn h38 sizeOf43 ?_
   intro w39 h40
   have hk45 := h40.kp (Dw := Dw)
   have h44 : El (α := route_Work) A18 w39 b36 0 x29 := h40.el hA ⟨[Ii x29.ticket], _, rfl, rfl, ⟨[Ii x29.weight], _, rfl, rfl, ⟨[Ii x29.urgency], _, rfl, rfl, ⟨[Ii x29.since], _, rfl, rfl, ⟨[Ii x29.former], _, rfl, rfl, ⟨_, rfl, h34⟩⟩⟩⟩⟩⟩
   have ht46 := Kp.tr hk45 hA hB; replace hH := Hp.kp hH hk45; replace h_s2 := Sl.tr h_s2 ht46; replace hK := Tt hK ht46; replace hr8 := Tt hr8 ht46; replace hB := Bx hB ht46; replace hA := ht46.new
   refine To ?_
   refine Sr (Mm (Mm ?_))
   obtain ⟨x47, hx47, h21⟩ := Bs h21
   refine V_indexAddr h_s2 hx47 underlying25 sizeOf43 rfl rfl rfl ?_
   intro b48 o49 h50
   obtain ⟨v51, h53, h52⟩ := El_route_Work h50
   refine Vy (Y_loadA h53 isAgg43 sizeOf43 rfl) ?_
   refine V_alloc zeroValue43 rfl ?_
   intro b54 w55 h56
   have h61 : (v51).oneCell' = true := by obtain ⟨_, _, e, _⟩ := Sl.form h52; rw [e]; rfl
   refine Sn h56 sizeOf43 ?_
   intro w57 h58
   have hk63 := h58.kp (Dw := Dw)
   have h62 : El (α := route_Work) A18 w57 b54 0 x47 := h58.el hA ⟨[Ii x47.ticket], _, rfl, rfl, ⟨[Ii x47.weight], _, rfl, rfl, ⟨[Ii x47.urgency], _, rfl, rfl, ⟨[Ii x47.since], _, rfl, rfl, ⟨[Ii x47.former], _, rfl, rfl, ⟨_, rfl, h52⟩⟩⟩⟩⟩⟩
   have ht64 := Kp.tr hk63 hA hB; replace hH := Hp.kp hH hk63; replace h44 := El.tr h44 ht64; replace hK := Tt hK ht64; replace hr8 := Tt hr8 ht64; replace hB := Bx hB ht64; replace hA := ht64.new
   refine To ?_
   refine Sr (Mm ?_)
   obtain ⟨v65, h67, h66⟩ := El_route_Work h44
   refine Vy (Y_loadA h67 isAgg43 sizeOf43 rfl) ?_
   obtain ⟨v68, h70, h69⟩ := El_route_Work h62
   refine Vy (Y_loadA h70 isAgg43 sizeOf43 rfl) ?_
   obtain ⟨x71, hx71, h21⟩ := Bs h21
   refine Vc eq_call (eq_spec w57 _ hK hA x29 v65 h66 x47 v68 h69 _ hx71) ?_
   rintro _ w72 ⟨rfl, hk73⟩
   have ht74 := Kp.tr hk73 hA hB; replace hH := Hp.kp hH hk73; replace hK := Tt hK ht74; replace hr8 := Tt hr8 ht74
   refine Vy (Y_not rfl) (To ?_)
   refine Cc (fun hc75 => ?_) fun hc75 => ?_
   ·rw [if_pos hc75] at h21
    refine Sr (As (To ?_))
    obtain rfl := Oi h21
    obtain rfl := (h22 : Lp.rt _ = _)
    rw [Lp.andThen_rt] at hm
    obtain rfl := Oi hm
    refine Rt (Res.one results49 rfl) ?_
    exact ⟨rfl, hK.kp⟩
   rw [if_neg (nt hc75)] at h21
   refine Sk ?_
   refine C_region (Vy (Y_addI rfl rfl) (Mm ?_))
   obtain rfl := Oi h21
   refine V_end (fun a ha76 => ?_)
   exact ⟨(), hlt24, h22, ⟨A18, ha76.sub ⟨rfl, rfl, rfl, rfl, Ws hlt24 hn27, trivial⟩, ⟨hH, hr8⟩⟩⟩
  refine C_exit (fun a ha77 => ?_)
  exact ⟨((), A18), ha77.sub trivial, ⟨(h25 (eq_of_dec hle23 hc28)).symm, hH, hr8⟩⟩
 rintro ⟨s7, A13⟩ w10 ⟨rfl, hH14, hk11⟩ a ha12
 rw [Lp.andThen_fin] at hm
 replace hK := Tr.trans hK hk11; replace hA := hk11.new; replace hH := hH14
 refine C_at (n := ⟨32, [], none⟩) (fun _ _ => rfl) ?_ ha12
 refine Sr (As (To ?_))
 obtain rfl := Oi hm
 refine Rt (Res.one results49 rfl) ?_
 exact ⟨rfl, hK.kp⟩
theorem slices_Equal_Lroute_Skill_route_Skill_c (w : World) {A : Nat → Prop} (hA : ∀ b, w.heap.size ≤ b → A b) (s1 : (List route_Skill)) (v_s1 : Value) (h_s1 : Sl A w v_s1 s1) (s2 : (List route_Skill)) (v_s2 : Value) (h_s2 : Sl A w v_s2 s2) {r : Bool} (hm : slices_Equal_Lroute_Skill_route_Skill s1 s2 = some r) : Ret prog 48 #[v_s1, v_s2] w fun v w' => v = .bool r ∧ Kp Dw w w' := by
 unfold slices_Equal_Lroute_Skill_route_Skill at hm
 refine enter func48 rfl ntmps48 rfl ?_
 have hA0 := hA
 obtain ⟨hB, hK, hH⟩ := St (Dw := Dw) hA
 refine Sr (As (To ?_))
 refine C_seq (Sr (Mm (Vy (Y_lenSl h_s1 rfl underlying41 rfl) (Mm (Vy (Y_lenSl h_s2 rfl underlying41 rfl) (Vy (Y_neq rfl rfl) (To ?_)))))))
 refine Cc (fun hc5 => ?_) fun hc5 => ?_
 ·rw [if_pos hc5] at hm
  refine Sr (As (To ?_))
  obtain rfl := Oi hm
  refine Rt (Res.one results48 rfl) ?_
  exact ⟨rfl, hK.kp⟩
 rw [if_neg (nt hc5)] at hm
 refine Sk ?_
 refine C_seq (Sr (Mm (Vy (Y_lenSl h_s1 rfl underlying41 rfl) (Mm (To ?_)))))
 have hn27 := Sl.le h_s1
 obtain ⟨o6, ho6, hm⟩ := Bs hm
 refine C_cutG (ι := (Unit × (Nat → Prop))) (fun ⟨s7, A13⟩ => []) (fun ⟨s7, A13⟩ => fun w' => o6 = .fin s7 ∧ Hp w.heap.size A13 w' ([]) ∧ Tr Dw w.heap.size A w A13 w') ?_ ?_
 ·refine C_block ?_
  refine C_range ho6 (fun k9 _ a w' => ∃ i : (Nat → Prop), Has ⟨26, [], none⟩ a ([(0, v_s1), (1, v_s2), (12, Ii (s1.length : Int)), (13, Ii (k9 : Int))]) ∧ Hp w.heap.size i w' ([]) ∧ Tr Dw w.heap.size A w i w') (fun a ha => ⟨A, ha.sb, ⟨hH, Tr.refl (Dw := Dw) hA⟩⟩) ?_
  rintro K k9 _ a w17 ⟨A18, ha45, hH19, hr8⟩ hle23 K26 h25
  refine C_of ?_ ha45
  replace h_s1 := Sl.tr h_s1 hr8; replace h_s2 := Sl.tr h_s2 hr8; replace hK := Tt hK hr8; replace hB := Bx hB hr8; replace hA := hr8.new; replace hH := hH19
  refine Sr (Vy (Y_lss rfl rfl) (To ?_))
  refine C_seq ?_
  refine Cc (fun hc28 => ?_) fun hc28 => ?_
  ·have hlt24 := lt_of_dec hc28
   obtain ⟨x20, h21, h22⟩ := K26 hlt24
   refine Sk ?_
   refine C_seq (C_block (Sr (Mm (As (To ?_)))))
   refine C_seq ?_
   refine C_region_q (Dw := Dw) Tryz_mixed (by kernel_rfl) ?_
   refine Qm (Qm ?_)
   obtain ⟨x29, hx29, h21⟩ := Bs h21
   refine VQ_indexAddr h_s1 hx29 underlying41 sizeOf127 rfl rfl rfl ?_
   intro b30 o31 h32
   obtain ⟨h33, _⟩ := El_route_Skill h32
   refine Qv (fun w' hw' => Y_loadA (At.kp h33 hw' h32.2.1) isAgg127 sizeOf127 rfl) (Qm (Qm ?_))
   obtain ⟨x34, hx34, h21⟩ := Bs h21
   refine VQ_indexAddr h_s2 hx34 underlying41 sizeOf127 rfl rfl rfl ?_
   intro b35 o36 h37
   obtain ⟨h38, _⟩ := El_route_Skill h37
   refine Qv (fun w' hw' => Y_loadA (At.kp h38 hw' h37.2.1) isAgg127 sizeOf127 rfl) (Qv (fun w' hw' => Y_neqA (fun w => Tryz_eqt127_10000 x29.name x29.rank x34.name x34.rank w) Tryz_eqg127 rfl rfl) ?_)
   refine VQ_to (fun _ _ => rfl) (fun w39 hk40 => ?_)
   have ht41 := Kp.tr hk40 hA hB; replace hH := Hp.kp hH hk40; replace hK := Tt hK ht41; replace hr8 := Tt hr8 ht41
   refine Cc (fun hc42 => ?_) fun hc42 => ?_
   ·rw [if_pos hc42] at h21
    refine Sr (As (To ?_))
    obtain rfl := Oi h21
    obtain rfl := (h22 : Lp.rt _ = _)
    rw [Lp.andThen_rt] at hm
    obtain rfl := Oi hm
    refine Rt (Res.one results48 rfl) ?_
    exact ⟨rfl, hK.kp⟩
   rw [if_neg (nt hc42)] at h21
   refine Sk ?_
   refine C_region (Vy (Y_addI rfl rfl) (Mm ?_))
   obtain rfl := Oi h21
   refine V_end (fun a ha43 => ?_)
   exact ⟨(), hlt24, h22, ⟨A18, ha43.sub ⟨rfl, rfl, rfl, Ws hlt24 hn27, trivial⟩, ⟨hH, hr8⟩⟩⟩
  refine C_exit (fun a ha44 => ?_)
  exact ⟨((), A18), ha44.sub trivial, ⟨(h25 (eq_of_dec hle23 hc28)).symm, hH, hr8⟩⟩
 rintro ⟨s7, A13⟩ w10 ⟨rfl, hH14, hk11⟩ a ha12
 rw [Lp.andThen_fin] at hm
 replace hK := Tr.trans hK hk11; replace hA := hk11.new; replace hH := hH14
 refine C_at (n := ⟨26, [], none⟩) (fun _ _ => rfl) ?_ ha12
 refine Sr (As (To ?_))
 obtain rfl := Oi hm
 refine Rt (Res.one results48 rfl) ?_
 exact ⟨rfl, hK.kp⟩
end Go.Proofs.YtfbnaobiondblaaGreatDoor.W
