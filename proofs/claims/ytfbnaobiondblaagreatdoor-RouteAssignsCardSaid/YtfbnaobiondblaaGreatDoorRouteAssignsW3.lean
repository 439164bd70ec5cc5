import Derived.Test.YtfbnaobiondblaaGreatDoorRouteAssignsW2
namespace Go.Proofs.YtfbnaobiondblaaGreatDoor.W
open Go Go.RowKit Go.Pu Go.Gw Go.Proofs Go.Proofs.YtfbnaobiondblaaGreatDoor.M
set_option linter.unusedVariables false
set_option linter.unusedSimpArgs false
variable {Dw : Prop}
set_option maxHeartbeats 4000000
set_option maxRecDepth 4000
open Tryz
theorem portref2_shiftFault_c (w : World) {A : Nat → Prop} (hA : ∀ b, w.heap.size ≤ b → A b) (l : (List cal_Shift)) (v_l : Value) (h_l : Sl A w v_l l) (week : Bool) {r : Int} (hm : portref2_shiftFault l week = some r) : Ret prog 136 #[v_l, .bool week] w fun v w' => v = Ii r ∧ Kp Dw w w' := by
 unfold portref2_shiftFault at hm
 refine enter func136 rfl ntmps136 rfl ?_
 have hA0 := hA
 obtain ⟨hB, hK, hH⟩ := St (Dw := Dw) hA
 refine Sr (As (To ?_))
 refine C_seq (Sr (Mm (Vy (Y_lenSl h_l rfl underlying65 rfl) (Mm (To ?_)))))
 have hn23 := Sl.le h_l
 obtain ⟨o3, ho3, hm⟩ := Bs hm
 refine C_cutG (ι := (Unit × (Nat → Prop))) (fun ⟨s4, A10⟩ => []) (fun ⟨s4, A10⟩ => fun w' => o3 = .fin s4 ∧ Hp w.heap.size A10 w' ([]) ∧ Tr Dw w.heap.size A w A10 w') ?_ ?_
 ·refine C_block ?_
  refine C_range ho3 (fun k6 _ a w' => ∃ i : (Nat → Prop), Has ⟨81, [], none⟩ a ([(0, v_l), (1, .bool week), (8, v_l), (9, Ii (l.length : Int)), (10, Ii (k6 : Int))]) ∧ Hp w.heap.size i w' ([]) ∧ Tr Dw w.heap.size A w i w') (fun a ha => ⟨A, ha.sb, ⟨hH, Tr.refl (Dw := Dw) hA⟩⟩) ?_
  rintro K k6 _ a w13 ⟨A14, ha115, hH15, hr5⟩ hle19 K22 h21
  refine C_of ?_ ha115
  replace h_l := Sl.tr h_l hr5; replace hK := Tt hK hr5; replace hB := Bx hB hr5; replace hA := hr5.new; replace hH := hH15
  refine Sr (Vy (Y_lss rfl rfl) (To ?_))
  refine C_seq ?_
  refine Cc (fun hc24 => ?_) fun hc24 => ?_
  ·have hlt20 := lt_of_dec hc24
   obtain ⟨x16, h17, h18⟩ := K22 hlt20
   refine Sk ?_
   refine C_seq ?_
   obtain ⟨o25, ho25, h17⟩ := Bs h17
   refine C_cutG (ι := (Unit × (Nat → Prop))) (fun ⟨s26, A31⟩ => [(0, v_l), (1, .bool week), (8, v_l), (9, Ii (l.length : Int)), (10, Ii (k6 : Int))]) (fun ⟨s26, A31⟩ => fun w' => o25 = .fin s26 ∧ Hp w.heap.size A31 w' ([]) ∧ Tr Dw w.heap.size A14 w13 A31 w') ?_ ?_
   ·have hr27 : Tr Dw w.heap.size A14 w13 A14 w13 := Tr.refl (Dw := Dw) hA
    refine C_block (Sr (Mm ?_))
    obtain ⟨x33, hx33, ho25⟩ := Bs ho25
    refine V_indexAddr h_l hx33 underlying65 sizeOf75 rfl rfl rfl ?_
    intro b34 o35 h36
    obtain ⟨h37, _⟩ := El_cal_Shift h36
    refine Vy (Y_loadA h37 isAgg75 sizeOf75 rfl) ?_
    refine V_alloc zeroValue75 rfl ?_
    intro b38 w39 h40
    refine As ?_
    refine Sn h40 sizeOf75 ?_
    intro w41 h42
    have hk44 := h42.kp (Dw := Dw)
    have h43 : El (α := cal_Shift) A14 w41 b38 0 x33 := h42.el hA ⟨[Ii x33.day], _, rfl, rfl, ⟨[Ii x33.from_], _, rfl, rfl, rfl⟩⟩
    have ht45 := Kp.tr hk44 hA hB; replace hH := Hp.kp hH hk44; replace h_l := Sl.tr h_l ht45; replace hK := Tt hK ht45; replace hr27 := Tt hr27 ht45; replace hB := Bx hB ht45; replace hA := ht45.new
    refine To ?_
    refine C_seq (Sr (Mm (Vy (Y_not rfl) (Mm ?_))))
    refine V_cut 4 (fun _ : Unit => [(0, v_l), (1, .bool week), (5, Ii (k6 : Int)), (6, Pt b38), (8, v_l), (9, Ii (l.length : Int)), (10, Ii (k6 : Int)), (21, .bool ((!week) && (x33.day != 0)))]) (fun _ w' => w41 = w') ?_ ?_
    ·simp only [List.take, List.drop]
     rcases Be (!week) with hc46 | hc46
     ·refine Gf hc46 ?_
      have h48 := El_cal_Shift_0 h43
      refine Fa underlying75 rfl sizeOf3 (Gf hc46 (Li h48 isAgg3 (Gf hc46 (Vy (Y_neq rfl rfl) (Vy (Y_pick_te rfl hc46 rfl) ?_)))))
      exact V_end fun a ha => ⟨(), ha.sub ⟨rfl, rfl, rfl, rfl, rfl, rfl, rfl, (by rw [hc46]; rfl), trivial⟩, rfl⟩
     refine Gm hc46 (Gm hc46 (Gm hc46 (Vy (Y_pick_fe rfl hc46 rfl) ?_)))
     exact V_end fun a ha => ⟨(), ha.sub ⟨rfl, rfl, rfl, rfl, rfl, rfl, rfl, (by rw [hc46]; rfl), trivial⟩, rfl⟩
    simp only [List.take, List.drop]
    rintro _ _ rfl
    refine To ?_
    refine Cc (fun hc49 => ?_) fun hc49 => ?_
    ·rw [if_pos hc49] at ho25
     refine Sr (As (To ?_))
     obtain rfl := Oi ho25
     rw [Lp.andThen_rt] at h17
     obtain rfl := Oi h17
     obtain rfl := (h18 : Lp.rt _ = _)
     rw [Lp.andThen_rt] at hm
     obtain rfl := Oi hm
     refine Rt (Res.one results136 rfl) ?_
     exact ⟨rfl, hK.kp⟩
    rw [if_neg (nt hc49)] at ho25
    refine Sk ?_
    refine C_seq (Sr ?_)
    have h50 := El_cal_Shift_0 h43
    refine Fa underlying75 rfl sizeOf3 (Li h50 isAgg3 (Vy (Y_lss rfl rfl) (Mm ?_)))
    refine V_cut 4 (fun _ : Unit => [(0, v_l), (1, .bool week), (5, Ii (k6 : Int)), (6, Pt b38), (8, v_l), (9, Ii (l.length : Int)), (10, Ii (k6 : Int)), (29, .bool ((decide (x33.day < 0)) || (decide ((6 : Int) < x33.day))))]) (fun _ w' => w41 = w') ?_ ?_
    ·simp only [List.take, List.drop]
     rcases Be (decide (x33.day < 0)) with hc51 | hc51
     ·refine Gm hc51 (Gm hc51 (Gm hc51 (Vy (Y_pick_te rfl hc51 rfl) ?_)))
      exact V_end fun a ha => ⟨(), ha.sub ⟨rfl, rfl, rfl, rfl, rfl, rfl, rfl, (by rw [hc51]; rfl), trivial⟩, rfl⟩
     refine Gf hc51 ?_
     have h53 := El_cal_Shift_0 h43
     refine Fa underlying75 rfl sizeOf3 (Gf hc51 (Li h53 isAgg3 (Gf hc51 (Vy (Y_gtr rfl rfl) (Vy (Y_pick_fe rfl hc51 rfl) ?_)))))
     exact V_end fun a ha => ⟨(), ha.sub ⟨rfl, rfl, rfl, rfl, rfl, rfl, rfl, (by rw [hc51]; rfl), trivial⟩, rfl⟩
    simp only [List.take, List.drop]
    rintro _ _ rfl
    refine Mm ?_
    refine V_cut 4 (fun _ : Unit => [(0, v_l), (1, .bool week), (5, Ii (k6 : Int)), (6, Pt b38), (8, v_l), (9, Ii (l.length : Int)), (10, Ii (k6 : Int)), (34, .bool (((decide (x33.day < 0)) || (decide ((6 : Int) < x33.day))) || (decide (x33.from_ < 0))))]) (fun _ w' => w41 = w') ?_ ?_
    ·simp only [List.take, List.drop]
     rcases Be (((decide (x33.day < 0)) || (decide ((6 : Int) < x33.day)))) with hc54 | hc54
     ·refine Gm hc54 (Gm hc54 (Gm hc54 (Vy (Y_pick_te rfl hc54 rfl) ?_)))
      exact V_end fun a ha => ⟨(), ha.sub ⟨rfl, rfl, rfl, rfl, rfl, rfl, rfl, (by rw [hc54]; rfl), trivial⟩, rfl⟩
     refine Gf hc54 ?_
     have h56 := El_cal_Shift_1 h43
     refine Fa underlying75 rfl sizeOf3 (Gf hc54 (Li h56 isAgg3 (Gf hc54 (Vy (Y_lss rfl rfl) (Vy (Y_pick_fe rfl hc54 rfl) ?_)))))
     exact V_end fun a ha => ⟨(), ha.sub ⟨rfl, rfl, rfl, rfl, rfl, rfl, rfl, (by rw [hc54]; rfl), trivial⟩, rfl⟩
    simp only [List.take, List.drop]
    rintro _ _ rfl
    refine Mm ?_
    refine V_cut 4 (fun _ : Unit => [(0, v_l), (1, .bool week), (5, Ii (k6 : Int)), (6, Pt b38), (8, v_l), (9, Ii (l.length : Int)), (10, Ii (k6 : Int)), (39, .bool ((((decide (x33.day < 0)) || (decide ((6 : Int) < x33.day))) || (decide (x33.from_ < 0))) || (decide ((1440 : Int) ≤ x33.from_))))]) (fun _ w' => w41 = w') ?_ ?_
    ·simp only [List.take, List.drop]
     rcases Be ((((decide (x33.day < 0)) || (decide ((6 : Int) < x33.day))) || (decide (x33.from_ < 0)))) with hc57 | hc57
     ·refine Gm hc57 (Gm hc57 (Gm hc57 (Vy (Y_pick_te rfl hc57 rfl) ?_)))
      exact V_end fun a ha => ⟨(), ha.sub ⟨rfl, rfl, rfl, rfl, rfl, rfl, rfl, (by rw [hc57]; rfl), trivial⟩, rfl⟩
     refine Gf hc57 ?_
     have h59 := El_cal_Shift_1 h43
     refine Fa underlying75 rfl sizeOf3 (Gf hc57 (Li h59 isAgg3 (Gf hc57 (Vy (Y_geq rfl rfl) (Vy (Y_pick_fe rfl hc57 rfl) ?_)))))
     exact V_end fun a ha => ⟨(), ha.sub ⟨rfl, rfl, rfl, rfl, rfl, rfl, rfl, (by rw [hc57]; rfl), trivial⟩, rfl⟩
    simp only [List.take, List.drop]
    rintro _ _ rfl
    refine Mm ?_
    refine V_cut 6 (fun _ : Unit => [(0, v_l), (1, .bool week), (5, Ii (k6 : Int)), (6, Pt b38), (8, v_l), (9, Ii (l.length : Int)), (10, Ii (k6 : Int)), (46, .bool (((((decide (x33.day < 0)) || (decide ((6 : Int) < x33.day))) || (decide (x33.from_ < 0))) || (decide ((1440 : Int) ≤ x33.from_))) || (decide (x33.to_ ≤ x33.from_))))]) (fun _ w' => w41 = w') ?_ ?_
    ·simp only [List.take, List.drop]
     rcases Be (((((decide (x33.day < 0)) || (decide ((6 : Int) < x33.day))) || (decide (x33.from_ < 0))) || (decide ((1440 : Int) ≤ x33.from_)))) with hc60 | hc60
     ·refine Gm hc60 (Gm hc60 (Gm hc60 (Gm hc60 (Gm hc60 (Vy (Y_pick_te rfl hc60 rfl) ?_)))))
      exact V_end fun a ha => ⟨(), ha.sub ⟨rfl, rfl, rfl, rfl, rfl, rfl, rfl, (by rw [hc60]; rfl), trivial⟩, rfl⟩
     refine Gf hc60 ?_
     have h62 := El_cal_Shift_2 h43
     refine Fa underlying75 rfl sizeOf3 (Gf hc60 (Li h62 isAgg3 (Gf hc60 ?_)))
     have h63 := El_cal_Shift_1 h43
     refine Fa underlying75 rfl sizeOf3 (Gf hc60 (Li h63 isAgg3 (Gf hc60 (Vy (Y_leq rfl rfl) (Vy (Y_pick_fe rfl hc60 rfl) ?_)))))
     exact V_end fun a ha => ⟨(), ha.sub ⟨rfl, rfl, rfl, rfl, rfl, rfl, rfl, (by rw [hc60]; rfl), trivial⟩, rfl⟩
    simp only [List.take, List.drop]
    rintro _ _ rfl
    refine Mm ?_
    refine V_cut 7 (fun _ : Unit => [(0, v_l), (1, .bool week), (5, Ii (k6 : Int)), (6, Pt b38), (8, v_l), (9, Ii (l.length : Int)), (10, Ii (k6 : Int)), (54, .bool ((((((decide (x33.day < 0)) || (decide ((6 : Int) < x33.day))) || (decide (x33.from_ < 0))) || (decide ((1440 : Int) ≤ x33.from_))) || (decide (x33.to_ ≤ x33.from_))) || (decide ((w64 (x33.from_ + 1440)) < x33.to_))))]) (fun _ w' => w41 = w') ?_ ?_
    ·simp only [List.take, List.drop]
     rcases Be ((((((decide (x33.day < 0)) || (decide ((6 : Int) < x33.day))) || (decide (x33.from_ < 0))) || (decide ((1440 : Int) ≤ x33.from_))) || (decide (x33.to_ ≤ x33.from_)))) with hc64 | hc64
     ·refine Gm hc64 (Gm hc64 (Gm hc64 (Gm hc64 (Gm hc64 (Gm hc64 (Vy (Y_pick_te rfl hc64 rfl) ?_))))))
      exact V_end fun a ha => ⟨(), ha.sub ⟨rfl, rfl, rfl, rfl, rfl, rfl, rfl, (by rw [hc64]; rfl), trivial⟩, rfl⟩
     refine Gf hc64 ?_
     have h66 := El_cal_Shift_2 h43
     refine Fa underlying75 rfl sizeOf3 (Gf hc64 (Li h66 isAgg3 (Gf hc64 ?_)))
     have h67 := El_cal_Shift_1 h43
     refine Fa underlying75 rfl sizeOf3 (Gf hc64 (Li h67 isAgg3 (Gf hc64 (Vy (Y_addI rfl rfl) (Gf hc64 (Vy (Y_gtr rfl rfl) (Vy (Y_pick_fe rfl hc64 rfl) ?_)))))))
     exact V_end fun a ha => ⟨(), ha.sub ⟨rfl, rfl, rfl, rfl, rfl, rfl, rfl, (by rw [hc64]; rfl), trivial⟩, rfl⟩
    simp only [List.take, List.drop]
    rintro _ _ rfl
    refine To ?_
    refine Cc (fun hc68 => ?_) fun hc68 => ?_
    ·rw [if_pos hc68] at ho25
     refine Sr (As (To ?_))
     obtain rfl := Oi ho25
     rw [Lp.andThen_rt] at h17
     obtain rfl := Oi h17
     obtain rfl := (h18 : Lp.rt _ = _)
     rw [Lp.andThen_rt] at hm
     obtain rfl := Oi hm
     refine Rt (Res.one results136 rfl) ?_
     exact ⟨rfl, hK.kp⟩
    rw [if_neg (nt hc68)] at ho25
    refine Sk ?_
    refine Sr (Mm (Vy (Y_gtr rfl rfl) (To ?_)))
    obtain ⟨o69, ho69, ho25⟩ := Bs ho25
    refine C_cutG (ι := (Unit × (Nat → Prop))) (fun ⟨s70, A75⟩ => [(0, v_l), (1, .bool week), (8, v_l), (9, Ii (l.length : Int)), (10, Ii (k6 : Int))]) (fun ⟨s70, A75⟩ => fun w' => o69 = .fin s70 ∧ Hp w.heap.size A75 w' ([]) ∧ Tr Dw w.heap.size A14 w41 A75 w') ?_ ?_
    ·have hr71 : Tr Dw w.heap.size A14 w41 A14 w41 := Tr.refl (Dw := Dw) hA
     refine Cc (fun hc77 => ?_) fun hc77 => ?_
     ·rw [if_pos hc77] at ho69
      refine Sr (Mm (Mm (Vy (Y_subI rfl rfl) ?_)))
      obtain ⟨x78, hx78, ho69⟩ := Bs ho69
      refine V_indexAddr h_l hx78 underlying65 sizeOf75 rfl rfl rfl ?_
      intro b79 o80 h81
      obtain ⟨h82, _⟩ := El_cal_Shift h81
      refine Vy (Y_loadA h82 isAgg75 sizeOf75 rfl) ?_
      refine V_alloc zeroValue75 rfl ?_
      intro b83 w84 h85
      refine Sn h85 sizeOf75 ?_
      intro w86 h87
      have hk89 := h87.kp (Dw := Dw)
      have h88 : El (α := cal_Shift) A14 w86 b83 0 x78 := h87.el hA ⟨[Ii x78.day], _, rfl, rfl, ⟨[Ii x78.from_], _, rfl, rfl, rfl⟩⟩
      have ht90 := Kp.tr hk89 hA hB; replace hH := Hp.kp hH hk89; replace h43 := El.tr h43 ht90; replace hK := Tt hK ht90; replace hr71 := Tt hr71 ht90; replace hB := Bx hB ht90; replace hA := ht90.new
      refine To ?_
      refine C_seq ?_
      refine C_region_qt (Dw := Dw) 15 Tryz_mixed (by kernel_rfl) ?_
      simp only [List.take, List.drop]
      have h91 := El_cal_Shift_0 h88
      refine Qf underlying75 rfl sizeOf3 (Qi h91 isAgg3 ?_)
      have h92 := El_cal_Shift_0 h43
      refine Qf underlying75 rfl sizeOf3 (Qi h92 isAgg3 ?_)
      refine VQ_call (Ii (cmp_Compare_int x78.day x33.day)) call75 rfl rfl rfl rfl (fun w' hw' => (cmp_Compare_int_c w' x78.day x33.day).mono (fun _ _ h => ⟨h.1, h.2 ▸ hw'⟩)) ?_
      have h93 := El_cal_Shift_1 h88
      refine Qf underlying75 rfl sizeOf3 (Qi h93 isAgg3 ?_)
      have h94 := El_cal_Shift_1 h43
      refine Qf underlying75 rfl sizeOf3 (Qi h94 isAgg3 ?_)
      refine VQ_call (Ii (cmp_Compare_int x78.from_ x33.from_)) call75 rfl rfl rfl rfl (fun w' hw' => (cmp_Compare_int_c w' x78.from_ x33.from_).mono (fun _ _ h => ⟨h.1, h.2 ▸ hw'⟩)) ?_
      have h95 := El_cal_Shift_2 h88
      refine Qf underlying75 rfl sizeOf3 (Qi h95 isAgg3 ?_)
      have h96 := El_cal_Shift_2 h43
      refine Qf underlying75 rfl sizeOf3 (Qi h96 isAgg3 ?_)
      refine VQ_call (Ii (cmp_Compare_int x78.to_ x33.to_)) call75 rfl rfl rfl rfl (fun w' hw' => (cmp_Compare_int_c w' x78.to_ x33.to_).mono (fun _ _ h => ⟨h.1, h.2 ▸ hw'⟩)) ?_
      refine VQ_tail (fun w97 hk98 => ?_)
      try simp only [List.take, List.drop]
      have ht99 := Kp.tr hk98 hA hB; replace hH := Hp.kp hH hk98; replace hK := Tt hK ht99; replace hr71 := Tt hr71 ht99; replace hB := Bx hB ht99; replace hA := ht99.new
      refine V_buildSlice (Dw := Dw) (cells := #[Ii (cmp_Compare_int x78.day x33.day), Ii (cmp_Compare_int x78.from_ x33.from_), Ii (cmp_Compare_int x78.to_ x33.to_)]) (l := ([(cmp_Compare_int x78.day x33.day), (cmp_Compare_int x78.from_ x33.from_), (cmp_Compare_int x78.to_ x33.to_)] : List Int)) (len := 3) underlying98 sizeOf3 zeroValue3 rfl (by generalize ((cmp_Compare_int x78.from_ x33.from_) : Int) = z104; generalize ((cmp_Compare_int x78.day x33.day) : Int) = z105; generalize ((cmp_Compare_int x78.to_ x33.to_) : Int) = z106; kernel_rfl) (show (3 * 1 : Nat) ≠ 0 by decide) (show (3 * 1 : Nat) ≤ 2 ^ 24 by decide) hA ⟨[Ii (cmp_Compare_int x78.day x33.day)], _, rfl, rfl, ⟨[Ii (cmp_Compare_int x78.from_ x33.from_)], _, rfl, rfl, ⟨[Ii (cmp_Compare_int x78.to_ x33.to_)], _, rfl, rfl, rfl⟩⟩⟩ rfl rfl ?_
      intro v100 w101 hk103 h102
      have ht107 := Kp.tr hk103 hA hB; replace hH := Hp.kp hH hk103; replace hK := Tt hK ht107; replace hr71 := Tt hr71 ht107
      obtain ⟨x108, hx108, ho69⟩ := Bs ho69
      refine Vc call105 (cmp_Or_int_c w101 ([(cmp_Compare_int x78.day x33.day), (cmp_Compare_int x78.from_ x33.from_), (cmp_Compare_int x78.to_ x33.to_)] : List Int) v100 h102 hx108) ?_
      rintro _ _ ⟨rfl, rfl⟩
      refine Vy (Y_geq rfl rfl) (To ?_)
      refine Cc (fun hc109 => ?_) fun hc109 => ?_
      ·rw [if_pos hc109] at ho69
       refine Sr (As (To ?_))
       obtain rfl := Oi ho69
       rw [Lp.andThen_rt] at ho25
       obtain rfl := Oi ho25
       rw [Lp.andThen_rt] at h17
       obtain rfl := Oi h17
       obtain rfl := (h18 : Lp.rt _ = _)
       rw [Lp.andThen_rt] at hm
       obtain rfl := Oi hm
       refine Rt (Res.one results136 rfl) ?_
       exact ⟨rfl, hK.kp⟩
      rw [if_neg (nt hc109)] at ho69
      obtain rfl := Oi ho69
      refine C_skip (fun a ha110 => ?_)
      exact ⟨((), A14), ha110.sb, ⟨rfl, hH, hr71⟩⟩
     rw [if_neg (nt hc77)] at ho69
     obtain rfl := Oi ho69
     refine C_skip (fun a ha111 => ?_)
     exact ⟨((), A14), ha111.sb, ⟨rfl, hH, hr71⟩⟩
    rintro ⟨s70, A75⟩ w72 ⟨rfl, hH76, hk73⟩ a ha74
    rw [Lp.andThen_fin] at ho25
    replace hr27 := Tr.trans hr27 hk73; replace hA := hk73.new; replace hH := hH76
    obtain rfl := Oi ho25
    exact ⟨((), A75), ha74.sb, ⟨rfl, hH, hr27⟩⟩
   rintro ⟨s26, A31⟩ w28 ⟨rfl, hH32, hk29⟩ a ha30
   rw [Lp.andThen_fin] at h17
   replace hr5 := Tr.trans hr5 hk29; replace hA := hk29.new; replace hH := hH32
   refine C_at (n := ⟨81, [], none⟩) (fun _ _ => rfl) ?_ ha30
   refine C_region (Vy (Y_addI rfl rfl) (Mm ?_))
   obtain rfl := Oi h17
   refine V_end (fun a ha113 => ?_)
   exact ⟨(), hlt20, h18, ⟨A31, ha113.sub ⟨rfl, rfl, rfl, rfl, Ws hlt20 hn23, trivial⟩, ⟨hH, hr5⟩⟩⟩
  refine C_exit (fun a ha114 => ?_)
  exact ⟨((), A14), ha114.sub trivial, ⟨(h21 (eq_of_dec hle19 hc24)).symm, hH, hr5⟩⟩
 rintro ⟨s4, A10⟩ w7 ⟨rfl, hH11, hk8⟩ a ha9
 rw [Lp.andThen_fin] at hm
 replace hK := Tr.trans hK hk8; replace hA := hk8.new; replace hH := hH11
 refine C_at (n := ⟨81, [], none⟩) (fun _ _ => rfl) ?_ ha9
 refine Sr (As (To ?_))
 obtain rfl := Oi hm
 refine Rt (Res.one results136 rfl) ?_
 exact ⟨rfl, hK.kp⟩
theorem portref2_CalendarFault_c (w : World) {A : Nat → Prop} (hA : ∀ b, w.heap.size ≤ b → A b) (c : cal_Calendar) (v_c0 : Value) (h_c0 : Sl A w v_c0 c.zone.changes) (v_c1 : Value) (h_c1 : Sl A w v_c1 c.week) (v_c2 : Value) (h_c2 : Sl A w v_c2 c.specials) {r : Int} (hm : portref2_CalendarFault c = some r) : Ret prog 112 #[.agg #[Ii c.zone.offset, v_c0, v_c1, v_c2]] w fun v w' => v = Ii r ∧ Kp Dw w w' := by
 unfold portref2_CalendarFault at hm
 refine enter func112 rfl ntmps112 rfl ?_
 have hA0 := hA
 obtain ⟨hB, hK, hH⟩ := St (Dw := Dw) hA
 refine Sr ?_
 refine V_box rfl rfl ?_
 intro b7 w9 h10
 have hk12 := h10.kp (Dw := Dw)
 have h11 : El (α := cal_Calendar) A w9 b7 0 c := h10.el hA ⟨[Ii c.zone.offset, v_c0], _, rfl, ⟨[Ii c.zone.offset], _, rfl, rfl, ⟨_, rfl, h_c0⟩⟩, ⟨[v_c1], _, rfl, ⟨_, rfl, h_c1⟩, ⟨_, rfl, h_c2⟩⟩⟩
 have ht13 := Kp.tr hk12 hA hB; replace hH := Hp.kp hH hk12; replace hK := Tt hK ht13; replace hB := Bx hB ht13; replace hA := ht13.new
 refine As (To ?_)
 refine C_seq (Sr ?_)
 have h14 := El_cal_Calendar_0 h11
 refine Fa underlying68 rfl sizeOf64 ?_
 obtain ⟨v15, h17, h16⟩ := El_cal_Zone h14
 refine Vy (Y_loadA h17 isAgg64 sizeOf64 rfl) ?_
 obtain ⟨x18, hx18, hm⟩ := Bs hm
 refine Vc call135 (portref2_ZoneFault_c (Dw := Dw) w9 hA c.zone v15 h16 hx18) ?_
 rintro _ w19 ⟨rfl, hk20⟩
 have ht21 := Kp.tr hk20 hA hB; replace hH := Hp.kp hH hk20; replace h11 := El.tr h11 ht21; replace hK := Tt hK ht21; replace hB := Bx hB ht21; replace hA := ht21.new
 refine As (To ?_)
 refine Sr (Mm (Vy (Y_neq rfl rfl) (To ?_)))
 refine Cc (fun hc22 => ?_) fun hc22 => ?_
 ·rw [if_pos hc22] at hm
  refine Sr (Mm (As (To ?_)))
  obtain rfl := Oi hm
  refine Rt (Res.one results112 rfl) ?_
  exact ⟨rfl, hK.kp⟩
 rw [if_neg (nt hc22)] at hm
 refine Sk ?_
 refine C_seq (Sr ?_)
 have h23 := El_cal_Calendar_1 h11
 refine Fa underlying68 rfl sizeOf65 ?_
 obtain ⟨v24, h25, h26⟩ := El.list h23
 refine Ld h25 isAgg65 (Vy (Y_lenSl h26 rfl underlying65 rfl) (Vy (Y_gtr rfl rfl) (Mm ?_)))
 refine V_cut 5 (fun _ : Unit => [(1, Pt b7), (23, .bool ((decide ((60 : Int) < (c.week.length : Int))) || (decide ((200 : Int) < (c.specials.length : Int)))))]) (fun _ w' => w19 = w') ?_ ?_
 ·simp only [List.take, List.drop]
  rcases Be (decide ((60 : Int) < (c.week.length : Int))) with hc27 | hc27
  ·refine Gm hc27 (Gm hc27 (Gm hc27 (Gm hc27 (Vy (Y_pick_te rfl hc27 rfl) ?_))))
   exact V_end fun a ha => ⟨(), ha.sub ⟨rfl, (by rw [hc27]; rfl), trivial⟩, rfl⟩
  refine Gf hc27 ?_
  have h29 := El_cal_Calendar_2 h11
  refine Fa underlying68 rfl sizeOf66 (Gf hc27 ?_)
  obtain ⟨v30, h31, h32⟩ := El.list h29
  refine Ld h31 isAgg66 (Gf hc27 (Vy (Y_lenSl h32 rfl underlying66 rfl) (Gf hc27 (Vy (Y_gtr rfl rfl) (Vy (Y_pick_fe rfl hc27 rfl) ?_)))))
  exact V_end fun a ha => ⟨(), ha.sub ⟨rfl, (by rw [hc27]; rfl), trivial⟩, rfl⟩
 simp only [List.take, List.drop]
 rintro _ _ rfl
 refine To ?_
 refine Cc (fun hc33 => ?_) fun hc33 => ?_
 ·rw [if_pos hc33] at hm
  refine Sr (As (To ?_))
  obtain rfl := Oi hm
  refine Rt (Res.one results112 rfl) ?_
  exact ⟨rfl, hK.kp⟩
 rw [if_neg (nt hc33)] at hm
 refine Sk ?_
 refine C_seq (Sr ?_)
 have h34 := El_cal_Calendar_1 h11
 refine Fa underlying68 rfl sizeOf65 ?_
 obtain ⟨v35, h36, h37⟩ := El.list h34
 refine Ld h36 isAgg65 ?_
 obtain ⟨x38, hx38, hm⟩ := Bs hm
 refine Vc call136 (portref2_shiftFault_c (Dw := Dw) w19 hA c.week v35 h37 true hx38) ?_
 rintro _ w39 ⟨rfl, hk40⟩
 have ht41 := Kp.tr hk40 hA hB; replace hH := Hp.kp hH hk40; replace h11 := El.tr h11 ht41; replace hK := Tt hK ht41; replace hB := Bx hB ht41; replace hA := ht41.new
 refine As (To ?_)
 refine Sr (Mm (Vy (Y_neq rfl rfl) (To ?_)))
 refine Cc (fun hc42 => ?_) fun hc42 => ?_
 ·rw [if_pos hc42] at hm
  refine Sr (Mm (As (To ?_)))
  obtain rfl := Oi hm
  refine Rt (Res.one results112 rfl) ?_
  exact ⟨rfl, hK.kp⟩
 rw [if_neg (nt hc42)] at hm
 refine Sk ?_
 refine C_seq (Sr ?_)
 have h43 := El_cal_Calendar_2 h11
 refine Fa underlying68 rfl sizeOf66 ?_
 obtain ⟨v44, h45, h46⟩ := El.list h43
 refine Ld h45 isAgg66 (Vy (Y_lenSl h46 rfl underlying66 rfl) (Mm (To ?_)))
 have hn67 := Sl.le h46
 obtain ⟨o47, ho47, hm⟩ := Bs hm
 refine C_cutG (ι := (Unit × (Nat → Prop))) (fun ⟨s48, A54⟩ => []) (fun ⟨s48, A54⟩ => fun w' => o47 = .fin s48 ∧ Hp w.heap.size A54 w' ([]) ∧ Tr Dw w.heap.size A w39 A54 w') ?_ ?_
 ·refine C_block ?_
  refine C_range ho47 (fun k50 _ a w' => ∃ i : (Nat → Prop), Has ⟨74, [], none⟩ a ([(1, Pt b7), (31, v44), (32, Ii (c.specials.length : Int)), (33, Ii (k50 : Int))]) ∧ Hp w.heap.size i w' ([]) ∧ Tr Dw w.heap.size A w39 i w') (fun a ha => ⟨A, ha.sb, ⟨hH, Tr.refl (Dw := Dw) hA⟩⟩) ?_
  rintro K k50 _ a w57 ⟨A58, ha124, hH59, hr49⟩ hle63 K66 h65
  refine C_of ?_ ha124
  replace h11 := El.tr h11 hr49; replace h46 := Sl.tr h46 hr49; replace hK := Tt hK hr49; replace hB := Bx hB hr49; replace hA := hr49.new; replace hH := hH59
  refine Sr (Vy (Y_lss rfl rfl) (To ?_))
  refine C_seq ?_
  refine Cc (fun hc68 => ?_) fun hc68 => ?_
  ·have hlt64 := lt_of_dec hc68
   obtain ⟨x60, h61, h62⟩ := K66 hlt64
   refine Sk ?_
   refine C_seq (C_block (Sr (Mm ?_)))
   obtain ⟨x69, hx69, h61⟩ := Bs h61
   refine V_indexAddr h46 hx69 underlying66 sizeOf78 rfl rfl rfl ?_
   intro b70 o71 h72
   obtain ⟨v73, h75, h74⟩ := El_cal_Special h72
   refine Vy (Y_loadA h75 isAgg78 sizeOf78 rfl) ?_
   refine V_alloc zeroValue78 rfl ?_
   intro b76 w77 h78
   refine As ?_
   have h83 : (v73).oneCell' = true := by obtain ⟨_, _, e, _⟩ := Sl.form h74; rw [e]; rfl
   refine Sn h78 sizeOf78 ?_
   intro w79 h80
   have hk85 := h80.kp (Dw := Dw)
   have h84 : El (α := cal_Special) A58 w79 b76 0 x69 := h80.el hA ⟨[Ii x69.day], _, rfl, rfl, ⟨_, rfl, h74⟩⟩
   have ht86 := Kp.tr hk85 hA hB; replace hH := Hp.kp hH hk85; replace h11 := El.tr h11 ht86; replace hK := Tt hK ht86; replace hr49 := Tt hr49 ht86; replace hB := Bx hB ht86; replace hA := ht86.new
   refine To ?_
   refine C_seq (C_block (Sr ?_))
   have h87 := El_cal_Special_0 h84
   refine Fa underlying78 rfl sizeOf3 (Li h87 isAgg3 (Vy (Y_lss rfl rfl) (Mm ?_)))
   refine V_cut 4 (fun _ : Unit => [(1, Pt b7), (5, Ii (k50 : Int)), (6, Pt b76), (31, v44), (32, Ii (c.specials.length : Int)), (33, Ii (k50 : Int)), (46, .bool ((decide (x69.day < (-1))) || (decide ((2084 : Int) < x69.day))))]) (fun _ w' => w79 = w') ?_ ?_
   ·simp only [List.take, List.drop]
    rcases Be (decide (x69.day < (-1))) with hc88 | hc88
    ·refine Gm hc88 (Gm hc88 (Gm hc88 (Vy (Y_pick_te rfl hc88 rfl) ?_)))
     exact V_end fun a ha => ⟨(), ha.sub ⟨rfl, rfl, rfl, rfl, rfl, rfl, (by rw [hc88]; rfl), trivial⟩, rfl⟩
    refine Gf hc88 ?_
    have h90 := El_cal_Special_0 h84
    refine Fa underlying78 rfl sizeOf3 (Gf hc88 (Li h90 isAgg3 (Gf hc88 (Vy (Y_gtr rfl rfl) (Vy (Y_pick_fe rfl hc88 rfl) ?_)))))
    exact V_end fun a ha => ⟨(), ha.sub ⟨rfl, rfl, rfl, rfl, rfl, rfl, (by rw [hc88]; rfl), trivial⟩, rfl⟩
   simp only [List.take, List.drop]
   rintro _ _ rfl
   refine As (To ?_)
   refine Cc (fun hc91 => ?_) fun hc91 => ?_
   ·rw [if_pos hc91] at h61
    refine Sr (As (To ?_))
    obtain rfl := Oi h61
    obtain rfl := (h62 : Lp.rt _ = _)
    rw [Lp.andThen_rt] at hm
    obtain rfl := Oi hm
    refine Rt (Res.one results112 rfl) ?_
    exact ⟨rfl, hK.kp⟩
   rw [if_neg (nt hc91)] at h61
   refine C_seq ?_
   refine C_region_q (Dw := Dw) Tryz_mixed (by kernel_rfl) ?_
   refine Qm (Qv (fun w' hw' => Y_gtr rfl rfl) (Qm ?_))
   obtain ⟨s93, hs93, h61⟩ := Bs h61
   refine VQ_cut 11 (fun _ : Unit => [(1, Pt b7), (6, Pt b76), (31, v44), (32, Ii (c.specials.length : Int)), (33, Ii (k50 : Int)), (61, .bool s93)]) (fun _ => True) ?_ ?_
   ·simp only [List.take, List.drop]
    rcases Be (decide ((0 : Int) < (k50 : Int))) with hc92 | hc92
    ·rw [if_pos hc92] at hs93
     refine Qh hc92 ?_
     have h94 := El_cal_Special_0 h84
     refine Qf underlying78 rfl sizeOf3 (Qh hc92 (Qi h94 isAgg3 (Qh hc92 ?_)))
     have h95 := El_cal_Calendar_2 h11
     refine Qf underlying68 rfl sizeOf66 (Qh hc92 ?_)
     obtain ⟨v96, h97, h98⟩ := El.list h95
     refine Qc h97 isAgg66 (Qh hc92 (Qm (Qh hc92 (Qv (fun w' hw' => Y_subI rfl rfl) (Qh hc92 ?_)))))
     obtain ⟨x99, hx99, hs93⟩ := Bs hs93
     refine VQ_indexAddr h98 hx99 underlying66 sizeOf78 rfl rfl rfl ?_
     intro b100 o101 h102
     refine Qh hc92 ?_
     have h103 := El_cal_Special_0 h102
     refine Qf underlying78 rfl sizeOf3 (Qh hc92 (Qi h103 isAgg3 (Qh hc92 (Qv (fun w' hw' => Y_leq rfl rfl) ?_))))
     refine VQ_y (fun _ _ => Y_pick_te rfl hc92 rfl) rfl rfl rfl ?_
     obtain rfl := Oi hs93
     exact VQ_end fun a ha => ⟨(), ha.sb, trivial⟩
    rw [if_neg (nt hc92)] at hs93
    refine Qg hc92 (Qg hc92 (Qg hc92 (Qg hc92 (Qg hc92 (Qg hc92 (Qg hc92 (Qg hc92 (Qg hc92 (Qg hc92 ?_)))))))))
    refine VQ_y (fun _ _ => Y_pick_fe rfl hc92 rfl) rfl rfl rfl ?_
    obtain rfl := Oi hs93
    exact VQ_end fun a ha => ⟨(), ha.sb, trivial⟩
   simp only [List.take, List.drop]
   rintro _ _
   refine Qa ?_
   refine VQ_to (fun _ _ => rfl) (fun w104 hk105 => ?_)
   have ht106 := Kp.tr hk105 hA hB; replace hH := Hp.kp hH hk105; replace h84 := El.tr h84 ht106; replace hK := Tt hK ht106; replace hr49 := Tt hr49 ht106; replace hB := Bx hB ht106; replace hA := ht106.new
   refine Cc (fun hc107 => ?_) fun hc107 => ?_
   ·rw [if_pos hc107] at h61
    refine Sr (As (To ?_))
    obtain rfl := Oi h61
    obtain rfl := (h62 : Lp.rt _ = _)
    rw [Lp.andThen_rt] at hm
    obtain rfl := Oi hm
    refine Rt (Res.one results112 rfl) ?_
    exact ⟨rfl, hK.kp⟩
   rw [if_neg (nt hc107)] at h61
   refine Sr ?_
   have h108 := El_cal_Special_1 h84
   refine Fa underlying78 rfl sizeOf65 ?_
   obtain ⟨v109, h110, h111⟩ := El.list h108
   refine Ld h110 isAgg65 (Vy (Y_lenSl h111 rfl underlying65 rfl) (Vy (Y_gtr rfl rfl) (As (To ?_))))
   refine Cc (fun hc112 => ?_) fun hc112 => ?_
   ·rw [if_pos hc112] at h61
    refine Sr (As (To ?_))
    obtain rfl := Oi h61
    obtain rfl := (h62 : Lp.rt _ = _)
    rw [Lp.andThen_rt] at hm
    obtain rfl := Oi hm
    refine Rt (Res.one results112 rfl) ?_
    exact ⟨rfl, hK.kp⟩
   rw [if_neg (nt hc112)] at h61
   refine Sk ?_
   refine Sr ?_
   have h113 := El_cal_Special_1 h84
   refine Fa underlying78 rfl sizeOf65 ?_
   obtain ⟨v114, h115, h116⟩ := El.list h113
   refine Ld h115 isAgg65 ?_
   obtain ⟨x117, hx117, h61⟩ := Bs h61
   refine Vc call136 (portref2_shiftFault_c (Dw := Dw) w104 hA x69.shifts v114 h116 false hx117) ?_
   rintro _ w118 ⟨rfl, hk119⟩
   have ht120 := Kp.tr hk119 hA hB; replace hH := Hp.kp hH hk119; replace hK := Tt hK ht120; replace hr49 := Tt hr49 ht120
   refine As (To ?_)
   refine Sr (Mm (Vy (Y_neq rfl rfl) (To ?_)))
   refine Cc (fun hc121 => ?_) fun hc121 => ?_
   ·rw [if_pos hc121] at h61
    refine Sr (Mm (As (To ?_)))
    obtain rfl := Oi h61
    obtain rfl := (h62 : Lp.rt _ = _)
    rw [Lp.andThen_rt] at hm
    obtain rfl := Oi hm
    refine Rt (Res.one results112 rfl) ?_
    exact ⟨rfl, hK.kp⟩
   rw [if_neg (nt hc121)] at h61
   refine Sk ?_
   refine C_region (Vy (Y_addI rfl rfl) (Mm ?_))
   obtain rfl := Oi h61
   refine V_end (fun a ha122 => ?_)
   exact ⟨(), hlt64, h62, ⟨A58, ha122.sub ⟨rfl, rfl, rfl, Ws hlt64 hn67, trivial⟩, ⟨hH, hr49⟩⟩⟩
  refine C_exit (fun a ha123 => ?_)
  exact ⟨((), A58), ha123.sub trivial, ⟨(h65 (eq_of_dec hle63 hc68)).symm, hH, hr49⟩⟩
 rintro ⟨s48, A54⟩ w51 ⟨rfl, hH55, hk52⟩ a ha53
 rw [Lp.andThen_fin] at hm
 replace hK := Tr.trans hK hk52; replace hA := hk52.new; replace hH := hH55
 refine C_at (n := ⟨74, [], none⟩) (fun _ _ => rfl) ?_ ha53
 refine Sr (As (To ?_))
 obtain rfl := Oi hm
 refine Rt (Res.one results112 rfl) ?_
 exact ⟨rfl, hK.kp⟩
theorem portref2_CalsFault_c (w : World) {A : Nat → Prop} (hA : ∀ b, w.heap.size ≤ b → A b) (cals : (List cal_Calendar)) (v_cals : Value) (h_cals : Sl A w v_cals cals) (most : Int) {r : Int} (hm : portref2_CalsFault cals most = some r) : Ret prog 77 #[v_cals, Ii most] w fun v w' => v = Ii r ∧ Kp Dw w w' := by
 unfold portref2_CalsFault at hm
 refine enter func77 rfl ntmps77 rfl ?_
 have hA0 := hA
 obtain ⟨hB, hK, hH⟩ := St (Dw := Dw) hA
 refine Sr (As (To ?_))
 refine C_seq (Sr (Mm (Vy (Y_lenSl h_cals rfl underlying23 rfl) (Mm (Vy (Y_gtr rfl rfl) (To ?_))))))
 refine Cc (fun hc3 => ?_) fun hc3 => ?_
 ·rw [if_pos hc3] at hm
  refine Sr (As (To ?_))
  obtain rfl := Oi hm
  refine Rt (Res.one results77 rfl) ?_
  exact ⟨rfl, hK.kp⟩
 rw [if_neg (nt hc3)] at hm
 refine Sk ?_
 refine C_seq (Sr (Mm (Vy (Y_lenSl h_cals rfl underlying23 rfl) (Mm (To ?_)))))
 have hn25 := Sl.le h_cals
 obtain ⟨o4, ho4, hm⟩ := Bs hm
 refine C_cutG (ι := (Unit × (Nat → Prop))) (fun ⟨s5, A12⟩ => []) (fun ⟨s5, A12⟩ => fun w' => o4 = .fin s5 ∧ Hp w.heap.size A12 w' ([]) ∧ Tr Dw w.heap.size A w A12 w') ?_ ?_
 ·refine C_block ?_
  refine C_range ho4 (fun k7 _ a w' => ∃ i : (Nat → Prop), Has ⟨24, [], none⟩ a ([(12, v_cals), (13, Ii (cals.length : Int)), (14, Ii (k7 : Int))]) ∧ Hp w.heap.size i w' ([]) ∧ Tr Dw w.heap.size A w i w') (fun a ha => ⟨A, ha.sb, ⟨hH, Tr.refl (Dw := Dw) hA⟩⟩) ?_
  rintro K k7 _ a w15 ⟨A16, ha69, hH17, hr6⟩ hle21 K24 h23
  refine C_of ?_ ha69
  replace h_cals := Sl.tr h_cals hr6; replace hK := Tt hK hr6; replace hB := Bx hB hr6; replace hA := hr6.new; replace hH := hH17
  refine Sr (Vy (Y_lss rfl rfl) (To ?_))
  refine C_seq ?_
  refine Cc (fun hc26 => ?_) fun hc26 => ?_
  ·have hlt22 := lt_of_dec hc26
   obtain ⟨x18, h19, h20⟩ := K24 hlt22
   refine Sk ?_
   refine C_seq (C_block (Sr ?_))
   obtain ⟨x27, hx27, h19⟩ := Bs h19
   refine V_indexAddr h_cals hx27 underlying23 sizeOf68 rfl rfl rfl ?_
   intro b28 o29 h30
   obtain ⟨v31, v33, v35, h37, h32, h34, h36⟩ := El_cal_Calendar h30
   refine Vy (Y_loadA h37 isAgg68 sizeOf68 rfl) ?_
   refine V_alloc zeroValue68 rfl ?_
   intro b38 w39 h40
   have h45 : (v31).oneCell' = true := by obtain ⟨_, _, e, _⟩ := Sl.form h32; rw [e]; rfl
   have h48 : (v33).oneCell' = true := by obtain ⟨_, _, e, _⟩ := Sl.form h34; rw [e]; rfl
   have h51 : (v35).oneCell' = true := by obtain ⟨_, _, e, _⟩ := Sl.form h36; rw [e]; rfl
   refine Sn h40 sizeOf68 ?_
   intro w41 h42
   have hk53 := h42.kp (Dw := Dw)
   have h52 : El (α := cal_Calendar) A16 w41 b38 0 x27 := h42.el hA ⟨[Ii x27.zone.offset, v31], _, rfl, ⟨[Ii x27.zone.offset], _, rfl, rfl, ⟨_, rfl, h32⟩⟩, ⟨[v33], _, rfl, ⟨_, rfl, h34⟩, ⟨_, rfl, h36⟩⟩⟩
   have ht54 := Kp.tr hk53 hA hB; replace hH := Hp.kp hH hk53; replace hK := Tt hK ht54; replace hr6 := Tt hr6 ht54; replace hB := Bx hB ht54; replace hA := ht54.new
   refine To ?_
   refine Sr ?_
   obtain ⟨v55, v57, v59, h61, h56, h58, h60⟩ := El_cal_Calendar h52
   refine Vy (Y_loadA h61 isAgg68 sizeOf68 rfl) ?_
   obtain ⟨x62, hx62, h19⟩ := Bs h19
   refine Vc call112 (portref2_CalendarFault_c (Dw := Dw) w41 hA x27 v55 h56 v57 h58 v59 h60 hx62) ?_
   rintro _ w63 ⟨rfl, hk64⟩
   have ht65 := Kp.tr hk64 hA hB; replace hH := Hp.kp hH hk64; replace hK := Tt hK ht65; replace hr6 := Tt hr6 ht65
   refine As (To ?_)
   refine Sr (Mm (Vy (Y_neq rfl rfl) (To ?_)))
   refine Cc (fun hc66 => ?_) fun hc66 => ?_
   ·rw [if_pos hc66] at h19
    refine Sr (Mm (As (To ?_)))
    obtain rfl := Oi h19
    obtain rfl := (h20 : Lp.rt _ = _)
    rw [Lp.andThen_rt] at hm
    obtain rfl := Oi hm
    refine Rt (Res.one results77 rfl) ?_
    exact ⟨rfl, hK.kp⟩
   rw [if_neg (nt hc66)] at h19
   refine Sk ?_
   refine C_region (Vy (Y_addI rfl rfl) (Mm ?_))
   obtain rfl := Oi h19
   refine V_end (fun a ha67 => ?_)
   exact ⟨(), hlt22, h20, ⟨A16, ha67.sub ⟨rfl, rfl, Ws hlt22 hn25, trivial⟩, ⟨hH, hr6⟩⟩⟩
  refine C_exit (fun a ha68 => ?_)
  exact ⟨((), A16), ha68.sub trivial, ⟨(h23 (eq_of_dec hle21 hc26)).symm, hH, hr6⟩⟩
 rintro ⟨s5, A12⟩ w9 ⟨rfl, hH13, hk10⟩ a ha11
 rw [Lp.andThen_fin] at hm
 replace hK := Tr.trans hK hk10; replace hA := hk10.new; replace hH := hH13
 refine C_at (n := ⟨24, [], none⟩) (fun _ _ => rfl) ?_ ha11
 refine Sr (As (To ?_))
 obtain rfl := Oi hm
 refine Rt (Res.one results77 rfl) ?_
 exact ⟨rfl, hK.kp⟩
theorem slices_ContainsFunc_Lroute_Person_route_Person_c (w : World) {A : Nat → Prop} (hA : ∀ b, w.heap.size ≤ b → A b) (s : (List route_Person)) (v_s : Value) (h_s : Sl A w v_s s) (f : route_Person → Option Bool) (f_f : FuncId) (f_a f_c : Array Value) (f_call : ∀ (args : Array Value) (w : World), (callFunc f_f args).run prog w = .ok (.enter f_f args) w) (f_spec : ∀ (w1 : World) (A1 : Nat → Prop), Tr Dw w.heap.size A w A1 w1 → (∀ b, w1.heap.size ≤ b → A1 b) → ∀ (y0 : route_Person) (v1 : Value) (h2 : Sl A1 w1 v1 y0.skills) (r : Bool), f y0 = some r → Ret prog f_f (f_a ++ #[.agg #[Ii y0.no, Ii y0.capacity, Ii y0.calendar, v1]] ++ f_c) w1 fun v w' => v = .bool r ∧ Kp Dw w1 w') {r : Bool} (hm : slices_ContainsFunc_Lroute_Person_route_Person s f = some r) : Ret prog 78 #[v_s, .func (.func f_f) f_a f_c] w fun v w' => v = .bool r ∧ Kp Dw w w' := by
 unfold slices_ContainsFunc_Lroute_Person_route_Person at hm
 refine enter func78 rfl ntmps78 rfl ?_
 have hA0 := hA
 obtain ⟨hB, hK, hH⟩ := St (Dw := Dw) hA
 refine Sr (As (To ?_))
 refine Sr (Mm (Mm ?_))
 obtain ⟨x3, hx3, hm⟩ := Bs hm
 refine Vc call98 (slices_IndexFunc_Lroute_Person_route_Person_c (Dw := Dw) w hA s v_s h_s f f_f f_a f_c f_call (fun w1 A1 ht => f_spec w1 A1 (Tr.trans hK (Tr.lower (Dw := Dw) ht hB))) hx3) ?_
 rintro _ w4 ⟨rfl, hk5⟩
 have ht6 := Kp.tr hk5 hA hB; replace hK := Tt hK ht6
 refine Vy (Y_geq rfl rfl) (As (To ?_))
 obtain rfl := Oi hm
 refine Rt (Res.one results78 rfl) ?_
 exact ⟨rfl, hK.kp⟩
theorem portref2_dutyFault_1_c (w : World) {A : Nat → Prop} (hA : ∀ b, w.heap.size ≤ b → A b) (p : route_Person) (v_p : Value) (h_p : Sl A w v_p p.skills) (p1 : (List cal_Calendar)) (b_p1 : Nat) (h_p1 : El A w b_p1 0 p1) {r : Bool} (hm : portref2_dutyFault_1 p p1 = some r) : Ret prog 79 #[.agg #[Ii p.no, Ii p.capacity, Ii p.calendar, v_p], Pt b_p1] w fun v w' => v = .bool r ∧ Kp Dw w w' := by
 unfold portref2_dutyFault_1 at hm
 refine enter func79 rfl ntmps79 rfl ?_
 have hA0 := hA
 obtain ⟨hB, hK, hH⟩ := St (Dw := Dw) hA
 refine Sr ?_
 refine V_box rfl rfl ?_
 intro b3 w4 h5
 have hk7 := h5.kp (Dw := Dw)
 have h6 : El (α := route_Person) A w4 b3 0 p := h5.el hA ⟨[Ii p.no], _, rfl, rfl, ⟨[Ii p.capacity], _, rfl, rfl, ⟨[Ii p.calendar], _, rfl, rfl, ⟨_, rfl, h_p⟩⟩⟩⟩
 have ht8 := Kp.tr hk7 hA hB; replace h_p1 := El.tr h_p1 ht8; replace hK := Tt hK ht8
 refine As (To ?_)
 refine Sr ?_
 have h9 := El_route_Person_2 h6
 refine Fa underlying124 rfl sizeOf3 (Li h9 isAgg3 ?_)
 obtain ⟨v10, h11, h12⟩ := El.list h_p1
 refine Ld h11 isAgg23 (Vy (Y_lenSl h12 rfl underlying23 rfl) (Vy (Y_geq rfl rfl) (As (To ?_))))
 obtain rfl := Oi hm
 refine Rt (Res.one results79 rfl) ?_
 exact ⟨rfl, hK.kp⟩
theorem portref2_dutyFault_c (w : World) {A : Nat → Prop} (hA : ∀ b, w.heap.size ≤ b → A b) (people : (List route_Person)) (v_people : Value) (h_people : Sl A w v_people people) (cals : (List cal_Calendar)) (v_cals : Value) (h_cals : Sl A w v_cals cals) {r : Int} (hm : portref2_dutyFault people cals = some r) : Ret prog 19 #[v_people, v_cals] w fun v w' => v = Ii r ∧ Kp False w w' := by
 unfold portref2_dutyFault at hm
 refine enter func19 rfl ntmps19 rfl ?_
 have hA0 := hA
 obtain ⟨hB, hK, hH⟩ := St (Dw := False) hA
 refine Sr ?_
 refine V_box rfl rfl ?_
 intro b5 w6 h7
 have h12 : (v_cals).oneCell' = true := by obtain ⟨_, _, e, _⟩ := Sl.form h_cals; rw [e]; rfl
 have hk9 := h7.kp (Dw := False)
 have h8 : El (α := (List cal_Calendar)) A w6 b5 0 cals := h7.el hA (by rw [Value.cells_one h12]; exact ⟨_, rfl, h_cals⟩)
 have ht13 := Kp.tr hk9 hA hB; replace h_people := Sl.tr h_people ht13; replace hK := Tt hK ht13; replace hB := Bx hB ht13; replace hA := ht13.new
 refine As (To ?_)
 refine C_seq (Sr (Mm ?_))
 obtain ⟨x14, hx14, hm⟩ := Bs hm
 refine Vc call76 (portref2_PeopleFault_c w6 hA people v_people h_people hx14) ?_
 rintro _ w15 ⟨rfl, hk16⟩
 have ht17 := Kp.tr hk16 hA hB; replace h_people := Sl.tr h_people ht17; replace h8 := El.tr h8 ht17; replace hK := Tt hK ht17; replace hB := Bx hB ht17; replace hA := ht17.new
 refine As (To ?_)
 refine Sr (Mm (Vy (Y_neq rfl rfl) (To ?_)))
 refine Cc (fun hc18 => ?_) fun hc18 => ?_
 ·rw [if_pos hc18] at hm
  refine Sr (Mm (As (To ?_)))
  obtain rfl := Oi hm
  refine Rt (Res.one results19 rfl) ?_
  exact ⟨rfl, hK.kp⟩
 rw [if_neg (nt hc18)] at hm
 refine Sk ?_
 refine C_seq (Sr ?_)
 obtain ⟨v19, h20, h21⟩ := El.list h8
 refine Ld h20 isAgg23 ?_
 obtain ⟨x22, hx22, hm⟩ := Bs hm
 refine Vc call77 (portref2_CalsFault_c (Dw := False) w15 hA cals v19 h21 20 hx22) ?_
 rintro _ w23 ⟨rfl, hk24⟩
 have ht25 := Kp.tr hk24 hA hB; replace h_people := Sl.tr h_people ht25; replace h8 := El.tr h8 ht25; replace hK := Tt hK ht25; replace hB := Bx hB ht25; replace hA := ht25.new
 refine As (To ?_)
 refine Sr (Mm (Vy (Y_neq rfl rfl) (To ?_)))
 refine Cc (fun hc26 => ?_) fun hc26 => ?_
 ·rw [if_pos hc26] at hm
  refine Sr (Mm (As (To ?_)))
  obtain rfl := Oi hm
  refine Rt (Res.one results19 rfl) ?_
  exact ⟨rfl, hK.kp⟩
 rw [if_neg (nt hc26)] at hm
 refine Sk ?_
 refine C_seq (Sr (Mm (Vy (Y_makeFunc rfl rfl) ?_)))
 obtain ⟨x28, hx28, hm⟩ := Bs hm
 refine Vc call78 (slices_ContainsFunc_Lroute_Person_route_Person_c (Dw := False) w23 hA people v_people h_people (fun y38 => portref2_dutyFault_1 y38 cals) 79 #[] #[Pt b5] call79 (fun w34 A35 ht36 h37 y29 v30 h31 r32 h33 => (portref2_dutyFault_1_c (Dw := False) w34 h37 y29 v30 h31 cals b5 (El.tr h8 ht36) h33).mono (fun _ _ h => ⟨h.1, h.2⟩)) hx28) ?_
 rintro _ w39 ⟨rfl, hk40⟩
 have ht41 := Kp.tr hk40 hA hB; replace hK := Tt hK ht41
 refine To ?_
 refine Cc (fun hc42 => ?_) fun hc42 => ?_
 ·rw [if_pos hc42] at hm
  refine Sr (As (To ?_))
  obtain rfl := Oi hm
  refine Rt (Res.one results19 rfl) ?_
  exact ⟨rfl, hK.kp⟩
 rw [if_neg (nt hc42)] at hm
 refine Sk ?_
 refine Sr (As (To ?_))
 obtain rfl := Oi hm
 refine Rt (Res.one results19 rfl) ?_
 exact ⟨rfl, hK.kp⟩
theorem portref2_personAt_1_c (w : World) {A : Nat → Prop} (hA : ∀ b, w.heap.size ≤ b → A b) (p : route_Person) (v_p : Value) (h_p : Sl A w v_p p.skills) (p1 : Int) (b_p1 : Nat) (h_p1 : El A w b_p1 0 p1) {r : Bool} (hm : portref2_personAt_1 p p1 = some r) : Ret prog 113 #[.agg #[Ii p.no, Ii p.capacity, Ii p.calendar, v_p], Pt b_p1] w fun v w' => v = .bool r ∧ Kp Dw w w' := by
 unfold portref2_personAt_1 at hm
 refine enter func113 rfl ntmps113 rfl ?_
 have hA0 := hA
 obtain ⟨hB, hK, hH⟩ := St (Dw := Dw) hA
 refine Sr ?_
 refine V_box rfl rfl ?_
 intro b3 w4 h5
 have hk7 := h5.kp (Dw := Dw)
 have h6 : El (α := route_Person) A w4 b3 0 p := h5.el hA ⟨[Ii p.no], _, rfl, rfl, ⟨[Ii p.capacity], _, rfl, rfl, ⟨[Ii p.calendar], _, rfl, rfl, ⟨_, rfl, h_p⟩⟩⟩⟩
 have ht8 := Kp.tr hk7 hA hB; replace h_p1 := El.tr h_p1 ht8; replace hK := Tt hK ht8
 refine As (To ?_)
 refine Sr ?_
 have h9 := El_route_Person_0 h6
 refine Fa underlying124 rfl sizeOf3 (Li h9 isAgg3 (Li h_p1 isAgg3 (Vy (Y_eql rfl rfl) (As (To ?_)))))
 obtain rfl := Oi hm
 refine Rt (Res.one results113 rfl) ?_
 exact ⟨rfl, hK.kp⟩
theorem portref2_personAt_c (w : World) {A : Nat → Prop} (hA : ∀ b, w.heap.size ≤ b → A b) (people : (List route_Person)) (v_people : Value) (h_people : Sl A w v_people people) (no : Int) {r : Int} (hm : portref2_personAt people no = some r) : Ret prog 80 #[v_people, Ii no] w fun v w' => v = Ii r ∧ Kp Dw w w' := by
 unfold portref2_personAt at hm
 refine enter func80 rfl ntmps80 rfl ?_
 have hA0 := hA
 obtain ⟨hB, hK, hH⟩ := St (Dw := Dw) hA
 refine Sr ?_
 refine V_box rfl rfl ?_
 intro b3 w4 h5
 have hk7 := h5.kp (Dw := Dw)
 have h6 : El (α := Int) A w4 b3 0 no := h5.el hA rfl
 have ht8 := Kp.tr hk7 hA hB; replace h_people := Sl.tr h_people ht8; replace hK := Tt hK ht8; replace hB := Bx hB ht8; replace hA := ht8.new
 refine As (To ?_)
 refine Sr (Mm (Vy (Y_makeFunc rfl rfl) ?_))
 obtain ⟨x10, hx10, hm⟩ := Bs hm
 refine Vc call98 (slices_IndexFunc_Lroute_Person_route_Person_c (Dw := Dw) w4 hA people v_people h_people (fun y21 => portref2_personAt_1 y21 no) 113 #[] #[Pt b3] call113 (fun w17 A18 ht19 h20 y11 v12 h13 r14 h15 => (portref2_personAt_1_c (Dw := Dw) w17 h20 y11 v12 h13 no b3 (El.tr h6 ht19) h15).mono (fun _ _ h => ⟨h.1, h.2⟩)) hx10) ?_
 rintro _ w22 ⟨rfl, hk23⟩
 have ht24 := Kp.tr hk23 hA hB; replace hK := Tt hK ht24
 refine As (To ?_)
 obtain rfl := Oi hm
 refine Rt (Res.one results80 rfl) ?_
 exact ⟨rfl, hK.kp⟩
theorem portref2_IsMoment_c (w : World) (m : Int) : Ret prog 23 #[Ii m] w fun v w' => v = .bool (portref2_IsMoment m) ∧ w = w' := by
 generalize hm : portref2_IsMoment m = r
 unfold portref2_IsMoment at hm
 refine enter func23 rfl ntmps23 rfl ?_
 refine Sr (As (To ?_))
 refine Sr (Mm (Vy (Y_geq rfl rfl) (Mm ?_)))
 refine V_cut 3 (fun _ : Unit => [(8, .bool ((decide ((0 : Int) ≤ m)) && (decide (m ≤ 3000000))))]) (fun _ w' => w = w') ?_ ?_
 ·simp only [List.take, List.drop]
  rcases Be (decide ((0 : Int) ≤ m)) with hc1 | hc1
  ·refine Gf hc1 (Mm (Gf hc1 (Vy (Y_leq rfl rfl) (Vy (Y_pick_te rfl hc1 rfl) ?_))))
   exact V_end fun a ha => ⟨(), ha.sub ⟨(by rw [hc1]; rfl), trivial⟩, rfl⟩
  refine Gm hc1 (Gm hc1 (Vy (Y_pick_fe rfl hc1 rfl) ?_))
  exact V_end fun a ha => ⟨(), ha.sub ⟨(by rw [hc1]; rfl), trivial⟩, rfl⟩
 simp only [List.take, List.drop]
 rintro _ _ rfl
 refine As (To ?_)
 obtain rfl := hm
 refine Rt (Res.one results23 rfl) ?_
 exact ⟨rfl, rfl⟩
theorem portref2_heldAlone_c (w : World) {A : Nat → Prop} (hA : ∀ b, w.heap.size ≤ b → A b) (people : (List route_Person)) (v_people : Value) (h_people : Sl A w v_people people) (l : (List route_Held)) (v_l : Value) (h_l : Sl A w v_l l) {r : Int} (hm : portref2_heldAlone people l = some r) : Ret prog 20 #[v_people, v_l] w fun v w' => v = Ii r ∧ Kp Dw w w' := by
 unfold portref2_heldAlone at hm
 refine enter func20 rfl ntmps20 rfl ?_
 have hA0 := hA
 obtain ⟨hB, hK, hH⟩ := St (Dw := Dw) hA
 refine Sr (As (To ?_))
 refine C_seq (Sr (Mm (Vy (Y_lenSl h_l rfl underlying24 rfl) (Vy (Y_gtr rfl rfl) (To ?_)))))
 refine Cc (fun hc5 => ?_) fun hc5 => ?_
 ·rw [if_pos hc5] at hm
  refine Sr (As (To ?_))
  obtain rfl := Oi hm
  refine Rt (Res.one results20 rfl) ?_
  exact ⟨rfl, hK.kp⟩
 rw [if_neg (nt hc5)] at hm
 refine Sk ?_
 refine C_seq (Sr (Mm (Vy (Y_lenSl h_l rfl underlying24 rfl) (Mm (To ?_)))))
 have hn27 := Sl.le h_l
 obtain ⟨o6, ho6, hm⟩ := Bs hm
 refine C_cutG (ι := (Unit × (Nat → Prop))) (fun ⟨s7, A13⟩ => []) (fun ⟨s7, A13⟩ => fun w' => o6 = .fin s7 ∧ Hp w.heap.size A13 w' ([]) ∧ Tr Dw w.heap.size A w A13 w') ?_ ?_
 ·refine C_block ?_
  refine C_range ho6 (fun k9 _ a w' => ∃ i : (Nat → Prop), Has ⟨62, [], none⟩ a ([(0, v_people), (1, v_l), (10, v_l), (11, Ii (l.length : Int)), (12, Ii (k9 : Int))]) ∧ Hp w.heap.size i w' ([]) ∧ Tr Dw w.heap.size A w i w') (fun a ha => ⟨A, ha.sb, ⟨hH, Tr.refl (Dw := Dw) hA⟩⟩) ?_
  rintro K k9 _ a w17 ⟨A18, ha75, hH19, hr8⟩ hle23 K26 h25
  refine C_of ?_ ha75
  replace h_people := Sl.tr h_people hr8; replace h_l := Sl.tr h_l hr8; replace hK := Tt hK hr8; replace hB := Bx hB hr8; replace hA := hr8.new; replace hH := hH19
  refine Sr (Vy (Y_lss rfl rfl) (To ?_))
  refine C_seq ?_
  refine Cc (fun hc28 => ?_) fun hc28 => ?_
  ·have hlt24 := lt_of_dec hc28
   obtain ⟨x20, h21, h22⟩ := K26 hlt24
   refine Sk ?_
   refine C_seq (C_block (Sr (Mm ?_)))
   obtain ⟨x29, hx29, h21⟩ := Bs h21
   refine V_indexAddr h_l hx29 underlying24 sizeOf32 rfl rfl rfl ?_
   intro b30 o31 h32
   obtain ⟨h33, _⟩ := El_route_Held h32
   refine Vy (Y_loadA h33 isAgg32 sizeOf32 rfl) ?_
   refine V_alloc zeroValue32 rfl ?_
   intro b34 w35 h36
   refine As ?_
   refine Sn h36 sizeOf32 ?_
   intro w37 h38
   have hk40 := h38.kp (Dw := Dw)
   have h39 : El (α := route_Held) A18 w37 b34 0 x29 := h38.el hA ⟨[Ii x29.ticket], _, rfl, rfl, ⟨[Ii x29.person], _, rfl, rfl, ⟨[Ii x29.weight], _, rfl, rfl, rfl⟩⟩⟩
   have ht41 := Kp.tr hk40 hA hB; replace hH := Hp.kp hH hk40; replace h_people := Sl.tr h_people ht41; replace h_l := Sl.tr h_l ht41; replace hK := Tt hK ht41; replace hr8 := Tt hr8 ht41; replace hB := Bx hB ht41; replace hA := ht41.new
   refine To ?_
   refine C_block (Sr ?_)
   have h42 := El_route_Held_0 h39
   refine Fa underlying32 rfl sizeOf3 (Li h42 isAgg3 (Vy (Y_lss rfl rfl) (Mm ?_)))
   refine V_cut 4 (fun _ : Unit => [(0, v_people), (1, v_l), (5, Ii (k9 : Int)), (6, Pt b34), (10, v_l), (11, Ii (l.length : Int)), (12, Ii (k9 : Int)), (25, .bool ((decide (x29.ticket < 1)) || (decide ((400 : Int) < x29.ticket))))]) (fun _ w' => w37 = w') ?_ ?_
   ·simp only [List.take, List.drop]
    rcases Be (decide (x29.ticket < 1)) with hc43 | hc43
    ·refine Gm hc43 (Gm hc43 (Gm hc43 (Vy (Y_pick_te rfl hc43 rfl) ?_)))
     exact V_end fun a ha => ⟨(), ha.sub ⟨rfl, rfl, rfl, rfl, rfl, rfl, rfl, (by rw [hc43]; rfl), trivial⟩, rfl⟩
    refine Gf hc43 ?_
    have h45 := El_route_Held_0 h39
    refine Fa underlying32 rfl sizeOf3 (Gf hc43 (Li h45 isAgg3 (Gf hc43 (Vy (Y_gtr rfl rfl) (Vy (Y_pick_fe rfl hc43 rfl) ?_)))))
    exact V_end fun a ha => ⟨(), ha.sub ⟨rfl, rfl, rfl, rfl, rfl, rfl, rfl, (by rw [hc43]; rfl), trivial⟩, rfl⟩
   simp only [List.take, List.drop]
   rintro _ _ rfl
   refine As (To ?_)
   refine Cc (fun hc46 => ?_) fun hc46 => ?_
   ·rw [if_pos hc46] at h21
    refine Sr (As (To ?_))
    obtain rfl := Oi h21
    obtain rfl := (h22 : Lp.rt _ = _)
    rw [Lp.andThen_rt] at hm
    obtain rfl := Oi hm
    refine Rt (Res.one results20 rfl) ?_
    exact ⟨rfl, hK.kp⟩
   rw [if_neg (nt hc46)] at h21
   refine C_seq ?_
   refine C_region_q (Dw := Dw) Tryz_mixed (by kernel_rfl) ?_
   refine Qm (Qv (fun w' hw' => Y_gtr rfl rfl) (Qm ?_))
   obtain ⟨s48, hs48, h21⟩ := Bs h21
   refine VQ_cut 10 (fun _ : Unit => [(0, v_people), (1, v_l), (6, Pt b34), (10, v_l), (11, Ii (l.length : Int)), (12, Ii (k9 : Int)), (39, .bool s48)]) (fun _ => True) ?_ ?_
   ·simp only [List.take, List.drop]
    rcases Be (decide ((0 : Int) < (k9 : Int))) with hc47 | hc47
    ·rw [if_pos hc47] at hs48
     refine Qh hc47 ?_
     have h49 := El_route_Held_0 h39
     refine Qf underlying32 rfl sizeOf3 (Qh hc47 (Qi h49 isAgg3 (Qh hc47 (Qm (Qh hc47 (Qm (Qh hc47 (Qv (fun w' hw' => Y_subI rfl rfl) (Qh hc47 ?_)))))))))
     obtain ⟨x50, hx50, hs48⟩ := Bs hs48
     refine VQ_indexAddr h_l hx50 underlying24 sizeOf32 rfl rfl rfl ?_
     intro b51 o52 h53
     refine Qh hc47 ?_
     have h54 := El_route_Held_0 h53
     refine Qf underlying32 rfl sizeOf3 (Qh hc47 (Qi h54 isAgg3 (Qh hc47 (Qv (fun w' hw' => Y_leq rfl rfl) ?_))))
     refine VQ_y (fun _ _ => Y_pick_te rfl hc47 rfl) rfl rfl rfl ?_
     obtain rfl := Oi hs48
     exact VQ_end fun a ha => ⟨(), ha.sb, trivial⟩
    rw [if_neg (nt hc47)] at hs48
    refine Qg hc47 (Qg hc47 (Qg hc47 (Qg hc47 (Qg hc47 (Qg hc47 (Qg hc47 (Qg hc47 (Qg hc47 ?_))))))))
    refine VQ_y (fun _ _ => Y_pick_fe rfl hc47 rfl) rfl rfl rfl ?_
    obtain rfl := Oi hs48
    exact VQ_end fun a ha => ⟨(), ha.sb, trivial⟩
   simp only [List.take, List.drop]
   rintro _ _
   refine Qa ?_
   refine VQ_to (fun _ _ => rfl) (fun w55 hk56 => ?_)
   have ht57 := Kp.tr hk56 hA hB; replace hH := Hp.kp hH hk56; replace h_people := Sl.tr h_people ht57; replace h39 := El.tr h39 ht57; replace hK := Tt hK ht57; replace hr8 := Tt hr8 ht57; replace hB := Bx hB ht57; replace hA := ht57.new
   refine Cc (fun hc58 => ?_) fun hc58 => ?_
   ·rw [if_pos hc58] at h21
    refine Sr (As (To ?_))
    obtain rfl := Oi h21
    obtain rfl := (h22 : Lp.rt _ = _)
    rw [Lp.andThen_rt] at hm
    obtain rfl := Oi hm
    refine Rt (Res.one results20 rfl) ?_
    exact ⟨rfl, hK.kp⟩
   rw [if_neg (nt hc58)] at h21
   refine Sr (Mm ?_)
   have h59 := El_route_Held_1 h39
   refine Fa underlying32 rfl sizeOf3 (Li h59 isAgg3 ?_)
   obtain ⟨x60, hx60, h21⟩ := Bs h21
   refine Vc call80 (portref2_personAt_c (Dw := Dw) w55 hA people v_people h_people x29.person hx60) ?_
   rintro _ w61 ⟨rfl, hk62⟩
   have ht63 := Kp.tr hk62 hA hB; replace hH := Hp.kp hH hk62; replace h39 := El.tr h39 ht63; replace hK := Tt hK ht63; replace hr8 := Tt hr8 ht63
   refine Vy (Y_lss rfl rfl) (As (To ?_))
   refine Cc (fun hc64 => ?_) fun hc64 => ?_
   ·rw [if_pos hc64] at h21
    refine Sr (As (To ?_))
    obtain rfl := Oi h21
    obtain rfl := (h22 : Lp.rt _ = _)
    rw [Lp.andThen_rt] at hm
    obtain rfl := Oi hm
    refine Rt (Res.one results20 rfl) ?_
    exact ⟨rfl, hK.kp⟩
   rw [if_neg (nt hc64)] at h21
   refine Sr ?_
   have h65 := El_route_Held_2 h39
   refine Fa underlying32 rfl sizeOf3 (Li h65 isAgg3 (Vy (Y_lss rfl rfl) (Mm ?_)))
   refine V_cut 4 (fun _ : Unit => [(0, v_people), (1, v_l), (6, Pt b34), (10, v_l), (11, Ii (l.length : Int)), (12, Ii (k9 : Int)), (54, .bool ((decide (x29.weight < 1)) || (decide ((20 : Int) < x29.weight))))]) (fun _ w' => w61 = w') ?_ ?_
   ·simp only [List.take, List.drop]
    rcases Be (decide (x29.weight < 1)) with hc66 | hc66
    ·refine Gm hc66 (Gm hc66 (Gm hc66 (Vy (Y_pick_te rfl hc66 rfl) ?_)))
     exact V_end fun a ha => ⟨(), ha.sub ⟨rfl, rfl, rfl, rfl, rfl, rfl, (by rw [hc66]; rfl), trivial⟩, rfl⟩
    refine Gf hc66 ?_
    have h68 := El_route_Held_2 h39
    refine Fa underlying32 rfl sizeOf3 (Gf hc66 (Li h68 isAgg3 (Gf hc66 (Vy (Y_gtr rfl rfl) (Vy (Y_pick_fe rfl hc66 rfl) ?_)))))
    exact V_end fun a ha => ⟨(), ha.sub ⟨rfl, rfl, rfl, rfl, rfl, rfl, (by rw [hc66]; rfl), trivial⟩, rfl⟩
   simp only [List.take, List.drop]
   rintro _ _ rfl
   refine Mm ?_
   refine V_cut 5 (fun _ : Unit => [(0, v_people), (1, v_l), (10, v_l), (11, Ii (l.length : Int)), (12, Ii (k9 : Int)), (60, .bool (((decide (x29.weight < 1)) || (decide ((20 : Int) < x29.weight))) || (!(portref2_IsMoment x29.since))))]) (fun _ w' => w61 = w') ?_ ?_
   ·simp only [List.take, List.drop]
    rcases Be (((decide (x29.weight < 1)) || (decide ((20 : Int) < x29.weight)))) with hc69 | hc69
    ·refine Gm hc69 (Gm hc69 (Gm hc69 (Gm hc69 (Vy (Y_pick_te rfl hc69 rfl) ?_))))
     exact V_end fun a ha => ⟨(), ha.sub ⟨rfl, rfl, rfl, rfl, rfl, (by rw [hc69]; rfl), trivial⟩, rfl⟩
    refine Gf hc69 ?_
    have h71 := El_route_Held_3 h39
    refine Fa underlying32 rfl sizeOf3 (Gf hc69 (Li h71 isAgg3 (Gf hc69 ?_)))
    refine Vc call23 (portref2_IsMoment_c w61 x29.since) ?_
    rintro _ _ ⟨rfl, rfl⟩
    refine Gf hc69 (Vy (Y_not rfl) (Vy (Y_pick_fe rfl hc69 rfl) ?_))
    exact V_end fun a ha => ⟨(), ha.sub ⟨rfl, rfl, rfl, rfl, rfl, (by rw [hc69]; rfl), trivial⟩, rfl⟩
   simp only [List.take, List.drop]
   rintro _ _ rfl
   refine As (To ?_)
   refine Cc (fun hc72 => ?_) fun hc72 => ?_
   ·rw [if_pos hc72] at h21
    refine Sr (As (To ?_))
    obtain rfl := Oi h21
    obtain rfl := (h22 : Lp.rt _ = _)
    rw [Lp.andThen_rt] at hm
    obtain rfl := Oi hm
    refine Rt (Res.one results20 rfl) ?_
    exact ⟨rfl, hK.kp⟩
   rw [if_neg (nt hc72)] at h21
   refine Sk ?_
   refine C_region (Vy (Y_addI rfl rfl) (Mm ?_))
   obtain rfl := Oi h21
   refine V_end (fun a ha73 => ?_)
   exact ⟨(), hlt24, h22, ⟨A18, ha73.sub ⟨rfl, rfl, rfl, rfl, Ws hlt24 hn27, trivial⟩, ⟨hH, hr8⟩⟩⟩
  refine C_exit (fun a ha74 => ?_)
  exact ⟨((), A18), ha74.sub trivial, ⟨(h25 (eq_of_dec hle23 hc28)).symm, hH, hr8⟩⟩
 rintro ⟨s7, A13⟩ w10 ⟨rfl, hH14, hk11⟩ a ha12
 rw [Lp.andThen_fin] at hm
 replace hK := Tr.trans hK hk11; replace hA := hk11.new; replace hH := hH14
 refine C_at (n := ⟨62, [], none⟩) (fun _ _ => rfl) ?_ ha12
 refine Sr (As (To ?_))
 obtain rfl := Oi hm
 refine Rt (Res.one results20 rfl) ?_
 exact ⟨rfl, hK.kp⟩
theorem portref2_WorkFault_1_c (w : World) {A : Nat → Prop} (hA : ∀ b, w.heap.size ≤ b → A b) (x : route_Work) (v_x : Value) (h_x : Sl A w v_x x.needs) (p1 : route_Work) (b_p1 : Nat) (h_p1 : El A w b_p1 0 p1) {r : Bool} (hm : portref2_WorkFault_1 x p1 = some r) : Ret prog 81 #[.agg #[Ii x.ticket, Ii x.weight, Ii x.urgency, Ii x.since, Ii x.former, v_x], Pt b_p1] w fun v w' => v = .bool r ∧ Kp Dw w w' := by
 unfold portref2_WorkFault_1 at hm
 refine enter func81 rfl ntmps81 rfl ?_
 have hA0 := hA
 obtain ⟨hB, hK, hH⟩ := St (Dw := Dw) hA
 refine Sr ?_
 refine V_box rfl rfl ?_
 intro b3 w4 h5
 have hk7 := h5.kp (Dw := Dw)
 have h6 : El (α := route_Work) A w4 b3 0 x := h5.el hA ⟨[Ii x.ticket], _, rfl, rfl, ⟨[Ii x.weight], _, rfl, rfl, ⟨[Ii x.urgency], _, rfl, rfl, ⟨[Ii x.since], _, rfl, rfl, ⟨[Ii x.former], _, rfl, rfl, ⟨_, rfl, h_x⟩⟩⟩⟩⟩⟩
 have ht8 := Kp.tr hk7 hA hB; replace h_p1 := El.tr h_p1 ht8; replace hK := Tt hK ht8
 refine As (To ?_)
 refine Sr ?_
 have h9 := El_route_Work_0 h6
 refine Fa underlying43 rfl sizeOf3 (Li h9 isAgg3 ?_)
 have h10 := El_route_Work_0 h_p1
 refine Fa underlying43 rfl sizeOf3 (Li h10 isAgg3 (Vy (Y_eql rfl rfl) (As (To ?_))))
 obtain rfl := Oi hm
 refine Rt (Res.one results81 rfl) ?_
 exact ⟨rfl, hK.kp⟩
theorem portref2_WorkFault_c (w : World) {A : Nat → Prop} (hA : ∀ b, w.heap.size ≤ b → A b) (l : (List route_Work)) (v_l : Value) (h_l : Sl A w v_l l) {r : Int} (hm : portref2_WorkFault l = some r) : Ret prog 21 #[v_l] w fun v w' => v = Ii r ∧ Kp False w w' := by
 unfold portref2_WorkFault at hm
 refine enter func21 rfl ntmps21 rfl ?_
 have hA0 := hA
 obtain ⟨hB, hK, hH⟩ := St (Dw := False) hA
 refine Sr (As (To ?_))
 refine C_seq (Sr (Mm (Vy (Y_lenSl h_l rfl underlying25 rfl) (Vy (Y_gtr rfl rfl) (To ?_)))))
 refine Cc (fun hc3 => ?_) fun hc3 => ?_
 ·rw [if_pos hc3] at hm
  refine Sr (As (To ?_))
  obtain rfl := Oi hm
  refine Rt (Res.one results21 rfl) ?_
  exact ⟨rfl, hK.kp⟩
 rw [if_neg (nt hc3)] at hm
 refine Sk ?_
 refine C_seq (Sr (Mm (Vy (Y_lenSl h_l rfl underlying25 rfl) (Mm (To ?_)))))
 have hn25 := Sl.le h_l
 obtain ⟨o4, ho4, hm⟩ := Bs hm
 refine C_cutG (ι := (Unit × (Nat → Prop))) (fun ⟨s5, A12⟩ => []) (fun ⟨s5, A12⟩ => fun w' => o4 = .fin s5 ∧ Hp w.heap.size A12 w' ([]) ∧ Tr False w.heap.size A w A12 w') ?_ ?_
 ·refine C_block ?_
  refine C_range ho4 (fun k7 _ a w' => ∃ i : (Nat → Prop), Has ⟨73, [], none⟩ a ([(0, v_l), (9, v_l), (10, Ii (l.length : Int)), (11, Ii (k7 : Int))]) ∧ Hp w.heap.size i w' ([]) ∧ Tr False w.heap.size A w i w') (fun a ha => ⟨A, ha.sb, ⟨hH, Tr.refl (Dw := False) hA⟩⟩) ?_
  rintro K k7 _ a w15 ⟨A16, ha100, hH17, hr6⟩ hle21 K24 h23
  refine C_of ?_ ha100
  replace h_l := Sl.tr h_l hr6; replace hK := Tt hK hr6; replace hB := Bx hB hr6; replace hA := hr6.new; replace hH := hH17
  refine Sr (Vy (Y_lss rfl rfl) (To ?_))
  refine C_seq ?_
  refine Cc (fun hc26 => ?_) fun hc26 => ?_
  ·have hlt22 := lt_of_dec hc26
   obtain ⟨x18, h19, h20⟩ := K24 hlt22
   refine Sk ?_
   refine C_seq (C_block (Sr (Mm ?_)))
   obtain ⟨x27, hx27, h19⟩ := Bs h19
   refine V_indexAddr h_l hx27 underlying25 sizeOf43 rfl rfl rfl ?_
   intro b28 o29 h30
   obtain ⟨v31, h33, h32⟩ := El_route_Work h30
   refine Vy (Y_loadA h33 isAgg43 sizeOf43 rfl) ?_
   refine V_alloc zeroValue43 rfl ?_
   intro b34 w35 h36
   refine As ?_
   have h41 : (v31).oneCell' = true := by obtain ⟨_, _, e, _⟩ := Sl.form h32; rw [e]; rfl
   refine Sn h36 sizeOf43 ?_
   intro w37 h38
   have hk43 := h38.kp (Dw := False)
   have h42 : El (α := route_Work) A16 w37 b34 0 x27 := h38.el hA ⟨[Ii x27.ticket], _, rfl, rfl, ⟨[Ii x27.weight], _, rfl, rfl, ⟨[Ii x27.urgency], _, rfl, rfl, ⟨[Ii x27.since], _, rfl, rfl, ⟨[Ii x27.former], _, rfl, rfl, ⟨_, rfl, h32⟩⟩⟩⟩⟩⟩
   have ht44 := Kp.tr hk43 hA hB; replace hH := Hp.kp hH hk43; replace h_l := Sl.tr h_l ht44; replace hK := Tt hK ht44; replace hr6 := Tt hr6 ht44; replace hB := Bx hB ht44; replace hA := ht44.new
   refine To ?_
   refine C_seq (C_block (Sr ?_))
   have h45 := El_route_Work_0 h42
   refine Fa underlying43 rfl sizeOf3 (Li h45 isAgg3 (Vy (Y_lss rfl rfl) (Mm ?_)))
   refine V_cut 4 (fun _ : Unit => [(0, v_l), (3, Ii (k7 : Int)), (4, Pt b34), (9, v_l), (10, Ii (l.length : Int)), (11, Ii (k7 : Int)), (24, .bool ((decide (x27.ticket < 1)) || (decide ((400 : Int) < x27.ticket))))]) (fun _ w' => w37 = w') ?_ ?_
   ·simp only [List.take, List.drop]
    rcases Be (decide (x27.ticket < 1)) with hc46 | hc46
    ·refine Gm hc46 (Gm hc46 (Gm hc46 (Vy (Y_pick_te rfl hc46 rfl) ?_)))
     exact V_end fun a ha => ⟨(), ha.sub ⟨rfl, rfl, rfl, rfl, rfl, rfl, (by rw [hc46]; rfl), trivial⟩, rfl⟩
    refine Gf hc46 ?_
    have h48 := El_route_Work_0 h42
    refine Fa underlying43 rfl sizeOf3 (Gf hc46 (Li h48 isAgg3 (Gf hc46 (Vy (Y_gtr rfl rfl) (Vy (Y_pick_fe rfl hc46 rfl) ?_)))))
    exact V_end fun a ha => ⟨(), ha.sub ⟨rfl, rfl, rfl, rfl, rfl, rfl, (by rw [hc46]; rfl), trivial⟩, rfl⟩
   simp only [List.take, List.drop]
   rintro _ _ rfl
   refine As (To ?_)
   refine Cc (fun hc49 => ?_) fun hc49 => ?_
   ·rw [if_pos hc49] at h19
    refine Sr (As (To ?_))
    obtain rfl := Oi h19
    obtain rfl := (h20 : Lp.rt _ = _)
    rw [Lp.andThen_rt] at hm
    obtain rfl := Oi hm
    refine Rt (Res.one results21 rfl) ?_
    exact ⟨rfl, hK.kp⟩
   rw [if_neg (nt hc49)] at h19
   refine Sr (Mm (Mm ?_))
   obtain ⟨x50, hx50, h19⟩ := Bs h19
   obtain ⟨v51, h52, h52y⟩ := sliceL_val hx50 h_l
   refine Vy (Y_sliceLH h52y underlying25 sizeOf43 rfl rfl) (Vy (Y_makeFunc rfl rfl) ?_)
   obtain ⟨x54, hx54, h19⟩ := Bs h19
   refine Vc call24 (slices_ContainsFunc_Lroute_Work_route_Work_c (Dw := False) w37 hA x50 v51 h52 (fun y64 => portref2_WorkFault_1 y64 x27) 81 #[] #[Pt b34] call81 (fun w60 A61 ht62 h63 y55 v56 h57 r58 h59 => (portref2_WorkFault_1_c (Dw := False) w60 h63 y55 v56 h57 x27 b34 (El.tr h42 ht62) h59).mono (fun _ _ h => ⟨h.1, h.2⟩)) hx54) ?_
   rintro _ w65 ⟨rfl, hk66⟩
   have ht67 := Kp.tr hk66 hA hB; replace hH := Hp.kp hH hk66; replace h42 := El.tr h42 ht67; replace hK := Tt hK ht67; replace hr6 := Tt hr6 ht67; replace hB := Bx hB ht67; replace hA := ht67.new
   refine As (To ?_)
   refine Cc (fun hc68 => ?_) fun hc68 => ?_
   ·rw [if_pos hc68] at h19
    refine Sr (As (To ?_))
    obtain rfl := Oi h19
    obtain rfl := (h20 : Lp.rt _ = _)
    rw [Lp.andThen_rt] at hm
    obtain rfl := Oi hm
    refine Rt (Res.one results21 rfl) ?_
    exact ⟨rfl, hK.kp⟩
   rw [if_neg (nt hc68)] at h19
   refine Sr ?_
   have h69 := El_route_Work_1 h42
   refine Fa underlying43 rfl sizeOf3 (Li h69 isAgg3 (Vy (Y_lss rfl rfl) (Mm ?_)))
   refine V_cut 4 (fun _ : Unit => [(0, v_l), (4, Pt b34), (9, v_l), (10, Ii (l.length : Int)), (11, Ii (k7 : Int)), (39, .bool ((decide (x27.weight < 1)) || (decide ((20 : Int) < x27.weight))))]) (fun _ w' => w65 = w') ?_ ?_
   ·simp only [List.take, List.drop]
    rcases Be (decide (x27.weight < 1)) with hc70 | hc70
    ·refine Gm hc70 (Gm hc70 (Gm hc70 (Vy (Y_pick_te rfl hc70 rfl) ?_)))
     exact V_end fun a ha => ⟨(), ha.sub ⟨rfl, rfl, rfl, rfl, rfl, (by rw [hc70]; rfl), trivial⟩, rfl⟩
    refine Gf hc70 ?_
    have h72 := El_route_Work_1 h42
    refine Fa underlying43 rfl sizeOf3 (Gf hc70 (Li h72 isAgg3 (Gf hc70 (Vy (Y_gtr rfl rfl) (Vy (Y_pick_fe rfl hc70 rfl) ?_)))))
    exact V_end fun a ha => ⟨(), ha.sub ⟨rfl, rfl, rfl, rfl, rfl, (by rw [hc70]; rfl), trivial⟩, rfl⟩
   simp only [List.take, List.drop]
   rintro _ _ rfl
   refine Mm ?_
   refine V_cut 4 (fun _ : Unit => [(0, v_l), (4, Pt b34), (9, v_l), (10, Ii (l.length : Int)), (11, Ii (k7 : Int)), (44, .bool (((decide (x27.weight < 1)) || (decide ((20 : Int) < x27.weight))) || (decide (x27.urgency < 0))))]) (fun _ w' => w65 = w') ?_ ?_
   ·simp only [List.take, List.drop]
    rcases Be (((decide (x27.weight < 1)) || (decide ((20 : Int) < x27.weight)))) with hc73 | hc73
    ·refine Gm hc73 (Gm hc73 (Gm hc73 (Vy (Y_pick_te rfl hc73 rfl) ?_)))
     exact V_end fun a ha => ⟨(), ha.sub ⟨rfl, rfl, rfl, rfl, rfl, (by rw [hc73]; rfl), trivial⟩, rfl⟩
    refine Gf hc73 ?_
    have h75 := El_route_Work_2 h42
    refine Fa underlying43 rfl sizeOf3 (Gf hc73 (Li h75 isAgg3 (Gf hc73 (Vy (Y_lss rfl rfl) (Vy (Y_pick_fe rfl hc73 rfl) ?_)))))
    exact V_end fun a ha => ⟨(), ha.sub ⟨rfl, rfl, rfl, rfl, rfl, (by rw [hc73]; rfl), trivial⟩, rfl⟩
   simp only [List.take, List.drop]
   rintro _ _ rfl
   refine Mm ?_
   refine V_cut 4 (fun _ : Unit => [(0, v_l), (4, Pt b34), (9, v_l), (10, Ii (l.length : Int)), (11, Ii (k7 : Int)), (49, .bool ((((decide (x27.weight < 1)) || (decide ((20 : Int) < x27.weight))) || (decide (x27.urgency < 0))) || (decide ((9 : Int) < x27.urgency))))]) (fun _ w' => w65 = w') ?_ ?_
   ·simp only [List.take, List.drop]
    rcases Be ((((decide (x27.weight < 1)) || (decide ((20 : Int) < x27.weight))) || (decide (x27.urgency < 0)))) with hc76 | hc76
    ·refine Gm hc76 (Gm hc76 (Gm hc76 (Vy (Y_pick_te rfl hc76 rfl) ?_)))
     exact V_end fun a ha => ⟨(), ha.sub ⟨rfl, rfl, rfl, rfl, rfl, (by rw [hc76]; rfl), trivial⟩, rfl⟩
    refine Gf hc76 ?_
    have h78 := El_route_Work_2 h42
    refine Fa underlying43 rfl sizeOf3 (Gf hc76 (Li h78 isAgg3 (Gf hc76 (Vy (Y_gtr rfl rfl) (Vy (Y_pick_fe rfl hc76 rfl) ?_)))))
    exact V_end fun a ha => ⟨(), ha.sub ⟨rfl, rfl, rfl, rfl, rfl, (by rw [hc76]; rfl), trivial⟩, rfl⟩
   simp only [List.take, List.drop]
   rintro _ _ rfl
   refine Mm ?_
   refine V_cut 5 (fun _ : Unit => [(0, v_l), (4, Pt b34), (9, v_l), (10, Ii (l.length : Int)), (11, Ii (k7 : Int)), (55, .bool (((((decide (x27.weight < 1)) || (decide ((20 : Int) < x27.weight))) || (decide (x27.urgency < 0))) || (decide ((9 : Int) < x27.urgency))) || (!(portref2_IsMoment x27.since))))]) (fun _ w' => w65 = w') ?_ ?_
   ·simp only [List.take, List.drop]
    rcases Be (((((decide (x27.weight < 1)) || (decide ((20 : Int) < x27.weight))) || (decide (x27.urgency < 0))) || (decide ((9 : Int) < x27.urgency)))) with hc79 | hc79
    ·refine Gm hc79 (Gm hc79 (Gm hc79 (Gm hc79 (Vy (Y_pick_te rfl hc79 rfl) ?_))))
     exact V_end fun a ha => ⟨(), ha.sub ⟨rfl, rfl, rfl, rfl, rfl, (by rw [hc79]; rfl), trivial⟩, rfl⟩
    refine Gf hc79 ?_
    have h81 := El_route_Work_3 h42
    refine Fa underlying43 rfl sizeOf3 (Gf hc79 (Li h81 isAgg3 (Gf hc79 ?_)))
    refine Vc call23 (portref2_IsMoment_c w65 x27.since) ?_
    rintro _ _ ⟨rfl, rfl⟩
    refine Gf hc79 (Vy (Y_not rfl) (Vy (Y_pick_fe rfl hc79 rfl) ?_))
    exact V_end fun a ha => ⟨(), ha.sub ⟨rfl, rfl, rfl, rfl, rfl, (by rw [hc79]; rfl), trivial⟩, rfl⟩
   simp only [List.take, List.drop]
   rintro _ _ rfl
   refine Mm ?_
   refine V_cut 4 (fun _ : Unit => [(0, v_l), (4, Pt b34), (9, v_l), (10, Ii (l.length : Int)), (11, Ii (k7 : Int)), (60, .bool ((((((decide (x27.weight < 1)) || (decide ((20 : Int) < x27.weight))) || (decide (x27.urgency < 0))) || (decide ((9 : Int) < x27.urgency))) || (!(portref2_IsMoment x27.since))) || (decide (x27.former < 0))))]) (fun _ w' => w65 = w') ?_ ?_
   ·simp only [List.take, List.drop]
    rcases Be ((((((decide (x27.weight < 1)) || (decide ((20 : Int) < x27.weight))) || (decide (x27.urgency < 0))) || (decide ((9 : Int) < x27.urgency))) || (!(portref2_IsMoment x27.since)))) with hc82 | hc82
    ·refine Gm hc82 (Gm hc82 (Gm hc82 (Vy (Y_pick_te rfl hc82 rfl) ?_)))
     exact V_end fun a ha => ⟨(), ha.sub ⟨rfl, rfl, rfl, rfl, rfl, (by rw [hc82]; rfl), trivial⟩, rfl⟩
    refine Gf hc82 ?_
    have h84 := El_route_Work_4 h42
    refine Fa underlying43 rfl sizeOf3 (Gf hc82 (Li h84 isAgg3 (Gf hc82 (Vy (Y_lss rfl rfl) (Vy (Y_pick_fe rfl hc82 rfl) ?_)))))
    exact V_end fun a ha => ⟨(), ha.sub ⟨rfl, rfl, rfl, rfl, rfl, (by rw [hc82]; rfl), trivial⟩, rfl⟩
   simp only [List.take, List.drop]
   rintro _ _ rfl
   refine Mm ?_
   refine V_cut 4 (fun _ : Unit => [(0, v_l), (4, Pt b34), (9, v_l), (10, Ii (l.length : Int)), (11, Ii (k7 : Int)), (65, .bool (((((((decide (x27.weight < 1)) || (decide ((20 : Int) < x27.weight))) || (decide (x27.urgency < 0))) || (decide ((9 : Int) < x27.urgency))) || (!(portref2_IsMoment x27.since))) || (decide (x27.former < 0))) || (decide ((40 : Int) < x27.former))))]) (fun _ w' => w65 = w') ?_ ?_
   ·simp only [List.take, List.drop]
    rcases Be (((((((decide (x27.weight < 1)) || (decide ((20 : Int) < x27.weight))) || (decide (x27.urgency < 0))) || (decide ((9 : Int) < x27.urgency))) || (!(portref2_IsMoment x27.since))) || (decide (x27.former < 0)))) with hc85 | hc85
    ·refine Gm hc85 (Gm hc85 (Gm hc85 (Vy (Y_pick_te rfl hc85 rfl) ?_)))
     exact V_end fun a ha => ⟨(), ha.sub ⟨rfl, rfl, rfl, rfl, rfl, (by rw [hc85]; rfl), trivial⟩, rfl⟩
    refine Gf hc85 ?_
    have h87 := El_route_Work_4 h42
    refine Fa underlying43 rfl sizeOf3 (Gf hc85 (Li h87 isAgg3 (Gf hc85 (Vy (Y_gtr rfl rfl) (Vy (Y_pick_fe rfl hc85 rfl) ?_)))))
    exact V_end fun a ha => ⟨(), ha.sub ⟨rfl, rfl, rfl, rfl, rfl, (by rw [hc85]; rfl), trivial⟩, rfl⟩
   simp only [List.take, List.drop]
   rintro _ _ rfl
   refine As (To ?_)
   refine Cc (fun hc88 => ?_) fun hc88 => ?_
   ·rw [if_pos hc88] at h19
    refine Sr (As (To ?_))
    obtain rfl := Oi h19
    obtain rfl := (h20 : Lp.rt _ = _)
    rw [Lp.andThen_rt] at hm
    obtain rfl := Oi hm
    refine Rt (Res.one results21 rfl) ?_
    exact ⟨rfl, hK.kp⟩
   rw [if_neg (nt hc88)] at h19
   refine Sk ?_
   refine Sr ?_
   have h89 := El_route_Work_5 h42
   refine Fa underlying43 rfl sizeOf41 ?_
   obtain ⟨v90, h91, h92⟩ := El.list h89
   refine Ld h91 isAgg41 ?_
   obtain ⟨x93, hx93, h19⟩ := Bs h19
   refine Vc call82 (portref2_skillsFault_c w65 hA x27.needs v90 h92 hx93) ?_
   rintro _ w94 ⟨rfl, hk95⟩
   have ht96 := Kp.tr hk95 hA hB; replace hH := Hp.kp hH hk95; replace hK := Tt hK ht96; replace hr6 := Tt hr6 ht96
   refine As (To ?_)
   refine Sr (Mm (Vy (Y_neq rfl rfl) (To ?_)))
   refine Cc (fun hc97 => ?_) fun hc97 => ?_
   ·rw [if_pos hc97] at h19
    refine Sr (Mm (As (To ?_)))
    obtain rfl := Oi h19
    obtain rfl := (h20 : Lp.rt _ = _)
    rw [Lp.andThen_rt] at hm
    obtain rfl := Oi hm
    refine Rt (Res.one results21 rfl) ?_
    exact ⟨rfl, hK.kp⟩
   rw [if_neg (nt hc97)] at h19
   refine Sk ?_
   refine C_region (Vy (Y_addI rfl rfl) (Mm ?_))
   obtain rfl := Oi h19
   refine V_end (fun a ha98 => ?_)
   exact ⟨(), hlt22, h20, ⟨A16, ha98.sub ⟨rfl, rfl, rfl, Ws hlt22 hn25, trivial⟩, ⟨hH, hr6⟩⟩⟩
  refine C_exit (fun a ha99 => ?_)
  exact ⟨((), A16), ha99.sub trivial, ⟨(h23 (eq_of_dec hle21 hc26)).symm, hH, hr6⟩⟩
 rintro ⟨s5, A12⟩ w9 ⟨rfl, hH13, hk10⟩ a ha11
 rw [Lp.andThen_fin] at hm
 replace hK := Tr.trans hK hk10; replace hA := hk10.new; replace hH := hH13
 refine C_at (n := ⟨73, [], none⟩) (fun _ _ => rfl) ?_ ha11
 refine Sr (As (To ?_))
 obtain rfl := Oi hm
 refine Rt (Res.one results21 rfl) ?_
 exact ⟨rfl, hK.kp⟩
theorem portref2_StepsFault_c (w : World) {A : Nat → Prop} (hA : ∀ b, w.heap.size ≤ b → A b) (l : (List route_Step)) (v_l : Value) (h_l : Sl A w v_l l) {r : Int} (hm : portref2_StepsFault l = some r) : Ret prog 22 #[v_l] w fun v w' => v = Ii r ∧ Kp Dw w w' := by
 unfold portref2_StepsFault at hm
 refine enter func22 rfl ntmps22 rfl ?_
 have hA0 := hA
 obtain ⟨hB, hK, hH⟩ := St (Dw := Dw) hA
 refine Sr (As (To ?_))
 refine C_seq (Sr (Mm (Vy (Y_lenSl h_l rfl underlying26 rfl) (Vy (Y_gtr rfl rfl) (To ?_)))))
 refine Cc (fun hc3 => ?_) fun hc3 => ?_
 ·rw [if_pos hc3] at hm
  refine Sr (As (To ?_))
  obtain rfl := Oi hm
  refine Rt (Res.one results22 rfl) ?_
  exact ⟨rfl, hK.kp⟩
 rw [if_neg (nt hc3)] at hm
 refine Sk ?_
 refine C_seq (Sr (Mm (Vy (Y_lenSl h_l rfl underlying26 rfl) (Mm (To ?_)))))
 have hn25 := Sl.le h_l
 obtain ⟨o4, ho4, hm⟩ := Bs hm
 refine C_cutG (ι := (Unit × (Nat → Prop))) (fun ⟨s5, A12⟩ => []) (fun ⟨s5, A12⟩ => fun w' => o4 = .fin s5 ∧ Hp w.heap.size A12 w' ([]) ∧ Tr Dw w.heap.size A w A12 w') ?_ ?_
 ·refine C_block ?_
  refine C_range ho4 (fun k7 _ a w' => ∃ i : (Nat → Prop), Has ⟨49, [], none⟩ a ([(0, v_l), (8, v_l), (9, Ii (l.length : Int)), (10, Ii (k7 : Int))]) ∧ Hp w.heap.size i w' ([]) ∧ Tr Dw w.heap.size A w i w') (fun a ha => ⟨A, ha.sb, ⟨hH, Tr.refl (Dw := Dw) hA⟩⟩) ?_
  rintro K k7 _ a w15 ⟨A16, ha65, hH17, hr6⟩ hle21 K24 h23
  refine C_of ?_ ha65
  replace h_l := Sl.tr h_l hr6; replace hK := Tt hK hr6; replace hB := Bx hB hr6; replace hA := hr6.new; replace hH := hH17
  refine Sr (Vy (Y_lss rfl rfl) (To ?_))
  refine C_seq ?_
  refine Cc (fun hc26 => ?_) fun hc26 => ?_
  ·have hlt22 := lt_of_dec hc26
   obtain ⟨x18, h19, h20⟩ := K24 hlt22
   refine Sk ?_
   refine C_seq (C_block (Sr (Mm ?_)))
   obtain ⟨x27, hx27, h19⟩ := Bs h19
   refine V_indexAddr h_l hx27 underlying26 sizeOf173 rfl rfl rfl ?_
   intro b28 o29 h30
   obtain ⟨h31, _⟩ := El_route_Step h30
   refine Vy (Y_loadA h31 isAgg173 sizeOf173 rfl) ?_
   refine V_alloc zeroValue173 rfl ?_
   intro b32 w33 h34
   refine As ?_
   refine Sn h34 sizeOf173 ?_
   intro w35 h36
   have hk38 := h36.kp (Dw := Dw)
   have h37 : El (α := route_Step) A16 w35 b32 0 x27 := h36.el hA ⟨[Ii x27.after], _, rfl, rfl, ⟨[Ii x27.lower], _, rfl, rfl, rfl⟩⟩
   have ht39 := Kp.tr hk38 hA hB; replace hH := Hp.kp hH hk38; replace h_l := Sl.tr h_l ht39; replace hK := Tt hK ht39; replace hr6 := Tt hr6 ht39; replace hB := Bx hB ht39; replace hA := ht39.new
   refine To ?_
   refine C_block (Sr ?_)
   have h40 := El_route_Step_0 h37
   refine Fa underlying173 rfl sizeOf3 (Li h40 isAgg3 (Vy (Y_lss rfl rfl) (Mm ?_)))
   refine V_cut 4 (fun _ : Unit => [(0, v_l), (3, Ii (k7 : Int)), (4, Pt b32), (8, v_l), (9, Ii (l.length : Int)), (10, Ii (k7 : Int)), (23, .bool ((decide (x27.after < 1)) || (decide ((3000000 : Int) < x27.after))))]) (fun _ w' => w35 = w') ?_ ?_
   ·simp only [List.take, List.drop]
    rcases Be (decide (x27.after < 1)) with hc41 | hc41
    ·refine Gm hc41 (Gm hc41 (Gm hc41 (Vy (Y_pick_te rfl hc41 rfl) ?_)))
     exact V_end fun a ha => ⟨(), ha.sub ⟨rfl, rfl, rfl, rfl, rfl, rfl, (by rw [hc41]; rfl), trivial⟩, rfl⟩
    refine Gf hc41 ?_
    have h43 := El_route_Step_0 h37
    refine Fa underlying173 rfl sizeOf3 (Gf hc41 (Li h43 isAgg3 (Gf hc41 (Vy (Y_gtr rfl rfl) (Vy (Y_pick_fe rfl hc41 rfl) ?_)))))
    exact V_end fun a ha => ⟨(), ha.sub ⟨rfl, rfl, rfl, rfl, rfl, rfl, (by rw [hc41]; rfl), trivial⟩, rfl⟩
   simp only [List.take, List.drop]
   rintro _ _ rfl
   refine Mm ?_
   refine V_cut 4 (fun _ : Unit => [(0, v_l), (3, Ii (k7 : Int)), (4, Pt b32), (8, v_l), (9, Ii (l.length : Int)), (10, Ii (k7 : Int)), (28, .bool (((decide (x27.after < 1)) || (decide ((3000000 : Int) < x27.after))) || (decide (x27.lower < 0))))]) (fun _ w' => w35 = w') ?_ ?_
   ·simp only [List.take, List.drop]
    rcases Be (((decide (x27.after < 1)) || (decide ((3000000 : Int) < x27.after)))) with hc44 | hc44
    ·refine Gm hc44 (Gm hc44 (Gm hc44 (Vy (Y_pick_te rfl hc44 rfl) ?_)))
     exact V_end fun a ha => ⟨(), ha.sub ⟨rfl, rfl, rfl, rfl, rfl, rfl, (by rw [hc44]; rfl), trivial⟩, rfl⟩
    refine Gf hc44 ?_
    have h46 := El_route_Step_1 h37
    refine Fa underlying173 rfl sizeOf3 (Gf hc44 (Li h46 isAgg3 (Gf hc44 (Vy (Y_lss rfl rfl) (Vy (Y_pick_fe rfl hc44 rfl) ?_)))))
    exact V_end fun a ha => ⟨(), ha.sub ⟨rfl, rfl, rfl, rfl, rfl, rfl, (by rw [hc44]; rfl), trivial⟩, rfl⟩
   simp only [List.take, List.drop]
   rintro _ _ rfl
   refine Mm ?_
   refine V_cut 4 (fun _ : Unit => [(0, v_l), (3, Ii (k7 : Int)), (4, Pt b32), (8, v_l), (9, Ii (l.length : Int)), (10, Ii (k7 : Int)), (33, .bool ((((decide (x27.after < 1)) || (decide ((3000000 : Int) < x27.after))) || (decide (x27.lower < 0))) || (decide ((9 : Int) < x27.lower))))]) (fun _ w' => w35 = w') ?_ ?_
   ·simp only [List.take, List.drop]
    rcases Be ((((decide (x27.after < 1)) || (decide ((3000000 : Int) < x27.after))) || (decide (x27.lower < 0)))) with hc47 | hc47
    ·refine Gm hc47 (Gm hc47 (Gm hc47 (Vy (Y_pick_te rfl hc47 rfl) ?_)))
     exact V_end fun a ha => ⟨(), ha.sub ⟨rfl, rfl, rfl, rfl, rfl, rfl, (by rw [hc47]; rfl), trivial⟩, rfl⟩
    refine Gf hc47 ?_
    have h49 := El_route_Step_1 h37
    refine Fa underlying173 rfl sizeOf3 (Gf hc47 (Li h49 isAgg3 (Gf hc47 (Vy (Y_gtr rfl rfl) (Vy (Y_pick_fe rfl hc47 rfl) ?_)))))
    exact V_end fun a ha => ⟨(), ha.sub ⟨rfl, rfl, rfl, rfl, rfl, rfl, (by rw [hc47]; rfl), trivial⟩, rfl⟩
   simp only [List.take, List.drop]
   rintro _ _ rfl
   refine As (To ?_)
   refine Cc (fun hc50 => ?_) fun hc50 => ?_
   ·rw [if_pos hc50] at h19
    refine Sr (As (To ?_))
    obtain rfl := Oi h19
    obtain rfl := (h20 : Lp.rt _ = _)
    rw [Lp.andThen_rt] at hm
    obtain rfl := Oi hm
    refine Rt (Res.one results22 rfl) ?_
    exact ⟨rfl, hK.kp⟩
   rw [if_neg (nt hc50)] at h19
   refine C_seq ?_
   refine C_region_q (Dw := Dw) Tryz_mixed (by kernel_rfl) ?_
   refine Qm (Qv (fun w' hw' => Y_gtr rfl rfl) (Qm ?_))
   obtain ⟨s52, hs52, h19⟩ := Bs h19
   refine VQ_cut 10 (fun _ : Unit => [(0, v_l), (8, v_l), (9, Ii (l.length : Int)), (10, Ii (k7 : Int)), (47, .bool s52)]) (fun _ => True) ?_ ?_
   ·simp only [List.take, List.drop]
    rcases Be (decide ((0 : Int) < (k7 : Int))) with hc51 | hc51
    ·rw [if_pos hc51] at hs52
     refine Qh hc51 ?_
     have h53 := El_route_Step_0 h37
     refine Qf underlying173 rfl sizeOf3 (Qh hc51 (Qi h53 isAgg3 (Qh hc51 (Qm (Qh hc51 (Qm (Qh hc51 (Qv (fun w' hw' => Y_subI rfl rfl) (Qh hc51 ?_)))))))))
     obtain ⟨x54, hx54, hs52⟩ := Bs hs52
     refine VQ_indexAddr h_l hx54 underlying26 sizeOf173 rfl rfl rfl ?_
     intro b55 o56 h57
     refine Qh hc51 ?_
     have h58 := El_route_Step_0 h57
     refine Qf underlying173 rfl sizeOf3 (Qh hc51 (Qi h58 isAgg3 (Qh hc51 (Qv (fun w' hw' => Y_leq rfl rfl) ?_))))
     refine VQ_y (fun _ _ => Y_pick_te rfl hc51 rfl) rfl rfl rfl ?_
     obtain rfl := Oi hs52
     exact VQ_end fun a ha => ⟨(), ha.sb, trivial⟩
    rw [if_neg (nt hc51)] at hs52
    refine Qg hc51 (Qg hc51 (Qg hc51 (Qg hc51 (Qg hc51 (Qg hc51 (Qg hc51 (Qg hc51 (Qg hc51 ?_))))))))
    refine VQ_y (fun _ _ => Y_pick_fe rfl hc51 rfl) rfl rfl rfl ?_
    obtain rfl := Oi hs52
    exact VQ_end fun a ha => ⟨(), ha.sb, trivial⟩
   simp only [List.take, List.drop]
   rintro _ _
   refine Qa ?_
   refine VQ_to (fun _ _ => rfl) (fun w59 hk60 => ?_)
   have ht61 := Kp.tr hk60 hA hB; replace hH := Hp.kp hH hk60; replace hK := Tt hK ht61; replace hr6 := Tt hr6 ht61
   refine Cc (fun hc62 => ?_) fun hc62 => ?_
   ·rw [if_pos hc62] at h19
    refine Sr (As (To ?_))
    obtain rfl := Oi h19
    obtain rfl := (h20 : Lp.rt _ = _)
    rw [Lp.andThen_rt] at hm
    obtain rfl := Oi hm
    refine Rt (Res.one results22 rfl) ?_
    exact ⟨rfl, hK.kp⟩
   rw [if_neg (nt hc62)] at h19
   refine Sk ?_
   refine C_region (Vy (Y_addI rfl rfl) (Mm ?_))
   obtain rfl := Oi h19
   refine V_end (fun a ha63 => ?_)
   exact ⟨(), hlt22, h20, ⟨A16, ha63.sub ⟨rfl, rfl, rfl, Ws hlt22 hn25, trivial⟩, ⟨hH, hr6⟩⟩⟩
  refine C_exit (fun a ha64 => ?_)
  exact ⟨((), A16), ha64.sub trivial, ⟨(h23 (eq_of_dec hle21 hc26)).symm, hH, hr6⟩⟩
 rintro ⟨s5, A12⟩ w9 ⟨rfl, hH13, hk10⟩ a ha11
 rw [Lp.andThen_fin] at hm
 replace hK := Tr.trans hK hk10; replace hA := hk10.new; replace hH := hH13
 refine C_at (n := ⟨49, [], none⟩) (fun _ _ => rfl) ?_ ha11
 refine Sr (As (To ?_))
 obtain rfl := Oi hm
 refine Rt (Res.one results22 rfl) ?_
 exact ⟨rfl, hK.kp⟩
theorem portref2_heldAt_1_c (w : World) {A : Nat → Prop} (hA : ∀ b, w.heap.size ≤ b → A b) (h : route_Held) (p1 : Int) (b_p1 : Nat) (h_p1 : El A w b_p1 0 p1) {r : Bool} (hm : portref2_heldAt_1 h p1 = some r) : Ret prog 84 #[.agg #[Ii h.ticket, Ii h.person, Ii h.weight, Ii h.since], Pt b_p1] w fun v w' => v = .bool r ∧ Kp Dw w w' := by
 unfold portref2_heldAt_1 at hm
 refine enter func84 rfl ntmps84 rfl ?_
 have hA0 := hA
 obtain ⟨hB, hK, hH⟩ := St (Dw := Dw) hA
 refine Sr ?_
 refine V_box rfl rfl ?_
 intro b1 w2 h3
 have hk5 := h3.kp (Dw := Dw)
 have h4 : El (α := route_Held) A w2 b1 0 h := h3.el hA ⟨[Ii h.ticket], _, rfl, rfl, ⟨[Ii h.person], _, rfl, rfl, ⟨[Ii h.weight], _, rfl, rfl, rfl⟩⟩⟩
 have ht6 := Kp.tr hk5 hA hB; replace h_p1 := El.tr h_p1 ht6; replace hK := Tt hK ht6
 refine As (To ?_)
 refine Sr ?_
 have h7 := El_route_Held_0 h4
 refine Fa underlying32 rfl sizeOf3 (Li h7 isAgg3 (Li h_p1 isAgg3 (Vy (Y_eql rfl rfl) (As (To ?_)))))
 obtain rfl := Oi hm
 refine Rt (Res.one results84 rfl) ?_
 exact ⟨rfl, hK.kp⟩
theorem portref2_heldAt_c (w : World) {A : Nat → Prop} (hA : ∀ b, w.heap.size ≤ b → A b) (l : (List route_Held)) (v_l : Value) (h_l : Sl A w v_l l) (no : Int) {r : Int} (hm : portref2_heldAt l no = some r) : Ret prog 26 #[v_l, Ii no] w fun v w' => v = Ii r ∧ Kp Dw w w' := by
 unfold portref2_heldAt at hm
 refine enter func26 rfl ntmps26 rfl ?_
 have hA0 := hA
 obtain ⟨hB, hK, hH⟩ := St (Dw := Dw) hA
 refine Sr ?_
 refine V_box rfl rfl ?_
 intro b3 w4 h5
 have hk7 := h5.kp (Dw := Dw)
 have h6 : El (α := Int) A w4 b3 0 no := h5.el hA rfl
 have ht8 := Kp.tr hk7 hA hB; replace h_l := Sl.tr h_l ht8; replace hK := Tt hK ht8; replace hB := Bx hB ht8; replace hA := ht8.new
 refine As (To ?_)
 refine Sr (Mm (Vy (Y_makeFunc rfl rfl) ?_))
 obtain ⟨x10, hx10, hm⟩ := Bs hm
 refine Vc call66 (slices_IndexFunc_Lroute_Held_route_Held_c (Dw := Dw) w4 hA l v_l h_l (fun y18 => portref2_heldAt_1 y18 no) 84 #[] #[Pt b3] call84 (fun w14 A15 ht16 h17 y11 r12 h13 => (portref2_heldAt_1_c (Dw := Dw) w14 h17 y11 no b3 (El.tr h6 ht16) h13).mono (fun _ _ h => ⟨h.1, h.2⟩)) hx10) ?_
 rintro _ w19 ⟨rfl, hk20⟩
 have ht21 := Kp.tr hk20 hA hB; replace hK := Tt hK ht21
 refine As (To ?_)
 obtain rfl := Oi hm
 refine Rt (Res.one results26 rfl) ?_
 exact ⟨rfl, hK.kp⟩
theorem portref2_AssignOf_1_c (w : World) {A : Nat → Prop} (hA : ∀ b, w.heap.size ≤ b → A b) (w_ : route_Work) (v_w_ : Value) (h_w_ : Sl A w v_w_ w_.needs) (p1 : (List route_Held)) (b_p1 : Nat) (h_p1 : El A w b_p1 0 p1) {r : Bool} (hm : portref2_AssignOf_1 w_ p1 = some r) : Ret prog 25 #[.agg #[Ii w_.ticket, Ii w_.weight, Ii w_.urgency, Ii w_.since, Ii w_.former, v_w_], Pt b_p1] w fun v w' => v = .bool r ∧ Kp Dw w w' := by
 unfold portref2_AssignOf_1 at hm
 refine enter func25 rfl ntmps25 rfl ?_
 have hA0 := hA
 obtain ⟨hB, hK, hH⟩ := St (Dw := Dw) hA
 refine Sr ?_
 refine V_box rfl rfl ?_
 intro b3 w4 h5
 have hk7 := h5.kp (Dw := Dw)
 have h6 : El (α := route_Work) A w4 b3 0 w_ := h5.el hA ⟨[Ii w_.ticket], _, rfl, rfl, ⟨[Ii w_.weight], _, rfl, rfl, ⟨[Ii w_.urgency], _, rfl, rfl, ⟨[Ii w_.since], _, rfl, rfl, ⟨[Ii w_.former], _, rfl, rfl, ⟨_, rfl, h_w_⟩⟩⟩⟩⟩⟩
 have ht8 := Kp.tr hk7 hA hB; replace h_p1 := El.tr h_p1 ht8; replace hK := Tt hK ht8; replace hB := Bx hB ht8; replace hA := ht8.new
 refine As (To ?_)
 refine Sr ?_
 obtain ⟨v9, h10, h11⟩ := El.list h_p1
 refine Ld h10 isAgg24 ?_
 have h12 := El_route_Work_0 h6
 refine Fa underlying43 rfl sizeOf3 (Li h12 isAgg3 ?_)
 obtain ⟨x13, hx13, hm⟩ := Bs hm
 refine Vc call26 (portref2_heldAt_c (Dw := Dw) w4 hA p1 v9 h11 w_.ticket hx13) ?_
 rintro _ w14 ⟨rfl, hk15⟩
 have ht16 := Kp.tr hk15 hA hB; replace hK := Tt hK ht16
 refine Vy (Y_geq rfl rfl) (As (To ?_))
 obtain rfl := Oi hm
 refine Rt (Res.one results25 rfl) ?_
 exact ⟨rfl, hK.kp⟩
theorem portref2_floorDiv_c (w : World) {A : Nat → Prop} (hA : ∀ b, w.heap.size ≤ b → A b) (a_ : Int) (b : Int) {r : (Int × Int)} (hm : portref2_floorDiv a_ b = some r) : Ret prog 164 #[Ii a_, Ii b] w fun v w' => v = .tuple #[Ii r.1, Ii r.2] ∧ Kp Dw w w' := by
 unfold portref2_floorDiv at hm
 refine enter func164 rfl ntmps164 rfl ?_
 have hA0 := hA
 obtain ⟨hB, hK, hH⟩ := St (Dw := Dw) hA
 refine Sr (As (As (To ?_)))
 refine C_seq ?_
 refine C_region_q (Dw := Dw) Tryz_mixed (by kernel_rfl) ?_
 refine Qm (Qm ?_)
 obtain ⟨x1, hx1, hm⟩ := Bs hm
 refine Qv (fun w' hw' => Y_quo hx1 rfl rfl) (Qm (Qm ?_))
 obtain ⟨x2, hx2, hm⟩ := Bs hm
 refine Qv (fun w' hw' => Y_rem hx2 rfl rfl) (Qa (Qa ?_))
 refine VQ_to (fun _ _ => rfl) (fun w3 hk4 => ?_)
 have ht5 := Kp.tr hk4 hA hB; replace hK := Tt hK ht5
 refine C_seq (Sr (Mm (Vy (Y_lss rfl rfl) (To ?_))))
 obtain ⟨s7, ho6, hm⟩ := Bs hm
 refine C_cutG (ι := Unit) (fun (_ : Unit) => [(6, Ii s7.1), (7, Ii s7.2)]) (fun (_ : Unit) => fun w' => w3 = w') ?_ ?_
 ·refine Cc (fun hc12 => ?_) fun hc12 => ?_
  ·rw [if_pos hc12] at ho6
   refine C_region (Mm (Vy (Y_subI rfl rfl) (Mm (Mm (Vy (Y_addI rfl rfl) (As (As ?_)))))))
   obtain rfl := Oi ho6
   refine V_end (fun a ha13 => ?_)
   exact ⟨(), ha13.sb, rfl⟩
  rw [if_neg (nt hc12)] at ho6
  obtain rfl := Oi ho6
  refine C_skip (fun a ha14 => ?_)
  exact ⟨(), ha14.sb, rfl⟩
 rintro _ _ rfl a ha11
 refine C_at (n := ⟨23, [], none⟩) (fun _ _ => rfl) ?_ ha11
 refine Sr (Mm (Mm (As (As (To ?_)))))
 obtain rfl := Oi hm
 refine Rt (Res.two results164 rfl rfl) ?_
 exact ⟨rfl, hK.kp⟩
theorem portref2_ShiftsIn_c (w : World) {A : Nat → Prop} (hA : ∀ b, w.heap.size ≤ b → A b) (c : cal_Calendar) (v_c0 : Value) (h_c0 : Sl A w v_c0 c.zone.changes) (v_c1 : Value) (h_c1 : Sl A w v_c1 c.week) (v_c2 : Value) (h_c2 : Sl A w v_c2 c.specials) (day : Int) {r : (List cal_Shift)} (hm : portref2_ShiftsIn c day = some r) : Ret prog 166 #[.agg #[Ii c.zone.offset, v_c0, v_c1, v_c2], Ii day] w fun v w' => ∃ s0, v = s0 ∧ Sl A w' s0 r ∧ Kp Dw w w' := by
 unfold portref2_ShiftsIn at hm
 refine enter func166 rfl ntmps166 rfl ?_
 have hA0 := hA
 obtain ⟨hB, hK, hH⟩ := St (Dw := Dw) hA
 refine Sr ?_
 refine V_box rfl rfl ?_
 intro b7 w9 h10
 have hk12 := h10.kp (Dw := Dw)
 have h11 : El (α := cal_Calendar) A w9 b7 0 c := h10.el hA ⟨[Ii c.zone.offset, v_c0], _, rfl, ⟨[Ii c.zone.offset], _, rfl, rfl, ⟨_, rfl, h_c0⟩⟩, ⟨[v_c1], _, rfl, ⟨_, rfl, h_c1⟩, ⟨_, rfl, h_c2⟩⟩⟩
 have ht13 := Kp.tr hk12 hA hB; replace hH := Hp.kp hH hk12; replace hK := Tt hK ht13; replace hB := Bx hB ht13; replace hA := ht13.new
 refine As (To ?_)
 refine C_seq (Sr ?_)
 have h14 := El_cal_Calendar_2 h11
 refine Fa underlying68 rfl sizeOf66 ?_
 obtain ⟨v15, h16, h17⟩ := El.list h14
 refine Ld h16 isAgg66 (Vy (Y_lenSl h17 rfl underlying66 rfl) (Mm (To ?_)))
 have hn38 := Sl.le h17
 obtain ⟨o18, ho18, hm⟩ := Bs hm
 refine C_cutG (ι := (Unit × (Nat → Prop))) (fun ⟨s19, A25⟩ => [(1, Ii day), (2, Pt b7)]) (fun ⟨s19, A25⟩ => fun w' => o18 = .fin s19 ∧ Hp w.heap.size A25 w' ([]) ∧ Tr Dw w.heap.size A w9 A25 w') ?_ ?_
 ·refine C_block ?_
  refine C_range ho18 (fun k21 _ a w' => ∃ i : (Nat → Prop), Has ⟨52, [], none⟩ a ([(1, Ii day), (2, Pt b7), (13, v15), (14, Ii (c.specials.length : Int)), (15, Ii (k21 : Int))]) ∧ Hp w.heap.size i w' ([]) ∧ Tr Dw w.heap.size A w9 i w') (fun a ha => ⟨A, ha.sb, ⟨hH, Tr.refl (Dw := Dw) hA⟩⟩) ?_
  rintro K k21 _ a w28 ⟨A29, ha66, hH30, hr20⟩ hle34 K37 h36
  refine C_of ?_ ha66
  replace h17 := Sl.tr h17 hr20; replace hK := Tt hK hr20; replace hB := Bx hB hr20; replace hA := hr20.new; replace hH := hH30
  refine Sr (Vy (Y_lss rfl rfl) (To ?_))
  refine C_seq ?_
  refine Cc (fun hc39 => ?_) fun hc39 => ?_
  ·have hlt35 := lt_of_dec hc39
   obtain ⟨x31, h32, h33⟩ := K37 hlt35
   refine Sk ?_
   refine C_seq (C_block (Sr ?_))
   obtain ⟨x40, hx40, h32⟩ := Bs h32
   refine V_indexAddr h17 hx40 underlying66 sizeOf78 rfl rfl rfl ?_
   intro b41 o42 h43
   obtain ⟨v44, h46, h45⟩ := El_cal_Special h43
   refine Vy (Y_loadA h46 isAgg78 sizeOf78 rfl) ?_
   refine V_alloc zeroValue78 rfl ?_
   intro b47 w48 h49
   have h54 : (v44).oneCell' = true := by obtain ⟨_, _, e, _⟩ := Sl.form h45; rw [e]; rfl
   refine Sn h49 sizeOf78 ?_
   intro w50 h51
   have hk56 := h51.kp (Dw := Dw)
   have h55 : El (α := cal_Special) A29 w50 b47 0 x40 := h51.el hA ⟨[Ii x40.day], _, rfl, rfl, ⟨_, rfl, h45⟩⟩
   have ht57 := Kp.tr hk56 hA hB; replace hH := Hp.kp hH hk56; replace hK := Tt hK ht57; replace hr20 := Tt hr20 ht57
   refine To ?_
   refine Sr ?_
   have h58 := El_cal_Special_0 h55
   refine Fa underlying78 rfl sizeOf3 (Li h58 isAgg3 (Mm (Vy (Y_eql rfl rfl) (To ?_))))
   refine Cc (fun hc59 => ?_) fun hc59 => ?_
   ·rw [if_pos hc59] at h32
    refine Sr ?_
    have h60 := El_cal_Special_1 h55
    refine Fa underlying78 rfl sizeOf65 ?_
    obtain ⟨v61, h62, h63⟩ := El.list h60
    refine Ld h62 isAgg65 (As (To ?_))
    obtain rfl := Oi h32
    obtain rfl := (h33 : Lp.rt _ = _)
    rw [Lp.andThen_rt] at hm
    obtain rfl := Oi hm
    refine Rt (Res.one results166 rfl) ?_
    exact ⟨v61, rfl, (Sl.out (Dw := Dw) h63 hA0 hK), hK.kp⟩
   rw [if_neg (nt hc59)] at h32
   refine Sk ?_
   refine C_region (Vy (Y_addI rfl rfl) (Mm ?_))
   obtain rfl := Oi h32
   refine V_end (fun a ha64 => ?_)
   exact ⟨(), hlt35, h33, ⟨A29, ha64.sub ⟨rfl, rfl, rfl, rfl, Ws hlt35 hn38, trivial⟩, ⟨hH, hr20⟩⟩⟩
  refine C_exit (fun a ha65 => ?_)
  exact ⟨((), A29), ha65.sb, ⟨(h36 (eq_of_dec hle34 hc39)).symm, hH, hr20⟩⟩
 rintro ⟨s19, A25⟩ w22 ⟨rfl, hH26, hk23⟩ a ha24
 rw [Lp.andThen_fin] at hm
 replace h11 := El.tr h11 hk23; replace hK := Tr.trans hK hk23; replace hB := Nat.le_trans hB hk23.ex.size; replace hA := hk23.new; replace hH := hH26
 refine C_at (n := ⟨52, [], none⟩) (fun _ _ => rfl) ?_ ha24
 refine Sr (As (To ?_))
 refine Sr (Mm ?_)
 obtain ⟨x67, hx67, hm⟩ := Bs hm
 refine Vc call164 (portref2_floorDiv_c (Dw := Dw) w22 hA day 7 hx67) ?_
 rintro _ w68 ⟨rfl, hk69⟩
 have ht70 := Kp.tr hk69 hA hB; replace hH := Hp.kp hH hk69; replace h11 := El.tr h11 ht70; replace hK := Tt hK ht70; replace hB := Bx hB ht70; replace hA := ht70.new
 refine Mm (Vy (Y_extract rfl rfl) (Vy (Y_extract rfl rfl) (As (As (To ?_)))))
 refine C_seq (Sr ?_)
 have h71 := El_cal_Calendar_1 h11
 refine Fa underlying68 rfl sizeOf65 ?_
 obtain ⟨v72, h73, h74⟩ := El.list h71
 refine Ld h73 isAgg65 (Vy (Y_lenSl h74 rfl underlying65 rfl) (Mm (To ?_)))
 replace hH : Hp w.heap.size A25 w68 (o_75 (.slice none 0 0) ([] : (List cal_Shift)) :: []) := Hp.addNil (α := cal_Shift) (e := 75) hH
 have hn99 := Sl.le h74
 obtain ⟨o75, ho75, hm⟩ := Bs hm
 refine C_cutG (ι := ((List cal_Shift) × Value × (Nat → Prop))) (fun ⟨s76, v82, A84⟩ => [(7, v82)]) (fun ⟨s76, v82, A84⟩ => fun w' => o75 = .fin s76 ∧ Hp w.heap.size A84 w' (o_75 v82 s76 :: []) ∧ Tr Dw w.heap.size A25 w68 A84 w') ?_ ?_
 ·refine C_block ?_
  refine C_range ho75 (fun k78 s86 a w' => ∃ i : (Value × (Nat → Prop)), Has ⟨52, [], none⟩ a ([(7, i.1), (9, Ii x67.2), (32, v72), (33, Ii (c.week.length : Int)), (34, Ii (k78 : Int))]) ∧ Hp w.heap.size i.2 w' (o_75 i.1 s86 :: []) ∧ Tr Dw w.heap.size A25 w68 i.2 w') (fun a ha => ⟨(.slice none 0 0, A25), ha.sb, ⟨hH, Tr.refl (Dw := Dw) hA⟩⟩) ?_
  rintro K k78 s86 a w87 ⟨⟨v88, A90⟩, ha154, hH91, hr77⟩ hle95 K98 h97
  refine C_of ?_ ha154
  replace h74 := Sl.tr h74 hr77; replace hB := Bx hB hr77; replace hA := hr77.new
  replace hH : Hp _ _ _ (o_75 v88 s86 :: []) := hH91
  refine Sr (Vy (Y_lss rfl rfl) (To ?_))
  refine C_seq ?_
  refine Cc (fun hc100 => ?_) fun hc100 => ?_
  ·have hlt96 := lt_of_dec hc100
   obtain ⟨x92, h93, h94⟩ := K98 hlt96
   refine Sk ?_
   refine C_seq ?_
   obtain ⟨s102, ho101, h93⟩ := Bs h93
   refine C_cutG (ι := (Value × (Nat → Prop))) (fun ⟨v104, A109⟩ => [(7, v104), (9, Ii x67.2), (32, v72), (33, Ii (c.week.length : Int)), (34, Ii (k78 : Int))]) (fun ⟨v104, A109⟩ => fun w' => Hp w.heap.size A109 w' (o_75 v104 s102 :: []) ∧ Tr Dw w.heap.size A90 w87 A109 w') ?_ ?_
   ·have hr103 : Tr Dw w.heap.size A90 w87 A90 w87 := Tr.refl (Dw := Dw) hA
    refine C_block (Sr ?_)
    obtain ⟨x111, hx111, ho101⟩ := Bs ho101
    refine V_indexAddr h74 hx111 underlying65 sizeOf75 rfl rfl rfl ?_
    intro b112 o113 h114
    obtain ⟨h115, _⟩ := El_cal_Shift h114
    refine Vy (Y_loadA h115 isAgg75 sizeOf75 rfl) ?_
    refine V_alloc zeroValue75 rfl ?_
    intro b116 w117 h118
    refine Sn h118 sizeOf75 ?_
    intro w119 h120
    have hk122 := h120.kp (Dw := Dw)
    have h121 : El (α := cal_Shift) A90 w119 b116 0 x111 := h120.el hA ⟨[Ii x111.day], _, rfl, rfl, ⟨[Ii x111.from_], _, rfl, rfl, rfl⟩⟩
    have ht123 := Kp.tr hk122 hA hB; replace hH := Hp.kp hH hk122; replace hr103 := Tt hr103 ht123; replace hB := Bx hB ht123; replace hA := ht123.new
    refine To ?_
    refine Sr ?_
    have h124 := El_cal_Shift_0 h121
    refine Fa underlying75 rfl sizeOf3 (Li h124 isAgg3 (Mm (Vy (Y_eql rfl rfl) (To ?_))))
    obtain ⟨s126, ho125, ho101⟩ := Bs ho101
    refine C_cutG (ι := (Value × (Nat → Prop))) (fun ⟨v128, A133⟩ => [(7, v128), (9, Ii x67.2), (32, v72), (33, Ii (c.week.length : Int)), (34, Ii (k78 : Int))]) (fun ⟨v128, A133⟩ => fun w' => Hp w.heap.size A133 w' (o_75 v128 s126 :: []) ∧ Tr Dw w.heap.size A90 w119 A133 w') ?_ ?_
    ·have hr127 : Tr Dw w.heap.size A90 w119 A90 w119 := Tr.refl (Dw := Dw) hA
     refine Cc (fun hc135 => ?_) fun hc135 => ?_
     ·rw [if_pos hc135] at ho125
      refine C_region (Mm ?_)
      have h136 := El_cal_Shift_1 h121
      refine Fa underlying75 rfl sizeOf3 (Li h136 isAgg3 ?_)
      have h137 := El_cal_Shift_2 h121
      refine Fa underlying75 rfl sizeOf3 (Li h137 isAgg3 ?_)
      refine Vy (Y_build underlying75 zeroValue75 (Tryz_places75 _ underlying75) rfl (by with_unfolding_all rfl)) ?_
      refine V_buildSlice (Dw := Dw) (cells := #[Ii 0, Ii x111.from_, Ii x111.to_]) (l := ([(⟨0, x111.from_, x111.to_⟩ : cal_Shift)] : List cal_Shift)) (len := 1) underlying65 sizeOf75 zeroValue75 rfl (by kernel_rfl) (show (1 * 3 : Nat) ≠ 0 by decide) (show (1 * 3 : Nat) ≤ 2 ^ 24 by decide) hA ⟨[Ii 0, Ii x111.from_, Ii x111.to_], _, rfl, ⟨[Ii 0], _, rfl, rfl, ⟨[Ii x111.from_], _, rfl, rfl, rfl⟩⟩, rfl⟩ rfl rfl ?_
      intro v138 w139 hk141 h140
      have ht142 := Kp.tr hk141 hA hB; replace hH := Hp.kp hH hk141; replace hr127 := Tt hr127 ht142; replace hB := Bx hB ht142; replace hA := ht142.new
      obtain ⟨x143, hx143, ho125⟩ := Bs ho125
      refine V_appendH (Dw := Dw) (e := 75) (v := v88) (l := s86) (ti := t75) (bytes := 24) (lim := 5864062014805) hH (i := 0) rfl h140 hx143 underlying65 Tryz_info75 rfl rfl rfl rfl (by decide) (by decide) (by decide) hB hA rfl rfl rfl ?_
      intro v144 w145 A146 hH147 ht148
      replace hr127 := Tt hr127 ht148
      replace hH : Hp _ _ _ (o_75 v144 x143 :: []) := hH147
      refine As ?_
      obtain rfl := Oi ho125
      refine V_end (fun a ha149 => ?_)
      exact ⟨(v144, A146), ha149.sb, ⟨hH, hr127⟩⟩
     rw [if_neg (nt hc135)] at ho125
     obtain rfl := Oi ho125
     refine C_skip (fun a ha150 => ?_)
     exact ⟨(v88, A90), ha150.sb, ⟨hH, hr127⟩⟩
    rintro ⟨v128, A133⟩ w130 ⟨hH134, hk131⟩ a ha132
    replace hr103 := Tr.trans hr103 hk131; replace hA := hk131.new
    replace hH : Hp _ _ _ (o_75 v128 s126 :: []) := hH134
    obtain rfl := Oi ho101
    exact ⟨(v128, A133), ha132.sb, ⟨hH, hr103⟩⟩
   rintro ⟨v104, A109⟩ w106 ⟨hH110, hk107⟩ a ha108
   replace hr77 := Tr.trans hr77 hk107; replace hA := hk107.new
   replace hH : Hp _ _ _ (o_75 v104 s102 :: []) := hH110
   refine C_at (n := ⟨52, [], none⟩) (fun _ _ => rfl) ?_ ha108
   refine C_region (Vy (Y_addI rfl rfl) (Mm ?_))
   obtain rfl := Oi h93
   refine V_end (fun a ha152 => ?_)
   exact ⟨s102, hlt96, h94, ⟨(v104, A109), ha152.sub ⟨rfl, rfl, rfl, rfl, Ws hlt96 hn99, trivial⟩, ⟨hH, hr77⟩⟩⟩
  refine C_exit (fun a ha153 => ?_)
  exact ⟨(s86, v88, A90), ha153.sb, ⟨(h97 (eq_of_dec hle95 hc100)).symm, hH, hr77⟩⟩
 rintro ⟨s76, v82, A84⟩ w79 ⟨rfl, hH85, hk80⟩ a ha81
 rw [Lp.andThen_fin] at hm
 replace hK := Tr.trans hK hk80; replace hA := hk80.new
 replace hH : Hp _ _ _ (o_75 v82 s76 :: []) := hH85
 refine C_at (n := ⟨52, [], none⟩) (fun _ _ => rfl) ?_ ha81
 refine Sr (Mm (As (To ?_)))
 obtain rfl := Oi hm
 obtain ⟨A155, ht156, h157, hH158⟩ := Hp.freeze (Dw := Dw) (α := cal_Shift) (v := v82) (l := s76) hH (i := 0) rfl hA
 replace hK := Tt hK ht156; replace hH := hH158
 refine Rt (Res.one results166 rfl) ?_
 exact ⟨v82, rfl, (Sl.out (Dw := Dw) h157 hA0 hK), hK.kp⟩
theorem portref2_NewClock_c (w : World) {A : Nat → Prop} {B : Nat} (hB : B ≤ w.heap.size) (hA : ∀ b, w.heap.size ≤ b → A b) (c : cal_Calendar) (v0 : Value) (h0 : Sl A w v0 c.zone.changes) (v1 : Value) (h1 : Sl A w v1 c.week) (v2 : Value) (h2 : Sl A w v2 c.specials) {L : List Ob} (hH : Hp B A w L) {r : cal_Calendar} (hm : portref2_NewClock c = some r) : Ret prog 115 #[.agg #[Ii c.zone.offset, v0, v1, v2]] w fun v w' => ∃ b, ∃ A1 : Nat → Prop, v = Pt b ∧ Hp B A1 w' (obCk 249 portref2_ShiftsIn b r :: L) ∧ Tr Dw B A w A1 w' := by
 obtain rfl := Oi hm
 refine enter func115 rfl ntmps115 rfl ?_
 have hK : Tr Dw B A w A w := Tr.refl (Dw := Dw) hA
 refine Sr ?_
 refine V_box rfl rfl ?_
 intro b1 w1 n1
 have e1 : El (α := cal_Calendar) A w1 b1 0 c := n1.el hA ⟨[Ii c.zone.offset, v0], _, rfl, ⟨[Ii c.zone.offset], _, rfl, rfl, ⟨_, rfl, h0⟩⟩, ⟨[v1], _, rfl, ⟨_, rfl, h1⟩, ⟨_, rfl, h2⟩⟩⟩
 have t1 := Kp.tr (Dw := Dw) n1.kp hA hB
 replace hH := Hp.kp (Dw := Dw) hH n1.kp
 replace hK := Tr.trans hK t1; replace hB := Nat.le_trans hB t1.ex.size; replace hA := t1.new
 refine As (To ?_)
 refine Sr ?_
 obtain ⟨_, _, cs, hr, hat⟩ := e1
 have hr0 := hr
 obtain ⟨u0, u1, u2, rfl, s0, s1, s2⟩ := Rep_cal_Calendar hr0
 refine Vy (Y_loadA hat isAgg68 sizeOf68 rfl) ?_
 refine V_makeMapF (Dw := Dw) (portref2_ShiftsIn c) hH hB hA rfl ?_
 intro mb w2 A2 h2 t2
 replace hr := GoT.keep hr t2.ex; replace hK := Tr.trans hK t2; replace hB := Nat.le_trans hB t2.ex.size; replace hA := t2.new
 refine Vy (Y_build underlying249 zeroValue249 (Tryz_places249 _ underlying249) rfl (by with_unfolding_all rfl)) ?_
 refine V_boxH (Dw := Dw) h2 rfl hB hA rfl ?_
 intro b3 w3 A3 h3 t3
 replace hr := GoT.keep hr t3.ex; replace hK := Tr.trans hK t3
 refine As (To ?_)
 have h4 : Hp B A3 w3 (ckL 249 portref2_ShiftsIn b3 c (mb, [Ii c.zone.offset, u0, u1, u2]) ++ L) := h3.free (O' := obF (fun A w => GoT.rep A w [Ii c.zone.offset, u0, u1, u2] c) (fun h he => GoT.keep h he)) ⟨rfl, hr⟩
 refine Rt (Res.one results115 rfl) ?_
 exact ⟨b3, A3, rfl, Hp.pack _ h4, hK⟩
theorem portref2_newMeter_c (w : World) {A : Nat → Prop} {B : Nat} (hB : B ≤ w.heap.size) (hA : ∀ b, w.heap.size ≤ b → A b) (cals : (List cal_Calendar)) (v_cals : Value) (h_cals : Sl A w v_cals cals) {L : List Ob} (hH : Hp B A w (L)) {r : portref2_meter} (hm : portref2_newMeter cals = some r) : Ret prog 85 #[v_cals] w fun v w' => ∃ b0, ∃ p0, ∃ A1 : Nat → Prop, v = Pt b0 ∧ Hp B A1 w' (obC b0 [p0] 194 :: obPS (obCk 249 portref2_ShiftsIn) 225 p0 r.clocks :: L) ∧ Tr Dw B A w A1 w' := by
 unfold portref2_newMeter at hm
 refine enter func85 rfl ntmps85 rfl ?_
 have hK : Tr Dw B A w A w := Tr.refl (Dw := Dw) hA
 refine Sr (As (To ?_))
 refine Sr ?_
 refine Vy (Y_build underlying194 zeroValue194 (Tryz_places194 _ underlying194) rfl (by with_unfolding_all rfl)) ?_
 refine V_boxH (Dw := Dw) (B := B) hH rfl hB hA rfl ?_
 intro b3 w4 A5 hH6 ht7
 replace h_cals := Sl.tr h_cals ht7; replace hK := Tt hK ht7; replace hB := Bx hB ht7; replace hA := ht7.new
 replace hH : Hp _ _ _ (obC b3 [.slice none 0 0] 194 :: L) := hH6
 refine As (To ?_)
 refine C_seq (Sr (Mm (Vy (Y_lenSl h_cals rfl underlying23 rfl) (Mm (To ?_)))))
 replace hH : Hp B A5 w4 (obPS (obCk 249 portref2_ShiftsIn) 225 (.slice none 0 0) ([] : (List cal_Calendar)) :: obC b3 [.slice none 0 0] 194 :: L) := Hp.psNil hH
 have hn32 := Sl.le h_cals
 obtain ⟨o8, ho8, hm⟩ := Bs hm
 refine C_cutG (ι := (portref2_meter × Value × (Nat → Prop))) (fun ⟨s9, v15, A17⟩ => [(3, Pt b3)]) (fun ⟨s9, v15, A17⟩ => fun w' => o8 = .fin s9 ∧ Hp B A17 w' (obPS (obCk 249 portref2_ShiftsIn) 225 v15 s9.clocks :: obC b3 [v15] 194 :: L) ∧ Tr Dw B A5 w4 A17 w') ?_ ?_
 ·refine C_block ?_
  refine C_range ho8 (fun k11 s19 a w' => ∃ i : (Value × (Nat → Prop)), Has ⟨27, [], none⟩ a ([(3, Pt b3), (8, v_cals), (9, Ii (cals.length : Int)), (10, Ii (k11 : Int))]) ∧ Hp B i.2 w' (obPS (obCk 249 portref2_ShiftsIn) 225 i.1 s19.clocks :: obC b3 [i.1] 194 :: L) ∧ Tr Dw B A5 w4 i.2 w') (fun a ha => ⟨(.slice none 0 0, A5), ha.sb, ⟨hH, Tr.refl (Dw := Dw) hA⟩⟩) ?_
  rintro K k11 s19 a w20 ⟨⟨v21, A23⟩, ha100, hH24, hr10⟩ hle28 K31 h30
  refine C_of ?_ ha100
  replace h_cals := Sl.tr h_cals hr10; replace hB := Bx hB hr10; replace hA := hr10.new
  replace hH : Hp _ _ _ (obPS (obCk 249 portref2_ShiftsIn) 225 v21 s19.clocks :: obC b3 [v21] 194 :: L) := hH24
  refine Sr (Vy (Y_lss rfl rfl) (To ?_))
  refine C_seq ?_
  refine Cc (fun hc33 => ?_) fun hc33 => ?_
  ·have hlt29 := lt_of_dec hc33
   obtain ⟨x25, h26, h27⟩ := K31 hlt29
   refine Sk ?_
   refine C_seq (C_block (Sr ?_))
   obtain ⟨x34, hx34, h26⟩ := Bs h26
   refine V_indexAddr h_cals hx34 underlying23 sizeOf68 rfl rfl rfl ?_
   intro b35 o36 h37
   obtain ⟨v38, v40, v42, h44, h39, h41, h43⟩ := El_cal_Calendar h37
   refine Vy (Y_loadA h44 isAgg68 sizeOf68 rfl) ?_
   refine V_alloc zeroValue68 rfl ?_
   intro b45 w46 h47
   have h52 : (v38).oneCell' = true := by obtain ⟨_, _, e, _⟩ := Sl.form h39; rw [e]; rfl
   have h55 : (v40).oneCell' = true := by obtain ⟨_, _, e, _⟩ := Sl.form h41; rw [e]; rfl
   have h58 : (v42).oneCell' = true := by obtain ⟨_, _, e, _⟩ := Sl.form h43; rw [e]; rfl
   refine Sn h47 sizeOf68 ?_
   intro w48 h49
   have hk60 := h49.kp (Dw := Dw)
   have h59 : El (α := cal_Calendar) A23 w48 b45 0 x34 := h49.el hA ⟨[Ii x34.zone.offset, v38], _, rfl, ⟨[Ii x34.zone.offset], _, rfl, rfl, ⟨_, rfl, h39⟩⟩, ⟨[v40], _, rfl, ⟨_, rfl, h41⟩, ⟨_, rfl, h43⟩⟩⟩
   have ht61 := Kp.tr hk60 hA hB; replace hH := Hp.kp hH hk60; replace hr10 := Tt hr10 ht61; replace hB := Bx hB ht61; replace hA := ht61.new
   refine To ?_
   refine C_region_ch (Dw := Dw) A23 12 [(1, 0), (1, 1), (1, 2), (1, 3), (0, 4), (1, 5), (2, 6), (2, 7), (4, 8), (1, 9), (1, 10), (4, 11)] Tryz_mixed (by kernel_rfl) (fun w62 hk63 => ?_)
   have ht64 := Kp.tr hk63 hA hB; replace hH := Hp.kp hH hk63; replace h59 := El.tr h59 ht64; replace hr10 := Tt hr10 ht64; replace hB := Bx hB ht64; replace hA := ht64.new
   refine CH_q2 rfl (Qm (VQ_CH (CH_q2 rfl (Qm (VQ_CH (CH_q2 rfl (Qn (VQ_CH (CH_q2 rfl ?_)))))))))
   refine Qv (fun w' hw' => Y_fieldAddrC (off2 := 0) underlying194 rfl sizeOf192 (by decide) rfl rfl) (VQ_CH (CH_q1 rfl ?_))
   refine VQ_y (fun w' hw' => Y_load ((World.cell?_of_block (hw'.block _ (World.block_lt_of_cell? _ _ (Hp.cell (j := 0) hH (i := 1) rfl rfl)))).trans (Hp.cell (j := 0) hH (i := 1) rfl rfl)) isAgg192 rfl) rfl rfl rfl ?_
   refine VQ_CH (CH_q2 rfl ?_)
   obtain ⟨v65, v67, v69, h71, h66, h68, h70⟩ := El_cal_Calendar h59
   refine Qv (fun w' hw' => Y_loadA (At.same h71 (hw'.2 _ h59.2.1 h59.1)) isAgg68 sizeOf68 rfl) (VQ_CH ?_)
   refine CH_l1 (k := 0) rfl ?_
   obtain ⟨x72, hx72, h26⟩ := Bs h26
   refine Vc call115 (portref2_NewClock_c (Dw := Dw) w62 (B := w62.heap.size) (Nat.le_refl _) hA x34 v65 h66 v67 h68 v69 h70 Hp.nil hx72) ?_
   rintro _ w74 ⟨b73, A75, rfl, hH76, ht77⟩
   have hk78 : Kp Dw w62 w74 := ht77.below
   have hH79 := Hp.join (Dw := Dw) hH hB ht77 hH76
   have ht80 := Tr.lower (Dw := Dw) ht77 hB
   replace hr10 := Tt hr10 ht80; replace hB := Bx hB ht80; replace hA := ht80.new
   replace hH : Hp _ _ _ (obCk 249 portref2_ShiftsIn b73 x72 :: obPS (obCk 249 portref2_ShiftsIn) 225 v21 s19.clocks :: obC b3 [v21] 194 :: L) := hH79
   refine V_CH (hk78) ?_
   refine CH_l1 (k := 0) rfl ?_
   refine V_buildSlice (Dw := Dw) (l := [(⟨b73⟩ : Ptr)]) (len := 1) underlying192 sizeOf225 zeroValue225 rfl (by with_unfolding_all rfl) (by decide) (by decide) hA ⟨[Pt b73], _, rfl, rfl, rfl⟩ rfl rfl ?_
   intro v81 w82 hk84 h83
   have ht85 := Kp.tr hk84 hA hB; replace hH := Hp.kp hH hk84; replace hr10 := Tt hr10 ht85; replace hB := Bx hB ht85; replace hA := ht85.new
   refine V_CH (hk84) ?_
   refine CH_l1 (k := 2) rfl ?_
   obtain ⟨x86, hx86, h26⟩ := Bs h26
   refine V_appendPS (Dw := Dw) (f := obCk 249 portref2_ShiftsIn) (e := 225) (v := v21) (cs := s19.clocks) (c := x72) (ti := t225) (bytes := 8) (lim := 17592186044416) hH (i := 0) rfl h83 hx86 underlying192 Tryz_info225 rfl rfl rfl rfl (by decide) (by decide) hB hA rfl rfl rfl ?_
   intro v87 w88 A89 hH90 ht91
   replace hr10 := Tt hr10 ht91; replace hB := Bx hB ht91; replace hA := ht91.new
   replace hH : Hp _ _ _ (obPS (obCk 249 portref2_ShiftsIn) 225 v87 x86 :: obC b3 [v21] 194 :: L) := hH90
   refine V_CHw ?_
   refine CH_q2 rfl (Qn (VQ_CH (CH_q2 rfl (Qv (fun w' hw' => Y_fieldAddrC (off2 := 0) underlying194 rfl sizeOf192 (by decide) rfl rfl) (VQ_CH ?_)))))
   refine CH_l1 (k := 2) rfl ?_
   have h97 : (v87).oneCell' = true := Hp.psOne (f := obCk 249 portref2_ShiftsIn) (e := 225) (v := v87) (cs := x86) hH (i := 0) rfl
   refine V_storeC (Dw := Dw) (off := 0) (ds := [v87]) hH (i := 1) rfl sizeOf192 (by rw [← Array.length_toList, Value.cells_one h97]; rfl) (Nat.le_of_ble_eq_true rfl) (by intro u hu; rw [Value.cells_one h97] at hu; simp at hu; subst hu; assumption) (by rw [Value.cells_one h97]; rfl) hB hA rfl rfl ?_
   intro w92 hH93 ht94
   replace hr10 := Tt hr10 ht94
   replace hH : Hp _ _ _ (obPS (obCk 249 portref2_ShiftsIn) 225 v87 x86 :: obC b3 [v87] 194 :: L) := hH93
   refine V_CHw ?_
   refine CH_tail ?_
   show V _ _ _ _ [] _ _
   refine To ?_
   refine C_region (Vy (Y_addI rfl rfl) (Mm ?_))
   obtain rfl := Oi h26
   refine V_end (fun a ha98 => ?_)
   exact ⟨(⟨x86⟩ : portref2_meter), hlt29, h27, ⟨(v87, A89), ha98.sub ⟨rfl, rfl, rfl, Ws hlt29 hn32, trivial⟩, ⟨hH, hr10⟩⟩⟩
  refine C_exit (fun a ha99 => ?_)
  exact ⟨(s19, v21, A23), ha99.sb, ⟨(h30 (eq_of_dec hle28 hc33)).symm, hH, hr10⟩⟩
 rintro ⟨s9, v15, A17⟩ w12 ⟨rfl, hH18, hk13⟩ a ha14
 rw [Lp.andThen_fin] at hm
 replace hK := Tr.trans hK hk13; replace hA := hk13.new
 replace hH : Hp _ _ _ (obPS (obCk 249 portref2_ShiftsIn) 225 v15 s9.clocks :: obC b3 [v15] 194 :: L) := hH18
 refine C_at (n := ⟨27, [], none⟩) (fun _ _ => rfl) ?_ ha14
 refine Sr (Mm (As (To ?_)))
 obtain rfl := Oi hm
 replace hH : Hp B A17 w12 (obC b3 [v15] 194 :: obPS (obCk 249 portref2_ShiftsIn) 225 v15 s9.clocks :: L) := Hp.front hH (i := 1) rfl
 refine Rt (Res.one results85 rfl) ?_
 exact ⟨b3, v15, A17, rfl, hH, hK⟩
theorem portref2_newDuty_c (w : World) {A : Nat → Prop} {B : Nat} (hB : B ≤ w.heap.size) (hA : ∀ b, w.heap.size ≤ b → A b) (people : (List route_Person)) (v_people : Value) (h_people : Sl A w v_people people) (cals : (List cal_Calendar)) (v_cals : Value) (h_cals : Sl A w v_cals cals) {L : List Ob} (hH : Hp B A w (L)) {r : portref2_duty} (hm : portref2_newDuty people cals = some r) : Ret prog 27 #[v_people, v_cals] w fun v w' => ∃ b0, ∃ p0, ∃ p1, ∃ q0, ∃ A1 : Nat → Prop, v = Pt b0 ∧ Sl A1 w' p0 r.people ∧ Hp B A1 w' (obC b0 [p0, p1, .map (some q0)] 199 :: obPS (obCk 249 portref2_ShiftsIn) 225 p1 r.clocks :: obSM (κ := Int) (α := Bool) q0 r.away :: L) ∧ Tr Dw B A w A1 w' := by
 unfold portref2_newDuty at hm
 refine enter func27 rfl ntmps27 rfl ?_
 have hK : Tr Dw B A w A w := Tr.refl (Dw := Dw) hA
 refine Sr (As (To ?_))
 refine Sr (Mm (Mm ?_))
 obtain ⟨x5, hx5, hm⟩ := Bs hm
 refine Vc call85 (portref2_newMeter_c (Dw := Dw) w hB hA cals v_cals h_cals hH hx5) ?_
 rintro _ w9 ⟨b6, v7, A10, rfl, hH11, ht12⟩
 replace h_people := Sl.tr h_people ht12; replace hK := Tt hK ht12; replace hB := Bx hB ht12; replace hA := ht12.new
 replace hH : Hp _ _ _ (obC b6 [v7] 194 :: obPS (obCk 249 portref2_ShiftsIn) 225 v7 x5.clocks :: L) := hH11
 refine Nc (Vy (Y_fieldAddrC (off2 := 0) underlying194 rfl sizeOf192 (by decide) rfl rfl) (Ld (Hp.cell (j := 0) hH (i := 0) rfl rfl) isAgg192 ?_))
 refine V_makeMapS (Dw := Dw) (B := B) Int Bool hH hB hA rfl ?_
 intro b13 w14 A15 hH16 ht17
 replace h_people := Sl.tr h_people ht17; replace hK := Tt hK ht17; replace hB := Bx hB ht17; replace hA := ht17.new
 replace hH : Hp _ _ _ (obSM (κ := Int) (α := Bool) b13 ([] : List (Int × Bool)) :: obC b6 [v7] 194 :: obPS (obCk 249 portref2_ShiftsIn) 225 v7 x5.clocks :: L) := hH16
 refine Vy (Y_build (cells := #[v_people, v7, .map (some b13)]) underlying199 zeroValue199 (Tryz_places199 _ underlying199) rfl (by obtain ⟨a18, c19, e20, _⟩ := Sl.form h_people; subst e20; obtain ⟨a21, c22, e23, _⟩ := Hp.psForm (f := obCk 249 portref2_ShiftsIn) (e := 225) (v := v7) (cs := x5.clocks) hH (i := 2) rfl; subst e23; with_unfolding_all rfl)) ?_
 refine V_boxH (Dw := Dw) (B := B) hH rfl hB hA rfl ?_
 intro b24 w25 A26 hH27 ht28
 replace h_people := Sl.tr h_people ht28; replace hK := Tt hK ht28
 replace hH : Hp _ _ _ (obC b24 [v_people, v7, .map (some b13)] 199 :: obSM (κ := Int) (α := Bool) b13 ([] : List (Int × Bool)) :: obC b6 [v7] 194 :: obPS (obCk 249 portref2_ShiftsIn) 225 v7 x5.clocks :: L) := hH27
 refine As (To ?_)
 obtain rfl := Oi hm
 replace hH : Hp B A26 w25 (obSM (κ := Int) (α := Bool) b13 ([] : List (Int × Bool)) :: obC b24 [v_people, v7, .map (some b13)] 199 :: obC b6 [v7] 194 :: obPS (obCk 249 portref2_ShiftsIn) 225 v7 x5.clocks :: L) := Hp.front hH (i := 1) rfl
 replace hH : Hp B A26 w25 (obPS (obCk 249 portref2_ShiftsIn) 225 v7 x5.clocks :: obSM (κ := Int) (α := Bool) b13 ([] : List (Int × Bool)) :: obC b24 [v_people, v7, .map (some b13)] 199 :: obC b6 [v7] 194 :: L) := Hp.front hH (i := 3) rfl
 replace hH : Hp B A26 w25 (obC b24 [v_people, v7, .map (some b13)] 199 :: obPS (obCk 249 portref2_ShiftsIn) 225 v7 x5.clocks :: obSM (κ := Int) (α := Bool) b13 ([] : List (Int × Bool)) :: obC b6 [v7] 194 :: L) := Hp.front hH (i := 2) rfl
 replace hH : Hp B A26 w25 (obC b24 [v_people, v7, .map (some b13)] 199 :: obPS (obCk 249 portref2_ShiftsIn) 225 v7 x5.clocks :: obSM (κ := Int) (α := Bool) b13 ([] : List (Int × Bool)) :: L) := Hp.drop hH (i := 3) rfl
 refine Rt (Res.one results27 rfl) ?_
 exact ⟨b24, v_people, v7, b13, A26, rfl, h_people, hH, hK⟩
theorem slices_Clone_Lroute_Held_route_Held_c (w : World) {A : Nat → Prop} (hA : ∀ b, w.heap.size ≤ b → A b) (s : (List route_Held)) (v_s : Value) (h_s : Sl A w v_s s) {r : (List route_Held)} (hm : slices_Clone_Lroute_Held_route_Held s = some r) : Ret prog 86 #[v_s] w fun v w' => ∃ s0, v = s0 ∧ Ownd 32 w w' s0 r ∧ Kp Dw w w' := by
 unfold slices_Clone_Lroute_Held_route_Held at hm
 refine enter func86 rfl ntmps86 rfl ?_
 have hA0 := hA
 obtain ⟨hB, hK, hH⟩ := St (Dw := Dw) hA
 rcases Sl.split h_s with ⟨rfl, rfl⟩ | ⟨a0, n0, c0, rfl⟩
 ·replace hm : some ([] : (List route_Held)) = some r := by simpa [appendL] using hm
  refine Sr (As (To ?_))
  refine C_seq (Sr (Mm (Vy (Y_eqlNilT rfl rfl underlying24) (To ?_))))
  refine Cc (fun hc => ?_) fun hc => ?_
  ·refine Sr (As (To ?_))
   obtain rfl := Oi hm
   replace hH : Hp w.heap.size A w (o_32 (.slice none 0 0) ([] : (List route_Held)) :: []) := Hp.addNil (α := route_Held) (e := 32) hH
   refine Rt (Res.one results86 rfl) ?_
   exact ⟨.slice none 0 0, rfl, (Hp.ownd hH (i := 0) rfl), hK.kp⟩
  exact absurd hc (by decide)
 refine Sr (As (To ?_))
 refine C_seq (Sr (Mm (Vy (Y_eqlNilF rfl rfl underlying24) (To ?_))))
 refine Cc (fun hc => ?_) fun hc => ?_
 ·exact absurd hc (by decide)
 refine Sk ?_
 refine Sr ?_
 refine V_buildOwn0H (Dw := Dw) (α := route_Held) hH underlying24 sizeOf32 hB hA rfl ?_
 intro v3 w4 A5 hH6 ht7
 replace h_s := Sl.tr h_s ht7; replace hK := Tt hK ht7; replace hB := Bx hB ht7; replace hA := ht7.new
 replace hH : Hp _ _ _ (o_32 v3 ([] : List route_Held) :: []) := hH6
 refine Mm ?_
 obtain ⟨x8, hx8, hm⟩ := Bs hm
 refine V_appendH (Dw := Dw) (e := 32) (v := v3) (l := ([] : List route_Held)) (ti := t32) (bytes := 32) (lim := 4398046511104) hH (i := 0) rfl h_s hx8 underlying24 Tryz_info32 rfl rfl rfl rfl (by decide) (by decide) (by decide) hB hA rfl rfl rfl ?_
 intro v9 w10 A11 hH12 ht13
 replace hK := Tt hK ht13
 replace hH : Hp _ _ _ (o_32 v9 x8 :: []) := hH12
 refine As (To ?_)
 obtain rfl := Oi hm
 refine Rt (Res.one results86 rfl) ?_
 exact ⟨v9, rfl, (Hp.ownd hH (i := 0) rfl), hK.kp⟩
theorem portref2_orderOf_1_c (w : World) {A : Nat → Prop} (hA : ∀ b, w.heap.size ≤ b → A b) (a_ : Int) (b : Int) (p2 : (List route_Work)) (b_p2 : Nat) (h_p2 : El A w b_p2 0 p2) {r : Int} (hm : portref2_orderOf_1 a_ b p2 = some r) : Ret prog 116 #[Ii a_, Ii b, Pt b_p2] w fun v w' => v = Ii r ∧ Kp Dw w w' := by
 unfold portref2_orderOf_1 at hm
 refine enter func116 rfl ntmps116 rfl ?_
 have hA0 := hA
 obtain ⟨hB, hK, hH⟩ := St (Dw := Dw) hA
 refine Sr (As (To ?_))
 refine C_seq ?_
 refine C_region_def (Dw := Dw) (B := w.heap.size) (k := 8) [(6, 43, .agg #[Ii 0, Ii 0, Ii 0, Ii 0, Ii 0, .slice none 0 0]), (7, 43, .agg #[Ii 0, Ii 0, Ii 0, Ii 0, Ii 0, .slice none 0 0])] [(11, 3), (15, 7)] Tryz_mixed (by kernel_rfl) rfl ⟨⟨_, _, _, rfl, by simp⟩, zeroValue43, ⟨⟨_, _, _, rfl, by simp⟩, zeroValue43, trivial⟩⟩ ⟨⟨_, _, _, rfl, by decide, by decide⟩, by decide, rfl, sizeOf43, ⟨⟨_, _, _, rfl, by decide, by decide⟩, by decide, rfl, sizeOf43, trivial⟩⟩ rfl rfl (by decide) hH hB hA ?_
 simp only [List.take]
 obtain ⟨v7, h8, h9⟩ := El.list h_p2
 refine Qc h8 isAgg25 (Qm ?_)
 obtain ⟨x10, hx10, hm⟩ := Bs hm
 refine VQ_indexAddr h9 hx10 underlying25 sizeOf43 rfl rfl rfl ?_
 intro b11 o12 h13
 obtain ⟨v14, h16, h15⟩ := El_route_Work h13
 refine Qv (fun w' hw' => Y_loadA (At.kp h16 hw' h13.2.1) isAgg43 sizeOf43 rfl) ?_
 obtain ⟨v17, h18, h19⟩ := El.list h_p2
 refine Qc h18 isAgg25 (Qm ?_)
 obtain ⟨x20, hx20, hm⟩ := Bs hm
 refine VQ_indexAddr h19 hx20 underlying25 sizeOf43 rfl rfl rfl ?_
 intro b21 o22 h23
 obtain ⟨v24, h26, h25⟩ := El_route_Work h23
 refine Qv (fun w' hw' => Y_loadA (At.kp h26 hw' h23.2.1) isAgg43 sizeOf43 rfl) ?_
 have h29 : (v24).oneCell' = true := by obtain ⟨_, _, e, _⟩ := Sl.form h25; rw [e]; rfl
 have h32 : (v14).oneCell' = true := by obtain ⟨_, _, e, _⟩ := Sl.form h15; rw [e]; rfl
 refine VQ_end fun a ha => ⟨_, [.agg #[Ii x10.ticket, Ii x10.weight, Ii x10.urgency, Ii x10.since, Ii x10.former, v14], .agg #[Ii x20.ticket, Ii x20.weight, Ii x20.urgency, Ii x20.since, Ii x20.former, v24]], ha, rfl, rfl, ⟨rfl, (by exact (List.forall_mem_cons.2 ⟨rfl, (List.forall_mem_cons.2 ⟨rfl, (List.forall_mem_cons.2 ⟨rfl, (List.forall_mem_cons.2 ⟨rfl, (List.forall_mem_cons.2 ⟨rfl, (List.forall_mem_cons.2 ⟨h32, (fun _ h => nomatch h)⟩)⟩)⟩)⟩)⟩)⟩)), ⟨rfl, (by exact (List.forall_mem_cons.2 ⟨rfl, (List.forall_mem_cons.2 ⟨rfl, (List.forall_mem_cons.2 ⟨rfl, (List.forall_mem_cons.2 ⟨rfl, (List.forall_mem_cons.2 ⟨rfl, (List.forall_mem_cons.2 ⟨h29, (fun _ h => nomatch h)⟩)⟩)⟩)⟩)⟩)⟩)), trivial⟩⟩, fun b1 w2 A3 hH4 ht5 a ha6 => ?_⟩
 replace h15 := Sl.tr h15 ht5; replace h25 := Sl.tr h25 ht5; replace hK := Tt hK ht5; replace hB := Bx hB ht5; replace hA := ht5.new
 replace hH : Hp _ _ _ (obC (b1 0) [Ii x10.ticket, Ii x10.weight, Ii x10.urgency, Ii x10.since, Ii x10.former, v14] 43 :: obC (b1 1) [Ii x20.ticket, Ii x20.weight, Ii x20.urgency, Ii x20.since, Ii x20.former, v24] 43 :: []) := hH4
 obtain ⟨A33, ht34, h35, hH36⟩ := Hp.freezeC (Dw := Dw) (α := route_Work) (x := x10) hH (i := 0) rfl hA (by exact ⟨[Ii x10.ticket], _, rfl, rfl, ⟨[Ii x10.weight], _, rfl, rfl, ⟨[Ii x10.urgency], _, rfl, rfl, ⟨[Ii x10.since], _, rfl, rfl, ⟨[Ii x10.former], _, rfl, rfl, ⟨_, rfl, h15⟩⟩⟩⟩⟩⟩)
 replace h25 := Sl.tr h25 ht34; replace hK := Tt hK ht34; replace hB := Bx hB ht34; replace hA := ht34.new
 replace hH : Hp _ _ _ (obC (b1 1) [Ii x20.ticket, Ii x20.weight, Ii x20.urgency, Ii x20.since, Ii x20.former, v24] 43 :: []) := hH36
 obtain ⟨A37, ht38, h39, hH40⟩ := Hp.freezeC (Dw := Dw) (α := route_Work) (x := x20) hH (i := 0) rfl hA (by exact ⟨[Ii x20.ticket], _, rfl, rfl, ⟨[Ii x20.weight], _, rfl, rfl, ⟨[Ii x20.urgency], _, rfl, rfl, ⟨[Ii x20.since], _, rfl, rfl, ⟨[Ii x20.former], _, rfl, rfl, ⟨_, rfl, h25⟩⟩⟩⟩⟩⟩)
 replace h35 := El.tr h35 ht38; replace hK := Tt hK ht38; replace hB := Bx hB ht38; replace hA := ht38.new; replace hH := hH40
 refine C_at (n := ⟨33, [], none⟩) (fun _ _ => rfl) ?_ ha6
 refine C_seq ?_
 refine C_region_qt (Dw := Dw) 15 Tryz_mixed (by kernel_rfl) ?_
 simp only [List.take, List.drop]
 have h41 := El_route_Work_2 h39
 refine Qf underlying43 rfl sizeOf3 (Qi h41 isAgg3 ?_)
 have h42 := El_route_Work_2 h35
 refine Qf underlying43 rfl sizeOf3 (Qi h42 isAgg3 ?_)
 refine VQ_call (Ii (cmp_Compare_int x20.urgency x10.urgency)) call75 rfl rfl rfl rfl (fun w' hw' => (cmp_Compare_int_c w' x20.urgency x10.urgency).mono (fun _ _ h => ⟨h.1, h.2 ▸ hw'⟩)) ?_
 have h43 := El_route_Work_3 h35
 refine Qf underlying43 rfl sizeOf3 (Qi h43 isAgg3 ?_)
 have h44 := El_route_Work_3 h39
 refine Qf underlying43 rfl sizeOf3 (Qi h44 isAgg3 ?_)
 refine VQ_call (Ii (cmp_Compare_int x10.since x20.since)) call75 rfl rfl rfl rfl (fun w' hw' => (cmp_Compare_int_c w' x10.since x20.since).mono (fun _ _ h => ⟨h.1, h.2 ▸ hw'⟩)) ?_
 have h45 := El_route_Work_0 h35
 refine Qf underlying43 rfl sizeOf3 (Qi h45 isAgg3 ?_)
 have h46 := El_route_Work_0 h39
 refine Qf underlying43 rfl sizeOf3 (Qi h46 isAgg3 ?_)
 refine VQ_call (Ii (cmp_Compare_int x10.ticket x20.ticket)) call75 rfl rfl rfl rfl (fun w' hw' => (cmp_Compare_int_c w' x10.ticket x20.ticket).mono (fun _ _ h => ⟨h.1, h.2 ▸ hw'⟩)) ?_
 refine VQ_tail (fun w47 hk48 => ?_)
 try simp only [List.take, List.drop]
 have ht49 := Kp.tr hk48 hA hB; replace hK := Tt hK ht49; replace hB := Bx hB ht49; replace hA := ht49.new
 refine V_buildSlice (Dw := Dw) (cells := #[Ii (cmp_Compare_int x20.urgency x10.urgency), Ii (cmp_Compare_int x10.since x20.since), Ii (cmp_Compare_int x10.ticket x20.ticket)]) (l := ([(cmp_Compare_int x20.urgency x10.urgency), (cmp_Compare_int x10.since x20.since), (cmp_Compare_int x10.ticket x20.ticket)] : List Int)) (len := 3) underlying98 sizeOf3 zeroValue3 rfl (by generalize ((cmp_Compare_int x20.urgency x10.urgency) : Int) = z54; generalize ((cmp_Compare_int x10.ticket x20.ticket) : Int) = z55; generalize ((cmp_Compare_int x10.since x20.since) : Int) = z56; kernel_rfl) (show (3 * 1 : Nat) ≠ 0 by decide) (show (3 * 1 : Nat) ≤ 2 ^ 24 by decide) hA ⟨[Ii (cmp_Compare_int x20.urgency x10.urgency)], _, rfl, rfl, ⟨[Ii (cmp_Compare_int x10.since x20.since)], _, rfl, rfl, ⟨[Ii (cmp_Compare_int x10.ticket x20.ticket)], _, rfl, rfl, rfl⟩⟩⟩ rfl rfl ?_
 intro v50 w51 hk53 h52
 have ht57 := Kp.tr hk53 hA hB; replace hK := Tt hK ht57
 obtain ⟨x58, hx58, hm⟩ := Bs hm
 refine Vc call105 (cmp_Or_int_c w51 ([(cmp_Compare_int x20.urgency x10.urgency), (cmp_Compare_int x10.since x20.since), (cmp_Compare_int x10.ticket x20.ticket)] : List Int) v50 h52 hx58) ?_
 rintro _ _ ⟨rfl, rfl⟩
 refine As (To ?_)
 obtain rfl := Oi hm
 refine Rt (Res.one results116 rfl) ?_
 exact ⟨rfl, hK.kp⟩
theorem portref2_orderOf_c (w : World) {A : Nat → Prop} (hA : ∀ b, w.heap.size ≤ b → A b) (l : (List route_Work)) (v_l : Value) (h_l : Sl A w v_l l) {r : (List Int)} (hm : portref2_orderOf l = some r) : Ret prog 87 #[v_l] w fun v w' => ∃ s0, v = s0 ∧ Ownd 3 w w' s0 r ∧ Kp Dw w w' := by
 unfold portref2_orderOf at hm
 refine enter func87 rfl ntmps87 rfl ?_
 have hA0 := hA
 obtain ⟨hB, hK, hH⟩ := St (Dw := Dw) hA
 refine Sr ?_
 refine V_box rfl rfl ?_
 intro b3 w4 h5
 have h10 : (v_l).oneCell' = true := by obtain ⟨_, _, e, _⟩ := Sl.form h_l; rw [e]; rfl
 have hk7 := h5.kp (Dw := Dw)
 have h6 : El (α := (List route_Work)) A w4 b3 0 l := h5.el hA (by rw [Value.cells_one h10]; exact ⟨_, rfl, h_l⟩)
 have ht11 := Kp.tr hk7 hA hB; replace hH := Hp.kp hH hk7; replace hK := Tt hK ht11; replace hB := Bx hB ht11; replace hA := ht11.new
 refine As (To ?_)
 refine Sr ?_
 obtain ⟨v12, h13, h14⟩ := El.list h6
 refine Ld h13 isAgg25 ?_
 have hn15 := Sl.le h14
 refine Vy (Y_lenSl h14 rfl underlying25 rfl) ?_
 obtain ⟨x16, hx16, hm⟩ := Bs hm
 refine V_makeH (Dw := Dw) (e := 3) (ti := t3) hH hx16 (fun _ _ => rfl) underlying98 Tryz_info3 rfl rfl rfl (by decide) (by decide) hB hA rfl rfl rfl ?_
 intro v17 w18 A19 hH20 ht21
 replace h6 := El.tr h6 ht21; replace hK := Tt hK ht21; replace hB := Bx hB ht21; replace hA := ht21.new
 replace hH : Hp _ _ _ (o_3 v17 x16 :: []) := hH20
 refine As (To ?_)
 refine C_seq (Sr ?_)
 obtain ⟨v22, h23, h24⟩ := El.list h6
 refine Ld h23 isAgg25 ?_
 have hn25 := Sl.le h24
 refine Vy (Y_lenSl h24 rfl underlying25 rfl) (Mm (To ?_))
 obtain ⟨o26, ho26, hm⟩ := Bs hm
 refine C_cutG (ι := ((List Int) × Value × (Nat → Prop))) (fun ⟨s27, v33, A35⟩ => [(1, Pt b3), (3, v33)]) (fun ⟨s27, v33, A35⟩ => fun w' => o26 = .fin s27 ∧ Hp w.heap.size A35 w' (o_3 v33 s27 :: []) ∧ Tr Dw w.heap.size A19 w18 A35 w') ?_ ?_
 ·refine C_block ?_
  refine C_range ho26 (fun k29 s37 a w' => ∃ i : (Value × (Nat → Prop)), Has ⟨22, [], none⟩ a ([(1, Pt b3), (3, i.1), (9, Ii (l.length : Int)), (10, Ii (k29 : Int))]) ∧ Hp w.heap.size i.2 w' (o_3 i.1 s37 :: []) ∧ Tr Dw w.heap.size A19 w18 i.2 w') (fun a ha => ⟨(v17, A19), ha.sb, ⟨hH, Tr.refl (Dw := Dw) hA⟩⟩) ?_
  rintro K k29 s37 a w38 ⟨⟨v39, A41⟩, ha63, hH42, hr28⟩ hle46 K49 h48
  refine C_of ?_ ha63
  replace hB := Bx hB hr28; replace hA := hr28.new
  replace hH : Hp _ _ _ (o_3 v39 s37 :: []) := hH42
  refine Sr (Vy (Y_lss rfl rfl) (To ?_))
  refine C_seq ?_
  refine Cc (fun hc51 => ?_) fun hc51 => ?_
  ·have hlt47 := lt_of_dec hc51
   obtain ⟨x43, h44, h45⟩ := K49 hlt47
   refine Sk ?_
   refine C_seq (C_block (Sr (Mm (As (To ?_)))))
   refine C_region (Mm (Mm (Mm ?_)))
   obtain ⟨x52, hx52, h44⟩ := Bs h44
   refine V_indexAddrH (α := Int) (e := 3) (v := v39) (l := s37) hH (i := 0) rfl hx52 underlying98 sizeOf3 rfl rfl rfl ?_
   intro b53 o54 h55 hl56
   obtain ⟨x57, hx57, h44⟩ := Bs h44
   refine V_storeH (Dw := Dw) (α := Int) (e := 3) (v := v39) (l := s37) hH (i := 0) rfl hl56 hx57 rfl sizeOf3 rfl hB hA rfl rfl ?_
   intro w58 hH59 ht60
   replace hr28 := Tt hr28 ht60
   replace hH : Hp _ _ _ (o_3 v39 x57 :: []) := hH59
   refine To ?_
   refine C_region (Vy (Y_addI rfl rfl) (Mm ?_))
   obtain rfl := Oi h44
   refine V_end (fun a ha61 => ?_)
   exact ⟨x57, hlt47, h45, ⟨(v39, A41), ha61.sub ⟨rfl, rfl, rfl, Ws hlt47 hn25, trivial⟩, ⟨hH, hr28⟩⟩⟩
  refine C_exit (fun a ha62 => ?_)
  exact ⟨(s37, v39, A41), ha62.sb, ⟨(h48 (eq_of_dec hle46 hc51)).symm, hH, hr28⟩⟩
 rintro ⟨s27, v33, A35⟩ w30 ⟨rfl, hH36, hk31⟩ a ha32
 rw [Lp.andThen_fin] at hm
 replace h6 := El.tr h6 hk31; replace hK := Tr.trans hK hk31; replace hB := Nat.le_trans hB hk31.ex.size; replace hA := hk31.new
 replace hH : Hp _ _ _ (o_3 v33 s27 :: []) := hH36
 refine C_at (n := ⟨22, [], none⟩) (fun _ _ => rfl) ?_ ha32
 refine Sr (Mm (Vy (Y_makeFunc rfl rfl) ?_))
 obtain ⟨x64, hx64, hm⟩ := Bs hm
 refine V_call call103 rfl rfl rfl rfl (Tryz_sf103 (Dw := Dw) call116 (fun w70 ht71 h72 p74 q75 c76 h73 => by exact (portref2_orderOf_1_c (Dw := True) w70 h72 p74 q75 l b3 (El.tr h6 ht71) h73).mono fun _ _ h => ⟨h.1, h.2⟩) hH (i := 0) rfl hB hA hx64) ?_
 rintro _ w65 ⟨rfl, hH66, ht67⟩
 replace hK := Tt hK ht67
 replace hH : Hp _ _ _ (o_3 v33 x64 :: []) := hH66
 refine To ?_
 refine Sr (Mm (As (To ?_)))
 obtain rfl := Oi hm
 refine Rt (Res.one results87 rfl) ?_
 exact ⟨v33, rfl, (Hp.ownd hH (i := 0) rfl), hK.kp⟩
theorem portref2_needsAt_c (w : World) {A : Nat → Prop} (hA : ∀ b, w.heap.size ≤ b → A b) (w_ : route_Work) (v_w_ : Value) (h_w_ : Sl A w v_w_ w_.needs) (steps : (List route_Step)) (v_steps : Value) (h_steps : Sl A w v_steps steps) (m : Int) {r : (List route_Skill)} (hm : portref2_needsAt w_ steps m = some r) : Ret prog 88 #[.agg #[Ii w_.ticket, Ii w_.weight, Ii w_.urgency, Ii w_.since, Ii w_.former, v_w_], v_steps, Ii m] w fun v w' => ∃ s0, v = s0 ∧ Sl A w' s0 r ∧ Kp Dw w w' := by
 unfold portref2_needsAt at hm
 refine enter func88 rfl ntmps88 rfl ?_
 have hA0 := hA
 obtain ⟨hB, hK, hH⟩ := St (Dw := Dw) hA
 refine Sr ?_
 refine V_box rfl rfl ?_
 intro b5 w6 h7
 have hk9 := h7.kp (Dw := Dw)
 have h8 : El (α := route_Work) A w6 b5 0 w_ := h7.el hA ⟨[Ii w_.ticket], _, rfl, rfl, ⟨[Ii w_.weight], _, rfl, rfl, ⟨[Ii w_.urgency], _, rfl, rfl, ⟨[Ii w_.since], _, rfl, rfl, ⟨[Ii w_.former], _, rfl, rfl, ⟨_, rfl, h_w_⟩⟩⟩⟩⟩⟩
 have ht10 := Kp.tr hk9 hA hB; replace hH := Hp.kp hH hk9; replace h_steps := Sl.tr h_steps ht10; replace hK := Tt hK ht10; replace hB := Bx hB ht10; replace hA := ht10.new
 refine As (To ?_)
 refine Sr (As (To ?_))
 refine C_seq (Sr (Mm (Vy (Y_lenSl h_steps rfl underlying26 rfl) (Mm (To ?_)))))
 have hn31 := Sl.le h_steps
 obtain ⟨o11, ho11, hm⟩ := Bs hm
 refine C_cutG (ι := (Int × (Nat → Prop))) (fun ⟨s12, A18⟩ => [(1, v_steps), (3, Pt b5), (7, Ii s12)]) (fun ⟨s12, A18⟩ => fun w' => o11 = .fin s12 ∧ Hp w.heap.size A18 w' ([]) ∧ Tr Dw w.heap.size A w6 A18 w') ?_ ?_
 ·refine C_block ?_
  refine C_range ho11 (fun k14 s20 a w' => ∃ i : (Nat → Prop), Has ⟨63, [], none⟩ a ([(1, v_steps), (2, Ii m), (3, Pt b5), (7, Ii s20), (13, v_steps), (14, Ii (steps.length : Int)), (15, Ii (k14 : Int))]) ∧ Hp w.heap.size i w' ([]) ∧ Tr Dw w.heap.size A w6 i w') (fun a ha => ⟨A, ha.sb, ⟨hH, Tr.refl (Dw := Dw) hA⟩⟩) ?_
  rintro K k14 s20 a w21 ⟨A22, ha68, hH23, hr13⟩ hle27 K30 h29
  refine C_of ?_ ha68
  replace h_steps := Sl.tr h_steps hr13; replace h8 := El.tr h8 hr13; replace hB := Bx hB hr13; replace hA := hr13.new; replace hH := hH23
  refine Sr (Vy (Y_lss rfl rfl) (To ?_))
  refine C_seq ?_
  refine Cc (fun hc32 => ?_) fun hc32 => ?_
  ·have hlt28 := lt_of_dec hc32
   obtain ⟨x24, h25, h26⟩ := K30 hlt28
   refine Sk ?_
   refine C_seq ?_
   obtain ⟨s34, ho33, h25⟩ := Bs h25
   refine C_cutG (ι := (Nat → Prop)) (fun (A39 : (Nat → Prop)) => [(1, v_steps), (2, Ii m), (3, Pt b5), (7, Ii s34), (13, v_steps), (14, Ii (steps.length : Int)), (15, Ii (k14 : Int))]) (fun (A39 : (Nat → Prop)) => fun w' => Hp w.heap.size A39 w' ([]) ∧ Tr Dw w.heap.size A22 w21 A39 w') ?_ ?_
   ·have hr35 : Tr Dw w.heap.size A22 w21 A22 w21 := Tr.refl (Dw := Dw) hA
    refine C_block (Sr (Mm ?_))
    obtain ⟨x41, hx41, ho33⟩ := Bs ho33
    refine V_indexAddr h_steps hx41 underlying26 sizeOf173 rfl rfl rfl ?_
    intro b42 o43 h44
    obtain ⟨h45, _⟩ := El_route_Step h44
    refine Vy (Y_loadA h45 isAgg173 sizeOf173 rfl) ?_
    refine V_alloc zeroValue173 rfl ?_
    intro b46 w47 h48
    refine As ?_
    refine Sn h48 sizeOf173 ?_
    intro w49 h50
    have hk52 := h50.kp (Dw := Dw)
    have h51 : El (α := route_Step) A22 w49 b46 0 x41 := h50.el hA ⟨[Ii x41.after], _, rfl, rfl, ⟨[Ii x41.lower], _, rfl, rfl, rfl⟩⟩
    have ht53 := Kp.tr hk52 hA hB; replace hH := Hp.kp hH hk52; replace h8 := El.tr h8 ht53; replace hr35 := Tt hr35 ht53
    refine To ?_
    refine Sr ?_
    have h54 := El_route_Step_0 h51
    refine Fa underlying173 rfl sizeOf3 (Li h54 isAgg3 (Mm ?_))
    have h55 := El_route_Work_3 h8
    refine Fa underlying43 rfl sizeOf3 (Li h55 isAgg3 (Vy (Y_subI rfl rfl) (Vy (Y_leq rfl rfl) (To ?_))))
    obtain ⟨s57, ho56, ho33⟩ := Bs ho33
    refine C_cutG (ι := Unit) (fun (_ : Unit) => [(1, v_steps), (2, Ii m), (3, Pt b5), (7, Ii s57), (13, v_steps), (14, Ii (steps.length : Int)), (15, Ii (k14 : Int))]) (fun (_ : Unit) => fun w' => w49 = w') ?_ ?_
    ·refine Cc (fun hc62 => ?_) fun hc62 => ?_
     ·rw [if_pos hc62] at ho56
      refine C_region (Mm (As ?_))
      obtain rfl := Oi ho56
      refine V_end (fun a ha63 => ?_)
      exact ⟨(), ha63.sb, rfl⟩
     rw [if_neg (nt hc62)] at ho56
     obtain rfl := Oi ho56
     refine C_skip (fun a ha64 => ?_)
     exact ⟨(), ha64.sb, rfl⟩
    rintro _ _ rfl a ha61
    obtain rfl := Oi ho33
    exact ⟨A22, ha61.sb, ⟨hH, hr35⟩⟩
   rintro A39 w36 ⟨hH40, hk37⟩ a ha38
   replace hr13 := Tr.trans hr13 hk37; replace hA := hk37.new; replace hH := hH40
   refine C_at (n := ⟨63, [], none⟩) (fun _ _ => rfl) ?_ ha38
   refine C_region (Vy (Y_addI rfl rfl) (Mm ?_))
   obtain rfl := Oi h25
   refine V_end (fun a ha66 => ?_)
   exact ⟨s34, hlt28, h26, ⟨A39, ha66.sub ⟨rfl, rfl, rfl, rfl, rfl, rfl, Ws hlt28 hn31, trivial⟩, ⟨hH, hr13⟩⟩⟩
  refine C_exit (fun a ha67 => ?_)
  exact ⟨(s20, A22), ha67.sb, ⟨(h29 (eq_of_dec hle27 hc32)).symm, hH, hr13⟩⟩
 rintro ⟨s12, A18⟩ w15 ⟨rfl, hH19, hk16⟩ a ha17
 rw [Lp.andThen_fin] at hm
 replace h_steps := Sl.tr h_steps hk16; replace h8 := El.tr h8 hk16; replace hK := Tr.trans hK hk16; replace hB := Nat.le_trans hB hk16.ex.size; replace hA := hk16.new; replace hH := hH19
 refine C_at (n := ⟨63, [], none⟩) (fun _ _ => rfl) ?_ ha17
 refine C_seq (Sr (Mm (Vy (Y_lss rfl rfl) (To ?_))))
 refine Cc (fun hc69 => ?_) fun hc69 => ?_
 ·rw [if_pos hc69] at hm
  refine Sr ?_
  have h70 := El_route_Work_5 h8
  refine Fa underlying43 rfl sizeOf41 ?_
  obtain ⟨v71, h72, h73⟩ := El.list h70
  refine Ld h72 isAgg41 (As (To ?_))
  obtain rfl := Oi hm
  refine Rt (Res.one results88 rfl) ?_
  exact ⟨v71, rfl, (Sl.out (Dw := Dw) h73 hA0 hK), hK.kp⟩
 rw [if_neg (nt hc69)] at hm
 refine Sk ?_
 refine C_seq (Sr (Mm (Mm ?_)))
 obtain ⟨x74, hx74, hm⟩ := Bs hm
 refine V_indexAddr h_steps hx74 underlying26 sizeOf173 rfl rfl rfl ?_
 intro b75 o76 h77
 have h78 := El_route_Step_2 h77
 refine Fa underlying173 rfl sizeOf4 (Ld (El.bool h78) isAgg4 (To ?_))
 refine Cc (fun hc79 => ?_) fun hc79 => ?_
 ·rw [if_pos hc79] at hm
  refine Sr (As (To ?_))
  obtain rfl := Oi hm
  refine Rt (Res.one results88 rfl) ?_
  exact ⟨.slice none 0 0, rfl, Sl.nil, hK.kp⟩
 rw [if_neg (nt hc79)] at hm
 refine Sk ?_
 refine Sr (As (To ?_))
 refine C_seq (Sr ?_)
 have h80 := El_route_Work_5 h8
 refine Fa underlying43 rfl sizeOf41 ?_
 obtain ⟨v81, h82, h83⟩ := El.list h80
 refine Ld h82 isAgg41 (Vy (Y_lenSl h83 rfl underlying41 rfl) (Mm (To ?_)))
 replace hH : Hp w.heap.size A18 w15 (o_127 (.slice none 0 0) ([] : (List route_Skill)) :: []) := Hp.addNil (α := route_Skill) (e := 127) hH
 have hn108 := Sl.le h83
 obtain ⟨o84, ho84, hm⟩ := Bs hm
 refine C_cutG (ι := ((List route_Skill) × Value × (Nat → Prop))) (fun ⟨s85, v91, A93⟩ => [(10, v91)]) (fun ⟨s85, v91, A93⟩ => fun w' => o84 = .fin s85 ∧ Hp w.heap.size A93 w' (o_127 v91 s85 :: []) ∧ Tr Dw w.heap.size A18 w15 A93 w') ?_ ?_
 ·refine C_block ?_
  refine C_range ho84 (fun k87 s95 a w' => ∃ i : (Value × (Nat → Prop)), Has ⟨63, [], none⟩ a ([(1, v_steps), (7, Ii s12), (10, i.1), (39, v81), (40, Ii (w_.needs.length : Int)), (41, Ii (k87 : Int))]) ∧ Hp w.heap.size i.2 w' (o_127 i.1 s95 :: []) ∧ Tr Dw w.heap.size A18 w15 i.2 w') (fun a ha => ⟨(.slice none 0 0, A18), ha.sb, ⟨hH, Tr.refl (Dw := Dw) hA⟩⟩) ?_
  rintro K k87 s95 a w96 ⟨⟨v97, A99⟩, ha171, hH100, hr86⟩ hle104 K107 h106
  refine C_of ?_ ha171
  replace h_steps := Sl.tr h_steps hr86; replace h83 := Sl.tr h83 hr86; replace hB := Bx hB hr86; replace hA := hr86.new
  replace hH : Hp _ _ _ (o_127 v97 s95 :: []) := hH100
  refine Sr (Vy (Y_lss rfl rfl) (To ?_))
  refine C_seq ?_
  refine Cc (fun hc109 => ?_) fun hc109 => ?_
  ·have hlt105 := lt_of_dec hc109
   obtain ⟨x101, h102, h103⟩ := K107 hlt105
   refine Sk ?_
   refine C_seq ?_
   obtain ⟨s111, ho110, h102⟩ := Bs h102
   refine C_cutG (ι := (Value × (Nat → Prop))) (fun ⟨v113, A118⟩ => [(1, v_steps), (7, Ii s12), (10, v113), (39, v81), (40, Ii (w_.needs.length : Int)), (41, Ii (k87 : Int))]) (fun ⟨v113, A118⟩ => fun w' => Hp w.heap.size A118 w' (o_127 v113 s111 :: []) ∧ Tr Dw w.heap.size A99 w96 A118 w') ?_ ?_
   ·have hr112 : Tr Dw w.heap.size A99 w96 A99 w96 := Tr.refl (Dw := Dw) hA
    refine C_block (Sr ?_)
    obtain ⟨x120, hx120, ho110⟩ := Bs ho110
    refine V_indexAddr h83 hx120 underlying41 sizeOf127 rfl rfl rfl ?_
    intro b121 o122 h123
    obtain ⟨h124, _⟩ := El_route_Skill h123
    refine Vy (Y_loadA h124 isAgg127 sizeOf127 rfl) ?_
    refine V_allocH (Dw := Dw) (B := w.heap.size) hH zeroValue127 hB hA rfl ?_
    intro b125 w126 A127 hH128 ht129
    replace h_steps := Sl.tr h_steps ht129; replace hr112 := Tt hr112 ht129; replace hB := Bx hB ht129; replace hA := ht129.new
    replace hH : Hp _ _ _ (obC b125 [.string ByteArray.empty, Ii 0] 127 :: o_127 v97 s95 :: []) := hH128
    refine V_storeC (Dw := Dw) (off := 0) (ds := [.string x120.name, Ii x120.rank]) hH (i := 0) rfl sizeOf127 rfl (Nat.le_of_ble_eq_true rfl) (by simp [Value.cells, Value.oneCell']) rfl hB hA rfl rfl ?_
    intro w130 hH131 ht132
    replace h_steps := Sl.tr h_steps ht132; replace hr112 := Tt hr112 ht132; replace hB := Bx hB ht132; replace hA := ht132.new
    replace hH : Hp _ _ _ (obC b125 [.string x120.name, Ii x120.rank] 127 :: o_127 v97 s95 :: []) := hH131
    refine To ?_
    refine C_seq ?_
    refine C_region_qt (Dw := Dw) 9 Tryz_mixed (by kernel_rfl) ?_
    simp only [List.take, List.drop]
    refine Qv (fun w' hw' => Y_fieldAddrC (off2 := 1) underlying127 rfl sizeOf3 (by decide) rfl rfl) ?_
    refine VQ_y (fun w' hw' => Y_load ((World.cell?_of_block (hw'.block _ (World.block_lt_of_cell? _ _ (Hp.cell (j := 1) hH (i := 0) rfl rfl)))).trans (Hp.cell (j := 1) hH (i := 0) rfl rfl)) isAgg3 rfl) rfl rfl rfl ?_
    refine Qm (Qm ?_)
    refine VQ_indexAddr h_steps hx74 underlying26 sizeOf173 rfl rfl rfl ?_
    intro b133 o134 h135
    have h136 := El_route_Step_1 h135
    refine Qf underlying173 rfl sizeOf3 (Qi h136 isAgg3 (Qv (fun w' hw' => Y_subI rfl rfl) (Qv (fun w' hw' => Y_fieldAddrC (off2 := 1) underlying127 rfl sizeOf3 (by decide) rfl rfl) ?_)))
    refine VQ_tail (fun w137 hk138 => ?_)
    try simp only [List.take, List.drop]
    have ht139 := Kp.tr hk138 hA hB; replace hH := Hp.kp hH hk138; replace hr112 := Tt hr112 ht139; replace hB := Bx hB ht139; replace hA := ht139.new
    refine V_storeC (Dw := Dw) (off := 1) (ds := [.string x120.name, Ii (w64 (x120.rank - x74.lower))]) hH (i := 0) rfl sizeOf3 rfl (Nat.le_of_ble_eq_true rfl) (by simp [Value.cells, Value.oneCell']) rfl hB hA rfl rfl ?_
    intro w140 hH141 ht142
    replace hr112 := Tt hr112 ht142; replace hB := Bx hB ht142; replace hA := ht142.new
    replace hH : Hp _ _ _ (obC b125 [.string x120.name, Ii (w64 (x120.rank - x74.lower))] 127 :: o_127 v97 s95 :: []) := hH141
    refine To ?_
    refine Sr (Vy (Y_fieldAddrC (off2 := 1) underlying127 rfl sizeOf3 (by decide) rfl rfl) (Ld (Hp.cell (j := 1) hH (i := 0) rfl rfl) isAgg3 (Vy (Y_geq rfl rfl) (To ?_))))
    obtain ⟨s144, ho143, ho110⟩ := Bs ho110
    refine C_cutG (ι := (Value × (Nat → Prop))) (fun ⟨v146, A151⟩ => [(1, v_steps), (7, Ii s12), (10, v146), (39, v81), (40, Ii (w_.needs.length : Int)), (41, Ii (k87 : Int))]) (fun ⟨v146, A151⟩ => fun w' => Hp w.heap.size A151 w' (obC b125 [.string x120.name, Ii (w64 (x120.rank - x74.lower))] 127 :: o_127 v146 s144 :: []) ∧ Tr Dw w.heap.size A127 w140 A151 w') ?_ ?_
    ·have hr145 : Tr Dw w.heap.size A127 w140 A127 w140 := Tr.refl (Dw := Dw) hA
     refine Cc (fun hc153 => ?_) fun hc153 => ?_
     ·rw [if_pos hc153] at ho143
      refine C_region (Mm (Vy (Y_loadA (Hp.part (off := 0) (n := 2) (ds := [.string x120.name, Ii (w64 (x120.rank - x74.lower))]) hH (i := 0) rfl rfl) isAgg127 sizeOf127 rfl) ?_))
      refine V_buildSlice (Dw := Dw) (cells := #[.string x120.name, Ii (w64 (x120.rank - x74.lower))]) (l := ([(⟨x120.name, w64 (x120.rank - x74.lower)⟩ : route_Skill)] : List route_Skill)) (len := 1) underlying41 sizeOf127 zeroValue127 rfl (by generalize (w64 (x120.rank - x74.lower) : Int) = z158; kernel_rfl) (show (1 * 2 : Nat) ≠ 0 by decide) (show (1 * 2 : Nat) ≤ 2 ^ 24 by decide) hA ⟨[.string x120.name, Ii (w64 (x120.rank - x74.lower))], _, rfl, ⟨[.string x120.name], _, rfl, rfl, rfl⟩, rfl⟩ rfl rfl ?_
      intro v154 w155 hk157 h156
      have ht159 := Kp.tr hk157 hA hB; replace hH := Hp.kp hH hk157; replace hr145 := Tt hr145 ht159; replace hB := Bx hB ht159; replace hA := ht159.new
      obtain ⟨x160, hx160, ho143⟩ := Bs ho143
      refine V_appendH (Dw := Dw) (e := 127) (v := v97) (l := s95) (ti := t127) (bytes := 24) (lim := 5864062014805) hH (i := 1) rfl h156 hx160 underlying41 Tryz_info127 rfl rfl rfl rfl (by decide) (by decide) (by decide) hB hA rfl rfl rfl ?_
      intro v161 w162 A163 hH164 ht165
      replace hr145 := Tt hr145 ht165
      replace hH : Hp _ _ _ (obC b125 [.string x120.name, Ii (w64 (x120.rank - x74.lower))] 127 :: o_127 v161 x160 :: []) := hH164
      refine As ?_
      obtain rfl := Oi ho143
      refine V_end (fun a ha166 => ?_)
      exact ⟨(v161, A163), ha166.sb, ⟨hH, hr145⟩⟩
     rw [if_neg (nt hc153)] at ho143
     obtain rfl := Oi ho143
     refine C_skip (fun a ha167 => ?_)
     exact ⟨(v97, A127), ha167.sb, ⟨hH, hr145⟩⟩
    rintro ⟨v146, A151⟩ w148 ⟨hH152, hk149⟩ a ha150
    replace hr112 := Tr.trans hr112 hk149; replace hA := hk149.new
    replace hH : Hp _ _ _ (obC b125 [.string x120.name, Ii (w64 (x120.rank - x74.lower))] 127 :: o_127 v146 s144 :: []) := hH152
    obtain rfl := Oi ho110
    replace hH : Hp w.heap.size A151 w148 (o_127 v146 s144 :: obC b125 [.string x120.name, Ii (w64 (x120.rank - x74.lower))] 127 :: []) := Hp.front hH (i := 1) rfl
    replace hH : Hp w.heap.size A151 w148 (o_127 v146 s144 :: []) := Hp.drop hH (i := 1) rfl
    exact ⟨(v146, A151), ha150.sb, ⟨hH, hr112⟩⟩
   rintro ⟨v113, A118⟩ w115 ⟨hH119, hk116⟩ a ha117
   replace hr86 := Tr.trans hr86 hk116; replace hA := hk116.new
   replace hH : Hp _ _ _ (o_127 v113 s111 :: []) := hH119
   refine C_at (n := ⟨63, [], none⟩) (fun _ _ => rfl) ?_ ha117
   refine C_region (Vy (Y_addI rfl rfl) (Mm ?_))
   obtain rfl := Oi h102
   refine V_end (fun a ha169 => ?_)
   exact ⟨s111, hlt105, h103, ⟨(v113, A118), ha169.sub ⟨rfl, rfl, rfl, rfl, rfl, Ws hlt105 hn108, trivial⟩, ⟨hH, hr86⟩⟩⟩
  refine C_exit (fun a ha170 => ?_)
  exact ⟨(s95, v97, A99), ha170.sb, ⟨(h106 (eq_of_dec hle104 hc109)).symm, hH, hr86⟩⟩
 rintro ⟨s85, v91, A93⟩ w88 ⟨rfl, hH94, hk89⟩ a ha90
 rw [Lp.andThen_fin] at hm
 replace hK := Tr.trans hK hk89; replace hA := hk89.new
 replace hH : Hp _ _ _ (o_127 v91 s85 :: []) := hH94
 refine C_at (n := ⟨63, [], none⟩) (fun _ _ => rfl) ?_ ha90
 refine Sr (Mm (As (To ?_)))
 obtain rfl := Oi hm
 obtain ⟨A172, ht173, h174, hH175⟩ := Hp.freeze (Dw := Dw) (α := route_Skill) (v := v91) (l := s85) hH (i := 0) rfl hA
 replace hK := Tt hK ht173; replace hH := hH175
 refine Rt (Res.one results88 rfl) ?_
 exact ⟨v91, rfl, (Sl.out (Dw := Dw) h174 hA0 hK), hK.kp⟩
theorem portref2_weightOf_c (w : World) {A : Nat → Prop} (hA : ∀ b, w.heap.size ≤ b → A b) (held : (List route_Held)) (v_held : Value) (h_held : Sl A w v_held held) (no : Int) {r : (Int × Int)} (hm : portref2_weightOf held no = some r) : Ret prog 89 #[v_held, Ii no] w fun v w' => v = .tuple #[Ii r.1, Ii r.2] ∧ Kp Dw w w' := by
 unfold portref2_weightOf at hm
 refine enter func89 rfl ntmps89 rfl ?_
 have hA0 := hA
 obtain ⟨hB, hK, hH⟩ := St (Dw := Dw) hA
 refine Sr (As (As (To ?_)))
 refine Sr (As (To ?_))
 refine C_seq (Sr (Mm (Vy (Y_lenSl h_held rfl underlying24 rfl) (Mm (To ?_)))))
 have hn23 := Sl.le h_held
 obtain ⟨o3, ho3, hm⟩ := Bs hm
 refine C_cutG (ι := ((Int × Int) × (Nat → Prop))) (fun ⟨s4, A10⟩ => [(4, Ii s4.1), (5, Ii s4.2)]) (fun ⟨s4, A10⟩ => fun w' => o3 = .fin s4 ∧ Hp w.heap.size A10 w' ([]) ∧ Tr Dw w.heap.size A w A10 w') ?_ ?_
 ·refine C_block ?_
  refine C_range ho3 (fun k6 s12 a w' => ∃ i : (Nat → Prop), Has ⟨29, [], none⟩ a ([(1, Ii no), (4, Ii s12.1), (5, Ii s12.2), (8, v_held), (9, Ii (held.length : Int)), (10, Ii (k6 : Int))]) ∧ Hp w.heap.size i w' ([]) ∧ Tr Dw w.heap.size A w i w') (fun a ha => ⟨A, ha.sb, ⟨hH, Tr.refl (Dw := Dw) hA⟩⟩) ?_
  rintro K k6 s12 a w13 ⟨A14, ha66, hH15, hr5⟩ hle19 K22 h21
  refine C_of ?_ ha66
  replace h_held := Sl.tr h_held hr5; replace hB := Bx hB hr5; replace hA := hr5.new; replace hH := hH15
  refine Sr (Vy (Y_lss rfl rfl) (To ?_))
  refine C_seq ?_
  refine Cc (fun hc24 => ?_) fun hc24 => ?_
  ·have hlt20 := lt_of_dec hc24
   obtain ⟨x16, h17, h18⟩ := K22 hlt20
   refine Sk ?_
   refine C_seq ?_
   obtain ⟨s26, ho25, h17⟩ := Bs h17
   refine C_cutG (ι := (Nat → Prop)) (fun (A31 : (Nat → Prop)) => [(1, Ii no), (4, Ii s26.1), (5, Ii s26.2), (8, v_held), (9, Ii (held.length : Int)), (10, Ii (k6 : Int))]) (fun (A31 : (Nat → Prop)) => fun w' => Hp w.heap.size A31 w' ([]) ∧ Tr Dw w.heap.size A14 w13 A31 w') ?_ ?_
   ·have hr27 : Tr Dw w.heap.size A14 w13 A14 w13 := Tr.refl (Dw := Dw) hA
    refine C_block (Sr ?_)
    obtain ⟨x33, hx33, ho25⟩ := Bs ho25
    refine V_indexAddr h_held hx33 underlying24 sizeOf32 rfl rfl rfl ?_
    intro b34 o35 h36
    obtain ⟨h37, _⟩ := El_route_Held h36
    refine Vy (Y_loadA h37 isAgg32 sizeOf32 rfl) ?_
    refine V_alloc zeroValue32 rfl ?_
    intro b38 w39 h40
    refine Sn h40 sizeOf32 ?_
    intro w41 h42
    have hk44 := h42.kp (Dw := Dw)
    have h43 : El (α := route_Held) A14 w41 b38 0 x33 := h42.el hA ⟨[Ii x33.ticket], _, rfl, rfl, ⟨[Ii x33.person], _, rfl, rfl, ⟨[Ii x33.weight], _, rfl, rfl, rfl⟩⟩⟩
    have ht45 := Kp.tr hk44 hA hB; replace hH := Hp.kp hH hk44; replace hr27 := Tt hr27 ht45; replace hB := Bx hB ht45; replace hA := ht45.new
    refine To ?_
    refine Sr ?_
    have h46 := El_route_Held_1 h43
    refine Fa underlying32 rfl sizeOf3 (Li h46 isAgg3 (Mm (Vy (Y_eql rfl rfl) (To ?_))))
    obtain ⟨s48, ho47, ho25⟩ := Bs ho25
    refine C_cutG (ι := (Nat → Prop)) (fun (A53 : (Nat → Prop)) => [(1, Ii no), (4, Ii s48.1), (5, Ii s48.2), (8, v_held), (9, Ii (held.length : Int)), (10, Ii (k6 : Int))]) (fun (A53 : (Nat → Prop)) => fun w' => Hp w.heap.size A53 w' ([]) ∧ Tr Dw w.heap.size A14 w41 A53 w') ?_ ?_
    ·have hr49 : Tr Dw w.heap.size A14 w41 A14 w41 := Tr.refl (Dw := Dw) hA
     refine Cc (fun hc55 => ?_) fun hc55 => ?_
     ·rw [if_pos hc55] at ho47
      refine C_region_q (Dw := Dw) Tryz_mixed (by kernel_rfl) ?_
      refine Qm ?_
      have h56 := El_route_Held_2 h43
      refine Qf underlying32 rfl sizeOf3 (Qi h56 isAgg3 (Qv (fun w' hw' => Y_addI rfl rfl) (Qm ?_)))
      have h57 := El_route_Held_3 h43
      refine Qf underlying32 rfl sizeOf3 (Qi h57 isAgg3 (Qv (fun w' hw' => Y_max2 rfl rfl) (Qa (Qa ?_))))
      obtain rfl := Oi ho47
      refine VQ_end (fun a ha58 w59 hk60 => ?_)
      have ht61 := Kp.tr hk60 hA hB; replace hH := Hp.kp hH hk60; replace hr49 := Tt hr49 ht61
      exact ⟨A14, ha58.sb, ⟨hH, hr49⟩⟩
     rw [if_neg (nt hc55)] at ho47
     obtain rfl := Oi ho47
     refine C_skip (fun a ha62 => ?_)
     exact ⟨A14, ha62.sb, ⟨hH, hr49⟩⟩
    rintro A53 w50 ⟨hH54, hk51⟩ a ha52
    replace hr27 := Tr.trans hr27 hk51; replace hA := hk51.new; replace hH := hH54
    obtain rfl := Oi ho25
    exact ⟨A53, ha52.sb, ⟨hH, hr27⟩⟩
   rintro A31 w28 ⟨hH32, hk29⟩ a ha30
   replace hr5 := Tr.trans hr5 hk29; replace hA := hk29.new; replace hH := hH32
   refine C_at (n := ⟨29, [], none⟩) (fun _ _ => rfl) ?_ ha30
   refine C_region (Vy (Y_addI rfl rfl) (Mm ?_))
   obtain rfl := Oi h17
   refine V_end (fun a ha64 => ?_)
   exact ⟨(s26.1, s26.2), hlt20, h18, ⟨A31, ha64.sub ⟨rfl, rfl, rfl, rfl, rfl, Ws hlt20 hn23, trivial⟩, ⟨hH, hr5⟩⟩⟩
  refine C_exit (fun a ha65 => ?_)
  exact ⟨((s12.1, s12.2), A14), ha65.sb, ⟨(h21 (eq_of_dec hle19 hc24)).symm, hH, hr5⟩⟩
 rintro ⟨s4, A10⟩ w7 ⟨rfl, hH11, hk8⟩ a ha9
 rw [Lp.andThen_fin] at hm
 replace hK := Tr.trans hK hk8; replace hA := hk8.new; replace hH := hH11
 refine C_at (n := ⟨29, [], none⟩) (fun _ _ => rfl) ?_ ha9
 refine Sr (Mm (Mm (As (As (To ?_)))))
 obtain rfl := Oi hm
 refine Rt (Res.two results89 rfl rfl) ?_
 exact ⟨rfl, hK.kp⟩
theorem portref2_OffsetIn_c (w : World) {A : Nat → Prop} (hA : ∀ b, w.heap.size ≤ b → A b) (z : cal_Zone) (v_z : Value) (h_z : Sl A w v_z z.changes) (m : Int) {r : Int} (hm : portref2_OffsetIn z m = some r) : Ret prog 165 #[.agg #[Ii z.offset, v_z], Ii m] w fun v w' => v = Ii r ∧ Kp Dw w w' := by
 unfold portref2_OffsetIn at hm
 refine enter func165 rfl ntmps165 rfl ?_
 have hA0 := hA
 obtain ⟨hB, hK, hH⟩ := St (Dw := Dw) hA
 refine Sr ?_
 refine V_box rfl rfl ?_
 intro b3 w4 h5
 have hk7 := h5.kp (Dw := Dw)
 have h6 : El (α := cal_Zone) A w4 b3 0 z := h5.el hA ⟨[Ii z.offset], _, rfl, rfl, ⟨_, rfl, h_z⟩⟩
 have ht8 := Kp.tr hk7 hA hB; replace hH := Hp.kp hH hk7; replace hK := Tt hK ht8; replace hB := Bx hB ht8; replace hA := ht8.new
 refine As (To ?_)
 refine Sr ?_
 have h9 := El_cal_Zone_0 h6
 refine Fa underlying64 rfl sizeOf3 (Li h9 isAgg3 (As (To ?_)))
 refine C_seq (Sr ?_)
 have h10 := El_cal_Zone_1 h6
 refine Fa underlying64 rfl sizeOf62 ?_
 obtain ⟨v11, h12, h13⟩ := El.list h10
 refine Ld h12 isAgg62 (Vy (Y_lenSl h13 rfl underlying62 rfl) (Mm (To ?_)))
 have hn34 := Sl.le h13
 obtain ⟨o14, ho14, hm⟩ := Bs hm
 refine C_cutG (ι := (Int × (Nat → Prop))) (fun ⟨s15, A21⟩ => [(5, Ii s15)]) (fun ⟨s15, A21⟩ => fun w' => o14 = .fin s15 ∧ Hp w.heap.size A21 w' ([]) ∧ Tr Dw w.heap.size A w4 A21 w') ?_ ?_
 ·refine C_block ?_
  refine C_range ho14 (fun k17 s23 a w' => ∃ i : (Nat → Prop), Has ⟨25, [], none⟩ a ([(1, Ii m), (5, Ii s23), (11, v11), (12, Ii (z.changes.length : Int)), (13, Ii (k17 : Int))]) ∧ Hp w.heap.size i w' ([]) ∧ Tr Dw w.heap.size A w4 i w') (fun a ha => ⟨A, ha.sb, ⟨hH, Tr.refl (Dw := Dw) hA⟩⟩) ?_
  rintro K k17 s23 a w24 ⟨A25, ha71, hH26, hr16⟩ hle30 K33 h32
  refine C_of ?_ ha71
  replace h13 := Sl.tr h13 hr16; replace hB := Bx hB hr16; replace hA := hr16.new; replace hH := hH26
  refine Sr (Vy (Y_lss rfl rfl) (To ?_))
  refine C_seq ?_
  refine Cc (fun hc35 => ?_) fun hc35 => ?_
  ·have hlt31 := lt_of_dec hc35
   obtain ⟨x27, h28, h29⟩ := K33 hlt31
   refine Sk ?_
   refine C_seq ?_
   obtain ⟨s37, ho36, h28⟩ := Bs h28
   refine C_cutG (ι := (Nat → Prop)) (fun (A42 : (Nat → Prop)) => [(1, Ii m), (5, Ii s37), (11, v11), (12, Ii (z.changes.length : Int)), (13, Ii (k17 : Int))]) (fun (A42 : (Nat → Prop)) => fun w' => Hp w.heap.size A42 w' ([]) ∧ Tr Dw w.heap.size A25 w24 A42 w') ?_ ?_
   ·have hr38 : Tr Dw w.heap.size A25 w24 A25 w24 := Tr.refl (Dw := Dw) hA
    refine C_block (Sr ?_)
    obtain ⟨x44, hx44, ho36⟩ := Bs ho36
    refine V_indexAddr h13 hx44 underlying62 sizeOf72 rfl rfl rfl ?_
    intro b45 o46 h47
    obtain ⟨h48, _⟩ := El_cal_Change h47
    refine Vy (Y_loadA h48 isAgg72 sizeOf72 rfl) ?_
    refine V_alloc zeroValue72 rfl ?_
    intro b49 w50 h51
    refine Sn h51 sizeOf72 ?_
    intro w52 h53
    have hk55 := h53.kp (Dw := Dw)
    have h54 : El (α := cal_Change) A25 w52 b49 0 x44 := h53.el hA ⟨[Ii x44.at_], _, rfl, rfl, rfl⟩
    have ht56 := Kp.tr hk55 hA hB; replace hH := Hp.kp hH hk55; replace hr38 := Tt hr38 ht56
    refine To ?_
    refine Sr ?_
    have h57 := El_cal_Change_0 h54
    refine Fa underlying72 rfl sizeOf3 (Li h57 isAgg3 (Mm (Vy (Y_leq rfl rfl) (To ?_))))
    obtain ⟨s59, ho58, ho36⟩ := Bs ho36
    refine C_cutG (ι := Unit) (fun (_ : Unit) => [(1, Ii m), (5, Ii s59), (11, v11), (12, Ii (z.changes.length : Int)), (13, Ii (k17 : Int))]) (fun (_ : Unit) => fun w' => w52 = w') ?_ ?_
    ·refine Cc (fun hc64 => ?_) fun hc64 => ?_
     ·rw [if_pos hc64] at ho58
      refine C_region ?_
      have h65 := El_cal_Change_1 h54
      refine Fa underlying72 rfl sizeOf3 (Li h65 isAgg3 (As ?_))
      obtain rfl := Oi ho58
      refine V_end (fun a ha66 => ?_)
      exact ⟨(), ha66.sb, rfl⟩
     rw [if_neg (nt hc64)] at ho58
     obtain rfl := Oi ho58
     refine C_skip (fun a ha67 => ?_)
     exact ⟨(), ha67.sb, rfl⟩
    rintro _ _ rfl a ha63
    obtain rfl := Oi ho36
    exact ⟨A25, ha63.sb, ⟨hH, hr38⟩⟩
   rintro A42 w39 ⟨hH43, hk40⟩ a ha41
   replace hr16 := Tr.trans hr16 hk40; replace hA := hk40.new; replace hH := hH43
   refine C_at (n := ⟨25, [], none⟩) (fun _ _ => rfl) ?_ ha41
   refine C_region (Vy (Y_addI rfl rfl) (Mm ?_))
   obtain rfl := Oi h28
   refine V_end (fun a ha69 => ?_)
   exact ⟨s37, hlt31, h29, ⟨A42, ha69.sub ⟨rfl, rfl, rfl, rfl, Ws hlt31 hn34, trivial⟩, ⟨hH, hr16⟩⟩⟩
  refine C_exit (fun a ha70 => ?_)
  exact ⟨(s23, A25), ha70.sb, ⟨(h32 (eq_of_dec hle30 hc35)).symm, hH, hr16⟩⟩
 rintro ⟨s15, A21⟩ w18 ⟨rfl, hH22, hk19⟩ a ha20
 rw [Lp.andThen_fin] at hm
 replace hK := Tr.trans hK hk19; replace hA := hk19.new; replace hH := hH22
 refine C_at (n := ⟨25, [], none⟩) (fun _ _ => rfl) ?_ ha20
 refine Sr (Mm (As (To ?_)))
 obtain rfl := Oi hm
 refine Rt (Res.one results165 rfl) ?_
 exact ⟨rfl, hK.kp⟩
theorem portref2_LocalIn_c (w : World) {A : Nat → Prop} (hA : ∀ b, w.heap.size ≤ b → A b) (z : cal_Zone) (v_z : Value) (h_z : Sl A w v_z z.changes) (m : Int) {r : (Int × Int)} (hm : portref2_LocalIn z m = some r) : Ret prog 139 #[.agg #[Ii z.offset, v_z], Ii m] w fun v w' => v = .tuple #[Ii r.1, Ii r.2] ∧ Kp Dw w w' := by
 unfold portref2_LocalIn at hm
 refine enter func139 rfl ntmps139 rfl ?_
 have hA0 := hA
 obtain ⟨hB, hK, hH⟩ := St (Dw := Dw) hA
 refine Sr ?_
 refine V_box rfl rfl ?_
 intro b3 w4 h5
 have hk7 := h5.kp (Dw := Dw)
 have h6 : El (α := cal_Zone) A w4 b3 0 z := h5.el hA ⟨[Ii z.offset], _, rfl, rfl, ⟨_, rfl, h_z⟩⟩
 have ht8 := Kp.tr hk7 hA hB; replace hK := Tt hK ht8; replace hB := Bx hB ht8; replace hA := ht8.new
 refine As (As (To ?_))
 refine Sr (Mm ?_)
 obtain ⟨v9, h11, h10⟩ := El_cal_Zone h6
 refine Vy (Y_loadA h11 isAgg64 sizeOf64 rfl) (Mm ?_)
 obtain ⟨x12, hx12, hm⟩ := Bs hm
 refine Vc call165 (portref2_OffsetIn_c (Dw := Dw) w4 hA z v9 h10 m hx12) ?_
 rintro _ w13 ⟨rfl, hk14⟩
 have ht15 := Kp.tr hk14 hA hB; replace hK := Tt hK ht15; replace hB := Bx hB ht15; replace hA := ht15.new
 refine Vy (Y_addI rfl rfl) ?_
 obtain ⟨x16, hx16, hm⟩ := Bs hm
 refine Vc call164 (portref2_floorDiv_c (Dw := Dw) w13 hA (w64 (m + x12)) 1440 hx16) ?_
 rintro _ w17 ⟨rfl, hk18⟩
 have ht19 := Kp.tr hk18 hA hB; replace hK := Tt hK ht19
 refine Vy (Y_extract rfl rfl) (Vy (Y_extract rfl rfl) (As (As (To ?_))))
 obtain rfl := Oi hm
 refine Rt (Res.two results139 rfl rfl) ?_
 exact ⟨rfl, hK.kp⟩
end Go.Proofs.YtfbnaobiondblaaGreatDoor.W
