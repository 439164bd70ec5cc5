import Derived.Test.YtfbnaobiondblaaGreatDoorRouteAssignsW1
namespace Go.Proofs.YtfbnaobiondblaaGreatDoor.W
open Go Go.RowKit Go.Pu Go.Gw Go.Proofs Go.Proofs.YtfbnaobiondblaaGreatDoor.M
set_option linter.unusedVariables false
set_option linter.unusedSimpArgs false
variable {Dw : Prop}
set_option maxHeartbeats 4000000
set_option maxRecDepth 4000
open Tryz
theorem route_Person_able_c (w : World) {A : Nat → Prop} (hA : ∀ b, w.heap.size ≤ b → A b) (p : route_Person) (v_p : Value) (h_p : Sl A w v_p p.skills) (needs : (List route_Skill)) (v_needs : Value) (h_needs : Sl A w v_needs needs) {r : Bool} (hm : route_Person_able p needs = some r) : Ret prog 106 #[.agg #[Ii p.no, Ii p.capacity, Ii p.calendar, v_p], v_needs] w fun v w' => v = .bool r ∧ Kp Dw w w' := by
 unfold route_Person_able at hm
 refine enter func106 rfl ntmps106 rfl ?_
 have hA0 := hA
 obtain ⟨hB, hK, hH⟩ := St (Dw := Dw) hA
 refine Sr ?_
 refine V_box rfl rfl ?_
 intro b5 w6 h7
 have hk9 := h7.kp (Dw := Dw)
 have h8 : El (α := route_Person) A w6 b5 0 p := h7.el hA ⟨[Ii p.no], _, rfl, rfl, ⟨[Ii p.capacity], _, rfl, rfl, ⟨[Ii p.calendar], _, rfl, rfl, ⟨_, rfl, h_p⟩⟩⟩⟩
 have ht10 := Kp.tr hk9 hA hB; replace hH := Hp.kp hH hk9; replace h_needs := Sl.tr h_needs ht10; replace hK := Tt hK ht10; replace hB := Bx hB ht10; replace hA := ht10.new
 refine As (To ?_)
 refine C_seq (Sr (Mm (Vy (Y_lenSl h_needs rfl underlying41 rfl) (Mm (To ?_)))))
 have hn31 := Sl.le h_needs
 obtain ⟨o11, ho11, hm⟩ := Bs hm
 refine C_cutG (ι := (Unit × (Nat → Prop))) (fun ⟨s12, A18⟩ => []) (fun ⟨s12, A18⟩ => fun w' => o11 = .fin s12 ∧ Hp w.heap.size A18 w' ([]) ∧ Tr Dw w.heap.size A w6 A18 w') ?_ ?_
 ·refine C_block ?_
  refine C_range ho11 (fun k14 _ a w' => ∃ i : (Nat → Prop), Has ⟨19, [], none⟩ a ([(2, Pt b5), (7, v_needs), (8, Ii (needs.length : Int)), (9, Ii (k14 : Int))]) ∧ Hp w.heap.size i w' ([]) ∧ Tr Dw w.heap.size A w6 i w') (fun a ha => ⟨A, ha.sb, ⟨hH, Tr.refl (Dw := Dw) hA⟩⟩) ?_
  rintro K k14 _ a w21 ⟨A22, ha66, hH23, hr13⟩ hle27 K30 h29
  refine C_of ?_ ha66
  replace h8 := El.tr h8 hr13; replace h_needs := Sl.tr h_needs hr13; replace hK := Tt hK hr13; replace hB := Bx hB hr13; replace hA := hr13.new; replace hH := hH23
  refine Sr (Vy (Y_lss rfl rfl) (To ?_))
  refine C_seq ?_
  refine Cc (fun hc32 => ?_) fun hc32 => ?_
  ·have hlt28 := lt_of_dec hc32
   obtain ⟨x24, h25, h26⟩ := K30 hlt28
   refine Sk ?_
   refine C_seq (C_block (Sr ?_))
   obtain ⟨x33, hx33, h25⟩ := Bs h25
   refine V_indexAddr h_needs hx33 underlying41 sizeOf127 rfl rfl rfl ?_
   intro b34 o35 h36
   obtain ⟨h37, _⟩ := El_route_Skill h36
   refine Vy (Y_loadA h37 isAgg127 sizeOf127 rfl) ?_
   refine V_alloc zeroValue127 rfl ?_
   intro b38 w39 h40
   refine Sn h40 sizeOf127 ?_
   intro w41 h42
   have hk44 := h42.kp (Dw := Dw)
   have h43 : El (α := route_Skill) A22 w41 b38 0 x33 := h42.el hA ⟨[.string x33.name], _, rfl, rfl, rfl⟩
   have ht45 := Kp.tr hk44 hA hB; replace hH := Hp.kp hH hk44; replace h8 := El.tr h8 ht45; replace hK := Tt hK ht45; replace hr13 := Tt hr13 ht45; replace hB := Bx hB ht45; replace hA := ht45.new
   refine To ?_
   refine Sr ?_
   have h46 := El_route_Person_3 h8
   refine Fa underlying124 rfl sizeOf41 ?_
   obtain ⟨v47, h48, h49⟩ := El.list h46
   refine Ld h48 isAgg41 (Vy (Y_makeFunc rfl rfl) ?_)
   obtain ⟨x51, hx51, h25⟩ := Bs h25
   refine Vc call117 (slices_ContainsFunc_Lroute_Skill_route_Skill_c (Dw := Dw) w41 hA p.skills v47 h49 (fun y59 => route_Person_able_1 y59 x33) 124 #[] #[Pt b38] call124 (fun w55 A56 ht57 h58 y52 r53 h54 => (route_Person_able_1_c (Dw := Dw) w55 h58 y52 x33 b38 (El.tr h43 ht57) h54).mono (fun _ _ h => ⟨h.1, h.2⟩)) hx51) ?_
   rintro _ w60 ⟨rfl, hk61⟩
   have ht62 := Kp.tr hk61 hA hB; replace hH := Hp.kp hH hk61; replace hK := Tt hK ht62; replace hr13 := Tt hr13 ht62
   refine Vy (Y_not rfl) (To ?_)
   refine Cc (fun hc63 => ?_) fun hc63 => ?_
   ·rw [if_pos hc63] at h25
    refine Sr (As (To ?_))
    obtain rfl := Oi h25
    obtain rfl := (h26 : Lp.rt _ = _)
    rw [Lp.andThen_rt] at hm
    obtain rfl := Oi hm
    refine Rt (Res.one results106 rfl) ?_
    exact ⟨rfl, hK.kp⟩
   rw [if_neg (nt hc63)] at h25
   refine Sk ?_
   refine C_region (Vy (Y_addI rfl rfl) (Mm ?_))
   obtain rfl := Oi h25
   refine V_end (fun a ha64 => ?_)
   exact ⟨(), hlt28, h26, ⟨A22, ha64.sub ⟨rfl, rfl, rfl, Ws hlt28 hn31, trivial⟩, ⟨hH, hr13⟩⟩⟩
  refine C_exit (fun a ha65 => ?_)
  exact ⟨((), A22), ha65.sub trivial, ⟨(h29 (eq_of_dec hle27 hc32)).symm, hH, hr13⟩⟩
 rintro ⟨s12, A18⟩ w15 ⟨rfl, hH19, hk16⟩ a ha17
 rw [Lp.andThen_fin] at hm
 replace hK := Tr.trans hK hk16; replace hA := hk16.new; replace hH := hH19
 refine C_at (n := ⟨19, [], none⟩) (fun _ _ => rfl) ?_ ha17
 refine Sr (As (To ?_))
 obtain rfl := Oi hm
 refine Rt (Res.one results106 rfl) ?_
 exact ⟨rfl, hK.kp⟩
theorem slices_MinFunc_Lint_int_c (w : World) {A : Nat → Prop} (hA : ∀ b, w.heap.size ≤ b → A b) (x : (List Int)) (v_x : Value) (h_x : Sl A w v_x x) (cmp : Int → Int → Option Int) (cmp_f : FuncId) (cmp_a cmp_c : Array Value) (cmp_call : ∀ (args : Array Value) (w : World), (callFunc cmp_f args).run prog w = .ok (.enter cmp_f args) w) (cmp_spec : ∀ (w1 : World) (A1 : Nat → Prop), Tr Dw w.heap.size A w A1 w1 → (∀ b, w1.heap.size ≤ b → A1 b) → ∀ (y0 : Int) (y1 : Int) (r : Int), cmp y0 y1 = some r → Ret prog cmp_f (cmp_a ++ #[Ii y0, Ii y1] ++ cmp_c) w1 fun v w' => v = Ii r ∧ Kp Dw w1 w') {r : Int} (hm : slices_MinFunc_Lint_int x cmp = some r) : Ret prog 107 #[v_x, .func (.func cmp_f) cmp_a cmp_c] w fun v w' => v = Ii r ∧ Kp Dw w w' := by
 unfold slices_MinFunc_Lint_int at hm
 refine enter func107 rfl ntmps107 rfl ?_
 have hA0 := hA
 obtain ⟨hB, hK, hH⟩ := St (Dw := Dw) hA
 refine Sr (As (To ?_))
 refine C_seq (Sr (Mm (Vy (Y_lenSl h_x rfl underlying98 rfl) (Vy (Y_lss rfl rfl) (To ?_)))))
 refine Cc (fun hc3 => ?_) fun hc3 => ?_
 ·rw [if_pos hc3] at hm
  cases hm
 rw [if_neg (nt hc3)] at hm
 refine Sk ?_
 refine Sr (Mm ?_)
 obtain ⟨x4, hx4, hm⟩ := Bs hm
 refine V_indexAddr h_x hx4 underlying98 sizeOf3 rfl rfl rfl ?_
 intro b5 o6 h7
 refine Li h7 isAgg3 (As (To ?_))
 refine C_seq (Sr (As (To ?_)))
 obtain ⟨o8, ho8, hm⟩ := Bs hm
 refine C_cutG (ι := ((Int × Int) × (Nat → Prop))) (fun ⟨s9, A15⟩ => [(5, Ii s9.1)]) (fun ⟨s9, A15⟩ => fun w' => o8 = .fin s9 ∧ Hp w.heap.size A15 w' ([]) ∧ Tr Dw w.heap.size A w A15 w') ?_ ?_
 ·refine C_block ?_
  refine C_while ho8 (fun s17 a w' => ∃ i : (Nat → Prop), Has ⟨33, [], none⟩ a ([(0, v_x), (1, .func (.func cmp_f) cmp_a cmp_c), (5, Ii s17.1), (6, Ii s17.2)]) ∧ Hp w.heap.size i w' ([]) ∧ Tr Dw w.heap.size A w i w') (fun a ha => ⟨A, ha.sb, ⟨hH, Tr.refl (Dw := Dw) hA⟩⟩) ?_
  rintro K s17 a w18 ⟨A19, ha61, hH20, hr10⟩ K27
  refine C_of ?_ ha61
  replace h_x := Sl.tr h_x hr10; replace hK := Tt hK hr10; replace hB := Bx hB hr10; replace hA := hr10.new; replace hH := hH20
  obtain ⟨x21, h22, h23⟩ := K27
  refine C_seq (Sr (Mm (Mm (Vy (Y_lenSl h_x rfl underlying98 rfl) (Vy (Y_lss rfl rfl) (To ?_))))))
  refine Cc (fun hc28 => ?_) fun hc28 => ?_
  ·rw [if_pos hc28] at h22
   refine Sk ?_
   refine C_seq ?_
   obtain ⟨s30, ho29, h22⟩ := Bs h22
   refine C_cutG (ι := (Nat → Prop)) (fun (A36 : (Nat → Prop)) => [(0, v_x), (1, .func (.func cmp_f) cmp_a cmp_c), (5, Ii s30), (6, Ii s17.2)]) (fun (A36 : (Nat → Prop)) => fun w' => Hp w.heap.size A36 w' ([]) ∧ Tr Dw w.heap.size A19 w18 A36 w') ?_ ?_
   ·have hr31 : Tr Dw w.heap.size A19 w18 A19 w18 := Tr.refl (Dw := Dw) hA
    refine C_block (Sr (Mm (Mm (Mm ?_))))
    obtain ⟨x38, hx38, ho29⟩ := Bs ho29
    refine V_indexAddr h_x hx38 underlying98 sizeOf3 rfl rfl rfl ?_
    intro b39 o40 h41
    refine Li h41 isAgg3 (Mm ?_)
    obtain ⟨x42, hx42, ho29⟩ := Bs ho29
    refine Vc cmp_call (cmp_spec w18 _ hK hA x38 s17.1 _ hx42) ?_
    rintro _ w43 ⟨rfl, hk44⟩
    have ht45 := Kp.tr hk44 hA hB; replace hH := Hp.kp hH hk44; replace h_x := Sl.tr h_x ht45; replace hr31 := Tt hr31 ht45
    refine Vy (Y_lss rfl rfl) (To ?_)
    obtain ⟨s47, ho46, ho29⟩ := Bs ho29
    refine C_cutG (ι := Unit) (fun (_ : Unit) => [(0, v_x), (1, .func (.func cmp_f) cmp_a cmp_c), (5, Ii s47), (6, Ii s17.2)]) (fun (_ : Unit) => fun w' => w43 = w') ?_ ?_
    ·refine Cc (fun hc52 => ?_) fun hc52 => ?_
     ·rw [if_pos hc52] at ho46
      refine C_region (Mm (Mm ?_))
      refine V_indexAddr h_x hx38 underlying98 sizeOf3 rfl rfl rfl ?_
      intro b53 o54 h55
      refine Li h55 isAgg3 (As ?_)
      obtain rfl := Oi ho46
      refine V_end (fun a ha56 => ?_)
      exact ⟨(), ha56.sb, rfl⟩
     rw [if_neg (nt hc52)] at ho46
     obtain rfl := Oi ho46
     refine C_skip (fun a ha57 => ?_)
     exact ⟨(), ha57.sb, rfl⟩
    rintro _ _ rfl a ha51
    obtain rfl := Oi ho29
    exact ⟨A19, ha51.sb, ⟨hH, hr31⟩⟩
   rintro A36 w33 ⟨hH37, hk34⟩ a ha35
   replace hr10 := Tr.trans hr10 hk34; replace hA := hk34.new; replace hH := hH37
   refine C_at (n := ⟨33, [], none⟩) (fun _ _ => rfl) ?_ ha35
   refine C_region (Mm (Vy (Y_addI rfl rfl) (As ?_)))
   obtain rfl := Oi h22
   refine V_end (fun a ha59 => ?_)
   exact ⟨(s30, w64 (s17.2 + 1)), h23, ⟨A36, ha59.sb, ⟨hH, hr10⟩⟩⟩
  rw [if_neg (nt hc28)] at h22
  obtain rfl := Oi h22
  refine C_exit (fun a ha60 => ?_)
  exact ⟨((s17.1, s17.2), A19), ha60.sb, ⟨h23.symm, hH, hr10⟩⟩
 rintro ⟨s9, A15⟩ w12 ⟨rfl, hH16, hk13⟩ a ha14
 rw [Lp.andThen_fin] at hm
 replace hK := Tr.trans hK hk13; replace hA := hk13.new; replace hH := hH16
 refine C_at (n := ⟨33, [], none⟩) (fun _ _ => rfl) ?_ ha14
 refine Sr (Mm (As (To ?_)))
 obtain rfl := Oi hm
 refine Rt (Res.one results107 rfl) ?_
 exact ⟨rfl, hK.kp⟩
theorem route_desk_before_c (w : World) {A : Nat → Prop} (hA : ∀ b, w.heap.size ≤ b → A b) (d : route_desk) (b_d : Nat) (h_d : El A w b_d 0 d) (a_ : Int) (b : Int) {r : Int} (hm : route_desk_before d a_ b = some r) : Ret prog 108 #[Pt b_d, Ii a_, Ii b] w fun v w' => v = Ii r ∧ Kp Dw w w' := by
 unfold route_desk_before at hm
 refine enter func108 rfl ntmps108 rfl ?_
 have hA0 := hA
 obtain ⟨hB, hK, hH⟩ := St (Dw := Dw) hA
 refine Sr (As (To ?_))
 refine C_seq ?_
 refine C_region_def (Dw := Dw) (B := w.heap.size) (k := 14) [(7, 124, .agg #[Ii 0, Ii 0, Ii 0, .slice none 0 0]), (8, 124, .agg #[Ii 0, Ii 0, Ii 0, .slice none 0 0])] [(15, 6), (22, 13)] Tryz_mixed (by kernel_rfl) rfl ⟨⟨_, _, _, rfl, by simp⟩, zeroValue124, ⟨⟨_, _, _, rfl, by simp⟩, zeroValue124, trivial⟩⟩ ⟨⟨_, _, _, rfl, by decide, by decide⟩, by decide, rfl, sizeOf124, ⟨⟨_, _, _, rfl, by decide, by decide⟩, by decide, rfl, sizeOf124, trivial⟩⟩ rfl rfl (by decide) hH hB hA ?_
 simp only [List.take]
 refine Qm (Qn ?_)
 have h7 := El_route_desk_0 h_d
 refine Qf underlying181 rfl sizeOf22 ?_
 obtain ⟨v8, h9, h10⟩ := El.list h7
 refine Qc h9 isAgg22 (Qm ?_)
 obtain ⟨x11, hx11, hm⟩ := Bs hm
 refine VQ_indexAddr h10 hx11 underlying22 sizeOf124 rfl rfl rfl ?_
 intro b12 o13 h14
 obtain ⟨v15, h17, h16⟩ := El_route_Person h14
 refine Qv (fun w' hw' => Y_loadA (At.kp h17 hw' h14.2.1) isAgg124 sizeOf124 rfl) (Qm (Qn ?_))
 have h18 := El_route_desk_0 h_d
 refine Qf underlying181 rfl sizeOf22 ?_
 obtain ⟨v19, h20, h21⟩ := El.list h18
 refine Qc h20 isAgg22 (Qm ?_)
 obtain ⟨x22, hx22, hm⟩ := Bs hm
 refine VQ_indexAddr h21 hx22 underlying22 sizeOf124 rfl rfl rfl ?_
 intro b23 o24 h25
 obtain ⟨v26, h28, h27⟩ := El_route_Person h25
 refine Qv (fun w' hw' => Y_loadA (At.kp h28 hw' h25.2.1) isAgg124 sizeOf124 rfl) ?_
 have h31 : (v26).oneCell' = true := by obtain ⟨_, _, e, _⟩ := Sl.form h27; rw [e]; rfl
 have h34 : (v15).oneCell' = true := by obtain ⟨_, _, e, _⟩ := Sl.form h16; rw [e]; rfl
 refine VQ_end fun a ha => ⟨_, [.agg #[Ii x11.no, Ii x11.capacity, Ii x11.calendar, v15], .agg #[Ii x22.no, Ii x22.capacity, Ii x22.calendar, v26]], ha, rfl, rfl, ⟨rfl, (by exact (List.forall_mem_cons.2 ⟨rfl, (List.forall_mem_cons.2 ⟨rfl, (List.forall_mem_cons.2 ⟨rfl, (List.forall_mem_cons.2 ⟨h34, (fun _ h => nomatch h)⟩)⟩)⟩)⟩)), ⟨rfl, (by exact (List.forall_mem_cons.2 ⟨rfl, (List.forall_mem_cons.2 ⟨rfl, (List.forall_mem_cons.2 ⟨rfl, (List.forall_mem_cons.2 ⟨h31, (fun _ h => nomatch h)⟩)⟩)⟩)⟩)), trivial⟩⟩, fun b1 w2 A3 hH4 ht5 a ha6 => ?_⟩
 replace h_d := El.tr h_d ht5; replace h16 := Sl.tr h16 ht5; replace h27 := Sl.tr h27 ht5; replace hK := Tt hK ht5; replace hB := Bx hB ht5; replace hA := ht5.new
 replace hH : Hp _ _ _ (obC (b1 0) [Ii x11.no, Ii x11.capacity, Ii x11.calendar, v15] 124 :: obC (b1 1) [Ii x22.no, Ii x22.capacity, Ii x22.calendar, v26] 124 :: []) := hH4
 obtain ⟨A35, ht36, h37, hH38⟩ := Hp.freezeC (Dw := Dw) (α := route_Person) (x := x11) hH (i := 0) rfl hA (by exact ⟨[Ii x11.no], _, rfl, rfl, ⟨[Ii x11.capacity], _, rfl, rfl, ⟨[Ii x11.calendar], _, rfl, rfl, ⟨_, rfl, h16⟩⟩⟩⟩)
 replace h_d := El.tr h_d ht36; replace h27 := Sl.tr h27 ht36; replace hK := Tt hK ht36; replace hB := Bx hB ht36; replace hA := ht36.new
 replace hH : Hp _ _ _ (obC (b1 1) [Ii x22.no, Ii x22.capacity, Ii x22.calendar, v26] 124 :: []) := hH38
 obtain ⟨A39, ht40, h41, hH42⟩ := Hp.freezeC (Dw := Dw) (α := route_Person) (x := x22) hH (i := 0) rfl hA (by exact ⟨[Ii x22.no], _, rfl, rfl, ⟨[Ii x22.capacity], _, rfl, rfl, ⟨[Ii x22.calendar], _, rfl, rfl, ⟨_, rfl, h27⟩⟩⟩⟩)
 replace h_d := El.tr h_d ht40; replace h37 := El.tr h37 ht40; replace hK := Tt hK ht40; replace hB := Bx hB ht40; replace hA := ht40.new; replace hH := hH42
 refine C_at (n := ⟨66, [], none⟩) (fun _ _ => rfl) ?_ ha6
 refine C_seq ?_
 refine C_region_qt (Dw := Dw) 41 Tryz_mixed (by kernel_rfl) ?_
 simp only [List.take, List.drop]
 refine Qm (Qn ?_)
 have h43 := El_route_desk_2 h_d
 refine Qf underlying181 rfl sizeOf98 ?_
 obtain ⟨v44, h45, h46⟩ := El.list h43
 refine Qc h45 isAgg98 (Qm ?_)
 obtain ⟨x47, hx47, hm⟩ := Bs hm
 refine VQ_indexAddr h46 hx47 underlying98 sizeOf3 rfl rfl rfl ?_
 intro b48 o49 h50
 refine Qi h50 isAgg3 ?_
 have h51 := El_route_Person_1 h41
 refine Qf underlying124 rfl sizeOf3 (Qi h51 isAgg3 (Qv (fun w' hw' => Y_mulI rfl rfl) (Qm (Qn ?_))))
 have h52 := El_route_desk_2 h_d
 refine Qf underlying181 rfl sizeOf98 ?_
 obtain ⟨v53, h54, h55⟩ := El.list h52
 refine Qc h54 isAgg98 (Qm ?_)
 obtain ⟨x56, hx56, hm⟩ := Bs hm
 refine VQ_indexAddr h55 hx56 underlying98 sizeOf3 rfl rfl rfl ?_
 intro b57 o58 h59
 refine Qi h59 isAgg3 ?_
 have h60 := El_route_Person_1 h37
 refine Qf underlying124 rfl sizeOf3 (Qi h60 isAgg3 (Qv (fun w' hw' => Y_mulI rfl rfl) ?_))
 refine VQ_call (Ii (cmp_Compare_int (w64 (x47 * x22.capacity)) (w64 (x56 * x11.capacity)))) call75 rfl rfl rfl rfl (fun w' hw' => (cmp_Compare_int_c w' (w64 (x47 * x22.capacity)) (w64 (x56 * x11.capacity))).mono (fun _ _ h => ⟨h.1, h.2 ▸ hw'⟩)) ?_
 refine Qm (Qn ?_)
 have h61 := El_route_desk_3 h_d
 refine Qf underlying181 rfl sizeOf98 ?_
 obtain ⟨v62, h63, h64⟩ := El.list h61
 refine Qc h63 isAgg98 (Qm ?_)
 obtain ⟨x65, hx65, hm⟩ := Bs hm
 refine VQ_indexAddr h64 hx65 underlying98 sizeOf3 rfl rfl rfl ?_
 intro b66 o67 h68
 refine Qi h68 isAgg3 (Qm (Qn ?_))
 have h69 := El_route_desk_3 h_d
 refine Qf underlying181 rfl sizeOf98 ?_
 obtain ⟨v70, h71, h72⟩ := El.list h69
 refine Qc h71 isAgg98 (Qm ?_)
 obtain ⟨x73, hx73, hm⟩ := Bs hm
 refine VQ_indexAddr h72 hx73 underlying98 sizeOf3 rfl rfl rfl ?_
 intro b74 o75 h76
 refine Qi h76 isAgg3 ?_
 refine VQ_call (Ii (cmp_Compare_int x65 x73)) call75 rfl rfl rfl rfl (fun w' hw' => (cmp_Compare_int_c w' x65 x73).mono (fun _ _ h => ⟨h.1, h.2 ▸ hw'⟩)) ?_
 have h77 := El_route_Person_0 h37
 refine Qf underlying124 rfl sizeOf3 (Qi h77 isAgg3 ?_)
 have h78 := El_route_Person_0 h41
 refine Qf underlying124 rfl sizeOf3 (Qi h78 isAgg3 ?_)
 refine VQ_call (Ii (cmp_Compare_int x11.no x22.no)) call75 rfl rfl rfl rfl (fun w' hw' => (cmp_Compare_int_c w' x11.no x22.no).mono (fun _ _ h => ⟨h.1, h.2 ▸ hw'⟩)) ?_
 refine VQ_tail (fun w79 hk80 => ?_)
 try simp only [List.take, List.drop]
 have ht81 := Kp.tr hk80 hA hB; replace hK := Tt hK ht81; replace hB := Bx hB ht81; replace hA := ht81.new
 refine V_buildSlice (Dw := Dw) (cells := #[Ii (cmp_Compare_int (w64 (x47 * x22.capacity)) (w64 (x56 * x11.capacity))), Ii (cmp_Compare_int x65 x73), Ii (cmp_Compare_int x11.no x22.no)]) (l := ([(cmp_Compare_int (w64 (x47 * x22.capacity)) (w64 (x56 * x11.capacity))), (cmp_Compare_int x65 x73), (cmp_Compare_int x11.no x22.no)] : List Int)) (len := 3) underlying98 sizeOf3 zeroValue3 rfl (by generalize ((cmp_Compare_int (w64 (x47 * x22.capacity)) (w64 (x56 * x11.capacity))) : Int) = z86; generalize ((cmp_Compare_int x11.no x22.no) : Int) = z87; generalize ((cmp_Compare_int x65 x73) : Int) = z88; kernel_rfl) (show (3 * 1 : Nat) ≠ 0 by decide) (show (3 * 1 : Nat) ≤ 2 ^ 24 by decide) hA ⟨[Ii (cmp_Compare_int (w64 (x47 * x22.capacity)) (w64 (x56 * x11.capacity)))], _, rfl, rfl, ⟨[Ii (cmp_Compare_int x65 x73)], _, rfl, rfl, ⟨[Ii (cmp_Compare_int x11.no x22.no)], _, rfl, rfl, rfl⟩⟩⟩ rfl rfl ?_
 intro v82 w83 hk85 h84
 have ht89 := Kp.tr hk85 hA hB; replace hK := Tt hK ht89
 obtain ⟨x90, hx90, hm⟩ := Bs hm
 refine Vc call105 (cmp_Or_int_c w83 ([(cmp_Compare_int (w64 (x47 * x22.capacity)) (w64 (x56 * x11.capacity))), (cmp_Compare_int x65 x73), (cmp_Compare_int x11.no x22.no)] : List Int) v82 h84 hx90) ?_
 rintro _ _ ⟨rfl, rfl⟩
 refine As (To ?_)
 obtain rfl := Oi hm
 refine Rt (Res.one results108 rfl) ?_
 exact ⟨rfl, hK.kp⟩
theorem route_desk_choose_c (w : World) {A : Nat → Prop} (hA : ∀ b, w.heap.size ≤ b → A b) (d : route_desk) (b_d : Nat) (h_d : El A w b_d 0 d) (w_ : route_Work) (v_w_ : Value) (h_w_ : Sl A w v_w_ w_.needs) (needs : (List route_Skill)) (v_needs : Value) (h_needs : Sl A w v_needs needs) {r : Int} (hm : route_desk_choose d w_ needs = some r) : Ret prog 69 #[Pt b_d, .agg #[Ii w_.ticket, Ii w_.weight, Ii w_.urgency, Ii w_.since, Ii w_.former, v_w_], v_needs] w fun v w' => v = Ii r ∧ Kp Dw w w' := by
 unfold route_desk_choose at hm
 refine enter func69 rfl ntmps69 rfl ?_
 have hA0 := hA
 obtain ⟨hB, hK, hH⟩ := St (Dw := Dw) hA
 refine Sr ?_
 refine V_box rfl rfl ?_
 intro b5 w6 h7
 have hk9 := h7.kp (Dw := Dw)
 have h8 : El (α := route_Work) A w6 b5 0 w_ := h7.el hA ⟨[Ii w_.ticket], _, rfl, rfl, ⟨[Ii w_.weight], _, rfl, rfl, ⟨[Ii w_.urgency], _, rfl, rfl, ⟨[Ii w_.since], _, rfl, rfl, ⟨[Ii w_.former], _, rfl, rfl, ⟨_, rfl, h_w_⟩⟩⟩⟩⟩⟩
 have ht10 := Kp.tr hk9 hA hB; replace hH := Hp.kp hH hk9; replace h_d := El.tr h_d ht10; replace h_needs := Sl.tr h_needs ht10; replace hK := Tt hK ht10; replace hB := Bx hB ht10; replace hA := ht10.new
 refine As (To ?_)
 refine Sr (As (To ?_))
 refine C_seq (Sr (Mm (Nc ?_)))
 have h11 := El_route_desk_0 h_d
 refine Fa underlying181 rfl sizeOf22 ?_
 obtain ⟨v12, h13, h14⟩ := El.list h11
 refine Ld h13 isAgg22 (Vy (Y_lenSl h14 rfl underlying22 rfl) (Mm (To ?_)))
 replace hH : Hp w.heap.size A w6 (o_3 (.slice none 0 0) ([] : (List Int)) :: []) := Hp.addNil (α := Int) (e := 3) hH
 have hn39 := Sl.le h14
 obtain ⟨o15, ho15, hm⟩ := Bs hm
 refine C_cutG (ι := ((List Int) × Value × (Nat → Prop))) (fun ⟨s16, v22, A24⟩ => [(0, Pt b_d), (7, v22)]) (fun ⟨s16, v22, A24⟩ => fun w' => o15 = .fin s16 ∧ Hp w.heap.size A24 w' (o_3 v22 s16 :: []) ∧ Tr Dw w.heap.size A w6 A24 w') ?_ ?_
 ·refine C_block ?_
  refine C_range ho15 (fun k18 s26 a w' => ∃ i : (Value × (Nat → Prop)), Has ⟨67, [], none⟩ a ([(0, Pt b_d), (2, v_needs), (4, Pt b5), (7, i.1), (13, v12), (14, Ii (d.people.length : Int)), (15, Ii (k18 : Int))]) ∧ Hp w.heap.size i.2 w' (o_3 i.1 s26 :: []) ∧ Tr Dw w.heap.size A w6 i.2 w') (fun a ha => ⟨(.slice none 0 0, A), ha.sb, ⟨hH, Tr.refl (Dw := Dw) hA⟩⟩) ?_
  rintro K k18 s26 a w27 ⟨⟨v28, A30⟩, ha118, hH31, hr17⟩ hle35 K38 h37
  refine C_of ?_ ha118
  replace h_d := El.tr h_d hr17; replace h_needs := Sl.tr h_needs hr17; replace h8 := El.tr h8 hr17; replace h14 := Sl.tr h14 hr17; replace hK := Tt hK hr17; replace hB := Bx hB hr17; replace hA := hr17.new
  replace hH : Hp _ _ _ (o_3 v28 s26 :: []) := hH31
  refine Sr (Vy (Y_lss rfl rfl) (To ?_))
  refine C_seq ?_
  refine Cc (fun hc40 => ?_) fun hc40 => ?_
  ·have hlt36 := lt_of_dec hc40
   obtain ⟨x32, h33, h34⟩ := K38 hlt36
   refine Sk ?_
   refine C_seq ?_
   obtain ⟨o41, ho41, h33⟩ := Bs h33
   refine C_cutG (ι := ((List Int) × Value × (Nat → Prop))) (fun ⟨s42, v44, A49⟩ => [(0, Pt b_d), (2, v_needs), (4, Pt b5), (7, v44), (13, v12), (14, Ii (d.people.length : Int)), (15, Ii (k18 : Int))]) (fun ⟨s42, v44, A49⟩ => fun w' => o41 = .fin s42 ∧ Hp w.heap.size A49 w' (o_3 v44 s42 :: []) ∧ Tr Dw w.heap.size A30 w27 A49 w') ?_ ?_
   ·have hr43 : Tr Dw w.heap.size A30 w27 A30 w27 := Tr.refl (Dw := Dw) hA
    refine C_block (Sr (Mm ?_))
    obtain ⟨x51, hx51, ho41⟩ := Bs ho41
    refine V_indexAddr h14 hx51 underlying22 sizeOf124 rfl rfl rfl ?_
    intro b52 o53 h54
    obtain ⟨v55, h57, h56⟩ := El_route_Person h54
    refine Vy (Y_loadA h57 isAgg124 sizeOf124 rfl) ?_
    refine V_alloc zeroValue124 rfl ?_
    intro b58 w59 h60
    refine As ?_
    have h65 : (v55).oneCell' = true := by obtain ⟨_, _, e, _⟩ := Sl.form h56; rw [e]; rfl
    refine Sn h60 sizeOf124 ?_
    intro w61 h62
    have hk67 := h62.kp (Dw := Dw)
    have h66 : El (α := route_Person) A30 w61 b58 0 x51 := h62.el hA ⟨[Ii x51.no], _, rfl, rfl, ⟨[Ii x51.capacity], _, rfl, rfl, ⟨[Ii x51.calendar], _, rfl, rfl, ⟨_, rfl, h56⟩⟩⟩⟩
    have ht68 := Kp.tr hk67 hA hB; replace hH := Hp.kp hH hk67; replace h_d := El.tr h_d ht68; replace h_needs := Sl.tr h_needs ht68; replace h8 := El.tr h8 ht68; replace hK := Tt hK ht68; replace hr43 := Tt hr43 ht68; replace hB := Bx hB ht68; replace hA := ht68.new
    refine To ?_
    refine C_seq (C_seq ?_)
    refine C_region_q (Dw := Dw) Tryz_mixed (by kernel_rfl) ?_
    refine Qm (Qn ?_)
    have h69 := El_route_desk_1 h_d
    refine Qf underlying181 rfl sizeOf47 ?_
    obtain ⟨v70, h71, h72⟩ := El.list h69
    refine Qc h71 isAgg47 (Qm ?_)
    obtain ⟨x73, hx73, ho41⟩ := Bs ho41
    refine VQ_indexAddr h72 hx73 underlying47 sizeOf4 rfl rfl rfl ?_
    intro b74 o75 h76
    refine Ql (fun w' hw' => (El.bool (El.kp h76 hw'))) isAgg4 (Qv (fun w' hw' => Y_not rfl) (Qm ?_))
    obtain ⟨s78, hs78, ho41⟩ := Bs ho41
    refine VQ_cut 14 (fun _ : Unit => [(0, Pt b_d), (2, v_needs), (4, Pt b5), (7, v28), (8, Ii (k18 : Int)), (9, Pt b58), (13, v12), (14, Ii (d.people.length : Int)), (15, Ii (k18 : Int)), (42, .bool s78)]) (fun _ => True) ?_ ?_
    ·simp only [List.take, List.drop]
     rcases Be (!x73) with hc77 | hc77
     ·rw [if_pos hc77] at hs78
      refine Qg hc77 (Qg hc77 (Qg hc77 (Qg hc77 (Qg hc77 (Qg hc77 (Qg hc77 (Qg hc77 (Qg hc77 (Qg hc77 ?_)))))))))
      refine Qg hc77 (Qg hc77 (Qg hc77 ?_))
      refine VQ_y (fun _ _ => Y_pick_te rfl hc77 rfl) rfl rfl rfl ?_
      obtain rfl := Oi hs78
      exact VQ_end fun a ha => ⟨(), ha.sb, trivial⟩
     rw [if_neg (nt hc77)] at hs78
     refine Qh hc77 ?_
     have h79 := El_route_Person_1 h66
     refine Qf underlying124 rfl sizeOf3 (Qh hc77 (Qi h79 isAgg3 (Qh hc77 (Qm (Qh hc77 (Qn (Qh hc77 ?_)))))))
     have h80 := El_route_desk_2 h_d
     refine Qf underlying181 rfl sizeOf98 (Qh hc77 ?_)
     obtain ⟨v81, h82, h83⟩ := El.list h80
     refine Qc h82 isAgg98 (Qh hc77 (Qm (Qh hc77 ?_)))
     obtain ⟨x84, hx84, hs78⟩ := Bs hs78
     refine VQ_indexAddr h83 hx84 underlying98 sizeOf3 rfl rfl rfl ?_
     intro b85 o86 h87
     refine Qh hc77 (Qi h87 isAgg3 (Qh hc77 (Qv (fun w' hw' => Y_subI rfl rfl) (Qh hc77 ?_))))
     have h88 := El_route_Work_1 h8
     refine Qf underlying43 rfl sizeOf3 (Qh hc77 (Qi h88 isAgg3 (Qh hc77 (Qv (fun w' hw' => Y_lss rfl rfl) ?_))))
     refine VQ_y (fun _ _ => Y_pick_fe rfl hc77 rfl) rfl rfl rfl ?_
     obtain rfl := Oi hs78
     exact VQ_end fun a ha => ⟨(), ha.sb, trivial⟩
    simp only [List.take, List.drop]
    rintro _ _
    refine Qm ?_
    obtain ⟨s90, hs90, ho41⟩ := Bs ho41
    refine VQ_cut 5 (fun _ : Unit => [(0, Pt b_d), (2, v_needs), (4, Pt b5), (7, v28), (8, Ii (k18 : Int)), (9, Pt b58), (13, v12), (14, Ii (d.people.length : Int)), (15, Ii (k18 : Int)), (48, .bool s90)]) (fun _ => True) ?_ ?_
    ·simp only [List.take, List.drop]
     rcases Be (s78) with hc89 | hc89
     ·rw [if_pos hc89] at hs90
      refine Qg hc89 (Qg hc89 (Qg hc89 (Qg hc89 ?_)))
      refine VQ_y (fun _ _ => Y_pick_te rfl hc89 rfl) rfl rfl rfl ?_
      obtain rfl := Oi hs90
      exact VQ_end fun a ha => ⟨(), ha.sb, trivial⟩
     rw [if_neg (nt hc89)] at hs90
     refine Qh hc89 ?_
     obtain ⟨v91, h93, h92⟩ := El_route_Person h66
     refine Qv (fun w' hw' => Y_loadA (At.kp h93 hw' h66.2.1) isAgg124 sizeOf124 rfl) (Qh hc89 (Qm (Qh hc89 ?_)))
     obtain ⟨x94, hx94, hs90⟩ := Bs hs90
     refine VQ_call (.bool x94) call106 rfl rfl rfl rfl (fun w' hw' => (route_Person_able_c (Dw := Dw) w' (fun b hb => hA b (Nat.le_trans hw'.size hb)) x51 v91 (Sl.kp h92 hw') needs v_needs (Sl.kp h_needs hw') hx94).mono (fun _ _ h => ⟨h.1, Kp.trans (Dw := Dw) hw' h.2⟩)) ?_
     refine Qh hc89 (Qv (fun w' hw' => Y_not rfl) ?_)
     refine VQ_y (fun _ _ => Y_pick_fe rfl hc89 rfl) rfl rfl rfl ?_
     obtain rfl := Oi hs90
     exact VQ_end fun a ha => ⟨(), ha.sb, trivial⟩
    simp only [List.take, List.drop]
    rintro _ _
    refine VQ_to (fun _ _ => rfl) (fun w95 hk96 => ?_)
    have ht97 := Kp.tr hk96 hA hB; replace hH := Hp.kp hH hk96; replace h8 := El.tr h8 ht97; replace h66 := El.tr h66 ht97; replace hK := Tt hK ht97; replace hr43 := Tt hr43 ht97; replace hB := Bx hB ht97; replace hA := ht97.new
    refine Cc (fun hc98 => ?_) fun hc98 => ?_
    ·rw [if_pos hc98] at ho41
     obtain rfl := Oi ho41
     refine C_exit (fun a ha99 => ?_)
     exact ⟨(s26, v28, A30), ha99.sb, ⟨rfl, hH, hr43⟩⟩
    rw [if_neg (nt hc98)] at ho41
    refine Sk ?_
    refine C_seq (Sr ?_)
    have h100 := El_route_Person_0 h66
    refine Fa underlying124 rfl sizeOf3 (Li h100 isAgg3 ?_)
    have h101 := El_route_Work_4 h8
    refine Fa underlying43 rfl sizeOf3 (Li h101 isAgg3 (Vy (Y_eql rfl rfl) (To ?_)))
    refine Cc (fun hc102 => ?_) fun hc102 => ?_
    ·rw [if_pos hc102] at ho41
     refine Sr (Mm (As (To ?_)))
     obtain rfl := Oi ho41
     rw [Lp.andThen_rt] at h33
     obtain rfl := Oi h33
     obtain rfl := (h34 : Lp.rt _ = _)
     rw [Lp.andThen_rt] at hm
     obtain rfl := Oi hm
     refine Rt (Res.one results69 rfl) ?_
     exact ⟨rfl, hK.kp⟩
    rw [if_neg (nt hc102)] at ho41
    refine Sk ?_
    refine C_region (Mm (Mm ?_))
    refine V_buildSlice (Dw := Dw) (cells := #[Ii (k18 : Int)]) (l := ([(k18 : Int)] : List Int)) (len := 1) underlying98 sizeOf3 zeroValue3 rfl (by generalize ((k18 : Int) : Int) = z107; kernel_rfl) (show (1 * 1 : Nat) ≠ 0 by decide) (show (1 * 1 : Nat) ≤ 2 ^ 24 by decide) hA ⟨[Ii (k18 : Int)], _, rfl, rfl, rfl⟩ rfl rfl ?_
    intro v103 w104 hk106 h105
    have ht108 := Kp.tr hk106 hA hB; replace hH := Hp.kp hH hk106; replace hr43 := Tt hr43 ht108; replace hB := Bx hB ht108; replace hA := ht108.new
    obtain ⟨x109, hx109, ho41⟩ := Bs ho41
    refine V_appendH (Dw := Dw) (e := 3) (v := v28) (l := s26) (ti := t3) (bytes := 8) (lim := 17592186044416) hH (i := 0) rfl h105 hx109 underlying98 Tryz_info3 rfl rfl rfl rfl (by decide) (by decide) (by decide) hB hA rfl rfl rfl ?_
    intro v110 w111 A112 hH113 ht114
    replace hr43 := Tt hr43 ht114
    replace hH : Hp _ _ _ (o_3 v110 x109 :: []) := hH113
    refine As ?_
    obtain rfl := Oi ho41
    refine V_end (fun a ha115 => ?_)
    exact ⟨(x109, v110, A112), ha115.sb, ⟨rfl, hH, hr43⟩⟩
   rintro ⟨s42, v44, A49⟩ w46 ⟨rfl, hH50, hk47⟩ a ha48
   rw [Lp.andThen_fin] at h33
   replace hr17 := Tr.trans hr17 hk47; replace hA := hk47.new
   replace hH : Hp _ _ _ (o_3 v44 s42 :: []) := hH50
   refine C_at (n := ⟨67, [], none⟩) (fun _ _ => rfl) ?_ ha48
   refine C_region (Vy (Y_addI rfl rfl) (Mm ?_))
   obtain rfl := Oi h33
   refine V_end (fun a ha116 => ?_)
   exact ⟨s42, hlt36, h34, ⟨(v44, A49), ha116.sub ⟨rfl, rfl, rfl, rfl, rfl, rfl, Ws hlt36 hn39, trivial⟩, ⟨hH, hr17⟩⟩⟩
  refine C_exit (fun a ha117 => ?_)
  exact ⟨(s26, v28, A30), ha117.sb, ⟨(h37 (eq_of_dec hle35 hc40)).symm, hH, hr17⟩⟩
 rintro ⟨s16, v22, A24⟩ w19 ⟨rfl, hH25, hk20⟩ a ha21
 rw [Lp.andThen_fin] at hm
 replace h_d := El.tr h_d hk20; replace hK := Tr.trans hK hk20; replace hB := Nat.le_trans hB hk20.ex.size; replace hA := hk20.new
 replace hH : Hp _ _ _ (o_3 v22 s16 :: []) := hH25
 refine C_at (n := ⟨67, [], none⟩) (fun _ _ => rfl) ?_ ha21
 refine C_seq (Sr (Mm (Vy (Y_lenSl (Hp.any (α := Int) (e := 3) (v := v22) (l := s16) hH (i := 0) rfl) rfl underlying98 rfl) (Vy (Y_eql rfl rfl) (To ?_)))))
 refine Cc (fun hc119 => ?_) fun hc119 => ?_
 ·rw [if_pos hc119] at hm
  refine Sr (As (To ?_))
  obtain rfl := Oi hm
  refine Rt (Res.one results69 rfl) ?_
  exact ⟨rfl, hK.kp⟩
 rw [if_neg (nt hc119)] at hm
 refine Sk ?_
 refine Sr (Mm (Mm (Vy (Y_makeFunc rfl rfl) ?_)))
 obtain ⟨x122, hx122, hm⟩ := Bs hm
 refine Vc call107 (slices_MinFunc_Lint_int_c (Dw := Dw) w19 (A := fun _ => True) (fun _ _ => trivial) s16 v22 (Hp.any (α := Int) (e := 3) (v := v22) (l := s16) hH (i := 0) rfl) (fun y131 y132 => route_desk_before d y131 y132) 108 #[Pt b_d] #[] call108 (fun w127 A128 ht129 h130 y123 y124 r125 h126 => (route_desk_before_c (Dw := Dw) w127 h130 d b_d (El.tr (El.keep h_d .any) ht129) y123 y124  h126).mono (fun _ _ h => ⟨h.1, h.2⟩)) hx122) ?_
 rintro _ w133 ⟨rfl, hk134⟩
 have ht135 := Kp.tr hk134 hA hB; replace hK := Tt hK ht135
 refine As (To ?_)
 obtain rfl := Oi hm
 refine Rt (Res.one results69 rfl) ?_
 exact ⟨rfl, hK.kp⟩
theorem route_assigner_assign_c (w : World) {A : Nat → Prop} {B : Nat} (hB : B ≤ w.heap.size) (hA : ∀ b, w.heap.size ≤ b → A b) (a_ : route_assigner) (b_a_ : Nat) (h_a_ : El A w b_a_ 0 a_) (held : (List route_Held)) (v_held : Value) (h_held : Sl A w v_held held) (waiting : (List route_Work)) (v_waiting : Value) (h_waiting : Sl A w v_waiting waiting) (m : Int) {L : List Ob} (hH : Hp B A w (L)) {r : ((List route_Held) × (List route_Work))} (hm : route_assigner_assign a_ held waiting m = some r) : Ret prog 16 #[Pt b_a_, v_held, v_waiting, Ii m] w fun v w' => ∃ s0, ∃ s1, ∃ A1 : Nat → Prop, v = .tuple #[s0, s1] ∧ Hp B A1 w' (o_32 s0 r.1 :: o_43 s1 r.2 :: L) ∧ Tr Dw B A w A1 w' := by
 unfold route_assigner_assign at hm
 refine enter func16 rfl ntmps16 rfl ?_
 have hK : Tr Dw B A w A w := Tr.refl (Dw := Dw) hA
 refine Sr (As (As (To ?_)))
 refine Sr (Mm (Mm (Mm ?_)))
 obtain ⟨x5, hx5, hm⟩ := Bs hm
 refine Vc call67 (route_assigner_at_c (Dw := Dw) w hB hA a_ b_a_ h_a_ held v_held h_held m hH hx5) ?_
 rintro _ w15 ⟨b6, v7, v9, v11, v13, A16, rfl, h8, hH17, ht18⟩
 replace h_a_ := El.tr h_a_ ht18; replace h_waiting := Sl.tr h_waiting ht18; replace hK := Tt hK ht18; replace hB := Bx hB ht18; replace hA := ht18.new
 replace hH : Hp _ _ _ (obC b6 [v7, v9, v11, v13] 181 :: o_4 v9 x5.duty :: o_3 v11 x5.weights :: o_3 v13 x5.latest :: L) := hH17
 refine As (To ?_)
 refine Sr (Mm (Vy (Y_lenSl h_waiting rfl underlying25 rfl) ?_))
 obtain ⟨x19, hx19, hm⟩ := Bs hm
 refine V_makeH (Dw := Dw) (e := 4) (ti := t4) hH hx19 (fun _ _ => rfl) underlying47 Tryz_info4 rfl rfl rfl (by decide) (by decide) hB hA rfl rfl rfl ?_
 intro v20 w21 A22 hH23 ht24
 replace h_a_ := El.tr h_a_ ht24; replace h_waiting := Sl.tr h_waiting ht24; replace h8 := Sl.tr h8 ht24; replace hK := Tt hK ht24; replace hB := Bx hB ht24; replace hA := ht24.new
 replace hH : Hp _ _ _ (o_4 v20 x19 :: obC b6 [v7, v9, v11, v13] 181 :: o_4 v9 x5.duty :: o_3 v11 x5.weights :: o_3 v13 x5.latest :: L) := hH23
 refine As (To ?_)
 refine Sr (As (To ?_))
 refine C_seq (Sr (Mm ?_))
 obtain ⟨x25, hx25, hm⟩ := Bs hm
 refine Vc call68 (route_order_c (Dw := Dw) w21 hA waiting v_waiting h_waiting hx25) ?_
 rintro v26 w28 ⟨_, rfl, h27, hk29⟩
 obtain ⟨A30, ht31, hH32⟩ := Hp.addOwnd (Dw := Dw) hH hB hA hk29 h27
 replace h_a_ := El.tr h_a_ ht31; replace h_waiting := Sl.tr h_waiting ht31; replace h8 := Sl.tr h8 ht31; replace hK := Tt hK ht31; replace hB := Bx hB ht31; replace hA := ht31.new
 replace hH : Hp _ _ _ (o_3 v26 x25 :: o_4 v20 x19 :: obC b6 [v7, v9, v11, v13] 181 :: o_4 v9 x5.duty :: o_3 v11 x5.weights :: o_3 v13 x5.latest :: L) := hH32
 refine Vy (Y_lenSl (Hp.any (α := Int) (e := 3) (v := v26) (l := x25) hH (i := 0) rfl) rfl underlying98 rfl) (Mm (To ?_))
 replace hH : Hp B A30 w28 (o_32 (.slice none 0 0) ([] : (List route_Held)) :: o_3 v26 x25 :: o_4 v20 x19 :: obC b6 [v7, v9, v11, v13] 181 :: o_4 v9 x5.duty :: o_3 v11 x5.weights :: o_3 v13 x5.latest :: L) := Hp.addNil (α := route_Held) (e := 32) hH
 have hn77 := Hp.le (α := Int) (e := 3) (v := v26) (l := x25) hH (i := 1) rfl
 obtain ⟨o33, ho33, hm⟩ := Bs hm
 refine C_cutG (ι := (((List Bool) × (List route_Held) × route_desk) × Value × Value × Value × Value × Value × Value × (Nat → Prop))) (fun ⟨s34, v40, v42, v44, v46, v48, v50, A52⟩ => [(2, v_waiting), (11, v40), (12, v42)]) (fun ⟨s34, v40, v42, v44, v46, v48, v50, A52⟩ => fun w' => o33 = .fin s34 ∧ Sl A52 w' v44 s34.2.2.people ∧ Hp B A52 w' (o_32 v42 s34.2.1 :: o_3 v26 x25 :: o_4 v40 s34.1 :: obC b6 [v44, v46, v48, v50] 181 :: o_4 v46 s34.2.2.duty :: o_3 v48 s34.2.2.weights :: o_3 v50 s34.2.2.latest :: L) ∧ Tr Dw B A30 w28 A52 w') ?_ ?_
 ·refine C_block ?_
  refine C_range ho33 (fun k36 s54 a w' => ∃ i : (Value × Value × Value × Value × Value × Value × (Nat → Prop)), Has ⟨120, [], none⟩ a ([(0, Pt b_a_), (2, v_waiting), (3, Ii m), (10, Pt b6), (11, i.1), (12, i.2.1), (28, v26), (29, Ii (x25.length : Int)), (30, Ii (k36 : Int))]) ∧ Sl i.2.2.2.2.2.2 w' i.2.2.1 s54.2.2.people ∧ Hp B i.2.2.2.2.2.2 w' (o_32 i.2.1 s54.2.1 :: o_3 v26 x25 :: o_4 i.1 s54.1 :: obC b6 [i.2.2.1, i.2.2.2.1, i.2.2.2.2.1, i.2.2.2.2.2.1] 181 :: o_4 i.2.2.2.1 s54.2.2.duty :: o_3 i.2.2.2.2.1 s54.2.2.weights :: o_3 i.2.2.2.2.2.1 s54.2.2.latest :: L) ∧ Tr Dw B A30 w28 i.2.2.2.2.2.2 w') (fun a ha => ⟨(v20, .slice none 0 0, v7, v9, v11, v13, A30), ha.sb, ⟨h8, hH, Tr.refl (Dw := Dw) hA⟩⟩) ?_
  rintro K k36 s54 a w55 ⟨⟨v56, v58, v60, v62, v64, v66, A68⟩, ha219, h61, hH69, hr35⟩ hle73 K76 h75
  refine C_of ?_ ha219
  replace h_a_ := El.tr h_a_ hr35; replace h_waiting := Sl.tr h_waiting hr35; replace hB := Bx hB hr35; replace hA := hr35.new
  replace hH : Hp _ _ _ (o_32 v58 s54.2.1 :: o_3 v26 x25 :: o_4 v56 s54.1 :: obC b6 [v60, v62, v64, v66] 181 :: o_4 v62 s54.2.2.duty :: o_3 v64 s54.2.2.weights :: o_3 v66 s54.2.2.latest :: L) := hH69
  refine Sr (Vy (Y_lss rfl rfl) (To ?_))
  refine C_seq ?_
  refine Cc (fun hc78 => ?_) fun hc78 => ?_
  ·have hlt74 := lt_of_dec hc78
   obtain ⟨x70, h71, h72⟩ := K76 hlt74
   refine Sk ?_
   refine C_seq ?_
   obtain ⟨s80, ho79, h71⟩ := Bs h71
   refine C_cutG (ι := (Value × Value × Value × Value × Value × Value × (Nat → Prop))) (fun ⟨v82, v84, v86, v88, v90, v92, A97⟩ => [(0, Pt b_a_), (2, v_waiting), (3, Ii m), (10, Pt b6), (11, v82), (12, v84), (28, v26), (29, Ii (x25.length : Int)), (30, Ii (k36 : Int))]) (fun ⟨v82, v84, v86, v88, v90, v92, A97⟩ => fun w' => Sl A97 w' v86 s80.2.2.people ∧ Hp B A97 w' (o_32 v84 s80.2.1 :: o_3 v26 x25 :: o_4 v82 s80.1 :: obC b6 [v86, v88, v90, v92] 181 :: o_4 v88 s80.2.2.duty :: o_3 v90 s80.2.2.weights :: o_3 v92 s80.2.2.latest :: L) ∧ Tr Dw B A68 w55 A97 w') ?_ ?_
   ·have hr81 : Tr Dw B A68 w55 A68 w55 := Tr.refl (Dw := Dw) hA
    refine C_block (Sr ?_)
    obtain ⟨x99, hx99, ho79⟩ := Bs ho79
    refine V_indexAddrH (α := Int) (e := 3) (v := v26) (l := x25) hH (i := 1) rfl hx99 underlying98 sizeOf3 rfl rfl rfl ?_
    intro b100 o101 h102 hl103
    refine Li h102 isAgg3 (As (To ?_))
    refine Sr (Mm (Mm ?_))
    obtain ⟨x104, hx104, ho79⟩ := Bs ho79
    refine V_indexAddr h_waiting hx104 underlying25 sizeOf43 rfl rfl rfl ?_
    intro b105 o106 h107
    obtain ⟨v108, h110, h109⟩ := El_route_Work h107
    refine Vy (Y_loadA h110 isAgg43 sizeOf43 rfl) ?_
    refine V_alloc zeroValue43 rfl ?_
    intro b111 w112 h113
    have h118 : (v108).oneCell' = true := by obtain ⟨_, _, e, _⟩ := Sl.form h109; rw [e]; rfl
    refine Sn h113 sizeOf43 ?_
    intro w114 h115
    have hk120 := h115.kp (Dw := Dw)
    have h119 : El (α := route_Work) A68 w114 b111 0 x104 := h115.el hA ⟨[Ii x104.ticket], _, rfl, rfl, ⟨[Ii x104.weight], _, rfl, rfl, ⟨[Ii x104.urgency], _, rfl, rfl, ⟨[Ii x104.since], _, rfl, rfl, ⟨[Ii x104.former], _, rfl, rfl, ⟨_, rfl, h109⟩⟩⟩⟩⟩⟩
    have ht121 := Kp.tr hk120 hA hB; replace hH := Hp.kp hH hk120; replace h_a_ := El.tr h_a_ ht121; replace h61 := Sl.tr h61 ht121; replace hr81 := Tt hr81 ht121; replace hB := Bx hB ht121; replace hA := ht121.new
    refine To ?_
    refine C_seq ?_
    refine C_region_ch (Dw := Dw) A68 11 [(1, 0), (1, 1), (1, 2), (1, 3), (1, 4), (1, 5), (1, 6), (1, 7), (2, 8), (2, 9), (1, 10)] Tryz_mixed (by kernel_rfl) (fun w122 hk123 => ?_)
    have ht124 := Kp.tr hk123 hA hB; replace hH := Hp.kp hH hk123; replace h_a_ := El.tr h_a_ ht124; replace h119 := El.tr h119 ht124; replace h61 := Sl.tr h61 ht124; replace hr81 := Tt hr81 ht124; replace hB := Bx hB ht124; replace hA := ht124.new
    refine CH_q2 rfl (Qm (VQ_CH (CH_q2 rfl ?_)))
    obtain ⟨v125, h127, h126⟩ := El_route_Work h119
    refine Qv (fun w' hw' => Y_loadA (At.same h127 (hw'.2 _ h119.2.1 h119.1)) isAgg43 sizeOf43 rfl) (VQ_CH (CH_q2 rfl ?_))
    obtain ⟨v128, h130, h129⟩ := El_route_Work h119
    refine Qv (fun w' hw' => Y_loadA (At.same h130 (hw'.2 _ h119.2.1 h119.1)) isAgg43 sizeOf43 rfl) (VQ_CH (CH_q2 rfl (Qm (VQ_CH (CH_q2 rfl (Qn (VQ_CH (CH_q2 rfl ?_))))))))
    have h131 := El_route_assigner_2 h_a_
    refine Qf underlying49 rfl sizeOf26 (VQ_CH (CH_q2 rfl ?_))
    obtain ⟨v132, h133, h134⟩ := El.list h131
    refine Ql (fun w' hw' => ((World.cell?_of_block (hw'.2 _ h131.2.1 h131.1)).trans h133)) isAgg26 (VQ_CH (CH_q2 rfl (Qm (VQ_CH ?_))))
    refine CH_l1 (k := 0) rfl ?_
    obtain ⟨x135, hx135, ho79⟩ := Bs ho79
    refine Vc call70 (route_needsAt_c (Dw := Dw) w122 hA x104 v128 h129 a_.steps v132 h134 m hx135) ?_
    rintro v136 w138 ⟨_, rfl, h137, hk139⟩
    obtain ⟨A140, ht141, hH142⟩ := Hp.addOwnd (Dw := Dw) hH hB hA hk139 h137
    replace h_a_ := El.tr h_a_ ht141; replace h119 := El.tr h119 ht141; replace h126 := Sl.tr h126 ht141; replace h61 := Sl.tr h61 ht141; replace hr81 := Tt hr81 ht141; replace hB := Bx hB ht141; replace hA := ht141.new
    replace hH : Hp _ _ _ (o_127 v136 x135 :: o_32 v58 s54.2.1 :: o_3 v26 x25 :: o_4 v56 s54.1 :: obC b6 [v60, v62, v64, v66] 181 :: o_4 v62 s54.2.2.duty :: o_3 v64 s54.2.2.weights :: o_3 v66 s54.2.2.latest :: L) := hH142
    refine V_CH (hk139) ?_
    refine CH_l1 (k := 0) rfl ?_
    obtain ⟨x143, hx143, ho79⟩ := Bs ho79
    refine Vc call69 (route_desk_choose_c (Dw := Dw) w138 (A := fun _ => True) (fun _ _ => trivial) s54.2.2 b6 (Hp.el (α := route_desk) (x := s54.2.2) hH (i := 4) rfl ⟨[v60], _, rfl, ⟨_, rfl, (Sl.any h61)⟩, ⟨[v62], _, rfl, ⟨_, rfl, (Hp.any (α := Bool) (e := 4) (v := v62) (l := s54.2.2.duty) hH (i := 5) rfl)⟩, ⟨[v64], _, rfl, ⟨_, rfl, (Hp.any (α := Int) (e := 3) (v := v64) (l := s54.2.2.weights) hH (i := 6) rfl)⟩, ⟨_, rfl, (Hp.any (α := Int) (e := 3) (v := v66) (l := s54.2.2.latest) hH (i := 7) rfl)⟩⟩⟩⟩) x104 v125 (Sl.any h126) x135 v136 (Hp.any (α := route_Skill) (e := 127) (v := v136) (l := x135) hH (i := 0) rfl) hx143) ?_
    rintro _ w144 ⟨rfl, hk145⟩
    have ht146 := Kp.tr hk145 hA hB; replace hH := Hp.kp hH hk145; replace h_a_ := El.tr h_a_ ht146; replace h119 := El.tr h119 ht146; replace h61 := Sl.tr h61 ht146; replace hr81 := Tt hr81 ht146; replace hB := Bx hB ht146; replace hA := ht146.new
    refine V_CH (hk145) ?_
    refine CH_q2 rfl (Qa (VQ_CH ?_))
    refine CH_tail ?_
    show V _ _ _ _ [] _ _
    refine To ?_
    refine C_seq (Sr (Mm (Vy (Y_lss rfl rfl) (To ?_))))
    refine Cc (fun hc147 => ?_) fun hc147 => ?_
    ·rw [if_pos hc147] at ho79
     obtain rfl := Oi ho79
     refine C_exit (fun a ha148 => ?_)
     replace hH : Hp B A140 w144 (o_3 v66 s54.2.2.latest :: o_127 v136 x135 :: o_32 v58 s54.2.1 :: o_3 v26 x25 :: o_4 v56 s54.1 :: obC b6 [v60, v62, v64, v66] 181 :: o_4 v62 s54.2.2.duty :: o_3 v64 s54.2.2.weights :: L) := Hp.front hH (i := 7) rfl
     replace hH : Hp B A140 w144 (o_3 v64 s54.2.2.weights :: o_3 v66 s54.2.2.latest :: o_127 v136 x135 :: o_32 v58 s54.2.1 :: o_3 v26 x25 :: o_4 v56 s54.1 :: obC b6 [v60, v62, v64, v66] 181 :: o_4 v62 s54.2.2.duty :: L) := Hp.front hH (i := 7) rfl
     replace hH : Hp B A140 w144 (o_4 v62 s54.2.2.duty :: o_3 v64 s54.2.2.weights :: o_3 v66 s54.2.2.latest :: o_127 v136 x135 :: o_32 v58 s54.2.1 :: o_3 v26 x25 :: o_4 v56 s54.1 :: obC b6 [v60, v62, v64, v66] 181 :: L) := Hp.front hH (i := 7) rfl
     replace hH : Hp B A140 w144 (obC b6 [v60, v62, v64, v66] 181 :: o_4 v62 s54.2.2.duty :: o_3 v64 s54.2.2.weights :: o_3 v66 s54.2.2.latest :: o_127 v136 x135 :: o_32 v58 s54.2.1 :: o_3 v26 x25 :: o_4 v56 s54.1 :: L) := Hp.front hH (i := 7) rfl
     replace hH : Hp B A140 w144 (o_4 v56 s54.1 :: obC b6 [v60, v62, v64, v66] 181 :: o_4 v62 s54.2.2.duty :: o_3 v64 s54.2.2.weights :: o_3 v66 s54.2.2.latest :: o_127 v136 x135 :: o_32 v58 s54.2.1 :: o_3 v26 x25 :: L) := Hp.front hH (i := 7) rfl
     replace hH : Hp B A140 w144 (o_3 v26 x25 :: o_4 v56 s54.1 :: obC b6 [v60, v62, v64, v66] 181 :: o_4 v62 s54.2.2.duty :: o_3 v64 s54.2.2.weights :: o_3 v66 s54.2.2.latest :: o_127 v136 x135 :: o_32 v58 s54.2.1 :: L) := Hp.front hH (i := 7) rfl
     replace hH : Hp B A140 w144 (o_32 v58 s54.2.1 :: o_3 v26 x25 :: o_4 v56 s54.1 :: obC b6 [v60, v62, v64, v66] 181 :: o_4 v62 s54.2.2.duty :: o_3 v64 s54.2.2.weights :: o_3 v66 s54.2.2.latest :: o_127 v136 x135 :: L) := Hp.front hH (i := 7) rfl
     replace hH : Hp B A140 w144 (o_32 v58 s54.2.1 :: o_3 v26 x25 :: o_4 v56 s54.1 :: obC b6 [v60, v62, v64, v66] 181 :: o_4 v62 s54.2.2.duty :: o_3 v64 s54.2.2.weights :: o_3 v66 s54.2.2.latest :: L) := Hp.drop hH (i := 7) rfl
     exact ⟨(v56, v58, v60, v62, v64, v66, A140), ha148.sb, ⟨h61, hH, hr81⟩⟩
    rw [if_neg (nt hc147)] at ho79
    refine Sk ?_
    refine Sr (Mm (Mm ?_))
    obtain ⟨x149, hx149, ho79⟩ := Bs ho79
    refine V_indexAddrH (α := Bool) (e := 4) (v := v56) (l := s54.1) hH (i := 3) rfl hx149 underlying47 sizeOf4 rfl rfl rfl ?_
    intro b150 o151 h152 hl153
    obtain ⟨x154, hx154, ho79⟩ := Bs ho79
    refine V_storeH (Dw := Dw) (α := Bool) (e := 4) (v := v56) (l := s54.1) hH (i := 3) rfl hl153 hx154 rfl sizeOf4 rfl hB hA rfl rfl ?_
    intro w155 hH156 ht157
    replace h_a_ := El.tr h_a_ ht157; replace h119 := El.tr h119 ht157; replace h61 := Sl.tr h61 ht157; replace hr81 := Tt hr81 ht157; replace hB := Bx hB ht157; replace hA := ht157.new
    replace hH : Hp _ _ _ (o_127 v136 x135 :: o_32 v58 s54.2.1 :: o_3 v26 x25 :: o_4 v56 x154 :: obC b6 [v60, v62, v64, v66] 181 :: o_4 v62 s54.2.2.duty :: o_3 v64 s54.2.2.weights :: o_3 v66 s54.2.2.latest :: L) := hH156
    refine To ?_
    refine C_seq ?_
    refine C_region_qt (Dw := Dw) 11 Tryz_mixed (by kernel_rfl) ?_
    simp only [List.take, List.drop]
    refine Qm (Qn (Qv (fun w' hw' => Y_fieldAddrC (off2 := 2) underlying181 rfl sizeOf98 (by decide) rfl rfl) ?_))
    refine VQ_y (fun w' hw' => Y_load ((World.cell?_of_block (hw'.block _ (World.block_lt_of_cell? _ _ (Hp.cell (j := 2) hH (i := 4) rfl rfl)))).trans (Hp.cell (j := 2) hH (i := 4) rfl rfl)) isAgg98 rfl) rfl rfl rfl ?_
    refine Qm ?_
    obtain ⟨x158, hx158, ho79⟩ := Bs ho79
    refine VQ_indexAddrH (α := Int) (e := 3) (v := v64) (l := s54.2.2.weights) hH (i := 6) rfl hx158 underlying98 sizeOf3 rfl rfl rfl ?_
    intro b159 o160 h161 hl162
    refine Qi h161 isAgg3 ?_
    have h163 := El_route_Work_1 h119
    refine Qf underlying43 rfl sizeOf3 (Qi h163 isAgg3 (Qv (fun w' hw' => Y_addI rfl rfl) ?_))
    refine VQ_indexAddrH (α := Int) (e := 3) (v := v64) (l := s54.2.2.weights) hH (i := 6) rfl hx158 underlying98 sizeOf3 rfl rfl rfl ?_
    intro b164 o165 h166 hl167
    refine VQ_tail (fun w168 hk169 => ?_)
    try simp only [List.take, List.drop]
    have ht170 := Kp.tr hk169 hA hB; replace hH := Hp.kp hH hk169; replace h_a_ := El.tr h_a_ ht170; replace h119 := El.tr h119 ht170; replace h61 := Sl.tr h61 ht170; replace hr81 := Tt hr81 ht170; replace hB := Bx hB ht170; replace hA := ht170.new
    obtain ⟨x171, hx171, ho79⟩ := Bs ho79
    refine V_storeH (Dw := Dw) (α := Int) (e := 3) (v := v64) (l := s54.2.2.weights) hH (i := 6) rfl hl167 hx171 rfl sizeOf3 rfl hB hA rfl rfl ?_
    intro w172 hH173 ht174
    replace h_a_ := El.tr h_a_ ht174; replace h119 := El.tr h119 ht174; replace h61 := Sl.tr h61 ht174; replace hr81 := Tt hr81 ht174; replace hB := Bx hB ht174; replace hA := ht174.new
    replace hH : Hp _ _ _ (o_127 v136 x135 :: o_32 v58 s54.2.1 :: o_3 v26 x25 :: o_4 v56 x154 :: obC b6 [v60, v62, v64, v66] 181 :: o_4 v62 s54.2.2.duty :: o_3 v64 x171 :: o_3 v66 s54.2.2.latest :: L) := hH173
    refine To ?_
    refine C_seq ?_
    refine C_region_qt (Dw := Dw) 15 Tryz_mixed (by kernel_rfl) ?_
    simp only [List.take, List.drop]
    refine Qm (Qn (Qv (fun w' hw' => Y_fieldAddrC (off2 := 3) underlying181 rfl sizeOf98 (by decide) rfl rfl) ?_))
    refine VQ_y (fun w' hw' => Y_load ((World.cell?_of_block (hw'.block _ (World.block_lt_of_cell? _ _ (Hp.cell (j := 3) hH (i := 4) rfl rfl)))).trans (Hp.cell (j := 3) hH (i := 4) rfl rfl)) isAgg98 rfl) rfl rfl rfl ?_
    refine Qm (Qm (Qn (Qv (fun w' hw' => Y_fieldAddrC (off2 := 3) underlying181 rfl sizeOf98 (by decide) rfl rfl) ?_)))
    refine VQ_y (fun w' hw' => Y_load ((World.cell?_of_block (hw'.block _ (World.block_lt_of_cell? _ _ (Hp.cell (j := 3) hH (i := 4) rfl rfl)))).trans (Hp.cell (j := 3) hH (i := 4) rfl rfl)) isAgg98 rfl) rfl rfl rfl ?_
    refine Qm ?_
    obtain ⟨x175, hx175, ho79⟩ := Bs ho79
    refine VQ_indexAddrH (α := Int) (e := 3) (v := v66) (l := s54.2.2.latest) hH (i := 7) rfl hx175 underlying98 sizeOf3 rfl rfl rfl ?_
    intro b176 o177 h178 hl179
    refine Qi h178 isAgg3 (Qm (Qv (fun w' hw' => Y_max2 rfl rfl) ?_))
    refine VQ_indexAddrH (α := Int) (e := 3) (v := v66) (l := s54.2.2.latest) hH (i := 7) rfl hx175 underlying98 sizeOf3 rfl rfl rfl ?_
    intro b180 o181 h182 hl183
    refine VQ_tail (fun w184 hk185 => ?_)
    try simp only [List.take, List.drop]
    have ht186 := Kp.tr hk185 hA hB; replace hH := Hp.kp hH hk185; replace h_a_ := El.tr h_a_ ht186; replace h119 := El.tr h119 ht186; replace h61 := Sl.tr h61 ht186; replace hr81 := Tt hr81 ht186; replace hB := Bx hB ht186; replace hA := ht186.new
    obtain ⟨x187, hx187, ho79⟩ := Bs ho79
    refine V_storeH (Dw := Dw) (α := Int) (e := 3) (v := v66) (l := s54.2.2.latest) hH (i := 7) rfl hl183 hx187 rfl sizeOf3 rfl hB hA rfl rfl ?_
    intro w188 hH189 ht190
    replace h_a_ := El.tr h_a_ ht190; replace h119 := El.tr h119 ht190; replace h61 := Sl.tr h61 ht190; replace hr81 := Tt hr81 ht190; replace hB := Bx hB ht190; replace hA := ht190.new
    replace hH : Hp _ _ _ (o_127 v136 x135 :: o_32 v58 s54.2.1 :: o_3 v26 x25 :: o_4 v56 x154 :: obC b6 [v60, v62, v64, v66] 181 :: o_4 v62 s54.2.2.duty :: o_3 v64 x171 :: o_3 v66 x187 :: L) := hH189
    refine To ?_
    refine C_region_ch (Dw := Dw) A140 18 [(1, 0), (1, 1), (1, 2), (1, 3), (1, 4), (1, 5), (1, 6), (1, 7), (1, 8), (1, 9), (1, 10), (1, 11), (1, 12), (1, 13), (1, 14), (2, 15), (4, 16), (1, 17)] Tryz_mixed (by kernel_rfl) (fun w191 hk192 => ?_)
    have ht193 := Kp.tr hk192 hA hB; replace hH := Hp.kp hH hk192; replace h_a_ := El.tr h_a_ ht193; replace h119 := El.tr h119 ht193; replace h61 := Sl.tr h61 ht193; replace hr81 := Tt hr81 ht193; replace hB := Bx hB ht193; replace hA := ht193.new
    refine CH_q2 rfl (Qm (VQ_CH (CH_q2 rfl ?_)))
    have h194 := El_route_Work_0 h119
    refine Qf underlying43 rfl sizeOf3 (VQ_CH (CH_q2 rfl (Ql (fun w' hw' => (El.int (El.keep h194 (XA.ex hw')))) isAgg3 (VQ_CH (CH_q2 rfl (Qm (VQ_CH (CH_q2 rfl (Qn ?_)))))))))
    refine VQ_CH (CH_q2 rfl ?_)
    have h195 := El_route_assigner_0 h_a_
    refine Qf underlying49 rfl sizeOf22 (VQ_CH (CH_q2 rfl ?_))
    obtain ⟨v196, h197, h198⟩ := El.list h195
    refine Ql (fun w' hw' => ((World.cell?_of_block (hw'.2 _ h195.2.1 h195.1)).trans h197)) isAgg22 (VQ_CH (CH_q2 rfl (Qm (VQ_CH (CH_q2 rfl ?_)))))
    obtain ⟨x199, hx199, ho79⟩ := Bs ho79
    refine VQ_indexAddr h198 hx199 underlying22 sizeOf124 rfl rfl rfl ?_
    intro b200 o201 h202
    refine VQ_CH (CH_q2 rfl ?_)
    have h203 := El_route_Person_0 h202
    refine Qf underlying124 rfl sizeOf3 (VQ_CH (CH_q2 rfl (Ql (fun w' hw' => (El.int (El.keep h203 (XA.ex hw')))) isAgg3 (VQ_CH (CH_q2 rfl ?_)))))
    have h204 := El_route_Work_1 h119
    refine Qf underlying43 rfl sizeOf3 (VQ_CH (CH_q2 rfl (Ql (fun w' hw' => (El.int (El.keep h204 (XA.ex hw')))) isAgg3 (VQ_CH (CH_q2 rfl (Qm (VQ_CH (CH_q2 rfl ?_))))))))
    refine Qv (fun w' hw' => Y_build underlying32 zeroValue32 (Tryz_places32 _ underlying32) rfl (by with_unfolding_all rfl)) (VQ_CH ?_)
    refine CH_l1 (k := 0) rfl ?_
    refine V_buildSlice (Dw := Dw) (cells := #[Ii x104.ticket, Ii x199.no, Ii x104.weight, Ii m]) (l := ([(⟨x104.ticket, x199.no, x104.weight, m⟩ : route_Held)] : List route_Held)) (len := 1) underlying24 sizeOf32 zeroValue32 rfl (by kernel_rfl) (show (1 * 4 : Nat) ≠ 0 by decide) (show (1 * 4 : Nat) ≤ 2 ^ 24 by decide) hA ⟨[Ii x104.ticket, Ii x199.no, Ii x104.weight, Ii m], _, rfl, ⟨[Ii x104.ticket], _, rfl, rfl, ⟨[Ii x199.no], _, rfl, rfl, ⟨[Ii x104.weight], _, rfl, rfl, rfl⟩⟩⟩, rfl⟩ rfl rfl ?_
    intro v205 w206 hk208 h207
    have ht209 := Kp.tr hk208 hA hB; replace hH := Hp.kp hH hk208; replace h61 := Sl.tr h61 ht209; replace hr81 := Tt hr81 ht209; replace hB := Bx hB ht209; replace hA := ht209.new
    refine V_CH (hk208) ?_
    refine CH_l1 (k := 2) rfl ?_
    obtain ⟨x210, hx210, ho79⟩ := Bs ho79
    refine V_appendH (Dw := Dw) (e := 32) (v := v58) (l := s54.2.1) (ti := t32) (bytes := 32) (lim := 4398046511104) hH (i := 1) rfl h207 hx210 underlying24 Tryz_info32 rfl rfl rfl rfl (by decide) (by decide) (by decide) hB hA rfl rfl rfl ?_
    intro v211 w212 A213 hH214 ht215
    replace h61 := Sl.tr h61 ht215; replace hr81 := Tt hr81 ht215
    replace hH : Hp _ _ _ (o_127 v136 x135 :: o_32 v211 x210 :: o_3 v26 x25 :: o_4 v56 x154 :: obC b6 [v60, v62, v64, v66] 181 :: o_4 v62 s54.2.2.duty :: o_3 v64 x171 :: o_3 v66 x187 :: L) := hH214
    refine V_CHw ?_
    refine CH_q2 rfl (Qa (VQ_CH ?_))
    refine CH_tail ?_
    show V _ _ _ _ [] _ _
    obtain rfl := Oi ho79
    refine V_end (fun a ha216 => ?_)
    replace hH : Hp B A213 w212 (o_3 v66 x187 :: o_127 v136 x135 :: o_32 v211 x210 :: o_3 v26 x25 :: o_4 v56 x154 :: obC b6 [v60, v62, v64, v66] 181 :: o_4 v62 s54.2.2.duty :: o_3 v64 x171 :: L) := Hp.front hH (i := 7) rfl
    replace hH : Hp B A213 w212 (o_3 v64 x171 :: o_3 v66 x187 :: o_127 v136 x135 :: o_32 v211 x210 :: o_3 v26 x25 :: o_4 v56 x154 :: obC b6 [v60, v62, v64, v66] 181 :: o_4 v62 s54.2.2.duty :: L) := Hp.front hH (i := 7) rfl
    replace hH : Hp B A213 w212 (o_4 v62 s54.2.2.duty :: o_3 v64 x171 :: o_3 v66 x187 :: o_127 v136 x135 :: o_32 v211 x210 :: o_3 v26 x25 :: o_4 v56 x154 :: obC b6 [v60, v62, v64, v66] 181 :: L) := Hp.front hH (i := 7) rfl
    replace hH : Hp B A213 w212 (obC b6 [v60, v62, v64, v66] 181 :: o_4 v62 s54.2.2.duty :: o_3 v64 x171 :: o_3 v66 x187 :: o_127 v136 x135 :: o_32 v211 x210 :: o_3 v26 x25 :: o_4 v56 x154 :: L) := Hp.front hH (i := 7) rfl
    replace hH : Hp B A213 w212 (o_4 v56 x154 :: obC b6 [v60, v62, v64, v66] 181 :: o_4 v62 s54.2.2.duty :: o_3 v64 x171 :: o_3 v66 x187 :: o_127 v136 x135 :: o_32 v211 x210 :: o_3 v26 x25 :: L) := Hp.front hH (i := 7) rfl
    replace hH : Hp B A213 w212 (o_3 v26 x25 :: o_4 v56 x154 :: obC b6 [v60, v62, v64, v66] 181 :: o_4 v62 s54.2.2.duty :: o_3 v64 x171 :: o_3 v66 x187 :: o_127 v136 x135 :: o_32 v211 x210 :: L) := Hp.front hH (i := 7) rfl
    replace hH : Hp B A213 w212 (o_32 v211 x210 :: o_3 v26 x25 :: o_4 v56 x154 :: obC b6 [v60, v62, v64, v66] 181 :: o_4 v62 s54.2.2.duty :: o_3 v64 x171 :: o_3 v66 x187 :: o_127 v136 x135 :: L) := Hp.front hH (i := 7) rfl
    replace hH : Hp B A213 w212 (o_32 v211 x210 :: o_3 v26 x25 :: o_4 v56 x154 :: obC b6 [v60, v62, v64, v66] 181 :: o_4 v62 s54.2.2.duty :: o_3 v64 x171 :: o_3 v66 x187 :: L) := Hp.drop hH (i := 7) rfl
    exact ⟨(v56, v211, v60, v62, v64, v66, A213), ha216.sb, ⟨h61, hH, hr81⟩⟩
   rintro ⟨v82, v84, v86, v88, v90, v92, A97⟩ w94 ⟨h87, hH98, hk95⟩ a ha96
   replace hr35 := Tr.trans hr35 hk95; replace hA := hk95.new
   replace hH : Hp _ _ _ (o_32 v84 s80.2.1 :: o_3 v26 x25 :: o_4 v82 s80.1 :: obC b6 [v86, v88, v90, v92] 181 :: o_4 v88 s80.2.2.duty :: o_3 v90 s80.2.2.weights :: o_3 v92 s80.2.2.latest :: L) := hH98
   refine C_at (n := ⟨120, [], none⟩) (fun _ _ => rfl) ?_ ha96
   refine C_region (Vy (Y_addI rfl rfl) (Mm ?_))
   obtain rfl := Oi h71
   refine V_end (fun a ha217 => ?_)
   exact ⟨(s80.1, s80.2.1, s80.2.2), hlt74, h72, ⟨(v82, v84, v86, v88, v90, v92, A97), ha217.sub ⟨rfl, rfl, rfl, rfl, rfl, rfl, rfl, rfl, Ws hlt74 hn77, trivial⟩, ⟨h87, hH, hr35⟩⟩⟩
  refine C_exit (fun a ha218 => ?_)
  exact ⟨((s54.1, s54.2.1, s54.2.2), v56, v58, v60, v62, v64, v66, A68), ha218.sb, ⟨(h75 (eq_of_dec hle73 hc78)).symm, h61, hH, hr35⟩⟩
 rintro ⟨s34, v40, v42, v44, v46, v48, v50, A52⟩ w37 ⟨rfl, h45, hH53, hk38⟩ a ha39
 rw [Lp.andThen_fin] at hm
 replace h_waiting := Sl.tr h_waiting hk38; replace hK := Tr.trans hK hk38; replace hB := Nat.le_trans hB hk38.ex.size; replace hA := hk38.new
 replace hH : Hp _ _ _ (o_32 v42 s34.2.1 :: o_3 v26 x25 :: o_4 v40 s34.1 :: obC b6 [v44, v46, v48, v50] 181 :: o_4 v46 s34.2.2.duty :: o_3 v48 s34.2.2.weights :: o_3 v50 s34.2.2.latest :: L) := hH53
 refine C_at (n := ⟨120, [], none⟩) (fun _ _ => rfl) ?_ ha39
 refine Sr (As (To ?_))
 refine C_seq (Sr (Mm (Vy (Y_lenSl h_waiting rfl underlying25 rfl) (Mm (To ?_)))))
 replace hH : Hp B A52 w37 (o_43 (.slice none 0 0) ([] : (List route_Work)) :: o_32 v42 s34.2.1 :: o_3 v26 x25 :: o_4 v40 s34.1 :: obC b6 [v44, v46, v48, v50] 181 :: o_4 v46 s34.2.2.duty :: o_3 v48 s34.2.2.weights :: o_3 v50 s34.2.2.latest :: L) := Hp.addNil (α := route_Work) (e := 43) hH
 have hn244 := Sl.le h_waiting
 obtain ⟨o220, ho220, hm⟩ := Bs hm
 refine C_cutG (ι := ((List route_Work) × Value × (Nat → Prop))) (fun ⟨s221, v227, A229⟩ => [(12, v42), (17, v227)]) (fun ⟨s221, v227, A229⟩ => fun w' => o220 = .fin s221 ∧ Hp B A229 w' (o_43 v227 s221 :: o_32 v42 s34.2.1 :: o_3 v26 x25 :: o_4 v40 s34.1 :: obC b6 [v44, v46, v48, v50] 181 :: o_4 v46 s34.2.2.duty :: o_3 v48 s34.2.2.weights :: o_3 v50 s34.2.2.latest :: L) ∧ Tr Dw B A52 w37 A229 w') ?_ ?_
 ·refine C_block ?_
  refine C_range ho220 (fun k223 s231 a w' => ∃ i : (Value × (Nat → Prop)), Has ⟨120, [], none⟩ a ([(11, v40), (12, v42), (17, i.1), (97, v_waiting), (98, Ii (waiting.length : Int)), (99, Ii (k223 : Int))]) ∧ Hp B i.2 w' (o_43 i.1 s231 :: o_32 v42 s34.2.1 :: o_3 v26 x25 :: o_4 v40 s34.1 :: obC b6 [v44, v46, v48, v50] 181 :: o_4 v46 s34.2.2.duty :: o_3 v48 s34.2.2.weights :: o_3 v50 s34.2.2.latest :: L) ∧ Tr Dw B A52 w37 i.2 w') (fun a ha => ⟨(.slice none 0 0, A52), ha.sb, ⟨hH, Tr.refl (Dw := Dw) hA⟩⟩) ?_
  rintro K k223 s231 a w232 ⟨⟨v233, A235⟩, ha330, hH236, hr222⟩ hle240 K243 h242
  refine C_of ?_ ha330
  replace h_waiting := Sl.tr h_waiting hr222; replace hB := Bx hB hr222; replace hA := hr222.new
  replace hH : Hp _ _ _ (o_43 v233 s231 :: o_32 v42 s34.2.1 :: o_3 v26 x25 :: o_4 v40 s34.1 :: obC b6 [v44, v46, v48, v50] 181 :: o_4 v46 s34.2.2.duty :: o_3 v48 s34.2.2.weights :: o_3 v50 s34.2.2.latest :: L) := hH236
  refine Sr (Vy (Y_lss rfl rfl) (To ?_))
  refine C_seq ?_
  refine Cc (fun hc245 => ?_) fun hc245 => ?_
  ·have hlt241 := lt_of_dec hc245
   obtain ⟨x237, h238, h239⟩ := K243 hlt241
   refine Sk ?_
   refine C_seq ?_
   obtain ⟨s247, ho246, h238⟩ := Bs h238
   refine C_cutG (ι := (Value × (Nat → Prop))) (fun ⟨v249, A254⟩ => [(11, v40), (12, v42), (17, v249), (97, v_waiting), (98, Ii (waiting.length : Int)), (99, Ii (k223 : Int))]) (fun ⟨v249, A254⟩ => fun w' => Hp B A254 w' (o_43 v249 s247 :: o_32 v42 s34.2.1 :: o_3 v26 x25 :: o_4 v40 s34.1 :: obC b6 [v44, v46, v48, v50] 181 :: o_4 v46 s34.2.2.duty :: o_3 v48 s34.2.2.weights :: o_3 v50 s34.2.2.latest :: L) ∧ Tr Dw B A235 w232 A254 w') ?_ ?_
   ·have hr248 : Tr Dw B A235 w232 A235 w232 := Tr.refl (Dw := Dw) hA
    refine C_block (Sr (Mm ?_))
    obtain ⟨x256, hx256, ho246⟩ := Bs ho246
    refine V_indexAddr h_waiting hx256 underlying25 sizeOf43 rfl rfl rfl ?_
    intro b257 o258 h259
    obtain ⟨v260, h262, h261⟩ := El_route_Work h259
    refine Vy (Y_loadA h262 isAgg43 sizeOf43 rfl) ?_
    refine V_allocH (Dw := Dw) (B := B) hH zeroValue43 hB hA rfl ?_
    intro b263 w264 A265 hH266 ht267
    replace h261 := Sl.tr h261 ht267; replace hr248 := Tt hr248 ht267; replace hB := Bx hB ht267; replace hA := ht267.new
    replace hH : Hp _ _ _ (obC b263 [Ii 0, Ii 0, Ii 0, Ii 0, Ii 0, .slice none 0 0] 43 :: o_43 v233 s231 :: o_32 v42 s34.2.1 :: o_3 v26 x25 :: o_4 v40 s34.1 :: obC b6 [v44, v46, v48, v50] 181 :: o_4 v46 s34.2.2.duty :: o_3 v48 s34.2.2.weights :: o_3 v50 s34.2.2.latest :: L) := hH266
    refine As ?_
    have h273 : (v260).oneCell' = true := by obtain ⟨_, _, e, _⟩ := Sl.form h261; rw [e]; rfl
    refine V_storeC (Dw := Dw) (off := 0) (ds := [Ii x256.ticket, Ii x256.weight, Ii x256.urgency, Ii x256.since, Ii x256.former, v260]) hH (i := 0) rfl sizeOf43 rfl (Nat.le_of_ble_eq_true rfl) (by exact (List.forall_mem_cons.2 ⟨rfl, (List.forall_mem_cons.2 ⟨rfl, (List.forall_mem_cons.2 ⟨rfl, (List.forall_mem_cons.2 ⟨rfl, (List.forall_mem_cons.2 ⟨rfl, (List.forall_mem_cons.2 ⟨h273, (fun _ h => nomatch h)⟩)⟩)⟩)⟩)⟩)⟩)) rfl hB hA rfl rfl ?_
    intro w268 hH269 ht270
    replace h261 := Sl.tr h261 ht270; replace hr248 := Tt hr248 ht270; replace hB := Bx hB ht270; replace hA := ht270.new
    replace hH : Hp _ _ _ (obC b263 [Ii x256.ticket, Ii x256.weight, Ii x256.urgency, Ii x256.since, Ii x256.former, v260] 43 :: o_43 v233 s231 :: o_32 v42 s34.2.1 :: o_3 v26 x25 :: o_4 v40 s34.1 :: obC b6 [v44, v46, v48, v50] 181 :: o_4 v46 s34.2.2.duty :: o_3 v48 s34.2.2.weights :: o_3 v50 s34.2.2.latest :: L) := hH269
    refine To ?_
    refine Sr (Mm (Mm ?_))
    obtain ⟨x274, hx274, ho246⟩ := Bs ho246
    refine V_indexAddrH (α := Bool) (e := 4) (v := v40) (l := s34.1) hH (i := 4) rfl hx274 underlying47 sizeOf4 rfl rfl rfl ?_
    intro b275 o276 h277 hl278
    refine Ld (El.bool h277) isAgg4 (Vy (Y_not rfl) (To ?_))
    obtain ⟨s280, ho279, ho246⟩ := Bs ho246
    refine C_cutG (ι := (Value × Value × (Nat → Prop))) (fun ⟨v282, v284, A289⟩ => [(11, v40), (12, v42), (17, v282), (97, v_waiting), (98, Ii (waiting.length : Int)), (99, Ii (k223 : Int))]) (fun ⟨v282, v284, A289⟩ => fun w' => Sl A289 w' v284 s280.2.needs ∧ Hp B A289 w' (obC b263 [Ii s280.2.ticket, Ii s280.2.weight, Ii s280.2.urgency, Ii s280.2.since, Ii s280.2.former, v284] 43 :: o_43 v282 s280.1 :: o_32 v42 s34.2.1 :: o_3 v26 x25 :: o_4 v40 s34.1 :: obC b6 [v44, v46, v48, v50] 181 :: o_4 v46 s34.2.2.duty :: o_3 v48 s34.2.2.weights :: o_3 v50 s34.2.2.latest :: L) ∧ Tr Dw B A265 w268 A289 w') ?_ ?_
    ·have hr281 : Tr Dw B A265 w268 A265 w268 := Tr.refl (Dw := Dw) hA
     refine Cc (fun hc291 => ?_) fun hc291 => ?_
     ·rw [if_pos hc291] at ho279
      refine Sr (Vy (Y_fieldAddrC (off2 := 5) underlying43 rfl sizeOf41 (by decide) rfl rfl) (Ld (Hp.cell (j := 5) hH (i := 0) rfl rfl) isAgg41 ?_))
      obtain ⟨x292, hx292, ho279⟩ := Bs ho279
      refine Vc call71 (slices_Clone_Lroute_Skill_route_Skill_c (Dw := Dw) w268 hA x256.needs v260 h261 hx292) ?_
      rintro v293 w295 ⟨_, rfl, h294, hk296⟩
      obtain ⟨A297, ht298, hH299⟩ := Hp.addOwnd (Dw := Dw) hH hB hA hk296 h294
      replace hr281 := Tt hr281 ht298; replace hB := Bx hB ht298; replace hA := ht298.new
      replace hH : Hp _ _ _ (o_127 v293 x292 :: obC b263 [Ii x256.ticket, Ii x256.weight, Ii x256.urgency, Ii x256.since, Ii x256.former, v260] 43 :: o_43 v233 s231 :: o_32 v42 s34.2.1 :: o_3 v26 x25 :: o_4 v40 s34.1 :: obC b6 [v44, v46, v48, v50] 181 :: o_4 v46 s34.2.2.duty :: o_3 v48 s34.2.2.weights :: o_3 v50 s34.2.2.latest :: L) := hH299
      refine Vy (Y_fieldAddrC (off2 := 5) underlying43 rfl sizeOf41 (by decide) rfl rfl) ?_
      obtain ⟨A300, ht301, h302, hH303⟩ := Hp.freeze (Dw := Dw) (α := route_Skill) (v := v293) (l := x292) hH (i := 0) rfl hA
      replace hr281 := Tt hr281 ht301; replace hB := Bx hB ht301; replace hA := ht301.new
      replace hH : Hp _ _ _ (obC b263 [Ii x256.ticket, Ii x256.weight, Ii x256.urgency, Ii x256.since, Ii x256.former, v260] 43 :: o_43 v233 s231 :: o_32 v42 s34.2.1 :: o_3 v26 x25 :: o_4 v40 s34.1 :: obC b6 [v44, v46, v48, v50] 181 :: o_4 v46 s34.2.2.duty :: o_3 v48 s34.2.2.weights :: o_3 v50 s34.2.2.latest :: L) := hH303
      have h310 : (v293).oneCell' = true := by obtain ⟨_, _, e, _⟩ := Sl.form h302; rw [e]; rfl
      refine V_storeC (Dw := Dw) (off := 5) (ds := [Ii x256.ticket, Ii x256.weight, Ii x256.urgency, Ii x256.since, Ii x256.former, v293]) hH (i := 0) rfl sizeOf41 (by rw [← Array.length_toList, Value.cells_one h310]; rfl) (Nat.le_of_ble_eq_true rfl) (by intro u hu; rw [Value.cells_one h310] at hu; simp at hu; subst hu; assumption) (by rw [Value.cells_one h310]; rfl) hB hA rfl rfl ?_
      intro w305 hH306 ht307
      replace h302 := Sl.tr h302 ht307; replace hr281 := Tt hr281 ht307; replace hB := Bx hB ht307; replace hA := ht307.new
      replace hH : Hp _ _ _ (obC b263 [Ii x256.ticket, Ii x256.weight, Ii x256.urgency, Ii x256.since, Ii x256.former, v293] 43 :: o_43 v233 s231 :: o_32 v42 s34.2.1 :: o_3 v26 x25 :: o_4 v40 s34.1 :: obC b6 [v44, v46, v48, v50] 181 :: o_4 v46 s34.2.2.duty :: o_3 v48 s34.2.2.weights :: o_3 v50 s34.2.2.latest :: L) := hH306
      refine To ?_
      refine C_region (Mm (Vy (Y_loadA (Hp.part (off := 0) (n := 6) (ds := [Ii x256.ticket, Ii x256.weight, Ii x256.urgency, Ii x256.since, Ii x256.former, v293]) hH (i := 0) rfl rfl) isAgg43 sizeOf43 rfl) ?_))
      refine V_buildSlice (Dw := Dw) (cells := #[Ii x256.ticket, Ii x256.weight, Ii x256.urgency, Ii x256.since, Ii x256.former, v293]) (l := ([(⟨x256.ticket, x256.weight, x256.urgency, x256.since, x256.former, x292⟩ : route_Work)] : List route_Work)) (len := 1) underlying25 sizeOf43 zeroValue43 rfl (by obtain ⟨a315, c316, e317, _⟩ := Sl.form h302; subst e317; kernel_rfl) (show (1 * 6 : Nat) ≠ 0 by decide) (show (1 * 6 : Nat) ≤ 2 ^ 24 by decide) hA ⟨[Ii x256.ticket, Ii x256.weight, Ii x256.urgency, Ii x256.since, Ii x256.former, v293], _, rfl, ⟨[Ii x256.ticket], _, rfl, rfl, ⟨[Ii x256.weight], _, rfl, rfl, ⟨[Ii x256.urgency], _, rfl, rfl, ⟨[Ii x256.since], _, rfl, rfl, ⟨[Ii x256.former], _, rfl, rfl, ⟨_, rfl, h302⟩⟩⟩⟩⟩⟩, rfl⟩ rfl rfl ?_
      intro v311 w312 hk314 h313
      have ht318 := Kp.tr hk314 hA hB; replace hH := Hp.kp hH hk314; replace h302 := Sl.tr h302 ht318; replace hr281 := Tt hr281 ht318; replace hB := Bx hB ht318; replace hA := ht318.new
      obtain ⟨x319, hx319, ho279⟩ := Bs ho279
      refine V_appendH (Dw := Dw) (e := 43) (v := v233) (l := s231) (ti := t43) (bytes := 64) (lim := 2199023255552) hH (i := 1) rfl h313 hx319 underlying25 Tryz_info43 rfl rfl rfl rfl (by decide) (by decide) (by decide) hB hA rfl rfl rfl ?_
      intro v320 w321 A322 hH323 ht324
      replace h302 := Sl.tr h302 ht324; replace hr281 := Tt hr281 ht324
      replace hH : Hp _ _ _ (obC b263 [Ii x256.ticket, Ii x256.weight, Ii x256.urgency, Ii x256.since, Ii x256.former, v293] 43 :: o_43 v320 x319 :: o_32 v42 s34.2.1 :: o_3 v26 x25 :: o_4 v40 s34.1 :: obC b6 [v44, v46, v48, v50] 181 :: o_4 v46 s34.2.2.duty :: o_3 v48 s34.2.2.weights :: o_3 v50 s34.2.2.latest :: L) := hH323
      refine As ?_
      obtain rfl := Oi ho279
      refine V_end (fun a ha325 => ?_)
      exact ⟨(v320, v293, A322), ha325.sb, ⟨h302, hH, hr281⟩⟩
     rw [if_neg (nt hc291)] at ho279
     obtain rfl := Oi ho279
     refine C_skip (fun a ha326 => ?_)
     exact ⟨(v233, v260, A265), ha326.sb, ⟨h261, hH, hr281⟩⟩
    rintro ⟨v282, v284, A289⟩ w286 ⟨h285, hH290, hk287⟩ a ha288
    replace hr248 := Tr.trans hr248 hk287; replace hA := hk287.new
    replace hH : Hp _ _ _ (obC b263 [Ii s280.2.ticket, Ii s280.2.weight, Ii s280.2.urgency, Ii s280.2.since, Ii s280.2.former, v284] 43 :: o_43 v282 s280.1 :: o_32 v42 s34.2.1 :: o_3 v26 x25 :: o_4 v40 s34.1 :: obC b6 [v44, v46, v48, v50] 181 :: o_4 v46 s34.2.2.duty :: o_3 v48 s34.2.2.weights :: o_3 v50 s34.2.2.latest :: L) := hH290
    obtain rfl := Oi ho246
    replace hH : Hp B A289 w286 (o_3 v50 s34.2.2.latest :: obC b263 [Ii s280.2.ticket, Ii s280.2.weight, Ii s280.2.urgency, Ii s280.2.since, Ii s280.2.former, v284] 43 :: o_43 v282 s280.1 :: o_32 v42 s34.2.1 :: o_3 v26 x25 :: o_4 v40 s34.1 :: obC b6 [v44, v46, v48, v50] 181 :: o_4 v46 s34.2.2.duty :: o_3 v48 s34.2.2.weights :: L) := Hp.front hH (i := 8) rfl
    replace hH : Hp B A289 w286 (o_3 v48 s34.2.2.weights :: o_3 v50 s34.2.2.latest :: obC b263 [Ii s280.2.ticket, Ii s280.2.weight, Ii s280.2.urgency, Ii s280.2.since, Ii s280.2.former, v284] 43 :: o_43 v282 s280.1 :: o_32 v42 s34.2.1 :: o_3 v26 x25 :: o_4 v40 s34.1 :: obC b6 [v44, v46, v48, v50] 181 :: o_4 v46 s34.2.2.duty :: L) := Hp.front hH (i := 8) rfl
    replace hH : Hp B A289 w286 (o_4 v46 s34.2.2.duty :: o_3 v48 s34.2.2.weights :: o_3 v50 s34.2.2.latest :: obC b263 [Ii s280.2.ticket, Ii s280.2.weight, Ii s280.2.urgency, Ii s280.2.since, Ii s280.2.former, v284] 43 :: o_43 v282 s280.1 :: o_32 v42 s34.2.1 :: o_3 v26 x25 :: o_4 v40 s34.1 :: obC b6 [v44, v46, v48, v50] 181 :: L) := Hp.front hH (i := 8) rfl
    replace hH : Hp B A289 w286 (obC b6 [v44, v46, v48, v50] 181 :: o_4 v46 s34.2.2.duty :: o_3 v48 s34.2.2.weights :: o_3 v50 s34.2.2.latest :: obC b263 [Ii s280.2.ticket, Ii s280.2.weight, Ii s280.2.urgency, Ii s280.2.since, Ii s280.2.former, v284] 43 :: o_43 v282 s280.1 :: o_32 v42 s34.2.1 :: o_3 v26 x25 :: o_4 v40 s34.1 :: L) := Hp.front hH (i := 8) rfl
    replace hH : Hp B A289 w286 (o_4 v40 s34.1 :: obC b6 [v44, v46, v48, v50] 181 :: o_4 v46 s34.2.2.duty :: o_3 v48 s34.2.2.weights :: o_3 v50 s34.2.2.latest :: obC b263 [Ii s280.2.ticket, Ii s280.2.weight, Ii s280.2.urgency, Ii s280.2.since, Ii s280.2.former, v284] 43 :: o_43 v282 s280.1 :: o_32 v42 s34.2.1 :: o_3 v26 x25 :: L) := Hp.front hH (i := 8) rfl
    replace hH : Hp B A289 w286 (o_3 v26 x25 :: o_4 v40 s34.1 :: obC b6 [v44, v46, v48, v50] 181 :: o_4 v46 s34.2.2.duty :: o_3 v48 s34.2.2.weights :: o_3 v50 s34.2.2.latest :: obC b263 [Ii s280.2.ticket, Ii s280.2.weight, Ii s280.2.urgency, Ii s280.2.since, Ii s280.2.former, v284] 43 :: o_43 v282 s280.1 :: o_32 v42 s34.2.1 :: L) := Hp.front hH (i := 8) rfl
    replace hH : Hp B A289 w286 (o_32 v42 s34.2.1 :: o_3 v26 x25 :: o_4 v40 s34.1 :: obC b6 [v44, v46, v48, v50] 181 :: o_4 v46 s34.2.2.duty :: o_3 v48 s34.2.2.weights :: o_3 v50 s34.2.2.latest :: obC b263 [Ii s280.2.ticket, Ii s280.2.weight, Ii s280.2.urgency, Ii s280.2.since, Ii s280.2.former, v284] 43 :: o_43 v282 s280.1 :: L) := Hp.front hH (i := 8) rfl
    replace hH : Hp B A289 w286 (o_43 v282 s280.1 :: o_32 v42 s34.2.1 :: o_3 v26 x25 :: o_4 v40 s34.1 :: obC b6 [v44, v46, v48, v50] 181 :: o_4 v46 s34.2.2.duty :: o_3 v48 s34.2.2.weights :: o_3 v50 s34.2.2.latest :: obC b263 [Ii s280.2.ticket, Ii s280.2.weight, Ii s280.2.urgency, Ii s280.2.since, Ii s280.2.former, v284] 43 :: L) := Hp.front hH (i := 8) rfl
    replace hH : Hp B A289 w286 (o_43 v282 s280.1 :: o_32 v42 s34.2.1 :: o_3 v26 x25 :: o_4 v40 s34.1 :: obC b6 [v44, v46, v48, v50] 181 :: o_4 v46 s34.2.2.duty :: o_3 v48 s34.2.2.weights :: o_3 v50 s34.2.2.latest :: L) := Hp.drop hH (i := 8) rfl
    exact ⟨(v282, A289), ha288.sb, ⟨hH, hr248⟩⟩
   rintro ⟨v249, A254⟩ w251 ⟨hH255, hk252⟩ a ha253
   replace hr222 := Tr.trans hr222 hk252; replace hA := hk252.new
   replace hH : Hp _ _ _ (o_43 v249 s247 :: o_32 v42 s34.2.1 :: o_3 v26 x25 :: o_4 v40 s34.1 :: obC b6 [v44, v46, v48, v50] 181 :: o_4 v46 s34.2.2.duty :: o_3 v48 s34.2.2.weights :: o_3 v50 s34.2.2.latest :: L) := hH255
   refine C_at (n := ⟨120, [], none⟩) (fun _ _ => rfl) ?_ ha253
   refine C_region (Vy (Y_addI rfl rfl) (Mm ?_))
   obtain rfl := Oi h238
   refine V_end (fun a ha328 => ?_)
   exact ⟨s247, hlt241, h239, ⟨(v249, A254), ha328.sub ⟨rfl, rfl, rfl, rfl, rfl, Ws hlt241 hn244, trivial⟩, ⟨hH, hr222⟩⟩⟩
  refine C_exit (fun a ha329 => ?_)
  exact ⟨(s231, v233, A235), ha329.sb, ⟨(h242 (eq_of_dec hle240 hc245)).symm, hH, hr222⟩⟩
 rintro ⟨s221, v227, A229⟩ w224 ⟨rfl, hH230, hk225⟩ a ha226
 rw [Lp.andThen_fin] at hm
 replace hK := Tr.trans hK hk225; replace hA := hk225.new
 replace hH : Hp _ _ _ (o_43 v227 s221 :: o_32 v42 s34.2.1 :: o_3 v26 x25 :: o_4 v40 s34.1 :: obC b6 [v44, v46, v48, v50] 181 :: o_4 v46 s34.2.2.duty :: o_3 v48 s34.2.2.weights :: o_3 v50 s34.2.2.latest :: L) := hH230
 refine C_at (n := ⟨120, [], none⟩) (fun _ _ => rfl) ?_ ha226
 refine Sr (Mm (Mm (As (As (To ?_)))))
 obtain rfl := Oi hm
 replace hH : Hp B A229 w224 (o_32 v42 s34.2.1 :: o_43 v227 s221 :: o_3 v26 x25 :: o_4 v40 s34.1 :: obC b6 [v44, v46, v48, v50] 181 :: o_4 v46 s34.2.2.duty :: o_3 v48 s34.2.2.weights :: o_3 v50 s34.2.2.latest :: L) := Hp.front hH (i := 1) rfl
 replace hH : Hp B A229 w224 (o_32 v42 s34.2.1 :: o_43 v227 s221 :: o_4 v40 s34.1 :: obC b6 [v44, v46, v48, v50] 181 :: o_4 v46 s34.2.2.duty :: o_3 v48 s34.2.2.weights :: o_3 v50 s34.2.2.latest :: L) := Hp.drop hH (i := 2) rfl
 replace hH : Hp B A229 w224 (o_32 v42 s34.2.1 :: o_43 v227 s221 :: obC b6 [v44, v46, v48, v50] 181 :: o_4 v46 s34.2.2.duty :: o_3 v48 s34.2.2.weights :: o_3 v50 s34.2.2.latest :: L) := Hp.drop hH (i := 2) rfl
 replace hH : Hp B A229 w224 (o_32 v42 s34.2.1 :: o_43 v227 s221 :: o_4 v46 s34.2.2.duty :: o_3 v48 s34.2.2.weights :: o_3 v50 s34.2.2.latest :: L) := Hp.drop hH (i := 2) rfl
 replace hH : Hp B A229 w224 (o_32 v42 s34.2.1 :: o_43 v227 s221 :: o_3 v48 s34.2.2.weights :: o_3 v50 s34.2.2.latest :: L) := Hp.drop hH (i := 2) rfl
 replace hH : Hp B A229 w224 (o_32 v42 s34.2.1 :: o_43 v227 s221 :: o_3 v50 s34.2.2.latest :: L) := Hp.drop hH (i := 2) rfl
 replace hH : Hp B A229 w224 (o_32 v42 s34.2.1 :: o_43 v227 s221 :: L) := Hp.drop hH (i := 2) rfl
 refine Rt (Res.two results16 rfl rfl) ?_
 exact ⟨v42, v227, A229, rfl, hH, hK⟩
theorem slices_Grow_Lroute_Held_route_Held_c (w : World) {A : Nat → Prop} (hA : ∀ b, w.heap.size ≤ b → A b) (n : Int) {r : List route_Held} (hm : slices_Grow_Lroute_Held_route_Held n = some r) : Ret prog 72 #[.slice none 0 0, Ii n] w fun v w' => ∃ s0, v = s0 ∧ Ownd (α := route_Held) 32 w w' s0 r ∧ Kp Dw w w' := by
 unfold slices_Grow_Lroute_Held_route_Held at hm
 split at hm
 case isFalse => cases hm
 rename_i hc
 obtain rfl := Oi hm
 obtain ⟨k, rfl⟩ : ∃ k : Nat, n = (k : Int) := ⟨n.toNat, by omega⟩
 obtain ⟨_, hk0⟩ := hc
 have hk : k ≤ 4398046511104 := by omega
 have hmax : k ≤ maxLen := Nat.le_trans hk (by decide)
 have hbytes : k * 32 ≤ 140737488355328 := Nat.le_trans (Nat.mul_le_mul_right _ hk) (by decide)
 have e0 : w64 (((0 : Nat) : Int) - ((0 : Nat) : Int)) = 0 := rfl
 have e1 : w64 ((k : Int) - 0) = (k : Int) := by rw [Int.sub_zero, w64_id (by omega) (by omega)]
 refine enter func72 rfl ntmps72 rfl ?_
 refine Sr (As (To ?_))
 refine C_seq (Sr (Mm (Vy (Y_lss rfl rfl) (To ?_))))
 refine Cc (fun hc => ?_) fun _ => ?_
 ·have : decide ((k : Int) < 0) = true := hc
  rw [decide_eq_true_eq] at this
  omega
 refine Sk ?_
 refine C_seq (Sr (Mm (Mm (Vy (Y_cap (a := none) (len := 0) (cap := 0) rfl underlying24 rfl) (Mm (Vy (Y_lenS (a := none) (len := 0) (cap := 0) rfl underlying24 rfl) (Vy (Y_subI rfl rfl) ?_)))))))
 rw [e0]
 refine Vy (Y_subI rfl rfl) ?_
 rw [e1]
 refine As (To ?_)
 refine Sr (Mm (Vy (Y_gtr rfl rfl) (To ?_)))
 refine Cc (fun hc => ?_) fun hc => ?_
 ·have hk1 : 0 < k := by
   have : decide ((0 : Int) < (k : Int)) = true := hc
   rw [decide_eq_true_eq] at this
   omega
  refine C_region (Mm (Mm (Vy (Y_cap (a := none) (len := 0) (cap := 0) rfl underlying24 rfl) (Vy (Y_slNil (sz := 4) (k := .i64) underlying24 sizeOf32 rfl rfl) (Mm ?_)))))
  refine V_appendZN (Dw := Dw) (B := w.heap.size) (L := []) (k := k) (size := 4) (bytes := 32) (ti := t32) (A := A) Hp.nil underlying24 underlying3 Tryz_info32 rfl rfl rfl rfl (by decide) hk1 hmax hbytes (Nat.le_refl _) hA rfl rfl rfl ?_
  intro g2 cap2 row w1 A1 hH1 ht1 hc1 hc2 hrow
  refine Mm (Vy (Y_lenS (a := none) (len := 0) (cap := 0) rfl underlying24 rfl) ?_)
  refine Vy (Y_slHi (sz := 4) (g := g2) (len := k) (cap := cap2) (hi := 0) (k := .i64) (by omega) underlying24 sizeOf32 rfl rfl) (As (To ?_))
  have hH2 := Hp.closeS (α := route_Held) (e := 32) (l := ([] : List route_Held)) (cap := cap2) hH1 (i := 0) rfl ht1.new (by simp) hc2 hrow (by rw [List.length_nil, Nat.zero_mul]; exact rfl)
  refine Sr (Mm (As (To ?_)))
  refine Rt (Res.one results72 rfl) ?_
  exact ⟨_, rfl, (Hp.ownd hH2 (i := 0) rfl), ht1.kp⟩
 refine Sk ?_
 refine Sr (Mm (As (To ?_)))
 refine Rt (Res.one results72 rfl) ?_
 exact ⟨_, rfl, ⟨[], .inl ⟨rfl, rfl, rfl⟩, fun b hb => by cases hb⟩, Kp.refl (Dw := Dw) _⟩
theorem slices_Concat_Lroute_Held_route_Held_c (w : World) {A : Nat → Prop} (hA : ∀ b, w.heap.size ≤ b → A b) (slices : (List (List route_Held))) (v_slices : Value) (h_slices : Sl A w v_slices slices) {r : (List route_Held)} (hm : slices_Concat_Lroute_Held_route_Held slices = some r) : Ret prog 17 #[v_slices] w fun v w' => ∃ s0, v = s0 ∧ Ownd 32 w w' s0 r ∧ Kp Dw w w' := by
 unfold slices_Concat_Lroute_Held_route_Held at hm
 refine enter func17 rfl ntmps17 rfl ?_
 have hA0 := hA
 obtain ⟨hB, hK, hH⟩ := St (Dw := Dw) hA
 refine Sr (As (To ?_))
 refine Sr (As (To ?_))
 refine C_seq (Sr (Mm (Vy (Y_lenSl h_slices rfl underlying183 rfl) (Mm (To ?_)))))
 have hn23 := Sl.le h_slices
 obtain ⟨o3, ho3, hm⟩ := Bs hm
 refine C_cutG (ι := (Int × (Nat → Prop))) (fun ⟨s4, A10⟩ => [(0, v_slices), (3, Ii s4)]) (fun ⟨s4, A10⟩ => fun w' => o3 = .fin s4 ∧ Hp w.heap.size A10 w' ([]) ∧ Tr Dw w.heap.size A w A10 w') ?_ ?_
 ·refine C_block ?_
  refine C_range ho3 (fun k6 s12 a w' => ∃ i : (Nat → Prop), Has ⟨36, [], none⟩ a ([(0, v_slices), (3, Ii s12), (9, v_slices), (10, Ii (slices.length : Int)), (11, Ii (k6 : Int))]) ∧ Hp w.heap.size i w' ([]) ∧ Tr Dw w.heap.size A w i w') (fun a ha => ⟨A, ha.sb, ⟨hH, Tr.refl (Dw := Dw) hA⟩⟩) ?_
  rintro K k6 s12 a w13 ⟨A14, ha35, hH15, hr5⟩ hle19 K22 h21
  refine C_of ?_ ha35
  replace h_slices := Sl.tr h_slices hr5; replace hA := hr5.new; replace hH := hH15
  refine Sr (Vy (Y_lss rfl rfl) (To ?_))
  refine C_seq ?_
  refine Cc (fun hc24 => ?_) fun hc24 => ?_
  ·have hlt20 := lt_of_dec hc24
   obtain ⟨x16, h17, h18⟩ := K22 hlt20
   refine Sk ?_
   refine C_seq (C_block (Sr ?_))
   obtain ⟨x25, hx25, h17⟩ := Bs h17
   refine V_indexAddr h_slices hx25 underlying183 sizeOf24 rfl rfl rfl ?_
   intro b26 o27 h28
   obtain ⟨v29, h30, h31⟩ := El.list h28
   refine Ld h30 isAgg24 (As (To ?_))
   refine Sr (Mm (Mm (Vy (Y_lenSl h31 rfl underlying24 rfl) (Vy (Y_addI rfl rfl) (As (To ?_))))))
   refine Sr (Mm (Vy (Y_lss rfl rfl) (To ?_)))
   refine Cc (fun hc32 => ?_) fun hc32 => ?_
   ·rw [if_pos hc32] at h17
    cases h17
   rw [if_neg (nt hc32)] at h17
   refine Sk ?_
   refine C_region (Vy (Y_addI rfl rfl) (Mm ?_))
   obtain rfl := Oi h17
   refine V_end (fun a ha33 => ?_)
   exact ⟨w64 (s12 + (x25.length : Int)), hlt20, h18, ⟨A14, ha33.sub ⟨rfl, rfl, rfl, rfl, Ws hlt20 hn23, trivial⟩, ⟨hH, hr5⟩⟩⟩
  refine C_exit (fun a ha34 => ?_)
  exact ⟨(s12, A14), ha34.sb, ⟨(h21 (eq_of_dec hle19 hc24)).symm, hH, hr5⟩⟩
 rintro ⟨s4, A10⟩ w7 ⟨rfl, hH11, hk8⟩ a ha9
 rw [Lp.andThen_fin] at hm
 replace h_slices := Sl.tr h_slices hk8; replace hK := Tr.trans hK hk8; replace hB := Nat.le_trans hB hk8.ex.size; replace hA := hk8.new; replace hH := hH11
 refine C_at (n := ⟨36, [], none⟩) (fun _ _ => rfl) ?_ ha9
 refine Sr (Mm ?_)
 obtain ⟨x36, hx36, hm⟩ := Bs hm
 refine Vc call72 (slices_Grow_Lroute_Held_route_Held_c (Dw := Dw) w7 hA  s4 hx36) ?_
 rintro v37 w39 ⟨_, rfl, h38, hk40⟩
 obtain ⟨A41, ht42, hH43⟩ := Hp.addOwnd (Dw := Dw) hH hB hA hk40 h38
 replace h_slices := Sl.tr h_slices ht42; replace hK := Tt hK ht42; replace hB := Bx hB ht42; replace hA := ht42.new
 replace hH : Hp _ _ _ (o_32 v37 x36 :: []) := hH43
 refine As (To ?_)
 refine C_seq (Sr (Mm (Vy (Y_lenSl h_slices rfl underlying183 rfl) (Mm (To ?_)))))
 have hn68 := Sl.le h_slices
 obtain ⟨o44, ho44, hm⟩ := Bs hm
 refine C_cutG (ι := ((List route_Held) × Value × (Nat → Prop))) (fun ⟨s45, v51, A53⟩ => [(6, v51)]) (fun ⟨s45, v51, A53⟩ => fun w' => o44 = .fin s45 ∧ Hp w.heap.size A53 w' (o_32 v51 s45 :: []) ∧ Tr Dw w.heap.size A41 w39 A53 w') ?_ ?_
 ·refine C_block ?_
  refine C_range ho44 (fun k47 s55 a w' => ∃ i : (Value × (Nat → Prop)), Has ⟨36, [], none⟩ a ([(6, i.1), (25, v_slices), (26, Ii (slices.length : Int)), (27, Ii (k47 : Int))]) ∧ Hp w.heap.size i.2 w' (o_32 i.1 s55 :: []) ∧ Tr Dw w.heap.size A41 w39 i.2 w') (fun a ha => ⟨(v37, A41), ha.sb, ⟨hH, Tr.refl (Dw := Dw) hA⟩⟩) ?_
  rintro K k47 s55 a w56 ⟨⟨v57, A59⟩, ha85, hH60, hr46⟩ hle64 K67 h66
  refine C_of ?_ ha85
  replace h_slices := Sl.tr h_slices hr46; replace hB := Bx hB hr46; replace hA := hr46.new
  replace hH : Hp _ _ _ (o_32 v57 s55 :: []) := hH60
  refine Sr (Vy (Y_lss rfl rfl) (To ?_))
  refine C_seq ?_
  refine Cc (fun hc69 => ?_) fun hc69 => ?_
  ·have hlt65 := lt_of_dec hc69
   obtain ⟨x61, h62, h63⟩ := K67 hlt65
   refine Sk ?_
   refine C_seq (C_block (Sr ?_))
   obtain ⟨x70, hx70, h62⟩ := Bs h62
   refine V_indexAddr h_slices hx70 underlying183 sizeOf24 rfl rfl rfl ?_
   intro b71 o72 h73
   obtain ⟨v74, h75, h76⟩ := El.list h73
   refine Ld h75 isAgg24 (As (To ?_))
   refine C_region (Mm (Mm ?_))
   obtain ⟨x77, hx77, h62⟩ := Bs h62
   refine V_appendH (Dw := Dw) (e := 32) (v := v57) (l := s55) (ti := t32) (bytes := 32) (lim := 4398046511104) hH (i := 0) rfl h76 hx77 underlying24 Tryz_info32 rfl rfl rfl rfl (by decide) (by decide) (by decide) hB hA rfl rfl rfl ?_
   intro v78 w79 A80 hH81 ht82
   replace hr46 := Tt hr46 ht82
   replace hH : Hp _ _ _ (o_32 v78 x77 :: []) := hH81
   refine As (To ?_)
   refine C_region (Vy (Y_addI rfl rfl) (Mm ?_))
   obtain rfl := Oi h62
   refine V_end (fun a ha83 => ?_)
   exact ⟨x77, hlt65, h63, ⟨(v78, A80), ha83.sub ⟨rfl, rfl, rfl, Ws hlt65 hn68, trivial⟩, ⟨hH, hr46⟩⟩⟩
  refine C_exit (fun a ha84 => ?_)
  exact ⟨(s55, v57, A59), ha84.sb, ⟨(h66 (eq_of_dec hle64 hc69)).symm, hH, hr46⟩⟩
 rintro ⟨s45, v51, A53⟩ w48 ⟨rfl, hH54, hk49⟩ a ha50
 rw [Lp.andThen_fin] at hm
 replace hK := Tr.trans hK hk49; replace hA := hk49.new
 replace hH : Hp _ _ _ (o_32 v51 s45 :: []) := hH54
 refine C_at (n := ⟨36, [], none⟩) (fun _ _ => rfl) ?_ ha50
 refine Sr (Mm (As (To ?_)))
 obtain rfl := Oi hm
 refine Rt (Res.one results17 rfl) ?_
 exact ⟨v51, rfl, (Hp.ownd hH (i := 0) rfl), hK.kp⟩
theorem route_byTicket_1_c (w : World) {A : Nat → Prop} (hA : ∀ b, w.heap.size ≤ b → A b) (x : route_Held) (y : route_Held) {r : Int} (hm : route_byTicket_1 x y = some r) : Ret prog 74 #[.agg #[Ii x.ticket, Ii x.person, Ii x.weight, Ii x.since], .agg #[Ii y.ticket, Ii y.person, Ii y.weight, Ii y.since]] w fun v w' => v = Ii r ∧ Kp Dw w w' := by
 unfold route_byTicket_1 at hm
 refine enter func74 rfl ntmps74 rfl ?_
 have hA0 := hA
 obtain ⟨hB, hK, hH⟩ := St (Dw := Dw) hA
 refine Sr ?_
 refine V_box rfl rfl ?_
 intro b1 w2 h3
 have hk5 := h3.kp (Dw := Dw)
 have h4 : El (α := route_Held) A w2 b1 0 x := h3.el hA ⟨[Ii x.ticket], _, rfl, rfl, ⟨[Ii x.person], _, rfl, rfl, ⟨[Ii x.weight], _, rfl, rfl, rfl⟩⟩⟩
 have ht6 := Kp.tr hk5 hA hB; replace hK := Tt hK ht6; replace hB := Bx hB ht6; replace hA := ht6.new
 refine V_box rfl rfl ?_
 intro b7 w9 h10
 have hk12 := h10.kp (Dw := Dw)
 have h11 : El (α := route_Held) A w9 b7 0 y := h10.el hA ⟨[Ii y.ticket], _, rfl, rfl, ⟨[Ii y.person], _, rfl, rfl, ⟨[Ii y.weight], _, rfl, rfl, rfl⟩⟩⟩
 have ht13 := Kp.tr hk12 hA hB; replace h4 := El.tr h4 ht13; replace hK := Tt hK ht13
 refine As (To ?_)
 refine Sr ?_
 have h14 := El_route_Held_0 h4
 refine Fa underlying32 rfl sizeOf3 (Li h14 isAgg3 ?_)
 have h15 := El_route_Held_0 h11
 refine Fa underlying32 rfl sizeOf3 (Li h15 isAgg3 ?_)
 refine Vc call75 (cmp_Compare_int_c w9 x.ticket y.ticket) ?_
 rintro _ _ ⟨rfl, rfl⟩
 refine As (To ?_)
 obtain rfl := Oi hm
 refine Rt (Res.one results74 rfl) ?_
 exact ⟨rfl, hK.kp⟩
def Tryz_sf73_ren : Go.Shelf.Ren := ⟨fun | 6 => 73 | 14 => 109 | 15 => 110 | 20 => 125 | 21 => 126 | 22 => 127 | 23 => 128 | 24 => 129 | 25 => 130 | 26 => 131 | 27 => 132 | 28 => 133 | 29 => 134 | 46 => 151 | 47 => 152 | 48 => 153 | 49 => 154 | 50 => 155 | 57 => 175 | n => n, fun | 0 => 0 | 1 => 1 | 2 => 2 | 3 => 3 | 4 => 4 | 5 => 5 | 6 => 6 | 7 => 7 | 8 => 8 | 9 => 9 | 10 => 10 | 11 => 11 | 12 => 12 | 13 => 13 | 14 => 14 | 15 => 15 | 16 => 16 | 17 => 17 | 18 => 18 | 19 => 19 | 20 => 20 | 21 => 21 | 22 => 24 | 23 => 185 | 24 => 32 | 25 => 187 | 26 => 53 | 27 => 98 | 28 => 217 | 29 => 186 | 37 => 222 | 38 => 223 | 39 => 224 | 40 => 45 | 41 => 233 | 42 => 54 | 44 => 234 | 45 => 235 | 46 => 236 | 47 => 237 | 48 => 238 | 49 => 239 | 50 => 240 | 51 => 241 | 52 => 242 | 53 => 243 | 54 => 244 | 55 => 245 | 56 => 256 | 57 => 257 | 58 => 258 | 59 => 259 | 60 => 260 | 66 => 261 | 67 => 262 | 68 => 263 | 69 => 264 | 70 => 265 | 71 => 266 | 72 => 282 | 73 => 283 | 76 => 284 | 77 => 202 | 78 => 285 | 79 => 293 | 81 => 303 | 82 => 304 | 83 => 305 | 84 => 306 | 85 => 307 | 86 => 308 | 87 => 309 | 88 => 310 | 89 => 311 | 90 => 312 | 91 => 313 | 92 => 314 | 93 => 315 | 94 => 316 | 95 => 317 | 96 => 322 | n => n, fun n => n⟩
theorem Tryz_sf73_lay : Go.Proofs.SlLaysF0.n6 Tryz.prog Tryz_sf73_ren := {
  mixed := by kernel_rfl,
  f6 := ⟨ "slices.SortFunc[[]porterslodge/route.Held,porterslodge/route.Held]", by kernel_rfl, Tryz.func73.trans (congrArg some (by kernel_rfl))⟩,
  f14 := ⟨ "slices.pdqsortCmpFunc[porterslodge/route.Held]", by kernel_rfl, Tryz.func109.trans (congrArg some (by kernel_rfl))⟩,
  f15 := Tryz.func110.trans (congrArg some (by kernel_rfl)),
  f20 := ⟨ "slices.insertionSortCmpFunc[porterslodge/route.Held]", by kernel_rfl, Tryz.func125.trans (congrArg some (by kernel_rfl))⟩,
  f21 := ⟨ "slices.heapSortCmpFunc[porterslodge/route.Held]", by kernel_rfl, Tryz.func126.trans (congrArg some (by kernel_rfl))⟩,
  f22 := ⟨ "slices.breakPatternsCmpFunc[porterslodge/route.Held]", by kernel_rfl, Tryz.func127.trans (congrArg some (by kernel_rfl))⟩,
  f23 := ⟨ "slices.choosePivotCmpFunc[porterslodge/route.Held]", by kernel_rfl, Tryz.func128.trans (congrArg some (by kernel_rfl))⟩,
  f24 := ⟨ "slices.reverseRangeCmpFunc[porterslodge/route.Held]", by kernel_rfl, Tryz.func129.trans (congrArg some (by kernel_rfl))⟩,
  f25 := ⟨ "slices.partialInsertionSortCmpFunc[porterslodge/route.Held]", by kernel_rfl, Tryz.func130.trans (congrArg some (by kernel_rfl))⟩,
  f26 := ⟨ "slices.partitionEqualCmpFunc[porterslodge/route.Held]", by kernel_rfl, Tryz.func131.trans (congrArg some (by kernel_rfl))⟩,
  f27 := ⟨ "slices.partitionCmpFunc[porterslodge/route.Held]", by kernel_rfl, Tryz.func132.trans (congrArg some (by kernel_rfl))⟩,
  f28 := Tryz.func133.trans (congrArg some (by kernel_rfl)),
  f29 := Tryz.func134.trans (congrArg some (by kernel_rfl)),
  f46 := ⟨ "slices.siftDownCmpFunc[porterslodge/route.Held]", by kernel_rfl, Tryz.func151.trans (congrArg some (by kernel_rfl))⟩,
  f47 := Tryz.func152.trans (congrArg some (by kernel_rfl)),
  f48 := Tryz.func153.trans (congrArg some (by kernel_rfl)),
  f49 := ⟨ "slices.medianAdjacentCmpFunc[porterslodge/route.Held]", by kernel_rfl, Tryz.func154.trans (congrArg some (by kernel_rfl))⟩,
  f50 := ⟨ "slices.medianCmpFunc[porterslodge/route.Held]", by kernel_rfl, Tryz.func155.trans (congrArg some (by kernel_rfl))⟩,
  f57 := ⟨ "slices.order2CmpFunc[porterslodge/route.Held]", by kernel_rfl, Tryz.func175.trans (congrArg some (by kernel_rfl))⟩,
  t0 := Tryz.underlying0,
  a0 := Tryz.isAgg0,
  z0 := Tryz.sizeOf0,
  v0 := Tryz.zeroValue0,
  t3 := Tryz.underlying3,
  a3 := Tryz.isAgg3,
  z3 := Tryz.sizeOf3,
  v3 := Tryz.zeroValue3,
  t4 := Tryz.underlying4,
  a4 := Tryz.isAgg4,
  z4 := Tryz.sizeOf4,
  v4 := Tryz.zeroValue4,
  t5 := Tryz.underlying5,
  a5 := Tryz.isAgg5,
  z5 := Tryz.sizeOf5,
  v5 := Tryz.zeroValue5,
  t9 := Tryz.underlying9,
  a9 := Tryz.isAgg9,
  z9 := Tryz.sizeOf9,
  v9 := Tryz.zeroValue9,
  t22 := Tryz.underlying24,
  a22 := Tryz.isAgg24,
  z22 := Tryz.sizeOf24,
  v22 := Tryz.zeroValue24,
  t25 := Tryz.underlying187,
  a25 := Tryz.isAgg187,
  z25 := Tryz.sizeOf187,
  v25 := Tryz.zeroValue187,
  t39 := Tryz.underlying224,
  a39 := Tryz.isAgg224,
  z39 := Tryz.sizeOf224,
  v39 := Tryz.zeroValue224,
  t45 := Tryz.underlying235,
  a45 := Tryz.isAgg235,
  z45 := Tryz.sizeOf235,
  v45 := Tryz.zeroValue235,
  t46 := Tryz.underlying236,
  a46 := Tryz.isAgg236,
  z46 := Tryz.sizeOf236,
  v46 := Tryz.zeroValue236,
  t50 := Tryz.underlying240,
  a50 := Tryz.isAgg240,
  z50 := Tryz.sizeOf240,
  v50 := Tryz.zeroValue240,
  t53 := Tryz.underlying243,
  a53 := Tryz.isAgg243,
  z53 := Tryz.sizeOf243,
  v53 := Tryz.zeroValue243,
  t55 := Tryz.underlying245,
  a55 := Tryz.isAgg245,
  z55 := Tryz.sizeOf245,
  v55 := Tryz.zeroValue245,
  t66 := Tryz.underlying261,
  a66 := Tryz.isAgg261,
  z66 := Tryz.sizeOf261,
  v66 := Tryz.zeroValue261,
  t70 := Tryz.underlying265,
  a70 := Tryz.isAgg265,
  z70 := Tryz.sizeOf265,
  v70 := Tryz.zeroValue265,
  t76 := Tryz.underlying284,
  a76 := Tryz.isAgg284,
  z76 := Tryz.sizeOf284,
  v76 := Tryz.zeroValue284,
  t77 := Tryz.underlying202,
  a77 := Tryz.isAgg202,
  z77 := Tryz.sizeOf202,
  v77 := Tryz.zeroValue202 }
theorem Tryz_sf73 {cmp : route_Held → route_Held → Option Int} {l r : List route_Held} {g : FuncId} {cb : Array Value} {B : Nat} {A : Nat → Prop} {w : World} {L : List Ob} {i : Nat} {v : Value} (eg : ∀ (args : Array Value) (w : World), (callFunc g args).run Tryz.prog w = .ok (.enter g args) w) (hcl : ∀ (w1 : World), Tr True B A w A w1 → (∀ b, w1.heap.size ≤ b → A b) → ∀ (x y : route_Held) (cx cy : List Value) (c : Int), GoT.rep A w1 cx x → GoT.rep A w1 cy y → cmp x y = some c → Ret Tryz.prog g (#[.agg cx.toArray, .agg cy.toArray] ++ cb) w1 fun v w' => v = .int .i64 c ∧ Kp True w1 w') (hH : Hp B A w L) (hi : L[i]? = some (o_32 v l)) (hB : B ≤ w.heap.size) (hA : ∀ b, w.heap.size ≤ b → A b) (hr : sortFuncL cmp l = some r) : Ret Tryz.prog 73 #[v, .func (.func g) #[] cb] w fun u w' => u = .tuple #[] ∧ Hp B A w' (L.set i (o_32 v r)) ∧ Tr Dw B A w A w' :=
  Hp.sortFuncK (Dw := Dw) (fun p c w => Go.Proofs.AnyF.slices_SortFunc_none Tryz_sf73_lay p c _ w) (fun enc hk hone cf hO blk off cap d w hc hh hb hs => Go.Proofs.AnyQ.slices_SortFunc Tryz_sf73_lay _ Tryz.isAgg32 Tryz.sizeOf32 enc hk hone cf hO g cb blk off cap d w eg hc hh hb hs) hcl hH hi hB hA hr
theorem route_byTicket_c (w : World) {A : Nat → Prop} {B : Nat} (hB : B ≤ w.heap.size) (hA : ∀ b, w.heap.size ≤ b → A b) (l : (List route_Held)) (v_l : Value) {L : List Ob} (hH : Hp B A w (o_32 v_l l :: L)) {r : (List route_Held)} (hm : route_byTicket l = some r) : Ret prog 18 #[v_l] w fun v w' => ∃ A1 : Nat → Prop, v = .tuple #[] ∧ Hp B A1 w' (o_32 v_l r :: L) ∧ Tr Dw B A w A1 w' := by
 unfold route_byTicket at hm
 refine enter func18 rfl ntmps18 rfl ?_
 have hK : Tr Dw B A w A w := Tr.refl (Dw := Dw) hA
 refine C_region (Mm ?_)
 obtain ⟨x1, hx1, hm⟩ := Bs hm
 refine V_call call73 rfl rfl rfl rfl (Tryz_sf73 (Dw := Dw) call74 (fun w7 ht8 h9 p11 q14 c12 c15 c17 h13 h16 h10 => by obtain ⟨rfl, _⟩ := Rep_route_Held h13; obtain ⟨rfl, _⟩ := Rep_route_Held h16; exact (route_byTicket_1_c (Dw := True) w7 h9 p11 q14 h10).mono fun _ _ h => ⟨h.1, h.2⟩) hH (i := 0) rfl hB hA hx1) ?_
 rintro _ w2 ⟨rfl, hH3, ht4⟩
 replace hK := Tt hK ht4
 replace hH : Hp _ _ _ (o_32 v_l x1 :: L) := hH3
 refine V_end (fun a ha18 => ?_)
 obtain rfl := Oi hm
 try simp only [↓ib, ↓th]
 exact normQ (retQ rfl (Res.zero results18) ⟨A, rfl, hH, hK⟩ a ha18)
theorem route_Assign_c (w : World) {A : Nat → Prop} (hA : ∀ b, w.heap.size ≤ b → A b) (people : (List route_Person)) (v_people : Value) (h_people : Sl A w v_people people) (cals : (List cal_Calendar)) (v_cals : Value) (h_cals : Sl A w v_cals cals) (held : (List route_Held)) (v_held : Value) (h_held : Sl A w v_held held) (waiting : (List route_Work)) (v_waiting : Value) (h_waiting : Sl A w v_waiting waiting) (steps : (List route_Step)) (v_steps : Value) (h_steps : Sl A w v_steps steps) (m : Int) {r : ((List route_Held) × (List route_Work) × Int)} (hm : route_Assign people cals held waiting steps m = some r) : Ret prog 4 #[v_people, v_cals, v_held, v_waiting, v_steps, Ii m] w fun v w' => ∃ s0 s1, v = .tuple #[s0, s1, Ii r.2.2] ∧ Sl A w' s0 r.1 ∧ Sl A w' s1 r.2.1 ∧ Kp Dw w w' := by
 unfold route_Assign at hm
 refine enter func4 rfl ntmps4 rfl ?_
 have hA0 := hA
 obtain ⟨hB, hK, hH⟩ := St (Dw := Dw) hA
 refine Sr (As (As (As (To ?_))))
 refine C_seq (Sr (Mm (Mm ?_)))
 obtain ⟨x11, hx11, hm⟩ := Bs hm
 refine Vc call9 (route_checkCals_c (Dw := Dw) w hA people v_people h_people cals v_cals h_cals hx11) ?_
 rintro _ w12 ⟨rfl, hk13⟩
 have ht14 := Kp.tr hk13 hA hB; replace hH := Hp.kp hH hk13; replace h_people := Sl.tr h_people ht14; replace h_cals := Sl.tr h_cals ht14; replace h_held := Sl.tr h_held ht14; replace h_waiting := Sl.tr h_waiting ht14; replace h_steps := Sl.tr h_steps ht14; replace hK := Tt hK ht14; replace hB := Bx hB ht14; replace hA := ht14.new
 refine Mm (Mm ?_)
 obtain ⟨x15, hx15, hm⟩ := Bs hm
 refine Vc call10 (route_checkHeld_c (Dw := Dw) w12 hA people v_people h_people held v_held h_held hx15) ?_
 rintro _ w17 ⟨rfl, hk18⟩
 have ht19 := Kp.tr hk18 hA hB; replace hH := Hp.kp hH hk18; replace h_people := Sl.tr h_people ht19; replace h_cals := Sl.tr h_cals ht19; replace h_held := Sl.tr h_held ht19; replace h_waiting := Sl.tr h_waiting ht19; replace h_steps := Sl.tr h_steps ht19; replace hK := Tt hK ht19; replace hB := Bx hB ht19; replace hA := ht19.new
 refine Mm ?_
 obtain ⟨x20, hx20, hm⟩ := Bs hm
 refine Vc call11 (route_CheckWork_c (Dw := Dw) w17 hA waiting v_waiting h_waiting hx20) ?_
 rintro _ w21 ⟨rfl, hk22⟩
 have ht23 := Kp.tr hk22 hA hB; replace hH := Hp.kp hH hk22; replace h_people := Sl.tr h_people ht23; replace h_cals := Sl.tr h_cals ht23; replace h_held := Sl.tr h_held ht23; replace h_waiting := Sl.tr h_waiting ht23; replace h_steps := Sl.tr h_steps ht23; replace hK := Tt hK ht23; replace hB := Bx hB ht23; replace hA := ht23.new
 refine Mm ?_
 obtain ⟨x24, hx24, hm⟩ := Bs hm
 refine Vc call12 (route_CheckSteps_c (Dw := Dw) w21 hA steps v_steps h_steps hx24) ?_
 rintro _ w25 ⟨rfl, hk26⟩
 have ht27 := Kp.tr hk26 hA hB; replace hH := Hp.kp hH hk26; replace h_people := Sl.tr h_people ht27; replace h_cals := Sl.tr h_cals ht27; replace h_held := Sl.tr h_held ht27; replace h_waiting := Sl.tr h_waiting ht27; replace h_steps := Sl.tr h_steps ht27; replace hK := Tt hK ht27; replace hB := Bx hB ht27; replace hA := ht27.new
 refine Mm ?_
 refine Vc call13 (route_moment_c w25 m) ?_
 rintro _ _ ⟨rfl, rfl⟩
 refine V_buildSlice (Dw := Dw) (cells := #[Ii x11, Ii x15, Ii x20, Ii x24, Ii (route_moment m)]) (l := ([x11, x15, x20, x24, (route_moment m)] : List Int)) (len := 5) underlying166 sizeOf27 zeroValue27 rfl (by generalize ((route_moment m) : Int) = z32; kernel_rfl) (show (5 * 1 : Nat) ≠ 0 by decide) (show (5 * 1 : Nat) ≤ 2 ^ 24 by decide) hA ⟨[Ii x11], _, rfl, rfl, ⟨[Ii x15], _, rfl, rfl, ⟨[Ii x20], _, rfl, rfl, ⟨[Ii x24], _, rfl, rfl, ⟨[Ii (route_moment m)], _, rfl, rfl, rfl⟩⟩⟩⟩⟩ rfl rfl ?_
 intro v28 w29 hk31 h30
 have ht33 := Kp.tr hk31 hA hB; replace hH := Hp.kp hH hk31; replace h_people := Sl.tr h_people ht33; replace h_cals := Sl.tr h_cals ht33; replace h_held := Sl.tr h_held ht33; replace h_waiting := Sl.tr h_waiting ht33; replace h_steps := Sl.tr h_steps ht33; replace hK := Tt hK ht33; replace hB := Bx hB ht33; replace hA := ht33.new
 obtain ⟨x34, hx34, hm⟩ := Bs hm
 refine Vc call8 (cmp_Or_api_Errno_c w29 ([x11, x15, x20, x24, (route_moment m)] : List Int) v28 h30 hx34) ?_
 rintro _ _ ⟨rfl, rfl⟩
 refine As (To ?_)
 refine Sr (Mm (Vy (Y_neq rfl rfl) (To ?_)))
 refine Cc (fun hc35 => ?_) fun hc35 => ?_
 ·rw [if_pos hc35] at hm
  refine Sr (Mm (As (As (As (To ?_)))))
  obtain rfl := Oi hm
  refine Rt (Res.three results4 rfl rfl rfl) ?_
  exact ⟨.slice none 0 0, .slice none 0 0, rfl, Sl.nil, Sl.nil, hK.kp⟩
 rw [if_neg (nt hc35)] at hm
 refine Sk ?_
 refine C_seq (Sr (Mm (Vy (Y_lenSl h_waiting rfl underlying25 rfl) (Mm (To ?_)))))
 have hn56 := Sl.le h_waiting
 obtain ⟨o36, ho36, hm⟩ := Bs hm
 refine C_cutG (ι := (Unit × (Nat → Prop))) (fun ⟨s37, A43⟩ => [(0, v_people), (1, v_cals), (2, v_held), (3, v_waiting), (4, v_steps), (5, Ii m)]) (fun ⟨s37, A43⟩ => fun w' => o36 = .fin s37 ∧ Hp w.heap.size A43 w' ([]) ∧ Tr Dw w.heap.size A w29 A43 w') ?_ ?_
 ·refine C_block ?_
  refine C_range ho36 (fun k39 _ a w' => ∃ i : (Nat → Prop), Has ⟨73, [], none⟩ a ([(0, v_people), (1, v_cals), (2, v_held), (3, v_waiting), (4, v_steps), (5, Ii m), (39, v_waiting), (40, Ii (waiting.length : Int)), (41, Ii (k39 : Int))]) ∧ Hp w.heap.size i w' ([]) ∧ Tr Dw w.heap.size A w29 i w') (fun a ha => ⟨A, ha.sb, ⟨hH, Tr.refl (Dw := Dw) hA⟩⟩) ?_
  rintro K k39 _ a w46 ⟨A47, ha92, hH48, hr38⟩ hle52 K55 h54
  refine C_of ?_ ha92
  replace h_held := Sl.tr h_held hr38; replace h_waiting := Sl.tr h_waiting hr38; replace hK := Tt hK hr38; replace hB := Bx hB hr38; replace hA := hr38.new; replace hH := hH48
  refine Sr (Vy (Y_lss rfl rfl) (To ?_))
  refine C_seq ?_
  refine Cc (fun hc57 => ?_) fun hc57 => ?_
  ·have hlt53 := lt_of_dec hc57
   obtain ⟨x49, h50, h51⟩ := K55 hlt53
   refine Sk ?_
   refine C_seq (C_block (Sr ?_))
   obtain ⟨x58, hx58, h50⟩ := Bs h50
   refine V_indexAddr h_waiting hx58 underlying25 sizeOf43 rfl rfl rfl ?_
   intro b59 o60 h61
   obtain ⟨v62, h64, h63⟩ := El_route_Work h61
   refine Vy (Y_loadA h64 isAgg43 sizeOf43 rfl) ?_
   refine V_alloc zeroValue43 rfl ?_
   intro b65 w66 h67
   have h72 : (v62).oneCell' = true := by obtain ⟨_, _, e, _⟩ := Sl.form h63; rw [e]; rfl
   refine Sn h67 sizeOf43 ?_
   intro w68 h69
   have hk74 := h69.kp (Dw := Dw)
   have h73 : El (α := route_Work) A47 w68 b65 0 x58 := h69.el hA ⟨[Ii x58.ticket], _, rfl, rfl, ⟨[Ii x58.weight], _, rfl, rfl, ⟨[Ii x58.urgency], _, rfl, rfl, ⟨[Ii x58.since], _, rfl, rfl, ⟨[Ii x58.former], _, rfl, rfl, ⟨_, rfl, h63⟩⟩⟩⟩⟩⟩
   have ht75 := Kp.tr hk74 hA hB; replace hH := Hp.kp hH hk74; replace h_held := Sl.tr h_held ht75; replace hK := Tt hK ht75; replace hr38 := Tt hr38 ht75; replace hB := Bx hB ht75; replace hA := ht75.new
   refine To ?_
   refine Sr (Mm (Vy (Y_makeFunc rfl rfl) ?_))
   obtain ⟨x77, hx77, h50⟩ := Bs h50
   refine Vc call14 (slices_ContainsFunc_Lroute_Held_route_Held_c (Dw := Dw) w68 hA held v_held h_held (fun y85 => route_Assign_1 y85 x58) 15 #[] #[Pt b65] call15 (fun w81 A82 ht83 h84 y78 r79 h80 => (route_Assign_1_c (Dw := Dw) w81 h84 y78 x58 b65 (El.tr h73 ht83) h80).mono (fun _ _ h => ⟨h.1, h.2⟩)) hx77) ?_
   rintro _ w86 ⟨rfl, hk87⟩
   have ht88 := Kp.tr hk87 hA hB; replace hH := Hp.kp hH hk87; replace hK := Tt hK ht88; replace hr38 := Tt hr38 ht88
   refine To ?_
   refine Cc (fun hc89 => ?_) fun hc89 => ?_
   ·rw [if_pos hc89] at h50
    refine Sr (As (As (As (To ?_))))
    obtain rfl := Oi h50
    obtain rfl := (h51 : Lp.rt _ = _)
    rw [Lp.andThen_rt] at hm
    obtain rfl := Oi hm
    refine Rt (Res.three results4 rfl rfl rfl) ?_
    exact ⟨.slice none 0 0, .slice none 0 0, rfl, Sl.nil, Sl.nil, hK.kp⟩
   rw [if_neg (nt hc89)] at h50
   refine Sk ?_
   refine C_region (Vy (Y_addI rfl rfl) (Mm ?_))
   obtain rfl := Oi h50
   refine V_end (fun a ha90 => ?_)
   exact ⟨(), hlt53, h51, ⟨A47, ha90.sub ⟨rfl, rfl, rfl, rfl, rfl, rfl, rfl, rfl, Ws hlt53 hn56, trivial⟩, ⟨hH, hr38⟩⟩⟩
  refine C_exit (fun a ha91 => ?_)
  exact ⟨((), A47), ha91.sb, ⟨(h54 (eq_of_dec hle52 hc57)).symm, hH, hr38⟩⟩
 rintro ⟨s37, A43⟩ w40 ⟨rfl, hH44, hk41⟩ a ha42
 rw [Lp.andThen_fin] at hm
 replace h_people := Sl.tr h_people hk41; replace h_cals := Sl.tr h_cals hk41; replace h_held := Sl.tr h_held hk41; replace h_waiting := Sl.tr h_waiting hk41; replace h_steps := Sl.tr h_steps hk41; replace hK := Tr.trans hK hk41; replace hB := Nat.le_trans hB hk41.ex.size; replace hA := hk41.new; replace hH := hH44
 refine C_at (n := ⟨73, [], none⟩) (fun _ _ => rfl) ?_ ha42
 refine Sr (Mm (Mm (Mm (Mm (Vy (Y_lenSl h_people rfl underlying22 rfl) ?_)))))
 obtain ⟨x93, hx93, hm⟩ := Bs hm
 refine V_makeH (Dw := Dw) (e := 4) (ti := t4) hH hx93 (fun _ _ => rfl) underlying47 Tryz_info4 rfl rfl rfl (by decide) (by decide) hB hA rfl rfl rfl ?_
 intro v94 w95 A96 hH97 ht98
 replace h_people := Sl.tr h_people ht98; replace h_cals := Sl.tr h_cals ht98; replace h_held := Sl.tr h_held ht98; replace h_waiting := Sl.tr h_waiting ht98; replace h_steps := Sl.tr h_steps ht98; replace hK := Tt hK ht98; replace hB := Bx hB ht98; replace hA := ht98.new
 replace hH : Hp _ _ _ (o_4 v94 x93 :: []) := hH97
 refine Vy (Y_build (cells := #[v_people, v_cals, v_steps, v94]) underlying49 zeroValue49 (Tryz_places49 _ underlying49) rfl (by obtain ⟨a99, c100, e101, _⟩ := Sl.form h_people; subst e101; obtain ⟨a102, c103, e104, _⟩ := Sl.form h_cals; subst e104; obtain ⟨a105, c106, e107, _⟩ := Sl.form h_steps; subst e107; obtain ⟨a108, c109, e110, _⟩ := Sl.form (Hp.any (α := Bool) (e := 4) (v := v94) (l := x93) hH (i := 0) rfl); subst e110; with_unfolding_all rfl)) ?_
 obtain ⟨A111, ht112, h113, hH114⟩ := Hp.freeze (Dw := Dw) (α := Bool) (v := v94) (l := x93) hH (i := 0) rfl hA
 replace h_people := Sl.tr h_people ht112; replace h_cals := Sl.tr h_cals ht112; replace h_held := Sl.tr h_held ht112; replace h_waiting := Sl.tr h_waiting ht112; replace h_steps := Sl.tr h_steps ht112; replace hK := Tt hK ht112; replace hB := Bx hB ht112; replace hA := ht112.new; replace hH := hH114
 refine V_box rfl rfl ?_
 intro b116 w117 h118
 have hk120 := h118.kp (Dw := Dw)
 have h119 : El (α := route_assigner) A111 w117 b116 0 (⟨people, cals, steps, x93⟩ : route_assigner) := h118.el hA ⟨[v_people], _, rfl, ⟨_, rfl, h_people⟩, ⟨[v_cals], _, rfl, ⟨_, rfl, h_cals⟩, ⟨[v_steps], _, rfl, ⟨_, rfl, h_steps⟩, ⟨_, rfl, h113⟩⟩⟩⟩
 have ht121 := Kp.tr hk120 hA hB; replace hH := Hp.kp hH hk120; replace h_held := Sl.tr h_held ht121; replace h_waiting := Sl.tr h_waiting ht121; replace hK := Tt hK ht121; replace hB := Bx hB ht121; replace hA := ht121.new
 refine As (To ?_)
 refine Sr (Mm (Mm (Mm (Mm ?_))))
 obtain ⟨x122, hx122, hm⟩ := Bs hm
 refine Vc call16 (route_assigner_assign_c (Dw := Dw) w117 hB hA (⟨people, cals, steps, x93⟩ : route_assigner) b116 h119 held v_held h_held waiting v_waiting h_waiting m hH hx122) ?_
 rintro _ w127 ⟨v123, v125, A128, rfl, hH129, ht130⟩
 replace h_held := Sl.tr h_held ht130; replace hK := Tt hK ht130; replace hB := Bx hB ht130; replace hA := ht130.new
 replace hH : Hp _ _ _ (o_32 v123 x122.1 :: o_43 v125 x122.2 :: []) := hH129
 refine Mm (Vy (Y_extract rfl rfl) (Vy (Y_extract rfl rfl) (As (As (To ?_)))))
 refine Sr (Mm (Mm ?_))
 obtain ⟨A131, ht132, h133, hH134⟩ := Hp.freeze (Dw := Dw) (α := route_Held) (v := v123) (l := x122.1) hH (i := 0) rfl hA
 replace h_held := Sl.tr h_held ht132; replace hK := Tt hK ht132; replace hB := Bx hB ht132; replace hA := ht132.new
 replace hH : Hp _ _ _ (o_43 v125 x122.2 :: []) := hH134
 refine V_buildSlice (Dw := Dw) (cells := #[v_held, v123]) (l := ([held, x122.1] : List (List route_Held))) (len := 2) underlying183 sizeOf24 zeroValue24 rfl (by obtain ⟨a140, c141, e142, _⟩ := Sl.form h_held; subst e142; obtain ⟨a143, c144, e145, _⟩ := Sl.form h133; subst e145; kernel_rfl) (show (2 * 1 : Nat) ≠ 0 by decide) (show (2 * 1 : Nat) ≤ 2 ^ 24 by decide) hA ⟨[v_held], _, rfl, ⟨_, rfl, h_held⟩, ⟨[v123], _, rfl, ⟨_, rfl, h133⟩, rfl⟩⟩ rfl rfl ?_
 intro v136 w137 hk139 h138
 have ht146 := Kp.tr hk139 hA hB; replace hH := Hp.kp hH hk139; replace hK := Tt hK ht146; replace hB := Bx hB ht146; replace hA := ht146.new
 obtain ⟨x147, hx147, hm⟩ := Bs hm
 refine Vc call17 (slices_Concat_Lroute_Held_route_Held_c (Dw := Dw) w137 hA ([held, x122.1] : List (List route_Held)) v136 h138 hx147) ?_
 rintro v148 w150 ⟨_, rfl, h149, hk151⟩
 obtain ⟨A152, ht153, hH154⟩ := Hp.addOwnd (Dw := Dw) hH hB hA hk151 h149
 replace hK := Tt hK ht153; replace hB := Bx hB ht153; replace hA := ht153.new
 replace hH : Hp _ _ _ (o_32 v148 x147 :: o_43 v125 x122.2 :: []) := hH154
 refine As (To ?_)
 refine Sr (Mm ?_)
 obtain ⟨x155, hx155, hm⟩ := Bs hm
 refine Vc call18 (route_byTicket_c (Dw := Dw) w150 hB hA x147 v148 hH hx155) ?_
 rintro _ w156 ⟨A157, rfl, hH158, ht159⟩
 replace hK := Tt hK ht159; replace hA := ht159.new
 replace hH : Hp _ _ _ (o_32 v148 x155 :: o_43 v125 x122.2 :: []) := hH158
 refine To ?_
 refine Sr (Mm (Mm (As (As (As (To ?_))))))
 obtain rfl := Oi hm
 obtain ⟨A160, ht161, h162, hH163⟩ := Hp.freeze (Dw := Dw) (α := route_Held) (v := v148) (l := x155) hH (i := 0) rfl hA
 replace hK := Tt hK ht161; replace hA := ht161.new
 replace hH : Hp _ _ _ (o_43 v125 x122.2 :: []) := hH163
 obtain ⟨A165, ht166, h167, hH168⟩ := Hp.freeze (Dw := Dw) (α := route_Work) (v := v125) (l := x122.2) hH (i := 0) rfl hA
 replace h162 := Sl.tr h162 ht166; replace hK := Tt hK ht166; replace hH := hH168
 refine Rt (Res.three results4 rfl rfl rfl) ?_
 exact ⟨v148, v125, rfl, (Sl.out (Dw := Dw) h162 hA0 hK), (Sl.out (Dw := Dw) h167 hA0 hK), hK.kp⟩
def Tryz_strings_Trim_lay_ren : Go.Shelf.Ren := ⟨fun | 119 => 188 | 120 => 186 | 137 => 187 | 151 => 178 | 152 => 185 | 160 => 137 | 197 => 177 | 217 => 191 | 224 => 189 | 225 => 190 | 227 => 159 | 228 => 176 | 231 => 157 | 232 => 158 | 233 => 160 | 234 => 161 | 235 => 162 | 236 => 163 | 260 => 184 | 266 => 192 | 271 => 179 | n => n, fun | 0 => 0 | 1 => 1 | 2 => 2 | 3 => 3 | 4 => 4 | 5 => 5 | 6 => 6 | 7 => 7 | 8 => 8 | 9 => 9 | 10 => 10 | 11 => 11 | 12 => 12 | 13 => 13 | 14 => 14 | 15 => 15 | 16 => 16 | 17 => 17 | 18 => 18 | 19 => 19 | 20 => 20 | 21 => 21 | 23 => 246 | 27 => 302 | 28 => 98 | 31 => 93 | 34 => 103 | 40 => 300 | 41 => 286 | 43 => 186 | 46 => 224 | 47 => 223 | 51 => 243 | 52 => 242 | 53 => 245 | 54 => 244 | 55 => 299 | 63 => 289 | 64 => 294 | 80 => 303 | 81 => 309 | 101 => 96 | 104 => 213 | 105 => 287 | 106 => 288 | 111 => 54 | 114 => 301 | 115 => 268 | 116 => 269 | 117 => 270 | 118 => 271 | 119 => 295 | 122 => 267 | 123 => 272 | 124 => 273 | 127 => 313 | 131 => 240 | 137 => 296 | 138 => 297 | 139 => 298 | 164 => 322 | 182 => 235 | 183 => 236 | 218 => 261 | 219 => 262 | 220 => 263 | 222 => 265 | 228 => 284 | 229 => 202 | 238 => 304 | 239 => 305 | 240 => 306 | 241 => 307 | 242 => 308 | 243 => 310 | 244 => 311 | 245 => 312 | 246 => 314 | 247 => 315 | 248 => 316 | 249 => 317 | n => n, fun | 1 => 2 | 3 => 0 | 4 => 1 | n => n⟩
theorem Tryz_strings_Trim_lay : Go.Proofs.Lays.n160 Tryz.prog Tryz_strings_Trim_lay_ren := {
  mixed := by kernel_rfl,
  f119 := Tryz.func188.trans (congrArg some (by kernel_rfl)),
  f120 := Tryz.func186.trans (congrArg some (by kernel_rfl)),
  f137 := Tryz.func187.trans (congrArg some (by kernel_rfl)),
  f151 := Tryz.func178.trans (congrArg some (by kernel_rfl)),
  f152 := Tryz.func185.trans (congrArg some (by kernel_rfl)),
  f160 := Tryz.func137.trans (congrArg some (by kernel_rfl)),
  f197 := Tryz.func177.trans (congrArg some (by kernel_rfl)),
  f217 := Tryz.func191.trans (congrArg some (by kernel_rfl)),
  f224 := Tryz.func189.trans (congrArg some (by kernel_rfl)),
  f225 := Tryz.func190.trans (congrArg some (by kernel_rfl)),
  f227 := Tryz.func159.trans (congrArg some (by kernel_rfl)),
  f228 := Tryz.func176.trans (congrArg some (by kernel_rfl)),
  f231 := Tryz.func157.trans (congrArg some (by kernel_rfl)),
  f232 := Tryz.func158.trans (congrArg some (by kernel_rfl)),
  f233 := Tryz.func160.trans (congrArg some (by kernel_rfl)),
  f234 := Tryz.func161.trans (congrArg some (by kernel_rfl)),
  f235 := Tryz.func162.trans (congrArg some (by kernel_rfl)),
  f236 := Tryz.func163.trans (congrArg some (by kernel_rfl)),
  f260 := Tryz.func184.trans (congrArg some (by kernel_rfl)),
  f266 := Tryz.func192.trans (congrArg some (by kernel_rfl)),
  f271 := Tryz.func179.trans (congrArg some (by kernel_rfl)),
  t0 := Tryz.underlying0,
  a0 := Tryz.isAgg0,
  z0 := Tryz.sizeOf0,
  v0 := Tryz.zeroValue0,
  t3 := Tryz.underlying3,
  a3 := Tryz.isAgg3,
  z3 := Tryz.sizeOf3,
  v3 := Tryz.zeroValue3,
  t4 := Tryz.underlying4,
  a4 := Tryz.isAgg4,
  z4 := Tryz.sizeOf4,
  v4 := Tryz.zeroValue4,
  t5 := Tryz.underlying5,
  a5 := Tryz.isAgg5,
  z5 := Tryz.sizeOf5,
  v5 := Tryz.zeroValue5,
  t9 := Tryz.underlying9,
  a9 := Tryz.isAgg9,
  z9 := Tryz.sizeOf9,
  v9 := Tryz.zeroValue9,
  t21 := Tryz.underlying21,
  a21 := Tryz.isAgg21,
  z21 := Tryz.sizeOf21,
  v21 := Tryz.zeroValue21,
  t46 := Tryz.underlying224,
  a46 := Tryz.isAgg224,
  z46 := Tryz.sizeOf224,
  v46 := Tryz.zeroValue224,
  t105 := Tryz.underlying287,
  a105 := Tryz.isAgg287,
  z105 := Tryz.sizeOf287,
  v105 := Tryz.zeroValue287,
  t116 := Tryz.underlying269,
  a116 := Tryz.isAgg269,
  z116 := Tryz.sizeOf269,
  t117 := Tryz.underlying270,
  a117 := Tryz.isAgg270,
  z117 := Tryz.sizeOf270,
  v117 := Tryz.zeroValue270,
  t119 := Tryz.underlying295,
  a119 := Tryz.isAgg295,
  z119 := Tryz.sizeOf295,
  t124 := Tryz.underlying273,
  a124 := Tryz.isAgg273,
  z124 := Tryz.sizeOf273,
  v124 := Tryz.zeroValue273,
  t138 := Tryz.underlying297,
  a138 := Tryz.isAgg297,
  z138 := Tryz.sizeOf297,
  v138 := Tryz.zeroValue297,
  t139 := Tryz.underlying298,
  a139 := Tryz.isAgg298,
  z139 := Tryz.sizeOf298,
  v139 := Tryz.zeroValue298,
  g3 := by kernel_rfl,
  g4 := by kernel_rfl }
theorem strings_Trim_c (w : World) {A : Nat → Prop} (hA : ∀ b, w.heap.size ≤ b → A b) (s : ByteArray) (cutset : ByteArray) {r : ByteArray} (hm : strings_Trim s cutset = some r) : Ret Tryz.prog 137 #[.string s, .string cutset] w fun v w' => v = .string r ∧ Kp False w w' := by
  unfold strings_Trim at hm
  split at hm
  case isFalse => cases hm
  rename_i h
  obtain rfl := Option.some.inj hm
  refine Calls.mono (Go.Proofs.Any.strings_Trim_laid Tryz_strings_Trim_lay (by kernel_rfl) s cutset w h.1 h.2.1 (Go.Proofs.ascii_of_all h.2.2)) ?_
  rintro _ w' ⟨rfl, hk⟩
  exact ⟨_, rfl, rfl, .of hk⟩
theorem portref2_IsName_c (w : World) {A : Nat → Prop} (hA : ∀ b, w.heap.size ≤ b → A b) (s : ByteArray) {r : Bool} (hm : portref2_IsName s = some r) : Ret prog 114 #[.string s] w fun v w' => v = .bool r ∧ Kp False w w' := by
 unfold portref2_IsName at hm
 refine enter func114 rfl ntmps114 rfl ?_
 have hA0 := hA
 obtain ⟨hB, hK, hH⟩ := St (Dw := False) hA
 refine Sr (As (To ?_))
 refine C_seq ?_
 obtain ⟨s2, ho1, hm⟩ := Bs hm
 refine C_cutG (ι := (Nat → Prop)) (fun (A7 : (Nat → Prop)) => [(2, .bool s2)]) (fun (A7 : (Nat → Prop)) => fun w' => Hp w.heap.size A7 w' ([]) ∧ Tr False w.heap.size A w A7 w') ?_ ?_
 ·have hr3 : Tr False w.heap.size A w A w := Tr.refl (Dw := False) hA
  refine C_region (Mm (Vy (Y_lenStr rfl underlying9 rfl) (Vy (Y_geq rfl rfl) (Mm ?_))))
  rcases Be (decide ((1 : Int) ≤ (s.size : Int))) with hc9 | hc9
  ·rw [if_pos hc9] at ho1
   refine Gf hc9 (Mm (Gf hc9 (Vy (Y_lenStr rfl underlying9 rfl) (Gf hc9 (Vy (Y_leq rfl rfl) (Vy (Y_pick_te rfl hc9 rfl) (Mm ?_)))))))
   rcases Be (decide ((s.size : Int) ≤ 20)) with hc10 | hc10
   ·rw [if_pos hc10] at ho1
    refine Gf hc10 (Mm (Gf hc10 ?_))
    obtain ⟨x11, hx11, ho1⟩ := Bs ho1
    refine Vc call137 (strings_Trim_c w hA s (⟨#[97, 98, 99, 100, 101, 102, 103, 104, 105, 106, 107, 108, 109, 110, 111, 112, 113, 114, 115, 116, 117, 118, 119, 120, 121, 122, 48, 49, 50, 51, 52, 53, 54, 55, 56, 57, 95]⟩ : ByteArray) hx11) ?_
    rintro _ w12 ⟨rfl, hk13⟩
    have ht14 := Kp.tr hk13 hA hB; replace hH := Hp.kp hH hk13; replace hr3 := Tt hr3 ht14
    refine Gf hc10 (Vy (Y_seql rfl rfl) (Vy (Y_pick_te rfl hc10 rfl) (As ?_)))
    obtain rfl := Oi ho1
    refine V_end (fun a ha15 => ?_)
    exact ⟨A, ha15.sb, ⟨hH, hr3⟩⟩
   rw [if_neg (nt hc10)] at ho1
   refine Gm hc10 (Gm hc10 (Gm hc10 (Vy (Y_pick_fe rfl hc10 rfl) (As ?_))))
   obtain rfl := Oi ho1
   refine V_end (fun a ha16 => ?_)
   exact ⟨A, ha16.sb, ⟨hH, hr3⟩⟩
  rw [if_neg (nt hc9)] at ho1
  refine Gm hc9 (Gm hc9 (Gm hc9 (Vy (Y_pick_fe rfl hc9 rfl) (Mm ?_))))
  rcases Be (false) with hc17 | hc17
  ·rw [if_pos hc17] at ho1
   refine Gf hc17 (Mm (Gf hc17 ?_))
   obtain ⟨x18, hx18, ho1⟩ := Bs ho1
   refine Vc call137 (strings_Trim_c w hA s (⟨#[97, 98, 99, 100, 101, 102, 103, 104, 105, 106, 107, 108, 109, 110, 111, 112, 113, 114, 115, 116, 117, 118, 119, 120, 121, 122, 48, 49, 50, 51, 52, 53, 54, 55, 56, 57, 95]⟩ : ByteArray) hx18) ?_
   rintro _ w19 ⟨rfl, hk20⟩
   have ht21 := Kp.tr hk20 hA hB; replace hH := Hp.kp hH hk20; replace hr3 := Tt hr3 ht21
   refine Gf hc17 (Vy (Y_seql rfl rfl) (Vy (Y_pick_te rfl hc17 rfl) (As ?_)))
   obtain rfl := Oi ho1
   refine V_end (fun a ha22 => ?_)
   exact ⟨A, ha22.sb, ⟨hH, hr3⟩⟩
  rw [if_neg (nt hc17)] at ho1
  refine Gm hc17 (Gm hc17 (Gm hc17 (Vy (Y_pick_fe rfl hc17 rfl) (As ?_))))
  obtain rfl := Oi ho1
  refine V_end (fun a ha23 => ?_)
  exact ⟨A, ha23.sb, ⟨hH, hr3⟩⟩
 rintro A7 w4 ⟨hH8, hk5⟩ a ha6
 replace hK := Tr.trans hK hk5; replace hA := hk5.new; replace hH := hH8
 refine C_at (n := ⟨16, [], none⟩) (fun _ _ => rfl) ?_ ha6
 obtain rfl := Oi hm
 refine Rt (Res.one results114 rfl) ?_
 exact ⟨rfl, hK.kp⟩
theorem portref2_skillsFault_c (w : World) {A : Nat → Prop} (hA : ∀ b, w.heap.size ≤ b → A b) (l : (List route_Skill)) (v_l : Value) (h_l : Sl A w v_l l) {r : Int} (hm : portref2_skillsFault l = some r) : Ret prog 82 #[v_l] w fun v w' => v = Ii r ∧ Kp False w w' := by
 unfold portref2_skillsFault at hm
 refine enter func82 rfl ntmps82 rfl ?_
 have hA0 := hA
 obtain ⟨hB, hK, hH⟩ := St (Dw := False) hA
 refine Sr (As (To ?_))
 refine C_seq (Sr (Mm (Vy (Y_lenSl h_l rfl underlying41 rfl) (Vy (Y_gtr rfl rfl) (To ?_)))))
 refine Cc (fun hc3 => ?_) fun hc3 => ?_
 ·rw [if_pos hc3] at hm
  refine Sr (As (To ?_))
  obtain rfl := Oi hm
  refine Rt (Res.one results82 rfl) ?_
  exact ⟨rfl, hK.kp⟩
 rw [if_neg (nt hc3)] at hm
 refine Sk ?_
 refine C_seq (Sr (Mm (Vy (Y_lenSl h_l rfl underlying41 rfl) (Mm (To ?_)))))
 have hn25 := Sl.le h_l
 obtain ⟨o4, ho4, hm⟩ := Bs hm
 refine C_cutG (ι := (Unit × (Nat → Prop))) (fun ⟨s5, A12⟩ => []) (fun ⟨s5, A12⟩ => fun w' => o4 = .fin s5 ∧ Hp w.heap.size A12 w' ([]) ∧ Tr False w.heap.size A w A12 w') ?_ ?_
 ·refine C_block ?_
  refine C_range ho4 (fun k7 _ a w' => ∃ i : (Nat → Prop), Has ⟨44, [], none⟩ a ([(0, v_l), (8, v_l), (9, Ii (l.length : Int)), (10, Ii (k7 : Int))]) ∧ Hp w.heap.size i w' ([]) ∧ Tr False w.heap.size A w i w') (fun a ha => ⟨A, ha.sb, ⟨hH, Tr.refl (Dw := False) hA⟩⟩) ?_
  rintro K k7 _ a w15 ⟨A16, ha65, hH17, hr6⟩ hle21 K24 h23
  refine C_of ?_ ha65
  replace h_l := Sl.tr h_l hr6; replace hK := Tt hK hr6; replace hB := Bx hB hr6; replace hA := hr6.new; replace hH := hH17
  refine Sr (Vy (Y_lss rfl rfl) (To ?_))
  refine C_seq ?_
  refine Cc (fun hc26 => ?_) fun hc26 => ?_
  ·have hlt22 := lt_of_dec hc26
   obtain ⟨x18, h19, h20⟩ := K24 hlt22
   refine Sk ?_
   refine C_seq (C_block (Sr (Mm ?_)))
   obtain ⟨x27, hx27, h19⟩ := Bs h19
   refine V_indexAddr h_l hx27 underlying41 sizeOf127 rfl rfl rfl ?_
   intro b28 o29 h30
   obtain ⟨h31, _⟩ := El_route_Skill h30
   refine Vy (Y_loadA h31 isAgg127 sizeOf127 rfl) ?_
   refine V_alloc zeroValue127 rfl ?_
   intro b32 w33 h34
   refine As ?_
   refine Sn h34 sizeOf127 ?_
   intro w35 h36
   have hk38 := h36.kp (Dw := False)
   have h37 : El (α := route_Skill) A16 w35 b32 0 x27 := h36.el hA ⟨[.string x27.name], _, rfl, rfl, rfl⟩
   have ht39 := Kp.tr hk38 hA hB; replace hH := Hp.kp hH hk38; replace h_l := Sl.tr h_l ht39; replace hK := Tt hK ht39; replace hr6 := Tt hr6 ht39; replace hB := Bx hB ht39; replace hA := ht39.new
   refine To ?_
   refine C_block (Sr ?_)
   have h40 := El_route_Skill_0 h37
   refine Fa underlying127 rfl sizeOf9 (Ld (El.str h40) isAgg9 ?_)
   obtain ⟨x41, hx41, h19⟩ := Bs h19
   refine Vc call114 (portref2_IsName_c w35 hA x27.name hx41) ?_
   rintro _ w42 ⟨rfl, hk43⟩
   have ht44 := Kp.tr hk43 hA hB; replace hH := Hp.kp hH hk43; replace h_l := Sl.tr h_l ht44; replace h37 := El.tr h37 ht44; replace hK := Tt hK ht44; replace hr6 := Tt hr6 ht44; replace hB := Bx hB ht44; replace hA := ht44.new
   refine Vy (Y_not rfl) (As (To ?_))
   refine Cc (fun hc45 => ?_) fun hc45 => ?_
   ·rw [if_pos hc45] at h19
    refine Sr (As (To ?_))
    obtain rfl := Oi h19
    obtain rfl := (h20 : Lp.rt _ = _)
    rw [Lp.andThen_rt] at hm
    obtain rfl := Oi hm
    refine Rt (Res.one results82 rfl) ?_
    exact ⟨rfl, hK.kp⟩
   rw [if_neg (nt hc45)] at h19
   refine C_seq ?_
   refine C_region_q (Dw := False) Tryz_mixed (by kernel_rfl) ?_
   refine Qm (Qv (fun w' hw' => Y_gtr rfl rfl) (Qm ?_))
   obtain ⟨s47, hs47, h19⟩ := Bs h19
   refine VQ_cut 10 (fun _ : Unit => [(0, v_l), (4, Pt b32), (8, v_l), (9, Ii (l.length : Int)), (10, Ii (k7 : Int)), (33, .bool s47)]) (fun _ => True) ?_ ?_
   ·simp only [List.take, List.drop]
    rcases Be (decide ((0 : Int) < (k7 : Int))) with hc46 | hc46
    ·rw [if_pos hc46] at hs47
     refine Qh hc46 ?_
     have h48 := El_route_Skill_0 h37
     refine Qf underlying127 rfl sizeOf9 (Qh hc46 (Ql (fun w' hw' => (El.str (El.kp h48 hw'))) isAgg9 (Qh hc46 (Qm (Qh hc46 (Qm (Qh hc46 (Qv (fun w' hw' => Y_subI rfl rfl) (Qh hc46 ?_)))))))))
     obtain ⟨x49, hx49, hs47⟩ := Bs hs47
     refine VQ_indexAddr h_l hx49 underlying41 sizeOf127 rfl rfl rfl ?_
     intro b50 o51 h52
     refine Qh hc46 ?_
     have h53 := El_route_Skill_0 h52
     refine Qf underlying127 rfl sizeOf9 (Qh hc46 (Ql (fun w' hw' => (El.str (El.kp h53 hw'))) isAgg9 (Qh hc46 (Qv (fun w' hw' => Y_sleq rfl rfl) ?_))))
     refine VQ_y (fun _ _ => Y_pick_te rfl hc46 rfl) rfl rfl rfl ?_
     obtain rfl := Oi hs47
     exact VQ_end fun a ha => ⟨(), ha.sb, trivial⟩
    rw [if_neg (nt hc46)] at hs47
    refine Qg hc46 (Qg hc46 (Qg hc46 (Qg hc46 (Qg hc46 (Qg hc46 (Qg hc46 (Qg hc46 (Qg hc46 ?_))))))))
    refine VQ_y (fun _ _ => Y_pick_fe rfl hc46 rfl) rfl rfl rfl ?_
    obtain rfl := Oi hs47
    exact VQ_end fun a ha => ⟨(), ha.sb, trivial⟩
   simp only [List.take, List.drop]
   rintro _ _
   refine Qa ?_
   refine VQ_to (fun _ _ => rfl) (fun w54 hk55 => ?_)
   have ht56 := Kp.tr hk55 hA hB; replace hH := Hp.kp hH hk55; replace h37 := El.tr h37 ht56; replace hK := Tt hK ht56; replace hr6 := Tt hr6 ht56
   refine Cc (fun hc57 => ?_) fun hc57 => ?_
   ·rw [if_pos hc57] at h19
    refine Sr (As (To ?_))
    obtain rfl := Oi h19
    obtain rfl := (h20 : Lp.rt _ = _)
    rw [Lp.andThen_rt] at hm
    obtain rfl := Oi hm
    refine Rt (Res.one results82 rfl) ?_
    exact ⟨rfl, hK.kp⟩
   rw [if_neg (nt hc57)] at h19
   refine Sr ?_
   have h58 := El_route_Skill_1 h37
   refine Fa underlying127 rfl sizeOf3 (Li h58 isAgg3 (Vy (Y_lss rfl rfl) (Mm ?_)))
   refine V_cut 4 (fun _ : Unit => [(0, v_l), (8, v_l), (9, Ii (l.length : Int)), (10, Ii (k7 : Int)), (42, .bool ((decide (x27.rank < 1)) || (decide ((9 : Int) < x27.rank))))]) (fun _ w' => w54 = w') ?_ ?_
   ·simp only [List.take, List.drop]
    rcases Be (decide (x27.rank < 1)) with hc59 | hc59
    ·refine Gm hc59 (Gm hc59 (Gm hc59 (Vy (Y_pick_te rfl hc59 rfl) ?_)))
     exact V_end fun a ha => ⟨(), ha.sub ⟨rfl, rfl, rfl, rfl, (by rw [hc59]; rfl), trivial⟩, rfl⟩
    refine Gf hc59 ?_
    have h61 := El_route_Skill_1 h37
    refine Fa underlying127 rfl sizeOf3 (Gf hc59 (Li h61 isAgg3 (Gf hc59 (Vy (Y_gtr rfl rfl) (Vy (Y_pick_fe rfl hc59 rfl) ?_)))))
    exact V_end fun a ha => ⟨(), ha.sub ⟨rfl, rfl, rfl, rfl, (by rw [hc59]; rfl), trivial⟩, rfl⟩
   simp only [List.take, List.drop]
   rintro _ _ rfl
   refine As (To ?_)
   refine Cc (fun hc62 => ?_) fun hc62 => ?_
   ·rw [if_pos hc62] at h19
    refine Sr (As (To ?_))
    obtain rfl := Oi h19
    obtain rfl := (h20 : Lp.rt _ = _)
    rw [Lp.andThen_rt] at hm
    obtain rfl := Oi hm
    refine Rt (Res.one results82 rfl) ?_
    exact ⟨rfl, hK.kp⟩
   rw [if_neg (nt hc62)] at h19
   refine Sk ?_
   refine C_region (Vy (Y_addI rfl rfl) (Mm ?_))
   obtain rfl := Oi h19
   refine V_end (fun a ha63 => ?_)
   exact ⟨(), hlt22, h20, ⟨A16, ha63.sub ⟨rfl, rfl, rfl, Ws hlt22 hn25, trivial⟩, ⟨hH, hr6⟩⟩⟩
  refine C_exit (fun a ha64 => ?_)
  exact ⟨((), A16), ha64.sub trivial, ⟨(h23 (eq_of_dec hle21 hc26)).symm, hH, hr6⟩⟩
 rintro ⟨s5, A12⟩ w9 ⟨rfl, hH13, hk10⟩ a ha11
 rw [Lp.andThen_fin] at hm
 replace hK := Tr.trans hK hk10; replace hA := hk10.new; replace hH := hH13
 refine C_at (n := ⟨44, [], none⟩) (fun _ _ => rfl) ?_ ha11
 refine Sr (As (To ?_))
 obtain rfl := Oi hm
 refine Rt (Res.one results82 rfl) ?_
 exact ⟨rfl, hK.kp⟩
theorem portref2_PeopleFault_c (w : World) {A : Nat → Prop} (hA : ∀ b, w.heap.size ≤ b → A b) (l : (List route_Person)) (v_l : Value) (h_l : Sl A w v_l l) {r : Int} (hm : portref2_PeopleFault l = some r) : Ret prog 76 #[v_l] w fun v w' => v = Ii r ∧ Kp False w w' := by
 unfold portref2_PeopleFault at hm
 refine enter func76 rfl ntmps76 rfl ?_
 have hA0 := hA
 obtain ⟨hB, hK, hH⟩ := St (Dw := False) hA
 refine Sr (As (To ?_))
 refine C_seq (Sr (Mm (Vy (Y_lenSl h_l rfl underlying22 rfl) (Vy (Y_gtr rfl rfl) (To ?_)))))
 refine Cc (fun hc3 => ?_) fun hc3 => ?_
 ·rw [if_pos hc3] at hm
  refine Sr (As (To ?_))
  obtain rfl := Oi hm
  refine Rt (Res.one results76 rfl) ?_
  exact ⟨rfl, hK.kp⟩
 rw [if_neg (nt hc3)] at hm
 refine Sk ?_
 refine C_seq (Sr (Mm (Vy (Y_lenSl h_l rfl underlying22 rfl) (Mm (To ?_)))))
 have hn25 := Sl.le h_l
 obtain ⟨o4, ho4, hm⟩ := Bs hm
 refine C_cutG (ι := (Unit × (Nat → Prop))) (fun ⟨s5, A12⟩ => []) (fun ⟨s5, A12⟩ => fun w' => o4 = .fin s5 ∧ Hp w.heap.size A12 w' ([]) ∧ Tr False w.heap.size A w A12 w') ?_ ?_
 ·refine C_block ?_
  refine C_range ho4 (fun k7 _ a w' => ∃ i : (Nat → Prop), Has ⟨65, [], none⟩ a ([(0, v_l), (9, v_l), (10, Ii (l.length : Int)), (11, Ii (k7 : Int))]) ∧ Hp w.heap.size i w' ([]) ∧ Tr False w.heap.size A w i w') (fun a ha => ⟨A, ha.sb, ⟨hH, Tr.refl (Dw := False) hA⟩⟩) ?_
  rintro K k7 _ a w15 ⟨A16, ha84, hH17, hr6⟩ hle21 K24 h23
  refine C_of ?_ ha84
  replace h_l := Sl.tr h_l hr6; replace hK := Tt hK hr6; replace hB := Bx hB hr6; replace hA := hr6.new; replace hH := hH17
  refine Sr (Vy (Y_lss rfl rfl) (To ?_))
  refine C_seq ?_
  refine Cc (fun hc26 => ?_) fun hc26 => ?_
  ·have hlt22 := lt_of_dec hc26
   obtain ⟨x18, h19, h20⟩ := K24 hlt22
   refine Sk ?_
   refine C_seq (C_block (Sr (Mm ?_)))
   obtain ⟨x27, hx27, h19⟩ := Bs h19
   refine V_indexAddr h_l hx27 underlying22 sizeOf124 rfl rfl rfl ?_
   intro b28 o29 h30
   obtain ⟨v31, h33, h32⟩ := El_route_Person h30
   refine Vy (Y_loadA h33 isAgg124 sizeOf124 rfl) ?_
   refine V_alloc zeroValue124 rfl ?_
   intro b34 w35 h36
   refine As ?_
   have h41 : (v31).oneCell' = true := by obtain ⟨_, _, e, _⟩ := Sl.form h32; rw [e]; rfl
   refine Sn h36 sizeOf124 ?_
   intro w37 h38
   have hk43 := h38.kp (Dw := False)
   have h42 : El (α := route_Person) A16 w37 b34 0 x27 := h38.el hA ⟨[Ii x27.no], _, rfl, rfl, ⟨[Ii x27.capacity], _, rfl, rfl, ⟨[Ii x27.calendar], _, rfl, rfl, ⟨_, rfl, h32⟩⟩⟩⟩
   have ht44 := Kp.tr hk43 hA hB; replace hH := Hp.kp hH hk43; replace h_l := Sl.tr h_l ht44; replace hK := Tt hK ht44; replace hr6 := Tt hr6 ht44; replace hB := Bx hB ht44; replace hA := ht44.new
   refine To ?_
   refine C_seq (C_block (Sr ?_))
   have h45 := El_route_Person_0 h42
   refine Fa underlying124 rfl sizeOf3 (Li h45 isAgg3 (Vy (Y_lss rfl rfl) (Mm ?_)))
   refine V_cut 4 (fun _ : Unit => [(0, v_l), (3, Ii (k7 : Int)), (4, Pt b34), (9, v_l), (10, Ii (l.length : Int)), (11, Ii (k7 : Int)), (24, .bool ((decide (x27.no < 1)) || (decide ((40 : Int) < x27.no))))]) (fun _ w' => w37 = w') ?_ ?_
   ·simp only [List.take, List.drop]
    rcases Be (decide (x27.no < 1)) with hc46 | hc46
    ·refine Gm hc46 (Gm hc46 (Gm hc46 (Vy (Y_pick_te rfl hc46 rfl) ?_)))
     exact V_end fun a ha => ⟨(), ha.sub ⟨rfl, rfl, rfl, rfl, rfl, rfl, (by rw [hc46]; rfl), trivial⟩, rfl⟩
    refine Gf hc46 ?_
    have h48 := El_route_Person_0 h42
    refine Fa underlying124 rfl sizeOf3 (Gf hc46 (Li h48 isAgg3 (Gf hc46 (Vy (Y_gtr rfl rfl) (Vy (Y_pick_fe rfl hc46 rfl) ?_)))))
    exact V_end fun a ha => ⟨(), ha.sub ⟨rfl, rfl, rfl, rfl, rfl, rfl, (by rw [hc46]; rfl), trivial⟩, rfl⟩
   simp only [List.take, List.drop]
   rintro _ _ rfl
   refine As (To ?_)
   refine Cc (fun hc49 => ?_) fun hc49 => ?_
   ·rw [if_pos hc49] at h19
    refine Sr (As (To ?_))
    obtain rfl := Oi h19
    obtain rfl := (h20 : Lp.rt _ = _)
    rw [Lp.andThen_rt] at hm
    obtain rfl := Oi hm
    refine Rt (Res.one results76 rfl) ?_
    exact ⟨rfl, hK.kp⟩
   rw [if_neg (nt hc49)] at h19
   refine C_seq ?_
   refine C_region_q (Dw := False) Tryz_mixed (by kernel_rfl) ?_
   refine Qm (Qv (fun w' hw' => Y_gtr rfl rfl) (Qm ?_))
   obtain ⟨s51, hs51, h19⟩ := Bs h19
   refine VQ_cut 10 (fun _ : Unit => [(0, v_l), (4, Pt b34), (9, v_l), (10, Ii (l.length : Int)), (11, Ii (k7 : Int)), (38, .bool s51)]) (fun _ => True) ?_ ?_
   ·simp only [List.take, List.drop]
    rcases Be (decide ((0 : Int) < (k7 : Int))) with hc50 | hc50
    ·rw [if_pos hc50] at hs51
     refine Qh hc50 ?_
     have h52 := El_route_Person_0 h42
     refine Qf underlying124 rfl sizeOf3 (Qh hc50 (Qi h52 isAgg3 (Qh hc50 (Qm (Qh hc50 (Qm (Qh hc50 (Qv (fun w' hw' => Y_subI rfl rfl) (Qh hc50 ?_)))))))))
     obtain ⟨x53, hx53, hs51⟩ := Bs hs51
     refine VQ_indexAddr h_l hx53 underlying22 sizeOf124 rfl rfl rfl ?_
     intro b54 o55 h56
     refine Qh hc50 ?_
     have h57 := El_route_Person_0 h56
     refine Qf underlying124 rfl sizeOf3 (Qh hc50 (Qi h57 isAgg3 (Qh hc50 (Qv (fun w' hw' => Y_leq rfl rfl) ?_))))
     refine VQ_y (fun _ _ => Y_pick_te rfl hc50 rfl) rfl rfl rfl ?_
     obtain rfl := Oi hs51
     exact VQ_end fun a ha => ⟨(), ha.sb, trivial⟩
    rw [if_neg (nt hc50)] at hs51
    refine Qg hc50 (Qg hc50 (Qg hc50 (Qg hc50 (Qg hc50 (Qg hc50 (Qg hc50 (Qg hc50 (Qg hc50 ?_))))))))
    refine VQ_y (fun _ _ => Y_pick_fe rfl hc50 rfl) rfl rfl rfl ?_
    obtain rfl := Oi hs51
    exact VQ_end fun a ha => ⟨(), ha.sb, trivial⟩
   simp only [List.take, List.drop]
   rintro _ _
   refine Qa ?_
   refine VQ_to (fun _ _ => rfl) (fun w58 hk59 => ?_)
   have ht60 := Kp.tr hk59 hA hB; replace hH := Hp.kp hH hk59; replace h42 := El.tr h42 ht60; replace hK := Tt hK ht60; replace hr6 := Tt hr6 ht60; replace hB := Bx hB ht60; replace hA := ht60.new
   refine Cc (fun hc61 => ?_) fun hc61 => ?_
   ·rw [if_pos hc61] at h19
    refine Sr (As (To ?_))
    obtain rfl := Oi h19
    obtain rfl := (h20 : Lp.rt _ = _)
    rw [Lp.andThen_rt] at hm
    obtain rfl := Oi hm
    refine Rt (Res.one results76 rfl) ?_
    exact ⟨rfl, hK.kp⟩
   rw [if_neg (nt hc61)] at h19
   refine Sr ?_
   have h62 := El_route_Person_1 h42
   refine Fa underlying124 rfl sizeOf3 (Li h62 isAgg3 (Vy (Y_lss rfl rfl) (Mm ?_)))
   refine V_cut 4 (fun _ : Unit => [(0, v_l), (4, Pt b34), (9, v_l), (10, Ii (l.length : Int)), (11, Ii (k7 : Int)), (47, .bool ((decide (x27.capacity < 0)) || (decide ((100 : Int) < x27.capacity))))]) (fun _ w' => w58 = w') ?_ ?_
   ·simp only [List.take, List.drop]
    rcases Be (decide (x27.capacity < 0)) with hc63 | hc63
    ·refine Gm hc63 (Gm hc63 (Gm hc63 (Vy (Y_pick_te rfl hc63 rfl) ?_)))
     exact V_end fun a ha => ⟨(), ha.sub ⟨rfl, rfl, rfl, rfl, rfl, (by rw [hc63]; rfl), trivial⟩, rfl⟩
    refine Gf hc63 ?_
    have h65 := El_route_Person_1 h42
    refine Fa underlying124 rfl sizeOf3 (Gf hc63 (Li h65 isAgg3 (Gf hc63 (Vy (Y_gtr rfl rfl) (Vy (Y_pick_fe rfl hc63 rfl) ?_)))))
    exact V_end fun a ha => ⟨(), ha.sub ⟨rfl, rfl, rfl, rfl, rfl, (by rw [hc63]; rfl), trivial⟩, rfl⟩
   simp only [List.take, List.drop]
   rintro _ _ rfl
   refine Mm ?_
   refine V_cut 4 (fun _ : Unit => [(0, v_l), (4, Pt b34), (9, v_l), (10, Ii (l.length : Int)), (11, Ii (k7 : Int)), (52, .bool (((decide (x27.capacity < 0)) || (decide ((100 : Int) < x27.capacity))) || (decide (x27.calendar < 0))))]) (fun _ w' => w58 = w') ?_ ?_
   ·simp only [List.take, List.drop]
    rcases Be (((decide (x27.capacity < 0)) || (decide ((100 : Int) < x27.capacity)))) with hc66 | hc66
    ·refine Gm hc66 (Gm hc66 (Gm hc66 (Vy (Y_pick_te rfl hc66 rfl) ?_)))
     exact V_end fun a ha => ⟨(), ha.sub ⟨rfl, rfl, rfl, rfl, rfl, (by rw [hc66]; rfl), trivial⟩, rfl⟩
    refine Gf hc66 ?_
    have h68 := El_route_Person_2 h42
    refine Fa underlying124 rfl sizeOf3 (Gf hc66 (Li h68 isAgg3 (Gf hc66 (Vy (Y_lss rfl rfl) (Vy (Y_pick_fe rfl hc66 rfl) ?_)))))
    exact V_end fun a ha => ⟨(), ha.sub ⟨rfl, rfl, rfl, rfl, rfl, (by rw [hc66]; rfl), trivial⟩, rfl⟩
   simp only [List.take, List.drop]
   rintro _ _ rfl
   refine Mm ?_
   refine V_cut 4 (fun _ : Unit => [(0, v_l), (4, Pt b34), (9, v_l), (10, Ii (l.length : Int)), (11, Ii (k7 : Int)), (57, .bool ((((decide (x27.capacity < 0)) || (decide ((100 : Int) < x27.capacity))) || (decide (x27.calendar < 0))) || (decide ((20 : Int) ≤ x27.calendar))))]) (fun _ w' => w58 = w') ?_ ?_
   ·simp only [List.take, List.drop]
    rcases Be ((((decide (x27.capacity < 0)) || (decide ((100 : Int) < x27.capacity))) || (decide (x27.calendar < 0)))) with hc69 | hc69
    ·refine Gm hc69 (Gm hc69 (Gm hc69 (Vy (Y_pick_te rfl hc69 rfl) ?_)))
     exact V_end fun a ha => ⟨(), ha.sub ⟨rfl, rfl, rfl, rfl, rfl, (by rw [hc69]; rfl), trivial⟩, rfl⟩
    refine Gf hc69 ?_
    have h71 := El_route_Person_2 h42
    refine Fa underlying124 rfl sizeOf3 (Gf hc69 (Li h71 isAgg3 (Gf hc69 (Vy (Y_geq rfl rfl) (Vy (Y_pick_fe rfl hc69 rfl) ?_)))))
    exact V_end fun a ha => ⟨(), ha.sub ⟨rfl, rfl, rfl, rfl, rfl, (by rw [hc69]; rfl), trivial⟩, rfl⟩
   simp only [List.take, List.drop]
   rintro _ _ rfl
   refine As (To ?_)
   refine Cc (fun hc72 => ?_) fun hc72 => ?_
   ·rw [if_pos hc72] at h19
    refine Sr (As (To ?_))
    obtain rfl := Oi h19
    obtain rfl := (h20 : Lp.rt _ = _)
    rw [Lp.andThen_rt] at hm
    obtain rfl := Oi hm
    refine Rt (Res.one results76 rfl) ?_
    exact ⟨rfl, hK.kp⟩
   rw [if_neg (nt hc72)] at h19
   refine Sk ?_
   refine Sr ?_
   have h73 := El_route_Person_3 h42
   refine Fa underlying124 rfl sizeOf41 ?_
   obtain ⟨v74, h75, h76⟩ := El.list h73
   refine Ld h75 isAgg41 ?_
   obtain ⟨x77, hx77, h19⟩ := Bs h19
   refine Vc call82 (portref2_skillsFault_c w58 hA x27.skills v74 h76 hx77) ?_
   rintro _ w78 ⟨rfl, hk79⟩
   have ht80 := Kp.tr hk79 hA hB; replace hH := Hp.kp hH hk79; replace hK := Tt hK ht80; replace hr6 := Tt hr6 ht80
   refine As (To ?_)
   refine Sr (Mm (Vy (Y_neq rfl rfl) (To ?_)))
   refine Cc (fun hc81 => ?_) fun hc81 => ?_
   ·rw [if_pos hc81] at h19
    refine Sr (Mm (As (To ?_)))
    obtain rfl := Oi h19
    obtain rfl := (h20 : Lp.rt _ = _)
    rw [Lp.andThen_rt] at hm
    obtain rfl := Oi hm
    refine Rt (Res.one results76 rfl) ?_
    exact ⟨rfl, hK.kp⟩
   rw [if_neg (nt hc81)] at h19
   refine Sk ?_
   refine C_region (Vy (Y_addI rfl rfl) (Mm ?_))
   obtain rfl := Oi h19
   refine V_end (fun a ha82 => ?_)
   exact ⟨(), hlt22, h20, ⟨A16, ha82.sub ⟨rfl, rfl, rfl, Ws hlt22 hn25, trivial⟩, ⟨hH, hr6⟩⟩⟩
  refine C_exit (fun a ha83 => ?_)
  exact ⟨((), A16), ha83.sub trivial, ⟨(h23 (eq_of_dec hle21 hc26)).symm, hH, hr6⟩⟩
 rintro ⟨s5, A12⟩ w9 ⟨rfl, hH13, hk10⟩ a ha11
 rw [Lp.andThen_fin] at hm
 replace hK := Tr.trans hK hk10; replace hA := hk10.new; replace hH := hH13
 refine C_at (n := ⟨65, [], none⟩) (fun _ _ => rfl) ?_ ha11
 refine Sr (As (To ?_))
 obtain rfl := Oi hm
 refine Rt (Res.one results76 rfl) ?_
 exact ⟨rfl, hK.kp⟩
theorem portref2_ZoneFault_1_c (w : World) (n : Int) : Ret prog 156 #[Ii n] w fun v w' => v = .bool (portref2_ZoneFault_1 n) ∧ w = w' := by
 generalize hm : portref2_ZoneFault_1 n = r
 unfold portref2_ZoneFault_1 at hm
 refine enter func156 rfl ntmps156 rfl ?_
 refine Sr (As (To ?_))
 refine Sr (Mm (Vy (Y_lss rfl rfl) (Mm ?_)))
 refine V_cut 3 (fun _ : Unit => [(8, .bool ((decide (n < (-1440))) || (decide ((1440 : Int) < n))))]) (fun _ w' => w = w') ?_ ?_
 ·simp only [List.take, List.drop]
  rcases Be (decide (n < (-1440))) with hc1 | hc1
  ·refine Gm hc1 (Gm hc1 (Vy (Y_pick_te rfl hc1 rfl) ?_))
   exact V_end fun a ha => ⟨(), ha.sub ⟨(by rw [hc1]; rfl), trivial⟩, rfl⟩
  refine Gf hc1 (Mm (Gf hc1 (Vy (Y_gtr rfl rfl) (Vy (Y_pick_fe rfl hc1 rfl) ?_))))
  exact V_end fun a ha => ⟨(), ha.sub ⟨(by rw [hc1]; rfl), trivial⟩, rfl⟩
 simp only [List.take, List.drop]
 rintro _ _ rfl
 refine As (To ?_)
 obtain rfl := hm
 refine Rt (Res.one results156 rfl) ?_
 exact ⟨rfl, rfl⟩
theorem portref2_ZoneFault_c (w : World) {A : Nat → Prop} (hA : ∀ b, w.heap.size ≤ b → A b) (z : cal_Zone) (v_z : Value) (h_z : Sl A w v_z z.changes) {r : Int} (hm : portref2_ZoneFault z = some r) : Ret prog 135 #[.agg #[Ii z.offset, v_z]] w fun v w' => v = Ii r ∧ Kp Dw w w' := by
 unfold portref2_ZoneFault at hm
 refine enter func135 rfl ntmps135 rfl ?_
 have hA0 := hA
 obtain ⟨hB, hK, hH⟩ := St (Dw := Dw) hA
 refine Sr ?_
 refine V_box rfl rfl ?_
 intro b3 w4 h5
 have hk7 := h5.kp (Dw := Dw)
 have h6 : El (α := cal_Zone) A w4 b3 0 z := h5.el hA ⟨[Ii z.offset], _, rfl, rfl, ⟨_, rfl, h_z⟩⟩
 have ht8 := Kp.tr hk7 hA hB; replace hH := Hp.kp hH hk7; replace hK := Tt hK ht8; replace hB := Bx hB ht8; replace hA := ht8.new
 refine As (To ?_)
 refine Sr (As (To ?_))
 refine C_seq (Sr (Mm ?_))
 have h9 := El_cal_Zone_0 h6
 refine Fa underlying64 rfl sizeOf3 (Li h9 isAgg3 ?_)
 refine Vc call156 (portref2_ZoneFault_1_c w4 z.offset) ?_
 rintro _ _ ⟨rfl, rfl⟩
 refine To ?_
 refine Cc (fun hc10 => ?_) fun hc10 => ?_
 ·rw [if_pos hc10] at hm
  refine Sr (As (To ?_))
  obtain rfl := Oi hm
  refine Rt (Res.one results135 rfl) ?_
  exact ⟨rfl, hK.kp⟩
 rw [if_neg (nt hc10)] at hm
 refine Sk ?_
 refine C_seq (Sr ?_)
 have h11 := El_cal_Zone_1 h6
 refine Fa underlying64 rfl sizeOf62 ?_
 obtain ⟨v12, h13, h14⟩ := El.list h11
 refine Ld h13 isAgg62 (Vy (Y_lenSl h14 rfl underlying62 rfl) (Vy (Y_gtr rfl rfl) (To ?_)))
 refine Cc (fun hc15 => ?_) fun hc15 => ?_
 ·rw [if_pos hc15] at hm
  refine Sr (As (To ?_))
  obtain rfl := Oi hm
  refine Rt (Res.one results135 rfl) ?_
  exact ⟨rfl, hK.kp⟩
 rw [if_neg (nt hc15)] at hm
 refine Sk ?_
 refine Sr ?_
 have h16 := El_cal_Zone_0 h6
 refine Fa underlying64 rfl sizeOf3 (Li h16 isAgg3 (As (To ?_)))
 refine C_seq (Sr ?_)
 have h17 := El_cal_Zone_1 h6
 refine Fa underlying64 rfl sizeOf62 ?_
 obtain ⟨v18, h19, h20⟩ := El.list h17
 refine Ld h19 isAgg62 (Vy (Y_lenSl h20 rfl underlying62 rfl) (Mm (To ?_)))
 have hn41 := Sl.le h20
 obtain ⟨o21, ho21, hm⟩ := Bs hm
 refine C_cutG (ι := (Int × (Nat → Prop))) (fun ⟨s22, A28⟩ => []) (fun ⟨s22, A28⟩ => fun w' => o21 = .fin s22 ∧ Hp w.heap.size A28 w' ([]) ∧ Tr Dw w.heap.size A w4 A28 w') ?_ ?_
 ·refine C_block ?_
  refine C_range ho21 (fun k24 s30 a w' => ∃ i : (Nat → Prop), Has ⟨63, [], none⟩ a ([(1, Pt b3), (3, .func (.func 156) #[] #[]), (4, Ii s30), (18, v18), (19, Ii (z.changes.length : Int)), (20, Ii (k24 : Int))]) ∧ Hp w.heap.size i w' ([]) ∧ Tr Dw w.heap.size A w4 i w') (fun a ha => ⟨A, ha.sb, ⟨hH, Tr.refl (Dw := Dw) hA⟩⟩) ?_
  rintro K k24 s30 a w31 ⟨A32, ha97, hH33, hr23⟩ hle37 K40 h39
  refine C_of ?_ ha97
  replace h6 := El.tr h6 hr23; replace h20 := Sl.tr h20 hr23; replace hK := Tt hK hr23; replace hB := Bx hB hr23; replace hA := hr23.new; replace hH := hH33
  refine Sr (Vy (Y_lss rfl rfl) (To ?_))
  refine C_seq ?_
  refine Cc (fun hc42 => ?_) fun hc42 => ?_
  ·have hlt38 := lt_of_dec hc42
   obtain ⟨x34, h35, h36⟩ := K40 hlt38
   refine Sk ?_
   refine C_seq (C_block (Sr (Mm ?_)))
   obtain ⟨x43, hx43, h35⟩ := Bs h35
   refine V_indexAddr h20 hx43 underlying62 sizeOf72 rfl rfl rfl ?_
   intro b44 o45 h46
   obtain ⟨h47, _⟩ := El_cal_Change h46
   refine Vy (Y_loadA h47 isAgg72 sizeOf72 rfl) ?_
   refine V_alloc zeroValue72 rfl ?_
   intro b48 w49 h50
   refine As ?_
   refine Sn h50 sizeOf72 ?_
   intro w51 h52
   have hk54 := h52.kp (Dw := Dw)
   have h53 : El (α := cal_Change) A32 w51 b48 0 x43 := h52.el hA ⟨[Ii x43.at_], _, rfl, rfl, rfl⟩
   have ht55 := Kp.tr hk54 hA hB; replace hH := Hp.kp hH hk54; replace h6 := El.tr h6 ht55; replace hK := Tt hK ht55; replace hr23 := Tt hr23 ht55; replace hB := Bx hB ht55; replace hA := ht55.new
   refine To ?_
   refine C_seq (C_block (C_seq ?_))
   obtain ⟨s57, ho56, h35⟩ := Bs h35
   refine C_cutG (ι := (Nat → Prop)) (fun (A62 : (Nat → Prop)) => [(1, Pt b3), (3, .func (.func 156) #[] #[]), (4, Ii s30), (5, Ii (k24 : Int)), (6, Pt b48), (18, v18), (19, Ii (z.changes.length : Int)), (20, Ii (k24 : Int)), (25, .bool s57)]) (fun (A62 : (Nat → Prop)) => fun w' => Hp w.heap.size A62 w' ([]) ∧ Tr Dw w.heap.size A32 w51 A62 w') ?_ ?_
   ·have hr58 : Tr Dw w.heap.size A32 w51 A32 w51 := Tr.refl (Dw := Dw) hA
    refine C_region ?_
    have h64 := El_cal_Change_0 h53
    refine Fa underlying72 rfl sizeOf3 (Li h64 isAgg3 (Vy (Y_lss rfl rfl) (Mm ?_)))
    rcases Be (decide (x43.at_ < 1)) with hc65 | hc65
    ·rw [if_pos hc65] at ho56
     refine Gm hc65 (Gm hc65 (Gm hc65 (Vy (Y_pick_te rfl hc65 rfl) (Mm ?_))))
     rcases Be (true) with hc66 | hc66
     ·rw [if_pos hc66] at ho56
      refine Gm hc66 (Gm hc66 (Gm hc66 (Gm hc66 (Vy (Y_pick_te rfl hc66 rfl) (As ?_)))))
      obtain rfl := Oi ho56
      refine V_end (fun a ha67 => ?_)
      exact ⟨A32, ha67.sb, ⟨hH, hr58⟩⟩
     rw [if_neg (nt hc66)] at ho56
     refine Gf hc66 (Mm (Gf hc66 ?_))
     have h68 := El_cal_Change_1 h53
     refine Fa underlying72 rfl sizeOf3 (Gf hc66 (Li h68 isAgg3 (Gf hc66 ?_)))
     refine Vc call156 (portref2_ZoneFault_1_c w51 x43.offset) ?_
     rintro _ _ ⟨rfl, rfl⟩
     refine Vy (Y_pick_fe rfl hc66 rfl) (As ?_)
     obtain rfl := Oi ho56
     refine V_end (fun a ha69 => ?_)
     exact ⟨A32, ha69.sb, ⟨hH, hr58⟩⟩
    rw [if_neg (nt hc65)] at ho56
    refine Gf hc65 ?_
    have h70 := El_cal_Change_0 h53
    refine Fa underlying72 rfl sizeOf3 (Gf hc65 (Li h70 isAgg3 (Gf hc65 (Vy (Y_gtr rfl rfl) (Vy (Y_pick_fe rfl hc65 rfl) (Mm ?_))))))
    rcases Be (decide ((3000000 : Int) < x43.at_)) with hc71 | hc71
    ·rw [if_pos hc71] at ho56
     refine Gm hc71 (Gm hc71 (Gm hc71 (Gm hc71 (Vy (Y_pick_te rfl hc71 rfl) (As ?_)))))
     obtain rfl := Oi ho56
     refine V_end (fun a ha72 => ?_)
     exact ⟨A32, ha72.sb, ⟨hH, hr58⟩⟩
    rw [if_neg (nt hc71)] at ho56
    refine Gf hc71 (Mm (Gf hc71 ?_))
    have h73 := El_cal_Change_1 h53
    refine Fa underlying72 rfl sizeOf3 (Gf hc71 (Li h73 isAgg3 (Gf hc71 ?_)))
    refine Vc call156 (portref2_ZoneFault_1_c w51 x43.offset) ?_
    rintro _ _ ⟨rfl, rfl⟩
    refine Vy (Y_pick_fe rfl hc71 rfl) (As ?_)
    obtain rfl := Oi ho56
    refine V_end (fun a ha74 => ?_)
    exact ⟨A32, ha74.sb, ⟨hH, hr58⟩⟩
   rintro A62 w59 ⟨hH63, hk60⟩ a ha61
   replace h6 := El.tr h6 hk60; replace h53 := El.tr h53 hk60; replace hK := Tr.trans hK hk60; replace hr23 := Tr.trans hr23 hk60; replace hB := Nat.le_trans hB hk60.ex.size; replace hA := hk60.new; replace hH := hH63
   refine C_at (n := ⟨63, [], none⟩) (fun _ _ => rfl) ?_ ha61
   refine Cc (fun hc75 => ?_) fun hc75 => ?_
   ·rw [if_pos hc75] at h35
    refine Sr (As (To ?_))
    obtain rfl := Oi h35
    obtain rfl := (h36 : Lp.rt _ = _)
    rw [Lp.andThen_rt] at hm
    obtain rfl := Oi hm
    refine Rt (Res.one results135 rfl) ?_
    exact ⟨rfl, hK.kp⟩
   rw [if_neg (nt hc75)] at h35
   refine C_seq ?_
   refine C_region_q (Dw := Dw) Tryz_mixed (by kernel_rfl) ?_
   refine Qm (Qv (fun w' hw' => Y_gtr rfl rfl) (Qm ?_))
   obtain ⟨s77, hs77, h35⟩ := Bs h35
   refine VQ_cut 11 (fun _ : Unit => [(1, Pt b3), (3, .func (.func 156) #[] #[]), (4, Ii s30), (6, Pt b48), (18, v18), (19, Ii (z.changes.length : Int)), (20, Ii (k24 : Int)), (54, .bool s77)]) (fun _ => True) ?_ ?_
   ·simp only [List.take, List.drop]
    rcases Be (decide ((0 : Int) < (k24 : Int))) with hc76 | hc76
    ·rw [if_pos hc76] at hs77
     refine Qh hc76 ?_
     have h78 := El_cal_Change_0 h53
     refine Qf underlying72 rfl sizeOf3 (Qh hc76 (Qi h78 isAgg3 (Qh hc76 ?_)))
     have h79 := El_cal_Zone_1 h6
     refine Qf underlying64 rfl sizeOf62 (Qh hc76 ?_)
     obtain ⟨v80, h81, h82⟩ := El.list h79
     refine Qc h81 isAgg62 (Qh hc76 (Qm (Qh hc76 (Qv (fun w' hw' => Y_subI rfl rfl) (Qh hc76 ?_)))))
     obtain ⟨x83, hx83, hs77⟩ := Bs hs77
     refine VQ_indexAddr h82 hx83 underlying62 sizeOf72 rfl rfl rfl ?_
     intro b84 o85 h86
     refine Qh hc76 ?_
     have h87 := El_cal_Change_0 h86
     refine Qf underlying72 rfl sizeOf3 (Qh hc76 (Qi h87 isAgg3 (Qh hc76 (Qv (fun w' hw' => Y_leq rfl rfl) ?_))))
     refine VQ_y (fun _ _ => Y_pick_te rfl hc76 rfl) rfl rfl rfl ?_
     obtain rfl := Oi hs77
     exact VQ_end fun a ha => ⟨(), ha.sb, trivial⟩
    rw [if_neg (nt hc76)] at hs77
    refine Qg hc76 (Qg hc76 (Qg hc76 (Qg hc76 (Qg hc76 (Qg hc76 (Qg hc76 (Qg hc76 (Qg hc76 (Qg hc76 ?_)))))))))
    refine VQ_y (fun _ _ => Y_pick_fe rfl hc76 rfl) rfl rfl rfl ?_
    obtain rfl := Oi hs77
    exact VQ_end fun a ha => ⟨(), ha.sb, trivial⟩
   simp only [List.take, List.drop]
   rintro _ _
   refine Qa ?_
   refine VQ_to (fun _ _ => rfl) (fun w88 hk89 => ?_)
   have ht90 := Kp.tr hk89 hA hB; replace hH := Hp.kp hH hk89; replace h53 := El.tr h53 ht90; replace hK := Tt hK ht90; replace hr23 := Tt hr23 ht90
   refine Cc (fun hc91 => ?_) fun hc91 => ?_
   ·rw [if_pos hc91] at h35
    refine Sr (As (To ?_))
    obtain rfl := Oi h35
    obtain rfl := (h36 : Lp.rt _ = _)
    rw [Lp.andThen_rt] at hm
    obtain rfl := Oi hm
    refine Rt (Res.one results135 rfl) ?_
    exact ⟨rfl, hK.kp⟩
   rw [if_neg (nt hc91)] at h35
   refine Sr ?_
   have h92 := El_cal_Change_1 h53
   refine Fa underlying72 rfl sizeOf3 (Li h92 isAgg3 (Mm (Vy (Y_eql rfl rfl) (As (To ?_)))))
   refine Cc (fun hc93 => ?_) fun hc93 => ?_
   ·rw [if_pos hc93] at h35
    refine Sr (As (To ?_))
    obtain rfl := Oi h35
    obtain rfl := (h36 : Lp.rt _ = _)
    rw [Lp.andThen_rt] at hm
    obtain rfl := Oi hm
    refine Rt (Res.one results135 rfl) ?_
    exact ⟨rfl, hK.kp⟩
   rw [if_neg (nt hc93)] at h35
   refine Sk ?_
   refine C_region ?_
   have h94 := El_cal_Change_1 h53
   refine Fa underlying72 rfl sizeOf3 (Li h94 isAgg3 (As (To ?_)))
   refine C_region (Vy (Y_addI rfl rfl) (Mm ?_))
   obtain rfl := Oi h35
   refine V_end (fun a ha95 => ?_)
   exact ⟨x43.offset, hlt38, h36, ⟨A62, ha95.sub ⟨rfl, rfl, rfl, rfl, rfl, Ws hlt38 hn41, trivial⟩, ⟨hH, hr23⟩⟩⟩
  refine C_exit (fun a ha96 => ?_)
  exact ⟨(s30, A32), ha96.sub trivial, ⟨(h39 (eq_of_dec hle37 hc42)).symm, hH, hr23⟩⟩
 rintro ⟨s22, A28⟩ w25 ⟨rfl, hH29, hk26⟩ a ha27
 rw [Lp.andThen_fin] at hm
 replace hK := Tr.trans hK hk26; replace hA := hk26.new; replace hH := hH29
 refine C_at (n := ⟨63, [], none⟩) (fun _ _ => rfl) ?_ ha27
 refine Sr (As (To ?_))
 obtain rfl := Oi hm
 refine Rt (Res.one results135 rfl) ?_
 exact ⟨rfl, hK.kp⟩
end Go.Proofs.YtfbnaobiondblaaGreatDoor.W
