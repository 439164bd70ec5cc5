import Derived.Test.YtldkdabcdbgpbaaGreatDoorIndexChangesW2
namespace Go.Proofs.YtldkdabcdbgpbaaGreatDoor.W
open Go Go.RowKit Go.Pu Go.Gw Go.Proofs Go.Proofs.YtldkdabcdbgpbaaGreatDoor.M
set_option linter.unusedVariables false
set_option linter.unusedSimpArgs false
variable {Dw : Prop}
set_option maxHeartbeats 4000000
set_option maxRecDepth 4000
open Tryz
theorem portref2_IndexFault_c (w : World) {A : Nat → Prop} (hA : ∀ b, w.heap.size ≤ b → A b) (x : know_Index) (v_x0 : Value) (h_x0 : Sl A w v_x0 x.ids) (v_x1 : Value) (h_x1 : Sl A w v_x1 x.sizes) (v_x2 : Value) (h_x2 : Sl A w v_x2 x.terms) {r : Int} (hm : portref2_IndexFault x = some r) : Ret prog 13 #[.agg #[v_x0, v_x1, v_x2]] w fun v w' => v = Ii r ∧ Kp Dw w w' := by
 unfold portref2_IndexFault at hm
 refine enter func13 rfl ntmps13 rfl ?_
 have hA0 := hA
 obtain ⟨hB, hK, hH⟩ := St (Dw := Dw) hA
 refine Sr ?_
 refine V_box rfl rfl ?_
 intro b7 w9 h10
 have hk12 := h10.kp (Dw := Dw)
 have h11 : El (α := know_Index) A w9 b7 0 x := h10.el hA ⟨[v_x0], _, rfl, ⟨_, rfl, h_x0⟩, ⟨[v_x1], _, rfl, ⟨_, rfl, h_x1⟩, ⟨_, rfl, h_x2⟩⟩⟩
 have ht13 := Kp.tr hk12 hA hB; replace hH := Hp.kp hH hk12; replace hK := Tt hK ht13; replace hB := Bx hB ht13; replace hA := ht13.new
 refine As (To ?_)
 refine C_seq (Sr ?_)
 have h14 := El_know_Index_0 h11
 refine Fa underlying26 rfl sizeOf23 ?_
 obtain ⟨v15, h16, h17⟩ := El.list h14
 refine Ld h16 isAgg23 (Vy (Y_lenSl h17 rfl underlying23 rfl) (Vy (Y_gtr rfl rfl) (To ?_)))
 refine Cc (fun hc18 => ?_) fun hc18 => ?_
 ·rw [if_pos hc18] at hm
  refine Sr (As (To ?_))
  obtain rfl := Oi hm
  refine Rt (Res.one results13 rfl) ?_
  exact ⟨rfl, hK.kp⟩
 rw [if_neg (nt hc18)] at hm
 refine Sk ?_
 refine C_seq (Sr ?_)
 have h19 := El_know_Index_1 h11
 refine Fa underlying26 rfl sizeOf23 ?_
 obtain ⟨v20, h21, h22⟩ := El.list h19
 refine Ld h21 isAgg23 (Vy (Y_lenSl h22 rfl underlying23 rfl) ?_)
 have h23 := El_know_Index_0 h11
 refine Fa underlying26 rfl sizeOf23 ?_
 obtain ⟨v24, h25, h26⟩ := El.list h23
 refine Ld h25 isAgg23 (Vy (Y_lenSl h26 rfl underlying23 rfl) (Vy (Y_neq rfl rfl) (To ?_)))
 refine Cc (fun hc27 => ?_) fun hc27 => ?_
 ·rw [if_pos hc27] at hm
  refine Sr (As (To ?_))
  obtain rfl := Oi hm
  refine Rt (Res.one results13 rfl) ?_
  exact ⟨rfl, hK.kp⟩
 rw [if_neg (nt hc27)] at hm
 refine Sk ?_
 refine C_seq (Sr ?_)
 have h28 := El_know_Index_0 h11
 refine Fa underlying26 rfl sizeOf23 ?_
 obtain ⟨v29, h30, h31⟩ := El.list h28
 refine Ld h30 isAgg23 (Vy (Y_lenSl h31 rfl underlying23 rfl) (Mm (To ?_)))
 have hn48 := Sl.le h31
 obtain ⟨o32, ho32, hm⟩ := Bs hm
 refine C_cutG (ι := Unit) (fun (s33 : Unit) => [(1, Pt b7)]) (fun (s33 : Unit) => fun w' => o32 = .fin s33 ∧ w9 = w') ?_ ?_
 ·refine C_block ?_
  refine C_range ho32 (fun k35 _ a w' => ∃ i : Unit, Has ⟨174, [], none⟩ a ([(1, Pt b7), (26, v29), (27, Ii (x.ids.length : Int)), (28, Ii (k35 : Int))]) ∧ w9 = w') (fun a ha => ⟨(), ha.sb, rfl⟩) ?_
  rintro K k35 _ a _ ⟨_, ha88, rfl⟩ hle44 K47 h46
  refine C_of ?_ ha88
  refine Sr (Vy (Y_lss rfl rfl) (To ?_))
  refine C_seq ?_
  refine Cc (fun hc49 => ?_) fun hc49 => ?_
  ·have hlt45 := lt_of_dec hc49
   obtain ⟨x41, h42, h43⟩ := K47 hlt45
   refine Sk ?_
   refine C_seq (C_block (Sr (Mm ?_)))
   obtain ⟨x50, hx50, h42⟩ := Bs h42
   refine V_indexAddr h31 hx50 underlying23 sizeOf3 rfl rfl rfl ?_
   intro b51 o52 h53
   refine Li h53 isAgg3 (As (As (To ?_)))
   refine C_block (Sr (Mm (Vy (Y_lss rfl rfl) (Mm ?_))))
   refine V_cut 3 (fun _ : Unit => [(1, Pt b7), (3, Ii (k35 : Int)), (4, Ii x50), (26, v29), (27, Ii (x.ids.length : Int)), (28, Ii (k35 : Int)), (39, .bool ((decide (x50 < 1)) || (decide ((3000000 : Int) < x50))))]) (fun _ w' => w9 = w') ?_ ?_
   ·simp only [List.take, List.drop]
    rcases Be (decide (x50 < 1)) with hc54 | hc54
    ·refine Gm hc54 (Gm hc54 (Vy (Y_pick_te rfl hc54 rfl) ?_))
     exact V_end fun a ha => ⟨(), ha.sub ⟨rfl, rfl, rfl, rfl, rfl, rfl, (by rw [hc54]; rfl), trivial⟩, rfl⟩
    refine Gf hc54 (Mm (Gf hc54 (Vy (Y_gtr rfl rfl) (Vy (Y_pick_fe rfl hc54 rfl) ?_))))
    exact V_end fun a ha => ⟨(), ha.sub ⟨rfl, rfl, rfl, rfl, rfl, rfl, (by rw [hc54]; rfl), trivial⟩, rfl⟩
   simp only [List.take, List.drop]
   rintro _ _ rfl
   refine As (To ?_)
   refine Cc (fun hc56 => ?_) fun hc56 => ?_
   ·rw [if_pos hc56] at h42
    refine Sr (As (To ?_))
    obtain rfl := Oi h42
    obtain rfl := (h43 : Lp.rt _ = _)
    rw [Lp.andThen_rt] at hm
    obtain rfl := Oi hm
    refine Rt (Res.one results13 rfl) ?_
    exact ⟨rfl, hK.kp⟩
   rw [if_neg (nt hc56)] at h42
   refine Sr (Mm (Vy (Y_gtr rfl rfl) (Mm ?_)))
   obtain ⟨s58, hs58, h42⟩ := Bs h42
   refine V_cut 9 (fun _ : Unit => [(1, Pt b7), (3, Ii (k35 : Int)), (26, v29), (27, Ii (x.ids.length : Int)), (28, Ii (k35 : Int)), (52, .bool s58)]) (fun _ w' => w9 = w') ?_ ?_
   ·simp only [List.take, List.drop]
    rcases Be (decide ((0 : Int) < (k35 : Int))) with hc57 | hc57
    ·rw [if_pos hc57] at hs58
     refine Gf hc57 (Mm (Gf hc57 ?_))
     have h59 := El_know_Index_0 h11
     refine Fa underlying26 rfl sizeOf23 (Gf hc57 ?_)
     obtain ⟨v60, h61, h62⟩ := El.list h59
     refine Ld h61 isAgg23 (Gf hc57 (Mm (Gf hc57 (Vy (Y_subI rfl rfl) (Gf hc57 ?_)))))
     obtain ⟨x63, hx63, hs58⟩ := Bs hs58
     refine V_indexAddr h62 hx63 underlying23 sizeOf3 rfl rfl rfl ?_
     intro b64 o65 h66
     refine Gf hc57 (Li h66 isAgg3 (Gf hc57 (Vy (Y_leq rfl rfl) (Vy (Y_pick_te rfl hc57 rfl) ?_))))
     obtain rfl := Oi hs58
     exact V_end fun a ha => ⟨(), ha.sb, rfl⟩
    rw [if_neg (nt hc57)] at hs58
    refine Gm hc57 (Gm hc57 (Gm hc57 (Gm hc57 (Gm hc57 (Gm hc57 (Gm hc57 (Gm hc57 (Vy (Y_pick_fe rfl hc57 rfl) ?_))))))))
    obtain rfl := Oi hs58
    exact V_end fun a ha => ⟨(), ha.sb, rfl⟩
   simp only [List.take, List.drop]
   rintro _ _ rfl
   refine As (To ?_)
   refine Cc (fun hc67 => ?_) fun hc67 => ?_
   ·rw [if_pos hc67] at h42
    refine Sr (As (To ?_))
    obtain rfl := Oi h42
    obtain rfl := (h43 : Lp.rt _ = _)
    rw [Lp.andThen_rt] at hm
    obtain rfl := Oi hm
    refine Rt (Res.one results13 rfl) ?_
    exact ⟨rfl, hK.kp⟩
   rw [if_neg (nt hc67)] at h42
   refine Sr ?_
   have h68 := El_know_Index_1 h11
   refine Fa underlying26 rfl sizeOf23 ?_
   obtain ⟨v69, h70, h71⟩ := El.list h68
   refine Ld h70 isAgg23 (Mm ?_)
   obtain ⟨x72, hx72, h42⟩ := Bs h42
   refine V_indexAddr h71 hx72 underlying23 sizeOf3 rfl rfl rfl ?_
   intro b73 o74 h75
   refine Li h75 isAgg3 (Vy (Y_lss rfl rfl) (Mm ?_))
   obtain ⟨s77, hs77, h42⟩ := Bs h42
   refine V_cut 7 (fun _ : Unit => [(1, Pt b7), (26, v29), (27, Ii (x.ids.length : Int)), (28, Ii (k35 : Int)), (67, .bool s77)]) (fun _ w' => w9 = w') ?_ ?_
   ·simp only [List.take, List.drop]
    rcases Be (decide (x72 < 0)) with hc76 | hc76
    ·rw [if_pos hc76] at hs77
     refine Gm hc76 (Gm hc76 (Gm hc76 (Gm hc76 (Gm hc76 (Gm hc76 (Vy (Y_pick_te rfl hc76 rfl) ?_))))))
     obtain rfl := Oi hs77
     exact V_end fun a ha => ⟨(), ha.sb, rfl⟩
    rw [if_neg (nt hc76)] at hs77
    refine Gf hc76 ?_
    have h78 := El_know_Index_1 h11
    refine Fa underlying26 rfl sizeOf23 (Gf hc76 ?_)
    obtain ⟨v79, h80, h81⟩ := El.list h78
    refine Ld h80 isAgg23 (Gf hc76 (Mm (Gf hc76 ?_)))
    refine V_indexAddr h81 hx72 underlying23 sizeOf3 rfl rfl rfl ?_
    intro b82 o83 h84
    refine Gf hc76 (Li h84 isAgg3 (Gf hc76 (Vy (Y_gtr rfl rfl) (Vy (Y_pick_fe rfl hc76 rfl) ?_))))
    obtain rfl := Oi hs77
    exact V_end fun a ha => ⟨(), ha.sb, rfl⟩
   simp only [List.take, List.drop]
   rintro _ _ rfl
   refine As (To ?_)
   refine Cc (fun hc85 => ?_) fun hc85 => ?_
   ·rw [if_pos hc85] at h42
    refine Sr (As (To ?_))
    obtain rfl := Oi h42
    obtain rfl := (h43 : Lp.rt _ = _)
    rw [Lp.andThen_rt] at hm
    obtain rfl := Oi hm
    refine Rt (Res.one results13 rfl) ?_
    exact ⟨rfl, hK.kp⟩
   rw [if_neg (nt hc85)] at h42
   refine Sk ?_
   refine C_region (Vy (Y_addI rfl rfl) (Mm ?_))
   obtain rfl := Oi h42
   refine V_end (fun a ha86 => ?_)
   exact ⟨(), hlt45, h43, ⟨(), ha86.sub ⟨rfl, rfl, rfl, Ws hlt45 hn48, trivial⟩, rfl⟩⟩
  refine C_exit (fun a ha87 => ?_)
  exact ⟨(), ha87.sb, ⟨(h46 (eq_of_dec hle44 hc49)).symm, rfl⟩⟩
 rintro s33 _ ⟨rfl, rfl⟩ a ha38
 rw [Lp.andThen_fin] at hm
 refine C_at (n := ⟨174, [], none⟩) (fun _ _ => rfl) ?_ ha38
 refine C_seq (Sr ?_)
 have h89 := El_know_Index_2 h11
 refine Fa underlying26 rfl sizeOf24 ?_
 obtain ⟨v90, h91, h92⟩ := El.list h89
 refine Ld h91 isAgg24 (Vy (Y_lenSl h92 rfl underlying24 rfl) (Mm (To ?_)))
 have hn113 := Sl.le h92
 obtain ⟨o93, ho93, hm⟩ := Bs hm
 refine C_cutG (ι := (Unit × (Nat → Prop))) (fun ⟨s94, A100⟩ => []) (fun ⟨s94, A100⟩ => fun w' => o93 = .fin s94 ∧ Hp w.heap.size A100 w' ([]) ∧ Tr Dw w.heap.size A w9 A100 w') ?_ ?_
 ·refine C_block ?_
  refine C_range ho93 (fun k96 _ a w' => ∃ i : (Nat → Prop), Has ⟨174, [], none⟩ a ([(1, Pt b7), (70, v90), (71, Ii (x.terms.length : Int)), (72, Ii (k96 : Int))]) ∧ Hp w.heap.size i w' ([]) ∧ Tr Dw w.heap.size A w9 i w') (fun a ha => ⟨A, ha.sb, ⟨hH, Tr.refl (Dw := Dw) hA⟩⟩) ?_
  rintro K k96 _ a w103 ⟨A104, ha337, hH105, hr95⟩ hle109 K112 h111
  refine C_of ?_ ha337
  replace h11 := El.tr h11 hr95; replace h92 := Sl.tr h92 hr95; replace hK := Tt hK hr95; replace hB := Bx hB hr95; replace hA := hr95.new; replace hH := hH105
  refine Sr (Vy (Y_lss rfl rfl) (To ?_))
  refine C_seq ?_
  refine Cc (fun hc114 => ?_) fun hc114 => ?_
  ·have hlt110 := lt_of_dec hc114
   obtain ⟨x106, h107, h108⟩ := K112 hlt110
   refine Sk ?_
   refine C_seq ?_
   obtain ⟨o115, ho115, h107⟩ := Bs h107
   refine C_cutG (ι := (Unit × (Nat → Prop))) (fun ⟨s116, A121⟩ => [(1, Pt b7), (70, v90), (71, Ii (x.terms.length : Int)), (72, Ii (k96 : Int))]) (fun ⟨s116, A121⟩ => fun w' => o115 = .fin s116 ∧ Hp w.heap.size A121 w' ([]) ∧ Tr Dw w.heap.size A104 w103 A121 w') ?_ ?_
   ·have hr117 : Tr Dw w.heap.size A104 w103 A104 w103 := Tr.refl (Dw := Dw) hA
    refine C_block (Sr (Mm ?_))
    obtain ⟨x123, hx123, ho115⟩ := Bs ho115
    refine V_indexAddr h92 hx123 underlying24 sizeOf83 rfl rfl rfl ?_
    intro b124 o125 h126
    obtain ⟨v127, h129, h128⟩ := El_know_Term h126
    refine Vy (Y_loadA h129 isAgg83 sizeOf83 rfl) ?_
    refine V_alloc zeroValue83 rfl ?_
    intro b130 w131 h132
    refine As ?_
    have h137 : (v127).oneCell' = true := by obtain ⟨_, _, e, _⟩ := Sl.form h128; rw [e]; rfl
    refine Sn h132 sizeOf83 ?_
    intro w133 h134
    have hk139 := h134.kp (Dw := Dw)
    have h138 : El (α := know_Term) A104 w133 b130 0 x123 := h134.el hA ⟨[.string x123.word], _, rfl, rfl, ⟨_, rfl, h128⟩⟩
    have ht140 := Kp.tr hk139 hA hB; replace hH := Hp.kp hH hk139; replace h11 := El.tr h11 ht140; replace hK := Tt hK ht140; replace hr117 := Tt hr117 ht140; replace hB := Bx hB ht140; replace hA := ht140.new
    refine To ?_
    refine C_seq (Sr ?_)
    have h141 := El_know_Term_0 h138
    refine Fa underlying83 rfl sizeOf9 (Ld (El.str h141) isAgg9 ?_)
    obtain ⟨x142, hx142, ho115⟩ := Bs ho115
    refine Vc call67 (portref2_WordsOf_c (Dw := Dw) w133 hA x123.word hx142) ?_
    rintro v143 w145 ⟨_, rfl, h144, hk146⟩
    obtain ⟨A147, ht148, hH149⟩ := Hp.addOwnd (Dw := Dw) hH hB hA hk146 h144
    replace h11 := El.tr h11 ht148; replace h138 := El.tr h138 ht148; replace hK := Tt hK ht148; replace hr117 := Tt hr117 ht148; replace hB := Bx hB ht148; replace hA := ht148.new
    replace hH : Hp _ _ _ (o_9 v143 x142 :: []) := hH149
    refine As (To ?_)
    refine C_seq ?_
    refine C_region_q (Dw := Dw) Tryz_mixed (by kernel_rfl) ?_
    refine Qm (Qv (fun w' hw' => Y_lenSl (Hp.any (α := ByteArray) (e := 9) (v := v143) (l := x142) hH (i := 0) rfl) rfl underlying73 rfl) (Qv (fun w' hw' => Y_neq rfl rfl) (Qm ?_)))
    obtain ⟨s151, hs151, ho115⟩ := Bs ho115
    refine VQ_cut 7 (fun _ : Unit => [(1, Pt b7), (5, Ii (k96 : Int)), (6, Pt b130), (70, v90), (71, Ii (x.terms.length : Int)), (72, Ii (k96 : Int)), (90, .bool s151)]) (fun _ => True) ?_ ?_
    ·simp only [List.take, List.drop]
     rcases Be ((x142.length : Int) != 1) with hc150 | hc150
     ·rw [if_pos hc150] at hs151
      refine Qg hc150 (Qg hc150 (Qg hc150 (Qg hc150 (Qg hc150 (Qg hc150 ?_)))))
      refine VQ_y (fun _ _ => Y_pick_te rfl hc150 rfl) rfl rfl rfl ?_
      obtain rfl := Oi hs151
      exact VQ_end fun a ha => ⟨(), ha.sb, trivial⟩
     rw [if_neg (nt hc150)] at hs151
     refine Qh hc150 (Qm (Qh hc150 ?_))
     obtain ⟨x152, hx152, hs151⟩ := Bs hs151
     refine VQ_indexAddrH (α := ByteArray) (e := 9) (v := v143) (l := x142) hH (i := 0) rfl hx152 underlying73 sizeOf9 rfl rfl rfl ?_
     intro b153 o154 h155 hl156
     refine Qh hc150 (Ql (fun w' hw' => (El.str (El.kp h155 hw'))) isAgg9 (Qh hc150 ?_))
     have h157 := El_know_Term_0 h138
     refine Qf underlying83 rfl sizeOf9 (Qh hc150 (Ql (fun w' hw' => (El.str (El.kp h157 hw'))) isAgg9 (Qh hc150 (Qv (fun w' hw' => Y_sneq rfl rfl) ?_))))
     refine VQ_y (fun _ _ => Y_pick_fe rfl hc150 rfl) rfl rfl rfl ?_
     obtain rfl := Oi hs151
     exact VQ_end fun a ha => ⟨(), ha.sb, trivial⟩
    simp only [List.take, List.drop]
    rintro _ _
    refine Qm ?_
    refine VQ_cut 5 (fun _ : Unit => [(1, Pt b7), (5, Ii (k96 : Int)), (6, Pt b130), (70, v90), (71, Ii (x.terms.length : Int)), (72, Ii (k96 : Int)), (96, .bool (s151 || ((x123.list_.length : Int) == 0)))]) (fun _ => True) ?_ ?_
    ·simp only [List.take, List.drop]
     rcases Be (s151) with hc158 | hc158
     ·refine Qg hc158 (Qg hc158 (Qg hc158 (Qg hc158 ?_)))
      refine VQ_y (fun _ _ => Y_pick_te rfl hc158 rfl) rfl rfl rfl ?_
      exact VQ_end fun a ha => ⟨(), ha.sub ⟨rfl, rfl, rfl, rfl, rfl, rfl, (by rw [hc158]; rfl), trivial⟩, trivial⟩
     refine Qh hc158 ?_
     have h160 := El_know_Term_1 h138
     refine Qf underlying83 rfl sizeOf81 (Qh hc158 ?_)
     obtain ⟨v161, h162, h163⟩ := El.list h160
     refine Qc h162 isAgg81 (Qh hc158 (Qv (fun w' hw' => Y_lenSl h163 rfl underlying81 rfl) (Qh hc158 (Qv (fun w' hw' => Y_eql rfl rfl) ?_))))
     refine VQ_y (fun _ _ => Y_pick_fe rfl hc158 rfl) rfl rfl rfl ?_
     exact VQ_end fun a ha => ⟨(), ha.sub ⟨rfl, rfl, rfl, rfl, rfl, rfl, (by rw [hc158]; rfl), trivial⟩, trivial⟩
    simp only [List.take, List.drop]
    rintro _ _
    refine VQ_to (fun _ _ => rfl) (fun w164 hk165 => ?_)
    have ht166 := Kp.tr hk165 hA hB; replace hH := Hp.kp hH hk165; replace h11 := El.tr h11 ht166; replace h138 := El.tr h138 ht166; replace hK := Tt hK ht166; replace hr117 := Tt hr117 ht166; replace hB := Bx hB ht166; replace hA := ht166.new
    refine Cc (fun hc167 => ?_) fun hc167 => ?_
    ·rw [if_pos hc167] at ho115
     refine Sr (As (To ?_))
     obtain rfl := Oi ho115
     rw [Lp.andThen_rt] at h107
     obtain rfl := Oi h107
     obtain rfl := (h108 : Lp.rt _ = _)
     rw [Lp.andThen_rt] at hm
     obtain rfl := Oi hm
     refine Rt (Res.one results13 rfl) ?_
     exact ⟨rfl, hK.kp⟩
    rw [if_neg (nt hc167)] at ho115
    refine Sk ?_
    refine C_seq (C_seq ?_)
    refine C_region_q (Dw := Dw) Tryz_mixed (by kernel_rfl) ?_
    refine Qm (Qv (fun w' hw' => Y_gtr rfl rfl) (Qm ?_))
    obtain ⟨s169, hs169, ho115⟩ := Bs ho115
    refine VQ_cut 11 (fun _ : Unit => [(1, Pt b7), (6, Pt b130), (70, v90), (71, Ii (x.terms.length : Int)), (72, Ii (k96 : Int)), (110, .bool s169)]) (fun _ => True) ?_ ?_
    ·simp only [List.take, List.drop]
     rcases Be (decide ((0 : Int) < (k96 : Int))) with hc168 | hc168
     ·rw [if_pos hc168] at hs169
      refine Qh hc168 ?_
      have h170 := El_know_Term_0 h138
      refine Qf underlying83 rfl sizeOf9 (Qh hc168 (Ql (fun w' hw' => (El.str (El.kp h170 hw'))) isAgg9 (Qh hc168 ?_)))
      have h171 := El_know_Index_2 h11
      refine Qf underlying26 rfl sizeOf24 (Qh hc168 ?_)
      obtain ⟨v172, h173, h174⟩ := El.list h171
      refine Qc h173 isAgg24 (Qh hc168 (Qm (Qh hc168 (Qv (fun w' hw' => Y_subI rfl rfl) (Qh hc168 ?_)))))
      obtain ⟨x175, hx175, hs169⟩ := Bs hs169
      refine VQ_indexAddr h174 hx175 underlying24 sizeOf83 rfl rfl rfl ?_
      intro b176 o177 h178
      refine Qh hc168 ?_
      have h179 := El_know_Term_0 h178
      refine Qf underlying83 rfl sizeOf9 (Qh hc168 (Ql (fun w' hw' => (El.str (El.kp h179 hw'))) isAgg9 (Qh hc168 (Qv (fun w' hw' => Y_sleq rfl rfl) ?_))))
      refine VQ_y (fun _ _ => Y_pick_te rfl hc168 rfl) rfl rfl rfl ?_
      obtain rfl := Oi hs169
      exact VQ_end fun a ha => ⟨(), ha.sb, trivial⟩
     rw [if_neg (nt hc168)] at hs169
     refine Qg hc168 (Qg hc168 (Qg hc168 (Qg hc168 (Qg hc168 (Qg hc168 (Qg hc168 (Qg hc168 (Qg hc168 (Qg hc168 ?_)))))))))
     refine VQ_y (fun _ _ => Y_pick_fe rfl hc168 rfl) rfl rfl rfl ?_
     obtain rfl := Oi hs169
     exact VQ_end fun a ha => ⟨(), ha.sb, trivial⟩
    simp only [List.take, List.drop]
    rintro _ _
    refine VQ_to (fun _ _ => rfl) (fun w180 hk181 => ?_)
    have ht182 := Kp.tr hk181 hA hB; replace hH := Hp.kp hH hk181; replace h11 := El.tr h11 ht182; replace h138 := El.tr h138 ht182; replace hK := Tt hK ht182; replace hr117 := Tt hr117 ht182; replace hB := Bx hB ht182; replace hA := ht182.new
    refine Cc (fun hc183 => ?_) fun hc183 => ?_
    ·rw [if_pos hc183] at ho115
     refine Sr (As (To ?_))
     obtain rfl := Oi ho115
     rw [Lp.andThen_rt] at h107
     obtain rfl := Oi h107
     obtain rfl := (h108 : Lp.rt _ = _)
     rw [Lp.andThen_rt] at hm
     obtain rfl := Oi hm
     refine Rt (Res.one results13 rfl) ?_
     exact ⟨rfl, hK.kp⟩
    rw [if_neg (nt hc183)] at ho115
    refine Sk ?_
    refine Sr ?_
    have h184 := El_know_Term_1 h138
    refine Fa underlying83 rfl sizeOf81 ?_
    obtain ⟨v185, h186, h187⟩ := El.list h184
    refine Ld h186 isAgg81 (Vy (Y_lenSl h187 rfl underlying81 rfl) (Mm (To ?_)))
    have hn208 := Sl.le h187
    obtain ⟨o188, ho188, ho115⟩ := Bs ho115
    refine C_cutG (ι := (Unit × (Nat → Prop))) (fun ⟨s189, A195⟩ => [(1, Pt b7), (70, v90), (71, Ii (x.terms.length : Int)), (72, Ii (k96 : Int))]) (fun ⟨s189, A195⟩ => fun w' => o188 = .fin s189 ∧ Hp w.heap.size A195 w' (o_9 v143 x142 :: []) ∧ Tr Dw w.heap.size A147 w180 A195 w') ?_ ?_
    ·refine C_block ?_
     refine C_range ho188 (fun k191 _ a w' => ∃ i : (Nat → Prop), Has ⟨174, [], none⟩ a ([(1, Pt b7), (6, Pt b130), (70, v90), (71, Ii (x.terms.length : Int)), (72, Ii (k96 : Int)), (112, v185), (113, Ii (x123.list_.length : Int)), (114, Ii (k191 : Int))]) ∧ Hp w.heap.size i w' (o_9 v143 x142 :: []) ∧ Tr Dw w.heap.size A147 w180 i w') (fun a ha => ⟨A147, ha.sb, ⟨hH, Tr.refl (Dw := Dw) hA⟩⟩) ?_
     rintro K k191 _ a w198 ⟨A199, ha333, hH200, hr190⟩ hle204 K207 h206
     refine C_of ?_ ha333
     replace h11 := El.tr h11 hr190; replace h138 := El.tr h138 hr190; replace h187 := Sl.tr h187 hr190; replace hK := Tt hK hr190; replace hB := Bx hB hr190; replace hA := hr190.new
     replace hH : Hp _ _ _ (o_9 v143 x142 :: []) := hH200
     refine Sr (Vy (Y_lss rfl rfl) (To ?_))
     refine C_seq ?_
     refine Cc (fun hc209 => ?_) fun hc209 => ?_
     ·have hlt205 := lt_of_dec hc209
      obtain ⟨x201, h202, h203⟩ := K207 hlt205
      refine Sk ?_
      refine C_seq ?_
      obtain ⟨o210, ho210, h202⟩ := Bs h202
      refine C_cutG (ι := (Unit × (Nat → Prop))) (fun ⟨s211, A216⟩ => [(1, Pt b7), (6, Pt b130), (70, v90), (71, Ii (x.terms.length : Int)), (72, Ii (k96 : Int)), (112, v185), (113, Ii (x123.list_.length : Int)), (114, Ii (k191 : Int))]) (fun ⟨s211, A216⟩ => fun w' => o210 = .fin s211 ∧ Hp w.heap.size A216 w' (o_9 v143 x142 :: []) ∧ Tr Dw w.heap.size A199 w198 A216 w') ?_ ?_
      ·have hr212 : Tr Dw w.heap.size A199 w198 A199 w198 := Tr.refl (Dw := Dw) hA
       refine C_block (Sr (Mm ?_))
       obtain ⟨x218, hx218, ho210⟩ := Bs ho210
       refine V_indexAddr h187 hx218 underlying81 sizeOf86 rfl rfl rfl ?_
       intro b219 o220 h221
       obtain ⟨v222, v224, h226, h223, h225⟩ := El_know_Posting h221
       refine Vy (Y_loadA h226 isAgg86 sizeOf86 rfl) ?_
       refine V_alloc zeroValue86 rfl ?_
       intro b227 w228 h229
       refine As ?_
       have h234 : (v222).oneCell' = true := by obtain ⟨_, _, e, _⟩ := Sl.form h223; rw [e]; rfl
       have h237 : (v224).oneCell' = true := by obtain ⟨_, _, e, _⟩ := Sl.form h225; rw [e]; rfl
       refine Sn h229 sizeOf86 ?_
       intro w230 h231
       have hk239 := h231.kp (Dw := Dw)
       have h238 : El (α := know_Posting) A199 w230 b227 0 x218 := h231.el hA ⟨[Ii x218.id_], _, rfl, rfl, ⟨[v222], _, rfl, ⟨_, rfl, h223⟩, ⟨_, rfl, h225⟩⟩⟩
       have ht240 := Kp.tr hk239 hA hB; replace hH := Hp.kp hH hk239; replace h11 := El.tr h11 ht240; replace h138 := El.tr h138 ht240; replace hK := Tt hK ht240; replace hr212 := Tt hr212 ht240; replace hB := Bx hB ht240; replace hA := ht240.new
       refine To ?_
       refine Sr ?_
       have h241 := El_know_Index_0 h11
       refine Fa underlying26 rfl sizeOf23 ?_
       obtain ⟨v242, h243, h244⟩ := El.list h241
       refine Ld h243 isAgg23 ?_
       have h245 := El_know_Posting_0 h238
       refine Fa underlying86 rfl sizeOf3 (Li h245 isAgg3 ?_)
       obtain ⟨x246, hx246, ho210⟩ := Bs ho210
       refine Vc call68 (slices_Index_Lint_int_c w230 x.ids v242 h244 x218.id_ hx246) ?_
       rintro _ _ ⟨rfl, rfl⟩
       refine As (To ?_)
       refine C_seq (C_block (Sr (Mm (Vy (Y_lss rfl rfl) (As (To ?_))))))
       refine Cc (fun hc247 => ?_) fun hc247 => ?_
       ·rw [if_pos hc247] at ho210
        refine Sr (As (To ?_))
        obtain rfl := Oi ho210
        rw [Lp.andThen_rt] at h202
        obtain rfl := Oi h202
        obtain rfl := (h203 : Lp.rt _ = _)
        rw [Lp.andThen_rt] at ho115
        obtain rfl := Oi ho115
        rw [Lp.andThen_rt] at h107
        obtain rfl := Oi h107
        obtain rfl := (h108 : Lp.rt _ = _)
        rw [Lp.andThen_rt] at hm
        obtain rfl := Oi hm
        refine Rt (Res.one results13 rfl) ?_
        exact ⟨rfl, hK.kp⟩
       rw [if_neg (nt hc247)] at ho210
       refine C_seq ?_
       refine C_region_q (Dw := Dw) Tryz_mixed (by kernel_rfl) ?_
       refine Qm (Qv (fun w' hw' => Y_gtr rfl rfl) (Qm ?_))
       obtain ⟨s249, hs249, ho210⟩ := Bs ho210
       refine VQ_cut 11 (fun _ : Unit => [(1, Pt b7), (6, Pt b130), (9, Pt b227), (10, Ii x246), (70, v90), (71, Ii (x.terms.length : Int)), (72, Ii (k96 : Int)), (112, v185), (113, Ii (x123.list_.length : Int)), (114, Ii (k191 : Int)), (141, .bool s249)]) (fun _ => True) ?_ ?_
       ·simp only [List.take, List.drop]
        rcases Be (decide ((0 : Int) < (k191 : Int))) with hc248 | hc248
        ·rw [if_pos hc248] at hs249
         refine Qh hc248 ?_
         have h250 := El_know_Posting_0 h238
         refine Qf underlying86 rfl sizeOf3 (Qh hc248 (Qi h250 isAgg3 (Qh hc248 ?_)))
         have h251 := El_know_Term_1 h138
         refine Qf underlying83 rfl sizeOf81 (Qh hc248 ?_)
         obtain ⟨v252, h253, h254⟩ := El.list h251
         refine Qc h253 isAgg81 (Qh hc248 (Qm (Qh hc248 (Qv (fun w' hw' => Y_subI rfl rfl) (Qh hc248 ?_)))))
         obtain ⟨x255, hx255, hs249⟩ := Bs hs249
         refine VQ_indexAddr h254 hx255 underlying81 sizeOf86 rfl rfl rfl ?_
         intro b256 o257 h258
         refine Qh hc248 ?_
         have h259 := El_know_Posting_0 h258
         refine Qf underlying86 rfl sizeOf3 (Qh hc248 (Qi h259 isAgg3 (Qh hc248 (Qv (fun w' hw' => Y_leq rfl rfl) ?_))))
         refine VQ_y (fun _ _ => Y_pick_te rfl hc248 rfl) rfl rfl rfl ?_
         obtain rfl := Oi hs249
         exact VQ_end fun a ha => ⟨(), ha.sb, trivial⟩
        rw [if_neg (nt hc248)] at hs249
        refine Qg hc248 (Qg hc248 (Qg hc248 (Qg hc248 (Qg hc248 (Qg hc248 (Qg hc248 (Qg hc248 (Qg hc248 (Qg hc248 ?_)))))))))
        refine VQ_y (fun _ _ => Y_pick_fe rfl hc248 rfl) rfl rfl rfl ?_
        obtain rfl := Oi hs249
        exact VQ_end fun a ha => ⟨(), ha.sb, trivial⟩
       simp only [List.take, List.drop]
       rintro _ _
       refine Qa ?_
       refine VQ_to (fun _ _ => rfl) (fun w260 hk261 => ?_)
       have ht262 := Kp.tr hk261 hA hB; replace hH := Hp.kp hH hk261; replace h11 := El.tr h11 ht262; replace h238 := El.tr h238 ht262; replace hK := Tt hK ht262; replace hr212 := Tt hr212 ht262; replace hB := Bx hB ht262; replace hA := ht262.new
       refine Cc (fun hc263 => ?_) fun hc263 => ?_
       ·rw [if_pos hc263] at ho210
        refine Sr (As (To ?_))
        obtain rfl := Oi ho210
        rw [Lp.andThen_rt] at h202
        obtain rfl := Oi h202
        obtain rfl := (h203 : Lp.rt _ = _)
        rw [Lp.andThen_rt] at ho115
        obtain rfl := Oi ho115
        rw [Lp.andThen_rt] at h107
        obtain rfl := Oi h107
        obtain rfl := (h108 : Lp.rt _ = _)
        rw [Lp.andThen_rt] at hm
        obtain rfl := Oi hm
        refine Rt (Res.one results13 rfl) ?_
        exact ⟨rfl, hK.kp⟩
       rw [if_neg (nt hc263)] at ho210
       refine Sr ?_
       have h264 := El_know_Posting_1 h238
       refine Fa underlying86 rfl sizeOf23 ?_
       obtain ⟨v265, h266, h267⟩ := El.list h264
       refine Ld h266 isAgg23 (Vy (Y_lenSl h267 rfl underlying23 rfl) ?_)
       have h268 := El_know_Posting_2 h238
       refine Fa underlying86 rfl sizeOf23 ?_
       obtain ⟨v269, h270, h271⟩ := El.list h268
       refine Ld h270 isAgg23 (Vy (Y_lenSl h271 rfl underlying23 rfl) (Vy (Y_addI rfl rfl) (Vy (Y_eql rfl rfl) (As (To ?_)))))
       refine Cc (fun hc272 => ?_) fun hc272 => ?_
       ·rw [if_pos hc272] at ho210
        refine Sr (As (To ?_))
        obtain rfl := Oi ho210
        rw [Lp.andThen_rt] at h202
        obtain rfl := Oi h202
        obtain rfl := (h203 : Lp.rt _ = _)
        rw [Lp.andThen_rt] at ho115
        obtain rfl := Oi ho115
        rw [Lp.andThen_rt] at h107
        obtain rfl := Oi h107
        obtain rfl := (h108 : Lp.rt _ = _)
        rw [Lp.andThen_rt] at hm
        obtain rfl := Oi hm
        refine Rt (Res.one results13 rfl) ?_
        exact ⟨rfl, hK.kp⟩
       rw [if_neg (nt hc272)] at ho210
       refine Sk ?_
       refine Sr ?_
       have h273 := El_know_Posting_1 h238
       refine Fa underlying86 rfl sizeOf23 ?_
       obtain ⟨v274, h275, h276⟩ := El.list h273
       refine Ld h275 isAgg23 ?_
       have h277 := El_know_Posting_2 h238
       refine Fa underlying86 rfl sizeOf23 ?_
       obtain ⟨v278, h279, h280⟩ := El.list h277
       refine Ld h279 isAgg23 ?_
       refine V_buildSlice (Dw := Dw) (cells := #[v274, v278]) (l := ([x218.title, x218.body] : List (List Int))) (len := 2) underlying167 sizeOf23 zeroValue23 rfl (by obtain ⟨a285, c286, e287, _⟩ := Sl.form h276; subst e287; obtain ⟨a288, c289, e290, _⟩ := Sl.form h280; subst e290; kernel_rfl) (show (2 * 1 : Nat) ≠ 0 by decide) (show (2 * 1 : Nat) ≤ 2 ^ 24 by decide) hA ⟨[v274], _, rfl, ⟨_, rfl, h276⟩, ⟨[v278], _, rfl, ⟨_, rfl, h280⟩, rfl⟩⟩ rfl rfl ?_
       intro v281 w282 hk284 h283
       have ht291 := Kp.tr hk284 hA hB; replace hH := Hp.kp hH hk284; replace h11 := El.tr h11 ht291; replace hK := Tt hK ht291; replace hr212 := Tt hr212 ht291
       refine Vy (Y_lenSl h283 rfl underlying167 rfl) (Mm (To ?_))
       have hn308 := Sl.le h283
       obtain ⟨o292, ho292, ho210⟩ := Bs ho210
       refine C_cutG (ι := Unit) (fun (s293 : Unit) => [(1, Pt b7), (6, Pt b130), (70, v90), (71, Ii (x.terms.length : Int)), (72, Ii (k96 : Int)), (112, v185), (113, Ii (x123.list_.length : Int)), (114, Ii (k191 : Int))]) (fun (s293 : Unit) => fun w' => o292 = .fin s293 ∧ w282 = w') ?_ ?_
       ·refine C_block ?_
        refine C_range ho292 (fun k295 _ a w' => ∃ i : Unit, Has ⟨174, [], none⟩ a ([(1, Pt b7), (6, Pt b130), (10, Ii x246), (70, v90), (71, Ii (x.terms.length : Int)), (72, Ii (k96 : Int)), (112, v185), (113, Ii (x123.list_.length : Int)), (114, Ii (k191 : Int)), (155, v281), (156, Ii (([x218.title, x218.body] : List (List Int)).length : Int)), (157, Ii (k295 : Int))]) ∧ w282 = w') (fun a ha => ⟨(), ha.sb, rfl⟩) ?_
        rintro K k295 _ a _ ⟨_, ha329, rfl⟩ hle304 K307 h306
        refine C_of ?_ ha329
        refine Sr (Vy (Y_lss rfl rfl) (To ?_))
        refine C_seq ?_
        refine Cc (fun hc309 => ?_) fun hc309 => ?_
        ·have hlt305 := lt_of_dec hc309
         obtain ⟨x301, h302, h303⟩ := K307 hlt305
         refine Sk ?_
         refine C_seq (C_block (Sr ?_))
         obtain ⟨x310, hx310, h302⟩ := Bs h302
         refine V_indexAddr h283 hx310 underlying167 sizeOf23 rfl rfl rfl ?_
         intro b311 o312 h313
         obtain ⟨v314, h315, h316⟩ := El.list h313
         refine Ld h315 isAgg23 (As (To ?_))
         refine Sr (Mm ?_)
         have h317 := El_know_Index_1 h11
         refine Fa underlying26 rfl sizeOf23 ?_
         obtain ⟨v318, h319, h320⟩ := El.list h317
         refine Ld h319 isAgg23 (Mm ?_)
         obtain ⟨x321, hx321, h302⟩ := Bs h302
         refine V_indexAddr h320 hx321 underlying23 sizeOf3 rfl rfl rfl ?_
         intro b322 o323 h324
         refine Li h324 isAgg3 ?_
         obtain ⟨x325, hx325, h302⟩ := Bs h302
         refine Vc call69 (portref2_positionsFault_c w282 x310 v314 h316 x321 hx325) ?_
         rintro _ _ ⟨rfl, rfl⟩
         refine As (To ?_)
         refine Sr (Mm (Vy (Y_neq rfl rfl) (To ?_)))
         refine Cc (fun hc326 => ?_) fun hc326 => ?_
         ·rw [if_pos hc326] at h302
          refine Sr (Mm (As (To ?_)))
          obtain rfl := Oi h302
          obtain rfl := (h303 : Lp.rt _ = _)
          rw [Lp.andThen_rt] at ho210
          obtain rfl := Oi ho210
          rw [Lp.andThen_rt] at h202
          obtain rfl := Oi h202
          obtain rfl := (h203 : Lp.rt _ = _)
          rw [Lp.andThen_rt] at ho115
          obtain rfl := Oi ho115
          rw [Lp.andThen_rt] at h107
          obtain rfl := Oi h107
          obtain rfl := (h108 : Lp.rt _ = _)
          rw [Lp.andThen_rt] at hm
          obtain rfl := Oi hm
          refine Rt (Res.one results13 rfl) ?_
          exact ⟨rfl, hK.kp⟩
         rw [if_neg (nt hc326)] at h302
         refine Sk ?_
         refine C_region (Vy (Y_addI rfl rfl) (Mm ?_))
         obtain rfl := Oi h302
         refine V_end (fun a ha327 => ?_)
         exact ⟨(), hlt305, h303, ⟨(), ha327.sub ⟨rfl, rfl, rfl, rfl, rfl, rfl, rfl, rfl, rfl, rfl, rfl, Ws hlt305 hn308, trivial⟩, rfl⟩⟩
        refine C_exit (fun a ha328 => ?_)
        exact ⟨(), ha328.sb, ⟨(h306 (eq_of_dec hle304 hc309)).symm, rfl⟩⟩
       rintro s293 _ ⟨rfl, rfl⟩ a ha298
       rw [Lp.andThen_fin] at ho210
       obtain rfl := Oi ho210
       exact ⟨((), A199), ha298.sb, ⟨rfl, hH, hr212⟩⟩
      rintro ⟨s211, A216⟩ w213 ⟨rfl, hH217, hk214⟩ a ha215
      rw [Lp.andThen_fin] at h202
      replace hr190 := Tr.trans hr190 hk214; replace hA := hk214.new
      replace hH : Hp _ _ _ (o_9 v143 x142 :: []) := hH217
      refine C_at (n := ⟨174, [], none⟩) (fun _ _ => rfl) ?_ ha215
      refine C_region (Vy (Y_addI rfl rfl) (Mm ?_))
      obtain rfl := Oi h202
      refine V_end (fun a ha331 => ?_)
      exact ⟨(), hlt205, h203, ⟨A216, ha331.sub ⟨rfl, rfl, rfl, rfl, rfl, rfl, rfl, Ws hlt205 hn208, trivial⟩, ⟨hH, hr190⟩⟩⟩
     refine C_exit (fun a ha332 => ?_)
     exact ⟨((), A199), ha332.sb, ⟨(h206 (eq_of_dec hle204 hc209)).symm, hH, hr190⟩⟩
    rintro ⟨s189, A195⟩ w192 ⟨rfl, hH196, hk193⟩ a ha194
    rw [Lp.andThen_fin] at ho115
    replace hr117 := Tr.trans hr117 hk193; replace hA := hk193.new
    replace hH : Hp _ _ _ (o_9 v143 x142 :: []) := hH196
    obtain rfl := Oi ho115
    replace hH : Hp w.heap.size A195 w192 ([]) := Hp.drop hH (i := 0) rfl
    exact ⟨((), A195), ha194.sb, ⟨rfl, hH, hr117⟩⟩
   rintro ⟨s116, A121⟩ w118 ⟨rfl, hH122, hk119⟩ a ha120
   rw [Lp.andThen_fin] at h107
   replace hr95 := Tr.trans hr95 hk119; replace hA := hk119.new; replace hH := hH122
   refine C_at (n := ⟨174, [], none⟩) (fun _ _ => rfl) ?_ ha120
   refine C_region (Vy (Y_addI rfl rfl) (Mm ?_))
   obtain rfl := Oi h107
   refine V_end (fun a ha335 => ?_)
   exact ⟨(), hlt110, h108, ⟨A121, ha335.sub ⟨rfl, rfl, rfl, Ws hlt110 hn113, trivial⟩, ⟨hH, hr95⟩⟩⟩
  refine C_exit (fun a ha336 => ?_)
  exact ⟨((), A104), ha336.sub trivial, ⟨(h111 (eq_of_dec hle109 hc114)).symm, hH, hr95⟩⟩
 rintro ⟨s94, A100⟩ w97 ⟨rfl, hH101, hk98⟩ a ha99
 rw [Lp.andThen_fin] at hm
 replace hK := Tr.trans hK hk98; replace hA := hk98.new; replace hH := hH101
 refine C_at (n := ⟨174, [], none⟩) (fun _ _ => rfl) ?_ ha99
 refine Sr (As (To ?_))
 obtain rfl := Oi hm
 refine Rt (Res.one results13 rfl) ?_
 exact ⟨rfl, hK.kp⟩
def Tryz_strings_ReplaceAll_lay_ren : Go.Shelf.Ren := ⟨fun | 138 => 138 | 143 => 140 | 154 => 109 | 155 => 79 | 165 => 139 | 166 => 141 | 169 => 143 | 195 => 171 | 197 => 142 | 217 => 188 | 218 => 172 | 219 => 175 | 224 => 190 | 225 => 189 | 240 => 173 | 241 => 174 | 260 => 176 | 266 => 195 | 267 => 191 | 276 => 186 | 277 => 187 | 314 => 196 | n => n, fun | 0 => 0 | 1 => 1 | 2 => 2 | 3 => 3 | 4 => 4 | 5 => 5 | 6 => 6 | 7 => 7 | 8 => 8 | 9 => 9 | 10 => 10 | 11 => 11 | 12 => 12 | 13 => 13 | 14 => 14 | 15 => 15 | 16 => 16 | 17 => 17 | 18 => 18 | 19 => 19 | 20 => 20 | 21 => 21 | 22 => 208 | 23 => 207 | 27 => 160 | 28 => 23 | 29 => 162 | 30 => 166 | 31 => 73 | 34 => 79 | 35 => 252 | 37 => 227 | 40 => 205 | 41 => 198 | 43 => 157 | 46 => 191 | 47 => 196 | 51 => 219 | 52 => 218 | 53 => 221 | 54 => 220 | 55 => 263 | 63 => 265 | 64 => 280 | 65 => 206 | 66 => 177 | 68 => 164 | 69 => 182 | 70 => 229 | 71 => 230 | 72 => 231 | 73 => 232 | 74 => 233 | 75 => 234 | 76 => 235 | 77 => 236 | 80 => 239 | 81 => 289 | 100 => 183 | 101 => 76 | 103 => 262 | 104 => 176 | 105 => 237 | 106 => 238 | 111 => 193 | 112 => 192 | 114 => 275 | 115 => 241 | 116 => 242 | 117 => 243 | 118 => 244 | 119 => 276 | 122 => 240 | 123 => 245 | 124 => 246 | 127 => 264 | 131 => 150 | 135 => 209 | 137 => 277 | 138 => 278 | 139 => 279 | 146 => 282 | 151 => 283 | 155 => 261 | 164 => 272 | 165 => 273 | 166 => 274 | 182 => 212 | 183 => 213 | 188 => 247 | 189 => 248 | 190 => 249 | 191 => 250 | 192 => 251 | 218 => 253 | 219 => 254 | 220 => 255 | 222 => 257 | 224 => 266 | 225 => 267 | 228 => 268 | 229 => 269 | 231 => 281 | 238 => 284 | 239 => 285 | 240 => 286 | 241 => 287 | 242 => 288 | 243 => 290 | 244 => 291 | 245 => 292 | 246 => 293 | 247 => 294 | 248 => 295 | 249 => 296 | n => n, fun | 1 => 0 | 3 => 1 | 4 => 2 | n => n⟩
theorem Tryz_strings_ReplaceAll_lay : Go.Proofs.Lays.n155 Tryz.prog Tryz_strings_ReplaceAll_lay_ren := {
  mixed := by kernel_rfl,
  f138 := Tryz.func138.trans (congrArg some (by kernel_rfl)),
  f143 := Tryz.func140.trans (congrArg some (by kernel_rfl)),
  f154 := Tryz.func109.trans (congrArg some (by kernel_rfl)),
  f155 := Tryz.func79.trans (congrArg some (by kernel_rfl)),
  f165 := Tryz.func139.trans (congrArg some (by kernel_rfl)),
  f166 := Tryz.func141.trans (congrArg some (by kernel_rfl)),
  f169 := Tryz.func143.trans (congrArg some (by kernel_rfl)),
  f195 := Tryz.func171.trans (congrArg some (by kernel_rfl)),
  f197 := Tryz.func142.trans (congrArg some (by kernel_rfl)),
  f217 := Tryz.func188.trans (congrArg some (by kernel_rfl)),
  f218 := Tryz.func172.trans (congrArg some (by kernel_rfl)),
  f219 := Tryz.func175.trans (congrArg some (by kernel_rfl)),
  f224 := Tryz.func190.trans (congrArg some (by kernel_rfl)),
  f225 := Tryz.func189.trans (congrArg some (by kernel_rfl)),
  f240 := Tryz.func173.trans (congrArg some (by kernel_rfl)),
  f241 := Tryz.func174.trans (congrArg some (by kernel_rfl)),
  f260 := Tryz.func176.trans (congrArg some (by kernel_rfl)),
  f266 := Tryz.func195.trans (congrArg some (by kernel_rfl)),
  f267 := Tryz.func191.trans (congrArg some (by kernel_rfl)),
  f276 := Tryz.func186.trans (congrArg some (by kernel_rfl)),
  f277 := Tryz.func187.trans (congrArg some (by kernel_rfl)),
  f314 := Tryz.func196.trans (congrArg some (by kernel_rfl)),
  t0 := Tryz.underlying0,
  a0 := Tryz.isAgg0,
  z0 := Tryz.sizeOf0,
  v0 := Tryz.zeroValue0,
  t3 := Tryz.underlying3,
  a3 := Tryz.isAgg3,
  z3 := Tryz.sizeOf3,
  v3 := Tryz.zeroValue3,
  t4 := Tryz.underlying4,
  a4 := Tryz.isAgg4,
  z4 := Tryz.sizeOf4,
  v4 := Tryz.zeroValue4,
  t5 := Tryz.underlying5,
  a5 := Tryz.isAgg5,
  z5 := Tryz.sizeOf5,
  v5 := Tryz.zeroValue5,
  t9 := Tryz.underlying9,
  a9 := Tryz.isAgg9,
  z9 := Tryz.sizeOf9,
  v9 := Tryz.zeroValue9,
  t20 := Tryz.underlying20,
  a20 := Tryz.isAgg20,
  z20 := Tryz.sizeOf20,
  v20 := Tryz.zeroValue20,
  t21 := Tryz.underlying21,
  a21 := Tryz.isAgg21,
  z21 := Tryz.sizeOf21,
  v21 := Tryz.zeroValue21,
  t37 := Tryz.underlying227,
  a37 := Tryz.isAgg227,
  z37 := Tryz.sizeOf227,
  v37 := Tryz.zeroValue227,
  t46 := Tryz.underlying191,
  a46 := Tryz.isAgg191,
  z46 := Tryz.sizeOf191,
  v46 := Tryz.zeroValue191,
  t51 := Tryz.underlying219,
  a51 := Tryz.isAgg219,
  z51 := Tryz.sizeOf219,
  v51 := Tryz.zeroValue219,
  t70 := Tryz.underlying229,
  a70 := Tryz.isAgg229,
  z70 := Tryz.sizeOf229,
  v70 := Tryz.zeroValue229,
  t72 := Tryz.underlying231,
  a72 := Tryz.isAgg231,
  z72 := Tryz.sizeOf231,
  v72 := Tryz.zeroValue231,
  t75 := Tryz.underlying234,
  a75 := Tryz.isAgg234,
  z75 := Tryz.sizeOf234,
  v75 := Tryz.zeroValue234,
  t76 := Tryz.underlying235,
  a76 := Tryz.isAgg235,
  z76 := Tryz.sizeOf235,
  v76 := Tryz.zeroValue235,
  t105 := Tryz.underlying237,
  a105 := Tryz.isAgg237,
  z105 := Tryz.sizeOf237,
  v105 := Tryz.zeroValue237,
  t119 := Tryz.underlying276,
  a119 := Tryz.isAgg276,
  z119 := Tryz.sizeOf276,
  t127 := Tryz.underlying264,
  a127 := Tryz.isAgg264,
  z127 := Tryz.sizeOf264,
  v127 := Tryz.zeroValue264,
  t138 := Tryz.underlying278,
  a138 := Tryz.isAgg278,
  z138 := Tryz.sizeOf278,
  v138 := Tryz.zeroValue278,
  t139 := Tryz.underlying279,
  a139 := Tryz.isAgg279,
  z139 := Tryz.sizeOf279,
  v139 := Tryz.zeroValue279,
  t146 := Tryz.underlying282,
  a146 := Tryz.isAgg282,
  z146 := Tryz.sizeOf282,
  v146 := Tryz.zeroValue282,
  t164 := Tryz.underlying272,
  a164 := Tryz.isAgg272,
  z164 := Tryz.sizeOf272,
  v164 := Tryz.zeroValue272,
  g1 := by kernel_rfl,
  g3 := by kernel_rfl,
  g4 := by kernel_rfl }
theorem Tryz_strings_ReplaceAll_lay_x : Go.Proofs.Builder.Extra Tryz.prog Tryz_strings_ReplaceAll_lay_ren := {
  sizeBuilder := by kernel_rfl
  liesBuilder := by kernel_rfl
  t5 := Tryz.underlying5
  a5 := Tryz.isAgg5
  z5 := Tryz.sizeOf5
  v5 := Tryz.zeroValue5
  infoByte := by kernel_rfl
  cellsByte := by kernel_rfl
  sizeByte := by kernel_rfl
  neB5 := (by decide : (231 : Nat) ≠ 5) }
theorem strings_ReplaceAll_c (w : World) {A : Nat → Prop} (hA : ∀ b, w.heap.size ≤ b → A b) (hT : Mx Tryz.prog 0 A w) (s : ByteArray) (old : ByteArray) (new : ByteArray) {r : ByteArray} (hm : strings_ReplaceAll s old new = some r) : Ret Tryz.prog 79 #[.string s, .string old, .string new] w fun v w' => v = .string r ∧ Kp False w w' := by
  unfold strings_ReplaceAll at hm
  split at hm
  case isFalse => cases hm
  rename_i h
  obtain rfl := Option.some.inj hm
  obtain ⟨⟨m, hmx⟩, _, _⟩ := hT
  refine Calls.mono (Go.Proofs.Any.strings_ReplaceAll Tryz_strings_ReplaceAll_lay Tryz_strings_ReplaceAll_lay_x s old new m w h.1 hmx h.2.1 h.2.2) ?_
  rintro _ w' ⟨rfl, hk⟩
  exact ⟨_, rfl, rfl, .of hk⟩
theorem portref2_lowByte_1_c (w : World) (r_ : Int) : Ret prog 108 #[.int .i32 r_] w fun v w' => v = .bool (portref2_lowByte_1 r_) ∧ w = w' := by
 generalize hm : portref2_lowByte_1 r_ = r
 unfold portref2_lowByte_1 at hm
 refine enter func108 rfl ntmps108 rfl ?_
 refine Sr (As (To ?_))
 refine Sr (Mm (Vy (Y_lss rfl rfl) (Mm ?_)))
 refine V_cut 3 (fun _ : Unit => [(8, .bool ((decide (r_ < 32)) || (r_ == 127)))]) (fun _ w' => w = w') ?_ ?_
 ·simp only [List.take, List.drop]
  rcases Be (decide (r_ < 32)) with hc1 | hc1
  ·refine Gm hc1 (Gm hc1 (Vy (Y_pick_te rfl hc1 rfl) ?_))
   exact V_end fun a ha => ⟨(), ha.sub ⟨(by rw [hc1]; rfl), trivial⟩, rfl⟩
  refine Gf hc1 (Mm (Gf hc1 (Vy (Y_eql rfl rfl) (Vy (Y_pick_fe rfl hc1 rfl) ?_))))
  exact V_end fun a ha => ⟨(), ha.sub ⟨(by rw [hc1]; rfl), trivial⟩, rfl⟩
 simp only [List.take, List.drop]
 rintro _ _ rfl
 refine As (To ?_)
 obtain rfl := hm
 refine Rt (Res.one results108 rfl) ?_
 exact ⟨rfl, rfl⟩
theorem portref2_lowByte_c (w : World) {A : Nat → Prop} (hA : ∀ b, w.heap.size ≤ b → A b) (s : ByteArray) {r : Bool} (hm : portref2_lowByte s = some r) : Ret prog 78 #[.string s] w fun v w' => v = .bool r ∧ Kp False w w' := by
 unfold portref2_lowByte at hm
 refine enter func78 rfl ntmps78 rfl ?_
 have hA0 := hA
 obtain ⟨hB, hK, hH⟩ := St (Dw := False) hA
 refine Sr (As (To ?_))
 refine Sr (Mm ?_)
 refine Vc call107 (contains_wrap (Go.Proofs.Any.strings_ContainsFunc_grows Tryz_contains_lay 108 #[] (fun args w => call108 args w) (fun y => portref2_lowByte_1 (y : Int)) s w (fun W x _ _ => Calls.mono (portref2_lowByte_1_c W (x : Int)) fun _ _ h => contains_fn h))) ?_
 rintro _ w1 ⟨rfl, hk2⟩
 have ht3 := Kp.tr hk2 hA hB; replace hK := Tt hK ht3
 refine As (To ?_)
 obtain rfl := Oi hm
 refine Rt (Res.one results78 rfl) ?_
 exact ⟨rfl, hK.kp⟩
theorem portref2_entryFault_c (w : World) {A : Nat → Prop} (hA : ∀ b, w.heap.size ≤ b → A b) (hT : Mx prog 0 A w) (v : know_Entry) {r : Int} (hm : portref2_entryFault v = some r) : Ret prog 16 #[.agg #[Ii v.id_, .string v.title, .string v.body]] w fun v w' => v = Ii r ∧ Kp False w w' := by
 unfold portref2_entryFault at hm
 refine enter func16 rfl ntmps16 rfl ?_
 have hA0 := hA
 obtain ⟨hB, hK, hH⟩ := St (Dw := False) hA
 refine Sr ?_
 refine V_box rfl rfl ?_
 intro b1 w2 h3
 have hk5 := h3.kp (Dw := False)
 have h4 : El (α := know_Entry) A w2 b1 0 v := h3.el hA ⟨[Ii v.id_], _, rfl, rfl, ⟨[.string v.title], _, rfl, rfl, rfl⟩⟩
 have ht6 := Kp.tr hk5 hA hB; replace hH := Hp.kp hH hk5; replace hK := Tt hK ht6; replace hB := Bx hB ht6; replace hA := ht6.new
 refine As (To ?_)
 refine C_seq (C_block (Sr ?_))
 have h7 := El_know_Entry_1 h4
 refine Fa underlying33 rfl sizeOf9 (Ld (El.str h7) isAgg9 (Vy (Y_lenStr rfl underlying9 rfl) (Vy (Y_gtr rfl rfl) (Mm ?_))))
 refine V_cut 5 (fun _ : Unit => [(1, Pt b1), (13, .bool ((decide ((200 : Int) < (v.title.size : Int))) || (decide ((20000 : Int) < (v.body.size : Int)))))]) (fun _ w' => w2 = w') ?_ ?_
 ·simp only [List.take, List.drop]
  rcases Be (decide ((200 : Int) < (v.title.size : Int))) with hc8 | hc8
  ·refine Gm hc8 (Gm hc8 (Gm hc8 (Gm hc8 (Vy (Y_pick_te rfl hc8 rfl) ?_))))
   exact V_end fun a ha => ⟨(), ha.sub ⟨rfl, (by rw [hc8]; rfl), trivial⟩, rfl⟩
  refine Gf hc8 ?_
  have h10 := El_know_Entry_2 h4
  refine Fa underlying33 rfl sizeOf9 (Gf hc8 (Ld (El.str h10) isAgg9 (Gf hc8 (Vy (Y_lenStr rfl underlying9 rfl) (Gf hc8 (Vy (Y_gtr rfl rfl) (Vy (Y_pick_fe rfl hc8 rfl) ?_)))))))
  exact V_end fun a ha => ⟨(), ha.sub ⟨rfl, (by rw [hc8]; rfl), trivial⟩, rfl⟩
 simp only [List.take, List.drop]
 rintro _ _ rfl
 refine As (To ?_)
 refine Cc (fun hc11 => ?_) fun hc11 => ?_
 ·rw [if_pos hc11] at hm
  refine Sr (As (To ?_))
  obtain rfl := Oi hm
  refine Rt (Res.one results16 rfl) ?_
  exact ⟨rfl, hK.kp⟩
 rw [if_neg (nt hc11)] at hm
 refine C_seq ?_
 obtain ⟨s13, ho12, hm⟩ := Bs hm
 refine C_cutG (ι := (Nat → Prop)) (fun (A18 : (Nat → Prop)) => [(14, .bool s13)]) (fun (A18 : (Nat → Prop)) => fun w' => Hp w.heap.size A18 w' ([]) ∧ Tr False w.heap.size A w2 A18 w') ?_ ?_
 ·have hr14 : Tr False w.heap.size A w2 A w2 := Tr.refl (Dw := False) hA
  refine C_region ?_
  have h20 := El_know_Entry_1 h4
  refine Fa underlying33 rfl sizeOf9 (Ld (El.str h20) isAgg9 ?_)
  obtain ⟨x21, hx21, ho12⟩ := Bs ho12
  refine Vc call78 (portref2_lowByte_c w2 hA v.title hx21) ?_
  rintro _ w22 ⟨rfl, hk23⟩
  have ht24 := Kp.tr hk23 hA hB; replace hH := Hp.kp hH hk23; replace h4 := El.tr h4 ht24; replace hK := Tt hK ht24; replace hr14 := Tt hr14 ht24; replace hB := Bx hB ht24; replace hA := ht24.new
  refine Mm ?_
  rcases Be (x21) with hc25 | hc25
  ·rw [if_pos hc25] at ho12
   refine Gm hc25 (Gm hc25 (Gm hc25 (Gm hc25 (Vy (Y_pick_te rfl hc25 rfl) (As ?_)))))
   obtain rfl := Oi ho12
   refine V_end (fun a ha26 => ?_)
   exact ⟨A, ha26.sb, ⟨hH, hr14⟩⟩
  rw [if_neg (nt hc25)] at ho12
  refine Gf hc25 ?_
  have h27 := El_know_Entry_2 h4
  refine Fa underlying33 rfl sizeOf9 (Gf hc25 (Ld (El.str h27) isAgg9 (Gf hc25 ?_)))
  obtain ⟨x28, hx28, ho12⟩ := Bs ho12
  refine Vc call79 (strings_ReplaceAll_c w22 hA (Mx.tr (Dw := False) hT hK) v.body (⟨#[10]⟩ : ByteArray) (⟨#[]⟩ : ByteArray) hx28) ?_
  rintro _ w29 ⟨rfl, hk30⟩
  have ht31 := Kp.tr hk30 hA hB; replace hH := Hp.kp hH hk30; replace hr14 := Tt hr14 ht31; replace hB := Bx hB ht31; replace hA := ht31.new
  refine Gf hc25 ?_
  obtain ⟨x32, hx32, ho12⟩ := Bs ho12
  refine Vc call78 (portref2_lowByte_c w29 hA x28 hx32) ?_
  rintro _ w33 ⟨rfl, hk34⟩
  have ht35 := Kp.tr hk34 hA hB; replace hH := Hp.kp hH hk34; replace hr14 := Tt hr14 ht35
  refine Vy (Y_pick_fe rfl hc25 rfl) (As ?_)
  obtain rfl := Oi ho12
  refine V_end (fun a ha36 => ?_)
  exact ⟨A, ha36.sb, ⟨hH, hr14⟩⟩
 rintro A18 w15 ⟨hH19, hk16⟩ a ha17
 replace hK := Tr.trans hK hk16; replace hA := hk16.new; replace hH := hH19
 refine C_at (n := ⟨24, [], none⟩) (fun _ _ => rfl) ?_ ha17
 refine Cc (fun hc37 => ?_) fun hc37 => ?_
 ·rw [if_pos hc37] at hm
  refine Sr (As (To ?_))
  obtain rfl := Oi hm
  refine Rt (Res.one results16 rfl) ?_
  exact ⟨rfl, hK.kp⟩
 rw [if_neg (nt hc37)] at hm
 refine Sk ?_
 refine Sr (As (To ?_))
 obtain rfl := Oi hm
 refine Rt (Res.one results16 rfl) ?_
 exact ⟨rfl, hK.kp⟩
theorem slices_Clone_Lknow_Posting_know_Posting_c (w : World) {A : Nat → Prop} {B : Nat} (hB : B ≤ w.heap.size) (hA : ∀ b, w.heap.size ≤ b → A b) (s : (List know_Posting)) (v_s : Value) (h_s : Sl A w v_s s) {L : List Ob} (hH : Hp B A w (L)) {r : (List know_Posting)} (hm : slices_Clone_Lknow_Posting_know_Posting s = some r) : Ret prog 56 #[v_s] w fun v w' => ∃ s0, ∃ A1 : Nat → Prop, v = s0 ∧ Hp B A1 w' (o_86 s0 r :: L) ∧ Tr Dw B A w A1 w' := by
 unfold slices_Clone_Lknow_Posting_know_Posting at hm
 refine enter func56 rfl ntmps56 rfl ?_
 have hK : Tr Dw B A w A w := Tr.refl (Dw := Dw) hA
 rcases Sl.split h_s with ⟨rfl, rfl⟩ | ⟨a0, n0, c0, rfl⟩
 ·replace hm : some ([] : (List know_Posting)) = some r := by simpa [appendL] using hm
  refine Sr (As (To ?_))
  refine C_seq (Sr (Mm (Vy (Y_eqlNilT rfl rfl underlying81) (To ?_))))
  refine Cc (fun hc => ?_) fun hc => ?_
  ·refine Sr (As (To ?_))
   obtain rfl := Oi hm
   replace hH : Hp B A w (o_86 (.slice none 0 0) ([] : (List know_Posting)) :: L) := Hp.addNil (α := know_Posting) (e := 86) hH
   refine Rt (Res.one results56 rfl) ?_
   exact ⟨.slice none 0 0, A, rfl, hH, hK⟩
  exact absurd hc (by decide)
 refine Sr (As (To ?_))
 refine C_seq (Sr (Mm (Vy (Y_eqlNilF rfl rfl underlying81) (To ?_))))
 refine Cc (fun hc => ?_) fun hc => ?_
 ·exact absurd hc (by decide)
 refine Sk ?_
 refine Sr ?_
 refine V_buildOwn0H (Dw := Dw) (α := know_Posting) hH underlying81 sizeOf86 hB hA rfl ?_
 intro v3 w4 A5 hH6 ht7
 replace h_s := Sl.tr h_s ht7; replace hK := Tt hK ht7; replace hB := Bx hB ht7; replace hA := ht7.new
 replace hH : Hp _ _ _ (o_86 v3 ([] : List know_Posting) :: L) := hH6
 refine Mm ?_
 obtain ⟨x8, hx8, hm⟩ := Bs hm
 refine V_appendH (Dw := Dw) (e := 86) (v := v3) (l := ([] : List know_Posting)) (ti := t86) (bytes := 56) (lim := 2513169434916) hH (i := 0) rfl h_s hx8 underlying81 Tryz_info86 rfl rfl rfl rfl (by decide) (by decide) (by decide) hB hA rfl rfl rfl ?_
 intro v9 w10 A11 hH12 ht13
 replace hK := Tt hK ht13
 replace hH : Hp _ _ _ (o_86 v9 x8 :: L) := hH12
 refine As (To ?_)
 obtain rfl := Oi hm
 refine Rt (Res.one results56 rfl) ?_
 exact ⟨v9, A11, rfl, hH, hK⟩
theorem slices_IndexFunc_Lknow_Posting_know_Posting_c (w : World) {A : Nat → Prop} (hA : ∀ b, w.heap.size ≤ b → A b) (s : (List know_Posting)) (v_s : Value) (h_s : Sl A w v_s s) (f : know_Posting → Option Bool) (f_f : FuncId) (f_a f_c : Array Value) (f_call : ∀ (args : Array Value) (w : World), (callFunc f_f args).run prog w = .ok (.enter f_f args) w) (f_spec : ∀ (w1 : World) (A1 : Nat → Prop), Tr Dw w.heap.size A w A1 w1 → (∀ b, w1.heap.size ≤ b → A1 b) → ∀ (y0 : know_Posting) (v1 : Value) (h2 : Sl A1 w1 v1 y0.title) (v3 : Value) (h4 : Sl A1 w1 v3 y0.body) (r : Bool), f y0 = some r → Ret prog f_f (f_a ++ #[.agg #[Ii y0.id_, v1, v3]] ++ f_c) w1 fun v w' => v = .bool r ∧ Kp Dw w1 w') {r : Int} (hm : slices_IndexFunc_Lknow_Posting_know_Posting s f = some r) : Ret prog 114 #[v_s, .func (.func f_f) f_a f_c] w fun v w' => v = Ii r ∧ Kp Dw w w' := by
 unfold slices_IndexFunc_Lknow_Posting_know_Posting at hm
 refine enter func114 rfl ntmps114 rfl ?_
 have hA0 := hA
 obtain ⟨hB, hK, hH⟩ := St (Dw := Dw) hA
 refine Sr (As (To ?_))
 refine C_seq (Sr (Mm (Vy (Y_lenSl h_s rfl underlying81 rfl) (Mm (To ?_)))))
 have hn23 := Sl.le h_s
 obtain ⟨o3, ho3, hm⟩ := Bs hm
 refine C_cutG (ι := (Unit × (Nat → Prop))) (fun ⟨s4, A10⟩ => []) (fun ⟨s4, A10⟩ => fun w' => o3 = .fin s4 ∧ Hp w.heap.size A10 w' ([]) ∧ Tr Dw w.heap.size A w A10 w') ?_ ?_
 ·refine C_block ?_
  refine C_range ho3 (fun k6 _ a w' => ∃ i : (Nat → Prop), Has ⟨19, [], none⟩ a ([(0, v_s), (1, .func (.func f_f) f_a f_c), (7, Ii (s.length : Int)), (8, Ii (k6 : Int))]) ∧ Hp w.heap.size i w' ([]) ∧ Tr Dw w.heap.size A w i w') (fun a ha => ⟨A, ha.sb, ⟨hH, Tr.refl (Dw := Dw) hA⟩⟩) ?_
  rintro K k6 _ a w13 ⟨A14, ha41, hH15, hr5⟩ hle19 K22 h21
  refine C_of ?_ ha41
  replace h_s := Sl.tr h_s hr5; replace hK := Tt hK hr5; replace hB := Bx hB hr5; replace hA := hr5.new; replace hH := hH15
  refine Sr (Vy (Y_lss rfl rfl) (To ?_))
  refine C_seq ?_
  refine Cc (fun hc24 => ?_) fun hc24 => ?_
  ·have hlt20 := lt_of_dec hc24
   obtain ⟨x16, h17, h18⟩ := K22 hlt20
   refine Sk ?_
   refine C_seq (C_block (Sr (Mm (As (To ?_)))))
   refine Sr (Mm (Mm (Mm ?_)))
   obtain ⟨x25, hx25, h17⟩ := Bs h17
   refine V_indexAddr h_s hx25 underlying81 sizeOf86 rfl rfl rfl ?_
   intro b26 o27 h28
   obtain ⟨v29, v31, h33, h30, h32⟩ := El_know_Posting h28
   refine Vy (Y_loadA h33 isAgg86 sizeOf86 rfl) ?_
   obtain ⟨x34, hx34, h17⟩ := Bs h17
   refine Vc f_call (f_spec w13 _ hK hA x25 v29 h30 v31 h32 _ hx34) ?_
   rintro _ w35 ⟨rfl, hk36⟩
   have ht37 := Kp.tr hk36 hA hB; replace hH := Hp.kp hH hk36; replace hK := Tt hK ht37; replace hr5 := Tt hr5 ht37
   refine To ?_
   refine Cc (fun hc38 => ?_) fun hc38 => ?_
   ·rw [if_pos hc38] at h17
    refine Sr (Mm (As (To ?_)))
    obtain rfl := Oi h17
    obtain rfl := (h18 : Lp.rt _ = _)
    rw [Lp.andThen_rt] at hm
    obtain rfl := Oi hm
    refine Rt (Res.one results114 rfl) ?_
    exact ⟨rfl, hK.kp⟩
   rw [if_neg (nt hc38)] at h17
   refine Sk ?_
   refine C_region (Vy (Y_addI rfl rfl) (Mm ?_))
   obtain rfl := Oi h17
   refine V_end (fun a ha39 => ?_)
   exact ⟨(), hlt20, h18, ⟨A14, ha39.sub ⟨rfl, rfl, rfl, Ws hlt20 hn23, trivial⟩, ⟨hH, hr5⟩⟩⟩
  refine C_exit (fun a ha40 => ?_)
  exact ⟨((), A14), ha40.sub trivial, ⟨(h21 (eq_of_dec hle19 hc24)).symm, hH, hr5⟩⟩
 rintro ⟨s4, A10⟩ w7 ⟨rfl, hH11, hk8⟩ a ha9
 rw [Lp.andThen_fin] at hm
 replace hK := Tr.trans hK hk8; replace hA := hk8.new; replace hH := hH11
 refine C_at (n := ⟨19, [], none⟩) (fun _ _ => rfl) ?_ ha9
 refine Sr (As (To ?_))
 obtain rfl := Oi hm
 refine Rt (Res.one results114 rfl) ?_
 exact ⟨rfl, hK.kp⟩
theorem slices_DeleteFunc_Lknow_Posting_know_Posting_c (w : World) {A : Nat → Prop} {B : Nat} (hB : B ≤ w.heap.size) (hA : ∀ b, w.heap.size ≤ b → A b) (s : (List know_Posting)) (v_s : Value) (del : know_Posting → Option Bool) (del_f : FuncId) (del_a del_c : Array Value) (del_call : ∀ (args : Array Value) (w : World), (callFunc del_f args).run prog w = .ok (.enter del_f args) w) (del_spec : ∀ (w1 : World) (A1 : Nat → Prop), Tr Dw B A w A1 w1 → (∀ b, w1.heap.size ≤ b → A1 b) → ∀ (y0 : know_Posting) (v1 : Value) (h2 : Sl A1 w1 v1 y0.title) (v3 : Value) (h4 : Sl A1 w1 v3 y0.body) (r : Bool), del y0 = some r → Ret prog del_f (del_a ++ #[.agg #[Ii y0.id_, v1, v3]] ++ del_c) w1 fun v w' => v = .bool r ∧ Kp Dw w1 w') {L : List Ob} (hH : Hp B A w (o_86 v_s s :: L)) {r : (List know_Posting)} (hm : slices_DeleteFunc_Lknow_Posting_know_Posting s del = some r) : Ret prog 86 #[v_s, .func (.func del_f) del_a del_c] w fun v w' => ∃ s0, ∃ A1 : Nat → Prop, v = s0 ∧ Sl A1 w' s0 r ∧ Hp B A1 w' (L) ∧ Tr Dw B A w A1 w' := by
 unfold slices_DeleteFunc_Lknow_Posting_know_Posting at hm
 refine enter func86 rfl ntmps86 rfl ?_
 have hK : Tr Dw B A w A w := Tr.refl (Dw := Dw) hA
 refine Sr (As (To ?_))
 refine Sr (Mm (Mm ?_))
 obtain ⟨A1, ht2, h3, _⟩ := Hp.freeze (Dw := Dw) (α := know_Posting) (v := v_s) (l := s) hH (i := 0) rfl hA
 obtain ⟨x4, hx4, hm⟩ := Bs hm
 refine Vc call114 (slices_IndexFunc_Lknow_Posting_know_Posting_c (Dw := Dw) w (A := A1) ht2.new s v_s h3 del del_f del_a del_c del_call (fun w1 A1 ht => del_spec w1 A1 (Tr.trans hK (Tr.trans ht2 (Tr.lower (Dw := Dw) ht hB)))) hx4) ?_
 rintro _ w5 ⟨rfl, hk6⟩
 have ht7 := Kp.tr hk6 hA hB; replace hH := Hp.kp hH hk6; replace hK := Tt hK ht7; replace hB := Bx hB ht7; replace hA := ht7.new
 refine As (To ?_)
 refine C_seq (Sr (Mm (Vy (Y_eql rfl rfl) (To ?_))))
 refine Cc (fun hc8 => ?_) fun hc8 => ?_
 ·rw [if_pos hc8] at hm
  refine Sr (Mm (As (To ?_)))
  obtain rfl := Oi hm
  obtain ⟨A9, ht10, h11, hH12⟩ := Hp.freeze (Dw := Dw) (α := know_Posting) (v := v_s) (l := s) hH (i := 0) rfl hA
  replace hK := Tt hK ht10
  replace hH : Hp _ _ _ (L) := hH12
  refine Rt (Res.one results86 rfl) ?_
  exact ⟨v_s, A9, rfl, h11, hH, hK⟩
 rw [if_neg (nt hc8)] at hm
 refine Sk ?_
 refine C_seq (Sr (Mm (Vy (Y_addI rfl rfl) (As (To ?_)))))
 obtain ⟨o14, ho14, hm⟩ := Bs hm
 refine C_cutG (ι := (((List know_Posting) × Int × Int) × Value × (Nat → Prop))) (fun ⟨s15, v21, A23⟩ => [(0, v21), (5, Ii s15.2.1)]) (fun ⟨s15, v21, A23⟩ => fun w' => o14 = .fin s15 ∧ Hp B A23 w' (o_86 v21 s15.1 :: L) ∧ Tr Dw B A w5 A23 w') ?_ ?_
 ·refine C_block ?_
  refine C_while ho14 (fun s25 a w' => ∃ i : (Value × (Nat → Prop)), Has ⟨42, [], none⟩ a ([(0, i.1), (1, .func (.func del_f) del_a del_c), (5, Ii s25.2.1), (6, Ii s25.2.2)]) ∧ Hp B i.2 w' (o_86 i.1 s25.1 :: L) ∧ Tr Dw B A w5 i.2 w') (fun a ha => ⟨(v_s, A), ha.sb, ⟨hH, Tr.refl (Dw := Dw) hA⟩⟩) ?_
  rintro K s25 a w26 ⟨⟨v27, A29⟩, ha112, hH30, hr16⟩ K37
  refine C_of ?_ ha112
  replace hK := Tt hK hr16; replace hB := Bx hB hr16; replace hA := hr16.new
  replace hH : Hp _ _ _ (o_86 v27 s25.1 :: L) := hH30
  obtain ⟨x31, h32, h33⟩ := K37
  refine C_seq (Sr (Mm (Mm (Vy (Y_lenSl (Hp.any (α := know_Posting) (e := 86) (v := v27) (l := s25.1) hH (i := 0) rfl) rfl underlying81 rfl) (Vy (Y_lss rfl rfl) (To ?_))))))
  refine Cc (fun hc38 => ?_) fun hc38 => ?_
  ·rw [if_pos hc38] at h32
   refine Sk ?_
   refine C_seq ?_
   obtain ⟨s40, ho39, h32⟩ := Bs h32
   refine C_cutG (ι := (Value × (Nat → Prop))) (fun ⟨v42, A47⟩ => [(0, v42), (1, .func (.func del_f) del_a del_c), (5, Ii s40.2), (6, Ii s25.2.2)]) (fun ⟨v42, A47⟩ => fun w' => Hp B A47 w' (o_86 v42 s40.1 :: L) ∧ Tr Dw B A29 w26 A47 w') ?_ ?_
   ·have hr41 : Tr Dw B A29 w26 A29 w26 := Tr.refl (Dw := Dw) hA
    refine C_block (Sr (Mm (Mm ?_)))
    obtain ⟨x49, hx49, ho39⟩ := Bs ho39
    refine V_indexAddrH (α := know_Posting) (e := 86) (v := v27) (l := s25.1) hH (i := 0) rfl hx49 underlying81 sizeOf86 rfl rfl rfl ?_
    intro b50 o51 h52 hl53
    obtain ⟨v54, v56, h58, h55, h57⟩ := ElR_know_Posting (Hp.elemRep (e := 86) (v := v27) (l := s25.1) hH (i := 0) rfl hl53 hx49)
    refine Vy (Y_loadA h58 isAgg86 sizeOf86 rfl) ?_
    refine V_alloc zeroValue86 rfl ?_
    intro b59 w60 h61
    have h66 : (v54).oneCell' = true := by obtain ⟨_, _, e, _⟩ := Sl.form h55; rw [e]; rfl
    have h69 : (v56).oneCell' = true := by obtain ⟨_, _, e, _⟩ := Sl.form h57; rw [e]; rfl
    refine Sn h61 sizeOf86 ?_
    intro w62 h63
    have hk71 := h63.kp (Dw := Dw)
    have h70 : El (α := know_Posting) A29 w62 b59 0 x49 := h63.el hA ⟨[Ii x49.id_], _, rfl, rfl, ⟨[v54], _, rfl, ⟨_, rfl, h55⟩, ⟨_, rfl, h57⟩⟩⟩
    have ht72 := Kp.tr hk71 hA hB; replace hH := Hp.kp hH hk71; replace hK := Tt hK ht72; replace hr41 := Tt hr41 ht72; replace hB := Bx hB ht72; replace hA := ht72.new
    refine To ?_
    refine Sr (Mm ?_)
    obtain ⟨v73, v75, h77, h74, h76⟩ := El_know_Posting h70
    refine Vy (Y_loadA h77 isAgg86 sizeOf86 rfl) ?_
    obtain ⟨x78, hx78, ho39⟩ := Bs ho39
    refine Vc del_call (del_spec w62 _ hK hA x49 v73 h74 v75 h76 _ hx78) ?_
    rintro _ w79 ⟨rfl, hk80⟩
    have ht81 := Kp.tr hk80 hA hB; replace hH := Hp.kp hH hk80; replace h70 := El.tr h70 ht81; replace hr41 := Tt hr41 ht81; replace hB := Bx hB ht81; replace hA := ht81.new
    refine Vy (Y_not rfl) (To ?_)
    obtain ⟨s83, ho82, ho39⟩ := Bs ho39
    refine C_cutG (ι := (Value × (Nat → Prop))) (fun ⟨v85, A90⟩ => [(0, v85), (1, .func (.func del_f) del_a del_c), (5, Ii s83.2), (6, Ii s25.2.2)]) (fun ⟨v85, A90⟩ => fun w' => Hp B A90 w' (o_86 v85 s83.1 :: L) ∧ Tr Dw B A29 w79 A90 w') ?_ ?_
    ·have hr84 : Tr Dw B A29 w79 A29 w79 := Tr.refl (Dw := Dw) hA
     refine Cc (fun hc92 => ?_) fun hc92 => ?_
     ·rw [if_pos hc92] at ho82
      refine Sr (Mm (Mm ?_))
      obtain ⟨v93, v95, h97, h94, h96⟩ := El_know_Posting h70
      refine Vy (Y_loadA h97 isAgg86 sizeOf86 rfl) ?_
      obtain ⟨x98, hx98, ho82⟩ := Bs ho82
      refine V_indexAddrH (α := know_Posting) (e := 86) (v := v27) (l := s25.1) hH (i := 0) rfl hx98 underlying81 sizeOf86 rfl rfl rfl ?_
      intro b99 o100 h101 hl102
      obtain ⟨x103, hx103, ho82⟩ := Bs ho82
      refine V_storeH (Dw := Dw) (α := know_Posting) (e := 86) (v := v27) (l := s25.1) hH (i := 0) rfl hl102 hx103 ⟨[Ii x49.id_], _, rfl, rfl, ⟨[v93], _, rfl, ⟨_, rfl, h94⟩, ⟨_, rfl, h96⟩⟩⟩ sizeOf86 rfl hB hA rfl rfl ?_
      intro w104 hH105 ht106
      replace hr84 := Tt hr84 ht106
      replace hH : Hp _ _ _ (o_86 v27 x103 :: L) := hH105
      refine To ?_
      refine C_region (Mm (Vy (Y_addI rfl rfl) (As ?_)))
      obtain rfl := Oi ho82
      refine V_end (fun a ha107 => ?_)
      exact ⟨(v27, A29), ha107.sb, ⟨hH, hr84⟩⟩
     rw [if_neg (nt hc92)] at ho82
     obtain rfl := Oi ho82
     refine C_skip (fun a ha108 => ?_)
     exact ⟨(v27, A29), ha108.sb, ⟨hH, hr84⟩⟩
    rintro ⟨v85, A90⟩ w87 ⟨hH91, hk88⟩ a ha89
    replace hr41 := Tr.trans hr41 hk88; replace hA := hk88.new
    replace hH : Hp _ _ _ (o_86 v85 s83.1 :: L) := hH91
    obtain rfl := Oi ho39
    exact ⟨(v85, A90), ha89.sb, ⟨hH, hr41⟩⟩
   rintro ⟨v42, A47⟩ w44 ⟨hH48, hk45⟩ a ha46
   replace hr16 := Tr.trans hr16 hk45; replace hA := hk45.new
   replace hH : Hp _ _ _ (o_86 v42 s40.1 :: L) := hH48
   refine C_at (n := ⟨42, [], none⟩) (fun _ _ => rfl) ?_ ha46
   refine C_region (Mm (Vy (Y_addI rfl rfl) (As ?_)))
   obtain rfl := Oi h32
   refine V_end (fun a ha110 => ?_)
   exact ⟨(s40.1, s40.2, w64 (s25.2.2 + 1)), h33, ⟨(v42, A47), ha110.sb, ⟨hH, hr16⟩⟩⟩
  rw [if_neg (nt hc38)] at h32
  obtain rfl := Oi h32
  refine C_exit (fun a ha111 => ?_)
  exact ⟨((s25.1, s25.2.1, s25.2.2), v27, A29), ha111.sb, ⟨h33.symm, hH, hr16⟩⟩
 rintro ⟨s15, v21, A23⟩ w18 ⟨rfl, hH24, hk19⟩ a ha20
 rw [Lp.andThen_fin] at hm
 replace hK := Tr.trans hK hk19; replace hB := Nat.le_trans hB hk19.ex.size; replace hA := hk19.new
 replace hH : Hp _ _ _ (o_86 v21 s15.1 :: L) := hH24
 refine C_at (n := ⟨42, [], none⟩) (fun _ _ => rfl) ?_ ha20
 refine Sr (Mm (Mm ?_))
 obtain ⟨x113, hx113, hm⟩ := Bs hm
 refine V_clearFrom (Dw := Dw) (α := know_Posting) (e := 86) (v := v21) (l := s15.1) hH (i := 0) rfl hx113 underlying81 sizeOf86 zeroValue86 rfl (by simp [Value.cells, Value.oneCell']) hB hA rfl rfl rfl ?_
 intro g114 c115 u116 w117 hv118 hH119 ht120
 replace hK := Tt hK ht120; replace hA := ht120.new
 replace hH : Hp _ _ _ (o_86 (.slice (some ⟨g114, 0, none⟩) x113.length c115) x113 :: L) := hH119
 refine To ?_
 refine Sr (Mm (Mm ?_))
 refine V_cutBack (α := know_Posting) (g := g114) (cap := c115) (r := x113) hH (i := 0) rfl hv118 hx113 underlying81 sizeOf86 rfl rfl rfl ?_
 refine As (To ?_)
 obtain rfl := Oi hm
 obtain ⟨A121, ht122, h123, hH124⟩ := Hp.freeze (Dw := Dw) (α := know_Posting) (v := (.slice (some ⟨g114, 0, none⟩) x113.length c115)) (l := x113) hH (i := 0) rfl hA
 replace hK := Tt hK ht122
 replace hH : Hp _ _ _ (L) := hH124
 refine Rt (Res.one results86 rfl) ?_
 exact ⟨(.slice (some ⟨g114, 0, none⟩) x113.length c115), A121, rfl, h123, hH, hK⟩
theorem portref2_without_1_c (w : World) {A : Nat → Prop} (hA : ∀ b, w.heap.size ≤ b → A b) (p : know_Posting) (v_p0 : Value) (h_p0 : Sl A w v_p0 p.title) (v_p1 : Value) (h_p1 : Sl A w v_p1 p.body) (p1_ : Int) (b_p1_ : Nat) (h_p1_ : El A w b_p1_ 0 p1_) {r : Bool} (hm : portref2_without_1 p p1_ = some r) : Ret prog 87 #[.agg #[Ii p.id_, v_p0, v_p1], Pt b_p1_] w fun v w' => v = .bool r ∧ Kp Dw w w' := by
 unfold portref2_without_1 at hm
 refine enter func87 rfl ntmps87 rfl ?_
 have hA0 := hA
 obtain ⟨hB, hK, hH⟩ := St (Dw := Dw) hA
 refine Sr ?_
 refine V_box rfl rfl ?_
 intro b5 w6 h7
 have hk9 := h7.kp (Dw := Dw)
 have h8 : El (α := know_Posting) A w6 b5 0 p := h7.el hA ⟨[Ii p.id_], _, rfl, rfl, ⟨[v_p0], _, rfl, ⟨_, rfl, h_p0⟩, ⟨_, rfl, h_p1⟩⟩⟩
 have ht10 := Kp.tr hk9 hA hB; replace h_p1_ := El.tr h_p1_ ht10; replace hK := Tt hK ht10
 refine As (To ?_)
 refine Sr ?_
 have h11 := El_know_Posting_0 h8
 refine Fa underlying86 rfl sizeOf3 (Li h11 isAgg3 (Li h_p1_ isAgg3 (Vy (Y_eql rfl rfl) (As (To ?_)))))
 obtain rfl := Oi hm
 refine Rt (Res.one results87 rfl) ?_
 exact ⟨rfl, hK.kp⟩
theorem portref2_without_c (w : World) {A : Nat → Prop} {B : Nat} (hB : B ≤ w.heap.size) (hA : ∀ b, w.heap.size ≤ b → A b) (x : know_Index) (v_x0 : Value) (h_x0 : Sl A w v_x0 x.ids) (v_x1 : Value) (h_x1 : Sl A w v_x1 x.sizes) (v_x2 : Value) (h_x2 : Sl A w v_x2 x.terms) (id_ : Int) {L : List Ob} (hH : Hp B A w (L)) {r : know_Index} (hm : portref2_without x id_ = some r) : Ret prog 51 #[.agg #[v_x0, v_x1, v_x2], Ii id_] w fun v w' => ∃ s0, ∃ s1, ∃ s2, ∃ A1 : Nat → Prop, v = .agg #[s0, s1, s2] ∧ Hp B A1 w' (o_3 s0 r.ids :: o_3 s1 r.sizes :: o_83 s2 r.terms :: L) ∧ Tr Dw B A w A1 w' := by
 unfold portref2_without at hm
 refine enter func51 rfl ntmps51 rfl ?_
 have hK : Tr Dw B A w A w := Tr.refl (Dw := Dw) hA
 refine Sr ?_
 refine V_box rfl rfl ?_
 intro b7 w9 h10
 have hk12 := h10.kp (Dw := Dw)
 have h11 : El (α := know_Index) A w9 b7 0 x := h10.el hA ⟨[v_x0], _, rfl, ⟨_, rfl, h_x0⟩, ⟨[v_x1], _, rfl, ⟨_, rfl, h_x1⟩, ⟨_, rfl, h_x2⟩⟩⟩
 have ht13 := Kp.tr hk12 hA hB; replace hH := Hp.kp hH hk12; replace hK := Tt hK ht13; replace hB := Bx hB ht13; replace hA := ht13.new
 refine V_box rfl rfl ?_
 intro b14 w15 h16
 have hk18 := h16.kp (Dw := Dw)
 have h17 : El (α := Int) A w15 b14 0 id_ := h16.el hA rfl
 have ht19 := Kp.tr hk18 hA hB; replace hH := Hp.kp hH hk18; replace h11 := El.tr h11 ht19; replace hK := Tt hK ht19; replace hB := Bx hB ht19; replace hA := ht19.new
 refine V_allocH (Dw := Dw) (B := B) hH zeroValue26 hB hA rfl ?_
 intro b20 w21 A22 hH23 ht24
 replace h11 := El.tr h11 ht24; replace h17 := El.tr h17 ht24; replace hK := Tt hK ht24; replace hB := Bx hB ht24; replace hA := ht24.new
 replace hH : Hp _ _ _ (obC b20 [.slice none 0 0, .slice none 0 0, .slice none 0 0] 26 :: L) := hH23
 refine To ?_
 refine Sr ?_
 refine V_allocH (Dw := Dw) (B := B) hH zeroValue26 hB hA rfl ?_
 intro b25 w26 A27 hH28 ht29
 replace h11 := El.tr h11 ht29; replace h17 := El.tr h17 ht29; replace hK := Tt hK ht29; replace hB := Bx hB ht29; replace hA := ht29.new
 replace hH : Hp _ _ _ (obC b25 [.slice none 0 0, .slice none 0 0, .slice none 0 0] 26 :: obC b20 [.slice none 0 0, .slice none 0 0, .slice none 0 0] 26 :: L) := hH28
 refine To ?_
 refine C_seq (Sr ?_)
 have h30 := El_know_Index_0 h11
 refine Fa underlying26 rfl sizeOf23 ?_
 obtain ⟨v31, h32, h33⟩ := El.list h30
 refine Ld h32 isAgg23 (Vy (Y_lenSl h33 rfl underlying23 rfl) (Mm (To ?_)))
 replace hH : Hp B A27 w26 (o_3 (.slice none 0 0) ([] : (List Int)) :: obC b25 [.slice none 0 0, .slice none 0 0, .slice none 0 0] 26 :: obC b20 [.slice none 0 0, .slice none 0 0, .slice none 0 0] 26 :: L) := Hp.addNil (α := Int) (e := 3) hH
 replace hH : Hp B A27 w26 (o_3 (.slice none 0 0) ([] : (List Int)) :: o_3 (.slice none 0 0) ([] : (List Int)) :: obC b25 [.slice none 0 0, .slice none 0 0, .slice none 0 0] 26 :: obC b20 [.slice none 0 0, .slice none 0 0, .slice none 0 0] 26 :: L) := Hp.addNil (α := Int) (e := 3) hH
 replace hH : Hp B A27 w26 (o_83 (.slice none 0 0) ([] : (List know_Term)) :: o_3 (.slice none 0 0) ([] : (List Int)) :: o_3 (.slice none 0 0) ([] : (List Int)) :: obC b25 [.slice none 0 0, .slice none 0 0, .slice none 0 0] 26 :: obC b20 [.slice none 0 0, .slice none 0 0, .slice none 0 0] 26 :: L) := Hp.addNil (α := know_Term) (e := 83) hH
 have hn66 := Sl.le h33
 obtain ⟨o34, ho34, hm⟩ := Bs hm
 refine C_cutG (ι := (know_Index × Value × Value × Value × (Nat → Prop))) (fun ⟨s35, v41, v43, v45, A47⟩ => [(2, Pt b7), (3, Pt b14), (4, Pt b20), (5, Pt b25)]) (fun ⟨s35, v41, v43, v45, A47⟩ => fun w' => o34 = .fin s35 ∧ Hp B A47 w' (o_83 v45 s35.terms :: o_3 v43 s35.sizes :: o_3 v41 s35.ids :: obC b25 [v41, v43, v45] 26 :: obC b20 [.slice none 0 0, .slice none 0 0, .slice none 0 0] 26 :: L) ∧ Tr Dw B A27 w26 A47 w') ?_ ?_
 ·refine C_block ?_
  refine C_range ho34 (fun k37 s49 a w' => ∃ i : (Value × Value × Value × (Nat → Prop)), Has ⟨65, [], none⟩ a ([(2, Pt b7), (3, Pt b14), (4, Pt b20), (5, Pt b25), (12, v31), (13, Ii (x.ids.length : Int)), (14, Ii (k37 : Int))]) ∧ Hp B i.2.2.2 w' (o_83 i.2.2.1 s49.terms :: o_3 i.2.1 s49.sizes :: o_3 i.1 s49.ids :: obC b25 [i.1, i.2.1, i.2.2.1] 26 :: obC b20 [.slice none 0 0, .slice none 0 0, .slice none 0 0] 26 :: L) ∧ Tr Dw B A27 w26 i.2.2.2 w') (fun a ha => ⟨(.slice none 0 0, .slice none 0 0, .slice none 0 0, A27), ha.sb, ⟨hH, Tr.refl (Dw := Dw) hA⟩⟩) ?_
  rintro K k37 s49 a w50 ⟨⟨v51, v53, v55, A57⟩, ha223, hH58, hr36⟩ hle62 K65 h64
  refine C_of ?_ ha223
  replace h11 := El.tr h11 hr36; replace h17 := El.tr h17 hr36; replace h33 := Sl.tr h33 hr36; replace hB := Bx hB hr36; replace hA := hr36.new
  replace hH : Hp _ _ _ (o_83 v55 s49.terms :: o_3 v53 s49.sizes :: o_3 v51 s49.ids :: obC b25 [v51, v53, v55] 26 :: obC b20 [.slice none 0 0, .slice none 0 0, .slice none 0 0] 26 :: L) := hH58
  refine Sr (Vy (Y_lss rfl rfl) (To ?_))
  refine C_seq ?_
  refine Cc (fun hc67 => ?_) fun hc67 => ?_
  ·have hlt63 := lt_of_dec hc67
   obtain ⟨x59, h60, h61⟩ := K65 hlt63
   refine Sk ?_
   refine C_seq ?_
   obtain ⟨s69, ho68, h60⟩ := Bs h60
   refine C_cutG (ι := (Value × Value × Value × (Nat → Prop))) (fun ⟨v71, v73, v75, A80⟩ => [(2, Pt b7), (3, Pt b14), (4, Pt b20), (5, Pt b25), (12, v31), (13, Ii (x.ids.length : Int)), (14, Ii (k37 : Int))]) (fun ⟨v71, v73, v75, A80⟩ => fun w' => Hp B A80 w' (o_83 v75 s69.terms :: o_3 v73 s69.sizes :: o_3 v71 s69.ids :: obC b25 [v71, v73, v75] 26 :: obC b20 [.slice none 0 0, .slice none 0 0, .slice none 0 0] 26 :: L) ∧ Tr Dw B A57 w50 A80 w') ?_ ?_
   ·have hr70 : Tr Dw B A57 w50 A57 w50 := Tr.refl (Dw := Dw) hA
    refine C_block (Sr (Mm ?_))
    obtain ⟨x82, hx82, ho68⟩ := Bs ho68
    refine V_indexAddr h33 hx82 underlying23 sizeOf3 rfl rfl rfl ?_
    intro b83 o84 h85
    refine Li h85 isAgg3 (As (As (To ?_)))
    refine Sr (Mm (Li h17 isAgg3 (Vy (Y_neq rfl rfl) (To ?_))))
    obtain ⟨s87, ho86, ho68⟩ := Bs ho68
    refine C_cutG (ι := (Value × Value × Value × (Nat → Prop))) (fun ⟨v89, v91, v93, A98⟩ => [(2, Pt b7), (3, Pt b14), (4, Pt b20), (5, Pt b25), (12, v31), (13, Ii (x.ids.length : Int)), (14, Ii (k37 : Int))]) (fun ⟨v89, v91, v93, A98⟩ => fun w' => Hp B A98 w' (o_83 v93 s87.terms :: o_3 v91 s87.sizes :: o_3 v89 s87.ids :: obC b25 [v89, v91, v93] 26 :: obC b20 [.slice none 0 0, .slice none 0 0, .slice none 0 0] 26 :: L) ∧ Tr Dw B A57 w50 A98 w') ?_ ?_
    ·have hr88 : Tr Dw B A57 w50 A57 w50 := Tr.refl (Dw := Dw) hA
     refine Cc (fun hc100 => ?_) fun hc100 => ?_
     ·rw [if_pos hc100] at ho86
      refine C_region_chy (Dw := Dw) (fun k => A57 k ∨ k = b25) 12 [11, 10, 8, 9, 7] [(1, 0), (1, 1), (1, 2), (1, 5), (1, 6), (1, 7), (1, 8), (1, 9), (1, 10), (1, 11), (2, 3), (3, 4), (1, 14)] [(3, 13), (4, 15), (1, 16), (4, 17)] Tryz_mixed (by kernel_rfl) (fun w101 hk102 => ?_)
      have ht103 := Kp.tr hk102 hA hB; replace hH := Hp.kp hH hk102; replace h11 := El.tr h11 ht103; replace hr88 := Tt hr88 ht103; replace hB := Bx hB ht103; replace hA := ht103.new
      have hX104 := hH
      refine CHZ_q2 rfl (Qv (fun w' hw' => Y_fieldAddrC (off2 := 0) underlying26 rfl sizeOf23 (by decide) rfl rfl) (VQ_CHZ (CHZ_q2 rfl ?_)))
      refine VQ_y (fun w' hw' => Y_load ((World.cell?_of_block (hw'.2 _ (World.block_lt_of_cell? _ _ (Hp.cell (j := 0) hH (i := 3) rfl rfl)) (Or.inr rfl))).trans (Hp.cell (j := 0) hH (i := 3) rfl rfl)) isAgg23 rfl) rfl rfl rfl ?_
      refine VQ_CHZ (CHZ_q2 rfl (Qm (VQ_CHZ (CHZ_q2 rfl (Qv (fun w' hw' => Y_fieldAddrC (off2 := 1) underlying26 rfl sizeOf23 (by decide) rfl rfl) (VQ_CHZ (CHZ_q2 rfl ?_)))))))
      refine VQ_y (fun w' hw' => Y_load ((World.cell?_of_block (hw'.2 _ (World.block_lt_of_cell? _ _ (Hp.cell (j := 1) hH (i := 3) rfl rfl)) (Or.inr rfl))).trans (Hp.cell (j := 1) hH (i := 3) rfl rfl)) isAgg23 rfl) rfl rfl rfl ?_
      refine VQ_CHZ (CHZ_q2 rfl ?_)
      have h105 := El_know_Index_1 h11
      refine Qf underlying26 rfl sizeOf23 (VQ_CHZ (CHZ_q2 rfl ?_))
      obtain ⟨v106, h107, h108⟩ := El.list h105
      refine Ql (fun w' hw' => ((World.cell?_of_block (hw'.2 _ h105.2.1 (Or.inl h105.1))).trans h107)) isAgg23 (VQ_CHZ (CHZ_q2 rfl (Qm (VQ_CHZ (CHZ_q2 rfl ?_)))))
      obtain ⟨x109, hx109, ho86⟩ := Bs ho86
      refine VQ_indexAddr h108 hx109 underlying23 sizeOf3 rfl rfl rfl ?_
      intro b110 o111 h112
      refine VQ_CHZ (CHZ_q2 rfl (Ql (fun w' hw' => (El.int (El.keep h112 (XA.ex (XA.inl hw'))))) isAgg3 (VQ_CHZ ?_)))
      refine CHZ_l1 (k := 0) [(2, 12), (2, 3), (3, 4), (1, 14), (3, 13), (4, 15), (1, 16), (4, 17)] rfl ?_ rfl ?_
      ·refine CH_l1 (k := 0) rfl ?_
       refine V_buildSlice (Dw := Dw) (l := ([x109] : List Int)) (len := 1) underlying23 sizeOf3 zeroValue3 rfl (by with_unfolding_all rfl) (show (1 * 1 : Nat) ≠ 0 by decide) (show (1 * 1 : Nat) ≤ 2 ^ 24 by decide) hA ⟨[Ii x109], _, rfl, rfl, rfl⟩ rfl rfl ?_
       intro v113 w114 hk116 h115
       have ht117 := Kp.tr hk116 hA hB; replace hH := Hp.kp hH hk116; replace hr88 := Tt hr88 ht117; replace hB := Bx hB ht117; replace hA := ht117.new
       refine V_CH (hk116) ?_
       refine CH_l1 (k := 0) rfl ?_
       refine V_buildSlice (Dw := Dw) (l := ([x82] : List Int)) (len := 1) underlying23 sizeOf3 zeroValue3 rfl (by with_unfolding_all rfl) (show (1 * 1 : Nat) ≠ 0 by decide) (show (1 * 1 : Nat) ≤ 2 ^ 24 by decide) hA ⟨[Ii x82], _, rfl, rfl, rfl⟩ rfl rfl ?_
       intro v118 w119 hk121 h120
       have ht122 := Kp.tr hk121 hA hB; replace hH := Hp.kp hH hk121; replace h115 := Sl.tr h115 ht122; replace hr88 := Tt hr88 ht122; replace hB := Bx hB ht122; replace hA := ht122.new
       refine V_CH (hk121) ?_
       refine CH_l1 (k := 1) rfl ?_
       obtain ⟨x123, hx123, ho86⟩ := Bs ho86
       refine V_appendHs (Dw := Dw) (e := 3) (v := v51) (l := s49.ids) (ti := t3) (bytes := 8) (lim := 17592186044416) hH (i := 2) rfl h120 hx123 underlying23 Tryz_info3 rfl rfl rfl rfl (by decide) (by decide) (by decide) hB hA rfl rfl rfl ?_
       intro v124 w125 A126 hH127 ht128 hs129
       replace h115 := Sl.tr h115 ht128; replace hr88 := Tt hr88 ht128; replace hB := Bx hB ht128; replace hA := ht128.new
       replace hH : Hp _ _ _ (o_83 v55 s49.terms :: o_3 v53 s49.sizes :: o_3 v124 x123 :: obC b25 [v51, v53, v55] 26 :: obC b20 [.slice none 0 0, .slice none 0 0, .slice none 0 0] 26 :: L) := hH127
       refine V_CHx (XA.addS hs129 (Hp.ownOff (α := Int) (e := 3) (v := v51) (l := s49.ids) hX104 (i := 2) rfl (j := 3) rfl (by decide))) ?_
       refine CH_q2 rfl (Qv (fun w' hw' => Y_fieldAddrC (off2 := 0) underlying26 rfl sizeOf23 (by decide) rfl rfl) (VQ_CH ?_))
       refine CH_l1 (k := 1) rfl ?_
       obtain ⟨x130, hx130, ho86⟩ := Bs ho86
       refine V_appendHs (Dw := Dw) (e := 3) (v := v53) (l := s49.sizes) (ti := t3) (bytes := 8) (lim := 17592186044416) hH (i := 1) rfl h115 hx130 underlying23 Tryz_info3 rfl rfl rfl rfl (by decide) (by decide) (by decide) hB hA rfl rfl rfl ?_
       intro v131 w132 A133 hH134 ht135 hs136
       replace hr88 := Tt hr88 ht135; replace hB := Bx hB ht135; replace hA := ht135.new
       replace hH : Hp _ _ _ (o_83 v55 s49.terms :: o_3 v131 x130 :: o_3 v124 x123 :: obC b25 [v51, v53, v55] 26 :: obC b20 [.slice none 0 0, .slice none 0 0, .slice none 0 0] 26 :: L) := hH134
       refine V_CHx (XA.addS hs136 (Hp.ownOff (α := Int) (e := 3) (v := v53) (l := s49.sizes) hX104 (i := 1) rfl (j := 3) rfl (by decide))) ?_
       refine CH_l1 (k := 2) rfl ?_
       have h142 : (v124).oneCell' = true := by obtain ⟨_, _, e, _⟩ := Sl.form (Hp.any (α := Int) (e := 3) (v := v124) (l := x123) hH (i := 2) rfl); rw [e]; rfl
       refine V_storeC (Dw := Dw) (off := 0) (ds := [v124, v53, v55]) hH (i := 3) rfl sizeOf23 (by show (v124 : Value).cells.size = _; rw [← Array.length_toList, Value.cells_one h142]; rfl) (Nat.le_of_ble_eq_true rfl) (by intro u hu; change u ∈ (v124 : Value).cells.toList at hu; rw [Value.cells_one h142] at hu; simp at hu; subst hu; assumption) (by show _ ++ (v124 : Value).cells.toList ++ _ = _; rw [Value.cells_one h142]; rfl) hB hA rfl rfl ?_
       intro w137 hH138 ht139
       replace hr88 := Tt hr88 ht139; replace hB := Bx hB ht139; replace hA := ht139.new
       replace hH : Hp _ _ _ (o_83 v55 s49.terms :: o_3 v131 x130 :: o_3 v124 x123 :: obC b25 [v124, v53, v55] 26 :: obC b20 [.slice none 0 0, .slice none 0 0, .slice none 0 0] 26 :: L) := hH138
       refine V_CHw ?_
       refine CH_q2 rfl (Qv (fun w' hw' => Y_fieldAddrC (off2 := 1) underlying26 rfl sizeOf23 (by decide) rfl rfl) (VQ_CH ?_))
       refine CH_l1 (k := 2) rfl ?_
       have h148 : (v131).oneCell' = true := by obtain ⟨_, _, e, _⟩ := Sl.form (Hp.any (α := Int) (e := 3) (v := v131) (l := x130) hH (i := 1) rfl); rw [e]; rfl
       refine V_storeC (Dw := Dw) (off := 1) (ds := [v124, v131, v55]) hH (i := 3) rfl sizeOf23 (by show (v131 : Value).cells.size = _; rw [← Array.length_toList, Value.cells_one h148]; rfl) (Nat.le_of_ble_eq_true rfl) (by intro u hu; change u ∈ (v131 : Value).cells.toList at hu; rw [Value.cells_one h148] at hu; simp at hu; subst hu; assumption) (by show _ ++ (v131 : Value).cells.toList ++ _ = _; rw [Value.cells_one h148]; rfl) hB hA rfl rfl ?_
       intro w143 hH144 ht145
       replace hr88 := Tt hr88 ht145
       replace hH : Hp _ _ _ (o_83 v55 s49.terms :: o_3 v131 x130 :: o_3 v124 x123 :: obC b25 [v124, v131, v55] 26 :: obC b20 [.slice none 0 0, .slice none 0 0, .slice none 0 0] 26 :: L) := hH144
       refine V_CHw ?_
       refine CH_tail ?_
       show V _ _ _ _ [] _ _
       obtain rfl := Oi ho86
       refine V_end (fun a ha149 => ?_)
       exact ⟨(v124, v131, v55, A133), ha149.sb, ⟨hH, hr88⟩⟩
      refine V_buildSlice (Dw := Dw) (l := ([x82] : List Int)) (len := 1) underlying23 sizeOf3 zeroValue3 rfl (by with_unfolding_all rfl) (show (1 * 1 : Nat) ≠ 0 by decide) (show (1 * 1 : Nat) ≤ 2 ^ 24 by decide) hA ⟨[Ii x82], _, rfl, rfl, rfl⟩ rfl rfl ?_
      intro v150 w151 hk153 h152
      have ht154 := Kp.tr hk153 hA hB; replace hH := Hp.kp hH hk153; replace hr88 := Tt hr88 ht154; replace hB := Bx hB ht154; replace hA := ht154.new
      refine V_CHZ (hk153) ?_
      refine CHZ_l1 (k := 1) [(2, 12), (3, 4), (1, 14), (3, 13), (4, 15), (1, 16), (4, 17)] rfl ?_ rfl ?_
      ·refine CH_l1 (k := 0) rfl ?_
       refine V_buildSlice (Dw := Dw) (l := ([x109] : List Int)) (len := 1) underlying23 sizeOf3 zeroValue3 rfl (by with_unfolding_all rfl) (show (1 * 1 : Nat) ≠ 0 by decide) (show (1 * 1 : Nat) ≤ 2 ^ 24 by decide) hA ⟨[Ii x109], _, rfl, rfl, rfl⟩ rfl rfl ?_
       intro v155 w156 hk158 h157
       have ht159 := Kp.tr hk158 hA hB; replace hH := Hp.kp hH hk158; replace h152 := Sl.tr h152 ht159; replace hr88 := Tt hr88 ht159; replace hB := Bx hB ht159; replace hA := ht159.new
       refine V_CH (hk158) ?_
       refine CH_l1 (k := 1) rfl ?_
       obtain ⟨x160, hx160, ho86⟩ := Bs ho86
       refine V_appendHs (Dw := Dw) (e := 3) (v := v51) (l := s49.ids) (ti := t3) (bytes := 8) (lim := 17592186044416) hH (i := 2) rfl h152 hx160 underlying23 Tryz_info3 rfl rfl rfl rfl (by decide) (by decide) (by decide) hB hA rfl rfl rfl ?_
       intro v161 w162 A163 hH164 ht165 hs166
       replace h157 := Sl.tr h157 ht165; replace hr88 := Tt hr88 ht165; replace hB := Bx hB ht165; replace hA := ht165.new
       replace hH : Hp _ _ _ (o_83 v55 s49.terms :: o_3 v53 s49.sizes :: o_3 v161 x160 :: obC b25 [v51, v53, v55] 26 :: obC b20 [.slice none 0 0, .slice none 0 0, .slice none 0 0] 26 :: L) := hH164
       refine V_CHx (XA.addS hs166 (Hp.ownOff (α := Int) (e := 3) (v := v51) (l := s49.ids) hX104 (i := 2) rfl (j := 3) rfl (by decide))) ?_
       refine CH_q2 rfl (Qv (fun w' hw' => Y_fieldAddrC (off2 := 0) underlying26 rfl sizeOf23 (by decide) rfl rfl) (VQ_CH ?_))
       refine CH_l1 (k := 1) rfl ?_
       obtain ⟨x167, hx167, ho86⟩ := Bs ho86
       refine V_appendHs (Dw := Dw) (e := 3) (v := v53) (l := s49.sizes) (ti := t3) (bytes := 8) (lim := 17592186044416) hH (i := 1) rfl h157 hx167 underlying23 Tryz_info3 rfl rfl rfl rfl (by decide) (by decide) (by decide) hB hA rfl rfl rfl ?_
       intro v168 w169 A170 hH171 ht172 hs173
       replace hr88 := Tt hr88 ht172; replace hB := Bx hB ht172; replace hA := ht172.new
       replace hH : Hp _ _ _ (o_83 v55 s49.terms :: o_3 v168 x167 :: o_3 v161 x160 :: obC b25 [v51, v53, v55] 26 :: obC b20 [.slice none 0 0, .slice none 0 0, .slice none 0 0] 26 :: L) := hH171
       refine V_CHx (XA.addS hs173 (Hp.ownOff (α := Int) (e := 3) (v := v53) (l := s49.sizes) hX104 (i := 1) rfl (j := 3) rfl (by decide))) ?_
       refine CH_l1 (k := 2) rfl ?_
       have h179 : (v161).oneCell' = true := by obtain ⟨_, _, e, _⟩ := Sl.form (Hp.any (α := Int) (e := 3) (v := v161) (l := x160) hH (i := 2) rfl); rw [e]; rfl
       refine V_storeC (Dw := Dw) (off := 0) (ds := [v161, v53, v55]) hH (i := 3) rfl sizeOf23 (by show (v161 : Value).cells.size = _; rw [← Array.length_toList, Value.cells_one h179]; rfl) (Nat.le_of_ble_eq_true rfl) (by intro u hu; change u ∈ (v161 : Value).cells.toList at hu; rw [Value.cells_one h179] at hu; simp at hu; subst hu; assumption) (by show _ ++ (v161 : Value).cells.toList ++ _ = _; rw [Value.cells_one h179]; rfl) hB hA rfl rfl ?_
       intro w174 hH175 ht176
       replace hr88 := Tt hr88 ht176; replace hB := Bx hB ht176; replace hA := ht176.new
       replace hH : Hp _ _ _ (o_83 v55 s49.terms :: o_3 v168 x167 :: o_3 v161 x160 :: obC b25 [v161, v53, v55] 26 :: obC b20 [.slice none 0 0, .slice none 0 0, .slice none 0 0] 26 :: L) := hH175
       refine V_CHw ?_
       refine CH_q2 rfl (Qv (fun w' hw' => Y_fieldAddrC (off2 := 1) underlying26 rfl sizeOf23 (by decide) rfl rfl) (VQ_CH ?_))
       refine CH_l1 (k := 2) rfl ?_
       have h185 : (v168).oneCell' = true := by obtain ⟨_, _, e, _⟩ := Sl.form (Hp.any (α := Int) (e := 3) (v := v168) (l := x167) hH (i := 1) rfl); rw [e]; rfl
       refine V_storeC (Dw := Dw) (off := 1) (ds := [v161, v168, v55]) hH (i := 3) rfl sizeOf23 (by show (v168 : Value).cells.size = _; rw [← Array.length_toList, Value.cells_one h185]; rfl) (Nat.le_of_ble_eq_true rfl) (by intro u hu; change u ∈ (v168 : Value).cells.toList at hu; rw [Value.cells_one h185] at hu; simp at hu; subst hu; assumption) (by show _ ++ (v168 : Value).cells.toList ++ _ = _; rw [Value.cells_one h185]; rfl) hB hA rfl rfl ?_
       intro w180 hH181 ht182
       replace hr88 := Tt hr88 ht182
       replace hH : Hp _ _ _ (o_83 v55 s49.terms :: o_3 v168 x167 :: o_3 v161 x160 :: obC b25 [v161, v168, v55] 26 :: obC b20 [.slice none 0 0, .slice none 0 0, .slice none 0 0] 26 :: L) := hH181
       refine V_CHw ?_
       refine CH_tail ?_
       show V _ _ _ _ [] _ _
       obtain rfl := Oi ho86
       refine V_end (fun a ha186 => ?_)
       exact ⟨(v161, v168, v55, A170), ha186.sb, ⟨hH, hr88⟩⟩
      obtain ⟨x187, hx187, ho86⟩ := Bs ho86
      refine V_appendHs (Dw := Dw) (e := 3) (v := v51) (l := s49.ids) (ti := t3) (bytes := 8) (lim := 17592186044416) hH (i := 2) rfl h152 hx187 underlying23 Tryz_info3 rfl rfl rfl rfl (by decide) (by decide) (by decide) hB hA rfl rfl rfl ?_
      intro v188 w189 A190 hH191 ht192 hs193
      replace hr88 := Tt hr88 ht192; replace hB := Bx hB ht192; replace hA := ht192.new
      replace hH : Hp _ _ _ (o_83 v55 s49.terms :: o_3 v53 s49.sizes :: o_3 v188 x187 :: obC b25 [v51, v53, v55] 26 :: obC b20 [.slice none 0 0, .slice none 0 0, .slice none 0 0] 26 :: L) := hH191
      refine V_CHZx (XA.addS hs193 (Hp.ownOff (α := Int) (e := 3) (v := v51) (l := s49.ids) hX104 (i := 2) rfl (j := 3) rfl (by decide))) ?_
      refine CHZ_q2 rfl (Qv (fun w' hw' => Y_fieldAddrC (off2 := 0) underlying26 rfl sizeOf23 (by decide) rfl rfl) (VQ_CHZ ?_))
      refine CHZ_nil ?_
      refine CH_l1 (k := 0) rfl ?_
      refine V_buildSlice (Dw := Dw) (l := ([x109] : List Int)) (len := 1) underlying23 sizeOf3 zeroValue3 rfl (by with_unfolding_all rfl) (show (1 * 1 : Nat) ≠ 0 by decide) (show (1 * 1 : Nat) ≤ 2 ^ 24 by decide) hA ⟨[Ii x109], _, rfl, rfl, rfl⟩ rfl rfl ?_
      intro v194 w195 hk197 h196
      have ht198 := Kp.tr hk197 hA hB; replace hH := Hp.kp hH hk197; replace hr88 := Tt hr88 ht198; replace hB := Bx hB ht198; replace hA := ht198.new
      refine V_CH (hk197) ?_
      refine CH_l1 (k := 1) rfl ?_
      obtain ⟨x199, hx199, ho86⟩ := Bs ho86
      refine V_appendHs (Dw := Dw) (e := 3) (v := v53) (l := s49.sizes) (ti := t3) (bytes := 8) (lim := 17592186044416) hH (i := 1) rfl h196 hx199 underlying23 Tryz_info3 rfl rfl rfl rfl (by decide) (by decide) (by decide) hB hA rfl rfl rfl ?_
      intro v200 w201 A202 hH203 ht204 hs205
      replace hr88 := Tt hr88 ht204; replace hB := Bx hB ht204; replace hA := ht204.new
      replace hH : Hp _ _ _ (o_83 v55 s49.terms :: o_3 v200 x199 :: o_3 v188 x187 :: obC b25 [v51, v53, v55] 26 :: obC b20 [.slice none 0 0, .slice none 0 0, .slice none 0 0] 26 :: L) := hH203
      refine V_CHx (XA.addS hs205 (Hp.ownOff (α := Int) (e := 3) (v := v53) (l := s49.sizes) hX104 (i := 1) rfl (j := 3) rfl (by decide))) ?_
      refine CH_l1 (k := 2) rfl ?_
      have h211 : (v188).oneCell' = true := by obtain ⟨_, _, e, _⟩ := Sl.form (Hp.any (α := Int) (e := 3) (v := v188) (l := x187) hH (i := 2) rfl); rw [e]; rfl
      refine V_storeC (Dw := Dw) (off := 0) (ds := [v188, v53, v55]) hH (i := 3) rfl sizeOf23 (by show (v188 : Value).cells.size = _; rw [← Array.length_toList, Value.cells_one h211]; rfl) (Nat.le_of_ble_eq_true rfl) (by intro u hu; change u ∈ (v188 : Value).cells.toList at hu; rw [Value.cells_one h211] at hu; simp at hu; subst hu; assumption) (by show _ ++ (v188 : Value).cells.toList ++ _ = _; rw [Value.cells_one h211]; rfl) hB hA rfl rfl ?_
      intro w206 hH207 ht208
      replace hr88 := Tt hr88 ht208; replace hB := Bx hB ht208; replace hA := ht208.new
      replace hH : Hp _ _ _ (o_83 v55 s49.terms :: o_3 v200 x199 :: o_3 v188 x187 :: obC b25 [v188, v53, v55] 26 :: obC b20 [.slice none 0 0, .slice none 0 0, .slice none 0 0] 26 :: L) := hH207
      refine V_CHw ?_
      refine CH_q2 rfl (Qv (fun w' hw' => Y_fieldAddrC (off2 := 1) underlying26 rfl sizeOf23 (by decide) rfl rfl) (VQ_CH ?_))
      refine CH_l1 (k := 2) rfl ?_
      have h217 : (v200).oneCell' = true := by obtain ⟨_, _, e, _⟩ := Sl.form (Hp.any (α := Int) (e := 3) (v := v200) (l := x199) hH (i := 1) rfl); rw [e]; rfl
      refine V_storeC (Dw := Dw) (off := 1) (ds := [v188, v200, v55]) hH (i := 3) rfl sizeOf23 (by show (v200 : Value).cells.size = _; rw [← Array.length_toList, Value.cells_one h217]; rfl) (Nat.le_of_ble_eq_true rfl) (by intro u hu; change u ∈ (v200 : Value).cells.toList at hu; rw [Value.cells_one h217] at hu; simp at hu; subst hu; assumption) (by show _ ++ (v200 : Value).cells.toList ++ _ = _; rw [Value.cells_one h217]; rfl) hB hA rfl rfl ?_
      intro w212 hH213 ht214
      replace hr88 := Tt hr88 ht214
      replace hH : Hp _ _ _ (o_83 v55 s49.terms :: o_3 v200 x199 :: o_3 v188 x187 :: obC b25 [v188, v200, v55] 26 :: obC b20 [.slice none 0 0, .slice none 0 0, .slice none 0 0] 26 :: L) := hH213
      refine V_CHw ?_
      refine CH_tail ?_
      show V _ _ _ _ [] _ _
      obtain rfl := Oi ho86
      refine V_end (fun a ha218 => ?_)
      exact ⟨(v188, v200, v55, A202), ha218.sb, ⟨hH, hr88⟩⟩
     rw [if_neg (nt hc100)] at ho86
     obtain rfl := Oi ho86
     refine C_skip (fun a ha219 => ?_)
     exact ⟨(v51, v53, v55, A57), ha219.sb, ⟨hH, hr88⟩⟩
    rintro ⟨v89, v91, v93, A98⟩ w95 ⟨hH99, hk96⟩ a ha97
    replace hr70 := Tr.trans hr70 hk96; replace hA := hk96.new
    replace hH : Hp _ _ _ (o_83 v93 s87.terms :: o_3 v91 s87.sizes :: o_3 v89 s87.ids :: obC b25 [v89, v91, v93] 26 :: obC b20 [.slice none 0 0, .slice none 0 0, .slice none 0 0] 26 :: L) := hH99
    obtain rfl := Oi ho68
    exact ⟨(v89, v91, v93, A98), ha97.sb, ⟨hH, hr70⟩⟩
   rintro ⟨v71, v73, v75, A80⟩ w77 ⟨hH81, hk78⟩ a ha79
   replace hr36 := Tr.trans hr36 hk78; replace hA := hk78.new
   replace hH : Hp _ _ _ (o_83 v75 s69.terms :: o_3 v73 s69.sizes :: o_3 v71 s69.ids :: obC b25 [v71, v73, v75] 26 :: obC b20 [.slice none 0 0, .slice none 0 0, .slice none 0 0] 26 :: L) := hH81
   refine C_at (n := ⟨65, [], none⟩) (fun _ _ => rfl) ?_ ha79
   refine C_region (Vy (Y_addI rfl rfl) (Mm ?_))
   obtain rfl := Oi h60
   refine V_end (fun a ha221 => ?_)
   exact ⟨s69, hlt63, h61, ⟨(v71, v73, v75, A80), ha221.sub ⟨rfl, rfl, rfl, rfl, rfl, rfl, Ws hlt63 hn66, trivial⟩, ⟨hH, hr36⟩⟩⟩
  refine C_exit (fun a ha222 => ?_)
  exact ⟨(s49, v51, v53, v55, A57), ha222.sb, ⟨(h64 (eq_of_dec hle62 hc67)).symm, hH, hr36⟩⟩
 rintro ⟨s35, v41, v43, v45, A47⟩ w38 ⟨rfl, hH48, hk39⟩ a ha40
 rw [Lp.andThen_fin] at hm
 replace h11 := El.tr h11 hk39; replace h17 := El.tr h17 hk39; replace hK := Tr.trans hK hk39; replace hB := Nat.le_trans hB hk39.ex.size; replace hA := hk39.new
 replace hH : Hp _ _ _ (o_83 v45 s35.terms :: o_3 v43 s35.sizes :: o_3 v41 s35.ids :: obC b25 [v41, v43, v45] 26 :: obC b20 [.slice none 0 0, .slice none 0 0, .slice none 0 0] 26 :: L) := hH48
 refine C_at (n := ⟨65, [], none⟩) (fun _ _ => rfl) ?_ ha40
 refine C_seq (Sr ?_)
 have h224 := El_know_Index_2 h11
 refine Fa underlying26 rfl sizeOf24 ?_
 obtain ⟨v225, h226, h227⟩ := El.list h224
 refine Ld h226 isAgg24 (Vy (Y_lenSl h227 rfl underlying24 rfl) (Mm (To ?_)))
 have hn260 := Sl.le h227
 obtain ⟨o228, ho228, hm⟩ := Bs hm
 refine C_cutG (ι := (know_Index × Value × Value × Value × (Nat → Prop))) (fun ⟨s229, v235, v237, v239, A241⟩ => [(4, Pt b20), (5, Pt b25)]) (fun ⟨s229, v235, v237, v239, A241⟩ => fun w' => o228 = .fin s229 ∧ Hp B A241 w' (o_83 v239 s229.terms :: o_3 v237 s229.sizes :: o_3 v235 s229.ids :: obC b25 [v235, v237, v239] 26 :: obC b20 [.slice none 0 0, .slice none 0 0, .slice none 0 0] 26 :: L) ∧ Tr Dw B A47 w38 A241 w') ?_ ?_
 ·refine C_block ?_
  refine C_range ho228 (fun k231 s243 a w' => ∃ i : (Value × Value × Value × (Nat → Prop)), Has ⟨65, [], none⟩ a ([(3, Pt b14), (4, Pt b20), (5, Pt b25), (40, v225), (41, Ii (x.terms.length : Int)), (42, Ii (k231 : Int))]) ∧ Hp B i.2.2.2 w' (o_83 i.2.2.1 s243.terms :: o_3 i.2.1 s243.sizes :: o_3 i.1 s243.ids :: obC b25 [i.1, i.2.1, i.2.2.1] 26 :: obC b20 [.slice none 0 0, .slice none 0 0, .slice none 0 0] 26 :: L) ∧ Tr Dw B A47 w38 i.2.2.2 w') (fun a ha => ⟨(v41, v43, v45, A47), ha.sb, ⟨hH, Tr.refl (Dw := Dw) hA⟩⟩) ?_
  rintro K k231 s243 a w244 ⟨⟨v245, v247, v249, A251⟩, ha369, hH252, hr230⟩ hle256 K259 h258
  refine C_of ?_ ha369
  replace h17 := El.tr h17 hr230; replace h227 := Sl.tr h227 hr230; replace hB := Bx hB hr230; replace hA := hr230.new
  replace hH : Hp _ _ _ (o_83 v249 s243.terms :: o_3 v247 s243.sizes :: o_3 v245 s243.ids :: obC b25 [v245, v247, v249] 26 :: obC b20 [.slice none 0 0, .slice none 0 0, .slice none 0 0] 26 :: L) := hH252
  refine Sr (Vy (Y_lss rfl rfl) (To ?_))
  refine C_seq ?_
  refine Cc (fun hc261 => ?_) fun hc261 => ?_
  ·have hlt257 := lt_of_dec hc261
   obtain ⟨x253, h254, h255⟩ := K259 hlt257
   refine Sk ?_
   refine C_seq ?_
   obtain ⟨s263, ho262, h254⟩ := Bs h254
   refine C_cutG (ι := (Value × Value × Value × (Nat → Prop))) (fun ⟨v265, v267, v269, A274⟩ => [(3, Pt b14), (4, Pt b20), (5, Pt b25), (40, v225), (41, Ii (x.terms.length : Int)), (42, Ii (k231 : Int))]) (fun ⟨v265, v267, v269, A274⟩ => fun w' => Hp B A274 w' (o_83 v269 s263.terms :: o_3 v267 s263.sizes :: o_3 v265 s263.ids :: obC b25 [v265, v267, v269] 26 :: obC b20 [.slice none 0 0, .slice none 0 0, .slice none 0 0] 26 :: L) ∧ Tr Dw B A251 w244 A274 w') ?_ ?_
   ·have hr264 : Tr Dw B A251 w244 A251 w244 := Tr.refl (Dw := Dw) hA
    refine C_block (Sr ?_)
    obtain ⟨x276, hx276, ho262⟩ := Bs ho262
    refine V_indexAddr h227 hx276 underlying24 sizeOf83 rfl rfl rfl ?_
    intro b277 o278 h279
    obtain ⟨v280, h282, h281⟩ := El_know_Term h279
    refine Vy (Y_loadA h282 isAgg83 sizeOf83 rfl) ?_
    refine V_alloc zeroValue83 rfl ?_
    intro b283 w284 h285
    have h290 : (v280).oneCell' = true := by obtain ⟨_, _, e, _⟩ := Sl.form h281; rw [e]; rfl
    refine Sn h285 sizeOf83 ?_
    intro w286 h287
    have hk292 := h287.kp (Dw := Dw)
    have h291 : El (α := know_Term) A251 w286 b283 0 x276 := h287.el hA ⟨[.string x276.word], _, rfl, rfl, ⟨_, rfl, h281⟩⟩
    have ht293 := Kp.tr hk292 hA hB; replace hH := Hp.kp hH hk292; replace h17 := El.tr h17 ht293; replace hr264 := Tt hr264 ht293; replace hB := Bx hB ht293; replace hA := ht293.new
    refine To ?_
    refine Sr ?_
    have h294 := El_know_Term_1 h291
    refine Fa underlying83 rfl sizeOf81 ?_
    obtain ⟨v295, h296, h297⟩ := El.list h294
    refine Ld h296 isAgg81 ?_
    obtain ⟨x298, hx298, ho262⟩ := Bs ho262
    refine Vc call56 (slices_Clone_Lknow_Posting_know_Posting_c (Dw := Dw) w286 hB hA x276.list_ v295 h297 hH hx298) ?_
    rintro v299 w301 ⟨_, A302, rfl, hH303, ht304⟩
    replace h17 := El.tr h17 ht304; replace h291 := El.tr h291 ht304; replace hr264 := Tt hr264 ht304; replace hB := Bx hB ht304; replace hA := ht304.new
    replace hH : Hp _ _ _ (o_86 v299 x298 :: o_83 v249 s243.terms :: o_3 v247 s243.sizes :: o_3 v245 s243.ids :: obC b25 [v245, v247, v249] 26 :: obC b20 [.slice none 0 0, .slice none 0 0, .slice none 0 0] 26 :: L) := hH303
    refine Vy (Y_makeFunc rfl rfl) ?_
    obtain ⟨x306, hx306, ho262⟩ := Bs ho262
    refine Vc call86 (slices_DeleteFunc_Lknow_Posting_know_Posting_c (Dw := Dw) w301 hB hA x298 v299 (fun y320 => portref2_without_1 y320 id_) 87 #[] #[Pt b14] call87 (fun w316 A317 ht318 h319 y309 v310 h311 v312 h313 r314 h315 => (portref2_without_1_c (Dw := Dw) w316 h319 y309 v310 h311 v312 h313 id_ b14 (El.tr h17 ht318) h315).mono (fun _ _ h => ⟨h.1, h.2⟩)) hH hx306) ?_
    rintro v307 w321 ⟨_, A322, rfl, h308, hH323, ht324⟩
    replace h291 := El.tr h291 ht324; replace hr264 := Tt hr264 ht324; replace hB := Bx hB ht324; replace hA := ht324.new
    replace hH : Hp _ _ _ (o_83 v249 s243.terms :: o_3 v247 s243.sizes :: o_3 v245 s243.ids :: obC b25 [v245, v247, v249] 26 :: obC b20 [.slice none 0 0, .slice none 0 0, .slice none 0 0] 26 :: L) := hH323
    refine As (To ?_)
    refine Sr (Mm (Vy (Y_lenSl h308 rfl underlying81 rfl) (Vy (Y_gtr rfl rfl) (To ?_))))
    obtain ⟨s326, ho325, ho262⟩ := Bs ho262
    refine C_cutG (ι := (Value × Value × Value × (Nat → Prop))) (fun ⟨v328, v330, v332, A337⟩ => [(3, Pt b14), (4, Pt b20), (5, Pt b25), (40, v225), (41, Ii (x.terms.length : Int)), (42, Ii (k231 : Int))]) (fun ⟨v328, v330, v332, A337⟩ => fun w' => Hp B A337 w' (o_83 v332 s326.terms :: o_3 v330 s326.sizes :: o_3 v328 s326.ids :: obC b25 [v328, v330, v332] 26 :: obC b20 [.slice none 0 0, .slice none 0 0, .slice none 0 0] 26 :: L) ∧ Tr Dw B A322 w321 A337 w') ?_ ?_
    ·have hr327 : Tr Dw B A322 w321 A322 w321 := Tr.refl (Dw := Dw) hA
     refine Cc (fun hc339 => ?_) fun hc339 => ?_
     ·rw [if_pos hc339] at ho325
      refine C_region (Vy (Y_fieldAddrC (off2 := 2) underlying26 rfl sizeOf24 (by decide) rfl rfl) (Ld (Hp.cell (j := 2) hH (i := 3) rfl rfl) isAgg24 ?_))
      have h340 := El_know_Term_0 h291
      refine Fa underlying83 rfl sizeOf9 (Ld (El.str h340) isAgg9 (Mm ?_))
      refine Vy (Y_build (cells := #[.string x276.word, v307]) underlying83 zeroValue83 (Tryz_places83 _ underlying83) rfl (by obtain ⟨a341, c342, e343, _⟩ := Sl.form h308; subst e343; with_unfolding_all rfl)) ?_
      refine V_buildSlice (Dw := Dw) (cells := #[.string x276.word, v307]) (l := ([(⟨x276.word, x306⟩ : know_Term)] : List know_Term)) (len := 1) underlying24 sizeOf83 zeroValue83 rfl (by obtain ⟨a348, c349, e350, _⟩ := Sl.form h308; subst e350; kernel_rfl) (show (1 * 2 : Nat) ≠ 0 by decide) (show (1 * 2 : Nat) ≤ 2 ^ 24 by decide) hA ⟨[.string x276.word, v307], _, rfl, ⟨[.string x276.word], _, rfl, rfl, ⟨_, rfl, h308⟩⟩, rfl⟩ rfl rfl ?_
      intro v344 w345 hk347 h346
      have ht351 := Kp.tr hk347 hA hB; replace hH := Hp.kp hH hk347; replace hr327 := Tt hr327 ht351; replace hB := Bx hB ht351; replace hA := ht351.new
      obtain ⟨x352, hx352, ho325⟩ := Bs ho325
      refine V_appendH (Dw := Dw) (e := 83) (v := v249) (l := s243.terms) (ti := t83) (bytes := 40) (lim := 3518437208883) hH (i := 0) rfl h346 hx352 underlying24 Tryz_info83 rfl rfl rfl rfl (by decide) (by decide) (by decide) hB hA rfl rfl rfl ?_
      intro v353 w354 A355 hH356 ht357
      replace hr327 := Tt hr327 ht357; replace hB := Bx hB ht357; replace hA := ht357.new
      replace hH : Hp _ _ _ (o_83 v353 x352 :: o_3 v247 s243.sizes :: o_3 v245 s243.ids :: obC b25 [v245, v247, v249] 26 :: obC b20 [.slice none 0 0, .slice none 0 0, .slice none 0 0] 26 :: L) := hH356
      refine Vy (Y_fieldAddrC (off2 := 2) underlying26 rfl sizeOf24 (by decide) rfl rfl) ?_
      have h363 : (v353).oneCell' = true := by obtain ⟨_, _, e, _⟩ := Sl.form (Hp.any (α := know_Term) (e := 83) (v := v353) (l := x352) hH (i := 0) rfl); rw [e]; rfl
      refine V_storeC (Dw := Dw) (off := 2) (ds := [v245, v247, v353]) hH (i := 3) rfl sizeOf24 (by show (v353 : Value).cells.size = _; rw [← Array.length_toList, Value.cells_one h363]; rfl) (Nat.le_of_ble_eq_true rfl) (by intro u hu; change u ∈ (v353 : Value).cells.toList at hu; rw [Value.cells_one h363] at hu; simp at hu; subst hu; assumption) (by show _ ++ (v353 : Value).cells.toList ++ _ = _; rw [Value.cells_one h363]; rfl) hB hA rfl rfl ?_
      intro w358 hH359 ht360
      replace hr327 := Tt hr327 ht360
      replace hH : Hp _ _ _ (o_83 v353 x352 :: o_3 v247 s243.sizes :: o_3 v245 s243.ids :: obC b25 [v245, v247, v353] 26 :: obC b20 [.slice none 0 0, .slice none 0 0, .slice none 0 0] 26 :: L) := hH359
      obtain rfl := Oi ho325
      refine V_end (fun a ha364 => ?_)
      exact ⟨(v245, v247, v353, A355), ha364.sb, ⟨hH, hr327⟩⟩
     rw [if_neg (nt hc339)] at ho325
     obtain rfl := Oi ho325
     refine C_skip (fun a ha365 => ?_)
     exact ⟨(v245, v247, v249, A322), ha365.sb, ⟨hH, hr327⟩⟩
    rintro ⟨v328, v330, v332, A337⟩ w334 ⟨hH338, hk335⟩ a ha336
    replace hr264 := Tr.trans hr264 hk335; replace hA := hk335.new
    replace hH : Hp _ _ _ (o_83 v332 s326.terms :: o_3 v330 s326.sizes :: o_3 v328 s326.ids :: obC b25 [v328, v330, v332] 26 :: obC b20 [.slice none 0 0, .slice none 0 0, .slice none 0 0] 26 :: L) := hH338
    obtain rfl := Oi ho262
    exact ⟨(v328, v330, v332, A337), ha336.sb, ⟨hH, hr264⟩⟩
   rintro ⟨v265, v267, v269, A274⟩ w271 ⟨hH275, hk272⟩ a ha273
   replace hr230 := Tr.trans hr230 hk272; replace hA := hk272.new
   replace hH : Hp _ _ _ (o_83 v269 s263.terms :: o_3 v267 s263.sizes :: o_3 v265 s263.ids :: obC b25 [v265, v267, v269] 26 :: obC b20 [.slice none 0 0, .slice none 0 0, .slice none 0 0] 26 :: L) := hH275
   refine C_at (n := ⟨65, [], none⟩) (fun _ _ => rfl) ?_ ha273
   refine C_region (Vy (Y_addI rfl rfl) (Mm ?_))
   obtain rfl := Oi h254
   refine V_end (fun a ha367 => ?_)
   exact ⟨s263, hlt257, h255, ⟨(v265, v267, v269, A274), ha367.sub ⟨rfl, rfl, rfl, rfl, rfl, Ws hlt257 hn260, trivial⟩, ⟨hH, hr230⟩⟩⟩
  refine C_exit (fun a ha368 => ?_)
  exact ⟨(s243, v245, v247, v249, A251), ha368.sb, ⟨(h258 (eq_of_dec hle256 hc261)).symm, hH, hr230⟩⟩
 rintro ⟨s229, v235, v237, v239, A241⟩ w232 ⟨rfl, hH242, hk233⟩ a ha234
 rw [Lp.andThen_fin] at hm
 replace hK := Tr.trans hK hk233; replace hB := Nat.le_trans hB hk233.ex.size; replace hA := hk233.new
 replace hH : Hp _ _ _ (o_83 v239 s229.terms :: o_3 v237 s229.sizes :: o_3 v235 s229.ids :: obC b25 [v235, v237, v239] 26 :: obC b20 [.slice none 0 0, .slice none 0 0, .slice none 0 0] 26 :: L) := hH242
 refine C_at (n := ⟨65, [], none⟩) (fun _ _ => rfl) ?_ ha234
 refine Sr (Vy (Y_loadA (Hp.part (off := 0) (n := 3) (ds := [v235, v237, v239]) hH (i := 3) rfl rfl) isAgg26 sizeOf26 rfl) ?_)
 have h375 : (v235).oneCell' = true := by obtain ⟨_, _, e, _⟩ := Sl.form (Hp.any (α := Int) (e := 3) (v := v235) (l := s229.ids) hH (i := 2) rfl); rw [e]; rfl
 have h378 : (v237).oneCell' = true := by obtain ⟨_, _, e, _⟩ := Sl.form (Hp.any (α := Int) (e := 3) (v := v237) (l := s229.sizes) hH (i := 1) rfl); rw [e]; rfl
 have h381 : (v239).oneCell' = true := by obtain ⟨_, _, e, _⟩ := Sl.form (Hp.any (α := know_Term) (e := 83) (v := v239) (l := s229.terms) hH (i := 0) rfl); rw [e]; rfl
 refine V_storeC (Dw := Dw) (off := 0) (ds := [v235, v237, v239]) hH (i := 4) rfl sizeOf26 rfl (Nat.le_of_ble_eq_true rfl) (by exact (List.forall_mem_cons.2 ⟨h375, (List.forall_mem_cons.2 ⟨h378, (List.forall_mem_cons.2 ⟨h381, (fun _ h => nomatch h)⟩)⟩)⟩)) rfl hB hA rfl rfl ?_
 intro w370 hH371 ht372
 replace hK := Tt hK ht372
 replace hH : Hp _ _ _ (o_83 v239 s229.terms :: o_3 v237 s229.sizes :: o_3 v235 s229.ids :: obC b25 [v235, v237, v239] 26 :: obC b20 [v235, v237, v239] 26 :: L) := hH371
 refine To ?_
 obtain rfl := Oi hm
 have hv382 := loadVar_agg (Hp.part (off := 0) (n := 3) (ds := [v235, v237, v239]) hH (i := 4) rfl rfl) isAgg26 sizeOf26
 replace hH : Hp B A241 w370 (o_3 v237 s229.sizes :: o_83 v239 s229.terms :: o_3 v235 s229.ids :: obC b25 [v235, v237, v239] 26 :: obC b20 [v235, v237, v239] 26 :: L) := Hp.front hH (i := 1) rfl
 replace hH : Hp B A241 w370 (o_3 v235 s229.ids :: o_3 v237 s229.sizes :: o_83 v239 s229.terms :: obC b25 [v235, v237, v239] 26 :: obC b20 [v235, v237, v239] 26 :: L) := Hp.front hH (i := 2) rfl
 replace hH : Hp B A241 w370 (o_3 v235 s229.ids :: o_3 v237 s229.sizes :: o_83 v239 s229.terms :: obC b20 [v235, v237, v239] 26 :: L) := Hp.drop hH (i := 3) rfl
 replace hH : Hp B A241 w370 (o_3 v235 s229.ids :: o_3 v237 s229.sizes :: o_83 v239 s229.terms :: L) := Hp.drop hH (i := 3) rfl
 refine Rt (Res.l1 results51 (RL.cell rfl hv382)) ?_
 exact ⟨v235, v237, v239, A241, rfl, hH, hK⟩
def Tryz_strings_Trim_lay_ren : Go.Shelf.Ren := ⟨fun | 119 => 198 | 120 => 193 | 137 => 197 | 151 => 178 | 152 => 192 | 160 => 110 | 197 => 142 | 217 => 188 | 224 => 190 | 225 => 189 | 227 => 146 | 228 => 177 | 231 => 144 | 232 => 145 | 233 => 147 | 234 => 148 | 235 => 149 | 236 => 150 | 260 => 176 | 266 => 195 | 271 => 179 | n => n, fun | 0 => 0 | 1 => 1 | 2 => 2 | 3 => 3 | 4 => 4 | 5 => 5 | 6 => 6 | 7 => 7 | 8 => 8 | 9 => 9 | 10 => 10 | 11 => 11 | 12 => 12 | 13 => 13 | 14 => 14 | 15 => 15 | 16 => 16 | 17 => 17 | 18 => 18 | 19 => 19 | 20 => 20 | 21 => 21 | 22 => 208 | 23 => 207 | 27 => 160 | 28 => 23 | 29 => 162 | 30 => 166 | 31 => 73 | 34 => 79 | 35 => 252 | 37 => 227 | 40 => 205 | 41 => 198 | 43 => 157 | 46 => 191 | 47 => 196 | 51 => 219 | 52 => 218 | 53 => 221 | 54 => 220 | 55 => 263 | 63 => 265 | 64 => 280 | 65 => 206 | 66 => 177 | 68 => 164 | 69 => 182 | 70 => 229 | 71 => 230 | 72 => 231 | 73 => 232 | 74 => 233 | 75 => 234 | 76 => 235 | 77 => 236 | 80 => 239 | 81 => 289 | 100 => 183 | 101 => 76 | 103 => 262 | 104 => 176 | 105 => 237 | 106 => 238 | 111 => 193 | 112 => 192 | 114 => 275 | 115 => 241 | 116 => 242 | 117 => 243 | 118 => 244 | 119 => 276 | 122 => 240 | 123 => 245 | 124 => 246 | 127 => 264 | 131 => 150 | 135 => 209 | 137 => 277 | 138 => 278 | 139 => 279 | 146 => 282 | 151 => 283 | 155 => 261 | 164 => 272 | 165 => 273 | 166 => 274 | 182 => 212 | 183 => 213 | 188 => 247 | 189 => 248 | 190 => 249 | 191 => 250 | 192 => 251 | 218 => 253 | 219 => 254 | 220 => 255 | 222 => 257 | 224 => 266 | 225 => 267 | 228 => 268 | 229 => 269 | 231 => 281 | 238 => 284 | 239 => 285 | 240 => 286 | 241 => 287 | 242 => 288 | 243 => 290 | 244 => 291 | 245 => 292 | 246 => 293 | 247 => 294 | 248 => 295 | 249 => 296 | n => n, fun | 1 => 0 | 3 => 1 | 4 => 2 | n => n⟩
theorem Tryz_strings_Trim_lay : Go.Proofs.Lays.n160 Tryz.prog Tryz_strings_Trim_lay_ren := {
  mixed := by kernel_rfl,
  f119 := Tryz.func198.trans (congrArg some (by kernel_rfl)),
  f120 := Tryz.func193.trans (congrArg some (by kernel_rfl)),
  f137 := Tryz.func197.trans (congrArg some (by kernel_rfl)),
  f151 := Tryz.func178.trans (congrArg some (by kernel_rfl)),
  f152 := Tryz.func192.trans (congrArg some (by kernel_rfl)),
  f160 := Tryz.func110.trans (congrArg some (by kernel_rfl)),
  f197 := Tryz.func142.trans (congrArg some (by kernel_rfl)),
  f217 := Tryz.func188.trans (congrArg some (by kernel_rfl)),
  f224 := Tryz.func190.trans (congrArg some (by kernel_rfl)),
  f225 := Tryz.func189.trans (congrArg some (by kernel_rfl)),
  f227 := Tryz.func146.trans (congrArg some (by kernel_rfl)),
  f228 := Tryz.func177.trans (congrArg some (by kernel_rfl)),
  f231 := Tryz.func144.trans (congrArg some (by kernel_rfl)),
  f232 := Tryz.func145.trans (congrArg some (by kernel_rfl)),
  f233 := Tryz.func147.trans (congrArg some (by kernel_rfl)),
  f234 := Tryz.func148.trans (congrArg some (by kernel_rfl)),
  f235 := Tryz.func149.trans (congrArg some (by kernel_rfl)),
  f236 := Tryz.func150.trans (congrArg some (by kernel_rfl)),
  f260 := Tryz.func176.trans (congrArg some (by kernel_rfl)),
  f266 := Tryz.func195.trans (congrArg some (by kernel_rfl)),
  f271 := Tryz.func179.trans (congrArg some (by kernel_rfl)),
  t0 := Tryz.underlying0,
  a0 := Tryz.isAgg0,
  z0 := Tryz.sizeOf0,
  v0 := Tryz.zeroValue0,
  t3 := Tryz.underlying3,
  a3 := Tryz.isAgg3,
  z3 := Tryz.sizeOf3,
  v3 := Tryz.zeroValue3,
  t4 := Tryz.underlying4,
  a4 := Tryz.isAgg4,
  z4 := Tryz.sizeOf4,
  v4 := Tryz.zeroValue4,
  t5 := Tryz.underlying5,
  a5 := Tryz.isAgg5,
  z5 := Tryz.sizeOf5,
  v5 := Tryz.zeroValue5,
  t9 := Tryz.underlying9,
  a9 := Tryz.isAgg9,
  z9 := Tryz.sizeOf9,
  v9 := Tryz.zeroValue9,
  t21 := Tryz.underlying21,
  a21 := Tryz.isAgg21,
  z21 := Tryz.sizeOf21,
  v21 := Tryz.zeroValue21,
  t46 := Tryz.underlying191,
  a46 := Tryz.isAgg191,
  z46 := Tryz.sizeOf191,
  v46 := Tryz.zeroValue191,
  t105 := Tryz.underlying237,
  a105 := Tryz.isAgg237,
  z105 := Tryz.sizeOf237,
  v105 := Tryz.zeroValue237,
  t116 := Tryz.underlying242,
  a116 := Tryz.isAgg242,
  z116 := Tryz.sizeOf242,
  t117 := Tryz.underlying243,
  a117 := Tryz.isAgg243,
  z117 := Tryz.sizeOf243,
  v117 := Tryz.zeroValue243,
  t119 := Tryz.underlying276,
  a119 := Tryz.isAgg276,
  z119 := Tryz.sizeOf276,
  t124 := Tryz.underlying246,
  a124 := Tryz.isAgg246,
  z124 := Tryz.sizeOf246,
  v124 := Tryz.zeroValue246,
  t138 := Tryz.underlying278,
  a138 := Tryz.isAgg278,
  z138 := Tryz.sizeOf278,
  v138 := Tryz.zeroValue278,
  t139 := Tryz.underlying279,
  a139 := Tryz.isAgg279,
  z139 := Tryz.sizeOf279,
  v139 := Tryz.zeroValue279,
  g3 := by kernel_rfl,
  g4 := by kernel_rfl }
theorem strings_Trim_c (w : World) {A : Nat → Prop} (hA : ∀ b, w.heap.size ≤ b → A b) (s : ByteArray) (cutset : ByteArray) {r : ByteArray} (hm : strings_Trim s cutset = some r) : Ret Tryz.prog 110 #[.string s, .string cutset] w fun v w' => v = .string r ∧ Kp False w w' := by
  unfold strings_Trim at hm
  split at hm
  case isFalse => cases hm
  rename_i h
  obtain rfl := Option.some.inj hm
  refine Calls.mono (Go.Proofs.Any.strings_Trim_laid Tryz_strings_Trim_lay (by kernel_rfl) s cutset w h.1 h.2.1 (Go.Proofs.ascii_of_all h.2.2)) ?_
  rintro _ w' ⟨rfl, hk⟩
  exact ⟨_, rfl, rfl, .of hk⟩
theorem portref2_StemOf_1_c (w : World) {A : Nat → Prop} (s : ByteArray) (p1_ : ByteArray) (b_p1_ : Nat) (h_p1_ : El A w b_p1_ 0 p1_) {r : Bool} (hm : portref2_StemOf_1 s p1_ = some r) : Ret prog 111 #[.string s, Pt b_p1_] w fun v w' => v = .bool r ∧ w = w' := by
 unfold portref2_StemOf_1 at hm
 refine enter func111 rfl ntmps111 rfl ?_
 refine Sr (As (To ?_))
 refine Sr (Ld (El.str h_p1_) isAgg9 (Mm ?_))
 obtain ⟨x1, hx1, hm⟩ := Bs hm
 refine Vc call112 (strings_HasSuffix_c w p1_ s hx1) ?_
 rintro _ _ ⟨rfl, rfl⟩
 refine As (To ?_)
 obtain rfl := Oi hm
 refine Rt (Res.one results111 rfl) ?_
 exact ⟨rfl, rfl⟩
theorem portref2_StemOf_c (w : World) {A : Nat → Prop} (hA : ∀ b, w.heap.size ≤ b → A b) (w_ : ByteArray) {r : ByteArray} (hm : portref2_StemOf w_ = some r) : Ret prog 81 #[.string w_] w fun v w' => v = .string r ∧ Kp False w w' := by
 unfold portref2_StemOf at hm
 refine enter func81 rfl ntmps81 rfl ?_
 have hA0 := hA
 obtain ⟨hB, hK, hH⟩ := St (Dw := False) hA
 refine Sr ?_
 refine V_box rfl rfl ?_
 intro b1 w2 h3
 have hk5 := h3.kp (Dw := False)
 have h4 : El (α := ByteArray) A w2 b1 0 w_ := h3.el hA rfl
 have ht6 := Kp.tr hk5 hA hB; replace hH := Hp.kp hH hk5; replace hK := Tt hK ht6; replace hB := Bx hB ht6; replace hA := ht6.new
 refine As (To ?_)
 refine Sr (Ld (El.str h4) isAgg9 (Vy (Y_lenStr rfl underlying9 rfl) (As (To ?_))))
 refine C_seq (C_seq ?_)
 obtain ⟨s8, ho7, hm⟩ := Bs hm
 refine C_cutG (ι := (Nat → Prop)) (fun (A13 : (Nat → Prop)) => [(1, Pt b1), (3, Ii (w_.size : Int)), (13, .bool s8)]) (fun (A13 : (Nat → Prop)) => fun w' => Hp w.heap.size A13 w' ([]) ∧ Tr False w.heap.size A w2 A13 w') ?_ ?_
 ·have hr9 : Tr False w.heap.size A w2 A w2 := Tr.refl (Dw := False) hA
  refine C_region (Mm (Vy (Y_lss rfl rfl) (Mm ?_)))
  rcases Be (decide ((w_.size : Int) < 4)) with hc15 | hc15
  ·rw [if_pos hc15] at ho7
   refine Gm hc15 (Gm hc15 (Gm hc15 (Vy (Y_pick_te rfl hc15 rfl) ?_)))
   obtain rfl := Oi ho7
   refine V_end (fun a ha16 => ?_)
   exact ⟨A, ha16.sb, ⟨hH, hr9⟩⟩
  rw [if_neg (nt hc15)] at ho7
  refine Gf hc15 (Ld (El.str h4) isAgg9 (Gf hc15 ?_))
  obtain ⟨x17, hx17, ho7⟩ := Bs ho7
  refine Vc call110 (strings_Trim_c w2 hA w_ (⟨#[97, 98, 99, 100, 101, 102, 103, 104, 105, 106, 107, 108, 109, 110, 111, 112, 113, 114, 115, 116, 117, 118, 119, 120, 121, 122]⟩ : ByteArray) hx17) ?_
  rintro _ w18 ⟨rfl, hk19⟩
  have ht20 := Kp.tr hk19 hA hB; replace hH := Hp.kp hH hk19; replace hr9 := Tt hr9 ht20
  refine Gf hc15 (Vy (Y_sneq rfl rfl) (Vy (Y_pick_fe rfl hc15 rfl) ?_))
  obtain rfl := Oi ho7
  refine V_end (fun a ha21 => ?_)
  exact ⟨A, ha21.sb, ⟨hH, hr9⟩⟩
 rintro A13 w10 ⟨hH14, hk11⟩ a ha12
 replace h4 := El.tr h4 hk11; replace hK := Tr.trans hK hk11; replace hA := hk11.new; replace hH := hH14
 refine C_at (n := ⟨65, [], none⟩) (fun _ _ => rfl) ?_ ha12
 refine Cc (fun hc22 => ?_) fun hc22 => ?_
 ·rw [if_pos hc22] at hm
  refine Sr (Ld (El.str h4) isAgg9 (As (To ?_)))
  obtain rfl := Oi hm
  refine Rt (Res.one results81 rfl) ?_
  exact ⟨rfl, hK.kp⟩
 rw [if_neg (nt hc22)] at hm
 refine Sk ?_
 refine Sr (Vy (Y_makeFunc rfl rfl) (As (To ?_)))
 refine C_seq (C_block (Sr (Mm ?_)))
 obtain ⟨x23, hx23, hm⟩ := Bs hm
 refine Vc call111 (portref2_StemOf_1_c w10 (⟨#[105, 101, 115]⟩ : ByteArray) w_ b1 h4 hx23) ?_
 rintro _ _ ⟨rfl, rfl⟩
 refine As (To ?_)
 refine Cc (fun hc24 => ?_) fun hc24 => ?_
 ·rw [if_pos hc24] at hm
  refine Sr (Ld (El.str h4) isAgg9 (Mm (Vy (Y_subI rfl rfl) ?_)))
  obtain ⟨x25, hx25, hm⟩ := Bs hm
  refine Vy (Y_sliceSH hx25 underlying9 rfl rfl) ?_
  obtain ⟨x26, hx26, hm⟩ := Bs hm
  refine Vy (Y_sadd hx26 rfl rfl) (As (To ?_))
  obtain rfl := Oi hm
  refine Rt (Res.one results81 rfl) ?_
  exact ⟨rfl, hK.kp⟩
 rw [if_neg (nt hc24)] at hm
 refine Sr (Mm ?_)
 obtain ⟨x27, hx27, hm⟩ := Bs hm
 refine Vc call111 (portref2_StemOf_1_c w10 (⟨#[115, 115, 101, 115]⟩ : ByteArray) w_ b1 h4 hx27) ?_
 rintro _ _ ⟨rfl, rfl⟩
 refine As (To ?_)
 refine Cc (fun hc28 => ?_) fun hc28 => ?_
 ·rw [if_pos hc28] at hm
  refine Sr (Ld (El.str h4) isAgg9 (Mm (Vy (Y_subI rfl rfl) ?_)))
  obtain ⟨x29, hx29, hm⟩ := Bs hm
  refine Vy (Y_sliceSH hx29 underlying9 rfl rfl) (As (To ?_))
  obtain rfl := Oi hm
  refine Rt (Res.one results81 rfl) ?_
  exact ⟨rfl, hK.kp⟩
 rw [if_neg (nt hc28)] at hm
 refine Sr (Mm ?_)
 obtain ⟨x30, hx30, hm⟩ := Bs hm
 refine Vc call111 (portref2_StemOf_1_c w10 (⟨#[115, 115]⟩ : ByteArray) w_ b1 h4 hx30) ?_
 rintro _ _ ⟨rfl, rfl⟩
 refine As (To ?_)
 refine Cc (fun hc31 => ?_) fun hc31 => ?_
 ·rw [if_pos hc31] at hm
  refine Sr (Ld (El.str h4) isAgg9 (As (To ?_)))
  obtain rfl := Oi hm
  refine Rt (Res.one results81 rfl) ?_
  exact ⟨rfl, hK.kp⟩
 rw [if_neg (nt hc31)] at hm
 refine Sr (Mm ?_)
 obtain ⟨x32, hx32, hm⟩ := Bs hm
 refine Vc call111 (portref2_StemOf_1_c w10 (⟨#[115]⟩ : ByteArray) w_ b1 h4 hx32) ?_
 rintro _ _ ⟨rfl, rfl⟩
 refine As (To ?_)
 refine Cc (fun hc33 => ?_) fun hc33 => ?_
 ·rw [if_pos hc33] at hm
  refine Sr (Ld (El.str h4) isAgg9 (Mm (Vy (Y_subI rfl rfl) ?_)))
  obtain ⟨x34, hx34, hm⟩ := Bs hm
  refine Vy (Y_sliceSH hx34 underlying9 rfl rfl) (As (To ?_))
  obtain rfl := Oi hm
  refine Rt (Res.one results81 rfl) ?_
  exact ⟨rfl, hK.kp⟩
 rw [if_neg (nt hc33)] at hm
 refine Sr (Mm ?_)
 obtain ⟨x35, hx35, hm⟩ := Bs hm
 refine Vc call111 (portref2_StemOf_1_c w10 (⟨#[105, 110, 103]⟩ : ByteArray) w_ b1 h4 hx35) ?_
 rintro _ _ ⟨rfl, rfl⟩
 refine Mm ?_
 refine V_cut 3 (fun _ : Unit => [(1, Pt b1), (3, Ii (w_.size : Int)), (4, .func (.func 111) #[] #[Pt b1]), (48, .bool (x35 && (decide ((6 : Int) ≤ (w_.size : Int)))))]) (fun _ w' => w10 = w') ?_ ?_
 ·simp only [List.take, List.drop]
  rcases Be (x35) with hc36 | hc36
  ·refine Gf hc36 (Mm (Gf hc36 (Vy (Y_geq rfl rfl) (Vy (Y_pick_te rfl hc36 rfl) ?_))))
   exact V_end fun a ha => ⟨(), ha.sub ⟨rfl, rfl, rfl, (by rw [hc36]; rfl), trivial⟩, rfl⟩
  refine Gm hc36 (Gm hc36 (Vy (Y_pick_fe rfl hc36 rfl) ?_))
  exact V_end fun a ha => ⟨(), ha.sub ⟨rfl, rfl, rfl, (by rw [hc36]; rfl), trivial⟩, rfl⟩
 simp only [List.take, List.drop]
 rintro _ _ rfl
 refine As (To ?_)
 refine Cc (fun hc38 => ?_) fun hc38 => ?_
 ·rw [if_pos hc38] at hm
  refine Sr (Ld (El.str h4) isAgg9 (Mm (Vy (Y_subI rfl rfl) ?_)))
  obtain ⟨x39, hx39, hm⟩ := Bs hm
  refine Vy (Y_sliceSH hx39 underlying9 rfl rfl) (As (To ?_))
  obtain rfl := Oi hm
  refine Rt (Res.one results81 rfl) ?_
  exact ⟨rfl, hK.kp⟩
 rw [if_neg (nt hc38)] at hm
 refine Sr (Mm ?_)
 obtain ⟨x40, hx40, hm⟩ := Bs hm
 refine Vc call111 (portref2_StemOf_1_c w10 (⟨#[101, 100]⟩ : ByteArray) w_ b1 h4 hx40) ?_
 rintro _ _ ⟨rfl, rfl⟩
 refine Mm ?_
 refine V_cut 3 (fun _ : Unit => [(1, Pt b1), (3, Ii (w_.size : Int)), (59, .bool (x40 && (decide ((5 : Int) ≤ (w_.size : Int)))))]) (fun _ w' => w10 = w') ?_ ?_
 ·simp only [List.take, List.drop]
  rcases Be (x40) with hc41 | hc41
  ·refine Gf hc41 (Mm (Gf hc41 (Vy (Y_geq rfl rfl) (Vy (Y_pick_te rfl hc41 rfl) ?_))))
   exact V_end fun a ha => ⟨(), ha.sub ⟨rfl, rfl, (by rw [hc41]; rfl), trivial⟩, rfl⟩
  refine Gm hc41 (Gm hc41 (Vy (Y_pick_fe rfl hc41 rfl) ?_))
  exact V_end fun a ha => ⟨(), ha.sub ⟨rfl, rfl, (by rw [hc41]; rfl), trivial⟩, rfl⟩
 simp only [List.take, List.drop]
 rintro _ _ rfl
 refine As (To ?_)
 refine Cc (fun hc43 => ?_) fun hc43 => ?_
 ·rw [if_pos hc43] at hm
  refine Sr (Ld (El.str h4) isAgg9 (Mm (Vy (Y_subI rfl rfl) ?_)))
  obtain ⟨x44, hx44, hm⟩ := Bs hm
  refine Vy (Y_sliceSH hx44 underlying9 rfl rfl) (As (To ?_))
  obtain rfl := Oi hm
  refine Rt (Res.one results81 rfl) ?_
  exact ⟨rfl, hK.kp⟩
 rw [if_neg (nt hc43)] at hm
 refine Sk ?_
 refine Sr (Ld (El.str h4) isAgg9 (As (To ?_)))
 obtain rfl := Oi hm
 refine Rt (Res.one results81 rfl) ?_
 exact ⟨rfl, hK.kp⟩
def Tryz_sf57_ren : Go.Shelf.Ren := ⟨fun | 6 => 57 | 14 => 92 | 15 => 93 | 20 => 116 | 21 => 117 | 22 => 118 | 23 => 119 | 24 => 120 | 25 => 121 | 26 => 122 | 27 => 123 | 28 => 124 | 29 => 125 | 46 => 162 | 47 => 163 | 48 => 164 | 49 => 165 | 50 => 166 | 57 => 184 | n => n, fun | 0 => 0 | 1 => 1 | 2 => 2 | 3 => 3 | 4 => 4 | 5 => 5 | 6 => 6 | 7 => 7 | 8 => 8 | 9 => 9 | 10 => 10 | 11 => 11 | 12 => 12 | 13 => 13 | 14 => 14 | 15 => 15 | 16 => 16 | 17 => 17 | 18 => 18 | 19 => 19 | 20 => 20 | 21 => 21 | 22 => 81 | 23 => 156 | 24 => 86 | 25 => 158 | 27 => 23 | 29 => 157 | 30 => 252 | 37 => 195 | 38 => 196 | 39 => 191 | 40 => 190 | 42 => 193 | 44 => 211 | 45 => 212 | 46 => 213 | 47 => 214 | 48 => 215 | 49 => 216 | 50 => 150 | 51 => 217 | 52 => 218 | 53 => 219 | 54 => 220 | 55 => 221 | 66 => 253 | 67 => 254 | 68 => 255 | 69 => 256 | 70 => 257 | 71 => 258 | 76 => 268 | 77 => 269 | 78 => 270 | 81 => 239 | 82 => 284 | 83 => 285 | 84 => 286 | 85 => 287 | 86 => 288 | 87 => 289 | 88 => 290 | 89 => 291 | 90 => 292 | 91 => 264 | 92 => 293 | 93 => 294 | 94 => 295 | 95 => 296 | 96 => 272 | n => n, fun n => n⟩
theorem Tryz_sf57_lay : Go.Proofs.SlLaysF0.n6 Tryz.prog Tryz_sf57_ren := {
  mixed := by kernel_rfl,
  f6 := ⟨ "slices.SortFunc[[]porterslodge/know.Posting,porterslodge/know.Posting]", by kernel_rfl, Tryz.func57.trans (congrArg some (by kernel_rfl))⟩,
  f14 := ⟨ "slices.pdqsortCmpFunc[porterslodge/know.Posting]", by kernel_rfl, Tryz.func92.trans (congrArg some (by kernel_rfl))⟩,
  f15 := Tryz.func93.trans (congrArg some (by kernel_rfl)),
  f20 := ⟨ "slices.insertionSortCmpFunc[porterslodge/know.Posting]", by kernel_rfl, Tryz.func116.trans (congrArg some (by kernel_rfl))⟩,
  f21 := ⟨ "slices.heapSortCmpFunc[porterslodge/know.Posting]", by kernel_rfl, Tryz.func117.trans (congrArg some (by kernel_rfl))⟩,
  f22 := ⟨ "slices.breakPatternsCmpFunc[porterslodge/know.Posting]", by kernel_rfl, Tryz.func118.trans (congrArg some (by kernel_rfl))⟩,
  f23 := ⟨ "slices.choosePivotCmpFunc[porterslodge/know.Posting]", by kernel_rfl, Tryz.func119.trans (congrArg some (by kernel_rfl))⟩,
  f24 := ⟨ "slices.reverseRangeCmpFunc[porterslodge/know.Posting]", by kernel_rfl, Tryz.func120.trans (congrArg some (by kernel_rfl))⟩,
  f25 := ⟨ "slices.partialInsertionSortCmpFunc[porterslodge/know.Posting]", by kernel_rfl, Tryz.func121.trans (congrArg some (by kernel_rfl))⟩,
  f26 := ⟨ "slices.partitionEqualCmpFunc[porterslodge/know.Posting]", by kernel_rfl, Tryz.func122.trans (congrArg some (by kernel_rfl))⟩,
  f27 := ⟨ "slices.partitionCmpFunc[porterslodge/know.Posting]", by kernel_rfl, Tryz.func123.trans (congrArg some (by kernel_rfl))⟩,
  f28 := Tryz.func124.trans (congrArg some (by kernel_rfl)),
  f29 := Tryz.func125.trans (congrArg some (by kernel_rfl)),
  f46 := ⟨ "slices.siftDownCmpFunc[porterslodge/know.Posting]", by kernel_rfl, Tryz.func162.trans (congrArg some (by kernel_rfl))⟩,
  f47 := Tryz.func163.trans (congrArg some (by kernel_rfl)),
  f48 := Tryz.func164.trans (congrArg some (by kernel_rfl)),
  f49 := ⟨ "slices.medianAdjacentCmpFunc[porterslodge/know.Posting]", by kernel_rfl, Tryz.func165.trans (congrArg some (by kernel_rfl))⟩,
  f50 := ⟨ "slices.medianCmpFunc[porterslodge/know.Posting]", by kernel_rfl, Tryz.func166.trans (congrArg some (by kernel_rfl))⟩,
  f57 := ⟨ "slices.order2CmpFunc[porterslodge/know.Posting]", by kernel_rfl, Tryz.func184.trans (congrArg some (by kernel_rfl))⟩,
  t0 := Tryz.underlying0,
  a0 := Tryz.isAgg0,
  z0 := Tryz.sizeOf0,
  v0 := Tryz.zeroValue0,
  t3 := Tryz.underlying3,
  a3 := Tryz.isAgg3,
  z3 := Tryz.sizeOf3,
  v3 := Tryz.zeroValue3,
  t4 := Tryz.underlying4,
  a4 := Tryz.isAgg4,
  z4 := Tryz.sizeOf4,
  v4 := Tryz.zeroValue4,
  t5 := Tryz.underlying5,
  a5 := Tryz.isAgg5,
  z5 := Tryz.sizeOf5,
  v5 := Tryz.zeroValue5,
  t9 := Tryz.underlying9,
  a9 := Tryz.isAgg9,
  z9 := Tryz.sizeOf9,
  v9 := Tryz.zeroValue9,
  t22 := Tryz.underlying81,
  a22 := Tryz.isAgg81,
  z22 := Tryz.sizeOf81,
  v22 := Tryz.zeroValue81,
  t25 := Tryz.underlying158,
  a25 := Tryz.isAgg158,
  z25 := Tryz.sizeOf158,
  v25 := Tryz.zeroValue158,
  t39 := Tryz.underlying191,
  a39 := Tryz.isAgg191,
  z39 := Tryz.sizeOf191,
  v39 := Tryz.zeroValue191,
  t45 := Tryz.underlying212,
  a45 := Tryz.isAgg212,
  z45 := Tryz.sizeOf212,
  v45 := Tryz.zeroValue212,
  t46 := Tryz.underlying213,
  a46 := Tryz.isAgg213,
  z46 := Tryz.sizeOf213,
  v46 := Tryz.zeroValue213,
  t50 := Tryz.underlying150,
  a50 := Tryz.isAgg150,
  z50 := Tryz.sizeOf150,
  v50 := Tryz.zeroValue150,
  t53 := Tryz.underlying219,
  a53 := Tryz.isAgg219,
  z53 := Tryz.sizeOf219,
  v53 := Tryz.zeroValue219,
  t55 := Tryz.underlying221,
  a55 := Tryz.isAgg221,
  z55 := Tryz.sizeOf221,
  v55 := Tryz.zeroValue221,
  t66 := Tryz.underlying253,
  a66 := Tryz.isAgg253,
  z66 := Tryz.sizeOf253,
  v66 := Tryz.zeroValue253,
  t70 := Tryz.underlying257,
  a70 := Tryz.isAgg257,
  z70 := Tryz.sizeOf257,
  v70 := Tryz.zeroValue257,
  t76 := Tryz.underlying268,
  a76 := Tryz.isAgg268,
  z76 := Tryz.sizeOf268,
  v76 := Tryz.zeroValue268,
  t77 := Tryz.underlying269,
  a77 := Tryz.isAgg269,
  z77 := Tryz.sizeOf269,
  v77 := Tryz.zeroValue269 }
theorem Tryz_sf57 {cmp : know_Posting → know_Posting → Option Int} {l r : List know_Posting} {g : FuncId} {cb : Array Value} {B : Nat} {A : Nat → Prop} {w : World} {L : List Ob} {i : Nat} {v : Value} (eg : ∀ (args : Array Value) (w : World), (callFunc g args).run Tryz.prog w = .ok (.enter g args) w) (hcl : ∀ (w1 : World), Tr True B A w A w1 → (∀ b, w1.heap.size ≤ b → A b) → ∀ (x y : know_Posting) (cx cy : List Value) (c : Int), GoT.rep A w1 cx x → GoT.rep A w1 cy y → cmp x y = some c → Ret Tryz.prog g (#[.agg cx.toArray, .agg cy.toArray] ++ cb) w1 fun v w' => v = .int .i64 c ∧ Kp True w1 w') (hH : Hp B A w L) (hi : L[i]? = some (o_86 v l)) (hB : B ≤ w.heap.size) (hA : ∀ b, w.heap.size ≤ b → A b) (hr : sortFuncL cmp l = some r) : Ret Tryz.prog 57 #[v, .func (.func g) #[] cb] w fun u w' => u = .tuple #[] ∧ Hp B A w' (L.set i (o_86 v r)) ∧ Tr Dw B A w A w' :=
  Hp.sortFuncK (Dw := Dw) (fun p c w => Go.Proofs.AnyF.slices_SortFunc_none Tryz_sf57_lay p c _ w) (fun enc hk hone cf hO blk off cap d w hc hh hb hs => Go.Proofs.AnyQ.slices_SortFunc Tryz_sf57_lay _ Tryz.isAgg86 Tryz.sizeOf86 enc hk hone cf hO g cb blk off cap d w eg hc hh hb hs) hcl hH hi hB hA hr
theorem portref2_indexOf_2_c (w : World) {A : Nat → Prop} (hA : ∀ b, w.heap.size ≤ b → A b) (a_ : know_Posting) (v_a_0 : Value) (h_a_0 : Sl A w v_a_0 a_.title) (v_a_1 : Value) (h_a_1 : Sl A w v_a_1 a_.body) (b : know_Posting) (v_b0 : Value) (h_b0 : Sl A w v_b0 b.title) (v_b1 : Value) (h_b1 : Sl A w v_b1 b.body) {r : Int} (hm : portref2_indexOf_2 a_ b = some r) : Ret prog 83 #[.agg #[Ii a_.id_, v_a_0, v_a_1], .agg #[Ii b.id_, v_b0, v_b1]] w fun v w' => v = Ii r ∧ Kp Dw w w' := by
 unfold portref2_indexOf_2 at hm
 refine enter func83 rfl ntmps83 rfl ?_
 have hA0 := hA
 obtain ⟨hB, hK, hH⟩ := St (Dw := Dw) hA
 refine Sr ?_
 refine V_box rfl rfl ?_
 intro b9 w10 h11
 have hk13 := h11.kp (Dw := Dw)
 have h12 : El (α := know_Posting) A w10 b9 0 a_ := h11.el hA ⟨[Ii a_.id_], _, rfl, rfl, ⟨[v_a_0], _, rfl, ⟨_, rfl, h_a_0⟩, ⟨_, rfl, h_a_1⟩⟩⟩
 have ht14 := Kp.tr hk13 hA hB; replace h_b0 := Sl.tr h_b0 ht14; replace h_b1 := Sl.tr h_b1 ht14; replace hK := Tt hK ht14; replace hB := Bx hB ht14; replace hA := ht14.new
 refine V_box rfl rfl ?_
 intro b15 w17 h18
 have hk20 := h18.kp (Dw := Dw)
 have h19 : El (α := know_Posting) A w17 b15 0 b := h18.el hA ⟨[Ii b.id_], _, rfl, rfl, ⟨[v_b0], _, rfl, ⟨_, rfl, h_b0⟩, ⟨_, rfl, h_b1⟩⟩⟩
 have ht21 := Kp.tr hk20 hA hB; replace h12 := El.tr h12 ht21; replace hK := Tt hK ht21
 refine As (To ?_)
 refine Sr ?_
 have h22 := El_know_Posting_0 h12
 refine Fa underlying86 rfl sizeOf3 (Li h22 isAgg3 ?_)
 have h23 := El_know_Posting_0 h19
 refine Fa underlying86 rfl sizeOf3 (Li h23 isAgg3 ?_)
 refine Vc call59 (cmp_Compare_int_c w17 a_.id_ b.id_) ?_
 rintro _ _ ⟨rfl, rfl⟩
 refine As (To ?_)
 obtain rfl := Oi hm
 refine Rt (Res.one results83 rfl) ?_
 exact ⟨rfl, hK.kp⟩
end Go.Proofs.YtldkdabcdbgpbaaGreatDoor.W
