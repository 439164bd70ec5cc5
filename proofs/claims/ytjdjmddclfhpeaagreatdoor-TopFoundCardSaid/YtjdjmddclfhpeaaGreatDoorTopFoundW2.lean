import Derived.Test.YtjdjmddclfhpeaaGreatDoorTopFoundW1
namespace Go.Proofs.YtjdjmddclfhpeaaGreatDoor.W
open Go Go.RowKit Go.Pu Go.Gw Go.Proofs Go.Proofs.YtjdjmddclfhpeaaGreatDoor.M
set_option linter.unusedVariables false
set_option linter.unusedSimpArgs false
variable {Dw : Prop}
set_option maxHeartbeats 4000000
set_option maxRecDepth 4000
open Tryz
theorem know_NewIndex_c (w : World) {A : Nat → Prop} (hA : ∀ b, w.heap.size ≤ b → A b) (l : (List know_Entry)) (v_l : Value) (h_l : Sl A w v_l l) {r : (know_Index × Int)} (hm : know_NewIndex l = some r) : Ret prog 10 #[v_l] w fun v w' => ∃ s0 s1 s2, v = .tuple #[.agg #[s0, s1, s2], Ii r.2] ∧ Sl A w' s0 r.1.ids ∧ Sl A w' s1 r.1.sizes ∧ Sl A w' s2 r.1.terms ∧ Kp Dw w w' := by
 unfold know_NewIndex at hm
 refine enter func10 rfl ntmps10 rfl ?_
 have hA0 := hA
 obtain ⟨hB, hK, hH⟩ := St (Dw := Dw) hA
 refine Sr ?_
 refine V_allocH (Dw := Dw) (B := w.heap.size) hH zeroValue47 hB hA rfl ?_
 intro b3 w4 A5 hH6 ht7
 replace h_l := Sl.tr h_l ht7; replace hK := Tt hK ht7; replace hB := Bx hB ht7; replace hA := ht7.new
 replace hH : Hp _ _ _ (obC b3 [.slice none 0 0, .slice none 0 0, .slice none 0 0] 47 :: []) := hH6
 refine As (To ?_)
 refine C_seq (Sr (Mm (Vy (Y_lenSl h_l rfl underlying42 rfl) (Vy (Y_gtr rfl rfl) (To ?_)))))
 refine Cc (fun hc8 => ?_) fun hc8 => ?_
 ·rw [if_pos hc8] at hm
  refine Sr ?_
  refine Vy (Y_build underlying47 zeroValue47 (Tryz_places47 _ underlying47) rfl (by with_unfolding_all rfl)) ?_
  refine V_storeC (Dw := Dw) (off := 0) (ds := [.slice none 0 0, .slice none 0 0, .slice none 0 0]) hH (i := 0) rfl sizeOf47 rfl (Nat.le_of_ble_eq_true rfl) (by exact (List.forall_mem_cons.2 ⟨rfl, (List.forall_mem_cons.2 ⟨rfl, (List.forall_mem_cons.2 ⟨rfl, (fun _ h => nomatch h)⟩)⟩)⟩)) rfl hB hA rfl rfl ?_
  intro w9 hH10 ht11
  replace hK := Tt hK ht11
  replace hH : Hp _ _ _ (obC b3 [.slice none 0 0, .slice none 0 0, .slice none 0 0] 47 :: []) := hH10
  refine As (To ?_)
  obtain rfl := Oi hm
  refine C_ret ?_
  try simp only [↓ib, ↓th]
  exact retQ rfl (Res.l2 results10 (RL.cell rfl (loadVar_agg (Hp.part (off := 0) (n := 3) (ds := [.slice none 0 0, .slice none 0 0, .slice none 0 0]) hH (i := 0) rfl rfl) isAgg47 sizeOf47)) (RL.tmp rfl)) ⟨.slice none 0 0, .slice none 0 0, .slice none 0 0, rfl, Sl.nil, Sl.nil, Sl.nil, hK.kp⟩
 rw [if_neg (nt hc8)] at hm
 refine Sk ?_
 refine Sr (As (To ?_))
 refine C_seq (Sr (Mm (Vy (Y_lenSl h_l rfl underlying42 rfl) (Mm (To ?_)))))
 have hn45 := Sl.le h_l
 obtain ⟨o12, ho12, hm⟩ := Bs hm
 refine C_cutG (ι := ((Int × know_Index) × Value × Value × Value × (Nat → Prop))) (fun ⟨s13, v20, v22, v24, A26⟩ => [(0, v_l), (2, Pt b3)]) (fun ⟨s13, v20, v22, v24, A26⟩ => fun w' => o12 = .fin s13 ∧ Sl A26 w' v20 s13.2.ids ∧ Sl A26 w' v22 s13.2.sizes ∧ Sl A26 w' v24 s13.2.terms ∧ Hp w.heap.size A26 w' (obC b3 [v20, v22, v24] 47 :: []) ∧ Tr Dw w.heap.size A5 w4 A26 w') ?_ ?_
 ·refine C_block ?_
  refine C_range ho12 (fun k15 s28 a w' => ∃ i : (Value × Value × Value × (Nat → Prop)), Has ⟨42, [], none⟩ a ([(0, v_l), (2, Pt b3), (4, Ii s28.1), (15, v_l), (16, Ii (l.length : Int)), (17, Ii (k15 : Int))]) ∧ Sl i.2.2.2 w' i.1 s28.2.ids ∧ Sl i.2.2.2 w' i.2.1 s28.2.sizes ∧ Sl i.2.2.2 w' i.2.2.1 s28.2.terms ∧ Hp w.heap.size i.2.2.2 w' (obC b3 [i.1, i.2.1, i.2.2.1] 47 :: []) ∧ Tr Dw w.heap.size A5 w4 i.2.2.2 w') (fun a ha => ⟨(.slice none 0 0, .slice none 0 0, .slice none 0 0, A5), ha.sb, ⟨Sl.nil, Sl.nil, Sl.nil, hH, Tr.refl (Dw := Dw) hA⟩⟩) ?_
  rintro K k15 s28 a w29 ⟨⟨v30, v32, v34, A36⟩, ha72, h31, h33, h35, hH37, hr14⟩ hle41 K44 h43
  refine C_of ?_ ha72
  replace h_l := Sl.tr h_l hr14; replace hK := Tt hK hr14; replace hB := Bx hB hr14; replace hA := hr14.new
  replace hH : Hp _ _ _ (obC b3 [v30, v32, v34] 47 :: []) := hH37
  refine Sr (Vy (Y_lss rfl rfl) (To ?_))
  refine C_seq ?_
  refine Cc (fun hc46 => ?_) fun hc46 => ?_
  ·have hlt42 := lt_of_dec hc46
   obtain ⟨x38, h39, h40⟩ := K44 hlt42
   refine Sk ?_
   refine C_seq (C_block (Sr ?_))
   obtain ⟨x47, hx47, h39⟩ := Bs h39
   refine V_indexAddr h_l hx47 underlying42 sizeOf58 rfl rfl rfl ?_
   intro b48 o49 h50
   obtain ⟨h51, _⟩ := El_know_Entry h50
   refine Vy (Y_loadA h51 isAgg58 sizeOf58 rfl) ?_
   refine V_alloc zeroValue58 rfl ?_
   intro b52 w53 h54
   refine Sn h54 sizeOf58 ?_
   intro w55 h56
   have hk58 := h56.kp (Dw := Dw)
   have h57 : El (α := know_Entry) A36 w55 b52 0 x47 := h56.el hA ⟨[Ii x47.id_], _, rfl, rfl, ⟨[.string x47.title], _, rfl, rfl, rfl⟩⟩
   have ht59 := Kp.tr hk58 hA hB; replace hH := Hp.kp hH hk58; replace h31 := Sl.tr h31 ht59; replace h33 := Sl.tr h33 ht59; replace h35 := Sl.tr h35 ht59; replace hK := Tt hK ht59; replace hr14 := Tt hr14 ht59; replace hB := Bx hB ht59; replace hA := ht59.new
   refine To ?_
   refine C_seq (Sr ?_)
   obtain ⟨h60, _⟩ := El_know_Entry h57
   refine Vy (Y_loadA h60 isAgg58 sizeOf58 rfl) (Mm ?_)
   obtain ⟨x61, hx61, h39⟩ := Bs h39
   refine Vc call26 (know_checkEntry_c (Dw := Dw) w55 hA x47 s28.1 hx61) ?_
   rintro _ w62 ⟨rfl, hk63⟩
   have ht64 := Kp.tr hk63 hA hB; replace hH := Hp.kp hH hk63; replace h57 := El.tr h57 ht64; replace h31 := Sl.tr h31 ht64; replace h33 := Sl.tr h33 ht64; replace h35 := Sl.tr h35 ht64; replace hK := Tt hK ht64; replace hr14 := Tt hr14 ht64; replace hB := Bx hB ht64; replace hA := ht64.new
   refine As (To ?_)
   refine Sr (Mm (Vy (Y_neq rfl rfl) (To ?_)))
   refine Cc (fun hc65 => ?_) fun hc65 => ?_
   ·rw [if_pos hc65] at h39
    refine Sr ?_
    refine Vy (Y_build underlying47 zeroValue47 (Tryz_places47 _ underlying47) rfl (by with_unfolding_all rfl)) (Mm ?_)
    refine V_storeC (Dw := Dw) (off := 0) (ds := [.slice none 0 0, .slice none 0 0, .slice none 0 0]) hH (i := 0) rfl sizeOf47 rfl (Nat.le_of_ble_eq_true rfl) (by exact (List.forall_mem_cons.2 ⟨rfl, (List.forall_mem_cons.2 ⟨rfl, (List.forall_mem_cons.2 ⟨rfl, (fun _ h => nomatch h)⟩)⟩)⟩)) rfl hB hA rfl rfl ?_
    intro w66 hH67 ht68
    replace hK := Tt hK ht68
    replace hH : Hp _ _ _ (obC b3 [.slice none 0 0, .slice none 0 0, .slice none 0 0] 47 :: []) := hH67
    refine As (To ?_)
    obtain rfl := Oi h39
    obtain rfl := (h40 : Lp.rt _ = _)
    rw [Lp.andThen_rt] at hm
    obtain rfl := Oi hm
    refine C_ret ?_
    try simp only [↓ib, ↓th]
    exact retQ rfl (Res.l2 results10 (RL.cell rfl (loadVar_agg (Hp.part (off := 0) (n := 3) (ds := [.slice none 0 0, .slice none 0 0, .slice none 0 0]) hH (i := 0) rfl rfl) isAgg47 sizeOf47)) (RL.tmp rfl)) ⟨.slice none 0 0, .slice none 0 0, .slice none 0 0, rfl, Sl.nil, Sl.nil, Sl.nil, hK.kp⟩
   rw [if_neg (nt hc65)] at h39
   refine Sk ?_
   refine C_region ?_
   have h69 := El_know_Entry_0 h57
   refine Fa underlying58 rfl sizeOf3 (Li h69 isAgg3 (As (To ?_)))
   refine C_region (Vy (Y_addI rfl rfl) (Mm ?_))
   obtain rfl := Oi h39
   refine V_end (fun a ha70 => ?_)
   exact ⟨(x47.id_, s28.2), hlt42, h40, ⟨(v30, v32, v34, A36), ha70.sub ⟨rfl, rfl, rfl, rfl, rfl, Ws hlt42 hn45, trivial⟩, ⟨h31, h33, h35, hH, hr14⟩⟩⟩
  refine C_exit (fun a ha71 => ?_)
  exact ⟨((s28.1, s28.2), v30, v32, v34, A36), ha71.sb, ⟨(h43 (eq_of_dec hle41 hc46)).symm, h31, h33, h35, hH, hr14⟩⟩
 rintro ⟨s13, v20, v22, v24, A26⟩ w17 ⟨rfl, h21, h23, h25, hH27, hk18⟩ a ha19
 rw [Lp.andThen_fin] at hm
 replace h_l := Sl.tr h_l hk18; replace hK := Tr.trans hK hk18; replace hB := Nat.le_trans hB hk18.ex.size; replace hA := hk18.new
 replace hH : Hp _ _ _ (obC b3 [v20, v22, v24] 47 :: []) := hH27
 refine C_at (n := ⟨42, [], none⟩) (fun _ _ => rfl) ?_ ha19
 refine Sr ?_
 refine V_allocH (Dw := Dw) (B := w.heap.size) hH zeroValue47 hB hA rfl ?_
 intro b73 w74 A75 hH76 ht77
 replace h_l := Sl.tr h_l ht77; replace hK := Tt hK ht77; replace hB := Bx hB ht77; replace hA := ht77.new
 replace hH : Hp _ _ _ (obC b73 [.slice none 0 0, .slice none 0 0, .slice none 0 0] 47 :: obC b3 [v20, v22, v24] 47 :: []) := hH76
 refine To ?_
 refine C_seq (Sr (Mm (Vy (Y_lenSl h_l rfl underlying42 rfl) (Mm (To ?_)))))
 have hn110 := Sl.le h_l
 obtain ⟨o78, ho78, hm⟩ := Bs hm
 refine C_cutG (ι := (know_Index × Value × Value × Value × (Nat → Prop))) (fun ⟨s79, v85, v87, v89, A91⟩ => [(2, Pt b3), (8, Pt b73)]) (fun ⟨s79, v85, v87, v89, A91⟩ => fun w' => o78 = .fin s79 ∧ Sl A91 w' v85 s79.ids ∧ Sl A91 w' v87 s79.sizes ∧ Sl A91 w' v89 s79.terms ∧ Hp w.heap.size A91 w' (obC b73 [v85, v87, v89] 47 :: obC b3 [v20, v22, v24] 47 :: []) ∧ Tr Dw w.heap.size A75 w74 A91 w') ?_ ?_
 ·refine C_block ?_
  refine C_range ho78 (fun k81 s93 a w' => ∃ i : (Value × Value × Value × (Nat → Prop)), Has ⟨42, [], none⟩ a ([(2, Pt b3), (8, Pt b73), (31, v_l), (32, Ii (l.length : Int)), (33, Ii (k81 : Int))]) ∧ Sl i.2.2.2 w' i.1 s93.ids ∧ Sl i.2.2.2 w' i.2.1 s93.sizes ∧ Sl i.2.2.2 w' i.2.2.1 s93.terms ∧ Hp w.heap.size i.2.2.2 w' (obC b73 [i.1, i.2.1, i.2.2.1] 47 :: obC b3 [v20, v22, v24] 47 :: []) ∧ Tr Dw w.heap.size A75 w74 i.2.2.2 w') (fun a ha => ⟨(.slice none 0 0, .slice none 0 0, .slice none 0 0, A75), ha.sb, ⟨Sl.nil, Sl.nil, Sl.nil, hH, Tr.refl (Dw := Dw) hA⟩⟩) ?_
  rintro K k81 s93 a w94 ⟨⟨v95, v97, v99, A101⟩, ha150, h96, h98, h100, hH102, hr80⟩ hle106 K109 h108
  refine C_of ?_ ha150
  replace h_l := Sl.tr h_l hr80; replace hB := Bx hB hr80; replace hA := hr80.new
  replace hH : Hp _ _ _ (obC b73 [v95, v97, v99] 47 :: obC b3 [v20, v22, v24] 47 :: []) := hH102
  refine Sr (Vy (Y_lss rfl rfl) (To ?_))
  refine C_seq ?_
  refine Cc (fun hc111 => ?_) fun hc111 => ?_
  ·have hlt107 := lt_of_dec hc111
   obtain ⟨x103, h104, h105⟩ := K109 hlt107
   refine Sk ?_
   refine C_seq (C_block (Sr ?_))
   obtain ⟨x112, hx112, h104⟩ := Bs h104
   refine V_indexAddr h_l hx112 underlying42 sizeOf58 rfl rfl rfl ?_
   intro b113 o114 h115
   obtain ⟨h116, _⟩ := El_know_Entry h115
   refine Vy (Y_loadA h116 isAgg58 sizeOf58 rfl) ?_
   refine V_alloc zeroValue58 rfl ?_
   intro b117 w118 h119
   refine Sn h119 sizeOf58 ?_
   intro w120 h121
   have hk123 := h121.kp (Dw := Dw)
   have h122 : El (α := know_Entry) A101 w120 b117 0 x112 := h121.el hA ⟨[Ii x112.id_], _, rfl, rfl, ⟨[.string x112.title], _, rfl, rfl, rfl⟩⟩
   have ht124 := Kp.tr hk123 hA hB; replace hH := Hp.kp hH hk123; replace h96 := Sl.tr h96 ht124; replace h98 := Sl.tr h98 ht124; replace h100 := Sl.tr h100 ht124; replace hr80 := Tt hr80 ht124; replace hB := Bx hB ht124; replace hA := ht124.new
   refine To ?_
   refine C_region (Vy (Y_loadA (Hp.part (off := 0) (n := 3) (ds := [v95, v97, v99]) hH (i := 0) rfl rfl) isAgg47 sizeOf47 rfl) ?_)
   obtain ⟨h125, _⟩ := El_know_Entry h122
   refine Vy (Y_loadA h125 isAgg58 sizeOf58 rfl) ?_
   obtain ⟨x126, hx126, h104⟩ := Bs h104
   refine Vc call27 (know_Index_with_c (Dw := Dw) w120 hA s93 v95 h96 v97 h98 v99 h100 x112 hx126) ?_
   rintro _ w133 ⟨v127, v129, v131, rfl, h128, h130, h132, hk134⟩
   have ht135 := Kp.tr hk134 hA hB; replace hH := Hp.kp hH hk134; replace hr80 := Tt hr80 ht135; replace hB := Bx hB ht135; replace hA := ht135.new
   have h141 : (v127).oneCell' = true := by obtain ⟨_, _, e, _⟩ := Sl.form h128; rw [e]; rfl
   have h144 : (v129).oneCell' = true := by obtain ⟨_, _, e, _⟩ := Sl.form h130; rw [e]; rfl
   have h147 : (v131).oneCell' = true := by obtain ⟨_, _, e, _⟩ := Sl.form h132; rw [e]; rfl
   refine V_storeC (Dw := Dw) (off := 0) (ds := [v127, v129, v131]) hH (i := 0) rfl sizeOf47 rfl (Nat.le_of_ble_eq_true rfl) (by exact (List.forall_mem_cons.2 ⟨h141, (List.forall_mem_cons.2 ⟨h144, (List.forall_mem_cons.2 ⟨h147, (fun _ h => nomatch h)⟩)⟩)⟩)) rfl hB hA rfl rfl ?_
   intro w136 hH137 ht138
   replace h128 := Sl.tr h128 ht138; replace h130 := Sl.tr h130 ht138; replace h132 := Sl.tr h132 ht138; replace hr80 := Tt hr80 ht138
   replace hH : Hp _ _ _ (obC b73 [v127, v129, v131] 47 :: obC b3 [v20, v22, v24] 47 :: []) := hH137
   refine To ?_
   refine C_region (Vy (Y_addI rfl rfl) (Mm ?_))
   obtain rfl := Oi h104
   refine V_end (fun a ha148 => ?_)
   exact ⟨x126, hlt107, h105, ⟨(v127, v129, v131, A101), ha148.sub ⟨rfl, rfl, rfl, rfl, Ws hlt107 hn110, trivial⟩, ⟨h128, h130, h132, hH, hr80⟩⟩⟩
  refine C_exit (fun a ha149 => ?_)
  exact ⟨(s93, v95, v97, v99, A101), ha149.sb, ⟨(h108 (eq_of_dec hle106 hc111)).symm, h96, h98, h100, hH, hr80⟩⟩
 rintro ⟨s79, v85, v87, v89, A91⟩ w82 ⟨rfl, h86, h88, h90, hH92, hk83⟩ a ha84
 rw [Lp.andThen_fin] at hm
 replace hK := Tr.trans hK hk83; replace hB := Nat.le_trans hB hk83.ex.size; replace hA := hk83.new
 replace hH : Hp _ _ _ (obC b73 [v85, v87, v89] 47 :: obC b3 [v20, v22, v24] 47 :: []) := hH92
 refine C_at (n := ⟨42, [], none⟩) (fun _ _ => rfl) ?_ ha84
 refine Sr (Vy (Y_loadA (Hp.part (off := 0) (n := 3) (ds := [v85, v87, v89]) hH (i := 0) rfl rfl) isAgg47 sizeOf47 rfl) ?_)
 have h156 : (v85).oneCell' = true := by obtain ⟨_, _, e, _⟩ := Sl.form h86; rw [e]; rfl
 have h159 : (v87).oneCell' = true := by obtain ⟨_, _, e, _⟩ := Sl.form h88; rw [e]; rfl
 have h162 : (v89).oneCell' = true := by obtain ⟨_, _, e, _⟩ := Sl.form h90; rw [e]; rfl
 refine V_storeC (Dw := Dw) (off := 0) (ds := [v85, v87, v89]) hH (i := 1) rfl sizeOf47 rfl (Nat.le_of_ble_eq_true rfl) (by exact (List.forall_mem_cons.2 ⟨h156, (List.forall_mem_cons.2 ⟨h159, (List.forall_mem_cons.2 ⟨h162, (fun _ h => nomatch h)⟩)⟩)⟩)) rfl hB hA rfl rfl ?_
 intro w151 hH152 ht153
 replace h86 := Sl.tr h86 ht153; replace h88 := Sl.tr h88 ht153; replace h90 := Sl.tr h90 ht153; replace hK := Tt hK ht153
 replace hH : Hp _ _ _ (obC b73 [v85, v87, v89] 47 :: obC b3 [v85, v87, v89] 47 :: []) := hH152
 refine As (To ?_)
 obtain rfl := Oi hm
 refine C_ret ?_
 try simp only [↓ib, ↓th]
 exact retQ rfl (Res.l2 results10 (RL.cell rfl (loadVar_agg (Hp.part (off := 0) (n := 3) (ds := [v85, v87, v89]) hH (i := 1) rfl rfl) isAgg47 sizeOf47)) (RL.tmp rfl)) ⟨v85, v87, v89, rfl, (Sl.out (Dw := Dw) h86 hA0 hK), (Sl.out (Dw := Dw) h88 hA0 hK), (Sl.out (Dw := Dw) h90 hA0 hK), hK.kp⟩
theorem know_checkPositions_c (w : World) {A : Nat → Prop} (l : (List Int)) (v_l : Value) (h_l : Sl A w v_l l) (size : Int) {r : Int} (hm : know_checkPositions l size = some r) : Ret prog 89 #[v_l, Ii size] w fun v w' => v = Ii r ∧ w = w' := by
 unfold know_checkPositions at hm
 refine enter func89 rfl ntmps89 rfl ?_
 refine Sr (As (To ?_))
 refine C_seq (Sr (Mm (Vy (Y_lenSl h_l rfl underlying23 rfl) (Mm (To ?_)))))
 have hn19 := Sl.le h_l
 obtain ⟨o3, ho3, hm⟩ := Bs hm
 refine C_cutG (ι := Unit) (fun (s4 : Unit) => [(0, v_l)]) (fun (s4 : Unit) => fun w' => o3 = .fin s4 ∧ w = w') ?_ ?_
 ·refine C_block ?_
  refine C_range ho3 (fun k6 _ a w' => ∃ i : Unit, Has ⟨40, [], none⟩ a ([(0, v_l), (1, Ii size), (9, v_l), (10, Ii (l.length : Int)), (11, Ii (k6 : Int))]) ∧ w = w') (fun a ha => ⟨(), ha.sb, rfl⟩) ?_
  rintro K k6 _ a _ ⟨_, ha28, rfl⟩ hle15 K18 h17
  refine C_of ?_ ha28
  refine Sr (Vy (Y_lss rfl rfl) (To ?_))
  refine C_seq ?_
  refine Cc (fun hc20 => ?_) fun hc20 => ?_
  ·have hlt16 := lt_of_dec hc20
   obtain ⟨x12, h13, h14⟩ := K18 hlt16
   refine Sk ?_
   refine C_seq (C_block (Sr ?_))
   obtain ⟨x21, hx21, h13⟩ := Bs h13
   refine V_indexAddr h_l hx21 underlying23 sizeOf3 rfl rfl rfl ?_
   intro b22 o23 h24
   refine Li h24 isAgg3 (As (To ?_))
   refine Sr (Mm (Mm (Vy (Y_subI rfl rfl) ?_)))
   refine Vc call21 (know_within_c w x21 0 (w64 (size - 1))) ?_
   rintro _ _ ⟨rfl, rfl⟩
   refine Vy (Y_not rfl) (To ?_)
   refine Cc (fun hc25 => ?_) fun hc25 => ?_
   ·rw [if_pos hc25] at h13
    refine Sr (As (To ?_))
    obtain rfl := Oi h13
    obtain rfl := (h14 : Lp.rt _ = _)
    rw [Lp.andThen_rt] at hm
    obtain rfl := Oi hm
    refine Rt (Res.one results89 rfl) ?_
    exact ⟨rfl, rfl⟩
   rw [if_neg (nt hc25)] at h13
   refine Sk ?_
   refine C_region (Vy (Y_addI rfl rfl) (Mm ?_))
   obtain rfl := Oi h13
   refine V_end (fun a ha26 => ?_)
   exact ⟨(), hlt16, h14, ⟨(), ha26.sub ⟨rfl, rfl, rfl, rfl, Ws hlt16 hn19, trivial⟩, rfl⟩⟩
  refine C_exit (fun a ha27 => ?_)
  exact ⟨(), ha27.sb, ⟨(h17 (eq_of_dec hle15 hc20)).symm, rfl⟩⟩
 rintro s4 _ ⟨rfl, rfl⟩ a ha9
 rw [Lp.andThen_fin] at hm
 refine C_at (n := ⟨40, [], none⟩) (fun _ _ => rfl) ?_ ha9
 refine C_seq (Sr (Mm (Vy (Y_lenSl h_l rfl underlying23 rfl) (Mm (To ?_)))))
 have hn45 := Sl.le h_l
 obtain ⟨o29, ho29, hm⟩ := Bs hm
 refine C_cutG (ι := Unit) (fun (s30 : Unit) => []) (fun (s30 : Unit) => fun w' => o29 = .fin s30 ∧ w = w') ?_ ?_
 ·refine C_block ?_
  refine C_range ho29 (fun k32 _ a w' => ∃ i : Unit, Has ⟨40, [], none⟩ a ([(0, v_l), (21, v_l), (22, Ii (l.length : Int)), (23, Ii (k32 : Int))]) ∧ w = w') (fun a ha => ⟨(), ha.sb, rfl⟩) ?_
  rintro K k32 _ a _ ⟨_, ha60, rfl⟩ hle41 K44 h43
  refine C_of ?_ ha60
  refine Sr (Vy (Y_lss rfl rfl) (To ?_))
  refine C_seq ?_
  refine Cc (fun hc46 => ?_) fun hc46 => ?_
  ·have hlt42 := lt_of_dec hc46
   obtain ⟨x38, h39, h40⟩ := K44 hlt42
   refine Sk ?_
   refine C_seq (C_block (Sr (Mm ?_)))
   obtain ⟨x47, hx47, h39⟩ := Bs h39
   refine V_indexAddr h_l hx47 underlying23 sizeOf3 rfl rfl rfl ?_
   intro b48 o49 h50
   refine Li h50 isAgg3 (As (As (To ?_)))
   refine Sr (Mm (Vy (Y_gtr rfl rfl) (Mm ?_)))
   obtain ⟨s52, hs52, h39⟩ := Bs h39
   refine V_cut 8 (fun _ : Unit => [(0, v_l), (21, v_l), (22, Ii (l.length : Int)), (23, Ii (k32 : Int)), (38, .bool s52)]) (fun _ w' => w = w') ?_ ?_
   ·simp only [List.take, List.drop]
    rcases Be (decide ((0 : Int) < (k32 : Int))) with hc51 | hc51
    ·rw [if_pos hc51] at hs52
     refine Gf hc51 (Mm (Gf hc51 (Mm (Gf hc51 (Mm (Gf hc51 (Vy (Y_subI rfl rfl) (Gf hc51 ?_))))))))
     obtain ⟨x53, hx53, hs52⟩ := Bs hs52
     refine V_indexAddr h_l hx53 underlying23 sizeOf3 rfl rfl rfl ?_
     intro b54 o55 h56
     refine Gf hc51 (Li h56 isAgg3 (Gf hc51 (Vy (Y_leq rfl rfl) (Vy (Y_pick_te rfl hc51 rfl) ?_))))
     obtain rfl := Oi hs52
     exact V_end fun a ha => ⟨(), ha.sb, rfl⟩
    rw [if_neg (nt hc51)] at hs52
    refine Gm hc51 (Gm hc51 (Gm hc51 (Gm hc51 (Gm hc51 (Gm hc51 (Gm hc51 (Vy (Y_pick_fe rfl hc51 rfl) ?_)))))))
    obtain rfl := Oi hs52
    exact V_end fun a ha => ⟨(), ha.sb, rfl⟩
   simp only [List.take, List.drop]
   rintro _ _ rfl
   refine To ?_
   refine Cc (fun hc57 => ?_) fun hc57 => ?_
   ·rw [if_pos hc57] at h39
    refine Sr (As (To ?_))
    obtain rfl := Oi h39
    obtain rfl := (h40 : Lp.rt _ = _)
    rw [Lp.andThen_rt] at hm
    obtain rfl := Oi hm
    refine Rt (Res.one results89 rfl) ?_
    exact ⟨rfl, rfl⟩
   rw [if_neg (nt hc57)] at h39
   refine Sk ?_
   refine C_region (Vy (Y_addI rfl rfl) (Mm ?_))
   obtain rfl := Oi h39
   refine V_end (fun a ha58 => ?_)
   exact ⟨(), hlt42, h40, ⟨(), ha58.sub ⟨rfl, rfl, rfl, Ws hlt42 hn45, trivial⟩, rfl⟩⟩
  refine C_exit (fun a ha59 => ?_)
  exact ⟨(), ha59.sub trivial, ⟨(h43 (eq_of_dec hle41 hc46)).symm, rfl⟩⟩
 rintro s30 _ ⟨rfl, rfl⟩ a ha35
 rw [Lp.andThen_fin] at hm
 refine C_at (n := ⟨40, [], none⟩) (fun _ _ => rfl) ?_ ha35
 refine Sr (As (To ?_))
 obtain rfl := Oi hm
 refine Rt (Res.one results89 rfl) ?_
 exact ⟨rfl, rfl⟩
theorem cmp_Or_api_Errno_c (w : World) {A : Nat → Prop} (vals : (List Int)) (v_vals : Value) (h_vals : Sl A w v_vals vals) {r : Int} (hm : cmp_Or_api_Errno vals = some r) : Ret prog 88 #[v_vals] w fun v w' => v = Ii r ∧ w = w' := by
 unfold cmp_Or_api_Errno at hm
 refine enter func88 rfl ntmps88 rfl ?_
 refine Sr (As (To ?_))
 refine Sr (As (To ?_))
 refine C_seq (Sr (Mm (Vy (Y_lenSl h_vals rfl underlying178 rfl) (Mm (To ?_)))))
 have hn19 := Sl.le h_vals
 obtain ⟨o3, ho3, hm⟩ := Bs hm
 refine C_cutG (ι := Unit) (fun (s4 : Unit) => [(3, Ii 0)]) (fun (s4 : Unit) => fun w' => o3 = .fin s4 ∧ w = w') ?_ ?_
 ·refine C_block ?_
  refine C_range ho3 (fun k6 _ a w' => ∃ i : Unit, Has ⟨18, [], none⟩ a ([(3, Ii 0), (6, v_vals), (7, Ii (vals.length : Int)), (8, Ii (k6 : Int))]) ∧ w = w') (fun a ha => ⟨(), ha.sb, rfl⟩) ?_
  rintro K k6 _ a _ ⟨_, ha28, rfl⟩ hle15 K18 h17
  refine C_of ?_ ha28
  refine Sr (Vy (Y_lss rfl rfl) (To ?_))
  refine C_seq ?_
  refine Cc (fun hc20 => ?_) fun hc20 => ?_
  ·have hlt16 := lt_of_dec hc20
   obtain ⟨x12, h13, h14⟩ := K18 hlt16
   refine Sk ?_
   refine C_seq (C_block (Sr ?_))
   obtain ⟨x21, hx21, h13⟩ := Bs h13
   refine V_indexAddr h_vals hx21 underlying178 sizeOf28 rfl rfl rfl ?_
   intro b22 o23 h24
   refine Li h24 isAgg28 (As (To ?_))
   refine Sr (Mm (Mm (Vy (Y_neq rfl rfl) (To ?_))))
   refine Cc (fun hc25 => ?_) fun hc25 => ?_
   ·rw [if_pos hc25] at h13
    refine Sr (Mm (As (To ?_)))
    obtain rfl := Oi h13
    obtain rfl := (h14 : Lp.rt _ = _)
    rw [Lp.andThen_rt] at hm
    obtain rfl := Oi hm
    refine Rt (Res.one results88 rfl) ?_
    exact ⟨rfl, rfl⟩
   rw [if_neg (nt hc25)] at h13
   refine Sk ?_
   refine C_region (Vy (Y_addI rfl rfl) (Mm ?_))
   obtain rfl := Oi h13
   refine V_end (fun a ha26 => ?_)
   exact ⟨(), hlt16, h14, ⟨(), ha26.sub ⟨rfl, rfl, rfl, Ws hlt16 hn19, trivial⟩, rfl⟩⟩
  refine C_exit (fun a ha27 => ?_)
  exact ⟨(), ha27.sb, ⟨(h17 (eq_of_dec hle15 hc20)).symm, rfl⟩⟩
 rintro s4 _ ⟨rfl, rfl⟩ a ha9
 rw [Lp.andThen_fin] at hm
 refine C_at (n := ⟨18, [], none⟩) (fun _ _ => rfl) ?_ ha9
 refine Sr (Mm (As (To ?_)))
 obtain rfl := Oi hm
 refine Rt (Res.one results88 rfl) ?_
 exact ⟨rfl, rfl⟩
theorem know_Index_checkTerm_c (w : World) {A : Nat → Prop} (hA : ∀ b, w.heap.size ≤ b → A b) (x : know_Index) (v_x0 : Value) (h_x0 : Sl A w v_x0 x.ids) (v_x1 : Value) (h_x1 : Sl A w v_x1 x.sizes) (v_x2 : Value) (h_x2 : Sl A w v_x2 x.terms) (t : know_Term) (v_t : Value) (h_t : Sl A w v_t t.list_) {r : Int} (hm : know_Index_checkTerm x t = some r) : Ret prog 57 #[.agg #[v_x0, v_x1, v_x2], .agg #[.string t.word, v_t]] w fun v w' => v = Ii r ∧ Kp Dw w w' := by
 unfold know_Index_checkTerm at hm
 refine enter func57 rfl ntmps57 rfl ?_
 have hA0 := hA
 obtain ⟨hB, hK, hH⟩ := St (Dw := Dw) hA
 refine Sr ?_
 refine V_box rfl rfl ?_
 intro b9 w10 h11
 have hk13 := h11.kp (Dw := Dw)
 have h12 : El (α := know_Index) A w10 b9 0 x := h11.el hA ⟨[v_x0], _, rfl, ⟨_, rfl, h_x0⟩, ⟨[v_x1], _, rfl, ⟨_, rfl, h_x1⟩, ⟨_, rfl, h_x2⟩⟩⟩
 have ht14 := Kp.tr hk13 hA hB; replace hH := Hp.kp hH hk13; replace h_t := Sl.tr h_t ht14; replace hK := Tt hK ht14; replace hB := Bx hB ht14; replace hA := ht14.new
 refine V_box rfl rfl ?_
 intro b15 w17 h18
 have hk20 := h18.kp (Dw := Dw)
 have h19 : El (α := know_Term) A w17 b15 0 t := h18.el hA ⟨[.string t.word], _, rfl, rfl, ⟨_, rfl, h_t⟩⟩
 have ht21 := Kp.tr hk20 hA hB; replace hH := Hp.kp hH hk20; replace h12 := El.tr h12 ht21; replace hK := Tt hK ht21; replace hB := Bx hB ht21; replace hA := ht21.new
 refine As (To ?_)
 refine Sr (As (To ?_))
 refine C_seq (Sr ?_)
 have h22 := El_know_Term_1 h19
 refine Fa underlying90 rfl sizeOf88 ?_
 obtain ⟨v23, h24, h25⟩ := El.list h22
 refine Ld h24 isAgg88 (Vy (Y_lenSl h25 rfl underlying88 rfl) (Mm (To ?_)))
 have hn46 := Sl.le h25
 obtain ⟨o26, ho26, hm⟩ := Bs hm
 refine C_cutG (ι := (Int × (Nat → Prop))) (fun ⟨s27, A33⟩ => []) (fun ⟨s27, A33⟩ => fun w' => o26 = .fin s27 ∧ Hp w.heap.size A33 w' ([]) ∧ Tr Dw w.heap.size A w17 A33 w') ?_ ?_
 ·refine C_block ?_
  refine C_range ho26 (fun k29 s35 a w' => ∃ i : (Nat → Prop), Has ⟨67, [], none⟩ a ([(2, Pt b9), (5, Ii s35), (12, v23), (13, Ii (t.list_.length : Int)), (14, Ii (k29 : Int))]) ∧ Hp w.heap.size i w' ([]) ∧ Tr Dw w.heap.size A w17 i w') (fun a ha => ⟨A, ha.sb, ⟨hH, Tr.refl (Dw := Dw) hA⟩⟩) ?_
  rintro K k29 s35 a w36 ⟨A37, ha127, hH38, hr28⟩ hle42 K45 h44
  refine C_of ?_ ha127
  replace h12 := El.tr h12 hr28; replace h25 := Sl.tr h25 hr28; replace hK := Tt hK hr28; replace hB := Bx hB hr28; replace hA := hr28.new; replace hH := hH38
  refine Sr (Vy (Y_lss rfl rfl) (To ?_))
  refine C_seq ?_
  refine Cc (fun hc47 => ?_) fun hc47 => ?_
  ·have hlt43 := lt_of_dec hc47
   obtain ⟨x39, h40, h41⟩ := K45 hlt43
   refine Sk ?_
   refine C_seq (C_block (Sr ?_))
   obtain ⟨x48, hx48, h40⟩ := Bs h40
   refine V_indexAddr h25 hx48 underlying88 sizeOf98 rfl rfl rfl ?_
   intro b49 o50 h51
   obtain ⟨v52, v54, h56, h53, h55⟩ := El_know_Posting h51
   refine Vy (Y_loadA h56 isAgg98 sizeOf98 rfl) ?_
   refine V_alloc zeroValue98 rfl ?_
   intro b57 w58 h59
   have h64 : (v52).oneCell' = true := by obtain ⟨_, _, e, _⟩ := Sl.form h53; rw [e]; rfl
   have h67 : (v54).oneCell' = true := by obtain ⟨_, _, e, _⟩ := Sl.form h55; rw [e]; rfl
   refine Sn h59 sizeOf98 ?_
   intro w60 h61
   have hk69 := h61.kp (Dw := Dw)
   have h68 : El (α := know_Posting) A37 w60 b57 0 x48 := h61.el hA ⟨[Ii x48.id_], _, rfl, rfl, ⟨[v52], _, rfl, ⟨_, rfl, h53⟩, ⟨_, rfl, h55⟩⟩⟩
   have ht70 := Kp.tr hk69 hA hB; replace hH := Hp.kp hH hk69; replace h12 := El.tr h12 ht70; replace hK := Tt hK ht70; replace hr28 := Tt hr28 ht70; replace hB := Bx hB ht70; replace hA := ht70.new
   refine To ?_
   refine Sr ?_
   have h71 := El_know_Index_0 h12
   refine Fa underlying47 rfl sizeOf23 ?_
   obtain ⟨v72, h73, h74⟩ := El.list h71
   refine Ld h73 isAgg23 ?_
   have h75 := El_know_Posting_0 h68
   refine Fa underlying98 rfl sizeOf3 (Li h75 isAgg3 ?_)
   obtain ⟨x76, hx76, h40⟩ := Bs h40
   refine Vc call53 (slices_BinarySearch_Lint_int_c w60 x.ids v72 h74 x48.id_ hx76) ?_
   rintro _ _ ⟨rfl, rfl⟩
   refine Mm (Vy (Y_extract rfl rfl) (Vy (Y_extract rfl rfl) (As (As (To ?_)))))
   refine C_seq (C_block (Sr (Mm (Vy (Y_not rfl) (As (To ?_))))))
   refine Cc (fun hc77 => ?_) fun hc77 => ?_
   ·rw [if_pos hc77] at h40
    refine Sr (As (To ?_))
    obtain rfl := Oi h40
    obtain rfl := (h41 : Lp.rt _ = _)
    rw [Lp.andThen_rt] at hm
    obtain rfl := Oi hm
    refine Rt (Res.one results57 rfl) ?_
    exact ⟨rfl, hK.kp⟩
   rw [if_neg (nt hc77)] at h40
   refine Sr ?_
   have h78 := El_know_Posting_0 h68
   refine Fa underlying98 rfl sizeOf3 (Li h78 isAgg3 (Mm (Vy (Y_leq rfl rfl) (As (To ?_)))))
   refine Cc (fun hc79 => ?_) fun hc79 => ?_
   ·rw [if_pos hc79] at h40
    refine Sr (As (To ?_))
    obtain rfl := Oi h40
    obtain rfl := (h41 : Lp.rt _ = _)
    rw [Lp.andThen_rt] at hm
    obtain rfl := Oi hm
    refine Rt (Res.one results57 rfl) ?_
    exact ⟨rfl, hK.kp⟩
   rw [if_neg (nt hc79)] at h40
   refine Sr ?_
   have h80 := El_know_Posting_1 h68
   refine Fa underlying98 rfl sizeOf23 ?_
   obtain ⟨v81, h82, h83⟩ := El.list h80
   refine Ld h82 isAgg23 (Vy (Y_lenSl h83 rfl underlying23 rfl) ?_)
   have h84 := El_know_Posting_2 h68
   refine Fa underlying98 rfl sizeOf23 ?_
   obtain ⟨v85, h86, h87⟩ := El.list h84
   refine Ld h86 isAgg23 (Vy (Y_lenSl h87 rfl underlying23 rfl) (Vy (Y_addI rfl rfl) (Vy (Y_eql rfl rfl) (As (To ?_)))))
   refine Cc (fun hc88 => ?_) fun hc88 => ?_
   ·rw [if_pos hc88] at h40
    refine Sr (As (To ?_))
    obtain rfl := Oi h40
    obtain rfl := (h41 : Lp.rt _ = _)
    rw [Lp.andThen_rt] at hm
    obtain rfl := Oi hm
    refine Rt (Res.one results57 rfl) ?_
    exact ⟨rfl, hK.kp⟩
   rw [if_neg (nt hc88)] at h40
   refine Sk ?_
   refine Sr ?_
   have h89 := El_know_Posting_0 h68
   refine Fa underlying98 rfl sizeOf3 (Li h89 isAgg3 (As (To ?_)))
   refine C_seq ?_
   refine C_region_qt (Dw := Dw) 16 Tryz_mixed (by kernel_rfl) ?_
   simp only [List.take, List.drop]
   have h90 := El_know_Posting_1 h68
   refine Qf underlying98 rfl sizeOf23 ?_
   obtain ⟨v91, h92, h93⟩ := El.list h90
   refine Qc h92 isAgg23 ?_
   have h94 := El_know_Index_1 h12
   refine Qf underlying47 rfl sizeOf23 ?_
   obtain ⟨v95, h96, h97⟩ := El.list h94
   refine Qc h96 isAgg23 (Qm ?_)
   obtain ⟨x98, hx98, h40⟩ := Bs h40
   refine VQ_indexAddr h97 hx98 underlying23 sizeOf3 rfl rfl rfl ?_
   intro b99 o100 h101
   refine Qi h101 isAgg3 ?_
   obtain ⟨x102, hx102, h40⟩ := Bs h40
   refine VQ_call (Ii x102) call89 rfl rfl rfl rfl (fun w' hw' => (know_checkPositions_c w' x48.title v91 (Sl.kp h93 hw') x98 hx102).mono (fun _ _ h => ⟨h.1, h.2 ▸ hw'⟩)) ?_
   have h103 := El_know_Posting_2 h68
   refine Qf underlying98 rfl sizeOf23 ?_
   obtain ⟨v104, h105, h106⟩ := El.list h103
   refine Qc h105 isAgg23 ?_
   have h107 := El_know_Index_1 h12
   refine Qf underlying47 rfl sizeOf23 ?_
   obtain ⟨v108, h109, h110⟩ := El.list h107
   refine Qc h109 isAgg23 (Qm ?_)
   refine VQ_indexAddr h110 hx98 underlying23 sizeOf3 rfl rfl rfl ?_
   intro b111 o112 h113
   refine Qi h113 isAgg3 ?_
   obtain ⟨x114, hx114, h40⟩ := Bs h40
   refine VQ_call (Ii x114) call89 rfl rfl rfl rfl (fun w' hw' => (know_checkPositions_c w' x48.body v104 (Sl.kp h106 hw') x98 hx114).mono (fun _ _ h => ⟨h.1, h.2 ▸ hw'⟩)) ?_
   refine VQ_tail (fun w115 hk116 => ?_)
   try simp only [List.take, List.drop]
   have ht117 := Kp.tr hk116 hA hB; replace hH := Hp.kp hH hk116; replace hK := Tt hK ht117; replace hr28 := Tt hr28 ht117; replace hB := Bx hB ht117; replace hA := ht117.new
   refine V_buildSlice (Dw := Dw) (l := ([x102, x114] : List Int)) (len := 2) underlying178 sizeOf28 zeroValue28 rfl (by with_unfolding_all rfl) (show (2 * 1 : Nat) ≠ 0 by decide) (show (2 * 1 : Nat) ≤ 2 ^ 24 by decide) hA ⟨[Ii x102], _, rfl, rfl, ⟨[Ii x114], _, rfl, rfl, rfl⟩⟩ rfl rfl ?_
   intro v118 w119 hk121 h120
   have ht122 := Kp.tr hk121 hA hB; replace hH := Hp.kp hH hk121; replace hK := Tt hK ht122; replace hr28 := Tt hr28 ht122
   obtain ⟨x123, hx123, h40⟩ := Bs h40
   refine Vc call88 (cmp_Or_api_Errno_c w119 ([x102, x114] : List Int) v118 h120 hx123) ?_
   rintro _ _ ⟨rfl, rfl⟩
   refine As (To ?_)
   refine Sr (Mm (Vy (Y_neq rfl rfl) (To ?_)))
   refine Cc (fun hc124 => ?_) fun hc124 => ?_
   ·rw [if_pos hc124] at h40
    refine Sr (Mm (As (To ?_)))
    obtain rfl := Oi h40
    obtain rfl := (h41 : Lp.rt _ = _)
    rw [Lp.andThen_rt] at hm
    obtain rfl := Oi hm
    refine Rt (Res.one results57 rfl) ?_
    exact ⟨rfl, hK.kp⟩
   rw [if_neg (nt hc124)] at h40
   refine Sk ?_
   refine C_region (Vy (Y_addI rfl rfl) (Mm ?_))
   obtain rfl := Oi h40
   refine V_end (fun a ha125 => ?_)
   exact ⟨x48.id_, hlt43, h41, ⟨A37, ha125.sub ⟨rfl, rfl, rfl, rfl, Ws hlt43 hn46, trivial⟩, ⟨hH, hr28⟩⟩⟩
  refine C_exit (fun a ha126 => ?_)
  exact ⟨(s35, A37), ha126.sub trivial, ⟨(h44 (eq_of_dec hle42 hc47)).symm, hH, hr28⟩⟩
 rintro ⟨s27, A33⟩ w30 ⟨rfl, hH34, hk31⟩ a ha32
 rw [Lp.andThen_fin] at hm
 replace hK := Tr.trans hK hk31; replace hA := hk31.new; replace hH := hH34
 refine C_at (n := ⟨67, [], none⟩) (fun _ _ => rfl) ?_ ha32
 refine Sr (As (To ?_))
 obtain rfl := Oi hm
 refine Rt (Res.one results57 rfl) ?_
 exact ⟨rfl, hK.kp⟩
theorem know_CheckIndex_c (w : World) {A : Nat → Prop} (hA : ∀ b, w.heap.size ≤ b → A b) (x : know_Index) (v_x0 : Value) (h_x0 : Sl A w v_x0 x.ids) (v_x1 : Value) (h_x1 : Sl A w v_x1 x.sizes) (v_x2 : Value) (h_x2 : Sl A w v_x2 x.terms) {r : Int} (hm : know_CheckIndex x = some r) : Ret prog 28 #[.agg #[v_x0, v_x1, v_x2]] w fun v w' => v = Ii r ∧ Kp Dw w w' := by
 unfold know_CheckIndex at hm
 refine enter func28 rfl ntmps28 rfl ?_
 have hA0 := hA
 obtain ⟨hB, hK, hH⟩ := St (Dw := Dw) hA
 refine Sr ?_
 refine V_box rfl rfl ?_
 intro b7 w9 h10
 have hk12 := h10.kp (Dw := Dw)
 have h11 : El (α := know_Index) A w9 b7 0 x := h10.el hA ⟨[v_x0], _, rfl, ⟨_, rfl, h_x0⟩, ⟨[v_x1], _, rfl, ⟨_, rfl, h_x1⟩, ⟨_, rfl, h_x2⟩⟩⟩
 have ht13 := Kp.tr hk12 hA hB; replace hH := Hp.kp hH hk12; replace hK := Tt hK ht13; replace hB := Bx hB ht13; replace hA := ht13.new
 refine As (To ?_)
 refine C_seq (Sr ?_)
 have h14 := El_know_Index_0 h11
 refine Fa underlying47 rfl sizeOf23 ?_
 obtain ⟨v15, h16, h17⟩ := El.list h14
 refine Ld h16 isAgg23 (Vy (Y_lenSl h17 rfl underlying23 rfl) (Vy (Y_gtr rfl rfl) (To ?_)))
 refine Cc (fun hc18 => ?_) fun hc18 => ?_
 ·rw [if_pos hc18] at hm
  refine Sr (As (To ?_))
  obtain rfl := Oi hm
  refine Rt (Res.one results28 rfl) ?_
  exact ⟨rfl, hK.kp⟩
 rw [if_neg (nt hc18)] at hm
 refine Sk ?_
 refine C_seq (Sr ?_)
 have h19 := El_know_Index_1 h11
 refine Fa underlying47 rfl sizeOf23 ?_
 obtain ⟨v20, h21, h22⟩ := El.list h19
 refine Ld h21 isAgg23 (Vy (Y_lenSl h22 rfl underlying23 rfl) ?_)
 have h23 := El_know_Index_0 h11
 refine Fa underlying47 rfl sizeOf23 ?_
 obtain ⟨v24, h25, h26⟩ := El.list h23
 refine Ld h25 isAgg23 (Vy (Y_lenSl h26 rfl underlying23 rfl) (Vy (Y_neq rfl rfl) (To ?_)))
 refine Cc (fun hc27 => ?_) fun hc27 => ?_
 ·rw [if_pos hc27] at hm
  refine Sr (As (To ?_))
  obtain rfl := Oi hm
  refine Rt (Res.one results28 rfl) ?_
  exact ⟨rfl, hK.kp⟩
 rw [if_neg (nt hc27)] at hm
 refine Sk ?_
 refine C_seq (Sr ?_)
 have h28 := El_know_Index_0 h11
 refine Fa underlying47 rfl sizeOf23 ?_
 obtain ⟨v29, h30, h31⟩ := El.list h28
 refine Ld h30 isAgg23 (Vy (Y_lenSl h31 rfl underlying23 rfl) (Mm (To ?_)))
 have hn48 := Sl.le h31
 obtain ⟨o32, ho32, hm⟩ := Bs hm
 refine C_cutG (ι := Unit) (fun (s33 : Unit) => [(1, Pt b7)]) (fun (s33 : Unit) => fun w' => o32 = .fin s33 ∧ w9 = w') ?_ ?_
 ·refine C_block ?_
  refine C_range ho32 (fun k35 _ a w' => ∃ i : Unit, Has ⟨103, [], none⟩ a ([(1, Pt b7), (21, v29), (22, Ii (x.ids.length : Int)), (23, Ii (k35 : Int))]) ∧ w9 = w') (fun a ha => ⟨(), ha.sb, rfl⟩) ?_
  rintro K k35 _ a _ ⟨_, ha77, rfl⟩ hle44 K47 h46
  refine C_of ?_ ha77
  refine Sr (Vy (Y_lss rfl rfl) (To ?_))
  refine C_seq ?_
  refine Cc (fun hc49 => ?_) fun hc49 => ?_
  ·have hlt45 := lt_of_dec hc49
   obtain ⟨x41, h42, h43⟩ := K47 hlt45
   refine Sk ?_
   refine C_seq (C_block (Sr (Mm ?_)))
   obtain ⟨x50, hx50, h42⟩ := Bs h42
   refine V_indexAddr h31 hx50 underlying23 sizeOf3 rfl rfl rfl ?_
   intro b51 o52 h53
   refine Li h53 isAgg3 (As (As (To ?_)))
   refine C_block (Sr (Mm ?_))
   refine Vc call21 (know_within_c w9 x50 1 3000000) ?_
   rintro _ _ ⟨rfl, rfl⟩
   refine Vy (Y_not rfl) (As (To ?_))
   refine Cc (fun hc54 => ?_) fun hc54 => ?_
   ·rw [if_pos hc54] at h42
    refine Sr (As (To ?_))
    obtain rfl := Oi h42
    obtain rfl := (h43 : Lp.rt _ = _)
    rw [Lp.andThen_rt] at hm
    obtain rfl := Oi hm
    refine Rt (Res.one results28 rfl) ?_
    exact ⟨rfl, hK.kp⟩
   rw [if_neg (nt hc54)] at h42
   refine Sr (Mm (Vy (Y_gtr rfl rfl) (Mm ?_)))
   obtain ⟨s56, hs56, h42⟩ := Bs h42
   refine V_cut 9 (fun _ : Unit => [(1, Pt b7), (3, Ii (k35 : Int)), (21, v29), (22, Ii (x.ids.length : Int)), (23, Ii (k35 : Int)), (44, .bool s56)]) (fun _ w' => w9 = w') ?_ ?_
   ·simp only [List.take, List.drop]
    rcases Be (decide ((0 : Int) < (k35 : Int))) with hc55 | hc55
    ·rw [if_pos hc55] at hs56
     refine Gf hc55 (Mm (Gf hc55 ?_))
     have h57 := El_know_Index_0 h11
     refine Fa underlying47 rfl sizeOf23 (Gf hc55 ?_)
     obtain ⟨v58, h59, h60⟩ := El.list h57
     refine Ld h59 isAgg23 (Gf hc55 (Mm (Gf hc55 (Vy (Y_subI rfl rfl) (Gf hc55 ?_)))))
     obtain ⟨x61, hx61, hs56⟩ := Bs hs56
     refine V_indexAddr h60 hx61 underlying23 sizeOf3 rfl rfl rfl ?_
     intro b62 o63 h64
     refine Gf hc55 (Li h64 isAgg3 (Gf hc55 (Vy (Y_leq rfl rfl) (Vy (Y_pick_te rfl hc55 rfl) ?_))))
     obtain rfl := Oi hs56
     exact V_end fun a ha => ⟨(), ha.sb, rfl⟩
    rw [if_neg (nt hc55)] at hs56
    refine Gm hc55 (Gm hc55 (Gm hc55 (Gm hc55 (Gm hc55 (Gm hc55 (Gm hc55 (Gm hc55 (Vy (Y_pick_fe rfl hc55 rfl) ?_))))))))
    obtain rfl := Oi hs56
    exact V_end fun a ha => ⟨(), ha.sb, rfl⟩
   simp only [List.take, List.drop]
   rintro _ _ rfl
   refine As (To ?_)
   refine Cc (fun hc65 => ?_) fun hc65 => ?_
   ·rw [if_pos hc65] at h42
    refine Sr (As (To ?_))
    obtain rfl := Oi h42
    obtain rfl := (h43 : Lp.rt _ = _)
    rw [Lp.andThen_rt] at hm
    obtain rfl := Oi hm
    refine Rt (Res.one results28 rfl) ?_
    exact ⟨rfl, hK.kp⟩
   rw [if_neg (nt hc65)] at h42
   refine Sr ?_
   have h66 := El_know_Index_1 h11
   refine Fa underlying47 rfl sizeOf23 ?_
   obtain ⟨v67, h68, h69⟩ := El.list h66
   refine Ld h68 isAgg23 (Mm ?_)
   obtain ⟨x70, hx70, h42⟩ := Bs h42
   refine V_indexAddr h69 hx70 underlying23 sizeOf3 rfl rfl rfl ?_
   intro b71 o72 h73
   refine Li h73 isAgg3 ?_
   refine Vc call21 (know_within_c w9 x70 0 20000) ?_
   rintro _ _ ⟨rfl, rfl⟩
   refine Vy (Y_not rfl) (As (To ?_))
   refine Cc (fun hc74 => ?_) fun hc74 => ?_
   ·rw [if_pos hc74] at h42
    refine Sr (As (To ?_))
    obtain rfl := Oi h42
    obtain rfl := (h43 : Lp.rt _ = _)
    rw [Lp.andThen_rt] at hm
    obtain rfl := Oi hm
    refine Rt (Res.one results28 rfl) ?_
    exact ⟨rfl, hK.kp⟩
   rw [if_neg (nt hc74)] at h42
   refine Sk ?_
   refine C_region (Vy (Y_addI rfl rfl) (Mm ?_))
   obtain rfl := Oi h42
   refine V_end (fun a ha75 => ?_)
   exact ⟨(), hlt45, h43, ⟨(), ha75.sub ⟨rfl, rfl, rfl, Ws hlt45 hn48, trivial⟩, rfl⟩⟩
  refine C_exit (fun a ha76 => ?_)
  exact ⟨(), ha76.sb, ⟨(h46 (eq_of_dec hle44 hc49)).symm, rfl⟩⟩
 rintro s33 _ ⟨rfl, rfl⟩ a ha38
 rw [Lp.andThen_fin] at hm
 refine C_at (n := ⟨103, [], none⟩) (fun _ _ => rfl) ?_ ha38
 refine C_seq (Sr ?_)
 have h78 := El_know_Index_2 h11
 refine Fa underlying47 rfl sizeOf45 ?_
 obtain ⟨v79, h80, h81⟩ := El.list h78
 refine Ld h80 isAgg45 (Vy (Y_lenSl h81 rfl underlying45 rfl) (Mm (To ?_)))
 have hn102 := Sl.le h81
 obtain ⟨o82, ho82, hm⟩ := Bs hm
 refine C_cutG (ι := (Unit × (Nat → Prop))) (fun ⟨s83, A89⟩ => []) (fun ⟨s83, A89⟩ => fun w' => o82 = .fin s83 ∧ Hp w.heap.size A89 w' ([]) ∧ Tr Dw w.heap.size A w9 A89 w') ?_ ?_
 ·refine C_block ?_
  refine C_range ho82 (fun k85 _ a w' => ∃ i : (Nat → Prop), Has ⟨103, [], none⟩ a ([(1, Pt b7), (55, v79), (56, Ii (x.terms.length : Int)), (57, Ii (k85 : Int))]) ∧ Hp w.heap.size i w' ([]) ∧ Tr Dw w.heap.size A w9 i w') (fun a ha => ⟨A, ha.sb, ⟨hH, Tr.refl (Dw := Dw) hA⟩⟩) ?_
  rintro K k85 _ a w92 ⟨A93, ha182, hH94, hr84⟩ hle98 K101 h100
  refine C_of ?_ ha182
  replace h11 := El.tr h11 hr84; replace h81 := Sl.tr h81 hr84; replace hK := Tt hK hr84; replace hB := Bx hB hr84; replace hA := hr84.new; replace hH := hH94
  refine Sr (Vy (Y_lss rfl rfl) (To ?_))
  refine C_seq ?_
  refine Cc (fun hc103 => ?_) fun hc103 => ?_
  ·have hlt99 := lt_of_dec hc103
   obtain ⟨x95, h96, h97⟩ := K101 hlt99
   refine Sk ?_
   refine C_seq (C_block (Sr (Mm ?_)))
   obtain ⟨x104, hx104, h96⟩ := Bs h96
   refine V_indexAddr h81 hx104 underlying45 sizeOf90 rfl rfl rfl ?_
   intro b105 o106 h107
   obtain ⟨v108, h110, h109⟩ := El_know_Term h107
   refine Vy (Y_loadA h110 isAgg90 sizeOf90 rfl) ?_
   refine V_alloc zeroValue90 rfl ?_
   intro b111 w112 h113
   refine As ?_
   have h118 : (v108).oneCell' = true := by obtain ⟨_, _, e, _⟩ := Sl.form h109; rw [e]; rfl
   refine Sn h113 sizeOf90 ?_
   intro w114 h115
   have hk120 := h115.kp (Dw := Dw)
   have h119 : El (α := know_Term) A93 w114 b111 0 x104 := h115.el hA ⟨[.string x104.word], _, rfl, rfl, ⟨_, rfl, h109⟩⟩
   have ht121 := Kp.tr hk120 hA hB; replace hH := Hp.kp hH hk120; replace h11 := El.tr h11 ht121; replace hK := Tt hK ht121; replace hr84 := Tt hr84 ht121; replace hB := Bx hB ht121; replace hA := ht121.new
   refine To ?_
   refine C_seq (Sr ?_)
   have h122 := El_know_Term_0 h119
   refine Fa underlying90 rfl sizeOf9 (Ld (El.str h122) isAgg9 ?_)
   obtain ⟨x123, hx123, h96⟩ := Bs h96
   refine Vc call17 (know_Words_c (Dw := Dw) w114 hA x104.word hx123) ?_
   rintro v124 w126 ⟨_, rfl, h125, hk127⟩
   obtain ⟨A128, ht129, hH130⟩ := Hp.addOwnd (Dw := Dw) hH hB hA hk127 h125
   replace h11 := El.tr h11 ht129; replace h119 := El.tr h119 ht129; replace hK := Tt hK ht129; replace hr84 := Tt hr84 ht129; replace hB := Bx hB ht129; replace hA := ht129.new
   replace hH : Hp _ _ _ (o_9 v124 x123 :: []) := hH130
   refine As (To ?_)
   refine C_seq ?_
   refine C_region_q (Dw := Dw) Tryz_mixed (by kernel_rfl) ?_
   refine Qm (Qv (fun w' hw' => Y_lenSl (Hp.any (α := ByteArray) (e := 9) (v := v124) (l := x123) hH (i := 0) rfl) rfl underlying62 rfl) (Qv (fun w' hw' => Y_neq rfl rfl) (Qm ?_)))
   obtain ⟨s132, hs132, h96⟩ := Bs h96
   refine VQ_cut 7 (fun _ : Unit => [(1, Pt b7), (5, Ii (k85 : Int)), (6, Pt b111), (55, v79), (56, Ii (x.terms.length : Int)), (57, Ii (k85 : Int)), (75, .bool s132)]) (fun _ => True) ?_ ?_
   ·simp only [List.take, List.drop]
    rcases Be ((x123.length : Int) != 1) with hc131 | hc131
    ·rw [if_pos hc131] at hs132
     refine Qg hc131 (Qg hc131 (Qg hc131 (Qg hc131 (Qg hc131 (Qg hc131 ?_)))))
     refine VQ_y (fun _ _ => Y_pick_te rfl hc131 rfl) rfl rfl rfl ?_
     obtain rfl := Oi hs132
     exact VQ_end fun a ha => ⟨(), ha.sb, trivial⟩
    rw [if_neg (nt hc131)] at hs132
    refine Qh hc131 (Qm (Qh hc131 ?_))
    obtain ⟨x133, hx133, hs132⟩ := Bs hs132
    refine VQ_indexAddrH (α := ByteArray) (e := 9) (v := v124) (l := x123) hH (i := 0) rfl hx133 underlying62 sizeOf9 rfl rfl rfl ?_
    intro b134 o135 h136 hl137
    refine Qh hc131 (Ql (fun w' hw' => (El.str (El.kp h136 hw'))) isAgg9 (Qh hc131 ?_))
    have h138 := El_know_Term_0 h119
    refine Qf underlying90 rfl sizeOf9 (Qh hc131 (Ql (fun w' hw' => (El.str (El.kp h138 hw'))) isAgg9 (Qh hc131 (Qv (fun w' hw' => Y_sneq rfl rfl) ?_))))
    refine VQ_y (fun _ _ => Y_pick_fe rfl hc131 rfl) rfl rfl rfl ?_
    obtain rfl := Oi hs132
    exact VQ_end fun a ha => ⟨(), ha.sb, trivial⟩
   simp only [List.take, List.drop]
   rintro _ _
   refine Qm ?_
   refine VQ_cut 5 (fun _ : Unit => [(1, Pt b7), (5, Ii (k85 : Int)), (6, Pt b111), (55, v79), (56, Ii (x.terms.length : Int)), (57, Ii (k85 : Int)), (81, .bool (s132 || ((x104.list_.length : Int) == 0)))]) (fun _ => True) ?_ ?_
   ·simp only [List.take, List.drop]
    rcases Be (s132) with hc139 | hc139
    ·refine Qg hc139 (Qg hc139 (Qg hc139 (Qg hc139 ?_)))
     refine VQ_y (fun _ _ => Y_pick_te rfl hc139 rfl) rfl rfl rfl ?_
     exact VQ_end fun a ha => ⟨(), ha.sub ⟨rfl, rfl, rfl, rfl, rfl, rfl, (by rw [hc139]; rfl), trivial⟩, trivial⟩
    refine Qh hc139 ?_
    have h141 := El_know_Term_1 h119
    refine Qf underlying90 rfl sizeOf88 (Qh hc139 ?_)
    obtain ⟨v142, h143, h144⟩ := El.list h141
    refine Qc h143 isAgg88 (Qh hc139 (Qv (fun w' hw' => Y_lenSl h144 rfl underlying88 rfl) (Qh hc139 (Qv (fun w' hw' => Y_eql rfl rfl) ?_))))
    refine VQ_y (fun _ _ => Y_pick_fe rfl hc139 rfl) rfl rfl rfl ?_
    exact VQ_end fun a ha => ⟨(), ha.sub ⟨rfl, rfl, rfl, rfl, rfl, rfl, (by rw [hc139]; rfl), trivial⟩, trivial⟩
   simp only [List.take, List.drop]
   rintro _ _
   refine VQ_to (fun _ _ => rfl) (fun w145 hk146 => ?_)
   have ht147 := Kp.tr hk146 hA hB; replace hH := Hp.kp hH hk146; replace h11 := El.tr h11 ht147; replace h119 := El.tr h119 ht147; replace hK := Tt hK ht147; replace hr84 := Tt hr84 ht147; replace hB := Bx hB ht147; replace hA := ht147.new
   refine Cc (fun hc148 => ?_) fun hc148 => ?_
   ·rw [if_pos hc148] at h96
    refine Sr (As (To ?_))
    obtain rfl := Oi h96
    obtain rfl := (h97 : Lp.rt _ = _)
    rw [Lp.andThen_rt] at hm
    obtain rfl := Oi hm
    refine Rt (Res.one results28 rfl) ?_
    exact ⟨rfl, hK.kp⟩
   rw [if_neg (nt hc148)] at h96
   refine Sk ?_
   refine C_seq (C_seq ?_)
   refine C_region_q (Dw := Dw) Tryz_mixed (by kernel_rfl) ?_
   refine Qm (Qv (fun w' hw' => Y_gtr rfl rfl) (Qm ?_))
   obtain ⟨s150, hs150, h96⟩ := Bs h96
   refine VQ_cut 11 (fun _ : Unit => [(1, Pt b7), (6, Pt b111), (55, v79), (56, Ii (x.terms.length : Int)), (57, Ii (k85 : Int)), (95, .bool s150)]) (fun _ => True) ?_ ?_
   ·simp only [List.take, List.drop]
    rcases Be (decide ((0 : Int) < (k85 : Int))) with hc149 | hc149
    ·rw [if_pos hc149] at hs150
     refine Qh hc149 ?_
     have h151 := El_know_Term_0 h119
     refine Qf underlying90 rfl sizeOf9 (Qh hc149 (Ql (fun w' hw' => (El.str (El.kp h151 hw'))) isAgg9 (Qh hc149 ?_)))
     have h152 := El_know_Index_2 h11
     refine Qf underlying47 rfl sizeOf45 (Qh hc149 ?_)
     obtain ⟨v153, h154, h155⟩ := El.list h152
     refine Qc h154 isAgg45 (Qh hc149 (Qm (Qh hc149 (Qv (fun w' hw' => Y_subI rfl rfl) (Qh hc149 ?_)))))
     obtain ⟨x156, hx156, hs150⟩ := Bs hs150
     refine VQ_indexAddr h155 hx156 underlying45 sizeOf90 rfl rfl rfl ?_
     intro b157 o158 h159
     refine Qh hc149 ?_
     have h160 := El_know_Term_0 h159
     refine Qf underlying90 rfl sizeOf9 (Qh hc149 (Ql (fun w' hw' => (El.str (El.kp h160 hw'))) isAgg9 (Qh hc149 (Qv (fun w' hw' => Y_sleq rfl rfl) ?_))))
     refine VQ_y (fun _ _ => Y_pick_te rfl hc149 rfl) rfl rfl rfl ?_
     obtain rfl := Oi hs150
     exact VQ_end fun a ha => ⟨(), ha.sb, trivial⟩
    rw [if_neg (nt hc149)] at hs150
    refine Qg hc149 (Qg hc149 (Qg hc149 (Qg hc149 (Qg hc149 (Qg hc149 (Qg hc149 (Qg hc149 (Qg hc149 (Qg hc149 ?_)))))))))
    refine VQ_y (fun _ _ => Y_pick_fe rfl hc149 rfl) rfl rfl rfl ?_
    obtain rfl := Oi hs150
    exact VQ_end fun a ha => ⟨(), ha.sb, trivial⟩
   simp only [List.take, List.drop]
   rintro _ _
   refine VQ_to (fun _ _ => rfl) (fun w161 hk162 => ?_)
   have ht163 := Kp.tr hk162 hA hB; replace hH := Hp.kp hH hk162; replace h11 := El.tr h11 ht163; replace h119 := El.tr h119 ht163; replace hK := Tt hK ht163; replace hr84 := Tt hr84 ht163; replace hB := Bx hB ht163; replace hA := ht163.new
   refine Cc (fun hc164 => ?_) fun hc164 => ?_
   ·rw [if_pos hc164] at h96
    refine Sr (As (To ?_))
    obtain rfl := Oi h96
    obtain rfl := (h97 : Lp.rt _ = _)
    rw [Lp.andThen_rt] at hm
    obtain rfl := Oi hm
    refine Rt (Res.one results28 rfl) ?_
    exact ⟨rfl, hK.kp⟩
   rw [if_neg (nt hc164)] at h96
   refine Sk ?_
   refine Sr ?_
   obtain ⟨v165, v167, v169, h171, h166, h168, h170⟩ := El_know_Index h11
   refine Vy (Y_loadA h171 isAgg47 sizeOf47 rfl) ?_
   obtain ⟨v172, h174, h173⟩ := El_know_Term h119
   refine Vy (Y_loadA h174 isAgg90 sizeOf90 rfl) ?_
   obtain ⟨x175, hx175, h96⟩ := Bs h96
   refine Vc call57 (know_Index_checkTerm_c (Dw := Dw) w161 hA x v165 h166 v167 h168 v169 h170 x104 v172 h173 hx175) ?_
   rintro _ w176 ⟨rfl, hk177⟩
   have ht178 := Kp.tr hk177 hA hB; replace hH := Hp.kp hH hk177; replace hK := Tt hK ht178; replace hr84 := Tt hr84 ht178
   refine As (To ?_)
   refine Sr (Mm (Vy (Y_neq rfl rfl) (To ?_)))
   refine Cc (fun hc179 => ?_) fun hc179 => ?_
   ·rw [if_pos hc179] at h96
    refine Sr (Mm (As (To ?_)))
    obtain rfl := Oi h96
    obtain rfl := (h97 : Lp.rt _ = _)
    rw [Lp.andThen_rt] at hm
    obtain rfl := Oi hm
    refine Rt (Res.one results28 rfl) ?_
    exact ⟨rfl, hK.kp⟩
   rw [if_neg (nt hc179)] at h96
   refine Sk ?_
   refine C_region (Vy (Y_addI rfl rfl) (Mm ?_))
   obtain rfl := Oi h96
   refine V_end (fun a ha180 => ?_)
   replace hH : Hp w.heap.size A128 w176 ([]) := Hp.drop hH (i := 0) rfl
   exact ⟨(), hlt99, h97, ⟨A128, ha180.sub ⟨rfl, rfl, rfl, Ws hlt99 hn102, trivial⟩, ⟨hH, hr84⟩⟩⟩
  refine C_exit (fun a ha181 => ?_)
  exact ⟨((), A93), ha181.sub trivial, ⟨(h100 (eq_of_dec hle98 hc103)).symm, hH, hr84⟩⟩
 rintro ⟨s83, A89⟩ w86 ⟨rfl, hH90, hk87⟩ a ha88
 rw [Lp.andThen_fin] at hm
 replace hK := Tr.trans hK hk87; replace hA := hk87.new; replace hH := hH90
 refine C_at (n := ⟨103, [], none⟩) (fun _ _ => rfl) ?_ ha88
 refine Sr (As (To ?_))
 obtain rfl := Oi hm
 refine Rt (Res.one results28 rfl) ?_
 exact ⟨rfl, hK.kp⟩
def Tryz_strings_Join_lay_ren : Go.Shelf.Ren := ⟨fun | 156 => 58 | 165 => 90 | 166 => 91 | 169 => 92 | 240 => 117 | 241 => 118 | 276 => 148 | 277 => 149 | n => n, fun | 0 => 0 | 1 => 1 | 2 => 2 | 3 => 3 | 4 => 4 | 5 => 5 | 6 => 6 | 7 => 7 | 8 => 8 | 9 => 9 | 10 => 10 | 11 => 11 | 12 => 12 | 13 => 13 | 14 => 14 | 15 => 15 | 16 => 16 | 17 => 17 | 18 => 18 | 19 => 19 | 20 => 20 | 21 => 21 | 22 => 119 | 27 => 132 | 28 => 23 | 29 => 36 | 30 => 74 | 31 => 62 | 34 => 145 | 35 => 198 | 37 => 135 | 41 => 71 | 43 => 95 | 46 => 127 | 47 => 126 | 51 => 165 | 52 => 164 | 53 => 167 | 54 => 166 | 55 => 104 | 61 => 136 | 67 => 117 | 68 => 63 | 69 => 103 | 70 => 149 | 71 => 150 | 72 => 151 | 73 => 152 | 74 => 153 | 75 => 154 | 76 => 155 | 77 => 156 | 80 => 157 | 81 => 227 | 100 => 143 | 103 => 207 | 104 => 212 | 105 => 208 | 106 => 209 | 111 => 77 | 112 => 144 | 113 => 176 | 114 => 214 | 119 => 216 | 127 => 179 | 131 => 108 | 135 => 177 | 137 => 217 | 138 => 218 | 139 => 219 | 146 => 220 | 150 => 192 | 151 => 221 | 164 => 199 | 165 => 200 | 166 => 201 | 182 => 170 | 183 => 171 | 188 => 193 | 189 => 194 | 190 => 195 | 191 => 196 | 192 => 197 | 218 => 186 | 219 => 187 | 220 => 188 | 222 => 190 | 224 => 210 | 225 => 211 | 228 => 204 | 229 => 205 | 231 => 215 | 238 => 222 | 239 => 223 | 240 => 224 | 241 => 225 | 242 => 226 | 243 => 228 | 244 => 229 | 245 => 230 | 246 => 231 | 247 => 232 | 248 => 233 | 249 => 234 | n => n, fun | 1 => 0 | 3 => 1 | 4 => 2 | n => n⟩
theorem Tryz_strings_Join_lay : Go.Proofs.Lays.n156 Tryz.prog Tryz_strings_Join_lay_ren := {
  mixed := by kernel_rfl,
  f156 := Tryz.func58.trans (congrArg some (by kernel_rfl)),
  f165 := Tryz.func90.trans (congrArg some (by kernel_rfl)),
  f166 := Tryz.func91.trans (congrArg some (by kernel_rfl)),
  f169 := Tryz.func92.trans (congrArg some (by kernel_rfl)),
  f240 := Tryz.func117.trans (congrArg some (by kernel_rfl)),
  f241 := Tryz.func118.trans (congrArg some (by kernel_rfl)),
  f276 := Tryz.func148.trans (congrArg some (by kernel_rfl)),
  f277 := Tryz.func149.trans (congrArg some (by kernel_rfl)),
  t0 := Tryz.underlying0,
  a0 := Tryz.isAgg0,
  z0 := Tryz.sizeOf0,
  v0 := Tryz.zeroValue0,
  t3 := Tryz.underlying3,
  a3 := Tryz.isAgg3,
  z3 := Tryz.sizeOf3,
  v3 := Tryz.zeroValue3,
  t4 := Tryz.underlying4,
  a4 := Tryz.isAgg4,
  z4 := Tryz.sizeOf4,
  v4 := Tryz.zeroValue4,
  t9 := Tryz.underlying9,
  a9 := Tryz.isAgg9,
  z9 := Tryz.sizeOf9,
  v9 := Tryz.zeroValue9,
  t20 := Tryz.underlying20,
  a20 := Tryz.isAgg20,
  z20 := Tryz.sizeOf20,
  v20 := Tryz.zeroValue20,
  t31 := Tryz.underlying62,
  a31 := Tryz.isAgg62,
  z31 := Tryz.sizeOf62,
  v31 := Tryz.zeroValue62,
  t37 := Tryz.underlying135,
  a37 := Tryz.isAgg135,
  z37 := Tryz.sizeOf135,
  v37 := Tryz.zeroValue135,
  t70 := Tryz.underlying149,
  a70 := Tryz.isAgg149,
  z70 := Tryz.sizeOf149,
  v70 := Tryz.zeroValue149,
  t72 := Tryz.underlying151,
  a72 := Tryz.isAgg151,
  z72 := Tryz.sizeOf151,
  v72 := Tryz.zeroValue151,
  t75 := Tryz.underlying154,
  a75 := Tryz.isAgg154,
  z75 := Tryz.sizeOf154,
  v75 := Tryz.zeroValue154,
  t76 := Tryz.underlying155,
  a76 := Tryz.isAgg155,
  z76 := Tryz.sizeOf155,
  v76 := Tryz.zeroValue155,
  t127 := Tryz.underlying179,
  a127 := Tryz.isAgg179,
  z127 := Tryz.sizeOf179,
  v127 := Tryz.zeroValue179,
  t164 := Tryz.underlying199,
  a164 := Tryz.isAgg199,
  z164 := Tryz.sizeOf199,
  v164 := Tryz.zeroValue199 }
theorem Tryz_strings_Join_lay_x : Go.Proofs.Builder.Extra Tryz.prog Tryz_strings_Join_lay_ren := {
  sizeBuilder := by kernel_rfl
  liesBuilder := by kernel_rfl
  t5 := Tryz.underlying5
  a5 := Tryz.isAgg5
  z5 := Tryz.sizeOf5
  v5 := Tryz.zeroValue5
  infoByte := by kernel_rfl
  cellsByte := by kernel_rfl
  sizeByte := by kernel_rfl
  neB5 := (by decide : (151 : Nat) ≠ 5) }
theorem strings_Join_c (w : World) {A : Nat → Prop} (hA : ∀ b, w.heap.size ≤ b → A b) (elems : List ByteArray) (v_e : Value) (h_e : Sl A w v_e elems) (sep : ByteArray) {r : ByteArray} (hm : strings_Join elems sep = some r) : Ret Tryz.prog 58 #[v_e, .string sep] w fun v w' => v = .string r ∧ Kp False w w' := by
  unfold strings_Join at hm
  split at hm
  case isFalse => cases hm
  rename_i h
  obtain rfl := Option.some.inj hm
  exact join_wrap h_e (fun a c => Go.Proofs.Any.strings_Join_none Tryz_strings_Join_lay Tryz_strings_Join_lay_x a c sep w) (fun bk o c h1 h2 h3 => Go.Proofs.Any.strings_Join Tryz_strings_Join_lay Tryz_strings_Join_lay_x bk o c elems sep w h1 h2 h.1 h3 h.2)
theorem know_QueryText_c (w : World) {A : Nat → Prop} (hA : ∀ b, w.heap.size ≤ b → A b) (q : know_Query) (v_q : Value) (h_q : Sl A w v_q q.parts) {r : (ByteArray × Int)} (hm : know_QueryText q = some r) : Ret prog 29 #[.agg #[v_q]] w fun v w' => v = .tuple #[.string r.1, Ii r.2] ∧ Kp False w w' := by
 unfold know_QueryText at hm
 refine enter func29 rfl ntmps29 rfl ?_
 have hA0 := hA
 obtain ⟨hB, hK, hH⟩ := St (Dw := False) hA
 refine Sr ?_
 refine V_box rfl rfl ?_
 intro b3 w4 h5
 have hk7 := h5.kp (Dw := False)
 have h6 : El (α := know_Query) A w4 b3 0 q := h5.el hA ⟨_, rfl, h_q⟩
 have ht8 := Kp.tr hk7 hA hB; replace hH := Hp.kp hH hk7; replace hK := Tt hK ht8; replace hB := Bx hB ht8; replace hA := ht8.new
 refine As (As (To ?_))
 refine C_seq (Sr ?_)
 have h9 := El_know_Query_0 h6
 refine Fa underlying27 rfl sizeOf25 ?_
 obtain ⟨v10, h11, h12⟩ := El.list h9
 refine Ld h11 isAgg25 (Vy (Y_lenSl h12 rfl underlying25 rfl) (Vy (Y_gtr rfl rfl) (To ?_)))
 refine Cc (fun hc13 => ?_) fun hc13 => ?_
 ·rw [if_pos hc13] at hm
  refine Sr (As (As (To ?_)))
  obtain rfl := Oi hm
  refine Rt (Res.two results29 rfl rfl) ?_
  exact ⟨rfl, hK.kp⟩
 rw [if_neg (nt hc13)] at hm
 refine Sk ?_
 refine Sr (As (To ?_))
 refine C_seq (Sr ?_)
 have h14 := El_know_Query_0 h6
 refine Fa underlying27 rfl sizeOf25 ?_
 obtain ⟨v15, h16, h17⟩ := El.list h14
 refine Ld h16 isAgg25 (Vy (Y_lenSl h17 rfl underlying25 rfl) (Mm (To ?_)))
 replace hH : Hp w.heap.size A w4 (o_9 (.slice none 0 0) ([] : (List ByteArray)) :: []) := Hp.addNil (α := ByteArray) (e := 9) hH
 have hn42 := Sl.le h17
 obtain ⟨o18, ho18, hm⟩ := Bs hm
 refine C_cutG (ι := ((List ByteArray) × Value × (Nat → Prop))) (fun ⟨s19, v25, A27⟩ => [(4, v25)]) (fun ⟨s19, v25, A27⟩ => fun w' => o18 = .fin s19 ∧ Hp w.heap.size A27 w' (o_9 v25 s19 :: []) ∧ Tr False w.heap.size A w4 A27 w') ?_ ?_
 ·refine C_block ?_
  refine C_range ho18 (fun k21 s29 a w' => ∃ i : (Value × (Nat → Prop)), Has ⟨93, [], none⟩ a ([(4, i.1), (17, v15), (18, Ii (q.parts.length : Int)), (19, Ii (k21 : Int))]) ∧ Hp w.heap.size i.2 w' (o_9 i.1 s29 :: []) ∧ Tr False w.heap.size A w4 i.2 w') (fun a ha => ⟨(.slice none 0 0, A), ha.sb, ⟨hH, Tr.refl (Dw := False) hA⟩⟩) ?_
  rintro K k21 s29 a w30 ⟨⟨v31, A33⟩, ha189, hH34, hr20⟩ hle38 K41 h40
  refine C_of ?_ ha189
  replace h17 := Sl.tr h17 hr20; replace hK := Tt hK hr20; replace hB := Bx hB hr20; replace hA := hr20.new
  replace hH : Hp _ _ _ (o_9 v31 s29 :: []) := hH34
  refine Sr (Vy (Y_lss rfl rfl) (To ?_))
  refine C_seq ?_
  refine Cc (fun hc43 => ?_) fun hc43 => ?_
  ·have hlt39 := lt_of_dec hc43
   obtain ⟨x35, h36, h37⟩ := K41 hlt39
   refine Sk ?_
   refine C_seq (C_block (Sr ?_))
   obtain ⟨x44, hx44, h36⟩ := Bs h36
   refine V_indexAddr h17 hx44 underlying25 sizeOf68 rfl rfl rfl ?_
   intro b45 o46 h47
   obtain ⟨v48, h50, h49⟩ := El_know_Part h47
   refine Vy (Y_loadA h50 isAgg68 sizeOf68 rfl) ?_
   refine V_alloc zeroValue68 rfl ?_
   intro b51 w52 h53
   have h58 : (v48).oneCell' = true := by obtain ⟨_, _, e, _⟩ := Sl.form h49; rw [e]; rfl
   refine Sn h53 sizeOf68 ?_
   intro w54 h55
   have hk60 := h55.kp (Dw := False)
   have h59 : El (α := know_Part) A33 w54 b51 0 x44 := h55.el hA ⟨[Ii x44.kind], _, rfl, rfl, ⟨[.bool x44.not_], _, rfl, rfl, ⟨_, rfl, h49⟩⟩⟩
   have ht61 := Kp.tr hk60 hA hB; replace hH := Hp.kp hH hk60; replace hK := Tt hK ht61; replace hr20 := Tt hr20 ht61; replace hB := Bx hB ht61; replace hA := ht61.new
   refine To ?_
   refine C_seq (Sr ?_)
   have h62 := El_know_Part_0 h59
   refine Fa underlying68 rfl sizeOf3 (Li h62 isAgg3 ?_)
   refine Vc call21 (know_within_c w54 x44.kind 0 2) ?_
   rintro _ _ ⟨rfl, rfl⟩
   refine Vy (Y_not rfl) (Mm ?_)
   refine V_cut 5 (fun _ : Unit => [(4, v31), (6, Pt b51), (17, v15), (18, Ii (q.parts.length : Int)), (19, Ii (k21 : Int)), (32, .bool ((!(know_within x44.kind 0 2)) || ((x44.words.length : Int) == 0)))]) (fun _ w' => w54 = w') ?_ ?_
   ·simp only [List.take, List.drop]
    rcases Be (!(know_within x44.kind 0 2)) with hc63 | hc63
    ·refine Gm hc63 (Gm hc63 (Gm hc63 (Gm hc63 (Vy (Y_pick_te rfl hc63 rfl) ?_))))
     exact V_end fun a ha => ⟨(), ha.sub ⟨rfl, rfl, rfl, rfl, rfl, (by rw [hc63]; rfl), trivial⟩, rfl⟩
    refine Gf hc63 ?_
    have h65 := El_know_Part_2 h59
    refine Fa underlying68 rfl sizeOf62 (Gf hc63 ?_)
    obtain ⟨v66, h67, h68⟩ := El.list h65
    refine Ld h67 isAgg62 (Gf hc63 (Vy (Y_lenSl h68 rfl underlying62 rfl) (Gf hc63 (Vy (Y_eql rfl rfl) (Vy (Y_pick_fe rfl hc63 rfl) ?_)))))
    exact V_end fun a ha => ⟨(), ha.sub ⟨rfl, rfl, rfl, rfl, rfl, (by rw [hc63]; rfl), trivial⟩, rfl⟩
   simp only [List.take, List.drop]
   rintro _ _ rfl
   refine Mm ?_
   refine V_cut 10 (fun _ : Unit => [(4, v31), (6, Pt b51), (17, v15), (18, Ii (q.parts.length : Int)), (19, Ii (k21 : Int)), (43, .bool (((!(know_within x44.kind 0 2)) || ((x44.words.length : Int) == 0)) || ((x44.kind != 1) && (decide ((1 : Int) < (x44.words.length : Int))))))]) (fun _ w' => w54 = w') ?_ ?_
   ·simp only [List.take, List.drop]
    rcases Be (((!(know_within x44.kind 0 2)) || ((x44.words.length : Int) == 0))) with hc69 | hc69
    ·refine Gm hc69 (Gm hc69 (Gm hc69 (Gm hc69 ?_)))
     refine V_gu rfl rfl rfl rfl rfl ?_
     refine V_gu rfl rfl rfl rfl rfl ?_
     refine V_gu rfl rfl rfl rfl rfl ?_
     refine V_gu rfl rfl rfl rfl rfl ?_
     refine Gm hc69 (Vy (Y_pick_te rfl hc69 rfl) ?_)
     exact V_end fun a ha => ⟨(), ha.sub ⟨rfl, rfl, rfl, rfl, rfl, (by rw [hc69]; rfl), trivial⟩, rfl⟩
    refine Gf hc69 ?_
    have h71 := El_know_Part_0 h59
    refine Fa underlying68 rfl sizeOf3 (Gf hc69 (Li h71 isAgg3 (Gf hc69 (Vy (Y_neq rfl rfl) (Gf hc69 (Mm ?_))))))
    refine V_cut 5 (fun _ : Unit => [(4, v31), (6, Pt b51), (17, v15), (18, Ii (q.parts.length : Int)), (19, Ii (k21 : Int)), (33, .bool ((!(know_within x44.kind 0 2)) || ((x44.words.length : Int) == 0))), (42, .bool ((x44.kind != 1) && (decide ((1 : Int) < (x44.words.length : Int)))))]) (fun _ w' => w54 = w') ?_ ?_
    ·simp only [List.take, List.drop]
     rcases Be (x44.kind != 1) with hc72 | hc72
     ·refine Gf hc72 ?_
      have h74 := El_know_Part_2 h59
      refine Fa underlying68 rfl sizeOf62 (Gf hc72 ?_)
      obtain ⟨v75, h76, h77⟩ := El.list h74
      refine Ld h76 isAgg62 (Gf hc72 (Vy (Y_lenSl h77 rfl underlying62 rfl) (Gf hc72 (Vy (Y_gtr rfl rfl) (Gf hc69 (Vy (Y_pick_te rfl hc72 rfl) ?_))))))
      exact V_end fun a ha => ⟨(), ha.sub ⟨rfl, rfl, rfl, rfl, rfl, rfl, (by rw [hc72]; rfl), trivial⟩, rfl⟩
     refine Gm hc72 (Gm hc72 (Gm hc72 (Gm hc72 (Gf hc69 (Vy (Y_pick_fe rfl hc72 rfl) ?_)))))
     exact V_end fun a ha => ⟨(), ha.sub ⟨rfl, rfl, rfl, rfl, rfl, rfl, (by rw [hc72]; rfl), trivial⟩, rfl⟩
    simp only [List.take, List.drop]
    rintro _ _ rfl
    refine Vy (Y_pick_fe rfl hc69 rfl) ?_
    exact V_end fun a ha => ⟨(), ha.sub ⟨rfl, rfl, rfl, rfl, rfl, (by rw [hc69]; rfl), trivial⟩, rfl⟩
   simp only [List.take, List.drop]
   rintro _ _ rfl
   refine To ?_
   refine Cc (fun hc78 => ?_) fun hc78 => ?_
   ·rw [if_pos hc78] at h36
    refine Sr (As (As (To ?_)))
    obtain rfl := Oi h36
    obtain rfl := (h37 : Lp.rt _ = _)
    rw [Lp.andThen_rt] at hm
    obtain rfl := Oi hm
    refine Rt (Res.two results29 rfl rfl) ?_
    exact ⟨rfl, hK.kp⟩
   rw [if_neg (nt hc78)] at h36
   refine Sk ?_
   refine C_seq (Sr ?_)
   have h79 := El_know_Part_2 h59
   refine Fa underlying68 rfl sizeOf62 ?_
   obtain ⟨v80, h81, h82⟩ := El.list h79
   refine Ld h81 isAgg62 (Vy (Y_lenSl h82 rfl underlying62 rfl) (Mm (To ?_)))
   have hn103 := Sl.le h82
   obtain ⟨o83, ho83, h36⟩ := Bs h36
   refine C_cutG (ι := (Unit × (Nat → Prop))) (fun ⟨s84, A90⟩ => [(4, v31), (6, Pt b51), (17, v15), (18, Ii (q.parts.length : Int)), (19, Ii (k21 : Int))]) (fun ⟨s84, A90⟩ => fun w' => o83 = .fin s84 ∧ Hp w.heap.size A90 w' (o_9 v31 s29 :: []) ∧ Tr False w.heap.size A33 w54 A90 w') ?_ ?_
   ·refine C_block ?_
    refine C_range ho83 (fun k86 _ a w' => ∃ i : (Nat → Prop), Has ⟨93, [], none⟩ a ([(4, v31), (6, Pt b51), (17, v15), (18, Ii (q.parts.length : Int)), (19, Ii (k21 : Int)), (45, v80), (46, Ii (x44.words.length : Int)), (47, Ii (k86 : Int))]) ∧ Hp w.heap.size i w' (o_9 v31 s29 :: []) ∧ Tr False w.heap.size A33 w54 i w') (fun a ha => ⟨A33, ha.sb, ⟨hH, Tr.refl (Dw := False) hA⟩⟩) ?_
    rintro K k86 _ a w93 ⟨A94, ha127, hH95, hr85⟩ hle99 K102 h101
    refine C_of ?_ ha127
    replace h82 := Sl.tr h82 hr85; replace hK := Tt hK hr85; replace hB := Bx hB hr85; replace hA := hr85.new
    replace hH : Hp _ _ _ (o_9 v31 s29 :: []) := hH95
    refine Sr (Vy (Y_lss rfl rfl) (To ?_))
    refine C_seq ?_
    refine Cc (fun hc104 => ?_) fun hc104 => ?_
    ·have hlt100 := lt_of_dec hc104
     obtain ⟨x96, h97, h98⟩ := K102 hlt100
     refine Sk ?_
     refine C_seq (C_block (Sr ?_))
     obtain ⟨x105, hx105, h97⟩ := Bs h97
     refine V_indexAddr h82 hx105 underlying62 sizeOf9 rfl rfl rfl ?_
     intro b106 o107 h108
     refine Ld (El.str h108) isAgg9 (As (To ?_))
     refine Sr (Mm ?_)
     obtain ⟨x109, hx109, h97⟩ := Bs h97
     refine Vc call17 (know_Words_c (Dw := False) w93 hA x105 hx109) ?_
     rintro v110 w112 ⟨_, rfl, h111, hk113⟩
     obtain ⟨A114, ht115, hH116⟩ := Hp.addOwnd (Dw := False) hH hB hA hk113 h111
     replace hK := Tt hK ht115; replace hr85 := Tt hr85 ht115
     replace hH : Hp _ _ _ (o_9 v110 x109 :: o_9 v31 s29 :: []) := hH116
     refine As (To ?_)
     refine Sr (Mm (Vy (Y_lenSl (Hp.any (α := ByteArray) (e := 9) (v := v110) (l := x109) hH (i := 0) rfl) rfl underlying62 rfl) (Vy (Y_neq rfl rfl) (Mm ?_))))
     obtain ⟨s118, hs118, h97⟩ := Bs h97
     refine V_cut 6 (fun _ : Unit => [(4, v31), (6, Pt b51), (17, v15), (18, Ii (q.parts.length : Int)), (19, Ii (k21 : Int)), (45, v80), (46, Ii (x44.words.length : Int)), (47, Ii (k86 : Int)), (62, .bool s118)]) (fun _ w' => w112 = w') ?_ ?_
     ·simp only [List.take, List.drop]
      rcases Be ((x109.length : Int) != 1) with hc117 | hc117
      ·rw [if_pos hc117] at hs118
       refine Gm hc117 (Gm hc117 (Gm hc117 (Gm hc117 (Gm hc117 (Vy (Y_pick_te rfl hc117 rfl) ?_)))))
       obtain rfl := Oi hs118
       exact V_end fun a ha => ⟨(), ha.sb, rfl⟩
      rw [if_neg (nt hc117)] at hs118
      refine Gf hc117 (Mm (Gf hc117 ?_))
      obtain ⟨x119, hx119, hs118⟩ := Bs hs118
      refine V_indexAddrH (α := ByteArray) (e := 9) (v := v110) (l := x109) hH (i := 0) rfl hx119 underlying62 sizeOf9 rfl rfl rfl ?_
      intro b120 o121 h122 hl123
      refine Gf hc117 (Ld (El.str h122) isAgg9 (Gf hc117 (Mm (Gf hc117 (Vy (Y_sneq rfl rfl) (Vy (Y_pick_fe rfl hc117 rfl) ?_))))))
      obtain rfl := Oi hs118
      exact V_end fun a ha => ⟨(), ha.sb, rfl⟩
     simp only [List.take, List.drop]
     rintro _ _ rfl
     refine To ?_
     refine Cc (fun hc124 => ?_) fun hc124 => ?_
     ·rw [if_pos hc124] at h97
      refine Sr (As (As (To ?_)))
      obtain rfl := Oi h97
      obtain rfl := (h98 : Lp.rt _ = _)
      rw [Lp.andThen_rt] at h36
      obtain rfl := Oi h36
      obtain rfl := (h37 : Lp.rt _ = _)
      rw [Lp.andThen_rt] at hm
      obtain rfl := Oi hm
      refine Rt (Res.two results29 rfl rfl) ?_
      exact ⟨rfl, hK.kp⟩
     rw [if_neg (nt hc124)] at h97
     refine Sk ?_
     refine C_region (Vy (Y_addI rfl rfl) (Mm ?_))
     obtain rfl := Oi h97
     refine V_end (fun a ha125 => ?_)
     replace hH : Hp w.heap.size A114 w112 (o_9 v31 s29 :: o_9 v110 x109 :: []) := Hp.front hH (i := 1) rfl
     replace hH : Hp w.heap.size A114 w112 (o_9 v31 s29 :: []) := Hp.drop hH (i := 1) rfl
     exact ⟨(), hlt100, h98, ⟨A114, ha125.sub ⟨rfl, rfl, rfl, rfl, rfl, rfl, rfl, Ws hlt100 hn103, trivial⟩, ⟨hH, hr85⟩⟩⟩
    refine C_exit (fun a ha126 => ?_)
    exact ⟨((), A94), ha126.sb, ⟨(h101 (eq_of_dec hle99 hc104)).symm, hH, hr85⟩⟩
   rintro ⟨s84, A90⟩ w87 ⟨rfl, hH91, hk88⟩ a ha89
   rw [Lp.andThen_fin] at h36
   replace h59 := El.tr h59 hk88; replace hr20 := Tr.trans hr20 hk88; replace hB := Nat.le_trans hB hk88.ex.size; replace hA := hk88.new
   replace hH : Hp _ _ _ (o_9 v31 s29 :: []) := hH91
   refine C_at (n := ⟨93, [], none⟩) (fun _ _ => rfl) ?_ ha89
   refine Sr ?_
   have h128 := El_know_Part_2 h59
   refine Fa underlying68 rfl sizeOf62 ?_
   obtain ⟨v129, h130, h131⟩ := El.list h128
   refine Ld h130 isAgg62 ?_
   obtain ⟨x132, hx132, h36⟩ := Bs h36
   refine Vc call58 (strings_Join_c w87 hA x44.words v129 h131 (⟨#[32]⟩ : ByteArray) hx132) ?_
   rintro _ w133 ⟨rfl, hk134⟩
   have ht135 := Kp.tr hk134 hA hB; replace hH := Hp.kp hH hk134; replace h59 := El.tr h59 ht135; replace hr20 := Tt hr20 ht135; replace hB := Bx hB ht135; replace hA := ht135.new
   refine As (To ?_)
   refine C_seq (Sr ?_)
   have h136 := El_know_Part_0 h59
   refine Fa underlying68 rfl sizeOf3 (Li h136 isAgg3 (To ?_))
   obtain ⟨s138, ho137, h36⟩ := Bs h36
   refine C_cutG (ι := Unit) (fun (_ : Unit) => [(4, v31), (6, Pt b51), (10, .string s138), (17, v15), (18, Ii (q.parts.length : Int)), (19, Ii (k21 : Int))]) (fun (_ : Unit) => fun w' => w133 = w') ?_ ?_
   ·refine C_block (Sr (Vy (Y_eql rfl rfl) (As (To ?_))))
    obtain ⟨s144, ho143, ho137⟩ := Bs ho137
    refine C_cutG (ι := Unit) (fun (_ : Unit) => [(4, v31), (6, Pt b51), (10, .string s144), (17, v15), (18, Ii (q.parts.length : Int)), (19, Ii (k21 : Int))]) (fun (_ : Unit) => fun w' => w133 = w') ?_ ?_
    ·refine Cc (fun hc149 => ?_) fun hc149 => ?_
     ·rw [if_pos hc149] at ho143
      refine C_region (Mm ?_)
      obtain ⟨x150, hx150, ho143⟩ := Bs ho143
      refine Vy (Y_sadd hx150 rfl rfl) ?_
      obtain ⟨x151, hx151, ho143⟩ := Bs ho143
      refine Vy (Y_sadd hx151 rfl rfl) (As ?_)
      obtain rfl := Oi ho143
      refine V_end (fun a ha152 => ?_)
      exact ⟨(), ha152.sb, rfl⟩
     rw [if_neg (nt hc149)] at ho143
     refine Sr (Vy (Y_eql rfl rfl) (As (To ?_)))
     obtain ⟨s154, ho153, ho143⟩ := Bs ho143
     refine C_cutG (ι := Unit) (fun (_ : Unit) => [(4, v31), (6, Pt b51), (10, .string s154), (17, v15), (18, Ii (q.parts.length : Int)), (19, Ii (k21 : Int))]) (fun (_ : Unit) => fun w' => w133 = w') ?_ ?_
     ·refine Cc (fun hc159 => ?_) fun hc159 => ?_
      ·rw [if_pos hc159] at ho153
       refine C_region (Mm ?_)
       obtain ⟨x160, hx160, ho153⟩ := Bs ho153
       refine Vy (Y_sadd hx160 rfl rfl) (As ?_)
       obtain rfl := Oi ho153
       refine V_end (fun a ha161 => ?_)
       exact ⟨(), ha161.sb, rfl⟩
      rw [if_neg (nt hc159)] at ho153
      obtain rfl := Oi ho153
      refine C_skip (fun a ha162 => ?_)
      exact ⟨(), ha162.sb, rfl⟩
     rintro _ _ rfl a ha158
     obtain rfl := Oi ho143
     exact ⟨(), ha158.sb, rfl⟩
    rintro _ _ rfl a ha148
    obtain rfl := Oi ho137
    exact ⟨(), ha148.sb, rfl⟩
   rintro _ _ rfl a ha142
   refine C_at (n := ⟨93, [], none⟩) (fun _ _ => rfl) ?_ ha142
   refine C_seq (Sr ?_)
   have h165 := El_know_Part_1 h59
   refine Fa underlying68 rfl sizeOf4 (Ld (El.bool h165) isAgg4 (To ?_))
   obtain ⟨s167, ho166, h36⟩ := Bs h36
   refine C_cutG (ι := Unit) (fun (_ : Unit) => [(4, v31), (10, .string s167), (17, v15), (18, Ii (q.parts.length : Int)), (19, Ii (k21 : Int))]) (fun (_ : Unit) => fun w' => w133 = w') ?_ ?_
   ·refine Cc (fun hc172 => ?_) fun hc172 => ?_
    ·rw [if_pos hc172] at ho166
     refine C_region (Mm ?_)
     obtain ⟨x173, hx173, ho166⟩ := Bs ho166
     refine Vy (Y_sadd hx173 rfl rfl) (As ?_)
     obtain rfl := Oi ho166
     refine V_end (fun a ha174 => ?_)
     exact ⟨(), ha174.sb, rfl⟩
    rw [if_neg (nt hc172)] at ho166
    obtain rfl := Oi ho166
    refine C_skip (fun a ha175 => ?_)
    exact ⟨(), ha175.sb, rfl⟩
   rintro _ _ rfl a ha171
   refine C_at (n := ⟨93, [], none⟩) (fun _ _ => rfl) ?_ ha171
   refine C_region (Mm (Mm ?_))
   refine V_buildSlice (Dw := False) (l := ([s167] : List ByteArray)) (len := 1) underlying62 sizeOf9 zeroValue9 rfl (by with_unfolding_all rfl) (show (1 * 1 : Nat) ≠ 0 by decide) (show (1 * 1 : Nat) ≤ 2 ^ 24 by decide) hA ⟨[.string s167], _, rfl, rfl, rfl⟩ rfl rfl ?_
   intro v176 w177 hk179 h178
   have ht180 := Kp.tr hk179 hA hB; replace hH := Hp.kp hH hk179; replace hr20 := Tt hr20 ht180; replace hB := Bx hB ht180; replace hA := ht180.new
   obtain ⟨x181, hx181, h36⟩ := Bs h36
   refine V_appendH (Dw := False) (e := 9) (v := v31) (l := s29) (ti := t9) (bytes := 16) (lim := 8796093022208) hH (i := 0) rfl h178 hx181 underlying62 Tryz_info9 rfl rfl rfl rfl (by decide) (by decide) (by decide) hB hA rfl rfl rfl ?_
   intro v182 w183 A184 hH185 ht186
   replace hr20 := Tt hr20 ht186
   replace hH : Hp _ _ _ (o_9 v182 x181 :: []) := hH185
   refine As (To ?_)
   refine C_region (Vy (Y_addI rfl rfl) (Mm ?_))
   obtain rfl := Oi h36
   refine V_end (fun a ha187 => ?_)
   exact ⟨x181, hlt39, h37, ⟨(v182, A184), ha187.sub ⟨rfl, rfl, rfl, Ws hlt39 hn42, trivial⟩, ⟨hH, hr20⟩⟩⟩
  refine C_exit (fun a ha188 => ?_)
  exact ⟨(s29, v31, A33), ha188.sb, ⟨(h40 (eq_of_dec hle38 hc43)).symm, hH, hr20⟩⟩
 rintro ⟨s19, v25, A27⟩ w22 ⟨rfl, hH28, hk23⟩ a ha24
 rw [Lp.andThen_fin] at hm
 replace hK := Tr.trans hK hk23; replace hB := Nat.le_trans hB hk23.ex.size; replace hA := hk23.new
 replace hH : Hp _ _ _ (o_9 v25 s19 :: []) := hH28
 refine C_at (n := ⟨93, [], none⟩) (fun _ _ => rfl) ?_ ha24
 refine Sr (Mm ?_)
 obtain ⟨x190, hx190, hm⟩ := Bs hm
 refine Vc call58 (strings_Join_c w22 (A := fun _ => True) (fun _ _ => trivial) s19 v25 (Hp.any (α := ByteArray) (e := 9) (v := v25) (l := s19) hH (i := 0) rfl) (⟨#[32]⟩ : ByteArray) hx190) ?_
 rintro _ w191 ⟨rfl, hk192⟩
 have ht193 := Kp.tr hk192 hA hB; replace hK := Tt hK ht193
 refine As (To ?_)
 refine C_seq (Sr (Mm (Vy (Y_lenStr rfl underlying9 rfl) (Vy (Y_gtr rfl rfl) (To ?_)))))
 refine Cc (fun hc194 => ?_) fun hc194 => ?_
 ·rw [if_pos hc194] at hm
  refine Sr (As (As (To ?_)))
  obtain rfl := Oi hm
  refine Rt (Res.two results29 rfl rfl) ?_
  exact ⟨rfl, hK.kp⟩
 rw [if_neg (nt hc194)] at hm
 refine Sk ?_
 refine Sr (Mm (As (As (To ?_))))
 obtain rfl := Oi hm
 refine Rt (Res.two results29 rfl rfl) ?_
 exact ⟨rfl, hK.kp⟩
theorem slices_IndexFunc_Lknow_Part_know_Part_c (w : World) {A : Nat → Prop} (hA : ∀ b, w.heap.size ≤ b → A b) (s : (List know_Part)) (v_s : Value) (h_s : Sl A w v_s s) (f : know_Part → Option Bool) (f_f : FuncId) (f_a f_c : Array Value) (f_call : ∀ (args : Array Value) (w : World), (callFunc f_f args).run prog w = .ok (.enter f_f args) w) (f_spec : ∀ (w1 : World) (A1 : Nat → Prop), Tr Dw w.heap.size A w A1 w1 → (∀ b, w1.heap.size ≤ b → A1 b) → ∀ (y0 : know_Part) (v1 : Value) (h2 : Sl A1 w1 v1 y0.words) (r : Bool), f y0 = some r → Ret prog f_f (f_a ++ #[.agg #[Ii y0.kind, .bool y0.not_, v1]] ++ f_c) w1 fun v w' => v = .bool r ∧ Kp Dw w1 w') {r : Int} (hm : slices_IndexFunc_Lknow_Part_know_Part s f = some r) : Ret prog 59 #[v_s, .func (.func f_f) f_a f_c] w fun v w' => v = Ii r ∧ Kp Dw w w' := by
 unfold slices_IndexFunc_Lknow_Part_know_Part at hm
 refine enter func59 rfl ntmps59 rfl ?_
 have hA0 := hA
 obtain ⟨hB, hK, hH⟩ := St (Dw := Dw) hA
 refine Sr (As (To ?_))
 refine C_seq (Sr (Mm (Vy (Y_lenSl h_s rfl underlying25 rfl) (Mm (To ?_)))))
 have hn23 := Sl.le h_s
 obtain ⟨o3, ho3, hm⟩ := Bs hm
 refine C_cutG (ι := (Unit × (Nat → Prop))) (fun ⟨s4, A10⟩ => []) (fun ⟨s4, A10⟩ => fun w' => o3 = .fin s4 ∧ Hp w.heap.size A10 w' ([]) ∧ Tr Dw w.heap.size A w A10 w') ?_ ?_
 ·refine C_block ?_
  refine C_range ho3 (fun k6 _ a w' => ∃ i : (Nat → Prop), Has ⟨19, [], none⟩ a ([(0, v_s), (1, .func (.func f_f) f_a f_c), (7, Ii (s.length : Int)), (8, Ii (k6 : Int))]) ∧ Hp w.heap.size i w' ([]) ∧ Tr Dw w.heap.size A w i w') (fun a ha => ⟨A, ha.sb, ⟨hH, Tr.refl (Dw := Dw) hA⟩⟩) ?_
  rintro K k6 _ a w13 ⟨A14, ha39, hH15, hr5⟩ hle19 K22 h21
  refine C_of ?_ ha39
  replace h_s := Sl.tr h_s hr5; replace hK := Tt hK hr5; replace hB := Bx hB hr5; replace hA := hr5.new; replace hH := hH15
  refine Sr (Vy (Y_lss rfl rfl) (To ?_))
  refine C_seq ?_
  refine Cc (fun hc24 => ?_) fun hc24 => ?_
  ·have hlt20 := lt_of_dec hc24
   obtain ⟨x16, h17, h18⟩ := K22 hlt20
   refine Sk ?_
   refine C_seq (C_block (Sr (Mm (As (To ?_)))))
   refine Sr (Mm (Mm (Mm ?_)))
   obtain ⟨x25, hx25, h17⟩ := Bs h17
   refine V_indexAddr h_s hx25 underlying25 sizeOf68 rfl rfl rfl ?_
   intro b26 o27 h28
   obtain ⟨v29, h31, h30⟩ := El_know_Part h28
   refine Vy (Y_loadA h31 isAgg68 sizeOf68 rfl) ?_
   obtain ⟨x32, hx32, h17⟩ := Bs h17
   refine Vc f_call (f_spec w13 _ hK hA x25 v29 h30 _ hx32) ?_
   rintro _ w33 ⟨rfl, hk34⟩
   have ht35 := Kp.tr hk34 hA hB; replace hH := Hp.kp hH hk34; replace hK := Tt hK ht35; replace hr5 := Tt hr5 ht35
   refine To ?_
   refine Cc (fun hc36 => ?_) fun hc36 => ?_
   ·rw [if_pos hc36] at h17
    refine Sr (Mm (As (To ?_)))
    obtain rfl := Oi h17
    obtain rfl := (h18 : Lp.rt _ = _)
    rw [Lp.andThen_rt] at hm
    obtain rfl := Oi hm
    refine Rt (Res.one results59 rfl) ?_
    exact ⟨rfl, hK.kp⟩
   rw [if_neg (nt hc36)] at h17
   refine Sk ?_
   refine C_region (Vy (Y_addI rfl rfl) (Mm ?_))
   obtain rfl := Oi h17
   refine V_end (fun a ha37 => ?_)
   exact ⟨(), hlt20, h18, ⟨A14, ha37.sub ⟨rfl, rfl, rfl, Ws hlt20 hn23, trivial⟩, ⟨hH, hr5⟩⟩⟩
  refine C_exit (fun a ha38 => ?_)
  exact ⟨((), A14), ha38.sub trivial, ⟨(h21 (eq_of_dec hle19 hc24)).symm, hH, hr5⟩⟩
 rintro ⟨s4, A10⟩ w7 ⟨rfl, hH11, hk8⟩ a ha9
 rw [Lp.andThen_fin] at hm
 replace hK := Tr.trans hK hk8; replace hA := hk8.new; replace hH := hH11
 refine C_at (n := ⟨19, [], none⟩) (fun _ _ => rfl) ?_ ha9
 refine Sr (As (To ?_))
 obtain rfl := Oi hm
 refine Rt (Res.one results59 rfl) ?_
 exact ⟨rfl, hK.kp⟩
theorem slices_ContainsFunc_Lknow_Part_know_Part_c (w : World) {A : Nat → Prop} (hA : ∀ b, w.heap.size ≤ b → A b) (s : (List know_Part)) (v_s : Value) (h_s : Sl A w v_s s) (f : know_Part → Option Bool) (f_f : FuncId) (f_a f_c : Array Value) (f_call : ∀ (args : Array Value) (w : World), (callFunc f_f args).run prog w = .ok (.enter f_f args) w) (f_spec : ∀ (w1 : World) (A1 : Nat → Prop), Tr Dw w.heap.size A w A1 w1 → (∀ b, w1.heap.size ≤ b → A1 b) → ∀ (y0 : know_Part) (v1 : Value) (h2 : Sl A1 w1 v1 y0.words) (r : Bool), f y0 = some r → Ret prog f_f (f_a ++ #[.agg #[Ii y0.kind, .bool y0.not_, v1]] ++ f_c) w1 fun v w' => v = .bool r ∧ Kp Dw w1 w') {r : Bool} (hm : slices_ContainsFunc_Lknow_Part_know_Part s f = some r) : Ret prog 30 #[v_s, .func (.func f_f) f_a f_c] w fun v w' => v = .bool r ∧ Kp Dw w w' := by
 unfold slices_ContainsFunc_Lknow_Part_know_Part at hm
 refine enter func30 rfl ntmps30 rfl ?_
 have hA0 := hA
 obtain ⟨hB, hK, hH⟩ := St (Dw := Dw) hA
 refine Sr (As (To ?_))
 refine Sr (Mm (Mm ?_))
 obtain ⟨x3, hx3, hm⟩ := Bs hm
 refine Vc call59 (slices_IndexFunc_Lknow_Part_know_Part_c (Dw := Dw) w hA s v_s h_s f f_f f_a f_c f_call (fun w1 A1 ht => f_spec w1 A1 (Tr.trans hK (Tr.lower (Dw := Dw) ht hB))) hx3) ?_
 rintro _ w4 ⟨rfl, hk5⟩
 have ht6 := Kp.tr hk5 hA hB; replace hK := Tt hK ht6
 refine Vy (Y_geq rfl rfl) (As (To ?_))
 obtain rfl := Oi hm
 refine Rt (Res.one results30 rfl) ?_
 exact ⟨rfl, hK.kp⟩
theorem know_Search_1_c (w : World) {A : Nat → Prop} (hA : ∀ b, w.heap.size ≤ b → A b) (p : know_Part) (v_p : Value) (h_p : Sl A w v_p p.words) {r : Bool} (hm : know_Search_1 p = some r) : Ret prog 31 #[.agg #[Ii p.kind, .bool p.not_, v_p]] w fun v w' => v = .bool r ∧ Kp Dw w w' := by
 unfold know_Search_1 at hm
 refine enter func31 rfl ntmps31 rfl ?_
 have hA0 := hA
 obtain ⟨hB, hK, hH⟩ := St (Dw := Dw) hA
 refine Sr ?_
 refine V_box rfl rfl ?_
 intro b3 w4 h5
 have hk7 := h5.kp (Dw := Dw)
 have h6 : El (α := know_Part) A w4 b3 0 p := h5.el hA ⟨[Ii p.kind], _, rfl, rfl, ⟨[.bool p.not_], _, rfl, rfl, ⟨_, rfl, h_p⟩⟩⟩
 have ht8 := Kp.tr hk7 hA hB; replace hK := Tt hK ht8
 refine As (To ?_)
 refine Sr ?_
 have h9 := El_know_Part_1 h6
 refine Fa underlying68 rfl sizeOf4 (Ld (El.bool h9) isAgg4 (Vy (Y_not rfl) (As (To ?_))))
 obtain rfl := Oi hm
 refine Rt (Res.one results31 rfl) ?_
 exact ⟨rfl, hK.kp⟩
theorem internal_stringslite_HasPrefix_c (w : World) (s : ByteArray) (prefix_ : ByteArray) {r : Bool} (hm : internal_stringslite_HasPrefix s prefix_ = some r) : Ret prog 93 #[.string s, .string prefix_] w fun v w' => v = .bool r ∧ w = w' := by
 unfold internal_stringslite_HasPrefix at hm
 refine enter func93 rfl ntmps93 rfl ?_
 refine Sr (As (To ?_))
 refine Sr (Mm (Vy (Y_lenStr rfl underlying9 rfl) (Mm (Vy (Y_lenStr rfl underlying9 rfl) (Vy (Y_geq rfl rfl) (Mm ?_))))))
 obtain ⟨s2, hs2, hm⟩ := Bs hm
 refine V_cut 7 (fun _ : Unit => [(17, .bool s2)]) (fun _ w' => w = w') ?_ ?_
 ·simp only [List.take, List.drop]
  rcases Be (decide ((prefix_.size : Int) ≤ (s.size : Int))) with hc1 | hc1
  ·rw [if_pos hc1] at hs2
   refine Gf hc1 (Mm (Gf hc1 (Mm (Gf hc1 (Vy (Y_lenStr rfl underlying9 rfl) (Gf hc1 ?_))))))
   obtain ⟨x3, hx3, hs2⟩ := Bs hs2
   refine Vy (Y_sliceSH hx3 underlying9 rfl rfl) (Gf hc1 (Mm (Gf hc1 (Vy (Y_seql rfl rfl) (Vy (Y_pick_te rfl hc1 rfl) ?_)))))
   obtain rfl := Oi hs2
   exact V_end fun a ha => ⟨(), ha.sb, rfl⟩
  rw [if_neg (nt hc1)] at hs2
  refine Gm hc1 (Gm hc1 (Gm hc1 (Gm hc1 (Gm hc1 (Gm hc1 (Vy (Y_pick_fe rfl hc1 rfl) ?_))))))
  obtain rfl := Oi hs2
  exact V_end fun a ha => ⟨(), ha.sb, rfl⟩
 simp only [List.take, List.drop]
 rintro _ _ rfl
 refine As (To ?_)
 obtain rfl := Oi hm
 refine Rt (Res.one results93 rfl) ?_
 exact ⟨rfl, rfl⟩
theorem strings_HasPrefix_c (w : World) (s : ByteArray) (prefix_ : ByteArray) {r : Bool} (hm : strings_HasPrefix s prefix_ = some r) : Ret prog 60 #[.string s, .string prefix_] w fun v w' => v = .bool r ∧ w = w' := by
 unfold strings_HasPrefix at hm
 refine enter func60 rfl ntmps60 rfl ?_
 refine Sr (As (To ?_))
 refine Sr (Mm (Mm ?_))
 obtain ⟨x1, hx1, hm⟩ := Bs hm
 refine Vc call93 (internal_stringslite_HasPrefix_c w s prefix_ hx1) ?_
 rintro _ _ ⟨rfl, rfl⟩
 refine As (To ?_)
 obtain rfl := Oi hm
 refine Rt (Res.one results60 rfl) ?_
 exact ⟨rfl, rfl⟩
theorem slices_BinarySearchFunc_Lknow_Term_know_Term_string_c (w : World) {A : Nat → Prop} (hA : ∀ b, w.heap.size ≤ b → A b) (x : (List know_Term)) (v_x : Value) (h_x : Sl A w v_x x) (target : ByteArray) (cmp : know_Term → ByteArray → Option Int) (cmp_f : FuncId) (cmp_a cmp_c : Array Value) (cmp_call : ∀ (args : Array Value) (w : World), (callFunc cmp_f args).run prog w = .ok (.enter cmp_f args) w) (cmp_spec : ∀ (w1 : World) (A1 : Nat → Prop), Tr Dw w.heap.size A w A1 w1 → (∀ b, w1.heap.size ≤ b → A1 b) → ∀ (y0 : know_Term) (v1 : Value) (h2 : Sl A1 w1 v1 y0.list_) (y1 : ByteArray) (r : Int), cmp y0 y1 = some r → Ret prog cmp_f (cmp_a ++ #[.agg #[.string y0.word, v1], .string y1] ++ cmp_c) w1 fun v w' => v = Ii r ∧ Kp Dw w1 w') {r : (Int × Bool)} (hm : slices_BinarySearchFunc_Lknow_Term_know_Term_string x target cmp = some r) : Ret prog 95 #[v_x, .string target, .func (.func cmp_f) cmp_a cmp_c] w fun v w' => v = .tuple #[Ii r.1, .bool r.2] ∧ Kp Dw w w' := by
 unfold slices_BinarySearchFunc_Lknow_Term_know_Term_string at hm
 refine enter func95 rfl ntmps95 rfl ?_
 have hA0 := hA
 obtain ⟨hB, hK, hH⟩ := St (Dw := Dw) hA
 refine Sr (As (As (To ?_)))
 refine Sr (Mm (Vy (Y_lenSl h_x rfl underlying45 rfl) (As (To ?_))))
 refine Sr (Mm (As (As (To ?_))))
 refine C_seq ?_
 obtain ⟨o3, ho3, hm⟩ := Bs hm
 refine C_cutG (ι := ((Int × Int) × (Nat → Prop))) (fun ⟨s4, A10⟩ => [(0, v_x), (1, .string target), (2, .func (.func cmp_f) cmp_a cmp_c), (8, Ii (x.length : Int)), (9, Ii s4.1)]) (fun ⟨s4, A10⟩ => fun w' => o3 = .fin s4 ∧ Hp w.heap.size A10 w' ([]) ∧ Tr Dw w.heap.size A w A10 w') ?_ ?_
 ·refine C_block ?_
  refine C_while ho3 (fun s12 a w' => ∃ i : (Nat → Prop), Has ⟨49, [], none⟩ a ([(0, v_x), (1, .string target), (2, .func (.func cmp_f) cmp_a cmp_c), (8, Ii (x.length : Int)), (9, Ii s12.1), (10, Ii s12.2)]) ∧ Hp w.heap.size i w' ([]) ∧ Tr Dw w.heap.size A w i w') (fun a ha => ⟨A, ha.sb, ⟨hH, Tr.refl (Dw := Dw) hA⟩⟩) ?_
  rintro K s12 a w13 ⟨A14, ha56, hH15, hr5⟩ K22
  refine C_of ?_ ha56
  replace h_x := Sl.tr h_x hr5; replace hK := Tt hK hr5; replace hB := Bx hB hr5; replace hA := hr5.new; replace hH := hH15
  obtain ⟨x16, h17, h18⟩ := K22
  refine C_seq (Sr (Mm (Mm (Vy (Y_lss rfl rfl) (To ?_)))))
  refine Cc (fun hc23 => ?_) fun hc23 => ?_
  ·rw [if_pos hc23] at h17
   refine Sk ?_
   obtain ⟨s25, ho24, h17⟩ := Bs h17
   refine C_cutG (ι := (Nat → Prop)) (fun (A30 : (Nat → Prop)) => [(0, v_x), (1, .string target), (2, .func (.func cmp_f) cmp_a cmp_c), (8, Ii (x.length : Int)), (9, Ii s25.1), (10, Ii s25.2)]) (fun (A30 : (Nat → Prop)) => fun w' => Hp w.heap.size A30 w' ([]) ∧ Tr Dw w.heap.size A14 w13 A30 w') ?_ ?_
   ·have hr26 : Tr Dw w.heap.size A14 w13 A14 w13 := Tr.refl (Dw := Dw) hA
    refine C_block (Sr (Mm (Mm (Vy (Y_addI rfl rfl) (Vy (Y_convI underlying3 underlying127 rfl) ?_)))))
    obtain ⟨x32, hx32, ho24⟩ := Bs ho24
    refine Vy (Y_shr hx32 rfl rfl) (Vy (Y_convI underlying127 underlying3 rfl) (As (To ?_)))
    refine Sr (Mm (Mm (Mm ?_)))
    obtain ⟨x33, hx33, ho24⟩ := Bs ho24
    refine V_indexAddr h_x hx33 underlying45 sizeOf90 rfl rfl rfl ?_
    intro b34 o35 h36
    obtain ⟨v37, h39, h38⟩ := El_know_Term h36
    refine Vy (Y_loadA h39 isAgg90 sizeOf90 rfl) (Mm ?_)
    obtain ⟨x40, hx40, ho24⟩ := Bs ho24
    refine Vc cmp_call (cmp_spec w13 _ hK hA x33 v37 h38 target _ hx40) ?_
    rintro _ w41 ⟨rfl, hk42⟩
    have ht43 := Kp.tr hk42 hA hB; replace hH := Hp.kp hH hk42; replace hr26 := Tt hr26 ht43
    refine Vy (Y_lss rfl rfl) (To ?_)
    obtain ⟨s45, ho44, ho24⟩ := Bs ho24
    refine C_cutG (ι := Unit) (fun (_ : Unit) => [(0, v_x), (1, .string target), (2, .func (.func cmp_f) cmp_a cmp_c), (8, Ii (x.length : Int)), (9, Ii s45.1), (10, Ii s45.2)]) (fun (_ : Unit) => fun w' => w41 = w') ?_ ?_
    ·refine Cc (fun hc50 => ?_) fun hc50 => ?_
     ·rw [if_pos hc50] at ho44
      refine C_region (Mm (Vy (Y_addI rfl rfl) (As ?_)))
      obtain rfl := Oi ho44
      refine V_end (fun a ha51 => ?_)
      exact ⟨(), ha51.sb, rfl⟩
     rw [if_neg (nt hc50)] at ho44
     refine C_region (Mm (As ?_))
     obtain rfl := Oi ho44
     refine V_end (fun a ha52 => ?_)
     exact ⟨(), ha52.sb, rfl⟩
    rintro _ _ rfl a ha49
    obtain rfl := Oi ho24
    exact ⟨A14, ha49.sb, ⟨hH, hr26⟩⟩
   rintro A30 w27 ⟨hH31, hk28⟩ a ha29
   replace hr5 := Tr.trans hr5 hk28; replace hA := hk28.new; replace hH := hH31
   obtain rfl := Oi h17
   exact ⟨(s25.1, s25.2), h18, ⟨A30, ha29.sb, ⟨hH, hr5⟩⟩⟩
  rw [if_neg (nt hc23)] at h17
  obtain rfl := Oi h17
  refine C_exit (fun a ha55 => ?_)
  exact ⟨((s12.1, s12.2), A14), ha55.sb, ⟨h18.symm, hH, hr5⟩⟩
 rintro ⟨s4, A10⟩ w7 ⟨rfl, hH11, hk8⟩ a ha9
 rw [Lp.andThen_fin] at hm
 replace h_x := Sl.tr h_x hk8; replace hK := Tr.trans hK hk8; replace hB := Nat.le_trans hB hk8.ex.size; replace hA := hk8.new; replace hH := hH11
 refine C_at (n := ⟨49, [], none⟩) (fun _ _ => rfl) ?_ ha9
 refine C_seq ?_
 obtain ⟨s58, ho57, hm⟩ := Bs hm
 refine C_cutG (ι := (Nat → Prop)) (fun (A63 : (Nat → Prop)) => [(6, Ii s58.1), (7, .bool s58.2)]) (fun (A63 : (Nat → Prop)) => fun w' => Hp w.heap.size A63 w' ([]) ∧ Tr Dw w.heap.size A10 w7 A63 w') ?_ ?_
 ·have hr59 : Tr Dw w.heap.size A10 w7 A10 w7 := Tr.refl (Dw := Dw) hA
  refine C_region (Mm (Mm (Mm (Vy (Y_lss rfl rfl) (Mm ?_)))))
  rcases Be (decide (s4.1 < (x.length : Int))) with hc65 | hc65
  ·rw [if_pos hc65] at ho57
   refine Gf hc65 (Mm (Gf hc65 (Mm (Gf hc65 (Mm (Gf hc65 ?_))))))
   obtain ⟨x66, hx66, ho57⟩ := Bs ho57
   refine V_indexAddr h_x hx66 underlying45 sizeOf90 rfl rfl rfl ?_
   intro b67 o68 h69
   refine Gf hc65 ?_
   obtain ⟨v70, h72, h71⟩ := El_know_Term h69
   refine Vy (Y_loadA h72 isAgg90 sizeOf90 rfl) (Gf hc65 (Mm (Gf hc65 ?_)))
   obtain ⟨x73, hx73, ho57⟩ := Bs ho57
   refine Vc cmp_call (cmp_spec w7 _ hK hA x66 v70 h71 target _ hx73) ?_
   rintro _ w74 ⟨rfl, hk75⟩
   have ht76 := Kp.tr hk75 hA hB; replace hH := Hp.kp hH hk75; replace hr59 := Tt hr59 ht76
   refine Gf hc65 (Vy (Y_eql rfl rfl) (Vy (Y_pick_te rfl hc65 rfl) (As (As ?_))))
   obtain rfl := Oi ho57
   refine V_end (fun a ha77 => ?_)
   exact ⟨A10, ha77.sb, ⟨hH, hr59⟩⟩
  rw [if_neg (nt hc65)] at ho57
  refine Gm hc65 (Gm hc65 (Gm hc65 (Gm hc65 (Gm hc65 (Gm hc65 (Gm hc65 (Gm hc65 (Vy (Y_pick_fe rfl hc65 rfl) (As ?_)))))))))
  refine As ?_
  obtain rfl := Oi ho57
  refine V_end (fun a ha78 => ?_)
  exact ⟨A10, ha78.sb, ⟨hH, hr59⟩⟩
 rintro A63 w60 ⟨hH64, hk61⟩ a ha62
 replace hK := Tr.trans hK hk61; replace hA := hk61.new; replace hH := hH64
 refine C_at (n := ⟨49, [], none⟩) (fun _ _ => rfl) ?_ ha62
 obtain rfl := Oi hm
 refine Rt (Res.two results95 rfl rfl) ?_
 exact ⟨rfl, hK.kp⟩
theorem know_Index_term_1_c (w : World) {A : Nat → Prop} (hA : ∀ b, w.heap.size ≤ b → A b) (t : know_Term) (v_t : Value) (h_t : Sl A w v_t t.list_) (w_ : ByteArray) {r : Int} (hm : know_Index_term_1 t w_ = some r) : Ret prog 96 #[.agg #[.string t.word, v_t], .string w_] w fun v w' => v = Ii r ∧ Kp Dw w w' := by
 unfold know_Index_term_1 at hm
 refine enter func96 rfl ntmps96 rfl ?_
 have hA0 := hA
 obtain ⟨hB, hK, hH⟩ := St (Dw := Dw) hA
 refine Sr ?_
 refine V_box rfl rfl ?_
 intro b3 w4 h5
 have hk7 := h5.kp (Dw := Dw)
 have h6 : El (α := know_Term) A w4 b3 0 t := h5.el hA ⟨[.string t.word], _, rfl, rfl, ⟨_, rfl, h_t⟩⟩
 have ht8 := Kp.tr hk7 hA hB; replace hK := Tt hK ht8; replace hB := Bx hB ht8; replace hA := ht8.new
 refine As (To ?_)
 refine Sr ?_
 have h9 := El_know_Term_0 h6
 refine Fa underlying90 rfl sizeOf9 (Ld (El.str h9) isAgg9 (Mm ?_))
 obtain ⟨x10, hx10, hm⟩ := Bs hm
 refine Vc call72 (strings_Compare_c (Dw := Dw) w4 hA t.word w_ hx10) ?_
 rintro _ w11 ⟨rfl, hk12⟩
 have ht13 := Kp.tr hk12 hA hB; replace hK := Tt hK ht13
 refine As (To ?_)
 obtain rfl := Oi hm
 refine Rt (Res.one results96 rfl) ?_
 exact ⟨rfl, hK.kp⟩
theorem know_Index_term_c (w : World) {A : Nat → Prop} (hA : ∀ b, w.heap.size ≤ b → A b) (x : know_Index) (v_x0 : Value) (h_x0 : Sl A w v_x0 x.ids) (v_x1 : Value) (h_x1 : Sl A w v_x1 x.sizes) (v_x2 : Value) (h_x2 : Sl A w v_x2 x.terms) (word : ByteArray) {r : (know_Term × Bool)} (hm : know_Index_term x word = some r) : Ret prog 62 #[.agg #[v_x0, v_x1, v_x2], .string word] w fun v w' => ∃ s0, v = .tuple #[.agg #[.string r.1.word, s0], .bool r.2] ∧ Sl A w' s0 r.1.list_ ∧ Kp Dw w w' := by
 unfold know_Index_term at hm
 refine enter func62 rfl ntmps62 rfl ?_
 have hA0 := hA
 obtain ⟨hB, hK, hH⟩ := St (Dw := Dw) hA
 refine Sr ?_
 refine V_box rfl rfl ?_
 intro b7 w9 h10
 have hk12 := h10.kp (Dw := Dw)
 have h11 : El (α := know_Index) A w9 b7 0 x := h10.el hA ⟨[v_x0], _, rfl, ⟨_, rfl, h_x0⟩, ⟨[v_x1], _, rfl, ⟨_, rfl, h_x1⟩, ⟨_, rfl, h_x2⟩⟩⟩
 have ht13 := Kp.tr hk12 hA hB; replace hH := Hp.kp hH hk12; replace hK := Tt hK ht13; replace hB := Bx hB ht13; replace hA := ht13.new
 refine V_allocH (Dw := Dw) (B := w.heap.size) hH zeroValue90 hB hA rfl ?_
 intro b14 w15 A16 hH17 ht18
 replace h11 := El.tr h11 ht18; replace hK := Tt hK ht18; replace hB := Bx hB ht18; replace hA := ht18.new
 replace hH : Hp _ _ _ (obC b14 [.string ByteArray.empty, .slice none 0 0] 90 :: []) := hH17
 refine As (To ?_)
 refine Sr ?_
 have h19 := El_know_Index_2 h11
 refine Fa underlying47 rfl sizeOf45 ?_
 obtain ⟨v20, h21, h22⟩ := El.list h19
 refine Ld h21 isAgg45 (Mm ?_)
 obtain ⟨x25, hx25, hm⟩ := Bs hm
 refine Vc call95 (slices_BinarySearchFunc_Lknow_Term_know_Term_string_c (Dw := Dw) w15 hA x.terms v20 h22 word (fun y37 y38 => know_Index_term_1 y37 y38) 96 #[] #[] call96 (fun w33 A34 ht35 h36 y26 v27 h28 y29 r30 h31 => (know_Index_term_1_c (Dw := Dw) w33 h36 y26 v27 h28 y29  h31).mono (fun _ _ h => ⟨h.1, h.2⟩)) hx25) ?_
 rintro _ w39 ⟨rfl, hk40⟩
 have ht41 := Kp.tr hk40 hA hB; replace hH := Hp.kp hH hk40; replace h11 := El.tr h11 ht41; replace hK := Tt hK ht41; replace hB := Bx hB ht41; replace hA := ht41.new
 refine Mm (Vy (Y_extract rfl rfl) (Vy (Y_extract rfl rfl) (As (As (To ?_)))))
 refine C_seq (Sr (Mm (Vy (Y_not rfl) (To ?_))))
 refine Cc (fun hc42 => ?_) fun hc42 => ?_
 ·rw [if_pos hc42] at hm
  refine Sr ?_
  refine Vy (Y_build underlying90 zeroValue90 (Tryz_places90 _ underlying90) rfl (by with_unfolding_all rfl)) ?_
  refine V_storeC (Dw := Dw) (off := 0) (ds := [.string ByteArray.empty, .slice none 0 0]) hH (i := 0) rfl sizeOf90 rfl (Nat.le_of_ble_eq_true rfl) (by exact (List.forall_mem_cons.2 ⟨rfl, (List.forall_mem_cons.2 ⟨rfl, (fun _ h => nomatch h)⟩)⟩)) rfl hB hA rfl rfl ?_
  intro w43 hH44 ht45
  replace hK := Tt hK ht45
  replace hH : Hp _ _ _ (obC b14 [.string ByteArray.empty, .slice none 0 0] 90 :: []) := hH44
  refine As (To ?_)
  obtain rfl := Oi hm
  refine C_ret ?_
  try simp only [↓ib, ↓th]
  exact retQ rfl (Res.l2 results62 (RL.cell rfl (loadVar_agg (Hp.part (off := 0) (n := 2) (ds := [.string ByteArray.empty, .slice none 0 0]) hH (i := 0) rfl rfl) isAgg90 sizeOf90)) (RL.tmp rfl)) ⟨.slice none 0 0, rfl, Sl.nil, hK.kp⟩
 rw [if_neg (nt hc42)] at hm
 refine Sk ?_
 refine Sr ?_
 have h46 := El_know_Index_2 h11
 refine Fa underlying47 rfl sizeOf45 ?_
 obtain ⟨v47, h48, h49⟩ := El.list h46
 refine Ld h48 isAgg45 (Mm ?_)
 obtain ⟨x50, hx50, hm⟩ := Bs hm
 refine V_indexAddr h49 hx50 underlying45 sizeOf90 rfl rfl rfl ?_
 intro b51 o52 h53
 obtain ⟨v54, h56, h55⟩ := El_know_Term h53
 refine Vy (Y_loadA h56 isAgg90 sizeOf90 rfl) ?_
 have h62 : (v54).oneCell' = true := by obtain ⟨_, _, e, _⟩ := Sl.form h55; rw [e]; rfl
 refine V_storeC (Dw := Dw) (off := 0) (ds := [.string x50.word, v54]) hH (i := 0) rfl sizeOf90 rfl (Nat.le_of_ble_eq_true rfl) (by exact (List.forall_mem_cons.2 ⟨rfl, (List.forall_mem_cons.2 ⟨h62, (fun _ h => nomatch h)⟩)⟩)) rfl hB hA rfl rfl ?_
 intro w57 hH58 ht59
 replace h55 := Sl.tr h55 ht59; replace hK := Tt hK ht59
 replace hH : Hp _ _ _ (obC b14 [.string x50.word, v54] 90 :: []) := hH58
 refine As (To ?_)
 obtain rfl := Oi hm
 refine C_ret ?_
 try simp only [↓ib, ↓th]
 exact retQ rfl (Res.l2 results62 (RL.cell rfl (loadVar_agg (Hp.part (off := 0) (n := 2) (ds := [.string x50.word, v54]) hH (i := 0) rfl rfl) isAgg90 sizeOf90)) (RL.tmp rfl)) ⟨v54, rfl, (Sl.out (Dw := Dw) h55 hA0 hK), hK.kp⟩
theorem know_Index_named_c (w : World) {A : Nat → Prop} {B : Nat} (hB : B ≤ w.heap.size) (hA : ∀ b, w.heap.size ≤ b → A b) (x : know_Index) (v_x0 : Value) (h_x0 : Sl A w v_x0 x.ids) (v_x1 : Value) (h_x1 : Sl A w v_x1 x.sizes) (v_x2 : Value) (h_x2 : Sl A w v_x2 x.terms) (p : know_Part) (v_p : Value) (h_p : Sl A w v_p p.words) {L : List Ob} (hH : Hp B A w (L)) {r : (List know_Term)} (hm : know_Index_named x p = some r) : Ret prog 32 #[.agg #[v_x0, v_x1, v_x2], .agg #[Ii p.kind, .bool p.not_, v_p]] w fun v w' => ∃ s0, ∃ A1 : Nat → Prop, v = s0 ∧ Hp B A1 w' (o_90 s0 r :: L) ∧ Tr Dw B A w A1 w' := by
 unfold know_Index_named at hm
 refine enter func32 rfl ntmps32 rfl ?_
 have hK : Tr Dw B A w A w := Tr.refl (Dw := Dw) hA
 refine Sr ?_
 refine V_box rfl rfl ?_
 intro b9 w10 h11
 have hk13 := h11.kp (Dw := Dw)
 have h12 : El (α := know_Index) A w10 b9 0 x := h11.el hA ⟨[v_x0], _, rfl, ⟨_, rfl, h_x0⟩, ⟨[v_x1], _, rfl, ⟨_, rfl, h_x1⟩, ⟨_, rfl, h_x2⟩⟩⟩
 have ht14 := Kp.tr hk13 hA hB; replace hH := Hp.kp hH hk13; replace h_p := Sl.tr h_p ht14; replace hK := Tt hK ht14; replace hB := Bx hB ht14; replace hA := ht14.new
 refine V_box rfl rfl ?_
 intro b15 w17 h18
 have hk20 := h18.kp (Dw := Dw)
 have h19 : El (α := know_Part) A w17 b15 0 p := h18.el hA ⟨[Ii p.kind], _, rfl, rfl, ⟨[.bool p.not_], _, rfl, rfl, ⟨_, rfl, h_p⟩⟩⟩
 have ht21 := Kp.tr hk20 hA hB; replace hH := Hp.kp hH hk20; replace h12 := El.tr h12 ht21; replace hK := Tt hK ht21; replace hB := Bx hB ht21; replace hA := ht21.new
 refine As (To ?_)
 refine Sr (As (To ?_))
 refine C_seq (Sr ?_)
 have h22 := El_know_Part_0 h19
 refine Fa underlying68 rfl sizeOf3 (Li h22 isAgg3 (Vy (Y_eql rfl rfl) (To ?_)))
 refine Cc (fun hc23 => ?_) fun hc23 => ?_
 ·rw [if_pos hc23] at hm
  refine C_seq (Sr ?_)
  have h24 := El_know_Index_2 h12
  refine Fa underlying47 rfl sizeOf45 ?_
  obtain ⟨v25, h26, h27⟩ := El.list h24
  refine Ld h26 isAgg45 (Vy (Y_lenSl h27 rfl underlying45 rfl) (Mm (To ?_)))
  replace hH : Hp B A w17 (o_90 (.slice none 0 0) ([] : (List know_Term)) :: L) := Hp.addNil (α := know_Term) (e := 90) hH
  have hn53 := Sl.le h27
  obtain ⟨o28, ho28, hm⟩ := Bs hm
  refine C_cutG (ι := ((List know_Term) × Value × (Nat → Prop))) (fun ⟨s29, v36, A38⟩ => [(5, v36)]) (fun ⟨s29, v36, A38⟩ => fun w' => o28 = .fin s29 ∧ Hp B A38 w' (o_90 v36 s29 :: L) ∧ Tr Dw B A w17 A38 w') ?_ ?_
  ·refine C_block ?_
   refine C_range ho28 (fun k31 s40 a w' => ∃ i : (Value × (Nat → Prop)), Has ⟨68, [], none⟩ a ([(3, Pt b15), (5, i.1), (18, v25), (19, Ii (x.terms.length : Int)), (20, Ii (k31 : Int))]) ∧ Hp B i.2 w' (o_90 i.1 s40 :: L) ∧ Tr Dw B A w17 i.2 w') (fun a ha => ⟨(.slice none 0 0, A), ha.sb, ⟨hH, Tr.refl (Dw := Dw) hA⟩⟩) ?_
   rintro K k31 s40 a w41 ⟨⟨v42, A44⟩, ha129, hH45, hr30⟩ hle49 K52 h51
   refine C_of ?_ ha129
   replace h19 := El.tr h19 hr30; replace h27 := Sl.tr h27 hr30; replace hB := Bx hB hr30; replace hA := hr30.new
   replace hH : Hp _ _ _ (o_90 v42 s40 :: L) := hH45
   refine Sr (Vy (Y_lss rfl rfl) (To ?_))
   refine C_seq ?_
   refine Cc (fun hc54 => ?_) fun hc54 => ?_
   ·have hlt50 := lt_of_dec hc54
    obtain ⟨x46, h47, h48⟩ := K52 hlt50
    refine Sk ?_
    refine C_seq ?_
    obtain ⟨s56, ho55, h47⟩ := Bs h47
    refine C_cutG (ι := (Value × (Nat → Prop))) (fun ⟨v58, A63⟩ => [(3, Pt b15), (5, v58), (18, v25), (19, Ii (x.terms.length : Int)), (20, Ii (k31 : Int))]) (fun ⟨v58, A63⟩ => fun w' => Hp B A63 w' (o_90 v58 s56 :: L) ∧ Tr Dw B A44 w41 A63 w') ?_ ?_
    ·have hr57 : Tr Dw B A44 w41 A44 w41 := Tr.refl (Dw := Dw) hA
     refine C_block (Sr ?_)
     obtain ⟨x65, hx65, ho55⟩ := Bs ho55
     refine V_indexAddr h27 hx65 underlying45 sizeOf90 rfl rfl rfl ?_
     intro b66 o67 h68
     obtain ⟨v69, h71, h70⟩ := El_know_Term h68
     refine Vy (Y_loadA h71 isAgg90 sizeOf90 rfl) ?_
     refine V_alloc zeroValue90 rfl ?_
     intro b72 w73 h74
     have h79 : (v69).oneCell' = true := by obtain ⟨_, _, e, _⟩ := Sl.form h70; rw [e]; rfl
     refine Sn h74 sizeOf90 ?_
     intro w75 h76
     have hk81 := h76.kp (Dw := Dw)
     have h80 : El (α := know_Term) A44 w75 b72 0 x65 := h76.el hA ⟨[.string x65.word], _, rfl, rfl, ⟨_, rfl, h70⟩⟩
     have ht82 := Kp.tr hk81 hA hB; replace hH := Hp.kp hH hk81; replace h19 := El.tr h19 ht82; replace hr57 := Tt hr57 ht82; replace hB := Bx hB ht82; replace hA := ht82.new
     refine To ?_
     refine C_seq ?_
     refine C_region_q (Dw := Dw) Tryz_mixed (by kernel_rfl) ?_
     have h83 := El_know_Term_0 h80
     refine Qf underlying90 rfl sizeOf9 (Ql (fun w' hw' => (El.str (El.kp h83 hw'))) isAgg9 ?_)
     have h84 := El_know_Part_2 h19
     refine Qf underlying68 rfl sizeOf62 ?_
     obtain ⟨v85, h86, h87⟩ := El.list h84
     refine Qc h86 isAgg62 ?_
     obtain ⟨x88, hx88, ho55⟩ := Bs ho55
     refine VQ_indexAddr h87 hx88 underlying62 sizeOf9 rfl rfl rfl ?_
     intro b89 o90 h91
     refine Ql (fun w' hw' => (El.str (El.kp h91 hw'))) isAgg9 ?_
     obtain ⟨x92, hx92, ho55⟩ := Bs ho55
     refine VQ_call (.bool x92) call60 rfl rfl rfl rfl (fun w' hw' => (strings_HasPrefix_c w' x65.word x88 hx92).mono (fun _ _ h => ⟨h.1, h.2 ▸ hw'⟩)) ?_
     refine VQ_to (fun _ _ => rfl) (fun w93 hk94 => ?_)
     have ht95 := Kp.tr hk94 hA hB; replace hH := Hp.kp hH hk94; replace h80 := El.tr h80 ht95; replace hr57 := Tt hr57 ht95; replace hB := Bx hB ht95; replace hA := ht95.new
     obtain ⟨s97, ho96, ho55⟩ := Bs ho55
     refine C_cutG (ι := (Value × (Nat → Prop))) (fun ⟨v99, A104⟩ => [(3, Pt b15), (5, v99), (18, v25), (19, Ii (x.terms.length : Int)), (20, Ii (k31 : Int))]) (fun ⟨v99, A104⟩ => fun w' => Hp B A104 w' (o_90 v99 s97 :: L) ∧ Tr Dw B A44 w93 A104 w') ?_ ?_
     ·have hr98 : Tr Dw B A44 w93 A44 w93 := Tr.refl (Dw := Dw) hA
      refine Cc (fun hc106 => ?_) fun hc106 => ?_
      ·rw [if_pos hc106] at ho96
       refine C_region (Mm ?_)
       obtain ⟨v107, h109, h108⟩ := El_know_Term h80
       refine Vy (Y_loadA h109 isAgg90 sizeOf90 rfl) ?_
       refine V_buildSlice (Dw := Dw) (cells := #[.string x65.word, v107]) (l := ([x65] : List know_Term)) (len := 1) underlying45 sizeOf90 zeroValue90 rfl (by obtain ⟨a114, c115, e116, _⟩ := Sl.form h108; subst e116; kernel_rfl) (show (1 * 2 : Nat) ≠ 0 by decide) (show (1 * 2 : Nat) ≤ 2 ^ 24 by decide) hA ⟨[.string x65.word, v107], _, rfl, ⟨[.string x65.word], _, rfl, rfl, ⟨_, rfl, h108⟩⟩, rfl⟩ rfl rfl ?_
       intro v110 w111 hk113 h112
       have ht117 := Kp.tr hk113 hA hB; replace hH := Hp.kp hH hk113; replace hr98 := Tt hr98 ht117; replace hB := Bx hB ht117; replace hA := ht117.new
       obtain ⟨x118, hx118, ho96⟩ := Bs ho96
       refine V_appendH (Dw := Dw) (e := 90) (v := v42) (l := s40) (ti := t90) (bytes := 40) (lim := 3518437208883) hH (i := 0) rfl h112 hx118 underlying45 Tryz_info90 rfl rfl rfl rfl (by decide) (by decide) (by decide) hB hA rfl rfl rfl ?_
       intro v119 w120 A121 hH122 ht123
       replace hr98 := Tt hr98 ht123
       replace hH : Hp _ _ _ (o_90 v119 x118 :: L) := hH122
       refine As ?_
       obtain rfl := Oi ho96
       refine V_end (fun a ha124 => ?_)
       exact ⟨(v119, A121), ha124.sb, ⟨hH, hr98⟩⟩
      rw [if_neg (nt hc106)] at ho96
      obtain rfl := Oi ho96
      refine C_skip (fun a ha125 => ?_)
      exact ⟨(v42, A44), ha125.sb, ⟨hH, hr98⟩⟩
     rintro ⟨v99, A104⟩ w101 ⟨hH105, hk102⟩ a ha103
     replace hr57 := Tr.trans hr57 hk102; replace hA := hk102.new
     replace hH : Hp _ _ _ (o_90 v99 s97 :: L) := hH105
     obtain rfl := Oi ho55
     exact ⟨(v99, A104), ha103.sb, ⟨hH, hr57⟩⟩
    rintro ⟨v58, A63⟩ w60 ⟨hH64, hk61⟩ a ha62
    replace hr30 := Tr.trans hr30 hk61; replace hA := hk61.new
    replace hH : Hp _ _ _ (o_90 v58 s56 :: L) := hH64
    refine C_at (n := ⟨68, [], none⟩) (fun _ _ => rfl) ?_ ha62
    refine C_region (Vy (Y_addI rfl rfl) (Mm ?_))
    obtain rfl := Oi h47
    refine V_end (fun a ha127 => ?_)
    exact ⟨s56, hlt50, h48, ⟨(v58, A63), ha127.sub ⟨rfl, rfl, rfl, rfl, Ws hlt50 hn53, trivial⟩, ⟨hH, hr30⟩⟩⟩
   refine C_exit (fun a ha128 => ?_)
   exact ⟨(s40, v42, A44), ha128.sb, ⟨(h51 (eq_of_dec hle49 hc54)).symm, hH, hr30⟩⟩
  rintro ⟨s29, v36, A38⟩ w33 ⟨rfl, hH39, hk34⟩ a ha35
  rw [Lp.andThen_fin] at hm
  replace hK := Tr.trans hK hk34; replace hA := hk34.new
  replace hH : Hp _ _ _ (o_90 v36 s29 :: L) := hH39
  refine C_at (n := ⟨68, [], none⟩) (fun _ _ => rfl) ?_ ha35
  refine Sr (Mm (As (To ?_)))
  obtain rfl := Oi hm
  refine Rt (Res.one results32 rfl) ?_
  exact ⟨v36, A38, rfl, hH, hK⟩
 rw [if_neg (nt hc23)] at hm
 refine Sk ?_
 refine Sr ?_
 refine V_makeMapS (Dw := Dw) (B := B) ByteArray Bool hH hB hA rfl ?_
 intro b130 w131 A132 hH133 ht134
 replace h12 := El.tr h12 ht134; replace h19 := El.tr h19 ht134; replace hK := Tt hK ht134; replace hB := Bx hB ht134; replace hA := ht134.new
 replace hH : Hp _ _ _ (obSM (κ := ByteArray) (α := Bool) b130 ([] : List (ByteArray × Bool)) :: L) := hH133
 refine As (To ?_)
 refine C_seq (Sr ?_)
 have h135 := El_know_Part_2 h19
 refine Fa underlying68 rfl sizeOf62 ?_
 obtain ⟨v136, h137, h138⟩ := El.list h135
 refine Ld h137 isAgg62 (Vy (Y_lenSl h138 rfl underlying62 rfl) (Mm (To ?_)))
 replace hH : Hp B A132 w131 (o_90 (.slice none 0 0) ([] : (List know_Term)) :: obSM (κ := ByteArray) (α := Bool) b130 ([] : List (ByteArray × Bool)) :: L) := Hp.addNil (α := know_Term) (e := 90) hH
 have hn163 := Sl.le h138
 obtain ⟨o139, ho139, hm⟩ := Bs hm
 refine C_cutG (ι := (((List know_Term) × (List (ByteArray × Bool))) × Value × (Nat → Prop))) (fun ⟨s140, v146, A148⟩ => [(5, v146)]) (fun ⟨s140, v146, A148⟩ => fun w' => o139 = .fin s140 ∧ Hp B A148 w' (o_90 v146 s140.1 :: obSM (κ := ByteArray) (α := Bool) b130 s140.2 :: L) ∧ Tr Dw B A132 w131 A148 w') ?_ ?_
 ·refine C_block ?_
  refine C_range ho139 (fun k142 s150 a w' => ∃ i : (Value × (Nat → Prop)), Has ⟨68, [], none⟩ a ([(2, Pt b9), (5, i.1), (8, .map (some b130)), (39, v136), (40, Ii (p.words.length : Int)), (41, Ii (k142 : Int))]) ∧ Hp B i.2 w' (o_90 i.1 s150.1 :: obSM (κ := ByteArray) (α := Bool) b130 s150.2 :: L) ∧ Tr Dw B A132 w131 i.2 w') (fun a ha => ⟨(.slice none 0 0, A132), ha.sb, ⟨hH, Tr.refl (Dw := Dw) hA⟩⟩) ?_
  rintro K k142 s150 a w151 ⟨⟨v152, A154⟩, ha242, hH155, hr141⟩ hle159 K162 h161
  refine C_of ?_ ha242
  replace h12 := El.tr h12 hr141; replace h138 := Sl.tr h138 hr141; replace hB := Bx hB hr141; replace hA := hr141.new
  replace hH : Hp _ _ _ (o_90 v152 s150.1 :: obSM (κ := ByteArray) (α := Bool) b130 s150.2 :: L) := hH155
  refine Sr (Vy (Y_lss rfl rfl) (To ?_))
  refine C_seq ?_
  refine Cc (fun hc164 => ?_) fun hc164 => ?_
  ·have hlt160 := lt_of_dec hc164
   obtain ⟨x156, h157, h158⟩ := K162 hlt160
   refine Sk ?_
   refine C_seq ?_
   obtain ⟨s166, ho165, h157⟩ := Bs h157
   refine C_cutG (ι := (Value × (Nat → Prop))) (fun ⟨v168, A173⟩ => [(2, Pt b9), (5, v168), (8, .map (some b130)), (39, v136), (40, Ii (p.words.length : Int)), (41, Ii (k142 : Int))]) (fun ⟨v168, A173⟩ => fun w' => Hp B A173 w' (o_90 v168 s166.1 :: obSM (κ := ByteArray) (α := Bool) b130 s166.2 :: L) ∧ Tr Dw B A154 w151 A173 w') ?_ ?_
   ·have hr167 : Tr Dw B A154 w151 A154 w151 := Tr.refl (Dw := Dw) hA
    refine C_block (Sr ?_)
    obtain ⟨x175, hx175, ho165⟩ := Bs ho165
    refine V_indexAddr h138 hx175 underlying62 sizeOf9 rfl rfl rfl ?_
    intro b176 o177 h178
    refine Ld (El.str h178) isAgg9 (As (To ?_))
    refine Sr (Mm ?_)
    obtain ⟨x179, hx179, ho165⟩ := Bs ho165
    refine Vc call61 (know_Stem_c w151 x175 hx179) ?_
    rintro _ _ ⟨rfl, rfl⟩
    refine As (To ?_)
    refine Sr ?_
    obtain ⟨v180, v182, v184, h186, h181, h183, h185⟩ := El_know_Index h12
    refine Vy (Y_loadA h186 isAgg47 sizeOf47 rfl) (Mm ?_)
    obtain ⟨x187, hx187, ho165⟩ := Bs ho165
    refine Vc call62 (know_Index_term_c (Dw := Dw) w151 hA x v180 h181 v182 h183 v184 h185 x179 hx187) ?_
    rintro _ w190 ⟨v188, rfl, h189, hk191⟩
    have ht192 := Kp.tr hk191 hA hB; replace hH := Hp.kp hH hk191; replace hr167 := Tt hr167 ht192; replace hB := Bx hB ht192; replace hA := ht192.new
    refine Mm (Vy (Y_extract rfl rfl) (Vy (Y_extract rfl rfl) ?_))
    refine V_alloc zeroValue90 rfl ?_
    intro b193 w194 h195
    have h200 : (v188).oneCell' = true := by obtain ⟨_, _, e, _⟩ := Sl.form h189; rw [e]; rfl
    refine Sn h195 sizeOf90 ?_
    intro w196 h197
    have hk202 := h197.kp (Dw := Dw)
    have h201 : El (α := know_Term) A154 w196 b193 0 x187.1 := h197.el hA ⟨[.string x187.1.word], _, rfl, rfl, ⟨_, rfl, h189⟩⟩
    have ht203 := Kp.tr hk202 hA hB; replace hH := Hp.kp hH hk202; replace hr167 := Tt hr167 ht203; replace hB := Bx hB ht203; replace hA := ht203.new
    refine As (To ?_)
    refine Sr (Mm (Mm ?_))
    refine V_cut 5 (fun _ : Unit => [(2, Pt b9), (5, v152), (8, .map (some b130)), (11, .string x179), (12, Pt b193), (39, v136), (40, Ii (p.words.length : Int)), (41, Ii (k142 : Int)), (59, .bool (x187.2 && (!((mapGet s150.2 x179).getD false))))]) (fun _ w' => w196 = w') ?_ ?_
    ·simp only [List.take, List.drop]
     rcases Be (x187.2) with hc204 | hc204
     ·refine Gf hc204 (Mm (Gf hc204 (Mm (Gf hc204 (Vy (Y_lookupS (κ := ByteArray) (α := Bool) (z := false) (l := s150.2) hH (i := 1) rfl underlying120 underlying9 zeroValue4 rfl rfl rfl) (Gf hc204 (Vy (Y_not rfl) (Vy (Y_pick_te rfl hc204 rfl) ?_))))))))
      exact V_end fun a ha => ⟨(), ha.sub ⟨rfl, rfl, rfl, rfl, rfl, rfl, rfl, rfl, (by rw [hc204]; rfl), trivial⟩, rfl⟩
     refine Gm hc204 (Gm hc204 (Gm hc204 (Gm hc204 (Vy (Y_pick_fe rfl hc204 rfl) ?_))))
     exact V_end fun a ha => ⟨(), ha.sub ⟨rfl, rfl, rfl, rfl, rfl, rfl, rfl, rfl, (by rw [hc204]; rfl), trivial⟩, rfl⟩
    simp only [List.take, List.drop]
    rintro _ _ rfl
    refine To ?_
    obtain ⟨s207, ho206, ho165⟩ := Bs ho165
    refine C_cutG (ι := (Value × (Nat → Prop))) (fun ⟨v209, A214⟩ => [(2, Pt b9), (5, v209), (8, .map (some b130)), (39, v136), (40, Ii (p.words.length : Int)), (41, Ii (k142 : Int))]) (fun ⟨v209, A214⟩ => fun w' => Hp B A214 w' (o_90 v209 s207.1 :: obSM (κ := ByteArray) (α := Bool) b130 s207.2 :: L) ∧ Tr Dw B A154 w196 A214 w') ?_ ?_
    ·have hr208 : Tr Dw B A154 w196 A154 w196 := Tr.refl (Dw := Dw) hA
     refine Cc (fun hc216 => ?_) fun hc216 => ?_
     ·rw [if_pos hc216] at ho206
      refine Sr (Mm (Mm ?_))
      refine V_mapUpdateS (Dw := Dw) (κ := ByteArray) (α := Bool) (l := s150.2) (c := true) hH (i := 1) rfl underlying120 underlying9 rfl rfl rfl hB hA ?_
      intro w217 hH218 ht219
      replace h201 := El.tr h201 ht219; replace hr208 := Tt hr208 ht219; replace hB := Bx hB ht219; replace hA := ht219.new
      replace hH : Hp _ _ _ (o_90 v152 s150.1 :: obSM (κ := ByteArray) (α := Bool) b130 (mapPut s150.2 x179 true) :: L) := hH218
      refine To ?_
      refine C_region (Mm ?_)
      obtain ⟨v220, h222, h221⟩ := El_know_Term h201
      refine Vy (Y_loadA h222 isAgg90 sizeOf90 rfl) ?_
      refine V_buildSlice (Dw := Dw) (cells := #[.string x187.1.word, v220]) (l := ([x187.1] : List know_Term)) (len := 1) underlying45 sizeOf90 zeroValue90 rfl (by obtain ⟨a227, c228, e229, _⟩ := Sl.form h221; subst e229; kernel_rfl) (show (1 * 2 : Nat) ≠ 0 by decide) (show (1 * 2 : Nat) ≤ 2 ^ 24 by decide) hA ⟨[.string x187.1.word, v220], _, rfl, ⟨[.string x187.1.word], _, rfl, rfl, ⟨_, rfl, h221⟩⟩, rfl⟩ rfl rfl ?_
      intro v223 w224 hk226 h225
      have ht230 := Kp.tr hk226 hA hB; replace hH := Hp.kp hH hk226; replace hr208 := Tt hr208 ht230; replace hB := Bx hB ht230; replace hA := ht230.new
      obtain ⟨x231, hx231, ho206⟩ := Bs ho206
      refine V_appendH (Dw := Dw) (e := 90) (v := v152) (l := s150.1) (ti := t90) (bytes := 40) (lim := 3518437208883) hH (i := 0) rfl h225 hx231 underlying45 Tryz_info90 rfl rfl rfl rfl (by decide) (by decide) (by decide) hB hA rfl rfl rfl ?_
      intro v232 w233 A234 hH235 ht236
      replace hr208 := Tt hr208 ht236
      replace hH : Hp _ _ _ (o_90 v232 x231 :: obSM (κ := ByteArray) (α := Bool) b130 (mapPut s150.2 x179 true) :: L) := hH235
      refine As ?_
      obtain rfl := Oi ho206
      refine V_end (fun a ha237 => ?_)
      exact ⟨(v232, A234), ha237.sb, ⟨hH, hr208⟩⟩
     rw [if_neg (nt hc216)] at ho206
     obtain rfl := Oi ho206
     refine C_skip (fun a ha238 => ?_)
     exact ⟨(v152, A154), ha238.sb, ⟨hH, hr208⟩⟩
    rintro ⟨v209, A214⟩ w211 ⟨hH215, hk212⟩ a ha213
    replace hr167 := Tr.trans hr167 hk212; replace hA := hk212.new
    replace hH : Hp _ _ _ (o_90 v209 s207.1 :: obSM (κ := ByteArray) (α := Bool) b130 s207.2 :: L) := hH215
    obtain rfl := Oi ho165
    exact ⟨(v209, A214), ha213.sb, ⟨hH, hr167⟩⟩
   rintro ⟨v168, A173⟩ w170 ⟨hH174, hk171⟩ a ha172
   replace hr141 := Tr.trans hr141 hk171; replace hA := hk171.new
   replace hH : Hp _ _ _ (o_90 v168 s166.1 :: obSM (κ := ByteArray) (α := Bool) b130 s166.2 :: L) := hH174
   refine C_at (n := ⟨68, [], none⟩) (fun _ _ => rfl) ?_ ha172
   refine C_region (Vy (Y_addI rfl rfl) (Mm ?_))
   obtain rfl := Oi h157
   refine V_end (fun a ha240 => ?_)
   exact ⟨(s166.1, s166.2), hlt160, h158, ⟨(v168, A173), ha240.sub ⟨rfl, rfl, rfl, rfl, rfl, Ws hlt160 hn163, trivial⟩, ⟨hH, hr141⟩⟩⟩
  refine C_exit (fun a ha241 => ?_)
  exact ⟨((s150.1, s150.2), v152, A154), ha241.sb, ⟨(h161 (eq_of_dec hle159 hc164)).symm, hH, hr141⟩⟩
 rintro ⟨s140, v146, A148⟩ w143 ⟨rfl, hH149, hk144⟩ a ha145
 rw [Lp.andThen_fin] at hm
 replace hK := Tr.trans hK hk144; replace hA := hk144.new
 replace hH : Hp _ _ _ (o_90 v146 s140.1 :: obSM (κ := ByteArray) (α := Bool) b130 s140.2 :: L) := hH149
 refine C_at (n := ⟨68, [], none⟩) (fun _ _ => rfl) ?_ ha145
 refine Sr (Mm (As (To ?_)))
 obtain rfl := Oi hm
 replace hH : Hp B A148 w143 (o_90 v146 s140.1 :: L) := Hp.drop hH (i := 1) rfl
 refine Rt (Res.one results32 rfl) ?_
 exact ⟨v146, A148, rfl, hH, hK⟩
theorem slices_BinarySearchFunc_Lknow_Posting_know_Posting_int_c (w : World) {A : Nat → Prop} (hA : ∀ b, w.heap.size ≤ b → A b) (x : (List know_Posting)) (v_x : Value) (h_x : Sl A w v_x x) (target : Int) (cmp : know_Posting → Int → Option Int) (cmp_f : FuncId) (cmp_a cmp_c : Array Value) (cmp_call : ∀ (args : Array Value) (w : World), (callFunc cmp_f args).run prog w = .ok (.enter cmp_f args) w) (cmp_spec : ∀ (w1 : World) (A1 : Nat → Prop), Tr Dw w.heap.size A w A1 w1 → (∀ b, w1.heap.size ≤ b → A1 b) → ∀ (y0 : know_Posting) (v1 : Value) (h2 : Sl A1 w1 v1 y0.title) (v3 : Value) (h4 : Sl A1 w1 v3 y0.body) (y1 : Int) (r : Int), cmp y0 y1 = some r → Ret prog cmp_f (cmp_a ++ #[.agg #[Ii y0.id_, v1, v3], Ii y1] ++ cmp_c) w1 fun v w' => v = Ii r ∧ Kp Dw w1 w') {r : (Int × Bool)} (hm : slices_BinarySearchFunc_Lknow_Posting_know_Posting_int x target cmp = some r) : Ret prog 73 #[v_x, Ii target, .func (.func cmp_f) cmp_a cmp_c] w fun v w' => v = .tuple #[Ii r.1, .bool r.2] ∧ Kp Dw w w' := by
 unfold slices_BinarySearchFunc_Lknow_Posting_know_Posting_int at hm
 refine enter func73 rfl ntmps73 rfl ?_
 have hA0 := hA
 obtain ⟨hB, hK, hH⟩ := St (Dw := Dw) hA
 refine Sr (As (As (To ?_)))
 refine Sr (Mm (Vy (Y_lenSl h_x rfl underlying88 rfl) (As (To ?_))))
 refine Sr (Mm (As (As (To ?_))))
 refine C_seq ?_
 obtain ⟨o3, ho3, hm⟩ := Bs hm
 refine C_cutG (ι := ((Int × Int) × (Nat → Prop))) (fun ⟨s4, A10⟩ => [(0, v_x), (1, Ii target), (2, .func (.func cmp_f) cmp_a cmp_c), (8, Ii (x.length : Int)), (9, Ii s4.1)]) (fun ⟨s4, A10⟩ => fun w' => o3 = .fin s4 ∧ Hp w.heap.size A10 w' ([]) ∧ Tr Dw w.heap.size A w A10 w') ?_ ?_
 ·refine C_block ?_
  refine C_while ho3 (fun s12 a w' => ∃ i : (Nat → Prop), Has ⟨49, [], none⟩ a ([(0, v_x), (1, Ii target), (2, .func (.func cmp_f) cmp_a cmp_c), (8, Ii (x.length : Int)), (9, Ii s12.1), (10, Ii s12.2)]) ∧ Hp w.heap.size i w' ([]) ∧ Tr Dw w.heap.size A w i w') (fun a ha => ⟨A, ha.sb, ⟨hH, Tr.refl (Dw := Dw) hA⟩⟩) ?_
  rintro K s12 a w13 ⟨A14, ha58, hH15, hr5⟩ K22
  refine C_of ?_ ha58
  replace h_x := Sl.tr h_x hr5; replace hK := Tt hK hr5; replace hB := Bx hB hr5; replace hA := hr5.new; replace hH := hH15
  obtain ⟨x16, h17, h18⟩ := K22
  refine C_seq (Sr (Mm (Mm (Vy (Y_lss rfl rfl) (To ?_)))))
  refine Cc (fun hc23 => ?_) fun hc23 => ?_
  ·rw [if_pos hc23] at h17
   refine Sk ?_
   obtain ⟨s25, ho24, h17⟩ := Bs h17
   refine C_cutG (ι := (Nat → Prop)) (fun (A30 : (Nat → Prop)) => [(0, v_x), (1, Ii target), (2, .func (.func cmp_f) cmp_a cmp_c), (8, Ii (x.length : Int)), (9, Ii s25.1), (10, Ii s25.2)]) (fun (A30 : (Nat → Prop)) => fun w' => Hp w.heap.size A30 w' ([]) ∧ Tr Dw w.heap.size A14 w13 A30 w') ?_ ?_
   ·have hr26 : Tr Dw w.heap.size A14 w13 A14 w13 := Tr.refl (Dw := Dw) hA
    refine C_block (Sr (Mm (Mm (Vy (Y_addI rfl rfl) (Vy (Y_convI underlying3 underlying127 rfl) ?_)))))
    obtain ⟨x32, hx32, ho24⟩ := Bs ho24
    refine Vy (Y_shr hx32 rfl rfl) (Vy (Y_convI underlying127 underlying3 rfl) (As (To ?_)))
    refine Sr (Mm (Mm (Mm ?_)))
    obtain ⟨x33, hx33, ho24⟩ := Bs ho24
    refine V_indexAddr h_x hx33 underlying88 sizeOf98 rfl rfl rfl ?_
    intro b34 o35 h36
    obtain ⟨v37, v39, h41, h38, h40⟩ := El_know_Posting h36
    refine Vy (Y_loadA h41 isAgg98 sizeOf98 rfl) (Mm ?_)
    obtain ⟨x42, hx42, ho24⟩ := Bs ho24
    refine Vc cmp_call (cmp_spec w13 _ hK hA x33 v37 h38 v39 h40 target _ hx42) ?_
    rintro _ w43 ⟨rfl, hk44⟩
    have ht45 := Kp.tr hk44 hA hB; replace hH := Hp.kp hH hk44; replace hr26 := Tt hr26 ht45
    refine Vy (Y_lss rfl rfl) (To ?_)
    obtain ⟨s47, ho46, ho24⟩ := Bs ho24
    refine C_cutG (ι := Unit) (fun (_ : Unit) => [(0, v_x), (1, Ii target), (2, .func (.func cmp_f) cmp_a cmp_c), (8, Ii (x.length : Int)), (9, Ii s47.1), (10, Ii s47.2)]) (fun (_ : Unit) => fun w' => w43 = w') ?_ ?_
    ·refine Cc (fun hc52 => ?_) fun hc52 => ?_
     ·rw [if_pos hc52] at ho46
      refine C_region (Mm (Vy (Y_addI rfl rfl) (As ?_)))
      obtain rfl := Oi ho46
      refine V_end (fun a ha53 => ?_)
      exact ⟨(), ha53.sb, rfl⟩
     rw [if_neg (nt hc52)] at ho46
     refine C_region (Mm (As ?_))
     obtain rfl := Oi ho46
     refine V_end (fun a ha54 => ?_)
     exact ⟨(), ha54.sb, rfl⟩
    rintro _ _ rfl a ha51
    obtain rfl := Oi ho24
    exact ⟨A14, ha51.sb, ⟨hH, hr26⟩⟩
   rintro A30 w27 ⟨hH31, hk28⟩ a ha29
   replace hr5 := Tr.trans hr5 hk28; replace hA := hk28.new; replace hH := hH31
   obtain rfl := Oi h17
   exact ⟨(s25.1, s25.2), h18, ⟨A30, ha29.sb, ⟨hH, hr5⟩⟩⟩
  rw [if_neg (nt hc23)] at h17
  obtain rfl := Oi h17
  refine C_exit (fun a ha57 => ?_)
  exact ⟨((s12.1, s12.2), A14), ha57.sb, ⟨h18.symm, hH, hr5⟩⟩
 rintro ⟨s4, A10⟩ w7 ⟨rfl, hH11, hk8⟩ a ha9
 rw [Lp.andThen_fin] at hm
 replace h_x := Sl.tr h_x hk8; replace hK := Tr.trans hK hk8; replace hB := Nat.le_trans hB hk8.ex.size; replace hA := hk8.new; replace hH := hH11
 refine C_at (n := ⟨49, [], none⟩) (fun _ _ => rfl) ?_ ha9
 refine C_seq ?_
 obtain ⟨s60, ho59, hm⟩ := Bs hm
 refine C_cutG (ι := (Nat → Prop)) (fun (A65 : (Nat → Prop)) => [(6, Ii s60.1), (7, .bool s60.2)]) (fun (A65 : (Nat → Prop)) => fun w' => Hp w.heap.size A65 w' ([]) ∧ Tr Dw w.heap.size A10 w7 A65 w') ?_ ?_
 ·have hr61 : Tr Dw w.heap.size A10 w7 A10 w7 := Tr.refl (Dw := Dw) hA
  refine C_region (Mm (Mm (Mm (Vy (Y_lss rfl rfl) (Mm ?_)))))
  rcases Be (decide (s4.1 < (x.length : Int))) with hc67 | hc67
  ·rw [if_pos hc67] at ho59
   refine Gf hc67 (Mm (Gf hc67 (Mm (Gf hc67 (Mm (Gf hc67 ?_))))))
   obtain ⟨x68, hx68, ho59⟩ := Bs ho59
   refine V_indexAddr h_x hx68 underlying88 sizeOf98 rfl rfl rfl ?_
   intro b69 o70 h71
   refine Gf hc67 ?_
   obtain ⟨v72, v74, h76, h73, h75⟩ := El_know_Posting h71
   refine Vy (Y_loadA h76 isAgg98 sizeOf98 rfl) (Gf hc67 (Mm (Gf hc67 ?_)))
   obtain ⟨x77, hx77, ho59⟩ := Bs ho59
   refine Vc cmp_call (cmp_spec w7 _ hK hA x68 v72 h73 v74 h75 target _ hx77) ?_
   rintro _ w78 ⟨rfl, hk79⟩
   have ht80 := Kp.tr hk79 hA hB; replace hH := Hp.kp hH hk79; replace hr61 := Tt hr61 ht80
   refine Gf hc67 (Vy (Y_eql rfl rfl) (Vy (Y_pick_te rfl hc67 rfl) (As (As ?_))))
   obtain rfl := Oi ho59
   refine V_end (fun a ha81 => ?_)
   exact ⟨A10, ha81.sb, ⟨hH, hr61⟩⟩
  rw [if_neg (nt hc67)] at ho59
  refine Gm hc67 (Gm hc67 (Gm hc67 (Gm hc67 (Gm hc67 (Gm hc67 (Gm hc67 (Gm hc67 (Vy (Y_pick_fe rfl hc67 rfl) (As ?_)))))))))
  refine As ?_
  obtain rfl := Oi ho59
  refine V_end (fun a ha82 => ?_)
  exact ⟨A10, ha82.sb, ⟨hH, hr61⟩⟩
 rintro A65 w62 ⟨hH66, hk63⟩ a ha64
 replace hK := Tr.trans hK hk63; replace hA := hk63.new; replace hH := hH66
 refine C_at (n := ⟨49, [], none⟩) (fun _ _ => rfl) ?_ ha64
 obtain rfl := Oi hm
 refine Rt (Res.two results73 rfl rfl) ?_
 exact ⟨rfl, hK.kp⟩
theorem know_Term_posting_1_c (w : World) {A : Nat → Prop} (hA : ∀ b, w.heap.size ≤ b → A b) (p : know_Posting) (v_p0 : Value) (h_p0 : Sl A w v_p0 p.title) (v_p1 : Value) (h_p1 : Sl A w v_p1 p.body) (id_ : Int) {r : Int} (hm : know_Term_posting_1 p id_ = some r) : Ret prog 74 #[.agg #[Ii p.id_, v_p0, v_p1], Ii id_] w fun v w' => v = Ii r ∧ Kp Dw w w' := by
 unfold know_Term_posting_1 at hm
 refine enter func74 rfl ntmps74 rfl ?_
 have hA0 := hA
 obtain ⟨hB, hK, hH⟩ := St (Dw := Dw) hA
 refine Sr ?_
 refine V_box rfl rfl ?_
 intro b5 w6 h7
 have hk9 := h7.kp (Dw := Dw)
 have h8 : El (α := know_Posting) A w6 b5 0 p := h7.el hA ⟨[Ii p.id_], _, rfl, rfl, ⟨[v_p0], _, rfl, ⟨_, rfl, h_p0⟩, ⟨_, rfl, h_p1⟩⟩⟩
 have ht10 := Kp.tr hk9 hA hB; replace hK := Tt hK ht10
 refine As (To ?_)
 refine Sr ?_
 have h11 := El_know_Posting_0 h8
 refine Fa underlying98 rfl sizeOf3 (Li h11 isAgg3 (Mm ?_))
 refine Vc call39 (cmp_Compare_int_c w6 p.id_ id_) ?_
 rintro _ _ ⟨rfl, rfl⟩
 refine As (To ?_)
 obtain rfl := Oi hm
 refine Rt (Res.one results74 rfl) ?_
 exact ⟨rfl, hK.kp⟩
theorem know_Term_posting_c (w : World) {A : Nat → Prop} (hA : ∀ b, w.heap.size ≤ b → A b) (t : know_Term) (v_t : Value) (h_t : Sl A w v_t t.list_) (id_ : Int) {r : (know_Posting × Bool)} (hm : know_Term_posting t id_ = some r) : Ret prog 41 #[.agg #[.string t.word, v_t], Ii id_] w fun v w' => ∃ s0 s1, v = .tuple #[.agg #[Ii r.1.id_, s0, s1], .bool r.2] ∧ Sl A w' s0 r.1.title ∧ Sl A w' s1 r.1.body ∧ Kp Dw w w' := by
 unfold know_Term_posting at hm
 refine enter func41 rfl ntmps41 rfl ?_
 have hA0 := hA
 obtain ⟨hB, hK, hH⟩ := St (Dw := Dw) hA
 refine Sr ?_
 refine V_box rfl rfl ?_
 intro b3 w4 h5
 have hk7 := h5.kp (Dw := Dw)
 have h6 : El (α := know_Term) A w4 b3 0 t := h5.el hA ⟨[.string t.word], _, rfl, rfl, ⟨_, rfl, h_t⟩⟩
 have ht8 := Kp.tr hk7 hA hB; replace hH := Hp.kp hH hk7; replace hK := Tt hK ht8; replace hB := Bx hB ht8; replace hA := ht8.new
 refine V_allocH (Dw := Dw) (B := w.heap.size) hH zeroValue98 hB hA rfl ?_
 intro b9 w10 A11 hH12 ht13
 replace h6 := El.tr h6 ht13; replace hK := Tt hK ht13; replace hB := Bx hB ht13; replace hA := ht13.new
 replace hH : Hp _ _ _ (obC b9 [Ii 0, .slice none 0 0, .slice none 0 0] 98 :: []) := hH12
 refine As (To ?_)
 refine Sr ?_
 have h14 := El_know_Term_1 h6
 refine Fa underlying90 rfl sizeOf88 ?_
 obtain ⟨v15, h16, h17⟩ := El.list h14
 refine Ld h16 isAgg88 (Mm ?_)
 obtain ⟨x20, hx20, hm⟩ := Bs hm
 refine Vc call73 (slices_BinarySearchFunc_Lknow_Posting_know_Posting_int_c (Dw := Dw) w10 hA t.list_ v15 h17 id_ (fun y33 y34 => know_Term_posting_1 y33 y34) 74 #[] #[] call74 (fun w29 A30 ht31 h32 y21 v22 h23 v24 h25 y26 r27 h28 => (know_Term_posting_1_c (Dw := Dw) w29 h32 y21 v22 h23 v24 h25 y26  h28).mono (fun _ _ h => ⟨h.1, h.2⟩)) hx20) ?_
 rintro _ w35 ⟨rfl, hk36⟩
 have ht37 := Kp.tr hk36 hA hB; replace hH := Hp.kp hH hk36; replace h6 := El.tr h6 ht37; replace hK := Tt hK ht37; replace hB := Bx hB ht37; replace hA := ht37.new
 refine Mm (Vy (Y_extract rfl rfl) (Vy (Y_extract rfl rfl) (As (As (To ?_)))))
 refine C_seq (Sr (Mm (Vy (Y_not rfl) (To ?_))))
 refine Cc (fun hc38 => ?_) fun hc38 => ?_
 ·rw [if_pos hc38] at hm
  refine Sr ?_
  refine Vy (Y_build underlying98 zeroValue98 (Tryz_places98 _ underlying98) rfl (by with_unfolding_all rfl)) ?_
  refine V_storeC (Dw := Dw) (off := 0) (ds := [Ii 0, .slice none 0 0, .slice none 0 0]) hH (i := 0) rfl sizeOf98 rfl (Nat.le_of_ble_eq_true rfl) (by exact (List.forall_mem_cons.2 ⟨rfl, (List.forall_mem_cons.2 ⟨rfl, (List.forall_mem_cons.2 ⟨rfl, (fun _ h => nomatch h)⟩)⟩)⟩)) rfl hB hA rfl rfl ?_
  intro w39 hH40 ht41
  replace hK := Tt hK ht41
  replace hH : Hp _ _ _ (obC b9 [Ii 0, .slice none 0 0, .slice none 0 0] 98 :: []) := hH40
  refine As (To ?_)
  obtain rfl := Oi hm
  refine C_ret ?_
  try simp only [↓ib, ↓th]
  exact retQ rfl (Res.l2 results41 (RL.cell rfl (loadVar_agg (Hp.part (off := 0) (n := 3) (ds := [Ii 0, .slice none 0 0, .slice none 0 0]) hH (i := 0) rfl rfl) isAgg98 sizeOf98)) (RL.tmp rfl)) ⟨.slice none 0 0, .slice none 0 0, rfl, Sl.nil, Sl.nil, hK.kp⟩
 rw [if_neg (nt hc38)] at hm
 refine Sk ?_
 refine Sr ?_
 have h42 := El_know_Term_1 h6
 refine Fa underlying90 rfl sizeOf88 ?_
 obtain ⟨v43, h44, h45⟩ := El.list h42
 refine Ld h44 isAgg88 (Mm ?_)
 obtain ⟨x46, hx46, hm⟩ := Bs hm
 refine V_indexAddr h45 hx46 underlying88 sizeOf98 rfl rfl rfl ?_
 intro b47 o48 h49
 obtain ⟨v50, v52, h54, h51, h53⟩ := El_know_Posting h49
 refine Vy (Y_loadA h54 isAgg98 sizeOf98 rfl) ?_
 have h60 : (v50).oneCell' = true := by obtain ⟨_, _, e, _⟩ := Sl.form h51; rw [e]; rfl
 have h63 : (v52).oneCell' = true := by obtain ⟨_, _, e, _⟩ := Sl.form h53; rw [e]; rfl
 refine V_storeC (Dw := Dw) (off := 0) (ds := [Ii x46.id_, v50, v52]) hH (i := 0) rfl sizeOf98 rfl (Nat.le_of_ble_eq_true rfl) (by exact (List.forall_mem_cons.2 ⟨rfl, (List.forall_mem_cons.2 ⟨h60, (List.forall_mem_cons.2 ⟨h63, (fun _ h => nomatch h)⟩)⟩)⟩)) rfl hB hA rfl rfl ?_
 intro w55 hH56 ht57
 replace h51 := Sl.tr h51 ht57; replace h53 := Sl.tr h53 ht57; replace hK := Tt hK ht57
 replace hH : Hp _ _ _ (obC b9 [Ii x46.id_, v50, v52] 98 :: []) := hH56
 refine As (To ?_)
 obtain rfl := Oi hm
 refine C_ret ?_
 try simp only [↓ib, ↓th]
 exact retQ rfl (Res.l2 results41 (RL.cell rfl (loadVar_agg (Hp.part (off := 0) (n := 3) (ds := [Ii x46.id_, v50, v52]) hH (i := 0) rfl rfl) isAgg98 sizeOf98)) (RL.tmp rfl)) ⟨v50, v52, rfl, (Sl.out (Dw := Dw) h51 hA0 hK), (Sl.out (Dw := Dw) h53 hA0 hK), hK.kp⟩
theorem slices_IndexFunc_Lint_int_c (w : World) {A : Nat → Prop} (hA : ∀ b, w.heap.size ≤ b → A b) (s : (List Int)) (v_s : Value) (h_s : Sl A w v_s s) (f : Int → Option Bool) (f_f : FuncId) (f_a f_c : Array Value) (f_call : ∀ (args : Array Value) (w : World), (callFunc f_f args).run prog w = .ok (.enter f_f args) w) (f_spec : ∀ (w1 : World) (A1 : Nat → Prop), Tr Dw w.heap.size A w A1 w1 → (∀ b, w1.heap.size ≤ b → A1 b) → ∀ (y0 : Int) (r : Bool), f y0 = some r → Ret prog f_f (f_a ++ #[Ii y0] ++ f_c) w1 fun v w' => v = .bool r ∧ Kp Dw w1 w') {r : Int} (hm : slices_IndexFunc_Lint_int s f = some r) : Ret prog 120 #[v_s, .func (.func f_f) f_a f_c] w fun v w' => v = Ii r ∧ Kp Dw w w' := by
 unfold slices_IndexFunc_Lint_int at hm
 refine enter func120 rfl ntmps120 rfl ?_
 have hA0 := hA
 obtain ⟨hB, hK, hH⟩ := St (Dw := Dw) hA
 refine Sr (As (To ?_))
 refine C_seq (Sr (Mm (Vy (Y_lenSl h_s rfl underlying23 rfl) (Mm (To ?_)))))
 have hn23 := Sl.le h_s
 obtain ⟨o3, ho3, hm⟩ := Bs hm
 refine C_cutG (ι := (Unit × (Nat → Prop))) (fun ⟨s4, A10⟩ => []) (fun ⟨s4, A10⟩ => fun w' => o3 = .fin s4 ∧ Hp w.heap.size A10 w' ([]) ∧ Tr Dw w.heap.size A w A10 w') ?_ ?_
 ·refine C_block ?_
  refine C_range ho3 (fun k6 _ a w' => ∃ i : (Nat → Prop), Has ⟨19, [], none⟩ a ([(0, v_s), (1, .func (.func f_f) f_a f_c), (7, Ii (s.length : Int)), (8, Ii (k6 : Int))]) ∧ Hp w.heap.size i w' ([]) ∧ Tr Dw w.heap.size A w i w') (fun a ha => ⟨A, ha.sb, ⟨hH, Tr.refl (Dw := Dw) hA⟩⟩) ?_
  rintro K k6 _ a w13 ⟨A14, ha36, hH15, hr5⟩ hle19 K22 h21
  refine C_of ?_ ha36
  replace h_s := Sl.tr h_s hr5; replace hK := Tt hK hr5; replace hB := Bx hB hr5; replace hA := hr5.new; replace hH := hH15
  refine Sr (Vy (Y_lss rfl rfl) (To ?_))
  refine C_seq ?_
  refine Cc (fun hc24 => ?_) fun hc24 => ?_
  ·have hlt20 := lt_of_dec hc24
   obtain ⟨x16, h17, h18⟩ := K22 hlt20
   refine Sk ?_
   refine C_seq (C_block (Sr (Mm (As (To ?_)))))
   refine Sr (Mm (Mm (Mm ?_)))
   obtain ⟨x25, hx25, h17⟩ := Bs h17
   refine V_indexAddr h_s hx25 underlying23 sizeOf3 rfl rfl rfl ?_
   intro b26 o27 h28
   refine Li h28 isAgg3 ?_
   obtain ⟨x29, hx29, h17⟩ := Bs h17
   refine Vc f_call (f_spec w13 _ hK hA x25 _ hx29) ?_
   rintro _ w30 ⟨rfl, hk31⟩
   have ht32 := Kp.tr hk31 hA hB; replace hH := Hp.kp hH hk31; replace hK := Tt hK ht32; replace hr5 := Tt hr5 ht32
   refine To ?_
   refine Cc (fun hc33 => ?_) fun hc33 => ?_
   ·rw [if_pos hc33] at h17
    refine Sr (Mm (As (To ?_)))
    obtain rfl := Oi h17
    obtain rfl := (h18 : Lp.rt _ = _)
    rw [Lp.andThen_rt] at hm
    obtain rfl := Oi hm
    refine Rt (Res.one results120 rfl) ?_
    exact ⟨rfl, hK.kp⟩
   rw [if_neg (nt hc33)] at h17
   refine Sk ?_
   refine C_region (Vy (Y_addI rfl rfl) (Mm ?_))
   obtain rfl := Oi h17
   refine V_end (fun a ha34 => ?_)
   exact ⟨(), hlt20, h18, ⟨A14, ha34.sub ⟨rfl, rfl, rfl, Ws hlt20 hn23, trivial⟩, ⟨hH, hr5⟩⟩⟩
  refine C_exit (fun a ha35 => ?_)
  exact ⟨((), A14), ha35.sub trivial, ⟨(h21 (eq_of_dec hle19 hc24)).symm, hH, hr5⟩⟩
 rintro ⟨s4, A10⟩ w7 ⟨rfl, hH11, hk8⟩ a ha9
 rw [Lp.andThen_fin] at hm
 replace hK := Tr.trans hK hk8; replace hA := hk8.new; replace hH := hH11
 refine C_at (n := ⟨19, [], none⟩) (fun _ _ => rfl) ?_ ha9
 refine Sr (As (To ?_))
 obtain rfl := Oi hm
 refine Rt (Res.one results120 rfl) ?_
 exact ⟨rfl, hK.kp⟩
theorem slices_ContainsFunc_Lint_int_c (w : World) {A : Nat → Prop} (hA : ∀ b, w.heap.size ≤ b → A b) (s : (List Int)) (v_s : Value) (h_s : Sl A w v_s s) (f : Int → Option Bool) (f_f : FuncId) (f_a f_c : Array Value) (f_call : ∀ (args : Array Value) (w : World), (callFunc f_f args).run prog w = .ok (.enter f_f args) w) (f_spec : ∀ (w1 : World) (A1 : Nat → Prop), Tr Dw w.heap.size A w A1 w1 → (∀ b, w1.heap.size ≤ b → A1 b) → ∀ (y0 : Int) (r : Bool), f y0 = some r → Ret prog f_f (f_a ++ #[Ii y0] ++ f_c) w1 fun v w' => v = .bool r ∧ Kp Dw w1 w') {r : Bool} (hm : slices_ContainsFunc_Lint_int s f = some r) : Ret prog 98 #[v_s, .func (.func f_f) f_a f_c] w fun v w' => v = .bool r ∧ Kp Dw w w' := by
 unfold slices_ContainsFunc_Lint_int at hm
 refine enter func98 rfl ntmps98 rfl ?_
 have hA0 := hA
 obtain ⟨hB, hK, hH⟩ := St (Dw := Dw) hA
 refine Sr (As (To ?_))
 refine Sr (Mm (Mm ?_))
 obtain ⟨x3, hx3, hm⟩ := Bs hm
 refine Vc call120 (slices_IndexFunc_Lint_int_c (Dw := Dw) w hA s v_s h_s f f_f f_a f_c f_call (fun w1 A1 ht => f_spec w1 A1 (Tr.trans hK (Tr.lower (Dw := Dw) ht hB))) hx3) ?_
 rintro _ w4 ⟨rfl, hk5⟩
 have ht6 := Kp.tr hk5 hA hB; replace hK := Tt hK ht6
 refine Vy (Y_geq rfl rfl) (As (To ?_))
 obtain rfl := Oi hm
 refine Rt (Res.one results98 rfl) ?_
 exact ⟨rfl, hK.kp⟩
theorem know_Index_phrase_1_1_c (w : World) {A : Nat → Prop} (at_ : Int) (p1 : (List (List Int))) (b_p1 : Nat) (h_p1 : El A w b_p1 0 p1) {r : Bool} (hm : know_Index_phrase_1_1 at_ p1 = some r) : Ret prog 99 #[Ii at_, Pt b_p1] w fun v w' => v = .bool r ∧ w = w' := by
 unfold know_Index_phrase_1_1 at hm
 refine enter func99 rfl ntmps99 rfl ?_
 refine Sr (As (To ?_))
 refine C_seq (Sr ?_)
 obtain ⟨v1, h2, h3⟩ := El.list h_p1
 refine Ld h2 isAgg160 ?_
 have hn4 := Sl.le h3
 refine Vy (Y_lenSl h3 rfl underlying160 rfl) (Mm (To ?_))
 obtain ⟨o5, ho5, hm⟩ := Bs hm
 refine C_cutG (ι := Unit) (fun (s6 : Unit) => []) (fun (s6 : Unit) => fun w' => o5 = .fin s6 ∧ w = w') ?_ ?_
 ·refine C_block ?_
  refine C_range ho5 (fun k8 _ a w' => ∃ i : Unit, Has ⟨26, [], none⟩ a ([(0, Ii at_), (1, Pt b_p1), (8, Ii (p1.length : Int)), (9, Ii (k8 : Int))]) ∧ w = w') (fun a ha => ⟨(), ha.sb, rfl⟩) ?_
  rintro K k8 _ a _ ⟨_, ha37, rfl⟩ hle17 K20 h19
  refine C_of ?_ ha37
  refine Sr (Vy (Y_lss rfl rfl) (To ?_))
  refine C_seq ?_
  refine Cc (fun hc22 => ?_) fun hc22 => ?_
  ·have hlt18 := lt_of_dec hc22
   obtain ⟨x14, h15, h16⟩ := K20 hlt18
   refine Sk ?_
   refine C_seq (C_block (Sr (Mm (As (To ?_)))))
   refine Sr ?_
   obtain ⟨v23, h24, h25⟩ := El.list h_p1
   refine Ld h24 isAgg160 (Mm ?_)
   obtain ⟨x26, hx26, h15⟩ := Bs h15
   refine V_indexAddr h25 hx26 underlying160 sizeOf23 rfl rfl rfl ?_
   intro b27 o28 h29
   obtain ⟨v30, h31, h32⟩ := El.list h29
   refine Ld h31 isAgg23 (Mm (Mm (Vy (Y_addI rfl rfl) ?_)))
   obtain ⟨x33, hx33, h15⟩ := Bs h15
   refine Vc call53 (slices_BinarySearch_Lint_int_c w x26 v30 h32 (w64 (at_ + (k8 : Int))) hx33) ?_
   rintro _ _ ⟨rfl, rfl⟩
   refine Mm (Vy (Y_extract rfl rfl) (Vy (Y_extract rfl rfl) (As (As (To ?_)))))
   refine Sr (Mm (Vy (Y_not rfl) (To ?_)))
   refine Cc (fun hc34 => ?_) fun hc34 => ?_
   ·rw [if_pos hc34] at h15
    refine Sr (As (To ?_))
    obtain rfl := Oi h15
    obtain rfl := (h16 : Lp.rt _ = _)
    rw [Lp.andThen_rt] at hm
    obtain rfl := Oi hm
    refine Rt (Res.one results99 rfl) ?_
    exact ⟨rfl, rfl⟩
   rw [if_neg (nt hc34)] at h15
   refine Sk ?_
   refine C_region (Vy (Y_addI rfl rfl) (Mm ?_))
   obtain rfl := Oi h15
   refine V_end (fun a ha35 => ?_)
   exact ⟨(), hlt18, h16, ⟨(), ha35.sub ⟨rfl, rfl, rfl, Ws hlt18 hn4, trivial⟩, rfl⟩⟩
  refine C_exit (fun a ha36 => ?_)
  exact ⟨(), ha36.sub trivial, ⟨(h19 (eq_of_dec hle17 hc22)).symm, rfl⟩⟩
 rintro s6 _ ⟨rfl, rfl⟩ a ha11
 rw [Lp.andThen_fin] at hm
 refine C_at (n := ⟨26, [], none⟩) (fun _ _ => rfl) ?_ ha11
 refine Sr (As (To ?_))
 obtain rfl := Oi hm
 refine Rt (Res.one results99 rfl) ?_
 exact ⟨rfl, rfl⟩
theorem know_Index_phrase_1_c (w : World) {A : Nat → Prop} (hA : ∀ b, w.heap.size ≤ b → A b) (l : (List (List Int))) (v_l : Value) (h_l : Sl A w v_l l) {r : Bool} (hm : know_Index_phrase_1 l = some r) : Ret prog 97 #[v_l] w fun v w' => v = .bool r ∧ Kp Dw w w' := by
 unfold know_Index_phrase_1 at hm
 refine enter func97 rfl ntmps97 rfl ?_
 have hA0 := hA
 obtain ⟨hB, hK, hH⟩ := St (Dw := Dw) hA
 refine Sr ?_
 refine V_box rfl rfl ?_
 intro b3 w4 h5
 have h10 : (v_l).oneCell' = true := by obtain ⟨_, _, e, _⟩ := Sl.form h_l; rw [e]; rfl
 have hk7 := h5.kp (Dw := Dw)
 have h6 : El (α := (List (List Int))) A w4 b3 0 l := h5.el hA (by rw [Value.cells_one h10]; exact ⟨_, rfl, h_l⟩)
 have ht11 := Kp.tr hk7 hA hB; replace hK := Tt hK ht11; replace hB := Bx hB ht11; replace hA := ht11.new
 refine As (To ?_)
 refine Sr ?_
 obtain ⟨v12, h13, h14⟩ := El.list h6
 refine Ld h13 isAgg160 ?_
 obtain ⟨x15, hx15, hm⟩ := Bs hm
 refine V_indexAddr h14 hx15 underlying160 sizeOf23 rfl rfl rfl ?_
 intro b16 o17 h18
 obtain ⟨v19, h20, h21⟩ := El.list h18
 refine Ld h20 isAgg23 (Vy (Y_makeFunc rfl rfl) ?_)
 obtain ⟨x23, hx23, hm⟩ := Bs hm
 refine Vc call98 (slices_ContainsFunc_Lint_int_c (Dw := Dw) w4 hA x15 v19 h21 (fun y31 => know_Index_phrase_1_1 y31 l) 99 #[] #[Pt b3] call99 (fun w27 A28 ht29 h30 y24 r25 h26 => (know_Index_phrase_1_1_c w27  y24 l b3 (El.tr h6 ht29) h26).mono (fun _ _ h => ⟨h.1, h.2 ▸ Kp.refl (Dw := Dw) _⟩)) hx23) ?_
 rintro _ w33 ⟨rfl, hk34⟩
 have ht35 := Kp.tr hk34 hA hB; replace hK := Tt hK ht35
 refine As (To ?_)
 obtain rfl := Oi hm
 refine Rt (Res.one results97 rfl) ?_
 exact ⟨rfl, hK.kp⟩
end Go.Proofs.YtjdjmddclfhpeaaGreatDoor.W
