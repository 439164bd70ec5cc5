import Derived.Test.YtldkdabcdbgpbaaGreatDoorIndexChangesW0
namespace Go.Proofs.YtldkdabcdbgpbaaGreatDoor.W
open Go Go.RowKit Go.Pu Go.Gw Go.Proofs Go.Proofs.YtldkdabcdbgpbaaGreatDoor.M
set_option linter.unusedVariables false
set_option linter.unusedSimpArgs false
variable {Dw : Prop}
set_option maxHeartbeats 4000000
set_option maxRecDepth 4000
open Tryz
theorem know_Index_without_c (w : World) {A : Nat → Prop} (hA : ∀ b, w.heap.size ≤ b → A b) (x : know_Index) (v_x0 : Value) (h_x0 : Sl A w v_x0 x.ids) (v_x1 : Value) (h_x1 : Sl A w v_x1 x.sizes) (v_x2 : Value) (h_x2 : Sl A w v_x2 x.terms) (id_ : Int) {r : know_Index} (hm : know_Index_without x id_ = some r) : Ret prog 50 #[.agg #[v_x0, v_x1, v_x2], Ii id_] w fun v w' => ∃ s0 s1 s2, v = .agg #[s0, s1, s2] ∧ Sl A w' s0 r.ids ∧ Sl A w' s1 r.sizes ∧ Sl A w' s2 r.terms ∧ Kp Dw w w' := by
 unfold know_Index_without at hm
 refine enter func50 rfl ntmps50 rfl ?_
 have hA0 := hA
 obtain ⟨hB, hK, hH⟩ := St (Dw := Dw) hA
 refine Sr ?_
 refine V_box rfl rfl ?_
 intro b7 w9 h10
 have hk12 := h10.kp (Dw := Dw)
 have h11 : El (α := know_Index) A w9 b7 0 x := h10.el hA ⟨[v_x0], _, rfl, ⟨_, rfl, h_x0⟩, ⟨[v_x1], _, rfl, ⟨_, rfl, h_x1⟩, ⟨_, rfl, h_x2⟩⟩⟩
 have ht13 := Kp.tr hk12 hA hB; replace hH := Hp.kp hH hk12; replace hK := Tt hK ht13; replace hB := Bx hB ht13; replace hA := ht13.new
 refine V_allocH (Dw := Dw) (B := w.heap.size) hH zeroValue26 hB hA rfl ?_
 intro b14 w15 A16 hH17 ht18
 replace h11 := El.tr h11 ht18; replace hK := Tt hK ht18; replace hB := Bx hB ht18; replace hA := ht18.new
 replace hH : Hp _ _ _ (obC b14 [.slice none 0 0, .slice none 0 0, .slice none 0 0] 26 :: []) := hH17
 refine To ?_
 refine C_seq ?_
 refine C_region_chz (Dw := Dw) A16 7 [(1, 0), (1, 1), (1, 3), (1, 4), (2, 2), (2, 5), (1, 6)] [(4, 8)] Tryz_mixed (by kernel_rfl) (fun w19 hk20 => ?_)
 have ht21 := Kp.tr hk20 hA hB; replace hH := Hp.kp hH hk20; replace h11 := El.tr h11 ht21; replace hK := Tt hK ht21; replace hB := Bx hB ht21; replace hA := ht21.new
 refine CHZ_q2 rfl ?_
 have h22 := El_know_Index_0 h11
 refine Qf underlying26 rfl sizeOf23 (VQ_CHZ (CHZ_q2 rfl ?_))
 obtain ⟨v23, h24, h25⟩ := El.list h22
 refine Ql (fun w' hw' => ((World.cell?_of_block (hw'.2 _ h22.2.1 h22.1)).trans h24)) isAgg23 (VQ_CHZ (CHZ_q2 rfl ?_))
 have h26 := El_know_Index_1 h11
 refine Qf underlying26 rfl sizeOf23 (VQ_CHZ (CHZ_q2 rfl ?_))
 obtain ⟨v27, h28, h29⟩ := El.list h26
 refine Ql (fun w' hw' => ((World.cell?_of_block (hw'.2 _ h26.2.1 h26.1)).trans h28)) isAgg23 (VQ_CHZ ?_)
 refine CHZ_l1 (k := 0) [(2, 7), (2, 2), (2, 5), (1, 6), (4, 8)] rfl ?_ rfl ?_
 ·refine CH_l1 (k := 0) rfl ?_
  refine V_allocHk (Dw := Dw) (B := w.heap.size) hH zeroValue26 hB hA rfl ?_
  intro b30 w31 A32 hk35 hH33 ht34
  replace h11 := El.tr h11 ht34; replace h25 := Sl.tr h25 ht34; replace h29 := Sl.tr h29 ht34; replace hK := Tt hK ht34; replace hB := Bx hB ht34; replace hA := ht34.new
  replace hH : Hp _ _ _ (obC b30 [.slice none 0 0, .slice none 0 0, .slice none 0 0] 26 :: obC b14 [.slice none 0 0, .slice none 0 0, .slice none 0 0] 26 :: []) := hH33
  refine V_CH (hk35) ?_
  refine CH_l1 (k := 0) rfl ?_
  obtain ⟨x36, hx36, hm⟩ := Bs hm
  refine Vc call76 (slices_Clone_Lint_int_c (Dw := Dw) w31 hA x.ids v23 h25 hx36) ?_
  rintro v37 w39 ⟨_, rfl, h38, hk40⟩
  obtain ⟨A41, ht42, hH43⟩ := Hp.addOwnd (Dw := Dw) hH hB hA hk40 h38
  replace h11 := El.tr h11 ht42; replace h29 := Sl.tr h29 ht42; replace hK := Tt hK ht42; replace hB := Bx hB ht42; replace hA := ht42.new
  replace hH : Hp _ _ _ (o_3 v37 x36 :: obC b30 [.slice none 0 0, .slice none 0 0, .slice none 0 0] 26 :: obC b14 [.slice none 0 0, .slice none 0 0, .slice none 0 0] 26 :: []) := hH43
  refine V_CH (hk40) ?_
  refine CH_l1 (k := 0) rfl ?_
  obtain ⟨x44, hx44, hm⟩ := Bs hm
  refine Vc call76 (slices_Clone_Lint_int_c (Dw := Dw) w39 hA x.sizes v27 h29 hx44) ?_
  rintro v45 w47 ⟨_, rfl, h46, hk48⟩
  obtain ⟨A49, ht50, hH51⟩ := Hp.addOwnd (Dw := Dw) hH hB hA hk48 h46
  replace h11 := El.tr h11 ht50; replace hK := Tt hK ht50; replace hB := Bx hB ht50; replace hA := ht50.new
  replace hH : Hp _ _ _ (o_3 v45 x44 :: o_3 v37 x36 :: obC b30 [.slice none 0 0, .slice none 0 0, .slice none 0 0] 26 :: obC b14 [.slice none 0 0, .slice none 0 0, .slice none 0 0] 26 :: []) := hH51
  refine V_CH (hk48) ?_
  refine CH_q2 rfl ?_
  refine Qv (fun w' hw' => Y_build (cells := #[v37, v45, .slice none 0 0]) underlying26 zeroValue26 (Tryz_places26 _ underlying26) rfl (by obtain ⟨a52, c53, e54, _⟩ := Sl.form (Hp.any (α := Int) (e := 3) (v := v37) (l := x36) hH (i := 1) rfl); subst e54; obtain ⟨a55, c56, e57, _⟩ := Sl.form (Hp.any (α := Int) (e := 3) (v := v45) (l := x44) hH (i := 0) rfl); subst e57; with_unfolding_all rfl)) (VQ_CH ?_)
  refine CH_l1 (k := 2) rfl ?_
  have h63 : (v37).oneCell' = true := by obtain ⟨_, _, e, _⟩ := Sl.form (Hp.any (α := Int) (e := 3) (v := v37) (l := x36) hH (i := 1) rfl); rw [e]; rfl
  have h66 : (v45).oneCell' = true := by obtain ⟨_, _, e, _⟩ := Sl.form (Hp.any (α := Int) (e := 3) (v := v45) (l := x44) hH (i := 0) rfl); rw [e]; rfl
  refine V_storeC (Dw := Dw) (off := 0) (ds := [v37, v45, .slice none 0 0]) hH (i := 2) rfl sizeOf26 rfl (Nat.le_of_ble_eq_true rfl) (by exact (List.forall_mem_cons.2 ⟨h63, (List.forall_mem_cons.2 ⟨h66, (List.forall_mem_cons.2 ⟨rfl, (fun _ h => nomatch h)⟩)⟩)⟩)) rfl hB hA rfl rfl ?_
  intro w58 hH59 ht60
  replace h11 := El.tr h11 ht60; replace hK := Tt hK ht60; replace hB := Bx hB ht60; replace hA := ht60.new
  replace hH : Hp _ _ _ (o_3 v45 x44 :: o_3 v37 x36 :: obC b30 [v37, v45, .slice none 0 0] 26 :: obC b14 [.slice none 0 0, .slice none 0 0, .slice none 0 0] 26 :: []) := hH59
  refine V_CHw ?_
  refine CH_tail ?_
  show V _ _ _ _ [] _ _
  refine To ?_
  refine C_seq (Sr (Vy (Y_fieldAddrC (off2 := 0) underlying26 rfl sizeOf23 (by decide) rfl rfl) (Ld (Hp.cell (j := 0) hH (i := 2) rfl rfl) isAgg23 (Mm ?_))))
  obtain ⟨x67, hx67, hm⟩ := Bs hm
  refine Vc call52 (slices_BinarySearch_Lint_int_c w58 x36 v37 (Hp.any (α := Int) (e := 3) (v := v37) (l := x36) hH (i := 1) rfl) id_ hx67) ?_
  rintro _ _ ⟨rfl, rfl⟩
  refine Mm (Vy (Y_extract rfl rfl) (Vy (Y_extract rfl rfl) (As (As (To ?_)))))
  refine Sr (Mm (To ?_))
  obtain ⟨s69, ho68, hm⟩ := Bs hm
  refine C_cutG (ι := (Value × Value × Value × (Nat → Prop))) (fun ⟨v71, v73, v75, A80⟩ => [(1, Ii id_), (2, Pt b7), (4, Pt b14), (5, Pt b30)]) (fun ⟨v71, v73, v75, A80⟩ => fun w' => Hp w.heap.size A80 w' (o_83 v75 s69.terms :: o_3 v73 s69.sizes :: o_3 v71 s69.ids :: obC b30 [v71, v73, v75] 26 :: obC b14 [.slice none 0 0, .slice none 0 0, .slice none 0 0] 26 :: []) ∧ Tr Dw w.heap.size A49 w58 A80 w') ?_ ?_
  ·have hr70 : Tr Dw w.heap.size A49 w58 A49 w58 := Tr.refl (Dw := Dw) hA
   refine Cc (fun hc82 => ?_) fun hc82 => ?_
   ·rw [if_pos hc82] at ho68
    refine Sr (Vy (Y_fieldAddrC (off2 := 0) underlying26 rfl sizeOf23 (by decide) rfl rfl) (Ld (Hp.cell (j := 0) hH (i := 2) rfl rfl) isAgg23 (Mm (Mm (Vy (Y_addI rfl rfl) ?_)))))
    obtain ⟨x83, hx83, ho68⟩ := Bs ho68
    refine Vc call85 (Tryz_cp85 (Dw := Dw) hH (i := 1) rfl hB hA hx83) ?_
    rintro v87 w84 ⟨_, rfl, hH85, ht86⟩
    replace hr70 := Tt hr70 ht86; replace hB := Bx hB ht86; replace hA := ht86.new
    replace hH : Hp _ _ _ (o_3 v45 x44 :: o_3 v87 x83 :: obC b30 [v37, v45, .slice none 0 0] 26 :: obC b14 [.slice none 0 0, .slice none 0 0, .slice none 0 0] 26 :: []) := hH85
    refine Vy (Y_fieldAddrC (off2 := 0) underlying26 rfl sizeOf23 (by decide) rfl rfl) ?_
    have h93 : (v87).oneCell' = true := by obtain ⟨_, _, e, _⟩ := Sl.form (Hp.any (α := Int) (e := 3) (v := v87) (l := x83) hH (i := 1) rfl); rw [e]; rfl
    refine V_storeC (Dw := Dw) (off := 0) (ds := [v87, v45, .slice none 0 0]) hH (i := 2) rfl sizeOf23 (by show (v87 : Value).cells.size = _; rw [← Array.length_toList, Value.cells_one h93]; rfl) (Nat.le_of_ble_eq_true rfl) (by intro u hu; change u ∈ (v87 : Value).cells.toList at hu; rw [Value.cells_one h93] at hu; simp at hu; subst hu; assumption) (by show _ ++ (v87 : Value).cells.toList ++ _ = _; rw [Value.cells_one h93]; rfl) hB hA rfl rfl ?_
    intro w88 hH89 ht90
    replace hr70 := Tt hr70 ht90; replace hB := Bx hB ht90; replace hA := ht90.new
    replace hH : Hp _ _ _ (o_3 v45 x44 :: o_3 v87 x83 :: obC b30 [v87, v45, .slice none 0 0] 26 :: obC b14 [.slice none 0 0, .slice none 0 0, .slice none 0 0] 26 :: []) := hH89
    refine To ?_
    refine C_region (Vy (Y_fieldAddrC (off2 := 1) underlying26 rfl sizeOf23 (by decide) rfl rfl) (Ld (Hp.cell (j := 1) hH (i := 2) rfl rfl) isAgg23 (Mm (Mm (Vy (Y_addI rfl rfl) ?_)))))
    obtain ⟨x94, hx94, ho68⟩ := Bs ho68
    refine Vc call85 (Tryz_cp85 (Dw := Dw) hH (i := 0) rfl hB hA hx94) ?_
    rintro v98 w95 ⟨_, rfl, hH96, ht97⟩
    replace hr70 := Tt hr70 ht97; replace hB := Bx hB ht97; replace hA := ht97.new
    replace hH : Hp _ _ _ (o_3 v98 x94 :: o_3 v87 x83 :: obC b30 [v87, v45, .slice none 0 0] 26 :: obC b14 [.slice none 0 0, .slice none 0 0, .slice none 0 0] 26 :: []) := hH96
    refine Vy (Y_fieldAddrC (off2 := 1) underlying26 rfl sizeOf23 (by decide) rfl rfl) ?_
    have h104 : (v98).oneCell' = true := by obtain ⟨_, _, e, _⟩ := Sl.form (Hp.any (α := Int) (e := 3) (v := v98) (l := x94) hH (i := 0) rfl); rw [e]; rfl
    refine V_storeC (Dw := Dw) (off := 1) (ds := [v87, v98, .slice none 0 0]) hH (i := 2) rfl sizeOf23 (by show (v98 : Value).cells.size = _; rw [← Array.length_toList, Value.cells_one h104]; rfl) (Nat.le_of_ble_eq_true rfl) (by intro u hu; change u ∈ (v98 : Value).cells.toList at hu; rw [Value.cells_one h104] at hu; simp at hu; subst hu; assumption) (by show _ ++ (v98 : Value).cells.toList ++ _ = _; rw [Value.cells_one h104]; rfl) hB hA rfl rfl ?_
    intro w99 hH100 ht101
    replace hr70 := Tt hr70 ht101
    replace hH : Hp _ _ _ (o_3 v98 x94 :: o_3 v87 x83 :: obC b30 [v87, v98, .slice none 0 0] 26 :: obC b14 [.slice none 0 0, .slice none 0 0, .slice none 0 0] 26 :: []) := hH100
    obtain rfl := Oi ho68
    refine V_end (fun a ha105 => ?_)
    replace hH : Hp w.heap.size A49 w99 (o_83 (.slice none 0 0) ([] : (List know_Term)) :: o_3 v98 x94 :: o_3 v87 x83 :: obC b30 [v87, v98, .slice none 0 0] 26 :: obC b14 [.slice none 0 0, .slice none 0 0, .slice none 0 0] 26 :: []) := Hp.addNil (α := know_Term) (e := 83) hH
    exact ⟨(v87, v98, .slice none 0 0, A49), ha105.sb, ⟨hH, hr70⟩⟩
   rw [if_neg (nt hc82)] at ho68
   obtain rfl := Oi ho68
   refine C_skip (fun a ha106 => ?_)
   replace hH : Hp w.heap.size A49 w58 (o_83 (.slice none 0 0) ([] : (List know_Term)) :: o_3 v45 x44 :: o_3 v37 x36 :: obC b30 [v37, v45, .slice none 0 0] 26 :: obC b14 [.slice none 0 0, .slice none 0 0, .slice none 0 0] 26 :: []) := Hp.addNil (α := know_Term) (e := 83) hH
   exact ⟨(v37, v45, .slice none 0 0, A49), ha106.sb, ⟨hH, hr70⟩⟩
  rintro ⟨v71, v73, v75, A80⟩ w77 ⟨hH81, hk78⟩ a ha79
  replace h11 := El.tr h11 hk78; replace hK := Tr.trans hK hk78; replace hB := Nat.le_trans hB hk78.ex.size; replace hA := hk78.new
  replace hH : Hp _ _ _ (o_83 v75 s69.terms :: o_3 v73 s69.sizes :: o_3 v71 s69.ids :: obC b30 [v71, v73, v75] 26 :: obC b14 [.slice none 0 0, .slice none 0 0, .slice none 0 0] 26 :: []) := hH81
  refine C_at (n := ⟨87, [], none⟩) (fun _ _ => rfl) ?_ ha79
  refine C_seq (Sr ?_)
  have h107 := El_know_Index_2 h11
  refine Fa underlying26 rfl sizeOf24 ?_
  obtain ⟨v108, h109, h110⟩ := El.list h107
  refine Ld h109 isAgg24 (Vy (Y_lenSl h110 rfl underlying24 rfl) (Mm (To ?_)))
  have hn143 := Sl.le h110
  obtain ⟨o111, ho111, hm⟩ := Bs hm
  refine C_cutG (ι := (know_Index × Value × Value × Value × (Nat → Prop))) (fun ⟨s112, v118, v120, v122, A124⟩ => [(4, Pt b14), (5, Pt b30)]) (fun ⟨s112, v118, v120, v122, A124⟩ => fun w' => o111 = .fin s112 ∧ Hp w.heap.size A124 w' (o_83 v122 s112.terms :: o_3 v120 s112.sizes :: o_3 v118 s112.ids :: obC b30 [v118, v120, v122] 26 :: obC b14 [.slice none 0 0, .slice none 0 0, .slice none 0 0] 26 :: []) ∧ Tr Dw w.heap.size A80 w77 A124 w') ?_ ?_
  ·refine C_block ?_
   refine C_range ho111 (fun k114 s126 a w' => ∃ i : (Value × Value × Value × (Nat → Prop)), Has ⟨87, [], none⟩ a ([(1, Ii id_), (4, Pt b14), (5, Pt b30), (43, v108), (44, Ii (x.terms.length : Int)), (45, Ii (k114 : Int))]) ∧ Hp w.heap.size i.2.2.2 w' (o_83 i.2.2.1 s126.terms :: o_3 i.2.1 s126.sizes :: o_3 i.1 s126.ids :: obC b30 [i.1, i.2.1, i.2.2.1] 26 :: obC b14 [.slice none 0 0, .slice none 0 0, .slice none 0 0] 26 :: []) ∧ Tr Dw w.heap.size A80 w77 i.2.2.2 w') (fun a ha => ⟨(v71, v73, v75, A80), ha.sb, ⟨hH, Tr.refl (Dw := Dw) hA⟩⟩) ?_
   rintro K k114 s126 a w127 ⟨⟨v128, v130, v132, A134⟩, ha368, hH135, hr113⟩ hle139 K142 h141
   refine C_of ?_ ha368
   replace h110 := Sl.tr h110 hr113; replace hB := Bx hB hr113; replace hA := hr113.new
   replace hH : Hp _ _ _ (o_83 v132 s126.terms :: o_3 v130 s126.sizes :: o_3 v128 s126.ids :: obC b30 [v128, v130, v132] 26 :: obC b14 [.slice none 0 0, .slice none 0 0, .slice none 0 0] 26 :: []) := hH135
   refine Sr (Vy (Y_lss rfl rfl) (To ?_))
   refine C_seq ?_
   refine Cc (fun hc144 => ?_) fun hc144 => ?_
   ·have hlt140 := lt_of_dec hc144
    obtain ⟨x136, h137, h138⟩ := K142 hlt140
    refine Sk ?_
    refine C_seq ?_
    obtain ⟨s146, ho145, h137⟩ := Bs h137
    refine C_cutG (ι := (Value × Value × Value × (Nat → Prop))) (fun ⟨v148, v150, v152, A157⟩ => [(1, Ii id_), (4, Pt b14), (5, Pt b30), (43, v108), (44, Ii (x.terms.length : Int)), (45, Ii (k114 : Int))]) (fun ⟨v148, v150, v152, A157⟩ => fun w' => Hp w.heap.size A157 w' (o_83 v152 s146.terms :: o_3 v150 s146.sizes :: o_3 v148 s146.ids :: obC b30 [v148, v150, v152] 26 :: obC b14 [.slice none 0 0, .slice none 0 0, .slice none 0 0] 26 :: []) ∧ Tr Dw w.heap.size A134 w127 A157 w') ?_ ?_
    ·have hr147 : Tr Dw w.heap.size A134 w127 A134 w127 := Tr.refl (Dw := Dw) hA
     refine C_block (Sr ?_)
     obtain ⟨x159, hx159, ho145⟩ := Bs ho145
     refine V_indexAddr h110 hx159 underlying24 sizeOf83 rfl rfl rfl ?_
     intro b160 o161 h162
     obtain ⟨v163, h165, h164⟩ := El_know_Term h162
     refine Vy (Y_loadA h165 isAgg83 sizeOf83 rfl) ?_
     refine V_alloc zeroValue83 rfl ?_
     intro b166 w167 h168
     have h173 : (v163).oneCell' = true := by obtain ⟨_, _, e, _⟩ := Sl.form h164; rw [e]; rfl
     refine Sn h168 sizeOf83 ?_
     intro w169 h170
     have hk175 := h170.kp (Dw := Dw)
     have h174 : El (α := know_Term) A134 w169 b166 0 x159 := h170.el hA ⟨[.string x159.word], _, rfl, rfl, ⟨_, rfl, h164⟩⟩
     have ht176 := Kp.tr hk175 hA hB; replace hH := Hp.kp hH hk175; replace hr147 := Tt hr147 ht176; replace hB := Bx hB ht176; replace hA := ht176.new
     refine To ?_
     refine Sr (As (To ?_))
     refine C_seq (Sr ?_)
     have h177 := El_know_Term_1 h174
     refine Fa underlying83 rfl sizeOf81 ?_
     obtain ⟨v178, h179, h180⟩ := El.list h177
     refine Ld h179 isAgg81 (Vy (Y_lenSl h180 rfl underlying81 rfl) (Mm (To ?_)))
     replace hH : Hp w.heap.size A134 w169 (o_86 (.slice none 0 0) ([] : (List know_Posting)) :: o_83 v132 s126.terms :: o_3 v130 s126.sizes :: o_3 v128 s126.ids :: obC b30 [v128, v130, v132] 26 :: obC b14 [.slice none 0 0, .slice none 0 0, .slice none 0 0] 26 :: []) := Hp.addNil (α := know_Posting) (e := 86) hH
     have hn205 := Sl.le h180
     obtain ⟨o181, ho181, ho145⟩ := Bs ho145
     refine C_cutG (ι := ((List know_Posting) × Value × (Nat → Prop))) (fun ⟨s182, v188, A190⟩ => [(1, Ii id_), (4, Pt b14), (5, Pt b30), (9, Pt b166), (10, v188), (43, v108), (44, Ii (x.terms.length : Int)), (45, Ii (k114 : Int))]) (fun ⟨s182, v188, A190⟩ => fun w' => o181 = .fin s182 ∧ Hp w.heap.size A190 w' (o_86 v188 s182 :: o_83 v132 s126.terms :: o_3 v130 s126.sizes :: o_3 v128 s126.ids :: obC b30 [v128, v130, v132] 26 :: obC b14 [.slice none 0 0, .slice none 0 0, .slice none 0 0] 26 :: []) ∧ Tr Dw w.heap.size A134 w169 A190 w') ?_ ?_
     ·refine C_block ?_
      refine C_range ho181 (fun k184 s192 a w' => ∃ i : (Value × (Nat → Prop)), Has ⟨87, [], none⟩ a ([(1, Ii id_), (4, Pt b14), (5, Pt b30), (9, Pt b166), (10, i.1), (43, v108), (44, Ii (x.terms.length : Int)), (45, Ii (k114 : Int)), (50, v178), (51, Ii (x159.list_.length : Int)), (52, Ii (k184 : Int))]) ∧ Hp w.heap.size i.2 w' (o_86 i.1 s192 :: o_83 v132 s126.terms :: o_3 v130 s126.sizes :: o_3 v128 s126.ids :: obC b30 [v128, v130, v132] 26 :: obC b14 [.slice none 0 0, .slice none 0 0, .slice none 0 0] 26 :: []) ∧ Tr Dw w.heap.size A134 w169 i.2 w') (fun a ha => ⟨(.slice none 0 0, A134), ha.sb, ⟨hH, Tr.refl (Dw := Dw) hA⟩⟩) ?_
      rintro K k184 s192 a w193 ⟨⟨v194, A196⟩, ha318, hH197, hr183⟩ hle201 K204 h203
      refine C_of ?_ ha318
      replace h180 := Sl.tr h180 hr183; replace hB := Bx hB hr183; replace hA := hr183.new
      replace hH : Hp _ _ _ (o_86 v194 s192 :: o_83 v132 s126.terms :: o_3 v130 s126.sizes :: o_3 v128 s126.ids :: obC b30 [v128, v130, v132] 26 :: obC b14 [.slice none 0 0, .slice none 0 0, .slice none 0 0] 26 :: []) := hH197
      refine Sr (Vy (Y_lss rfl rfl) (To ?_))
      refine C_seq ?_
      refine Cc (fun hc206 => ?_) fun hc206 => ?_
      ·have hlt202 := lt_of_dec hc206
       obtain ⟨x198, h199, h200⟩ := K204 hlt202
       refine Sk ?_
       refine C_seq ?_
       obtain ⟨s208, ho207, h199⟩ := Bs h199
       refine C_cutG (ι := (Value × (Nat → Prop))) (fun ⟨v210, A215⟩ => [(1, Ii id_), (4, Pt b14), (5, Pt b30), (9, Pt b166), (10, v210), (43, v108), (44, Ii (x.terms.length : Int)), (45, Ii (k114 : Int)), (50, v178), (51, Ii (x159.list_.length : Int)), (52, Ii (k184 : Int))]) (fun ⟨v210, A215⟩ => fun w' => Hp w.heap.size A215 w' (o_86 v210 s208 :: o_83 v132 s126.terms :: o_3 v130 s126.sizes :: o_3 v128 s126.ids :: obC b30 [v128, v130, v132] 26 :: obC b14 [.slice none 0 0, .slice none 0 0, .slice none 0 0] 26 :: []) ∧ Tr Dw w.heap.size A196 w193 A215 w') ?_ ?_
       ·have hr209 : Tr Dw w.heap.size A196 w193 A196 w193 := Tr.refl (Dw := Dw) hA
        refine C_block (Sr ?_)
        obtain ⟨x217, hx217, ho207⟩ := Bs ho207
        refine V_indexAddr h180 hx217 underlying81 sizeOf86 rfl rfl rfl ?_
        intro b218 o219 h220
        obtain ⟨v221, v223, h225, h222, h224⟩ := El_know_Posting h220
        refine Vy (Y_loadA h225 isAgg86 sizeOf86 rfl) ?_
        refine V_alloc zeroValue86 rfl ?_
        intro b226 w227 h228
        have h233 : (v221).oneCell' = true := by obtain ⟨_, _, e, _⟩ := Sl.form h222; rw [e]; rfl
        have h236 : (v223).oneCell' = true := by obtain ⟨_, _, e, _⟩ := Sl.form h224; rw [e]; rfl
        refine Sn h228 sizeOf86 ?_
        intro w229 h230
        have hk238 := h230.kp (Dw := Dw)
        have h237 : El (α := know_Posting) A196 w229 b226 0 x217 := h230.el hA ⟨[Ii x217.id_], _, rfl, rfl, ⟨[v221], _, rfl, ⟨_, rfl, h222⟩, ⟨_, rfl, h224⟩⟩⟩
        have ht239 := Kp.tr hk238 hA hB; replace hH := Hp.kp hH hk238; replace hr209 := Tt hr209 ht239; replace hB := Bx hB ht239; replace hA := ht239.new
        refine To ?_
        refine Sr ?_
        have h240 := El_know_Posting_0 h237
        refine Fa underlying86 rfl sizeOf3 (Li h240 isAgg3 (Mm (Vy (Y_neq rfl rfl) (To ?_))))
        obtain ⟨s242, ho241, ho207⟩ := Bs ho207
        refine C_cutG (ι := (Value × (Nat → Prop))) (fun ⟨v244, A249⟩ => [(1, Ii id_), (4, Pt b14), (5, Pt b30), (9, Pt b166), (10, v244), (43, v108), (44, Ii (x.terms.length : Int)), (45, Ii (k114 : Int)), (50, v178), (51, Ii (x159.list_.length : Int)), (52, Ii (k184 : Int))]) (fun ⟨v244, A249⟩ => fun w' => Hp w.heap.size A249 w' (o_86 v244 s242 :: o_83 v132 s126.terms :: o_3 v130 s126.sizes :: o_3 v128 s126.ids :: obC b30 [v128, v130, v132] 26 :: obC b14 [.slice none 0 0, .slice none 0 0, .slice none 0 0] 26 :: []) ∧ Tr Dw w.heap.size A196 w229 A249 w') ?_ ?_
        ·have hr243 : Tr Dw w.heap.size A196 w229 A196 w229 := Tr.refl (Dw := Dw) hA
         refine Cc (fun hc251 => ?_) fun hc251 => ?_
         ·rw [if_pos hc251] at ho241
          refine C_region_ch (Dw := Dw) A196 13 [(1, 0), (1, 1), (1, 2), (1, 3), (1, 4), (1, 6), (1, 7), (2, 5), (2, 8), (1, 9), (2, 10), (4, 11), (1, 12)] Tryz_mixed (by kernel_rfl) (fun w252 hk253 => ?_)
          have ht254 := Kp.tr hk253 hA hB; replace hH := Hp.kp hH hk253; replace h237 := El.tr h237 ht254; replace hr243 := Tt hr243 ht254; replace hB := Bx hB ht254; replace hA := ht254.new
          refine CH_q2 rfl (Qm (VQ_CH (CH_q2 rfl ?_)))
          have h255 := El_know_Posting_0 h237
          refine Qf underlying86 rfl sizeOf3 (VQ_CH (CH_q2 rfl (Ql (fun w' hw' => (El.int (El.keep h255 (XA.ex hw')))) isAgg3 (VQ_CH (CH_q2 rfl ?_)))))
          have h256 := El_know_Posting_1 h237
          refine Qf underlying86 rfl sizeOf23 (VQ_CH (CH_q2 rfl ?_))
          obtain ⟨v257, h258, h259⟩ := El.list h256
          refine Ql (fun w' hw' => ((World.cell?_of_block (hw'.2 _ h256.2.1 h256.1)).trans h258)) isAgg23 (VQ_CH (CH_q2 rfl ?_))
          have h260 := El_know_Posting_2 h237
          refine Qf underlying86 rfl sizeOf23 (VQ_CH (CH_q2 rfl ?_))
          obtain ⟨v261, h262, h263⟩ := El.list h260
          refine Ql (fun w' hw' => ((World.cell?_of_block (hw'.2 _ h260.2.1 h260.1)).trans h262)) isAgg23 (VQ_CH ?_)
          refine CH_l1 (k := 0) rfl ?_
          obtain ⟨x264, hx264, ho241⟩ := Bs ho241
          refine Vc call76 (slices_Clone_Lint_int_c (Dw := Dw) w252 hA x217.title v257 h259 hx264) ?_
          rintro v265 w267 ⟨_, rfl, h266, hk268⟩
          obtain ⟨A269, ht270, hH271⟩ := Hp.addOwnd (Dw := Dw) hH hB hA hk268 h266
          replace h263 := Sl.tr h263 ht270; replace hr243 := Tt hr243 ht270; replace hB := Bx hB ht270; replace hA := ht270.new
          replace hH : Hp _ _ _ (o_3 v265 x264 :: o_86 v194 s192 :: o_83 v132 s126.terms :: o_3 v130 s126.sizes :: o_3 v128 s126.ids :: obC b30 [v128, v130, v132] 26 :: obC b14 [.slice none 0 0, .slice none 0 0, .slice none 0 0] 26 :: []) := hH271
          refine V_CH (hk268) ?_
          refine CH_l1 (k := 0) rfl ?_
          obtain ⟨x272, hx272, ho241⟩ := Bs ho241
          refine Vc call76 (slices_Clone_Lint_int_c (Dw := Dw) w267 hA x217.body v261 h263 hx272) ?_
          rintro v273 w275 ⟨_, rfl, h274, hk276⟩
          obtain ⟨A277, ht278, hH279⟩ := Hp.addOwnd (Dw := Dw) hH hB hA hk276 h274
          replace hr243 := Tt hr243 ht278; replace hB := Bx hB ht278; replace hA := ht278.new
          replace hH : Hp _ _ _ (o_3 v273 x272 :: o_3 v265 x264 :: o_86 v194 s192 :: o_83 v132 s126.terms :: o_3 v130 s126.sizes :: o_3 v128 s126.ids :: obC b30 [v128, v130, v132] 26 :: obC b14 [.slice none 0 0, .slice none 0 0, .slice none 0 0] 26 :: []) := hH279
          refine V_CH (hk276) ?_
          refine CH_q2 rfl ?_
          refine Qv (fun w' hw' => Y_build (cells := #[Ii x217.id_, v265, v273]) underlying86 zeroValue86 (Tryz_places86 _ underlying86) rfl (by obtain ⟨a280, c281, e282, _⟩ := Sl.form (Hp.any (α := Int) (e := 3) (v := v265) (l := x264) hH (i := 1) rfl); subst e282; obtain ⟨a283, c284, e285, _⟩ := Sl.form (Hp.any (α := Int) (e := 3) (v := v273) (l := x272) hH (i := 0) rfl); subst e285; with_unfolding_all rfl)) (VQ_CH ?_)
          refine CH_l1 (k := 0) rfl ?_
          obtain ⟨A286, ht287, h288, hH289⟩ := Hp.freeze (Dw := Dw) (α := Int) (v := v265) (l := x264) hH (i := 1) rfl hA
          replace hr243 := Tt hr243 ht287; replace hB := Bx hB ht287; replace hA := ht287.new
          replace hH : Hp _ _ _ (o_3 v273 x272 :: o_86 v194 s192 :: o_83 v132 s126.terms :: o_3 v130 s126.sizes :: o_3 v128 s126.ids :: obC b30 [v128, v130, v132] 26 :: obC b14 [.slice none 0 0, .slice none 0 0, .slice none 0 0] 26 :: []) := hH289
          obtain ⟨A291, ht292, h293, hH294⟩ := Hp.freeze (Dw := Dw) (α := Int) (v := v273) (l := x272) hH (i := 0) rfl hA
          replace h288 := Sl.tr h288 ht292; replace hr243 := Tt hr243 ht292; replace hB := Bx hB ht292; replace hA := ht292.new
          replace hH : Hp _ _ _ (o_86 v194 s192 :: o_83 v132 s126.terms :: o_3 v130 s126.sizes :: o_3 v128 s126.ids :: obC b30 [v128, v130, v132] 26 :: obC b14 [.slice none 0 0, .slice none 0 0, .slice none 0 0] 26 :: []) := hH294
          refine V_buildSlice (Dw := Dw) (cells := #[Ii x217.id_, v265, v273]) (l := ([(⟨x217.id_, x264, x272⟩ : know_Posting)] : List know_Posting)) (len := 1) underlying81 sizeOf86 zeroValue86 rfl (by obtain ⟨a300, c301, e302, _⟩ := Sl.form h288; subst e302; obtain ⟨a303, c304, e305, _⟩ := Sl.form h293; subst e305; kernel_rfl) (show (1 * 3 : Nat) ≠ 0 by decide) (show (1 * 3 : Nat) ≤ 2 ^ 24 by decide) hA ⟨[Ii x217.id_, v265, v273], _, rfl, ⟨[Ii x217.id_], _, rfl, rfl, ⟨[v265], _, rfl, ⟨_, rfl, h288⟩, ⟨_, rfl, h293⟩⟩⟩, rfl⟩ rfl rfl ?_
          intro v296 w297 hk299 h298
          have ht306 := Kp.tr hk299 hA hB; replace hH := Hp.kp hH hk299; replace hr243 := Tt hr243 ht306; replace hB := Bx hB ht306; replace hA := ht306.new
          refine V_CH (hk299) ?_
          refine CH_l1 (k := 2) rfl ?_
          obtain ⟨x307, hx307, ho241⟩ := Bs ho241
          refine V_appendH (Dw := Dw) (e := 86) (v := v194) (l := s192) (ti := t86) (bytes := 56) (lim := 2513169434916) hH (i := 0) rfl h298 hx307 underlying81 Tryz_info86 rfl rfl rfl rfl (by decide) (by decide) (by decide) hB hA rfl rfl rfl ?_
          intro v308 w309 A310 hH311 ht312
          replace hr243 := Tt hr243 ht312
          replace hH : Hp _ _ _ (o_86 v308 x307 :: o_83 v132 s126.terms :: o_3 v130 s126.sizes :: o_3 v128 s126.ids :: obC b30 [v128, v130, v132] 26 :: obC b14 [.slice none 0 0, .slice none 0 0, .slice none 0 0] 26 :: []) := hH311
          refine V_CHw ?_
          refine CH_q2 rfl (Qa (VQ_CH ?_))
          refine CH_tail ?_
          show V _ _ _ _ [] _ _
          obtain rfl := Oi ho241
          refine V_end (fun a ha313 => ?_)
          exact ⟨(v308, A310), ha313.sb, ⟨hH, hr243⟩⟩
         rw [if_neg (nt hc251)] at ho241
         obtain rfl := Oi ho241
         refine C_skip (fun a ha314 => ?_)
         exact ⟨(v194, A196), ha314.sb, ⟨hH, hr243⟩⟩
        rintro ⟨v244, A249⟩ w246 ⟨hH250, hk247⟩ a ha248
        replace hr209 := Tr.trans hr209 hk247; replace hA := hk247.new
        replace hH : Hp _ _ _ (o_86 v244 s242 :: o_83 v132 s126.terms :: o_3 v130 s126.sizes :: o_3 v128 s126.ids :: obC b30 [v128, v130, v132] 26 :: obC b14 [.slice none 0 0, .slice none 0 0, .slice none 0 0] 26 :: []) := hH250
        obtain rfl := Oi ho207
        exact ⟨(v244, A249), ha248.sb, ⟨hH, hr209⟩⟩
       rintro ⟨v210, A215⟩ w212 ⟨hH216, hk213⟩ a ha214
       replace hr183 := Tr.trans hr183 hk213; replace hA := hk213.new
       replace hH : Hp _ _ _ (o_86 v210 s208 :: o_83 v132 s126.terms :: o_3 v130 s126.sizes :: o_3 v128 s126.ids :: obC b30 [v128, v130, v132] 26 :: obC b14 [.slice none 0 0, .slice none 0 0, .slice none 0 0] 26 :: []) := hH216
       refine C_at (n := ⟨87, [], none⟩) (fun _ _ => rfl) ?_ ha214
       refine C_region (Vy (Y_addI rfl rfl) (Mm ?_))
       obtain rfl := Oi h199
       refine V_end (fun a ha316 => ?_)
       exact ⟨s208, hlt202, h200, ⟨(v210, A215), ha316.sub ⟨rfl, rfl, rfl, rfl, rfl, rfl, rfl, rfl, rfl, rfl, Ws hlt202 hn205, trivial⟩, ⟨hH, hr183⟩⟩⟩
      refine C_exit (fun a ha317 => ?_)
      exact ⟨(s192, v194, A196), ha317.sb, ⟨(h203 (eq_of_dec hle201 hc206)).symm, hH, hr183⟩⟩
     rintro ⟨s182, v188, A190⟩ w185 ⟨rfl, hH191, hk186⟩ a ha187
     rw [Lp.andThen_fin] at ho145
     replace h174 := El.tr h174 hk186; replace hr147 := Tr.trans hr147 hk186; replace hB := Nat.le_trans hB hk186.ex.size; replace hA := hk186.new
     replace hH : Hp _ _ _ (o_86 v188 s182 :: o_83 v132 s126.terms :: o_3 v130 s126.sizes :: o_3 v128 s126.ids :: obC b30 [v128, v130, v132] 26 :: obC b14 [.slice none 0 0, .slice none 0 0, .slice none 0 0] 26 :: []) := hH191
     refine C_at (n := ⟨87, [], none⟩) (fun _ _ => rfl) ?_ ha187
     refine Sr (Mm (Vy (Y_lenSl (Hp.any (α := know_Posting) (e := 86) (v := v188) (l := s182) hH (i := 0) rfl) rfl underlying81 rfl) (Vy (Y_gtr rfl rfl) (To ?_))))
     obtain ⟨A319, ht320, h321, hH322⟩ := Hp.freeze (Dw := Dw) (α := know_Posting) (v := v188) (l := s182) hH (i := 0) rfl hA
     replace h174 := El.tr h174 ht320; replace hr147 := Tt hr147 ht320; replace hB := Bx hB ht320; replace hA := ht320.new
     replace hH : Hp _ _ _ (o_83 v132 s126.terms :: o_3 v130 s126.sizes :: o_3 v128 s126.ids :: obC b30 [v128, v130, v132] 26 :: obC b14 [.slice none 0 0, .slice none 0 0, .slice none 0 0] 26 :: []) := hH322
     obtain ⟨s325, ho324, ho145⟩ := Bs ho145
     refine C_cutG (ι := (Value × Value × Value × (Nat → Prop))) (fun ⟨v327, v329, v331, A336⟩ => [(1, Ii id_), (4, Pt b14), (5, Pt b30), (43, v108), (44, Ii (x.terms.length : Int)), (45, Ii (k114 : Int))]) (fun ⟨v327, v329, v331, A336⟩ => fun w' => Hp w.heap.size A336 w' (o_83 v331 s325.terms :: o_3 v329 s325.sizes :: o_3 v327 s325.ids :: obC b30 [v327, v329, v331] 26 :: obC b14 [.slice none 0 0, .slice none 0 0, .slice none 0 0] 26 :: []) ∧ Tr Dw w.heap.size A319 w185 A336 w') ?_ ?_
     ·have hr326 : Tr Dw w.heap.size A319 w185 A319 w185 := Tr.refl (Dw := Dw) hA
      refine Cc (fun hc338 => ?_) fun hc338 => ?_
      ·rw [if_pos hc338] at ho324
       refine C_region (Vy (Y_fieldAddrC (off2 := 2) underlying26 rfl sizeOf24 (by decide) rfl rfl) (Ld (Hp.cell (j := 2) hH (i := 3) rfl rfl) isAgg24 ?_))
       have h339 := El_know_Term_0 h174
       refine Fa underlying83 rfl sizeOf9 (Ld (El.str h339) isAgg9 (Mm ?_))
       refine Vy (Y_build (cells := #[.string x159.word, v188]) underlying83 zeroValue83 (Tryz_places83 _ underlying83) rfl (by obtain ⟨a340, c341, e342, _⟩ := Sl.form h321; subst e342; with_unfolding_all rfl)) ?_
       refine V_buildSlice (Dw := Dw) (cells := #[.string x159.word, v188]) (l := ([(⟨x159.word, s182⟩ : know_Term)] : List know_Term)) (len := 1) underlying24 sizeOf83 zeroValue83 rfl (by obtain ⟨a347, c348, e349, _⟩ := Sl.form h321; subst e349; kernel_rfl) (show (1 * 2 : Nat) ≠ 0 by decide) (show (1 * 2 : Nat) ≤ 2 ^ 24 by decide) hA ⟨[.string x159.word, v188], _, rfl, ⟨[.string x159.word], _, rfl, rfl, ⟨_, rfl, h321⟩⟩, rfl⟩ rfl rfl ?_
       intro v343 w344 hk346 h345
       have ht350 := Kp.tr hk346 hA hB; replace hH := Hp.kp hH hk346; replace hr326 := Tt hr326 ht350; replace hB := Bx hB ht350; replace hA := ht350.new
       obtain ⟨x351, hx351, ho324⟩ := Bs ho324
       refine V_appendH (Dw := Dw) (e := 83) (v := v132) (l := s126.terms) (ti := t83) (bytes := 40) (lim := 3518437208883) hH (i := 0) rfl h345 hx351 underlying24 Tryz_info83 rfl rfl rfl rfl (by decide) (by decide) (by decide) hB hA rfl rfl rfl ?_
       intro v352 w353 A354 hH355 ht356
       replace hr326 := Tt hr326 ht356; replace hB := Bx hB ht356; replace hA := ht356.new
       replace hH : Hp _ _ _ (o_83 v352 x351 :: o_3 v130 s126.sizes :: o_3 v128 s126.ids :: obC b30 [v128, v130, v132] 26 :: obC b14 [.slice none 0 0, .slice none 0 0, .slice none 0 0] 26 :: []) := hH355
       refine Vy (Y_fieldAddrC (off2 := 2) underlying26 rfl sizeOf24 (by decide) rfl rfl) ?_
       have h362 : (v352).oneCell' = true := by obtain ⟨_, _, e, _⟩ := Sl.form (Hp.any (α := know_Term) (e := 83) (v := v352) (l := x351) hH (i := 0) rfl); rw [e]; rfl
       refine V_storeC (Dw := Dw) (off := 2) (ds := [v128, v130, v352]) hH (i := 3) rfl sizeOf24 (by show (v352 : Value).cells.size = _; rw [← Array.length_toList, Value.cells_one h362]; rfl) (Nat.le_of_ble_eq_true rfl) (by intro u hu; change u ∈ (v352 : Value).cells.toList at hu; rw [Value.cells_one h362] at hu; simp at hu; subst hu; assumption) (by show _ ++ (v352 : Value).cells.toList ++ _ = _; rw [Value.cells_one h362]; rfl) hB hA rfl rfl ?_
       intro w357 hH358 ht359
       replace hr326 := Tt hr326 ht359
       replace hH : Hp _ _ _ (o_83 v352 x351 :: o_3 v130 s126.sizes :: o_3 v128 s126.ids :: obC b30 [v128, v130, v352] 26 :: obC b14 [.slice none 0 0, .slice none 0 0, .slice none 0 0] 26 :: []) := hH358
       obtain rfl := Oi ho324
       refine V_end (fun a ha363 => ?_)
       exact ⟨(v128, v130, v352, A354), ha363.sb, ⟨hH, hr326⟩⟩
      rw [if_neg (nt hc338)] at ho324
      obtain rfl := Oi ho324
      refine C_skip (fun a ha364 => ?_)
      exact ⟨(v128, v130, v132, A319), ha364.sb, ⟨hH, hr326⟩⟩
     rintro ⟨v327, v329, v331, A336⟩ w333 ⟨hH337, hk334⟩ a ha335
     replace hr147 := Tr.trans hr147 hk334; replace hA := hk334.new
     replace hH : Hp _ _ _ (o_83 v331 s325.terms :: o_3 v329 s325.sizes :: o_3 v327 s325.ids :: obC b30 [v327, v329, v331] 26 :: obC b14 [.slice none 0 0, .slice none 0 0, .slice none 0 0] 26 :: []) := hH337
     obtain rfl := Oi ho145
     exact ⟨(v327, v329, v331, A336), ha335.sb, ⟨hH, hr147⟩⟩
    rintro ⟨v148, v150, v152, A157⟩ w154 ⟨hH158, hk155⟩ a ha156
    replace hr113 := Tr.trans hr113 hk155; replace hA := hk155.new
    replace hH : Hp _ _ _ (o_83 v152 s146.terms :: o_3 v150 s146.sizes :: o_3 v148 s146.ids :: obC b30 [v148, v150, v152] 26 :: obC b14 [.slice none 0 0, .slice none 0 0, .slice none 0 0] 26 :: []) := hH158
    refine C_at (n := ⟨87, [], none⟩) (fun _ _ => rfl) ?_ ha156
    refine C_region (Vy (Y_addI rfl rfl) (Mm ?_))
    obtain rfl := Oi h137
    refine V_end (fun a ha366 => ?_)
    exact ⟨s146, hlt140, h138, ⟨(v148, v150, v152, A157), ha366.sub ⟨rfl, rfl, rfl, rfl, rfl, Ws hlt140 hn143, trivial⟩, ⟨hH, hr113⟩⟩⟩
   refine C_exit (fun a ha367 => ?_)
   exact ⟨(s126, v128, v130, v132, A134), ha367.sb, ⟨(h141 (eq_of_dec hle139 hc144)).symm, hH, hr113⟩⟩
  rintro ⟨s112, v118, v120, v122, A124⟩ w115 ⟨rfl, hH125, hk116⟩ a ha117
  rw [Lp.andThen_fin] at hm
  replace hK := Tr.trans hK hk116; replace hB := Nat.le_trans hB hk116.ex.size; replace hA := hk116.new
  replace hH : Hp _ _ _ (o_83 v122 s112.terms :: o_3 v120 s112.sizes :: o_3 v118 s112.ids :: obC b30 [v118, v120, v122] 26 :: obC b14 [.slice none 0 0, .slice none 0 0, .slice none 0 0] 26 :: []) := hH125
  refine C_at (n := ⟨87, [], none⟩) (fun _ _ => rfl) ?_ ha117
  refine Sr (Vy (Y_loadA (Hp.part (off := 0) (n := 3) (ds := [v118, v120, v122]) hH (i := 3) rfl rfl) isAgg26 sizeOf26 rfl) ?_)
  obtain ⟨A369, ht370, h371, hH372⟩ := Hp.freeze (Dw := Dw) (α := Int) (v := v118) (l := s112.ids) hH (i := 2) rfl hA
  replace hK := Tt hK ht370; replace hB := Bx hB ht370; replace hA := ht370.new
  replace hH : Hp _ _ _ (o_83 v122 s112.terms :: o_3 v120 s112.sizes :: obC b30 [v118, v120, v122] 26 :: obC b14 [.slice none 0 0, .slice none 0 0, .slice none 0 0] 26 :: []) := hH372
  obtain ⟨A374, ht375, h376, hH377⟩ := Hp.freeze (Dw := Dw) (α := Int) (v := v120) (l := s112.sizes) hH (i := 1) rfl hA
  replace h371 := Sl.tr h371 ht375; replace hK := Tt hK ht375; replace hB := Bx hB ht375; replace hA := ht375.new
  replace hH : Hp _ _ _ (o_83 v122 s112.terms :: obC b30 [v118, v120, v122] 26 :: obC b14 [.slice none 0 0, .slice none 0 0, .slice none 0 0] 26 :: []) := hH377
  obtain ⟨A379, ht380, h381, hH382⟩ := Hp.freeze (Dw := Dw) (α := know_Term) (v := v122) (l := s112.terms) hH (i := 0) rfl hA
  replace h371 := Sl.tr h371 ht380; replace h376 := Sl.tr h376 ht380; replace hK := Tt hK ht380; replace hB := Bx hB ht380; replace hA := ht380.new
  replace hH : Hp _ _ _ (obC b30 [v118, v120, v122] 26 :: obC b14 [.slice none 0 0, .slice none 0 0, .slice none 0 0] 26 :: []) := hH382
  have h389 : (v118).oneCell' = true := by obtain ⟨_, _, e, _⟩ := Sl.form h371; rw [e]; rfl
  have h392 : (v120).oneCell' = true := by obtain ⟨_, _, e, _⟩ := Sl.form h376; rw [e]; rfl
  have h395 : (v122).oneCell' = true := by obtain ⟨_, _, e, _⟩ := Sl.form h381; rw [e]; rfl
  refine V_storeC (Dw := Dw) (off := 0) (ds := [v118, v120, v122]) hH (i := 1) rfl sizeOf26 rfl (Nat.le_of_ble_eq_true rfl) (by exact (List.forall_mem_cons.2 ⟨h389, (List.forall_mem_cons.2 ⟨h392, (List.forall_mem_cons.2 ⟨h395, (fun _ h => nomatch h)⟩)⟩)⟩)) rfl hB hA rfl rfl ?_
  intro w384 hH385 ht386
  replace h371 := Sl.tr h371 ht386; replace h376 := Sl.tr h376 ht386; replace h381 := Sl.tr h381 ht386; replace hK := Tt hK ht386
  replace hH : Hp _ _ _ (obC b30 [v118, v120, v122] 26 :: obC b14 [v118, v120, v122] 26 :: []) := hH385
  refine To ?_
  obtain rfl := Oi hm
  refine C_ret ?_
  try simp only [↓ib, ↓th]
  exact retQ rfl (Res.l1 results50 (RL.cell rfl (loadVar_agg (Hp.part (off := 0) (n := 3) (ds := [v118, v120, v122]) hH (i := 1) rfl rfl) isAgg26 sizeOf26))) ⟨v118, v120, v122, rfl, (Sl.out (Dw := Dw) h371 hA0 hK), (Sl.out (Dw := Dw) h376 hA0 hK), (Sl.out (Dw := Dw) h381 hA0 hK), hK.kp⟩
 obtain ⟨x396, hx396, hm⟩ := Bs hm
 refine Vc call76 (slices_Clone_Lint_int_c (Dw := Dw) w19 hA x.ids v23 h25 hx396) ?_
 rintro v397 w399 ⟨_, rfl, h398, hk400⟩
 obtain ⟨A401, ht402, hH403⟩ := Hp.addOwnd (Dw := Dw) hH hB hA hk400 h398
 replace h11 := El.tr h11 ht402; replace h29 := Sl.tr h29 ht402; replace hK := Tt hK ht402; replace hB := Bx hB ht402; replace hA := ht402.new
 replace hH : Hp _ _ _ (o_3 v397 x396 :: obC b14 [.slice none 0 0, .slice none 0 0, .slice none 0 0] 26 :: []) := hH403
 refine V_CHZ (hk400) ?_
 refine CHZ_l1 (k := 0) [(2, 7), (2, 5), (1, 6), (4, 8)] rfl ?_ rfl ?_
 ·refine CH_l1 (k := 0) rfl ?_
  refine V_allocHk (Dw := Dw) (B := w.heap.size) hH zeroValue26 hB hA rfl ?_
  intro b404 w405 A406 hk409 hH407 ht408
  replace h11 := El.tr h11 ht408; replace h29 := Sl.tr h29 ht408; replace hK := Tt hK ht408; replace hB := Bx hB ht408; replace hA := ht408.new
  replace hH : Hp _ _ _ (obC b404 [.slice none 0 0, .slice none 0 0, .slice none 0 0] 26 :: o_3 v397 x396 :: obC b14 [.slice none 0 0, .slice none 0 0, .slice none 0 0] 26 :: []) := hH407
  refine V_CH (hk409) ?_
  refine CH_l1 (k := 0) rfl ?_
  obtain ⟨x410, hx410, hm⟩ := Bs hm
  refine Vc call76 (slices_Clone_Lint_int_c (Dw := Dw) w405 hA x.sizes v27 h29 hx410) ?_
  rintro v411 w413 ⟨_, rfl, h412, hk414⟩
  obtain ⟨A415, ht416, hH417⟩ := Hp.addOwnd (Dw := Dw) hH hB hA hk414 h412
  replace h11 := El.tr h11 ht416; replace hK := Tt hK ht416; replace hB := Bx hB ht416; replace hA := ht416.new
  replace hH : Hp _ _ _ (o_3 v411 x410 :: obC b404 [.slice none 0 0, .slice none 0 0, .slice none 0 0] 26 :: o_3 v397 x396 :: obC b14 [.slice none 0 0, .slice none 0 0, .slice none 0 0] 26 :: []) := hH417
  refine V_CH (hk414) ?_
  refine CH_q2 rfl ?_
  refine Qv (fun w' hw' => Y_build (cells := #[v397, v411, .slice none 0 0]) underlying26 zeroValue26 (Tryz_places26 _ underlying26) rfl (by obtain ⟨a418, c419, e420, _⟩ := Sl.form (Hp.any (α := Int) (e := 3) (v := v397) (l := x396) hH (i := 2) rfl); subst e420; obtain ⟨a421, c422, e423, _⟩ := Sl.form (Hp.any (α := Int) (e := 3) (v := v411) (l := x410) hH (i := 0) rfl); subst e423; with_unfolding_all rfl)) (VQ_CH ?_)
  refine CH_l1 (k := 2) rfl ?_
  have h429 : (v397).oneCell' = true := by obtain ⟨_, _, e, _⟩ := Sl.form (Hp.any (α := Int) (e := 3) (v := v397) (l := x396) hH (i := 2) rfl); rw [e]; rfl
  have h432 : (v411).oneCell' = true := by obtain ⟨_, _, e, _⟩ := Sl.form (Hp.any (α := Int) (e := 3) (v := v411) (l := x410) hH (i := 0) rfl); rw [e]; rfl
  refine V_storeC (Dw := Dw) (off := 0) (ds := [v397, v411, .slice none 0 0]) hH (i := 1) rfl sizeOf26 rfl (Nat.le_of_ble_eq_true rfl) (by exact (List.forall_mem_cons.2 ⟨h429, (List.forall_mem_cons.2 ⟨h432, (List.forall_mem_cons.2 ⟨rfl, (fun _ h => nomatch h)⟩)⟩)⟩)) rfl hB hA rfl rfl ?_
  intro w424 hH425 ht426
  replace h11 := El.tr h11 ht426; replace hK := Tt hK ht426; replace hB := Bx hB ht426; replace hA := ht426.new
  replace hH : Hp _ _ _ (o_3 v411 x410 :: obC b404 [v397, v411, .slice none 0 0] 26 :: o_3 v397 x396 :: obC b14 [.slice none 0 0, .slice none 0 0, .slice none 0 0] 26 :: []) := hH425
  refine V_CHw ?_
  refine CH_tail ?_
  show V _ _ _ _ [] _ _
  refine To ?_
  refine C_seq (Sr (Vy (Y_fieldAddrC (off2 := 0) underlying26 rfl sizeOf23 (by decide) rfl rfl) (Ld (Hp.cell (j := 0) hH (i := 1) rfl rfl) isAgg23 (Mm ?_))))
  obtain ⟨x433, hx433, hm⟩ := Bs hm
  refine Vc call52 (slices_BinarySearch_Lint_int_c w424 x396 v397 (Hp.any (α := Int) (e := 3) (v := v397) (l := x396) hH (i := 2) rfl) id_ hx433) ?_
  rintro _ _ ⟨rfl, rfl⟩
  refine Mm (Vy (Y_extract rfl rfl) (Vy (Y_extract rfl rfl) (As (As (To ?_)))))
  refine Sr (Mm (To ?_))
  obtain ⟨s435, ho434, hm⟩ := Bs hm
  refine C_cutG (ι := (Value × Value × Value × (Nat → Prop))) (fun ⟨v437, v439, v441, A446⟩ => [(1, Ii id_), (2, Pt b7), (4, Pt b14), (5, Pt b404)]) (fun ⟨v437, v439, v441, A446⟩ => fun w' => Hp w.heap.size A446 w' (o_83 v441 s435.terms :: o_3 v439 s435.sizes :: obC b404 [v437, v439, v441] 26 :: o_3 v437 s435.ids :: obC b14 [.slice none 0 0, .slice none 0 0, .slice none 0 0] 26 :: []) ∧ Tr Dw w.heap.size A415 w424 A446 w') ?_ ?_
  ·have hr436 : Tr Dw w.heap.size A415 w424 A415 w424 := Tr.refl (Dw := Dw) hA
   refine Cc (fun hc448 => ?_) fun hc448 => ?_
   ·rw [if_pos hc448] at ho434
    refine Sr (Vy (Y_fieldAddrC (off2 := 0) underlying26 rfl sizeOf23 (by decide) rfl rfl) (Ld (Hp.cell (j := 0) hH (i := 1) rfl rfl) isAgg23 (Mm (Mm (Vy (Y_addI rfl rfl) ?_)))))
    obtain ⟨x449, hx449, ho434⟩ := Bs ho434
    refine Vc call85 (Tryz_cp85 (Dw := Dw) hH (i := 2) rfl hB hA hx449) ?_
    rintro v453 w450 ⟨_, rfl, hH451, ht452⟩
    replace hr436 := Tt hr436 ht452; replace hB := Bx hB ht452; replace hA := ht452.new
    replace hH : Hp _ _ _ (o_3 v411 x410 :: obC b404 [v397, v411, .slice none 0 0] 26 :: o_3 v453 x449 :: obC b14 [.slice none 0 0, .slice none 0 0, .slice none 0 0] 26 :: []) := hH451
    refine Vy (Y_fieldAddrC (off2 := 0) underlying26 rfl sizeOf23 (by decide) rfl rfl) ?_
    have h459 : (v453).oneCell' = true := by obtain ⟨_, _, e, _⟩ := Sl.form (Hp.any (α := Int) (e := 3) (v := v453) (l := x449) hH (i := 2) rfl); rw [e]; rfl
    refine V_storeC (Dw := Dw) (off := 0) (ds := [v453, v411, .slice none 0 0]) hH (i := 1) rfl sizeOf23 (by show (v453 : Value).cells.size = _; rw [← Array.length_toList, Value.cells_one h459]; rfl) (Nat.le_of_ble_eq_true rfl) (by intro u hu; change u ∈ (v453 : Value).cells.toList at hu; rw [Value.cells_one h459] at hu; simp at hu; subst hu; assumption) (by show _ ++ (v453 : Value).cells.toList ++ _ = _; rw [Value.cells_one h459]; rfl) hB hA rfl rfl ?_
    intro w454 hH455 ht456
    replace hr436 := Tt hr436 ht456; replace hB := Bx hB ht456; replace hA := ht456.new
    replace hH : Hp _ _ _ (o_3 v411 x410 :: obC b404 [v453, v411, .slice none 0 0] 26 :: o_3 v453 x449 :: obC b14 [.slice none 0 0, .slice none 0 0, .slice none 0 0] 26 :: []) := hH455
    refine To ?_
    refine C_region (Vy (Y_fieldAddrC (off2 := 1) underlying26 rfl sizeOf23 (by decide) rfl rfl) (Ld (Hp.cell (j := 1) hH (i := 1) rfl rfl) isAgg23 (Mm (Mm (Vy (Y_addI rfl rfl) ?_)))))
    obtain ⟨x460, hx460, ho434⟩ := Bs ho434
    refine Vc call85 (Tryz_cp85 (Dw := Dw) hH (i := 0) rfl hB hA hx460) ?_
    rintro v464 w461 ⟨_, rfl, hH462, ht463⟩
    replace hr436 := Tt hr436 ht463; replace hB := Bx hB ht463; replace hA := ht463.new
    replace hH : Hp _ _ _ (o_3 v464 x460 :: obC b404 [v453, v411, .slice none 0 0] 26 :: o_3 v453 x449 :: obC b14 [.slice none 0 0, .slice none 0 0, .slice none 0 0] 26 :: []) := hH462
    refine Vy (Y_fieldAddrC (off2 := 1) underlying26 rfl sizeOf23 (by decide) rfl rfl) ?_
    have h470 : (v464).oneCell' = true := by obtain ⟨_, _, e, _⟩ := Sl.form (Hp.any (α := Int) (e := 3) (v := v464) (l := x460) hH (i := 0) rfl); rw [e]; rfl
    refine V_storeC (Dw := Dw) (off := 1) (ds := [v453, v464, .slice none 0 0]) hH (i := 1) rfl sizeOf23 (by show (v464 : Value).cells.size = _; rw [← Array.length_toList, Value.cells_one h470]; rfl) (Nat.le_of_ble_eq_true rfl) (by intro u hu; change u ∈ (v464 : Value).cells.toList at hu; rw [Value.cells_one h470] at hu; simp at hu; subst hu; assumption) (by show _ ++ (v464 : Value).cells.toList ++ _ = _; rw [Value.cells_one h470]; rfl) hB hA rfl rfl ?_
    intro w465 hH466 ht467
    replace hr436 := Tt hr436 ht467
    replace hH : Hp _ _ _ (o_3 v464 x460 :: obC b404 [v453, v464, .slice none 0 0] 26 :: o_3 v453 x449 :: obC b14 [.slice none 0 0, .slice none 0 0, .slice none 0 0] 26 :: []) := hH466
    obtain rfl := Oi ho434
    refine V_end (fun a ha471 => ?_)
    replace hH : Hp w.heap.size A415 w465 (o_83 (.slice none 0 0) ([] : (List know_Term)) :: o_3 v464 x460 :: obC b404 [v453, v464, .slice none 0 0] 26 :: o_3 v453 x449 :: obC b14 [.slice none 0 0, .slice none 0 0, .slice none 0 0] 26 :: []) := Hp.addNil (α := know_Term) (e := 83) hH
    exact ⟨(v453, v464, .slice none 0 0, A415), ha471.sb, ⟨hH, hr436⟩⟩
   rw [if_neg (nt hc448)] at ho434
   obtain rfl := Oi ho434
   refine C_skip (fun a ha472 => ?_)
   replace hH : Hp w.heap.size A415 w424 (o_83 (.slice none 0 0) ([] : (List know_Term)) :: o_3 v411 x410 :: obC b404 [v397, v411, .slice none 0 0] 26 :: o_3 v397 x396 :: obC b14 [.slice none 0 0, .slice none 0 0, .slice none 0 0] 26 :: []) := Hp.addNil (α := know_Term) (e := 83) hH
   exact ⟨(v397, v411, .slice none 0 0, A415), ha472.sb, ⟨hH, hr436⟩⟩
  rintro ⟨v437, v439, v441, A446⟩ w443 ⟨hH447, hk444⟩ a ha445
  replace h11 := El.tr h11 hk444; replace hK := Tr.trans hK hk444; replace hB := Nat.le_trans hB hk444.ex.size; replace hA := hk444.new
  replace hH : Hp _ _ _ (o_83 v441 s435.terms :: o_3 v439 s435.sizes :: obC b404 [v437, v439, v441] 26 :: o_3 v437 s435.ids :: obC b14 [.slice none 0 0, .slice none 0 0, .slice none 0 0] 26 :: []) := hH447
  refine C_at (n := ⟨87, [], none⟩) (fun _ _ => rfl) ?_ ha445
  refine C_seq (Sr ?_)
  have h473 := El_know_Index_2 h11
  refine Fa underlying26 rfl sizeOf24 ?_
  obtain ⟨v474, h475, h476⟩ := El.list h473
  refine Ld h475 isAgg24 (Vy (Y_lenSl h476 rfl underlying24 rfl) (Mm (To ?_)))
  have hn509 := Sl.le h476
  obtain ⟨o477, ho477, hm⟩ := Bs hm
  refine C_cutG (ι := (know_Index × Value × Value × Value × (Nat → Prop))) (fun ⟨s478, v484, v486, v488, A490⟩ => [(4, Pt b14), (5, Pt b404)]) (fun ⟨s478, v484, v486, v488, A490⟩ => fun w' => o477 = .fin s478 ∧ Hp w.heap.size A490 w' (o_83 v488 s478.terms :: o_3 v486 s478.sizes :: obC b404 [v484, v486, v488] 26 :: o_3 v484 s478.ids :: obC b14 [.slice none 0 0, .slice none 0 0, .slice none 0 0] 26 :: []) ∧ Tr Dw w.heap.size A446 w443 A490 w') ?_ ?_
  ·refine C_block ?_
   refine C_range ho477 (fun k480 s492 a w' => ∃ i : (Value × Value × Value × (Nat → Prop)), Has ⟨87, [], none⟩ a ([(1, Ii id_), (4, Pt b14), (5, Pt b404), (43, v474), (44, Ii (x.terms.length : Int)), (45, Ii (k480 : Int))]) ∧ Hp w.heap.size i.2.2.2 w' (o_83 i.2.2.1 s492.terms :: o_3 i.2.1 s492.sizes :: obC b404 [i.1, i.2.1, i.2.2.1] 26 :: o_3 i.1 s492.ids :: obC b14 [.slice none 0 0, .slice none 0 0, .slice none 0 0] 26 :: []) ∧ Tr Dw w.heap.size A446 w443 i.2.2.2 w') (fun a ha => ⟨(v437, v439, v441, A446), ha.sb, ⟨hH, Tr.refl (Dw := Dw) hA⟩⟩) ?_
   rintro K k480 s492 a w493 ⟨⟨v494, v496, v498, A500⟩, ha734, hH501, hr479⟩ hle505 K508 h507
   refine C_of ?_ ha734
   replace h476 := Sl.tr h476 hr479; replace hB := Bx hB hr479; replace hA := hr479.new
   replace hH : Hp _ _ _ (o_83 v498 s492.terms :: o_3 v496 s492.sizes :: obC b404 [v494, v496, v498] 26 :: o_3 v494 s492.ids :: obC b14 [.slice none 0 0, .slice none 0 0, .slice none 0 0] 26 :: []) := hH501
   refine Sr (Vy (Y_lss rfl rfl) (To ?_))
   refine C_seq ?_
   refine Cc (fun hc510 => ?_) fun hc510 => ?_
   ·have hlt506 := lt_of_dec hc510
    obtain ⟨x502, h503, h504⟩ := K508 hlt506
    refine Sk ?_
    refine C_seq ?_
    obtain ⟨s512, ho511, h503⟩ := Bs h503
    refine C_cutG (ι := (Value × Value × Value × (Nat → Prop))) (fun ⟨v514, v516, v518, A523⟩ => [(1, Ii id_), (4, Pt b14), (5, Pt b404), (43, v474), (44, Ii (x.terms.length : Int)), (45, Ii (k480 : Int))]) (fun ⟨v514, v516, v518, A523⟩ => fun w' => Hp w.heap.size A523 w' (o_83 v518 s512.terms :: o_3 v516 s512.sizes :: obC b404 [v514, v516, v518] 26 :: o_3 v514 s512.ids :: obC b14 [.slice none 0 0, .slice none 0 0, .slice none 0 0] 26 :: []) ∧ Tr Dw w.heap.size A500 w493 A523 w') ?_ ?_
    ·have hr513 : Tr Dw w.heap.size A500 w493 A500 w493 := Tr.refl (Dw := Dw) hA
     refine C_block (Sr ?_)
     obtain ⟨x525, hx525, ho511⟩ := Bs ho511
     refine V_indexAddr h476 hx525 underlying24 sizeOf83 rfl rfl rfl ?_
     intro b526 o527 h528
     obtain ⟨v529, h531, h530⟩ := El_know_Term h528
     refine Vy (Y_loadA h531 isAgg83 sizeOf83 rfl) ?_
     refine V_alloc zeroValue83 rfl ?_
     intro b532 w533 h534
     have h539 : (v529).oneCell' = true := by obtain ⟨_, _, e, _⟩ := Sl.form h530; rw [e]; rfl
     refine Sn h534 sizeOf83 ?_
     intro w535 h536
     have hk541 := h536.kp (Dw := Dw)
     have h540 : El (α := know_Term) A500 w535 b532 0 x525 := h536.el hA ⟨[.string x525.word], _, rfl, rfl, ⟨_, rfl, h530⟩⟩
     have ht542 := Kp.tr hk541 hA hB; replace hH := Hp.kp hH hk541; replace hr513 := Tt hr513 ht542; replace hB := Bx hB ht542; replace hA := ht542.new
     refine To ?_
     refine Sr (As (To ?_))
     refine C_seq (Sr ?_)
     have h543 := El_know_Term_1 h540
     refine Fa underlying83 rfl sizeOf81 ?_
     obtain ⟨v544, h545, h546⟩ := El.list h543
     refine Ld h545 isAgg81 (Vy (Y_lenSl h546 rfl underlying81 rfl) (Mm (To ?_)))
     replace hH : Hp w.heap.size A500 w535 (o_86 (.slice none 0 0) ([] : (List know_Posting)) :: o_83 v498 s492.terms :: o_3 v496 s492.sizes :: obC b404 [v494, v496, v498] 26 :: o_3 v494 s492.ids :: obC b14 [.slice none 0 0, .slice none 0 0, .slice none 0 0] 26 :: []) := Hp.addNil (α := know_Posting) (e := 86) hH
     have hn571 := Sl.le h546
     obtain ⟨o547, ho547, ho511⟩ := Bs ho511
     refine C_cutG (ι := ((List know_Posting) × Value × (Nat → Prop))) (fun ⟨s548, v554, A556⟩ => [(1, Ii id_), (4, Pt b14), (5, Pt b404), (9, Pt b532), (10, v554), (43, v474), (44, Ii (x.terms.length : Int)), (45, Ii (k480 : Int))]) (fun ⟨s548, v554, A556⟩ => fun w' => o547 = .fin s548 ∧ Hp w.heap.size A556 w' (o_86 v554 s548 :: o_83 v498 s492.terms :: o_3 v496 s492.sizes :: obC b404 [v494, v496, v498] 26 :: o_3 v494 s492.ids :: obC b14 [.slice none 0 0, .slice none 0 0, .slice none 0 0] 26 :: []) ∧ Tr Dw w.heap.size A500 w535 A556 w') ?_ ?_
     ·refine C_block ?_
      refine C_range ho547 (fun k550 s558 a w' => ∃ i : (Value × (Nat → Prop)), Has ⟨87, [], none⟩ a ([(1, Ii id_), (4, Pt b14), (5, Pt b404), (9, Pt b532), (10, i.1), (43, v474), (44, Ii (x.terms.length : Int)), (45, Ii (k480 : Int)), (50, v544), (51, Ii (x525.list_.length : Int)), (52, Ii (k550 : Int))]) ∧ Hp w.heap.size i.2 w' (o_86 i.1 s558 :: o_83 v498 s492.terms :: o_3 v496 s492.sizes :: obC b404 [v494, v496, v498] 26 :: o_3 v494 s492.ids :: obC b14 [.slice none 0 0, .slice none 0 0, .slice none 0 0] 26 :: []) ∧ Tr Dw w.heap.size A500 w535 i.2 w') (fun a ha => ⟨(.slice none 0 0, A500), ha.sb, ⟨hH, Tr.refl (Dw := Dw) hA⟩⟩) ?_
      rintro K k550 s558 a w559 ⟨⟨v560, A562⟩, ha684, hH563, hr549⟩ hle567 K570 h569
      refine C_of ?_ ha684
      replace h546 := Sl.tr h546 hr549; replace hB := Bx hB hr549; replace hA := hr549.new
      replace hH : Hp _ _ _ (o_86 v560 s558 :: o_83 v498 s492.terms :: o_3 v496 s492.sizes :: obC b404 [v494, v496, v498] 26 :: o_3 v494 s492.ids :: obC b14 [.slice none 0 0, .slice none 0 0, .slice none 0 0] 26 :: []) := hH563
      refine Sr (Vy (Y_lss rfl rfl) (To ?_))
      refine C_seq ?_
      refine Cc (fun hc572 => ?_) fun hc572 => ?_
      ·have hlt568 := lt_of_dec hc572
       obtain ⟨x564, h565, h566⟩ := K570 hlt568
       refine Sk ?_
       refine C_seq ?_
       obtain ⟨s574, ho573, h565⟩ := Bs h565
       refine C_cutG (ι := (Value × (Nat → Prop))) (fun ⟨v576, A581⟩ => [(1, Ii id_), (4, Pt b14), (5, Pt b404), (9, Pt b532), (10, v576), (43, v474), (44, Ii (x.terms.length : Int)), (45, Ii (k480 : Int)), (50, v544), (51, Ii (x525.list_.length : Int)), (52, Ii (k550 : Int))]) (fun ⟨v576, A581⟩ => fun w' => Hp w.heap.size A581 w' (o_86 v576 s574 :: o_83 v498 s492.terms :: o_3 v496 s492.sizes :: obC b404 [v494, v496, v498] 26 :: o_3 v494 s492.ids :: obC b14 [.slice none 0 0, .slice none 0 0, .slice none 0 0] 26 :: []) ∧ Tr Dw w.heap.size A562 w559 A581 w') ?_ ?_
       ·have hr575 : Tr Dw w.heap.size A562 w559 A562 w559 := Tr.refl (Dw := Dw) hA
        refine C_block (Sr ?_)
        obtain ⟨x583, hx583, ho573⟩ := Bs ho573
        refine V_indexAddr h546 hx583 underlying81 sizeOf86 rfl rfl rfl ?_
        intro b584 o585 h586
        obtain ⟨v587, v589, h591, h588, h590⟩ := El_know_Posting h586
        refine Vy (Y_loadA h591 isAgg86 sizeOf86 rfl) ?_
        refine V_alloc zeroValue86 rfl ?_
        intro b592 w593 h594
        have h599 : (v587).oneCell' = true := by obtain ⟨_, _, e, _⟩ := Sl.form h588; rw [e]; rfl
        have h602 : (v589).oneCell' = true := by obtain ⟨_, _, e, _⟩ := Sl.form h590; rw [e]; rfl
        refine Sn h594 sizeOf86 ?_
        intro w595 h596
        have hk604 := h596.kp (Dw := Dw)
        have h603 : El (α := know_Posting) A562 w595 b592 0 x583 := h596.el hA ⟨[Ii x583.id_], _, rfl, rfl, ⟨[v587], _, rfl, ⟨_, rfl, h588⟩, ⟨_, rfl, h590⟩⟩⟩
        have ht605 := Kp.tr hk604 hA hB; replace hH := Hp.kp hH hk604; replace hr575 := Tt hr575 ht605; replace hB := Bx hB ht605; replace hA := ht605.new
        refine To ?_
        refine Sr ?_
        have h606 := El_know_Posting_0 h603
        refine Fa underlying86 rfl sizeOf3 (Li h606 isAgg3 (Mm (Vy (Y_neq rfl rfl) (To ?_))))
        obtain ⟨s608, ho607, ho573⟩ := Bs ho573
        refine C_cutG (ι := (Value × (Nat → Prop))) (fun ⟨v610, A615⟩ => [(1, Ii id_), (4, Pt b14), (5, Pt b404), (9, Pt b532), (10, v610), (43, v474), (44, Ii (x.terms.length : Int)), (45, Ii (k480 : Int)), (50, v544), (51, Ii (x525.list_.length : Int)), (52, Ii (k550 : Int))]) (fun ⟨v610, A615⟩ => fun w' => Hp w.heap.size A615 w' (o_86 v610 s608 :: o_83 v498 s492.terms :: o_3 v496 s492.sizes :: obC b404 [v494, v496, v498] 26 :: o_3 v494 s492.ids :: obC b14 [.slice none 0 0, .slice none 0 0, .slice none 0 0] 26 :: []) ∧ Tr Dw w.heap.size A562 w595 A615 w') ?_ ?_
        ·have hr609 : Tr Dw w.heap.size A562 w595 A562 w595 := Tr.refl (Dw := Dw) hA
         refine Cc (fun hc617 => ?_) fun hc617 => ?_
         ·rw [if_pos hc617] at ho607
          refine C_region_ch (Dw := Dw) A562 13 [(1, 0), (1, 1), (1, 2), (1, 3), (1, 4), (1, 6), (1, 7), (2, 5), (2, 8), (1, 9), (2, 10), (4, 11), (1, 12)] Tryz_mixed (by kernel_rfl) (fun w618 hk619 => ?_)
          have ht620 := Kp.tr hk619 hA hB; replace hH := Hp.kp hH hk619; replace h603 := El.tr h603 ht620; replace hr609 := Tt hr609 ht620; replace hB := Bx hB ht620; replace hA := ht620.new
          refine CH_q2 rfl (Qm (VQ_CH (CH_q2 rfl ?_)))
          have h621 := El_know_Posting_0 h603
          refine Qf underlying86 rfl sizeOf3 (VQ_CH (CH_q2 rfl (Ql (fun w' hw' => (El.int (El.keep h621 (XA.ex hw')))) isAgg3 (VQ_CH (CH_q2 rfl ?_)))))
          have h622 := El_know_Posting_1 h603
          refine Qf underlying86 rfl sizeOf23 (VQ_CH (CH_q2 rfl ?_))
          obtain ⟨v623, h624, h625⟩ := El.list h622
          refine Ql (fun w' hw' => ((World.cell?_of_block (hw'.2 _ h622.2.1 h622.1)).trans h624)) isAgg23 (VQ_CH (CH_q2 rfl ?_))
          have h626 := El_know_Posting_2 h603
          refine Qf underlying86 rfl sizeOf23 (VQ_CH (CH_q2 rfl ?_))
          obtain ⟨v627, h628, h629⟩ := El.list h626
          refine Ql (fun w' hw' => ((World.cell?_of_block (hw'.2 _ h626.2.1 h626.1)).trans h628)) isAgg23 (VQ_CH ?_)
          refine CH_l1 (k := 0) rfl ?_
          obtain ⟨x630, hx630, ho607⟩ := Bs ho607
          refine Vc call76 (slices_Clone_Lint_int_c (Dw := Dw) w618 hA x583.title v623 h625 hx630) ?_
          rintro v631 w633 ⟨_, rfl, h632, hk634⟩
          obtain ⟨A635, ht636, hH637⟩ := Hp.addOwnd (Dw := Dw) hH hB hA hk634 h632
          replace h629 := Sl.tr h629 ht636; replace hr609 := Tt hr609 ht636; replace hB := Bx hB ht636; replace hA := ht636.new
          replace hH : Hp _ _ _ (o_3 v631 x630 :: o_86 v560 s558 :: o_83 v498 s492.terms :: o_3 v496 s492.sizes :: obC b404 [v494, v496, v498] 26 :: o_3 v494 s492.ids :: obC b14 [.slice none 0 0, .slice none 0 0, .slice none 0 0] 26 :: []) := hH637
          refine V_CH (hk634) ?_
          refine CH_l1 (k := 0) rfl ?_
          obtain ⟨x638, hx638, ho607⟩ := Bs ho607
          refine Vc call76 (slices_Clone_Lint_int_c (Dw := Dw) w633 hA x583.body v627 h629 hx638) ?_
          rintro v639 w641 ⟨_, rfl, h640, hk642⟩
          obtain ⟨A643, ht644, hH645⟩ := Hp.addOwnd (Dw := Dw) hH hB hA hk642 h640
          replace hr609 := Tt hr609 ht644; replace hB := Bx hB ht644; replace hA := ht644.new
          replace hH : Hp _ _ _ (o_3 v639 x638 :: o_3 v631 x630 :: o_86 v560 s558 :: o_83 v498 s492.terms :: o_3 v496 s492.sizes :: obC b404 [v494, v496, v498] 26 :: o_3 v494 s492.ids :: obC b14 [.slice none 0 0, .slice none 0 0, .slice none 0 0] 26 :: []) := hH645
          refine V_CH (hk642) ?_
          refine CH_q2 rfl ?_
          refine Qv (fun w' hw' => Y_build (cells := #[Ii x583.id_, v631, v639]) underlying86 zeroValue86 (Tryz_places86 _ underlying86) rfl (by obtain ⟨a646, c647, e648, _⟩ := Sl.form (Hp.any (α := Int) (e := 3) (v := v631) (l := x630) hH (i := 1) rfl); subst e648; obtain ⟨a649, c650, e651, _⟩ := Sl.form (Hp.any (α := Int) (e := 3) (v := v639) (l := x638) hH (i := 0) rfl); subst e651; with_unfolding_all rfl)) (VQ_CH ?_)
          refine CH_l1 (k := 0) rfl ?_
          obtain ⟨A652, ht653, h654, hH655⟩ := Hp.freeze (Dw := Dw) (α := Int) (v := v631) (l := x630) hH (i := 1) rfl hA
          replace hr609 := Tt hr609 ht653; replace hB := Bx hB ht653; replace hA := ht653.new
          replace hH : Hp _ _ _ (o_3 v639 x638 :: o_86 v560 s558 :: o_83 v498 s492.terms :: o_3 v496 s492.sizes :: obC b404 [v494, v496, v498] 26 :: o_3 v494 s492.ids :: obC b14 [.slice none 0 0, .slice none 0 0, .slice none 0 0] 26 :: []) := hH655
          obtain ⟨A657, ht658, h659, hH660⟩ := Hp.freeze (Dw := Dw) (α := Int) (v := v639) (l := x638) hH (i := 0) rfl hA
          replace h654 := Sl.tr h654 ht658; replace hr609 := Tt hr609 ht658; replace hB := Bx hB ht658; replace hA := ht658.new
          replace hH : Hp _ _ _ (o_86 v560 s558 :: o_83 v498 s492.terms :: o_3 v496 s492.sizes :: obC b404 [v494, v496, v498] 26 :: o_3 v494 s492.ids :: obC b14 [.slice none 0 0, .slice none 0 0, .slice none 0 0] 26 :: []) := hH660
          refine V_buildSlice (Dw := Dw) (cells := #[Ii x583.id_, v631, v639]) (l := ([(⟨x583.id_, x630, x638⟩ : know_Posting)] : List know_Posting)) (len := 1) underlying81 sizeOf86 zeroValue86 rfl (by obtain ⟨a666, c667, e668, _⟩ := Sl.form h654; subst e668; obtain ⟨a669, c670, e671, _⟩ := Sl.form h659; subst e671; kernel_rfl) (show (1 * 3 : Nat) ≠ 0 by decide) (show (1 * 3 : Nat) ≤ 2 ^ 24 by decide) hA ⟨[Ii x583.id_, v631, v639], _, rfl, ⟨[Ii x583.id_], _, rfl, rfl, ⟨[v631], _, rfl, ⟨_, rfl, h654⟩, ⟨_, rfl, h659⟩⟩⟩, rfl⟩ rfl rfl ?_
          intro v662 w663 hk665 h664
          have ht672 := Kp.tr hk665 hA hB; replace hH := Hp.kp hH hk665; replace hr609 := Tt hr609 ht672; replace hB := Bx hB ht672; replace hA := ht672.new
          refine V_CH (hk665) ?_
          refine CH_l1 (k := 2) rfl ?_
          obtain ⟨x673, hx673, ho607⟩ := Bs ho607
          refine V_appendH (Dw := Dw) (e := 86) (v := v560) (l := s558) (ti := t86) (bytes := 56) (lim := 2513169434916) hH (i := 0) rfl h664 hx673 underlying81 Tryz_info86 rfl rfl rfl rfl (by decide) (by decide) (by decide) hB hA rfl rfl rfl ?_
          intro v674 w675 A676 hH677 ht678
          replace hr609 := Tt hr609 ht678
          replace hH : Hp _ _ _ (o_86 v674 x673 :: o_83 v498 s492.terms :: o_3 v496 s492.sizes :: obC b404 [v494, v496, v498] 26 :: o_3 v494 s492.ids :: obC b14 [.slice none 0 0, .slice none 0 0, .slice none 0 0] 26 :: []) := hH677
          refine V_CHw ?_
          refine CH_q2 rfl (Qa (VQ_CH ?_))
          refine CH_tail ?_
          show V _ _ _ _ [] _ _
          obtain rfl := Oi ho607
          refine V_end (fun a ha679 => ?_)
          exact ⟨(v674, A676), ha679.sb, ⟨hH, hr609⟩⟩
         rw [if_neg (nt hc617)] at ho607
         obtain rfl := Oi ho607
         refine C_skip (fun a ha680 => ?_)
         exact ⟨(v560, A562), ha680.sb, ⟨hH, hr609⟩⟩
        rintro ⟨v610, A615⟩ w612 ⟨hH616, hk613⟩ a ha614
        replace hr575 := Tr.trans hr575 hk613; replace hA := hk613.new
        replace hH : Hp _ _ _ (o_86 v610 s608 :: o_83 v498 s492.terms :: o_3 v496 s492.sizes :: obC b404 [v494, v496, v498] 26 :: o_3 v494 s492.ids :: obC b14 [.slice none 0 0, .slice none 0 0, .slice none 0 0] 26 :: []) := hH616
        obtain rfl := Oi ho573
        exact ⟨(v610, A615), ha614.sb, ⟨hH, hr575⟩⟩
       rintro ⟨v576, A581⟩ w578 ⟨hH582, hk579⟩ a ha580
       replace hr549 := Tr.trans hr549 hk579; replace hA := hk579.new
       replace hH : Hp _ _ _ (o_86 v576 s574 :: o_83 v498 s492.terms :: o_3 v496 s492.sizes :: obC b404 [v494, v496, v498] 26 :: o_3 v494 s492.ids :: obC b14 [.slice none 0 0, .slice none 0 0, .slice none 0 0] 26 :: []) := hH582
       refine C_at (n := ⟨87, [], none⟩) (fun _ _ => rfl) ?_ ha580
       refine C_region (Vy (Y_addI rfl rfl) (Mm ?_))
       obtain rfl := Oi h565
       refine V_end (fun a ha682 => ?_)
       exact ⟨s574, hlt568, h566, ⟨(v576, A581), ha682.sub ⟨rfl, rfl, rfl, rfl, rfl, rfl, rfl, rfl, rfl, rfl, Ws hlt568 hn571, trivial⟩, ⟨hH, hr549⟩⟩⟩
      refine C_exit (fun a ha683 => ?_)
      exact ⟨(s558, v560, A562), ha683.sb, ⟨(h569 (eq_of_dec hle567 hc572)).symm, hH, hr549⟩⟩
     rintro ⟨s548, v554, A556⟩ w551 ⟨rfl, hH557, hk552⟩ a ha553
     rw [Lp.andThen_fin] at ho511
     replace h540 := El.tr h540 hk552; replace hr513 := Tr.trans hr513 hk552; replace hB := Nat.le_trans hB hk552.ex.size; replace hA := hk552.new
     replace hH : Hp _ _ _ (o_86 v554 s548 :: o_83 v498 s492.terms :: o_3 v496 s492.sizes :: obC b404 [v494, v496, v498] 26 :: o_3 v494 s492.ids :: obC b14 [.slice none 0 0, .slice none 0 0, .slice none 0 0] 26 :: []) := hH557
     refine C_at (n := ⟨87, [], none⟩) (fun _ _ => rfl) ?_ ha553
     refine Sr (Mm (Vy (Y_lenSl (Hp.any (α := know_Posting) (e := 86) (v := v554) (l := s548) hH (i := 0) rfl) rfl underlying81 rfl) (Vy (Y_gtr rfl rfl) (To ?_))))
     obtain ⟨A685, ht686, h687, hH688⟩ := Hp.freeze (Dw := Dw) (α := know_Posting) (v := v554) (l := s548) hH (i := 0) rfl hA
     replace h540 := El.tr h540 ht686; replace hr513 := Tt hr513 ht686; replace hB := Bx hB ht686; replace hA := ht686.new
     replace hH : Hp _ _ _ (o_83 v498 s492.terms :: o_3 v496 s492.sizes :: obC b404 [v494, v496, v498] 26 :: o_3 v494 s492.ids :: obC b14 [.slice none 0 0, .slice none 0 0, .slice none 0 0] 26 :: []) := hH688
     obtain ⟨s691, ho690, ho511⟩ := Bs ho511
     refine C_cutG (ι := (Value × Value × Value × (Nat → Prop))) (fun ⟨v693, v695, v697, A702⟩ => [(1, Ii id_), (4, Pt b14), (5, Pt b404), (43, v474), (44, Ii (x.terms.length : Int)), (45, Ii (k480 : Int))]) (fun ⟨v693, v695, v697, A702⟩ => fun w' => Hp w.heap.size A702 w' (o_83 v697 s691.terms :: o_3 v695 s691.sizes :: obC b404 [v693, v695, v697] 26 :: o_3 v693 s691.ids :: obC b14 [.slice none 0 0, .slice none 0 0, .slice none 0 0] 26 :: []) ∧ Tr Dw w.heap.size A685 w551 A702 w') ?_ ?_
     ·have hr692 : Tr Dw w.heap.size A685 w551 A685 w551 := Tr.refl (Dw := Dw) hA
      refine Cc (fun hc704 => ?_) fun hc704 => ?_
      ·rw [if_pos hc704] at ho690
       refine C_region (Vy (Y_fieldAddrC (off2 := 2) underlying26 rfl sizeOf24 (by decide) rfl rfl) (Ld (Hp.cell (j := 2) hH (i := 2) rfl rfl) isAgg24 ?_))
       have h705 := El_know_Term_0 h540
       refine Fa underlying83 rfl sizeOf9 (Ld (El.str h705) isAgg9 (Mm ?_))
       refine Vy (Y_build (cells := #[.string x525.word, v554]) underlying83 zeroValue83 (Tryz_places83 _ underlying83) rfl (by obtain ⟨a706, c707, e708, _⟩ := Sl.form h687; subst e708; with_unfolding_all rfl)) ?_
       refine V_buildSlice (Dw := Dw) (cells := #[.string x525.word, v554]) (l := ([(⟨x525.word, s548⟩ : know_Term)] : List know_Term)) (len := 1) underlying24 sizeOf83 zeroValue83 rfl (by obtain ⟨a713, c714, e715, _⟩ := Sl.form h687; subst e715; kernel_rfl) (show (1 * 2 : Nat) ≠ 0 by decide) (show (1 * 2 : Nat) ≤ 2 ^ 24 by decide) hA ⟨[.string x525.word, v554], _, rfl, ⟨[.string x525.word], _, rfl, rfl, ⟨_, rfl, h687⟩⟩, rfl⟩ rfl rfl ?_
       intro v709 w710 hk712 h711
       have ht716 := Kp.tr hk712 hA hB; replace hH := Hp.kp hH hk712; replace hr692 := Tt hr692 ht716; replace hB := Bx hB ht716; replace hA := ht716.new
       obtain ⟨x717, hx717, ho690⟩ := Bs ho690
       refine V_appendH (Dw := Dw) (e := 83) (v := v498) (l := s492.terms) (ti := t83) (bytes := 40) (lim := 3518437208883) hH (i := 0) rfl h711 hx717 underlying24 Tryz_info83 rfl rfl rfl rfl (by decide) (by decide) (by decide) hB hA rfl rfl rfl ?_
       intro v718 w719 A720 hH721 ht722
       replace hr692 := Tt hr692 ht722; replace hB := Bx hB ht722; replace hA := ht722.new
       replace hH : Hp _ _ _ (o_83 v718 x717 :: o_3 v496 s492.sizes :: obC b404 [v494, v496, v498] 26 :: o_3 v494 s492.ids :: obC b14 [.slice none 0 0, .slice none 0 0, .slice none 0 0] 26 :: []) := hH721
       refine Vy (Y_fieldAddrC (off2 := 2) underlying26 rfl sizeOf24 (by decide) rfl rfl) ?_
       have h728 : (v718).oneCell' = true := by obtain ⟨_, _, e, _⟩ := Sl.form (Hp.any (α := know_Term) (e := 83) (v := v718) (l := x717) hH (i := 0) rfl); rw [e]; rfl
       refine V_storeC (Dw := Dw) (off := 2) (ds := [v494, v496, v718]) hH (i := 2) rfl sizeOf24 (by show (v718 : Value).cells.size = _; rw [← Array.length_toList, Value.cells_one h728]; rfl) (Nat.le_of_ble_eq_true rfl) (by intro u hu; change u ∈ (v718 : Value).cells.toList at hu; rw [Value.cells_one h728] at hu; simp at hu; subst hu; assumption) (by show _ ++ (v718 : Value).cells.toList ++ _ = _; rw [Value.cells_one h728]; rfl) hB hA rfl rfl ?_
       intro w723 hH724 ht725
       replace hr692 := Tt hr692 ht725
       replace hH : Hp _ _ _ (o_83 v718 x717 :: o_3 v496 s492.sizes :: obC b404 [v494, v496, v718] 26 :: o_3 v494 s492.ids :: obC b14 [.slice none 0 0, .slice none 0 0, .slice none 0 0] 26 :: []) := hH724
       obtain rfl := Oi ho690
       refine V_end (fun a ha729 => ?_)
       exact ⟨(v494, v496, v718, A720), ha729.sb, ⟨hH, hr692⟩⟩
      rw [if_neg (nt hc704)] at ho690
      obtain rfl := Oi ho690
      refine C_skip (fun a ha730 => ?_)
      exact ⟨(v494, v496, v498, A685), ha730.sb, ⟨hH, hr692⟩⟩
     rintro ⟨v693, v695, v697, A702⟩ w699 ⟨hH703, hk700⟩ a ha701
     replace hr513 := Tr.trans hr513 hk700; replace hA := hk700.new
     replace hH : Hp _ _ _ (o_83 v697 s691.terms :: o_3 v695 s691.sizes :: obC b404 [v693, v695, v697] 26 :: o_3 v693 s691.ids :: obC b14 [.slice none 0 0, .slice none 0 0, .slice none 0 0] 26 :: []) := hH703
     obtain rfl := Oi ho511
     exact ⟨(v693, v695, v697, A702), ha701.sb, ⟨hH, hr513⟩⟩
    rintro ⟨v514, v516, v518, A523⟩ w520 ⟨hH524, hk521⟩ a ha522
    replace hr479 := Tr.trans hr479 hk521; replace hA := hk521.new
    replace hH : Hp _ _ _ (o_83 v518 s512.terms :: o_3 v516 s512.sizes :: obC b404 [v514, v516, v518] 26 :: o_3 v514 s512.ids :: obC b14 [.slice none 0 0, .slice none 0 0, .slice none 0 0] 26 :: []) := hH524
    refine C_at (n := ⟨87, [], none⟩) (fun _ _ => rfl) ?_ ha522
    refine C_region (Vy (Y_addI rfl rfl) (Mm ?_))
    obtain rfl := Oi h503
    refine V_end (fun a ha732 => ?_)
    exact ⟨s512, hlt506, h504, ⟨(v514, v516, v518, A523), ha732.sub ⟨rfl, rfl, rfl, rfl, rfl, Ws hlt506 hn509, trivial⟩, ⟨hH, hr479⟩⟩⟩
   refine C_exit (fun a ha733 => ?_)
   exact ⟨(s492, v494, v496, v498, A500), ha733.sb, ⟨(h507 (eq_of_dec hle505 hc510)).symm, hH, hr479⟩⟩
  rintro ⟨s478, v484, v486, v488, A490⟩ w481 ⟨rfl, hH491, hk482⟩ a ha483
  rw [Lp.andThen_fin] at hm
  replace hK := Tr.trans hK hk482; replace hB := Nat.le_trans hB hk482.ex.size; replace hA := hk482.new
  replace hH : Hp _ _ _ (o_83 v488 s478.terms :: o_3 v486 s478.sizes :: obC b404 [v484, v486, v488] 26 :: o_3 v484 s478.ids :: obC b14 [.slice none 0 0, .slice none 0 0, .slice none 0 0] 26 :: []) := hH491
  refine C_at (n := ⟨87, [], none⟩) (fun _ _ => rfl) ?_ ha483
  refine Sr (Vy (Y_loadA (Hp.part (off := 0) (n := 3) (ds := [v484, v486, v488]) hH (i := 2) rfl rfl) isAgg26 sizeOf26 rfl) ?_)
  obtain ⟨A735, ht736, h737, hH738⟩ := Hp.freeze (Dw := Dw) (α := Int) (v := v484) (l := s478.ids) hH (i := 3) rfl hA
  replace hK := Tt hK ht736; replace hB := Bx hB ht736; replace hA := ht736.new
  replace hH : Hp _ _ _ (o_83 v488 s478.terms :: o_3 v486 s478.sizes :: obC b404 [v484, v486, v488] 26 :: obC b14 [.slice none 0 0, .slice none 0 0, .slice none 0 0] 26 :: []) := hH738
  obtain ⟨A740, ht741, h742, hH743⟩ := Hp.freeze (Dw := Dw) (α := Int) (v := v486) (l := s478.sizes) hH (i := 1) rfl hA
  replace h737 := Sl.tr h737 ht741; replace hK := Tt hK ht741; replace hB := Bx hB ht741; replace hA := ht741.new
  replace hH : Hp _ _ _ (o_83 v488 s478.terms :: obC b404 [v484, v486, v488] 26 :: obC b14 [.slice none 0 0, .slice none 0 0, .slice none 0 0] 26 :: []) := hH743
  obtain ⟨A745, ht746, h747, hH748⟩ := Hp.freeze (Dw := Dw) (α := know_Term) (v := v488) (l := s478.terms) hH (i := 0) rfl hA
  replace h737 := Sl.tr h737 ht746; replace h742 := Sl.tr h742 ht746; replace hK := Tt hK ht746; replace hB := Bx hB ht746; replace hA := ht746.new
  replace hH : Hp _ _ _ (obC b404 [v484, v486, v488] 26 :: obC b14 [.slice none 0 0, .slice none 0 0, .slice none 0 0] 26 :: []) := hH748
  have h755 : (v484).oneCell' = true := by obtain ⟨_, _, e, _⟩ := Sl.form h737; rw [e]; rfl
  have h758 : (v486).oneCell' = true := by obtain ⟨_, _, e, _⟩ := Sl.form h742; rw [e]; rfl
  have h761 : (v488).oneCell' = true := by obtain ⟨_, _, e, _⟩ := Sl.form h747; rw [e]; rfl
  refine V_storeC (Dw := Dw) (off := 0) (ds := [v484, v486, v488]) hH (i := 1) rfl sizeOf26 rfl (Nat.le_of_ble_eq_true rfl) (by exact (List.forall_mem_cons.2 ⟨h755, (List.forall_mem_cons.2 ⟨h758, (List.forall_mem_cons.2 ⟨h761, (fun _ h => nomatch h)⟩)⟩)⟩)) rfl hB hA rfl rfl ?_
  intro w750 hH751 ht752
  replace h737 := Sl.tr h737 ht752; replace h742 := Sl.tr h742 ht752; replace h747 := Sl.tr h747 ht752; replace hK := Tt hK ht752
  replace hH : Hp _ _ _ (obC b404 [v484, v486, v488] 26 :: obC b14 [v484, v486, v488] 26 :: []) := hH751
  refine To ?_
  obtain rfl := Oi hm
  refine C_ret ?_
  try simp only [↓ib, ↓th]
  exact retQ rfl (Res.l1 results50 (RL.cell rfl (loadVar_agg (Hp.part (off := 0) (n := 3) (ds := [v484, v486, v488]) hH (i := 1) rfl rfl) isAgg26 sizeOf26))) ⟨v484, v486, v488, rfl, (Sl.out (Dw := Dw) h737 hA0 hK), (Sl.out (Dw := Dw) h742 hA0 hK), (Sl.out (Dw := Dw) h747 hA0 hK), hK.kp⟩
 obtain ⟨x762, hx762, hm⟩ := Bs hm
 refine Vc call76 (slices_Clone_Lint_int_c (Dw := Dw) w399 hA x.sizes v27 h29 hx762) ?_
 rintro v763 w765 ⟨_, rfl, h764, hk766⟩
 obtain ⟨A767, ht768, hH769⟩ := Hp.addOwnd (Dw := Dw) hH hB hA hk766 h764
 replace h11 := El.tr h11 ht768; replace hK := Tt hK ht768; replace hB := Bx hB ht768; replace hA := ht768.new
 replace hH : Hp _ _ _ (o_3 v763 x762 :: o_3 v397 x396 :: obC b14 [.slice none 0 0, .slice none 0 0, .slice none 0 0] 26 :: []) := hH769
 refine V_CHZ (hk766) ?_
 refine CHZ_q2 rfl ?_
 refine Qv (fun w' hw' => Y_build (cells := #[v397, v763, .slice none 0 0]) underlying26 zeroValue26 (Tryz_places26 _ underlying26) rfl (by obtain ⟨a770, c771, e772, _⟩ := Sl.form (Hp.any (α := Int) (e := 3) (v := v397) (l := x396) hH (i := 1) rfl); subst e772; obtain ⟨a773, c774, e775, _⟩ := Sl.form (Hp.any (α := Int) (e := 3) (v := v763) (l := x762) hH (i := 0) rfl); subst e775; with_unfolding_all rfl)) (VQ_CHZ ?_)
 refine CHZ_nil ?_
 refine CH_l1 (k := 0) rfl ?_
 refine V_allocHk (Dw := Dw) (B := w.heap.size) hH zeroValue26 hB hA rfl ?_
 intro b776 w777 A778 hk781 hH779 ht780
 replace h11 := El.tr h11 ht780; replace hK := Tt hK ht780; replace hB := Bx hB ht780; replace hA := ht780.new
 replace hH : Hp _ _ _ (obC b776 [.slice none 0 0, .slice none 0 0, .slice none 0 0] 26 :: o_3 v763 x762 :: o_3 v397 x396 :: obC b14 [.slice none 0 0, .slice none 0 0, .slice none 0 0] 26 :: []) := hH779
 refine V_CH (hk781) ?_
 refine CH_l1 (k := 2) rfl ?_
 have h787 : (v397).oneCell' = true := by obtain ⟨_, _, e, _⟩ := Sl.form (Hp.any (α := Int) (e := 3) (v := v397) (l := x396) hH (i := 2) rfl); rw [e]; rfl
 have h790 : (v763).oneCell' = true := by obtain ⟨_, _, e, _⟩ := Sl.form (Hp.any (α := Int) (e := 3) (v := v763) (l := x762) hH (i := 1) rfl); rw [e]; rfl
 refine V_storeC (Dw := Dw) (off := 0) (ds := [v397, v763, .slice none 0 0]) hH (i := 0) rfl sizeOf26 rfl (Nat.le_of_ble_eq_true rfl) (by exact (List.forall_mem_cons.2 ⟨h787, (List.forall_mem_cons.2 ⟨h790, (List.forall_mem_cons.2 ⟨rfl, (fun _ h => nomatch h)⟩)⟩)⟩)) rfl hB hA rfl rfl ?_
 intro w782 hH783 ht784
 replace h11 := El.tr h11 ht784; replace hK := Tt hK ht784; replace hB := Bx hB ht784; replace hA := ht784.new
 replace hH : Hp _ _ _ (obC b776 [v397, v763, .slice none 0 0] 26 :: o_3 v763 x762 :: o_3 v397 x396 :: obC b14 [.slice none 0 0, .slice none 0 0, .slice none 0 0] 26 :: []) := hH783
 refine V_CHw ?_
 refine CH_tail ?_
 show V _ _ _ _ [] _ _
 refine To ?_
 refine C_seq (Sr (Vy (Y_fieldAddrC (off2 := 0) underlying26 rfl sizeOf23 (by decide) rfl rfl) (Ld (Hp.cell (j := 0) hH (i := 0) rfl rfl) isAgg23 (Mm ?_))))
 obtain ⟨x791, hx791, hm⟩ := Bs hm
 refine Vc call52 (slices_BinarySearch_Lint_int_c w782 x396 v397 (Hp.any (α := Int) (e := 3) (v := v397) (l := x396) hH (i := 2) rfl) id_ hx791) ?_
 rintro _ _ ⟨rfl, rfl⟩
 refine Mm (Vy (Y_extract rfl rfl) (Vy (Y_extract rfl rfl) (As (As (To ?_)))))
 refine Sr (Mm (To ?_))
 obtain ⟨s793, ho792, hm⟩ := Bs hm
 refine C_cutG (ι := (Value × Value × Value × (Nat → Prop))) (fun ⟨v795, v797, v799, A804⟩ => [(1, Ii id_), (2, Pt b7), (4, Pt b14), (5, Pt b776)]) (fun ⟨v795, v797, v799, A804⟩ => fun w' => Hp w.heap.size A804 w' (o_83 v799 s793.terms :: obC b776 [v795, v797, v799] 26 :: o_3 v797 s793.sizes :: o_3 v795 s793.ids :: obC b14 [.slice none 0 0, .slice none 0 0, .slice none 0 0] 26 :: []) ∧ Tr Dw w.heap.size A778 w782 A804 w') ?_ ?_
 ·have hr794 : Tr Dw w.heap.size A778 w782 A778 w782 := Tr.refl (Dw := Dw) hA
  refine Cc (fun hc806 => ?_) fun hc806 => ?_
  ·rw [if_pos hc806] at ho792
   refine Sr (Vy (Y_fieldAddrC (off2 := 0) underlying26 rfl sizeOf23 (by decide) rfl rfl) (Ld (Hp.cell (j := 0) hH (i := 0) rfl rfl) isAgg23 (Mm (Mm (Vy (Y_addI rfl rfl) ?_)))))
   obtain ⟨x807, hx807, ho792⟩ := Bs ho792
   refine Vc call85 (Tryz_cp85 (Dw := Dw) hH (i := 2) rfl hB hA hx807) ?_
   rintro v811 w808 ⟨_, rfl, hH809, ht810⟩
   replace hr794 := Tt hr794 ht810; replace hB := Bx hB ht810; replace hA := ht810.new
   replace hH : Hp _ _ _ (obC b776 [v397, v763, .slice none 0 0] 26 :: o_3 v763 x762 :: o_3 v811 x807 :: obC b14 [.slice none 0 0, .slice none 0 0, .slice none 0 0] 26 :: []) := hH809
   refine Vy (Y_fieldAddrC (off2 := 0) underlying26 rfl sizeOf23 (by decide) rfl rfl) ?_
   have h817 : (v811).oneCell' = true := by obtain ⟨_, _, e, _⟩ := Sl.form (Hp.any (α := Int) (e := 3) (v := v811) (l := x807) hH (i := 2) rfl); rw [e]; rfl
   refine V_storeC (Dw := Dw) (off := 0) (ds := [v811, v763, .slice none 0 0]) hH (i := 0) rfl sizeOf23 (by show (v811 : Value).cells.size = _; rw [← Array.length_toList, Value.cells_one h817]; rfl) (Nat.le_of_ble_eq_true rfl) (by intro u hu; change u ∈ (v811 : Value).cells.toList at hu; rw [Value.cells_one h817] at hu; simp at hu; subst hu; assumption) (by show _ ++ (v811 : Value).cells.toList ++ _ = _; rw [Value.cells_one h817]; rfl) hB hA rfl rfl ?_
   intro w812 hH813 ht814
   replace hr794 := Tt hr794 ht814; replace hB := Bx hB ht814; replace hA := ht814.new
   replace hH : Hp _ _ _ (obC b776 [v811, v763, .slice none 0 0] 26 :: o_3 v763 x762 :: o_3 v811 x807 :: obC b14 [.slice none 0 0, .slice none 0 0, .slice none 0 0] 26 :: []) := hH813
   refine To ?_
   refine C_region (Vy (Y_fieldAddrC (off2 := 1) underlying26 rfl sizeOf23 (by decide) rfl rfl) (Ld (Hp.cell (j := 1) hH (i := 0) rfl rfl) isAgg23 (Mm (Mm (Vy (Y_addI rfl rfl) ?_)))))
   obtain ⟨x818, hx818, ho792⟩ := Bs ho792
   refine Vc call85 (Tryz_cp85 (Dw := Dw) hH (i := 1) rfl hB hA hx818) ?_
   rintro v822 w819 ⟨_, rfl, hH820, ht821⟩
   replace hr794 := Tt hr794 ht821; replace hB := Bx hB ht821; replace hA := ht821.new
   replace hH : Hp _ _ _ (obC b776 [v811, v763, .slice none 0 0] 26 :: o_3 v822 x818 :: o_3 v811 x807 :: obC b14 [.slice none 0 0, .slice none 0 0, .slice none 0 0] 26 :: []) := hH820
   refine Vy (Y_fieldAddrC (off2 := 1) underlying26 rfl sizeOf23 (by decide) rfl rfl) ?_
   have h828 : (v822).oneCell' = true := by obtain ⟨_, _, e, _⟩ := Sl.form (Hp.any (α := Int) (e := 3) (v := v822) (l := x818) hH (i := 1) rfl); rw [e]; rfl
   refine V_storeC (Dw := Dw) (off := 1) (ds := [v811, v822, .slice none 0 0]) hH (i := 0) rfl sizeOf23 (by show (v822 : Value).cells.size = _; rw [← Array.length_toList, Value.cells_one h828]; rfl) (Nat.le_of_ble_eq_true rfl) (by intro u hu; change u ∈ (v822 : Value).cells.toList at hu; rw [Value.cells_one h828] at hu; simp at hu; subst hu; assumption) (by show _ ++ (v822 : Value).cells.toList ++ _ = _; rw [Value.cells_one h828]; rfl) hB hA rfl rfl ?_
   intro w823 hH824 ht825
   replace hr794 := Tt hr794 ht825
   replace hH : Hp _ _ _ (obC b776 [v811, v822, .slice none 0 0] 26 :: o_3 v822 x818 :: o_3 v811 x807 :: obC b14 [.slice none 0 0, .slice none 0 0, .slice none 0 0] 26 :: []) := hH824
   obtain rfl := Oi ho792
   refine V_end (fun a ha829 => ?_)
   replace hH : Hp w.heap.size A778 w823 (o_83 (.slice none 0 0) ([] : (List know_Term)) :: obC b776 [v811, v822, .slice none 0 0] 26 :: o_3 v822 x818 :: o_3 v811 x807 :: obC b14 [.slice none 0 0, .slice none 0 0, .slice none 0 0] 26 :: []) := Hp.addNil (α := know_Term) (e := 83) hH
   exact ⟨(v811, v822, .slice none 0 0, A778), ha829.sb, ⟨hH, hr794⟩⟩
  rw [if_neg (nt hc806)] at ho792
  obtain rfl := Oi ho792
  refine C_skip (fun a ha830 => ?_)
  replace hH : Hp w.heap.size A778 w782 (o_83 (.slice none 0 0) ([] : (List know_Term)) :: obC b776 [v397, v763, .slice none 0 0] 26 :: o_3 v763 x762 :: o_3 v397 x396 :: obC b14 [.slice none 0 0, .slice none 0 0, .slice none 0 0] 26 :: []) := Hp.addNil (α := know_Term) (e := 83) hH
  exact ⟨(v397, v763, .slice none 0 0, A778), ha830.sb, ⟨hH, hr794⟩⟩
 rintro ⟨v795, v797, v799, A804⟩ w801 ⟨hH805, hk802⟩ a ha803
 replace h11 := El.tr h11 hk802; replace hK := Tr.trans hK hk802; replace hB := Nat.le_trans hB hk802.ex.size; replace hA := hk802.new
 replace hH : Hp _ _ _ (o_83 v799 s793.terms :: obC b776 [v795, v797, v799] 26 :: o_3 v797 s793.sizes :: o_3 v795 s793.ids :: obC b14 [.slice none 0 0, .slice none 0 0, .slice none 0 0] 26 :: []) := hH805
 refine C_at (n := ⟨87, [], none⟩) (fun _ _ => rfl) ?_ ha803
 refine C_seq (Sr ?_)
 have h831 := El_know_Index_2 h11
 refine Fa underlying26 rfl sizeOf24 ?_
 obtain ⟨v832, h833, h834⟩ := El.list h831
 refine Ld h833 isAgg24 (Vy (Y_lenSl h834 rfl underlying24 rfl) (Mm (To ?_)))
 have hn867 := Sl.le h834
 obtain ⟨o835, ho835, hm⟩ := Bs hm
 refine C_cutG (ι := (know_Index × Value × Value × Value × (Nat → Prop))) (fun ⟨s836, v842, v844, v846, A848⟩ => [(4, Pt b14), (5, Pt b776)]) (fun ⟨s836, v842, v844, v846, A848⟩ => fun w' => o835 = .fin s836 ∧ Hp w.heap.size A848 w' (o_83 v846 s836.terms :: obC b776 [v842, v844, v846] 26 :: o_3 v844 s836.sizes :: o_3 v842 s836.ids :: obC b14 [.slice none 0 0, .slice none 0 0, .slice none 0 0] 26 :: []) ∧ Tr Dw w.heap.size A804 w801 A848 w') ?_ ?_
 ·refine C_block ?_
  refine C_range ho835 (fun k838 s850 a w' => ∃ i : (Value × Value × Value × (Nat → Prop)), Has ⟨87, [], none⟩ a ([(1, Ii id_), (4, Pt b14), (5, Pt b776), (43, v832), (44, Ii (x.terms.length : Int)), (45, Ii (k838 : Int))]) ∧ Hp w.heap.size i.2.2.2 w' (o_83 i.2.2.1 s850.terms :: obC b776 [i.1, i.2.1, i.2.2.1] 26 :: o_3 i.2.1 s850.sizes :: o_3 i.1 s850.ids :: obC b14 [.slice none 0 0, .slice none 0 0, .slice none 0 0] 26 :: []) ∧ Tr Dw w.heap.size A804 w801 i.2.2.2 w') (fun a ha => ⟨(v795, v797, v799, A804), ha.sb, ⟨hH, Tr.refl (Dw := Dw) hA⟩⟩) ?_
  rintro K k838 s850 a w851 ⟨⟨v852, v854, v856, A858⟩, ha1092, hH859, hr837⟩ hle863 K866 h865
  refine C_of ?_ ha1092
  replace h834 := Sl.tr h834 hr837; replace hB := Bx hB hr837; replace hA := hr837.new
  replace hH : Hp _ _ _ (o_83 v856 s850.terms :: obC b776 [v852, v854, v856] 26 :: o_3 v854 s850.sizes :: o_3 v852 s850.ids :: obC b14 [.slice none 0 0, .slice none 0 0, .slice none 0 0] 26 :: []) := hH859
  refine Sr (Vy (Y_lss rfl rfl) (To ?_))
  refine C_seq ?_
  refine Cc (fun hc868 => ?_) fun hc868 => ?_
  ·have hlt864 := lt_of_dec hc868
   obtain ⟨x860, h861, h862⟩ := K866 hlt864
   refine Sk ?_
   refine C_seq ?_
   obtain ⟨s870, ho869, h861⟩ := Bs h861
   refine C_cutG (ι := (Value × Value × Value × (Nat → Prop))) (fun ⟨v872, v874, v876, A881⟩ => [(1, Ii id_), (4, Pt b14), (5, Pt b776), (43, v832), (44, Ii (x.terms.length : Int)), (45, Ii (k838 : Int))]) (fun ⟨v872, v874, v876, A881⟩ => fun w' => Hp w.heap.size A881 w' (o_83 v876 s870.terms :: obC b776 [v872, v874, v876] 26 :: o_3 v874 s870.sizes :: o_3 v872 s870.ids :: obC b14 [.slice none 0 0, .slice none 0 0, .slice none 0 0] 26 :: []) ∧ Tr Dw w.heap.size A858 w851 A881 w') ?_ ?_
   ·have hr871 : Tr Dw w.heap.size A858 w851 A858 w851 := Tr.refl (Dw := Dw) hA
    refine C_block (Sr ?_)
    obtain ⟨x883, hx883, ho869⟩ := Bs ho869
    refine V_indexAddr h834 hx883 underlying24 sizeOf83 rfl rfl rfl ?_
    intro b884 o885 h886
    obtain ⟨v887, h889, h888⟩ := El_know_Term h886
    refine Vy (Y_loadA h889 isAgg83 sizeOf83 rfl) ?_
    refine V_alloc zeroValue83 rfl ?_
    intro b890 w891 h892
    have h897 : (v887).oneCell' = true := by obtain ⟨_, _, e, _⟩ := Sl.form h888; rw [e]; rfl
    refine Sn h892 sizeOf83 ?_
    intro w893 h894
    have hk899 := h894.kp (Dw := Dw)
    have h898 : El (α := know_Term) A858 w893 b890 0 x883 := h894.el hA ⟨[.string x883.word], _, rfl, rfl, ⟨_, rfl, h888⟩⟩
    have ht900 := Kp.tr hk899 hA hB; replace hH := Hp.kp hH hk899; replace hr871 := Tt hr871 ht900; replace hB := Bx hB ht900; replace hA := ht900.new
    refine To ?_
    refine Sr (As (To ?_))
    refine C_seq (Sr ?_)
    have h901 := El_know_Term_1 h898
    refine Fa underlying83 rfl sizeOf81 ?_
    obtain ⟨v902, h903, h904⟩ := El.list h901
    refine Ld h903 isAgg81 (Vy (Y_lenSl h904 rfl underlying81 rfl) (Mm (To ?_)))
    replace hH : Hp w.heap.size A858 w893 (o_86 (.slice none 0 0) ([] : (List know_Posting)) :: o_83 v856 s850.terms :: obC b776 [v852, v854, v856] 26 :: o_3 v854 s850.sizes :: o_3 v852 s850.ids :: obC b14 [.slice none 0 0, .slice none 0 0, .slice none 0 0] 26 :: []) := Hp.addNil (α := know_Posting) (e := 86) hH
    have hn929 := Sl.le h904
    obtain ⟨o905, ho905, ho869⟩ := Bs ho869
    refine C_cutG (ι := ((List know_Posting) × Value × (Nat → Prop))) (fun ⟨s906, v912, A914⟩ => [(1, Ii id_), (4, Pt b14), (5, Pt b776), (9, Pt b890), (10, v912), (43, v832), (44, Ii (x.terms.length : Int)), (45, Ii (k838 : Int))]) (fun ⟨s906, v912, A914⟩ => fun w' => o905 = .fin s906 ∧ Hp w.heap.size A914 w' (o_86 v912 s906 :: o_83 v856 s850.terms :: obC b776 [v852, v854, v856] 26 :: o_3 v854 s850.sizes :: o_3 v852 s850.ids :: obC b14 [.slice none 0 0, .slice none 0 0, .slice none 0 0] 26 :: []) ∧ Tr Dw w.heap.size A858 w893 A914 w') ?_ ?_
    ·refine C_block ?_
     refine C_range ho905 (fun k908 s916 a w' => ∃ i : (Value × (Nat → Prop)), Has ⟨87, [], none⟩ a ([(1, Ii id_), (4, Pt b14), (5, Pt b776), (9, Pt b890), (10, i.1), (43, v832), (44, Ii (x.terms.length : Int)), (45, Ii (k838 : Int)), (50, v902), (51, Ii (x883.list_.length : Int)), (52, Ii (k908 : Int))]) ∧ Hp w.heap.size i.2 w' (o_86 i.1 s916 :: o_83 v856 s850.terms :: obC b776 [v852, v854, v856] 26 :: o_3 v854 s850.sizes :: o_3 v852 s850.ids :: obC b14 [.slice none 0 0, .slice none 0 0, .slice none 0 0] 26 :: []) ∧ Tr Dw w.heap.size A858 w893 i.2 w') (fun a ha => ⟨(.slice none 0 0, A858), ha.sb, ⟨hH, Tr.refl (Dw := Dw) hA⟩⟩) ?_
     rintro K k908 s916 a w917 ⟨⟨v918, A920⟩, ha1042, hH921, hr907⟩ hle925 K928 h927
     refine C_of ?_ ha1042
     replace h904 := Sl.tr h904 hr907; replace hB := Bx hB hr907; replace hA := hr907.new
     replace hH : Hp _ _ _ (o_86 v918 s916 :: o_83 v856 s850.terms :: obC b776 [v852, v854, v856] 26 :: o_3 v854 s850.sizes :: o_3 v852 s850.ids :: obC b14 [.slice none 0 0, .slice none 0 0, .slice none 0 0] 26 :: []) := hH921
     refine Sr (Vy (Y_lss rfl rfl) (To ?_))
     refine C_seq ?_
     refine Cc (fun hc930 => ?_) fun hc930 => ?_
     ·have hlt926 := lt_of_dec hc930
      obtain ⟨x922, h923, h924⟩ := K928 hlt926
      refine Sk ?_
      refine C_seq ?_
      obtain ⟨s932, ho931, h923⟩ := Bs h923
      refine C_cutG (ι := (Value × (Nat → Prop))) (fun ⟨v934, A939⟩ => [(1, Ii id_), (4, Pt b14), (5, Pt b776), (9, Pt b890), (10, v934), (43, v832), (44, Ii (x.terms.length : Int)), (45, Ii (k838 : Int)), (50, v902), (51, Ii (x883.list_.length : Int)), (52, Ii (k908 : Int))]) (fun ⟨v934, A939⟩ => fun w' => Hp w.heap.size A939 w' (o_86 v934 s932 :: o_83 v856 s850.terms :: obC b776 [v852, v854, v856] 26 :: o_3 v854 s850.sizes :: o_3 v852 s850.ids :: obC b14 [.slice none 0 0, .slice none 0 0, .slice none 0 0] 26 :: []) ∧ Tr Dw w.heap.size A920 w917 A939 w') ?_ ?_
      ·have hr933 : Tr Dw w.heap.size A920 w917 A920 w917 := Tr.refl (Dw := Dw) hA
       refine C_block (Sr ?_)
       obtain ⟨x941, hx941, ho931⟩ := Bs ho931
       refine V_indexAddr h904 hx941 underlying81 sizeOf86 rfl rfl rfl ?_
       intro b942 o943 h944
       obtain ⟨v945, v947, h949, h946, h948⟩ := El_know_Posting h944
       refine Vy (Y_loadA h949 isAgg86 sizeOf86 rfl) ?_
       refine V_alloc zeroValue86 rfl ?_
       intro b950 w951 h952
       have h957 : (v945).oneCell' = true := by obtain ⟨_, _, e, _⟩ := Sl.form h946; rw [e]; rfl
       have h960 : (v947).oneCell' = true := by obtain ⟨_, _, e, _⟩ := Sl.form h948; rw [e]; rfl
       refine Sn h952 sizeOf86 ?_
       intro w953 h954
       have hk962 := h954.kp (Dw := Dw)
       have h961 : El (α := know_Posting) A920 w953 b950 0 x941 := h954.el hA ⟨[Ii x941.id_], _, rfl, rfl, ⟨[v945], _, rfl, ⟨_, rfl, h946⟩, ⟨_, rfl, h948⟩⟩⟩
       have ht963 := Kp.tr hk962 hA hB; replace hH := Hp.kp hH hk962; replace hr933 := Tt hr933 ht963; replace hB := Bx hB ht963; replace hA := ht963.new
       refine To ?_
       refine Sr ?_
       have h964 := El_know_Posting_0 h961
       refine Fa underlying86 rfl sizeOf3 (Li h964 isAgg3 (Mm (Vy (Y_neq rfl rfl) (To ?_))))
       obtain ⟨s966, ho965, ho931⟩ := Bs ho931
       refine C_cutG (ι := (Value × (Nat → Prop))) (fun ⟨v968, A973⟩ => [(1, Ii id_), (4, Pt b14), (5, Pt b776), (9, Pt b890), (10, v968), (43, v832), (44, Ii (x.terms.length : Int)), (45, Ii (k838 : Int)), (50, v902), (51, Ii (x883.list_.length : Int)), (52, Ii (k908 : Int))]) (fun ⟨v968, A973⟩ => fun w' => Hp w.heap.size A973 w' (o_86 v968 s966 :: o_83 v856 s850.terms :: obC b776 [v852, v854, v856] 26 :: o_3 v854 s850.sizes :: o_3 v852 s850.ids :: obC b14 [.slice none 0 0, .slice none 0 0, .slice none 0 0] 26 :: []) ∧ Tr Dw w.heap.size A920 w953 A973 w') ?_ ?_
       ·have hr967 : Tr Dw w.heap.size A920 w953 A920 w953 := Tr.refl (Dw := Dw) hA
        refine Cc (fun hc975 => ?_) fun hc975 => ?_
        ·rw [if_pos hc975] at ho965
         refine C_region_ch (Dw := Dw) A920 13 [(1, 0), (1, 1), (1, 2), (1, 3), (1, 4), (1, 6), (1, 7), (2, 5), (2, 8), (1, 9), (2, 10), (4, 11), (1, 12)] Tryz_mixed (by kernel_rfl) (fun w976 hk977 => ?_)
         have ht978 := Kp.tr hk977 hA hB; replace hH := Hp.kp hH hk977; replace h961 := El.tr h961 ht978; replace hr967 := Tt hr967 ht978; replace hB := Bx hB ht978; replace hA := ht978.new
         refine CH_q2 rfl (Qm (VQ_CH (CH_q2 rfl ?_)))
         have h979 := El_know_Posting_0 h961
         refine Qf underlying86 rfl sizeOf3 (VQ_CH (CH_q2 rfl (Ql (fun w' hw' => (El.int (El.keep h979 (XA.ex hw')))) isAgg3 (VQ_CH (CH_q2 rfl ?_)))))
         have h980 := El_know_Posting_1 h961
         refine Qf underlying86 rfl sizeOf23 (VQ_CH (CH_q2 rfl ?_))
         obtain ⟨v981, h982, h983⟩ := El.list h980
         refine Ql (fun w' hw' => ((World.cell?_of_block (hw'.2 _ h980.2.1 h980.1)).trans h982)) isAgg23 (VQ_CH (CH_q2 rfl ?_))
         have h984 := El_know_Posting_2 h961
         refine Qf underlying86 rfl sizeOf23 (VQ_CH (CH_q2 rfl ?_))
         obtain ⟨v985, h986, h987⟩ := El.list h984
         refine Ql (fun w' hw' => ((World.cell?_of_block (hw'.2 _ h984.2.1 h984.1)).trans h986)) isAgg23 (VQ_CH ?_)
         refine CH_l1 (k := 0) rfl ?_
         obtain ⟨x988, hx988, ho965⟩ := Bs ho965
         refine Vc call76 (slices_Clone_Lint_int_c (Dw := Dw) w976 hA x941.title v981 h983 hx988) ?_
         rintro v989 w991 ⟨_, rfl, h990, hk992⟩
         obtain ⟨A993, ht994, hH995⟩ := Hp.addOwnd (Dw := Dw) hH hB hA hk992 h990
         replace h987 := Sl.tr h987 ht994; replace hr967 := Tt hr967 ht994; replace hB := Bx hB ht994; replace hA := ht994.new
         replace hH : Hp _ _ _ (o_3 v989 x988 :: o_86 v918 s916 :: o_83 v856 s850.terms :: obC b776 [v852, v854, v856] 26 :: o_3 v854 s850.sizes :: o_3 v852 s850.ids :: obC b14 [.slice none 0 0, .slice none 0 0, .slice none 0 0] 26 :: []) := hH995
         refine V_CH (hk992) ?_
         refine CH_l1 (k := 0) rfl ?_
         obtain ⟨x996, hx996, ho965⟩ := Bs ho965
         refine Vc call76 (slices_Clone_Lint_int_c (Dw := Dw) w991 hA x941.body v985 h987 hx996) ?_
         rintro v997 w999 ⟨_, rfl, h998, hk1000⟩
         obtain ⟨A1001, ht1002, hH1003⟩ := Hp.addOwnd (Dw := Dw) hH hB hA hk1000 h998
         replace hr967 := Tt hr967 ht1002; replace hB := Bx hB ht1002; replace hA := ht1002.new
         replace hH : Hp _ _ _ (o_3 v997 x996 :: o_3 v989 x988 :: o_86 v918 s916 :: o_83 v856 s850.terms :: obC b776 [v852, v854, v856] 26 :: o_3 v854 s850.sizes :: o_3 v852 s850.ids :: obC b14 [.slice none 0 0, .slice none 0 0, .slice none 0 0] 26 :: []) := hH1003
         refine V_CH (hk1000) ?_
         refine CH_q2 rfl ?_
         refine Qv (fun w' hw' => Y_build (cells := #[Ii x941.id_, v989, v997]) underlying86 zeroValue86 (Tryz_places86 _ underlying86) rfl (by obtain ⟨a1004, c1005, e1006, _⟩ := Sl.form (Hp.any (α := Int) (e := 3) (v := v989) (l := x988) hH (i := 1) rfl); subst e1006; obtain ⟨a1007, c1008, e1009, _⟩ := Sl.form (Hp.any (α := Int) (e := 3) (v := v997) (l := x996) hH (i := 0) rfl); subst e1009; with_unfolding_all rfl)) (VQ_CH ?_)
         refine CH_l1 (k := 0) rfl ?_
         obtain ⟨A1010, ht1011, h1012, hH1013⟩ := Hp.freeze (Dw := Dw) (α := Int) (v := v989) (l := x988) hH (i := 1) rfl hA
         replace hr967 := Tt hr967 ht1011; replace hB := Bx hB ht1011; replace hA := ht1011.new
         replace hH : Hp _ _ _ (o_3 v997 x996 :: o_86 v918 s916 :: o_83 v856 s850.terms :: obC b776 [v852, v854, v856] 26 :: o_3 v854 s850.sizes :: o_3 v852 s850.ids :: obC b14 [.slice none 0 0, .slice none 0 0, .slice none 0 0] 26 :: []) := hH1013
         obtain ⟨A1015, ht1016, h1017, hH1018⟩ := Hp.freeze (Dw := Dw) (α := Int) (v := v997) (l := x996) hH (i := 0) rfl hA
         replace h1012 := Sl.tr h1012 ht1016; replace hr967 := Tt hr967 ht1016; replace hB := Bx hB ht1016; replace hA := ht1016.new
         replace hH : Hp _ _ _ (o_86 v918 s916 :: o_83 v856 s850.terms :: obC b776 [v852, v854, v856] 26 :: o_3 v854 s850.sizes :: o_3 v852 s850.ids :: obC b14 [.slice none 0 0, .slice none 0 0, .slice none 0 0] 26 :: []) := hH1018
         refine V_buildSlice (Dw := Dw) (cells := #[Ii x941.id_, v989, v997]) (l := ([(⟨x941.id_, x988, x996⟩ : know_Posting)] : List know_Posting)) (len := 1) underlying81 sizeOf86 zeroValue86 rfl (by obtain ⟨a1024, c1025, e1026, _⟩ := Sl.form h1012; subst e1026; obtain ⟨a1027, c1028, e1029, _⟩ := Sl.form h1017; subst e1029; kernel_rfl) (show (1 * 3 : Nat) ≠ 0 by decide) (show (1 * 3 : Nat) ≤ 2 ^ 24 by decide) hA ⟨[Ii x941.id_, v989, v997], _, rfl, ⟨[Ii x941.id_], _, rfl, rfl, ⟨[v989], _, rfl, ⟨_, rfl, h1012⟩, ⟨_, rfl, h1017⟩⟩⟩, rfl⟩ rfl rfl ?_
         intro v1020 w1021 hk1023 h1022
         have ht1030 := Kp.tr hk1023 hA hB; replace hH := Hp.kp hH hk1023; replace hr967 := Tt hr967 ht1030; replace hB := Bx hB ht1030; replace hA := ht1030.new
         refine V_CH (hk1023) ?_
         refine CH_l1 (k := 2) rfl ?_
         obtain ⟨x1031, hx1031, ho965⟩ := Bs ho965
         refine V_appendH (Dw := Dw) (e := 86) (v := v918) (l := s916) (ti := t86) (bytes := 56) (lim := 2513169434916) hH (i := 0) rfl h1022 hx1031 underlying81 Tryz_info86 rfl rfl rfl rfl (by decide) (by decide) (by decide) hB hA rfl rfl rfl ?_
         intro v1032 w1033 A1034 hH1035 ht1036
         replace hr967 := Tt hr967 ht1036
         replace hH : Hp _ _ _ (o_86 v1032 x1031 :: o_83 v856 s850.terms :: obC b776 [v852, v854, v856] 26 :: o_3 v854 s850.sizes :: o_3 v852 s850.ids :: obC b14 [.slice none 0 0, .slice none 0 0, .slice none 0 0] 26 :: []) := hH1035
         refine V_CHw ?_
         refine CH_q2 rfl (Qa (VQ_CH ?_))
         refine CH_tail ?_
         show V _ _ _ _ [] _ _
         obtain rfl := Oi ho965
         refine V_end (fun a ha1037 => ?_)
         exact ⟨(v1032, A1034), ha1037.sb, ⟨hH, hr967⟩⟩
        rw [if_neg (nt hc975)] at ho965
        obtain rfl := Oi ho965
        refine C_skip (fun a ha1038 => ?_)
        exact ⟨(v918, A920), ha1038.sb, ⟨hH, hr967⟩⟩
       rintro ⟨v968, A973⟩ w970 ⟨hH974, hk971⟩ a ha972
       replace hr933 := Tr.trans hr933 hk971; replace hA := hk971.new
       replace hH : Hp _ _ _ (o_86 v968 s966 :: o_83 v856 s850.terms :: obC b776 [v852, v854, v856] 26 :: o_3 v854 s850.sizes :: o_3 v852 s850.ids :: obC b14 [.slice none 0 0, .slice none 0 0, .slice none 0 0] 26 :: []) := hH974
       obtain rfl := Oi ho931
       exact ⟨(v968, A973), ha972.sb, ⟨hH, hr933⟩⟩
      rintro ⟨v934, A939⟩ w936 ⟨hH940, hk937⟩ a ha938
      replace hr907 := Tr.trans hr907 hk937; replace hA := hk937.new
      replace hH : Hp _ _ _ (o_86 v934 s932 :: o_83 v856 s850.terms :: obC b776 [v852, v854, v856] 26 :: o_3 v854 s850.sizes :: o_3 v852 s850.ids :: obC b14 [.slice none 0 0, .slice none 0 0, .slice none 0 0] 26 :: []) := hH940
      refine C_at (n := ⟨87, [], none⟩) (fun _ _ => rfl) ?_ ha938
      refine C_region (Vy (Y_addI rfl rfl) (Mm ?_))
      obtain rfl := Oi h923
      refine V_end (fun a ha1040 => ?_)
      exact ⟨s932, hlt926, h924, ⟨(v934, A939), ha1040.sub ⟨rfl, rfl, rfl, rfl, rfl, rfl, rfl, rfl, rfl, rfl, Ws hlt926 hn929, trivial⟩, ⟨hH, hr907⟩⟩⟩
     refine C_exit (fun a ha1041 => ?_)
     exact ⟨(s916, v918, A920), ha1041.sb, ⟨(h927 (eq_of_dec hle925 hc930)).symm, hH, hr907⟩⟩
    rintro ⟨s906, v912, A914⟩ w909 ⟨rfl, hH915, hk910⟩ a ha911
    rw [Lp.andThen_fin] at ho869
    replace h898 := El.tr h898 hk910; replace hr871 := Tr.trans hr871 hk910; replace hB := Nat.le_trans hB hk910.ex.size; replace hA := hk910.new
    replace hH : Hp _ _ _ (o_86 v912 s906 :: o_83 v856 s850.terms :: obC b776 [v852, v854, v856] 26 :: o_3 v854 s850.sizes :: o_3 v852 s850.ids :: obC b14 [.slice none 0 0, .slice none 0 0, .slice none 0 0] 26 :: []) := hH915
    refine C_at (n := ⟨87, [], none⟩) (fun _ _ => rfl) ?_ ha911
    refine Sr (Mm (Vy (Y_lenSl (Hp.any (α := know_Posting) (e := 86) (v := v912) (l := s906) hH (i := 0) rfl) rfl underlying81 rfl) (Vy (Y_gtr rfl rfl) (To ?_))))
    obtain ⟨A1043, ht1044, h1045, hH1046⟩ := Hp.freeze (Dw := Dw) (α := know_Posting) (v := v912) (l := s906) hH (i := 0) rfl hA
    replace h898 := El.tr h898 ht1044; replace hr871 := Tt hr871 ht1044; replace hB := Bx hB ht1044; replace hA := ht1044.new
    replace hH : Hp _ _ _ (o_83 v856 s850.terms :: obC b776 [v852, v854, v856] 26 :: o_3 v854 s850.sizes :: o_3 v852 s850.ids :: obC b14 [.slice none 0 0, .slice none 0 0, .slice none 0 0] 26 :: []) := hH1046
    obtain ⟨s1049, ho1048, ho869⟩ := Bs ho869
    refine C_cutG (ι := (Value × Value × Value × (Nat → Prop))) (fun ⟨v1051, v1053, v1055, A1060⟩ => [(1, Ii id_), (4, Pt b14), (5, Pt b776), (43, v832), (44, Ii (x.terms.length : Int)), (45, Ii (k838 : Int))]) (fun ⟨v1051, v1053, v1055, A1060⟩ => fun w' => Hp w.heap.size A1060 w' (o_83 v1055 s1049.terms :: obC b776 [v1051, v1053, v1055] 26 :: o_3 v1053 s1049.sizes :: o_3 v1051 s1049.ids :: obC b14 [.slice none 0 0, .slice none 0 0, .slice none 0 0] 26 :: []) ∧ Tr Dw w.heap.size A1043 w909 A1060 w') ?_ ?_
    ·have hr1050 : Tr Dw w.heap.size A1043 w909 A1043 w909 := Tr.refl (Dw := Dw) hA
     refine Cc (fun hc1062 => ?_) fun hc1062 => ?_
     ·rw [if_pos hc1062] at ho1048
      refine C_region (Vy (Y_fieldAddrC (off2 := 2) underlying26 rfl sizeOf24 (by decide) rfl rfl) (Ld (Hp.cell (j := 2) hH (i := 1) rfl rfl) isAgg24 ?_))
      have h1063 := El_know_Term_0 h898
      refine Fa underlying83 rfl sizeOf9 (Ld (El.str h1063) isAgg9 (Mm ?_))
      refine Vy (Y_build (cells := #[.string x883.word, v912]) underlying83 zeroValue83 (Tryz_places83 _ underlying83) rfl (by obtain ⟨a1064, c1065, e1066, _⟩ := Sl.form h1045; subst e1066; with_unfolding_all rfl)) ?_
      refine V_buildSlice (Dw := Dw) (cells := #[.string x883.word, v912]) (l := ([(⟨x883.word, s906⟩ : know_Term)] : List know_Term)) (len := 1) underlying24 sizeOf83 zeroValue83 rfl (by obtain ⟨a1071, c1072, e1073, _⟩ := Sl.form h1045; subst e1073; kernel_rfl) (show (1 * 2 : Nat) ≠ 0 by decide) (show (1 * 2 : Nat) ≤ 2 ^ 24 by decide) hA ⟨[.string x883.word, v912], _, rfl, ⟨[.string x883.word], _, rfl, rfl, ⟨_, rfl, h1045⟩⟩, rfl⟩ rfl rfl ?_
      intro v1067 w1068 hk1070 h1069
      have ht1074 := Kp.tr hk1070 hA hB; replace hH := Hp.kp hH hk1070; replace hr1050 := Tt hr1050 ht1074; replace hB := Bx hB ht1074; replace hA := ht1074.new
      obtain ⟨x1075, hx1075, ho1048⟩ := Bs ho1048
      refine V_appendH (Dw := Dw) (e := 83) (v := v856) (l := s850.terms) (ti := t83) (bytes := 40) (lim := 3518437208883) hH (i := 0) rfl h1069 hx1075 underlying24 Tryz_info83 rfl rfl rfl rfl (by decide) (by decide) (by decide) hB hA rfl rfl rfl ?_
      intro v1076 w1077 A1078 hH1079 ht1080
      replace hr1050 := Tt hr1050 ht1080; replace hB := Bx hB ht1080; replace hA := ht1080.new
      replace hH : Hp _ _ _ (o_83 v1076 x1075 :: obC b776 [v852, v854, v856] 26 :: o_3 v854 s850.sizes :: o_3 v852 s850.ids :: obC b14 [.slice none 0 0, .slice none 0 0, .slice none 0 0] 26 :: []) := hH1079
      refine Vy (Y_fieldAddrC (off2 := 2) underlying26 rfl sizeOf24 (by decide) rfl rfl) ?_
      have h1086 : (v1076).oneCell' = true := by obtain ⟨_, _, e, _⟩ := Sl.form (Hp.any (α := know_Term) (e := 83) (v := v1076) (l := x1075) hH (i := 0) rfl); rw [e]; rfl
      refine V_storeC (Dw := Dw) (off := 2) (ds := [v852, v854, v1076]) hH (i := 1) rfl sizeOf24 (by show (v1076 : Value).cells.size = _; rw [← Array.length_toList, Value.cells_one h1086]; rfl) (Nat.le_of_ble_eq_true rfl) (by intro u hu; change u ∈ (v1076 : Value).cells.toList at hu; rw [Value.cells_one h1086] at hu; simp at hu; subst hu; assumption) (by show _ ++ (v1076 : Value).cells.toList ++ _ = _; rw [Value.cells_one h1086]; rfl) hB hA rfl rfl ?_
      intro w1081 hH1082 ht1083
      replace hr1050 := Tt hr1050 ht1083
      replace hH : Hp _ _ _ (o_83 v1076 x1075 :: obC b776 [v852, v854, v1076] 26 :: o_3 v854 s850.sizes :: o_3 v852 s850.ids :: obC b14 [.slice none 0 0, .slice none 0 0, .slice none 0 0] 26 :: []) := hH1082
      obtain rfl := Oi ho1048
      refine V_end (fun a ha1087 => ?_)
      exact ⟨(v852, v854, v1076, A1078), ha1087.sb, ⟨hH, hr1050⟩⟩
     rw [if_neg (nt hc1062)] at ho1048
     obtain rfl := Oi ho1048
     refine C_skip (fun a ha1088 => ?_)
     exact ⟨(v852, v854, v856, A1043), ha1088.sb, ⟨hH, hr1050⟩⟩
    rintro ⟨v1051, v1053, v1055, A1060⟩ w1057 ⟨hH1061, hk1058⟩ a ha1059
    replace hr871 := Tr.trans hr871 hk1058; replace hA := hk1058.new
    replace hH : Hp _ _ _ (o_83 v1055 s1049.terms :: obC b776 [v1051, v1053, v1055] 26 :: o_3 v1053 s1049.sizes :: o_3 v1051 s1049.ids :: obC b14 [.slice none 0 0, .slice none 0 0, .slice none 0 0] 26 :: []) := hH1061
    obtain rfl := Oi ho869
    exact ⟨(v1051, v1053, v1055, A1060), ha1059.sb, ⟨hH, hr871⟩⟩
   rintro ⟨v872, v874, v876, A881⟩ w878 ⟨hH882, hk879⟩ a ha880
   replace hr837 := Tr.trans hr837 hk879; replace hA := hk879.new
   replace hH : Hp _ _ _ (o_83 v876 s870.terms :: obC b776 [v872, v874, v876] 26 :: o_3 v874 s870.sizes :: o_3 v872 s870.ids :: obC b14 [.slice none 0 0, .slice none 0 0, .slice none 0 0] 26 :: []) := hH882
   refine C_at (n := ⟨87, [], none⟩) (fun _ _ => rfl) ?_ ha880
   refine C_region (Vy (Y_addI rfl rfl) (Mm ?_))
   obtain rfl := Oi h861
   refine V_end (fun a ha1090 => ?_)
   exact ⟨s870, hlt864, h862, ⟨(v872, v874, v876, A881), ha1090.sub ⟨rfl, rfl, rfl, rfl, rfl, Ws hlt864 hn867, trivial⟩, ⟨hH, hr837⟩⟩⟩
  refine C_exit (fun a ha1091 => ?_)
  exact ⟨(s850, v852, v854, v856, A858), ha1091.sb, ⟨(h865 (eq_of_dec hle863 hc868)).symm, hH, hr837⟩⟩
 rintro ⟨s836, v842, v844, v846, A848⟩ w839 ⟨rfl, hH849, hk840⟩ a ha841
 rw [Lp.andThen_fin] at hm
 replace hK := Tr.trans hK hk840; replace hB := Nat.le_trans hB hk840.ex.size; replace hA := hk840.new
 replace hH : Hp _ _ _ (o_83 v846 s836.terms :: obC b776 [v842, v844, v846] 26 :: o_3 v844 s836.sizes :: o_3 v842 s836.ids :: obC b14 [.slice none 0 0, .slice none 0 0, .slice none 0 0] 26 :: []) := hH849
 refine C_at (n := ⟨87, [], none⟩) (fun _ _ => rfl) ?_ ha841
 refine Sr (Vy (Y_loadA (Hp.part (off := 0) (n := 3) (ds := [v842, v844, v846]) hH (i := 1) rfl rfl) isAgg26 sizeOf26 rfl) ?_)
 obtain ⟨A1093, ht1094, h1095, hH1096⟩ := Hp.freeze (Dw := Dw) (α := Int) (v := v842) (l := s836.ids) hH (i := 3) rfl hA
 replace hK := Tt hK ht1094; replace hB := Bx hB ht1094; replace hA := ht1094.new
 replace hH : Hp _ _ _ (o_83 v846 s836.terms :: obC b776 [v842, v844, v846] 26 :: o_3 v844 s836.sizes :: obC b14 [.slice none 0 0, .slice none 0 0, .slice none 0 0] 26 :: []) := hH1096
 obtain ⟨A1098, ht1099, h1100, hH1101⟩ := Hp.freeze (Dw := Dw) (α := Int) (v := v844) (l := s836.sizes) hH (i := 2) rfl hA
 replace h1095 := Sl.tr h1095 ht1099; replace hK := Tt hK ht1099; replace hB := Bx hB ht1099; replace hA := ht1099.new
 replace hH : Hp _ _ _ (o_83 v846 s836.terms :: obC b776 [v842, v844, v846] 26 :: obC b14 [.slice none 0 0, .slice none 0 0, .slice none 0 0] 26 :: []) := hH1101
 obtain ⟨A1103, ht1104, h1105, hH1106⟩ := Hp.freeze (Dw := Dw) (α := know_Term) (v := v846) (l := s836.terms) hH (i := 0) rfl hA
 replace h1095 := Sl.tr h1095 ht1104; replace h1100 := Sl.tr h1100 ht1104; replace hK := Tt hK ht1104; replace hB := Bx hB ht1104; replace hA := ht1104.new
 replace hH : Hp _ _ _ (obC b776 [v842, v844, v846] 26 :: obC b14 [.slice none 0 0, .slice none 0 0, .slice none 0 0] 26 :: []) := hH1106
 have h1113 : (v842).oneCell' = true := by obtain ⟨_, _, e, _⟩ := Sl.form h1095; rw [e]; rfl
 have h1116 : (v844).oneCell' = true := by obtain ⟨_, _, e, _⟩ := Sl.form h1100; rw [e]; rfl
 have h1119 : (v846).oneCell' = true := by obtain ⟨_, _, e, _⟩ := Sl.form h1105; rw [e]; rfl
 refine V_storeC (Dw := Dw) (off := 0) (ds := [v842, v844, v846]) hH (i := 1) rfl sizeOf26 rfl (Nat.le_of_ble_eq_true rfl) (by exact (List.forall_mem_cons.2 ⟨h1113, (List.forall_mem_cons.2 ⟨h1116, (List.forall_mem_cons.2 ⟨h1119, (fun _ h => nomatch h)⟩)⟩)⟩)) rfl hB hA rfl rfl ?_
 intro w1108 hH1109 ht1110
 replace h1095 := Sl.tr h1095 ht1110; replace h1100 := Sl.tr h1100 ht1110; replace h1105 := Sl.tr h1105 ht1110; replace hK := Tt hK ht1110
 replace hH : Hp _ _ _ (obC b776 [v842, v844, v846] 26 :: obC b14 [v842, v844, v846] 26 :: []) := hH1109
 refine To ?_
 obtain rfl := Oi hm
 refine C_ret ?_
 try simp only [↓ib, ↓th]
 exact retQ rfl (Res.l1 results50 (RL.cell rfl (loadVar_agg (Hp.part (off := 0) (n := 3) (ds := [v842, v844, v846]) hH (i := 1) rfl rfl) isAgg26 sizeOf26))) ⟨v842, v844, v846, rfl, (Sl.out (Dw := Dw) h1095 hA0 hK), (Sl.out (Dw := Dw) h1100 hA0 hK), (Sl.out (Dw := Dw) h1105 hA0 hK), hK.kp⟩
theorem internal_stringslite_HasSuffix_c (w : World) (s : ByteArray) (suffix : ByteArray) {r : Bool} (hm : internal_stringslite_HasSuffix s suffix = some r) : Ret prog 151 #[.string s, .string suffix] w fun v w' => v = .bool r ∧ w = w' := by
 unfold internal_stringslite_HasSuffix at hm
 refine enter func151 rfl ntmps151 rfl ?_
 refine Sr (As (To ?_))
 refine Sr (Mm (Vy (Y_lenStr rfl underlying9 rfl) (Mm (Vy (Y_lenStr rfl underlying9 rfl) (Vy (Y_geq rfl rfl) (Mm ?_))))))
 obtain ⟨s2, hs2, hm⟩ := Bs hm
 refine V_cut 10 (fun _ : Unit => [(20, .bool s2)]) (fun _ w' => w = w') ?_ ?_
 ·simp only [List.take, List.drop]
  rcases Be (decide ((suffix.size : Int) ≤ (s.size : Int))) with hc1 | hc1
  ·rw [if_pos hc1] at hs2
   refine Gf hc1 (Mm (Gf hc1 (Mm (Gf hc1 (Vy (Y_lenStr rfl underlying9 rfl) (Gf hc1 (Mm (Gf hc1 (Vy (Y_lenStr rfl underlying9 rfl) ?_)))))))))
   refine Gf hc1 (Vy (Y_subI rfl rfl) (Gf hc1 ?_))
   obtain ⟨x3, hx3, hs2⟩ := Bs hs2
   refine Vy (Y_sliceSL hx3 underlying9 rfl rfl) (Gf hc1 (Mm (Gf hc1 (Vy (Y_seql rfl rfl) (Vy (Y_pick_te rfl hc1 rfl) ?_)))))
   obtain rfl := Oi hs2
   exact V_end fun a ha => ⟨(), ha.sb, rfl⟩
  rw [if_neg (nt hc1)] at hs2
  refine Gm hc1 (Gm hc1 (Gm hc1 (Gm hc1 (Gm hc1 (Gm hc1 (Gm hc1 (Gm hc1 (Gm hc1 (Vy (Y_pick_fe rfl hc1 rfl) ?_)))))))))
  obtain rfl := Oi hs2
  exact V_end fun a ha => ⟨(), ha.sb, rfl⟩
 simp only [List.take, List.drop]
 rintro _ _ rfl
 refine As (To ?_)
 obtain rfl := Oi hm
 refine Rt (Res.one results151 rfl) ?_
 exact ⟨rfl, rfl⟩
theorem strings_HasSuffix_c (w : World) (s : ByteArray) (suffix : ByteArray) {r : Bool} (hm : strings_HasSuffix s suffix = some r) : Ret prog 112 #[.string s, .string suffix] w fun v w' => v = .bool r ∧ w = w' := by
 unfold strings_HasSuffix at hm
 refine enter func112 rfl ntmps112 rfl ?_
 refine Sr (As (To ?_))
 refine Sr (Mm (Mm ?_))
 obtain ⟨x1, hx1, hm⟩ := Bs hm
 refine Vc call151 (internal_stringslite_HasSuffix_c w s suffix hx1) ?_
 rintro _ _ ⟨rfl, rfl⟩
 refine As (To ?_)
 obtain rfl := Oi hm
 refine Rt (Res.one results112 rfl) ?_
 exact ⟨rfl, rfl⟩
theorem know_Stem_c (w : World) (word : ByteArray) {r : ByteArray} (hm : know_Stem word = some r) : Ret prog 104 #[.string word] w fun v w' => v = .string r ∧ w = w' := by
 unfold know_Stem at hm
 refine enter func104 rfl ntmps104 rfl ?_
 refine Sr (As (To ?_))
 refine C_seq (Sr (Mm (Vy (Y_lenStr rfl underlying9 rfl) (Mm (To ?_)))))
 obtain ⟨o1, ho1, hm⟩ := Bs hm
 refine C_cutG (ι := Int) (fun (s2 : Int) => [(0, .string word)]) (fun (s2 : Int) => fun w' => o1 = .fin s2 ∧ w = w') ?_ ?_
 ·refine C_block ?_
  refine C_while ho1 (fun s8 a w' => ∃ i : Unit, Has ⟨77, [], none⟩ a ([(0, .string word), (6, Ii (word.size : Int)), (7, Ii s8)]) ∧ w = w') (fun a ha => ⟨(), ha.sb, rfl⟩) ?_
  rintro K s8 a _ ⟨_, ha24, rfl⟩ K16
  refine C_of ?_ ha24
  obtain ⟨x10, h11, h12⟩ := K16
  refine Sr (Vy (Y_lss rfl rfl) (To ?_))
  refine C_seq ?_
  refine Cc (fun hc17 => ?_) fun hc17 => ?_
  ·rw [if_pos hc17] at h11
   refine Sk ?_
   refine C_seq (C_block (Sr (Mm (As (To ?_)))))
   refine Sr (Mm (Mm ?_))
   obtain ⟨x18, hx18, h11⟩ := Bs h11
   refine Vy (Y_indexS hx18 underlying9 rfl rfl) (Vy (Y_lss rfl rfl) (Mm ?_))
   obtain ⟨s20, hs20, h11⟩ := Bs h11
   refine V_cut 5 (fun _ : Unit => [(0, .string word), (6, Ii (word.size : Int)), (7, Ii s8), (19, .bool s20)]) (fun _ w' => w = w') ?_ ?_
   ·simp only [List.take, List.drop]
    rcases Be (decide ((x18.toNat : Int) < 97)) with hc19 | hc19
    ·rw [if_pos hc19] at hs20
     refine Gm hc19 (Gm hc19 (Gm hc19 (Gm hc19 (Vy (Y_pick_te rfl hc19 rfl) ?_))))
     obtain rfl := Oi hs20
     exact V_end fun a ha => ⟨(), ha.sb, rfl⟩
    rw [if_neg (nt hc19)] at hs20
    refine Gf hc19 (Mm (Gf hc19 (Mm (Gf hc19 (Vy (Y_indexS hx18 underlying9 rfl rfl) (Gf hc19 (Vy (Y_gtr rfl rfl) (Vy (Y_pick_fe rfl hc19 rfl) ?_))))))))
    obtain rfl := Oi hs20
    exact V_end fun a ha => ⟨(), ha.sb, rfl⟩
   simp only [List.take, List.drop]
   rintro _ _ rfl
   refine To ?_
   refine Cc (fun hc21 => ?_) fun hc21 => ?_
   ·rw [if_pos hc21] at h11
    refine Sr (Mm (As (To ?_)))
    obtain rfl := Oi h11
    obtain rfl := (h12 : Lp.rt _ = _)
    rw [Lp.andThen_rt] at hm
    obtain rfl := Oi hm
    refine Rt (Res.one results104 rfl) ?_
    exact ⟨rfl, rfl⟩
   rw [if_neg (nt hc21)] at h11
   refine Sk ?_
   refine C_region (Vy (Y_addI rfl rfl) (Mm ?_))
   obtain rfl := Oi h11
   refine V_end (fun a ha22 => ?_)
   exact ⟨w64 (s8 + 1), h12, ⟨(), ha22.sb, rfl⟩⟩
  rw [if_neg (nt hc17)] at h11
  obtain rfl := Oi h11
  refine C_exit (fun a ha23 => ?_)
  exact ⟨s8, ha23.sb, ⟨h12.symm, rfl⟩⟩
 rintro s2 _ ⟨rfl, rfl⟩ a ha7
 rw [Lp.andThen_fin] at hm
 refine C_at (n := ⟨77, [], none⟩) (fun _ _ => rfl) ?_ ha7
 refine Sr (Mm (Vy (Y_lenStr rfl underlying9 rfl) (As (To ?_))))
 refine C_seq (C_block (Sr (Mm (Vy (Y_lss rfl rfl) (As (To ?_))))))
 refine Cc (fun hc25 => ?_) fun hc25 => ?_
 ·rw [if_pos hc25] at hm
  refine Sr (Mm (As (To ?_)))
  obtain rfl := Oi hm
  refine Rt (Res.one results104 rfl) ?_
  exact ⟨rfl, rfl⟩
 rw [if_neg (nt hc25)] at hm
 refine Sr (Mm ?_)
 obtain ⟨x26, hx26, hm⟩ := Bs hm
 refine Vc call112 (strings_HasSuffix_c w word (⟨#[105, 101, 115]⟩ : ByteArray) hx26) ?_
 rintro _ _ ⟨rfl, rfl⟩
 refine As (To ?_)
 refine Cc (fun hc27 => ?_) fun hc27 => ?_
 ·rw [if_pos hc27] at hm
  refine Sr (Mm (Mm (Vy (Y_subI rfl rfl) ?_)))
  obtain ⟨x28, hx28, hm⟩ := Bs hm
  refine Vy (Y_sliceSH hx28 underlying9 rfl rfl) ?_
  obtain ⟨x29, hx29, hm⟩ := Bs hm
  refine Vy (Y_sadd hx29 rfl rfl) (As (To ?_))
  obtain rfl := Oi hm
  refine Rt (Res.one results104 rfl) ?_
  exact ⟨rfl, rfl⟩
 rw [if_neg (nt hc27)] at hm
 refine Sr (Mm ?_)
 obtain ⟨x30, hx30, hm⟩ := Bs hm
 refine Vc call112 (strings_HasSuffix_c w word (⟨#[115, 115, 101, 115]⟩ : ByteArray) hx30) ?_
 rintro _ _ ⟨rfl, rfl⟩
 refine As (To ?_)
 refine Cc (fun hc31 => ?_) fun hc31 => ?_
 ·rw [if_pos hc31] at hm
  refine Sr (Mm (Mm (Vy (Y_subI rfl rfl) ?_)))
  obtain ⟨x32, hx32, hm⟩ := Bs hm
  refine Vy (Y_sliceSH hx32 underlying9 rfl rfl) (As (To ?_))
  obtain rfl := Oi hm
  refine Rt (Res.one results104 rfl) ?_
  exact ⟨rfl, rfl⟩
 rw [if_neg (nt hc31)] at hm
 refine Sr (Mm ?_)
 obtain ⟨x33, hx33, hm⟩ := Bs hm
 refine Vc call112 (strings_HasSuffix_c w word (⟨#[115, 115]⟩ : ByteArray) hx33) ?_
 rintro _ _ ⟨rfl, rfl⟩
 refine As (To ?_)
 refine Cc (fun hc34 => ?_) fun hc34 => ?_
 ·rw [if_pos hc34] at hm
  refine Sr (Mm (As (To ?_)))
  obtain rfl := Oi hm
  refine Rt (Res.one results104 rfl) ?_
  exact ⟨rfl, rfl⟩
 rw [if_neg (nt hc34)] at hm
 refine Sr (Mm ?_)
 obtain ⟨x35, hx35, hm⟩ := Bs hm
 refine Vc call112 (strings_HasSuffix_c w word (⟨#[115]⟩ : ByteArray) hx35) ?_
 rintro _ _ ⟨rfl, rfl⟩
 refine As (To ?_)
 refine Cc (fun hc36 => ?_) fun hc36 => ?_
 ·rw [if_pos hc36] at hm
  refine Sr (Mm (Mm (Vy (Y_subI rfl rfl) ?_)))
  obtain ⟨x37, hx37, hm⟩ := Bs hm
  refine Vy (Y_sliceSH hx37 underlying9 rfl rfl) (As (To ?_))
  obtain rfl := Oi hm
  refine Rt (Res.one results104 rfl) ?_
  exact ⟨rfl, rfl⟩
 rw [if_neg (nt hc36)] at hm
 refine Sr (Mm ?_)
 obtain ⟨x38, hx38, hm⟩ := Bs hm
 refine Vc call112 (strings_HasSuffix_c w word (⟨#[105, 110, 103]⟩ : ByteArray) hx38) ?_
 rintro _ _ ⟨rfl, rfl⟩
 refine Mm ?_
 refine V_cut 3 (fun _ : Unit => [(0, .string word), (4, Ii (word.size : Int)), (60, .bool (x38 && (decide ((6 : Int) ≤ (word.size : Int)))))]) (fun _ w' => w = w') ?_ ?_
 ·simp only [List.take, List.drop]
  rcases Be (x38) with hc39 | hc39
  ·refine Gf hc39 (Mm (Gf hc39 (Vy (Y_geq rfl rfl) (Vy (Y_pick_te rfl hc39 rfl) ?_))))
   exact V_end fun a ha => ⟨(), ha.sub ⟨rfl, rfl, (by rw [hc39]; rfl), trivial⟩, rfl⟩
  refine Gm hc39 (Gm hc39 (Vy (Y_pick_fe rfl hc39 rfl) ?_))
  exact V_end fun a ha => ⟨(), ha.sub ⟨rfl, rfl, (by rw [hc39]; rfl), trivial⟩, rfl⟩
 simp only [List.take, List.drop]
 rintro _ _ rfl
 refine As (To ?_)
 refine Cc (fun hc41 => ?_) fun hc41 => ?_
 ·rw [if_pos hc41] at hm
  refine Sr (Mm (Mm (Vy (Y_subI rfl rfl) ?_)))
  obtain ⟨x42, hx42, hm⟩ := Bs hm
  refine Vy (Y_sliceSH hx42 underlying9 rfl rfl) (As (To ?_))
  obtain rfl := Oi hm
  refine Rt (Res.one results104 rfl) ?_
  exact ⟨rfl, rfl⟩
 rw [if_neg (nt hc41)] at hm
 refine Sr (Mm ?_)
 obtain ⟨x43, hx43, hm⟩ := Bs hm
 refine Vc call112 (strings_HasSuffix_c w word (⟨#[101, 100]⟩ : ByteArray) hx43) ?_
 rintro _ _ ⟨rfl, rfl⟩
 refine Mm ?_
 refine V_cut 3 (fun _ : Unit => [(0, .string word), (4, Ii (word.size : Int)), (71, .bool (x43 && (decide ((5 : Int) ≤ (word.size : Int)))))]) (fun _ w' => w = w') ?_ ?_
 ·simp only [List.take, List.drop]
  rcases Be (x43) with hc44 | hc44
  ·refine Gf hc44 (Mm (Gf hc44 (Vy (Y_geq rfl rfl) (Vy (Y_pick_te rfl hc44 rfl) ?_))))
   exact V_end fun a ha => ⟨(), ha.sub ⟨rfl, rfl, (by rw [hc44]; rfl), trivial⟩, rfl⟩
  refine Gm hc44 (Gm hc44 (Vy (Y_pick_fe rfl hc44 rfl) ?_))
  exact V_end fun a ha => ⟨(), ha.sub ⟨rfl, rfl, (by rw [hc44]; rfl), trivial⟩, rfl⟩
 simp only [List.take, List.drop]
 rintro _ _ rfl
 refine As (To ?_)
 refine Cc (fun hc46 => ?_) fun hc46 => ?_
 ·rw [if_pos hc46] at hm
  refine Sr (Mm (Mm (Vy (Y_subI rfl rfl) ?_)))
  obtain ⟨x47, hx47, hm⟩ := Bs hm
  refine Vy (Y_sliceSH hx47 underlying9 rfl rfl) (As (To ?_))
  obtain rfl := Oi hm
  refine Rt (Res.one results104 rfl) ?_
  exact ⟨rfl, rfl⟩
 rw [if_neg (nt hc46)] at hm
 refine Sk ?_
 refine Sr (Mm (As (To ?_)))
 obtain rfl := Oi hm
 refine Rt (Res.one results104 rfl) ?_
 exact ⟨rfl, rfl⟩
def Tryz_cp82_ren : Go.Shelf.Ren := ⟨fun | 125 => 93 | 128 => 124 | 129 => 125 | 190 => 82 | 258 => 113 | 302 => 152 | 303 => 153 | 304 => 154 | 305 => 155 | 306 => 156 | 307 => 157 | 308 => 158 | 309 => 159 | 310 => 160 | 329 => 163 | 330 => 164 | 333 => 180 | 334 => 181 | 335 => 182 | 336 => 183 | 344 => 194 | n => n, fun | 0 => 0 | 1 => 1 | 2 => 2 | 3 => 3 | 4 => 4 | 5 => 5 | 6 => 6 | 7 => 7 | 8 => 8 | 9 => 9 | 10 => 10 | 11 => 11 | 12 => 12 | 13 => 13 | 14 => 14 | 15 => 15 | 16 => 16 | 17 => 17 | 18 => 18 | 19 => 19 | 20 => 20 | 21 => 21 | 22 => 208 | 23 => 207 | 27 => 160 | 28 => 23 | 29 => 162 | 30 => 166 | 31 => 73 | 34 => 79 | 35 => 252 | 37 => 227 | 40 => 205 | 41 => 198 | 43 => 157 | 46 => 191 | 47 => 196 | 51 => 219 | 52 => 218 | 53 => 221 | 54 => 220 | 55 => 263 | 63 => 265 | 64 => 280 | 65 => 206 | 66 => 177 | 68 => 164 | 69 => 182 | 70 => 229 | 71 => 230 | 72 => 231 | 73 => 232 | 74 => 233 | 75 => 234 | 76 => 235 | 77 => 236 | 80 => 239 | 81 => 289 | 100 => 183 | 101 => 76 | 103 => 262 | 104 => 176 | 105 => 237 | 106 => 238 | 111 => 193 | 112 => 192 | 114 => 275 | 115 => 241 | 116 => 242 | 117 => 243 | 118 => 244 | 119 => 276 | 122 => 240 | 123 => 245 | 124 => 246 | 127 => 264 | 131 => 150 | 135 => 209 | 137 => 277 | 138 => 278 | 139 => 279 | 146 => 282 | 151 => 283 | 155 => 261 | 164 => 272 | 165 => 273 | 166 => 274 | 182 => 212 | 183 => 213 | 188 => 247 | 189 => 248 | 190 => 249 | 191 => 250 | 192 => 251 | 218 => 253 | 219 => 254 | 220 => 255 | 222 => 257 | 224 => 266 | 225 => 267 | 228 => 268 | 229 => 269 | 231 => 281 | 238 => 284 | 239 => 285 | 240 => 286 | 241 => 287 | 242 => 288 | 243 => 290 | 244 => 291 | 245 => 292 | 246 => 293 | 247 => 294 | 248 => 295 | 249 => 296 | n => n, fun | 1 => 0 | 3 => 1 | 4 => 2 | n => n⟩
theorem Tryz_cp82_lay : Go.Proofs.Lays.n190 Tryz.prog Tryz_cp82_ren := {
  mixed := by kernel_rfl,
  f125 := Tryz.func93.trans (congrArg some (by kernel_rfl)),
  f128 := Tryz.func124.trans (congrArg some (by kernel_rfl)),
  f129 := Tryz.func125.trans (congrArg some (by kernel_rfl)),
  f190 := Tryz.func82.trans (congrArg some (by kernel_rfl)),
  f258 := Tryz.func113.trans (congrArg some (by kernel_rfl)),
  f302 := Tryz.func152.trans (congrArg some (by kernel_rfl)),
  f303 := Tryz.func153.trans (congrArg some (by kernel_rfl)),
  f304 := Tryz.func154.trans (congrArg some (by kernel_rfl)),
  f305 := Tryz.func155.trans (congrArg some (by kernel_rfl)),
  f306 := Tryz.func156.trans (congrArg some (by kernel_rfl)),
  f307 := Tryz.func157.trans (congrArg some (by kernel_rfl)),
  f308 := Tryz.func158.trans (congrArg some (by kernel_rfl)),
  f309 := Tryz.func159.trans (congrArg some (by kernel_rfl)),
  f310 := Tryz.func160.trans (congrArg some (by kernel_rfl)),
  f329 := Tryz.func163.trans (congrArg some (by kernel_rfl)),
  f330 := Tryz.func164.trans (congrArg some (by kernel_rfl)),
  f333 := Tryz.func180.trans (congrArg some (by kernel_rfl)),
  f334 := Tryz.func181.trans (congrArg some (by kernel_rfl)),
  f335 := Tryz.func182.trans (congrArg some (by kernel_rfl)),
  f336 := Tryz.func183.trans (congrArg some (by kernel_rfl)),
  f344 := Tryz.func194.trans (congrArg some (by kernel_rfl)),
  t0 := Tryz.underlying0,
  a0 := Tryz.isAgg0,
  z0 := Tryz.sizeOf0,
  v0 := Tryz.zeroValue0,
  t3 := Tryz.underlying3,
  a3 := Tryz.isAgg3,
  z3 := Tryz.sizeOf3,
  v3 := Tryz.zeroValue3,
  t4 := Tryz.underlying4,
  a4 := Tryz.isAgg4,
  z4 := Tryz.sizeOf4,
  v4 := Tryz.zeroValue4,
  t5 := Tryz.underlying5,
  a5 := Tryz.isAgg5,
  z5 := Tryz.sizeOf5,
  v5 := Tryz.zeroValue5,
  t9 := Tryz.underlying9,
  a9 := Tryz.isAgg9,
  z9 := Tryz.sizeOf9,
  v9 := Tryz.zeroValue9,
  t31 := Tryz.underlying73,
  a31 := Tryz.isAgg73,
  z31 := Tryz.sizeOf73,
  v31 := Tryz.zeroValue73,
  t46 := Tryz.underlying191,
  a46 := Tryz.isAgg191,
  z46 := Tryz.sizeOf191,
  v46 := Tryz.zeroValue191,
  t51 := Tryz.underlying219,
  a51 := Tryz.isAgg219,
  z51 := Tryz.sizeOf219,
  v51 := Tryz.zeroValue219,
  t53 := Tryz.underlying221,
  a53 := Tryz.isAgg221,
  z53 := Tryz.sizeOf221,
  v53 := Tryz.zeroValue221,
  t131 := Tryz.underlying150,
  a131 := Tryz.isAgg150,
  z131 := Tryz.sizeOf150,
  v131 := Tryz.zeroValue150,
  t182 := Tryz.underlying212,
  a182 := Tryz.isAgg212,
  z182 := Tryz.sizeOf212,
  v182 := Tryz.zeroValue212,
  t183 := Tryz.underlying213,
  a183 := Tryz.isAgg213,
  z183 := Tryz.sizeOf213,
  v183 := Tryz.zeroValue213,
  t218 := Tryz.underlying253,
  a218 := Tryz.isAgg253,
  z218 := Tryz.sizeOf253,
  v218 := Tryz.zeroValue253,
  t222 := Tryz.underlying257,
  a222 := Tryz.isAgg257,
  z222 := Tryz.sizeOf257,
  v222 := Tryz.zeroValue257,
  t228 := Tryz.underlying268,
  a228 := Tryz.isAgg268,
  z228 := Tryz.sizeOf268,
  v228 := Tryz.zeroValue268,
  t229 := Tryz.underlying269,
  a229 := Tryz.isAgg269,
  z229 := Tryz.sizeOf269,
  v229 := Tryz.zeroValue269 }
theorem Tryz_cp82 {l r : List ByteArray} {B : Nat} {A : Nat → Prop} {w : World} {L : List Ob} {i : Nat} {v : Value} (hH : Hp B A w L) (hi : L[i]? = some (o_9 v l)) (hB : B ≤ w.heap.size) (hA : ∀ b, w.heap.size ≤ b → A b) (hr : sortStrsL l = some r) : Ret Tryz.prog 82 #[v] w fun u w' => u = .tuple #[] ∧ Hp B A w' (L.set i (o_9 v r)) ∧ Tr Dw B A w A w' :=
  Hp.sortStrs (Dw := Dw) (fun _ => rfl) (fun a c w => Go.Proofs.Any.slices_Sort_string_none Tryz_cp82_lay a c w) (fun blk off cap zs w h1 h2 h3 => Go.Proofs.Any.slices_Sort_string Tryz_cp82_lay blk off cap zs w h1 h2 h3) hH hi hB hA hr
def idxPoL (b : Nat) (x : know_Posting) (u : Value × Value) : List Ob := [obC b [Ii x.id_, u.1, u.2] 86, o_3 u.1 x.title, o_3 u.2 x.body]
def idxPo (b : Nat) (x : know_Posting) : Ob := obE (idxPoL b x)
theorem idxPo_new {B : Nat} {A : Nat → Prop} {w : World} {L : List Ob} {b : Nat} {id : Int} (h : Hp B A w (obC b [Ii id, .slice none 0 0, .slice none 0 0] 86 :: L)) : Hp B A w (idxPo b ⟨id, [], []⟩ :: L) := by
 have h1 := (h.addNil (α := Int) (e := 3)).addNil (α := Int) (e := 3)
 refine Hp.pack (F := idxPoL b ⟨id, [], []⟩) (.slice none 0 0, .slice none 0 0) (h1.perm ?_)
 exact (List.Perm.cons _ (List.Perm.swap _ _ _)).trans (List.Perm.swap _ _ _)
theorem idxTo_c (title : Bool) (w : World) (b : Nat) : Ret prog (if title = true then 105 else 106) #[Pt b] w fun v w' => v = .pointer (some ⟨b, if title = true then 1 else 2, none⟩) ∧ w = w' := by
 cases title
 ·refine enter func106 rfl ntmps106 rfl ?_
  refine Sr (As (To ?_))
  refine Sr (Mm (Nc (Vy (Y_fieldAddrC (off2 := 2) underlying86 rfl sizeOf23 (by decide) rfl rfl) (As (To ?_)))))
  refine Rt (Res.one results106 rfl) ?_
  exact ⟨rfl, rfl⟩
 refine enter func105 rfl ntmps105 rfl ?_
 refine Sr (As (To ?_))
 refine Sr (Mm (Nc (Vy (Y_fieldAddrC (off2 := 1) underlying86 rfl sizeOf23 (by decide) rfl rfl) (As (To ?_)))))
 refine Rt (Res.one results105 rfl) ?_
 exact ⟨rfl, rfl⟩
theorem idxToCall (title : Bool) : ∀ (args : Array Value) (w : World), (callFunc (if title = true then 105 else 106) args).run prog w = .ok (.enter (if title = true then 105 else 106) args) w := by
 cases title
 ·exact call106
 exact call105
theorem know_postings_note_c (w : World) {A : Nat → Prop} {B : Nat} (hB : B ≤ w.heap.size) (hA : ∀ b, w.heap.size ≤ b → A b) (e : know_Entry) (b_v : Nat) (h_v : El A w b_v 0 e) (text : ByteArray) (title : Bool) (b_f b_s mb : Nat) (v_s : Value) (found : List (ByteArray × know_Posting)) (stems : List ByteArray) {L : List Ob} (hH : Hp B A w (obC b_f [.map (some mb)] 200 :: obMO Ptr idxPo mb found :: obC b_s [v_s] 73 :: o_9 v_s stems :: L)) {r : Int × List (ByteArray × know_Posting) × List ByteArray} (hm : know_postings_note e.id_ text title (found, stems) = some r) :
  Ret prog 103 #[.string text, .func (.func (if title = true then 105 else 106)) #[] #[], Pt b_f, Pt b_v, Pt b_s] w fun u w' => ∃ v', ∃ A1 : Nat → Prop, u = Ii r.1 ∧ Hp B A1 w' (obC b_f [.map (some mb)] 200 :: obMO Ptr idxPo mb r.2.1 :: obC b_s [v'] 73 :: o_9 v' r.2.2 :: L) ∧ Tr Dw B A w A1 w' := by
 unfold know_postings_note at hm
 refine enter func103 rfl ntmps103 rfl ?_
 have hK : Tr Dw B A w A w := Tr.refl (Dw := Dw) hA
 refine Sr (As (To ?_))
 refine Sr (Mm ?_)
 obtain ⟨l, hl, hm⟩ := Bs hm
 refine Vc call65 (know_Words_c (Dw := Dw) w hA text hl) ?_
 rintro v1 w1 ⟨_, rfl, h1, hk1⟩
 obtain ⟨A1, ht1, hH1⟩ := Hp.addOwnd (Dw := Dw) hH hB hA hk1 h1
 replace h_v := El.tr h_v ht1; replace hK := Tt hK ht1; replace hB := Bx hB ht1; replace hA := ht1.new
 obtain ⟨A2, ht2, h_l, hH2⟩ := Hp.freeze (Dw := Dw) hH1 (i := 0) rfl hA
 replace h_v := El.tr h_v ht2; replace hK := Tt hK ht2; replace hA := ht2.new
 replace hH : Hp _ _ _ (obC b_f [.map (some mb)] 200 :: obMO Ptr idxPo mb found :: obC b_s [v_s] 73 :: o_9 v_s stems :: L) := hH2
 refine As (To ?_)
 refine C_seq (Sr (Mm (Vy (Y_lenSl h_l rfl underlying73 rfl) (Mm (To ?_)))))
 have hnl := Sl.le h_l
 obtain ⟨o, ho, hm⟩ := Bs hm
 refine C_cutG (ι := ((List (ByteArray × know_Posting) × List ByteArray) × Value × (Nat → Prop))) (fun ⟨s, v, A'⟩ => [(8, v1)]) (fun ⟨s, v, A'⟩ => fun w' => o = .fin s ∧ Hp B A' w' (obC b_f [.map (some mb)] 200 :: obMO Ptr idxPo mb s.1 :: obC b_s [v] 73 :: o_9 v s.2 :: L) ∧ Tr Dw B A2 w1 A' w') ?_ ?_
 ·refine C_block ?_
  refine C_range ho (fun k s a w' => ∃ i : (Value × (Nat → Prop)), Has ⟨54, [], none⟩ a ([(1, .func (.func (if title = true then 105 else 106)) #[] #[]), (2, Pt b_f), (3, Pt b_v), (4, Pt b_s), (8, v1), (15, v1), (16, Ii (l.length : Int)), (17, Ii (k : Int))]) ∧ Hp B i.2 w' (obC b_f [.map (some mb)] 200 :: obMO Ptr idxPo mb s.1 :: obC b_s [i.1] 73 :: o_9 i.1 s.2 :: L) ∧ Tr Dw B A2 w1 i.2 w') (fun a ha => ⟨(v_s, A2), ha.sb, hH, Tr.refl (Dw := Dw) hA⟩) ?_
  rintro K k s a w3 ⟨⟨v3, A3⟩, ha3, hH3, hr⟩ hle K3 hfin
  obtain ⟨fnd, stm⟩ := s
  refine C_of ?_ ha3
  replace h_v := El.tr h_v hr; replace h_l := Sl.tr h_l hr; replace hB := Nat.le_trans hB hr.ex.size; replace hA := hr.new
  replace hH : Hp _ _ _ (obC b_f [.map (some mb)] 200 :: obMO Ptr idxPo mb fnd :: obC b_s [v3] 73 :: o_9 v3 stm :: L) := hH3
  refine Sr (Vy (Y_lss rfl rfl) (To ?_))
  refine C_seq ?_
  refine Cc (fun hc => ?_) fun hc => ?_
  ·have hlt := lt_of_dec hc
   obtain ⟨x, hx, hnx⟩ := K3 hlt
   unfold idxNote at hx
   refine Sk ?_
   refine C_seq (C_block (Sr (Mm ?_)))
   obtain ⟨wd, hwd, hx⟩ := Bs hx
   refine V_indexAddr h_l hwd underlying73 sizeOf9 rfl rfl rfl ?_
   intro b4 o4 h4
   refine Ld (El.str h4) isAgg9 (As (As (To ?_)))
   refine Sr (Mm ?_)
   obtain ⟨t, hst, hx⟩ := Bs hx
   refine Vc call104 (know_Stem_c w3 wd hst) ?_
   rintro _ _ ⟨rfl, rfl⟩
   refine As (To ?_)
   obtain ⟨q, hq, hx⟩ := Bs hx
   obtain ⟨m, hpm, hx⟩ := Bs hx
   refine C_seq (Sr (Ld (Hp.cell (j := 0) hH (i := 0) rfl rfl) isAgg200 (Mm ?_)))
   refine V_lookupMO1 hH (i := 1) rfl underlying200 underlying9 zeroValue180 rfl rfl rfl rfl ?_
   intro oo hoo
   refine Vy (Y_eqlPN underlying180 rfl rfl) (To ?_)
   refine C_cutG (ι := (Value × (Nat → Prop))) (fun ⟨v, A'⟩ => [(1, .func (.func (if title = true then 105 else 106)) #[] #[]), (2, Pt b_f), (3, Pt b_v), (4, Pt b_s), (8, v1), (9, Ii (k : Int)), (11, .string t), (15, v1), (16, Ii (l.length : Int)), (17, Ii (k : Int))]) (fun ⟨v, A'⟩ => fun w' => Hp B A' w' (obC b_f [.map (some mb)] 200 :: obMO Ptr idxPo mb (mapHave fnd t ⟨e.id_, [], []⟩) :: obC b_s [v] 73 :: o_9 v q :: L) ∧ Tr Dw B A3 w3 A' w') ?_ ?_
   ·refine Cc (fun hn => ?_) fun hn => ?_
    ·have hnone : mapGet fnd t = none := by
      cases hg : mapGet fnd t with
      | none => rfl
      | some p => rw [hg] at hoo; rw [hoo] at hn; cases hn
     have hhave : mapHave fnd t (⟨e.id_, [], []⟩ : know_Posting) = fnd ++ [(t, ⟨e.id_, [], []⟩)] := mapHave_none hnone
     rw [hnone] at hq
     rw [if_neg (by simp)] at hq
     refine Sr (Ld (Hp.cell (j := 0) hH (i := 0) rfl rfl) isAgg200 (Mm ?_))
     have h_id := El_know_Entry_0 h_v
     refine Fa underlying33 rfl sizeOf3 (Li h_id isAgg3 ?_)
     refine Vy (Y_build underlying86 zeroValue86 (Tryz_places86 _ underlying86) rfl (by with_unfolding_all rfl)) ?_
     refine V_boxH (Dw := Dw) (B := B) hH rfl hB hA rfl ?_
     intro b5 w5 A5 hH5 ht5
     replace hB := Bx hB ht5; replace hA := ht5.new
     replace hH : Hp B A5 w5 (idxPo (Ref.b (⟨b5⟩ : Ptr)) ⟨e.id_, [], []⟩ :: obC b_f [.map (some mb)] 200 :: obMO Ptr idxPo mb fnd :: obC b_s [v3] 73 :: o_9 v3 stm :: L) := idxPo_new hH5
     refine V_mapNewMO (Dw := Dw) (r := (⟨b5⟩ : Ptr)) (f := idxPo) (c := ⟨e.id_, [], []⟩) hH (i := 1) rfl hnone underlying200 underlying9 rfl rfl rfl hB hA ?_
     intro w6 hH6 ht6
     replace hB := Bx hB ht6; replace hA := ht6.new
     replace hH : Hp _ _ _ (obC b_f [.map (some mb)] 200 :: obMO Ptr idxPo mb (fnd ++ [(t, ⟨e.id_, [], []⟩)]) :: obC b_s [v3] 73 :: o_9 v3 stm :: L) := hH6
     refine To ?_
     refine C_region (Ld (Hp.cell (j := 0) hH (i := 2) rfl rfl) isAgg73 (Mm ?_))
     refine V_buildSlice (Dw := Dw) (l := ([t] : List ByteArray)) (len := 1) underlying73 sizeOf9 zeroValue9 rfl (by with_unfolding_all rfl) (show (1 * 1 : Nat) ≠ 0 by decide) (show (1 * 1 : Nat) ≤ 2 ^ 24 by decide) hA ⟨[.string t], _, rfl, rfl, rfl⟩ rfl rfl ?_
     intro v7 w7 hk7 h7
     have ht7 := Kp.tr hk7 hA hB; replace hH := Hp.kp hH hk7; replace hB := Bx hB ht7; replace hA := ht7.new
     refine V_appendH (Dw := Dw) (e := 9) (v := v3) (l := stm) (ti := t9) (bytes := 16) (lim := 8796093022208) hH (i := 3) rfl h7 hq underlying73 Tryz_info9 rfl rfl rfl rfl (by decide) (by decide) (by decide) hB hA rfl rfl rfl ?_
     intro v8 w8 A8 hH8 ht8
     replace hB := Bx hB ht8; replace hA := ht8.new
     replace hH : Hp _ _ _ (obC b_f [.map (some mb)] 200 :: obMO Ptr idxPo mb (fnd ++ [(t, ⟨e.id_, [], []⟩)]) :: obC b_s [v3] 73 :: o_9 v8 q :: L) := hH8
     have one8 : v8.oneCell' = true := by obtain ⟨_, _, e, _⟩ := Hp.form hH (i := 3) rfl; rw [e]; rfl
     refine V_storeC (Dw := Dw) (off := 0) (ds := [v8]) hH (i := 2) rfl sizeOf73 (cells_of_one one8) (Nat.le_of_ble_eq_true rfl) (cells_all_one one8) (by rw [Value.cells_one one8]; rfl) hB hA rfl rfl ?_
     intro w9 hH9 ht9
     replace hH : Hp _ _ _ (obC b_f [.map (some mb)] 200 :: obMO Ptr idxPo mb (fnd ++ [(t, ⟨e.id_, [], []⟩)]) :: obC b_s [v8] 73 :: o_9 v8 q :: L) := hH9
     refine V_end (fun a ha => ?_)
     refine ⟨(v8, A8), ha.sb, ?_, Tr.trans ht5 (Tr.trans ht6 (Tr.trans ht7 (Tr.trans ht8 ht9)))⟩
     rw [hhave]
     exact hH
    have hsome : (mapGet fnd t).isSome = true := by
     rw [← hoo]
     simpa using hn
    have hhave : mapHave fnd t (⟨e.id_, [], []⟩ : know_Posting) = fnd := by unfold mapHave; exact if_pos hsome
    rw [if_pos hsome] at hq
    obtain rfl := Oi hq
    refine C_skip (fun a ha => ?_)
    refine ⟨(v3, A3), ha.sb, ?_, Tr.refl (Dw := Dw) hA⟩
    rw [hhave]
    exact hH
   rintro ⟨v5, A5⟩ w5 ⟨hH5, ht5⟩ a ha5
   replace hB := Bx hB ht5; replace hA := ht5.new; replace hr := Tt hr ht5
   replace hH : Hp _ _ _ (obC b_f [.map (some mb)] 200 :: obMO Ptr idxPo mb (mapHave fnd t ⟨e.id_, [], []⟩) :: obC b_s [v5] 73 :: o_9 v5 q :: L) := hH5
   have hnd := Hp.moNodup hH (i := 1) rfl
   refine C_at (n := ⟨54, [], none⟩) (fun _ _ => rfl) ?_ ha5
   refine Sr (Mm (Ld (Hp.cell (j := 0) hH (i := 0) rfl rfl) isAgg200 (Mm ?_)))
   refine V_lookupMO hH (i := 1) rfl (mapHave_get fnd t ⟨e.id_, [], []⟩) underlying200 underlying9 zeroValue180 rfl rfl rfl rfl ?_
   rintro j ⟨bp⟩ hj hHo
   refine V_call (idxToCall title) rfl rfl rfl rfl (idxTo_c title w5 bp) ?_
   rintro _ _ ⟨rfl, rfl⟩
   refine As (To ?_)
   refine C_region (Mm (Mm (Nc ?_)))
   unfold idxPut at hpm
   generalize (mapGet fnd t).getD ⟨e.id_, [], []⟩ = p at hpm hj hHo
   obtain ⟨⟨vt, vb⟩, hHp⟩ := Hp.open hHo
   cases title
   ·rw [if_neg (by decide)] at hpm
    obtain ⟨l1, hl1, hpm⟩ := Bs hpm
    obtain rfl := Oi hpm
    replace hH : Hp B A5 w5 (obC bp [Ii p.id_, vt, vb] 86 :: o_3 vt p.title :: o_3 vb p.body :: obC b_f [.map (some mb)] 200 :: obMX Ptr idxPo mb (mapHave fnd t ⟨e.id_, [], []⟩) j ⟨bp⟩ :: obC b_s [v5] 73 :: o_9 v5 q :: L) := hHp
    refine Ld (Hp.cell (j := 2) hH (i := 0) rfl rfl) isAgg23 (Mm ?_)
    refine V_buildSlice (Dw := Dw) (cells := #[Ii (k : Int)]) (l := ([(k : Int)] : List Int)) (len := 1) underlying23 sizeOf3 zeroValue3 rfl (by generalize ((k : Int)) = z; kernel_rfl) (show (1 * 1 : Nat) ≠ 0 by decide) (show (1 * 1 : Nat) ≤ 2 ^ 24 by decide) hA ⟨[Ii (k : Int)], _, rfl, rfl, rfl⟩ rfl rfl ?_
    intro v7 w7 hk7 h7
    have ht7 := Kp.tr hk7 hA hB; replace hH := Hp.kp hH hk7; replace hB := Bx hB ht7; replace hA := ht7.new
    refine V_appendH (Dw := Dw) (e := 3) (v := vb) (l := p.body) (ti := t3) (bytes := 8) (lim := 17592186044416) hH (i := 2) rfl h7 hl1 underlying23 Tryz_info3 rfl rfl rfl rfl (by decide) (by decide) (by decide) hB hA rfl rfl rfl ?_
    intro v8 w8 A8 hH8 ht8
    replace hB := Bx hB ht8; replace hA := ht8.new
    replace hH : Hp _ _ _ (obC bp [Ii p.id_, vt, vb] 86 :: o_3 vt p.title :: o_3 v8 l1 :: obC b_f [.map (some mb)] 200 :: obMX Ptr idxPo mb (mapHave fnd t ⟨e.id_, [], []⟩) j ⟨bp⟩ :: obC b_s [v5] 73 :: o_9 v5 q :: L) := hH8
    have one8 : v8.oneCell' = true := by obtain ⟨_, _, e, _⟩ := Hp.form hH (i := 2) rfl; rw [e]; rfl
    refine Nc ?_
    refine V_storeC (Dw := Dw) (off := 2) (ds := [Ii p.id_, vt, v8]) hH (i := 0) rfl sizeOf23 (cells_of_one one8) (Nat.le_of_ble_eq_true rfl) (cells_all_one one8) (by rw [Value.cells_one one8]; rfl) hB hA rfl rfl ?_
    intro w9 hH9 ht9
    have hHq : Hp B A8 w9 (idxPo (Ref.b (⟨bp⟩ : Ptr)) ⟨p.id_, p.title, l1⟩ :: obC b_f [.map (some mb)] 200 :: obMX Ptr idxPo mb (mapHave fnd t ⟨e.id_, [], []⟩) j ⟨bp⟩ :: obC b_s [v5] 73 :: o_9 v5 q :: L) := Hp.pack (F := idxPoL bp ⟨p.id_, p.title, l1⟩) (vt, v8) hH9
    have hHr := Hp.moBack (i := 1) hHq rfl hj
    rw [mapHave_put hnd hj] at hHr
    replace hr := Tr.trans hr (Tr.trans ht7 (Tr.trans ht8 ht9))
    refine To ?_
    refine C_region (Vy (Y_addI rfl rfl) (Mm ?_))
    obtain rfl := Oi hx
    refine V_end (fun a ha => ?_)
    exact ⟨(_, q), hlt, hnx, ⟨(v5, A8), ha.sub ⟨rfl, rfl, rfl, rfl, rfl, rfl, rfl, Ws hlt hnl, trivial⟩, hHr, hr⟩⟩
   rw [if_pos rfl] at hpm
   obtain ⟨l1, hl1, hpm⟩ := Bs hpm
   obtain rfl := Oi hpm
   replace hH : Hp B A5 w5 (obC bp [Ii p.id_, vt, vb] 86 :: o_3 vt p.title :: o_3 vb p.body :: obC b_f [.map (some mb)] 200 :: obMX Ptr idxPo mb (mapHave fnd t ⟨e.id_, [], []⟩) j ⟨bp⟩ :: obC b_s [v5] 73 :: o_9 v5 q :: L) := hHp
   refine Ld (Hp.cell (j := 1) hH (i := 0) rfl rfl) isAgg23 (Mm ?_)
   refine V_buildSlice (Dw := Dw) (cells := #[Ii (k : Int)]) (l := ([(k : Int)] : List Int)) (len := 1) underlying23 sizeOf3 zeroValue3 rfl (by generalize ((k : Int)) = z; kernel_rfl) (show (1 * 1 : Nat) ≠ 0 by decide) (show (1 * 1 : Nat) ≤ 2 ^ 24 by decide) hA ⟨[Ii (k : Int)], _, rfl, rfl, rfl⟩ rfl rfl ?_
   intro v7 w7 hk7 h7
   have ht7 := Kp.tr hk7 hA hB; replace hH := Hp.kp hH hk7; replace hB := Bx hB ht7; replace hA := ht7.new
   refine V_appendH (Dw := Dw) (e := 3) (v := vt) (l := p.title) (ti := t3) (bytes := 8) (lim := 17592186044416) hH (i := 1) rfl h7 hl1 underlying23 Tryz_info3 rfl rfl rfl rfl (by decide) (by decide) (by decide) hB hA rfl rfl rfl ?_
   intro v8 w8 A8 hH8 ht8
   replace hB := Bx hB ht8; replace hA := ht8.new
   replace hH : Hp _ _ _ (obC bp [Ii p.id_, vt, vb] 86 :: o_3 v8 l1 :: o_3 vb p.body :: obC b_f [.map (some mb)] 200 :: obMX Ptr idxPo mb (mapHave fnd t ⟨e.id_, [], []⟩) j ⟨bp⟩ :: obC b_s [v5] 73 :: o_9 v5 q :: L) := hH8
   have one8 : v8.oneCell' = true := by obtain ⟨_, _, e, _⟩ := Hp.form hH (i := 1) rfl; rw [e]; rfl
   refine Nc ?_
   refine V_storeC (Dw := Dw) (off := 1) (ds := [Ii p.id_, v8, vb]) hH (i := 0) rfl sizeOf23 (cells_of_one one8) (Nat.le_of_ble_eq_true rfl) (cells_all_one one8) (by rw [Value.cells_one one8]; rfl) hB hA rfl rfl ?_
   intro w9 hH9 ht9
   have hHq : Hp B A8 w9 (idxPo (Ref.b (⟨bp⟩ : Ptr)) ⟨p.id_, l1, p.body⟩ :: obC b_f [.map (some mb)] 200 :: obMX Ptr idxPo mb (mapHave fnd t ⟨e.id_, [], []⟩) j ⟨bp⟩ :: obC b_s [v5] 73 :: o_9 v5 q :: L) := Hp.pack (F := idxPoL bp ⟨p.id_, l1, p.body⟩) (v8, vb) hH9
   have hHr := Hp.moBack (i := 1) hHq rfl hj
   rw [mapHave_put hnd hj] at hHr
   replace hr := Tr.trans hr (Tr.trans ht7 (Tr.trans ht8 ht9))
   refine To ?_
   refine C_region (Vy (Y_addI rfl rfl) (Mm ?_))
   obtain rfl := Oi hx
   refine V_end (fun a ha => ?_)
   exact ⟨(_, q), hlt, hnx, ⟨(v5, A8), ha.sub ⟨rfl, rfl, rfl, rfl, rfl, rfl, rfl, Ws hlt hnl, trivial⟩, hHr, hr⟩⟩
  refine C_exit (fun a ha => ?_)
  exact ⟨((fnd, stm), v3, A3), ha.sb, ⟨(hfin (eq_of_dec hle hc)).symm, hH, hr⟩⟩
 rintro ⟨s, v3, A3⟩ w3 ⟨rfl, hH3, hr⟩ a ha3
 rw [Lp.andThen_fin] at hm
 obtain rfl := Oi hm
 replace h_l := Sl.tr h_l hr; replace hK := Tr.trans hK hr
 refine C_at (n := ⟨54, [], none⟩) (fun _ _ => rfl) ?_ ha3
 refine Sr (Mm (Vy (Y_lenSl h_l rfl underlying73 rfl) (As (To ?_))))
 refine Rt (Res.one results103 rfl) ?_
 exact ⟨v3, A3, rfl, hH3, hK⟩
theorem idxPo_el {A A1 : Nat → Prop} {w : World} {b : Nat} {x : know_Posting} {fb : List Nat} (h : (idxPo b x).P fb A w) (hf : ∀ k ∈ fb, A1 k ∧ k < w.heap.size) : El (α := know_Posting) A1 w b 0 x := by
 obtain ⟨⟨vt, vb⟩, hs⟩ := h
 obtain ⟨f1, ⟨rfl, h1⟩, s1, _⟩ := Sp.at hs (i := 0) rfl
 obtain ⟨f2, h2, s2, _⟩ := Sp.at hs (i := 1) rfl
 obtain ⟨f3, h3, s3, _⟩ := Sp.at hs (i := 2) rfl
 have hb := hf b (s1 b (by simp))
 have h_t : Sl A1 w vt x.title := OwP.slI h2 fun k hk => (hf k (s2 k hk)).1
 have h_b : Sl A1 w vb x.body := OwP.slI h3 fun k hk => (hf k (s3 k hk)).1
 refine ⟨hb.1, hb.2, [Ii x.id_, vt, vb], ⟨[Ii x.id_], _, rfl, rfl, ⟨[vt], _, rfl, ⟨_, rfl, h_t⟩, ⟨_, rfl, h_b⟩⟩⟩, fun j u hj => ?_⟩
 simp only [World.cell?, h1, Nat.zero_add]
 simpa using hj
theorem know_postings_c (w : World) {A : Nat → Prop} {B : Nat} (hB : B ≤ w.heap.size) (hA : ∀ b, w.heap.size ≤ b → A b) (v : know_Entry) {L : List Ob} (hH : Hp B A w (L)) {r : List know_Term × Int} (hm : know_postings v = some r) : Ret prog 71 #[.agg #[Ii v.id_, .string v.title, .string v.body]] w fun u w' => ∃ s0, ∃ A1 : Nat → Prop, u = .tuple #[s0, Ii r.2] ∧ Hp B A1 w' (o_83 s0 r.1 :: L) ∧ Tr Dw B A w A1 w' := by
 unfold know_postings at hm
 refine enter func71 rfl ntmps71 rfl ?_
 have hK : Tr Dw B A w A w := Tr.refl (Dw := Dw) hA
 refine Sr ?_
 refine V_box rfl rfl ?_
 intro b1 w1 n1
 have h_v : El (α := know_Entry) A w1 b1 0 v := n1.el hA ⟨[Ii v.id_], _, rfl, rfl, ⟨[.string v.title], _, rfl, rfl, rfl⟩⟩
 have ht1 := Kp.tr (Dw := Dw) n1.kp hA hB
 replace hH := Hp.kp (Dw := Dw) hH n1.kp
 replace hK := Tt hK ht1; replace hB := Bx hB ht1; replace hA := ht1.new
 refine As (As (To ?_))
 refine Sr ?_
 refine V_makeMapB (Dw := Dw) ByteArray (Option Ptr) hH hB hA rfl ?_
 intro mb w2 A2 hH2 ht2
 replace h_v := El.tr h_v ht2; replace hK := Tt hK ht2; replace hB := Bx hB ht2; replace hA := ht2.new
 replace hH : Hp B A2 w2 (obMO (κ := ByteArray) Ptr idxPo mb [] :: L) := Hp.moNew Ptr idxPo hH2 (i := 0) rfl
 refine V_allocH (Dw := Dw) (B := B) hH zeroValue200 hB hA rfl ?_
 intro b_f w3 A3 hH3 ht3
 replace h_v := El.tr h_v ht3; replace hK := Tt hK ht3; replace hB := Bx hB ht3; replace hA := ht3.new
 refine V_storeC (Dw := Dw) (off := 0) (ds := [.map (some mb)]) hH3 (i := 0) rfl sizeOf200 rfl (Nat.le_of_ble_eq_true rfl) (by exact (List.forall_mem_cons.2 ⟨rfl, (fun _ h => nomatch h)⟩)) rfl hB hA rfl rfl ?_
 intro w4 hH4 ht4
 replace h_v := El.tr h_v ht4; replace hK := Tt hK ht4; replace hB := Bx hB ht4; replace hA := ht4.new
 refine To ?_
 refine Sr ?_
 refine V_allocH (Dw := Dw) (B := B) hH4 zeroValue73 hB hA rfl ?_
 intro b_s w5 A5 hH5 ht5
 replace h_v := El.tr h_v ht5; replace hK := Tt hK ht5; replace hB := Bx hB ht5; replace hA := ht5.new
 have hH6 : Hp B A5 w5 (o_9 (.slice none 0 0) [] :: obC b_s [.slice none 0 0] 73 :: obC b_f [.map (some mb)] 200 :: obMO (κ := ByteArray) Ptr idxPo mb [] :: L) := Hp.addNil (α := ByteArray) (e := 9) hH5
 replace hH : Hp B A5 w5 (obC b_f [.map (some mb)] 200 :: obMO Ptr idxPo mb ([] : List (ByteArray × know_Posting)) :: obC b_s [.slice none 0 0] 73 :: o_9 (.slice none 0 0) [] :: L) := Hp.front (Hp.front (Hp.front hH6 (i := 1) rfl) (i := 3) rfl) (i := 3) rfl
 refine To ?_
 refine Sr (Vy (Y_makeFunc rfl rfl) (As (To ?_)))
 refine Sr (Mm ?_)
 have h_ti := El_know_Entry_1 h_v
 refine Fa underlying33 rfl sizeOf9 (Ld (El.str h_ti) isAgg9 ?_)
 obtain ⟨a, ha, hm⟩ := Bs hm
 refine Vc call103 (know_postings_note_c (Dw := Dw) w5 hB hA v b1 h_v v.title true b_f b_s mb (.slice none 0 0) [] [] hH ha) ?_
 rintro _ w6 ⟨v6, A6, rfl, hH6', ht6⟩
 replace h_v := El.tr h_v ht6; replace hK := Tt hK ht6; replace hB := Bx hB ht6; replace hA := ht6.new
 obtain ⟨n1_, f1, s1⟩ := a
 replace hH : Hp B A6 w6 (obC b_f [.map (some mb)] 200 :: obMO Ptr idxPo mb f1 :: obC b_s [v6] 73 :: o_9 v6 s1 :: L) := hH6'
 refine As (To ?_)
 refine Sr (Mm (Mm ?_))
 have h_bo := El_know_Entry_2 h_v
 refine Fa underlying33 rfl sizeOf9 (Ld (El.str h_bo) isAgg9 ?_)
 obtain ⟨b, hb, hm⟩ := Bs hm
 refine Vc call103 (know_postings_note_c (Dw := Dw) w6 hB hA v b1 h_v v.body false b_f b_s mb v6 f1 s1 hH hb) ?_
 rintro _ w7 ⟨v7, A7, rfl, hH7, ht7⟩
 replace hK := Tt hK ht7; replace hB := Bx hB ht7; replace hA := ht7.new
 obtain ⟨n2_, f2, s2⟩ := b
 replace hH : Hp _ _ _ (obC b_f [.map (some mb)] 200 :: obMO Ptr idxPo mb f2 :: obC b_s [v7] 73 :: o_9 v7 s2 :: L) := hH7
 refine Vy (Y_addI rfl rfl) (As (To ?_))
 refine Sr (Ld (Hp.cell (j := 0) hH (i := 2) rfl rfl) isAgg73 ?_)
 obtain ⟨q, hq, hm⟩ := Bs hm
 refine Vc call82 (Tryz_cp82 (Dw := Dw) hH (i := 3) rfl hB hA hq) ?_
 rintro _ w8 ⟨rfl, hH8, ht8⟩
 replace hK := Tt hK ht8; replace hB := Bx hB ht8; replace hA := ht8.new
 replace hH : Hp _ _ _ (obC b_f [.map (some mb)] 200 :: obMO Ptr idxPo mb f2 :: obC b_s [v7] 73 :: o_9 v7 q :: L) := hH8
 refine To ?_
 obtain ⟨A9, ht9, h_q, hH9⟩ := Hp.freeze (Dw := Dw) hH (i := 3) rfl hA
 replace hK := Tt hK ht9; replace hA := ht9.new
 obtain ⟨A10, f0, hP, hf0, hsub, ht10, hH10⟩ := Hp.frz (Dw := Dw) hH9 (i := 1) rfl hA
 obtain ⟨rs, hrl, hF, hPo⟩ := moPersist hP hf0
 replace hK := Tt hK ht10; replace hA := ht10.new; replace h_q := Sl.tr h_q ht10
 have hEl : ∀ (j : Nat) (r : Ptr) (p : ByteArray × know_Posting), rs[j]? = some r → f2[j]? = some p → El (α := know_Posting) A10 w8 r.b 0 p.2 := fun j r p h1 h2 => by
  obtain ⟨fb, h3, h4⟩ := hPo j r p h1 h2
  exact idxPo_el h3 h4
 clear hP hf0 hPo
 replace hH : Hp _ _ _ (obC b_f [.map (some mb)] 200 :: obC b_s [v7] 73 :: L) := hH10
 refine Sr (As (To ?_))
 replace hH : Hp B A10 w8 (o_83 (.slice none 0 0) [] :: obC b_f [.map (some mb)] 200 :: obC b_s [v7] 73 :: L) := Hp.addNil (α := know_Term) (e := 83) hH
 refine C_seq (Sr (Ld (Hp.cell (j := 0) hH (i := 2) rfl rfl) isAgg73 (Vy (Y_lenSl h_q rfl underlying73 rfl) (Mm (To ?_)))))
 have hnl := Sl.le h_q
 obtain ⟨o, ho, hm⟩ := Bs hm
 refine C_cutG (ι := (List know_Term × Value × (Nat → Prop))) (fun ⟨s, v9, A'⟩ => [(7, Ii (w64 (n1_ + n2_))), (8, v9)]) (fun ⟨s, v9, A'⟩ => fun w' => o = .fin s ∧ Hp B A' w' (o_83 v9 s :: obC b_f [.map (some mb)] 200 :: obC b_s [v7] 73 :: L) ∧ Tr Dw B A10 w8 A' w') ?_ ?_
 ·refine C_block ?_
  refine C_range ho (fun k s a w' => ∃ i : (Value × (Nat → Prop)), Has ⟨45, [], none⟩ a ([(4, Pt b_f), (7, Ii (w64 (n1_ + n2_))), (8, i.1), (25, v7), (26, Ii (q.length : Int)), (27, Ii (k : Int))]) ∧ Hp B i.2 w' (o_83 i.1 s :: obC b_f [.map (some mb)] 200 :: obC b_s [v7] 73 :: L) ∧ Tr Dw B A10 w8 i.2 w') (fun a ha => ⟨(.slice none 0 0, A10), ha.sb, hH, Tr.refl (Dw := Dw) hA⟩) ?_
  rintro K k s a w9 ⟨⟨v9, A11⟩, ha9, hH11, hr⟩ hle K9 hfin
  refine C_of ?_ ha9
  replace h_q := Sl.tr h_q hr
  replace hF := FMb.tr (Dw := Dw) hF hr
  replace hB := Nat.le_trans hB hr.ex.size; replace hA := hr.new
  replace hH : Hp _ _ _ (o_83 v9 s :: obC b_f [.map (some mb)] 200 :: obC b_s [v7] 73 :: L) := hH11
  refine Sr (Vy (Y_lss rfl rfl) (To ?_))
  refine C_seq ?_
  refine Cc (fun hc => ?_) fun hc => ?_
  ·have hlt := lt_of_dec hc
   obtain ⟨x, hx, hnx⟩ := K9 hlt
   refine Sk ?_
   refine C_seq (C_block (Sr ?_))
   obtain ⟨t, ht, hx⟩ := Bs hx
   refine V_indexAddr h_q ht underlying73 sizeOf9 rfl rfl rfl ?_
   intro b4 o4 h4
   refine Ld (El.str h4) isAgg9 (As (To ?_))
   obtain ⟨p, hp, hx⟩ := Bs hx
   obtain ⟨j, rf, hj, hrj, hg, _⟩ := moE_some (rs := rs) hrl hp
   have hpo := El.tr (hEl j rf (t, p) hrj hj) hr
   refine C_region (Mm (Mm (Ld (Hp.cell (j := 0) hH (i := 1) rfl rfl) isAgg200 (Mm (Vy (Y_lookupF (zz := (none : Option Ptr)) hF underlying200 underlying9 zeroValue180 rfl rfl rfl) ?_)))))
   rw [hg]
   refine Vy (Y_nilCheck (a := ⟨rf.b, 0, none⟩) rfl) ?_
   obtain ⟨vt, vb, hat, h_t, h_b⟩ := El_know_Posting hpo
   refine Vy (Y_loadA hat isAgg86 sizeOf86 rfl) ?_
   refine V_buildSlice (Dw := Dw) (cells := #[Ii p.id_, vt, vb]) (l := ([p] : List know_Posting)) (len := 1) underlying81 sizeOf86 zeroValue86 rfl (by obtain ⟨a89, c90, e91, _⟩ := Sl.form h_t; subst e91; obtain ⟨a92, c93, e94, _⟩ := Sl.form h_b; subst e94; kernel_rfl) (show (1 * 3 : Nat) ≠ 0 by decide) (show (1 * 3 : Nat) ≤ 2 ^ 24 by decide) hA ⟨[Ii p.id_, vt, vb], _, rfl, ⟨[Ii p.id_], _, rfl, rfl, ⟨[vt], _, rfl, ⟨_, rfl, h_t⟩, ⟨_, rfl, h_b⟩⟩⟩, rfl⟩ rfl rfl ?_
   intro v12 w12 hk12 h12
   have ht12 := Kp.tr hk12 hA hB; replace hH := Hp.kp hH hk12; replace hr := Tt hr ht12; replace hB := Bx hB ht12; replace hA := ht12.new
   refine Vy (Y_build (cells := #[.string t, v12]) underlying83 zeroValue83 (Tryz_places83 _ underlying83) rfl (by obtain ⟨a89, c90, e91, _⟩ := Sl.form h12; subst e91; kernel_rfl)) ?_
   refine V_buildSlice (Dw := Dw) (cells := #[.string t, v12]) (l := ([(⟨t, [p]⟩ : know_Term)] : List know_Term)) (len := 1) underlying24 sizeOf83 zeroValue83 rfl (by obtain ⟨a89, c90, e91, _⟩ := Sl.form h12; subst e91; kernel_rfl) (show (1 * 2 : Nat) ≠ 0 by decide) (show (1 * 2 : Nat) ≤ 2 ^ 24 by decide) hA ⟨[.string t, v12], _, rfl, ⟨[.string t], _, rfl, rfl, ⟨_, rfl, h12⟩⟩, rfl⟩ rfl rfl ?_
   intro v13 w13 hk13 h13
   have ht13 := Kp.tr hk13 hA hB; replace hH := Hp.kp hH hk13; replace hr := Tt hr ht13; replace hB := Bx hB ht13; replace hA := ht13.new
   obtain ⟨s', hs', hx⟩ := Bs hx
   refine V_appendH (Dw := Dw) (e := 83) (v := v9) (l := s) (ti := t83) (bytes := 40) (lim := 3518437208883) hH (i := 0) rfl h13 hs' underlying24 Tryz_info83 rfl rfl rfl rfl (by decide) (by decide) (by decide) hB hA rfl rfl rfl ?_
   intro v14 w14 A14 hH14 ht14
   replace hr := Tt hr ht14
   replace hH : Hp _ _ _ (o_83 v14 s' :: obC b_f [.map (some mb)] 200 :: obC b_s [v7] 73 :: L) := hH14
   refine As (To ?_)
   refine C_region (Vy (Y_addI rfl rfl) (Mm ?_))
   obtain rfl := Oi hx
   refine V_end (fun a ha => ?_)
   exact ⟨s', hlt, hnx, ⟨(v14, A14), ha.sub ⟨rfl, rfl, rfl, rfl, rfl, Ws hlt hnl, trivial⟩, hH, hr⟩⟩
  refine C_exit (fun a ha => ?_)
  exact ⟨(s, v9, A11), ha.sb, ⟨(hfin (eq_of_dec hle hc)).symm, hH, hr⟩⟩
 rintro ⟨s, v9, A9'⟩ w9 ⟨rfl, hH9', hr⟩ a ha9
 rw [Lp.andThen_fin] at hm
 obtain rfl := Oi hm
 replace hK := Tr.trans hK hr
 refine C_at (n := ⟨45, [], none⟩) (fun _ _ => rfl) ?_ ha9
 refine Sr (Mm (Mm (As (As (To ?_)))))
 refine Rt (Res.two results71 rfl rfl) ?_
 exact ⟨v9, A9', rfl, Hp.drop (i := 1) (Hp.drop (i := 1) hH9' rfl) rfl, hK⟩
end Go.Proofs.YtldkdabcdbgpbaaGreatDoor.W
