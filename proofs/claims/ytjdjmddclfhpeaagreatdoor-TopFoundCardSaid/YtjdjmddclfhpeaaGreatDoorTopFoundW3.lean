import Derived.Test.YtjdjmddclfhpeaaGreatDoorTopFoundW2
namespace Go.Proofs.YtjdjmddclfhpeaaGreatDoor.W
open Go Go.RowKit Go.Pu Go.Gw Go.Proofs Go.Proofs.YtjdjmddclfhpeaaGreatDoor.M
set_option linter.unusedVariables false
set_option linter.unusedSimpArgs false
variable {Dw : Prop}
set_option maxHeartbeats 4000000
set_option maxRecDepth 4000
open Tryz
theorem know_Index_phrase_c (w : World) {A : Nat → Prop} (hA : ∀ b, w.heap.size ≤ b → A b) (x : know_Index) (v_x0 : Value) (h_x0 : Sl A w v_x0 x.ids) (v_x1 : Value) (h_x1 : Sl A w v_x1 x.sizes) (v_x2 : Value) (h_x2 : Sl A w v_x2 x.terms) (words : (List ByteArray)) (v_words : Value) (h_words : Sl A w v_words words) (id_ : Int) {r : Bool} (hm : know_Index_phrase x words id_ = some r) : Ret prog 63 #[.agg #[v_x0, v_x1, v_x2], v_words, Ii id_] w fun v w' => v = .bool r ∧ Kp Dw w w' := by
 unfold know_Index_phrase at hm
 refine enter func63 rfl ntmps63 rfl ?_
 have hA0 := hA
 obtain ⟨hB, hK, hH⟩ := St (Dw := Dw) hA
 refine Sr ?_
 refine V_box rfl rfl ?_
 intro b9 w10 h11
 have hk13 := h11.kp (Dw := Dw)
 have h12 : El (α := know_Index) A w10 b9 0 x := h11.el hA ⟨[v_x0], _, rfl, ⟨_, rfl, h_x0⟩, ⟨[v_x1], _, rfl, ⟨_, rfl, h_x1⟩, ⟨_, rfl, h_x2⟩⟩⟩
 have ht14 := Kp.tr hk13 hA hB; replace hH := Hp.kp hH hk13; replace h_words := Sl.tr h_words ht14; replace hK := Tt hK ht14; replace hB := Bx hB ht14; replace hA := ht14.new
 refine As (To ?_)
 refine Sr (As (As (To ?_)))
 refine C_seq (Sr (Mm (Vy (Y_lenSl h_words rfl underlying62 rfl) (Mm (To ?_)))))
 replace hH : Hp w.heap.size A w10 (obS (α := (List Int)) 23 (.slice none 0 0) ([] : (List (List Int))) :: []) := Hp.addNil (α := (List Int)) (e := 23) hH
 replace hH : Hp w.heap.size A w10 (obS (α := (List Int)) 23 (.slice none 0 0) ([] : (List (List Int))) :: obS (α := (List Int)) 23 (.slice none 0 0) ([] : (List (List Int))) :: []) := Hp.addNil (α := (List Int)) (e := 23) hH
 have hn43 := Sl.le h_words
 obtain ⟨o15, ho15, hm⟩ := Bs hm
 refine C_cutG (ι := (((List (List Int)) × (List (List Int))) × Value × Value × (Nat → Prop))) (fun ⟨s16, v22, v24, A26⟩ => [(7, v22), (8, v24)]) (fun ⟨s16, v22, v24, A26⟩ => fun w' => o15 = .fin s16 ∧ Hp w.heap.size A26 w' (obS (α := (List Int)) 23 v24 s16.2 :: obS (α := (List Int)) 23 v22 s16.1 :: []) ∧ Tr Dw w.heap.size A w10 A26 w') ?_ ?_
 ·refine C_block ?_
  refine C_range ho15 (fun k18 s28 a w' => ∃ i : (Value × Value × (Nat → Prop)), Has ⟨56, [], none⟩ a ([(2, Ii id_), (3, Pt b9), (7, i.1), (8, i.2.1), (16, v_words), (17, Ii (words.length : Int)), (18, Ii (k18 : Int))]) ∧ Hp w.heap.size i.2.2 w' (obS (α := (List Int)) 23 i.2.1 s28.2 :: obS (α := (List Int)) 23 i.1 s28.1 :: []) ∧ Tr Dw w.heap.size A w10 i.2.2 w') (fun a ha => ⟨(.slice none 0 0, .slice none 0 0, A), ha.sb, ⟨hH, Tr.refl (Dw := Dw) hA⟩⟩) ?_
  rintro K k18 s28 a w29 ⟨⟨v30, v32, A34⟩, ha476, hH35, hr17⟩ hle39 K42 h41
  refine C_of ?_ ha476
  replace h12 := El.tr h12 hr17; replace h_words := Sl.tr h_words hr17; replace hK := Tt hK hr17; replace hB := Bx hB hr17; replace hA := hr17.new
  replace hH : Hp _ _ _ (obS (α := (List Int)) 23 v32 s28.2 :: obS (α := (List Int)) 23 v30 s28.1 :: []) := hH35
  refine Sr (Vy (Y_lss rfl rfl) (To ?_))
  refine C_seq ?_
  refine Cc (fun hc44 => ?_) fun hc44 => ?_
  ·have hlt40 := lt_of_dec hc44
   obtain ⟨x36, h37, h38⟩ := K42 hlt40
   refine Sk ?_
   refine C_seq (C_block (Sr ?_))
   obtain ⟨x45, hx45, h37⟩ := Bs h37
   refine V_indexAddr h_words hx45 underlying62 sizeOf9 rfl rfl rfl ?_
   intro b46 o47 h48
   refine Ld (El.str h48) isAgg9 (As (To ?_))
   refine C_seq ?_
   refine C_region_chz (Dw := Dw) A34 7 [(1, 0), (1, 1), (2, 2), (2, 3), (1, 4), (1, 5), (1, 6)] [(4, 8), (1, 9)] Tryz_mixed (by kernel_rfl) (fun w49 hk50 => ?_)
   have ht51 := Kp.tr hk50 hA hB; replace hH := Hp.kp hH hk50; replace h12 := El.tr h12 ht51; replace hK := Tt hK ht51; replace hr17 := Tt hr17 ht51; replace hB := Bx hB ht51; replace hA := ht51.new
   refine CHZ_q2 rfl ?_
   obtain ⟨v52, v54, v56, h58, h53, h55, h57⟩ := El_know_Index h12
   refine Qv (fun w' hw' => Y_loadA (At.same h58 (hw'.2 _ h12.2.1 h12.1)) isAgg47 sizeOf47 rfl) (VQ_CHZ (CHZ_q2 rfl (Qm (VQ_CHZ ?_))))
   refine CHZ_l1 (k := 0) [(2, 7), (2, 2), (2, 3), (1, 4), (1, 5), (1, 6), (4, 8), (1, 9)] rfl ?_ rfl ?_
   ·refine CH_l1 (k := 0) rfl ?_
    refine V_allocHk (Dw := Dw) (B := w.heap.size) hH zeroValue90 hB hA rfl ?_
    intro b59 w60 A61 hk64 hH62 ht63
    replace h53 := Sl.tr h53 ht63; replace h55 := Sl.tr h55 ht63; replace h57 := Sl.tr h57 ht63; replace hK := Tt hK ht63; replace hr17 := Tt hr17 ht63; replace hB := Bx hB ht63; replace hA := ht63.new
    replace hH : Hp _ _ _ (obC b59 [.string ByteArray.empty, .slice none 0 0] 90 :: obS (α := (List Int)) 23 v32 s28.2 :: obS (α := (List Int)) 23 v30 s28.1 :: []) := hH62
    refine V_CH (hk64) ?_
    refine CH_l1 (k := 0) rfl ?_
    obtain ⟨x65, hx65, h37⟩ := Bs h37
    refine Vc call61 (know_Stem_c w60 x45 hx65) ?_
    rintro _ _ ⟨rfl, rfl⟩
    refine V_CH (Kp.refl (Dw := Dw) _) ?_
    refine CH_l1 (k := 0) rfl ?_
    obtain ⟨x66, hx66, h37⟩ := Bs h37
    refine Vc call62 (know_Index_term_c (Dw := Dw) w60 hA x v52 h53 v54 h55 v56 h57 x65 hx66) ?_
    rintro _ w69 ⟨v67, rfl, h68, hk70⟩
    have ht71 := Kp.tr hk70 hA hB; replace hH := Hp.kp hH hk70; replace hK := Tt hK ht71; replace hr17 := Tt hr17 ht71; replace hB := Bx hB ht71; replace hA := ht71.new
    refine V_CH (hk70) ?_
    refine CH_q2 rfl (Qm (VQ_CH (CH_q2 rfl (Qv (fun w' hw' => Y_extract rfl rfl) (VQ_CH (CH_q2 rfl (Qv (fun w' hw' => Y_extract rfl rfl) (VQ_CH ?_))))))))
    refine CH_l1 (k := 2) rfl ?_
    have h77 : (v67).oneCell' = true := by obtain ⟨_, _, e, _⟩ := Sl.form h68; rw [e]; rfl
    refine V_storeC (Dw := Dw) (off := 0) (ds := [.string x66.1.word, v67]) hH (i := 0) rfl sizeOf90 rfl (Nat.le_of_ble_eq_true rfl) (by exact (List.forall_mem_cons.2 ⟨rfl, (List.forall_mem_cons.2 ⟨h77, (fun _ h => nomatch h)⟩)⟩)) rfl hB hA rfl rfl ?_
    intro w72 hH73 ht74
    replace h68 := Sl.tr h68 ht74; replace hK := Tt hK ht74; replace hr17 := Tt hr17 ht74; replace hB := Bx hB ht74; replace hA := ht74.new
    replace hH : Hp _ _ _ (obC b59 [.string x66.1.word, v67] 90 :: obS (α := (List Int)) 23 v32 s28.2 :: obS (α := (List Int)) 23 v30 s28.1 :: []) := hH73
    obtain ⟨A78, ht79, h80, hH81⟩ := Hp.freezeC (Dw := Dw) (α := know_Term) (x := x66.1) hH (i := 0) rfl hA (by exact ⟨[.string x66.1.word], _, rfl, rfl, ⟨_, rfl, h68⟩⟩)
    replace hK := Tt hK ht79; replace hr17 := Tt hr17 ht79; replace hB := Bx hB ht79; replace hA := ht79.new
    replace hH : Hp _ _ _ (obS (α := (List Int)) 23 v32 s28.2 :: obS (α := (List Int)) 23 v30 s28.1 :: []) := hH81
    refine V_CHw ?_
    refine CH_q2 rfl (Qa (VQ_CH ?_))
    refine CH_tail ?_
    show V _ _ _ _ [] _ _
    refine To ?_
    refine Sr ?_
    obtain ⟨v82, h84, h83⟩ := El_know_Term h80
    refine Vy (Y_loadA h84 isAgg90 sizeOf90 rfl) (Mm ?_)
    obtain ⟨x85, hx85, h37⟩ := Bs h37
    refine Vc call41 (know_Term_posting_c (Dw := Dw) w72 hA x66.1 v82 h83 id_ hx85) ?_
    rintro _ w90 ⟨v86, v88, rfl, h87, h89, hk91⟩
    have ht92 := Kp.tr hk91 hA hB; replace hH := Hp.kp hH hk91; replace hK := Tt hK ht92; replace hr17 := Tt hr17 ht92; replace hB := Bx hB ht92; replace hA := ht92.new
    refine Mm (Vy (Y_extract rfl rfl) (Vy (Y_extract rfl rfl) ?_))
    refine V_alloc zeroValue98 rfl ?_
    intro b93 w94 h95
    have h100 : (v86).oneCell' = true := by obtain ⟨_, _, e, _⟩ := Sl.form h87; rw [e]; rfl
    have h103 : (v88).oneCell' = true := by obtain ⟨_, _, e, _⟩ := Sl.form h89; rw [e]; rfl
    refine Sn h95 sizeOf98 ?_
    intro w96 h97
    have hk105 := h97.kp (Dw := Dw)
    have h104 : El (α := know_Posting) A78 w96 b93 0 x85.1 := h97.el hA ⟨[Ii x85.1.id_], _, rfl, rfl, ⟨[v86], _, rfl, ⟨_, rfl, h87⟩, ⟨_, rfl, h89⟩⟩⟩
    have ht106 := Kp.tr hk105 hA hB; replace hH := Hp.kp hH hk105; replace hK := Tt hK ht106; replace hr17 := Tt hr17 ht106; replace hB := Bx hB ht106; replace hA := ht106.new
    refine As (To ?_)
    refine C_seq (Sr (Mm (Vy (Y_not rfl) (To ?_))))
    refine Cc (fun hc107 => ?_) fun hc107 => ?_
    ·rw [if_pos hc107] at h37
     refine Sr (As (To ?_))
     obtain rfl := Oi h37
     obtain rfl := (h38 : Lp.rt _ = _)
     rw [Lp.andThen_rt] at hm
     obtain rfl := Oi hm
     refine Rt (Res.one results63 rfl) ?_
     exact ⟨rfl, hK.kp⟩
    rw [if_neg (nt hc107)] at h37
    refine Sk ?_
    refine C_region_chy (Dw := Dw) A78 8 [7, 6] [(1, 0), (1, 1), (1, 2), (1, 5), (1, 6), (1, 7), (2, 3), (3, 4)] [(4, 9), (1, 10), (1, 11)] Tryz_mixed (by kernel_rfl) (fun w108 hk109 => ?_)
    have ht110 := Kp.tr hk109 hA hB; replace hH := Hp.kp hH hk109; replace h104 := El.tr h104 ht110; replace hr17 := Tt hr17 ht110; replace hB := Bx hB ht110; replace hA := ht110.new
    refine CHZ_q2 rfl (Qm (VQ_CHZ (CHZ_q2 rfl ?_)))
    have h111 := El_know_Posting_1 h104
    refine Qf underlying98 rfl sizeOf23 (VQ_CHZ (CHZ_q2 rfl ?_))
    obtain ⟨v112, h113, h114⟩ := El.list h111
    refine Ql (fun w' hw' => ((World.cell?_of_block (hw'.2 _ h111.2.1 h111.1)).trans h113)) isAgg23 (VQ_CHZ (CHZ_q2 rfl (Qm (VQ_CHZ (CHZ_q2 rfl ?_)))))
    have h115 := El_know_Posting_2 h104
    refine Qf underlying98 rfl sizeOf23 (VQ_CHZ (CHZ_q2 rfl ?_))
    obtain ⟨v116, h117, h118⟩ := El.list h115
    refine Ql (fun w' hw' => ((World.cell?_of_block (hw'.2 _ h115.2.1 h115.1)).trans h117)) isAgg23 (VQ_CHZ ?_)
    refine CHZ_l1 (k := 0) [(2, 8), (2, 3), (3, 4), (4, 9), (1, 10), (1, 11)] rfl ?_ rfl ?_
    ·refine CH_l1 (k := 0) rfl ?_
     refine V_buildSlice (Dw := Dw) (cells := #[v116]) (l := ([x85.1.body] : List (List Int))) (len := 1) underlying160 sizeOf23 zeroValue23 rfl (by obtain ⟨a123, c124, e125, _⟩ := Sl.form h118; subst e125; kernel_rfl) (show (1 * 1 : Nat) ≠ 0 by decide) (show (1 * 1 : Nat) ≤ 2 ^ 24 by decide) hA ⟨[v116], _, rfl, ⟨_, rfl, h118⟩, rfl⟩ rfl rfl ?_
     intro v119 w120 hk122 h121
     have ht126 := Kp.tr hk122 hA hB; replace hH := Hp.kp hH hk122; replace h114 := Sl.tr h114 ht126; replace hr17 := Tt hr17 ht126; replace hB := Bx hB ht126; replace hA := ht126.new
     refine V_CH (hk122) ?_
     refine CH_l1 (k := 0) rfl ?_
     refine V_buildSlice (Dw := Dw) (cells := #[v112]) (l := ([x85.1.title] : List (List Int))) (len := 1) underlying160 sizeOf23 zeroValue23 rfl (by obtain ⟨a131, c132, e133, _⟩ := Sl.form h114; subst e133; kernel_rfl) (show (1 * 1 : Nat) ≠ 0 by decide) (show (1 * 1 : Nat) ≤ 2 ^ 24 by decide) hA ⟨[v112], _, rfl, ⟨_, rfl, h114⟩, rfl⟩ rfl rfl ?_
     intro v127 w128 hk130 h129
     have ht134 := Kp.tr hk130 hA hB; replace hH := Hp.kp hH hk130; replace h121 := Sl.tr h121 ht134; replace hr17 := Tt hr17 ht134; replace hB := Bx hB ht134; replace hA := ht134.new
     refine V_CH (hk130) ?_
     refine CH_l1 (k := 1) rfl ?_
     obtain ⟨x135, hx135, h37⟩ := Bs h37
     refine V_appendH (Dw := Dw) (e := 23) (v := v30) (l := s28.1) (ti := t23) (bytes := 24) (lim := 5864062014805) hH (i := 1) rfl h129 hx135 underlying160 Tryz_info23 rfl rfl rfl rfl (by decide) (by decide) (by decide) hB hA rfl rfl rfl ?_
     intro v136 w137 A138 hH139 ht140
     replace h121 := Sl.tr h121 ht140; replace hr17 := Tt hr17 ht140; replace hB := Bx hB ht140; replace hA := ht140.new
     replace hH : Hp _ _ _ (obS (α := (List Int)) 23 v32 s28.2 :: obS (α := (List Int)) 23 v136 x135 :: []) := hH139
     refine V_CHx (XA.tr (Dw := Dw) ht140) ?_
     refine CH_l1 (k := 2) rfl ?_
     obtain ⟨x141, hx141, h37⟩ := Bs h37
     refine V_appendH (Dw := Dw) (e := 23) (v := v32) (l := s28.2) (ti := t23) (bytes := 24) (lim := 5864062014805) hH (i := 0) rfl h121 hx141 underlying160 Tryz_info23 rfl rfl rfl rfl (by decide) (by decide) (by decide) hB hA rfl rfl rfl ?_
     intro v142 w143 A144 hH145 ht146
     replace hr17 := Tt hr17 ht146
     replace hH : Hp _ _ _ (obS (α := (List Int)) 23 v142 x141 :: obS (α := (List Int)) 23 v136 x135 :: []) := hH145
     refine V_CHw ?_
     refine CH_q2 rfl (Qa (VQ_CH (CH_q2 rfl (Qa (VQ_CH ?_)))))
     refine CH_tail ?_
     show V _ _ _ _ [] _ _
     refine To ?_
     refine C_region (Vy (Y_addI rfl rfl) (Mm ?_))
     obtain rfl := Oi h37
     refine V_end (fun a ha147 => ?_)
     exact ⟨(x135, x141), hlt40, h38, ⟨(v136, v142, A144), ha147.sub ⟨rfl, rfl, rfl, rfl, rfl, rfl, Ws hlt40 hn43, trivial⟩, ⟨hH, hr17⟩⟩⟩
    refine V_buildSlice (Dw := Dw) (cells := #[v112]) (l := ([x85.1.title] : List (List Int))) (len := 1) underlying160 sizeOf23 zeroValue23 rfl (by obtain ⟨a152, c153, e154, _⟩ := Sl.form h114; subst e154; kernel_rfl) (show (1 * 1 : Nat) ≠ 0 by decide) (show (1 * 1 : Nat) ≤ 2 ^ 24 by decide) hA ⟨[v112], _, rfl, ⟨_, rfl, h114⟩, rfl⟩ rfl rfl ?_
    intro v148 w149 hk151 h150
    have ht155 := Kp.tr hk151 hA hB; replace hH := Hp.kp hH hk151; replace h118 := Sl.tr h118 ht155; replace hr17 := Tt hr17 ht155; replace hB := Bx hB ht155; replace hA := ht155.new
    refine V_CHZ (hk151) ?_
    refine CHZ_l1 (k := 1) [(2, 8), (3, 4), (4, 9), (1, 10), (1, 11)] rfl ?_ rfl ?_
    ·refine CH_l1 (k := 0) rfl ?_
     refine V_buildSlice (Dw := Dw) (cells := #[v116]) (l := ([x85.1.body] : List (List Int))) (len := 1) underlying160 sizeOf23 zeroValue23 rfl (by obtain ⟨a160, c161, e162, _⟩ := Sl.form h118; subst e162; kernel_rfl) (show (1 * 1 : Nat) ≠ 0 by decide) (show (1 * 1 : Nat) ≤ 2 ^ 24 by decide) hA ⟨[v116], _, rfl, ⟨_, rfl, h118⟩, rfl⟩ rfl rfl ?_
     intro v156 w157 hk159 h158
     have ht163 := Kp.tr hk159 hA hB; replace hH := Hp.kp hH hk159; replace h150 := Sl.tr h150 ht163; replace hr17 := Tt hr17 ht163; replace hB := Bx hB ht163; replace hA := ht163.new
     refine V_CH (hk159) ?_
     refine CH_l1 (k := 1) rfl ?_
     obtain ⟨x164, hx164, h37⟩ := Bs h37
     refine V_appendH (Dw := Dw) (e := 23) (v := v30) (l := s28.1) (ti := t23) (bytes := 24) (lim := 5864062014805) hH (i := 1) rfl h150 hx164 underlying160 Tryz_info23 rfl rfl rfl rfl (by decide) (by decide) (by decide) hB hA rfl rfl rfl ?_
     intro v165 w166 A167 hH168 ht169
     replace h158 := Sl.tr h158 ht169; replace hr17 := Tt hr17 ht169; replace hB := Bx hB ht169; replace hA := ht169.new
     replace hH : Hp _ _ _ (obS (α := (List Int)) 23 v32 s28.2 :: obS (α := (List Int)) 23 v165 x164 :: []) := hH168
     refine V_CHx (XA.tr (Dw := Dw) ht169) ?_
     refine CH_l1 (k := 2) rfl ?_
     obtain ⟨x170, hx170, h37⟩ := Bs h37
     refine V_appendH (Dw := Dw) (e := 23) (v := v32) (l := s28.2) (ti := t23) (bytes := 24) (lim := 5864062014805) hH (i := 0) rfl h158 hx170 underlying160 Tryz_info23 rfl rfl rfl rfl (by decide) (by decide) (by decide) hB hA rfl rfl rfl ?_
     intro v171 w172 A173 hH174 ht175
     replace hr17 := Tt hr17 ht175
     replace hH : Hp _ _ _ (obS (α := (List Int)) 23 v171 x170 :: obS (α := (List Int)) 23 v165 x164 :: []) := hH174
     refine V_CHw ?_
     refine CH_q2 rfl (Qa (VQ_CH (CH_q2 rfl (Qa (VQ_CH ?_)))))
     refine CH_tail ?_
     show V _ _ _ _ [] _ _
     refine To ?_
     refine C_region (Vy (Y_addI rfl rfl) (Mm ?_))
     obtain rfl := Oi h37
     refine V_end (fun a ha176 => ?_)
     exact ⟨(x164, x170), hlt40, h38, ⟨(v165, v171, A173), ha176.sub ⟨rfl, rfl, rfl, rfl, rfl, rfl, Ws hlt40 hn43, trivial⟩, ⟨hH, hr17⟩⟩⟩
    obtain ⟨x177, hx177, h37⟩ := Bs h37
    refine V_appendH (Dw := Dw) (e := 23) (v := v30) (l := s28.1) (ti := t23) (bytes := 24) (lim := 5864062014805) hH (i := 1) rfl h150 hx177 underlying160 Tryz_info23 rfl rfl rfl rfl (by decide) (by decide) (by decide) hB hA rfl rfl rfl ?_
    intro v178 w179 A180 hH181 ht182
    replace h118 := Sl.tr h118 ht182; replace hr17 := Tt hr17 ht182; replace hB := Bx hB ht182; replace hA := ht182.new
    replace hH : Hp _ _ _ (obS (α := (List Int)) 23 v32 s28.2 :: obS (α := (List Int)) 23 v178 x177 :: []) := hH181
    refine V_CHZx (XA.tr (Dw := Dw) ht182) ?_
    refine CHZ_nil ?_
    refine CH_l1 (k := 0) rfl ?_
    refine V_buildSlice (Dw := Dw) (cells := #[v116]) (l := ([x85.1.body] : List (List Int))) (len := 1) underlying160 sizeOf23 zeroValue23 rfl (by obtain ⟨a187, c188, e189, _⟩ := Sl.form h118; subst e189; kernel_rfl) (show (1 * 1 : Nat) ≠ 0 by decide) (show (1 * 1 : Nat) ≤ 2 ^ 24 by decide) hA ⟨[v116], _, rfl, ⟨_, rfl, h118⟩, rfl⟩ rfl rfl ?_
    intro v183 w184 hk186 h185
    have ht190 := Kp.tr hk186 hA hB; replace hH := Hp.kp hH hk186; replace hr17 := Tt hr17 ht190; replace hB := Bx hB ht190; replace hA := ht190.new
    refine V_CH (hk186) ?_
    refine CH_l1 (k := 2) rfl ?_
    obtain ⟨x191, hx191, h37⟩ := Bs h37
    refine V_appendH (Dw := Dw) (e := 23) (v := v32) (l := s28.2) (ti := t23) (bytes := 24) (lim := 5864062014805) hH (i := 0) rfl h185 hx191 underlying160 Tryz_info23 rfl rfl rfl rfl (by decide) (by decide) (by decide) hB hA rfl rfl rfl ?_
    intro v192 w193 A194 hH195 ht196
    replace hr17 := Tt hr17 ht196
    replace hH : Hp _ _ _ (obS (α := (List Int)) 23 v192 x191 :: obS (α := (List Int)) 23 v178 x177 :: []) := hH195
    refine V_CHw ?_
    refine CH_q2 rfl (Qa (VQ_CH (CH_q2 rfl (Qa (VQ_CH ?_)))))
    refine CH_tail ?_
    show V _ _ _ _ [] _ _
    refine To ?_
    refine C_region (Vy (Y_addI rfl rfl) (Mm ?_))
    obtain rfl := Oi h37
    refine V_end (fun a ha197 => ?_)
    exact ⟨(x177, x191), hlt40, h38, ⟨(v178, v192, A194), ha197.sub ⟨rfl, rfl, rfl, rfl, rfl, rfl, Ws hlt40 hn43, trivial⟩, ⟨hH, hr17⟩⟩⟩
   obtain ⟨x198, hx198, h37⟩ := Bs h37
   refine Vc call61 (know_Stem_c w49 x45 hx198) ?_
   rintro _ _ ⟨rfl, rfl⟩
   refine V_CHZ (Kp.refl (Dw := Dw) _) ?_
   refine CHZ_l1 (k := 0) [(2, 7), (2, 3), (1, 4), (1, 5), (1, 6), (4, 8), (1, 9)] rfl ?_ rfl ?_
   ·refine CH_l1 (k := 0) rfl ?_
    refine V_allocHk (Dw := Dw) (B := w.heap.size) hH zeroValue90 hB hA rfl ?_
    intro b199 w200 A201 hk204 hH202 ht203
    replace h53 := Sl.tr h53 ht203; replace h55 := Sl.tr h55 ht203; replace h57 := Sl.tr h57 ht203; replace hK := Tt hK ht203; replace hr17 := Tt hr17 ht203; replace hB := Bx hB ht203; replace hA := ht203.new
    replace hH : Hp _ _ _ (obC b199 [.string ByteArray.empty, .slice none 0 0] 90 :: obS (α := (List Int)) 23 v32 s28.2 :: obS (α := (List Int)) 23 v30 s28.1 :: []) := hH202
    refine V_CH (hk204) ?_
    refine CH_l1 (k := 0) rfl ?_
    obtain ⟨x205, hx205, h37⟩ := Bs h37
    refine Vc call62 (know_Index_term_c (Dw := Dw) w200 hA x v52 h53 v54 h55 v56 h57 x198 hx205) ?_
    rintro _ w208 ⟨v206, rfl, h207, hk209⟩
    have ht210 := Kp.tr hk209 hA hB; replace hH := Hp.kp hH hk209; replace hK := Tt hK ht210; replace hr17 := Tt hr17 ht210; replace hB := Bx hB ht210; replace hA := ht210.new
    refine V_CH (hk209) ?_
    refine CH_q2 rfl (Qm (VQ_CH (CH_q2 rfl (Qv (fun w' hw' => Y_extract rfl rfl) (VQ_CH (CH_q2 rfl (Qv (fun w' hw' => Y_extract rfl rfl) (VQ_CH ?_))))))))
    refine CH_l1 (k := 2) rfl ?_
    have h216 : (v206).oneCell' = true := by obtain ⟨_, _, e, _⟩ := Sl.form h207; rw [e]; rfl
    refine V_storeC (Dw := Dw) (off := 0) (ds := [.string x205.1.word, v206]) hH (i := 0) rfl sizeOf90 rfl (Nat.le_of_ble_eq_true rfl) (by exact (List.forall_mem_cons.2 ⟨rfl, (List.forall_mem_cons.2 ⟨h216, (fun _ h => nomatch h)⟩)⟩)) rfl hB hA rfl rfl ?_
    intro w211 hH212 ht213
    replace h207 := Sl.tr h207 ht213; replace hK := Tt hK ht213; replace hr17 := Tt hr17 ht213; replace hB := Bx hB ht213; replace hA := ht213.new
    replace hH : Hp _ _ _ (obC b199 [.string x205.1.word, v206] 90 :: obS (α := (List Int)) 23 v32 s28.2 :: obS (α := (List Int)) 23 v30 s28.1 :: []) := hH212
    obtain ⟨A217, ht218, h219, hH220⟩ := Hp.freezeC (Dw := Dw) (α := know_Term) (x := x205.1) hH (i := 0) rfl hA (by exact ⟨[.string x205.1.word], _, rfl, rfl, ⟨_, rfl, h207⟩⟩)
    replace hK := Tt hK ht218; replace hr17 := Tt hr17 ht218; replace hB := Bx hB ht218; replace hA := ht218.new
    replace hH : Hp _ _ _ (obS (α := (List Int)) 23 v32 s28.2 :: obS (α := (List Int)) 23 v30 s28.1 :: []) := hH220
    refine V_CHw ?_
    refine CH_q2 rfl (Qa (VQ_CH ?_))
    refine CH_tail ?_
    show V _ _ _ _ [] _ _
    refine To ?_
    refine Sr ?_
    obtain ⟨v221, h223, h222⟩ := El_know_Term h219
    refine Vy (Y_loadA h223 isAgg90 sizeOf90 rfl) (Mm ?_)
    obtain ⟨x224, hx224, h37⟩ := Bs h37
    refine Vc call41 (know_Term_posting_c (Dw := Dw) w211 hA x205.1 v221 h222 id_ hx224) ?_
    rintro _ w229 ⟨v225, v227, rfl, h226, h228, hk230⟩
    have ht231 := Kp.tr hk230 hA hB; replace hH := Hp.kp hH hk230; replace hK := Tt hK ht231; replace hr17 := Tt hr17 ht231; replace hB := Bx hB ht231; replace hA := ht231.new
    refine Mm (Vy (Y_extract rfl rfl) (Vy (Y_extract rfl rfl) ?_))
    refine V_alloc zeroValue98 rfl ?_
    intro b232 w233 h234
    have h239 : (v225).oneCell' = true := by obtain ⟨_, _, e, _⟩ := Sl.form h226; rw [e]; rfl
    have h242 : (v227).oneCell' = true := by obtain ⟨_, _, e, _⟩ := Sl.form h228; rw [e]; rfl
    refine Sn h234 sizeOf98 ?_
    intro w235 h236
    have hk244 := h236.kp (Dw := Dw)
    have h243 : El (α := know_Posting) A217 w235 b232 0 x224.1 := h236.el hA ⟨[Ii x224.1.id_], _, rfl, rfl, ⟨[v225], _, rfl, ⟨_, rfl, h226⟩, ⟨_, rfl, h228⟩⟩⟩
    have ht245 := Kp.tr hk244 hA hB; replace hH := Hp.kp hH hk244; replace hK := Tt hK ht245; replace hr17 := Tt hr17 ht245; replace hB := Bx hB ht245; replace hA := ht245.new
    refine As (To ?_)
    refine C_seq (Sr (Mm (Vy (Y_not rfl) (To ?_))))
    refine Cc (fun hc246 => ?_) fun hc246 => ?_
    ·rw [if_pos hc246] at h37
     refine Sr (As (To ?_))
     obtain rfl := Oi h37
     obtain rfl := (h38 : Lp.rt _ = _)
     rw [Lp.andThen_rt] at hm
     obtain rfl := Oi hm
     refine Rt (Res.one results63 rfl) ?_
     exact ⟨rfl, hK.kp⟩
    rw [if_neg (nt hc246)] at h37
    refine Sk ?_
    refine C_region_chy (Dw := Dw) A217 8 [7, 6] [(1, 0), (1, 1), (1, 2), (1, 5), (1, 6), (1, 7), (2, 3), (3, 4)] [(4, 9), (1, 10), (1, 11)] Tryz_mixed (by kernel_rfl) (fun w247 hk248 => ?_)
    have ht249 := Kp.tr hk248 hA hB; replace hH := Hp.kp hH hk248; replace h243 := El.tr h243 ht249; replace hr17 := Tt hr17 ht249; replace hB := Bx hB ht249; replace hA := ht249.new
    refine CHZ_q2 rfl (Qm (VQ_CHZ (CHZ_q2 rfl ?_)))
    have h250 := El_know_Posting_1 h243
    refine Qf underlying98 rfl sizeOf23 (VQ_CHZ (CHZ_q2 rfl ?_))
    obtain ⟨v251, h252, h253⟩ := El.list h250
    refine Ql (fun w' hw' => ((World.cell?_of_block (hw'.2 _ h250.2.1 h250.1)).trans h252)) isAgg23 (VQ_CHZ (CHZ_q2 rfl (Qm (VQ_CHZ (CHZ_q2 rfl ?_)))))
    have h254 := El_know_Posting_2 h243
    refine Qf underlying98 rfl sizeOf23 (VQ_CHZ (CHZ_q2 rfl ?_))
    obtain ⟨v255, h256, h257⟩ := El.list h254
    refine Ql (fun w' hw' => ((World.cell?_of_block (hw'.2 _ h254.2.1 h254.1)).trans h256)) isAgg23 (VQ_CHZ ?_)
    refine CHZ_l1 (k := 0) [(2, 8), (2, 3), (3, 4), (4, 9), (1, 10), (1, 11)] rfl ?_ rfl ?_
    ·refine CH_l1 (k := 0) rfl ?_
     refine V_buildSlice (Dw := Dw) (cells := #[v255]) (l := ([x224.1.body] : List (List Int))) (len := 1) underlying160 sizeOf23 zeroValue23 rfl (by obtain ⟨a262, c263, e264, _⟩ := Sl.form h257; subst e264; kernel_rfl) (show (1 * 1 : Nat) ≠ 0 by decide) (show (1 * 1 : Nat) ≤ 2 ^ 24 by decide) hA ⟨[v255], _, rfl, ⟨_, rfl, h257⟩, rfl⟩ rfl rfl ?_
     intro v258 w259 hk261 h260
     have ht265 := Kp.tr hk261 hA hB; replace hH := Hp.kp hH hk261; replace h253 := Sl.tr h253 ht265; replace hr17 := Tt hr17 ht265; replace hB := Bx hB ht265; replace hA := ht265.new
     refine V_CH (hk261) ?_
     refine CH_l1 (k := 0) rfl ?_
     refine V_buildSlice (Dw := Dw) (cells := #[v251]) (l := ([x224.1.title] : List (List Int))) (len := 1) underlying160 sizeOf23 zeroValue23 rfl (by obtain ⟨a270, c271, e272, _⟩ := Sl.form h253; subst e272; kernel_rfl) (show (1 * 1 : Nat) ≠ 0 by decide) (show (1 * 1 : Nat) ≤ 2 ^ 24 by decide) hA ⟨[v251], _, rfl, ⟨_, rfl, h253⟩, rfl⟩ rfl rfl ?_
     intro v266 w267 hk269 h268
     have ht273 := Kp.tr hk269 hA hB; replace hH := Hp.kp hH hk269; replace h260 := Sl.tr h260 ht273; replace hr17 := Tt hr17 ht273; replace hB := Bx hB ht273; replace hA := ht273.new
     refine V_CH (hk269) ?_
     refine CH_l1 (k := 1) rfl ?_
     obtain ⟨x274, hx274, h37⟩ := Bs h37
     refine V_appendH (Dw := Dw) (e := 23) (v := v30) (l := s28.1) (ti := t23) (bytes := 24) (lim := 5864062014805) hH (i := 1) rfl h268 hx274 underlying160 Tryz_info23 rfl rfl rfl rfl (by decide) (by decide) (by decide) hB hA rfl rfl rfl ?_
     intro v275 w276 A277 hH278 ht279
     replace h260 := Sl.tr h260 ht279; replace hr17 := Tt hr17 ht279; replace hB := Bx hB ht279; replace hA := ht279.new
     replace hH : Hp _ _ _ (obS (α := (List Int)) 23 v32 s28.2 :: obS (α := (List Int)) 23 v275 x274 :: []) := hH278
     refine V_CHx (XA.tr (Dw := Dw) ht279) ?_
     refine CH_l1 (k := 2) rfl ?_
     obtain ⟨x280, hx280, h37⟩ := Bs h37
     refine V_appendH (Dw := Dw) (e := 23) (v := v32) (l := s28.2) (ti := t23) (bytes := 24) (lim := 5864062014805) hH (i := 0) rfl h260 hx280 underlying160 Tryz_info23 rfl rfl rfl rfl (by decide) (by decide) (by decide) hB hA rfl rfl rfl ?_
     intro v281 w282 A283 hH284 ht285
     replace hr17 := Tt hr17 ht285
     replace hH : Hp _ _ _ (obS (α := (List Int)) 23 v281 x280 :: obS (α := (List Int)) 23 v275 x274 :: []) := hH284
     refine V_CHw ?_
     refine CH_q2 rfl (Qa (VQ_CH (CH_q2 rfl (Qa (VQ_CH ?_)))))
     refine CH_tail ?_
     show V _ _ _ _ [] _ _
     refine To ?_
     refine C_region (Vy (Y_addI rfl rfl) (Mm ?_))
     obtain rfl := Oi h37
     refine V_end (fun a ha286 => ?_)
     exact ⟨(x274, x280), hlt40, h38, ⟨(v275, v281, A283), ha286.sub ⟨rfl, rfl, rfl, rfl, rfl, rfl, Ws hlt40 hn43, trivial⟩, ⟨hH, hr17⟩⟩⟩
    refine V_buildSlice (Dw := Dw) (cells := #[v251]) (l := ([x224.1.title] : List (List Int))) (len := 1) underlying160 sizeOf23 zeroValue23 rfl (by obtain ⟨a291, c292, e293, _⟩ := Sl.form h253; subst e293; kernel_rfl) (show (1 * 1 : Nat) ≠ 0 by decide) (show (1 * 1 : Nat) ≤ 2 ^ 24 by decide) hA ⟨[v251], _, rfl, ⟨_, rfl, h253⟩, rfl⟩ rfl rfl ?_
    intro v287 w288 hk290 h289
    have ht294 := Kp.tr hk290 hA hB; replace hH := Hp.kp hH hk290; replace h257 := Sl.tr h257 ht294; replace hr17 := Tt hr17 ht294; replace hB := Bx hB ht294; replace hA := ht294.new
    refine V_CHZ (hk290) ?_
    refine CHZ_l1 (k := 1) [(2, 8), (3, 4), (4, 9), (1, 10), (1, 11)] rfl ?_ rfl ?_
    ·refine CH_l1 (k := 0) rfl ?_
     refine V_buildSlice (Dw := Dw) (cells := #[v255]) (l := ([x224.1.body] : List (List Int))) (len := 1) underlying160 sizeOf23 zeroValue23 rfl (by obtain ⟨a299, c300, e301, _⟩ := Sl.form h257; subst e301; kernel_rfl) (show (1 * 1 : Nat) ≠ 0 by decide) (show (1 * 1 : Nat) ≤ 2 ^ 24 by decide) hA ⟨[v255], _, rfl, ⟨_, rfl, h257⟩, rfl⟩ rfl rfl ?_
     intro v295 w296 hk298 h297
     have ht302 := Kp.tr hk298 hA hB; replace hH := Hp.kp hH hk298; replace h289 := Sl.tr h289 ht302; replace hr17 := Tt hr17 ht302; replace hB := Bx hB ht302; replace hA := ht302.new
     refine V_CH (hk298) ?_
     refine CH_l1 (k := 1) rfl ?_
     obtain ⟨x303, hx303, h37⟩ := Bs h37
     refine V_appendH (Dw := Dw) (e := 23) (v := v30) (l := s28.1) (ti := t23) (bytes := 24) (lim := 5864062014805) hH (i := 1) rfl h289 hx303 underlying160 Tryz_info23 rfl rfl rfl rfl (by decide) (by decide) (by decide) hB hA rfl rfl rfl ?_
     intro v304 w305 A306 hH307 ht308
     replace h297 := Sl.tr h297 ht308; replace hr17 := Tt hr17 ht308; replace hB := Bx hB ht308; replace hA := ht308.new
     replace hH : Hp _ _ _ (obS (α := (List Int)) 23 v32 s28.2 :: obS (α := (List Int)) 23 v304 x303 :: []) := hH307
     refine V_CHx (XA.tr (Dw := Dw) ht308) ?_
     refine CH_l1 (k := 2) rfl ?_
     obtain ⟨x309, hx309, h37⟩ := Bs h37
     refine V_appendH (Dw := Dw) (e := 23) (v := v32) (l := s28.2) (ti := t23) (bytes := 24) (lim := 5864062014805) hH (i := 0) rfl h297 hx309 underlying160 Tryz_info23 rfl rfl rfl rfl (by decide) (by decide) (by decide) hB hA rfl rfl rfl ?_
     intro v310 w311 A312 hH313 ht314
     replace hr17 := Tt hr17 ht314
     replace hH : Hp _ _ _ (obS (α := (List Int)) 23 v310 x309 :: obS (α := (List Int)) 23 v304 x303 :: []) := hH313
     refine V_CHw ?_
     refine CH_q2 rfl (Qa (VQ_CH (CH_q2 rfl (Qa (VQ_CH ?_)))))
     refine CH_tail ?_
     show V _ _ _ _ [] _ _
     refine To ?_
     refine C_region (Vy (Y_addI rfl rfl) (Mm ?_))
     obtain rfl := Oi h37
     refine V_end (fun a ha315 => ?_)
     exact ⟨(x303, x309), hlt40, h38, ⟨(v304, v310, A312), ha315.sub ⟨rfl, rfl, rfl, rfl, rfl, rfl, Ws hlt40 hn43, trivial⟩, ⟨hH, hr17⟩⟩⟩
    obtain ⟨x316, hx316, h37⟩ := Bs h37
    refine V_appendH (Dw := Dw) (e := 23) (v := v30) (l := s28.1) (ti := t23) (bytes := 24) (lim := 5864062014805) hH (i := 1) rfl h289 hx316 underlying160 Tryz_info23 rfl rfl rfl rfl (by decide) (by decide) (by decide) hB hA rfl rfl rfl ?_
    intro v317 w318 A319 hH320 ht321
    replace h257 := Sl.tr h257 ht321; replace hr17 := Tt hr17 ht321; replace hB := Bx hB ht321; replace hA := ht321.new
    replace hH : Hp _ _ _ (obS (α := (List Int)) 23 v32 s28.2 :: obS (α := (List Int)) 23 v317 x316 :: []) := hH320
    refine V_CHZx (XA.tr (Dw := Dw) ht321) ?_
    refine CHZ_nil ?_
    refine CH_l1 (k := 0) rfl ?_
    refine V_buildSlice (Dw := Dw) (cells := #[v255]) (l := ([x224.1.body] : List (List Int))) (len := 1) underlying160 sizeOf23 zeroValue23 rfl (by obtain ⟨a326, c327, e328, _⟩ := Sl.form h257; subst e328; kernel_rfl) (show (1 * 1 : Nat) ≠ 0 by decide) (show (1 * 1 : Nat) ≤ 2 ^ 24 by decide) hA ⟨[v255], _, rfl, ⟨_, rfl, h257⟩, rfl⟩ rfl rfl ?_
    intro v322 w323 hk325 h324
    have ht329 := Kp.tr hk325 hA hB; replace hH := Hp.kp hH hk325; replace hr17 := Tt hr17 ht329; replace hB := Bx hB ht329; replace hA := ht329.new
    refine V_CH (hk325) ?_
    refine CH_l1 (k := 2) rfl ?_
    obtain ⟨x330, hx330, h37⟩ := Bs h37
    refine V_appendH (Dw := Dw) (e := 23) (v := v32) (l := s28.2) (ti := t23) (bytes := 24) (lim := 5864062014805) hH (i := 0) rfl h324 hx330 underlying160 Tryz_info23 rfl rfl rfl rfl (by decide) (by decide) (by decide) hB hA rfl rfl rfl ?_
    intro v331 w332 A333 hH334 ht335
    replace hr17 := Tt hr17 ht335
    replace hH : Hp _ _ _ (obS (α := (List Int)) 23 v331 x330 :: obS (α := (List Int)) 23 v317 x316 :: []) := hH334
    refine V_CHw ?_
    refine CH_q2 rfl (Qa (VQ_CH (CH_q2 rfl (Qa (VQ_CH ?_)))))
    refine CH_tail ?_
    show V _ _ _ _ [] _ _
    refine To ?_
    refine C_region (Vy (Y_addI rfl rfl) (Mm ?_))
    obtain rfl := Oi h37
    refine V_end (fun a ha336 => ?_)
    exact ⟨(x316, x330), hlt40, h38, ⟨(v317, v331, A333), ha336.sub ⟨rfl, rfl, rfl, rfl, rfl, rfl, Ws hlt40 hn43, trivial⟩, ⟨hH, hr17⟩⟩⟩
   obtain ⟨x337, hx337, h37⟩ := Bs h37
   refine Vc call62 (know_Index_term_c (Dw := Dw) w49 hA x v52 h53 v54 h55 v56 h57 x198 hx337) ?_
   rintro _ w340 ⟨v338, rfl, h339, hk341⟩
   have ht342 := Kp.tr hk341 hA hB; replace hH := Hp.kp hH hk341; replace hK := Tt hK ht342; replace hr17 := Tt hr17 ht342; replace hB := Bx hB ht342; replace hA := ht342.new
   refine V_CHZ (hk341) ?_
   refine CHZ_q2 rfl (Qm (VQ_CHZ (CHZ_q2 rfl (Qv (fun w' hw' => Y_extract rfl rfl) (VQ_CHZ (CHZ_q2 rfl (Qv (fun w' hw' => Y_extract rfl rfl) (VQ_CHZ ?_))))))))
   refine CHZ_nil ?_
   refine CH_l1 (k := 0) rfl ?_
   refine V_allocHk (Dw := Dw) (B := w.heap.size) hH zeroValue90 hB hA rfl ?_
   intro b343 w344 A345 hk348 hH346 ht347
   replace h339 := Sl.tr h339 ht347; replace hK := Tt hK ht347; replace hr17 := Tt hr17 ht347; replace hB := Bx hB ht347; replace hA := ht347.new
   replace hH : Hp _ _ _ (obC b343 [.string ByteArray.empty, .slice none 0 0] 90 :: obS (α := (List Int)) 23 v32 s28.2 :: obS (α := (List Int)) 23 v30 s28.1 :: []) := hH346
   refine V_CH (hk348) ?_
   refine CH_l1 (k := 2) rfl ?_
   have h354 : (v338).oneCell' = true := by obtain ⟨_, _, e, _⟩ := Sl.form h339; rw [e]; rfl
   refine V_storeC (Dw := Dw) (off := 0) (ds := [.string x337.1.word, v338]) hH (i := 0) rfl sizeOf90 rfl (Nat.le_of_ble_eq_true rfl) (by exact (List.forall_mem_cons.2 ⟨rfl, (List.forall_mem_cons.2 ⟨h354, (fun _ h => nomatch h)⟩)⟩)) rfl hB hA rfl rfl ?_
   intro w349 hH350 ht351
   replace h339 := Sl.tr h339 ht351; replace hK := Tt hK ht351; replace hr17 := Tt hr17 ht351; replace hB := Bx hB ht351; replace hA := ht351.new
   replace hH : Hp _ _ _ (obC b343 [.string x337.1.word, v338] 90 :: obS (α := (List Int)) 23 v32 s28.2 :: obS (α := (List Int)) 23 v30 s28.1 :: []) := hH350
   obtain ⟨A355, ht356, h357, hH358⟩ := Hp.freezeC (Dw := Dw) (α := know_Term) (x := x337.1) hH (i := 0) rfl hA (by exact ⟨[.string x337.1.word], _, rfl, rfl, ⟨_, rfl, h339⟩⟩)
   replace hK := Tt hK ht356; replace hr17 := Tt hr17 ht356; replace hB := Bx hB ht356; replace hA := ht356.new
   replace hH : Hp _ _ _ (obS (α := (List Int)) 23 v32 s28.2 :: obS (α := (List Int)) 23 v30 s28.1 :: []) := hH358
   refine V_CHw ?_
   refine CH_q2 rfl (Qa (VQ_CH ?_))
   refine CH_tail ?_
   show V _ _ _ _ [] _ _
   refine To ?_
   refine Sr ?_
   obtain ⟨v359, h361, h360⟩ := El_know_Term h357
   refine Vy (Y_loadA h361 isAgg90 sizeOf90 rfl) (Mm ?_)
   obtain ⟨x362, hx362, h37⟩ := Bs h37
   refine Vc call41 (know_Term_posting_c (Dw := Dw) w349 hA x337.1 v359 h360 id_ hx362) ?_
   rintro _ w367 ⟨v363, v365, rfl, h364, h366, hk368⟩
   have ht369 := Kp.tr hk368 hA hB; replace hH := Hp.kp hH hk368; replace hK := Tt hK ht369; replace hr17 := Tt hr17 ht369; replace hB := Bx hB ht369; replace hA := ht369.new
   refine Mm (Vy (Y_extract rfl rfl) (Vy (Y_extract rfl rfl) ?_))
   refine V_alloc zeroValue98 rfl ?_
   intro b370 w371 h372
   have h377 : (v363).oneCell' = true := by obtain ⟨_, _, e, _⟩ := Sl.form h364; rw [e]; rfl
   have h380 : (v365).oneCell' = true := by obtain ⟨_, _, e, _⟩ := Sl.form h366; rw [e]; rfl
   refine Sn h372 sizeOf98 ?_
   intro w373 h374
   have hk382 := h374.kp (Dw := Dw)
   have h381 : El (α := know_Posting) A355 w373 b370 0 x362.1 := h374.el hA ⟨[Ii x362.1.id_], _, rfl, rfl, ⟨[v363], _, rfl, ⟨_, rfl, h364⟩, ⟨_, rfl, h366⟩⟩⟩
   have ht383 := Kp.tr hk382 hA hB; replace hH := Hp.kp hH hk382; replace hK := Tt hK ht383; replace hr17 := Tt hr17 ht383; replace hB := Bx hB ht383; replace hA := ht383.new
   refine As (To ?_)
   refine C_seq (Sr (Mm (Vy (Y_not rfl) (To ?_))))
   refine Cc (fun hc384 => ?_) fun hc384 => ?_
   ·rw [if_pos hc384] at h37
    refine Sr (As (To ?_))
    obtain rfl := Oi h37
    obtain rfl := (h38 : Lp.rt _ = _)
    rw [Lp.andThen_rt] at hm
    obtain rfl := Oi hm
    refine Rt (Res.one results63 rfl) ?_
    exact ⟨rfl, hK.kp⟩
   rw [if_neg (nt hc384)] at h37
   refine Sk ?_
   refine C_region_chy (Dw := Dw) A355 8 [7, 6] [(1, 0), (1, 1), (1, 2), (1, 5), (1, 6), (1, 7), (2, 3), (3, 4)] [(4, 9), (1, 10), (1, 11)] Tryz_mixed (by kernel_rfl) (fun w385 hk386 => ?_)
   have ht387 := Kp.tr hk386 hA hB; replace hH := Hp.kp hH hk386; replace h381 := El.tr h381 ht387; replace hr17 := Tt hr17 ht387; replace hB := Bx hB ht387; replace hA := ht387.new
   refine CHZ_q2 rfl (Qm (VQ_CHZ (CHZ_q2 rfl ?_)))
   have h388 := El_know_Posting_1 h381
   refine Qf underlying98 rfl sizeOf23 (VQ_CHZ (CHZ_q2 rfl ?_))
   obtain ⟨v389, h390, h391⟩ := El.list h388
   refine Ql (fun w' hw' => ((World.cell?_of_block (hw'.2 _ h388.2.1 h388.1)).trans h390)) isAgg23 (VQ_CHZ (CHZ_q2 rfl (Qm (VQ_CHZ (CHZ_q2 rfl ?_)))))
   have h392 := El_know_Posting_2 h381
   refine Qf underlying98 rfl sizeOf23 (VQ_CHZ (CHZ_q2 rfl ?_))
   obtain ⟨v393, h394, h395⟩ := El.list h392
   refine Ql (fun w' hw' => ((World.cell?_of_block (hw'.2 _ h392.2.1 h392.1)).trans h394)) isAgg23 (VQ_CHZ ?_)
   refine CHZ_l1 (k := 0) [(2, 8), (2, 3), (3, 4), (4, 9), (1, 10), (1, 11)] rfl ?_ rfl ?_
   ·refine CH_l1 (k := 0) rfl ?_
    refine V_buildSlice (Dw := Dw) (cells := #[v393]) (l := ([x362.1.body] : List (List Int))) (len := 1) underlying160 sizeOf23 zeroValue23 rfl (by obtain ⟨a400, c401, e402, _⟩ := Sl.form h395; subst e402; kernel_rfl) (show (1 * 1 : Nat) ≠ 0 by decide) (show (1 * 1 : Nat) ≤ 2 ^ 24 by decide) hA ⟨[v393], _, rfl, ⟨_, rfl, h395⟩, rfl⟩ rfl rfl ?_
    intro v396 w397 hk399 h398
    have ht403 := Kp.tr hk399 hA hB; replace hH := Hp.kp hH hk399; replace h391 := Sl.tr h391 ht403; replace hr17 := Tt hr17 ht403; replace hB := Bx hB ht403; replace hA := ht403.new
    refine V_CH (hk399) ?_
    refine CH_l1 (k := 0) rfl ?_
    refine V_buildSlice (Dw := Dw) (cells := #[v389]) (l := ([x362.1.title] : List (List Int))) (len := 1) underlying160 sizeOf23 zeroValue23 rfl (by obtain ⟨a408, c409, e410, _⟩ := Sl.form h391; subst e410; kernel_rfl) (show (1 * 1 : Nat) ≠ 0 by decide) (show (1 * 1 : Nat) ≤ 2 ^ 24 by decide) hA ⟨[v389], _, rfl, ⟨_, rfl, h391⟩, rfl⟩ rfl rfl ?_
    intro v404 w405 hk407 h406
    have ht411 := Kp.tr hk407 hA hB; replace hH := Hp.kp hH hk407; replace h398 := Sl.tr h398 ht411; replace hr17 := Tt hr17 ht411; replace hB := Bx hB ht411; replace hA := ht411.new
    refine V_CH (hk407) ?_
    refine CH_l1 (k := 1) rfl ?_
    obtain ⟨x412, hx412, h37⟩ := Bs h37
    refine V_appendH (Dw := Dw) (e := 23) (v := v30) (l := s28.1) (ti := t23) (bytes := 24) (lim := 5864062014805) hH (i := 1) rfl h406 hx412 underlying160 Tryz_info23 rfl rfl rfl rfl (by decide) (by decide) (by decide) hB hA rfl rfl rfl ?_
    intro v413 w414 A415 hH416 ht417
    replace h398 := Sl.tr h398 ht417; replace hr17 := Tt hr17 ht417; replace hB := Bx hB ht417; replace hA := ht417.new
    replace hH : Hp _ _ _ (obS (α := (List Int)) 23 v32 s28.2 :: obS (α := (List Int)) 23 v413 x412 :: []) := hH416
    refine V_CHx (XA.tr (Dw := Dw) ht417) ?_
    refine CH_l1 (k := 2) rfl ?_
    obtain ⟨x418, hx418, h37⟩ := Bs h37
    refine V_appendH (Dw := Dw) (e := 23) (v := v32) (l := s28.2) (ti := t23) (bytes := 24) (lim := 5864062014805) hH (i := 0) rfl h398 hx418 underlying160 Tryz_info23 rfl rfl rfl rfl (by decide) (by decide) (by decide) hB hA rfl rfl rfl ?_
    intro v419 w420 A421 hH422 ht423
    replace hr17 := Tt hr17 ht423
    replace hH : Hp _ _ _ (obS (α := (List Int)) 23 v419 x418 :: obS (α := (List Int)) 23 v413 x412 :: []) := hH422
    refine V_CHw ?_
    refine CH_q2 rfl (Qa (VQ_CH (CH_q2 rfl (Qa (VQ_CH ?_)))))
    refine CH_tail ?_
    show V _ _ _ _ [] _ _
    refine To ?_
    refine C_region (Vy (Y_addI rfl rfl) (Mm ?_))
    obtain rfl := Oi h37
    refine V_end (fun a ha424 => ?_)
    exact ⟨(x412, x418), hlt40, h38, ⟨(v413, v419, A421), ha424.sub ⟨rfl, rfl, rfl, rfl, rfl, rfl, Ws hlt40 hn43, trivial⟩, ⟨hH, hr17⟩⟩⟩
   refine V_buildSlice (Dw := Dw) (cells := #[v389]) (l := ([x362.1.title] : List (List Int))) (len := 1) underlying160 sizeOf23 zeroValue23 rfl (by obtain ⟨a429, c430, e431, _⟩ := Sl.form h391; subst e431; kernel_rfl) (show (1 * 1 : Nat) ≠ 0 by decide) (show (1 * 1 : Nat) ≤ 2 ^ 24 by decide) hA ⟨[v389], _, rfl, ⟨_, rfl, h391⟩, rfl⟩ rfl rfl ?_
   intro v425 w426 hk428 h427
   have ht432 := Kp.tr hk428 hA hB; replace hH := Hp.kp hH hk428; replace h395 := Sl.tr h395 ht432; replace hr17 := Tt hr17 ht432; replace hB := Bx hB ht432; replace hA := ht432.new
   refine V_CHZ (hk428) ?_
   refine CHZ_l1 (k := 1) [(2, 8), (3, 4), (4, 9), (1, 10), (1, 11)] rfl ?_ rfl ?_
   ·refine CH_l1 (k := 0) rfl ?_
    refine V_buildSlice (Dw := Dw) (cells := #[v393]) (l := ([x362.1.body] : List (List Int))) (len := 1) underlying160 sizeOf23 zeroValue23 rfl (by obtain ⟨a437, c438, e439, _⟩ := Sl.form h395; subst e439; kernel_rfl) (show (1 * 1 : Nat) ≠ 0 by decide) (show (1 * 1 : Nat) ≤ 2 ^ 24 by decide) hA ⟨[v393], _, rfl, ⟨_, rfl, h395⟩, rfl⟩ rfl rfl ?_
    intro v433 w434 hk436 h435
    have ht440 := Kp.tr hk436 hA hB; replace hH := Hp.kp hH hk436; replace h427 := Sl.tr h427 ht440; replace hr17 := Tt hr17 ht440; replace hB := Bx hB ht440; replace hA := ht440.new
    refine V_CH (hk436) ?_
    refine CH_l1 (k := 1) rfl ?_
    obtain ⟨x441, hx441, h37⟩ := Bs h37
    refine V_appendH (Dw := Dw) (e := 23) (v := v30) (l := s28.1) (ti := t23) (bytes := 24) (lim := 5864062014805) hH (i := 1) rfl h427 hx441 underlying160 Tryz_info23 rfl rfl rfl rfl (by decide) (by decide) (by decide) hB hA rfl rfl rfl ?_
    intro v442 w443 A444 hH445 ht446
    replace h435 := Sl.tr h435 ht446; replace hr17 := Tt hr17 ht446; replace hB := Bx hB ht446; replace hA := ht446.new
    replace hH : Hp _ _ _ (obS (α := (List Int)) 23 v32 s28.2 :: obS (α := (List Int)) 23 v442 x441 :: []) := hH445
    refine V_CHx (XA.tr (Dw := Dw) ht446) ?_
    refine CH_l1 (k := 2) rfl ?_
    obtain ⟨x447, hx447, h37⟩ := Bs h37
    refine V_appendH (Dw := Dw) (e := 23) (v := v32) (l := s28.2) (ti := t23) (bytes := 24) (lim := 5864062014805) hH (i := 0) rfl h435 hx447 underlying160 Tryz_info23 rfl rfl rfl rfl (by decide) (by decide) (by decide) hB hA rfl rfl rfl ?_
    intro v448 w449 A450 hH451 ht452
    replace hr17 := Tt hr17 ht452
    replace hH : Hp _ _ _ (obS (α := (List Int)) 23 v448 x447 :: obS (α := (List Int)) 23 v442 x441 :: []) := hH451
    refine V_CHw ?_
    refine CH_q2 rfl (Qa (VQ_CH (CH_q2 rfl (Qa (VQ_CH ?_)))))
    refine CH_tail ?_
    show V _ _ _ _ [] _ _
    refine To ?_
    refine C_region (Vy (Y_addI rfl rfl) (Mm ?_))
    obtain rfl := Oi h37
    refine V_end (fun a ha453 => ?_)
    exact ⟨(x441, x447), hlt40, h38, ⟨(v442, v448, A450), ha453.sub ⟨rfl, rfl, rfl, rfl, rfl, rfl, Ws hlt40 hn43, trivial⟩, ⟨hH, hr17⟩⟩⟩
   obtain ⟨x454, hx454, h37⟩ := Bs h37
   refine V_appendH (Dw := Dw) (e := 23) (v := v30) (l := s28.1) (ti := t23) (bytes := 24) (lim := 5864062014805) hH (i := 1) rfl h427 hx454 underlying160 Tryz_info23 rfl rfl rfl rfl (by decide) (by decide) (by decide) hB hA rfl rfl rfl ?_
   intro v455 w456 A457 hH458 ht459
   replace h395 := Sl.tr h395 ht459; replace hr17 := Tt hr17 ht459; replace hB := Bx hB ht459; replace hA := ht459.new
   replace hH : Hp _ _ _ (obS (α := (List Int)) 23 v32 s28.2 :: obS (α := (List Int)) 23 v455 x454 :: []) := hH458
   refine V_CHZx (XA.tr (Dw := Dw) ht459) ?_
   refine CHZ_nil ?_
   refine CH_l1 (k := 0) rfl ?_
   refine V_buildSlice (Dw := Dw) (cells := #[v393]) (l := ([x362.1.body] : List (List Int))) (len := 1) underlying160 sizeOf23 zeroValue23 rfl (by obtain ⟨a464, c465, e466, _⟩ := Sl.form h395; subst e466; kernel_rfl) (show (1 * 1 : Nat) ≠ 0 by decide) (show (1 * 1 : Nat) ≤ 2 ^ 24 by decide) hA ⟨[v393], _, rfl, ⟨_, rfl, h395⟩, rfl⟩ rfl rfl ?_
   intro v460 w461 hk463 h462
   have ht467 := Kp.tr hk463 hA hB; replace hH := Hp.kp hH hk463; replace hr17 := Tt hr17 ht467; replace hB := Bx hB ht467; replace hA := ht467.new
   refine V_CH (hk463) ?_
   refine CH_l1 (k := 2) rfl ?_
   obtain ⟨x468, hx468, h37⟩ := Bs h37
   refine V_appendH (Dw := Dw) (e := 23) (v := v32) (l := s28.2) (ti := t23) (bytes := 24) (lim := 5864062014805) hH (i := 0) rfl h462 hx468 underlying160 Tryz_info23 rfl rfl rfl rfl (by decide) (by decide) (by decide) hB hA rfl rfl rfl ?_
   intro v469 w470 A471 hH472 ht473
   replace hr17 := Tt hr17 ht473
   replace hH : Hp _ _ _ (obS (α := (List Int)) 23 v469 x468 :: obS (α := (List Int)) 23 v455 x454 :: []) := hH472
   refine V_CHw ?_
   refine CH_q2 rfl (Qa (VQ_CH (CH_q2 rfl (Qa (VQ_CH ?_)))))
   refine CH_tail ?_
   show V _ _ _ _ [] _ _
   refine To ?_
   refine C_region (Vy (Y_addI rfl rfl) (Mm ?_))
   obtain rfl := Oi h37
   refine V_end (fun a ha474 => ?_)
   exact ⟨(x454, x468), hlt40, h38, ⟨(v455, v469, A471), ha474.sub ⟨rfl, rfl, rfl, rfl, rfl, rfl, Ws hlt40 hn43, trivial⟩, ⟨hH, hr17⟩⟩⟩
  refine C_exit (fun a ha475 => ?_)
  exact ⟨((s28.1, s28.2), v30, v32, A34), ha475.sb, ⟨(h41 (eq_of_dec hle39 hc44)).symm, hH, hr17⟩⟩
 rintro ⟨s16, v22, v24, A26⟩ w19 ⟨rfl, hH27, hk20⟩ a ha21
 rw [Lp.andThen_fin] at hm
 replace hK := Tr.trans hK hk20; replace hB := Nat.le_trans hB hk20.ex.size; replace hA := hk20.new
 replace hH : Hp _ _ _ (obS (α := (List Int)) 23 v24 s16.2 :: obS (α := (List Int)) 23 v22 s16.1 :: []) := hH27
 refine C_at (n := ⟨56, [], none⟩) (fun _ _ => rfl) ?_ ha21
 refine Sr (As (To ?_))
 refine C_seq ?_
 obtain ⟨s478, ho477, hm⟩ := Bs hm
 refine C_cutG (ι := (Nat → Prop)) (fun (A483 : (Nat → Prop)) => [(6, .bool s478)]) (fun (A483 : (Nat → Prop)) => fun w' => Hp w.heap.size A483 w' (obS (α := (List Int)) 23 v24 s16.2 :: obS (α := (List Int)) 23 v22 s16.1 :: []) ∧ Tr Dw w.heap.size A26 w19 A483 w') ?_ ?_
 ·have hr479 : Tr Dw w.heap.size A26 w19 A26 w19 := Tr.refl (Dw := Dw) hA
  refine C_region (Mm (Mm ?_))
  obtain ⟨x485, hx485, ho477⟩ := Bs ho477
  refine Vc call97 (know_Index_phrase_1_c (Dw := Dw) w19 (A := fun _ => True) (fun _ _ => trivial) s16.1 v22 (Hp.any (α := (List Int)) (e := 23) (v := v22) (l := s16.1) hH (i := 1) rfl) hx485) ?_
  rintro _ w486 ⟨rfl, hk487⟩
  have ht488 := Kp.tr hk487 hA hB; replace hH := Hp.kp hH hk487; replace hr479 := Tt hr479 ht488; replace hB := Bx hB ht488; replace hA := ht488.new
  refine Mm ?_
  rcases Be (x485) with hc489 | hc489
  ·rw [if_pos hc489] at ho477
   refine Gm hc489 (Gm hc489 (Gm hc489 (Vy (Y_pick_te rfl hc489 rfl) (As ?_))))
   obtain rfl := Oi ho477
   refine V_end (fun a ha490 => ?_)
   exact ⟨A26, ha490.sb, ⟨hH, hr479⟩⟩
  rw [if_neg (nt hc489)] at ho477
  refine Gf hc489 (Mm (Gf hc489 (Mm (Gf hc489 ?_))))
  obtain ⟨x491, hx491, ho477⟩ := Bs ho477
  refine Vc call97 (know_Index_phrase_1_c (Dw := Dw) w486 (A := fun _ => True) (fun _ _ => trivial) s16.2 v24 (Hp.any (α := (List Int)) (e := 23) (v := v24) (l := s16.2) hH (i := 0) rfl) hx491) ?_
  rintro _ w492 ⟨rfl, hk493⟩
  have ht494 := Kp.tr hk493 hA hB; replace hH := Hp.kp hH hk493; replace hr479 := Tt hr479 ht494
  refine Vy (Y_pick_fe rfl hc489 rfl) (As ?_)
  obtain rfl := Oi ho477
  refine V_end (fun a ha495 => ?_)
  exact ⟨A26, ha495.sb, ⟨hH, hr479⟩⟩
 rintro A483 w480 ⟨hH484, hk481⟩ a ha482
 replace hK := Tr.trans hK hk481; replace hA := hk481.new
 replace hH : Hp _ _ _ (obS (α := (List Int)) 23 v24 s16.2 :: obS (α := (List Int)) 23 v22 s16.1 :: []) := hH484
 refine C_at (n := ⟨56, [], none⟩) (fun _ _ => rfl) ?_ ha482
 obtain rfl := Oi hm
 refine Rt (Res.one results63 rfl) ?_
 exact ⟨rfl, hK.kp⟩
theorem slices_IndexFunc_Lknow_Term_know_Term_c (w : World) {A : Nat → Prop} (hA : ∀ b, w.heap.size ≤ b → A b) (s : (List know_Term)) (v_s : Value) (h_s : Sl A w v_s s) (f : know_Term → Option Bool) (f_f : FuncId) (f_a f_c : Array Value) (f_call : ∀ (args : Array Value) (w : World), (callFunc f_f args).run prog w = .ok (.enter f_f args) w) (f_spec : ∀ (w1 : World) (A1 : Nat → Prop), Tr Dw w.heap.size A w A1 w1 → (∀ b, w1.heap.size ≤ b → A1 b) → ∀ (y0 : know_Term) (v1 : Value) (h2 : Sl A1 w1 v1 y0.list_) (r : Bool), f y0 = some r → Ret prog f_f (f_a ++ #[.agg #[.string y0.word, v1]] ++ f_c) w1 fun v w' => v = .bool r ∧ Kp Dw w1 w') {r : Int} (hm : slices_IndexFunc_Lknow_Term_know_Term s f = some r) : Ret prog 100 #[v_s, .func (.func f_f) f_a f_c] w fun v w' => v = Ii r ∧ Kp Dw w w' := by
 unfold slices_IndexFunc_Lknow_Term_know_Term at hm
 refine enter func100 rfl ntmps100 rfl ?_
 have hA0 := hA
 obtain ⟨hB, hK, hH⟩ := St (Dw := Dw) hA
 refine Sr (As (To ?_))
 refine C_seq (Sr (Mm (Vy (Y_lenSl h_s rfl underlying45 rfl) (Mm (To ?_)))))
 have hn23 := Sl.le h_s
 obtain ⟨o3, ho3, hm⟩ := Bs hm
 refine C_cutG (ι := (Unit × (Nat → Prop))) (fun ⟨s4, A10⟩ => []) (fun ⟨s4, A10⟩ => fun w' => o3 = .fin s4 ∧ Hp w.heap.size A10 w' ([]) ∧ Tr Dw w.heap.size A w A10 w') ?_ ?_
 ·refine C_block ?_
  refine C_range ho3 (fun k6 _ a w' => ∃ i : (Nat → Prop), Has ⟨19, [], none⟩ a ([(0, v_s), (1, .func (.func f_f) f_a f_c), (7, Ii (s.length : Int)), (8, Ii (k6 : Int))]) ∧ Hp w.heap.size i w' ([]) ∧ Tr Dw w.heap.size A w i w') (fun a ha => ⟨A, ha.sb, ⟨hH, Tr.refl (Dw := Dw) hA⟩⟩) ?_
  rintro K k6 _ a w13 ⟨A14, ha39, hH15, hr5⟩ hle19 K22 h21
  refine C_of ?_ ha39
  replace h_s := Sl.tr h_s hr5; replace hK := Tt hK hr5; replace hB := Bx hB hr5; replace hA := hr5.new; replace hH := hH15
  refine Sr (Vy (Y_lss rfl rfl) (To ?_))
  refine C_seq ?_
  refine Cc (fun hc24 => ?_) fun hc24 => ?_
  ·have hlt20 := lt_of_dec hc24
   obtain ⟨x16, h17, h18⟩ := K22 hlt20
   refine Sk ?_
   refine C_seq (C_block (Sr (Mm (As (To ?_)))))
   refine Sr (Mm (Mm (Mm ?_)))
   obtain ⟨x25, hx25, h17⟩ := Bs h17
   refine V_indexAddr h_s hx25 underlying45 sizeOf90 rfl rfl rfl ?_
   intro b26 o27 h28
   obtain ⟨v29, h31, h30⟩ := El_know_Term h28
   refine Vy (Y_loadA h31 isAgg90 sizeOf90 rfl) ?_
   obtain ⟨x32, hx32, h17⟩ := Bs h17
   refine Vc f_call (f_spec w13 _ hK hA x25 v29 h30 _ hx32) ?_
   rintro _ w33 ⟨rfl, hk34⟩
   have ht35 := Kp.tr hk34 hA hB; replace hH := Hp.kp hH hk34; replace hK := Tt hK ht35; replace hr5 := Tt hr5 ht35
   refine To ?_
   refine Cc (fun hc36 => ?_) fun hc36 => ?_
   ·rw [if_pos hc36] at h17
    refine Sr (Mm (As (To ?_)))
    obtain rfl := Oi h17
    obtain rfl := (h18 : Lp.rt _ = _)
    rw [Lp.andThen_rt] at hm
    obtain rfl := Oi hm
    refine Rt (Res.one results100 rfl) ?_
    exact ⟨rfl, hK.kp⟩
   rw [if_neg (nt hc36)] at h17
   refine Sk ?_
   refine C_region (Vy (Y_addI rfl rfl) (Mm ?_))
   obtain rfl := Oi h17
   refine V_end (fun a ha37 => ?_)
   exact ⟨(), hlt20, h18, ⟨A14, ha37.sub ⟨rfl, rfl, rfl, Ws hlt20 hn23, trivial⟩, ⟨hH, hr5⟩⟩⟩
  refine C_exit (fun a ha38 => ?_)
  exact ⟨((), A14), ha38.sub trivial, ⟨(h21 (eq_of_dec hle19 hc24)).symm, hH, hr5⟩⟩
 rintro ⟨s4, A10⟩ w7 ⟨rfl, hH11, hk8⟩ a ha9
 rw [Lp.andThen_fin] at hm
 replace hK := Tr.trans hK hk8; replace hA := hk8.new; replace hH := hH11
 refine C_at (n := ⟨19, [], none⟩) (fun _ _ => rfl) ?_ ha9
 refine Sr (As (To ?_))
 obtain rfl := Oi hm
 refine Rt (Res.one results100 rfl) ?_
 exact ⟨rfl, hK.kp⟩
theorem slices_ContainsFunc_Lknow_Term_know_Term_c (w : World) {A : Nat → Prop} (hA : ∀ b, w.heap.size ≤ b → A b) (s : (List know_Term)) (v_s : Value) (h_s : Sl A w v_s s) (f : know_Term → Option Bool) (f_f : FuncId) (f_a f_c : Array Value) (f_call : ∀ (args : Array Value) (w : World), (callFunc f_f args).run prog w = .ok (.enter f_f args) w) (f_spec : ∀ (w1 : World) (A1 : Nat → Prop), Tr Dw w.heap.size A w A1 w1 → (∀ b, w1.heap.size ≤ b → A1 b) → ∀ (y0 : know_Term) (v1 : Value) (h2 : Sl A1 w1 v1 y0.list_) (r : Bool), f y0 = some r → Ret prog f_f (f_a ++ #[.agg #[.string y0.word, v1]] ++ f_c) w1 fun v w' => v = .bool r ∧ Kp Dw w1 w') {r : Bool} (hm : slices_ContainsFunc_Lknow_Term_know_Term s f = some r) : Ret prog 64 #[v_s, .func (.func f_f) f_a f_c] w fun v w' => v = .bool r ∧ Kp Dw w w' := by
 unfold slices_ContainsFunc_Lknow_Term_know_Term at hm
 refine enter func64 rfl ntmps64 rfl ?_
 have hA0 := hA
 obtain ⟨hB, hK, hH⟩ := St (Dw := Dw) hA
 refine Sr (As (To ?_))
 refine Sr (Mm (Mm ?_))
 obtain ⟨x3, hx3, hm⟩ := Bs hm
 refine Vc call100 (slices_IndexFunc_Lknow_Term_know_Term_c (Dw := Dw) w hA s v_s h_s f f_f f_a f_c f_call (fun w1 A1 ht => f_spec w1 A1 (Tr.trans hK (Tr.lower (Dw := Dw) ht hB))) hx3) ?_
 rintro _ w4 ⟨rfl, hk5⟩
 have ht6 := Kp.tr hk5 hA hB; replace hK := Tt hK ht6
 refine Vy (Y_geq rfl rfl) (As (To ?_))
 obtain rfl := Oi hm
 refine Rt (Res.one results64 rfl) ?_
 exact ⟨rfl, hK.kp⟩
theorem know_Index_matches_1_c (w : World) {A : Nat → Prop} (hA : ∀ b, w.heap.size ≤ b → A b) (t : know_Term) (v_t : Value) (h_t : Sl A w v_t t.list_) (p1 : Int) (b_p1 : Nat) (h_p1 : El A w b_p1 0 p1) {r : Bool} (hm : know_Index_matches_1 t p1 = some r) : Ret prog 65 #[.agg #[.string t.word, v_t], Pt b_p1] w fun v w' => v = .bool r ∧ Kp Dw w w' := by
 unfold know_Index_matches_1 at hm
 refine enter func65 rfl ntmps65 rfl ?_
 have hA0 := hA
 obtain ⟨hB, hK, hH⟩ := St (Dw := Dw) hA
 refine Sr ?_
 refine V_box rfl rfl ?_
 intro b3 w4 h5
 have hk7 := h5.kp (Dw := Dw)
 have h6 : El (α := know_Term) A w4 b3 0 t := h5.el hA ⟨[.string t.word], _, rfl, rfl, ⟨_, rfl, h_t⟩⟩
 have ht8 := Kp.tr hk7 hA hB; replace h_p1 := El.tr h_p1 ht8; replace hK := Tt hK ht8; replace hB := Bx hB ht8; replace hA := ht8.new
 refine As (To ?_)
 refine Sr ?_
 obtain ⟨v9, h11, h10⟩ := El_know_Term h6
 refine Vy (Y_loadA h11 isAgg90 sizeOf90 rfl) (Li h_p1 isAgg3 ?_)
 obtain ⟨x12, hx12, hm⟩ := Bs hm
 refine Vc call41 (know_Term_posting_c (Dw := Dw) w4 hA t v9 h10 p1 hx12) ?_
 rintro _ w17 ⟨v13, v15, rfl, h14, h16, hk18⟩
 have ht19 := Kp.tr hk18 hA hB; replace hK := Tt hK ht19; replace hB := Bx hB ht19; replace hA := ht19.new
 refine Mm (Vy (Y_extract rfl rfl) (Vy (Y_extract rfl rfl) ?_))
 refine V_alloc zeroValue98 rfl ?_
 intro b20 w21 h22
 have h27 : (v13).oneCell' = true := by obtain ⟨_, _, e, _⟩ := Sl.form h14; rw [e]; rfl
 have h30 : (v15).oneCell' = true := by obtain ⟨_, _, e, _⟩ := Sl.form h16; rw [e]; rfl
 refine Sn h22 sizeOf98 ?_
 intro w23 h24
 have hk32 := h24.kp (Dw := Dw)
 have h31 : El (α := know_Posting) A w23 b20 0 x12.1 := h24.el hA ⟨[Ii x12.1.id_], _, rfl, rfl, ⟨[v13], _, rfl, ⟨_, rfl, h14⟩, ⟨_, rfl, h16⟩⟩⟩
 have ht33 := Kp.tr hk32 hA hB; replace hK := Tt hK ht33
 refine As (To ?_)
 refine Sr (Mm (As (To ?_)))
 obtain rfl := Oi hm
 refine Rt (Res.one results65 rfl) ?_
 exact ⟨rfl, hK.kp⟩
theorem know_Index_matches_c (w : World) {A : Nat → Prop} (hA : ∀ b, w.heap.size ≤ b → A b) (x : know_Index) (v_x0 : Value) (h_x0 : Sl A w v_x0 x.ids) (v_x1 : Value) (h_x1 : Sl A w v_x1 x.sizes) (v_x2 : Value) (h_x2 : Sl A w v_x2 x.terms) (p : know_Part) (v_p : Value) (h_p : Sl A w v_p p.words) (named : (List know_Term)) (v_named : Value) (h_named : Sl A w v_named named) (id_ : Int) {r : Bool} (hm : know_Index_matches x p named id_ = some r) : Ret prog 33 #[.agg #[v_x0, v_x1, v_x2], .agg #[Ii p.kind, .bool p.not_, v_p], v_named, Ii id_] w fun v w' => v = .bool r ∧ Kp Dw w w' := by
 unfold know_Index_matches at hm
 refine enter func33 rfl ntmps33 rfl ?_
 have hA0 := hA
 obtain ⟨hB, hK, hH⟩ := St (Dw := Dw) hA
 refine Sr ?_
 refine V_box rfl rfl ?_
 intro b11 w12 h13
 have hk15 := h13.kp (Dw := Dw)
 have h14 : El (α := know_Index) A w12 b11 0 x := h13.el hA ⟨[v_x0], _, rfl, ⟨_, rfl, h_x0⟩, ⟨[v_x1], _, rfl, ⟨_, rfl, h_x1⟩, ⟨_, rfl, h_x2⟩⟩⟩
 have ht16 := Kp.tr hk15 hA hB; replace h_p := Sl.tr h_p ht16; replace h_named := Sl.tr h_named ht16; replace hK := Tt hK ht16; replace hB := Bx hB ht16; replace hA := ht16.new
 refine V_box rfl rfl ?_
 intro b17 w18 h19
 have hk21 := h19.kp (Dw := Dw)
 have h20 : El (α := know_Part) A w18 b17 0 p := h19.el hA ⟨[Ii p.kind], _, rfl, rfl, ⟨[.bool p.not_], _, rfl, rfl, ⟨_, rfl, h_p⟩⟩⟩
 have ht22 := Kp.tr hk21 hA hB; replace h_named := Sl.tr h_named ht22; replace h14 := El.tr h14 ht22; replace hK := Tt hK ht22; replace hB := Bx hB ht22; replace hA := ht22.new
 refine V_box rfl rfl ?_
 intro b23 w24 h25
 have hk27 := h25.kp (Dw := Dw)
 have h26 : El (α := Int) A w24 b23 0 id_ := h25.el hA rfl
 have ht28 := Kp.tr hk27 hA hB; replace h_named := Sl.tr h_named ht28; replace h14 := El.tr h14 ht28; replace h20 := El.tr h20 ht28; replace hK := Tt hK ht28; replace hB := Bx hB ht28; replace hA := ht28.new
 refine As (To ?_)
 refine C_seq (Sr ?_)
 have h29 := El_know_Part_0 h20
 refine Fa underlying68 rfl sizeOf3 (Li h29 isAgg3 (Vy (Y_eql rfl rfl) (To ?_)))
 refine Cc (fun hc30 => ?_) fun hc30 => ?_
 ·rw [if_pos hc30] at hm
  refine Sr ?_
  obtain ⟨v31, v33, v35, h37, h32, h34, h36⟩ := El_know_Index h14
  refine Vy (Y_loadA h37 isAgg47 sizeOf47 rfl) ?_
  have h38 := El_know_Part_2 h20
  refine Fa underlying68 rfl sizeOf62 ?_
  obtain ⟨v39, h40, h41⟩ := El.list h38
  refine Ld h40 isAgg62 (Li h26 isAgg3 ?_)
  obtain ⟨x42, hx42, hm⟩ := Bs hm
  refine Vc call63 (know_Index_phrase_c (Dw := Dw) w24 hA x v31 h32 v33 h34 v35 h36 p.words v39 h41 id_ hx42) ?_
  rintro _ w43 ⟨rfl, hk44⟩
  have ht45 := Kp.tr hk44 hA hB; replace hK := Tt hK ht45
  refine As (To ?_)
  obtain rfl := Oi hm
  refine Rt (Res.one results33 rfl) ?_
  exact ⟨rfl, hK.kp⟩
 rw [if_neg (nt hc30)] at hm
 refine Sk ?_
 refine Sr (Mm (Vy (Y_makeFunc rfl rfl) ?_))
 obtain ⟨x47, hx47, hm⟩ := Bs hm
 refine Vc call64 (slices_ContainsFunc_Lknow_Term_know_Term_c (Dw := Dw) w24 hA named v_named h_named (fun y57 => know_Index_matches_1 y57 id_) 65 #[] #[Pt b23] call65 (fun w53 A54 ht55 h56 y48 v49 h50 r51 h52 => (know_Index_matches_1_c (Dw := Dw) w53 h56 y48 v49 h50 id_ b23 (El.tr h26 ht55) h52).mono (fun _ _ h => ⟨h.1, h.2⟩)) hx47) ?_
 rintro _ w58 ⟨rfl, hk59⟩
 have ht60 := Kp.tr hk59 hA hB; replace hK := Tt hK ht60
 refine As (To ?_)
 obtain rfl := Oi hm
 refine Rt (Res.one results33 rfl) ?_
 exact ⟨rfl, hK.kp⟩
theorem math_bits_Len64_c (w : World) (x : Int) {r : Int} (hm : math_bits_Len64 x = some r) : Ret prog 102 #[.int .u64 x] w fun v w' => v = Ii r ∧ w = w' := by
 unfold math_bits_Len64 at hm
 refine enter func102 rfl ntmps102 rfl ?_
 refine Sr (As (To ?_))
 refine C_seq (Sr (Mm (Vy (Y_geq rfl rfl) (To ?_))))
 obtain ⟨s2, ho1, hm⟩ := Bs hm
 refine C_cutG (ι := Unit) (fun (_ : Unit) => [(0, .int .u64 s2.1), (2, Ii s2.2)]) (fun (_ : Unit) => fun w' => w = w') ?_ ?_
 ·refine Cc (fun hc7 => ?_) fun hc7 => ?_
  ·rw [if_pos hc7] at ho1
   refine Sr (Mm ?_)
   obtain ⟨x8, hx8, ho1⟩ := Bs ho1
   refine Vy (Y_shr hx8 rfl rfl) (As (To ?_))
   refine C_region (As ?_)
   obtain rfl := Oi ho1
   refine V_end (fun a ha9 => ?_)
   exact ⟨(), ha9.sb, rfl⟩
  rw [if_neg (nt hc7)] at ho1
  obtain rfl := Oi ho1
  refine C_skip (fun a ha10 => ?_)
  exact ⟨(), ha10.sb, rfl⟩
 rintro _ _ rfl a ha6
 refine C_at (n := ⟨25, [], none⟩) (fun _ _ => rfl) ?_ ha6
 refine C_seq (Sr (Mm (Vy (Y_geq rfl rfl) (To ?_))))
 obtain ⟨s12, ho11, hm⟩ := Bs hm
 refine C_cutG (ι := Unit) (fun (_ : Unit) => [(0, .int .u64 s12.1), (2, Ii s12.2)]) (fun (_ : Unit) => fun w' => w = w') ?_ ?_
 ·refine Cc (fun hc17 => ?_) fun hc17 => ?_
  ·rw [if_pos hc17] at ho11
   refine Sr (Mm ?_)
   obtain ⟨x18, hx18, ho11⟩ := Bs ho11
   refine Vy (Y_shr hx18 rfl rfl) (As (To ?_))
   refine C_region (Mm (Vy (Y_addI rfl rfl) (As ?_)))
   obtain rfl := Oi ho11
   refine V_end (fun a ha19 => ?_)
   exact ⟨(), ha19.sb, rfl⟩
  rw [if_neg (nt hc17)] at ho11
  obtain rfl := Oi ho11
  refine C_skip (fun a ha20 => ?_)
  exact ⟨(), ha20.sb, rfl⟩
 rintro _ _ rfl a ha16
 refine C_at (n := ⟨25, [], none⟩) (fun _ _ => rfl) ?_ ha16
 refine C_seq (Sr (Mm (Vy (Y_geq rfl rfl) (To ?_))))
 obtain ⟨s22, ho21, hm⟩ := Bs hm
 refine C_cutG (ι := Unit) (fun (_ : Unit) => [(0, .int .u64 s22.1), (2, Ii s22.2)]) (fun (_ : Unit) => fun w' => w = w') ?_ ?_
 ·refine Cc (fun hc27 => ?_) fun hc27 => ?_
  ·rw [if_pos hc27] at ho21
   refine Sr (Mm ?_)
   obtain ⟨x28, hx28, ho21⟩ := Bs ho21
   refine Vy (Y_shr hx28 rfl rfl) (As (To ?_))
   refine C_region (Mm (Vy (Y_addI rfl rfl) (As ?_)))
   obtain rfl := Oi ho21
   refine V_end (fun a ha29 => ?_)
   exact ⟨(), ha29.sb, rfl⟩
  rw [if_neg (nt hc27)] at ho21
  obtain rfl := Oi ho21
  refine C_skip (fun a ha30 => ?_)
  exact ⟨(), ha30.sb, rfl⟩
 rintro _ _ rfl a ha26
 refine C_at (n := ⟨25, [], none⟩) (fun _ _ => rfl) ?_ ha26
 refine Sr (Mm (Mm (Vy (Y_convU8 underlying167 underlying5 rfl) ?_)))
 obtain ⟨x31, hx31, hm⟩ := Bs hm
 refine Vy (Y_indexS hx31 underlying9 rfl rfl) (Vy (Y_convI underlying5 underlying3 rfl) (Vy (Y_addI rfl rfl) (As (To ?_))))
 obtain rfl := Oi hm
 refine Rt (Res.one results102 rfl) ?_
 exact ⟨rfl, rfl⟩
theorem math_bits_Len_c (w : World) (x : Int) {r : Int} (hm : math_bits_Len x = some r) : Ret prog 66 #[.int .u64 x] w fun v w' => v = Ii r ∧ w = w' := by
 unfold math_bits_Len at hm
 refine enter func66 rfl ntmps66 rfl ?_
 refine Sr (As (To ?_))
 refine C_seq ?_
 refine Cc (fun hc => ?_) fun hc => ?_
 ·exact absurd hc (by decide)
 refine Sk ?_
 refine Sr (Mm ?_)
 obtain ⟨x1, hx1, hm⟩ := Bs hm
 refine Vc call102 (math_bits_Len64_c w x hx1) ?_
 rintro _ _ ⟨rfl, rfl⟩
 refine As (To ?_)
 obtain rfl := Oi hm
 refine Rt (Res.one results66 rfl) ?_
 exact ⟨rfl, rfl⟩
theorem know_Index_score_c (w : World) {A : Nat → Prop} (hA : ∀ b, w.heap.size ≤ b → A b) (x : know_Index) (v_x0 : Value) (h_x0 : Sl A w v_x0 x.ids) (v_x1 : Value) (h_x1 : Sl A w v_x1 x.sizes) (v_x2 : Value) (h_x2 : Sl A w v_x2 x.terms) (t : know_Term) (v_t : Value) (h_t : Sl A w v_t t.list_) (k_ : Int) {r : Int} (hm : know_Index_score x t k_ = some r) : Ret prog 34 #[.agg #[v_x0, v_x1, v_x2], .agg #[.string t.word, v_t], Ii k_] w fun v w' => v = Ii r ∧ Kp Dw w w' := by
 unfold know_Index_score at hm
 refine enter func34 rfl ntmps34 rfl ?_
 have hA0 := hA
 obtain ⟨hB, hK, hH⟩ := St (Dw := Dw) hA
 refine Sr ?_
 refine V_box rfl rfl ?_
 intro b9 w10 h11
 have hk13 := h11.kp (Dw := Dw)
 have h12 : El (α := know_Index) A w10 b9 0 x := h11.el hA ⟨[v_x0], _, rfl, ⟨_, rfl, h_x0⟩, ⟨[v_x1], _, rfl, ⟨_, rfl, h_x1⟩, ⟨_, rfl, h_x2⟩⟩⟩
 have ht14 := Kp.tr hk13 hA hB; replace hH := Hp.kp hH hk13; replace h_t := Sl.tr h_t ht14; replace hK := Tt hK ht14; replace hB := Bx hB ht14; replace hA := ht14.new
 refine V_box rfl rfl ?_
 intro b15 w17 h18
 have hk20 := h18.kp (Dw := Dw)
 have h19 : El (α := know_Term) A w17 b15 0 t := h18.el hA ⟨[.string t.word], _, rfl, rfl, ⟨_, rfl, h_t⟩⟩
 have ht21 := Kp.tr hk20 hA hB; replace hH := Hp.kp hH hk20; replace h12 := El.tr h12 ht21; replace hK := Tt hK ht21; replace hB := Bx hB ht21; replace hA := ht21.new
 refine As (To ?_)
 refine C_seq ?_
 refine C_region_chz (Dw := Dw) A 10 [(1, 0), (1, 1), (1, 2), (1, 3), (1, 4), (1, 5), (2, 6), (1, 7), (1, 8), (1, 9)] [(4, 11), (1, 12)] Tryz_mixed (by kernel_rfl) (fun w22 hk23 => ?_)
 have ht24 := Kp.tr hk23 hA hB; replace hH := Hp.kp hH hk23; replace h12 := El.tr h12 ht24; replace h19 := El.tr h19 ht24; replace hK := Tt hK ht24; replace hB := Bx hB ht24; replace hA := ht24.new
 refine CHZ_q2 rfl ?_
 obtain ⟨v25, h27, h26⟩ := El_know_Term h19
 refine Qv (fun w' hw' => Y_loadA (At.same h27 (hw'.2 _ h19.2.1 h19.1)) isAgg90 sizeOf90 rfl) (VQ_CHZ (CHZ_q2 rfl ?_))
 have h28 := El_know_Index_0 h12
 refine Qf underlying47 rfl sizeOf23 (VQ_CHZ (CHZ_q2 rfl ?_))
 obtain ⟨v29, h30, h31⟩ := El.list h28
 refine Ql (fun w' hw' => ((World.cell?_of_block (hw'.2 _ h28.2.1 h28.1)).trans h30)) isAgg23 (VQ_CHZ (CHZ_q2 rfl (Qm (VQ_CHZ (CHZ_q2 rfl ?_)))))
 obtain ⟨x32, hx32, hm⟩ := Bs hm
 refine VQ_indexAddr h31 hx32 underlying23 sizeOf3 rfl rfl rfl ?_
 intro b33 o34 h35
 refine VQ_CHZ (CHZ_q2 rfl (Ql (fun w' hw' => (El.int (El.keep h35 (XA.ex hw')))) isAgg3 (VQ_CHZ ?_)))
 refine CHZ_l1 (k := 0) [(2, 10), (2, 6), (1, 7), (1, 8), (1, 9), (4, 11), (1, 12)] rfl ?_ rfl ?_
 ·refine CH_l1 (k := 0) rfl ?_
  refine V_allocHk (Dw := Dw) (B := w.heap.size) hH zeroValue98 hB hA rfl ?_
  intro b36 w37 A38 hk41 hH39 ht40
  replace h12 := El.tr h12 ht40; replace h19 := El.tr h19 ht40; replace h26 := Sl.tr h26 ht40; replace hK := Tt hK ht40; replace hB := Bx hB ht40; replace hA := ht40.new
  replace hH : Hp _ _ _ (obC b36 [Ii 0, .slice none 0 0, .slice none 0 0] 98 :: []) := hH39
  refine V_CH (hk41) ?_
  refine CH_l1 (k := 0) rfl ?_
  obtain ⟨x42, hx42, hm⟩ := Bs hm
  refine Vc call41 (know_Term_posting_c (Dw := Dw) w37 hA t v25 h26 x32 hx42) ?_
  rintro _ w47 ⟨v43, v45, rfl, h44, h46, hk48⟩
  have ht49 := Kp.tr hk48 hA hB; replace hH := Hp.kp hH hk48; replace h12 := El.tr h12 ht49; replace h19 := El.tr h19 ht49; replace hK := Tt hK ht49; replace hB := Bx hB ht49; replace hA := ht49.new
  refine V_CH (hk48) ?_
  refine CH_q2 rfl (Qm (VQ_CH (CH_q2 rfl (Qv (fun w' hw' => Y_extract rfl rfl) (VQ_CH (CH_q2 rfl (Qv (fun w' hw' => Y_extract rfl rfl) (VQ_CH ?_))))))))
  refine CH_l1 (k := 2) rfl ?_
  have h55 : (v43).oneCell' = true := by obtain ⟨_, _, e, _⟩ := Sl.form h44; rw [e]; rfl
  have h58 : (v45).oneCell' = true := by obtain ⟨_, _, e, _⟩ := Sl.form h46; rw [e]; rfl
  refine V_storeC (Dw := Dw) (off := 0) (ds := [Ii x42.1.id_, v43, v45]) hH (i := 0) rfl sizeOf98 rfl (Nat.le_of_ble_eq_true rfl) (by exact (List.forall_mem_cons.2 ⟨rfl, (List.forall_mem_cons.2 ⟨h55, (List.forall_mem_cons.2 ⟨h58, (fun _ h => nomatch h)⟩)⟩)⟩)) rfl hB hA rfl rfl ?_
  intro w50 hH51 ht52
  replace h12 := El.tr h12 ht52; replace h19 := El.tr h19 ht52; replace h44 := Sl.tr h44 ht52; replace h46 := Sl.tr h46 ht52; replace hK := Tt hK ht52; replace hB := Bx hB ht52; replace hA := ht52.new
  replace hH : Hp _ _ _ (obC b36 [Ii x42.1.id_, v43, v45] 98 :: []) := hH51
  obtain ⟨A59, ht60, h61, hH62⟩ := Hp.freezeC (Dw := Dw) (α := know_Posting) (x := x42.1) hH (i := 0) rfl hA (by exact ⟨[Ii x42.1.id_], _, rfl, rfl, ⟨[v43], _, rfl, ⟨_, rfl, h44⟩, ⟨_, rfl, h46⟩⟩⟩)
  replace h12 := El.tr h12 ht60; replace h19 := El.tr h19 ht60; replace hK := Tt hK ht60; replace hB := Bx hB ht60; replace hA := ht60.new; replace hH := hH62
  refine V_CHw ?_
  refine CH_q2 rfl (Qa (VQ_CH ?_))
  refine CH_tail ?_
  show V _ _ _ _ [] _ _
  refine To ?_
  refine C_seq (Sr (Mm (Vy (Y_not rfl) (To ?_))))
  refine Cc (fun hc63 => ?_) fun hc63 => ?_
  ·rw [if_pos hc63] at hm
   refine Sr (As (To ?_))
   obtain rfl := Oi hm
   refine Rt (Res.one results34 rfl) ?_
   exact ⟨rfl, hK.kp⟩
  rw [if_neg (nt hc63)] at hm
  refine Sk ?_
  refine Sr ?_
  have h64 := El_know_Index_0 h12
  refine Fa underlying47 rfl sizeOf23 ?_
  obtain ⟨v65, h66, h67⟩ := El.list h64
  refine Ld h66 isAgg23 (Vy (Y_lenSl h67 rfl underlying23 rfl) ?_)
  have h68 := El_know_Term_1 h19
  refine Fa underlying90 rfl sizeOf88 ?_
  obtain ⟨v69, h70, h71⟩ := El.list h68
  refine Ld h70 isAgg88 (Vy (Y_lenSl h71 rfl underlying88 rfl) ?_)
  obtain ⟨x72, hx72, hm⟩ := Bs hm
  refine Vy (Y_quo hx72 rfl rfl) (Vy (Y_convI underlying3 underlying127 rfl) ?_)
  obtain ⟨x73, hx73, hm⟩ := Bs hm
  refine Vc call66 (math_bits_Len_c w50 (IntKind.wrap .u64 x72) hx73) ?_
  rintro _ _ ⟨rfl, rfl⟩
  refine As (To ?_)
  refine C_seq ?_
  refine C_region_q (Dw := Dw) Tryz_mixed (by kernel_rfl) ?_
  have h74 := El_know_Posting_1 h61
  refine Qf underlying98 rfl sizeOf23 ?_
  obtain ⟨v75, h76, h77⟩ := El.list h74
  refine Qc h76 isAgg23 (Qv (fun w' hw' => Y_lenSl h77 rfl underlying23 rfl) (Qv (fun w' hw' => Y_mulI rfl rfl) ?_))
  have h78 := El_know_Posting_2 h61
  refine Qf underlying98 rfl sizeOf23 ?_
  obtain ⟨v79, h80, h81⟩ := El.list h78
  refine Qc h80 isAgg23 (Qv (fun w' hw' => Y_lenSl h81 rfl underlying23 rfl) (Qv (fun w' hw' => Y_addI rfl rfl) (Qv (fun w' hw' => Y_mulI rfl rfl) (Qm (Qv (fun w' hw' => Y_mulI rfl rfl) ?_)))))
  have h82 := El_know_Index_1 h12
  refine Qf underlying47 rfl sizeOf23 ?_
  obtain ⟨v83, h84, h85⟩ := El.list h82
  refine Qc h84 isAgg23 (Qm ?_)
  obtain ⟨x86, hx86, hm⟩ := Bs hm
  refine VQ_indexAddr h85 hx86 underlying23 sizeOf3 rfl rfl rfl ?_
  intro b87 o88 h89
  refine Qi h89 isAgg3 (Qv (fun w' hw' => Y_addI rfl rfl) ?_)
  obtain ⟨x90, hx90, hm⟩ := Bs hm
  refine Qv (fun w' hw' => Y_quo hx90 rfl rfl) (Qa ?_)
  refine VQ_to (fun _ _ => rfl) (fun w91 hk92 => ?_)
  have ht93 := Kp.tr hk92 hA hB; replace hK := Tt hK ht93
  obtain rfl := Oi hm
  refine Rt (Res.one results34 rfl) ?_
  exact ⟨rfl, hK.kp⟩
 obtain ⟨x94, hx94, hm⟩ := Bs hm
 refine Vc call41 (know_Term_posting_c (Dw := Dw) w22 hA t v25 h26 x32 hx94) ?_
 rintro _ w99 ⟨v95, v97, rfl, h96, h98, hk100⟩
 have ht101 := Kp.tr hk100 hA hB; replace hH := Hp.kp hH hk100; replace h12 := El.tr h12 ht101; replace h19 := El.tr h19 ht101; replace hK := Tt hK ht101; replace hB := Bx hB ht101; replace hA := ht101.new
 refine V_CHZ (hk100) ?_
 refine CHZ_q2 rfl (Qm (VQ_CHZ (CHZ_q2 rfl (Qv (fun w' hw' => Y_extract rfl rfl) (VQ_CHZ (CHZ_q2 rfl (Qv (fun w' hw' => Y_extract rfl rfl) (VQ_CHZ ?_))))))))
 refine CHZ_nil ?_
 refine CH_l1 (k := 0) rfl ?_
 refine V_allocHk (Dw := Dw) (B := w.heap.size) hH zeroValue98 hB hA rfl ?_
 intro b102 w103 A104 hk107 hH105 ht106
 replace h12 := El.tr h12 ht106; replace h19 := El.tr h19 ht106; replace h96 := Sl.tr h96 ht106; replace h98 := Sl.tr h98 ht106; replace hK := Tt hK ht106; replace hB := Bx hB ht106; replace hA := ht106.new
 replace hH : Hp _ _ _ (obC b102 [Ii 0, .slice none 0 0, .slice none 0 0] 98 :: []) := hH105
 refine V_CH (hk107) ?_
 refine CH_l1 (k := 2) rfl ?_
 have h113 : (v95).oneCell' = true := by obtain ⟨_, _, e, _⟩ := Sl.form h96; rw [e]; rfl
 have h116 : (v97).oneCell' = true := by obtain ⟨_, _, e, _⟩ := Sl.form h98; rw [e]; rfl
 refine V_storeC (Dw := Dw) (off := 0) (ds := [Ii x94.1.id_, v95, v97]) hH (i := 0) rfl sizeOf98 rfl (Nat.le_of_ble_eq_true rfl) (by exact (List.forall_mem_cons.2 ⟨rfl, (List.forall_mem_cons.2 ⟨h113, (List.forall_mem_cons.2 ⟨h116, (fun _ h => nomatch h)⟩)⟩)⟩)) rfl hB hA rfl rfl ?_
 intro w108 hH109 ht110
 replace h12 := El.tr h12 ht110; replace h19 := El.tr h19 ht110; replace h96 := Sl.tr h96 ht110; replace h98 := Sl.tr h98 ht110; replace hK := Tt hK ht110; replace hB := Bx hB ht110; replace hA := ht110.new
 replace hH : Hp _ _ _ (obC b102 [Ii x94.1.id_, v95, v97] 98 :: []) := hH109
 obtain ⟨A117, ht118, h119, hH120⟩ := Hp.freezeC (Dw := Dw) (α := know_Posting) (x := x94.1) hH (i := 0) rfl hA (by exact ⟨[Ii x94.1.id_], _, rfl, rfl, ⟨[v95], _, rfl, ⟨_, rfl, h96⟩, ⟨_, rfl, h98⟩⟩⟩)
 replace h12 := El.tr h12 ht118; replace h19 := El.tr h19 ht118; replace hK := Tt hK ht118; replace hB := Bx hB ht118; replace hA := ht118.new; replace hH := hH120
 refine V_CHw ?_
 refine CH_q2 rfl (Qa (VQ_CH ?_))
 refine CH_tail ?_
 show V _ _ _ _ [] _ _
 refine To ?_
 refine C_seq (Sr (Mm (Vy (Y_not rfl) (To ?_))))
 refine Cc (fun hc121 => ?_) fun hc121 => ?_
 ·rw [if_pos hc121] at hm
  refine Sr (As (To ?_))
  obtain rfl := Oi hm
  refine Rt (Res.one results34 rfl) ?_
  exact ⟨rfl, hK.kp⟩
 rw [if_neg (nt hc121)] at hm
 refine Sk ?_
 refine Sr ?_
 have h122 := El_know_Index_0 h12
 refine Fa underlying47 rfl sizeOf23 ?_
 obtain ⟨v123, h124, h125⟩ := El.list h122
 refine Ld h124 isAgg23 (Vy (Y_lenSl h125 rfl underlying23 rfl) ?_)
 have h126 := El_know_Term_1 h19
 refine Fa underlying90 rfl sizeOf88 ?_
 obtain ⟨v127, h128, h129⟩ := El.list h126
 refine Ld h128 isAgg88 (Vy (Y_lenSl h129 rfl underlying88 rfl) ?_)
 obtain ⟨x130, hx130, hm⟩ := Bs hm
 refine Vy (Y_quo hx130 rfl rfl) (Vy (Y_convI underlying3 underlying127 rfl) ?_)
 obtain ⟨x131, hx131, hm⟩ := Bs hm
 refine Vc call66 (math_bits_Len_c w108 (IntKind.wrap .u64 x130) hx131) ?_
 rintro _ _ ⟨rfl, rfl⟩
 refine As (To ?_)
 refine C_seq ?_
 refine C_region_q (Dw := Dw) Tryz_mixed (by kernel_rfl) ?_
 have h132 := El_know_Posting_1 h119
 refine Qf underlying98 rfl sizeOf23 ?_
 obtain ⟨v133, h134, h135⟩ := El.list h132
 refine Qc h134 isAgg23 (Qv (fun w' hw' => Y_lenSl h135 rfl underlying23 rfl) (Qv (fun w' hw' => Y_mulI rfl rfl) ?_))
 have h136 := El_know_Posting_2 h119
 refine Qf underlying98 rfl sizeOf23 ?_
 obtain ⟨v137, h138, h139⟩ := El.list h136
 refine Qc h138 isAgg23 (Qv (fun w' hw' => Y_lenSl h139 rfl underlying23 rfl) (Qv (fun w' hw' => Y_addI rfl rfl) (Qv (fun w' hw' => Y_mulI rfl rfl) (Qm (Qv (fun w' hw' => Y_mulI rfl rfl) ?_)))))
 have h140 := El_know_Index_1 h12
 refine Qf underlying47 rfl sizeOf23 ?_
 obtain ⟨v141, h142, h143⟩ := El.list h140
 refine Qc h142 isAgg23 (Qm ?_)
 obtain ⟨x144, hx144, hm⟩ := Bs hm
 refine VQ_indexAddr h143 hx144 underlying23 sizeOf3 rfl rfl rfl ?_
 intro b145 o146 h147
 refine Qi h147 isAgg3 (Qv (fun w' hw' => Y_addI rfl rfl) ?_)
 obtain ⟨x148, hx148, hm⟩ := Bs hm
 refine Qv (fun w' hw' => Y_quo hx148 rfl rfl) (Qa ?_)
 refine VQ_to (fun _ _ => rfl) (fun w149 hk150 => ?_)
 have ht151 := Kp.tr hk150 hA hB; replace hK := Tt hK ht151
 obtain rfl := Oi hm
 refine Rt (Res.one results34 rfl) ?_
 exact ⟨rfl, hK.kp⟩
theorem cmp_Or_int_c (w : World) {A : Nat → Prop} (vals : (List Int)) (v_vals : Value) (h_vals : Sl A w v_vals vals) {r : Int} (hm : cmp_Or_int vals = some r) : Ret prog 38 #[v_vals] w fun v w' => v = Ii r ∧ w = w' := by
 unfold cmp_Or_int at hm
 refine enter func38 rfl ntmps38 rfl ?_
 refine Sr (As (To ?_))
 refine Sr (As (To ?_))
 refine C_seq (Sr (Mm (Vy (Y_lenSl h_vals rfl underlying23 rfl) (Mm (To ?_)))))
 have hn19 := Sl.le h_vals
 obtain ⟨o3, ho3, hm⟩ := Bs hm
 refine C_cutG (ι := Unit) (fun (s4 : Unit) => [(3, Ii 0)]) (fun (s4 : Unit) => fun w' => o3 = .fin s4 ∧ w = w') ?_ ?_
 ·refine C_block ?_
  refine C_range ho3 (fun k6 _ a w' => ∃ i : Unit, Has ⟨18, [], none⟩ a ([(3, Ii 0), (6, v_vals), (7, Ii (vals.length : Int)), (8, Ii (k6 : Int))]) ∧ w = w') (fun a ha => ⟨(), ha.sb, rfl⟩) ?_
  rintro K k6 _ a _ ⟨_, ha28, rfl⟩ hle15 K18 h17
  refine C_of ?_ ha28
  refine Sr (Vy (Y_lss rfl rfl) (To ?_))
  refine C_seq ?_
  refine Cc (fun hc20 => ?_) fun hc20 => ?_
  ·have hlt16 := lt_of_dec hc20
   obtain ⟨x12, h13, h14⟩ := K18 hlt16
   refine Sk ?_
   refine C_seq (C_block (Sr ?_))
   obtain ⟨x21, hx21, h13⟩ := Bs h13
   refine V_indexAddr h_vals hx21 underlying23 sizeOf3 rfl rfl rfl ?_
   intro b22 o23 h24
   refine Li h24 isAgg3 (As (To ?_))
   refine Sr (Mm (Mm (Vy (Y_neq rfl rfl) (To ?_))))
   refine Cc (fun hc25 => ?_) fun hc25 => ?_
   ·rw [if_pos hc25] at h13
    refine Sr (Mm (As (To ?_)))
    obtain rfl := Oi h13
    obtain rfl := (h14 : Lp.rt _ = _)
    rw [Lp.andThen_rt] at hm
    obtain rfl := Oi hm
    refine Rt (Res.one results38 rfl) ?_
    exact ⟨rfl, rfl⟩
   rw [if_neg (nt hc25)] at h13
   refine Sk ?_
   refine C_region (Vy (Y_addI rfl rfl) (Mm ?_))
   obtain rfl := Oi h13
   refine V_end (fun a ha26 => ?_)
   exact ⟨(), hlt16, h14, ⟨(), ha26.sub ⟨rfl, rfl, rfl, Ws hlt16 hn19, trivial⟩, rfl⟩⟩
  refine C_exit (fun a ha27 => ?_)
  exact ⟨(), ha27.sb, ⟨(h17 (eq_of_dec hle15 hc20)).symm, rfl⟩⟩
 rintro s4 _ ⟨rfl, rfl⟩ a ha9
 rw [Lp.andThen_fin] at hm
 refine C_at (n := ⟨18, [], none⟩) (fun _ _ => rfl) ?_ ha9
 refine Sr (Mm (As (To ?_)))
 obtain rfl := Oi hm
 refine Rt (Res.one results38 rfl) ?_
 exact ⟨rfl, rfl⟩
theorem know_ranked_1_c (w : World) {A : Nat → Prop} (hA : ∀ b, w.heap.size ≤ b → A b) (a_ : know_Hit) (b : know_Hit) {r : Int} (hm : know_ranked_1 a_ b = some r) : Ret prog 68 #[.agg #[Ii a_.id_, Ii a_.score], .agg #[Ii b.id_, Ii b.score]] w fun v w' => v = Ii r ∧ Kp Dw w w' := by
 unfold know_ranked_1 at hm
 refine enter func68 rfl ntmps68 rfl ?_
 have hA0 := hA
 obtain ⟨hB, hK, hH⟩ := St (Dw := Dw) hA
 refine Sr ?_
 refine V_box rfl rfl ?_
 intro b1 w2 h3
 have hk5 := h3.kp (Dw := Dw)
 have h4 : El (α := know_Hit) A w2 b1 0 a_ := h3.el hA ⟨[Ii a_.id_], _, rfl, rfl, rfl⟩
 have ht6 := Kp.tr hk5 hA hB; replace hK := Tt hK ht6; replace hB := Bx hB ht6; replace hA := ht6.new
 refine V_box rfl rfl ?_
 intro b7 w9 h10
 have hk12 := h10.kp (Dw := Dw)
 have h11 : El (α := know_Hit) A w9 b7 0 b := h10.el hA ⟨[Ii b.id_], _, rfl, rfl, rfl⟩
 have ht13 := Kp.tr hk12 hA hB; replace h4 := El.tr h4 ht13; replace hK := Tt hK ht13; replace hB := Bx hB ht13; replace hA := ht13.new
 refine As (To ?_)
 refine C_seq ?_
 refine C_region_qt (Dw := Dw) 10 Tryz_mixed (by kernel_rfl) ?_
 simp only [List.take, List.drop]
 have h14 := El_know_Hit_1 h11
 refine Qf underlying55 rfl sizeOf3 (Qi h14 isAgg3 ?_)
 have h15 := El_know_Hit_1 h4
 refine Qf underlying55 rfl sizeOf3 (Qi h15 isAgg3 ?_)
 refine VQ_call (Ii (cmp_Compare_int b.score a_.score)) call39 rfl rfl rfl rfl (fun w' hw' => (cmp_Compare_int_c w' b.score a_.score).mono (fun _ _ h => ⟨h.1, h.2 ▸ hw'⟩)) ?_
 have h16 := El_know_Hit_0 h4
 refine Qf underlying55 rfl sizeOf3 (Qi h16 isAgg3 ?_)
 have h17 := El_know_Hit_0 h11
 refine Qf underlying55 rfl sizeOf3 (Qi h17 isAgg3 ?_)
 refine VQ_call (Ii (cmp_Compare_int a_.id_ b.id_)) call39 rfl rfl rfl rfl (fun w' hw' => (cmp_Compare_int_c w' a_.id_ b.id_).mono (fun _ _ h => ⟨h.1, h.2 ▸ hw'⟩)) ?_
 refine VQ_tail (fun w18 hk19 => ?_)
 try simp only [List.take, List.drop]
 have ht20 := Kp.tr hk19 hA hB; replace hK := Tt hK ht20; replace hB := Bx hB ht20; replace hA := ht20.new
 refine V_buildSlice (Dw := Dw) (cells := #[Ii (cmp_Compare_int b.score a_.score), Ii (cmp_Compare_int a_.id_ b.id_)]) (l := ([(cmp_Compare_int b.score a_.score), (cmp_Compare_int a_.id_ b.id_)] : List Int)) (len := 2) underlying23 sizeOf3 zeroValue3 rfl (by generalize ((cmp_Compare_int b.score a_.score) : Int) = z25; generalize ((cmp_Compare_int a_.id_ b.id_) : Int) = z26; kernel_rfl) (show (2 * 1 : Nat) ≠ 0 by decide) (show (2 * 1 : Nat) ≤ 2 ^ 24 by decide) hA ⟨[Ii (cmp_Compare_int b.score a_.score)], _, rfl, rfl, ⟨[Ii (cmp_Compare_int a_.id_ b.id_)], _, rfl, rfl, rfl⟩⟩ rfl rfl ?_
 intro v21 w22 hk24 h23
 have ht27 := Kp.tr hk24 hA hB; replace hK := Tt hK ht27
 obtain ⟨x28, hx28, hm⟩ := Bs hm
 refine Vc call38 (cmp_Or_int_c w22 ([(cmp_Compare_int b.score a_.score), (cmp_Compare_int a_.id_ b.id_)] : List Int) v21 h23 hx28) ?_
 rintro _ _ ⟨rfl, rfl⟩
 refine As (To ?_)
 obtain rfl := Oi hm
 refine Rt (Res.one results68 rfl) ?_
 exact ⟨rfl, hK.kp⟩
def Tryz_sf67_ren : Go.Shelf.Ren := ⟨fun | 6 => 67 | 14 => 103 | 15 => 66 | 20 => 121 | 21 => 122 | 22 => 123 | 23 => 124 | 24 => 125 | 25 => 126 | 26 => 127 | 27 => 128 | 28 => 101 | 29 => 102 | 46 => 150 | 47 => 130 | 48 => 131 | 49 => 151 | 50 => 152 | 57 => 162 | n => n, fun | 0 => 0 | 1 => 1 | 2 => 2 | 3 => 3 | 4 => 4 | 5 => 5 | 6 => 6 | 7 => 7 | 8 => 8 | 9 => 9 | 10 => 10 | 11 => 11 | 12 => 12 | 13 => 13 | 14 => 14 | 15 => 15 | 16 => 16 | 17 => 17 | 18 => 18 | 19 => 19 | 20 => 20 | 21 => 21 | 22 => 39 | 23 => 128 | 24 => 55 | 25 => 129 | 27 => 23 | 29 => 95 | 30 => 198 | 37 => 168 | 38 => 126 | 39 => 127 | 42 => 77 | 44 => 181 | 45 => 170 | 46 => 171 | 47 => 182 | 48 => 183 | 49 => 184 | 50 => 108 | 51 => 185 | 52 => 164 | 53 => 165 | 54 => 166 | 55 => 167 | 66 => 186 | 67 => 187 | 68 => 188 | 69 => 202 | 70 => 190 | 71 => 203 | 76 => 204 | 77 => 205 | 78 => 213 | 81 => 157 | 82 => 222 | 83 => 223 | 84 => 224 | 85 => 225 | 86 => 226 | 87 => 227 | 88 => 228 | 89 => 229 | 90 => 230 | 91 => 179 | 92 => 231 | 93 => 232 | 94 => 233 | 95 => 234 | 96 => 199 | n => n, fun n => n⟩
theorem Tryz_sf67_lay : Go.Proofs.SlLaysF0.n6 Tryz.prog Tryz_sf67_ren := {
  mixed := by kernel_rfl,
  f6 := ⟨ "slices.SortFunc[[]porterslodge/know.Hit,porterslodge/know.Hit]", by kernel_rfl, Tryz.func67.trans (congrArg some (by kernel_rfl))⟩,
  f14 := ⟨ "slices.pdqsortCmpFunc[porterslodge/know.Hit]", by kernel_rfl, Tryz.func103.trans (congrArg some (by kernel_rfl))⟩,
  f15 := Tryz.func66.trans (congrArg some (by kernel_rfl)),
  f20 := ⟨ "slices.insertionSortCmpFunc[porterslodge/know.Hit]", by kernel_rfl, Tryz.func121.trans (congrArg some (by kernel_rfl))⟩,
  f21 := ⟨ "slices.heapSortCmpFunc[porterslodge/know.Hit]", by kernel_rfl, Tryz.func122.trans (congrArg some (by kernel_rfl))⟩,
  f22 := ⟨ "slices.breakPatternsCmpFunc[porterslodge/know.Hit]", by kernel_rfl, Tryz.func123.trans (congrArg some (by kernel_rfl))⟩,
  f23 := ⟨ "slices.choosePivotCmpFunc[porterslodge/know.Hit]", by kernel_rfl, Tryz.func124.trans (congrArg some (by kernel_rfl))⟩,
  f24 := ⟨ "slices.reverseRangeCmpFunc[porterslodge/know.Hit]", by kernel_rfl, Tryz.func125.trans (congrArg some (by kernel_rfl))⟩,
  f25 := ⟨ "slices.partialInsertionSortCmpFunc[porterslodge/know.Hit]", by kernel_rfl, Tryz.func126.trans (congrArg some (by kernel_rfl))⟩,
  f26 := ⟨ "slices.partitionEqualCmpFunc[porterslodge/know.Hit]", by kernel_rfl, Tryz.func127.trans (congrArg some (by kernel_rfl))⟩,
  f27 := ⟨ "slices.partitionCmpFunc[porterslodge/know.Hit]", by kernel_rfl, Tryz.func128.trans (congrArg some (by kernel_rfl))⟩,
  f28 := Tryz.func101.trans (congrArg some (by kernel_rfl)),
  f29 := Tryz.func102.trans (congrArg some (by kernel_rfl)),
  f46 := ⟨ "slices.siftDownCmpFunc[porterslodge/know.Hit]", by kernel_rfl, Tryz.func150.trans (congrArg some (by kernel_rfl))⟩,
  f47 := Tryz.func130.trans (congrArg some (by kernel_rfl)),
  f48 := Tryz.func131.trans (congrArg some (by kernel_rfl)),
  f49 := ⟨ "slices.medianAdjacentCmpFunc[porterslodge/know.Hit]", by kernel_rfl, Tryz.func151.trans (congrArg some (by kernel_rfl))⟩,
  f50 := ⟨ "slices.medianCmpFunc[porterslodge/know.Hit]", by kernel_rfl, Tryz.func152.trans (congrArg some (by kernel_rfl))⟩,
  f57 := ⟨ "slices.order2CmpFunc[porterslodge/know.Hit]", by kernel_rfl, Tryz.func162.trans (congrArg some (by kernel_rfl))⟩,
  t0 := Tryz.underlying0,
  a0 := Tryz.isAgg0,
  z0 := Tryz.sizeOf0,
  v0 := Tryz.zeroValue0,
  t3 := Tryz.underlying3,
  a3 := Tryz.isAgg3,
  z3 := Tryz.sizeOf3,
  v3 := Tryz.zeroValue3,
  t4 := Tryz.underlying4,
  a4 := Tryz.isAgg4,
  z4 := Tryz.sizeOf4,
  v4 := Tryz.zeroValue4,
  t5 := Tryz.underlying5,
  a5 := Tryz.isAgg5,
  z5 := Tryz.sizeOf5,
  v5 := Tryz.zeroValue5,
  t9 := Tryz.underlying9,
  a9 := Tryz.isAgg9,
  z9 := Tryz.sizeOf9,
  v9 := Tryz.zeroValue9,
  t22 := Tryz.underlying39,
  a22 := Tryz.isAgg39,
  z22 := Tryz.sizeOf39,
  v22 := Tryz.zeroValue39,
  t25 := Tryz.underlying129,
  a25 := Tryz.isAgg129,
  z25 := Tryz.sizeOf129,
  v25 := Tryz.zeroValue129,
  t39 := Tryz.underlying127,
  a39 := Tryz.isAgg127,
  z39 := Tryz.sizeOf127,
  v39 := Tryz.zeroValue127,
  t45 := Tryz.underlying170,
  a45 := Tryz.isAgg170,
  z45 := Tryz.sizeOf170,
  v45 := Tryz.zeroValue170,
  t46 := Tryz.underlying171,
  a46 := Tryz.isAgg171,
  z46 := Tryz.sizeOf171,
  v46 := Tryz.zeroValue171,
  t50 := Tryz.underlying108,
  a50 := Tryz.isAgg108,
  z50 := Tryz.sizeOf108,
  v50 := Tryz.zeroValue108,
  t53 := Tryz.underlying165,
  a53 := Tryz.isAgg165,
  z53 := Tryz.sizeOf165,
  v53 := Tryz.zeroValue165,
  t55 := Tryz.underlying167,
  a55 := Tryz.isAgg167,
  z55 := Tryz.sizeOf167,
  v55 := Tryz.zeroValue167,
  t66 := Tryz.underlying186,
  a66 := Tryz.isAgg186,
  z66 := Tryz.sizeOf186,
  v66 := Tryz.zeroValue186,
  t70 := Tryz.underlying190,
  a70 := Tryz.isAgg190,
  z70 := Tryz.sizeOf190,
  v70 := Tryz.zeroValue190,
  t76 := Tryz.underlying204,
  a76 := Tryz.isAgg204,
  z76 := Tryz.sizeOf204,
  v76 := Tryz.zeroValue204,
  t77 := Tryz.underlying205,
  a77 := Tryz.isAgg205,
  z77 := Tryz.sizeOf205,
  v77 := Tryz.zeroValue205 }
theorem Tryz_sf67 {cmp : know_Hit → know_Hit → Option Int} {l r : List know_Hit} {g : FuncId} {cb : Array Value} {B : Nat} {A : Nat → Prop} {w : World} {L : List Ob} {i : Nat} {v : Value} (eg : ∀ (args : Array Value) (w : World), (callFunc g args).run Tryz.prog w = .ok (.enter g args) w) (hcl : ∀ (w1 : World), Tr True B A w A w1 → (∀ b, w1.heap.size ≤ b → A b) → ∀ (x y : know_Hit) (cx cy : List Value) (c : Int), GoT.rep A w1 cx x → GoT.rep A w1 cy y → cmp x y = some c → Ret Tryz.prog g (#[.agg cx.toArray, .agg cy.toArray] ++ cb) w1 fun v w' => v = .int .i64 c ∧ Kp True w1 w') (hH : Hp B A w L) (hi : L[i]? = some (o_55 v l)) (hB : B ≤ w.heap.size) (hA : ∀ b, w.heap.size ≤ b → A b) (hr : sortFuncL cmp l = some r) : Ret Tryz.prog 67 #[v, .func (.func g) #[] cb] w fun u w' => u = .tuple #[] ∧ Hp B A w' (L.set i (o_55 v r)) ∧ Tr Dw B A w A w' :=
  Hp.sortFuncK (Dw := Dw) (fun p c w => Go.Proofs.AnyF.slices_SortFunc_none Tryz_sf67_lay p c _ w) (fun enc hk hone cf hO blk off cap d w hc hh hb hs => Go.Proofs.AnyQ.slices_SortFunc Tryz_sf67_lay _ Tryz.isAgg55 Tryz.sizeOf55 enc hk hone cf hO g cb blk off cap d w eg hc hh hb hs) hcl hH hi hB hA hr
theorem slices_Clone_Lknow_Hit_know_Hit_c (w : World) {A : Nat → Prop} (hA : ∀ b, w.heap.size ≤ b → A b) (s : (List know_Hit)) (v_s : Value) (h_s : Sl A w v_s s) {r : (List know_Hit)} (hm : slices_Clone_Lknow_Hit_know_Hit s = some r) : Ret prog 69 #[v_s] w fun v w' => ∃ s0, v = s0 ∧ Ownd 55 w w' s0 r ∧ Kp Dw w w' := by
 unfold slices_Clone_Lknow_Hit_know_Hit at hm
 refine enter func69 rfl ntmps69 rfl ?_
 have hA0 := hA
 obtain ⟨hB, hK, hH⟩ := St (Dw := Dw) hA
 rcases Sl.split h_s with ⟨rfl, rfl⟩ | ⟨a0, n0, c0, rfl⟩
 ·replace hm : some ([] : (List know_Hit)) = some r := by simpa [appendL] using hm
  refine Sr (As (To ?_))
  refine C_seq (Sr (Mm (Vy (Y_eqlNilT rfl rfl underlying39) (To ?_))))
  refine Cc (fun hc => ?_) fun hc => ?_
  ·refine Sr (As (To ?_))
   obtain rfl := Oi hm
   replace hH : Hp w.heap.size A w (o_55 (.slice none 0 0) ([] : (List know_Hit)) :: []) := Hp.addNil (α := know_Hit) (e := 55) hH
   refine Rt (Res.one results69 rfl) ?_
   exact ⟨.slice none 0 0, rfl, (Hp.ownd hH (i := 0) rfl), hK.kp⟩
  exact absurd hc (by decide)
 refine Sr (As (To ?_))
 refine C_seq (Sr (Mm (Vy (Y_eqlNilF rfl rfl underlying39) (To ?_))))
 refine Cc (fun hc => ?_) fun hc => ?_
 ·exact absurd hc (by decide)
 refine Sk ?_
 refine Sr ?_
 refine V_buildOwn0H (Dw := Dw) (α := know_Hit) hH underlying39 sizeOf55 hB hA rfl ?_
 intro v3 w4 A5 hH6 ht7
 replace h_s := Sl.tr h_s ht7; replace hK := Tt hK ht7; replace hB := Bx hB ht7; replace hA := ht7.new
 replace hH : Hp _ _ _ (o_55 v3 ([] : List know_Hit) :: []) := hH6
 refine Mm ?_
 obtain ⟨x8, hx8, hm⟩ := Bs hm
 refine V_appendH (Dw := Dw) (e := 55) (v := v3) (l := ([] : List know_Hit)) (ti := t55) (bytes := 16) (lim := 8796093022208) hH (i := 0) rfl h_s hx8 underlying39 Tryz_info55 rfl rfl rfl rfl (by decide) (by decide) (by decide) hB hA rfl rfl rfl ?_
 intro v9 w10 A11 hH12 ht13
 replace hK := Tt hK ht13
 replace hH : Hp _ _ _ (o_55 v9 x8 :: []) := hH12
 refine As (To ?_)
 obtain rfl := Oi hm
 refine Rt (Res.one results69 rfl) ?_
 exact ⟨v9, rfl, (Hp.ownd hH (i := 0) rfl), hK.kp⟩
theorem know_ranked_c (w : World) {A : Nat → Prop} {B : Nat} (hB : B ≤ w.heap.size) (hA : ∀ b, w.heap.size ≤ b → A b) (l : (List know_Hit)) (v_l : Value) (most : Int) {L : List Ob} (hH : Hp B A w (o_55 v_l l :: L)) {r : (List know_Hit)} (hm : know_ranked l most = some r) : Ret prog 35 #[v_l, Ii most] w fun v w' => ∃ s0, ∃ A1 : Nat → Prop, v = s0 ∧ Hp B A1 w' (o_55 s0 r :: L) ∧ Tr Dw B A w A1 w' := by
 unfold know_ranked at hm
 refine enter func35 rfl ntmps35 rfl ?_
 have hK : Tr Dw B A w A w := Tr.refl (Dw := Dw) hA
 refine Sr (As (To ?_))
 refine Sr (Mm ?_)
 obtain ⟨x1, hx1, hm⟩ := Bs hm
 refine V_call call67 rfl rfl rfl rfl (Tryz_sf67 (Dw := Dw) call68 (fun w7 ht8 h9 p11 q14 c12 c15 c17 h13 h16 h10 => by obtain ⟨rfl, _⟩ := Rep_know_Hit h13; obtain ⟨rfl, _⟩ := Rep_know_Hit h16; exact (know_ranked_1_c (Dw := True) w7 h9 p11 q14 h10).mono fun _ _ h => ⟨h.1, h.2⟩) hH (i := 0) rfl hB hA hx1) ?_
 rintro _ w2 ⟨rfl, hH3, ht4⟩
 replace hK := Tt hK ht4; replace hB := Bx hB ht4; replace hA := ht4.new
 replace hH : Hp _ _ _ (o_55 v_l x1 :: L) := hH3
 refine To ?_
 refine Sr (Mm (Mm (Mm (Vy (Y_lenSl (Hp.any (α := know_Hit) (e := 55) (v := v_l) (l := x1) hH (i := 0) rfl) rfl underlying39 rfl) (Vy (Y_min2 rfl rfl) ?_)))))
 obtain ⟨A18, ht19, h20, hH21⟩ := Hp.freeze (Dw := Dw) (α := know_Hit) (v := v_l) (l := x1) hH (i := 0) rfl hA
 replace hK := Tt hK ht19; replace hB := Bx hB ht19; replace hA := ht19.new
 replace hH : Hp _ _ _ (L) := hH21
 obtain ⟨x23, hx23, hm⟩ := Bs hm
 obtain ⟨v24, h25, h25y⟩ := sliceL_val hx23 h20
 refine Vy (Y_sliceLH h25y underlying39 sizeOf55 rfl rfl) ?_
 obtain ⟨x26, hx26, hm⟩ := Bs hm
 refine Vc call69 (slices_Clone_Lknow_Hit_know_Hit_c (Dw := Dw) w2 hA x23 v24 h25 hx26) ?_
 rintro v27 w29 ⟨_, rfl, h28, hk30⟩
 obtain ⟨A31, ht32, hH33⟩ := Hp.addOwnd (Dw := Dw) hH hB hA hk30 h28
 replace hK := Tt hK ht32
 replace hH : Hp _ _ _ (o_55 v27 x26 :: L) := hH33
 refine As (To ?_)
 obtain rfl := Oi hm
 refine Rt (Res.one results35 rfl) ?_
 exact ⟨v27, A31, rfl, hH, hK⟩
theorem know_Search_c (w : World) {A : Nat → Prop} (hA : ∀ b, w.heap.size ≤ b → A b) (x : know_Index) (v_x0 : Value) (h_x0 : Sl A w v_x0 x.ids) (v_x1 : Value) (h_x1 : Sl A w v_x1 x.sizes) (v_x2 : Value) (h_x2 : Sl A w v_x2 x.terms) (q : know_Query) (v_q : Value) (h_q : Sl A w v_q q.parts) (most : Int) {r : ((List know_Hit) × Int)} (hm : know_Search x q most = some r) : Ret prog 11 #[.agg #[v_x0, v_x1, v_x2], .agg #[v_q], Ii most] w fun v w' => ∃ s0, v = .tuple #[s0, Ii r.2] ∧ Ownd 55 w w' s0 r.1 ∧ Kp False w w' := by
 unfold know_Search at hm
 refine enter func11 rfl ntmps11 rfl ?_
 have hA0 := hA
 obtain ⟨hB, hK, hH⟩ := St (Dw := False) hA
 refine Sr ?_
 refine V_box rfl rfl ?_
 intro b9 w10 h11
 have hk13 := h11.kp (Dw := False)
 have h12 : El (α := know_Index) A w10 b9 0 x := h11.el hA ⟨[v_x0], _, rfl, ⟨_, rfl, h_x0⟩, ⟨[v_x1], _, rfl, ⟨_, rfl, h_x1⟩, ⟨_, rfl, h_x2⟩⟩⟩
 have ht14 := Kp.tr hk13 hA hB; replace hH := Hp.kp hH hk13; replace h_q := Sl.tr h_q ht14; replace hK := Tt hK ht14; replace hB := Bx hB ht14; replace hA := ht14.new
 refine V_box rfl rfl ?_
 intro b15 w17 h18
 have hk20 := h18.kp (Dw := False)
 have h19 : El (α := know_Query) A w17 b15 0 q := h18.el hA ⟨_, rfl, h_q⟩
 have ht21 := Kp.tr hk20 hA hB; replace hH := Hp.kp hH hk20; replace h12 := El.tr h12 ht21; replace hK := Tt hK ht21; replace hB := Bx hB ht21; replace hA := ht21.new
 refine As (As (To ?_))
 refine C_seq (Sr ?_)
 obtain ⟨v22, v24, v26, h28, h23, h25, h27⟩ := El_know_Index h12
 refine Vy (Y_loadA h28 isAgg47 sizeOf47 rfl) ?_
 obtain ⟨x29, hx29, hm⟩ := Bs hm
 refine Vc call28 (know_CheckIndex_c (Dw := False) w17 hA x v22 h23 v24 h25 v26 h27 hx29) ?_
 rintro _ w30 ⟨rfl, hk31⟩
 have ht32 := Kp.tr hk31 hA hB; replace hH := Hp.kp hH hk31; replace h12 := El.tr h12 ht32; replace h19 := El.tr h19 ht32; replace hK := Tt hK ht32; replace hB := Bx hB ht32; replace hA := ht32.new
 refine As (To ?_)
 refine Sr (Mm (Vy (Y_neq rfl rfl) (To ?_)))
 refine Cc (fun hc33 => ?_) fun hc33 => ?_
 ·rw [if_pos hc33] at hm
  refine Sr (Mm (As (As (To ?_))))
  obtain rfl := Oi hm
  replace hH : Hp w.heap.size A w30 (o_55 (.slice none 0 0) ([] : (List know_Hit)) :: []) := Hp.addNil (α := know_Hit) (e := 55) hH
  refine Rt (Res.two results11 rfl rfl) ?_
  exact ⟨.slice none 0 0, rfl, (Hp.ownd hH (i := 0) rfl), hK.kp⟩
 rw [if_neg (nt hc33)] at hm
 refine Sk ?_
 refine C_seq (Sr ?_)
 obtain ⟨v34, h36, h35⟩ := El_know_Query h19
 refine Vy (Y_loadA h36 isAgg27 sizeOf27 rfl) ?_
 obtain ⟨x37, hx37, hm⟩ := Bs hm
 refine Vc call29 (know_QueryText_c w30 hA q v34 h35 hx37) ?_
 rintro _ w38 ⟨rfl, hk39⟩
 have ht40 := Kp.tr hk39 hA hB; replace hH := Hp.kp hH hk39; replace h12 := El.tr h12 ht40; replace h19 := El.tr h19 ht40; replace hK := Tt hK ht40; replace hB := Bx hB ht40; replace hA := ht40.new
 refine Mm (Vy (Y_extract rfl rfl) (Vy (Y_extract rfl rfl) (As (As (To ?_)))))
 refine Sr (Mm (Vy (Y_neq rfl rfl) (To ?_)))
 refine Cc (fun hc41 => ?_) fun hc41 => ?_
 ·rw [if_pos hc41] at hm
  refine Sr (Mm (As (As (To ?_))))
  obtain rfl := Oi hm
  replace hH : Hp w.heap.size A w38 (o_55 (.slice none 0 0) ([] : (List know_Hit)) :: []) := Hp.addNil (α := know_Hit) (e := 55) hH
  refine Rt (Res.two results11 rfl rfl) ?_
  exact ⟨.slice none 0 0, rfl, (Hp.ownd hH (i := 0) rfl), hK.kp⟩
 rw [if_neg (nt hc41)] at hm
 refine Sk ?_
 refine C_seq (Sr (Mm ?_))
 refine Vc call21 (know_within_c w38 most 0 100) ?_
 rintro _ _ ⟨rfl, rfl⟩
 refine Vy (Y_not rfl) (To ?_)
 refine Cc (fun hc42 => ?_) fun hc42 => ?_
 ·rw [if_pos hc42] at hm
  refine Sr (As (As (To ?_)))
  obtain rfl := Oi hm
  replace hH : Hp w.heap.size A w38 (o_55 (.slice none 0 0) ([] : (List know_Hit)) :: []) := Hp.addNil (α := know_Hit) (e := 55) hH
  refine Rt (Res.two results11 rfl rfl) ?_
  exact ⟨.slice none 0 0, rfl, (Hp.ownd hH (i := 0) rfl), hK.kp⟩
 rw [if_neg (nt hc42)] at hm
 refine Sk ?_
 refine C_seq (Sr ?_)
 have h43 := El_know_Query_0 h19
 refine Fa underlying27 rfl sizeOf25 ?_
 obtain ⟨v44, h45, h46⟩ := El.list h43
 refine Ld h45 isAgg25 ?_
 obtain ⟨x48, hx48, hm⟩ := Bs hm
 refine Vc call30 (slices_ContainsFunc_Lknow_Part_know_Part_c (Dw := False) w38 hA q.parts v44 h46 (fun y58 => know_Search_1 y58) 31 #[] #[] call31 (fun w54 A55 ht56 h57 y49 v50 h51 r52 h53 => (know_Search_1_c (Dw := False) w54 h57 y49 v50 h51  h53).mono (fun _ _ h => ⟨h.1, h.2⟩)) hx48) ?_
 rintro _ w59 ⟨rfl, hk60⟩
 have ht61 := Kp.tr hk60 hA hB; replace hH := Hp.kp hH hk60; replace h12 := El.tr h12 ht61; replace h19 := El.tr h19 ht61; replace hK := Tt hK ht61; replace hB := Bx hB ht61; replace hA := ht61.new
 refine Vy (Y_not rfl) (To ?_)
 refine Cc (fun hc62 => ?_) fun hc62 => ?_
 ·rw [if_pos hc62] at hm
  refine Sr (As (As (To ?_)))
  obtain rfl := Oi hm
  replace hH : Hp w.heap.size A w59 (o_55 (.slice none 0 0) ([] : (List know_Hit)) :: []) := Hp.addNil (α := know_Hit) (e := 55) hH
  refine Rt (Res.two results11 rfl rfl) ?_
  exact ⟨.slice none 0 0, rfl, (Hp.ownd hH (i := 0) rfl), hK.kp⟩
 rw [if_neg (nt hc62)] at hm
 refine Sk ?_
 refine Sr (As (To ?_))
 refine C_seq (Sr ?_)
 have h63 := El_know_Query_0 h19
 refine Fa underlying27 rfl sizeOf25 ?_
 obtain ⟨v64, h65, h66⟩ := El.list h63
 refine Ld h65 isAgg25 (Vy (Y_lenSl h66 rfl underlying25 rfl) (Mm (To ?_)))
 replace hH : Hp w.heap.size A w59 (obS (α := (List know_Term)) 45 (.slice none 0 0) ([] : (List (List know_Term))) :: []) := Hp.addNil (α := (List know_Term)) (e := 45) hH
 have hn91 := Sl.le h66
 obtain ⟨o67, ho67, hm⟩ := Bs hm
 refine C_cutG (ι := ((List (List know_Term)) × Value × (Nat → Prop))) (fun ⟨s68, v74, A76⟩ => [(2, Ii most), (3, Pt b9), (4, Pt b15), (11, v74)]) (fun ⟨s68, v74, A76⟩ => fun w' => o67 = .fin s68 ∧ Hp w.heap.size A76 w' (obS (α := (List know_Term)) 45 v74 s68 :: []) ∧ Tr False w.heap.size A w59 A76 w') ?_ ?_
 ·refine C_block ?_
  refine C_range ho67 (fun k70 s78 a w' => ∃ i : (Value × (Nat → Prop)), Has ⟨117, [], none⟩ a ([(2, Ii most), (3, Pt b9), (4, Pt b15), (11, i.1), (44, v64), (45, Ii (q.parts.length : Int)), (46, Ii (k70 : Int))]) ∧ Hp w.heap.size i.2 w' (obS (α := (List know_Term)) 45 i.1 s78 :: []) ∧ Tr False w.heap.size A w59 i.2 w') (fun a ha => ⟨(.slice none 0 0, A), ha.sb, ⟨hH, Tr.refl (Dw := False) hA⟩⟩) ?_
  rintro K k70 s78 a w79 ⟨⟨v80, A82⟩, ha149, hH83, hr69⟩ hle87 K90 h89
  refine C_of ?_ ha149
  replace h12 := El.tr h12 hr69; replace h66 := Sl.tr h66 hr69; replace hB := Bx hB hr69; replace hA := hr69.new
  replace hH : Hp _ _ _ (obS (α := (List know_Term)) 45 v80 s78 :: []) := hH83
  refine Sr (Vy (Y_lss rfl rfl) (To ?_))
  refine C_seq ?_
  refine Cc (fun hc92 => ?_) fun hc92 => ?_
  ·have hlt88 := lt_of_dec hc92
   obtain ⟨x84, h85, h86⟩ := K90 hlt88
   refine Sk ?_
   refine C_seq (C_block (Sr ?_))
   obtain ⟨x93, hx93, h85⟩ := Bs h85
   refine V_indexAddr h66 hx93 underlying25 sizeOf68 rfl rfl rfl ?_
   intro b94 o95 h96
   obtain ⟨v97, h99, h98⟩ := El_know_Part h96
   refine Vy (Y_loadA h99 isAgg68 sizeOf68 rfl) ?_
   refine V_alloc zeroValue68 rfl ?_
   intro b100 w101 h102
   have h107 : (v97).oneCell' = true := by obtain ⟨_, _, e, _⟩ := Sl.form h98; rw [e]; rfl
   refine Sn h102 sizeOf68 ?_
   intro w103 h104
   have hk109 := h104.kp (Dw := False)
   have h108 : El (α := know_Part) A82 w103 b100 0 x93 := h104.el hA ⟨[Ii x93.kind], _, rfl, rfl, ⟨[.bool x93.not_], _, rfl, rfl, ⟨_, rfl, h98⟩⟩⟩
   have ht110 := Kp.tr hk109 hA hB; replace hH := Hp.kp hH hk109; replace h12 := El.tr h12 ht110; replace hr69 := Tt hr69 ht110; replace hB := Bx hB ht110; replace hA := ht110.new
   refine To ?_
   refine C_region (Mm ?_)
   obtain ⟨v111, v113, v115, h117, h112, h114, h116⟩ := El_know_Index h12
   refine Vy (Y_loadA h117 isAgg47 sizeOf47 rfl) ?_
   obtain ⟨v118, h120, h119⟩ := El_know_Part h108
   refine Vy (Y_loadA h120 isAgg68 sizeOf68 rfl) ?_
   obtain ⟨x121, hx121, h85⟩ := Bs h85
   refine Vc call32 (know_Index_named_c (Dw := False) w103 hB hA x v111 h112 v113 h114 v115 h116 x93 v118 h119 hH hx121) ?_
   rintro v122 w124 ⟨_, A125, rfl, hH126, ht127⟩
   replace hr69 := Tt hr69 ht127; replace hB := Bx hB ht127; replace hA := ht127.new
   replace hH : Hp _ _ _ (o_90 v122 x121 :: obS (α := (List know_Term)) 45 v80 s78 :: []) := hH126
   obtain ⟨A128, ht129, h130, hH131⟩ := Hp.freeze (Dw := False) (α := know_Term) (v := v122) (l := x121) hH (i := 0) rfl hA
   replace hr69 := Tt hr69 ht129; replace hB := Bx hB ht129; replace hA := ht129.new
   replace hH : Hp _ _ _ (obS (α := (List know_Term)) 45 v80 s78 :: []) := hH131
   refine V_buildSlice (Dw := False) (cells := #[v122]) (l := ([x121] : List (List know_Term))) (len := 1) underlying85 sizeOf45 zeroValue45 rfl (by obtain ⟨a137, c138, e139, _⟩ := Sl.form h130; subst e139; kernel_rfl) (show (1 * 1 : Nat) ≠ 0 by decide) (show (1 * 1 : Nat) ≤ 2 ^ 24 by decide) hA ⟨[v122], _, rfl, ⟨_, rfl, h130⟩, rfl⟩ rfl rfl ?_
   intro v133 w134 hk136 h135
   have ht140 := Kp.tr hk136 hA hB; replace hH := Hp.kp hH hk136; replace hr69 := Tt hr69 ht140; replace hB := Bx hB ht140; replace hA := ht140.new
   obtain ⟨x141, hx141, h85⟩ := Bs h85
   refine V_appendH (Dw := False) (e := 45) (v := v80) (l := s78) (ti := t45) (bytes := 24) (lim := 5864062014805) hH (i := 0) rfl h135 hx141 underlying85 Tryz_info45 rfl rfl rfl rfl (by decide) (by decide) (by decide) hB hA rfl rfl rfl ?_
   intro v142 w143 A144 hH145 ht146
   replace hr69 := Tt hr69 ht146
   replace hH : Hp _ _ _ (obS (α := (List know_Term)) 45 v142 x141 :: []) := hH145
   refine As (To ?_)
   refine C_region (Vy (Y_addI rfl rfl) (Mm ?_))
   obtain rfl := Oi h85
   refine V_end (fun a ha147 => ?_)
   exact ⟨x141, hlt88, h86, ⟨(v142, A144), ha147.sub ⟨rfl, rfl, rfl, rfl, rfl, rfl, Ws hlt88 hn91, trivial⟩, ⟨hH, hr69⟩⟩⟩
  refine C_exit (fun a ha148 => ?_)
  exact ⟨(s78, v80, A82), ha148.sb, ⟨(h89 (eq_of_dec hle87 hc92)).symm, hH, hr69⟩⟩
 rintro ⟨s68, v74, A76⟩ w71 ⟨rfl, hH77, hk72⟩ a ha73
 rw [Lp.andThen_fin] at hm
 replace h12 := El.tr h12 hk72; replace h19 := El.tr h19 hk72; replace hK := Tr.trans hK hk72; replace hB := Nat.le_trans hB hk72.ex.size; replace hA := hk72.new
 replace hH : Hp _ _ _ (obS (α := (List know_Term)) 45 v74 s68 :: []) := hH77
 refine C_at (n := ⟨117, [], none⟩) (fun _ _ => rfl) ?_ ha73
 refine Sr (As (To ?_))
 refine C_seq (Sr ?_)
 have h150 := El_know_Index_0 h12
 refine Fa underlying47 rfl sizeOf23 ?_
 obtain ⟨v151, h152, h153⟩ := El.list h150
 refine Ld h152 isAgg23 (Vy (Y_lenSl h153 rfl underlying23 rfl) (Mm (To ?_)))
 obtain ⟨A154, ht155, h156, hH157⟩ := Hp.freeze (Dw := False) (α := (List know_Term)) (v := v74) (l := s68) hH (i := 0) rfl hA
 replace h12 := El.tr h12 ht155; replace h19 := El.tr h19 ht155; replace h153 := Sl.tr h153 ht155; replace hK := Tt hK ht155; replace hB := Bx hB ht155; replace hA := ht155.new; replace hH := hH157
 replace hH : Hp w.heap.size A154 w71 (o_55 (.slice none 0 0) ([] : (List know_Hit)) :: []) := Hp.addNil (α := know_Hit) (e := 55) hH
 have hn183 := Sl.le h153
 obtain ⟨o159, ho159, hm⟩ := Bs hm
 refine C_cutG (ι := ((List know_Hit) × Value × (Nat → Prop))) (fun ⟨s160, v166, A168⟩ => [(2, Ii most), (14, v166)]) (fun ⟨s160, v166, A168⟩ => fun w' => o159 = .fin s160 ∧ Hp w.heap.size A168 w' (o_55 v166 s160 :: []) ∧ Tr False w.heap.size A154 w71 A168 w') ?_ ?_
 ·refine C_block ?_
  refine C_range ho159 (fun k162 s170 a w' => ∃ i : (Value × (Nat → Prop)), Has ⟨117, [], none⟩ a ([(2, Ii most), (3, Pt b9), (4, Pt b15), (11, v74), (14, i.1), (58, v151), (59, Ii (x.ids.length : Int)), (60, Ii (k162 : Int))]) ∧ Hp w.heap.size i.2 w' (o_55 i.1 s170 :: []) ∧ Tr False w.heap.size A154 w71 i.2 w') (fun a ha => ⟨(.slice none 0 0, A154), ha.sb, ⟨hH, Tr.refl (Dw := False) hA⟩⟩) ?_
  rintro K k162 s170 a w171 ⟨⟨v172, A174⟩, ha373, hH175, hr161⟩ hle179 K182 h181
  refine C_of ?_ ha373
  replace h12 := El.tr h12 hr161; replace h19 := El.tr h19 hr161; replace h156 := Sl.tr h156 hr161; replace h153 := Sl.tr h153 hr161; replace hB := Bx hB hr161; replace hA := hr161.new
  replace hH : Hp _ _ _ (o_55 v172 s170 :: []) := hH175
  refine Sr (Vy (Y_lss rfl rfl) (To ?_))
  refine C_seq ?_
  refine Cc (fun hc184 => ?_) fun hc184 => ?_
  ·have hlt180 := lt_of_dec hc184
   obtain ⟨x176, h177, h178⟩ := K182 hlt180
   refine Sk ?_
   refine C_seq ?_
   obtain ⟨s186, ho185, h177⟩ := Bs h177
   refine C_cutG (ι := (Value × (Nat → Prop))) (fun ⟨v188, A193⟩ => [(2, Ii most), (3, Pt b9), (4, Pt b15), (11, v74), (14, v188), (58, v151), (59, Ii (x.ids.length : Int)), (60, Ii (k162 : Int))]) (fun ⟨v188, A193⟩ => fun w' => Hp w.heap.size A193 w' (o_55 v188 s186 :: []) ∧ Tr False w.heap.size A174 w171 A193 w') ?_ ?_
   ·have hr187 : Tr False w.heap.size A174 w171 A174 w171 := Tr.refl (Dw := False) hA
    refine C_block (Sr (Mm ?_))
    obtain ⟨x195, hx195, ho185⟩ := Bs ho185
    refine V_indexAddr h153 hx195 underlying23 sizeOf3 rfl rfl rfl ?_
    intro b196 o197 h198
    refine Li h198 isAgg3 (As (As (To ?_)))
    refine Sr (As (As (To ?_)))
    refine C_seq (Sr ?_)
    have h199 := El_know_Query_0 h19
    refine Fa underlying27 rfl sizeOf25 ?_
    obtain ⟨v200, h201, h202⟩ := El.list h199
    refine Ld h201 isAgg25 (Vy (Y_lenSl h202 rfl underlying25 rfl) (Mm (To ?_)))
    have hn223 := Sl.le h202
    obtain ⟨o203, ho203, ho185⟩ := Bs ho185
    refine C_cutG (ι := ((Bool × Int) × (Nat → Prop))) (fun ⟨s204, A210⟩ => [(2, Ii most), (3, Pt b9), (4, Pt b15), (11, v74), (14, v172), (16, Ii x195), (17, .bool s204.1), (18, Ii s204.2), (58, v151), (59, Ii (x.ids.length : Int)), (60, Ii (k162 : Int))]) (fun ⟨s204, A210⟩ => fun w' => o203 = .fin s204 ∧ Hp w.heap.size A210 w' (o_55 v172 s170 :: []) ∧ Tr False w.heap.size A174 w171 A210 w') ?_ ?_
    ·refine C_block ?_
     refine C_range ho203 (fun k206 s212 a w' => ∃ i : (Nat → Prop), Has ⟨117, [], none⟩ a ([(2, Ii most), (3, Pt b9), (4, Pt b15), (11, v74), (14, v172), (15, Ii (k162 : Int)), (16, Ii x195), (17, .bool s212.1), (18, Ii s212.2), (58, v151), (59, Ii (x.ids.length : Int)), (60, Ii (k162 : Int)), (66, v200), (67, Ii (q.parts.length : Int)), (68, Ii (k206 : Int))]) ∧ Hp w.heap.size i w' (o_55 v172 s170 :: []) ∧ Tr False w.heap.size A174 w171 i w') (fun a ha => ⟨A174, ha.sb, ⟨hH, Tr.refl (Dw := False) hA⟩⟩) ?_
     rintro K k206 s212 a w213 ⟨A214, ha345, hH215, hr205⟩ hle219 K222 h221
     refine C_of ?_ ha345
     replace h12 := El.tr h12 hr205; replace h156 := Sl.tr h156 hr205; replace h202 := Sl.tr h202 hr205; replace hB := Bx hB hr205; replace hA := hr205.new
     replace hH : Hp _ _ _ (o_55 v172 s170 :: []) := hH215
     refine Sr (Vy (Y_lss rfl rfl) (To ?_))
     refine C_seq ?_
     refine Cc (fun hc224 => ?_) fun hc224 => ?_
     ·have hlt220 := lt_of_dec hc224
      obtain ⟨x216, h217, h218⟩ := K222 hlt220
      refine Sk ?_
      refine C_seq ?_
      obtain ⟨s226, ho225, h217⟩ := Bs h217
      refine C_cutG (ι := (Nat → Prop)) (fun (A231 : (Nat → Prop)) => [(2, Ii most), (3, Pt b9), (4, Pt b15), (11, v74), (14, v172), (15, Ii (k162 : Int)), (16, Ii x195), (17, .bool s226.1), (18, Ii s226.2), (58, v151), (59, Ii (x.ids.length : Int)), (60, Ii (k162 : Int)), (66, v200), (67, Ii (q.parts.length : Int)), (68, Ii (k206 : Int))]) (fun (A231 : (Nat → Prop)) => fun w' => Hp w.heap.size A231 w' (o_55 v172 s170 :: []) ∧ Tr False w.heap.size A214 w213 A231 w') ?_ ?_
      ·have hr227 : Tr False w.heap.size A214 w213 A214 w213 := Tr.refl (Dw := False) hA
       refine C_block (Sr (Mm ?_))
       obtain ⟨x233, hx233, ho225⟩ := Bs ho225
       refine V_indexAddr h202 hx233 underlying25 sizeOf68 rfl rfl rfl ?_
       intro b234 o235 h236
       obtain ⟨v237, h239, h238⟩ := El_know_Part h236
       refine Vy (Y_loadA h239 isAgg68 sizeOf68 rfl) ?_
       refine V_alloc zeroValue68 rfl ?_
       intro b240 w241 h242
       refine As ?_
       have h247 : (v237).oneCell' = true := by obtain ⟨_, _, e, _⟩ := Sl.form h238; rw [e]; rfl
       refine Sn h242 sizeOf68 ?_
       intro w243 h244
       have hk249 := h244.kp (Dw := False)
       have h248 : El (α := know_Part) A214 w243 b240 0 x233 := h244.el hA ⟨[Ii x233.kind], _, rfl, rfl, ⟨[.bool x233.not_], _, rfl, rfl, ⟨_, rfl, h238⟩⟩⟩
       have ht250 := Kp.tr hk249 hA hB; replace hH := Hp.kp hH hk249; replace h12 := El.tr h12 ht250; replace h156 := Sl.tr h156 ht250; replace hr227 := Tt hr227 ht250; replace hB := Bx hB ht250; replace hA := ht250.new
       refine To ?_
       refine C_seq ?_
       refine C_region_q (Dw := False) Tryz_mixed (by kernel_rfl) ?_
       refine Qm (Qm ?_)
       obtain ⟨s252, hs252, ho225⟩ := Bs ho225
       refine VQ_cut 12 (fun _ : Unit => [(2, Ii most), (3, Pt b9), (4, Pt b15), (11, v74), (14, v172), (15, Ii (k162 : Int)), (16, Ii x195), (18, Ii s212.2), (19, Ii (k206 : Int)), (20, Pt b240), (58, v151), (59, Ii (x.ids.length : Int)), (60, Ii (k162 : Int)), (66, v200), (67, Ii (q.parts.length : Int)), (68, Ii (k206 : Int)), (86, .bool s252)]) (fun _ => True) ?_ ?_
       ·simp only [List.take, List.drop]
        rcases Be (s212.1) with hc251 | hc251
        ·rw [if_pos hc251] at hs252
         refine Qh hc251 ?_
         obtain ⟨v253, v255, v257, h259, h254, h256, h258⟩ := El_know_Index h12
         refine Qv (fun w' hw' => Y_loadA (At.kp h259 hw' h12.2.1) isAgg47 sizeOf47 rfl) (Qh hc251 ?_)
         obtain ⟨v260, h262, h261⟩ := El_know_Part h248
         refine Qv (fun w' hw' => Y_loadA (At.kp h262 hw' h248.2.1) isAgg68 sizeOf68 rfl) (Qh hc251 (Qm (Qh hc251 (Qm (Qh hc251 ?_)))))
         obtain ⟨x263, hx263, hs252⟩ := Bs hs252
         refine VQ_indexAddr h156 hx263 underlying85 sizeOf45 rfl rfl rfl ?_
         intro b264 o265 h266
         refine Qh hc251 ?_
         obtain ⟨v267, h268, h269⟩ := El.list h266
         refine Qc h268 isAgg45 (Qh hc251 (Qm (Qh hc251 ?_)))
         obtain ⟨x270, hx270, hs252⟩ := Bs hs252
         refine VQ_call (.bool x270) call33 rfl rfl rfl rfl (fun w' hw' => (know_Index_matches_c (Dw := False) w' (fun b hb => hA b (Nat.le_trans hw'.size hb)) x v253 (Sl.kp h254 hw') v255 (Sl.kp h256 hw') v257 (Sl.kp h258 hw') x233 v260 (Sl.kp h261 hw') x263 v267 (Sl.kp h269 hw') x195 hx270).mono (fun _ _ h => ⟨h.1, Kp.trans (Dw := False) hw' h.2⟩)) ?_
         refine Qh hc251 ?_
         have h271 := El_know_Part_1 h248
         refine Qf underlying68 rfl sizeOf4 (Qh hc251 (Ql (fun w' hw' => (El.bool (El.kp h271 hw'))) isAgg4 (Qh hc251 (Qv (fun w' hw' => Y_bneq underlying4 rfl rfl) ?_))))
         refine VQ_y (fun _ _ => Y_pick_te rfl hc251 rfl) rfl rfl rfl ?_
         obtain rfl := Oi hs252
         exact VQ_end fun a ha => ⟨(), ha.sb, trivial⟩
        rw [if_neg (nt hc251)] at hs252
        refine Qg hc251 (Qg hc251 (Qg hc251 (Qg hc251 (Qg hc251 (Qg hc251 (Qg hc251 (Qg hc251 (Qg hc251 (Qg hc251 ?_)))))))))
        refine Qg hc251 ?_
        refine VQ_y (fun _ _ => Y_pick_fe rfl hc251 rfl) rfl rfl rfl ?_
        obtain rfl := Oi hs252
        exact VQ_end fun a ha => ⟨(), ha.sb, trivial⟩
       simp only [List.take, List.drop]
       rintro _ _
       refine Qa ?_
       refine VQ_to (fun _ _ => rfl) (fun w272 hk273 => ?_)
       have ht274 := Kp.tr hk273 hA hB; replace hH := Hp.kp hH hk273; replace h12 := El.tr h12 ht274; replace h156 := Sl.tr h156 ht274; replace h248 := El.tr h248 ht274; replace hr227 := Tt hr227 ht274; replace hB := Bx hB ht274; replace hA := ht274.new
       refine C_seq (Sr ?_)
       have h275 := El_know_Part_1 h248
       refine Fa underlying68 rfl sizeOf4 (Ld (El.bool h275) isAgg4 (To ?_))
       refine Cc (fun hc276 => ?_) fun hc276 => ?_
       ·rw [if_pos hc276] at ho225
        obtain rfl := Oi ho225
        refine C_exit (fun a ha277 => ?_)
        exact ⟨A214, ha277.sb, ⟨hH, hr227⟩⟩
       rw [if_neg (nt hc276)] at ho225
       refine Sk ?_
       refine Sr (Mm (Mm ?_))
       obtain ⟨x278, hx278, ho225⟩ := Bs ho225
       refine V_indexAddr h156 hx278 underlying85 sizeOf45 rfl rfl rfl ?_
       intro b279 o280 h281
       obtain ⟨v282, h283, h284⟩ := El.list h281
       refine Ld h283 isAgg45 (Vy (Y_lenSl h284 rfl underlying45 rfl) (Mm (To ?_)))
       have hn305 := Sl.le h284
       obtain ⟨o285, ho285, ho225⟩ := Bs ho225
       refine C_cutG (ι := (Int × (Nat → Prop))) (fun ⟨s286, A292⟩ => [(2, Ii most), (3, Pt b9), (4, Pt b15), (11, v74), (14, v172), (15, Ii (k162 : Int)), (16, Ii x195), (17, .bool s252), (18, Ii s286), (58, v151), (59, Ii (x.ids.length : Int)), (60, Ii (k162 : Int)), (66, v200), (67, Ii (q.parts.length : Int)), (68, Ii (k206 : Int))]) (fun ⟨s286, A292⟩ => fun w' => o285 = .fin s286 ∧ Hp w.heap.size A292 w' (o_55 v172 s170 :: []) ∧ Tr False w.heap.size A214 w272 A292 w') ?_ ?_
       ·refine C_block ?_
        refine C_range ho285 (fun k288 s294 a w' => ∃ i : (Nat → Prop), Has ⟨117, [], none⟩ a ([(2, Ii most), (3, Pt b9), (4, Pt b15), (11, v74), (14, v172), (15, Ii (k162 : Int)), (16, Ii x195), (17, .bool s252), (18, Ii s294), (58, v151), (59, Ii (x.ids.length : Int)), (60, Ii (k162 : Int)), (66, v200), (67, Ii (q.parts.length : Int)), (68, Ii (k206 : Int)), (92, v282), (93, Ii (x278.length : Int)), (94, Ii (k288 : Int))]) ∧ Hp w.heap.size i w' (o_55 v172 s170 :: []) ∧ Tr False w.heap.size A214 w272 i w') (fun a ha => ⟨A214, ha.sb, ⟨hH, Tr.refl (Dw := False) hA⟩⟩) ?_
        rintro K k288 s294 a w295 ⟨A296, ha341, hH297, hr287⟩ hle301 K304 h303
        refine C_of ?_ ha341
        replace h12 := El.tr h12 hr287; replace h284 := Sl.tr h284 hr287; replace hB := Bx hB hr287; replace hA := hr287.new
        replace hH : Hp _ _ _ (o_55 v172 s170 :: []) := hH297
        refine Sr (Vy (Y_lss rfl rfl) (To ?_))
        refine C_seq ?_
        refine Cc (fun hc306 => ?_) fun hc306 => ?_
        ·have hlt302 := lt_of_dec hc306
         obtain ⟨x298, h299, h300⟩ := K304 hlt302
         refine Sk ?_
         refine C_seq (C_block (Sr ?_))
         obtain ⟨x307, hx307, h299⟩ := Bs h299
         refine V_indexAddr h284 hx307 underlying45 sizeOf90 rfl rfl rfl ?_
         intro b308 o309 h310
         obtain ⟨v311, h313, h312⟩ := El_know_Term h310
         refine Vy (Y_loadA h313 isAgg90 sizeOf90 rfl) ?_
         refine V_alloc zeroValue90 rfl ?_
         intro b314 w315 h316
         have h321 : (v311).oneCell' = true := by obtain ⟨_, _, e, _⟩ := Sl.form h312; rw [e]; rfl
         refine Sn h316 sizeOf90 ?_
         intro w317 h318
         have hk323 := h318.kp (Dw := False)
         have h322 : El (α := know_Term) A296 w317 b314 0 x307 := h318.el hA ⟨[.string x307.word], _, rfl, rfl, ⟨_, rfl, h312⟩⟩
         have ht324 := Kp.tr hk323 hA hB; replace hH := Hp.kp hH hk323; replace h12 := El.tr h12 ht324; replace hr287 := Tt hr287 ht324; replace hB := Bx hB ht324; replace hA := ht324.new
         refine To ?_
         refine C_region (Mm ?_)
         obtain ⟨v325, v327, v329, h331, h326, h328, h330⟩ := El_know_Index h12
         refine Vy (Y_loadA h331 isAgg47 sizeOf47 rfl) ?_
         obtain ⟨v332, h334, h333⟩ := El_know_Term h322
         refine Vy (Y_loadA h334 isAgg90 sizeOf90 rfl) (Mm ?_)
         obtain ⟨x335, hx335, h299⟩ := Bs h299
         refine Vc call34 (know_Index_score_c (Dw := False) w317 hA x v325 h326 v327 h328 v329 h330 x307 v332 h333 (k162 : Int) hx335) ?_
         rintro _ w336 ⟨rfl, hk337⟩
         have ht338 := Kp.tr hk337 hA hB; replace hH := Hp.kp hH hk337; replace hr287 := Tt hr287 ht338
         refine Vy (Y_addI rfl rfl) (As (To ?_))
         refine C_region (Vy (Y_addI rfl rfl) (Mm ?_))
         obtain rfl := Oi h299
         refine V_end (fun a ha339 => ?_)
         exact ⟨w64 (s294 + x335), hlt302, h300, ⟨A296, ha339.sub ⟨rfl, rfl, rfl, rfl, rfl, rfl, rfl, rfl, rfl, rfl, rfl, rfl, rfl, rfl, rfl, rfl, rfl, Ws hlt302 hn305, trivial⟩, ⟨hH, hr287⟩⟩⟩
        refine C_exit (fun a ha340 => ?_)
        exact ⟨(s294, A296), ha340.sb, ⟨(h303 (eq_of_dec hle301 hc306)).symm, hH, hr287⟩⟩
       rintro ⟨s286, A292⟩ w289 ⟨rfl, hH293, hk290⟩ a ha291
       rw [Lp.andThen_fin] at ho225
       replace hr227 := Tr.trans hr227 hk290; replace hA := hk290.new
       replace hH : Hp _ _ _ (o_55 v172 s170 :: []) := hH293
       obtain rfl := Oi ho225
       exact ⟨A292, ha291.sb, ⟨hH, hr227⟩⟩
      rintro A231 w228 ⟨hH232, hk229⟩ a ha230
      replace hr205 := Tr.trans hr205 hk229; replace hA := hk229.new
      replace hH : Hp _ _ _ (o_55 v172 s170 :: []) := hH232
      refine C_at (n := ⟨117, [], none⟩) (fun _ _ => rfl) ?_ ha230
      refine C_region (Vy (Y_addI rfl rfl) (Mm ?_))
      obtain rfl := Oi h217
      refine V_end (fun a ha343 => ?_)
      exact ⟨(s226.1, s226.2), hlt220, h218, ⟨A231, ha343.sub ⟨rfl, rfl, rfl, rfl, rfl, rfl, rfl, rfl, rfl, rfl, rfl, rfl, rfl, rfl, Ws hlt220 hn223, trivial⟩, ⟨hH, hr205⟩⟩⟩
     refine C_exit (fun a ha344 => ?_)
     exact ⟨((s212.1, s212.2), A214), ha344.sb, ⟨(h221 (eq_of_dec hle219 hc224)).symm, hH, hr205⟩⟩
    rintro ⟨s204, A210⟩ w207 ⟨rfl, hH211, hk208⟩ a ha209
    rw [Lp.andThen_fin] at ho185
    replace hr187 := Tr.trans hr187 hk208; replace hB := Nat.le_trans hB hk208.ex.size; replace hA := hk208.new
    replace hH : Hp _ _ _ (o_55 v172 s170 :: []) := hH211
    refine C_at (n := ⟨117, [], none⟩) (fun _ _ => rfl) ?_ ha209
    refine Sr (Mm (To ?_))
    obtain ⟨s347, ho346, ho185⟩ := Bs ho185
    refine C_cutG (ι := (Value × (Nat → Prop))) (fun ⟨v349, A354⟩ => [(2, Ii most), (3, Pt b9), (4, Pt b15), (11, v74), (14, v349), (58, v151), (59, Ii (x.ids.length : Int)), (60, Ii (k162 : Int))]) (fun ⟨v349, A354⟩ => fun w' => Hp w.heap.size A354 w' (o_55 v349 s347 :: []) ∧ Tr False w.heap.size A210 w207 A354 w') ?_ ?_
    ·have hr348 : Tr False w.heap.size A210 w207 A210 w207 := Tr.refl (Dw := False) hA
     refine Cc (fun hc356 => ?_) fun hc356 => ?_
     ·rw [if_pos hc356] at ho346
      refine C_region (Mm (Mm (Mm ?_)))
      refine Vy (Y_build underlying55 zeroValue55 (Tryz_places55 _ underlying55) rfl (by with_unfolding_all rfl)) ?_
      refine V_buildSlice (Dw := False) (cells := #[Ii x195, Ii s204.2]) (l := ([(⟨x195, s204.2⟩ : know_Hit)] : List know_Hit)) (len := 1) underlying39 sizeOf55 zeroValue55 rfl (by kernel_rfl) (show (1 * 2 : Nat) ≠ 0 by decide) (show (1 * 2 : Nat) ≤ 2 ^ 24 by decide) hA ⟨[Ii x195, Ii s204.2], _, rfl, ⟨[Ii x195], _, rfl, rfl, rfl⟩, rfl⟩ rfl rfl ?_
      intro v357 w358 hk360 h359
      have ht361 := Kp.tr hk360 hA hB; replace hH := Hp.kp hH hk360; replace hr348 := Tt hr348 ht361; replace hB := Bx hB ht361; replace hA := ht361.new
      obtain ⟨x362, hx362, ho346⟩ := Bs ho346
      refine V_appendH (Dw := False) (e := 55) (v := v172) (l := s170) (ti := t55) (bytes := 16) (lim := 8796093022208) hH (i := 0) rfl h359 hx362 underlying39 Tryz_info55 rfl rfl rfl rfl (by decide) (by decide) (by decide) hB hA rfl rfl rfl ?_
      intro v363 w364 A365 hH366 ht367
      replace hr348 := Tt hr348 ht367
      replace hH : Hp _ _ _ (o_55 v363 x362 :: []) := hH366
      refine As ?_
      obtain rfl := Oi ho346
      refine V_end (fun a ha368 => ?_)
      exact ⟨(v363, A365), ha368.sb, ⟨hH, hr348⟩⟩
     rw [if_neg (nt hc356)] at ho346
     obtain rfl := Oi ho346
     refine C_skip (fun a ha369 => ?_)
     exact ⟨(v172, A210), ha369.sb, ⟨hH, hr348⟩⟩
    rintro ⟨v349, A354⟩ w351 ⟨hH355, hk352⟩ a ha353
    replace hr187 := Tr.trans hr187 hk352; replace hA := hk352.new
    replace hH : Hp _ _ _ (o_55 v349 s347 :: []) := hH355
    obtain rfl := Oi ho185
    exact ⟨(v349, A354), ha353.sb, ⟨hH, hr187⟩⟩
   rintro ⟨v188, A193⟩ w190 ⟨hH194, hk191⟩ a ha192
   replace hr161 := Tr.trans hr161 hk191; replace hA := hk191.new
   replace hH : Hp _ _ _ (o_55 v188 s186 :: []) := hH194
   refine C_at (n := ⟨117, [], none⟩) (fun _ _ => rfl) ?_ ha192
   refine C_region (Vy (Y_addI rfl rfl) (Mm ?_))
   obtain rfl := Oi h177
   refine V_end (fun a ha371 => ?_)
   exact ⟨s186, hlt180, h178, ⟨(v188, A193), ha371.sub ⟨rfl, rfl, rfl, rfl, rfl, rfl, rfl, Ws hlt180 hn183, trivial⟩, ⟨hH, hr161⟩⟩⟩
  refine C_exit (fun a ha372 => ?_)
  exact ⟨(s170, v172, A174), ha372.sb, ⟨(h181 (eq_of_dec hle179 hc184)).symm, hH, hr161⟩⟩
 rintro ⟨s160, v166, A168⟩ w163 ⟨rfl, hH169, hk164⟩ a ha165
 rw [Lp.andThen_fin] at hm
 replace hK := Tr.trans hK hk164; replace hB := Nat.le_trans hB hk164.ex.size; replace hA := hk164.new
 replace hH : Hp _ _ _ (o_55 v166 s160 :: []) := hH169
 refine C_at (n := ⟨117, [], none⟩) (fun _ _ => rfl) ?_ ha165
 refine Sr (Mm (Mm ?_))
 obtain ⟨x374, hx374, hm⟩ := Bs hm
 refine Vc call35 (know_ranked_c (Dw := False) w163 hB hA s160 v166 most hH hx374) ?_
 rintro v375 w377 ⟨_, A378, rfl, hH379, ht380⟩
 replace hK := Tt hK ht380
 replace hH : Hp _ _ _ (o_55 v375 x374 :: []) := hH379
 refine As (As (To ?_))
 obtain rfl := Oi hm
 refine Rt (Res.two results11 rfl rfl) ?_
 exact ⟨v375, rfl, (Hp.ownd hH (i := 0) rfl), hK.kp⟩
theorem know_Suggest_1_c (w : World) {A : Nat → Prop} (hA : ∀ b, w.heap.size ≤ b → A b) (a_ : know_Term) (v_a_ : Value) (h_a_ : Sl A w v_a_ a_.list_) (b : know_Term) (v_b : Value) (h_b : Sl A w v_b b.list_) {r : Int} (hm : know_Suggest_1 a_ b = some r) : Ret prog 37 #[.agg #[.string a_.word, v_a_], .agg #[.string b.word, v_b]] w fun v w' => v = Ii r ∧ Kp Dw w w' := by
 unfold know_Suggest_1 at hm
 refine enter func37 rfl ntmps37 rfl ?_
 have hA0 := hA
 obtain ⟨hB, hK, hH⟩ := St (Dw := Dw) hA
 refine Sr ?_
 refine V_box rfl rfl ?_
 intro b5 w6 h7
 have hk9 := h7.kp (Dw := Dw)
 have h8 : El (α := know_Term) A w6 b5 0 a_ := h7.el hA ⟨[.string a_.word], _, rfl, rfl, ⟨_, rfl, h_a_⟩⟩
 have ht10 := Kp.tr hk9 hA hB; replace h_b := Sl.tr h_b ht10; replace hK := Tt hK ht10; replace hB := Bx hB ht10; replace hA := ht10.new
 refine V_box rfl rfl ?_
 intro b11 w12 h13
 have hk15 := h13.kp (Dw := Dw)
 have h14 : El (α := know_Term) A w12 b11 0 b := h13.el hA ⟨[.string b.word], _, rfl, rfl, ⟨_, rfl, h_b⟩⟩
 have ht16 := Kp.tr hk15 hA hB; replace h8 := El.tr h8 ht16; replace hK := Tt hK ht16; replace hB := Bx hB ht16; replace hA := ht16.new
 refine As (To ?_)
 refine C_seq ?_
 refine C_region_qt (Dw := Dw) 10 Tryz_mixed (by kernel_rfl) ?_
 simp only [List.take, List.drop]
 have h17 := El_know_Term_1 h8
 refine Qf underlying90 rfl sizeOf88 ?_
 obtain ⟨v18, h19, h20⟩ := El.list h17
 refine Qc h19 isAgg88 (Qv (fun w' hw' => Y_lenSl h20 rfl underlying88 rfl) ?_)
 have h21 := El_know_Term_1 h14
 refine Qf underlying90 rfl sizeOf88 ?_
 obtain ⟨v22, h23, h24⟩ := El.list h21
 refine Qc h23 isAgg88 (Qv (fun w' hw' => Y_lenSl h24 rfl underlying88 rfl) ?_)
 refine VQ_call (Ii (cmp_Compare_int (a_.list_.length : Int) (b.list_.length : Int))) call39 rfl rfl rfl rfl (fun w' hw' => (cmp_Compare_int_c w' (a_.list_.length : Int) (b.list_.length : Int)).mono (fun _ _ h => ⟨h.1, h.2 ▸ hw'⟩)) ?_
 obtain ⟨v25, h27, h26⟩ := El_know_Term h8
 refine Qv (fun w' hw' => Y_loadA (At.kp h27 hw' h8.2.1) isAgg90 sizeOf90 rfl) ?_
 obtain ⟨v28, h30, h29⟩ := El_know_Term h14
 refine Qv (fun w' hw' => Y_loadA (At.kp h30 hw' h14.2.1) isAgg90 sizeOf90 rfl) ?_
 obtain ⟨x31, hx31, hm⟩ := Bs hm
 refine VQ_call (Ii x31) call40 rfl rfl rfl rfl (fun w' hw' => (know_byWord_c (Dw := Dw) w' (fun b hb => hA b (Nat.le_trans hw'.size hb)) a_ v25 (Sl.kp h26 hw') b v28 (Sl.kp h29 hw') hx31).mono (fun _ _ h => ⟨h.1, Kp.trans (Dw := Dw) hw' h.2⟩)) ?_
 refine VQ_tail (fun w33 hk34 => ?_)
 try simp only [List.take, List.drop]
 have ht35 := Kp.tr hk34 hA hB; replace hK := Tt hK ht35; replace hB := Bx hB ht35; replace hA := ht35.new
 refine V_buildSlice (Dw := Dw) (cells := #[Ii (cmp_Compare_int (a_.list_.length : Int) (b.list_.length : Int)), Ii x31]) (l := ([(cmp_Compare_int (a_.list_.length : Int) (b.list_.length : Int)), x31] : List Int)) (len := 2) underlying23 sizeOf3 zeroValue3 rfl (by generalize ((cmp_Compare_int (a_.list_.length : Int) (b.list_.length : Int)) : Int) = z40; kernel_rfl) (show (2 * 1 : Nat) ≠ 0 by decide) (show (2 * 1 : Nat) ≤ 2 ^ 24 by decide) hA ⟨[Ii (cmp_Compare_int (a_.list_.length : Int) (b.list_.length : Int))], _, rfl, rfl, ⟨[Ii x31], _, rfl, rfl, rfl⟩⟩ rfl rfl ?_
 intro v36 w37 hk39 h38
 have ht41 := Kp.tr hk39 hA hB; replace hK := Tt hK ht41
 obtain ⟨x42, hx42, hm⟩ := Bs hm
 refine Vc call38 (cmp_Or_int_c w37 ([(cmp_Compare_int (a_.list_.length : Int) (b.list_.length : Int)), x31] : List Int) v36 h38 hx42) ?_
 rintro _ _ ⟨rfl, rfl⟩
 refine As (To ?_)
 obtain rfl := Oi hm
 refine Rt (Res.one results37 rfl) ?_
 exact ⟨rfl, hK.kp⟩
def Tryz_sf36_ren : Go.Shelf.Ren := ⟨fun | 6 => 36 | 14 => 70 | 15 => 66 | 20 => 104 | 21 => 105 | 22 => 106 | 23 => 107 | 24 => 108 | 25 => 109 | 26 => 110 | 27 => 111 | 28 => 101 | 29 => 102 | 46 => 129 | 47 => 130 | 48 => 131 | 49 => 132 | 50 => 133 | 57 => 153 | n => n, fun | 0 => 0 | 1 => 1 | 2 => 2 | 3 => 3 | 4 => 4 | 5 => 5 | 6 => 6 | 7 => 7 | 8 => 8 | 9 => 9 | 10 => 10 | 11 => 11 | 12 => 12 | 13 => 13 | 14 => 14 | 15 => 15 | 16 => 16 | 17 => 17 | 18 => 18 | 19 => 19 | 20 => 20 | 21 => 21 | 22 => 45 | 23 => 93 | 24 => 90 | 25 => 96 | 27 => 23 | 29 => 95 | 30 => 198 | 37 => 131 | 38 => 126 | 39 => 127 | 40 => 125 | 42 => 77 | 44 => 169 | 45 => 170 | 46 => 171 | 47 => 172 | 48 => 173 | 49 => 174 | 50 => 108 | 51 => 175 | 52 => 164 | 53 => 165 | 54 => 166 | 55 => 167 | 66 => 186 | 67 => 187 | 68 => 188 | 69 => 189 | 70 => 190 | 71 => 191 | 76 => 204 | 77 => 205 | 78 => 206 | 81 => 157 | 82 => 222 | 83 => 223 | 84 => 224 | 85 => 225 | 86 => 226 | 87 => 227 | 88 => 228 | 89 => 229 | 90 => 230 | 91 => 179 | 92 => 231 | 93 => 232 | 94 => 233 | 95 => 234 | 96 => 199 | n => n, fun n => n⟩
theorem Tryz_sf36_lay : Go.Proofs.SlLaysF0.n6 Tryz.prog Tryz_sf36_ren := {
  mixed := by kernel_rfl,
  f6 := ⟨ "slices.SortFunc[[]porterslodge/know.Term,porterslodge/know.Term]", by kernel_rfl, Tryz.func36.trans (congrArg some (by kernel_rfl))⟩,
  f14 := ⟨ "slices.pdqsortCmpFunc[porterslodge/know.Term]", by kernel_rfl, Tryz.func70.trans (congrArg some (by kernel_rfl))⟩,
  f15 := Tryz.func66.trans (congrArg some (by kernel_rfl)),
  f20 := ⟨ "slices.insertionSortCmpFunc[porterslodge/know.Term]", by kernel_rfl, Tryz.func104.trans (congrArg some (by kernel_rfl))⟩,
  f21 := ⟨ "slices.heapSortCmpFunc[porterslodge/know.Term]", by kernel_rfl, Tryz.func105.trans (congrArg some (by kernel_rfl))⟩,
  f22 := ⟨ "slices.breakPatternsCmpFunc[porterslodge/know.Term]", by kernel_rfl, Tryz.func106.trans (congrArg some (by kernel_rfl))⟩,
  f23 := ⟨ "slices.choosePivotCmpFunc[porterslodge/know.Term]", by kernel_rfl, Tryz.func107.trans (congrArg some (by kernel_rfl))⟩,
  f24 := ⟨ "slices.reverseRangeCmpFunc[porterslodge/know.Term]", by kernel_rfl, Tryz.func108.trans (congrArg some (by kernel_rfl))⟩,
  f25 := ⟨ "slices.partialInsertionSortCmpFunc[porterslodge/know.Term]", by kernel_rfl, Tryz.func109.trans (congrArg some (by kernel_rfl))⟩,
  f26 := ⟨ "slices.partitionEqualCmpFunc[porterslodge/know.Term]", by kernel_rfl, Tryz.func110.trans (congrArg some (by kernel_rfl))⟩,
  f27 := ⟨ "slices.partitionCmpFunc[porterslodge/know.Term]", by kernel_rfl, Tryz.func111.trans (congrArg some (by kernel_rfl))⟩,
  f28 := Tryz.func101.trans (congrArg some (by kernel_rfl)),
  f29 := Tryz.func102.trans (congrArg some (by kernel_rfl)),
  f46 := ⟨ "slices.siftDownCmpFunc[porterslodge/know.Term]", by kernel_rfl, Tryz.func129.trans (congrArg some (by kernel_rfl))⟩,
  f47 := Tryz.func130.trans (congrArg some (by kernel_rfl)),
  f48 := Tryz.func131.trans (congrArg some (by kernel_rfl)),
  f49 := ⟨ "slices.medianAdjacentCmpFunc[porterslodge/know.Term]", by kernel_rfl, Tryz.func132.trans (congrArg some (by kernel_rfl))⟩,
  f50 := ⟨ "slices.medianCmpFunc[porterslodge/know.Term]", by kernel_rfl, Tryz.func133.trans (congrArg some (by kernel_rfl))⟩,
  f57 := ⟨ "slices.order2CmpFunc[porterslodge/know.Term]", by kernel_rfl, Tryz.func153.trans (congrArg some (by kernel_rfl))⟩,
  t0 := Tryz.underlying0,
  a0 := Tryz.isAgg0,
  z0 := Tryz.sizeOf0,
  v0 := Tryz.zeroValue0,
  t3 := Tryz.underlying3,
  a3 := Tryz.isAgg3,
  z3 := Tryz.sizeOf3,
  v3 := Tryz.zeroValue3,
  t4 := Tryz.underlying4,
  a4 := Tryz.isAgg4,
  z4 := Tryz.sizeOf4,
  v4 := Tryz.zeroValue4,
  t5 := Tryz.underlying5,
  a5 := Tryz.isAgg5,
  z5 := Tryz.sizeOf5,
  v5 := Tryz.zeroValue5,
  t9 := Tryz.underlying9,
  a9 := Tryz.isAgg9,
  z9 := Tryz.sizeOf9,
  v9 := Tryz.zeroValue9,
  t22 := Tryz.underlying45,
  a22 := Tryz.isAgg45,
  z22 := Tryz.sizeOf45,
  v22 := Tryz.zeroValue45,
  t25 := Tryz.underlying96,
  a25 := Tryz.isAgg96,
  z25 := Tryz.sizeOf96,
  v25 := Tryz.zeroValue96,
  t39 := Tryz.underlying127,
  a39 := Tryz.isAgg127,
  z39 := Tryz.sizeOf127,
  v39 := Tryz.zeroValue127,
  t45 := Tryz.underlying170,
  a45 := Tryz.isAgg170,
  z45 := Tryz.sizeOf170,
  v45 := Tryz.zeroValue170,
  t46 := Tryz.underlying171,
  a46 := Tryz.isAgg171,
  z46 := Tryz.sizeOf171,
  v46 := Tryz.zeroValue171,
  t50 := Tryz.underlying108,
  a50 := Tryz.isAgg108,
  z50 := Tryz.sizeOf108,
  v50 := Tryz.zeroValue108,
  t53 := Tryz.underlying165,
  a53 := Tryz.isAgg165,
  z53 := Tryz.sizeOf165,
  v53 := Tryz.zeroValue165,
  t55 := Tryz.underlying167,
  a55 := Tryz.isAgg167,
  z55 := Tryz.sizeOf167,
  v55 := Tryz.zeroValue167,
  t66 := Tryz.underlying186,
  a66 := Tryz.isAgg186,
  z66 := Tryz.sizeOf186,
  v66 := Tryz.zeroValue186,
  t70 := Tryz.underlying190,
  a70 := Tryz.isAgg190,
  z70 := Tryz.sizeOf190,
  v70 := Tryz.zeroValue190,
  t76 := Tryz.underlying204,
  a76 := Tryz.isAgg204,
  z76 := Tryz.sizeOf204,
  v76 := Tryz.zeroValue204,
  t77 := Tryz.underlying205,
  a77 := Tryz.isAgg205,
  z77 := Tryz.sizeOf205,
  v77 := Tryz.zeroValue205 }
theorem Tryz_sf36 {cmp : know_Term → know_Term → Option Int} {l r : List know_Term} {g : FuncId} {cb : Array Value} {B : Nat} {A : Nat → Prop} {w : World} {L : List Ob} {i : Nat} {v : Value} (eg : ∀ (args : Array Value) (w : World), (callFunc g args).run Tryz.prog w = .ok (.enter g args) w) (hcl : ∀ (w1 : World), Tr True B A w A w1 → (∀ b, w1.heap.size ≤ b → A b) → ∀ (x y : know_Term) (cx cy : List Value) (c : Int), GoT.rep A w1 cx x → GoT.rep A w1 cy y → cmp x y = some c → Ret Tryz.prog g (#[.agg cx.toArray, .agg cy.toArray] ++ cb) w1 fun v w' => v = .int .i64 c ∧ Kp True w1 w') (hH : Hp B A w L) (hi : L[i]? = some (o_90 v l)) (hB : B ≤ w.heap.size) (hA : ∀ b, w.heap.size ≤ b → A b) (hr : sortFuncL cmp l = some r) : Ret Tryz.prog 36 #[v, .func (.func g) #[] cb] w fun u w' => u = .tuple #[] ∧ Hp B A w' (L.set i (o_90 v r)) ∧ Tr Dw B A w A w' :=
  Hp.sortFuncK (Dw := Dw) (fun p c w => Go.Proofs.AnyF.slices_SortFunc_none Tryz_sf36_lay p c _ w) (fun enc hk hone cf hO blk off cap d w hc hh hb hs => Go.Proofs.AnyQ.slices_SortFunc Tryz_sf36_lay _ Tryz.isAgg90 Tryz.sizeOf90 enc hk hone cf hO g cb blk off cap d w eg hc hh hb hs) hcl hH hi hB hA hr
theorem know_Suggest_c (w : World) {A : Nat → Prop} (hA : ∀ b, w.heap.size ≤ b → A b) (x : know_Index) (v_x0 : Value) (h_x0 : Sl A w v_x0 x.ids) (v_x1 : Value) (h_x1 : Sl A w v_x1 x.sizes) (v_x2 : Value) (h_x2 : Sl A w v_x2 x.terms) (text : ByteArray) (sent : (List Int)) (v_sent : Value) (h_sent : Sl A w v_sent sent) (most : Int) {r : ((List know_Hit) × Int)} (hm : know_Suggest x text sent most = some r) : Ret prog 12 #[.agg #[v_x0, v_x1, v_x2], .string text, v_sent, Ii most] w fun v w' => ∃ s0, v = .tuple #[s0, Ii r.2] ∧ Ownd 55 w w' s0 r.1 ∧ Kp Dw w w' := by
 unfold know_Suggest at hm
 refine enter func12 rfl ntmps12 rfl ?_
 have hA0 := hA
 obtain ⟨hB, hK, hH⟩ := St (Dw := Dw) hA
 refine Sr ?_
 refine V_box rfl rfl ?_
 intro b9 w10 h11
 have hk13 := h11.kp (Dw := Dw)
 have h12 : El (α := know_Index) A w10 b9 0 x := h11.el hA ⟨[v_x0], _, rfl, ⟨_, rfl, h_x0⟩, ⟨[v_x1], _, rfl, ⟨_, rfl, h_x1⟩, ⟨_, rfl, h_x2⟩⟩⟩
 have ht14 := Kp.tr hk13 hA hB; replace hH := Hp.kp hH hk13; replace h_sent := Sl.tr h_sent ht14; replace hK := Tt hK ht14; replace hB := Bx hB ht14; replace hA := ht14.new
 refine As (As (To ?_))
 refine C_seq (Sr ?_)
 obtain ⟨v15, v17, v19, h21, h16, h18, h20⟩ := El_know_Index h12
 refine Vy (Y_loadA h21 isAgg47 sizeOf47 rfl) ?_
 obtain ⟨x22, hx22, hm⟩ := Bs hm
 refine Vc call28 (know_CheckIndex_c (Dw := Dw) w10 hA x v15 h16 v17 h18 v19 h20 hx22) ?_
 rintro _ w23 ⟨rfl, hk24⟩
 have ht25 := Kp.tr hk24 hA hB; replace hH := Hp.kp hH hk24; replace h_sent := Sl.tr h_sent ht25; replace h12 := El.tr h12 ht25; replace hK := Tt hK ht25; replace hB := Bx hB ht25; replace hA := ht25.new
 refine As (To ?_)
 refine Sr (Mm (Vy (Y_neq rfl rfl) (To ?_)))
 refine Cc (fun hc26 => ?_) fun hc26 => ?_
 ·rw [if_pos hc26] at hm
  refine Sr (Mm (As (As (To ?_))))
  obtain rfl := Oi hm
  replace hH : Hp w.heap.size A w23 (o_55 (.slice none 0 0) ([] : (List know_Hit)) :: []) := Hp.addNil (α := know_Hit) (e := 55) hH
  refine Rt (Res.two results12 rfl rfl) ?_
  exact ⟨.slice none 0 0, rfl, (Hp.ownd hH (i := 0) rfl), hK.kp⟩
 rw [if_neg (nt hc26)] at hm
 refine Sk ?_
 refine C_seq (Sr (Mm (Vy (Y_lenStr rfl underlying9 rfl) (Vy (Y_gtr rfl rfl) (Mm ?_)))))
 refine V_cut 4 (fun _ : Unit => [(1, .string text), (2, v_sent), (3, Ii most), (4, Pt b9), (33, .bool ((decide ((20000 : Int) < (text.size : Int))) || (decide ((200 : Int) < (sent.length : Int)))))]) (fun _ w' => w23 = w') ?_ ?_
 ·simp only [List.take, List.drop]
  rcases Be (decide ((20000 : Int) < (text.size : Int))) with hc27 | hc27
  ·refine Gm hc27 (Gm hc27 (Gm hc27 (Vy (Y_pick_te rfl hc27 rfl) ?_)))
   exact V_end fun a ha => ⟨(), ha.sub ⟨rfl, rfl, rfl, rfl, (by rw [hc27]; rfl), trivial⟩, rfl⟩
  refine Gf hc27 (Mm (Gf hc27 (Vy (Y_lenSl h_sent rfl underlying23 rfl) (Gf hc27 (Vy (Y_gtr rfl rfl) (Vy (Y_pick_fe rfl hc27 rfl) ?_))))))
  exact V_end fun a ha => ⟨(), ha.sub ⟨rfl, rfl, rfl, rfl, (by rw [hc27]; rfl), trivial⟩, rfl⟩
 simp only [List.take, List.drop]
 rintro _ _ rfl
 refine To ?_
 refine Cc (fun hc29 => ?_) fun hc29 => ?_
 ·rw [if_pos hc29] at hm
  refine Sr (As (As (To ?_)))
  obtain rfl := Oi hm
  replace hH : Hp w.heap.size A w23 (o_55 (.slice none 0 0) ([] : (List know_Hit)) :: []) := Hp.addNil (α := know_Hit) (e := 55) hH
  refine Rt (Res.two results12 rfl rfl) ?_
  exact ⟨.slice none 0 0, rfl, (Hp.ownd hH (i := 0) rfl), hK.kp⟩
 rw [if_neg (nt hc29)] at hm
 refine Sk ?_
 refine C_seq (Sr (Mm ?_))
 refine Vc call21 (know_within_c w23 most 0 100) ?_
 rintro _ _ ⟨rfl, rfl⟩
 refine Vy (Y_not rfl) (To ?_)
 refine Cc (fun hc30 => ?_) fun hc30 => ?_
 ·rw [if_pos hc30] at hm
  refine Sr (As (As (To ?_)))
  obtain rfl := Oi hm
  replace hH : Hp w.heap.size A w23 (o_55 (.slice none 0 0) ([] : (List know_Hit)) :: []) := Hp.addNil (α := know_Hit) (e := 55) hH
  refine Rt (Res.two results12 rfl rfl) ?_
  exact ⟨.slice none 0 0, rfl, (Hp.ownd hH (i := 0) rfl), hK.kp⟩
 rw [if_neg (nt hc30)] at hm
 refine Sk ?_
 refine C_seq ?_
 refine C_region_ch (Dw := Dw) A 6 [(1, 0), (1, 1), (2, 2), (1, 3), (2, 4), (1, 5)] Tryz_mixed (by kernel_rfl) (fun w31 hk32 => ?_)
 have ht33 := Kp.tr hk32 hA hB; replace hH := Hp.kp hH hk32; replace h_sent := Sl.tr h_sent ht33; replace h12 := El.tr h12 ht33; replace hK := Tt hK ht33; replace hB := Bx hB ht33; replace hA := ht33.new
 refine CH_q2 rfl ?_
 obtain ⟨v34, v36, v38, h40, h35, h37, h39⟩ := El_know_Index h12
 refine Qv (fun w' hw' => Y_loadA (At.same h40 (hw'.2 _ h12.2.1 h12.1)) isAgg47 sizeOf47 rfl) (VQ_CH (CH_q2 rfl (Qm (VQ_CH ?_))))
 refine CH_l1 (k := 0) rfl ?_
 obtain ⟨x41, hx41, hm⟩ := Bs hm
 refine Vc call17 (know_Words_c (Dw := Dw) w31 hA text hx41) ?_
 rintro v42 w44 ⟨_, rfl, h43, hk45⟩
 obtain ⟨A46, ht47, hH48⟩ := Hp.addOwnd (Dw := Dw) hH hB hA hk45 h43
 replace h_sent := Sl.tr h_sent ht47; replace h12 := El.tr h12 ht47; replace h35 := Sl.tr h35 ht47; replace h37 := Sl.tr h37 ht47; replace h39 := Sl.tr h39 ht47; replace hK := Tt hK ht47; replace hB := Bx hB ht47; replace hA := ht47.new
 replace hH : Hp _ _ _ (o_9 v42 x41 :: []) := hH48
 refine V_CH (hk45) ?_
 refine CH_q2 rfl ?_
 refine Qv (fun w' hw' => Y_build (cells := #[Ii 1, .bool false, v42]) underlying68 zeroValue68 (Tryz_places68 _ underlying68) rfl (by obtain ⟨a49, c50, e51, _⟩ := Sl.form (Hp.any (α := ByteArray) (e := 9) (v := v42) (l := x41) hH (i := 0) rfl); subst e51; with_unfolding_all rfl)) (VQ_CH ?_)
 refine CH_l1 (k := 0) rfl ?_
 obtain ⟨A52, ht53, h54, hH55⟩ := Hp.freeze (Dw := Dw) (α := ByteArray) (v := v42) (l := x41) hH (i := 0) rfl hA
 replace h_sent := Sl.tr h_sent ht53; replace h12 := El.tr h12 ht53; replace h35 := Sl.tr h35 ht53; replace h37 := Sl.tr h37 ht53; replace h39 := Sl.tr h39 ht53; replace hK := Tt hK ht53; replace hB := Bx hB ht53; replace hA := ht53.new; replace hH := hH55
 obtain ⟨x57, hx57, hm⟩ := Bs hm
 refine Vc call32 (know_Index_named_c (Dw := Dw) w44 (B := w44.heap.size) (Nat.le_refl _) hA x v34 h35 v36 h37 v38 h39 (⟨1, false, x41⟩ : know_Part) v42 h54 Hp.nil hx57) ?_
 rintro v58 w60 ⟨_, A61, rfl, hH62, ht63⟩
 have hk64 : Kp Dw w44 w60 := ht63.below
 have hH65 := Hp.join (Dw := Dw) hH hB ht63 hH62
 have ht66 := Tr.lower (Dw := Dw) ht63 hB
 replace h_sent := Sl.tr h_sent ht66; replace h12 := El.tr h12 ht66; replace hK := Tt hK ht66; replace hB := Bx hB ht66; replace hA := ht66.new
 replace hH : Hp _ _ _ (o_90 v58 x57 :: []) := hH65
 refine V_CH (hk64) ?_
 refine CH_q2 rfl (Qa (VQ_CH ?_))
 refine CH_tail ?_
 show V _ _ _ _ [] _ _
 refine To ?_
 refine Sr (Mm ?_)
 obtain ⟨x67, hx67, hm⟩ := Bs hm
 refine V_call call36 rfl rfl rfl rfl (Tryz_sf36 (Dw := Dw) call37 (fun w73 ht74 h75 p77 q82 c78 c83 c87 h79 h84 h76 => by obtain ⟨v80, rfl, h81⟩ := Rep_know_Term h79; obtain ⟨v85, rfl, h86⟩ := Rep_know_Term h84; exact (know_Suggest_1_c (Dw := True) w73 h75 p77 v80 h81 q82 v85 h86 h76).mono fun _ _ h => ⟨h.1, h.2⟩) hH (i := 0) rfl hB hA hx67) ?_
 rintro _ w68 ⟨rfl, hH69, ht70⟩
 replace h_sent := Sl.tr h_sent ht70; replace h12 := El.tr h12 ht70; replace hK := Tt hK ht70; replace hB := Bx hB ht70; replace hA := ht70.new
 replace hH : Hp _ _ _ (o_90 v58 x67 :: []) := hH69
 refine To ?_
 refine Sr (Mm (Mm (Vy (Y_lenSl (Hp.any (α := know_Term) (e := 90) (v := v58) (l := x67) hH (i := 0) rfl) rfl underlying45 rfl) (Vy (Y_min2 rfl rfl) ?_))))
 obtain ⟨x88, hx88, hm⟩ := Bs hm
 refine V_sliceOwnH (α := know_Term) (e := 90) (v := v58) (l := x67) hH (i := 0) rfl hx88 underlying45 sizeOf90 hA rfl rfl rfl ?_
 intro v89 hH90
 replace hH : Hp _ _ _ (o_90 v89 x88 :: []) := hH90
 refine As (To ?_)
 refine Sr (As (To ?_))
 refine C_seq (Sr ?_)
 have h91 := El_know_Index_0 h12
 refine Fa underlying47 rfl sizeOf23 ?_
 obtain ⟨v92, h93, h94⟩ := El.list h91
 refine Ld h93 isAgg23 (Vy (Y_lenSl h94 rfl underlying23 rfl) (Mm (To ?_)))
 obtain ⟨A95, ht96, h97, hH98⟩ := Hp.freeze (Dw := Dw) (α := know_Term) (v := v89) (l := x88) hH (i := 0) rfl hA
 replace h_sent := Sl.tr h_sent ht96; replace h12 := El.tr h12 ht96; replace h94 := Sl.tr h94 ht96; replace hK := Tt hK ht96; replace hB := Bx hB ht96; replace hA := ht96.new; replace hH := hH98
 replace hH : Hp w.heap.size A95 w68 (o_55 (.slice none 0 0) ([] : (List know_Hit)) :: []) := Hp.addNil (α := know_Hit) (e := 55) hH
 have hn124 := Sl.le h94
 obtain ⟨o100, ho100, hm⟩ := Bs hm
 refine C_cutG (ι := ((List know_Hit) × Value × (Nat → Prop))) (fun ⟨s101, v107, A109⟩ => [(3, Ii most), (12, v107)]) (fun ⟨s101, v107, A109⟩ => fun w' => o100 = .fin s101 ∧ Hp w.heap.size A109 w' (o_55 v107 s101 :: []) ∧ Tr Dw w.heap.size A95 w68 A109 w') ?_ ?_
 ·refine C_block ?_
  refine C_range ho100 (fun k103 s111 a w' => ∃ i : (Value × (Nat → Prop)), Has ⟨97, [], none⟩ a ([(2, v_sent), (3, Ii most), (4, Pt b9), (11, v89), (12, i.1), (50, v92), (51, Ii (x.ids.length : Int)), (52, Ii (k103 : Int))]) ∧ Hp w.heap.size i.2 w' (o_55 i.1 s111 :: []) ∧ Tr Dw w.heap.size A95 w68 i.2 w') (fun a ha => ⟨(.slice none 0 0, A95), ha.sb, ⟨hH, Tr.refl (Dw := Dw) hA⟩⟩) ?_
  rintro K k103 s111 a w112 ⟨⟨v113, A115⟩, ha254, hH116, hr102⟩ hle120 K123 h122
  refine C_of ?_ ha254
  replace h_sent := Sl.tr h_sent hr102; replace h12 := El.tr h12 hr102; replace h97 := Sl.tr h97 hr102; replace h94 := Sl.tr h94 hr102; replace hB := Bx hB hr102; replace hA := hr102.new
  replace hH : Hp _ _ _ (o_55 v113 s111 :: []) := hH116
  refine Sr (Vy (Y_lss rfl rfl) (To ?_))
  refine C_seq ?_
  refine Cc (fun hc125 => ?_) fun hc125 => ?_
  ·have hlt121 := lt_of_dec hc125
   obtain ⟨x117, h118, h119⟩ := K123 hlt121
   refine Sk ?_
   refine C_seq ?_
   obtain ⟨s127, ho126, h118⟩ := Bs h118
   refine C_cutG (ι := (Value × (Nat → Prop))) (fun ⟨v129, A134⟩ => [(2, v_sent), (3, Ii most), (4, Pt b9), (11, v89), (12, v129), (50, v92), (51, Ii (x.ids.length : Int)), (52, Ii (k103 : Int))]) (fun ⟨v129, A134⟩ => fun w' => Hp w.heap.size A134 w' (o_55 v129 s127 :: []) ∧ Tr Dw w.heap.size A115 w112 A134 w') ?_ ?_
   ·have hr128 : Tr Dw w.heap.size A115 w112 A115 w112 := Tr.refl (Dw := Dw) hA
    refine C_block (Sr (Mm ?_))
    obtain ⟨x136, hx136, ho126⟩ := Bs ho126
    refine V_indexAddr h94 hx136 underlying23 sizeOf3 rfl rfl rfl ?_
    intro b137 o138 h139
    refine Li h139 isAgg3 (As (As (To ?_)))
    refine Sr (As (As (To ?_)))
    refine C_seq (Sr (Mm (Vy (Y_lenSl h97 rfl underlying45 rfl) (Mm (To ?_)))))
    have hn160 := Sl.le h97
    obtain ⟨o140, ho140, ho126⟩ := Bs ho126
    refine C_cutG (ι := ((Bool × Int) × (Nat → Prop))) (fun ⟨s141, A147⟩ => [(2, v_sent), (3, Ii most), (4, Pt b9), (11, v89), (12, v113), (14, Ii x136), (15, .bool s141.1), (16, Ii s141.2), (50, v92), (51, Ii (x.ids.length : Int)), (52, Ii (k103 : Int))]) (fun ⟨s141, A147⟩ => fun w' => o140 = .fin s141 ∧ Hp w.heap.size A147 w' (o_55 v113 s111 :: []) ∧ Tr Dw w.heap.size A115 w112 A147 w') ?_ ?_
    ·refine C_block ?_
     refine C_range ho140 (fun k143 s149 a w' => ∃ i : (Nat → Prop), Has ⟨97, [], none⟩ a ([(2, v_sent), (3, Ii most), (4, Pt b9), (11, v89), (12, v113), (13, Ii (k103 : Int)), (14, Ii x136), (15, .bool s149.1), (16, Ii s149.2), (50, v92), (51, Ii (x.ids.length : Int)), (52, Ii (k103 : Int)), (57, v89), (58, Ii (x88.length : Int)), (59, Ii (k143 : Int))]) ∧ Hp w.heap.size i w' (o_55 v113 s111 :: []) ∧ Tr Dw w.heap.size A115 w112 i w') (fun a ha => ⟨A115, ha.sb, ⟨hH, Tr.refl (Dw := Dw) hA⟩⟩) ?_
     rintro K k143 s149 a w150 ⟨A151, ha223, hH152, hr142⟩ hle156 K159 h158
     refine C_of ?_ ha223
     replace h12 := El.tr h12 hr142; replace h97 := Sl.tr h97 hr142; replace hB := Bx hB hr142; replace hA := hr142.new
     replace hH : Hp _ _ _ (o_55 v113 s111 :: []) := hH152
     refine Sr (Vy (Y_lss rfl rfl) (To ?_))
     refine C_seq ?_
     refine Cc (fun hc161 => ?_) fun hc161 => ?_
     ·have hlt157 := lt_of_dec hc161
      obtain ⟨x153, h154, h155⟩ := K159 hlt157
      refine Sk ?_
      refine C_seq (C_block (Sr ?_))
      obtain ⟨x162, hx162, h154⟩ := Bs h154
      refine V_indexAddr h97 hx162 underlying45 sizeOf90 rfl rfl rfl ?_
      intro b163 o164 h165
      obtain ⟨v166, h168, h167⟩ := El_know_Term h165
      refine Vy (Y_loadA h168 isAgg90 sizeOf90 rfl) ?_
      refine V_alloc zeroValue90 rfl ?_
      intro b169 w170 h171
      have h176 : (v166).oneCell' = true := by obtain ⟨_, _, e, _⟩ := Sl.form h167; rw [e]; rfl
      refine Sn h171 sizeOf90 ?_
      intro w172 h173
      have hk178 := h173.kp (Dw := Dw)
      have h177 : El (α := know_Term) A151 w172 b169 0 x162 := h173.el hA ⟨[.string x162.word], _, rfl, rfl, ⟨_, rfl, h167⟩⟩
      have ht179 := Kp.tr hk178 hA hB; replace hH := Hp.kp hH hk178; replace h12 := El.tr h12 ht179; replace hr142 := Tt hr142 ht179; replace hB := Bx hB ht179; replace hA := ht179.new
      refine To ?_
      refine Sr ?_
      obtain ⟨v180, h182, h181⟩ := El_know_Term h177
      refine Vy (Y_loadA h182 isAgg90 sizeOf90 rfl) (Mm ?_)
      obtain ⟨x183, hx183, h154⟩ := Bs h154
      refine Vc call41 (know_Term_posting_c (Dw := Dw) w172 hA x162 v180 h181 x136 hx183) ?_
      rintro _ w188 ⟨v184, v186, rfl, h185, h187, hk189⟩
      have ht190 := Kp.tr hk189 hA hB; replace hH := Hp.kp hH hk189; replace h12 := El.tr h12 ht190; replace h177 := El.tr h177 ht190; replace hr142 := Tt hr142 ht190; replace hB := Bx hB ht190; replace hA := ht190.new
      refine Mm (Vy (Y_extract rfl rfl) (Vy (Y_extract rfl rfl) ?_))
      refine V_alloc zeroValue98 rfl ?_
      intro b191 w192 h193
      have h198 : (v184).oneCell' = true := by obtain ⟨_, _, e, _⟩ := Sl.form h185; rw [e]; rfl
      have h201 : (v186).oneCell' = true := by obtain ⟨_, _, e, _⟩ := Sl.form h187; rw [e]; rfl
      refine Sn h193 sizeOf98 ?_
      intro w194 h195
      have hk203 := h195.kp (Dw := Dw)
      have h202 : El (α := know_Posting) A151 w194 b191 0 x183.1 := h195.el hA ⟨[Ii x183.1.id_], _, rfl, rfl, ⟨[v184], _, rfl, ⟨_, rfl, h185⟩, ⟨_, rfl, h187⟩⟩⟩
      have ht204 := Kp.tr hk203 hA hB; replace hH := Hp.kp hH hk203; replace h12 := El.tr h12 ht204; replace h177 := El.tr h177 ht204; replace hr142 := Tt hr142 ht204; replace hB := Bx hB ht204; replace hA := ht204.new
      refine As (To ?_)
      refine Sr (Mm (Mm ?_))
      refine V_cut 2 (fun _ : Unit => [(2, v_sent), (3, Ii most), (4, Pt b9), (11, v89), (12, v113), (13, Ii (k103 : Int)), (14, Ii x136), (16, Ii s149.2), (18, Pt b169), (50, v92), (51, Ii (x.ids.length : Int)), (52, Ii (k103 : Int)), (57, v89), (58, Ii (x88.length : Int)), (59, Ii (k143 : Int)), (72, .bool (s149.1 || x183.2))]) (fun _ w' => w194 = w') ?_ ?_
      ·simp only [List.take, List.drop]
       rcases Be (s149.1) with hc205 | hc205
       ·refine Gm hc205 (Vy (Y_pick_te rfl hc205 rfl) ?_)
        exact V_end fun a ha => ⟨(), ha.sub ⟨rfl, rfl, rfl, rfl, rfl, rfl, rfl, rfl, rfl, rfl, rfl, rfl, rfl, rfl, rfl, (by rw [hc205]; rfl), trivial⟩, rfl⟩
       refine Gf hc205 (Mm (Vy (Y_pick_fe rfl hc205 rfl) ?_))
       exact V_end fun a ha => ⟨(), ha.sub ⟨rfl, rfl, rfl, rfl, rfl, rfl, rfl, rfl, rfl, rfl, rfl, rfl, rfl, rfl, rfl, (by rw [hc205]; rfl), trivial⟩, rfl⟩
      simp only [List.take, List.drop]
      rintro _ _ rfl
      refine As (To ?_)
      refine C_region (Mm ?_)
      obtain ⟨v207, v209, v211, h213, h208, h210, h212⟩ := El_know_Index h12
      refine Vy (Y_loadA h213 isAgg47 sizeOf47 rfl) ?_
      obtain ⟨v214, h216, h215⟩ := El_know_Term h177
      refine Vy (Y_loadA h216 isAgg90 sizeOf90 rfl) (Mm ?_)
      obtain ⟨x217, hx217, h154⟩ := Bs h154
      refine Vc call34 (know_Index_score_c (Dw := Dw) w194 hA x v207 h208 v209 h210 v211 h212 x162 v214 h215 (k103 : Int) hx217) ?_
      rintro _ w218 ⟨rfl, hk219⟩
      have ht220 := Kp.tr hk219 hA hB; replace hH := Hp.kp hH hk219; replace hr142 := Tt hr142 ht220
      refine Vy (Y_addI rfl rfl) (As (To ?_))
      refine C_region (Vy (Y_addI rfl rfl) (Mm ?_))
      obtain rfl := Oi h154
      refine V_end (fun a ha221 => ?_)
      exact ⟨((s149.1 || x183.2), w64 (s149.2 + x217)), hlt157, h155, ⟨A151, ha221.sub ⟨rfl, rfl, rfl, rfl, rfl, rfl, rfl, rfl, rfl, rfl, rfl, rfl, rfl, rfl, Ws hlt157 hn160, trivial⟩, ⟨hH, hr142⟩⟩⟩
     refine C_exit (fun a ha222 => ?_)
     exact ⟨((s149.1, s149.2), A151), ha222.sb, ⟨(h158 (eq_of_dec hle156 hc161)).symm, hH, hr142⟩⟩
    rintro ⟨s141, A147⟩ w144 ⟨rfl, hH148, hk145⟩ a ha146
    rw [Lp.andThen_fin] at ho126
    replace h_sent := Sl.tr h_sent hk145; replace hr128 := Tr.trans hr128 hk145; replace hB := Nat.le_trans hB hk145.ex.size; replace hA := hk145.new
    replace hH : Hp _ _ _ (o_55 v113 s111 :: []) := hH148
    refine C_at (n := ⟨97, [], none⟩) (fun _ _ => rfl) ?_ ha146
    refine Sr (Mm (Mm ?_))
    obtain ⟨s225, hs225, ho126⟩ := Bs ho126
    refine V_cut 5 (fun _ : Unit => [(2, v_sent), (3, Ii most), (4, Pt b9), (11, v89), (12, v113), (14, Ii x136), (16, Ii s141.2), (50, v92), (51, Ii (x.ids.length : Int)), (52, Ii (k103 : Int)), (86, .bool s225)]) (fun _ w' => w144 = w') ?_ ?_
    ·simp only [List.take, List.drop]
     rcases Be (s141.1) with hc224 | hc224
     ·rw [if_pos hc224] at hs225
      refine Gf hc224 (Mm (Gf hc224 (Mm (Gf hc224 ?_))))
      obtain ⟨x226, hx226, hs225⟩ := Bs hs225
      refine Vc call8 (slices_Contains_Lint_int_c w144 sent v_sent h_sent x136 hx226) ?_
      rintro _ _ ⟨rfl, rfl⟩
      refine Gf hc224 (Vy (Y_not rfl) (Vy (Y_pick_te rfl hc224 rfl) ?_))
      obtain rfl := Oi hs225
      exact V_end fun a ha => ⟨(), ha.sb, rfl⟩
     rw [if_neg (nt hc224)] at hs225
     refine Gm hc224 (Gm hc224 (Gm hc224 (Gm hc224 (Vy (Y_pick_fe rfl hc224 rfl) ?_))))
     obtain rfl := Oi hs225
     exact V_end fun a ha => ⟨(), ha.sb, rfl⟩
    simp only [List.take, List.drop]
    rintro _ _ rfl
    refine To ?_
    obtain ⟨s228, ho227, ho126⟩ := Bs ho126
    refine C_cutG (ι := (Value × (Nat → Prop))) (fun ⟨v230, A235⟩ => [(2, v_sent), (3, Ii most), (4, Pt b9), (11, v89), (12, v230), (50, v92), (51, Ii (x.ids.length : Int)), (52, Ii (k103 : Int))]) (fun ⟨v230, A235⟩ => fun w' => Hp w.heap.size A235 w' (o_55 v230 s228 :: []) ∧ Tr Dw w.heap.size A147 w144 A235 w') ?_ ?_
    ·have hr229 : Tr Dw w.heap.size A147 w144 A147 w144 := Tr.refl (Dw := Dw) hA
     refine Cc (fun hc237 => ?_) fun hc237 => ?_
     ·rw [if_pos hc237] at ho227
      refine C_region (Mm (Mm (Mm ?_)))
      refine Vy (Y_build underlying55 zeroValue55 (Tryz_places55 _ underlying55) rfl (by with_unfolding_all rfl)) ?_
      refine V_buildSlice (Dw := Dw) (cells := #[Ii x136, Ii s141.2]) (l := ([(⟨x136, s141.2⟩ : know_Hit)] : List know_Hit)) (len := 1) underlying39 sizeOf55 zeroValue55 rfl (by kernel_rfl) (show (1 * 2 : Nat) ≠ 0 by decide) (show (1 * 2 : Nat) ≤ 2 ^ 24 by decide) hA ⟨[Ii x136, Ii s141.2], _, rfl, ⟨[Ii x136], _, rfl, rfl, rfl⟩, rfl⟩ rfl rfl ?_
      intro v238 w239 hk241 h240
      have ht242 := Kp.tr hk241 hA hB; replace hH := Hp.kp hH hk241; replace hr229 := Tt hr229 ht242; replace hB := Bx hB ht242; replace hA := ht242.new
      obtain ⟨x243, hx243, ho227⟩ := Bs ho227
      refine V_appendH (Dw := Dw) (e := 55) (v := v113) (l := s111) (ti := t55) (bytes := 16) (lim := 8796093022208) hH (i := 0) rfl h240 hx243 underlying39 Tryz_info55 rfl rfl rfl rfl (by decide) (by decide) (by decide) hB hA rfl rfl rfl ?_
      intro v244 w245 A246 hH247 ht248
      replace hr229 := Tt hr229 ht248
      replace hH : Hp _ _ _ (o_55 v244 x243 :: []) := hH247
      refine As ?_
      obtain rfl := Oi ho227
      refine V_end (fun a ha249 => ?_)
      exact ⟨(v244, A246), ha249.sb, ⟨hH, hr229⟩⟩
     rw [if_neg (nt hc237)] at ho227
     obtain rfl := Oi ho227
     refine C_skip (fun a ha250 => ?_)
     exact ⟨(v113, A147), ha250.sb, ⟨hH, hr229⟩⟩
    rintro ⟨v230, A235⟩ w232 ⟨hH236, hk233⟩ a ha234
    replace hr128 := Tr.trans hr128 hk233; replace hA := hk233.new
    replace hH : Hp _ _ _ (o_55 v230 s228 :: []) := hH236
    obtain rfl := Oi ho126
    exact ⟨(v230, A235), ha234.sb, ⟨hH, hr128⟩⟩
   rintro ⟨v129, A134⟩ w131 ⟨hH135, hk132⟩ a ha133
   replace hr102 := Tr.trans hr102 hk132; replace hA := hk132.new
   replace hH : Hp _ _ _ (o_55 v129 s127 :: []) := hH135
   refine C_at (n := ⟨97, [], none⟩) (fun _ _ => rfl) ?_ ha133
   refine C_region (Vy (Y_addI rfl rfl) (Mm ?_))
   obtain rfl := Oi h118
   refine V_end (fun a ha252 => ?_)
   exact ⟨s127, hlt121, h119, ⟨(v129, A134), ha252.sub ⟨rfl, rfl, rfl, rfl, rfl, rfl, rfl, Ws hlt121 hn124, trivial⟩, ⟨hH, hr102⟩⟩⟩
  refine C_exit (fun a ha253 => ?_)
  exact ⟨(s111, v113, A115), ha253.sb, ⟨(h122 (eq_of_dec hle120 hc125)).symm, hH, hr102⟩⟩
 rintro ⟨s101, v107, A109⟩ w104 ⟨rfl, hH110, hk105⟩ a ha106
 rw [Lp.andThen_fin] at hm
 replace hK := Tr.trans hK hk105; replace hB := Nat.le_trans hB hk105.ex.size; replace hA := hk105.new
 replace hH : Hp _ _ _ (o_55 v107 s101 :: []) := hH110
 refine C_at (n := ⟨97, [], none⟩) (fun _ _ => rfl) ?_ ha106
 refine Sr (Mm (Mm ?_))
 obtain ⟨x255, hx255, hm⟩ := Bs hm
 refine Vc call35 (know_ranked_c (Dw := Dw) w104 hB hA s101 v107 most hH hx255) ?_
 rintro v256 w258 ⟨_, A259, rfl, hH260, ht261⟩
 replace hK := Tt hK ht261
 replace hH : Hp _ _ _ (o_55 v256 x255 :: []) := hH260
 refine As (As (To ?_))
 obtain rfl := Oi hm
 refine Rt (Res.two results12 rfl rfl) ?_
 exact ⟨v256, rfl, (Hp.ownd hH (i := 0) rfl), hK.kp⟩
end Go.Proofs.YtjdjmddclfhpeaaGreatDoor.W
