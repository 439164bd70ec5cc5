/-
  Written by program (gen.py) from the IR of the dump: each function computes its model.
-/
import Derived.Test.YtkjlbaacbkdnfaaGreatDoorKnowSearchesW1
namespace Go.Proofs.YtkjlbaacbkdnfaaGreatDoor.W
open Go Go.RowKit Go.Pu Go.Gw Go.Proofs Go.Proofs.YtkjlbaacbkdnfaaGreatDoor.M
set_option linter.unusedVariables false
set_option linter.unusedSimpArgs false
variable {Dw : Prop}

set_option maxRecDepth 4000 in
set_option maxHeartbeats 4000000 in
theorem know_Index_phrase_c (w : World) {A : Nat → Prop} (hA : ∀ b, w.heap.size ≤ b → A b) (x : know_Index) (v_x0 : Value) (h_x0 : Sl A w v_x0 x.ids) (v_x1 : Value) (h_x1 : Sl A w v_x1 x.sizes) (v_x2 : Value) (h_x2 : Sl A w v_x2 x.terms) (words : (List ByteArray)) (v_words : Value) (h_words : Sl A w v_words words) (id_ : Int) {r : Bool} (hm : know_Index_phrase x words id_ = some r) : Ret Tryz.prog 29 #[.agg #[v_x0, v_x1, v_x2], v_words, .int .i64 id_] w fun v w' => v = .bool r ∧ Kp Dw w w' := by
 unfold know_Index_phrase at hm
 refine enter Tryz.func29 rfl Tryz.ntmps29 rfl ?_
 have hA0 := hA
 have hB := Nat.le_refl w.heap.size
 have hK : Tr Dw w.heap.size A w A w := Tr.refl (Dw := Dw) hA
 have hH : Hp w.heap.size A w [] := Hp.nil
 refine C_seq ?_
 refine C_region ?_
 refine V_box rfl rfl ?_
 intro b9 w10 h11
 have hk13 := h11.kp (Dw := Dw)
 have h12 : El (α := know_Index) A w10 b9 0 x := h11.el hA ⟨[v_x0], _, rfl, ⟨_, rfl, h_x0⟩, ⟨[v_x1], _, rfl, ⟨_, rfl, h_x1⟩, ⟨_, rfl, h_x2⟩⟩⟩
 have ht14 := Kp.tr hk13 hA hB
 replace hH := Hp.kp hH hk13
 replace h_words := Sl.tr h_words ht14
 replace hK := Tr.trans hK ht14
 replace hB := Nat.le_trans hB ht14.ex.size
 replace hA := ht14.new
 refine V_as rfl rfl ?_
 refine V_to (fun _ _ => rfl) ?_
 refine C_seq ?_
 refine C_region ?_
 refine V_as rfl rfl ?_
 refine V_as rfl rfl ?_
 refine V_to (fun _ _ => rfl) ?_
 refine C_seq ?_
 refine C_seq ?_
 refine C_region ?_
 refine V_mv rfl rfl ?_
 refine V_y (Y_lenSl h_words rfl Tryz.underlying42 rfl) rfl rfl rfl ?_
 refine V_mv rfl rfl ?_
 refine V_to (fun _ _ => rfl) ?_
 replace hH : Hp w.heap.size A w10 (obS (α := (List Int)) 22 (.slice none 0 0) ([] : (List (List Int))) :: []) := Hp.addNil (α := (List Int)) (e := 22) hH
 replace hH : Hp w.heap.size A w10 (obS (α := (List Int)) 22 (.slice none 0 0) ([] : (List (List Int))) :: obS (α := (List Int)) 22 (.slice none 0 0) ([] : (List (List Int))) :: []) := Hp.addNil (α := (List Int)) (e := 22) hH
 have hn43 := Sl.le h_words
 obtain ⟨o15, ho15, hm⟩ := Option.bind_eq_some_iff.1 hm
 refine C_cutG (ι := (((List (List Int)) × (List (List Int))) × Value × Value × (Nat → Prop))) (fun ⟨s16, v22, v24, A26⟩ => [(7, v22), (8, v24)]) (fun ⟨s16, v22, v24, A26⟩ => fun w' => o15 = .fin s16 ∧ Hp w.heap.size A26 w' (obS (α := (List Int)) 22 v24 s16.2 :: obS (α := (List Int)) 22 v22 s16.1 :: []) ∧ Tr Dw w.heap.size A w10 A26 w') ?_ ?_
 ·refine C_block ?_
  refine C_range ho15 (fun k18 s28 a w' => ∃ i : (Value × Value × (Nat → Prop)), Has ⟨56, [], none⟩ a ([(2, .int .i64 id_), (3, .pointer (some ⟨b9, 0, none⟩)), (7, i.1), (8, i.2.1), (16, v_words), (17, .int .i64 (words.length : Int)), (18, .int .i64 (k18 : Int))]) ∧ Hp w.heap.size i.2.2 w' (obS (α := (List Int)) 22 i.2.1 s28.2 :: obS (α := (List Int)) 22 i.1 s28.1 :: []) ∧ Tr Dw w.heap.size A w10 i.2.2 w') (fun a ha => ⟨(.slice none 0 0, .slice none 0 0, A), ha.sub ⟨rfl, rfl, rfl, rfl, rfl, rfl, rfl, trivial⟩, ⟨hH, Tr.refl (Dw := Dw) hA⟩⟩) ?_
  rintro K k18 s28 a w29 ⟨⟨v30, v32, A34⟩, ha476, hH35, hr17⟩ hle39 K42 h41
  refine C_of ?_ ha476
  replace h12 := El.tr h12 hr17
  replace h_words := Sl.tr h_words hr17
  replace hK := Tr.trans hK hr17
  replace hB := Nat.le_trans hB hr17.ex.size
  replace hA := hr17.new
  replace hH : Hp w.heap.size A34 w29 (obS (α := (List Int)) 22 v32 s28.2 :: obS (α := (List Int)) 22 v30 s28.1 :: []) := hH35
  refine C_seq (C_region (V_y (Y_lss rfl rfl) rfl rfl rfl (V_to (fun _ _ => rfl) ?_)))
  refine C_seq ?_
  refine C_cond rfl (fun hc44 => ?_) (fun hc44 => ?_)
  ·have hlt40 := lt_of_dec hc44
   obtain ⟨x36, h37, h38⟩ := K42 hlt40
   refine C_skip_to (fun _ _ => rfl) ?_
   refine C_seq ?_
   refine C_block ?_
   refine C_seq ?_
   refine C_region ?_
   obtain ⟨x45, hx45, h37⟩ := Option.bind_eq_some_iff.1 h37
   refine V_indexAddr h_words hx45 Tryz.underlying42 Tryz.sizeOf9 rfl rfl rfl ?_
   intro b46 o47 h48
   refine V_y (Y_load (El.str h48) Tryz.isAgg9 rfl) rfl rfl rfl ?_
   refine V_as rfl rfl ?_
   refine V_to (fun _ _ => rfl) ?_
   refine C_seq ?_
   refine C_region_chz (Dw := Dw) A34 7 [(1, 0), (1, 1), (2, 2), (2, 3), (1, 4), (1, 5), (1, 6)] [(4, 8), (1, 9)] Tryz_mixed (by kernel_rfl) (fun w49 hk50 => ?_)
   have ht51 := Kp.tr hk50 hA hB
   replace hH := Hp.kp hH hk50
   replace h12 := El.tr h12 ht51
   replace hK := Tr.trans hK ht51
   replace hr17 := Tr.trans hr17 ht51
   replace hB := Nat.le_trans hB ht51.ex.size
   replace hA := ht51.new
   refine CHZ_q2 (Dw := Dw) rfl ?_
   obtain ⟨v52, v54, v56, h58, h53, h55, h57⟩ := El_know_Index h12
   refine VQ_y (fun w' hw' => Y_loadA (At.same h58 (hw'.2 _ h12.2.1 h12.1)) Tryz.isAgg25 Tryz.sizeOf25 rfl) rfl rfl rfl ?_
   refine VQ_CHZ (Dw := Dw) ?_
   refine CHZ_q2 (Dw := Dw) rfl ?_
   refine VQ_y (fun w' hw' => Y_move rfl) rfl rfl rfl ?_
   refine VQ_CHZ (Dw := Dw) ?_
   refine CHZ_l1 (Dw := Dw) (k := 0) [(2, 7), (2, 2), (2, 3), (1, 4), (1, 5), (1, 6), (4, 8), (1, 9)] rfl ?_ rfl ?_
   ·refine CH_l1 (Dw := Dw) (k := 0) rfl ?_
    refine V_allocHk (Dw := Dw) (B := w.heap.size) hH Tryz.zeroValue51 hB hA rfl ?_
    intro b59 w60 A61 hk64 hH62 ht63
    replace h53 := Sl.tr h53 ht63
    replace h55 := Sl.tr h55 ht63
    replace h57 := Sl.tr h57 ht63
    replace hK := Tr.trans hK ht63
    replace hr17 := Tr.trans hr17 ht63
    replace hB := Nat.le_trans hB ht63.ex.size
    replace hA := ht63.new
    replace hH : Hp w.heap.size A61 w60 (obC b59 [.string ByteArray.empty, .slice none 0 0] 51 :: obS (α := (List Int)) 22 v32 s28.2 :: obS (α := (List Int)) 22 v30 s28.1 :: []) := hH62
    refine V_CH (Dw := Dw) (hk64) ?_
    refine CH_l1 (Dw := Dw) (k := 0) rfl ?_
    obtain ⟨x65, hx65, h37⟩ := Option.bind_eq_some_iff.1 h37
    refine V_call Tryz.call27 rfl rfl rfl rfl (know_Stem_c w60 x45 hx65) ?_
    rintro _ _ ⟨rfl, rfl⟩
    refine V_CH (Dw := Dw) (Kp.refl (Dw := Dw) _) ?_
    refine CH_l1 (Dw := Dw) (k := 0) rfl ?_
    obtain ⟨x66, hx66, h37⟩ := Option.bind_eq_some_iff.1 h37
    refine V_call Tryz.call28 rfl rfl rfl rfl (know_Index_term_c (Dw := Dw) w60 hA x v52 h53 v54 h55 v56 h57 x65 hx66) ?_
    rintro _ w69 ⟨v67, rfl, h68, hk70⟩
    have ht71 := Kp.tr hk70 hA hB
    replace hH := Hp.kp hH hk70
    replace hK := Tr.trans hK ht71
    replace hr17 := Tr.trans hr17 ht71
    replace hB := Nat.le_trans hB ht71.ex.size
    replace hA := ht71.new
    refine V_CH (Dw := Dw) (hk70) ?_
    refine CH_q2 (Dw := Dw) rfl ?_
    refine VQ_y (fun w' hw' => Y_move rfl) rfl rfl rfl ?_
    refine VQ_CH (Dw := Dw) ?_
    refine CH_q2 (Dw := Dw) rfl ?_
    refine VQ_y (fun w' hw' => Y_extract rfl rfl) rfl rfl rfl ?_
    refine VQ_CH (Dw := Dw) ?_
    refine CH_q2 (Dw := Dw) rfl ?_
    refine VQ_y (fun w' hw' => Y_extract rfl rfl) rfl rfl rfl ?_
    refine VQ_CH (Dw := Dw) ?_
    refine CH_l1 (Dw := Dw) (k := 2) rfl ?_
    have h77 : (v67).oneCell' = true := by obtain ⟨_, _, e, _⟩ := Sl.form h68; rw [e]; rfl
    refine V_storeC (Dw := Dw) (off := 0) (ds := [.string x66.1.word, v67]) hH (i := 0) rfl Tryz.sizeOf51 rfl (Nat.le_of_ble_eq_true rfl) (by exact (List.forall_mem_cons.2 ⟨rfl, (List.forall_mem_cons.2 ⟨h77, (fun _ h => nomatch h)⟩)⟩)) rfl hB hA rfl rfl ?_
    intro w72 hH73 ht74
    replace h68 := Sl.tr h68 ht74
    replace hK := Tr.trans hK ht74
    replace hr17 := Tr.trans hr17 ht74
    replace hB := Nat.le_trans hB ht74.ex.size
    replace hA := ht74.new
    replace hH : Hp w.heap.size A61 w72 (obC b59 [.string x66.1.word, v67] 51 :: obS (α := (List Int)) 22 v32 s28.2 :: obS (α := (List Int)) 22 v30 s28.1 :: []) := hH73
    obtain ⟨A78, ht79, h80, hH81⟩ := Hp.freezeC (Dw := Dw) (α := know_Term) (x := x66.1) hH (i := 0) rfl hA (by exact ⟨[.string x66.1.word], _, rfl, rfl, ⟨_, rfl, h68⟩⟩)
    replace hK := Tr.trans hK ht79
    replace hr17 := Tr.trans hr17 ht79
    replace hB := Nat.le_trans hB ht79.ex.size
    replace hA := ht79.new
    replace hH : Hp w.heap.size A78 w72 (obS (α := (List Int)) 22 v32 s28.2 :: obS (α := (List Int)) 22 v30 s28.1 :: []) := hH81
    refine V_CHw (Dw := Dw) ?_
    refine CH_q2 (Dw := Dw) rfl ?_
    refine VQ_y (fun w' hw' => Y_assign rfl) rfl rfl rfl ?_
    refine VQ_CH (Dw := Dw) ?_
    refine CH_tail (Dw := Dw) ?_
    show V _ _ _ _ [] _ _
    refine V_to (fun _ _ => rfl) ?_
    refine C_seq ?_
    refine C_region ?_
    obtain ⟨v82, h84, h83⟩ := El_know_Term h80
    refine V_y (Y_loadA h84 Tryz.isAgg51 Tryz.sizeOf51 rfl) rfl rfl rfl ?_
    refine V_mv rfl rfl ?_
    obtain ⟨x85, hx85, h37⟩ := Option.bind_eq_some_iff.1 h37
    refine V_call Tryz.call32 rfl rfl rfl rfl (know_Term_posting_c (Dw := Dw) w72 hA x66.1 v82 h83 id_ hx85) ?_
    rintro _ w90 ⟨v86, v88, rfl, h87, h89, hk91⟩
    have ht92 := Kp.tr hk91 hA hB
    replace hH := Hp.kp hH hk91
    replace hK := Tr.trans hK ht92
    replace hr17 := Tr.trans hr17 ht92
    replace hB := Nat.le_trans hB ht92.ex.size
    replace hA := ht92.new
    refine V_mv rfl rfl ?_
    refine V_y (Y_extract rfl rfl) rfl rfl rfl ?_
    refine V_y (Y_extract rfl rfl) rfl rfl rfl ?_
    refine V_alloc Tryz.zeroValue69 rfl ?_
    intro b93 w94 h95
    have h100 : (v86).oneCell' = true := by obtain ⟨_, _, e, _⟩ := Sl.form h87; rw [e]; rfl
    have h103 : (v88).oneCell' = true := by obtain ⟨_, _, e, _⟩ := Sl.form h89; rw [e]; rfl
    refine V_storeNew h95 Tryz.sizeOf69 rfl rfl rfl rfl (by exact (List.forall_mem_cons.2 ⟨rfl, (List.forall_mem_cons.2 ⟨h100, (List.forall_mem_cons.2 ⟨h103, (fun _ h => nomatch h)⟩)⟩)⟩)) ?_
    intro w96 h97
    have hk105 := h97.kp (Dw := Dw)
    have h104 : El (α := know_Posting) A78 w96 b93 0 x85.1 := h97.el hA ⟨[.int .i64 x85.1.id_], _, rfl, rfl, ⟨[v86], _, rfl, ⟨_, rfl, h87⟩, ⟨_, rfl, h89⟩⟩⟩
    have ht106 := Kp.tr hk105 hA hB
    replace hH := Hp.kp hH hk105
    replace hK := Tr.trans hK ht106
    replace hr17 := Tr.trans hr17 ht106
    replace hB := Nat.le_trans hB ht106.ex.size
    replace hA := ht106.new
    refine V_as rfl rfl ?_
    refine V_to (fun _ _ => rfl) ?_
    refine C_seq ?_
    refine C_seq ?_
    refine C_region ?_
    refine V_mv rfl rfl ?_
    refine V_y (Y_not rfl) rfl rfl rfl ?_
    refine V_to (fun _ _ => rfl) ?_
    refine C_cond rfl (fun hc107 => ?_) (fun hc107 => ?_)
    ·rw [if_pos hc107] at h37
     refine C_seq ?_
     refine C_region ?_
     refine V_as rfl rfl ?_
     refine V_to (fun _ _ => rfl) ?_
     obtain rfl := Option.some.inj h37
     obtain rfl := (h38 : Lp.rt _ = _)
     rw [Lp.andThen_rt] at hm
     obtain rfl := Option.some.inj hm
     refine C_ret ?_
     try simp only [↓inBlock_ret, ↓then_ret]
     exact retQ rfl (Res.one Tryz.results29 rfl) ⟨rfl, hK.kp⟩
    ·rw [if_neg (nt hc107)] at h37
     refine C_skip_to (fun _ _ => rfl) ?_
     refine C_region_chy (Dw := Dw) A78 8 [7, 6] [(1, 0), (1, 1), (1, 2), (1, 5), (1, 6), (1, 7), (2, 3), (3, 4)] [(4, 9), (1, 10), (1, 11)] Tryz_mixed (by kernel_rfl) (fun w108 hk109 => ?_)
     have ht110 := Kp.tr hk109 hA hB
     replace hH := Hp.kp hH hk109
     replace h104 := El.tr h104 ht110
     replace hr17 := Tr.trans hr17 ht110
     replace hB := Nat.le_trans hB ht110.ex.size
     replace hA := ht110.new
     refine CHZ_q2 (Dw := Dw) rfl ?_
     refine VQ_y (fun w' hw' => Y_move rfl) rfl rfl rfl ?_
     refine VQ_CHZ (Dw := Dw) ?_
     refine CHZ_q2 (Dw := Dw) rfl ?_
     have h111 := El_know_Posting_1 h104
     refine VQ_y (fun w' hw' => Y_fieldAddr Tryz.underlying69 rfl Tryz.sizeOf22 (by decide) rfl) rfl rfl rfl ?_
     refine VQ_CHZ (Dw := Dw) ?_
     refine CHZ_q2 (Dw := Dw) rfl ?_
     obtain ⟨v112, h113, h114⟩ := El.list h111
     refine VQ_y (fun w' hw' => Y_load ((World.cell?_of_block (hw'.2 _ h111.2.1 h111.1)).trans h113) Tryz.isAgg22 rfl) rfl rfl rfl ?_
     refine VQ_CHZ (Dw := Dw) ?_
     refine CHZ_q2 (Dw := Dw) rfl ?_
     refine VQ_y (fun w' hw' => Y_move rfl) rfl rfl rfl ?_
     refine VQ_CHZ (Dw := Dw) ?_
     refine CHZ_q2 (Dw := Dw) rfl ?_
     have h115 := El_know_Posting_2 h104
     refine VQ_y (fun w' hw' => Y_fieldAddr Tryz.underlying69 rfl Tryz.sizeOf22 (by decide) rfl) rfl rfl rfl ?_
     refine VQ_CHZ (Dw := Dw) ?_
     refine CHZ_q2 (Dw := Dw) rfl ?_
     obtain ⟨v116, h117, h118⟩ := El.list h115
     refine VQ_y (fun w' hw' => Y_load ((World.cell?_of_block (hw'.2 _ h115.2.1 h115.1)).trans h117) Tryz.isAgg22 rfl) rfl rfl rfl ?_
     refine VQ_CHZ (Dw := Dw) ?_
     refine CHZ_l1 (Dw := Dw) (k := 0) [(2, 8), (2, 3), (3, 4), (4, 9), (1, 10), (1, 11)] rfl ?_ rfl ?_
     ·refine CH_l1 (Dw := Dw) (k := 0) rfl ?_
      refine V_buildSlice (Dw := Dw) (cells := #[v116]) (l := ([x85.1.body] : List (List Int))) (len := 1) Tryz.underlying81 Tryz.sizeOf22 Tryz.zeroValue22 rfl (by obtain ⟨a123, c124, e125, _⟩ := Sl.form h118; subst e125; kernel_rfl) (show (1 * 1 : Nat) ≠ 0 by decide) (show (1 * 1 : Nat) ≤ 2 ^ 24 by decide) hA ⟨[v116], _, rfl, ⟨_, rfl, h118⟩, rfl⟩ rfl rfl ?_
      intro v119 w120 hk122 h121
      have ht126 := Kp.tr hk122 hA hB
      replace hH := Hp.kp hH hk122
      replace h114 := Sl.tr h114 ht126
      replace hr17 := Tr.trans hr17 ht126
      replace hB := Nat.le_trans hB ht126.ex.size
      replace hA := ht126.new
      refine V_CH (Dw := Dw) (hk122) ?_
      refine CH_l1 (Dw := Dw) (k := 0) rfl ?_
      refine V_buildSlice (Dw := Dw) (cells := #[v112]) (l := ([x85.1.title] : List (List Int))) (len := 1) Tryz.underlying81 Tryz.sizeOf22 Tryz.zeroValue22 rfl (by obtain ⟨a131, c132, e133, _⟩ := Sl.form h114; subst e133; kernel_rfl) (show (1 * 1 : Nat) ≠ 0 by decide) (show (1 * 1 : Nat) ≤ 2 ^ 24 by decide) hA ⟨[v112], _, rfl, ⟨_, rfl, h114⟩, rfl⟩ rfl rfl ?_
      intro v127 w128 hk130 h129
      have ht134 := Kp.tr hk130 hA hB
      replace hH := Hp.kp hH hk130
      replace h121 := Sl.tr h121 ht134
      replace hr17 := Tr.trans hr17 ht134
      replace hB := Nat.le_trans hB ht134.ex.size
      replace hA := ht134.new
      refine V_CH (Dw := Dw) (hk130) ?_
      refine CH_l1 (Dw := Dw) (k := 1) rfl ?_
      obtain ⟨x135, hx135, h37⟩ := Option.bind_eq_some_iff.1 h37
      refine V_appendH (Dw := Dw) (e := 22) (v := v30) (l := s28.1) (ti := Tryz.t22) (bytes := 24) (lim := 5864062014805) hH (i := 1) rfl h129 hx135 Tryz.underlying81 Tryz_info22 rfl rfl rfl rfl (by decide) (by decide) (by decide) hB hA rfl rfl rfl ?_
      intro v136 w137 A138 hH139 ht140
      replace h121 := Sl.tr h121 ht140
      replace hr17 := Tr.trans hr17 ht140
      replace hB := Nat.le_trans hB ht140.ex.size
      replace hA := ht140.new
      replace hH : Hp w.heap.size A138 w137 (obS (α := (List Int)) 22 v32 s28.2 :: obS (α := (List Int)) 22 v136 x135 :: []) := hH139
      refine V_CHx (Dw := Dw) (XA.tr (Dw := Dw) ht140) ?_
      refine CH_l1 (Dw := Dw) (k := 2) rfl ?_
      obtain ⟨x141, hx141, h37⟩ := Option.bind_eq_some_iff.1 h37
      refine V_appendH (Dw := Dw) (e := 22) (v := v32) (l := s28.2) (ti := Tryz.t22) (bytes := 24) (lim := 5864062014805) hH (i := 0) rfl h121 hx141 Tryz.underlying81 Tryz_info22 rfl rfl rfl rfl (by decide) (by decide) (by decide) hB hA rfl rfl rfl ?_
      intro v142 w143 A144 hH145 ht146
      replace hr17 := Tr.trans hr17 ht146
      replace hH : Hp w.heap.size A144 w143 (obS (α := (List Int)) 22 v142 x141 :: obS (α := (List Int)) 22 v136 x135 :: []) := hH145
      refine V_CHw (Dw := Dw) ?_
      refine CH_q2 (Dw := Dw) rfl ?_
      refine VQ_y (fun w' hw' => Y_assign rfl) rfl rfl rfl ?_
      refine VQ_CH (Dw := Dw) ?_
      refine CH_q2 (Dw := Dw) rfl ?_
      refine VQ_y (fun w' hw' => Y_assign rfl) rfl rfl rfl ?_
      refine VQ_CH (Dw := Dw) ?_
      refine CH_tail (Dw := Dw) ?_
      show V _ _ _ _ [] _ _
      refine V_to (fun _ _ => rfl) ?_
      refine C_region ?_
      refine V_y (Y_addI rfl rfl) rfl rfl rfl ?_
      refine V_mv rfl rfl ?_
      obtain rfl := Option.some.inj h37
      refine V_end (fun a ha147 => ?_)
      exact ⟨(x135, x141), hlt40, h38, ⟨(v136, v142, A144), ha147.sub ⟨rfl, rfl, rfl, rfl, rfl, rfl, (congrArg (fun z => some (Value.int .i64 z)) (w64_succ hlt40 hn43)), trivial⟩, ⟨hH, hr17⟩⟩⟩
     refine V_buildSlice (Dw := Dw) (cells := #[v112]) (l := ([x85.1.title] : List (List Int))) (len := 1) Tryz.underlying81 Tryz.sizeOf22 Tryz.zeroValue22 rfl (by obtain ⟨a152, c153, e154, _⟩ := Sl.form h114; subst e154; kernel_rfl) (show (1 * 1 : Nat) ≠ 0 by decide) (show (1 * 1 : Nat) ≤ 2 ^ 24 by decide) hA ⟨[v112], _, rfl, ⟨_, rfl, h114⟩, rfl⟩ rfl rfl ?_
     intro v148 w149 hk151 h150
     have ht155 := Kp.tr hk151 hA hB
     replace hH := Hp.kp hH hk151
     replace h118 := Sl.tr h118 ht155
     replace hr17 := Tr.trans hr17 ht155
     replace hB := Nat.le_trans hB ht155.ex.size
     replace hA := ht155.new
     refine V_CHZ (Dw := Dw) (hk151) ?_
     refine CHZ_l1 (Dw := Dw) (k := 1) [(2, 8), (3, 4), (4, 9), (1, 10), (1, 11)] rfl ?_ rfl ?_
     ·refine CH_l1 (Dw := Dw) (k := 0) rfl ?_
      refine V_buildSlice (Dw := Dw) (cells := #[v116]) (l := ([x85.1.body] : List (List Int))) (len := 1) Tryz.underlying81 Tryz.sizeOf22 Tryz.zeroValue22 rfl (by obtain ⟨a160, c161, e162, _⟩ := Sl.form h118; subst e162; kernel_rfl) (show (1 * 1 : Nat) ≠ 0 by decide) (show (1 * 1 : Nat) ≤ 2 ^ 24 by decide) hA ⟨[v116], _, rfl, ⟨_, rfl, h118⟩, rfl⟩ rfl rfl ?_
      intro v156 w157 hk159 h158
      have ht163 := Kp.tr hk159 hA hB
      replace hH := Hp.kp hH hk159
      replace h150 := Sl.tr h150 ht163
      replace hr17 := Tr.trans hr17 ht163
      replace hB := Nat.le_trans hB ht163.ex.size
      replace hA := ht163.new
      refine V_CH (Dw := Dw) (hk159) ?_
      refine CH_l1 (Dw := Dw) (k := 1) rfl ?_
      obtain ⟨x164, hx164, h37⟩ := Option.bind_eq_some_iff.1 h37
      refine V_appendH (Dw := Dw) (e := 22) (v := v30) (l := s28.1) (ti := Tryz.t22) (bytes := 24) (lim := 5864062014805) hH (i := 1) rfl h150 hx164 Tryz.underlying81 Tryz_info22 rfl rfl rfl rfl (by decide) (by decide) (by decide) hB hA rfl rfl rfl ?_
      intro v165 w166 A167 hH168 ht169
      replace h158 := Sl.tr h158 ht169
      replace hr17 := Tr.trans hr17 ht169
      replace hB := Nat.le_trans hB ht169.ex.size
      replace hA := ht169.new
      replace hH : Hp w.heap.size A167 w166 (obS (α := (List Int)) 22 v32 s28.2 :: obS (α := (List Int)) 22 v165 x164 :: []) := hH168
      refine V_CHx (Dw := Dw) (XA.tr (Dw := Dw) ht169) ?_
      refine CH_l1 (Dw := Dw) (k := 2) rfl ?_
      obtain ⟨x170, hx170, h37⟩ := Option.bind_eq_some_iff.1 h37
      refine V_appendH (Dw := Dw) (e := 22) (v := v32) (l := s28.2) (ti := Tryz.t22) (bytes := 24) (lim := 5864062014805) hH (i := 0) rfl h158 hx170 Tryz.underlying81 Tryz_info22 rfl rfl rfl rfl (by decide) (by decide) (by decide) hB hA rfl rfl rfl ?_
      intro v171 w172 A173 hH174 ht175
      replace hr17 := Tr.trans hr17 ht175
      replace hH : Hp w.heap.size A173 w172 (obS (α := (List Int)) 22 v171 x170 :: obS (α := (List Int)) 22 v165 x164 :: []) := hH174
      refine V_CHw (Dw := Dw) ?_
      refine CH_q2 (Dw := Dw) rfl ?_
      refine VQ_y (fun w' hw' => Y_assign rfl) rfl rfl rfl ?_
      refine VQ_CH (Dw := Dw) ?_
      refine CH_q2 (Dw := Dw) rfl ?_
      refine VQ_y (fun w' hw' => Y_assign rfl) rfl rfl rfl ?_
      refine VQ_CH (Dw := Dw) ?_
      refine CH_tail (Dw := Dw) ?_
      show V _ _ _ _ [] _ _
      refine V_to (fun _ _ => rfl) ?_
      refine C_region ?_
      refine V_y (Y_addI rfl rfl) rfl rfl rfl ?_
      refine V_mv rfl rfl ?_
      obtain rfl := Option.some.inj h37
      refine V_end (fun a ha176 => ?_)
      exact ⟨(x164, x170), hlt40, h38, ⟨(v165, v171, A173), ha176.sub ⟨rfl, rfl, rfl, rfl, rfl, rfl, (congrArg (fun z => some (Value.int .i64 z)) (w64_succ hlt40 hn43)), trivial⟩, ⟨hH, hr17⟩⟩⟩
     obtain ⟨x177, hx177, h37⟩ := Option.bind_eq_some_iff.1 h37
     refine V_appendH (Dw := Dw) (e := 22) (v := v30) (l := s28.1) (ti := Tryz.t22) (bytes := 24) (lim := 5864062014805) hH (i := 1) rfl h150 hx177 Tryz.underlying81 Tryz_info22 rfl rfl rfl rfl (by decide) (by decide) (by decide) hB hA rfl rfl rfl ?_
     intro v178 w179 A180 hH181 ht182
     replace h118 := Sl.tr h118 ht182
     replace hr17 := Tr.trans hr17 ht182
     replace hB := Nat.le_trans hB ht182.ex.size
     replace hA := ht182.new
     replace hH : Hp w.heap.size A180 w179 (obS (α := (List Int)) 22 v32 s28.2 :: obS (α := (List Int)) 22 v178 x177 :: []) := hH181
     refine V_CHZx (Dw := Dw) (XA.tr (Dw := Dw) ht182) ?_
     refine CHZ_nil (Dw := Dw) ?_
     refine CH_l1 (Dw := Dw) (k := 0) rfl ?_
     refine V_buildSlice (Dw := Dw) (cells := #[v116]) (l := ([x85.1.body] : List (List Int))) (len := 1) Tryz.underlying81 Tryz.sizeOf22 Tryz.zeroValue22 rfl (by obtain ⟨a187, c188, e189, _⟩ := Sl.form h118; subst e189; kernel_rfl) (show (1 * 1 : Nat) ≠ 0 by decide) (show (1 * 1 : Nat) ≤ 2 ^ 24 by decide) hA ⟨[v116], _, rfl, ⟨_, rfl, h118⟩, rfl⟩ rfl rfl ?_
     intro v183 w184 hk186 h185
     have ht190 := Kp.tr hk186 hA hB
     replace hH := Hp.kp hH hk186
     replace hr17 := Tr.trans hr17 ht190
     replace hB := Nat.le_trans hB ht190.ex.size
     replace hA := ht190.new
     refine V_CH (Dw := Dw) (hk186) ?_
     refine CH_l1 (Dw := Dw) (k := 2) rfl ?_
     obtain ⟨x191, hx191, h37⟩ := Option.bind_eq_some_iff.1 h37
     refine V_appendH (Dw := Dw) (e := 22) (v := v32) (l := s28.2) (ti := Tryz.t22) (bytes := 24) (lim := 5864062014805) hH (i := 0) rfl h185 hx191 Tryz.underlying81 Tryz_info22 rfl rfl rfl rfl (by decide) (by decide) (by decide) hB hA rfl rfl rfl ?_
     intro v192 w193 A194 hH195 ht196
     replace hr17 := Tr.trans hr17 ht196
     replace hH : Hp w.heap.size A194 w193 (obS (α := (List Int)) 22 v192 x191 :: obS (α := (List Int)) 22 v178 x177 :: []) := hH195
     refine V_CHw (Dw := Dw) ?_
     refine CH_q2 (Dw := Dw) rfl ?_
     refine VQ_y (fun w' hw' => Y_assign rfl) rfl rfl rfl ?_
     refine VQ_CH (Dw := Dw) ?_
     refine CH_q2 (Dw := Dw) rfl ?_
     refine VQ_y (fun w' hw' => Y_assign rfl) rfl rfl rfl ?_
     refine VQ_CH (Dw := Dw) ?_
     refine CH_tail (Dw := Dw) ?_
     show V _ _ _ _ [] _ _
     refine V_to (fun _ _ => rfl) ?_
     refine C_region ?_
     refine V_y (Y_addI rfl rfl) rfl rfl rfl ?_
     refine V_mv rfl rfl ?_
     obtain rfl := Option.some.inj h37
     refine V_end (fun a ha197 => ?_)
     exact ⟨(x177, x191), hlt40, h38, ⟨(v178, v192, A194), ha197.sub ⟨rfl, rfl, rfl, rfl, rfl, rfl, (congrArg (fun z => some (Value.int .i64 z)) (w64_succ hlt40 hn43)), trivial⟩, ⟨hH, hr17⟩⟩⟩
   obtain ⟨x198, hx198, h37⟩ := Option.bind_eq_some_iff.1 h37
   refine V_call Tryz.call27 rfl rfl rfl rfl (know_Stem_c w49 x45 hx198) ?_
   rintro _ _ ⟨rfl, rfl⟩
   refine V_CHZ (Dw := Dw) (Kp.refl (Dw := Dw) _) ?_
   refine CHZ_l1 (Dw := Dw) (k := 0) [(2, 7), (2, 3), (1, 4), (1, 5), (1, 6), (4, 8), (1, 9)] rfl ?_ rfl ?_
   ·refine CH_l1 (Dw := Dw) (k := 0) rfl ?_
    refine V_allocHk (Dw := Dw) (B := w.heap.size) hH Tryz.zeroValue51 hB hA rfl ?_
    intro b199 w200 A201 hk204 hH202 ht203
    replace h53 := Sl.tr h53 ht203
    replace h55 := Sl.tr h55 ht203
    replace h57 := Sl.tr h57 ht203
    replace hK := Tr.trans hK ht203
    replace hr17 := Tr.trans hr17 ht203
    replace hB := Nat.le_trans hB ht203.ex.size
    replace hA := ht203.new
    replace hH : Hp w.heap.size A201 w200 (obC b199 [.string ByteArray.empty, .slice none 0 0] 51 :: obS (α := (List Int)) 22 v32 s28.2 :: obS (α := (List Int)) 22 v30 s28.1 :: []) := hH202
    refine V_CH (Dw := Dw) (hk204) ?_
    refine CH_l1 (Dw := Dw) (k := 0) rfl ?_
    obtain ⟨x205, hx205, h37⟩ := Option.bind_eq_some_iff.1 h37
    refine V_call Tryz.call28 rfl rfl rfl rfl (know_Index_term_c (Dw := Dw) w200 hA x v52 h53 v54 h55 v56 h57 x198 hx205) ?_
    rintro _ w208 ⟨v206, rfl, h207, hk209⟩
    have ht210 := Kp.tr hk209 hA hB
    replace hH := Hp.kp hH hk209
    replace hK := Tr.trans hK ht210
    replace hr17 := Tr.trans hr17 ht210
    replace hB := Nat.le_trans hB ht210.ex.size
    replace hA := ht210.new
    refine V_CH (Dw := Dw) (hk209) ?_
    refine CH_q2 (Dw := Dw) rfl ?_
    refine VQ_y (fun w' hw' => Y_move rfl) rfl rfl rfl ?_
    refine VQ_CH (Dw := Dw) ?_
    refine CH_q2 (Dw := Dw) rfl ?_
    refine VQ_y (fun w' hw' => Y_extract rfl rfl) rfl rfl rfl ?_
    refine VQ_CH (Dw := Dw) ?_
    refine CH_q2 (Dw := Dw) rfl ?_
    refine VQ_y (fun w' hw' => Y_extract rfl rfl) rfl rfl rfl ?_
    refine VQ_CH (Dw := Dw) ?_
    refine CH_l1 (Dw := Dw) (k := 2) rfl ?_
    have h216 : (v206).oneCell' = true := by obtain ⟨_, _, e, _⟩ := Sl.form h207; rw [e]; rfl
    refine V_storeC (Dw := Dw) (off := 0) (ds := [.string x205.1.word, v206]) hH (i := 0) rfl Tryz.sizeOf51 rfl (Nat.le_of_ble_eq_true rfl) (by exact (List.forall_mem_cons.2 ⟨rfl, (List.forall_mem_cons.2 ⟨h216, (fun _ h => nomatch h)⟩)⟩)) rfl hB hA rfl rfl ?_
    intro w211 hH212 ht213
    replace h207 := Sl.tr h207 ht213
    replace hK := Tr.trans hK ht213
    replace hr17 := Tr.trans hr17 ht213
    replace hB := Nat.le_trans hB ht213.ex.size
    replace hA := ht213.new
    replace hH : Hp w.heap.size A201 w211 (obC b199 [.string x205.1.word, v206] 51 :: obS (α := (List Int)) 22 v32 s28.2 :: obS (α := (List Int)) 22 v30 s28.1 :: []) := hH212
    obtain ⟨A217, ht218, h219, hH220⟩ := Hp.freezeC (Dw := Dw) (α := know_Term) (x := x205.1) hH (i := 0) rfl hA (by exact ⟨[.string x205.1.word], _, rfl, rfl, ⟨_, rfl, h207⟩⟩)
    replace hK := Tr.trans hK ht218
    replace hr17 := Tr.trans hr17 ht218
    replace hB := Nat.le_trans hB ht218.ex.size
    replace hA := ht218.new
    replace hH : Hp w.heap.size A217 w211 (obS (α := (List Int)) 22 v32 s28.2 :: obS (α := (List Int)) 22 v30 s28.1 :: []) := hH220
    refine V_CHw (Dw := Dw) ?_
    refine CH_q2 (Dw := Dw) rfl ?_
    refine VQ_y (fun w' hw' => Y_assign rfl) rfl rfl rfl ?_
    refine VQ_CH (Dw := Dw) ?_
    refine CH_tail (Dw := Dw) ?_
    show V _ _ _ _ [] _ _
    refine V_to (fun _ _ => rfl) ?_
    refine C_seq ?_
    refine C_region ?_
    obtain ⟨v221, h223, h222⟩ := El_know_Term h219
    refine V_y (Y_loadA h223 Tryz.isAgg51 Tryz.sizeOf51 rfl) rfl rfl rfl ?_
    refine V_mv rfl rfl ?_
    obtain ⟨x224, hx224, h37⟩ := Option.bind_eq_some_iff.1 h37
    refine V_call Tryz.call32 rfl rfl rfl rfl (know_Term_posting_c (Dw := Dw) w211 hA x205.1 v221 h222 id_ hx224) ?_
    rintro _ w229 ⟨v225, v227, rfl, h226, h228, hk230⟩
    have ht231 := Kp.tr hk230 hA hB
    replace hH := Hp.kp hH hk230
    replace hK := Tr.trans hK ht231
    replace hr17 := Tr.trans hr17 ht231
    replace hB := Nat.le_trans hB ht231.ex.size
    replace hA := ht231.new
    refine V_mv rfl rfl ?_
    refine V_y (Y_extract rfl rfl) rfl rfl rfl ?_
    refine V_y (Y_extract rfl rfl) rfl rfl rfl ?_
    refine V_alloc Tryz.zeroValue69 rfl ?_
    intro b232 w233 h234
    have h239 : (v225).oneCell' = true := by obtain ⟨_, _, e, _⟩ := Sl.form h226; rw [e]; rfl
    have h242 : (v227).oneCell' = true := by obtain ⟨_, _, e, _⟩ := Sl.form h228; rw [e]; rfl
    refine V_storeNew h234 Tryz.sizeOf69 rfl rfl rfl rfl (by exact (List.forall_mem_cons.2 ⟨rfl, (List.forall_mem_cons.2 ⟨h239, (List.forall_mem_cons.2 ⟨h242, (fun _ h => nomatch h)⟩)⟩)⟩)) ?_
    intro w235 h236
    have hk244 := h236.kp (Dw := Dw)
    have h243 : El (α := know_Posting) A217 w235 b232 0 x224.1 := h236.el hA ⟨[.int .i64 x224.1.id_], _, rfl, rfl, ⟨[v225], _, rfl, ⟨_, rfl, h226⟩, ⟨_, rfl, h228⟩⟩⟩
    have ht245 := Kp.tr hk244 hA hB
    replace hH := Hp.kp hH hk244
    replace hK := Tr.trans hK ht245
    replace hr17 := Tr.trans hr17 ht245
    replace hB := Nat.le_trans hB ht245.ex.size
    replace hA := ht245.new
    refine V_as rfl rfl ?_
    refine V_to (fun _ _ => rfl) ?_
    refine C_seq ?_
    refine C_seq ?_
    refine C_region ?_
    refine V_mv rfl rfl ?_
    refine V_y (Y_not rfl) rfl rfl rfl ?_
    refine V_to (fun _ _ => rfl) ?_
    refine C_cond rfl (fun hc246 => ?_) (fun hc246 => ?_)
    ·rw [if_pos hc246] at h37
     refine C_seq ?_
     refine C_region ?_
     refine V_as rfl rfl ?_
     refine V_to (fun _ _ => rfl) ?_
     obtain rfl := Option.some.inj h37
     obtain rfl := (h38 : Lp.rt _ = _)
     rw [Lp.andThen_rt] at hm
     obtain rfl := Option.some.inj hm
     refine C_ret ?_
     try simp only [↓inBlock_ret, ↓then_ret]
     exact retQ rfl (Res.one Tryz.results29 rfl) ⟨rfl, hK.kp⟩
    ·rw [if_neg (nt hc246)] at h37
     refine C_skip_to (fun _ _ => rfl) ?_
     refine C_region_chy (Dw := Dw) A217 8 [7, 6] [(1, 0), (1, 1), (1, 2), (1, 5), (1, 6), (1, 7), (2, 3), (3, 4)] [(4, 9), (1, 10), (1, 11)] Tryz_mixed (by kernel_rfl) (fun w247 hk248 => ?_)
     have ht249 := Kp.tr hk248 hA hB
     replace hH := Hp.kp hH hk248
     replace h243 := El.tr h243 ht249
     replace hr17 := Tr.trans hr17 ht249
     replace hB := Nat.le_trans hB ht249.ex.size
     replace hA := ht249.new
     refine CHZ_q2 (Dw := Dw) rfl ?_
     refine VQ_y (fun w' hw' => Y_move rfl) rfl rfl rfl ?_
     refine VQ_CHZ (Dw := Dw) ?_
     refine CHZ_q2 (Dw := Dw) rfl ?_
     have h250 := El_know_Posting_1 h243
     refine VQ_y (fun w' hw' => Y_fieldAddr Tryz.underlying69 rfl Tryz.sizeOf22 (by decide) rfl) rfl rfl rfl ?_
     refine VQ_CHZ (Dw := Dw) ?_
     refine CHZ_q2 (Dw := Dw) rfl ?_
     obtain ⟨v251, h252, h253⟩ := El.list h250
     refine VQ_y (fun w' hw' => Y_load ((World.cell?_of_block (hw'.2 _ h250.2.1 h250.1)).trans h252) Tryz.isAgg22 rfl) rfl rfl rfl ?_
     refine VQ_CHZ (Dw := Dw) ?_
     refine CHZ_q2 (Dw := Dw) rfl ?_
     refine VQ_y (fun w' hw' => Y_move rfl) rfl rfl rfl ?_
     refine VQ_CHZ (Dw := Dw) ?_
     refine CHZ_q2 (Dw := Dw) rfl ?_
     have h254 := El_know_Posting_2 h243
     refine VQ_y (fun w' hw' => Y_fieldAddr Tryz.underlying69 rfl Tryz.sizeOf22 (by decide) rfl) rfl rfl rfl ?_
     refine VQ_CHZ (Dw := Dw) ?_
     refine CHZ_q2 (Dw := Dw) rfl ?_
     obtain ⟨v255, h256, h257⟩ := El.list h254
     refine VQ_y (fun w' hw' => Y_load ((World.cell?_of_block (hw'.2 _ h254.2.1 h254.1)).trans h256) Tryz.isAgg22 rfl) rfl rfl rfl ?_
     refine VQ_CHZ (Dw := Dw) ?_
     refine CHZ_l1 (Dw := Dw) (k := 0) [(2, 8), (2, 3), (3, 4), (4, 9), (1, 10), (1, 11)] rfl ?_ rfl ?_
     ·refine CH_l1 (Dw := Dw) (k := 0) rfl ?_
      refine V_buildSlice (Dw := Dw) (cells := #[v255]) (l := ([x224.1.body] : List (List Int))) (len := 1) Tryz.underlying81 Tryz.sizeOf22 Tryz.zeroValue22 rfl (by obtain ⟨a262, c263, e264, _⟩ := Sl.form h257; subst e264; kernel_rfl) (show (1 * 1 : Nat) ≠ 0 by decide) (show (1 * 1 : Nat) ≤ 2 ^ 24 by decide) hA ⟨[v255], _, rfl, ⟨_, rfl, h257⟩, rfl⟩ rfl rfl ?_
      intro v258 w259 hk261 h260
      have ht265 := Kp.tr hk261 hA hB
      replace hH := Hp.kp hH hk261
      replace h253 := Sl.tr h253 ht265
      replace hr17 := Tr.trans hr17 ht265
      replace hB := Nat.le_trans hB ht265.ex.size
      replace hA := ht265.new
      refine V_CH (Dw := Dw) (hk261) ?_
      refine CH_l1 (Dw := Dw) (k := 0) rfl ?_
      refine V_buildSlice (Dw := Dw) (cells := #[v251]) (l := ([x224.1.title] : List (List Int))) (len := 1) Tryz.underlying81 Tryz.sizeOf22 Tryz.zeroValue22 rfl (by obtain ⟨a270, c271, e272, _⟩ := Sl.form h253; subst e272; kernel_rfl) (show (1 * 1 : Nat) ≠ 0 by decide) (show (1 * 1 : Nat) ≤ 2 ^ 24 by decide) hA ⟨[v251], _, rfl, ⟨_, rfl, h253⟩, rfl⟩ rfl rfl ?_
      intro v266 w267 hk269 h268
      have ht273 := Kp.tr hk269 hA hB
      replace hH := Hp.kp hH hk269
      replace h260 := Sl.tr h260 ht273
      replace hr17 := Tr.trans hr17 ht273
      replace hB := Nat.le_trans hB ht273.ex.size
      replace hA := ht273.new
      refine V_CH (Dw := Dw) (hk269) ?_
      refine CH_l1 (Dw := Dw) (k := 1) rfl ?_
      obtain ⟨x274, hx274, h37⟩ := Option.bind_eq_some_iff.1 h37
      refine V_appendH (Dw := Dw) (e := 22) (v := v30) (l := s28.1) (ti := Tryz.t22) (bytes := 24) (lim := 5864062014805) hH (i := 1) rfl h268 hx274 Tryz.underlying81 Tryz_info22 rfl rfl rfl rfl (by decide) (by decide) (by decide) hB hA rfl rfl rfl ?_
      intro v275 w276 A277 hH278 ht279
      replace h260 := Sl.tr h260 ht279
      replace hr17 := Tr.trans hr17 ht279
      replace hB := Nat.le_trans hB ht279.ex.size
      replace hA := ht279.new
      replace hH : Hp w.heap.size A277 w276 (obS (α := (List Int)) 22 v32 s28.2 :: obS (α := (List Int)) 22 v275 x274 :: []) := hH278
      refine V_CHx (Dw := Dw) (XA.tr (Dw := Dw) ht279) ?_
      refine CH_l1 (Dw := Dw) (k := 2) rfl ?_
      obtain ⟨x280, hx280, h37⟩ := Option.bind_eq_some_iff.1 h37
      refine V_appendH (Dw := Dw) (e := 22) (v := v32) (l := s28.2) (ti := Tryz.t22) (bytes := 24) (lim := 5864062014805) hH (i := 0) rfl h260 hx280 Tryz.underlying81 Tryz_info22 rfl rfl rfl rfl (by decide) (by decide) (by decide) hB hA rfl rfl rfl ?_
      intro v281 w282 A283 hH284 ht285
      replace hr17 := Tr.trans hr17 ht285
      replace hH : Hp w.heap.size A283 w282 (obS (α := (List Int)) 22 v281 x280 :: obS (α := (List Int)) 22 v275 x274 :: []) := hH284
      refine V_CHw (Dw := Dw) ?_
      refine CH_q2 (Dw := Dw) rfl ?_
      refine VQ_y (fun w' hw' => Y_assign rfl) rfl rfl rfl ?_
      refine VQ_CH (Dw := Dw) ?_
      refine CH_q2 (Dw := Dw) rfl ?_
      refine VQ_y (fun w' hw' => Y_assign rfl) rfl rfl rfl ?_
      refine VQ_CH (Dw := Dw) ?_
      refine CH_tail (Dw := Dw) ?_
      show V _ _ _ _ [] _ _
      refine V_to (fun _ _ => rfl) ?_
      refine C_region ?_
      refine V_y (Y_addI rfl rfl) rfl rfl rfl ?_
      refine V_mv rfl rfl ?_
      obtain rfl := Option.some.inj h37
      refine V_end (fun a ha286 => ?_)
      exact ⟨(x274, x280), hlt40, h38, ⟨(v275, v281, A283), ha286.sub ⟨rfl, rfl, rfl, rfl, rfl, rfl, (congrArg (fun z => some (Value.int .i64 z)) (w64_succ hlt40 hn43)), trivial⟩, ⟨hH, hr17⟩⟩⟩
     refine V_buildSlice (Dw := Dw) (cells := #[v251]) (l := ([x224.1.title] : List (List Int))) (len := 1) Tryz.underlying81 Tryz.sizeOf22 Tryz.zeroValue22 rfl (by obtain ⟨a291, c292, e293, _⟩ := Sl.form h253; subst e293; kernel_rfl) (show (1 * 1 : Nat) ≠ 0 by decide) (show (1 * 1 : Nat) ≤ 2 ^ 24 by decide) hA ⟨[v251], _, rfl, ⟨_, rfl, h253⟩, rfl⟩ rfl rfl ?_
     intro v287 w288 hk290 h289
     have ht294 := Kp.tr hk290 hA hB
     replace hH := Hp.kp hH hk290
     replace h257 := Sl.tr h257 ht294
     replace hr17 := Tr.trans hr17 ht294
     replace hB := Nat.le_trans hB ht294.ex.size
     replace hA := ht294.new
     refine V_CHZ (Dw := Dw) (hk290) ?_
     refine CHZ_l1 (Dw := Dw) (k := 1) [(2, 8), (3, 4), (4, 9), (1, 10), (1, 11)] rfl ?_ rfl ?_
     ·refine CH_l1 (Dw := Dw) (k := 0) rfl ?_
      refine V_buildSlice (Dw := Dw) (cells := #[v255]) (l := ([x224.1.body] : List (List Int))) (len := 1) Tryz.underlying81 Tryz.sizeOf22 Tryz.zeroValue22 rfl (by obtain ⟨a299, c300, e301, _⟩ := Sl.form h257; subst e301; kernel_rfl) (show (1 * 1 : Nat) ≠ 0 by decide) (show (1 * 1 : Nat) ≤ 2 ^ 24 by decide) hA ⟨[v255], _, rfl, ⟨_, rfl, h257⟩, rfl⟩ rfl rfl ?_
      intro v295 w296 hk298 h297
      have ht302 := Kp.tr hk298 hA hB
      replace hH := Hp.kp hH hk298
      replace h289 := Sl.tr h289 ht302
      replace hr17 := Tr.trans hr17 ht302
      replace hB := Nat.le_trans hB ht302.ex.size
      replace hA := ht302.new
      refine V_CH (Dw := Dw) (hk298) ?_
      refine CH_l1 (Dw := Dw) (k := 1) rfl ?_
      obtain ⟨x303, hx303, h37⟩ := Option.bind_eq_some_iff.1 h37
      refine V_appendH (Dw := Dw) (e := 22) (v := v30) (l := s28.1) (ti := Tryz.t22) (bytes := 24) (lim := 5864062014805) hH (i := 1) rfl h289 hx303 Tryz.underlying81 Tryz_info22 rfl rfl rfl rfl (by decide) (by decide) (by decide) hB hA rfl rfl rfl ?_
      intro v304 w305 A306 hH307 ht308
      replace h297 := Sl.tr h297 ht308
      replace hr17 := Tr.trans hr17 ht308
      replace hB := Nat.le_trans hB ht308.ex.size
      replace hA := ht308.new
      replace hH : Hp w.heap.size A306 w305 (obS (α := (List Int)) 22 v32 s28.2 :: obS (α := (List Int)) 22 v304 x303 :: []) := hH307
      refine V_CHx (Dw := Dw) (XA.tr (Dw := Dw) ht308) ?_
      refine CH_l1 (Dw := Dw) (k := 2) rfl ?_
      obtain ⟨x309, hx309, h37⟩ := Option.bind_eq_some_iff.1 h37
      refine V_appendH (Dw := Dw) (e := 22) (v := v32) (l := s28.2) (ti := Tryz.t22) (bytes := 24) (lim := 5864062014805) hH (i := 0) rfl h297 hx309 Tryz.underlying81 Tryz_info22 rfl rfl rfl rfl (by decide) (by decide) (by decide) hB hA rfl rfl rfl ?_
      intro v310 w311 A312 hH313 ht314
      replace hr17 := Tr.trans hr17 ht314
      replace hH : Hp w.heap.size A312 w311 (obS (α := (List Int)) 22 v310 x309 :: obS (α := (List Int)) 22 v304 x303 :: []) := hH313
      refine V_CHw (Dw := Dw) ?_
      refine CH_q2 (Dw := Dw) rfl ?_
      refine VQ_y (fun w' hw' => Y_assign rfl) rfl rfl rfl ?_
      refine VQ_CH (Dw := Dw) ?_
      refine CH_q2 (Dw := Dw) rfl ?_
      refine VQ_y (fun w' hw' => Y_assign rfl) rfl rfl rfl ?_
      refine VQ_CH (Dw := Dw) ?_
      refine CH_tail (Dw := Dw) ?_
      show V _ _ _ _ [] _ _
      refine V_to (fun _ _ => rfl) ?_
      refine C_region ?_
      refine V_y (Y_addI rfl rfl) rfl rfl rfl ?_
      refine V_mv rfl rfl ?_
      obtain rfl := Option.some.inj h37
      refine V_end (fun a ha315 => ?_)
      exact ⟨(x303, x309), hlt40, h38, ⟨(v304, v310, A312), ha315.sub ⟨rfl, rfl, rfl, rfl, rfl, rfl, (congrArg (fun z => some (Value.int .i64 z)) (w64_succ hlt40 hn43)), trivial⟩, ⟨hH, hr17⟩⟩⟩
     obtain ⟨x316, hx316, h37⟩ := Option.bind_eq_some_iff.1 h37
     refine V_appendH (Dw := Dw) (e := 22) (v := v30) (l := s28.1) (ti := Tryz.t22) (bytes := 24) (lim := 5864062014805) hH (i := 1) rfl h289 hx316 Tryz.underlying81 Tryz_info22 rfl rfl rfl rfl (by decide) (by decide) (by decide) hB hA rfl rfl rfl ?_
     intro v317 w318 A319 hH320 ht321
     replace h257 := Sl.tr h257 ht321
     replace hr17 := Tr.trans hr17 ht321
     replace hB := Nat.le_trans hB ht321.ex.size
     replace hA := ht321.new
     replace hH : Hp w.heap.size A319 w318 (obS (α := (List Int)) 22 v32 s28.2 :: obS (α := (List Int)) 22 v317 x316 :: []) := hH320
     refine V_CHZx (Dw := Dw) (XA.tr (Dw := Dw) ht321) ?_
     refine CHZ_nil (Dw := Dw) ?_
     refine CH_l1 (Dw := Dw) (k := 0) rfl ?_
     refine V_buildSlice (Dw := Dw) (cells := #[v255]) (l := ([x224.1.body] : List (List Int))) (len := 1) Tryz.underlying81 Tryz.sizeOf22 Tryz.zeroValue22 rfl (by obtain ⟨a326, c327, e328, _⟩ := Sl.form h257; subst e328; kernel_rfl) (show (1 * 1 : Nat) ≠ 0 by decide) (show (1 * 1 : Nat) ≤ 2 ^ 24 by decide) hA ⟨[v255], _, rfl, ⟨_, rfl, h257⟩, rfl⟩ rfl rfl ?_
     intro v322 w323 hk325 h324
     have ht329 := Kp.tr hk325 hA hB
     replace hH := Hp.kp hH hk325
     replace hr17 := Tr.trans hr17 ht329
     replace hB := Nat.le_trans hB ht329.ex.size
     replace hA := ht329.new
     refine V_CH (Dw := Dw) (hk325) ?_
     refine CH_l1 (Dw := Dw) (k := 2) rfl ?_
     obtain ⟨x330, hx330, h37⟩ := Option.bind_eq_some_iff.1 h37
     refine V_appendH (Dw := Dw) (e := 22) (v := v32) (l := s28.2) (ti := Tryz.t22) (bytes := 24) (lim := 5864062014805) hH (i := 0) rfl h324 hx330 Tryz.underlying81 Tryz_info22 rfl rfl rfl rfl (by decide) (by decide) (by decide) hB hA rfl rfl rfl ?_
     intro v331 w332 A333 hH334 ht335
     replace hr17 := Tr.trans hr17 ht335
     replace hH : Hp w.heap.size A333 w332 (obS (α := (List Int)) 22 v331 x330 :: obS (α := (List Int)) 22 v317 x316 :: []) := hH334
     refine V_CHw (Dw := Dw) ?_
     refine CH_q2 (Dw := Dw) rfl ?_
     refine VQ_y (fun w' hw' => Y_assign rfl) rfl rfl rfl ?_
     refine VQ_CH (Dw := Dw) ?_
     refine CH_q2 (Dw := Dw) rfl ?_
     refine VQ_y (fun w' hw' => Y_assign rfl) rfl rfl rfl ?_
     refine VQ_CH (Dw := Dw) ?_
     refine CH_tail (Dw := Dw) ?_
     show V _ _ _ _ [] _ _
     refine V_to (fun _ _ => rfl) ?_
     refine C_region ?_
     refine V_y (Y_addI rfl rfl) rfl rfl rfl ?_
     refine V_mv rfl rfl ?_
     obtain rfl := Option.some.inj h37
     refine V_end (fun a ha336 => ?_)
     exact ⟨(x316, x330), hlt40, h38, ⟨(v317, v331, A333), ha336.sub ⟨rfl, rfl, rfl, rfl, rfl, rfl, (congrArg (fun z => some (Value.int .i64 z)) (w64_succ hlt40 hn43)), trivial⟩, ⟨hH, hr17⟩⟩⟩
   obtain ⟨x337, hx337, h37⟩ := Option.bind_eq_some_iff.1 h37
   refine V_call Tryz.call28 rfl rfl rfl rfl (know_Index_term_c (Dw := Dw) w49 hA x v52 h53 v54 h55 v56 h57 x198 hx337) ?_
   rintro _ w340 ⟨v338, rfl, h339, hk341⟩
   have ht342 := Kp.tr hk341 hA hB
   replace hH := Hp.kp hH hk341
   replace hK := Tr.trans hK ht342
   replace hr17 := Tr.trans hr17 ht342
   replace hB := Nat.le_trans hB ht342.ex.size
   replace hA := ht342.new
   refine V_CHZ (Dw := Dw) (hk341) ?_
   refine CHZ_q2 (Dw := Dw) rfl ?_
   refine VQ_y (fun w' hw' => Y_move rfl) rfl rfl rfl ?_
   refine VQ_CHZ (Dw := Dw) ?_
   refine CHZ_q2 (Dw := Dw) rfl ?_
   refine VQ_y (fun w' hw' => Y_extract rfl rfl) rfl rfl rfl ?_
   refine VQ_CHZ (Dw := Dw) ?_
   refine CHZ_q2 (Dw := Dw) rfl ?_
   refine VQ_y (fun w' hw' => Y_extract rfl rfl) rfl rfl rfl ?_
   refine VQ_CHZ (Dw := Dw) ?_
   refine CHZ_nil (Dw := Dw) ?_
   refine CH_l1 (Dw := Dw) (k := 0) rfl ?_
   refine V_allocHk (Dw := Dw) (B := w.heap.size) hH Tryz.zeroValue51 hB hA rfl ?_
   intro b343 w344 A345 hk348 hH346 ht347
   replace h339 := Sl.tr h339 ht347
   replace hK := Tr.trans hK ht347
   replace hr17 := Tr.trans hr17 ht347
   replace hB := Nat.le_trans hB ht347.ex.size
   replace hA := ht347.new
   replace hH : Hp w.heap.size A345 w344 (obC b343 [.string ByteArray.empty, .slice none 0 0] 51 :: obS (α := (List Int)) 22 v32 s28.2 :: obS (α := (List Int)) 22 v30 s28.1 :: []) := hH346
   refine V_CH (Dw := Dw) (hk348) ?_
   refine CH_l1 (Dw := Dw) (k := 2) rfl ?_
   have h354 : (v338).oneCell' = true := by obtain ⟨_, _, e, _⟩ := Sl.form h339; rw [e]; rfl
   refine V_storeC (Dw := Dw) (off := 0) (ds := [.string x337.1.word, v338]) hH (i := 0) rfl Tryz.sizeOf51 rfl (Nat.le_of_ble_eq_true rfl) (by exact (List.forall_mem_cons.2 ⟨rfl, (List.forall_mem_cons.2 ⟨h354, (fun _ h => nomatch h)⟩)⟩)) rfl hB hA rfl rfl ?_
   intro w349 hH350 ht351
   replace h339 := Sl.tr h339 ht351
   replace hK := Tr.trans hK ht351
   replace hr17 := Tr.trans hr17 ht351
   replace hB := Nat.le_trans hB ht351.ex.size
   replace hA := ht351.new
   replace hH : Hp w.heap.size A345 w349 (obC b343 [.string x337.1.word, v338] 51 :: obS (α := (List Int)) 22 v32 s28.2 :: obS (α := (List Int)) 22 v30 s28.1 :: []) := hH350
   obtain ⟨A355, ht356, h357, hH358⟩ := Hp.freezeC (Dw := Dw) (α := know_Term) (x := x337.1) hH (i := 0) rfl hA (by exact ⟨[.string x337.1.word], _, rfl, rfl, ⟨_, rfl, h339⟩⟩)
   replace hK := Tr.trans hK ht356
   replace hr17 := Tr.trans hr17 ht356
   replace hB := Nat.le_trans hB ht356.ex.size
   replace hA := ht356.new
   replace hH : Hp w.heap.size A355 w349 (obS (α := (List Int)) 22 v32 s28.2 :: obS (α := (List Int)) 22 v30 s28.1 :: []) := hH358
   refine V_CHw (Dw := Dw) ?_
   refine CH_q2 (Dw := Dw) rfl ?_
   refine VQ_y (fun w' hw' => Y_assign rfl) rfl rfl rfl ?_
   refine VQ_CH (Dw := Dw) ?_
   refine CH_tail (Dw := Dw) ?_
   show V _ _ _ _ [] _ _
   refine V_to (fun _ _ => rfl) ?_
   refine C_seq ?_
   refine C_region ?_
   obtain ⟨v359, h361, h360⟩ := El_know_Term h357
   refine V_y (Y_loadA h361 Tryz.isAgg51 Tryz.sizeOf51 rfl) rfl rfl rfl ?_
   refine V_mv rfl rfl ?_
   obtain ⟨x362, hx362, h37⟩ := Option.bind_eq_some_iff.1 h37
   refine V_call Tryz.call32 rfl rfl rfl rfl (know_Term_posting_c (Dw := Dw) w349 hA x337.1 v359 h360 id_ hx362) ?_
   rintro _ w367 ⟨v363, v365, rfl, h364, h366, hk368⟩
   have ht369 := Kp.tr hk368 hA hB
   replace hH := Hp.kp hH hk368
   replace hK := Tr.trans hK ht369
   replace hr17 := Tr.trans hr17 ht369
   replace hB := Nat.le_trans hB ht369.ex.size
   replace hA := ht369.new
   refine V_mv rfl rfl ?_
   refine V_y (Y_extract rfl rfl) rfl rfl rfl ?_
   refine V_y (Y_extract rfl rfl) rfl rfl rfl ?_
   refine V_alloc Tryz.zeroValue69 rfl ?_
   intro b370 w371 h372
   have h377 : (v363).oneCell' = true := by obtain ⟨_, _, e, _⟩ := Sl.form h364; rw [e]; rfl
   have h380 : (v365).oneCell' = true := by obtain ⟨_, _, e, _⟩ := Sl.form h366; rw [e]; rfl
   refine V_storeNew h372 Tryz.sizeOf69 rfl rfl rfl rfl (by exact (List.forall_mem_cons.2 ⟨rfl, (List.forall_mem_cons.2 ⟨h377, (List.forall_mem_cons.2 ⟨h380, (fun _ h => nomatch h)⟩)⟩)⟩)) ?_
   intro w373 h374
   have hk382 := h374.kp (Dw := Dw)
   have h381 : El (α := know_Posting) A355 w373 b370 0 x362.1 := h374.el hA ⟨[.int .i64 x362.1.id_], _, rfl, rfl, ⟨[v363], _, rfl, ⟨_, rfl, h364⟩, ⟨_, rfl, h366⟩⟩⟩
   have ht383 := Kp.tr hk382 hA hB
   replace hH := Hp.kp hH hk382
   replace hK := Tr.trans hK ht383
   replace hr17 := Tr.trans hr17 ht383
   replace hB := Nat.le_trans hB ht383.ex.size
   replace hA := ht383.new
   refine V_as rfl rfl ?_
   refine V_to (fun _ _ => rfl) ?_
   refine C_seq ?_
   refine C_seq ?_
   refine C_region ?_
   refine V_mv rfl rfl ?_
   refine V_y (Y_not rfl) rfl rfl rfl ?_
   refine V_to (fun _ _ => rfl) ?_
   refine C_cond rfl (fun hc384 => ?_) (fun hc384 => ?_)
   ·rw [if_pos hc384] at h37
    refine C_seq ?_
    refine C_region ?_
    refine V_as rfl rfl ?_
    refine V_to (fun _ _ => rfl) ?_
    obtain rfl := Option.some.inj h37
    obtain rfl := (h38 : Lp.rt _ = _)
    rw [Lp.andThen_rt] at hm
    obtain rfl := Option.some.inj hm
    refine C_ret ?_
    try simp only [↓inBlock_ret, ↓then_ret]
    exact retQ rfl (Res.one Tryz.results29 rfl) ⟨rfl, hK.kp⟩
   ·rw [if_neg (nt hc384)] at h37
    refine C_skip_to (fun _ _ => rfl) ?_
    refine C_region_chy (Dw := Dw) A355 8 [7, 6] [(1, 0), (1, 1), (1, 2), (1, 5), (1, 6), (1, 7), (2, 3), (3, 4)] [(4, 9), (1, 10), (1, 11)] Tryz_mixed (by kernel_rfl) (fun w385 hk386 => ?_)
    have ht387 := Kp.tr hk386 hA hB
    replace hH := Hp.kp hH hk386
    replace h381 := El.tr h381 ht387
    replace hr17 := Tr.trans hr17 ht387
    replace hB := Nat.le_trans hB ht387.ex.size
    replace hA := ht387.new
    refine CHZ_q2 (Dw := Dw) rfl ?_
    refine VQ_y (fun w' hw' => Y_move rfl) rfl rfl rfl ?_
    refine VQ_CHZ (Dw := Dw) ?_
    refine CHZ_q2 (Dw := Dw) rfl ?_
    have h388 := El_know_Posting_1 h381
    refine VQ_y (fun w' hw' => Y_fieldAddr Tryz.underlying69 rfl Tryz.sizeOf22 (by decide) rfl) rfl rfl rfl ?_
    refine VQ_CHZ (Dw := Dw) ?_
    refine CHZ_q2 (Dw := Dw) rfl ?_
    obtain ⟨v389, h390, h391⟩ := El.list h388
    refine VQ_y (fun w' hw' => Y_load ((World.cell?_of_block (hw'.2 _ h388.2.1 h388.1)).trans h390) Tryz.isAgg22 rfl) rfl rfl rfl ?_
    refine VQ_CHZ (Dw := Dw) ?_
    refine CHZ_q2 (Dw := Dw) rfl ?_
    refine VQ_y (fun w' hw' => Y_move rfl) rfl rfl rfl ?_
    refine VQ_CHZ (Dw := Dw) ?_
    refine CHZ_q2 (Dw := Dw) rfl ?_
    have h392 := El_know_Posting_2 h381
    refine VQ_y (fun w' hw' => Y_fieldAddr Tryz.underlying69 rfl Tryz.sizeOf22 (by decide) rfl) rfl rfl rfl ?_
    refine VQ_CHZ (Dw := Dw) ?_
    refine CHZ_q2 (Dw := Dw) rfl ?_
    obtain ⟨v393, h394, h395⟩ := El.list h392
    refine VQ_y (fun w' hw' => Y_load ((World.cell?_of_block (hw'.2 _ h392.2.1 h392.1)).trans h394) Tryz.isAgg22 rfl) rfl rfl rfl ?_
    refine VQ_CHZ (Dw := Dw) ?_
    refine CHZ_l1 (Dw := Dw) (k := 0) [(2, 8), (2, 3), (3, 4), (4, 9), (1, 10), (1, 11)] rfl ?_ rfl ?_
    ·refine CH_l1 (Dw := Dw) (k := 0) rfl ?_
     refine V_buildSlice (Dw := Dw) (cells := #[v393]) (l := ([x362.1.body] : List (List Int))) (len := 1) Tryz.underlying81 Tryz.sizeOf22 Tryz.zeroValue22 rfl (by obtain ⟨a400, c401, e402, _⟩ := Sl.form h395; subst e402; kernel_rfl) (show (1 * 1 : Nat) ≠ 0 by decide) (show (1 * 1 : Nat) ≤ 2 ^ 24 by decide) hA ⟨[v393], _, rfl, ⟨_, rfl, h395⟩, rfl⟩ rfl rfl ?_
     intro v396 w397 hk399 h398
     have ht403 := Kp.tr hk399 hA hB
     replace hH := Hp.kp hH hk399
     replace h391 := Sl.tr h391 ht403
     replace hr17 := Tr.trans hr17 ht403
     replace hB := Nat.le_trans hB ht403.ex.size
     replace hA := ht403.new
     refine V_CH (Dw := Dw) (hk399) ?_
     refine CH_l1 (Dw := Dw) (k := 0) rfl ?_
     refine V_buildSlice (Dw := Dw) (cells := #[v389]) (l := ([x362.1.title] : List (List Int))) (len := 1) Tryz.underlying81 Tryz.sizeOf22 Tryz.zeroValue22 rfl (by obtain ⟨a408, c409, e410, _⟩ := Sl.form h391; subst e410; kernel_rfl) (show (1 * 1 : Nat) ≠ 0 by decide) (show (1 * 1 : Nat) ≤ 2 ^ 24 by decide) hA ⟨[v389], _, rfl, ⟨_, rfl, h391⟩, rfl⟩ rfl rfl ?_
     intro v404 w405 hk407 h406
     have ht411 := Kp.tr hk407 hA hB
     replace hH := Hp.kp hH hk407
     replace h398 := Sl.tr h398 ht411
     replace hr17 := Tr.trans hr17 ht411
     replace hB := Nat.le_trans hB ht411.ex.size
     replace hA := ht411.new
     refine V_CH (Dw := Dw) (hk407) ?_
     refine CH_l1 (Dw := Dw) (k := 1) rfl ?_
     obtain ⟨x412, hx412, h37⟩ := Option.bind_eq_some_iff.1 h37
     refine V_appendH (Dw := Dw) (e := 22) (v := v30) (l := s28.1) (ti := Tryz.t22) (bytes := 24) (lim := 5864062014805) hH (i := 1) rfl h406 hx412 Tryz.underlying81 Tryz_info22 rfl rfl rfl rfl (by decide) (by decide) (by decide) hB hA rfl rfl rfl ?_
     intro v413 w414 A415 hH416 ht417
     replace h398 := Sl.tr h398 ht417
     replace hr17 := Tr.trans hr17 ht417
     replace hB := Nat.le_trans hB ht417.ex.size
     replace hA := ht417.new
     replace hH : Hp w.heap.size A415 w414 (obS (α := (List Int)) 22 v32 s28.2 :: obS (α := (List Int)) 22 v413 x412 :: []) := hH416
     refine V_CHx (Dw := Dw) (XA.tr (Dw := Dw) ht417) ?_
     refine CH_l1 (Dw := Dw) (k := 2) rfl ?_
     obtain ⟨x418, hx418, h37⟩ := Option.bind_eq_some_iff.1 h37
     refine V_appendH (Dw := Dw) (e := 22) (v := v32) (l := s28.2) (ti := Tryz.t22) (bytes := 24) (lim := 5864062014805) hH (i := 0) rfl h398 hx418 Tryz.underlying81 Tryz_info22 rfl rfl rfl rfl (by decide) (by decide) (by decide) hB hA rfl rfl rfl ?_
     intro v419 w420 A421 hH422 ht423
     replace hr17 := Tr.trans hr17 ht423
     replace hH : Hp w.heap.size A421 w420 (obS (α := (List Int)) 22 v419 x418 :: obS (α := (List Int)) 22 v413 x412 :: []) := hH422
     refine V_CHw (Dw := Dw) ?_
     refine CH_q2 (Dw := Dw) rfl ?_
     refine VQ_y (fun w' hw' => Y_assign rfl) rfl rfl rfl ?_
     refine VQ_CH (Dw := Dw) ?_
     refine CH_q2 (Dw := Dw) rfl ?_
     refine VQ_y (fun w' hw' => Y_assign rfl) rfl rfl rfl ?_
     refine VQ_CH (Dw := Dw) ?_
     refine CH_tail (Dw := Dw) ?_
     show V _ _ _ _ [] _ _
     refine V_to (fun _ _ => rfl) ?_
     refine C_region ?_
     refine V_y (Y_addI rfl rfl) rfl rfl rfl ?_
     refine V_mv rfl rfl ?_
     obtain rfl := Option.some.inj h37
     refine V_end (fun a ha424 => ?_)
     exact ⟨(x412, x418), hlt40, h38, ⟨(v413, v419, A421), ha424.sub ⟨rfl, rfl, rfl, rfl, rfl, rfl, (congrArg (fun z => some (Value.int .i64 z)) (w64_succ hlt40 hn43)), trivial⟩, ⟨hH, hr17⟩⟩⟩
    refine V_buildSlice (Dw := Dw) (cells := #[v389]) (l := ([x362.1.title] : List (List Int))) (len := 1) Tryz.underlying81 Tryz.sizeOf22 Tryz.zeroValue22 rfl (by obtain ⟨a429, c430, e431, _⟩ := Sl.form h391; subst e431; kernel_rfl) (show (1 * 1 : Nat) ≠ 0 by decide) (show (1 * 1 : Nat) ≤ 2 ^ 24 by decide) hA ⟨[v389], _, rfl, ⟨_, rfl, h391⟩, rfl⟩ rfl rfl ?_
    intro v425 w426 hk428 h427
    have ht432 := Kp.tr hk428 hA hB
    replace hH := Hp.kp hH hk428
    replace h395 := Sl.tr h395 ht432
    replace hr17 := Tr.trans hr17 ht432
    replace hB := Nat.le_trans hB ht432.ex.size
    replace hA := ht432.new
    refine V_CHZ (Dw := Dw) (hk428) ?_
    refine CHZ_l1 (Dw := Dw) (k := 1) [(2, 8), (3, 4), (4, 9), (1, 10), (1, 11)] rfl ?_ rfl ?_
    ·refine CH_l1 (Dw := Dw) (k := 0) rfl ?_
     refine V_buildSlice (Dw := Dw) (cells := #[v393]) (l := ([x362.1.body] : List (List Int))) (len := 1) Tryz.underlying81 Tryz.sizeOf22 Tryz.zeroValue22 rfl (by obtain ⟨a437, c438, e439, _⟩ := Sl.form h395; subst e439; kernel_rfl) (show (1 * 1 : Nat) ≠ 0 by decide) (show (1 * 1 : Nat) ≤ 2 ^ 24 by decide) hA ⟨[v393], _, rfl, ⟨_, rfl, h395⟩, rfl⟩ rfl rfl ?_
     intro v433 w434 hk436 h435
     have ht440 := Kp.tr hk436 hA hB
     replace hH := Hp.kp hH hk436
     replace h427 := Sl.tr h427 ht440
     replace hr17 := Tr.trans hr17 ht440
     replace hB := Nat.le_trans hB ht440.ex.size
     replace hA := ht440.new
     refine V_CH (Dw := Dw) (hk436) ?_
     refine CH_l1 (Dw := Dw) (k := 1) rfl ?_
     obtain ⟨x441, hx441, h37⟩ := Option.bind_eq_some_iff.1 h37
     refine V_appendH (Dw := Dw) (e := 22) (v := v30) (l := s28.1) (ti := Tryz.t22) (bytes := 24) (lim := 5864062014805) hH (i := 1) rfl h427 hx441 Tryz.underlying81 Tryz_info22 rfl rfl rfl rfl (by decide) (by decide) (by decide) hB hA rfl rfl rfl ?_
     intro v442 w443 A444 hH445 ht446
     replace h435 := Sl.tr h435 ht446
     replace hr17 := Tr.trans hr17 ht446
     replace hB := Nat.le_trans hB ht446.ex.size
     replace hA := ht446.new
     replace hH : Hp w.heap.size A444 w443 (obS (α := (List Int)) 22 v32 s28.2 :: obS (α := (List Int)) 22 v442 x441 :: []) := hH445
     refine V_CHx (Dw := Dw) (XA.tr (Dw := Dw) ht446) ?_
     refine CH_l1 (Dw := Dw) (k := 2) rfl ?_
     obtain ⟨x447, hx447, h37⟩ := Option.bind_eq_some_iff.1 h37
     refine V_appendH (Dw := Dw) (e := 22) (v := v32) (l := s28.2) (ti := Tryz.t22) (bytes := 24) (lim := 5864062014805) hH (i := 0) rfl h435 hx447 Tryz.underlying81 Tryz_info22 rfl rfl rfl rfl (by decide) (by decide) (by decide) hB hA rfl rfl rfl ?_
     intro v448 w449 A450 hH451 ht452
     replace hr17 := Tr.trans hr17 ht452
     replace hH : Hp w.heap.size A450 w449 (obS (α := (List Int)) 22 v448 x447 :: obS (α := (List Int)) 22 v442 x441 :: []) := hH451
     refine V_CHw (Dw := Dw) ?_
     refine CH_q2 (Dw := Dw) rfl ?_
     refine VQ_y (fun w' hw' => Y_assign rfl) rfl rfl rfl ?_
     refine VQ_CH (Dw := Dw) ?_
     refine CH_q2 (Dw := Dw) rfl ?_
     refine VQ_y (fun w' hw' => Y_assign rfl) rfl rfl rfl ?_
     refine VQ_CH (Dw := Dw) ?_
     refine CH_tail (Dw := Dw) ?_
     show V _ _ _ _ [] _ _
     refine V_to (fun _ _ => rfl) ?_
     refine C_region ?_
     refine V_y (Y_addI rfl rfl) rfl rfl rfl ?_
     refine V_mv rfl rfl ?_
     obtain rfl := Option.some.inj h37
     refine V_end (fun a ha453 => ?_)
     exact ⟨(x441, x447), hlt40, h38, ⟨(v442, v448, A450), ha453.sub ⟨rfl, rfl, rfl, rfl, rfl, rfl, (congrArg (fun z => some (Value.int .i64 z)) (w64_succ hlt40 hn43)), trivial⟩, ⟨hH, hr17⟩⟩⟩
    obtain ⟨x454, hx454, h37⟩ := Option.bind_eq_some_iff.1 h37
    refine V_appendH (Dw := Dw) (e := 22) (v := v30) (l := s28.1) (ti := Tryz.t22) (bytes := 24) (lim := 5864062014805) hH (i := 1) rfl h427 hx454 Tryz.underlying81 Tryz_info22 rfl rfl rfl rfl (by decide) (by decide) (by decide) hB hA rfl rfl rfl ?_
    intro v455 w456 A457 hH458 ht459
    replace h395 := Sl.tr h395 ht459
    replace hr17 := Tr.trans hr17 ht459
    replace hB := Nat.le_trans hB ht459.ex.size
    replace hA := ht459.new
    replace hH : Hp w.heap.size A457 w456 (obS (α := (List Int)) 22 v32 s28.2 :: obS (α := (List Int)) 22 v455 x454 :: []) := hH458
    refine V_CHZx (Dw := Dw) (XA.tr (Dw := Dw) ht459) ?_
    refine CHZ_nil (Dw := Dw) ?_
    refine CH_l1 (Dw := Dw) (k := 0) rfl ?_
    refine V_buildSlice (Dw := Dw) (cells := #[v393]) (l := ([x362.1.body] : List (List Int))) (len := 1) Tryz.underlying81 Tryz.sizeOf22 Tryz.zeroValue22 rfl (by obtain ⟨a464, c465, e466, _⟩ := Sl.form h395; subst e466; kernel_rfl) (show (1 * 1 : Nat) ≠ 0 by decide) (show (1 * 1 : Nat) ≤ 2 ^ 24 by decide) hA ⟨[v393], _, rfl, ⟨_, rfl, h395⟩, rfl⟩ rfl rfl ?_
    intro v460 w461 hk463 h462
    have ht467 := Kp.tr hk463 hA hB
    replace hH := Hp.kp hH hk463
    replace hr17 := Tr.trans hr17 ht467
    replace hB := Nat.le_trans hB ht467.ex.size
    replace hA := ht467.new
    refine V_CH (Dw := Dw) (hk463) ?_
    refine CH_l1 (Dw := Dw) (k := 2) rfl ?_
    obtain ⟨x468, hx468, h37⟩ := Option.bind_eq_some_iff.1 h37
    refine V_appendH (Dw := Dw) (e := 22) (v := v32) (l := s28.2) (ti := Tryz.t22) (bytes := 24) (lim := 5864062014805) hH (i := 0) rfl h462 hx468 Tryz.underlying81 Tryz_info22 rfl rfl rfl rfl (by decide) (by decide) (by decide) hB hA rfl rfl rfl ?_
    intro v469 w470 A471 hH472 ht473
    replace hr17 := Tr.trans hr17 ht473
    replace hH : Hp w.heap.size A471 w470 (obS (α := (List Int)) 22 v469 x468 :: obS (α := (List Int)) 22 v455 x454 :: []) := hH472
    refine V_CHw (Dw := Dw) ?_
    refine CH_q2 (Dw := Dw) rfl ?_
    refine VQ_y (fun w' hw' => Y_assign rfl) rfl rfl rfl ?_
    refine VQ_CH (Dw := Dw) ?_
    refine CH_q2 (Dw := Dw) rfl ?_
    refine VQ_y (fun w' hw' => Y_assign rfl) rfl rfl rfl ?_
    refine VQ_CH (Dw := Dw) ?_
    refine CH_tail (Dw := Dw) ?_
    show V _ _ _ _ [] _ _
    refine V_to (fun _ _ => rfl) ?_
    refine C_region ?_
    refine V_y (Y_addI rfl rfl) rfl rfl rfl ?_
    refine V_mv rfl rfl ?_
    obtain rfl := Option.some.inj h37
    refine V_end (fun a ha474 => ?_)
    exact ⟨(x454, x468), hlt40, h38, ⟨(v455, v469, A471), ha474.sub ⟨rfl, rfl, rfl, rfl, rfl, rfl, (congrArg (fun z => some (Value.int .i64 z)) (w64_succ hlt40 hn43)), trivial⟩, ⟨hH, hr17⟩⟩⟩
  ·refine C_exit (fun a ha475 => ?_)
   exact ⟨((s28.1, s28.2), v30, v32, A34), ha475.sub ⟨rfl, rfl, trivial⟩, ⟨(h41 (eq_of_dec hle39 hc44)).symm, hH, hr17⟩⟩
 rintro ⟨s16, v22, v24, A26⟩ w19 ⟨rfl, hH27, hk20⟩ a ha21
 rw [Lp.andThen_fin] at hm
 replace hK := Tr.trans hK hk20
 replace hB := Nat.le_trans hB hk20.ex.size
 replace hA := hk20.new
 replace hH : Hp w.heap.size A26 w19 (obS (α := (List Int)) 22 v24 s16.2 :: obS (α := (List Int)) 22 v22 s16.1 :: []) := hH27
 refine C_at (n := ⟨56, [], none⟩) (fun _ _ => rfl) ?_ ha21
 refine C_seq ?_
 refine C_region ?_
 refine V_as rfl rfl ?_
 refine V_to (fun _ _ => rfl) ?_
 refine C_seq ?_
 obtain ⟨s478, ho477, hm⟩ := Option.bind_eq_some_iff.1 hm
 refine C_cutG (ι := (Nat → Prop)) (fun (A483 : (Nat → Prop)) => [(6, .bool s478)]) (fun (A483 : (Nat → Prop)) => fun w' => Hp w.heap.size A483 w' (obS (α := (List Int)) 22 v24 s16.2 :: obS (α := (List Int)) 22 v22 s16.1 :: []) ∧ Tr Dw w.heap.size A26 w19 A483 w') ?_ ?_
 ·have hr479 : Tr Dw w.heap.size A26 w19 A26 w19 := Tr.refl (Dw := Dw) hA
  refine C_region ?_
  refine V_mv rfl rfl ?_
  refine V_mv rfl rfl ?_
  obtain ⟨x485, hx485, ho477⟩ := Option.bind_eq_some_iff.1 ho477
  refine V_call Tryz.call64 rfl rfl rfl rfl (know_Index_phrase_1_c (Dw := Dw) w19 (A := fun _ => True) (fun _ _ => trivial) s16.1 v22 (Hp.any (α := (List Int)) (e := 22) (v := v22) (l := s16.1) hH (i := 1) rfl) hx485) ?_
  rintro _ w486 ⟨rfl, hk487⟩
  have ht488 := Kp.tr hk487 hA hB
  replace hH := Hp.kp hH hk487
  replace hr479 := Tr.trans hr479 ht488
  replace hB := Nat.le_trans hB ht488.ex.size
  replace hA := ht488.new
  refine V_mv rfl rfl ?_
  rcases Bool.eq_false_or_eq_true (x485) with hc489 | hc489
  ·rw [if_pos hc489] at ho477
   refine V_gn rfl rfl rfl hc489 rfl rfl rfl ?_
   refine V_gn rfl rfl rfl hc489 rfl rfl rfl ?_
   refine V_gn rfl rfl rfl hc489 rfl rfl rfl ?_
   refine V_y (Y_pick_te rfl hc489 rfl) rfl rfl rfl ?_
   refine V_as rfl rfl ?_
   obtain rfl := Option.some.inj ho477
   refine V_end (fun a ha490 => ?_)
   exact ⟨A26, ha490.sub ⟨rfl, trivial⟩, ⟨hH, hr479⟩⟩
  ·rw [if_neg (nt hc489)] at ho477
   refine V_ge rfl rfl rfl hc489 ?_
   refine V_mv rfl rfl ?_
   refine V_ge rfl rfl rfl hc489 ?_
   refine V_mv rfl rfl ?_
   refine V_ge rfl rfl rfl hc489 ?_
   obtain ⟨x491, hx491, ho477⟩ := Option.bind_eq_some_iff.1 ho477
   refine V_call Tryz.call64 rfl rfl rfl rfl (know_Index_phrase_1_c (Dw := Dw) w486 (A := fun _ => True) (fun _ _ => trivial) s16.2 v24 (Hp.any (α := (List Int)) (e := 22) (v := v24) (l := s16.2) hH (i := 0) rfl) hx491) ?_
   rintro _ w492 ⟨rfl, hk493⟩
   have ht494 := Kp.tr hk493 hA hB
   replace hH := Hp.kp hH hk493
   replace hr479 := Tr.trans hr479 ht494
   refine V_y (Y_pick_fe rfl hc489 rfl) rfl rfl rfl ?_
   refine V_as rfl rfl ?_
   obtain rfl := Option.some.inj ho477
   refine V_end (fun a ha495 => ?_)
   exact ⟨A26, ha495.sub ⟨rfl, trivial⟩, ⟨hH, hr479⟩⟩
 rintro A483 w480 ⟨hH484, hk481⟩ a ha482
 replace hK := Tr.trans hK hk481
 replace hA := hk481.new
 replace hH : Hp w.heap.size A483 w480 (obS (α := (List Int)) 22 v24 s16.2 :: obS (α := (List Int)) 22 v22 s16.1 :: []) := hH484
 refine C_at (n := ⟨56, [], none⟩) (fun _ _ => rfl) ?_ ha482
 obtain rfl := Option.some.inj hm
 refine C_ret ?_
 try simp only [↓inBlock_ret, ↓then_ret]
 exact retQ rfl (Res.one Tryz.results29 rfl) ⟨rfl, hK.kp⟩

set_option maxRecDepth 4000 in
set_option maxHeartbeats 4000000 in
theorem slices_IndexFunc_Lknow_Term_know_Term_c (w : World) {A : Nat → Prop} (hA : ∀ b, w.heap.size ≤ b → A b) (s : (List know_Term)) (v_s : Value) (h_s : Sl A w v_s s) (f : know_Term → Option Bool) (f_f : FuncId) (f_a f_c : Array Value) (f_call : ∀ (args : Array Value) (w : World), (callFunc f_f args).run Tryz.prog w = .ok (.enter f_f args) w) (f_spec : ∀ (w1 : World) (A1 : Nat → Prop), Tr Dw w.heap.size A w A1 w1 → (∀ b, w1.heap.size ≤ b → A1 b) → ∀ (y0 : know_Term) (v1 : Value) (h2 : Sl A1 w1 v1 y0.list_) (r : Bool), f y0 = some r → Ret Tryz.prog f_f (f_a ++ #[.agg #[.string y0.word, v1]] ++ f_c) w1 fun v w' => v = .bool r ∧ Kp Dw w1 w') {r : Int} (hm : slices_IndexFunc_Lknow_Term_know_Term s f = some r) : Ret Tryz.prog 67 #[v_s, .func (.func f_f) f_a f_c] w fun v w' => v = .int .i64 r ∧ Kp Dw w w' := by
 unfold slices_IndexFunc_Lknow_Term_know_Term at hm
 refine enter Tryz.func67 rfl Tryz.ntmps67 rfl ?_
 have hA0 := hA
 have hB := Nat.le_refl w.heap.size
 have hK : Tr Dw w.heap.size A w A w := Tr.refl (Dw := Dw) hA
 have hH : Hp w.heap.size A w [] := Hp.nil
 refine C_seq ?_
 refine C_region ?_
 refine V_as rfl rfl ?_
 refine V_to (fun _ _ => rfl) ?_
 refine C_seq ?_
 refine C_seq ?_
 refine C_region ?_
 refine V_mv rfl rfl ?_
 refine V_y (Y_lenSl h_s rfl Tryz.underlying23 rfl) rfl rfl rfl ?_
 refine V_mv rfl rfl ?_
 refine V_to (fun _ _ => rfl) ?_
 have hn23 := Sl.le h_s
 obtain ⟨o3, ho3, hm⟩ := Option.bind_eq_some_iff.1 hm
 refine C_cutG (ι := (Unit × (Nat → Prop))) (fun ⟨s4, A10⟩ => []) (fun ⟨s4, A10⟩ => fun w' => o3 = .fin s4 ∧ Hp w.heap.size A10 w' ([]) ∧ Tr Dw w.heap.size A w A10 w') ?_ ?_
 ·refine C_block ?_
  refine C_range ho3 (fun k6 _ a w' => ∃ i : (Nat → Prop), Has ⟨19, [], none⟩ a ([(0, v_s), (1, .func (.func f_f) f_a f_c), (7, .int .i64 (s.length : Int)), (8, .int .i64 (k6 : Int))]) ∧ Hp w.heap.size i w' ([]) ∧ Tr Dw w.heap.size A w i w') (fun a ha => ⟨A, ha.sub ⟨rfl, rfl, rfl, rfl, trivial⟩, ⟨hH, Tr.refl (Dw := Dw) hA⟩⟩) ?_
  rintro K k6 _ a w13 ⟨A14, ha39, hH15, hr5⟩ hle19 K22 h21
  refine C_of ?_ ha39
  replace h_s := Sl.tr h_s hr5
  replace hK := Tr.trans hK hr5
  replace hB := Nat.le_trans hB hr5.ex.size
  replace hA := hr5.new
  replace hH : Hp w.heap.size A14 w13 ([]) := hH15
  refine C_seq (C_region (V_y (Y_lss rfl rfl) rfl rfl rfl (V_to (fun _ _ => rfl) ?_)))
  refine C_seq ?_
  refine C_cond rfl (fun hc24 => ?_) (fun hc24 => ?_)
  ·have hlt20 := lt_of_dec hc24
   obtain ⟨x16, h17, h18⟩ := K22 hlt20
   refine C_skip_to (fun _ _ => rfl) ?_
   refine C_seq ?_
   refine C_block ?_
   refine C_seq ?_
   refine C_region ?_
   refine V_mv rfl rfl ?_
   refine V_as rfl rfl ?_
   refine V_to (fun _ _ => rfl) ?_
   refine C_seq ?_
   refine C_region ?_
   refine V_mv rfl rfl ?_
   refine V_mv rfl rfl ?_
   refine V_mv rfl rfl ?_
   obtain ⟨x25, hx25, h17⟩ := Option.bind_eq_some_iff.1 h17
   refine V_indexAddr h_s hx25 Tryz.underlying23 Tryz.sizeOf51 rfl rfl rfl ?_
   intro b26 o27 h28
   obtain ⟨v29, h31, h30⟩ := El_know_Term h28
   refine V_y (Y_loadA h31 Tryz.isAgg51 Tryz.sizeOf51 rfl) rfl rfl rfl ?_
   obtain ⟨x32, hx32, h17⟩ := Option.bind_eq_some_iff.1 h17
   refine V_call f_call rfl rfl rfl rfl (f_spec w13 _ hK hA x25 v29 h30 _ hx32) ?_
   rintro _ w33 ⟨rfl, hk34⟩
   have ht35 := Kp.tr hk34 hA hB
   replace hH := Hp.kp hH hk34
   replace hK := Tr.trans hK ht35
   replace hr5 := Tr.trans hr5 ht35
   refine V_to (fun _ _ => rfl) ?_
   refine C_cond rfl (fun hc36 => ?_) (fun hc36 => ?_)
   ·rw [if_pos hc36] at h17
    refine C_seq ?_
    refine C_region ?_
    refine V_mv rfl rfl ?_
    refine V_as rfl rfl ?_
    refine V_to (fun _ _ => rfl) ?_
    obtain rfl := Option.some.inj h17
    obtain rfl := (h18 : Lp.rt _ = _)
    rw [Lp.andThen_rt] at hm
    obtain rfl := Option.some.inj hm
    refine C_ret ?_
    try simp only [↓inBlock_ret, ↓then_ret]
    exact retQ rfl (Res.one Tryz.results67 rfl) ⟨rfl, hK.kp⟩
   ·rw [if_neg (nt hc36)] at h17
    refine C_skip_to (fun _ _ => rfl) ?_
    refine C_region ?_
    refine V_y (Y_addI rfl rfl) rfl rfl rfl ?_
    refine V_mv rfl rfl ?_
    obtain rfl := Option.some.inj h17
    refine V_end (fun a ha37 => ?_)
    exact ⟨(), hlt20, h18, ⟨A14, ha37.sub ⟨rfl, rfl, rfl, (congrArg (fun z => some (Value.int .i64 z)) (w64_succ hlt20 hn23)), trivial⟩, ⟨hH, hr5⟩⟩⟩
  ·refine C_exit (fun a ha38 => ?_)
   exact ⟨((), A14), ha38.sub trivial, ⟨(h21 (eq_of_dec hle19 hc24)).symm, hH, hr5⟩⟩
 rintro ⟨s4, A10⟩ w7 ⟨rfl, hH11, hk8⟩ a ha9
 rw [Lp.andThen_fin] at hm
 replace hK := Tr.trans hK hk8
 replace hA := hk8.new
 replace hH : Hp w.heap.size A10 w7 ([]) := hH11
 refine C_at (n := ⟨19, [], none⟩) (fun _ _ => rfl) ?_ ha9
 refine C_seq ?_
 refine C_region ?_
 refine V_as rfl rfl ?_
 refine V_to (fun _ _ => rfl) ?_
 obtain rfl := Option.some.inj hm
 refine C_ret ?_
 try simp only [↓inBlock_ret, ↓then_ret]
 exact retQ rfl (Res.one Tryz.results67 rfl) ⟨rfl, hK.kp⟩

set_option maxRecDepth 4000 in
set_option maxHeartbeats 4000000 in
theorem slices_ContainsFunc_Lknow_Term_know_Term_c (w : World) {A : Nat → Prop} (hA : ∀ b, w.heap.size ≤ b → A b) (s : (List know_Term)) (v_s : Value) (h_s : Sl A w v_s s) (f : know_Term → Option Bool) (f_f : FuncId) (f_a f_c : Array Value) (f_call : ∀ (args : Array Value) (w : World), (callFunc f_f args).run Tryz.prog w = .ok (.enter f_f args) w) (f_spec : ∀ (w1 : World) (A1 : Nat → Prop), Tr Dw w.heap.size A w A1 w1 → (∀ b, w1.heap.size ≤ b → A1 b) → ∀ (y0 : know_Term) (v1 : Value) (h2 : Sl A1 w1 v1 y0.list_) (r : Bool), f y0 = some r → Ret Tryz.prog f_f (f_a ++ #[.agg #[.string y0.word, v1]] ++ f_c) w1 fun v w' => v = .bool r ∧ Kp Dw w1 w') {r : Bool} (hm : slices_ContainsFunc_Lknow_Term_know_Term s f = some r) : Ret Tryz.prog 30 #[v_s, .func (.func f_f) f_a f_c] w fun v w' => v = .bool r ∧ Kp Dw w w' := by
 unfold slices_ContainsFunc_Lknow_Term_know_Term at hm
 refine enter Tryz.func30 rfl Tryz.ntmps30 rfl ?_
 have hA0 := hA
 have hB := Nat.le_refl w.heap.size
 have hK : Tr Dw w.heap.size A w A w := Tr.refl (Dw := Dw) hA
 have hH : Hp w.heap.size A w [] := Hp.nil
 refine C_seq ?_
 refine C_region ?_
 refine V_as rfl rfl ?_
 refine V_to (fun _ _ => rfl) ?_
 refine C_seq ?_
 refine C_region ?_
 refine V_mv rfl rfl ?_
 refine V_mv rfl rfl ?_
 obtain ⟨x3, hx3, hm⟩ := Option.bind_eq_some_iff.1 hm
 refine V_call Tryz.call67 rfl rfl rfl rfl (slices_IndexFunc_Lknow_Term_know_Term_c (Dw := Dw) w hA s v_s h_s f f_f f_a f_c f_call (fun w1 A1 ht => f_spec w1 A1 (Tr.trans hK (Tr.lower (Dw := Dw) ht hB))) hx3) ?_
 rintro _ w4 ⟨rfl, hk5⟩
 have ht6 := Kp.tr hk5 hA hB
 replace hK := Tr.trans hK ht6
 refine V_y (Y_geq rfl rfl) rfl rfl rfl ?_
 refine V_as rfl rfl ?_
 refine V_to (fun _ _ => rfl) ?_
 obtain rfl := Option.some.inj hm
 refine C_ret ?_
 try simp only [↓inBlock_ret, ↓then_ret]
 exact retQ rfl (Res.one Tryz.results30 rfl) ⟨rfl, hK.kp⟩

set_option maxRecDepth 4000 in
set_option maxHeartbeats 4000000 in
theorem know_Index_matches_1_c (w : World) {A : Nat → Prop} (hA : ∀ b, w.heap.size ≤ b → A b) (t : know_Term) (v_t : Value) (h_t : Sl A w v_t t.list_) (p1 : Int) (b_p1 : Nat) (h_p1 : El A w b_p1 0 p1) {r : Bool} (hm : know_Index_matches_1 t p1 = some r) : Ret Tryz.prog 31 #[.agg #[.string t.word, v_t], .pointer (some ⟨b_p1, 0, none⟩)] w fun v w' => v = .bool r ∧ Kp Dw w w' := by
 unfold know_Index_matches_1 at hm
 refine enter Tryz.func31 rfl Tryz.ntmps31 rfl ?_
 have hA0 := hA
 have hB := Nat.le_refl w.heap.size
 have hK : Tr Dw w.heap.size A w A w := Tr.refl (Dw := Dw) hA
 have hH : Hp w.heap.size A w [] := Hp.nil
 refine C_seq ?_
 refine C_region ?_
 refine V_box rfl rfl ?_
 intro b3 w4 h5
 have hk7 := h5.kp (Dw := Dw)
 have h6 : El (α := know_Term) A w4 b3 0 t := h5.el hA ⟨[.string t.word], _, rfl, rfl, ⟨_, rfl, h_t⟩⟩
 have ht8 := Kp.tr hk7 hA hB
 replace h_p1 := El.tr h_p1 ht8
 replace hK := Tr.trans hK ht8
 replace hB := Nat.le_trans hB ht8.ex.size
 replace hA := ht8.new
 refine V_as rfl rfl ?_
 refine V_to (fun _ _ => rfl) ?_
 refine C_seq ?_
 refine C_region ?_
 obtain ⟨v9, h11, h10⟩ := El_know_Term h6
 refine V_y (Y_loadA h11 Tryz.isAgg51 Tryz.sizeOf51 rfl) rfl rfl rfl ?_
 refine V_y (Y_load (El.int h_p1) Tryz.isAgg3 rfl) rfl rfl rfl ?_
 obtain ⟨x12, hx12, hm⟩ := Option.bind_eq_some_iff.1 hm
 refine V_call Tryz.call32 rfl rfl rfl rfl (know_Term_posting_c (Dw := Dw) w4 hA t v9 h10 p1 hx12) ?_
 rintro _ w17 ⟨v13, v15, rfl, h14, h16, hk18⟩
 have ht19 := Kp.tr hk18 hA hB
 replace hK := Tr.trans hK ht19
 replace hB := Nat.le_trans hB ht19.ex.size
 replace hA := ht19.new
 refine V_mv rfl rfl ?_
 refine V_y (Y_extract rfl rfl) rfl rfl rfl ?_
 refine V_y (Y_extract rfl rfl) rfl rfl rfl ?_
 refine V_alloc Tryz.zeroValue69 rfl ?_
 intro b20 w21 h22
 have h27 : (v13).oneCell' = true := by obtain ⟨_, _, e, _⟩ := Sl.form h14; rw [e]; rfl
 have h30 : (v15).oneCell' = true := by obtain ⟨_, _, e, _⟩ := Sl.form h16; rw [e]; rfl
 refine V_storeNew h22 Tryz.sizeOf69 rfl rfl rfl rfl (by exact (List.forall_mem_cons.2 ⟨rfl, (List.forall_mem_cons.2 ⟨h27, (List.forall_mem_cons.2 ⟨h30, (fun _ h => nomatch h)⟩)⟩)⟩)) ?_
 intro w23 h24
 have hk32 := h24.kp (Dw := Dw)
 have h31 : El (α := know_Posting) A w23 b20 0 x12.1 := h24.el hA ⟨[.int .i64 x12.1.id_], _, rfl, rfl, ⟨[v13], _, rfl, ⟨_, rfl, h14⟩, ⟨_, rfl, h16⟩⟩⟩
 have ht33 := Kp.tr hk32 hA hB
 replace hK := Tr.trans hK ht33
 refine V_as rfl rfl ?_
 refine V_to (fun _ _ => rfl) ?_
 refine C_seq ?_
 refine C_region ?_
 refine V_mv rfl rfl ?_
 refine V_as rfl rfl ?_
 refine V_to (fun _ _ => rfl) ?_
 obtain rfl := Option.some.inj hm
 refine C_ret ?_
 try simp only [↓inBlock_ret, ↓then_ret]
 exact retQ rfl (Res.one Tryz.results31 rfl) ⟨rfl, hK.kp⟩

set_option maxRecDepth 4000 in
set_option maxHeartbeats 4000000 in
theorem know_Index_matches_c (w : World) {A : Nat → Prop} (hA : ∀ b, w.heap.size ≤ b → A b) (x : know_Index) (v_x0 : Value) (h_x0 : Sl A w v_x0 x.ids) (v_x1 : Value) (h_x1 : Sl A w v_x1 x.sizes) (v_x2 : Value) (h_x2 : Sl A w v_x2 x.terms) (p : know_Part) (v_p : Value) (h_p : Sl A w v_p p.words) (named : (List know_Term)) (v_named : Value) (h_named : Sl A w v_named named) (id_ : Int) {r : Bool} (hm : know_Index_matches x p named id_ = some r) : Ret Tryz.prog 13 #[.agg #[v_x0, v_x1, v_x2], .agg #[.int .i64 p.kind, .bool p.not_, v_p], v_named, .int .i64 id_] w fun v w' => v = .bool r ∧ Kp Dw w w' := by
 unfold know_Index_matches at hm
 refine enter Tryz.func13 rfl Tryz.ntmps13 rfl ?_
 have hA0 := hA
 have hB := Nat.le_refl w.heap.size
 have hK : Tr Dw w.heap.size A w A w := Tr.refl (Dw := Dw) hA
 have hH : Hp w.heap.size A w [] := Hp.nil
 refine C_seq ?_
 refine C_region ?_
 refine V_box rfl rfl ?_
 intro b11 w12 h13
 have hk15 := h13.kp (Dw := Dw)
 have h14 : El (α := know_Index) A w12 b11 0 x := h13.el hA ⟨[v_x0], _, rfl, ⟨_, rfl, h_x0⟩, ⟨[v_x1], _, rfl, ⟨_, rfl, h_x1⟩, ⟨_, rfl, h_x2⟩⟩⟩
 have ht16 := Kp.tr hk15 hA hB
 replace h_p := Sl.tr h_p ht16
 replace h_named := Sl.tr h_named ht16
 replace hK := Tr.trans hK ht16
 replace hB := Nat.le_trans hB ht16.ex.size
 replace hA := ht16.new
 refine V_box rfl rfl ?_
 intro b17 w18 h19
 have hk21 := h19.kp (Dw := Dw)
 have h20 : El (α := know_Part) A w18 b17 0 p := h19.el hA ⟨[.int .i64 p.kind], _, rfl, rfl, ⟨[.bool p.not_], _, rfl, rfl, ⟨_, rfl, h_p⟩⟩⟩
 have ht22 := Kp.tr hk21 hA hB
 replace h_named := Sl.tr h_named ht22
 replace h14 := El.tr h14 ht22
 replace hK := Tr.trans hK ht22
 replace hB := Nat.le_trans hB ht22.ex.size
 replace hA := ht22.new
 refine V_box rfl rfl ?_
 intro b23 w24 h25
 have hk27 := h25.kp (Dw := Dw)
 have h26 : El (α := Int) A w24 b23 0 id_ := h25.el hA rfl
 have ht28 := Kp.tr hk27 hA hB
 replace h_named := Sl.tr h_named ht28
 replace h14 := El.tr h14 ht28
 replace h20 := El.tr h20 ht28
 replace hK := Tr.trans hK ht28
 replace hB := Nat.le_trans hB ht28.ex.size
 replace hA := ht28.new
 refine V_as rfl rfl ?_
 refine V_to (fun _ _ => rfl) ?_
 refine C_seq ?_
 refine C_seq ?_
 refine C_region ?_
 have h29 := El_know_Part_0 h20
 refine V_y (Y_fieldAddr Tryz.underlying44 rfl Tryz.sizeOf3 (by decide) rfl) rfl rfl rfl ?_
 refine V_y (Y_load (El.int h29) Tryz.isAgg3 rfl) rfl rfl rfl ?_
 refine V_y (Y_eql rfl rfl) rfl rfl rfl ?_
 refine V_to (fun _ _ => rfl) ?_
 refine C_cond rfl (fun hc30 => ?_) (fun hc30 => ?_)
 ·rw [if_pos hc30] at hm
  refine C_seq ?_
  refine C_region ?_
  obtain ⟨v31, v33, v35, h37, h32, h34, h36⟩ := El_know_Index h14
  refine V_y (Y_loadA h37 Tryz.isAgg25 Tryz.sizeOf25 rfl) rfl rfl rfl ?_
  have h38 := El_know_Part_2 h20
  refine V_y (Y_fieldAddr Tryz.underlying44 rfl Tryz.sizeOf42 (by decide) rfl) rfl rfl rfl ?_
  obtain ⟨v39, h40, h41⟩ := El.list h38
  refine V_y (Y_load h40 Tryz.isAgg42 rfl) rfl rfl rfl ?_
  refine V_y (Y_load (El.int h26) Tryz.isAgg3 rfl) rfl rfl rfl ?_
  obtain ⟨x42, hx42, hm⟩ := Option.bind_eq_some_iff.1 hm
  refine V_call Tryz.call29 rfl rfl rfl rfl (know_Index_phrase_c (Dw := Dw) w24 hA x v31 h32 v33 h34 v35 h36 p.words v39 h41 id_ hx42) ?_
  rintro _ w43 ⟨rfl, hk44⟩
  have ht45 := Kp.tr hk44 hA hB
  replace hK := Tr.trans hK ht45
  refine V_as rfl rfl ?_
  refine V_to (fun _ _ => rfl) ?_
  obtain rfl := Option.some.inj hm
  refine C_ret ?_
  try simp only [↓inBlock_ret, ↓then_ret]
  exact retQ rfl (Res.one Tryz.results13 rfl) ⟨rfl, hK.kp⟩
 ·rw [if_neg (nt hc30)] at hm
  refine C_skip_to (fun _ _ => rfl) ?_
  refine C_seq ?_
  refine C_region ?_
  refine V_mv rfl rfl ?_
  refine V_y (Y_makeFunc rfl rfl) rfl rfl rfl ?_
  obtain ⟨x47, hx47, hm⟩ := Option.bind_eq_some_iff.1 hm
  refine V_call Tryz.call30 rfl rfl rfl rfl (slices_ContainsFunc_Lknow_Term_know_Term_c (Dw := Dw) w24 hA named v_named h_named (fun y57 => know_Index_matches_1 y57 id_) 31 #[] #[.pointer (some ⟨b23, 0, none⟩)] Tryz.call31 (fun w53 A54 ht55 h56 y48 v49 h50 r51 h52 => (know_Index_matches_1_c (Dw := Dw) w53 h56 y48 v49 h50 id_ b23 (El.tr h26 ht55) h52).mono (fun _ _ h => ⟨h.1, h.2⟩)) hx47) ?_
  rintro _ w58 ⟨rfl, hk59⟩
  have ht60 := Kp.tr hk59 hA hB
  replace hK := Tr.trans hK ht60
  refine V_as rfl rfl ?_
  refine V_to (fun _ _ => rfl) ?_
  obtain rfl := Option.some.inj hm
  refine C_ret ?_
  try simp only [↓inBlock_ret, ↓then_ret]
  exact retQ rfl (Res.one Tryz.results13 rfl) ⟨rfl, hK.kp⟩

set_option maxRecDepth 4000 in
set_option maxHeartbeats 4000000 in
theorem math_bits_Len64_c (w : World) (x : Int) {r : Int} (hm : math_bits_Len64 x = some r) : Ret Tryz.prog 71 #[.int .u64 x] w fun v w' => v = .int .i64 r ∧ w = w' := by
 unfold math_bits_Len64 at hm
 refine enter Tryz.func71 rfl Tryz.ntmps71 rfl ?_
 refine C_seq ?_
 refine C_region ?_
 refine V_as rfl rfl ?_
 refine V_to (fun _ _ => rfl) ?_
 refine C_seq ?_
 refine C_seq ?_
 refine C_region ?_
 refine V_mv rfl rfl ?_
 refine V_y (Y_geq rfl rfl) rfl rfl rfl ?_
 refine V_to (fun _ _ => rfl) ?_
 obtain ⟨s2, ho1, hm⟩ := Option.bind_eq_some_iff.1 hm
 refine C_cutG (ι := Unit) (fun (_ : Unit) => [(0, .int .u64 s2.1), (2, .int .i64 s2.2)]) (fun (_ : Unit) => fun w' => w = w') ?_ ?_
 ·refine C_cond rfl (fun hc7 => ?_) (fun hc7 => ?_)
  ·rw [if_pos hc7] at ho1
   refine C_seq ?_
   refine C_region ?_
   refine V_mv rfl rfl ?_
   obtain ⟨x8, hx8, ho1⟩ := Option.bind_eq_some_iff.1 ho1
   refine V_y (Y_shr hx8 rfl rfl) rfl rfl rfl ?_
   refine V_as rfl rfl ?_
   refine V_to (fun _ _ => rfl) ?_
   refine C_region ?_
   refine V_as rfl rfl ?_
   obtain rfl := Option.some.inj ho1
   refine V_end (fun a ha9 => ?_)
   exact ⟨(), ha9.sub ⟨rfl, rfl, trivial⟩, rfl⟩
  ·rw [if_neg (nt hc7)] at ho1
   obtain rfl := Option.some.inj ho1
   refine C_skip (fun a ha10 => ?_)
   exact ⟨(), ha10.sub ⟨rfl, rfl, trivial⟩, rfl⟩
 rintro _ _ rfl a ha6
 refine C_at (n := ⟨25, [], none⟩) (fun _ _ => rfl) ?_ ha6
 refine C_seq ?_
 refine C_seq ?_
 refine C_region ?_
 refine V_mv rfl rfl ?_
 refine V_y (Y_geq rfl rfl) rfl rfl rfl ?_
 refine V_to (fun _ _ => rfl) ?_
 obtain ⟨s12, ho11, hm⟩ := Option.bind_eq_some_iff.1 hm
 refine C_cutG (ι := Unit) (fun (_ : Unit) => [(0, .int .u64 s12.1), (2, .int .i64 s12.2)]) (fun (_ : Unit) => fun w' => w = w') ?_ ?_
 ·refine C_cond rfl (fun hc17 => ?_) (fun hc17 => ?_)
  ·rw [if_pos hc17] at ho11
   refine C_seq ?_
   refine C_region ?_
   refine V_mv rfl rfl ?_
   obtain ⟨x18, hx18, ho11⟩ := Option.bind_eq_some_iff.1 ho11
   refine V_y (Y_shr hx18 rfl rfl) rfl rfl rfl ?_
   refine V_as rfl rfl ?_
   refine V_to (fun _ _ => rfl) ?_
   refine C_region ?_
   refine V_mv rfl rfl ?_
   refine V_y (Y_addI rfl rfl) rfl rfl rfl ?_
   refine V_as rfl rfl ?_
   obtain rfl := Option.some.inj ho11
   refine V_end (fun a ha19 => ?_)
   exact ⟨(), ha19.sub ⟨rfl, rfl, trivial⟩, rfl⟩
  ·rw [if_neg (nt hc17)] at ho11
   obtain rfl := Option.some.inj ho11
   refine C_skip (fun a ha20 => ?_)
   exact ⟨(), ha20.sub ⟨rfl, rfl, trivial⟩, rfl⟩
 rintro _ _ rfl a ha16
 refine C_at (n := ⟨25, [], none⟩) (fun _ _ => rfl) ?_ ha16
 refine C_seq ?_
 refine C_seq ?_
 refine C_region ?_
 refine V_mv rfl rfl ?_
 refine V_y (Y_geq rfl rfl) rfl rfl rfl ?_
 refine V_to (fun _ _ => rfl) ?_
 obtain ⟨s22, ho21, hm⟩ := Option.bind_eq_some_iff.1 hm
 refine C_cutG (ι := Unit) (fun (_ : Unit) => [(0, .int .u64 s22.1), (2, .int .i64 s22.2)]) (fun (_ : Unit) => fun w' => w = w') ?_ ?_
 ·refine C_cond rfl (fun hc27 => ?_) (fun hc27 => ?_)
  ·rw [if_pos hc27] at ho21
   refine C_seq ?_
   refine C_region ?_
   refine V_mv rfl rfl ?_
   obtain ⟨x28, hx28, ho21⟩ := Option.bind_eq_some_iff.1 ho21
   refine V_y (Y_shr hx28 rfl rfl) rfl rfl rfl ?_
   refine V_as rfl rfl ?_
   refine V_to (fun _ _ => rfl) ?_
   refine C_region ?_
   refine V_mv rfl rfl ?_
   refine V_y (Y_addI rfl rfl) rfl rfl rfl ?_
   refine V_as rfl rfl ?_
   obtain rfl := Option.some.inj ho21
   refine V_end (fun a ha29 => ?_)
   exact ⟨(), ha29.sub ⟨rfl, rfl, trivial⟩, rfl⟩
  ·rw [if_neg (nt hc27)] at ho21
   obtain rfl := Option.some.inj ho21
   refine C_skip (fun a ha30 => ?_)
   exact ⟨(), ha30.sub ⟨rfl, rfl, trivial⟩, rfl⟩
 rintro _ _ rfl a ha26
 refine C_at (n := ⟨25, [], none⟩) (fun _ _ => rfl) ?_ ha26
 refine C_seq ?_
 refine C_region ?_
 refine V_mv rfl rfl ?_
 refine V_mv rfl rfl ?_
 refine V_y (Y_convU8 Tryz.underlying116 Tryz.underlying5 rfl) rfl rfl rfl ?_
 obtain ⟨x31, hx31, hm⟩ := Option.bind_eq_some_iff.1 hm
 refine V_y (Y_indexS hx31 Tryz.underlying9 rfl rfl) rfl rfl rfl ?_
 refine V_y (Y_convI Tryz.underlying5 Tryz.underlying3 rfl) rfl rfl rfl ?_
 refine V_y (Y_addI rfl rfl) rfl rfl rfl ?_
 refine V_as rfl rfl ?_
 refine V_to (fun _ _ => rfl) ?_
 obtain rfl := Option.some.inj hm
 refine C_ret ?_
 try simp only [↓inBlock_ret, ↓then_ret]
 exact retQ rfl (Res.one Tryz.results71 rfl) ⟨rfl, rfl⟩

set_option maxRecDepth 4000 in
set_option maxHeartbeats 4000000 in
theorem math_bits_Len_c (w : World) (x : Int) {r : Int} (hm : math_bits_Len x = some r) : Ret Tryz.prog 33 #[.int .u64 x] w fun v w' => v = .int .i64 r ∧ w = w' := by
 unfold math_bits_Len at hm
 refine enter Tryz.func33 rfl Tryz.ntmps33 rfl ?_
 refine C_seq ?_
 refine C_region ?_
 refine V_as rfl rfl ?_
 refine V_to (fun _ _ => rfl) ?_
 refine C_seq ?_
 refine C_cond rfl (fun hc => ?_) (fun hc => ?_)
 ·exact absurd hc (by decide)
 ·refine C_skip_to (fun _ _ => rfl) ?_
  refine C_seq ?_
  refine C_region ?_
  refine V_mv rfl rfl ?_
  obtain ⟨x1, hx1, hm⟩ := Option.bind_eq_some_iff.1 hm
  refine V_call Tryz.call71 rfl rfl rfl rfl (math_bits_Len64_c w x hx1) ?_
  rintro _ _ ⟨rfl, rfl⟩
  refine V_as rfl rfl ?_
  refine V_to (fun _ _ => rfl) ?_
  obtain rfl := Option.some.inj hm
  refine C_ret ?_
  try simp only [↓inBlock_ret, ↓then_ret]
  exact retQ rfl (Res.one Tryz.results33 rfl) ⟨rfl, rfl⟩

set_option maxRecDepth 4000 in
set_option maxHeartbeats 4000000 in
theorem know_Index_score_c (w : World) {A : Nat → Prop} (hA : ∀ b, w.heap.size ≤ b → A b) (x : know_Index) (v_x0 : Value) (h_x0 : Sl A w v_x0 x.ids) (v_x1 : Value) (h_x1 : Sl A w v_x1 x.sizes) (v_x2 : Value) (h_x2 : Sl A w v_x2 x.terms) (t : know_Term) (v_t : Value) (h_t : Sl A w v_t t.list_) (k_ : Int) {r : Int} (hm : know_Index_score x t k_ = some r) : Ret Tryz.prog 14 #[.agg #[v_x0, v_x1, v_x2], .agg #[.string t.word, v_t], .int .i64 k_] w fun v w' => v = .int .i64 r ∧ Kp Dw w w' := by
 unfold know_Index_score at hm
 refine enter Tryz.func14 rfl Tryz.ntmps14 rfl ?_
 have hA0 := hA
 have hB := Nat.le_refl w.heap.size
 have hK : Tr Dw w.heap.size A w A w := Tr.refl (Dw := Dw) hA
 have hH : Hp w.heap.size A w [] := Hp.nil
 refine C_seq ?_
 refine C_region ?_
 refine V_box rfl rfl ?_
 intro b9 w10 h11
 have hk13 := h11.kp (Dw := Dw)
 have h12 : El (α := know_Index) A w10 b9 0 x := h11.el hA ⟨[v_x0], _, rfl, ⟨_, rfl, h_x0⟩, ⟨[v_x1], _, rfl, ⟨_, rfl, h_x1⟩, ⟨_, rfl, h_x2⟩⟩⟩
 have ht14 := Kp.tr hk13 hA hB
 replace hH := Hp.kp hH hk13
 replace h_t := Sl.tr h_t ht14
 replace hK := Tr.trans hK ht14
 replace hB := Nat.le_trans hB ht14.ex.size
 replace hA := ht14.new
 refine V_box rfl rfl ?_
 intro b15 w17 h18
 have hk20 := h18.kp (Dw := Dw)
 have h19 : El (α := know_Term) A w17 b15 0 t := h18.el hA ⟨[.string t.word], _, rfl, rfl, ⟨_, rfl, h_t⟩⟩
 have ht21 := Kp.tr hk20 hA hB
 replace hH := Hp.kp hH hk20
 replace h12 := El.tr h12 ht21
 replace hK := Tr.trans hK ht21
 replace hB := Nat.le_trans hB ht21.ex.size
 replace hA := ht21.new
 refine V_as rfl rfl ?_
 refine V_to (fun _ _ => rfl) ?_
 refine C_seq ?_
 refine C_region_chz (Dw := Dw) A 10 [(1, 0), (1, 1), (1, 2), (1, 3), (1, 4), (1, 5), (2, 6), (1, 7), (1, 8), (1, 9)] [(4, 11), (1, 12)] Tryz_mixed (by kernel_rfl) (fun w22 hk23 => ?_)
 have ht24 := Kp.tr hk23 hA hB
 replace hH := Hp.kp hH hk23
 replace h12 := El.tr h12 ht24
 replace h19 := El.tr h19 ht24
 replace hK := Tr.trans hK ht24
 replace hB := Nat.le_trans hB ht24.ex.size
 replace hA := ht24.new
 refine CHZ_q2 (Dw := Dw) rfl ?_
 obtain ⟨v25, h27, h26⟩ := El_know_Term h19
 refine VQ_y (fun w' hw' => Y_loadA (At.same h27 (hw'.2 _ h19.2.1 h19.1)) Tryz.isAgg51 Tryz.sizeOf51 rfl) rfl rfl rfl ?_
 refine VQ_CHZ (Dw := Dw) ?_
 refine CHZ_q2 (Dw := Dw) rfl ?_
 have h28 := El_know_Index_0 h12
 refine VQ_y (fun w' hw' => Y_fieldAddr Tryz.underlying25 rfl Tryz.sizeOf22 (by decide) rfl) rfl rfl rfl ?_
 refine VQ_CHZ (Dw := Dw) ?_
 refine CHZ_q2 (Dw := Dw) rfl ?_
 obtain ⟨v29, h30, h31⟩ := El.list h28
 refine VQ_y (fun w' hw' => Y_load ((World.cell?_of_block (hw'.2 _ h28.2.1 h28.1)).trans h30) Tryz.isAgg22 rfl) rfl rfl rfl ?_
 refine VQ_CHZ (Dw := Dw) ?_
 refine CHZ_q2 (Dw := Dw) rfl ?_
 refine VQ_y (fun w' hw' => Y_move rfl) rfl rfl rfl ?_
 refine VQ_CHZ (Dw := Dw) ?_
 refine CHZ_q2 (Dw := Dw) rfl ?_
 obtain ⟨x32, hx32, hm⟩ := Option.bind_eq_some_iff.1 hm
 refine VQ_indexAddr h31 hx32 Tryz.underlying22 Tryz.sizeOf3 rfl rfl rfl ?_
 intro b33 o34 h35
 refine VQ_CHZ (Dw := Dw) ?_
 refine CHZ_q2 (Dw := Dw) rfl ?_
 refine VQ_y (fun w' hw' => Y_load (El.int (El.keep h35 (XA.ex hw'))) Tryz.isAgg3 rfl) rfl rfl rfl ?_
 refine VQ_CHZ (Dw := Dw) ?_
 refine CHZ_l1 (Dw := Dw) (k := 0) [(2, 10), (2, 6), (1, 7), (1, 8), (1, 9), (4, 11), (1, 12)] rfl ?_ rfl ?_
 ·refine CH_l1 (Dw := Dw) (k := 0) rfl ?_
  refine V_allocHk (Dw := Dw) (B := w.heap.size) hH Tryz.zeroValue69 hB hA rfl ?_
  intro b36 w37 A38 hk41 hH39 ht40
  replace h12 := El.tr h12 ht40
  replace h19 := El.tr h19 ht40
  replace h26 := Sl.tr h26 ht40
  replace hK := Tr.trans hK ht40
  replace hB := Nat.le_trans hB ht40.ex.size
  replace hA := ht40.new
  replace hH : Hp w.heap.size A38 w37 (obC b36 [.int .i64 0, .slice none 0 0, .slice none 0 0] 69 :: []) := hH39
  refine V_CH (Dw := Dw) (hk41) ?_
  refine CH_l1 (Dw := Dw) (k := 0) rfl ?_
  obtain ⟨x42, hx42, hm⟩ := Option.bind_eq_some_iff.1 hm
  refine V_call Tryz.call32 rfl rfl rfl rfl (know_Term_posting_c (Dw := Dw) w37 hA t v25 h26 x32 hx42) ?_
  rintro _ w47 ⟨v43, v45, rfl, h44, h46, hk48⟩
  have ht49 := Kp.tr hk48 hA hB
  replace hH := Hp.kp hH hk48
  replace h12 := El.tr h12 ht49
  replace h19 := El.tr h19 ht49
  replace hK := Tr.trans hK ht49
  replace hB := Nat.le_trans hB ht49.ex.size
  replace hA := ht49.new
  refine V_CH (Dw := Dw) (hk48) ?_
  refine CH_q2 (Dw := Dw) rfl ?_
  refine VQ_y (fun w' hw' => Y_move rfl) rfl rfl rfl ?_
  refine VQ_CH (Dw := Dw) ?_
  refine CH_q2 (Dw := Dw) rfl ?_
  refine VQ_y (fun w' hw' => Y_extract rfl rfl) rfl rfl rfl ?_
  refine VQ_CH (Dw := Dw) ?_
  refine CH_q2 (Dw := Dw) rfl ?_
  refine VQ_y (fun w' hw' => Y_extract rfl rfl) rfl rfl rfl ?_
  refine VQ_CH (Dw := Dw) ?_
  refine CH_l1 (Dw := Dw) (k := 2) rfl ?_
  have h55 : (v43).oneCell' = true := by obtain ⟨_, _, e, _⟩ := Sl.form h44; rw [e]; rfl
  have h58 : (v45).oneCell' = true := by obtain ⟨_, _, e, _⟩ := Sl.form h46; rw [e]; rfl
  refine V_storeC (Dw := Dw) (off := 0) (ds := [.int .i64 x42.1.id_, v43, v45]) hH (i := 0) rfl Tryz.sizeOf69 rfl (Nat.le_of_ble_eq_true rfl) (by exact (List.forall_mem_cons.2 ⟨rfl, (List.forall_mem_cons.2 ⟨h55, (List.forall_mem_cons.2 ⟨h58, (fun _ h => nomatch h)⟩)⟩)⟩)) rfl hB hA rfl rfl ?_
  intro w50 hH51 ht52
  replace h12 := El.tr h12 ht52
  replace h19 := El.tr h19 ht52
  replace h44 := Sl.tr h44 ht52
  replace h46 := Sl.tr h46 ht52
  replace hK := Tr.trans hK ht52
  replace hB := Nat.le_trans hB ht52.ex.size
  replace hA := ht52.new
  replace hH : Hp w.heap.size A38 w50 (obC b36 [.int .i64 x42.1.id_, v43, v45] 69 :: []) := hH51
  obtain ⟨A59, ht60, h61, hH62⟩ := Hp.freezeC (Dw := Dw) (α := know_Posting) (x := x42.1) hH (i := 0) rfl hA (by exact ⟨[.int .i64 x42.1.id_], _, rfl, rfl, ⟨[v43], _, rfl, ⟨_, rfl, h44⟩, ⟨_, rfl, h46⟩⟩⟩)
  replace h12 := El.tr h12 ht60
  replace h19 := El.tr h19 ht60
  replace hK := Tr.trans hK ht60
  replace hB := Nat.le_trans hB ht60.ex.size
  replace hA := ht60.new
  replace hH : Hp w.heap.size A59 w50 ([]) := hH62
  refine V_CHw (Dw := Dw) ?_
  refine CH_q2 (Dw := Dw) rfl ?_
  refine VQ_y (fun w' hw' => Y_assign rfl) rfl rfl rfl ?_
  refine VQ_CH (Dw := Dw) ?_
  refine CH_tail (Dw := Dw) ?_
  show V _ _ _ _ [] _ _
  refine V_to (fun _ _ => rfl) ?_
  refine C_seq ?_
  refine C_seq ?_
  refine C_region ?_
  refine V_mv rfl rfl ?_
  refine V_y (Y_not rfl) rfl rfl rfl ?_
  refine V_to (fun _ _ => rfl) ?_
  refine C_cond rfl (fun hc63 => ?_) (fun hc63 => ?_)
  ·rw [if_pos hc63] at hm
   refine C_seq ?_
   refine C_region ?_
   refine V_as rfl rfl ?_
   refine V_to (fun _ _ => rfl) ?_
   obtain rfl := Option.some.inj hm
   refine C_ret ?_
   try simp only [↓inBlock_ret, ↓then_ret]
   exact retQ rfl (Res.one Tryz.results14 rfl) ⟨rfl, hK.kp⟩
  ·rw [if_neg (nt hc63)] at hm
   refine C_skip_to (fun _ _ => rfl) ?_
   refine C_seq ?_
   refine C_region ?_
   have h64 := El_know_Index_0 h12
   refine V_y (Y_fieldAddr Tryz.underlying25 rfl Tryz.sizeOf22 (by decide) rfl) rfl rfl rfl ?_
   obtain ⟨v65, h66, h67⟩ := El.list h64
   refine V_y (Y_load h66 Tryz.isAgg22 rfl) rfl rfl rfl ?_
   refine V_y (Y_lenSl h67 rfl Tryz.underlying22 rfl) rfl rfl rfl ?_
   have h68 := El_know_Term_1 h19
   refine V_y (Y_fieldAddr Tryz.underlying51 rfl Tryz.sizeOf49 (by decide) rfl) rfl rfl rfl ?_
   obtain ⟨v69, h70, h71⟩ := El.list h68
   refine V_y (Y_load h70 Tryz.isAgg49 rfl) rfl rfl rfl ?_
   refine V_y (Y_lenSl h71 rfl Tryz.underlying49 rfl) rfl rfl rfl ?_
   obtain ⟨x72, hx72, hm⟩ := Option.bind_eq_some_iff.1 hm
   refine V_y (Y_quo hx72 rfl rfl) rfl rfl rfl ?_
   refine V_y (Y_convI Tryz.underlying3 Tryz.underlying74 rfl) rfl rfl rfl ?_
   obtain ⟨x73, hx73, hm⟩ := Option.bind_eq_some_iff.1 hm
   refine V_call Tryz.call33 rfl rfl rfl rfl (math_bits_Len_c w50 (IntKind.wrap .u64 x72) hx73) ?_
   rintro _ _ ⟨rfl, rfl⟩
   refine V_as rfl rfl ?_
   refine V_to (fun _ _ => rfl) ?_
   refine C_seq ?_
   refine C_region_q (Dw := Dw) Tryz_mixed (by kernel_rfl) ?_
   have h74 := El_know_Posting_1 h61
   refine VQ_y (fun w' hw' => Y_fieldAddr Tryz.underlying69 rfl Tryz.sizeOf22 (by decide) rfl) rfl rfl rfl ?_
   obtain ⟨v75, h76, h77⟩ := El.list h74
   refine VQ_y (fun w' hw' => Y_load ((World.cell?_of_block (hw'.block _ (World.block_lt_of_cell? _ _ h76))).trans h76) Tryz.isAgg22 rfl) rfl rfl rfl ?_
   refine VQ_y (fun w' hw' => Y_lenSl h77 rfl Tryz.underlying22 rfl) rfl rfl rfl ?_
   refine VQ_y (fun w' hw' => Y_mulI rfl rfl) rfl rfl rfl ?_
   have h78 := El_know_Posting_2 h61
   refine VQ_y (fun w' hw' => Y_fieldAddr Tryz.underlying69 rfl Tryz.sizeOf22 (by decide) rfl) rfl rfl rfl ?_
   obtain ⟨v79, h80, h81⟩ := El.list h78
   refine VQ_y (fun w' hw' => Y_load ((World.cell?_of_block (hw'.block _ (World.block_lt_of_cell? _ _ h80))).trans h80) Tryz.isAgg22 rfl) rfl rfl rfl ?_
   refine VQ_y (fun w' hw' => Y_lenSl h81 rfl Tryz.underlying22 rfl) rfl rfl rfl ?_
   refine VQ_y (fun w' hw' => Y_addI rfl rfl) rfl rfl rfl ?_
   refine VQ_y (fun w' hw' => Y_mulI rfl rfl) rfl rfl rfl ?_
   refine VQ_y (fun w' hw' => Y_move rfl) rfl rfl rfl ?_
   refine VQ_y (fun w' hw' => Y_mulI rfl rfl) rfl rfl rfl ?_
   have h82 := El_know_Index_1 h12
   refine VQ_y (fun w' hw' => Y_fieldAddr Tryz.underlying25 rfl Tryz.sizeOf22 (by decide) rfl) rfl rfl rfl ?_
   obtain ⟨v83, h84, h85⟩ := El.list h82
   refine VQ_y (fun w' hw' => Y_load ((World.cell?_of_block (hw'.block _ (World.block_lt_of_cell? _ _ h84))).trans h84) Tryz.isAgg22 rfl) rfl rfl rfl ?_
   refine VQ_y (fun w' hw' => Y_move rfl) rfl rfl rfl ?_
   obtain ⟨x86, hx86, hm⟩ := Option.bind_eq_some_iff.1 hm
   refine VQ_indexAddr h85 hx86 Tryz.underlying22 Tryz.sizeOf3 rfl rfl rfl ?_
   intro b87 o88 h89
   refine VQ_y (fun w' hw' => Y_load (El.int (El.kp (Dw := Dw) h89 hw')) Tryz.isAgg3 rfl) rfl rfl rfl ?_
   refine VQ_y (fun w' hw' => Y_addI rfl rfl) rfl rfl rfl ?_
   obtain ⟨x90, hx90, hm⟩ := Option.bind_eq_some_iff.1 hm
   refine VQ_y (fun w' hw' => Y_quo hx90 rfl rfl) rfl rfl rfl ?_
   refine VQ_y (fun w' hw' => Y_assign rfl) rfl rfl rfl ?_
   refine VQ_to (fun _ _ => rfl) (fun w91 hk92 => ?_)
   have ht93 := Kp.tr hk92 hA hB
   replace hK := Tr.trans hK ht93
   obtain rfl := Option.some.inj hm
   refine C_ret ?_
   try simp only [↓inBlock_ret, ↓then_ret]
   exact retQ rfl (Res.one Tryz.results14 rfl) ⟨rfl, hK.kp⟩
 obtain ⟨x94, hx94, hm⟩ := Option.bind_eq_some_iff.1 hm
 refine V_call Tryz.call32 rfl rfl rfl rfl (know_Term_posting_c (Dw := Dw) w22 hA t v25 h26 x32 hx94) ?_
 rintro _ w99 ⟨v95, v97, rfl, h96, h98, hk100⟩
 have ht101 := Kp.tr hk100 hA hB
 replace hH := Hp.kp hH hk100
 replace h12 := El.tr h12 ht101
 replace h19 := El.tr h19 ht101
 replace hK := Tr.trans hK ht101
 replace hB := Nat.le_trans hB ht101.ex.size
 replace hA := ht101.new
 refine V_CHZ (Dw := Dw) (hk100) ?_
 refine CHZ_q2 (Dw := Dw) rfl ?_
 refine VQ_y (fun w' hw' => Y_move rfl) rfl rfl rfl ?_
 refine VQ_CHZ (Dw := Dw) ?_
 refine CHZ_q2 (Dw := Dw) rfl ?_
 refine VQ_y (fun w' hw' => Y_extract rfl rfl) rfl rfl rfl ?_
 refine VQ_CHZ (Dw := Dw) ?_
 refine CHZ_q2 (Dw := Dw) rfl ?_
 refine VQ_y (fun w' hw' => Y_extract rfl rfl) rfl rfl rfl ?_
 refine VQ_CHZ (Dw := Dw) ?_
 refine CHZ_nil (Dw := Dw) ?_
 refine CH_l1 (Dw := Dw) (k := 0) rfl ?_
 refine V_allocHk (Dw := Dw) (B := w.heap.size) hH Tryz.zeroValue69 hB hA rfl ?_
 intro b102 w103 A104 hk107 hH105 ht106
 replace h12 := El.tr h12 ht106
 replace h19 := El.tr h19 ht106
 replace h96 := Sl.tr h96 ht106
 replace h98 := Sl.tr h98 ht106
 replace hK := Tr.trans hK ht106
 replace hB := Nat.le_trans hB ht106.ex.size
 replace hA := ht106.new
 replace hH : Hp w.heap.size A104 w103 (obC b102 [.int .i64 0, .slice none 0 0, .slice none 0 0] 69 :: []) := hH105
 refine V_CH (Dw := Dw) (hk107) ?_
 refine CH_l1 (Dw := Dw) (k := 2) rfl ?_
 have h113 : (v95).oneCell' = true := by obtain ⟨_, _, e, _⟩ := Sl.form h96; rw [e]; rfl
 have h116 : (v97).oneCell' = true := by obtain ⟨_, _, e, _⟩ := Sl.form h98; rw [e]; rfl
 refine V_storeC (Dw := Dw) (off := 0) (ds := [.int .i64 x94.1.id_, v95, v97]) hH (i := 0) rfl Tryz.sizeOf69 rfl (Nat.le_of_ble_eq_true rfl) (by exact (List.forall_mem_cons.2 ⟨rfl, (List.forall_mem_cons.2 ⟨h113, (List.forall_mem_cons.2 ⟨h116, (fun _ h => nomatch h)⟩)⟩)⟩)) rfl hB hA rfl rfl ?_
 intro w108 hH109 ht110
 replace h12 := El.tr h12 ht110
 replace h19 := El.tr h19 ht110
 replace h96 := Sl.tr h96 ht110
 replace h98 := Sl.tr h98 ht110
 replace hK := Tr.trans hK ht110
 replace hB := Nat.le_trans hB ht110.ex.size
 replace hA := ht110.new
 replace hH : Hp w.heap.size A104 w108 (obC b102 [.int .i64 x94.1.id_, v95, v97] 69 :: []) := hH109
 obtain ⟨A117, ht118, h119, hH120⟩ := Hp.freezeC (Dw := Dw) (α := know_Posting) (x := x94.1) hH (i := 0) rfl hA (by exact ⟨[.int .i64 x94.1.id_], _, rfl, rfl, ⟨[v95], _, rfl, ⟨_, rfl, h96⟩, ⟨_, rfl, h98⟩⟩⟩)
 replace h12 := El.tr h12 ht118
 replace h19 := El.tr h19 ht118
 replace hK := Tr.trans hK ht118
 replace hB := Nat.le_trans hB ht118.ex.size
 replace hA := ht118.new
 replace hH : Hp w.heap.size A117 w108 ([]) := hH120
 refine V_CHw (Dw := Dw) ?_
 refine CH_q2 (Dw := Dw) rfl ?_
 refine VQ_y (fun w' hw' => Y_assign rfl) rfl rfl rfl ?_
 refine VQ_CH (Dw := Dw) ?_
 refine CH_tail (Dw := Dw) ?_
 show V _ _ _ _ [] _ _
 refine V_to (fun _ _ => rfl) ?_
 refine C_seq ?_
 refine C_seq ?_
 refine C_region ?_
 refine V_mv rfl rfl ?_
 refine V_y (Y_not rfl) rfl rfl rfl ?_
 refine V_to (fun _ _ => rfl) ?_
 refine C_cond rfl (fun hc121 => ?_) (fun hc121 => ?_)
 ·rw [if_pos hc121] at hm
  refine C_seq ?_
  refine C_region ?_
  refine V_as rfl rfl ?_
  refine V_to (fun _ _ => rfl) ?_
  obtain rfl := Option.some.inj hm
  refine C_ret ?_
  try simp only [↓inBlock_ret, ↓then_ret]
  exact retQ rfl (Res.one Tryz.results14 rfl) ⟨rfl, hK.kp⟩
 ·rw [if_neg (nt hc121)] at hm
  refine C_skip_to (fun _ _ => rfl) ?_
  refine C_seq ?_
  refine C_region ?_
  have h122 := El_know_Index_0 h12
  refine V_y (Y_fieldAddr Tryz.underlying25 rfl Tryz.sizeOf22 (by decide) rfl) rfl rfl rfl ?_
  obtain ⟨v123, h124, h125⟩ := El.list h122
  refine V_y (Y_load h124 Tryz.isAgg22 rfl) rfl rfl rfl ?_
  refine V_y (Y_lenSl h125 rfl Tryz.underlying22 rfl) rfl rfl rfl ?_
  have h126 := El_know_Term_1 h19
  refine V_y (Y_fieldAddr Tryz.underlying51 rfl Tryz.sizeOf49 (by decide) rfl) rfl rfl rfl ?_
  obtain ⟨v127, h128, h129⟩ := El.list h126
  refine V_y (Y_load h128 Tryz.isAgg49 rfl) rfl rfl rfl ?_
  refine V_y (Y_lenSl h129 rfl Tryz.underlying49 rfl) rfl rfl rfl ?_
  obtain ⟨x130, hx130, hm⟩ := Option.bind_eq_some_iff.1 hm
  refine V_y (Y_quo hx130 rfl rfl) rfl rfl rfl ?_
  refine V_y (Y_convI Tryz.underlying3 Tryz.underlying74 rfl) rfl rfl rfl ?_
  obtain ⟨x131, hx131, hm⟩ := Option.bind_eq_some_iff.1 hm
  refine V_call Tryz.call33 rfl rfl rfl rfl (math_bits_Len_c w108 (IntKind.wrap .u64 x130) hx131) ?_
  rintro _ _ ⟨rfl, rfl⟩
  refine V_as rfl rfl ?_
  refine V_to (fun _ _ => rfl) ?_
  refine C_seq ?_
  refine C_region_q (Dw := Dw) Tryz_mixed (by kernel_rfl) ?_
  have h132 := El_know_Posting_1 h119
  refine VQ_y (fun w' hw' => Y_fieldAddr Tryz.underlying69 rfl Tryz.sizeOf22 (by decide) rfl) rfl rfl rfl ?_
  obtain ⟨v133, h134, h135⟩ := El.list h132
  refine VQ_y (fun w' hw' => Y_load ((World.cell?_of_block (hw'.block _ (World.block_lt_of_cell? _ _ h134))).trans h134) Tryz.isAgg22 rfl) rfl rfl rfl ?_
  refine VQ_y (fun w' hw' => Y_lenSl h135 rfl Tryz.underlying22 rfl) rfl rfl rfl ?_
  refine VQ_y (fun w' hw' => Y_mulI rfl rfl) rfl rfl rfl ?_
  have h136 := El_know_Posting_2 h119
  refine VQ_y (fun w' hw' => Y_fieldAddr Tryz.underlying69 rfl Tryz.sizeOf22 (by decide) rfl) rfl rfl rfl ?_
  obtain ⟨v137, h138, h139⟩ := El.list h136
  refine VQ_y (fun w' hw' => Y_load ((World.cell?_of_block (hw'.block _ (World.block_lt_of_cell? _ _ h138))).trans h138) Tryz.isAgg22 rfl) rfl rfl rfl ?_
  refine VQ_y (fun w' hw' => Y_lenSl h139 rfl Tryz.underlying22 rfl) rfl rfl rfl ?_
  refine VQ_y (fun w' hw' => Y_addI rfl rfl) rfl rfl rfl ?_
  refine VQ_y (fun w' hw' => Y_mulI rfl rfl) rfl rfl rfl ?_
  refine VQ_y (fun w' hw' => Y_move rfl) rfl rfl rfl ?_
  refine VQ_y (fun w' hw' => Y_mulI rfl rfl) rfl rfl rfl ?_
  have h140 := El_know_Index_1 h12
  refine VQ_y (fun w' hw' => Y_fieldAddr Tryz.underlying25 rfl Tryz.sizeOf22 (by decide) rfl) rfl rfl rfl ?_
  obtain ⟨v141, h142, h143⟩ := El.list h140
  refine VQ_y (fun w' hw' => Y_load ((World.cell?_of_block (hw'.block _ (World.block_lt_of_cell? _ _ h142))).trans h142) Tryz.isAgg22 rfl) rfl rfl rfl ?_
  refine VQ_y (fun w' hw' => Y_move rfl) rfl rfl rfl ?_
  obtain ⟨x144, hx144, hm⟩ := Option.bind_eq_some_iff.1 hm
  refine VQ_indexAddr h143 hx144 Tryz.underlying22 Tryz.sizeOf3 rfl rfl rfl ?_
  intro b145 o146 h147
  refine VQ_y (fun w' hw' => Y_load (El.int (El.kp (Dw := Dw) h147 hw')) Tryz.isAgg3 rfl) rfl rfl rfl ?_
  refine VQ_y (fun w' hw' => Y_addI rfl rfl) rfl rfl rfl ?_
  obtain ⟨x148, hx148, hm⟩ := Option.bind_eq_some_iff.1 hm
  refine VQ_y (fun w' hw' => Y_quo hx148 rfl rfl) rfl rfl rfl ?_
  refine VQ_y (fun w' hw' => Y_assign rfl) rfl rfl rfl ?_
  refine VQ_to (fun _ _ => rfl) (fun w149 hk150 => ?_)
  have ht151 := Kp.tr hk150 hA hB
  replace hK := Tr.trans hK ht151
  obtain rfl := Option.some.inj hm
  refine C_ret ?_
  try simp only [↓inBlock_ret, ↓then_ret]
  exact retQ rfl (Res.one Tryz.results14 rfl) ⟨rfl, hK.kp⟩

set_option maxRecDepth 4000 in
set_option maxHeartbeats 4000000 in
theorem cmp_Or_int_c (w : World) {A : Nat → Prop} (vals : (List Int)) (v_vals : Value) (h_vals : Sl A w v_vals vals) {r : Int} (hm : cmp_Or_int vals = some r) : Ret Tryz.prog 36 #[v_vals] w fun v w' => v = .int .i64 r ∧ w = w' := by
 unfold cmp_Or_int at hm
 refine enter Tryz.func36 rfl Tryz.ntmps36 rfl ?_
 refine C_seq ?_
 refine C_region ?_
 refine V_as rfl rfl ?_
 refine V_to (fun _ _ => rfl) ?_
 refine C_seq ?_
 refine C_region ?_
 refine V_as rfl rfl ?_
 refine V_to (fun _ _ => rfl) ?_
 refine C_seq ?_
 refine C_seq ?_
 refine C_region ?_
 refine V_mv rfl rfl ?_
 refine V_y (Y_lenSl h_vals rfl Tryz.underlying22 rfl) rfl rfl rfl ?_
 refine V_mv rfl rfl ?_
 refine V_to (fun _ _ => rfl) ?_
 have hn19 := Sl.le h_vals
 obtain ⟨o3, ho3, hm⟩ := Option.bind_eq_some_iff.1 hm
 refine C_cutG (ι := Unit) (fun (s4 : Unit) => [(3, .int .i64 0)]) (fun (s4 : Unit) => fun w' => o3 = .fin s4 ∧ w = w') ?_ ?_
 ·refine C_block ?_
  refine C_range ho3 (fun k6 _ a w' => ∃ i : Unit, Has ⟨18, [], none⟩ a ([(3, .int .i64 0), (6, v_vals), (7, .int .i64 (vals.length : Int)), (8, .int .i64 (k6 : Int))]) ∧ w = w') (fun a ha => ⟨(), ha.sub ⟨rfl, rfl, rfl, rfl, trivial⟩, rfl⟩) ?_
  rintro K k6 _ a _ ⟨_, ha28, rfl⟩ hle15 K18 h17
  refine C_of ?_ ha28
  refine C_seq (C_region (V_y (Y_lss rfl rfl) rfl rfl rfl (V_to (fun _ _ => rfl) ?_)))
  refine C_seq ?_
  refine C_cond rfl (fun hc20 => ?_) (fun hc20 => ?_)
  ·have hlt16 := lt_of_dec hc20
   obtain ⟨x12, h13, h14⟩ := K18 hlt16
   refine C_skip_to (fun _ _ => rfl) ?_
   refine C_seq ?_
   refine C_block ?_
   refine C_seq ?_
   refine C_region ?_
   obtain ⟨x21, hx21, h13⟩ := Option.bind_eq_some_iff.1 h13
   refine V_indexAddr h_vals hx21 Tryz.underlying22 Tryz.sizeOf3 rfl rfl rfl ?_
   intro b22 o23 h24
   refine V_y (Y_load (El.int h24) Tryz.isAgg3 rfl) rfl rfl rfl ?_
   refine V_as rfl rfl ?_
   refine V_to (fun _ _ => rfl) ?_
   refine C_seq ?_
   refine C_region ?_
   refine V_mv rfl rfl ?_
   refine V_mv rfl rfl ?_
   refine V_y (Y_neq rfl rfl) rfl rfl rfl ?_
   refine V_to (fun _ _ => rfl) ?_
   refine C_cond rfl (fun hc25 => ?_) (fun hc25 => ?_)
   ·rw [if_pos hc25] at h13
    refine C_seq ?_
    refine C_region ?_
    refine V_mv rfl rfl ?_
    refine V_as rfl rfl ?_
    refine V_to (fun _ _ => rfl) ?_
    obtain rfl := Option.some.inj h13
    obtain rfl := (h14 : Lp.rt _ = _)
    rw [Lp.andThen_rt] at hm
    obtain rfl := Option.some.inj hm
    refine C_ret ?_
    try simp only [↓inBlock_ret, ↓then_ret]
    exact retQ rfl (Res.one Tryz.results36 rfl) ⟨rfl, rfl⟩
   ·rw [if_neg (nt hc25)] at h13
    refine C_skip_to (fun _ _ => rfl) ?_
    refine C_region ?_
    refine V_y (Y_addI rfl rfl) rfl rfl rfl ?_
    refine V_mv rfl rfl ?_
    obtain rfl := Option.some.inj h13
    refine V_end (fun a ha26 => ?_)
    exact ⟨(), hlt16, h14, ⟨(), ha26.sub ⟨rfl, rfl, rfl, (congrArg (fun z => some (Value.int .i64 z)) (w64_succ hlt16 hn19)), trivial⟩, rfl⟩⟩
  ·refine C_exit (fun a ha27 => ?_)
   exact ⟨(), ha27.sub ⟨rfl, trivial⟩, ⟨(h17 (eq_of_dec hle15 hc20)).symm, rfl⟩⟩
 rintro s4 _ ⟨rfl, rfl⟩ a ha9
 rw [Lp.andThen_fin] at hm
 refine C_at (n := ⟨18, [], none⟩) (fun _ _ => rfl) ?_ ha9
 refine C_seq ?_
 refine C_region ?_
 refine V_mv rfl rfl ?_
 refine V_as rfl rfl ?_
 refine V_to (fun _ _ => rfl) ?_
 obtain rfl := Option.some.inj hm
 refine C_ret ?_
 try simp only [↓inBlock_ret, ↓then_ret]
 exact retQ rfl (Res.one Tryz.results36 rfl) ⟨rfl, rfl⟩

set_option maxRecDepth 4000 in
set_option maxHeartbeats 4000000 in
theorem know_ranked_1_c (w : World) {A : Nat → Prop} (hA : ∀ b, w.heap.size ≤ b → A b) (a_ : know_Hit) (b : know_Hit) {r : Int} (hm : know_ranked_1 a_ b = some r) : Ret Tryz.prog 35 #[.agg #[.int .i64 a_.id_, .int .i64 a_.score], .agg #[.int .i64 b.id_, .int .i64 b.score]] w fun v w' => v = .int .i64 r ∧ Kp Dw w w' := by
 unfold know_ranked_1 at hm
 refine enter Tryz.func35 rfl Tryz.ntmps35 rfl ?_
 have hA0 := hA
 have hB := Nat.le_refl w.heap.size
 have hK : Tr Dw w.heap.size A w A w := Tr.refl (Dw := Dw) hA
 have hH : Hp w.heap.size A w [] := Hp.nil
 refine C_seq ?_
 refine C_region ?_
 refine V_box rfl rfl ?_
 intro b1 w2 h3
 have hk5 := h3.kp (Dw := Dw)
 have h4 : El (α := know_Hit) A w2 b1 0 a_ := h3.el hA ⟨[.int .i64 a_.id_], _, rfl, rfl, rfl⟩
 have ht6 := Kp.tr hk5 hA hB
 replace hK := Tr.trans hK ht6
 replace hB := Nat.le_trans hB ht6.ex.size
 replace hA := ht6.new
 refine V_box rfl rfl ?_
 intro b7 w9 h10
 have hk12 := h10.kp (Dw := Dw)
 have h11 : El (α := know_Hit) A w9 b7 0 b := h10.el hA ⟨[.int .i64 b.id_], _, rfl, rfl, rfl⟩
 have ht13 := Kp.tr hk12 hA hB
 replace h4 := El.tr h4 ht13
 replace hK := Tr.trans hK ht13
 replace hB := Nat.le_trans hB ht13.ex.size
 replace hA := ht13.new
 refine V_as rfl rfl ?_
 refine V_to (fun _ _ => rfl) ?_
 refine C_seq ?_
 refine C_region_qt (Dw := Dw) 10 Tryz_mixed (by kernel_rfl) ?_
 simp only [List.take, List.drop]
 have h14 := El_know_Hit_1 h11
 refine VQ_y (fun w' hw' => Y_fieldAddr Tryz.underlying35 rfl Tryz.sizeOf3 (by decide) rfl) rfl rfl rfl ?_
 refine VQ_y (fun w' hw' => Y_load (El.int (El.kp (Dw := Dw) h14 hw')) Tryz.isAgg3 rfl) rfl rfl rfl ?_
 have h15 := El_know_Hit_1 h4
 refine VQ_y (fun w' hw' => Y_fieldAddr Tryz.underlying35 rfl Tryz.sizeOf3 (by decide) rfl) rfl rfl rfl ?_
 refine VQ_y (fun w' hw' => Y_load (El.int (El.kp (Dw := Dw) h15 hw')) Tryz.isAgg3 rfl) rfl rfl rfl ?_
 refine VQ_call (.int .i64 (cmp_Compare_int b.score a_.score)) Tryz.call37 rfl rfl rfl rfl (fun w' hw' => (cmp_Compare_int_c w' b.score a_.score).mono (fun _ _ h => ⟨h.1, h.2 ▸ hw'⟩)) ?_
 have h16 := El_know_Hit_0 h4
 refine VQ_y (fun w' hw' => Y_fieldAddr Tryz.underlying35 rfl Tryz.sizeOf3 (by decide) rfl) rfl rfl rfl ?_
 refine VQ_y (fun w' hw' => Y_load (El.int (El.kp (Dw := Dw) h16 hw')) Tryz.isAgg3 rfl) rfl rfl rfl ?_
 have h17 := El_know_Hit_0 h11
 refine VQ_y (fun w' hw' => Y_fieldAddr Tryz.underlying35 rfl Tryz.sizeOf3 (by decide) rfl) rfl rfl rfl ?_
 refine VQ_y (fun w' hw' => Y_load (El.int (El.kp (Dw := Dw) h17 hw')) Tryz.isAgg3 rfl) rfl rfl rfl ?_
 refine VQ_call (.int .i64 (cmp_Compare_int a_.id_ b.id_)) Tryz.call37 rfl rfl rfl rfl (fun w' hw' => (cmp_Compare_int_c w' a_.id_ b.id_).mono (fun _ _ h => ⟨h.1, h.2 ▸ hw'⟩)) ?_
 refine VQ_tail (fun w18 hk19 => ?_)
 try simp only [List.take, List.drop]
 have ht20 := Kp.tr hk19 hA hB
 replace hK := Tr.trans hK ht20
 replace hB := Nat.le_trans hB ht20.ex.size
 replace hA := ht20.new
 refine V_buildSlice (Dw := Dw) (cells := #[.int .i64 (cmp_Compare_int b.score a_.score), .int .i64 (cmp_Compare_int a_.id_ b.id_)]) (l := ([(cmp_Compare_int b.score a_.score), (cmp_Compare_int a_.id_ b.id_)] : List Int)) (len := 2) Tryz.underlying22 Tryz.sizeOf3 Tryz.zeroValue3 rfl (by generalize ((cmp_Compare_int b.score a_.score) : Int) = z25; generalize ((cmp_Compare_int a_.id_ b.id_) : Int) = z26; kernel_rfl) (show (2 * 1 : Nat) ≠ 0 by decide) (show (2 * 1 : Nat) ≤ 2 ^ 24 by decide) hA ⟨[.int .i64 (cmp_Compare_int b.score a_.score)], _, rfl, rfl, ⟨[.int .i64 (cmp_Compare_int a_.id_ b.id_)], _, rfl, rfl, rfl⟩⟩ rfl rfl ?_
 intro v21 w22 hk24 h23
 have ht27 := Kp.tr hk24 hA hB
 replace hK := Tr.trans hK ht27
 obtain ⟨x28, hx28, hm⟩ := Option.bind_eq_some_iff.1 hm
 refine V_call Tryz.call36 rfl rfl rfl rfl (cmp_Or_int_c w22 ([(cmp_Compare_int b.score a_.score), (cmp_Compare_int a_.id_ b.id_)] : List Int) v21 h23 hx28) ?_
 rintro _ _ ⟨rfl, rfl⟩
 refine V_as rfl rfl ?_
 refine V_to (fun _ _ => rfl) ?_
 obtain rfl := Option.some.inj hm
 refine C_ret ?_
 try simp only [↓inBlock_ret, ↓then_ret]
 exact retQ rfl (Res.one Tryz.results35 rfl) ⟨rfl, hK.kp⟩

def Tryz_sf34_ren : Go.Shelf.Ren := ⟨fun | 6 => 34 | 14 => 72 | 15 => 33 | 20 => 88 | 21 => 89 | 22 => 90 | 23 => 91 | 24 => 92 | 25 => 93 | 26 => 94 | 27 => 95 | 28 => 70 | 29 => 71 | 46 => 106 | 47 => 107 | 48 => 108 | 49 => 109 | 50 => 110 | 57 => 115 | n => n, fun | 0 => 0 | 1 => 1 | 2 => 2 | 3 => 3 | 4 => 4 | 5 => 5 | 6 => 6 | 7 => 7 | 8 => 8 | 9 => 9 | 10 => 10 | 11 => 11 | 12 => 12 | 13 => 13 | 14 => 14 | 15 => 15 | 16 => 16 | 17 => 17 | 18 => 18 | 19 => 19 | 20 => 20 | 21 => 21 | 22 => 29 | 23 => 75 | 24 => 35 | 25 => 78 | 27 => 22 | 29 => 77 | 37 => 117 | 38 => 73 | 39 => 74 | 42 => 108 | 44 => 124 | 45 => 125 | 46 => 126 | 47 => 127 | 48 => 128 | 49 => 129 | 50 => 91 | 51 => 130 | 52 => 113 | 53 => 114 | 54 => 115 | 55 => 116 | 66 => 141 | 67 => 142 | 68 => 143 | 69 => 144 | 70 => 145 | 71 => 146 | 76 => 150 | 77 => 151 | 78 => 152 | 81 => 103 | 82 => 161 | 83 => 162 | 84 => 163 | 85 => 164 | 86 => 165 | 87 => 166 | 88 => 167 | 89 => 168 | 90 => 169 | 91 => 122 | 92 => 170 | 93 => 171 | 94 => 172 | 95 => 173 | 96 => 138 | n => n, fun n => n⟩
theorem Tryz_sf34_lay : Go.Proofs.SlLaysF0.n6 Tryz.prog Tryz_sf34_ren := {
 mixed := by kernel_rfl,
 f6 := ⟨ "slices.SortFunc[[]porterslodge/know.Hit,porterslodge/know.Hit]", by kernel_rfl, Tryz.func34.trans (congrArg some (by kernel_rfl))⟩,
 f14 := ⟨ "slices.pdqsortCmpFunc[porterslodge/know.Hit]", by kernel_rfl, Tryz.func72.trans (congrArg some (by kernel_rfl))⟩,
 f15 := Tryz.func33.trans (congrArg some (by kernel_rfl)),
 f20 := ⟨ "slices.insertionSortCmpFunc[porterslodge/know.Hit]", by kernel_rfl, Tryz.func88.trans (congrArg some (by kernel_rfl))⟩,
 f21 := ⟨ "slices.heapSortCmpFunc[porterslodge/know.Hit]", by kernel_rfl, Tryz.func89.trans (congrArg some (by kernel_rfl))⟩,
 f22 := ⟨ "slices.breakPatternsCmpFunc[porterslodge/know.Hit]", by kernel_rfl, Tryz.func90.trans (congrArg some (by kernel_rfl))⟩,
 f23 := ⟨ "slices.choosePivotCmpFunc[porterslodge/know.Hit]", by kernel_rfl, Tryz.func91.trans (congrArg some (by kernel_rfl))⟩,
 f24 := ⟨ "slices.reverseRangeCmpFunc[porterslodge/know.Hit]", by kernel_rfl, Tryz.func92.trans (congrArg some (by kernel_rfl))⟩,
 f25 := ⟨ "slices.partialInsertionSortCmpFunc[porterslodge/know.Hit]", by kernel_rfl, Tryz.func93.trans (congrArg some (by kernel_rfl))⟩,
 f26 := ⟨ "slices.partitionEqualCmpFunc[porterslodge/know.Hit]", by kernel_rfl, Tryz.func94.trans (congrArg some (by kernel_rfl))⟩,
 f27 := ⟨ "slices.partitionCmpFunc[porterslodge/know.Hit]", by kernel_rfl, Tryz.func95.trans (congrArg some (by kernel_rfl))⟩,
 f28 := Tryz.func70.trans (congrArg some (by kernel_rfl)),
 f29 := Tryz.func71.trans (congrArg some (by kernel_rfl)),
 f46 := ⟨ "slices.siftDownCmpFunc[porterslodge/know.Hit]", by kernel_rfl, Tryz.func106.trans (congrArg some (by kernel_rfl))⟩,
 f47 := Tryz.func107.trans (congrArg some (by kernel_rfl)),
 f48 := Tryz.func108.trans (congrArg some (by kernel_rfl)),
 f49 := ⟨ "slices.medianAdjacentCmpFunc[porterslodge/know.Hit]", by kernel_rfl, Tryz.func109.trans (congrArg some (by kernel_rfl))⟩,
 f50 := ⟨ "slices.medianCmpFunc[porterslodge/know.Hit]", by kernel_rfl, Tryz.func110.trans (congrArg some (by kernel_rfl))⟩,
 f57 := ⟨ "slices.order2CmpFunc[porterslodge/know.Hit]", by kernel_rfl, Tryz.func115.trans (congrArg some (by kernel_rfl))⟩,
 t0 := Tryz.underlying0,
 a0 := Tryz.isAgg0,
 z0 := Tryz.sizeOf0,
 v0 := Tryz.zeroValue0,
 t3 := Tryz.underlying3,
 a3 := Tryz.isAgg3,
 z3 := Tryz.sizeOf3,
 v3 := Tryz.zeroValue3,
 t4 := Tryz.underlying4,
 a4 := Tryz.isAgg4,
 z4 := Tryz.sizeOf4,
 v4 := Tryz.zeroValue4,
 t5 := Tryz.underlying5,
 a5 := Tryz.isAgg5,
 z5 := Tryz.sizeOf5,
 v5 := Tryz.zeroValue5,
 t9 := Tryz.underlying9,
 a9 := Tryz.isAgg9,
 z9 := Tryz.sizeOf9,
 v9 := Tryz.zeroValue9,
 t22 := Tryz.underlying29,
 a22 := Tryz.isAgg29,
 z22 := Tryz.sizeOf29,
 v22 := Tryz.zeroValue29,
 t25 := Tryz.underlying78,
 a25 := Tryz.isAgg78,
 z25 := Tryz.sizeOf78,
 v25 := Tryz.zeroValue78,
 t39 := Tryz.underlying74,
 a39 := Tryz.isAgg74,
 z39 := Tryz.sizeOf74,
 v39 := Tryz.zeroValue74,
 t45 := Tryz.underlying125,
 a45 := Tryz.isAgg125,
 z45 := Tryz.sizeOf125,
 v45 := Tryz.zeroValue125,
 t46 := Tryz.underlying126,
 a46 := Tryz.isAgg126,
 z46 := Tryz.sizeOf126,
 v46 := Tryz.zeroValue126,
 t50 := Tryz.underlying91,
 a50 := Tryz.isAgg91,
 z50 := Tryz.sizeOf91,
 v50 := Tryz.zeroValue91,
 t53 := Tryz.underlying114,
 a53 := Tryz.isAgg114,
 z53 := Tryz.sizeOf114,
 v53 := Tryz.zeroValue114,
 t55 := Tryz.underlying116,
 a55 := Tryz.isAgg116,
 z55 := Tryz.sizeOf116,
 v55 := Tryz.zeroValue116,
 t66 := Tryz.underlying141,
 a66 := Tryz.isAgg141,
 z66 := Tryz.sizeOf141,
 v66 := Tryz.zeroValue141,
 t70 := Tryz.underlying145,
 a70 := Tryz.isAgg145,
 z70 := Tryz.sizeOf145,
 v70 := Tryz.zeroValue145,
 t76 := Tryz.underlying150,
 a76 := Tryz.isAgg150,
 z76 := Tryz.sizeOf150,
 v76 := Tryz.zeroValue150,
 t77 := Tryz.underlying151,
 a77 := Tryz.isAgg151,
 z77 := Tryz.sizeOf151,
 v77 := Tryz.zeroValue151 }
theorem Tryz_sf34 {cmp : know_Hit → know_Hit → Option Int} {l r : List know_Hit} {g : FuncId} {cb : Array Value} {B : Nat} {A : Nat → Prop} {w : World} {L : List Ob} {i : Nat} {v : Value} (eg : ∀ (args : Array Value) (w : World), (callFunc g args).run Tryz.prog w = .ok (.enter g args) w) (hcl : ∀ (w1 : World), Tr True B A w A w1 → (∀ b, w1.heap.size ≤ b → A b) → ∀ (x y : know_Hit) (cx cy : List Value) (c : Int), GoT.rep A w1 cx x → GoT.rep A w1 cy y → cmp x y = some c → Ret Tryz.prog g (#[.agg cx.toArray, .agg cy.toArray] ++ cb) w1 fun v w' => v = .int .i64 c ∧ Kp True w1 w') (hH : Hp B A w L) (hi : L[i]? = some (obS (α := know_Hit) 35 v l)) (hB : B ≤ w.heap.size) (hA : ∀ b, w.heap.size ≤ b → A b) (hr : sortFuncL cmp l = some r) : Ret Tryz.prog 34 #[v, .func (.func g) #[] cb] w fun u w' => u = .tuple #[] ∧ Hp B A w' (L.set i (obS (α := know_Hit) 35 v r)) ∧ Tr Dw B A w A w' :=
 Hp.sortFuncK (Dw := Dw) (fun p c w => Go.Proofs.AnyF.slices_SortFunc_none Tryz_sf34_lay p c _ w) (fun enc hk hone cf hO blk off cap d w hc hh hb hs => Go.Proofs.AnyQ.slices_SortFunc Tryz_sf34_lay _ Tryz.isAgg35 Tryz.sizeOf35 enc hk hone cf hO g cb blk off cap d w eg hc hh hb hs) hcl hH hi hB hA hr

set_option maxRecDepth 4000 in
set_option maxHeartbeats 4000000 in
theorem slices_Clone_Lknow_Hit_know_Hit_c (w : World) {A : Nat → Prop} (hA : ∀ b, w.heap.size ≤ b → A b) (s : (List know_Hit)) (v_s : Value) (h_s : Sl A w v_s s) {r : (List know_Hit)} (hm : slices_Clone_Lknow_Hit_know_Hit s = some r) : Ret Tryz.prog 38 #[v_s] w fun v w' => ∃ s0, v = s0 ∧ Ownd 35 w w' s0 r ∧ Kp Dw w w' := by
 unfold slices_Clone_Lknow_Hit_know_Hit at hm
 refine enter Tryz.func38 rfl Tryz.ntmps38 rfl ?_
 have hA0 := hA
 have hB := Nat.le_refl w.heap.size
 have hK : Tr Dw w.heap.size A w A w := Tr.refl (Dw := Dw) hA
 have hH : Hp w.heap.size A w [] := Hp.nil
 rcases Sl.split h_s with ⟨rfl, rfl⟩ | ⟨a0, n0, c0, rfl⟩
 ·replace hm : some ([] : (List know_Hit)) = some r := by simpa [appendL] using hm
  refine C_seq ?_
  refine C_region ?_
  refine V_as rfl rfl ?_
  refine V_to (fun _ _ => rfl) ?_
  refine C_seq ?_
  refine C_seq ?_
  refine C_region ?_
  refine V_mv rfl rfl ?_
  refine V_y (Y_eqlNilT rfl rfl Tryz.underlying29) rfl rfl rfl ?_
  refine V_to (fun _ _ => rfl) ?_
  refine C_cond rfl (fun hc => ?_) (fun hc => ?_)
  ·refine C_seq ?_
   refine C_region ?_
   refine V_as rfl rfl ?_
   refine V_to (fun _ _ => rfl) ?_
   obtain rfl := Option.some.inj hm
   replace hH : Hp w.heap.size A w (obS (α := know_Hit) 35 (.slice none 0 0) ([] : (List know_Hit)) :: []) := Hp.addNil (α := know_Hit) (e := 35) hH
   refine C_ret ?_
   try simp only [↓inBlock_ret, ↓then_ret]
   exact retQ rfl (Res.one Tryz.results38 rfl) ⟨.slice none 0 0, rfl, (Hp.ownd hH (i := 0) rfl), hK.kp⟩
  ·exact absurd hc (by decide)
 ·refine C_seq ?_
  refine C_region ?_
  refine V_as rfl rfl ?_
  refine V_to (fun _ _ => rfl) ?_
  refine C_seq ?_
  refine C_seq ?_
  refine C_region ?_
  refine V_mv rfl rfl ?_
  refine V_y (Y_eqlNilF rfl rfl Tryz.underlying29) rfl rfl rfl ?_
  refine V_to (fun _ _ => rfl) ?_
  refine C_cond rfl (fun hc => ?_) (fun hc => ?_)
  ·exact absurd hc (by decide)
  ·refine C_skip_to (fun _ _ => rfl) ?_
   refine C_seq ?_
   refine C_region ?_
   refine V_buildOwn0H (Dw := Dw) (α := know_Hit) hH Tryz.underlying29 Tryz.sizeOf35 hB hA rfl ?_
   intro v3 w4 A5 hH6 ht7
   replace h_s := Sl.tr h_s ht7
   replace hK := Tr.trans hK ht7
   replace hB := Nat.le_trans hB ht7.ex.size
   replace hA := ht7.new
   replace hH : Hp w.heap.size A5 w4 (obS (α := know_Hit) 35 v3 ([] : List know_Hit) :: []) := hH6
   refine V_mv rfl rfl ?_
   obtain ⟨x8, hx8, hm⟩ := Option.bind_eq_some_iff.1 hm
   refine V_appendH (Dw := Dw) (e := 35) (v := v3) (l := ([] : List know_Hit)) (ti := Tryz.t35) (bytes := 16) (lim := 8796093022208) hH (i := 0) rfl h_s hx8 Tryz.underlying29 Tryz_info35 rfl rfl rfl rfl (by decide) (by decide) (by decide) hB hA rfl rfl rfl ?_
   intro v9 w10 A11 hH12 ht13
   replace hK := Tr.trans hK ht13
   replace hH : Hp w.heap.size A11 w10 (obS (α := know_Hit) 35 v9 x8 :: []) := hH12
   refine V_as rfl rfl ?_
   refine V_to (fun _ _ => rfl) ?_
   obtain rfl := Option.some.inj hm
   refine C_ret ?_
   try simp only [↓inBlock_ret, ↓then_ret]
   exact retQ rfl (Res.one Tryz.results38 rfl) ⟨v9, rfl, (Hp.ownd hH (i := 0) rfl), hK.kp⟩

set_option maxRecDepth 4000 in
set_option maxHeartbeats 4000000 in
theorem know_ranked_c (w : World) {A : Nat → Prop} {B : Nat} (hB : B ≤ w.heap.size) (hA : ∀ b, w.heap.size ≤ b → A b) (l : (List know_Hit)) (v_l : Value) (most : Int) {L : List Ob} (hH : Hp B A w (obS (α := know_Hit) 35 v_l l :: L)) {r : (List know_Hit)} (hm : know_ranked l most = some r) : Ret Tryz.prog 15 #[v_l, .int .i64 most] w fun v w' => ∃ s0, ∃ A1 : Nat → Prop, v = s0 ∧ Hp B A1 w' (obS (α := know_Hit) 35 s0 r :: L) ∧ Tr Dw B A w A1 w' := by
 unfold know_ranked at hm
 refine enter Tryz.func15 rfl Tryz.ntmps15 rfl ?_
 have hK : Tr Dw B A w A w := Tr.refl (Dw := Dw) hA
 refine C_seq ?_
 refine C_region ?_
 refine V_as rfl rfl ?_
 refine V_to (fun _ _ => rfl) ?_
 refine C_seq ?_
 refine C_region ?_
 refine V_mv rfl rfl ?_
 obtain ⟨x1, hx1, hm⟩ := Option.bind_eq_some_iff.1 hm
 refine V_call Tryz.call34 rfl rfl rfl rfl (Tryz_sf34 (Dw := Dw) Tryz.call35 (fun w7 ht8 h9 p11 q14 c12 c15 c17 h13 h16 h10 => by obtain ⟨rfl, _⟩ := Rep_know_Hit h13; obtain ⟨rfl, _⟩ := Rep_know_Hit h16; exact (know_ranked_1_c (Dw := True) w7 h9 p11 q14 h10).mono fun _ _ h => ⟨h.1, h.2⟩) hH (i := 0) rfl hB hA hx1) ?_
 rintro _ w2 ⟨rfl, hH3, ht4⟩
 replace hK := Tr.trans hK ht4
 replace hB := Nat.le_trans hB ht4.ex.size
 replace hA := ht4.new
 replace hH : Hp B A w2 (obS (α := know_Hit) 35 v_l x1 :: L) := hH3
 refine V_to (fun _ _ => rfl) ?_
 refine C_seq ?_
 refine C_region ?_
 refine V_mv rfl rfl ?_
 refine V_mv rfl rfl ?_
 refine V_mv rfl rfl ?_
 refine V_y (Y_lenSl (Hp.any (α := know_Hit) (e := 35) (v := v_l) (l := x1) hH (i := 0) rfl) rfl Tryz.underlying29 rfl) rfl rfl rfl ?_
 refine V_y (Y_min2 rfl rfl) rfl rfl rfl ?_
 obtain ⟨A18, ht19, h20, hH21⟩ := Hp.freeze (Dw := Dw) (α := know_Hit) (v := v_l) (l := x1) hH (i := 0) rfl hA
 replace hK := Tr.trans hK ht19
 replace hB := Nat.le_trans hB ht19.ex.size
 replace hA := ht19.new
 replace hH : Hp B A18 w2 (L) := hH21
 obtain ⟨x23, hx23, hm⟩ := Option.bind_eq_some_iff.1 hm
 obtain ⟨v24, h25, h25y⟩ := sliceL_val hx23 h20
 refine V_y (Y_sliceLH h25y Tryz.underlying29 Tryz.sizeOf35 rfl rfl) rfl rfl rfl ?_
 obtain ⟨x26, hx26, hm⟩ := Option.bind_eq_some_iff.1 hm
 refine V_call Tryz.call38 rfl rfl rfl rfl (slices_Clone_Lknow_Hit_know_Hit_c (Dw := Dw) w2 hA x23 v24 h25 hx26) ?_
 rintro v27 w29 ⟨_, rfl, h28, hk30⟩
 obtain ⟨A31, ht32, hH33⟩ := Hp.addOwnd (Dw := Dw) hH hB hA hk30 h28
 replace hK := Tr.trans hK ht32
 replace hH : Hp B A31 w29 (obS (α := know_Hit) 35 v27 x26 :: L) := hH33
 refine V_as rfl rfl ?_
 refine V_to (fun _ _ => rfl) ?_
 obtain rfl := Option.some.inj hm
 refine C_ret ?_
 try simp only [↓inBlock_ret, ↓then_ret]
 exact retQ rfl (Res.one Tryz.results15 rfl) ⟨v27, A31, rfl, hH, hK⟩

end Go.Proofs.YtkjlbaacbkdnfaaGreatDoor.W
