/-
  Written by program (gen.py) from the IR of the dump: each function computes its model.
-/
import Derived.Test.YtkjlbaacbkdnfaaGreatDoorKnowSearchesW4
namespace Go.Proofs.YtkjlbaacbkdnfaaGreatDoor.W
open Go Go.RowKit Go.Pu Go.Gw Go.Proofs Go.Proofs.YtkjlbaacbkdnfaaGreatDoor.M
set_option linter.unusedVariables false
set_option linter.unusedSimpArgs false
variable {Dw : Prop}

set_option maxRecDepth 4000 in
set_option maxHeartbeats 4000000 in
theorem portref2_postingOf_c (w : World) {A : Nat → Prop} (hA : ∀ b, w.heap.size ≤ b → A b) (t : know_Term) (v_t : Value) (h_t : Sl A w v_t t.list_) (id_ : Int) {r : (know_Posting × Bool)} (hm : portref2_postingOf t id_ = some r) : Ret Tryz.prog 43 #[.agg #[.string t.word, v_t], .int .i64 id_] w fun v w' => ∃ s0 s1, v = .tuple #[.agg #[.int .i64 r.1.id_, s0, s1], .bool r.2] ∧ Sl A w' s0 r.1.title ∧ Sl A w' s1 r.1.body ∧ Kp Dw w w' := by
 unfold portref2_postingOf at hm
 refine enter Tryz.func43 rfl Tryz.ntmps43 rfl ?_
 have hA0 := hA
 have hB := Nat.le_refl w.heap.size
 have hK : Tr Dw w.heap.size A w A w := Tr.refl (Dw := Dw) hA
 have hH : Hp w.heap.size A w [] := Hp.nil
 refine C_seq ?_
 refine C_region ?_
 refine V_box rfl rfl ?_
 intro b3 w4 h5
 have hk7 := h5.kp (Dw := Dw)
 have h6 : El (α := know_Term) A w4 b3 0 t := h5.el hA ⟨[.string t.word], _, rfl, rfl, ⟨_, rfl, h_t⟩⟩
 have ht8 := Kp.tr hk7 hA hB
 replace hH := Hp.kp hH hk7
 replace hK := Tr.trans hK ht8
 replace hB := Nat.le_trans hB ht8.ex.size
 replace hA := ht8.new
 refine V_allocH (Dw := Dw) (B := w.heap.size) hH Tryz.zeroValue69 hB hA rfl ?_
 intro b9 w10 A11 hH12 ht13
 replace h6 := El.tr h6 ht13
 replace hK := Tr.trans hK ht13
 replace hB := Nat.le_trans hB ht13.ex.size
 replace hA := ht13.new
 replace hH : Hp w.heap.size A11 w10 (obC b9 [.int .i64 0, .slice none 0 0, .slice none 0 0] 69 :: []) := hH12
 refine V_as rfl rfl ?_
 refine V_to (fun _ _ => rfl) ?_
 refine C_seq ?_
 refine C_seq ?_
 refine C_region ?_
 have h14 := El_know_Term_1 h6
 refine V_y (Y_fieldAddr Tryz.underlying51 rfl Tryz.sizeOf49 (by decide) rfl) rfl rfl rfl ?_
 obtain ⟨v15, h16, h17⟩ := El.list h14
 refine V_y (Y_load h16 Tryz.isAgg49 rfl) rfl rfl rfl ?_
 refine V_y (Y_lenSl h17 rfl Tryz.underlying49 rfl) rfl rfl rfl ?_
 refine V_mv rfl rfl ?_
 refine V_to (fun _ _ => rfl) ?_
 have hn47 := Sl.le h17
 obtain ⟨o18, ho18, hm⟩ := Option.bind_eq_some_iff.1 hm
 refine C_cutG (ι := (know_Posting × Value × Value × (Nat → Prop))) (fun ⟨s19, v25, v27, A29⟩ => [(4, .pointer (some ⟨b9, 0, none⟩))]) (fun ⟨s19, v25, v27, A29⟩ => fun w' => o18 = .fin s19 ∧ Sl A29 w' v25 s19.title ∧ Sl A29 w' v27 s19.body ∧ Hp w.heap.size A29 w' (obC b9 [.int .i64 s19.id_, v25, v27] 69 :: []) ∧ Tr Dw w.heap.size A11 w10 A29 w') ?_ ?_
 ·refine C_block ?_
  refine C_range ho18 (fun k21 s31 a w' => ∃ i : (Value × Value × (Nat → Prop)), Has ⟨22, [], none⟩ a ([(1, .int .i64 id_), (4, .pointer (some ⟨b9, 0, none⟩)), (9, v15), (10, .int .i64 (t.list_.length : Int)), (11, .int .i64 (k21 : Int))]) ∧ Sl i.2.2 w' i.1 s31.title ∧ Sl i.2.2 w' i.2.1 s31.body ∧ Hp w.heap.size i.2.2 w' (obC b9 [.int .i64 s31.id_, i.1, i.2.1] 69 :: []) ∧ Tr Dw w.heap.size A11 w10 i.2.2 w') (fun a ha => ⟨(.slice none 0 0, .slice none 0 0, A11), ha.sub ⟨rfl, rfl, rfl, rfl, rfl, trivial⟩, ⟨Sl.nil, Sl.nil, hH, Tr.refl (Dw := Dw) hA⟩⟩) ?_
  rintro K k21 s31 a w33 ⟨⟨v34, v36, A38⟩, ha90, h35, h37, hH39, hr20⟩ hle43 K46 h45
  refine C_of ?_ ha90
  replace h17 := Sl.tr h17 hr20
  replace hK := Tr.trans hK hr20
  replace hB := Nat.le_trans hB hr20.ex.size
  replace hA := hr20.new
  replace hH : Hp w.heap.size A38 w33 (obC b9 [.int .i64 s31.id_, v34, v36] 69 :: []) := hH39
  refine C_seq (C_region (V_y (Y_lss rfl rfl) rfl rfl rfl (V_to (fun _ _ => rfl) ?_)))
  refine C_seq ?_
  refine C_cond rfl (fun hc48 => ?_) (fun hc48 => ?_)
  ·have hlt44 := lt_of_dec hc48
   obtain ⟨x40, h41, h42⟩ := K46 hlt44
   refine C_skip_to (fun _ _ => rfl) ?_
   refine C_seq ?_
   refine C_block ?_
   refine C_seq ?_
   refine C_region ?_
   obtain ⟨x49, hx49, h41⟩ := Option.bind_eq_some_iff.1 h41
   refine V_indexAddr h17 hx49 Tryz.underlying49 Tryz.sizeOf69 rfl rfl rfl ?_
   intro b50 o51 h52
   obtain ⟨v53, v55, h57, h54, h56⟩ := El_know_Posting h52
   refine V_y (Y_loadA h57 Tryz.isAgg69 Tryz.sizeOf69 rfl) rfl rfl rfl ?_
   refine V_alloc Tryz.zeroValue69 rfl ?_
   intro b58 w59 h60
   have h65 : (v53).oneCell' = true := by obtain ⟨_, _, e, _⟩ := Sl.form h54; rw [e]; rfl
   have h68 : (v55).oneCell' = true := by obtain ⟨_, _, e, _⟩ := Sl.form h56; rw [e]; rfl
   refine V_storeNew h60 Tryz.sizeOf69 rfl rfl rfl rfl (by exact (List.forall_mem_cons.2 ⟨rfl, (List.forall_mem_cons.2 ⟨h65, (List.forall_mem_cons.2 ⟨h68, (fun _ h => nomatch h)⟩)⟩)⟩)) ?_
   intro w61 h62
   have hk70 := h62.kp (Dw := Dw)
   have h69 : El (α := know_Posting) A38 w61 b58 0 x49 := h62.el hA ⟨[.int .i64 x49.id_], _, rfl, rfl, ⟨[v53], _, rfl, ⟨_, rfl, h54⟩, ⟨_, rfl, h56⟩⟩⟩
   have ht71 := Kp.tr hk70 hA hB
   replace hH := Hp.kp hH hk70
   replace h35 := Sl.tr h35 ht71
   replace h37 := Sl.tr h37 ht71
   replace hK := Tr.trans hK ht71
   replace hr20 := Tr.trans hr20 ht71
   replace hB := Nat.le_trans hB ht71.ex.size
   replace hA := ht71.new
   refine V_to (fun _ _ => rfl) ?_
   refine C_seq ?_
   refine C_region ?_
   have h72 := El_know_Posting_0 h69
   refine V_y (Y_fieldAddr Tryz.underlying69 rfl Tryz.sizeOf3 (by decide) rfl) rfl rfl rfl ?_
   refine V_y (Y_load (El.int h72) Tryz.isAgg3 rfl) rfl rfl rfl ?_
   refine V_mv rfl rfl ?_
   refine V_y (Y_eql rfl rfl) rfl rfl rfl ?_
   refine V_to (fun _ _ => rfl) ?_
   refine C_cond rfl (fun hc73 => ?_) (fun hc73 => ?_)
   ·rw [if_pos hc73] at h41
    refine C_seq ?_
    refine C_region ?_
    obtain ⟨v74, v76, h78, h75, h77⟩ := El_know_Posting h69
    refine V_y (Y_loadA h78 Tryz.isAgg69 Tryz.sizeOf69 rfl) rfl rfl rfl ?_
    have h84 : (v74).oneCell' = true := by obtain ⟨_, _, e, _⟩ := Sl.form h75; rw [e]; rfl
    have h87 : (v76).oneCell' = true := by obtain ⟨_, _, e, _⟩ := Sl.form h77; rw [e]; rfl
    refine V_storeC (Dw := Dw) (off := 0) (ds := [.int .i64 x49.id_, v74, v76]) hH (i := 0) rfl Tryz.sizeOf69 rfl (Nat.le_of_ble_eq_true rfl) (by exact (List.forall_mem_cons.2 ⟨rfl, (List.forall_mem_cons.2 ⟨h84, (List.forall_mem_cons.2 ⟨h87, (fun _ h => nomatch h)⟩)⟩)⟩)) rfl hB hA rfl rfl ?_
    intro w79 hH80 ht81
    replace h75 := Sl.tr h75 ht81
    replace h77 := Sl.tr h77 ht81
    replace hK := Tr.trans hK ht81
    replace hH : Hp w.heap.size A38 w79 (obC b9 [.int .i64 x49.id_, v74, v76] 69 :: []) := hH80
    refine V_as rfl rfl ?_
    refine V_to (fun _ _ => rfl) ?_
    obtain rfl := Option.some.inj h41
    obtain rfl := (h42 : Lp.rt _ = _)
    rw [Lp.andThen_rt] at hm
    obtain rfl := Option.some.inj hm
    refine C_ret ?_
    try simp only [↓inBlock_ret, ↓then_ret]
    exact retQ rfl (Res.l2 Tryz.results43 (RL.cell rfl (loadVar_agg (Hp.part (off := 0) (n := 3) (ds := [.int .i64 x49.id_, v74, v76]) hH (i := 0) rfl rfl) Tryz.isAgg69 Tryz.sizeOf69)) (RL.tmp rfl)) ⟨v74, v76, rfl, (Sl.out (Dw := Dw) h75 hA0 hK), (Sl.out (Dw := Dw) h77 hA0 hK), hK.kp⟩
   ·rw [if_neg (nt hc73)] at h41
    refine C_skip_to (fun _ _ => rfl) ?_
    refine C_region ?_
    refine V_y (Y_addI rfl rfl) rfl rfl rfl ?_
    refine V_mv rfl rfl ?_
    obtain rfl := Option.some.inj h41
    refine V_end (fun a ha88 => ?_)
    exact ⟨s31, hlt44, h42, ⟨(v34, v36, A38), ha88.sub ⟨rfl, rfl, rfl, rfl, (congrArg (fun z => some (Value.int .i64 z)) (w64_succ hlt44 hn47)), trivial⟩, ⟨h35, h37, hH, hr20⟩⟩⟩
  ·refine C_exit (fun a ha89 => ?_)
   exact ⟨(s31, v34, v36, A38), ha89.sub ⟨rfl, trivial⟩, ⟨(h45 (eq_of_dec hle43 hc48)).symm, h35, h37, hH, hr20⟩⟩
 rintro ⟨s19, v25, v27, A29⟩ w22 ⟨rfl, h26, h28, hH30, hk23⟩ a ha24
 rw [Lp.andThen_fin] at hm
 replace hK := Tr.trans hK hk23
 replace hB := Nat.le_trans hB hk23.ex.size
 replace hA := hk23.new
 replace hH : Hp w.heap.size A29 w22 (obC b9 [.int .i64 s19.id_, v25, v27] 69 :: []) := hH30
 refine C_at (n := ⟨22, [], none⟩) (fun _ _ => rfl) ?_ ha24
 refine C_seq ?_
 refine C_region ?_
 refine V_y (Y_build Tryz.underlying69 Tryz.zeroValue69 (Tryz_places69 _ Tryz.underlying69) rfl (by with_unfolding_all rfl)) rfl rfl rfl ?_
 refine V_storeC (Dw := Dw) (off := 0) (ds := [.int .i64 0, .slice none 0 0, .slice none 0 0]) hH (i := 0) rfl Tryz.sizeOf69 rfl (Nat.le_of_ble_eq_true rfl) (by exact (List.forall_mem_cons.2 ⟨rfl, (List.forall_mem_cons.2 ⟨rfl, (List.forall_mem_cons.2 ⟨rfl, (fun _ h => nomatch h)⟩)⟩)⟩)) rfl hB hA rfl rfl ?_
 intro w91 hH92 ht93
 replace hK := Tr.trans hK ht93
 replace hH : Hp w.heap.size A29 w91 (obC b9 [.int .i64 0, .slice none 0 0, .slice none 0 0] 69 :: []) := hH92
 refine V_as rfl rfl ?_
 refine V_to (fun _ _ => rfl) ?_
 obtain rfl := Option.some.inj hm
 refine C_ret ?_
 try simp only [↓inBlock_ret, ↓then_ret]
 exact retQ rfl (Res.l2 Tryz.results43 (RL.cell rfl (loadVar_agg (Hp.part (off := 0) (n := 3) (ds := [.int .i64 0, .slice none 0 0, .slice none 0 0]) hH (i := 0) rfl rfl) Tryz.isAgg69 Tryz.sizeOf69)) (RL.tmp rfl)) ⟨.slice none 0 0, .slice none 0 0, rfl, Sl.nil, Sl.nil, hK.kp⟩

set_option maxRecDepth 4000 in
set_option maxHeartbeats 4000000 in
theorem portref2_matches_1_c (w : World) {A : Nat → Prop} (hA : ∀ b, w.heap.size ≤ b → A b) (t : know_Term) (v_t : Value) (h_t : Sl A w v_t t.list_) (p1 : Int) (b_p1 : Nat) (h_p1 : El A w b_p1 0 p1) {r : Bool} (hm : portref2_matches_1 t p1 = some r) : Ret Tryz.prog 42 #[.agg #[.string t.word, v_t], .pointer (some ⟨b_p1, 0, none⟩)] w fun v w' => v = .bool r ∧ Kp Dw w w' := by
 unfold portref2_matches_1 at hm
 refine enter Tryz.func42 rfl Tryz.ntmps42 rfl ?_
 have hA0 := hA
 have hB := Nat.le_refl w.heap.size
 have hK : Tr Dw w.heap.size A w A w := Tr.refl (Dw := Dw) hA
 have hH : Hp w.heap.size A w [] := Hp.nil
 refine C_seq ?_
 refine C_region ?_
 refine V_box rfl rfl ?_
 intro b3 w4 h5
 have hk7 := h5.kp (Dw := Dw)
 have h6 : El (α := know_Term) A w4 b3 0 t := h5.el hA ⟨[.string t.word], _, rfl, rfl, ⟨_, rfl, h_t⟩⟩
 have ht8 := Kp.tr hk7 hA hB
 replace h_p1 := El.tr h_p1 ht8
 replace hK := Tr.trans hK ht8
 replace hB := Nat.le_trans hB ht8.ex.size
 replace hA := ht8.new
 refine V_as rfl rfl ?_
 refine V_to (fun _ _ => rfl) ?_
 refine C_seq ?_
 refine C_region ?_
 obtain ⟨v9, h11, h10⟩ := El_know_Term h6
 refine V_y (Y_loadA h11 Tryz.isAgg51 Tryz.sizeOf51 rfl) rfl rfl rfl ?_
 refine V_y (Y_load (El.int h_p1) Tryz.isAgg3 rfl) rfl rfl rfl ?_
 obtain ⟨x12, hx12, hm⟩ := Option.bind_eq_some_iff.1 hm
 refine V_call Tryz.call43 rfl rfl rfl rfl (portref2_postingOf_c (Dw := Dw) w4 hA t v9 h10 p1 hx12) ?_
 rintro _ w17 ⟨v13, v15, rfl, h14, h16, hk18⟩
 have ht19 := Kp.tr hk18 hA hB
 replace hK := Tr.trans hK ht19
 replace hB := Nat.le_trans hB ht19.ex.size
 replace hA := ht19.new
 refine V_mv rfl rfl ?_
 refine V_y (Y_extract rfl rfl) rfl rfl rfl ?_
 refine V_y (Y_extract rfl rfl) rfl rfl rfl ?_
 refine V_alloc Tryz.zeroValue69 rfl ?_
 intro b20 w21 h22
 have h27 : (v13).oneCell' = true := by obtain ⟨_, _, e, _⟩ := Sl.form h14; rw [e]; rfl
 have h30 : (v15).oneCell' = true := by obtain ⟨_, _, e, _⟩ := Sl.form h16; rw [e]; rfl
 refine V_storeNew h22 Tryz.sizeOf69 rfl rfl rfl rfl (by exact (List.forall_mem_cons.2 ⟨rfl, (List.forall_mem_cons.2 ⟨h27, (List.forall_mem_cons.2 ⟨h30, (fun _ h => nomatch h)⟩)⟩)⟩)) ?_
 intro w23 h24
 have hk32 := h24.kp (Dw := Dw)
 have h31 : El (α := know_Posting) A w23 b20 0 x12.1 := h24.el hA ⟨[.int .i64 x12.1.id_], _, rfl, rfl, ⟨[v13], _, rfl, ⟨_, rfl, h14⟩, ⟨_, rfl, h16⟩⟩⟩
 have ht33 := Kp.tr hk32 hA hB
 replace hK := Tr.trans hK ht33
 refine V_as rfl rfl ?_
 refine V_to (fun _ _ => rfl) ?_
 refine C_seq ?_
 refine C_region ?_
 refine V_mv rfl rfl ?_
 refine V_as rfl rfl ?_
 refine V_to (fun _ _ => rfl) ?_
 obtain rfl := Option.some.inj hm
 refine C_ret ?_
 try simp only [↓inBlock_ret, ↓then_ret]
 exact retQ rfl (Res.one Tryz.results42 rfl) ⟨rfl, hK.kp⟩

set_option maxRecDepth 4000 in
set_option maxHeartbeats 4000000 in
theorem portref2_termOf_c (w : World) {A : Nat → Prop} (hA : ∀ b, w.heap.size ≤ b → A b) (x : know_Index) (v_x0 : Value) (h_x0 : Sl A w v_x0 x.ids) (v_x1 : Value) (h_x1 : Sl A w v_x1 x.sizes) (v_x2 : Value) (h_x2 : Sl A w v_x2 x.terms) (word : ByteArray) {r : (know_Term × Bool)} (hm : portref2_termOf x word = some r) : Ret Tryz.prog 45 #[.agg #[v_x0, v_x1, v_x2], .string word] w fun v w' => ∃ s0, v = .tuple #[.agg #[.string r.1.word, s0], .bool r.2] ∧ Sl A w' s0 r.1.list_ ∧ Kp Dw w w' := by
 unfold portref2_termOf at hm
 refine enter Tryz.func45 rfl Tryz.ntmps45 rfl ?_
 have hA0 := hA
 have hB := Nat.le_refl w.heap.size
 have hK : Tr Dw w.heap.size A w A w := Tr.refl (Dw := Dw) hA
 have hH : Hp w.heap.size A w [] := Hp.nil
 refine C_seq ?_
 refine C_region ?_
 refine V_box rfl rfl ?_
 intro b7 w9 h10
 have hk12 := h10.kp (Dw := Dw)
 have h11 : El (α := know_Index) A w9 b7 0 x := h10.el hA ⟨[v_x0], _, rfl, ⟨_, rfl, h_x0⟩, ⟨[v_x1], _, rfl, ⟨_, rfl, h_x1⟩, ⟨_, rfl, h_x2⟩⟩⟩
 have ht13 := Kp.tr hk12 hA hB
 replace hH := Hp.kp hH hk12
 replace hK := Tr.trans hK ht13
 replace hB := Nat.le_trans hB ht13.ex.size
 replace hA := ht13.new
 refine V_allocH (Dw := Dw) (B := w.heap.size) hH Tryz.zeroValue51 hB hA rfl ?_
 intro b14 w15 A16 hH17 ht18
 replace h11 := El.tr h11 ht18
 replace hK := Tr.trans hK ht18
 replace hB := Nat.le_trans hB ht18.ex.size
 replace hA := ht18.new
 replace hH : Hp w.heap.size A16 w15 (obC b14 [.string ByteArray.empty, .slice none 0 0] 51 :: []) := hH17
 refine V_as rfl rfl ?_
 refine V_to (fun _ _ => rfl) ?_
 refine C_seq ?_
 refine C_seq ?_
 refine C_region ?_
 have h19 := El_know_Index_2 h11
 refine V_y (Y_fieldAddr Tryz.underlying25 rfl Tryz.sizeOf23 (by decide) rfl) rfl rfl rfl ?_
 obtain ⟨v20, h21, h22⟩ := El.list h19
 refine V_y (Y_load h21 Tryz.isAgg23 rfl) rfl rfl rfl ?_
 refine V_y (Y_lenSl h22 rfl Tryz.underlying23 rfl) rfl rfl rfl ?_
 refine V_mv rfl rfl ?_
 refine V_to (fun _ _ => rfl) ?_
 have hn47 := Sl.le h22
 obtain ⟨o23, ho23, hm⟩ := Option.bind_eq_some_iff.1 hm
 refine C_cutG (ι := (know_Term × Value × (Nat → Prop))) (fun ⟨s24, v30, A32⟩ => [(4, .pointer (some ⟨b14, 0, none⟩))]) (fun ⟨s24, v30, A32⟩ => fun w' => o23 = .fin s24 ∧ Sl A32 w' v30 s24.list_ ∧ Hp w.heap.size A32 w' (obC b14 [.string s24.word, v30] 51 :: []) ∧ Tr Dw w.heap.size A16 w15 A32 w') ?_ ?_
 ·refine C_block ?_
  refine C_range ho23 (fun k26 s34 a w' => ∃ i : (Value × (Nat → Prop)), Has ⟨22, [], none⟩ a ([(1, .string word), (4, .pointer (some ⟨b14, 0, none⟩)), (9, v20), (10, .int .i64 (x.terms.length : Int)), (11, .int .i64 (k26 : Int))]) ∧ Sl i.2 w' i.1 s34.list_ ∧ Hp w.heap.size i.2 w' (obC b14 [.string s34.word, i.1] 51 :: []) ∧ Tr Dw w.heap.size A16 w15 i.2 w') (fun a ha => ⟨(.slice none 0 0, A16), ha.sub ⟨rfl, rfl, rfl, rfl, rfl, trivial⟩, ⟨Sl.nil, hH, Tr.refl (Dw := Dw) hA⟩⟩) ?_
  rintro K k26 s34 a w35 ⟨⟨v36, A38⟩, ha80, h37, hH39, hr25⟩ hle43 K46 h45
  refine C_of ?_ ha80
  replace h22 := Sl.tr h22 hr25
  replace hK := Tr.trans hK hr25
  replace hB := Nat.le_trans hB hr25.ex.size
  replace hA := hr25.new
  replace hH : Hp w.heap.size A38 w35 (obC b14 [.string s34.word, v36] 51 :: []) := hH39
  refine C_seq (C_region (V_y (Y_lss rfl rfl) rfl rfl rfl (V_to (fun _ _ => rfl) ?_)))
  refine C_seq ?_
  refine C_cond rfl (fun hc48 => ?_) (fun hc48 => ?_)
  ·have hlt44 := lt_of_dec hc48
   obtain ⟨x40, h41, h42⟩ := K46 hlt44
   refine C_skip_to (fun _ _ => rfl) ?_
   refine C_seq ?_
   refine C_block ?_
   refine C_seq ?_
   refine C_region ?_
   obtain ⟨x49, hx49, h41⟩ := Option.bind_eq_some_iff.1 h41
   refine V_indexAddr h22 hx49 Tryz.underlying23 Tryz.sizeOf51 rfl rfl rfl ?_
   intro b50 o51 h52
   obtain ⟨v53, h55, h54⟩ := El_know_Term h52
   refine V_y (Y_loadA h55 Tryz.isAgg51 Tryz.sizeOf51 rfl) rfl rfl rfl ?_
   refine V_alloc Tryz.zeroValue51 rfl ?_
   intro b56 w57 h58
   have h63 : (v53).oneCell' = true := by obtain ⟨_, _, e, _⟩ := Sl.form h54; rw [e]; rfl
   refine V_storeNew h58 Tryz.sizeOf51 rfl rfl rfl rfl (by exact (List.forall_mem_cons.2 ⟨rfl, (List.forall_mem_cons.2 ⟨h63, (fun _ h => nomatch h)⟩)⟩)) ?_
   intro w59 h60
   have hk65 := h60.kp (Dw := Dw)
   have h64 : El (α := know_Term) A38 w59 b56 0 x49 := h60.el hA ⟨[.string x49.word], _, rfl, rfl, ⟨_, rfl, h54⟩⟩
   have ht66 := Kp.tr hk65 hA hB
   replace hH := Hp.kp hH hk65
   replace h37 := Sl.tr h37 ht66
   replace hK := Tr.trans hK ht66
   replace hr25 := Tr.trans hr25 ht66
   replace hB := Nat.le_trans hB ht66.ex.size
   replace hA := ht66.new
   refine V_to (fun _ _ => rfl) ?_
   refine C_seq ?_
   refine C_region ?_
   have h67 := El_know_Term_0 h64
   refine V_y (Y_fieldAddr Tryz.underlying51 rfl Tryz.sizeOf9 (by decide) rfl) rfl rfl rfl ?_
   refine V_y (Y_load (El.str h67) Tryz.isAgg9 rfl) rfl rfl rfl ?_
   refine V_mv rfl rfl ?_
   refine V_y (Y_seql rfl rfl) rfl rfl rfl ?_
   refine V_to (fun _ _ => rfl) ?_
   refine C_cond rfl (fun hc68 => ?_) (fun hc68 => ?_)
   ·rw [if_pos hc68] at h41
    refine C_seq ?_
    refine C_region ?_
    obtain ⟨v69, h71, h70⟩ := El_know_Term h64
    refine V_y (Y_loadA h71 Tryz.isAgg51 Tryz.sizeOf51 rfl) rfl rfl rfl ?_
    have h77 : (v69).oneCell' = true := by obtain ⟨_, _, e, _⟩ := Sl.form h70; rw [e]; rfl
    refine V_storeC (Dw := Dw) (off := 0) (ds := [.string x49.word, v69]) hH (i := 0) rfl Tryz.sizeOf51 rfl (Nat.le_of_ble_eq_true rfl) (by exact (List.forall_mem_cons.2 ⟨rfl, (List.forall_mem_cons.2 ⟨h77, (fun _ h => nomatch h)⟩)⟩)) rfl hB hA rfl rfl ?_
    intro w72 hH73 ht74
    replace h70 := Sl.tr h70 ht74
    replace hK := Tr.trans hK ht74
    replace hH : Hp w.heap.size A38 w72 (obC b14 [.string x49.word, v69] 51 :: []) := hH73
    refine V_as rfl rfl ?_
    refine V_to (fun _ _ => rfl) ?_
    obtain rfl := Option.some.inj h41
    obtain rfl := (h42 : Lp.rt _ = _)
    rw [Lp.andThen_rt] at hm
    obtain rfl := Option.some.inj hm
    refine C_ret ?_
    try simp only [↓inBlock_ret, ↓then_ret]
    exact retQ rfl (Res.l2 Tryz.results45 (RL.cell rfl (loadVar_agg (Hp.part (off := 0) (n := 2) (ds := [.string x49.word, v69]) hH (i := 0) rfl rfl) Tryz.isAgg51 Tryz.sizeOf51)) (RL.tmp rfl)) ⟨v69, rfl, (Sl.out (Dw := Dw) h70 hA0 hK), hK.kp⟩
   ·rw [if_neg (nt hc68)] at h41
    refine C_skip_to (fun _ _ => rfl) ?_
    refine C_region ?_
    refine V_y (Y_addI rfl rfl) rfl rfl rfl ?_
    refine V_mv rfl rfl ?_
    obtain rfl := Option.some.inj h41
    refine V_end (fun a ha78 => ?_)
    exact ⟨s34, hlt44, h42, ⟨(v36, A38), ha78.sub ⟨rfl, rfl, rfl, rfl, (congrArg (fun z => some (Value.int .i64 z)) (w64_succ hlt44 hn47)), trivial⟩, ⟨h37, hH, hr25⟩⟩⟩
  ·refine C_exit (fun a ha79 => ?_)
   exact ⟨(s34, v36, A38), ha79.sub ⟨rfl, trivial⟩, ⟨(h45 (eq_of_dec hle43 hc48)).symm, h37, hH, hr25⟩⟩
 rintro ⟨s24, v30, A32⟩ w27 ⟨rfl, h31, hH33, hk28⟩ a ha29
 rw [Lp.andThen_fin] at hm
 replace hK := Tr.trans hK hk28
 replace hB := Nat.le_trans hB hk28.ex.size
 replace hA := hk28.new
 replace hH : Hp w.heap.size A32 w27 (obC b14 [.string s24.word, v30] 51 :: []) := hH33
 refine C_at (n := ⟨22, [], none⟩) (fun _ _ => rfl) ?_ ha29
 refine C_seq ?_
 refine C_region ?_
 refine V_y (Y_build Tryz.underlying51 Tryz.zeroValue51 (Tryz_places51 _ Tryz.underlying51) rfl (by with_unfolding_all rfl)) rfl rfl rfl ?_
 refine V_storeC (Dw := Dw) (off := 0) (ds := [.string ByteArray.empty, .slice none 0 0]) hH (i := 0) rfl Tryz.sizeOf51 rfl (Nat.le_of_ble_eq_true rfl) (by exact (List.forall_mem_cons.2 ⟨rfl, (List.forall_mem_cons.2 ⟨rfl, (fun _ h => nomatch h)⟩)⟩)) rfl hB hA rfl rfl ?_
 intro w81 hH82 ht83
 replace hK := Tr.trans hK ht83
 replace hH : Hp w.heap.size A32 w81 (obC b14 [.string ByteArray.empty, .slice none 0 0] 51 :: []) := hH82
 refine V_as rfl rfl ?_
 refine V_to (fun _ _ => rfl) ?_
 obtain rfl := Option.some.inj hm
 refine C_ret ?_
 try simp only [↓inBlock_ret, ↓then_ret]
 exact retQ rfl (Res.l2 Tryz.results45 (RL.cell rfl (loadVar_agg (Hp.part (off := 0) (n := 2) (ds := [.string ByteArray.empty, .slice none 0 0]) hH (i := 0) rfl rfl) Tryz.isAgg51 Tryz.sizeOf51)) (RL.tmp rfl)) ⟨.slice none 0 0, rfl, Sl.nil, hK.kp⟩

set_option maxRecDepth 4000 in
set_option maxHeartbeats 4000000 in
theorem portref2_matches_2_c (w : World) {A : Nat → Prop} (hA : ∀ b, w.heap.size ≤ b → A b) (w_ : ByteArray) (title : Bool) (p2 : know_Index) (b_p2 : Nat) (h_p2 : El A w b_p2 0 p2) (p3 : Int) (b_p3 : Nat) (h_p3 : El A w b_p3 0 p3) {r : (List Int)} (hm : portref2_matches_2 w_ title p2 p3 = some r) : Ret Tryz.prog 44 #[.string w_, .bool title, .pointer (some ⟨b_p2, 0, none⟩), .pointer (some ⟨b_p3, 0, none⟩)] w fun v w' => ∃ s0, v = s0 ∧ Sl A w' s0 r ∧ Kp False w w' := by
 unfold portref2_matches_2 at hm
 refine enter Tryz.func44 rfl Tryz.ntmps44 rfl ?_
 have hA0 := hA
 have hB := Nat.le_refl w.heap.size
 have hK : Tr False w.heap.size A w A w := Tr.refl (Dw := False) hA
 have hH : Hp w.heap.size A w [] := Hp.nil
 refine C_seq ?_
 refine C_region ?_
 refine V_as rfl rfl ?_
 refine V_to (fun _ _ => rfl) ?_
 refine C_seq ?_
 refine C_region_chz (Dw := False) A 7 [(1, 0), (1, 1), (2, 2), (2, 3), (1, 4), (1, 5), (1, 6)] [(4, 8), (1, 9)] Tryz_mixed (by kernel_rfl) (fun w1 hk2 => ?_)
 have ht3 := Kp.tr (Dw := False) hk2 hA hB
 replace hH := Hp.kp (Dw := False) hH hk2
 replace h_p2 := El.tr (Dw := False) h_p2 ht3
 replace h_p3 := El.tr (Dw := False) h_p3 ht3
 replace hK := Tr.trans (Dw := False) hK ht3
 replace hB := Nat.le_trans hB ht3.ex.size
 replace hA := ht3.new
 refine CHZ_q2 (Dw := False) rfl ?_
 obtain ⟨v4, v6, v8, h10, h5, h7, h9⟩ := El_know_Index h_p2
 refine VQ_y (fun w' hw' => Y_loadA (At.same h10 (hw'.2 _ h_p2.2.1 h_p2.1)) Tryz.isAgg25 Tryz.sizeOf25 rfl) rfl rfl rfl ?_
 refine VQ_CHZ (Dw := False) ?_
 refine CHZ_q2 (Dw := False) rfl ?_
 refine VQ_y (fun w' hw' => Y_move rfl) rfl rfl rfl ?_
 refine VQ_CHZ (Dw := False) ?_
 refine CHZ_l1 (Dw := False) (k := 0) [(2, 7), (2, 2), (2, 3), (1, 4), (1, 5), (1, 6), (4, 8), (1, 9)] rfl ?_ rfl ?_
 ·refine CH_l1 (Dw := False) (k := 0) rfl ?_
  refine V_allocHk (Dw := False) (B := w.heap.size) hH Tryz.zeroValue51 hB hA rfl ?_
  intro b11 w12 A13 hk16 hH14 ht15
  replace h_p3 := El.tr (Dw := False) h_p3 ht15
  replace h5 := Sl.tr (Dw := False) h5 ht15
  replace h7 := Sl.tr (Dw := False) h7 ht15
  replace h9 := Sl.tr (Dw := False) h9 ht15
  replace hK := Tr.trans (Dw := False) hK ht15
  replace hB := Nat.le_trans hB ht15.ex.size
  replace hA := ht15.new
  replace hH : Hp w.heap.size A13 w12 (obC b11 [.string ByteArray.empty, .slice none 0 0] 51 :: []) := hH14
  refine V_CH (Dw := False) (hk16) ?_
  refine CH_l1 (Dw := False) (k := 0) rfl ?_
  obtain ⟨x17, hx17, hm⟩ := Option.bind_eq_some_iff.1 hm
  refine V_call Tryz.call46 rfl rfl rfl rfl (portref2_StemOf_c w12 hA w_ hx17) ?_
  rintro _ w18 ⟨rfl, hk19⟩
  have ht20 := Kp.tr (Dw := False) hk19 hA hB
  replace hH := Hp.kp (Dw := False) hH hk19
  replace h_p3 := El.tr (Dw := False) h_p3 ht20
  replace h5 := Sl.tr (Dw := False) h5 ht20
  replace h7 := Sl.tr (Dw := False) h7 ht20
  replace h9 := Sl.tr (Dw := False) h9 ht20
  replace hK := Tr.trans (Dw := False) hK ht20
  replace hB := Nat.le_trans hB ht20.ex.size
  replace hA := ht20.new
  refine V_CH (Dw := False) (hk19) ?_
  refine CH_l1 (Dw := False) (k := 0) rfl ?_
  obtain ⟨x21, hx21, hm⟩ := Option.bind_eq_some_iff.1 hm
  refine V_call Tryz.call45 rfl rfl rfl rfl (portref2_termOf_c (Dw := False) w18 hA p2 v4 h5 v6 h7 v8 h9 x17 hx21) ?_
  rintro _ w24 ⟨v22, rfl, h23, hk25⟩
  have ht26 := Kp.tr (Dw := False) hk25 hA hB
  replace hH := Hp.kp (Dw := False) hH hk25
  replace h_p3 := El.tr (Dw := False) h_p3 ht26
  replace hK := Tr.trans (Dw := False) hK ht26
  replace hB := Nat.le_trans hB ht26.ex.size
  replace hA := ht26.new
  refine V_CH (Dw := False) (hk25) ?_
  refine CH_q2 (Dw := False) rfl ?_
  refine VQ_y (fun w' hw' => Y_move rfl) rfl rfl rfl ?_
  refine VQ_CH (Dw := False) ?_
  refine CH_q2 (Dw := False) rfl ?_
  refine VQ_y (fun w' hw' => Y_extract rfl rfl) rfl rfl rfl ?_
  refine VQ_CH (Dw := False) ?_
  refine CH_q2 (Dw := False) rfl ?_
  refine VQ_y (fun w' hw' => Y_extract rfl rfl) rfl rfl rfl ?_
  refine VQ_CH (Dw := False) ?_
  refine CH_l1 (Dw := False) (k := 2) rfl ?_
  have h32 : (v22).oneCell' = true := by obtain ⟨_, _, e, _⟩ := Sl.form h23; rw [e]; rfl
  refine V_storeC (Dw := False) (off := 0) (ds := [.string x21.1.word, v22]) hH (i := 0) rfl Tryz.sizeOf51 rfl (Nat.le_of_ble_eq_true rfl) (by exact (List.forall_mem_cons.2 ⟨rfl, (List.forall_mem_cons.2 ⟨h32, (fun _ h => nomatch h)⟩)⟩)) rfl hB hA rfl rfl ?_
  intro w27 hH28 ht29
  replace h_p3 := El.tr (Dw := False) h_p3 ht29
  replace h23 := Sl.tr (Dw := False) h23 ht29
  replace hK := Tr.trans (Dw := False) hK ht29
  replace hB := Nat.le_trans hB ht29.ex.size
  replace hA := ht29.new
  replace hH : Hp w.heap.size A13 w27 (obC b11 [.string x21.1.word, v22] 51 :: []) := hH28
  obtain ⟨A33, ht34, h35, hH36⟩ := Hp.freezeC (Dw := False) (α := know_Term) (x := x21.1) hH (i := 0) rfl hA (by exact ⟨[.string x21.1.word], _, rfl, rfl, ⟨_, rfl, h23⟩⟩)
  replace h_p3 := El.tr (Dw := False) h_p3 ht34
  replace hK := Tr.trans (Dw := False) hK ht34
  replace hB := Nat.le_trans hB ht34.ex.size
  replace hA := ht34.new
  replace hH : Hp w.heap.size A33 w27 ([]) := hH36
  refine V_CHw (Dw := False) ?_
  refine CH_q2 (Dw := False) rfl ?_
  refine VQ_y (fun w' hw' => Y_assign rfl) rfl rfl rfl ?_
  refine VQ_CH (Dw := False) ?_
  refine CH_tail (Dw := False) ?_
  show V _ _ _ _ [] _ _
  refine V_to (fun _ _ => rfl) ?_
  refine C_seq ?_
  refine C_region ?_
  obtain ⟨v37, h39, h38⟩ := El_know_Term h35
  refine V_y (Y_loadA h39 Tryz.isAgg51 Tryz.sizeOf51 rfl) rfl rfl rfl ?_
  refine V_y (Y_load (El.int h_p3) Tryz.isAgg3 rfl) rfl rfl rfl ?_
  obtain ⟨x40, hx40, hm⟩ := Option.bind_eq_some_iff.1 hm
  refine V_call Tryz.call43 rfl rfl rfl rfl (portref2_postingOf_c (Dw := False) w27 hA x21.1 v37 h38 p3 hx40) ?_
  rintro _ w45 ⟨v41, v43, rfl, h42, h44, hk46⟩
  have ht47 := Kp.tr (Dw := False) hk46 hA hB
  replace hK := Tr.trans (Dw := False) hK ht47
  replace hB := Nat.le_trans hB ht47.ex.size
  replace hA := ht47.new
  refine V_mv rfl rfl ?_
  refine V_y (Y_extract rfl rfl) rfl rfl rfl ?_
  refine V_y (Y_extract rfl rfl) rfl rfl rfl ?_
  refine V_alloc Tryz.zeroValue69 rfl ?_
  intro b48 w49 h50
  have h55 : (v41).oneCell' = true := by obtain ⟨_, _, e, _⟩ := Sl.form h42; rw [e]; rfl
  have h58 : (v43).oneCell' = true := by obtain ⟨_, _, e, _⟩ := Sl.form h44; rw [e]; rfl
  refine V_storeNew h50 Tryz.sizeOf69 rfl rfl rfl rfl (by exact (List.forall_mem_cons.2 ⟨rfl, (List.forall_mem_cons.2 ⟨h55, (List.forall_mem_cons.2 ⟨h58, (fun _ h => nomatch h)⟩)⟩)⟩)) ?_
  intro w51 h52
  have hk60 := h52.kp (Dw := False)
  have h59 : El (α := know_Posting) A33 w51 b48 0 x40.1 := h52.el hA ⟨[.int .i64 x40.1.id_], _, rfl, rfl, ⟨[v41], _, rfl, ⟨_, rfl, h42⟩, ⟨_, rfl, h44⟩⟩⟩
  have ht61 := Kp.tr (Dw := False) hk60 hA hB
  replace hK := Tr.trans (Dw := False) hK ht61
  refine V_as rfl rfl ?_
  refine V_to (fun _ _ => rfl) ?_
  refine C_seq ?_
  refine C_seq ?_
  refine C_region ?_
  refine V_mv rfl rfl ?_
  refine V_to (fun _ _ => rfl) ?_
  refine C_cond rfl (fun hc62 => ?_) (fun hc62 => ?_)
  ·rw [if_pos hc62] at hm
   refine C_seq ?_
   refine C_region ?_
   have h63 := El_know_Posting_1 h59
   refine V_y (Y_fieldAddr Tryz.underlying69 rfl Tryz.sizeOf22 (by decide) rfl) rfl rfl rfl ?_
   obtain ⟨v64, h65, h66⟩ := El.list h63
   refine V_y (Y_load h65 Tryz.isAgg22 rfl) rfl rfl rfl ?_
   refine V_as rfl rfl ?_
   refine V_to (fun _ _ => rfl) ?_
   obtain rfl := Option.some.inj hm
   refine C_ret ?_
   try simp only [↓inBlock_ret, ↓then_ret]
   exact retQ rfl (Res.one Tryz.results44 rfl) ⟨v64, rfl, (Sl.out (Dw := False) h66 hA0 hK), hK.kp⟩
  ·rw [if_neg (nt hc62)] at hm
   refine C_skip_to (fun _ _ => rfl) ?_
   refine C_seq ?_
   refine C_region ?_
   have h67 := El_know_Posting_2 h59
   refine V_y (Y_fieldAddr Tryz.underlying69 rfl Tryz.sizeOf22 (by decide) rfl) rfl rfl rfl ?_
   obtain ⟨v68, h69, h70⟩ := El.list h67
   refine V_y (Y_load h69 Tryz.isAgg22 rfl) rfl rfl rfl ?_
   refine V_as rfl rfl ?_
   refine V_to (fun _ _ => rfl) ?_
   obtain rfl := Option.some.inj hm
   refine C_ret ?_
   try simp only [↓inBlock_ret, ↓then_ret]
   exact retQ rfl (Res.one Tryz.results44 rfl) ⟨v68, rfl, (Sl.out (Dw := False) h70 hA0 hK), hK.kp⟩
 obtain ⟨x71, hx71, hm⟩ := Option.bind_eq_some_iff.1 hm
 refine V_call Tryz.call46 rfl rfl rfl rfl (portref2_StemOf_c w1 hA w_ hx71) ?_
 rintro _ w72 ⟨rfl, hk73⟩
 have ht74 := Kp.tr (Dw := False) hk73 hA hB
 replace hH := Hp.kp (Dw := False) hH hk73
 replace h_p3 := El.tr (Dw := False) h_p3 ht74
 replace h5 := Sl.tr (Dw := False) h5 ht74
 replace h7 := Sl.tr (Dw := False) h7 ht74
 replace h9 := Sl.tr (Dw := False) h9 ht74
 replace hK := Tr.trans (Dw := False) hK ht74
 replace hB := Nat.le_trans hB ht74.ex.size
 replace hA := ht74.new
 refine V_CHZ (Dw := False) (hk73) ?_
 refine CHZ_l1 (Dw := False) (k := 0) [(2, 7), (2, 3), (1, 4), (1, 5), (1, 6), (4, 8), (1, 9)] rfl ?_ rfl ?_
 ·refine CH_l1 (Dw := False) (k := 0) rfl ?_
  refine V_allocHk (Dw := False) (B := w.heap.size) hH Tryz.zeroValue51 hB hA rfl ?_
  intro b75 w76 A77 hk80 hH78 ht79
  replace h_p3 := El.tr (Dw := False) h_p3 ht79
  replace h5 := Sl.tr (Dw := False) h5 ht79
  replace h7 := Sl.tr (Dw := False) h7 ht79
  replace h9 := Sl.tr (Dw := False) h9 ht79
  replace hK := Tr.trans (Dw := False) hK ht79
  replace hB := Nat.le_trans hB ht79.ex.size
  replace hA := ht79.new
  replace hH : Hp w.heap.size A77 w76 (obC b75 [.string ByteArray.empty, .slice none 0 0] 51 :: []) := hH78
  refine V_CH (Dw := False) (hk80) ?_
  refine CH_l1 (Dw := False) (k := 0) rfl ?_
  obtain ⟨x81, hx81, hm⟩ := Option.bind_eq_some_iff.1 hm
  refine V_call Tryz.call45 rfl rfl rfl rfl (portref2_termOf_c (Dw := False) w76 hA p2 v4 h5 v6 h7 v8 h9 x71 hx81) ?_
  rintro _ w84 ⟨v82, rfl, h83, hk85⟩
  have ht86 := Kp.tr (Dw := False) hk85 hA hB
  replace hH := Hp.kp (Dw := False) hH hk85
  replace h_p3 := El.tr (Dw := False) h_p3 ht86
  replace hK := Tr.trans (Dw := False) hK ht86
  replace hB := Nat.le_trans hB ht86.ex.size
  replace hA := ht86.new
  refine V_CH (Dw := False) (hk85) ?_
  refine CH_q2 (Dw := False) rfl ?_
  refine VQ_y (fun w' hw' => Y_move rfl) rfl rfl rfl ?_
  refine VQ_CH (Dw := False) ?_
  refine CH_q2 (Dw := False) rfl ?_
  refine VQ_y (fun w' hw' => Y_extract rfl rfl) rfl rfl rfl ?_
  refine VQ_CH (Dw := False) ?_
  refine CH_q2 (Dw := False) rfl ?_
  refine VQ_y (fun w' hw' => Y_extract rfl rfl) rfl rfl rfl ?_
  refine VQ_CH (Dw := False) ?_
  refine CH_l1 (Dw := False) (k := 2) rfl ?_
  have h92 : (v82).oneCell' = true := by obtain ⟨_, _, e, _⟩ := Sl.form h83; rw [e]; rfl
  refine V_storeC (Dw := False) (off := 0) (ds := [.string x81.1.word, v82]) hH (i := 0) rfl Tryz.sizeOf51 rfl (Nat.le_of_ble_eq_true rfl) (by exact (List.forall_mem_cons.2 ⟨rfl, (List.forall_mem_cons.2 ⟨h92, (fun _ h => nomatch h)⟩)⟩)) rfl hB hA rfl rfl ?_
  intro w87 hH88 ht89
  replace h_p3 := El.tr (Dw := False) h_p3 ht89
  replace h83 := Sl.tr (Dw := False) h83 ht89
  replace hK := Tr.trans (Dw := False) hK ht89
  replace hB := Nat.le_trans hB ht89.ex.size
  replace hA := ht89.new
  replace hH : Hp w.heap.size A77 w87 (obC b75 [.string x81.1.word, v82] 51 :: []) := hH88
  obtain ⟨A93, ht94, h95, hH96⟩ := Hp.freezeC (Dw := False) (α := know_Term) (x := x81.1) hH (i := 0) rfl hA (by exact ⟨[.string x81.1.word], _, rfl, rfl, ⟨_, rfl, h83⟩⟩)
  replace h_p3 := El.tr (Dw := False) h_p3 ht94
  replace hK := Tr.trans (Dw := False) hK ht94
  replace hB := Nat.le_trans hB ht94.ex.size
  replace hA := ht94.new
  replace hH : Hp w.heap.size A93 w87 ([]) := hH96
  refine V_CHw (Dw := False) ?_
  refine CH_q2 (Dw := False) rfl ?_
  refine VQ_y (fun w' hw' => Y_assign rfl) rfl rfl rfl ?_
  refine VQ_CH (Dw := False) ?_
  refine CH_tail (Dw := False) ?_
  show V _ _ _ _ [] _ _
  refine V_to (fun _ _ => rfl) ?_
  refine C_seq ?_
  refine C_region ?_
  obtain ⟨v97, h99, h98⟩ := El_know_Term h95
  refine V_y (Y_loadA h99 Tryz.isAgg51 Tryz.sizeOf51 rfl) rfl rfl rfl ?_
  refine V_y (Y_load (El.int h_p3) Tryz.isAgg3 rfl) rfl rfl rfl ?_
  obtain ⟨x100, hx100, hm⟩ := Option.bind_eq_some_iff.1 hm
  refine V_call Tryz.call43 rfl rfl rfl rfl (portref2_postingOf_c (Dw := False) w87 hA x81.1 v97 h98 p3 hx100) ?_
  rintro _ w105 ⟨v101, v103, rfl, h102, h104, hk106⟩
  have ht107 := Kp.tr (Dw := False) hk106 hA hB
  replace hK := Tr.trans (Dw := False) hK ht107
  replace hB := Nat.le_trans hB ht107.ex.size
  replace hA := ht107.new
  refine V_mv rfl rfl ?_
  refine V_y (Y_extract rfl rfl) rfl rfl rfl ?_
  refine V_y (Y_extract rfl rfl) rfl rfl rfl ?_
  refine V_alloc Tryz.zeroValue69 rfl ?_
  intro b108 w109 h110
  have h115 : (v101).oneCell' = true := by obtain ⟨_, _, e, _⟩ := Sl.form h102; rw [e]; rfl
  have h118 : (v103).oneCell' = true := by obtain ⟨_, _, e, _⟩ := Sl.form h104; rw [e]; rfl
  refine V_storeNew h110 Tryz.sizeOf69 rfl rfl rfl rfl (by exact (List.forall_mem_cons.2 ⟨rfl, (List.forall_mem_cons.2 ⟨h115, (List.forall_mem_cons.2 ⟨h118, (fun _ h => nomatch h)⟩)⟩)⟩)) ?_
  intro w111 h112
  have hk120 := h112.kp (Dw := False)
  have h119 : El (α := know_Posting) A93 w111 b108 0 x100.1 := h112.el hA ⟨[.int .i64 x100.1.id_], _, rfl, rfl, ⟨[v101], _, rfl, ⟨_, rfl, h102⟩, ⟨_, rfl, h104⟩⟩⟩
  have ht121 := Kp.tr (Dw := False) hk120 hA hB
  replace hK := Tr.trans (Dw := False) hK ht121
  refine V_as rfl rfl ?_
  refine V_to (fun _ _ => rfl) ?_
  refine C_seq ?_
  refine C_seq ?_
  refine C_region ?_
  refine V_mv rfl rfl ?_
  refine V_to (fun _ _ => rfl) ?_
  refine C_cond rfl (fun hc122 => ?_) (fun hc122 => ?_)
  ·rw [if_pos hc122] at hm
   refine C_seq ?_
   refine C_region ?_
   have h123 := El_know_Posting_1 h119
   refine V_y (Y_fieldAddr Tryz.underlying69 rfl Tryz.sizeOf22 (by decide) rfl) rfl rfl rfl ?_
   obtain ⟨v124, h125, h126⟩ := El.list h123
   refine V_y (Y_load h125 Tryz.isAgg22 rfl) rfl rfl rfl ?_
   refine V_as rfl rfl ?_
   refine V_to (fun _ _ => rfl) ?_
   obtain rfl := Option.some.inj hm
   refine C_ret ?_
   try simp only [↓inBlock_ret, ↓then_ret]
   exact retQ rfl (Res.one Tryz.results44 rfl) ⟨v124, rfl, (Sl.out (Dw := False) h126 hA0 hK), hK.kp⟩
  ·rw [if_neg (nt hc122)] at hm
   refine C_skip_to (fun _ _ => rfl) ?_
   refine C_seq ?_
   refine C_region ?_
   have h127 := El_know_Posting_2 h119
   refine V_y (Y_fieldAddr Tryz.underlying69 rfl Tryz.sizeOf22 (by decide) rfl) rfl rfl rfl ?_
   obtain ⟨v128, h129, h130⟩ := El.list h127
   refine V_y (Y_load h129 Tryz.isAgg22 rfl) rfl rfl rfl ?_
   refine V_as rfl rfl ?_
   refine V_to (fun _ _ => rfl) ?_
   obtain rfl := Option.some.inj hm
   refine C_ret ?_
   try simp only [↓inBlock_ret, ↓then_ret]
   exact retQ rfl (Res.one Tryz.results44 rfl) ⟨v128, rfl, (Sl.out (Dw := False) h130 hA0 hK), hK.kp⟩
 obtain ⟨x131, hx131, hm⟩ := Option.bind_eq_some_iff.1 hm
 refine V_call Tryz.call45 rfl rfl rfl rfl (portref2_termOf_c (Dw := False) w72 hA p2 v4 h5 v6 h7 v8 h9 x71 hx131) ?_
 rintro _ w134 ⟨v132, rfl, h133, hk135⟩
 have ht136 := Kp.tr (Dw := False) hk135 hA hB
 replace hH := Hp.kp (Dw := False) hH hk135
 replace h_p3 := El.tr (Dw := False) h_p3 ht136
 replace hK := Tr.trans (Dw := False) hK ht136
 replace hB := Nat.le_trans hB ht136.ex.size
 replace hA := ht136.new
 refine V_CHZ (Dw := False) (hk135) ?_
 refine CHZ_q2 (Dw := False) rfl ?_
 refine VQ_y (fun w' hw' => Y_move rfl) rfl rfl rfl ?_
 refine VQ_CHZ (Dw := False) ?_
 refine CHZ_q2 (Dw := False) rfl ?_
 refine VQ_y (fun w' hw' => Y_extract rfl rfl) rfl rfl rfl ?_
 refine VQ_CHZ (Dw := False) ?_
 refine CHZ_q2 (Dw := False) rfl ?_
 refine VQ_y (fun w' hw' => Y_extract rfl rfl) rfl rfl rfl ?_
 refine VQ_CHZ (Dw := False) ?_
 refine CHZ_nil (Dw := False) ?_
 refine CH_l1 (Dw := False) (k := 0) rfl ?_
 refine V_allocHk (Dw := False) (B := w.heap.size) hH Tryz.zeroValue51 hB hA rfl ?_
 intro b137 w138 A139 hk142 hH140 ht141
 replace h_p3 := El.tr (Dw := False) h_p3 ht141
 replace h133 := Sl.tr (Dw := False) h133 ht141
 replace hK := Tr.trans (Dw := False) hK ht141
 replace hB := Nat.le_trans hB ht141.ex.size
 replace hA := ht141.new
 replace hH : Hp w.heap.size A139 w138 (obC b137 [.string ByteArray.empty, .slice none 0 0] 51 :: []) := hH140
 refine V_CH (Dw := False) (hk142) ?_
 refine CH_l1 (Dw := False) (k := 2) rfl ?_
 have h148 : (v132).oneCell' = true := by obtain ⟨_, _, e, _⟩ := Sl.form h133; rw [e]; rfl
 refine V_storeC (Dw := False) (off := 0) (ds := [.string x131.1.word, v132]) hH (i := 0) rfl Tryz.sizeOf51 rfl (Nat.le_of_ble_eq_true rfl) (by exact (List.forall_mem_cons.2 ⟨rfl, (List.forall_mem_cons.2 ⟨h148, (fun _ h => nomatch h)⟩)⟩)) rfl hB hA rfl rfl ?_
 intro w143 hH144 ht145
 replace h_p3 := El.tr (Dw := False) h_p3 ht145
 replace h133 := Sl.tr (Dw := False) h133 ht145
 replace hK := Tr.trans (Dw := False) hK ht145
 replace hB := Nat.le_trans hB ht145.ex.size
 replace hA := ht145.new
 replace hH : Hp w.heap.size A139 w143 (obC b137 [.string x131.1.word, v132] 51 :: []) := hH144
 obtain ⟨A149, ht150, h151, hH152⟩ := Hp.freezeC (Dw := False) (α := know_Term) (x := x131.1) hH (i := 0) rfl hA (by exact ⟨[.string x131.1.word], _, rfl, rfl, ⟨_, rfl, h133⟩⟩)
 replace h_p3 := El.tr (Dw := False) h_p3 ht150
 replace hK := Tr.trans (Dw := False) hK ht150
 replace hB := Nat.le_trans hB ht150.ex.size
 replace hA := ht150.new
 replace hH : Hp w.heap.size A149 w143 ([]) := hH152
 refine V_CHw (Dw := False) ?_
 refine CH_q2 (Dw := False) rfl ?_
 refine VQ_y (fun w' hw' => Y_assign rfl) rfl rfl rfl ?_
 refine VQ_CH (Dw := False) ?_
 refine CH_tail (Dw := False) ?_
 show V _ _ _ _ [] _ _
 refine V_to (fun _ _ => rfl) ?_
 refine C_seq ?_
 refine C_region ?_
 obtain ⟨v153, h155, h154⟩ := El_know_Term h151
 refine V_y (Y_loadA h155 Tryz.isAgg51 Tryz.sizeOf51 rfl) rfl rfl rfl ?_
 refine V_y (Y_load (El.int h_p3) Tryz.isAgg3 rfl) rfl rfl rfl ?_
 obtain ⟨x156, hx156, hm⟩ := Option.bind_eq_some_iff.1 hm
 refine V_call Tryz.call43 rfl rfl rfl rfl (portref2_postingOf_c (Dw := False) w143 hA x131.1 v153 h154 p3 hx156) ?_
 rintro _ w161 ⟨v157, v159, rfl, h158, h160, hk162⟩
 have ht163 := Kp.tr (Dw := False) hk162 hA hB
 replace hK := Tr.trans (Dw := False) hK ht163
 replace hB := Nat.le_trans hB ht163.ex.size
 replace hA := ht163.new
 refine V_mv rfl rfl ?_
 refine V_y (Y_extract rfl rfl) rfl rfl rfl ?_
 refine V_y (Y_extract rfl rfl) rfl rfl rfl ?_
 refine V_alloc Tryz.zeroValue69 rfl ?_
 intro b164 w165 h166
 have h171 : (v157).oneCell' = true := by obtain ⟨_, _, e, _⟩ := Sl.form h158; rw [e]; rfl
 have h174 : (v159).oneCell' = true := by obtain ⟨_, _, e, _⟩ := Sl.form h160; rw [e]; rfl
 refine V_storeNew h166 Tryz.sizeOf69 rfl rfl rfl rfl (by exact (List.forall_mem_cons.2 ⟨rfl, (List.forall_mem_cons.2 ⟨h171, (List.forall_mem_cons.2 ⟨h174, (fun _ h => nomatch h)⟩)⟩)⟩)) ?_
 intro w167 h168
 have hk176 := h168.kp (Dw := False)
 have h175 : El (α := know_Posting) A149 w167 b164 0 x156.1 := h168.el hA ⟨[.int .i64 x156.1.id_], _, rfl, rfl, ⟨[v157], _, rfl, ⟨_, rfl, h158⟩, ⟨_, rfl, h160⟩⟩⟩
 have ht177 := Kp.tr (Dw := False) hk176 hA hB
 replace hK := Tr.trans (Dw := False) hK ht177
 refine V_as rfl rfl ?_
 refine V_to (fun _ _ => rfl) ?_
 refine C_seq ?_
 refine C_seq ?_
 refine C_region ?_
 refine V_mv rfl rfl ?_
 refine V_to (fun _ _ => rfl) ?_
 refine C_cond rfl (fun hc178 => ?_) (fun hc178 => ?_)
 ·rw [if_pos hc178] at hm
  refine C_seq ?_
  refine C_region ?_
  have h179 := El_know_Posting_1 h175
  refine V_y (Y_fieldAddr Tryz.underlying69 rfl Tryz.sizeOf22 (by decide) rfl) rfl rfl rfl ?_
  obtain ⟨v180, h181, h182⟩ := El.list h179
  refine V_y (Y_load h181 Tryz.isAgg22 rfl) rfl rfl rfl ?_
  refine V_as rfl rfl ?_
  refine V_to (fun _ _ => rfl) ?_
  obtain rfl := Option.some.inj hm
  refine C_ret ?_
  try simp only [↓inBlock_ret, ↓then_ret]
  exact retQ rfl (Res.one Tryz.results44 rfl) ⟨v180, rfl, (Sl.out (Dw := False) h182 hA0 hK), hK.kp⟩
 ·rw [if_neg (nt hc178)] at hm
  refine C_skip_to (fun _ _ => rfl) ?_
  refine C_seq ?_
  refine C_region ?_
  have h183 := El_know_Posting_2 h175
  refine V_y (Y_fieldAddr Tryz.underlying69 rfl Tryz.sizeOf22 (by decide) rfl) rfl rfl rfl ?_
  obtain ⟨v184, h185, h186⟩ := El.list h183
  refine V_y (Y_load h185 Tryz.isAgg22 rfl) rfl rfl rfl ?_
  refine V_as rfl rfl ?_
  refine V_to (fun _ _ => rfl) ?_
  obtain rfl := Option.some.inj hm
  refine C_ret ?_
  try simp only [↓inBlock_ret, ↓then_ret]
  exact retQ rfl (Res.one Tryz.results44 rfl) ⟨v184, rfl, (Sl.out (Dw := False) h186 hA0 hK), hK.kp⟩

set_option maxRecDepth 4000 in
set_option maxHeartbeats 4000000 in
theorem slices_Contains_Lint_int_c (w : World) {A : Nat → Prop} (s : (List Int)) (v_s : Value) (h_s : Sl A w v_s s) (v : Int) {r : Bool} (hm : slices_Contains_Lint_int s v = some r) : Ret Tryz.prog 47 #[v_s, .int .i64 v] w fun v w' => v = .bool r ∧ w = w' := by
 unfold slices_Contains_Lint_int at hm
 refine enter Tryz.func47 rfl Tryz.ntmps47 rfl ?_
 refine C_seq ?_
 refine C_region ?_
 refine V_as rfl rfl ?_
 refine V_to (fun _ _ => rfl) ?_
 refine C_seq ?_
 refine C_region ?_
 refine V_mv rfl rfl ?_
 refine V_mv rfl rfl ?_
 obtain ⟨x3, hx3, hm⟩ := Option.bind_eq_some_iff.1 hm
 refine V_call Tryz.call40 rfl rfl rfl rfl (slices_Index_Lint_int_c w s v_s h_s v hx3) ?_
 rintro _ _ ⟨rfl, rfl⟩
 refine V_y (Y_geq rfl rfl) rfl rfl rfl ?_
 refine V_as rfl rfl ?_
 refine V_to (fun _ _ => rfl) ?_
 obtain rfl := Option.some.inj hm
 refine C_ret ?_
 try simp only [↓inBlock_ret, ↓then_ret]
 exact retQ rfl (Res.one Tryz.results47 rfl) ⟨rfl, rfl⟩

set_option maxRecDepth 4000 in
set_option maxHeartbeats 4000000 in
theorem portref2_matches_c (w : World) {A : Nat → Prop} (hA : ∀ b, w.heap.size ≤ b → A b) (x : know_Index) (v_x0 : Value) (h_x0 : Sl A w v_x0 x.ids) (v_x1 : Value) (h_x1 : Sl A w v_x1 x.sizes) (v_x2 : Value) (h_x2 : Sl A w v_x2 x.terms) (p : know_Part) (v_p : Value) (h_p : Sl A w v_p p.words) (id_ : Int) {r : Bool} (hm : portref2_matches x p id_ = some r) : Ret Tryz.prog 18 #[.agg #[v_x0, v_x1, v_x2], .agg #[.int .i64 p.kind, .bool p.not_, v_p], .int .i64 id_] w fun v w' => v = .bool r ∧ Kp False w w' := by
 unfold portref2_matches at hm
 refine enter Tryz.func18 rfl Tryz.ntmps18 rfl ?_
 have hA0 := hA
 have hB := Nat.le_refl w.heap.size
 have hK : Tr False w.heap.size A w A w := Tr.refl (Dw := False) hA
 have hH : Hp w.heap.size A w [] := Hp.nil
 refine C_seq ?_
 refine C_region ?_
 refine V_box rfl rfl ?_
 intro b9 w10 h11
 have hk13 := h11.kp (Dw := False)
 have h12 : El (α := know_Index) A w10 b9 0 x := h11.el hA ⟨[v_x0], _, rfl, ⟨_, rfl, h_x0⟩, ⟨[v_x1], _, rfl, ⟨_, rfl, h_x1⟩, ⟨_, rfl, h_x2⟩⟩⟩
 have ht14 := Kp.tr (Dw := False) hk13 hA hB
 replace hH := Hp.kp (Dw := False) hH hk13
 replace h_p := Sl.tr (Dw := False) h_p ht14
 replace hK := Tr.trans (Dw := False) hK ht14
 replace hB := Nat.le_trans hB ht14.ex.size
 replace hA := ht14.new
 refine V_box rfl rfl ?_
 intro b15 w17 h18
 have hk20 := h18.kp (Dw := False)
 have h19 : El (α := know_Part) A w17 b15 0 p := h18.el hA ⟨[.int .i64 p.kind], _, rfl, rfl, ⟨[.bool p.not_], _, rfl, rfl, ⟨_, rfl, h_p⟩⟩⟩
 have ht21 := Kp.tr (Dw := False) hk20 hA hB
 replace hH := Hp.kp (Dw := False) hH hk20
 replace h12 := El.tr (Dw := False) h12 ht21
 replace hK := Tr.trans (Dw := False) hK ht21
 replace hB := Nat.le_trans hB ht21.ex.size
 replace hA := ht21.new
 refine V_box rfl rfl ?_
 intro b22 w23 h24
 have hk26 := h24.kp (Dw := False)
 have h25 : El (α := Int) A w23 b22 0 id_ := h24.el hA rfl
 have ht27 := Kp.tr (Dw := False) hk26 hA hB
 replace hH := Hp.kp (Dw := False) hH hk26
 replace h12 := El.tr (Dw := False) h12 ht27
 replace h19 := El.tr (Dw := False) h19 ht27
 replace hK := Tr.trans (Dw := False) hK ht27
 replace hB := Nat.le_trans hB ht27.ex.size
 replace hA := ht27.new
 refine V_as rfl rfl ?_
 refine V_to (fun _ _ => rfl) ?_
 refine C_seq ?_
 refine C_seq ?_
 refine C_region ?_
 have h28 := El_know_Part_0 h19
 refine V_y (Y_fieldAddr Tryz.underlying44 rfl Tryz.sizeOf3 (by decide) rfl) rfl rfl rfl ?_
 refine V_y (Y_load (El.int h28) Tryz.isAgg3 rfl) rfl rfl rfl ?_
 refine V_y (Y_neq rfl rfl) rfl rfl rfl ?_
 refine V_to (fun _ _ => rfl) ?_
 refine C_cond rfl (fun hc29 => ?_) (fun hc29 => ?_)
 ·rw [if_pos hc29] at hm
  refine C_seq ?_
  refine C_region ?_
  obtain ⟨v30, v32, v34, h36, h31, h33, h35⟩ := El_know_Index h12
  refine V_y (Y_loadA h36 Tryz.isAgg25 Tryz.sizeOf25 rfl) rfl rfl rfl ?_
  obtain ⟨v37, h39, h38⟩ := El_know_Part h19
  refine V_y (Y_loadA h39 Tryz.isAgg44 Tryz.sizeOf44 rfl) rfl rfl rfl ?_
  obtain ⟨x40, hx40, hm⟩ := Option.bind_eq_some_iff.1 hm
  refine V_call Tryz.call19 rfl rfl rfl rfl (portref2_termsOf_c w23 hB hA x v30 h31 v32 h33 v34 h35 p v37 h38 hH hx40) ?_
  rintro v41 w43 ⟨_, A44, rfl, hH45, ht46⟩
  replace h25 := El.tr (Dw := False) h25 ht46
  replace hK := Tr.trans (Dw := False) hK ht46
  replace hB := Nat.le_trans hB ht46.ex.size
  replace hA := ht46.new
  replace hH : Hp w.heap.size A44 w43 (obS (α := know_Term) 51 v41 x40 :: []) := hH45
  refine V_y (Y_makeFunc rfl rfl) rfl rfl rfl ?_
  obtain ⟨x48, hx48, hm⟩ := Option.bind_eq_some_iff.1 hm
  refine V_call Tryz.call30 rfl rfl rfl rfl (slices_ContainsFunc_Lknow_Term_know_Term_c (Dw := False) w43 (A := fun _ => True) (fun _ _ => trivial) x40 v41 (Hp.any (α := know_Term) (e := 51) (v := v41) (l := x40) hH (i := 0) rfl) (fun y58 => portref2_matches_1 y58 id_) 42 #[] #[.pointer (some ⟨b22, 0, none⟩)] Tryz.call42 (fun w54 A55 ht56 h57 y49 v50 h51 r52 h53 => (portref2_matches_1_c (Dw := False) w54 h57 y49 v50 h51 id_ b22 (El.tr (Dw := False) (El.keep h25 .any) ht56) h53).mono (fun _ _ h => ⟨h.1, h.2⟩)) hx48) ?_
  rintro _ w59 ⟨rfl, hk60⟩
  have ht61 := Kp.tr (Dw := False) hk60 hA hB
  replace hK := Tr.trans (Dw := False) hK ht61
  refine V_as rfl rfl ?_
  refine V_to (fun _ _ => rfl) ?_
  obtain rfl := Option.some.inj hm
  refine C_ret ?_
  try simp only [↓inBlock_ret, ↓then_ret]
  exact retQ rfl (Res.one Tryz.results18 rfl) ⟨rfl, hK.kp⟩
 ·rw [if_neg (nt hc29)] at hm
  refine C_skip_to (fun _ _ => rfl) ?_
  refine C_seq ?_
  refine C_region ?_
  refine V_y (Y_makeFunc rfl rfl) rfl rfl rfl ?_
  refine V_as rfl rfl ?_
  refine V_to (fun _ _ => rfl) ?_
  refine C_seq ?_
  refine C_seq ?_
  refine C_region ?_
  refine V_buildSlice (Dw := False) (l := ([true, false] : List Bool)) (len := 2) Tryz.underlying86 Tryz.sizeOf4 Tryz.zeroValue4 rfl (by with_unfolding_all rfl) (show (2 * 1 : Nat) ≠ 0 by decide) (show (2 * 1 : Nat) ≤ 2 ^ 24 by decide) hA ⟨[.bool true], _, rfl, rfl, ⟨[.bool false], _, rfl, rfl, rfl⟩⟩ rfl rfl ?_
  intro v62 w63 hk65 h64
  have ht66 := Kp.tr (Dw := False) hk65 hA hB
  replace hH := Hp.kp (Dw := False) hH hk65
  replace h19 := El.tr (Dw := False) h19 ht66
  replace h12 := El.tr (Dw := False) h12 ht66
  replace h25 := El.tr (Dw := False) h25 ht66
  replace hK := Tr.trans (Dw := False) hK ht66
  replace hB := Nat.le_trans hB ht66.ex.size
  replace hA := ht66.new
  refine V_y (Y_lenSl h64 rfl Tryz.underlying86 rfl) rfl rfl rfl ?_
  refine V_mv rfl rfl ?_
  refine V_to (fun _ _ => rfl) ?_
  have hn87 := Sl.le h64
  obtain ⟨o67, ho67, hm⟩ := Option.bind_eq_some_iff.1 hm
  refine C_cutG (ι := (Unit × (Nat → Prop))) (fun ⟨s68, A74⟩ => []) (fun ⟨s68, A74⟩ => fun w' => o67 = .fin s68 ∧ Hp w.heap.size A74 w' ([]) ∧ Tr False w.heap.size A w63 A74 w') ?_ ?_
  ·refine C_block ?_
   refine C_range ho67 (fun k70 _ a w' => ∃ i : (Nat → Prop), Has ⟨65, [], none⟩ a ([(4, .pointer (some ⟨b15, 0, none⟩)), (7, .func (.func 44) #[] #[.pointer (some ⟨b9, 0, none⟩), .pointer (some ⟨b22, 0, none⟩)]), (24, v62), (25, .int .i64 (([true, false] : List Bool).length : Int)), (26, .int .i64 (k70 : Int))]) ∧ Hp w.heap.size i w' ([]) ∧ Tr False w.heap.size A w63 i w') (fun a ha => ⟨A, ha.sub ⟨rfl, rfl, rfl, rfl, rfl, trivial⟩, ⟨hH, Tr.refl (Dw := False) hA⟩⟩) ?_
   rintro K k70 _ a w77 ⟨A78, ha199, hH79, hr69⟩ hle83 K86 h85
   refine C_of ?_ ha199
   replace h19 := El.tr (Dw := False) h19 hr69
   replace h12 := El.tr (Dw := False) h12 hr69
   replace h25 := El.tr (Dw := False) h25 hr69
   replace h64 := Sl.tr (Dw := False) h64 hr69
   replace hK := Tr.trans (Dw := False) hK hr69
   replace hB := Nat.le_trans hB hr69.ex.size
   replace hA := hr69.new
   replace hH : Hp w.heap.size A78 w77 ([]) := hH79
   refine C_seq (C_region (V_y (Y_lss rfl rfl) rfl rfl rfl (V_to (fun _ _ => rfl) ?_)))
   refine C_seq ?_
   refine C_cond rfl (fun hc88 => ?_) (fun hc88 => ?_)
   ·have hlt84 := lt_of_dec hc88
    obtain ⟨x80, h81, h82⟩ := K86 hlt84
    refine C_skip_to (fun _ _ => rfl) ?_
    refine C_seq ?_
    obtain ⟨o89, ho89, h81⟩ := Option.bind_eq_some_iff.1 h81
    refine C_cutG (ι := (Unit × (Nat → Prop))) (fun ⟨s90, A95⟩ => [(4, .pointer (some ⟨b15, 0, none⟩)), (7, .func (.func 44) #[] #[.pointer (some ⟨b9, 0, none⟩), .pointer (some ⟨b22, 0, none⟩)]), (24, v62), (25, .int .i64 (([true, false] : List Bool).length : Int)), (26, .int .i64 (k70 : Int))]) (fun ⟨s90, A95⟩ => fun w' => o89 = .fin s90 ∧ Hp w.heap.size A95 w' ([]) ∧ Tr False w.heap.size A78 w77 A95 w') ?_ ?_
    ·have hr91 : Tr False w.heap.size A78 w77 A78 w77 := Tr.refl (Dw := False) hA
     refine C_block ?_
     refine C_seq ?_
     refine C_region ?_
     obtain ⟨x97, hx97, ho89⟩ := Option.bind_eq_some_iff.1 ho89
     refine V_indexAddr h64 hx97 Tryz.underlying86 Tryz.sizeOf4 rfl rfl rfl ?_
     intro b98 o99 h100
     refine V_y (Y_load (El.bool h100) Tryz.isAgg4 rfl) rfl rfl rfl ?_
     refine V_as rfl rfl ?_
     refine V_to (fun _ _ => rfl) ?_
     refine C_seq ?_
     refine C_region ?_
     refine V_mv rfl rfl ?_
     have h101 := El_know_Part_2 h19
     refine V_y (Y_fieldAddr Tryz.underlying44 rfl Tryz.sizeOf42 (by decide) rfl) rfl rfl rfl ?_
     obtain ⟨v102, h103, h104⟩ := El.list h101
     refine V_y (Y_load h103 Tryz.isAgg42 rfl) rfl rfl rfl ?_
     obtain ⟨x105, hx105, ho89⟩ := Option.bind_eq_some_iff.1 ho89
     refine V_indexAddr h104 hx105 Tryz.underlying42 Tryz.sizeOf9 rfl rfl rfl ?_
     intro b106 o107 h108
     refine V_y (Y_load (El.str h108) Tryz.isAgg9 rfl) rfl rfl rfl ?_
     refine V_mv rfl rfl ?_
     obtain ⟨x109, hx109, ho89⟩ := Option.bind_eq_some_iff.1 ho89
     refine V_call Tryz.call44 rfl rfl rfl rfl (portref2_matches_2_c w77 hA x105 x97 x b9 h12 id_ b22 h25 hx109) ?_
     rintro v110 w112 ⟨_, rfl, h111, hk113⟩
     have ht114 := Kp.tr (Dw := False) hk113 hA hB
     replace hH := Hp.kp (Dw := False) hH hk113
     replace h19 := El.tr (Dw := False) h19 ht114
     replace h12 := El.tr (Dw := False) h12 ht114
     replace h25 := El.tr (Dw := False) h25 ht114
     replace hK := Tr.trans (Dw := False) hK ht114
     replace hr91 := Tr.trans (Dw := False) hr91 ht114
     replace hB := Nat.le_trans hB ht114.ex.size
     replace hA := ht114.new
     refine V_y (Y_lenSl h111 rfl Tryz.underlying22 rfl) rfl rfl rfl ?_
     refine V_mv rfl rfl ?_
     refine V_to (fun _ _ => rfl) ?_
     have hn135 := Sl.le h111
     obtain ⟨o115, ho115, ho89⟩ := Option.bind_eq_some_iff.1 ho89
     refine C_cutG (ι := (Unit × (Nat → Prop))) (fun ⟨s116, A122⟩ => [(4, .pointer (some ⟨b15, 0, none⟩)), (7, .func (.func 44) #[] #[.pointer (some ⟨b9, 0, none⟩), .pointer (some ⟨b22, 0, none⟩)]), (24, v62), (25, .int .i64 (([true, false] : List Bool).length : Int)), (26, .int .i64 (k70 : Int))]) (fun ⟨s116, A122⟩ => fun w' => o115 = .fin s116 ∧ Hp w.heap.size A122 w' ([]) ∧ Tr False w.heap.size A78 w112 A122 w') ?_ ?_
     ·refine C_block ?_
      refine C_range ho115 (fun k118 _ a w' => ∃ i : (Nat → Prop), Has ⟨65, [], none⟩ a ([(4, .pointer (some ⟨b15, 0, none⟩)), (7, .func (.func 44) #[] #[.pointer (some ⟨b9, 0, none⟩), .pointer (some ⟨b22, 0, none⟩)]), (9, .bool x97), (24, v62), (25, .int .i64 (([true, false] : List Bool).length : Int)), (26, .int .i64 (k70 : Int)), (36, v110), (37, .int .i64 (x109.length : Int)), (38, .int .i64 (k118 : Int))]) ∧ Hp w.heap.size i w' ([]) ∧ Tr False w.heap.size A78 w112 i w') (fun a ha => ⟨A78, ha.sub ⟨rfl, rfl, rfl, rfl, rfl, rfl, rfl, rfl, rfl, trivial⟩, ⟨hH, Tr.refl (Dw := False) hA⟩⟩) ?_
      rintro K k118 _ a w125 ⟨A126, ha195, hH127, hr117⟩ hle131 K134 h133
      refine C_of ?_ ha195
      replace h19 := El.tr (Dw := False) h19 hr117
      replace h12 := El.tr (Dw := False) h12 hr117
      replace h25 := El.tr (Dw := False) h25 hr117
      replace h111 := Sl.tr (Dw := False) h111 hr117
      replace hK := Tr.trans (Dw := False) hK hr117
      replace hB := Nat.le_trans hB hr117.ex.size
      replace hA := hr117.new
      replace hH : Hp w.heap.size A126 w125 ([]) := hH127
      refine C_seq (C_region (V_y (Y_lss rfl rfl) rfl rfl rfl (V_to (fun _ _ => rfl) ?_)))
      refine C_seq ?_
      refine C_cond rfl (fun hc136 => ?_) (fun hc136 => ?_)
      ·have hlt132 := lt_of_dec hc136
       obtain ⟨x128, h129, h130⟩ := K134 hlt132
       refine C_skip_to (fun _ _ => rfl) ?_
       refine C_seq ?_
       refine C_block ?_
       refine C_seq ?_
       refine C_region ?_
       obtain ⟨x137, hx137, h129⟩ := Option.bind_eq_some_iff.1 h129
       refine V_indexAddr h111 hx137 Tryz.underlying22 Tryz.sizeOf3 rfl rfl rfl ?_
       intro b138 o139 h140
       refine V_y (Y_load (El.int h140) Tryz.isAgg3 rfl) rfl rfl rfl ?_
       refine V_as rfl rfl ?_
       refine V_to (fun _ _ => rfl) ?_
       refine C_seq ?_
       refine C_region ?_
       refine V_as rfl rfl ?_
       refine V_to (fun _ _ => rfl) ?_
       refine C_seq ?_
       refine C_seq ?_
       refine C_region ?_
       have h141 := El_know_Part_2 h19
       refine V_y (Y_fieldAddr Tryz.underlying44 rfl Tryz.sizeOf42 (by decide) rfl) rfl rfl rfl ?_
       obtain ⟨v142, h143, h144⟩ := El.list h141
       refine V_y (Y_load h143 Tryz.isAgg42 rfl) rfl rfl rfl ?_
       refine V_y (Y_lenSl h144 rfl Tryz.underlying42 rfl) rfl rfl rfl ?_
       refine V_mv rfl rfl ?_
       refine V_to (fun _ _ => rfl) ?_
       have hn165 := Sl.le h144
       obtain ⟨o145, ho145, h129⟩ := Option.bind_eq_some_iff.1 h129
       refine C_cutG (ι := (Bool × (Nat → Prop))) (fun ⟨s146, A152⟩ => [(4, .pointer (some ⟨b15, 0, none⟩)), (7, .func (.func 44) #[] #[.pointer (some ⟨b9, 0, none⟩), .pointer (some ⟨b22, 0, none⟩)]), (9, .bool x97), (12, .bool s146), (24, v62), (25, .int .i64 (([true, false] : List Bool).length : Int)), (26, .int .i64 (k70 : Int)), (36, v110), (37, .int .i64 (x109.length : Int)), (38, .int .i64 (k118 : Int))]) (fun ⟨s146, A152⟩ => fun w' => o145 = .fin s146 ∧ Hp w.heap.size A152 w' ([]) ∧ Tr False w.heap.size A126 w125 A152 w') ?_ ?_
       ·refine C_block ?_
        refine C_range ho145 (fun k148 s154 a w' => ∃ i : (Nat → Prop), Has ⟨65, [], none⟩ a ([(4, .pointer (some ⟨b15, 0, none⟩)), (7, .func (.func 44) #[] #[.pointer (some ⟨b9, 0, none⟩), .pointer (some ⟨b22, 0, none⟩)]), (9, .bool x97), (11, .int .i64 x137), (12, .bool s154), (24, v62), (25, .int .i64 (([true, false] : List Bool).length : Int)), (26, .int .i64 (k70 : Int)), (36, v110), (37, .int .i64 (x109.length : Int)), (38, .int .i64 (k118 : Int)), (43, v142), (44, .int .i64 (p.words.length : Int)), (45, .int .i64 (k148 : Int))]) ∧ Hp w.heap.size i w' ([]) ∧ Tr False w.heap.size A126 w125 i w') (fun a ha => ⟨A126, ha.sub ⟨rfl, rfl, rfl, rfl, rfl, rfl, rfl, rfl, rfl, rfl, rfl, rfl, rfl, rfl, trivial⟩, ⟨hH, Tr.refl (Dw := False) hA⟩⟩) ?_
        rintro K k148 s154 a w155 ⟨A156, ha191, hH157, hr147⟩ hle161 K164 h163
        refine C_of ?_ ha191
        replace h12 := El.tr (Dw := False) h12 hr147
        replace h25 := El.tr (Dw := False) h25 hr147
        replace h144 := Sl.tr (Dw := False) h144 hr147
        replace hB := Nat.le_trans hB hr147.ex.size
        replace hA := hr147.new
        replace hH : Hp w.heap.size A156 w155 ([]) := hH157
        refine C_seq (C_region (V_y (Y_lss rfl rfl) rfl rfl rfl (V_to (fun _ _ => rfl) ?_)))
        refine C_seq ?_
        refine C_cond rfl (fun hc166 => ?_) (fun hc166 => ?_)
        ·have hlt162 := lt_of_dec hc166
         obtain ⟨x158, h159, h160⟩ := K164 hlt162
         refine C_skip_to (fun _ _ => rfl) ?_
         refine C_seq ?_
         refine C_block ?_
         refine C_seq ?_
         refine C_region ?_
         refine V_mv rfl rfl ?_
         obtain ⟨x167, hx167, h159⟩ := Option.bind_eq_some_iff.1 h159
         refine V_indexAddr h144 hx167 Tryz.underlying42 Tryz.sizeOf9 rfl rfl rfl ?_
         intro b168 o169 h170
         refine V_y (Y_load (El.str h170) Tryz.isAgg9 rfl) rfl rfl rfl ?_
         refine V_as rfl rfl ?_
         refine V_as rfl rfl ?_
         refine V_to (fun _ _ => rfl) ?_
         obtain ⟨s172, ho171, h159⟩ := Option.bind_eq_some_iff.1 h159
         refine C_cutG (ι := (Nat → Prop)) (fun (A177 : (Nat → Prop)) => [(4, .pointer (some ⟨b15, 0, none⟩)), (7, .func (.func 44) #[] #[.pointer (some ⟨b9, 0, none⟩), .pointer (some ⟨b22, 0, none⟩)]), (9, .bool x97), (11, .int .i64 x137), (12, .bool s172), (24, v62), (25, .int .i64 (([true, false] : List Bool).length : Int)), (26, .int .i64 (k70 : Int)), (36, v110), (37, .int .i64 (x109.length : Int)), (38, .int .i64 (k118 : Int)), (43, v142), (44, .int .i64 (p.words.length : Int)), (45, .int .i64 (k148 : Int))]) (fun (A177 : (Nat → Prop)) => fun w' => Hp w.heap.size A177 w' ([]) ∧ Tr False w.heap.size A156 w155 A177 w') ?_ ?_
         ·have hr173 : Tr False w.heap.size A156 w155 A156 w155 := Tr.refl (Dw := False) hA
          refine C_region ?_
          refine V_mv rfl rfl ?_
          refine V_mv rfl rfl ?_
          rcases Bool.eq_false_or_eq_true (s154) with hc179 | hc179
          ·rw [if_pos hc179] at ho171
           refine V_ge rfl rfl rfl hc179 ?_
           refine V_mv rfl rfl ?_
           refine V_ge rfl rfl rfl hc179 ?_
           refine V_mv rfl rfl ?_
           refine V_ge rfl rfl rfl hc179 ?_
           refine V_mv rfl rfl ?_
           refine V_ge rfl rfl rfl hc179 ?_
           obtain ⟨x180, hx180, ho171⟩ := Option.bind_eq_some_iff.1 ho171
           refine V_call Tryz.call44 rfl rfl rfl rfl (portref2_matches_2_c w155 hA x167 x97 x b9 h12 id_ b22 h25 hx180) ?_
           rintro v181 w183 ⟨_, rfl, h182, hk184⟩
           have ht185 := Kp.tr (Dw := False) hk184 hA hB
           replace hH := Hp.kp (Dw := False) hH hk184
           replace hr173 := Tr.trans (Dw := False) hr173 ht185
           refine V_ge rfl rfl rfl hc179 ?_
           refine V_mv rfl rfl ?_
           refine V_ge rfl rfl rfl hc179 ?_
           refine V_mv rfl rfl ?_
           refine V_ge rfl rfl rfl hc179 ?_
           refine V_y (Y_addI rfl rfl) rfl rfl rfl ?_
           refine V_ge rfl rfl rfl hc179 ?_
           obtain ⟨x186, hx186, ho171⟩ := Option.bind_eq_some_iff.1 ho171
           refine V_call Tryz.call47 rfl rfl rfl rfl (slices_Contains_Lint_int_c w183 x180 v181 h182 (w64 (x137 + (k148 : Int))) hx186) ?_
           rintro _ _ ⟨rfl, rfl⟩
           refine V_y (Y_pick_te rfl hc179 rfl) rfl rfl rfl ?_
           refine V_as rfl rfl ?_
           obtain rfl := Option.some.inj ho171
           refine V_end (fun a ha187 => ?_)
           exact ⟨A156, ha187.sub ⟨rfl, rfl, rfl, rfl, rfl, rfl, rfl, rfl, rfl, rfl, rfl, rfl, rfl, rfl, trivial⟩, ⟨hH, hr173⟩⟩
          ·rw [if_neg (nt hc179)] at ho171
           refine V_gn rfl rfl rfl hc179 rfl rfl rfl ?_
           refine V_gn rfl rfl rfl hc179 rfl rfl rfl ?_
           refine V_gn rfl rfl rfl hc179 rfl rfl rfl ?_
           refine V_gn rfl rfl rfl hc179 rfl rfl rfl ?_
           refine V_gn rfl rfl rfl hc179 rfl rfl rfl ?_
           refine V_gn rfl rfl rfl hc179 rfl rfl rfl ?_
           refine V_gn rfl rfl rfl hc179 rfl rfl rfl ?_
           refine V_gn rfl rfl rfl hc179 rfl rfl rfl ?_
           refine V_y (Y_pick_fe rfl hc179 rfl) rfl rfl rfl ?_
           refine V_as rfl rfl ?_
           obtain rfl := Option.some.inj ho171
           refine V_end (fun a ha188 => ?_)
           exact ⟨A156, ha188.sub ⟨rfl, rfl, rfl, rfl, rfl, rfl, rfl, rfl, rfl, rfl, rfl, rfl, rfl, rfl, trivial⟩, ⟨hH, hr173⟩⟩
         rintro A177 w174 ⟨hH178, hk175⟩ a ha176
         replace hr147 := Tr.trans (Dw := False) hr147 hk175
         replace hA := hk175.new
         replace hH : Hp w.heap.size A177 w174 ([]) := hH178
         refine C_at (n := ⟨65, [], none⟩) (fun _ _ => rfl) ?_ ha176
         refine C_region ?_
         refine V_y (Y_addI rfl rfl) rfl rfl rfl ?_
         refine V_mv rfl rfl ?_
         obtain rfl := Option.some.inj h159
         refine V_end (fun a ha189 => ?_)
         exact ⟨s172, hlt162, h160, ⟨A177, ha189.sub ⟨rfl, rfl, rfl, rfl, rfl, rfl, rfl, rfl, rfl, rfl, rfl, rfl, rfl, (congrArg (fun z => some (Value.int .i64 z)) (w64_succ hlt162 hn165)), trivial⟩, ⟨hH, hr147⟩⟩⟩
        ·refine C_exit (fun a ha190 => ?_)
         exact ⟨(s154, A156), ha190.sub ⟨rfl, rfl, rfl, rfl, rfl, rfl, rfl, rfl, rfl, rfl, trivial⟩, ⟨(h163 (eq_of_dec hle161 hc166)).symm, hH, hr147⟩⟩
       rintro ⟨s146, A152⟩ w149 ⟨rfl, hH153, hk150⟩ a ha151
       rw [Lp.andThen_fin] at h129
       replace hK := Tr.trans (Dw := False) hK hk150
       replace hr117 := Tr.trans (Dw := False) hr117 hk150
       replace hA := hk150.new
       replace hH : Hp w.heap.size A152 w149 ([]) := hH153
       refine C_at (n := ⟨65, [], none⟩) (fun _ _ => rfl) ?_ ha151
       refine C_seq ?_
       refine C_region ?_
       refine V_mv rfl rfl ?_
       refine V_to (fun _ _ => rfl) ?_
       refine C_cond rfl (fun hc192 => ?_) (fun hc192 => ?_)
       ·rw [if_pos hc192] at h129
        refine C_seq ?_
        refine C_region ?_
        refine V_as rfl rfl ?_
        refine V_to (fun _ _ => rfl) ?_
        obtain rfl := Option.some.inj h129
        obtain rfl := (h130 : Lp.rt _ = _)
        rw [Lp.andThen_rt] at ho89
        obtain rfl := Option.some.inj ho89
        rw [Lp.andThen_rt] at h81
        obtain rfl := Option.some.inj h81
        obtain rfl := (h82 : Lp.rt _ = _)
        rw [Lp.andThen_rt] at hm
        obtain rfl := Option.some.inj hm
        refine C_ret ?_
        try simp only [↓inBlock_ret, ↓then_ret]
        exact retQ rfl (Res.one Tryz.results18 rfl) ⟨rfl, hK.kp⟩
       ·rw [if_neg (nt hc192)] at h129
        refine C_skip_to (fun _ _ => rfl) ?_
        refine C_region ?_
        refine V_y (Y_addI rfl rfl) rfl rfl rfl ?_
        refine V_mv rfl rfl ?_
        obtain rfl := Option.some.inj h129
        refine V_end (fun a ha193 => ?_)
        exact ⟨(), hlt132, h130, ⟨A152, ha193.sub ⟨rfl, rfl, rfl, rfl, rfl, rfl, rfl, rfl, (congrArg (fun z => some (Value.int .i64 z)) (w64_succ hlt132 hn135)), trivial⟩, ⟨hH, hr117⟩⟩⟩
      ·refine C_exit (fun a ha194 => ?_)
       exact ⟨((), A126), ha194.sub ⟨rfl, rfl, rfl, rfl, rfl, trivial⟩, ⟨(h133 (eq_of_dec hle131 hc136)).symm, hH, hr117⟩⟩
     rintro ⟨s116, A122⟩ w119 ⟨rfl, hH123, hk120⟩ a ha121
     rw [Lp.andThen_fin] at ho89
     replace hr91 := Tr.trans (Dw := False) hr91 hk120
     replace hA := hk120.new
     replace hH : Hp w.heap.size A122 w119 ([]) := hH123
     obtain rfl := Option.some.inj ho89
     exact ⟨((), A122), ha121.sub ⟨rfl, rfl, rfl, rfl, rfl, trivial⟩, ⟨rfl, hH, hr91⟩⟩
    rintro ⟨s90, A95⟩ w92 ⟨rfl, hH96, hk93⟩ a ha94
    rw [Lp.andThen_fin] at h81
    replace hr69 := Tr.trans (Dw := False) hr69 hk93
    replace hA := hk93.new
    replace hH : Hp w.heap.size A95 w92 ([]) := hH96
    refine C_at (n := ⟨65, [], none⟩) (fun _ _ => rfl) ?_ ha94
    refine C_region ?_
    refine V_y (Y_addI rfl rfl) rfl rfl rfl ?_
    refine V_mv rfl rfl ?_
    obtain rfl := Option.some.inj h81
    refine V_end (fun a ha197 => ?_)
    exact ⟨(), hlt84, h82, ⟨A95, ha197.sub ⟨rfl, rfl, rfl, rfl, (congrArg (fun z => some (Value.int .i64 z)) (w64_succ hlt84 hn87)), trivial⟩, ⟨hH, hr69⟩⟩⟩
   ·refine C_exit (fun a ha198 => ?_)
    exact ⟨((), A78), ha198.sub trivial, ⟨(h85 (eq_of_dec hle83 hc88)).symm, hH, hr69⟩⟩
  rintro ⟨s68, A74⟩ w71 ⟨rfl, hH75, hk72⟩ a ha73
  rw [Lp.andThen_fin] at hm
  replace hK := Tr.trans (Dw := False) hK hk72
  replace hA := hk72.new
  replace hH : Hp w.heap.size A74 w71 ([]) := hH75
  refine C_at (n := ⟨65, [], none⟩) (fun _ _ => rfl) ?_ ha73
  refine C_seq ?_
  refine C_region ?_
  refine V_as rfl rfl ?_
  refine V_to (fun _ _ => rfl) ?_
  obtain rfl := Option.some.inj hm
  refine C_ret ?_
  try simp only [↓inBlock_ret, ↓then_ret]
  exact retQ rfl (Res.one Tryz.results18 rfl) ⟨rfl, hK.kp⟩

set_option maxRecDepth 4000 in
set_option maxHeartbeats 4000000 in
theorem portref2_termScore_c (w : World) {A : Nat → Prop} (hA : ∀ b, w.heap.size ≤ b → A b) (x : know_Index) (v_x0 : Value) (h_x0 : Sl A w v_x0 x.ids) (v_x1 : Value) (h_x1 : Sl A w v_x1 x.sizes) (v_x2 : Value) (h_x2 : Sl A w v_x2 x.terms) (t : know_Term) (v_t : Value) (h_t : Sl A w v_t t.list_) (id_ : Int) {r : Int} (hm : portref2_termScore x t id_ = some r) : Ret Tryz.prog 20 #[.agg #[v_x0, v_x1, v_x2], .agg #[.string t.word, v_t], .int .i64 id_] w fun v w' => v = .int .i64 r ∧ Kp Dw w w' := by
 unfold portref2_termScore at hm
 refine enter Tryz.func20 rfl Tryz.ntmps20 rfl ?_
 have hA0 := hA
 have hB := Nat.le_refl w.heap.size
 have hK : Tr Dw w.heap.size A w A w := Tr.refl (Dw := Dw) hA
 have hH : Hp w.heap.size A w [] := Hp.nil
 refine C_seq ?_
 refine C_region ?_
 refine V_box rfl rfl ?_
 intro b9 w10 h11
 have hk13 := h11.kp (Dw := Dw)
 have h12 : El (α := know_Index) A w10 b9 0 x := h11.el hA ⟨[v_x0], _, rfl, ⟨_, rfl, h_x0⟩, ⟨[v_x1], _, rfl, ⟨_, rfl, h_x1⟩, ⟨_, rfl, h_x2⟩⟩⟩
 have ht14 := Kp.tr hk13 hA hB
 replace h_t := Sl.tr h_t ht14
 replace hK := Tr.trans hK ht14
 replace hB := Nat.le_trans hB ht14.ex.size
 replace hA := ht14.new
 refine V_box rfl rfl ?_
 intro b15 w17 h18
 have hk20 := h18.kp (Dw := Dw)
 have h19 : El (α := know_Term) A w17 b15 0 t := h18.el hA ⟨[.string t.word], _, rfl, rfl, ⟨_, rfl, h_t⟩⟩
 have ht21 := Kp.tr hk20 hA hB
 replace h12 := El.tr h12 ht21
 replace hK := Tr.trans hK ht21
 replace hB := Nat.le_trans hB ht21.ex.size
 replace hA := ht21.new
 refine V_as rfl rfl ?_
 refine V_to (fun _ _ => rfl) ?_
 refine C_seq ?_
 refine C_region ?_
 obtain ⟨v22, h24, h23⟩ := El_know_Term h19
 refine V_y (Y_loadA h24 Tryz.isAgg51 Tryz.sizeOf51 rfl) rfl rfl rfl ?_
 refine V_mv rfl rfl ?_
 obtain ⟨x25, hx25, hm⟩ := Option.bind_eq_some_iff.1 hm
 refine V_call Tryz.call43 rfl rfl rfl rfl (portref2_postingOf_c (Dw := Dw) w17 hA t v22 h23 id_ hx25) ?_
 rintro _ w30 ⟨v26, v28, rfl, h27, h29, hk31⟩
 have ht32 := Kp.tr hk31 hA hB
 replace h12 := El.tr h12 ht32
 replace h19 := El.tr h19 ht32
 replace hK := Tr.trans hK ht32
 replace hB := Nat.le_trans hB ht32.ex.size
 replace hA := ht32.new
 refine V_mv rfl rfl ?_
 refine V_y (Y_extract rfl rfl) rfl rfl rfl ?_
 refine V_y (Y_extract rfl rfl) rfl rfl rfl ?_
 refine V_alloc Tryz.zeroValue69 rfl ?_
 intro b33 w34 h35
 have h40 : (v26).oneCell' = true := by obtain ⟨_, _, e, _⟩ := Sl.form h27; rw [e]; rfl
 have h43 : (v28).oneCell' = true := by obtain ⟨_, _, e, _⟩ := Sl.form h29; rw [e]; rfl
 refine V_storeNew h35 Tryz.sizeOf69 rfl rfl rfl rfl (by exact (List.forall_mem_cons.2 ⟨rfl, (List.forall_mem_cons.2 ⟨h40, (List.forall_mem_cons.2 ⟨h43, (fun _ h => nomatch h)⟩)⟩)⟩)) ?_
 intro w36 h37
 have hk45 := h37.kp (Dw := Dw)
 have h44 : El (α := know_Posting) A w36 b33 0 x25.1 := h37.el hA ⟨[.int .i64 x25.1.id_], _, rfl, rfl, ⟨[v26], _, rfl, ⟨_, rfl, h27⟩, ⟨_, rfl, h29⟩⟩⟩
 have ht46 := Kp.tr hk45 hA hB
 replace h12 := El.tr h12 ht46
 replace h19 := El.tr h19 ht46
 replace hK := Tr.trans hK ht46
 replace hB := Nat.le_trans hB ht46.ex.size
 replace hA := ht46.new
 refine V_as rfl rfl ?_
 refine V_to (fun _ _ => rfl) ?_
 refine C_seq ?_
 refine C_seq ?_
 refine C_region ?_
 refine V_mv rfl rfl ?_
 refine V_y (Y_not rfl) rfl rfl rfl ?_
 refine V_to (fun _ _ => rfl) ?_
 refine C_cond rfl (fun hc47 => ?_) (fun hc47 => ?_)
 ·rw [if_pos hc47] at hm
  refine C_seq ?_
  refine C_region ?_
  refine V_as rfl rfl ?_
  refine V_to (fun _ _ => rfl) ?_
  obtain rfl := Option.some.inj hm
  refine C_ret ?_
  try simp only [↓inBlock_ret, ↓then_ret]
  exact retQ rfl (Res.one Tryz.results20 rfl) ⟨rfl, hK.kp⟩
 ·rw [if_neg (nt hc47)] at hm
  refine C_skip_to (fun _ _ => rfl) ?_
  refine C_seq ?_
  refine C_region ?_
  have h48 := El_know_Index_0 h12
  refine V_y (Y_fieldAddr Tryz.underlying25 rfl Tryz.sizeOf22 (by decide) rfl) rfl rfl rfl ?_
  obtain ⟨v49, h50, h51⟩ := El.list h48
  refine V_y (Y_load h50 Tryz.isAgg22 rfl) rfl rfl rfl ?_
  refine V_y (Y_lenSl h51 rfl Tryz.underlying22 rfl) rfl rfl rfl ?_
  have h52 := El_know_Term_1 h19
  refine V_y (Y_fieldAddr Tryz.underlying51 rfl Tryz.sizeOf49 (by decide) rfl) rfl rfl rfl ?_
  obtain ⟨v53, h54, h55⟩ := El.list h52
  refine V_y (Y_load h54 Tryz.isAgg49 rfl) rfl rfl rfl ?_
  refine V_y (Y_lenSl h55 rfl Tryz.underlying49 rfl) rfl rfl rfl ?_
  obtain ⟨x56, hx56, hm⟩ := Option.bind_eq_some_iff.1 hm
  refine V_y (Y_quo hx56 rfl rfl) rfl rfl rfl ?_
  refine V_y (Y_convI Tryz.underlying3 Tryz.underlying74 rfl) rfl rfl rfl ?_
  obtain ⟨x57, hx57, hm⟩ := Option.bind_eq_some_iff.1 hm
  refine V_call Tryz.call33 rfl rfl rfl rfl (math_bits_Len_c w36 (IntKind.wrap .u64 x56) hx57) ?_
  rintro _ _ ⟨rfl, rfl⟩
  refine V_as rfl rfl ?_
  refine V_to (fun _ _ => rfl) ?_
  refine C_seq ?_
  refine C_region_q (Dw := Dw) Tryz_mixed (by kernel_rfl) ?_
  have h58 := El_know_Index_1 h12
  refine VQ_y (fun w' hw' => Y_fieldAddr Tryz.underlying25 rfl Tryz.sizeOf22 (by decide) rfl) rfl rfl rfl ?_
  obtain ⟨v59, h60, h61⟩ := El.list h58
  refine VQ_y (fun w' hw' => Y_load ((World.cell?_of_block (hw'.block _ (World.block_lt_of_cell? _ _ h60))).trans h60) Tryz.isAgg22 rfl) rfl rfl rfl ?_
  have h62 := El_know_Index_0 h12
  refine VQ_y (fun w' hw' => Y_fieldAddr Tryz.underlying25 rfl Tryz.sizeOf22 (by decide) rfl) rfl rfl rfl ?_
  obtain ⟨v63, h64, h65⟩ := El.list h62
  refine VQ_y (fun w' hw' => Y_load ((World.cell?_of_block (hw'.block _ (World.block_lt_of_cell? _ _ h64))).trans h64) Tryz.isAgg22 rfl) rfl rfl rfl ?_
  refine VQ_y (fun w' hw' => Y_move rfl) rfl rfl rfl ?_
  obtain ⟨x66, hx66, hm⟩ := Option.bind_eq_some_iff.1 hm
  refine VQ_call (.int .i64 x66) Tryz.call40 rfl rfl rfl rfl (fun w' hw' => (slices_Index_Lint_int_c w' x.ids v63 (Sl.kp (Dw := Dw) h65 hw') id_ hx66).mono (fun _ _ h => ⟨h.1, h.2 ▸ hw'⟩)) ?_
  obtain ⟨x67, hx67, hm⟩ := Option.bind_eq_some_iff.1 hm
  refine VQ_indexAddr h61 hx67 Tryz.underlying22 Tryz.sizeOf3 rfl rfl rfl ?_
  intro b68 o69 h70
  refine VQ_y (fun w' hw' => Y_load (El.int (El.kp (Dw := Dw) h70 hw')) Tryz.isAgg3 rfl) rfl rfl rfl ?_
  refine VQ_y (fun w' hw' => Y_assign rfl) rfl rfl rfl ?_
  refine VQ_to (fun _ _ => rfl) (fun w71 hk72 => ?_)
  have ht73 := Kp.tr hk72 hA hB
  replace h44 := El.tr h44 ht73
  replace hK := Tr.trans hK ht73
  refine C_seq ?_
  refine C_region ?_
  have h74 := El_know_Posting_1 h44
  refine V_y (Y_fieldAddr Tryz.underlying69 rfl Tryz.sizeOf22 (by decide) rfl) rfl rfl rfl ?_
  obtain ⟨v75, h76, h77⟩ := El.list h74
  refine V_y (Y_load h76 Tryz.isAgg22 rfl) rfl rfl rfl ?_
  refine V_y (Y_lenSl h77 rfl Tryz.underlying22 rfl) rfl rfl rfl ?_
  refine V_y (Y_mulI rfl rfl) rfl rfl rfl ?_
  have h78 := El_know_Posting_2 h44
  refine V_y (Y_fieldAddr Tryz.underlying69 rfl Tryz.sizeOf22 (by decide) rfl) rfl rfl rfl ?_
  obtain ⟨v79, h80, h81⟩ := El.list h78
  refine V_y (Y_load h80 Tryz.isAgg22 rfl) rfl rfl rfl ?_
  refine V_y (Y_lenSl h81 rfl Tryz.underlying22 rfl) rfl rfl rfl ?_
  refine V_y (Y_addI rfl rfl) rfl rfl rfl ?_
  refine V_y (Y_mulI rfl rfl) rfl rfl rfl ?_
  refine V_mv rfl rfl ?_
  refine V_y (Y_mulI rfl rfl) rfl rfl rfl ?_
  refine V_mv rfl rfl ?_
  refine V_y (Y_addI rfl rfl) rfl rfl rfl ?_
  obtain ⟨x82, hx82, hm⟩ := Option.bind_eq_some_iff.1 hm
  refine V_y (Y_quo hx82 rfl rfl) rfl rfl rfl ?_
  refine V_as rfl rfl ?_
  refine V_to (fun _ _ => rfl) ?_
  obtain rfl := Option.some.inj hm
  refine C_ret ?_
  try simp only [↓inBlock_ret, ↓then_ret]
  exact retQ rfl (Res.one Tryz.results20 rfl) ⟨rfl, hK.kp⟩

set_option maxRecDepth 4000 in
set_option maxHeartbeats 4000000 in
theorem portref2_ranked_1_c (w : World) {A : Nat → Prop} (hA : ∀ b, w.heap.size ≤ b → A b) (a_ : know_Hit) (b : know_Hit) {r : Int} (hm : portref2_ranked_1 a_ b = some r) : Ret Tryz.prog 50 #[.agg #[.int .i64 a_.id_, .int .i64 a_.score], .agg #[.int .i64 b.id_, .int .i64 b.score]] w fun v w' => v = .int .i64 r ∧ Kp Dw w w' := by
 unfold portref2_ranked_1 at hm
 refine enter Tryz.func50 rfl Tryz.ntmps50 rfl ?_
 have hA0 := hA
 have hB := Nat.le_refl w.heap.size
 have hK : Tr Dw w.heap.size A w A w := Tr.refl (Dw := Dw) hA
 have hH : Hp w.heap.size A w [] := Hp.nil
 refine C_seq ?_
 refine C_region ?_
 refine V_box rfl rfl ?_
 intro b1 w2 h3
 have hk5 := h3.kp (Dw := Dw)
 have h4 : El (α := know_Hit) A w2 b1 0 a_ := h3.el hA ⟨[.int .i64 a_.id_], _, rfl, rfl, rfl⟩
 have ht6 := Kp.tr hk5 hA hB
 replace hK := Tr.trans hK ht6
 replace hB := Nat.le_trans hB ht6.ex.size
 replace hA := ht6.new
 refine V_box rfl rfl ?_
 intro b7 w9 h10
 have hk12 := h10.kp (Dw := Dw)
 have h11 : El (α := know_Hit) A w9 b7 0 b := h10.el hA ⟨[.int .i64 b.id_], _, rfl, rfl, rfl⟩
 have ht13 := Kp.tr hk12 hA hB
 replace h4 := El.tr h4 ht13
 replace hK := Tr.trans hK ht13
 replace hB := Nat.le_trans hB ht13.ex.size
 replace hA := ht13.new
 refine V_as rfl rfl ?_
 refine V_to (fun _ _ => rfl) ?_
 refine C_seq ?_
 refine C_region_qt (Dw := Dw) 10 Tryz_mixed (by kernel_rfl) ?_
 simp only [List.take, List.drop]
 have h14 := El_know_Hit_1 h11
 refine VQ_y (fun w' hw' => Y_fieldAddr Tryz.underlying35 rfl Tryz.sizeOf3 (by decide) rfl) rfl rfl rfl ?_
 refine VQ_y (fun w' hw' => Y_load (El.int (El.kp (Dw := Dw) h14 hw')) Tryz.isAgg3 rfl) rfl rfl rfl ?_
 have h15 := El_know_Hit_1 h4
 refine VQ_y (fun w' hw' => Y_fieldAddr Tryz.underlying35 rfl Tryz.sizeOf3 (by decide) rfl) rfl rfl rfl ?_
 refine VQ_y (fun w' hw' => Y_load (El.int (El.kp (Dw := Dw) h15 hw')) Tryz.isAgg3 rfl) rfl rfl rfl ?_
 refine VQ_call (.int .i64 (cmp_Compare_int b.score a_.score)) Tryz.call37 rfl rfl rfl rfl (fun w' hw' => (cmp_Compare_int_c w' b.score a_.score).mono (fun _ _ h => ⟨h.1, h.2 ▸ hw'⟩)) ?_
 have h16 := El_know_Hit_0 h4
 refine VQ_y (fun w' hw' => Y_fieldAddr Tryz.underlying35 rfl Tryz.sizeOf3 (by decide) rfl) rfl rfl rfl ?_
 refine VQ_y (fun w' hw' => Y_load (El.int (El.kp (Dw := Dw) h16 hw')) Tryz.isAgg3 rfl) rfl rfl rfl ?_
 have h17 := El_know_Hit_0 h11
 refine VQ_y (fun w' hw' => Y_fieldAddr Tryz.underlying35 rfl Tryz.sizeOf3 (by decide) rfl) rfl rfl rfl ?_
 refine VQ_y (fun w' hw' => Y_load (El.int (El.kp (Dw := Dw) h17 hw')) Tryz.isAgg3 rfl) rfl rfl rfl ?_
 refine VQ_call (.int .i64 (cmp_Compare_int a_.id_ b.id_)) Tryz.call37 rfl rfl rfl rfl (fun w' hw' => (cmp_Compare_int_c w' a_.id_ b.id_).mono (fun _ _ h => ⟨h.1, h.2 ▸ hw'⟩)) ?_
 refine VQ_tail (fun w18 hk19 => ?_)
 try simp only [List.take, List.drop]
 have ht20 := Kp.tr hk19 hA hB
 replace hK := Tr.trans hK ht20
 replace hB := Nat.le_trans hB ht20.ex.size
 replace hA := ht20.new
 refine V_buildSlice (Dw := Dw) (cells := #[.int .i64 (cmp_Compare_int b.score a_.score), .int .i64 (cmp_Compare_int a_.id_ b.id_)]) (l := ([(cmp_Compare_int b.score a_.score), (cmp_Compare_int a_.id_ b.id_)] : List Int)) (len := 2) Tryz.underlying22 Tryz.sizeOf3 Tryz.zeroValue3 rfl (by generalize ((cmp_Compare_int b.score a_.score) : Int) = z25; generalize ((cmp_Compare_int a_.id_ b.id_) : Int) = z26; kernel_rfl) (show (2 * 1 : Nat) ≠ 0 by decide) (show (2 * 1 : Nat) ≤ 2 ^ 24 by decide) hA ⟨[.int .i64 (cmp_Compare_int b.score a_.score)], _, rfl, rfl, ⟨[.int .i64 (cmp_Compare_int a_.id_ b.id_)], _, rfl, rfl, rfl⟩⟩ rfl rfl ?_
 intro v21 w22 hk24 h23
 have ht27 := Kp.tr hk24 hA hB
 replace hK := Tr.trans hK ht27
 obtain ⟨x28, hx28, hm⟩ := Option.bind_eq_some_iff.1 hm
 refine V_call Tryz.call36 rfl rfl rfl rfl (cmp_Or_int_c w22 ([(cmp_Compare_int b.score a_.score), (cmp_Compare_int a_.id_ b.id_)] : List Int) v21 h23 hx28) ?_
 rintro _ _ ⟨rfl, rfl⟩
 refine V_as rfl rfl ?_
 refine V_to (fun _ _ => rfl) ?_
 obtain rfl := Option.some.inj hm
 refine C_ret ?_
 try simp only [↓inBlock_ret, ↓then_ret]
 exact retQ rfl (Res.one Tryz.results50 rfl) ⟨rfl, hK.kp⟩

set_option maxRecDepth 4000 in
set_option maxHeartbeats 4000000 in
theorem portref2_ranked_c (w : World) {A : Nat → Prop} {B : Nat} (hB : B ≤ w.heap.size) (hA : ∀ b, w.heap.size ≤ b → A b) (l : (List know_Hit)) (v_l : Value) (most : Int) {L : List Ob} (hH : Hp B A w (obS (α := know_Hit) 35 v_l l :: L)) {r : (List know_Hit)} (hm : portref2_ranked l most = some r) : Ret Tryz.prog 21 #[v_l, .int .i64 most] w fun v w' => ∃ s0, ∃ A1 : Nat → Prop, v = s0 ∧ Sl A1 w' s0 r ∧ Hp B A1 w' (L) ∧ Tr Dw B A w A1 w' := by
 unfold portref2_ranked at hm
 refine enter Tryz.func21 rfl Tryz.ntmps21 rfl ?_
 have hK : Tr Dw B A w A w := Tr.refl (Dw := Dw) hA
 refine C_seq ?_
 refine C_region ?_
 refine V_as rfl rfl ?_
 refine V_to (fun _ _ => rfl) ?_
 refine C_seq ?_
 refine C_region ?_
 refine V_mv rfl rfl ?_
 obtain ⟨x1, hx1, hm⟩ := Option.bind_eq_some_iff.1 hm
 refine V_call Tryz.call34 rfl rfl rfl rfl (Tryz_sf34 (Dw := Dw) Tryz.call50 (fun w7 ht8 h9 p11 q14 c12 c15 c17 h13 h16 h10 => by obtain ⟨rfl, _⟩ := Rep_know_Hit h13; obtain ⟨rfl, _⟩ := Rep_know_Hit h16; exact (portref2_ranked_1_c (Dw := True) w7 h9 p11 q14 h10).mono fun _ _ h => ⟨h.1, h.2⟩) hH (i := 0) rfl hB hA hx1) ?_
 rintro _ w2 ⟨rfl, hH3, ht4⟩
 replace hK := Tr.trans hK ht4
 replace hA := ht4.new
 replace hH : Hp B A w2 (obS (α := know_Hit) 35 v_l x1 :: L) := hH3
 refine V_to (fun _ _ => rfl) ?_
 refine C_seq ?_
 refine C_region ?_
 refine V_mv rfl rfl ?_
 refine V_mv rfl rfl ?_
 refine V_y (Y_lenSl (Hp.any (α := know_Hit) (e := 35) (v := v_l) (l := x1) hH (i := 0) rfl) rfl Tryz.underlying29 rfl) rfl rfl rfl ?_
 refine V_mv rfl rfl ?_
 refine V_y (Y_min2 rfl rfl) rfl rfl rfl ?_
 obtain ⟨A18, ht19, h20, hH21⟩ := Hp.freeze (Dw := Dw) (α := know_Hit) (v := v_l) (l := x1) hH (i := 0) rfl hA
 replace hK := Tr.trans hK ht19
 replace hH : Hp B A18 w2 (L) := hH21
 obtain ⟨x23, hx23, hm⟩ := Option.bind_eq_some_iff.1 hm
 obtain ⟨v24, h25, h25y⟩ := sliceL_val hx23 h20
 refine V_y (Y_sliceLH h25y Tryz.underlying29 Tryz.sizeOf35 rfl rfl) rfl rfl rfl ?_
 refine V_as rfl rfl ?_
 refine V_to (fun _ _ => rfl) ?_
 obtain rfl := Option.some.inj hm
 refine C_ret ?_
 try simp only [↓inBlock_ret, ↓then_ret]
 exact retQ rfl (Res.one Tryz.results21 rfl) ⟨v24, A18, rfl, h25, hH, hK⟩

set_option maxRecDepth 4000 in
set_option maxHeartbeats 4000000 in
theorem portref2_SearchOf_c (w : World) {A : Nat → Prop} (hA : ∀ b, w.heap.size ≤ b → A b) (x : know_Index) (v_x0 : Value) (h_x0 : Sl A w v_x0 x.ids) (v_x1 : Value) (h_x1 : Sl A w v_x1 x.sizes) (v_x2 : Value) (h_x2 : Sl A w v_x2 x.terms) (q : know_Query) (v_q : Value) (h_q : Sl A w v_q q.parts) (most : Int) {r : ((List know_Hit) × Int)} (hm : portref2_SearchOf x q most = some r) : Ret Tryz.prog 5 #[.agg #[v_x0, v_x1, v_x2], .agg #[v_q], .int .i64 most] w fun v w' => ∃ s0, v = .tuple #[s0, .int .i64 r.2] ∧ Sl A w' s0 r.1 ∧ Kp False w w' := by
 unfold portref2_SearchOf at hm
 refine enter Tryz.func5 rfl Tryz.ntmps5 rfl ?_
 have hA0 := hA
 have hB := Nat.le_refl w.heap.size
 have hK : Tr False w.heap.size A w A w := Tr.refl (Dw := False) hA
 have hH : Hp w.heap.size A w [] := Hp.nil
 refine C_seq ?_
 refine C_region ?_
 refine V_box rfl rfl ?_
 intro b9 w10 h11
 have hk13 := h11.kp (Dw := False)
 have h12 : El (α := know_Index) A w10 b9 0 x := h11.el hA ⟨[v_x0], _, rfl, ⟨_, rfl, h_x0⟩, ⟨[v_x1], _, rfl, ⟨_, rfl, h_x1⟩, ⟨_, rfl, h_x2⟩⟩⟩
 have ht14 := Kp.tr (Dw := False) hk13 hA hB
 replace hH := Hp.kp (Dw := False) hH hk13
 replace h_q := Sl.tr (Dw := False) h_q ht14
 replace hK := Tr.trans (Dw := False) hK ht14
 replace hB := Nat.le_trans hB ht14.ex.size
 replace hA := ht14.new
 refine V_box rfl rfl ?_
 intro b15 w17 h18
 have hk20 := h18.kp (Dw := False)
 have h19 : El (α := know_Query) A w17 b15 0 q := h18.el hA ⟨_, rfl, h_q⟩
 have ht21 := Kp.tr (Dw := False) hk20 hA hB
 replace hH := Hp.kp (Dw := False) hH hk20
 replace h12 := El.tr (Dw := False) h12 ht21
 replace hK := Tr.trans (Dw := False) hK ht21
 replace hB := Nat.le_trans hB ht21.ex.size
 replace hA := ht21.new
 refine V_as rfl rfl ?_
 refine V_as rfl rfl ?_
 refine V_to (fun _ _ => rfl) ?_
 refine C_seq ?_
 refine C_seq ?_
 refine C_region ?_
 obtain ⟨v22, v24, v26, h28, h23, h25, h27⟩ := El_know_Index h12
 refine V_y (Y_loadA h28 Tryz.isAgg25 Tryz.sizeOf25 rfl) rfl rfl rfl ?_
 obtain ⟨x29, hx29, hm⟩ := Option.bind_eq_some_iff.1 hm
 refine V_call Tryz.call16 rfl rfl rfl rfl (portref2_IndexFault_c (Dw := False) w17 hA x v22 h23 v24 h25 v26 h27 hx29) ?_
 rintro _ w30 ⟨rfl, hk31⟩
 have ht32 := Kp.tr (Dw := False) hk31 hA hB
 replace hH := Hp.kp (Dw := False) hH hk31
 replace h12 := El.tr (Dw := False) h12 ht32
 replace h19 := El.tr (Dw := False) h19 ht32
 replace hK := Tr.trans (Dw := False) hK ht32
 replace hB := Nat.le_trans hB ht32.ex.size
 replace hA := ht32.new
 refine V_as rfl rfl ?_
 refine V_to (fun _ _ => rfl) ?_
 refine C_seq ?_
 refine C_region ?_
 refine V_mv rfl rfl ?_
 refine V_y (Y_neq rfl rfl) rfl rfl rfl ?_
 refine V_to (fun _ _ => rfl) ?_
 refine C_cond rfl (fun hc33 => ?_) (fun hc33 => ?_)
 ·rw [if_pos hc33] at hm
  refine C_seq ?_
  refine C_region ?_
  refine V_mv rfl rfl ?_
  refine V_as rfl rfl ?_
  refine V_as rfl rfl ?_
  refine V_to (fun _ _ => rfl) ?_
  obtain rfl := Option.some.inj hm
  refine C_ret ?_
  try simp only [↓inBlock_ret, ↓then_ret]
  exact retQ rfl (Res.two Tryz.results5 rfl rfl) ⟨.slice none 0 0, rfl, Sl.nil, hK.kp⟩
 ·rw [if_neg (nt hc33)] at hm
  refine C_skip_to (fun _ _ => rfl) ?_
  refine C_seq ?_
  refine C_seq ?_
  refine C_region ?_
  obtain ⟨v34, h36, h35⟩ := El_know_Query h19
  refine V_y (Y_loadA h36 Tryz.isAgg28 Tryz.sizeOf28 rfl) rfl rfl rfl ?_
  obtain ⟨x37, hx37, hm⟩ := Option.bind_eq_some_iff.1 hm
  refine V_call Tryz.call17 rfl rfl rfl rfl (portref2_QueryFault_c w30 hA q v34 h35 hx37) ?_
  rintro _ w38 ⟨rfl, hk39⟩
  have ht40 := Kp.tr (Dw := False) hk39 hA hB
  replace hH := Hp.kp (Dw := False) hH hk39
  replace h12 := El.tr (Dw := False) h12 ht40
  replace h19 := El.tr (Dw := False) h19 ht40
  replace hK := Tr.trans (Dw := False) hK ht40
  replace hB := Nat.le_trans hB ht40.ex.size
  replace hA := ht40.new
  refine V_mv rfl rfl ?_
  refine V_y (Y_extract rfl rfl) rfl rfl rfl ?_
  refine V_y (Y_extract rfl rfl) rfl rfl rfl ?_
  refine V_as rfl rfl ?_
  refine V_as rfl rfl ?_
  refine V_to (fun _ _ => rfl) ?_
  refine C_seq ?_
  refine C_region ?_
  refine V_mv rfl rfl ?_
  refine V_y (Y_neq rfl rfl) rfl rfl rfl ?_
  refine V_to (fun _ _ => rfl) ?_
  refine C_cond rfl (fun hc41 => ?_) (fun hc41 => ?_)
  ·rw [if_pos hc41] at hm
   refine C_seq ?_
   refine C_region ?_
   refine V_mv rfl rfl ?_
   refine V_as rfl rfl ?_
   refine V_as rfl rfl ?_
   refine V_to (fun _ _ => rfl) ?_
   obtain rfl := Option.some.inj hm
   refine C_ret ?_
   try simp only [↓inBlock_ret, ↓then_ret]
   exact retQ rfl (Res.two Tryz.results5 rfl rfl) ⟨.slice none 0 0, rfl, Sl.nil, hK.kp⟩
  ·rw [if_neg (nt hc41)] at hm
   refine C_skip_to (fun _ _ => rfl) ?_
   refine C_seq ?_
   refine C_seq ?_
   refine C_region ?_
   refine V_mv rfl rfl ?_
   refine V_y (Y_lss rfl rfl) rfl rfl rfl ?_
   refine V_mv rfl rfl ?_
   refine V_cut 3 (fun _ : Unit => [(2, .int .i64 most), (3, .pointer (some ⟨b9, 0, none⟩)), (4, .pointer (some ⟨b15, 0, none⟩)), (39, .bool ((decide (most < 0)) || (decide ((100 : Int) < most))))]) (fun _ w' => w38 = w') ?_ ?_
   ·simp only [List.take, List.drop]
    rcases Bool.eq_false_or_eq_true (decide (most < 0)) with hc42 | hc42
    ·refine V_gn rfl rfl rfl hc42 rfl rfl rfl ?_
     refine V_gn rfl rfl rfl hc42 rfl rfl rfl ?_
     refine V_y (Y_pick_te rfl hc42 rfl) rfl rfl rfl ?_
     exact V_end fun a ha => ⟨(), ha.sub ⟨rfl, rfl, rfl, (by rw [hc42]; rfl), trivial⟩, rfl⟩
    ·refine V_ge rfl rfl rfl hc42 ?_
     refine V_mv rfl rfl ?_
     refine V_ge rfl rfl rfl hc42 ?_
     refine V_y (Y_gtr rfl rfl) rfl rfl rfl ?_
     refine V_y (Y_pick_fe rfl hc42 rfl) rfl rfl rfl ?_
     exact V_end fun a ha => ⟨(), ha.sub ⟨rfl, rfl, rfl, (by rw [hc42]; rfl), trivial⟩, rfl⟩
   simp only [List.take, List.drop]
   rintro _ _ rfl
   refine V_to (fun _ _ => rfl) ?_
   refine C_cond rfl (fun hc44 => ?_) (fun hc44 => ?_)
   ·rw [if_pos hc44] at hm
    refine C_seq ?_
    refine C_region ?_
    refine V_as rfl rfl ?_
    refine V_as rfl rfl ?_
    refine V_to (fun _ _ => rfl) ?_
    obtain rfl := Option.some.inj hm
    refine C_ret ?_
    try simp only [↓inBlock_ret, ↓then_ret]
    exact retQ rfl (Res.two Tryz.results5 rfl rfl) ⟨.slice none 0 0, rfl, Sl.nil, hK.kp⟩
   ·rw [if_neg (nt hc44)] at hm
    refine C_skip_to (fun _ _ => rfl) ?_
    refine C_seq ?_
    refine C_region ?_
    refine V_as rfl rfl ?_
    refine V_to (fun _ _ => rfl) ?_
    refine C_seq ?_
    refine C_seq ?_
    refine C_region ?_
    have h45 := El_know_Index_0 h12
    refine V_y (Y_fieldAddr Tryz.underlying25 rfl Tryz.sizeOf22 (by decide) rfl) rfl rfl rfl ?_
    obtain ⟨v46, h47, h48⟩ := El.list h45
    refine V_y (Y_load h47 Tryz.isAgg22 rfl) rfl rfl rfl ?_
    refine V_y (Y_lenSl h48 rfl Tryz.underlying22 rfl) rfl rfl rfl ?_
    refine V_mv rfl rfl ?_
    refine V_to (fun _ _ => rfl) ?_
    replace hH : Hp w.heap.size A w38 (obS (α := know_Hit) 35 (.slice none 0 0) ([] : (List know_Hit)) :: []) := Hp.addNil (α := know_Hit) (e := 35) hH
    have hn73 := Sl.le h48
    obtain ⟨o49, ho49, hm⟩ := Option.bind_eq_some_iff.1 hm
    refine C_cutG (ι := ((List know_Hit) × Value × (Nat → Prop))) (fun ⟨s50, v56, A58⟩ => [(2, .int .i64 most), (11, v56)]) (fun ⟨s50, v56, A58⟩ => fun w' => o49 = .fin s50 ∧ Hp w.heap.size A58 w' (obS (α := know_Hit) 35 v56 s50 :: []) ∧ Tr False w.heap.size A w38 A58 w') ?_ ?_
    ·refine C_block ?_
     refine C_range ho49 (fun k52 s60 a w' => ∃ i : (Value × (Nat → Prop)), Has ⟨98, [], none⟩ a ([(2, .int .i64 most), (3, .pointer (some ⟨b9, 0, none⟩)), (4, .pointer (some ⟨b15, 0, none⟩)), (11, i.1), (41, v46), (42, .int .i64 (x.ids.length : Int)), (43, .int .i64 (k52 : Int))]) ∧ Hp w.heap.size i.2 w' (obS (α := know_Hit) 35 i.1 s60 :: []) ∧ Tr False w.heap.size A w38 i.2 w') (fun a ha => ⟨(.slice none 0 0, A), ha.sub ⟨rfl, rfl, rfl, rfl, rfl, rfl, rfl, trivial⟩, ⟨hH, Tr.refl (Dw := False) hA⟩⟩) ?_
     rintro K k52 s60 a w61 ⟨⟨v62, A64⟩, ha284, hH65, hr51⟩ hle69 K72 h71
     refine C_of ?_ ha284
     replace h12 := El.tr (Dw := False) h12 hr51
     replace h19 := El.tr (Dw := False) h19 hr51
     replace h48 := Sl.tr (Dw := False) h48 hr51
     replace hB := Nat.le_trans hB hr51.ex.size
     replace hA := hr51.new
     replace hH : Hp w.heap.size A64 w61 (obS (α := know_Hit) 35 v62 s60 :: []) := hH65
     refine C_seq (C_region (V_y (Y_lss rfl rfl) rfl rfl rfl (V_to (fun _ _ => rfl) ?_)))
     refine C_seq ?_
     refine C_cond rfl (fun hc74 => ?_) (fun hc74 => ?_)
     ·have hlt70 := lt_of_dec hc74
      obtain ⟨x66, h67, h68⟩ := K72 hlt70
      refine C_skip_to (fun _ _ => rfl) ?_
      refine C_seq ?_
      obtain ⟨s76, ho75, h67⟩ := Option.bind_eq_some_iff.1 h67
      refine C_cutG (ι := (Value × (Nat → Prop))) (fun ⟨v78, A83⟩ => [(2, .int .i64 most), (3, .pointer (some ⟨b9, 0, none⟩)), (4, .pointer (some ⟨b15, 0, none⟩)), (11, v78), (41, v46), (42, .int .i64 (x.ids.length : Int)), (43, .int .i64 (k52 : Int))]) (fun ⟨v78, A83⟩ => fun w' => Hp w.heap.size A83 w' (obS (α := know_Hit) 35 v78 s76 :: []) ∧ Tr False w.heap.size A64 w61 A83 w') ?_ ?_
      ·have hr77 : Tr False w.heap.size A64 w61 A64 w61 := Tr.refl (Dw := False) hA
       refine C_block ?_
       refine C_seq ?_
       refine C_region ?_
       obtain ⟨x85, hx85, ho75⟩ := Option.bind_eq_some_iff.1 ho75
       refine V_indexAddr h48 hx85 Tryz.underlying22 Tryz.sizeOf3 rfl rfl rfl ?_
       intro b86 o87 h88
       refine V_y (Y_load (El.int h88) Tryz.isAgg3 rfl) rfl rfl rfl ?_
       refine V_as rfl rfl ?_
       refine V_to (fun _ _ => rfl) ?_
       refine C_seq ?_
       refine C_region ?_
       refine V_mv rfl rfl ?_
       refine V_y (Y_build Tryz.underlying35 Tryz.zeroValue35 (Tryz_places35 _ Tryz.underlying35) rfl (by with_unfolding_all rfl)) rfl rfl rfl ?_
       refine V_allocH (Dw := False) (B := w.heap.size) hH Tryz.zeroValue35 hB hA rfl ?_
       intro b89 w90 A91 hH92 ht93
       replace h12 := El.tr (Dw := False) h12 ht93
       replace h19 := El.tr (Dw := False) h19 ht93
       replace hr77 := Tr.trans (Dw := False) hr77 ht93
       replace hB := Nat.le_trans hB ht93.ex.size
       replace hA := ht93.new
       replace hH : Hp w.heap.size A91 w90 (obC b89 [.int .i64 0, .int .i64 0] 35 :: obS (α := know_Hit) 35 v62 s60 :: []) := hH92
       refine V_storeC (Dw := False) (off := 0) (ds := [.int .i64 x85, .int .i64 0]) hH (i := 0) rfl Tryz.sizeOf35 rfl (Nat.le_of_ble_eq_true rfl) (by simp [Value.cells, Value.oneCell']) rfl hB hA rfl rfl ?_
       intro w94 hH95 ht96
       replace h12 := El.tr (Dw := False) h12 ht96
       replace h19 := El.tr (Dw := False) h19 ht96
       replace hr77 := Tr.trans (Dw := False) hr77 ht96
       replace hB := Nat.le_trans hB ht96.ex.size
       replace hA := ht96.new
       replace hH : Hp w.heap.size A91 w94 (obC b89 [.int .i64 x85, .int .i64 0] 35 :: obS (α := know_Hit) 35 v62 s60 :: []) := hH95
       refine V_to (fun _ _ => rfl) ?_
       refine C_seq ?_
       refine C_region ?_
       refine V_as rfl rfl ?_
       refine V_as rfl rfl ?_
       refine V_to (fun _ _ => rfl) ?_
       refine C_seq ?_
       refine C_seq ?_
       refine C_region ?_
       have h97 := El_know_Query_0 h19
       refine V_y (Y_fieldAddr Tryz.underlying28 rfl Tryz.sizeOf26 (by decide) rfl) rfl rfl rfl ?_
       obtain ⟨v98, h99, h100⟩ := El.list h97
       refine V_y (Y_load h99 Tryz.isAgg26 rfl) rfl rfl rfl ?_
       refine V_y (Y_lenSl h100 rfl Tryz.underlying26 rfl) rfl rfl rfl ?_
       refine V_mv rfl rfl ?_
       refine V_to (fun _ _ => rfl) ?_
       have hn121 := Sl.le h100
       obtain ⟨o101, ho101, ho75⟩ := Option.bind_eq_some_iff.1 ho75
       refine C_cutG (ι := ((Bool × Bool × know_Hit) × (Nat → Prop))) (fun ⟨s102, A108⟩ => [(2, .int .i64 most), (3, .pointer (some ⟨b9, 0, none⟩)), (4, .pointer (some ⟨b15, 0, none⟩)), (11, v62), (14, .pointer (some ⟨b89, 0, none⟩)), (15, .bool s102.1), (16, .bool s102.2.1), (41, v46), (42, .int .i64 (x.ids.length : Int)), (43, .int .i64 (k52 : Int))]) (fun ⟨s102, A108⟩ => fun w' => o101 = .fin s102 ∧ Hp w.heap.size A108 w' (obC b89 [.int .i64 s102.2.2.id_, .int .i64 s102.2.2.score] 35 :: obS (α := know_Hit) 35 v62 s60 :: []) ∧ Tr False w.heap.size A91 w94 A108 w') ?_ ?_
       ·refine C_block ?_
        refine C_range ho101 (fun k104 s110 a w' => ∃ i : (Nat → Prop), Has ⟨98, [], none⟩ a ([(2, .int .i64 most), (3, .pointer (some ⟨b9, 0, none⟩)), (4, .pointer (some ⟨b15, 0, none⟩)), (11, v62), (13, .int .i64 x85), (14, .pointer (some ⟨b89, 0, none⟩)), (15, .bool s110.1), (16, .bool s110.2.1), (41, v46), (42, .int .i64 (x.ids.length : Int)), (43, .int .i64 (k52 : Int)), (50, v98), (51, .int .i64 (q.parts.length : Int)), (52, .int .i64 (k104 : Int))]) ∧ Hp w.heap.size i w' (obC b89 [.int .i64 s110.2.2.id_, .int .i64 s110.2.2.score] 35 :: obS (α := know_Hit) 35 v62 s60 :: []) ∧ Tr False w.heap.size A91 w94 i w') (fun a ha => ⟨A91, ha.sub ⟨rfl, rfl, rfl, rfl, rfl, rfl, rfl, rfl, rfl, rfl, rfl, rfl, rfl, rfl, trivial⟩, ⟨hH, Tr.refl (Dw := False) hA⟩⟩) ?_
        rintro K k104 s110 a w111 ⟨A112, ha254, hH113, hr103⟩ hle117 K120 h119
        refine C_of ?_ ha254
        replace h12 := El.tr (Dw := False) h12 hr103
        replace h100 := Sl.tr (Dw := False) h100 hr103
        replace hB := Nat.le_trans hB hr103.ex.size
        replace hA := hr103.new
        replace hH : Hp w.heap.size A112 w111 (obC b89 [.int .i64 s110.2.2.id_, .int .i64 s110.2.2.score] 35 :: obS (α := know_Hit) 35 v62 s60 :: []) := hH113
        refine C_seq (C_region (V_y (Y_lss rfl rfl) rfl rfl rfl (V_to (fun _ _ => rfl) ?_)))
        refine C_seq ?_
        refine C_cond rfl (fun hc122 => ?_) (fun hc122 => ?_)
        ·have hlt118 := lt_of_dec hc122
         obtain ⟨x114, h115, h116⟩ := K120 hlt118
         refine C_skip_to (fun _ _ => rfl) ?_
         refine C_seq ?_
         obtain ⟨s124, ho123, h115⟩ := Option.bind_eq_some_iff.1 h115
         refine C_cutG (ι := (Nat → Prop)) (fun (A129 : (Nat → Prop)) => [(2, .int .i64 most), (3, .pointer (some ⟨b9, 0, none⟩)), (4, .pointer (some ⟨b15, 0, none⟩)), (11, v62), (13, .int .i64 x85), (14, .pointer (some ⟨b89, 0, none⟩)), (15, .bool s124.1), (16, .bool s124.2.1), (41, v46), (42, .int .i64 (x.ids.length : Int)), (43, .int .i64 (k52 : Int)), (50, v98), (51, .int .i64 (q.parts.length : Int)), (52, .int .i64 (k104 : Int))]) (fun (A129 : (Nat → Prop)) => fun w' => Hp w.heap.size A129 w' (obC b89 [.int .i64 s124.2.2.id_, .int .i64 s124.2.2.score] 35 :: obS (α := know_Hit) 35 v62 s60 :: []) ∧ Tr False w.heap.size A112 w111 A129 w') ?_ ?_
         ·have hr125 : Tr False w.heap.size A112 w111 A112 w111 := Tr.refl (Dw := False) hA
          refine C_block ?_
          refine C_seq ?_
          refine C_region ?_
          obtain ⟨x131, hx131, ho123⟩ := Option.bind_eq_some_iff.1 ho123
          refine V_indexAddr h100 hx131 Tryz.underlying26 Tryz.sizeOf44 rfl rfl rfl ?_
          intro b132 o133 h134
          obtain ⟨v135, h137, h136⟩ := El_know_Part h134
          refine V_y (Y_loadA h137 Tryz.isAgg44 Tryz.sizeOf44 rfl) rfl rfl rfl ?_
          refine V_alloc Tryz.zeroValue44 rfl ?_
          intro b138 w139 h140
          have h145 : (v135).oneCell' = true := by obtain ⟨_, _, e, _⟩ := Sl.form h136; rw [e]; rfl
          refine V_storeNew h140 Tryz.sizeOf44 rfl rfl rfl rfl (by exact (List.forall_mem_cons.2 ⟨rfl, (List.forall_mem_cons.2 ⟨rfl, (List.forall_mem_cons.2 ⟨h145, (fun _ h => nomatch h)⟩)⟩)⟩)) ?_
          intro w141 h142
          have hk147 := h142.kp (Dw := False)
          have h146 : El (α := know_Part) A112 w141 b138 0 x131 := h142.el hA ⟨[.int .i64 x131.kind], _, rfl, rfl, ⟨[.bool x131.not_], _, rfl, rfl, ⟨_, rfl, h136⟩⟩⟩
          have ht148 := Kp.tr (Dw := False) hk147 hA hB
          replace hH := Hp.kp (Dw := False) hH hk147
          replace h12 := El.tr (Dw := False) h12 ht148
          replace hr125 := Tr.trans (Dw := False) hr125 ht148
          replace hB := Nat.le_trans hB ht148.ex.size
          replace hA := ht148.new
          refine V_to (fun _ _ => rfl) ?_
          refine C_seq ?_
          refine C_region_q (Dw := False) Tryz_mixed (by kernel_rfl) ?_
          refine VQ_y (fun w' hw' => Y_move rfl) rfl rfl rfl ?_
          refine VQ_y (fun w' hw' => Y_move rfl) rfl rfl rfl ?_
          obtain ⟨s150, hs150, ho123⟩ := Option.bind_eq_some_iff.1 ho123
          refine VQ_cut 8 (fun _ : Unit => [(2, .int .i64 most), (3, .pointer (some ⟨b9, 0, none⟩)), (4, .pointer (some ⟨b15, 0, none⟩)), (11, v62), (13, .int .i64 x85), (14, .pointer (some ⟨b89, 0, none⟩)), (16, .bool s110.2.1), (18, .pointer (some ⟨b138, 0, none⟩)), (41, v46), (42, .int .i64 (x.ids.length : Int)), (43, .int .i64 (k52 : Int)), (50, v98), (51, .int .i64 (q.parts.length : Int)), (52, .int .i64 (k104 : Int)), (65, .bool s150)]) (fun _ => True) ?_ ?_
          ·simp only [List.take, List.drop]
           rcases Bool.eq_false_or_eq_true (s110.1) with hc149 | hc149
           ·rw [if_pos hc149] at hs150
            refine VQ_ge rfl rfl rfl hc149 ?_
            obtain ⟨v151, v153, v155, h157, h152, h154, h156⟩ := El_know_Index h12
            refine VQ_y (fun w' hw' => Y_loadA (At.kp (Dw := False) h157 hw' h12.2.1) Tryz.isAgg25 Tryz.sizeOf25 rfl) rfl rfl rfl ?_
            refine VQ_ge rfl rfl rfl hc149 ?_
            obtain ⟨v158, h160, h159⟩ := El_know_Part h146
            refine VQ_y (fun w' hw' => Y_loadA (At.kp (Dw := False) h160 hw' h146.2.1) Tryz.isAgg44 Tryz.sizeOf44 rfl) rfl rfl rfl ?_
            refine VQ_ge rfl rfl rfl hc149 ?_
            refine VQ_y (fun w' hw' => Y_move rfl) rfl rfl rfl ?_
            refine VQ_ge rfl rfl rfl hc149 ?_
            obtain ⟨x161, hx161, hs150⟩ := Option.bind_eq_some_iff.1 hs150
            refine VQ_call (.bool x161) Tryz.call18 rfl rfl rfl rfl (fun w' hw' => (portref2_matches_c w' (fun b hb => hA b (Nat.le_trans hw'.size hb)) x v151 (Sl.kp (Dw := False) h152 hw') v153 (Sl.kp (Dw := False) h154 hw') v155 (Sl.kp (Dw := False) h156 hw') x131 v158 (Sl.kp (Dw := False) h159 hw') x85 hx161).mono (fun _ _ h => ⟨h.1, Kp.trans (Dw := False) hw' h.2⟩)) ?_
            refine VQ_ge rfl rfl rfl hc149 ?_
            have h162 := El_know_Part_1 h146
            refine VQ_y (fun w' hw' => Y_fieldAddr Tryz.underlying44 rfl Tryz.sizeOf4 (by decide) rfl) rfl rfl rfl ?_
            refine VQ_ge rfl rfl rfl hc149 ?_
            refine VQ_y (fun w' hw' => Y_load (El.bool (El.kp (Dw := False) h162 hw')) Tryz.isAgg4 rfl) rfl rfl rfl ?_
            refine VQ_ge rfl rfl rfl hc149 ?_
            refine VQ_y (fun w' hw' => Y_bneq Tryz.underlying4 rfl rfl) rfl rfl rfl ?_
            refine VQ_y (fun _ _ => Y_pick_te rfl hc149 rfl) rfl rfl rfl ?_
            obtain rfl := Option.some.inj hs150
            exact VQ_end fun a ha => ⟨(), ha.sub ⟨rfl, rfl, rfl, rfl, rfl, rfl, rfl, rfl, rfl, rfl, rfl, rfl, rfl, rfl, rfl, trivial⟩, trivial⟩
           ·rw [if_neg (nt hc149)] at hs150
            refine VQ_gn rfl rfl rfl hc149 rfl rfl rfl ?_
            refine VQ_gn rfl rfl rfl hc149 rfl rfl rfl ?_
            refine VQ_gn rfl rfl rfl hc149 rfl rfl rfl ?_
            refine VQ_gn rfl rfl rfl hc149 rfl rfl rfl ?_
            refine VQ_gn rfl rfl rfl hc149 rfl rfl rfl ?_
            refine VQ_gn rfl rfl rfl hc149 rfl rfl rfl ?_
            refine VQ_gn rfl rfl rfl hc149 rfl rfl rfl ?_
            refine VQ_y (fun _ _ => Y_pick_fe rfl hc149 rfl) rfl rfl rfl ?_
            obtain rfl := Option.some.inj hs150
            exact VQ_end fun a ha => ⟨(), ha.sub ⟨rfl, rfl, rfl, rfl, rfl, rfl, rfl, rfl, rfl, rfl, rfl, rfl, rfl, rfl, rfl, trivial⟩, trivial⟩
          simp only [List.take, List.drop]
          rintro _ _
          refine VQ_y (fun w' hw' => Y_assign rfl) rfl rfl rfl ?_
          refine VQ_to (fun _ _ => rfl) (fun w163 hk164 => ?_)
          have ht165 := Kp.tr (Dw := False) hk164 hA hB
          replace hH := Hp.kp (Dw := False) hH hk164
          replace h12 := El.tr (Dw := False) h12 ht165
          replace h146 := El.tr (Dw := False) h146 ht165
          replace hr125 := Tr.trans (Dw := False) hr125 ht165
          replace hB := Nat.le_trans hB ht165.ex.size
          replace hA := ht165.new
          refine C_seq ?_
          refine C_seq ?_
          refine C_region ?_
          have h166 := El_know_Part_1 h146
          refine V_y (Y_fieldAddr Tryz.underlying44 rfl Tryz.sizeOf4 (by decide) rfl) rfl rfl rfl ?_
          refine V_y (Y_load (El.bool h166) Tryz.isAgg4 rfl) rfl rfl rfl ?_
          refine V_to (fun _ _ => rfl) ?_
          refine C_cond rfl (fun hc167 => ?_) (fun hc167 => ?_)
          ·rw [if_pos hc167] at ho123
           obtain rfl := Option.some.inj ho123
           refine C_exit (fun a ha168 => ?_)
           exact ⟨A112, ha168.sub ⟨rfl, rfl, rfl, rfl, rfl, rfl, rfl, rfl, rfl, rfl, rfl, rfl, rfl, rfl, trivial⟩, ⟨hH, hr125⟩⟩
          ·rw [if_neg (nt hc167)] at ho123
           refine C_skip_to (fun _ _ => rfl) ?_
           refine C_seq ?_
           refine C_region ?_
           refine V_as rfl rfl ?_
           refine V_to (fun _ _ => rfl) ?_
           refine C_seq ?_
           refine C_region ?_
           obtain ⟨v169, v171, v173, h175, h170, h172, h174⟩ := El_know_Index h12
           refine V_y (Y_loadA h175 Tryz.isAgg25 Tryz.sizeOf25 rfl) rfl rfl rfl ?_
           obtain ⟨v176, h178, h177⟩ := El_know_Part h146
           refine V_y (Y_loadA h178 Tryz.isAgg44 Tryz.sizeOf44 rfl) rfl rfl rfl ?_
           obtain ⟨x179, hx179, ho123⟩ := Option.bind_eq_some_iff.1 ho123
           refine V_call Tryz.call19 rfl rfl rfl rfl (portref2_termsOf_c w163 hB hA x v169 h170 v171 h172 v173 h174 x131 v176 h177 hH hx179) ?_
           rintro v180 w182 ⟨_, A183, rfl, hH184, ht185⟩
           replace h12 := El.tr (Dw := False) h12 ht185
           replace hr125 := Tr.trans (Dw := False) hr125 ht185
           replace hB := Nat.le_trans hB ht185.ex.size
           replace hA := ht185.new
           replace hH : Hp w.heap.size A183 w182 (obS (α := know_Term) 51 v180 x179 :: obC b89 [.int .i64 s110.2.2.id_, .int .i64 s110.2.2.score] 35 :: obS (α := know_Hit) 35 v62 s60 :: []) := hH184
           refine V_y (Y_lenSl (Hp.any (α := know_Term) (e := 51) (v := v180) (l := x179) hH (i := 0) rfl) rfl Tryz.underlying23 rfl) rfl rfl rfl ?_
           refine V_mv rfl rfl ?_
           refine V_to (fun _ _ => rfl) ?_
           obtain ⟨A186, ht187, h188, hH189⟩ := Hp.freeze (Dw := False) (α := know_Term) (v := v180) (l := x179) hH (i := 0) rfl hA
           replace h12 := El.tr (Dw := False) h12 ht187
           replace hr125 := Tr.trans (Dw := False) hr125 ht187
           replace hB := Nat.le_trans hB ht187.ex.size
           replace hA := ht187.new
           replace hH : Hp w.heap.size A186 w182 (obC b89 [.int .i64 s110.2.2.id_, .int .i64 s110.2.2.score] 35 :: obS (α := know_Hit) 35 v62 s60 :: []) := hH189
           have hn211 := Sl.le h188
           obtain ⟨o191, ho191, ho123⟩ := Option.bind_eq_some_iff.1 ho123
           refine C_cutG (ι := (know_Hit × (Nat → Prop))) (fun ⟨s192, A198⟩ => [(2, .int .i64 most), (3, .pointer (some ⟨b9, 0, none⟩)), (4, .pointer (some ⟨b15, 0, none⟩)), (11, v62), (13, .int .i64 x85), (14, .pointer (some ⟨b89, 0, none⟩)), (15, .bool s150), (16, .bool true), (41, v46), (42, .int .i64 (x.ids.length : Int)), (43, .int .i64 (k52 : Int)), (50, v98), (51, .int .i64 (q.parts.length : Int)), (52, .int .i64 (k104 : Int))]) (fun ⟨s192, A198⟩ => fun w' => o191 = .fin s192 ∧ Hp w.heap.size A198 w' (obC b89 [.int .i64 s192.id_, .int .i64 s192.score] 35 :: obS (α := know_Hit) 35 v62 s60 :: []) ∧ Tr False w.heap.size A186 w182 A198 w') ?_ ?_
           ·refine C_block ?_
            refine C_range ho191 (fun k194 s200 a w' => ∃ i : (Nat → Prop), Has ⟨98, [], none⟩ a ([(2, .int .i64 most), (3, .pointer (some ⟨b9, 0, none⟩)), (4, .pointer (some ⟨b15, 0, none⟩)), (11, v62), (13, .int .i64 x85), (14, .pointer (some ⟨b89, 0, none⟩)), (15, .bool s150), (16, .bool true), (41, v46), (42, .int .i64 (x.ids.length : Int)), (43, .int .i64 (k52 : Int)), (50, v98), (51, .int .i64 (q.parts.length : Int)), (52, .int .i64 (k104 : Int)), (70, v180), (71, .int .i64 (x179.length : Int)), (72, .int .i64 (k194 : Int))]) ∧ Hp w.heap.size i w' (obC b89 [.int .i64 s200.id_, .int .i64 s200.score] 35 :: obS (α := know_Hit) 35 v62 s60 :: []) ∧ Tr False w.heap.size A186 w182 i w') (fun a ha => ⟨A186, ha.sub ⟨rfl, rfl, rfl, rfl, rfl, rfl, rfl, rfl, rfl, rfl, rfl, rfl, rfl, rfl, rfl, rfl, rfl, trivial⟩, ⟨hH, Tr.refl (Dw := False) hA⟩⟩) ?_
            rintro K k194 s200 a w201 ⟨A202, ha250, hH203, hr193⟩ hle207 K210 h209
            refine C_of ?_ ha250
            replace h12 := El.tr (Dw := False) h12 hr193
            replace h188 := Sl.tr (Dw := False) h188 hr193
            replace hB := Nat.le_trans hB hr193.ex.size
            replace hA := hr193.new
            replace hH : Hp w.heap.size A202 w201 (obC b89 [.int .i64 s200.id_, .int .i64 s200.score] 35 :: obS (α := know_Hit) 35 v62 s60 :: []) := hH203
            refine C_seq (C_region (V_y (Y_lss rfl rfl) rfl rfl rfl (V_to (fun _ _ => rfl) ?_)))
            refine C_seq ?_
            refine C_cond rfl (fun hc212 => ?_) (fun hc212 => ?_)
            ·have hlt208 := lt_of_dec hc212
             obtain ⟨x204, h205, h206⟩ := K210 hlt208
             refine C_skip_to (fun _ _ => rfl) ?_
             refine C_seq ?_
             refine C_block ?_
             refine C_seq ?_
             refine C_region ?_
             obtain ⟨x213, hx213, h205⟩ := Option.bind_eq_some_iff.1 h205
             refine V_indexAddr h188 hx213 Tryz.underlying23 Tryz.sizeOf51 rfl rfl rfl ?_
             intro b214 o215 h216
             obtain ⟨v217, h219, h218⟩ := El_know_Term h216
             refine V_y (Y_loadA h219 Tryz.isAgg51 Tryz.sizeOf51 rfl) rfl rfl rfl ?_
             refine V_alloc Tryz.zeroValue51 rfl ?_
             intro b220 w221 h222
             have h227 : (v217).oneCell' = true := by obtain ⟨_, _, e, _⟩ := Sl.form h218; rw [e]; rfl
             refine V_storeNew h222 Tryz.sizeOf51 rfl rfl rfl rfl (by exact (List.forall_mem_cons.2 ⟨rfl, (List.forall_mem_cons.2 ⟨h227, (fun _ h => nomatch h)⟩)⟩)) ?_
             intro w223 h224
             have hk229 := h224.kp (Dw := False)
             have h228 : El (α := know_Term) A202 w223 b220 0 x213 := h224.el hA ⟨[.string x213.word], _, rfl, rfl, ⟨_, rfl, h218⟩⟩
             have ht230 := Kp.tr (Dw := False) hk229 hA hB
             replace hH := Hp.kp (Dw := False) hH hk229
             replace h12 := El.tr (Dw := False) h12 ht230
             replace hr193 := Tr.trans (Dw := False) hr193 ht230
             replace hB := Nat.le_trans hB ht230.ex.size
             replace hA := ht230.new
             refine V_to (fun _ _ => rfl) ?_
             refine C_region_qt (Dw := False) 8 Tryz_mixed (by kernel_rfl) ?_
             simp only [List.take, List.drop]
             refine VQ_y (fun w' hw' => Y_fieldAddrC (off2 := 1) Tryz.underlying35 rfl Tryz.sizeOf3 (by decide) rfl rfl) rfl rfl rfl ?_
             refine VQ_y (fun w' hw' => Y_load ((World.cell?_of_block (hw'.block _ (World.block_lt_of_cell? _ _ (Hp.cell (j := 1) hH (i := 0) rfl rfl)))).trans (Hp.cell (j := 1) hH (i := 0) rfl rfl)) Tryz.isAgg3 rfl) rfl rfl rfl ?_
             obtain ⟨v231, v233, v235, h237, h232, h234, h236⟩ := El_know_Index h12
             refine VQ_y (fun w' hw' => Y_loadA (At.kp (Dw := False) h237 hw' h12.2.1) Tryz.isAgg25 Tryz.sizeOf25 rfl) rfl rfl rfl ?_
             obtain ⟨v238, h240, h239⟩ := El_know_Term h228
             refine VQ_y (fun w' hw' => Y_loadA (At.kp (Dw := False) h240 hw' h228.2.1) Tryz.isAgg51 Tryz.sizeOf51 rfl) rfl rfl rfl ?_
             refine VQ_y (fun w' hw' => Y_move rfl) rfl rfl rfl ?_
             obtain ⟨x241, hx241, h205⟩ := Option.bind_eq_some_iff.1 h205
             refine VQ_call (.int .i64 x241) Tryz.call20 rfl rfl rfl rfl (fun w' hw' => (portref2_termScore_c (Dw := False) w' (fun b hb => hA b (Nat.le_trans hw'.size hb)) x v231 (Sl.kp (Dw := False) h232 hw') v233 (Sl.kp (Dw := False) h234 hw') v235 (Sl.kp (Dw := False) h236 hw') x213 v238 (Sl.kp (Dw := False) h239 hw') x85 hx241).mono (fun _ _ h => ⟨h.1, Kp.trans (Dw := False) hw' h.2⟩)) ?_
             refine VQ_y (fun w' hw' => Y_addI rfl rfl) rfl rfl rfl ?_
             refine VQ_y (fun w' hw' => Y_fieldAddrC (off2 := 1) Tryz.underlying35 rfl Tryz.sizeOf3 (by decide) rfl rfl) rfl rfl rfl ?_
             refine VQ_tail (fun w242 hk243 => ?_)
             try simp only [List.take, List.drop]
             have ht244 := Kp.tr (Dw := False) hk243 hA hB
             replace hH := Hp.kp (Dw := False) hH hk243
             replace hr193 := Tr.trans (Dw := False) hr193 ht244
             replace hB := Nat.le_trans hB ht244.ex.size
             replace hA := ht244.new
             refine V_storeC (Dw := False) (off := 1) (ds := [.int .i64 s200.id_, .int .i64 (w64 (s200.score + x241))]) hH (i := 0) rfl Tryz.sizeOf3 rfl (Nat.le_of_ble_eq_true rfl) (by simp [Value.cells, Value.oneCell']) rfl hB hA rfl rfl ?_
             intro w245 hH246 ht247
             replace hr193 := Tr.trans (Dw := False) hr193 ht247
             replace hH : Hp w.heap.size A202 w245 (obC b89 [.int .i64 s200.id_, .int .i64 (w64 (s200.score + x241))] 35 :: obS (α := know_Hit) 35 v62 s60 :: []) := hH246
             refine V_to (fun _ _ => rfl) ?_
             refine C_region ?_
             refine V_y (Y_addI rfl rfl) rfl rfl rfl ?_
             refine V_mv rfl rfl ?_
             obtain rfl := Option.some.inj h205
             refine V_end (fun a ha248 => ?_)
             exact ⟨(⟨s200.id_, w64 (s200.score + x241)⟩ : know_Hit), hlt208, h206, ⟨A202, ha248.sub ⟨rfl, rfl, rfl, rfl, rfl, rfl, rfl, rfl, rfl, rfl, rfl, rfl, rfl, rfl, rfl, rfl, (congrArg (fun z => some (Value.int .i64 z)) (w64_succ hlt208 hn211)), trivial⟩, ⟨hH, hr193⟩⟩⟩
            ·refine C_exit (fun a ha249 => ?_)
             exact ⟨(s200, A202), ha249.sub ⟨rfl, rfl, rfl, rfl, rfl, rfl, rfl, rfl, rfl, rfl, rfl, rfl, rfl, rfl, trivial⟩, ⟨(h209 (eq_of_dec hle207 hc212)).symm, hH, hr193⟩⟩
           rintro ⟨s192, A198⟩ w195 ⟨rfl, hH199, hk196⟩ a ha197
           rw [Lp.andThen_fin] at ho123
           replace hr125 := Tr.trans (Dw := False) hr125 hk196
           replace hA := hk196.new
           replace hH : Hp w.heap.size A198 w195 (obC b89 [.int .i64 s192.id_, .int .i64 s192.score] 35 :: obS (α := know_Hit) 35 v62 s60 :: []) := hH199
           obtain rfl := Option.some.inj ho123
           exact ⟨A198, ha197.sub ⟨rfl, rfl, rfl, rfl, rfl, rfl, rfl, rfl, rfl, rfl, rfl, rfl, rfl, rfl, trivial⟩, ⟨hH, hr125⟩⟩
         rintro A129 w126 ⟨hH130, hk127⟩ a ha128
         replace hr103 := Tr.trans (Dw := False) hr103 hk127
         replace hA := hk127.new
         replace hH : Hp w.heap.size A129 w126 (obC b89 [.int .i64 s124.2.2.id_, .int .i64 s124.2.2.score] 35 :: obS (α := know_Hit) 35 v62 s60 :: []) := hH130
         refine C_at (n := ⟨98, [], none⟩) (fun _ _ => rfl) ?_ ha128
         refine C_region ?_
         refine V_y (Y_addI rfl rfl) rfl rfl rfl ?_
         refine V_mv rfl rfl ?_
         obtain rfl := Option.some.inj h115
         refine V_end (fun a ha252 => ?_)
         exact ⟨(s124.1, s124.2.1, s124.2.2), hlt118, h116, ⟨A129, ha252.sub ⟨rfl, rfl, rfl, rfl, rfl, rfl, rfl, rfl, rfl, rfl, rfl, rfl, rfl, (congrArg (fun z => some (Value.int .i64 z)) (w64_succ hlt118 hn121)), trivial⟩, ⟨hH, hr103⟩⟩⟩
        ·refine C_exit (fun a ha253 => ?_)
         exact ⟨((s110.1, s110.2.1, s110.2.2), A112), ha253.sub ⟨rfl, rfl, rfl, rfl, rfl, rfl, rfl, rfl, rfl, rfl, trivial⟩, ⟨(h119 (eq_of_dec hle117 hc122)).symm, hH, hr103⟩⟩
       rintro ⟨s102, A108⟩ w105 ⟨rfl, hH109, hk106⟩ a ha107
       rw [Lp.andThen_fin] at ho75
       replace hr77 := Tr.trans (Dw := False) hr77 hk106
       replace hB := Nat.le_trans hB hk106.ex.size
       replace hA := hk106.new
       replace hH : Hp w.heap.size A108 w105 (obC b89 [.int .i64 s102.2.2.id_, .int .i64 s102.2.2.score] 35 :: obS (α := know_Hit) 35 v62 s60 :: []) := hH109
       refine C_at (n := ⟨98, [], none⟩) (fun _ _ => rfl) ?_ ha107
       refine C_seq ?_
       refine C_region ?_
       refine V_mv rfl rfl ?_
       refine V_mv rfl rfl ?_
       refine V_cut 2 (fun _ : Unit => [(2, .int .i64 most), (3, .pointer (some ⟨b9, 0, none⟩)), (4, .pointer (some ⟨b15, 0, none⟩)), (11, v62), (14, .pointer (some ⟨b89, 0, none⟩)), (41, v46), (42, .int .i64 (x.ids.length : Int)), (43, .int .i64 (k52 : Int)), (89, .bool (s102.1 && s102.2.1))]) (fun _ w' => w105 = w') ?_ ?_
       ·simp only [List.take, List.drop]
        rcases Bool.eq_false_or_eq_true (s102.1) with hc255 | hc255
        ·refine V_ge rfl rfl rfl hc255 ?_
         refine V_mv rfl rfl ?_
         refine V_y (Y_pick_te rfl hc255 rfl) rfl rfl rfl ?_
         exact V_end fun a ha => ⟨(), ha.sub ⟨rfl, rfl, rfl, rfl, rfl, rfl, rfl, rfl, (by rw [hc255]; rfl), trivial⟩, rfl⟩
        ·refine V_gn rfl rfl rfl hc255 rfl rfl rfl ?_
         refine V_y (Y_pick_fe rfl hc255 rfl) rfl rfl rfl ?_
         exact V_end fun a ha => ⟨(), ha.sub ⟨rfl, rfl, rfl, rfl, rfl, rfl, rfl, rfl, (by rw [hc255]; rfl), trivial⟩, rfl⟩
       simp only [List.take, List.drop]
       rintro _ _ rfl
       refine V_to (fun _ _ => rfl) ?_
       obtain ⟨s258, ho257, ho75⟩ := Option.bind_eq_some_iff.1 ho75
       refine C_cutG (ι := (Value × (Nat → Prop))) (fun ⟨v260, A265⟩ => [(2, .int .i64 most), (3, .pointer (some ⟨b9, 0, none⟩)), (4, .pointer (some ⟨b15, 0, none⟩)), (11, v260), (41, v46), (42, .int .i64 (x.ids.length : Int)), (43, .int .i64 (k52 : Int))]) (fun ⟨v260, A265⟩ => fun w' => Hp w.heap.size A265 w' (obC b89 [.int .i64 s102.2.2.id_, .int .i64 s102.2.2.score] 35 :: obS (α := know_Hit) 35 v260 s258 :: []) ∧ Tr False w.heap.size A108 w105 A265 w') ?_ ?_
       ·have hr259 : Tr False w.heap.size A108 w105 A108 w105 := Tr.refl (Dw := False) hA
        refine C_cond rfl (fun hc267 => ?_) (fun hc267 => ?_)
        ·rw [if_pos hc267] at ho257
         refine C_region ?_
         refine V_mv rfl rfl ?_
         refine V_y (Y_loadA (Hp.part (off := 0) (n := 2) (ds := [.int .i64 s102.2.2.id_, .int .i64 s102.2.2.score]) hH (i := 0) rfl rfl) Tryz.isAgg35 Tryz.sizeOf35 rfl) rfl rfl rfl ?_
         refine V_buildSlice (Dw := False) (cells := #[.int .i64 s102.2.2.id_, .int .i64 s102.2.2.score]) (l := ([s102.2.2] : List know_Hit)) (len := 1) Tryz.underlying29 Tryz.sizeOf35 Tryz.zeroValue35 rfl (by kernel_rfl) (show (1 * 2 : Nat) ≠ 0 by decide) (show (1 * 2 : Nat) ≤ 2 ^ 24 by decide) hA ⟨[.int .i64 s102.2.2.id_, .int .i64 s102.2.2.score], _, rfl, ⟨[.int .i64 s102.2.2.id_], _, rfl, rfl, rfl⟩, rfl⟩ rfl rfl ?_
         intro v268 w269 hk271 h270
         have ht272 := Kp.tr (Dw := False) hk271 hA hB
         replace hH := Hp.kp (Dw := False) hH hk271
         replace hr259 := Tr.trans (Dw := False) hr259 ht272
         replace hB := Nat.le_trans hB ht272.ex.size
         replace hA := ht272.new
         obtain ⟨x273, hx273, ho257⟩ := Option.bind_eq_some_iff.1 ho257
         refine V_appendH (Dw := False) (e := 35) (v := v62) (l := s60) (ti := Tryz.t35) (bytes := 16) (lim := 8796093022208) hH (i := 1) rfl h270 hx273 Tryz.underlying29 Tryz_info35 rfl rfl rfl rfl (by decide) (by decide) (by decide) hB hA rfl rfl rfl ?_
         intro v274 w275 A276 hH277 ht278
         replace hr259 := Tr.trans (Dw := False) hr259 ht278
         replace hH : Hp w.heap.size A276 w275 (obC b89 [.int .i64 s102.2.2.id_, .int .i64 s102.2.2.score] 35 :: obS (α := know_Hit) 35 v274 x273 :: []) := hH277
         refine V_as rfl rfl ?_
         obtain rfl := Option.some.inj ho257
         refine V_end (fun a ha279 => ?_)
         exact ⟨(v274, A276), ha279.sub ⟨rfl, rfl, rfl, rfl, rfl, rfl, rfl, trivial⟩, ⟨hH, hr259⟩⟩
        ·rw [if_neg (nt hc267)] at ho257
         obtain rfl := Option.some.inj ho257
         refine C_skip (fun a ha280 => ?_)
         exact ⟨(v62, A108), ha280.sub ⟨rfl, rfl, rfl, rfl, rfl, rfl, rfl, trivial⟩, ⟨hH, hr259⟩⟩
       rintro ⟨v260, A265⟩ w262 ⟨hH266, hk263⟩ a ha264
       replace hr77 := Tr.trans (Dw := False) hr77 hk263
       replace hA := hk263.new
       replace hH : Hp w.heap.size A265 w262 (obC b89 [.int .i64 s102.2.2.id_, .int .i64 s102.2.2.score] 35 :: obS (α := know_Hit) 35 v260 s258 :: []) := hH266
       obtain rfl := Option.some.inj ho75
       replace hH : Hp w.heap.size A265 w262 (obS (α := know_Hit) 35 v260 s258 :: obC b89 [.int .i64 s102.2.2.id_, .int .i64 s102.2.2.score] 35 :: []) := Hp.front hH (i := 1) rfl
       replace hH : Hp w.heap.size A265 w262 (obS (α := know_Hit) 35 v260 s258 :: []) := Hp.drop hH (i := 1) rfl
       exact ⟨(v260, A265), ha264.sub ⟨rfl, rfl, rfl, rfl, rfl, rfl, rfl, trivial⟩, ⟨hH, hr77⟩⟩
      rintro ⟨v78, A83⟩ w80 ⟨hH84, hk81⟩ a ha82
      replace hr51 := Tr.trans (Dw := False) hr51 hk81
      replace hA := hk81.new
      replace hH : Hp w.heap.size A83 w80 (obS (α := know_Hit) 35 v78 s76 :: []) := hH84
      refine C_at (n := ⟨98, [], none⟩) (fun _ _ => rfl) ?_ ha82
      refine C_region ?_
      refine V_y (Y_addI rfl rfl) rfl rfl rfl ?_
      refine V_mv rfl rfl ?_
      obtain rfl := Option.some.inj h67
      refine V_end (fun a ha282 => ?_)
      exact ⟨s76, hlt70, h68, ⟨(v78, A83), ha282.sub ⟨rfl, rfl, rfl, rfl, rfl, rfl, (congrArg (fun z => some (Value.int .i64 z)) (w64_succ hlt70 hn73)), trivial⟩, ⟨hH, hr51⟩⟩⟩
     ·refine C_exit (fun a ha283 => ?_)
      exact ⟨(s60, v62, A64), ha283.sub ⟨rfl, rfl, trivial⟩, ⟨(h71 (eq_of_dec hle69 hc74)).symm, hH, hr51⟩⟩
    rintro ⟨s50, v56, A58⟩ w53 ⟨rfl, hH59, hk54⟩ a ha55
    rw [Lp.andThen_fin] at hm
    replace hK := Tr.trans (Dw := False) hK hk54
    replace hB := Nat.le_trans hB hk54.ex.size
    replace hA := hk54.new
    replace hH : Hp w.heap.size A58 w53 (obS (α := know_Hit) 35 v56 s50 :: []) := hH59
    refine C_at (n := ⟨98, [], none⟩) (fun _ _ => rfl) ?_ ha55
    refine C_seq ?_
    refine C_region ?_
    refine V_mv rfl rfl ?_
    refine V_mv rfl rfl ?_
    obtain ⟨x285, hx285, hm⟩ := Option.bind_eq_some_iff.1 hm
    refine V_call Tryz.call21 rfl rfl rfl rfl (portref2_ranked_c (Dw := False) w53 hB hA s50 v56 most hH hx285) ?_
    rintro v286 w288 ⟨_, A289, rfl, h287, hH290, ht291⟩
    replace hK := Tr.trans (Dw := False) hK ht291
    replace hH : Hp w.heap.size A289 w288 ([]) := hH290
    refine V_as rfl rfl ?_
    refine V_as rfl rfl ?_
    refine V_to (fun _ _ => rfl) ?_
    obtain rfl := Option.some.inj hm
    refine C_ret ?_
    try simp only [↓inBlock_ret, ↓then_ret]
    exact retQ rfl (Res.two Tryz.results5 rfl rfl) ⟨v286, rfl, (Sl.out (Dw := False) h287 hA0 hK), hK.kp⟩

end Go.Proofs.YtkjlbaacbkdnfaaGreatDoor.W
