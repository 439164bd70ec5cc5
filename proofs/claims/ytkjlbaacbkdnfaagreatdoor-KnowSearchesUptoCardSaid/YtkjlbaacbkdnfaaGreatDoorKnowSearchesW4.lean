/-
  Written by program (gen.py) from the IR of the dump: each function computes its model.
-/
import Derived.Test.YtkjlbaacbkdnfaaGreatDoorKnowSearchesW3
namespace Go.Proofs.YtkjlbaacbkdnfaaGreatDoor.W
open Go Go.RowKit Go.Pu Go.Gw Go.Proofs Go.Proofs.YtkjlbaacbkdnfaaGreatDoor.M
set_option linter.unusedVariables false
set_option linter.unusedSimpArgs false
variable {Dw : Prop}

set_option maxRecDepth 4000 in
set_option maxHeartbeats 4000000 in
theorem portref2_IndexFault_c (w : World) {A : Nat → Prop} (hA : ∀ b, w.heap.size ≤ b → A b) (x : know_Index) (v_x0 : Value) (h_x0 : Sl A w v_x0 x.ids) (v_x1 : Value) (h_x1 : Sl A w v_x1 x.sizes) (v_x2 : Value) (h_x2 : Sl A w v_x2 x.terms) {r : Int} (hm : portref2_IndexFault x = some r) : Ret Tryz.prog 16 #[.agg #[v_x0, v_x1, v_x2]] w fun v w' => v = .int .i64 r ∧ Kp Dw w w' := by
 unfold portref2_IndexFault at hm
 refine enter Tryz.func16 rfl Tryz.ntmps16 rfl ?_
 have hA0 := hA
 have hB := Nat.le_refl w.heap.size
 have hK : Tr Dw w.heap.size A w A w := Tr.refl (Dw := Dw) hA
 have hH : Hp w.heap.size A w [] := Hp.nil
 refine C_seq ?_
 refine C_region ?_
 refine V_box rfl rfl ?_
 intro b7 w9 h10
 have hk12 := h10.kp (Dw := Dw)
 have h11 : El (α := know_Index) A w9 b7 0 x := h10.el hA ⟨[v_x0], _, rfl, ⟨_, rfl, h_x0⟩, ⟨[v_x1], _, rfl, ⟨_, rfl, h_x1⟩, ⟨_, rfl, h_x2⟩⟩⟩
 have ht13 := Kp.tr hk12 hA hB
 replace hH := Hp.kp hH hk12
 replace hK := Tr.trans hK ht13
 replace hB := Nat.le_trans hB ht13.ex.size
 replace hA := ht13.new
 refine V_as rfl rfl ?_
 refine V_to (fun _ _ => rfl) ?_
 refine C_seq ?_
 refine C_seq ?_
 refine C_region ?_
 have h14 := El_know_Index_0 h11
 refine V_y (Y_fieldAddr Tryz.underlying25 rfl Tryz.sizeOf22 (by decide) rfl) rfl rfl rfl ?_
 obtain ⟨v15, h16, h17⟩ := El.list h14
 refine V_y (Y_load h16 Tryz.isAgg22 rfl) rfl rfl rfl ?_
 refine V_y (Y_lenSl h17 rfl Tryz.underlying22 rfl) rfl rfl rfl ?_
 refine V_y (Y_gtr rfl rfl) rfl rfl rfl ?_
 refine V_to (fun _ _ => rfl) ?_
 refine C_cond rfl (fun hc18 => ?_) (fun hc18 => ?_)
 ·rw [if_pos hc18] at hm
  refine C_seq ?_
  refine C_region ?_
  refine V_as rfl rfl ?_
  refine V_to (fun _ _ => rfl) ?_
  obtain rfl := Option.some.inj hm
  refine C_ret ?_
  try simp only [↓inBlock_ret, ↓then_ret]
  exact retQ rfl (Res.one Tryz.results16 rfl) ⟨rfl, hK.kp⟩
 ·rw [if_neg (nt hc18)] at hm
  refine C_skip_to (fun _ _ => rfl) ?_
  refine C_seq ?_
  refine C_seq ?_
  refine C_region ?_
  have h19 := El_know_Index_1 h11
  refine V_y (Y_fieldAddr Tryz.underlying25 rfl Tryz.sizeOf22 (by decide) rfl) rfl rfl rfl ?_
  obtain ⟨v20, h21, h22⟩ := El.list h19
  refine V_y (Y_load h21 Tryz.isAgg22 rfl) rfl rfl rfl ?_
  refine V_y (Y_lenSl h22 rfl Tryz.underlying22 rfl) rfl rfl rfl ?_
  have h23 := El_know_Index_0 h11
  refine V_y (Y_fieldAddr Tryz.underlying25 rfl Tryz.sizeOf22 (by decide) rfl) rfl rfl rfl ?_
  obtain ⟨v24, h25, h26⟩ := El.list h23
  refine V_y (Y_load h25 Tryz.isAgg22 rfl) rfl rfl rfl ?_
  refine V_y (Y_lenSl h26 rfl Tryz.underlying22 rfl) rfl rfl rfl ?_
  refine V_y (Y_neq rfl rfl) rfl rfl rfl ?_
  refine V_to (fun _ _ => rfl) ?_
  refine C_cond rfl (fun hc27 => ?_) (fun hc27 => ?_)
  ·rw [if_pos hc27] at hm
   refine C_seq ?_
   refine C_region ?_
   refine V_as rfl rfl ?_
   refine V_to (fun _ _ => rfl) ?_
   obtain rfl := Option.some.inj hm
   refine C_ret ?_
   try simp only [↓inBlock_ret, ↓then_ret]
   exact retQ rfl (Res.one Tryz.results16 rfl) ⟨rfl, hK.kp⟩
  ·rw [if_neg (nt hc27)] at hm
   refine C_skip_to (fun _ _ => rfl) ?_
   refine C_seq ?_
   refine C_seq ?_
   refine C_region ?_
   have h28 := El_know_Index_0 h11
   refine V_y (Y_fieldAddr Tryz.underlying25 rfl Tryz.sizeOf22 (by decide) rfl) rfl rfl rfl ?_
   obtain ⟨v29, h30, h31⟩ := El.list h28
   refine V_y (Y_load h30 Tryz.isAgg22 rfl) rfl rfl rfl ?_
   refine V_y (Y_lenSl h31 rfl Tryz.underlying22 rfl) rfl rfl rfl ?_
   refine V_mv rfl rfl ?_
   refine V_to (fun _ _ => rfl) ?_
   have hn48 := Sl.le h31
   obtain ⟨o32, ho32, hm⟩ := Option.bind_eq_some_iff.1 hm
   refine C_cutG (ι := Unit) (fun (s33 : Unit) => [(1, .pointer (some ⟨b7, 0, none⟩))]) (fun (s33 : Unit) => fun w' => o32 = .fin s33 ∧ w9 = w') ?_ ?_
   ·refine C_block ?_
    refine C_range ho32 (fun k35 _ a w' => ∃ i : Unit, Has ⟨174, [], none⟩ a ([(1, .pointer (some ⟨b7, 0, none⟩)), (26, v29), (27, .int .i64 (x.ids.length : Int)), (28, .int .i64 (k35 : Int))]) ∧ w9 = w') (fun a ha => ⟨(), ha.sub ⟨rfl, rfl, rfl, rfl, trivial⟩, rfl⟩) ?_
    rintro K k35 _ a _ ⟨_, ha88, rfl⟩ hle44 K47 h46
    refine C_of ?_ ha88
    refine C_seq (C_region (V_y (Y_lss rfl rfl) rfl rfl rfl (V_to (fun _ _ => rfl) ?_)))
    refine C_seq ?_
    refine C_cond rfl (fun hc49 => ?_) (fun hc49 => ?_)
    ·have hlt45 := lt_of_dec hc49
     obtain ⟨x41, h42, h43⟩ := K47 hlt45
     refine C_skip_to (fun _ _ => rfl) ?_
     refine C_seq ?_
     refine C_block ?_
     refine C_seq ?_
     refine C_region ?_
     refine V_mv rfl rfl ?_
     obtain ⟨x50, hx50, h42⟩ := Option.bind_eq_some_iff.1 h42
     refine V_indexAddr h31 hx50 Tryz.underlying22 Tryz.sizeOf3 rfl rfl rfl ?_
     intro b51 o52 h53
     refine V_y (Y_load (El.int h53) Tryz.isAgg3 rfl) rfl rfl rfl ?_
     refine V_as rfl rfl ?_
     refine V_as rfl rfl ?_
     refine V_to (fun _ _ => rfl) ?_
     refine C_block ?_
     refine C_seq ?_
     refine C_region ?_
     refine V_mv rfl rfl ?_
     refine V_y (Y_lss rfl rfl) rfl rfl rfl ?_
     refine V_mv rfl rfl ?_
     refine V_cut 3 (fun _ : Unit => [(1, .pointer (some ⟨b7, 0, none⟩)), (3, .int .i64 (k35 : Int)), (4, .int .i64 x50), (26, v29), (27, .int .i64 (x.ids.length : Int)), (28, .int .i64 (k35 : Int)), (39, .bool ((decide (x50 < 1)) || (decide ((3000000 : Int) < x50))))]) (fun _ w' => w9 = w') ?_ ?_
     ·simp only [List.take, List.drop]
      rcases Bool.eq_false_or_eq_true (decide (x50 < 1)) with hc54 | hc54
      ·refine V_gn rfl rfl rfl hc54 rfl rfl rfl ?_
       refine V_gn rfl rfl rfl hc54 rfl rfl rfl ?_
       refine V_y (Y_pick_te rfl hc54 rfl) rfl rfl rfl ?_
       exact V_end fun a ha => ⟨(), ha.sub ⟨rfl, rfl, rfl, rfl, rfl, rfl, (by rw [hc54]; rfl), trivial⟩, rfl⟩
      ·refine V_ge rfl rfl rfl hc54 ?_
       refine V_mv rfl rfl ?_
       refine V_ge rfl rfl rfl hc54 ?_
       refine V_y (Y_gtr rfl rfl) rfl rfl rfl ?_
       refine V_y (Y_pick_fe rfl hc54 rfl) rfl rfl rfl ?_
       exact V_end fun a ha => ⟨(), ha.sub ⟨rfl, rfl, rfl, rfl, rfl, rfl, (by rw [hc54]; rfl), trivial⟩, rfl⟩
     simp only [List.take, List.drop]
     rintro _ _ rfl
     refine V_as rfl rfl ?_
     refine V_to (fun _ _ => rfl) ?_
     refine C_cond rfl (fun hc56 => ?_) (fun hc56 => ?_)
     ·rw [if_pos hc56] at h42
      refine C_seq ?_
      refine C_region ?_
      refine V_as rfl rfl ?_
      refine V_to (fun _ _ => rfl) ?_
      obtain rfl := Option.some.inj h42
      obtain rfl := (h43 : Lp.rt _ = _)
      rw [Lp.andThen_rt] at hm
      obtain rfl := Option.some.inj hm
      refine C_ret ?_
      try simp only [↓inBlock_ret, ↓then_ret]
      exact retQ rfl (Res.one Tryz.results16 rfl) ⟨rfl, hK.kp⟩
     ·rw [if_neg (nt hc56)] at h42
      refine C_seq ?_
      refine C_region ?_
      refine V_mv rfl rfl ?_
      refine V_y (Y_gtr rfl rfl) rfl rfl rfl ?_
      refine V_mv rfl rfl ?_
      obtain ⟨s58, hs58, h42⟩ := Option.bind_eq_some_iff.1 h42
      refine V_cut 9 (fun _ : Unit => [(1, .pointer (some ⟨b7, 0, none⟩)), (3, .int .i64 (k35 : Int)), (26, v29), (27, .int .i64 (x.ids.length : Int)), (28, .int .i64 (k35 : Int)), (52, .bool s58)]) (fun _ w' => w9 = w') ?_ ?_
      ·simp only [List.take, List.drop]
       rcases Bool.eq_false_or_eq_true (decide ((0 : Int) < (k35 : Int))) with hc57 | hc57
       ·rw [if_pos hc57] at hs58
        refine V_ge rfl rfl rfl hc57 ?_
        refine V_mv rfl rfl ?_
        refine V_ge rfl rfl rfl hc57 ?_
        have h59 := El_know_Index_0 h11
        refine V_y (Y_fieldAddr Tryz.underlying25 rfl Tryz.sizeOf22 (by decide) rfl) rfl rfl rfl ?_
        refine V_ge rfl rfl rfl hc57 ?_
        obtain ⟨v60, h61, h62⟩ := El.list h59
        refine V_y (Y_load h61 Tryz.isAgg22 rfl) rfl rfl rfl ?_
        refine V_ge rfl rfl rfl hc57 ?_
        refine V_mv rfl rfl ?_
        refine V_ge rfl rfl rfl hc57 ?_
        refine V_y (Y_subI rfl rfl) rfl rfl rfl ?_
        refine V_ge rfl rfl rfl hc57 ?_
        obtain ⟨x63, hx63, hs58⟩ := Option.bind_eq_some_iff.1 hs58
        refine V_indexAddr h62 hx63 Tryz.underlying22 Tryz.sizeOf3 rfl rfl rfl ?_
        intro b64 o65 h66
        refine V_ge rfl rfl rfl hc57 ?_
        refine V_y (Y_load (El.int h66) Tryz.isAgg3 rfl) rfl rfl rfl ?_
        refine V_ge rfl rfl rfl hc57 ?_
        refine V_y (Y_leq rfl rfl) rfl rfl rfl ?_
        refine V_y (Y_pick_te rfl hc57 rfl) rfl rfl rfl ?_
        obtain rfl := Option.some.inj hs58
        exact V_end fun a ha => ⟨(), ha.sub ⟨rfl, rfl, rfl, rfl, rfl, rfl, trivial⟩, rfl⟩
       ·rw [if_neg (nt hc57)] at hs58
        refine V_gn rfl rfl rfl hc57 rfl rfl rfl ?_
        refine V_gn rfl rfl rfl hc57 rfl rfl rfl ?_
        refine V_gn rfl rfl rfl hc57 rfl rfl rfl ?_
        refine V_gn rfl rfl rfl hc57 rfl rfl rfl ?_
        refine V_gn rfl rfl rfl hc57 rfl rfl rfl ?_
        refine V_gn rfl rfl rfl hc57 rfl rfl rfl ?_
        refine V_gn rfl rfl rfl hc57 rfl rfl rfl ?_
        refine V_gn rfl rfl rfl hc57 rfl rfl rfl ?_
        refine V_y (Y_pick_fe rfl hc57 rfl) rfl rfl rfl ?_
        obtain rfl := Option.some.inj hs58
        exact V_end fun a ha => ⟨(), ha.sub ⟨rfl, rfl, rfl, rfl, rfl, rfl, trivial⟩, rfl⟩
      simp only [List.take, List.drop]
      rintro _ _ rfl
      refine V_as rfl rfl ?_
      refine V_to (fun _ _ => rfl) ?_
      refine C_cond rfl (fun hc67 => ?_) (fun hc67 => ?_)
      ·rw [if_pos hc67] at h42
       refine C_seq ?_
       refine C_region ?_
       refine V_as rfl rfl ?_
       refine V_to (fun _ _ => rfl) ?_
       obtain rfl := Option.some.inj h42
       obtain rfl := (h43 : Lp.rt _ = _)
       rw [Lp.andThen_rt] at hm
       obtain rfl := Option.some.inj hm
       refine C_ret ?_
       try simp only [↓inBlock_ret, ↓then_ret]
       exact retQ rfl (Res.one Tryz.results16 rfl) ⟨rfl, hK.kp⟩
      ·rw [if_neg (nt hc67)] at h42
       refine C_seq ?_
       refine C_region ?_
       have h68 := El_know_Index_1 h11
       refine V_y (Y_fieldAddr Tryz.underlying25 rfl Tryz.sizeOf22 (by decide) rfl) rfl rfl rfl ?_
       obtain ⟨v69, h70, h71⟩ := El.list h68
       refine V_y (Y_load h70 Tryz.isAgg22 rfl) rfl rfl rfl ?_
       refine V_mv rfl rfl ?_
       obtain ⟨x72, hx72, h42⟩ := Option.bind_eq_some_iff.1 h42
       refine V_indexAddr h71 hx72 Tryz.underlying22 Tryz.sizeOf3 rfl rfl rfl ?_
       intro b73 o74 h75
       refine V_y (Y_load (El.int h75) Tryz.isAgg3 rfl) rfl rfl rfl ?_
       refine V_y (Y_lss rfl rfl) rfl rfl rfl ?_
       refine V_mv rfl rfl ?_
       obtain ⟨s77, hs77, h42⟩ := Option.bind_eq_some_iff.1 h42
       refine V_cut 7 (fun _ : Unit => [(1, .pointer (some ⟨b7, 0, none⟩)), (26, v29), (27, .int .i64 (x.ids.length : Int)), (28, .int .i64 (k35 : Int)), (67, .bool s77)]) (fun _ w' => w9 = w') ?_ ?_
       ·simp only [List.take, List.drop]
        rcases Bool.eq_false_or_eq_true (decide (x72 < 0)) with hc76 | hc76
        ·rw [if_pos hc76] at hs77
         refine V_gn rfl rfl rfl hc76 rfl rfl rfl ?_
         refine V_gn rfl rfl rfl hc76 rfl rfl rfl ?_
         refine V_gn rfl rfl rfl hc76 rfl rfl rfl ?_
         refine V_gn rfl rfl rfl hc76 rfl rfl rfl ?_
         refine V_gn rfl rfl rfl hc76 rfl rfl rfl ?_
         refine V_gn rfl rfl rfl hc76 rfl rfl rfl ?_
         refine V_y (Y_pick_te rfl hc76 rfl) rfl rfl rfl ?_
         obtain rfl := Option.some.inj hs77
         exact V_end fun a ha => ⟨(), ha.sub ⟨rfl, rfl, rfl, rfl, rfl, trivial⟩, rfl⟩
        ·rw [if_neg (nt hc76)] at hs77
         refine V_ge rfl rfl rfl hc76 ?_
         have h78 := El_know_Index_1 h11
         refine V_y (Y_fieldAddr Tryz.underlying25 rfl Tryz.sizeOf22 (by decide) rfl) rfl rfl rfl ?_
         refine V_ge rfl rfl rfl hc76 ?_
         obtain ⟨v79, h80, h81⟩ := El.list h78
         refine V_y (Y_load h80 Tryz.isAgg22 rfl) rfl rfl rfl ?_
         refine V_ge rfl rfl rfl hc76 ?_
         refine V_mv rfl rfl ?_
         refine V_ge rfl rfl rfl hc76 ?_
         refine V_indexAddr h81 hx72 Tryz.underlying22 Tryz.sizeOf3 rfl rfl rfl ?_
         intro b82 o83 h84
         refine V_ge rfl rfl rfl hc76 ?_
         refine V_y (Y_load (El.int h84) Tryz.isAgg3 rfl) rfl rfl rfl ?_
         refine V_ge rfl rfl rfl hc76 ?_
         refine V_y (Y_gtr rfl rfl) rfl rfl rfl ?_
         refine V_y (Y_pick_fe rfl hc76 rfl) rfl rfl rfl ?_
         obtain rfl := Option.some.inj hs77
         exact V_end fun a ha => ⟨(), ha.sub ⟨rfl, rfl, rfl, rfl, rfl, trivial⟩, rfl⟩
       simp only [List.take, List.drop]
       rintro _ _ rfl
       refine V_as rfl rfl ?_
       refine V_to (fun _ _ => rfl) ?_
       refine C_cond rfl (fun hc85 => ?_) (fun hc85 => ?_)
       ·rw [if_pos hc85] at h42
        refine C_seq ?_
        refine C_region ?_
        refine V_as rfl rfl ?_
        refine V_to (fun _ _ => rfl) ?_
        obtain rfl := Option.some.inj h42
        obtain rfl := (h43 : Lp.rt _ = _)
        rw [Lp.andThen_rt] at hm
        obtain rfl := Option.some.inj hm
        refine C_ret ?_
        try simp only [↓inBlock_ret, ↓then_ret]
        exact retQ rfl (Res.one Tryz.results16 rfl) ⟨rfl, hK.kp⟩
       ·rw [if_neg (nt hc85)] at h42
        refine C_skip_to (fun _ _ => rfl) ?_
        refine C_region ?_
        refine V_y (Y_addI rfl rfl) rfl rfl rfl ?_
        refine V_mv rfl rfl ?_
        obtain rfl := Option.some.inj h42
        refine V_end (fun a ha86 => ?_)
        exact ⟨(), hlt45, h43, ⟨(), ha86.sub ⟨rfl, rfl, rfl, (congrArg (fun z => some (Value.int .i64 z)) (w64_succ hlt45 hn48)), trivial⟩, rfl⟩⟩
    ·refine C_exit (fun a ha87 => ?_)
     exact ⟨(), ha87.sub ⟨rfl, trivial⟩, ⟨(h46 (eq_of_dec hle44 hc49)).symm, rfl⟩⟩
   rintro s33 _ ⟨rfl, rfl⟩ a ha38
   rw [Lp.andThen_fin] at hm
   refine C_at (n := ⟨174, [], none⟩) (fun _ _ => rfl) ?_ ha38
   refine C_seq ?_
   refine C_seq ?_
   refine C_region ?_
   have h89 := El_know_Index_2 h11
   refine V_y (Y_fieldAddr Tryz.underlying25 rfl Tryz.sizeOf23 (by decide) rfl) rfl rfl rfl ?_
   obtain ⟨v90, h91, h92⟩ := El.list h89
   refine V_y (Y_load h91 Tryz.isAgg23 rfl) rfl rfl rfl ?_
   refine V_y (Y_lenSl h92 rfl Tryz.underlying23 rfl) rfl rfl rfl ?_
   refine V_mv rfl rfl ?_
   refine V_to (fun _ _ => rfl) ?_
   have hn113 := Sl.le h92
   obtain ⟨o93, ho93, hm⟩ := Option.bind_eq_some_iff.1 hm
   refine C_cutG (ι := (Unit × (Nat → Prop))) (fun ⟨s94, A100⟩ => []) (fun ⟨s94, A100⟩ => fun w' => o93 = .fin s94 ∧ Hp w.heap.size A100 w' ([]) ∧ Tr Dw w.heap.size A w9 A100 w') ?_ ?_
   ·refine C_block ?_
    refine C_range ho93 (fun k96 _ a w' => ∃ i : (Nat → Prop), Has ⟨174, [], none⟩ a ([(1, .pointer (some ⟨b7, 0, none⟩)), (70, v90), (71, .int .i64 (x.terms.length : Int)), (72, .int .i64 (k96 : Int))]) ∧ Hp w.heap.size i w' ([]) ∧ Tr Dw w.heap.size A w9 i w') (fun a ha => ⟨A, ha.sub ⟨rfl, rfl, rfl, rfl, trivial⟩, ⟨hH, Tr.refl (Dw := Dw) hA⟩⟩) ?_
    rintro K k96 _ a w103 ⟨A104, ha337, hH105, hr95⟩ hle109 K112 h111
    refine C_of ?_ ha337
    replace h11 := El.tr h11 hr95
    replace h92 := Sl.tr h92 hr95
    replace hK := Tr.trans hK hr95
    replace hB := Nat.le_trans hB hr95.ex.size
    replace hA := hr95.new
    replace hH : Hp w.heap.size A104 w103 ([]) := hH105
    refine C_seq (C_region (V_y (Y_lss rfl rfl) rfl rfl rfl (V_to (fun _ _ => rfl) ?_)))
    refine C_seq ?_
    refine C_cond rfl (fun hc114 => ?_) (fun hc114 => ?_)
    ·have hlt110 := lt_of_dec hc114
     obtain ⟨x106, h107, h108⟩ := K112 hlt110
     refine C_skip_to (fun _ _ => rfl) ?_
     refine C_seq ?_
     obtain ⟨o115, ho115, h107⟩ := Option.bind_eq_some_iff.1 h107
     refine C_cutG (ι := (Unit × (Nat → Prop))) (fun ⟨s116, A121⟩ => [(1, .pointer (some ⟨b7, 0, none⟩)), (70, v90), (71, .int .i64 (x.terms.length : Int)), (72, .int .i64 (k96 : Int))]) (fun ⟨s116, A121⟩ => fun w' => o115 = .fin s116 ∧ Hp w.heap.size A121 w' ([]) ∧ Tr Dw w.heap.size A104 w103 A121 w') ?_ ?_
     ·have hr117 : Tr Dw w.heap.size A104 w103 A104 w103 := Tr.refl (Dw := Dw) hA
      refine C_block ?_
      refine C_seq ?_
      refine C_region ?_
      refine V_mv rfl rfl ?_
      obtain ⟨x123, hx123, ho115⟩ := Option.bind_eq_some_iff.1 ho115
      refine V_indexAddr h92 hx123 Tryz.underlying23 Tryz.sizeOf51 rfl rfl rfl ?_
      intro b124 o125 h126
      obtain ⟨v127, h129, h128⟩ := El_know_Term h126
      refine V_y (Y_loadA h129 Tryz.isAgg51 Tryz.sizeOf51 rfl) rfl rfl rfl ?_
      refine V_alloc Tryz.zeroValue51 rfl ?_
      intro b130 w131 h132
      refine V_as rfl rfl ?_
      have h137 : (v127).oneCell' = true := by obtain ⟨_, _, e, _⟩ := Sl.form h128; rw [e]; rfl
      refine V_storeNew h132 Tryz.sizeOf51 rfl rfl rfl rfl (by exact (List.forall_mem_cons.2 ⟨rfl, (List.forall_mem_cons.2 ⟨h137, (fun _ h => nomatch h)⟩)⟩)) ?_
      intro w133 h134
      have hk139 := h134.kp (Dw := Dw)
      have h138 : El (α := know_Term) A104 w133 b130 0 x123 := h134.el hA ⟨[.string x123.word], _, rfl, rfl, ⟨_, rfl, h128⟩⟩
      have ht140 := Kp.tr hk139 hA hB
      replace hH := Hp.kp hH hk139
      replace h11 := El.tr h11 ht140
      replace hK := Tr.trans hK ht140
      replace hr117 := Tr.trans hr117 ht140
      replace hB := Nat.le_trans hB ht140.ex.size
      replace hA := ht140.new
      refine V_to (fun _ _ => rfl) ?_
      refine C_seq ?_
      refine C_seq ?_
      refine C_region ?_
      have h141 := El_know_Term_0 h138
      refine V_y (Y_fieldAddr Tryz.underlying51 rfl Tryz.sizeOf9 (by decide) rfl) rfl rfl rfl ?_
      refine V_y (Y_load (El.str h141) Tryz.isAgg9 rfl) rfl rfl rfl ?_
      obtain ⟨x142, hx142, ho115⟩ := Option.bind_eq_some_iff.1 ho115
      refine V_call Tryz.call39 rfl rfl rfl rfl (portref2_WordsOf_c (Dw := Dw) w133 hA x123.word hx142) ?_
      rintro v143 w145 ⟨_, rfl, h144, hk146⟩
      obtain ⟨A147, ht148, hH149⟩ := Hp.addOwnd (Dw := Dw) hH hB hA hk146 h144
      replace h11 := El.tr h11 ht148
      replace h138 := El.tr h138 ht148
      replace hK := Tr.trans hK ht148
      replace hr117 := Tr.trans hr117 ht148
      replace hB := Nat.le_trans hB ht148.ex.size
      replace hA := ht148.new
      replace hH : Hp w.heap.size A147 w145 (obS (α := ByteArray) 9 v143 x142 :: []) := hH149
      refine V_as rfl rfl ?_
      refine V_to (fun _ _ => rfl) ?_
      refine C_seq ?_
      refine C_region_q (Dw := Dw) Tryz_mixed (by kernel_rfl) ?_
      refine VQ_y (fun w' hw' => Y_move rfl) rfl rfl rfl ?_
      refine VQ_y (fun w' hw' => Y_lenSl (Hp.any (α := ByteArray) (e := 9) (v := v143) (l := x142) hH (i := 0) rfl) rfl Tryz.underlying42 rfl) rfl rfl rfl ?_
      refine VQ_y (fun w' hw' => Y_neq rfl rfl) rfl rfl rfl ?_
      refine VQ_y (fun w' hw' => Y_move rfl) rfl rfl rfl ?_
      obtain ⟨s151, hs151, ho115⟩ := Option.bind_eq_some_iff.1 ho115
      refine VQ_cut 7 (fun _ : Unit => [(1, .pointer (some ⟨b7, 0, none⟩)), (5, .int .i64 (k96 : Int)), (6, .pointer (some ⟨b130, 0, none⟩)), (70, v90), (71, .int .i64 (x.terms.length : Int)), (72, .int .i64 (k96 : Int)), (90, .bool s151)]) (fun _ => True) ?_ ?_
      ·simp only [List.take, List.drop]
       rcases Bool.eq_false_or_eq_true ((x142.length : Int) != 1) with hc150 | hc150
       ·rw [if_pos hc150] at hs151
        refine VQ_gn rfl rfl rfl hc150 rfl rfl rfl ?_
        refine VQ_gn rfl rfl rfl hc150 rfl rfl rfl ?_
        refine VQ_gn rfl rfl rfl hc150 rfl rfl rfl ?_
        refine VQ_gn rfl rfl rfl hc150 rfl rfl rfl ?_
        refine VQ_gn rfl rfl rfl hc150 rfl rfl rfl ?_
        refine VQ_gn rfl rfl rfl hc150 rfl rfl rfl ?_
        refine VQ_y (fun _ _ => Y_pick_te rfl hc150 rfl) rfl rfl rfl ?_
        obtain rfl := Option.some.inj hs151
        exact VQ_end fun a ha => ⟨(), ha.sub ⟨rfl, rfl, rfl, rfl, rfl, rfl, rfl, trivial⟩, trivial⟩
       ·rw [if_neg (nt hc150)] at hs151
        refine VQ_ge rfl rfl rfl hc150 ?_
        refine VQ_y (fun w' hw' => Y_move rfl) rfl rfl rfl ?_
        refine VQ_ge rfl rfl rfl hc150 ?_
        obtain ⟨x152, hx152, hs151⟩ := Option.bind_eq_some_iff.1 hs151
        refine VQ_indexAddrH (α := ByteArray) (e := 9) (v := v143) (l := x142) hH (i := 0) rfl hx152 Tryz.underlying42 Tryz.sizeOf9 rfl rfl rfl ?_
        intro b153 o154 h155 hl156
        refine VQ_ge rfl rfl rfl hc150 ?_
        refine VQ_y (fun w' hw' => Y_load (El.str (El.kp (Dw := Dw) h155 hw')) Tryz.isAgg9 rfl) rfl rfl rfl ?_
        refine VQ_ge rfl rfl rfl hc150 ?_
        have h157 := El_know_Term_0 h138
        refine VQ_y (fun w' hw' => Y_fieldAddr Tryz.underlying51 rfl Tryz.sizeOf9 (by decide) rfl) rfl rfl rfl ?_
        refine VQ_ge rfl rfl rfl hc150 ?_
        refine VQ_y (fun w' hw' => Y_load (El.str (El.kp (Dw := Dw) h157 hw')) Tryz.isAgg9 rfl) rfl rfl rfl ?_
        refine VQ_ge rfl rfl rfl hc150 ?_
        refine VQ_y (fun w' hw' => Y_sneq rfl rfl) rfl rfl rfl ?_
        refine VQ_y (fun _ _ => Y_pick_fe rfl hc150 rfl) rfl rfl rfl ?_
        obtain rfl := Option.some.inj hs151
        exact VQ_end fun a ha => ⟨(), ha.sub ⟨rfl, rfl, rfl, rfl, rfl, rfl, rfl, trivial⟩, trivial⟩
      simp only [List.take, List.drop]
      rintro _ _
      refine VQ_y (fun w' hw' => Y_move rfl) rfl rfl rfl ?_
      refine VQ_cut 5 (fun _ : Unit => [(1, .pointer (some ⟨b7, 0, none⟩)), (5, .int .i64 (k96 : Int)), (6, .pointer (some ⟨b130, 0, none⟩)), (70, v90), (71, .int .i64 (x.terms.length : Int)), (72, .int .i64 (k96 : Int)), (96, .bool (s151 || ((x123.list_.length : Int) == 0)))]) (fun _ => True) ?_ ?_
      ·simp only [List.take, List.drop]
       rcases Bool.eq_false_or_eq_true (s151) with hc158 | hc158
       ·refine VQ_gn rfl rfl rfl hc158 rfl rfl rfl ?_
        refine VQ_gn rfl rfl rfl hc158 rfl rfl rfl ?_
        refine VQ_gn rfl rfl rfl hc158 rfl rfl rfl ?_
        refine VQ_gn rfl rfl rfl hc158 rfl rfl rfl ?_
        refine VQ_y (fun _ _ => Y_pick_te rfl hc158 rfl) rfl rfl rfl ?_
        exact VQ_end fun a ha => ⟨(), ha.sub ⟨rfl, rfl, rfl, rfl, rfl, rfl, (by rw [hc158]; rfl), trivial⟩, trivial⟩
       ·refine VQ_ge rfl rfl rfl hc158 ?_
        have h160 := El_know_Term_1 h138
        refine VQ_y (fun w' hw' => Y_fieldAddr Tryz.underlying51 rfl Tryz.sizeOf49 (by decide) rfl) rfl rfl rfl ?_
        refine VQ_ge rfl rfl rfl hc158 ?_
        obtain ⟨v161, h162, h163⟩ := El.list h160
        refine VQ_y (fun w' hw' => Y_load ((World.cell?_of_block (hw'.block _ (World.block_lt_of_cell? _ _ h162))).trans h162) Tryz.isAgg49 rfl) rfl rfl rfl ?_
        refine VQ_ge rfl rfl rfl hc158 ?_
        refine VQ_y (fun w' hw' => Y_lenSl h163 rfl Tryz.underlying49 rfl) rfl rfl rfl ?_
        refine VQ_ge rfl rfl rfl hc158 ?_
        refine VQ_y (fun w' hw' => Y_eql rfl rfl) rfl rfl rfl ?_
        refine VQ_y (fun _ _ => Y_pick_fe rfl hc158 rfl) rfl rfl rfl ?_
        exact VQ_end fun a ha => ⟨(), ha.sub ⟨rfl, rfl, rfl, rfl, rfl, rfl, (by rw [hc158]; rfl), trivial⟩, trivial⟩
      simp only [List.take, List.drop]
      rintro _ _
      refine VQ_to (fun _ _ => rfl) (fun w164 hk165 => ?_)
      have ht166 := Kp.tr hk165 hA hB
      replace hH := Hp.kp hH hk165
      replace h11 := El.tr h11 ht166
      replace h138 := El.tr h138 ht166
      replace hK := Tr.trans hK ht166
      replace hr117 := Tr.trans hr117 ht166
      replace hB := Nat.le_trans hB ht166.ex.size
      replace hA := ht166.new
      refine C_cond rfl (fun hc167 => ?_) (fun hc167 => ?_)
      ·rw [if_pos hc167] at ho115
       refine C_seq ?_
       refine C_region ?_
       refine V_as rfl rfl ?_
       refine V_to (fun _ _ => rfl) ?_
       obtain rfl := Option.some.inj ho115
       rw [Lp.andThen_rt] at h107
       obtain rfl := Option.some.inj h107
       obtain rfl := (h108 : Lp.rt _ = _)
       rw [Lp.andThen_rt] at hm
       obtain rfl := Option.some.inj hm
       refine C_ret ?_
       try simp only [↓inBlock_ret, ↓then_ret]
       exact retQ rfl (Res.one Tryz.results16 rfl) ⟨rfl, hK.kp⟩
      ·rw [if_neg (nt hc167)] at ho115
       refine C_skip_to (fun _ _ => rfl) ?_
       refine C_seq ?_
       refine C_seq ?_
       refine C_region_q (Dw := Dw) Tryz_mixed (by kernel_rfl) ?_
       refine VQ_y (fun w' hw' => Y_move rfl) rfl rfl rfl ?_
       refine VQ_y (fun w' hw' => Y_gtr rfl rfl) rfl rfl rfl ?_
       refine VQ_y (fun w' hw' => Y_move rfl) rfl rfl rfl ?_
       obtain ⟨s169, hs169, ho115⟩ := Option.bind_eq_some_iff.1 ho115
       refine VQ_cut 11 (fun _ : Unit => [(1, .pointer (some ⟨b7, 0, none⟩)), (6, .pointer (some ⟨b130, 0, none⟩)), (70, v90), (71, .int .i64 (x.terms.length : Int)), (72, .int .i64 (k96 : Int)), (110, .bool s169)]) (fun _ => True) ?_ ?_
       ·simp only [List.take, List.drop]
        rcases Bool.eq_false_or_eq_true (decide ((0 : Int) < (k96 : Int))) with hc168 | hc168
        ·rw [if_pos hc168] at hs169
         refine VQ_ge rfl rfl rfl hc168 ?_
         have h170 := El_know_Term_0 h138
         refine VQ_y (fun w' hw' => Y_fieldAddr Tryz.underlying51 rfl Tryz.sizeOf9 (by decide) rfl) rfl rfl rfl ?_
         refine VQ_ge rfl rfl rfl hc168 ?_
         refine VQ_y (fun w' hw' => Y_load (El.str (El.kp (Dw := Dw) h170 hw')) Tryz.isAgg9 rfl) rfl rfl rfl ?_
         refine VQ_ge rfl rfl rfl hc168 ?_
         have h171 := El_know_Index_2 h11
         refine VQ_y (fun w' hw' => Y_fieldAddr Tryz.underlying25 rfl Tryz.sizeOf23 (by decide) rfl) rfl rfl rfl ?_
         refine VQ_ge rfl rfl rfl hc168 ?_
         obtain ⟨v172, h173, h174⟩ := El.list h171
         refine VQ_y (fun w' hw' => Y_load ((World.cell?_of_block (hw'.block _ (World.block_lt_of_cell? _ _ h173))).trans h173) Tryz.isAgg23 rfl) rfl rfl rfl ?_
         refine VQ_ge rfl rfl rfl hc168 ?_
         refine VQ_y (fun w' hw' => Y_move rfl) rfl rfl rfl ?_
         refine VQ_ge rfl rfl rfl hc168 ?_
         refine VQ_y (fun w' hw' => Y_subI rfl rfl) rfl rfl rfl ?_
         refine VQ_ge rfl rfl rfl hc168 ?_
         obtain ⟨x175, hx175, hs169⟩ := Option.bind_eq_some_iff.1 hs169
         refine VQ_indexAddr h174 hx175 Tryz.underlying23 Tryz.sizeOf51 rfl rfl rfl ?_
         intro b176 o177 h178
         refine VQ_ge rfl rfl rfl hc168 ?_
         have h179 := El_know_Term_0 h178
         refine VQ_y (fun w' hw' => Y_fieldAddr Tryz.underlying51 rfl Tryz.sizeOf9 (by decide) rfl) rfl rfl rfl ?_
         refine VQ_ge rfl rfl rfl hc168 ?_
         refine VQ_y (fun w' hw' => Y_load (El.str (El.kp (Dw := Dw) h179 hw')) Tryz.isAgg9 rfl) rfl rfl rfl ?_
         refine VQ_ge rfl rfl rfl hc168 ?_
         refine VQ_y (fun w' hw' => Y_sleq rfl rfl) rfl rfl rfl ?_
         refine VQ_y (fun _ _ => Y_pick_te rfl hc168 rfl) rfl rfl rfl ?_
         obtain rfl := Option.some.inj hs169
         exact VQ_end fun a ha => ⟨(), ha.sub ⟨rfl, rfl, rfl, rfl, rfl, rfl, trivial⟩, trivial⟩
        ·rw [if_neg (nt hc168)] at hs169
         refine VQ_gn rfl rfl rfl hc168 rfl rfl rfl ?_
         refine VQ_gn rfl rfl rfl hc168 rfl rfl rfl ?_
         refine VQ_gn rfl rfl rfl hc168 rfl rfl rfl ?_
         refine VQ_gn rfl rfl rfl hc168 rfl rfl rfl ?_
         refine VQ_gn rfl rfl rfl hc168 rfl rfl rfl ?_
         refine VQ_gn rfl rfl rfl hc168 rfl rfl rfl ?_
         refine VQ_gn rfl rfl rfl hc168 rfl rfl rfl ?_
         refine VQ_gn rfl rfl rfl hc168 rfl rfl rfl ?_
         refine VQ_gn rfl rfl rfl hc168 rfl rfl rfl ?_
         refine VQ_gn rfl rfl rfl hc168 rfl rfl rfl ?_
         refine VQ_y (fun _ _ => Y_pick_fe rfl hc168 rfl) rfl rfl rfl ?_
         obtain rfl := Option.some.inj hs169
         exact VQ_end fun a ha => ⟨(), ha.sub ⟨rfl, rfl, rfl, rfl, rfl, rfl, trivial⟩, trivial⟩
       simp only [List.take, List.drop]
       rintro _ _
       refine VQ_to (fun _ _ => rfl) (fun w180 hk181 => ?_)
       have ht182 := Kp.tr hk181 hA hB
       replace hH := Hp.kp hH hk181
       replace h11 := El.tr h11 ht182
       replace h138 := El.tr h138 ht182
       replace hK := Tr.trans hK ht182
       replace hr117 := Tr.trans hr117 ht182
       replace hB := Nat.le_trans hB ht182.ex.size
       replace hA := ht182.new
       refine C_cond rfl (fun hc183 => ?_) (fun hc183 => ?_)
       ·rw [if_pos hc183] at ho115
        refine C_seq ?_
        refine C_region ?_
        refine V_as rfl rfl ?_
        refine V_to (fun _ _ => rfl) ?_
        obtain rfl := Option.some.inj ho115
        rw [Lp.andThen_rt] at h107
        obtain rfl := Option.some.inj h107
        obtain rfl := (h108 : Lp.rt _ = _)
        rw [Lp.andThen_rt] at hm
        obtain rfl := Option.some.inj hm
        refine C_ret ?_
        try simp only [↓inBlock_ret, ↓then_ret]
        exact retQ rfl (Res.one Tryz.results16 rfl) ⟨rfl, hK.kp⟩
       ·rw [if_neg (nt hc183)] at ho115
        refine C_skip_to (fun _ _ => rfl) ?_
        refine C_seq ?_
        refine C_region ?_
        have h184 := El_know_Term_1 h138
        refine V_y (Y_fieldAddr Tryz.underlying51 rfl Tryz.sizeOf49 (by decide) rfl) rfl rfl rfl ?_
        obtain ⟨v185, h186, h187⟩ := El.list h184
        refine V_y (Y_load h186 Tryz.isAgg49 rfl) rfl rfl rfl ?_
        refine V_y (Y_lenSl h187 rfl Tryz.underlying49 rfl) rfl rfl rfl ?_
        refine V_mv rfl rfl ?_
        refine V_to (fun _ _ => rfl) ?_
        have hn208 := Sl.le h187
        obtain ⟨o188, ho188, ho115⟩ := Option.bind_eq_some_iff.1 ho115
        refine C_cutG (ι := (Unit × (Nat → Prop))) (fun ⟨s189, A195⟩ => [(1, .pointer (some ⟨b7, 0, none⟩)), (70, v90), (71, .int .i64 (x.terms.length : Int)), (72, .int .i64 (k96 : Int))]) (fun ⟨s189, A195⟩ => fun w' => o188 = .fin s189 ∧ Hp w.heap.size A195 w' (obS (α := ByteArray) 9 v143 x142 :: []) ∧ Tr Dw w.heap.size A147 w180 A195 w') ?_ ?_
        ·refine C_block ?_
         refine C_range ho188 (fun k191 _ a w' => ∃ i : (Nat → Prop), Has ⟨174, [], none⟩ a ([(1, .pointer (some ⟨b7, 0, none⟩)), (6, .pointer (some ⟨b130, 0, none⟩)), (70, v90), (71, .int .i64 (x.terms.length : Int)), (72, .int .i64 (k96 : Int)), (112, v185), (113, .int .i64 (x123.list_.length : Int)), (114, .int .i64 (k191 : Int))]) ∧ Hp w.heap.size i w' (obS (α := ByteArray) 9 v143 x142 :: []) ∧ Tr Dw w.heap.size A147 w180 i w') (fun a ha => ⟨A147, ha.sub ⟨rfl, rfl, rfl, rfl, rfl, rfl, rfl, rfl, trivial⟩, ⟨hH, Tr.refl (Dw := Dw) hA⟩⟩) ?_
         rintro K k191 _ a w198 ⟨A199, ha333, hH200, hr190⟩ hle204 K207 h206
         refine C_of ?_ ha333
         replace h11 := El.tr h11 hr190
         replace h138 := El.tr h138 hr190
         replace h187 := Sl.tr h187 hr190
         replace hK := Tr.trans hK hr190
         replace hB := Nat.le_trans hB hr190.ex.size
         replace hA := hr190.new
         replace hH : Hp w.heap.size A199 w198 (obS (α := ByteArray) 9 v143 x142 :: []) := hH200
         refine C_seq (C_region (V_y (Y_lss rfl rfl) rfl rfl rfl (V_to (fun _ _ => rfl) ?_)))
         refine C_seq ?_
         refine C_cond rfl (fun hc209 => ?_) (fun hc209 => ?_)
         ·have hlt205 := lt_of_dec hc209
          obtain ⟨x201, h202, h203⟩ := K207 hlt205
          refine C_skip_to (fun _ _ => rfl) ?_
          refine C_seq ?_
          obtain ⟨o210, ho210, h202⟩ := Option.bind_eq_some_iff.1 h202
          refine C_cutG (ι := (Unit × (Nat → Prop))) (fun ⟨s211, A216⟩ => [(1, .pointer (some ⟨b7, 0, none⟩)), (6, .pointer (some ⟨b130, 0, none⟩)), (70, v90), (71, .int .i64 (x.terms.length : Int)), (72, .int .i64 (k96 : Int)), (112, v185), (113, .int .i64 (x123.list_.length : Int)), (114, .int .i64 (k191 : Int))]) (fun ⟨s211, A216⟩ => fun w' => o210 = .fin s211 ∧ Hp w.heap.size A216 w' (obS (α := ByteArray) 9 v143 x142 :: []) ∧ Tr Dw w.heap.size A199 w198 A216 w') ?_ ?_
          ·have hr212 : Tr Dw w.heap.size A199 w198 A199 w198 := Tr.refl (Dw := Dw) hA
           refine C_block ?_
           refine C_seq ?_
           refine C_region ?_
           refine V_mv rfl rfl ?_
           obtain ⟨x218, hx218, ho210⟩ := Option.bind_eq_some_iff.1 ho210
           refine V_indexAddr h187 hx218 Tryz.underlying49 Tryz.sizeOf69 rfl rfl rfl ?_
           intro b219 o220 h221
           obtain ⟨v222, v224, h226, h223, h225⟩ := El_know_Posting h221
           refine V_y (Y_loadA h226 Tryz.isAgg69 Tryz.sizeOf69 rfl) rfl rfl rfl ?_
           refine V_alloc Tryz.zeroValue69 rfl ?_
           intro b227 w228 h229
           refine V_as rfl rfl ?_
           have h234 : (v222).oneCell' = true := by obtain ⟨_, _, e, _⟩ := Sl.form h223; rw [e]; rfl
           have h237 : (v224).oneCell' = true := by obtain ⟨_, _, e, _⟩ := Sl.form h225; rw [e]; rfl
           refine V_storeNew h229 Tryz.sizeOf69 rfl rfl rfl rfl (by exact (List.forall_mem_cons.2 ⟨rfl, (List.forall_mem_cons.2 ⟨h234, (List.forall_mem_cons.2 ⟨h237, (fun _ h => nomatch h)⟩)⟩)⟩)) ?_
           intro w230 h231
           have hk239 := h231.kp (Dw := Dw)
           have h238 : El (α := know_Posting) A199 w230 b227 0 x218 := h231.el hA ⟨[.int .i64 x218.id_], _, rfl, rfl, ⟨[v222], _, rfl, ⟨_, rfl, h223⟩, ⟨_, rfl, h225⟩⟩⟩
           have ht240 := Kp.tr hk239 hA hB
           replace hH := Hp.kp hH hk239
           replace h11 := El.tr h11 ht240
           replace h138 := El.tr h138 ht240
           replace hK := Tr.trans hK ht240
           replace hr212 := Tr.trans hr212 ht240
           replace hB := Nat.le_trans hB ht240.ex.size
           replace hA := ht240.new
           refine V_to (fun _ _ => rfl) ?_
           refine C_seq ?_
           refine C_region ?_
           have h241 := El_know_Index_0 h11
           refine V_y (Y_fieldAddr Tryz.underlying25 rfl Tryz.sizeOf22 (by decide) rfl) rfl rfl rfl ?_
           obtain ⟨v242, h243, h244⟩ := El.list h241
           refine V_y (Y_load h243 Tryz.isAgg22 rfl) rfl rfl rfl ?_
           have h245 := El_know_Posting_0 h238
           refine V_y (Y_fieldAddr Tryz.underlying69 rfl Tryz.sizeOf3 (by decide) rfl) rfl rfl rfl ?_
           refine V_y (Y_load (El.int h245) Tryz.isAgg3 rfl) rfl rfl rfl ?_
           obtain ⟨x246, hx246, ho210⟩ := Option.bind_eq_some_iff.1 ho210
           refine V_call Tryz.call40 rfl rfl rfl rfl (slices_Index_Lint_int_c w230 x.ids v242 h244 x218.id_ hx246) ?_
           rintro _ _ ⟨rfl, rfl⟩
           refine V_as rfl rfl ?_
           refine V_to (fun _ _ => rfl) ?_
           refine C_seq ?_
           refine C_block ?_
           refine C_seq ?_
           refine C_region ?_
           refine V_mv rfl rfl ?_
           refine V_y (Y_lss rfl rfl) rfl rfl rfl ?_
           refine V_as rfl rfl ?_
           refine V_to (fun _ _ => rfl) ?_
           refine C_cond rfl (fun hc247 => ?_) (fun hc247 => ?_)
           ·rw [if_pos hc247] at ho210
            refine C_seq ?_
            refine C_region ?_
            refine V_as rfl rfl ?_
            refine V_to (fun _ _ => rfl) ?_
            obtain rfl := Option.some.inj ho210
            rw [Lp.andThen_rt] at h202
            obtain rfl := Option.some.inj h202
            obtain rfl := (h203 : Lp.rt _ = _)
            rw [Lp.andThen_rt] at ho115
            obtain rfl := Option.some.inj ho115
            rw [Lp.andThen_rt] at h107
            obtain rfl := Option.some.inj h107
            obtain rfl := (h108 : Lp.rt _ = _)
            rw [Lp.andThen_rt] at hm
            obtain rfl := Option.some.inj hm
            refine C_ret ?_
            try simp only [↓inBlock_ret, ↓then_ret]
            exact retQ rfl (Res.one Tryz.results16 rfl) ⟨rfl, hK.kp⟩
           ·rw [if_neg (nt hc247)] at ho210
            refine C_seq ?_
            refine C_region_q (Dw := Dw) Tryz_mixed (by kernel_rfl) ?_
            refine VQ_y (fun w' hw' => Y_move rfl) rfl rfl rfl ?_
            refine VQ_y (fun w' hw' => Y_gtr rfl rfl) rfl rfl rfl ?_
            refine VQ_y (fun w' hw' => Y_move rfl) rfl rfl rfl ?_
            obtain ⟨s249, hs249, ho210⟩ := Option.bind_eq_some_iff.1 ho210
            refine VQ_cut 11 (fun _ : Unit => [(1, .pointer (some ⟨b7, 0, none⟩)), (6, .pointer (some ⟨b130, 0, none⟩)), (9, .pointer (some ⟨b227, 0, none⟩)), (10, .int .i64 x246), (70, v90), (71, .int .i64 (x.terms.length : Int)), (72, .int .i64 (k96 : Int)), (112, v185), (113, .int .i64 (x123.list_.length : Int)), (114, .int .i64 (k191 : Int)), (141, .bool s249)]) (fun _ => True) ?_ ?_
            ·simp only [List.take, List.drop]
             rcases Bool.eq_false_or_eq_true (decide ((0 : Int) < (k191 : Int))) with hc248 | hc248
             ·rw [if_pos hc248] at hs249
              refine VQ_ge rfl rfl rfl hc248 ?_
              have h250 := El_know_Posting_0 h238
              refine VQ_y (fun w' hw' => Y_fieldAddr Tryz.underlying69 rfl Tryz.sizeOf3 (by decide) rfl) rfl rfl rfl ?_
              refine VQ_ge rfl rfl rfl hc248 ?_
              refine VQ_y (fun w' hw' => Y_load (El.int (El.kp (Dw := Dw) h250 hw')) Tryz.isAgg3 rfl) rfl rfl rfl ?_
              refine VQ_ge rfl rfl rfl hc248 ?_
              have h251 := El_know_Term_1 h138
              refine VQ_y (fun w' hw' => Y_fieldAddr Tryz.underlying51 rfl Tryz.sizeOf49 (by decide) rfl) rfl rfl rfl ?_
              refine VQ_ge rfl rfl rfl hc248 ?_
              obtain ⟨v252, h253, h254⟩ := El.list h251
              refine VQ_y (fun w' hw' => Y_load ((World.cell?_of_block (hw'.block _ (World.block_lt_of_cell? _ _ h253))).trans h253) Tryz.isAgg49 rfl) rfl rfl rfl ?_
              refine VQ_ge rfl rfl rfl hc248 ?_
              refine VQ_y (fun w' hw' => Y_move rfl) rfl rfl rfl ?_
              refine VQ_ge rfl rfl rfl hc248 ?_
              refine VQ_y (fun w' hw' => Y_subI rfl rfl) rfl rfl rfl ?_
              refine VQ_ge rfl rfl rfl hc248 ?_
              obtain ⟨x255, hx255, hs249⟩ := Option.bind_eq_some_iff.1 hs249
              refine VQ_indexAddr h254 hx255 Tryz.underlying49 Tryz.sizeOf69 rfl rfl rfl ?_
              intro b256 o257 h258
              refine VQ_ge rfl rfl rfl hc248 ?_
              have h259 := El_know_Posting_0 h258
              refine VQ_y (fun w' hw' => Y_fieldAddr Tryz.underlying69 rfl Tryz.sizeOf3 (by decide) rfl) rfl rfl rfl ?_
              refine VQ_ge rfl rfl rfl hc248 ?_
              refine VQ_y (fun w' hw' => Y_load (El.int (El.kp (Dw := Dw) h259 hw')) Tryz.isAgg3 rfl) rfl rfl rfl ?_
              refine VQ_ge rfl rfl rfl hc248 ?_
              refine VQ_y (fun w' hw' => Y_leq rfl rfl) rfl rfl rfl ?_
              refine VQ_y (fun _ _ => Y_pick_te rfl hc248 rfl) rfl rfl rfl ?_
              obtain rfl := Option.some.inj hs249
              exact VQ_end fun a ha => ⟨(), ha.sub ⟨rfl, rfl, rfl, rfl, rfl, rfl, rfl, rfl, rfl, rfl, rfl, trivial⟩, trivial⟩
             ·rw [if_neg (nt hc248)] at hs249
              refine VQ_gn rfl rfl rfl hc248 rfl rfl rfl ?_
              refine VQ_gn rfl rfl rfl hc248 rfl rfl rfl ?_
              refine VQ_gn rfl rfl rfl hc248 rfl rfl rfl ?_
              refine VQ_gn rfl rfl rfl hc248 rfl rfl rfl ?_
              refine VQ_gn rfl rfl rfl hc248 rfl rfl rfl ?_
              refine VQ_gn rfl rfl rfl hc248 rfl rfl rfl ?_
              refine VQ_gn rfl rfl rfl hc248 rfl rfl rfl ?_
              refine VQ_gn rfl rfl rfl hc248 rfl rfl rfl ?_
              refine VQ_gn rfl rfl rfl hc248 rfl rfl rfl ?_
              refine VQ_gn rfl rfl rfl hc248 rfl rfl rfl ?_
              refine VQ_y (fun _ _ => Y_pick_fe rfl hc248 rfl) rfl rfl rfl ?_
              obtain rfl := Option.some.inj hs249
              exact VQ_end fun a ha => ⟨(), ha.sub ⟨rfl, rfl, rfl, rfl, rfl, rfl, rfl, rfl, rfl, rfl, rfl, trivial⟩, trivial⟩
            simp only [List.take, List.drop]
            rintro _ _
            refine VQ_y (fun w' hw' => Y_assign rfl) rfl rfl rfl ?_
            refine VQ_to (fun _ _ => rfl) (fun w260 hk261 => ?_)
            have ht262 := Kp.tr hk261 hA hB
            replace hH := Hp.kp hH hk261
            replace h11 := El.tr h11 ht262
            replace h238 := El.tr h238 ht262
            replace hK := Tr.trans hK ht262
            replace hr212 := Tr.trans hr212 ht262
            replace hB := Nat.le_trans hB ht262.ex.size
            replace hA := ht262.new
            refine C_cond rfl (fun hc263 => ?_) (fun hc263 => ?_)
            ·rw [if_pos hc263] at ho210
             refine C_seq ?_
             refine C_region ?_
             refine V_as rfl rfl ?_
             refine V_to (fun _ _ => rfl) ?_
             obtain rfl := Option.some.inj ho210
             rw [Lp.andThen_rt] at h202
             obtain rfl := Option.some.inj h202
             obtain rfl := (h203 : Lp.rt _ = _)
             rw [Lp.andThen_rt] at ho115
             obtain rfl := Option.some.inj ho115
             rw [Lp.andThen_rt] at h107
             obtain rfl := Option.some.inj h107
             obtain rfl := (h108 : Lp.rt _ = _)
             rw [Lp.andThen_rt] at hm
             obtain rfl := Option.some.inj hm
             refine C_ret ?_
             try simp only [↓inBlock_ret, ↓then_ret]
             exact retQ rfl (Res.one Tryz.results16 rfl) ⟨rfl, hK.kp⟩
            ·rw [if_neg (nt hc263)] at ho210
             refine C_seq ?_
             refine C_region ?_
             have h264 := El_know_Posting_1 h238
             refine V_y (Y_fieldAddr Tryz.underlying69 rfl Tryz.sizeOf22 (by decide) rfl) rfl rfl rfl ?_
             obtain ⟨v265, h266, h267⟩ := El.list h264
             refine V_y (Y_load h266 Tryz.isAgg22 rfl) rfl rfl rfl ?_
             refine V_y (Y_lenSl h267 rfl Tryz.underlying22 rfl) rfl rfl rfl ?_
             have h268 := El_know_Posting_2 h238
             refine V_y (Y_fieldAddr Tryz.underlying69 rfl Tryz.sizeOf22 (by decide) rfl) rfl rfl rfl ?_
             obtain ⟨v269, h270, h271⟩ := El.list h268
             refine V_y (Y_load h270 Tryz.isAgg22 rfl) rfl rfl rfl ?_
             refine V_y (Y_lenSl h271 rfl Tryz.underlying22 rfl) rfl rfl rfl ?_
             refine V_y (Y_addI rfl rfl) rfl rfl rfl ?_
             refine V_y (Y_eql rfl rfl) rfl rfl rfl ?_
             refine V_as rfl rfl ?_
             refine V_to (fun _ _ => rfl) ?_
             refine C_cond rfl (fun hc272 => ?_) (fun hc272 => ?_)
             ·rw [if_pos hc272] at ho210
              refine C_seq ?_
              refine C_region ?_
              refine V_as rfl rfl ?_
              refine V_to (fun _ _ => rfl) ?_
              obtain rfl := Option.some.inj ho210
              rw [Lp.andThen_rt] at h202
              obtain rfl := Option.some.inj h202
              obtain rfl := (h203 : Lp.rt _ = _)
              rw [Lp.andThen_rt] at ho115
              obtain rfl := Option.some.inj ho115
              rw [Lp.andThen_rt] at h107
              obtain rfl := Option.some.inj h107
              obtain rfl := (h108 : Lp.rt _ = _)
              rw [Lp.andThen_rt] at hm
              obtain rfl := Option.some.inj hm
              refine C_ret ?_
              try simp only [↓inBlock_ret, ↓then_ret]
              exact retQ rfl (Res.one Tryz.results16 rfl) ⟨rfl, hK.kp⟩
             ·rw [if_neg (nt hc272)] at ho210
              refine C_skip_to (fun _ _ => rfl) ?_
              refine C_seq ?_
              refine C_region ?_
              have h273 := El_know_Posting_1 h238
              refine V_y (Y_fieldAddr Tryz.underlying69 rfl Tryz.sizeOf22 (by decide) rfl) rfl rfl rfl ?_
              obtain ⟨v274, h275, h276⟩ := El.list h273
              refine V_y (Y_load h275 Tryz.isAgg22 rfl) rfl rfl rfl ?_
              have h277 := El_know_Posting_2 h238
              refine V_y (Y_fieldAddr Tryz.underlying69 rfl Tryz.sizeOf22 (by decide) rfl) rfl rfl rfl ?_
              obtain ⟨v278, h279, h280⟩ := El.list h277
              refine V_y (Y_load h279 Tryz.isAgg22 rfl) rfl rfl rfl ?_
              refine V_buildSlice (Dw := Dw) (cells := #[v274, v278]) (l := ([x218.title, x218.body] : List (List Int))) (len := 2) Tryz.underlying81 Tryz.sizeOf22 Tryz.zeroValue22 rfl (by obtain ⟨a285, c286, e287, _⟩ := Sl.form h276; subst e287; obtain ⟨a288, c289, e290, _⟩ := Sl.form h280; subst e290; kernel_rfl) (show (2 * 1 : Nat) ≠ 0 by decide) (show (2 * 1 : Nat) ≤ 2 ^ 24 by decide) hA ⟨[v274], _, rfl, ⟨_, rfl, h276⟩, ⟨[v278], _, rfl, ⟨_, rfl, h280⟩, rfl⟩⟩ rfl rfl ?_
              intro v281 w282 hk284 h283
              have ht291 := Kp.tr hk284 hA hB
              replace hH := Hp.kp hH hk284
              replace h11 := El.tr h11 ht291
              replace hK := Tr.trans hK ht291
              replace hr212 := Tr.trans hr212 ht291
              refine V_y (Y_lenSl h283 rfl Tryz.underlying81 rfl) rfl rfl rfl ?_
              refine V_mv rfl rfl ?_
              refine V_to (fun _ _ => rfl) ?_
              have hn308 := Sl.le h283
              obtain ⟨o292, ho292, ho210⟩ := Option.bind_eq_some_iff.1 ho210
              refine C_cutG (ι := Unit) (fun (s293 : Unit) => [(1, .pointer (some ⟨b7, 0, none⟩)), (6, .pointer (some ⟨b130, 0, none⟩)), (70, v90), (71, .int .i64 (x.terms.length : Int)), (72, .int .i64 (k96 : Int)), (112, v185), (113, .int .i64 (x123.list_.length : Int)), (114, .int .i64 (k191 : Int))]) (fun (s293 : Unit) => fun w' => o292 = .fin s293 ∧ w282 = w') ?_ ?_
              ·refine C_block ?_
               refine C_range ho292 (fun k295 _ a w' => ∃ i : Unit, Has ⟨174, [], none⟩ a ([(1, .pointer (some ⟨b7, 0, none⟩)), (6, .pointer (some ⟨b130, 0, none⟩)), (10, .int .i64 x246), (70, v90), (71, .int .i64 (x.terms.length : Int)), (72, .int .i64 (k96 : Int)), (112, v185), (113, .int .i64 (x123.list_.length : Int)), (114, .int .i64 (k191 : Int)), (155, v281), (156, .int .i64 (([x218.title, x218.body] : List (List Int)).length : Int)), (157, .int .i64 (k295 : Int))]) ∧ w282 = w') (fun a ha => ⟨(), ha.sub ⟨rfl, rfl, rfl, rfl, rfl, rfl, rfl, rfl, rfl, rfl, rfl, rfl, trivial⟩, rfl⟩) ?_
               rintro K k295 _ a _ ⟨_, ha329, rfl⟩ hle304 K307 h306
               refine C_of ?_ ha329
               refine C_seq (C_region (V_y (Y_lss rfl rfl) rfl rfl rfl (V_to (fun _ _ => rfl) ?_)))
               refine C_seq ?_
               refine C_cond rfl (fun hc309 => ?_) (fun hc309 => ?_)
               ·have hlt305 := lt_of_dec hc309
                obtain ⟨x301, h302, h303⟩ := K307 hlt305
                refine C_skip_to (fun _ _ => rfl) ?_
                refine C_seq ?_
                refine C_block ?_
                refine C_seq ?_
                refine C_region ?_
                obtain ⟨x310, hx310, h302⟩ := Option.bind_eq_some_iff.1 h302
                refine V_indexAddr h283 hx310 Tryz.underlying81 Tryz.sizeOf22 rfl rfl rfl ?_
                intro b311 o312 h313
                obtain ⟨v314, h315, h316⟩ := El.list h313
                refine V_y (Y_load h315 Tryz.isAgg22 rfl) rfl rfl rfl ?_
                refine V_as rfl rfl ?_
                refine V_to (fun _ _ => rfl) ?_
                refine C_seq ?_
                refine C_region ?_
                refine V_mv rfl rfl ?_
                have h317 := El_know_Index_1 h11
                refine V_y (Y_fieldAddr Tryz.underlying25 rfl Tryz.sizeOf22 (by decide) rfl) rfl rfl rfl ?_
                obtain ⟨v318, h319, h320⟩ := El.list h317
                refine V_y (Y_load h319 Tryz.isAgg22 rfl) rfl rfl rfl ?_
                refine V_mv rfl rfl ?_
                obtain ⟨x321, hx321, h302⟩ := Option.bind_eq_some_iff.1 h302
                refine V_indexAddr h320 hx321 Tryz.underlying22 Tryz.sizeOf3 rfl rfl rfl ?_
                intro b322 o323 h324
                refine V_y (Y_load (El.int h324) Tryz.isAgg3 rfl) rfl rfl rfl ?_
                obtain ⟨x325, hx325, h302⟩ := Option.bind_eq_some_iff.1 h302
                refine V_call Tryz.call41 rfl rfl rfl rfl (portref2_positionsFault_c w282 x310 v314 h316 x321 hx325) ?_
                rintro _ _ ⟨rfl, rfl⟩
                refine V_as rfl rfl ?_
                refine V_to (fun _ _ => rfl) ?_
                refine C_seq ?_
                refine C_region ?_
                refine V_mv rfl rfl ?_
                refine V_y (Y_neq rfl rfl) rfl rfl rfl ?_
                refine V_to (fun _ _ => rfl) ?_
                refine C_cond rfl (fun hc326 => ?_) (fun hc326 => ?_)
                ·rw [if_pos hc326] at h302
                 refine C_seq ?_
                 refine C_region ?_
                 refine V_mv rfl rfl ?_
                 refine V_as rfl rfl ?_
                 refine V_to (fun _ _ => rfl) ?_
                 obtain rfl := Option.some.inj h302
                 obtain rfl := (h303 : Lp.rt _ = _)
                 rw [Lp.andThen_rt] at ho210
                 obtain rfl := Option.some.inj ho210
                 rw [Lp.andThen_rt] at h202
                 obtain rfl := Option.some.inj h202
                 obtain rfl := (h203 : Lp.rt _ = _)
                 rw [Lp.andThen_rt] at ho115
                 obtain rfl := Option.some.inj ho115
                 rw [Lp.andThen_rt] at h107
                 obtain rfl := Option.some.inj h107
                 obtain rfl := (h108 : Lp.rt _ = _)
                 rw [Lp.andThen_rt] at hm
                 obtain rfl := Option.some.inj hm
                 refine C_ret ?_
                 try simp only [↓inBlock_ret, ↓then_ret]
                 exact retQ rfl (Res.one Tryz.results16 rfl) ⟨rfl, hK.kp⟩
                ·rw [if_neg (nt hc326)] at h302
                 refine C_skip_to (fun _ _ => rfl) ?_
                 refine C_region ?_
                 refine V_y (Y_addI rfl rfl) rfl rfl rfl ?_
                 refine V_mv rfl rfl ?_
                 obtain rfl := Option.some.inj h302
                 refine V_end (fun a ha327 => ?_)
                 exact ⟨(), hlt305, h303, ⟨(), ha327.sub ⟨rfl, rfl, rfl, rfl, rfl, rfl, rfl, rfl, rfl, rfl, rfl, (congrArg (fun z => some (Value.int .i64 z)) (w64_succ hlt305 hn308)), trivial⟩, rfl⟩⟩
               ·refine C_exit (fun a ha328 => ?_)
                exact ⟨(), ha328.sub ⟨rfl, rfl, rfl, rfl, rfl, rfl, rfl, rfl, trivial⟩, ⟨(h306 (eq_of_dec hle304 hc309)).symm, rfl⟩⟩
              rintro s293 _ ⟨rfl, rfl⟩ a ha298
              rw [Lp.andThen_fin] at ho210
              obtain rfl := Option.some.inj ho210
              exact ⟨((), A199), ha298.sub ⟨rfl, rfl, rfl, rfl, rfl, rfl, rfl, rfl, trivial⟩, ⟨rfl, hH, hr212⟩⟩
          rintro ⟨s211, A216⟩ w213 ⟨rfl, hH217, hk214⟩ a ha215
          rw [Lp.andThen_fin] at h202
          replace hr190 := Tr.trans hr190 hk214
          replace hA := hk214.new
          replace hH : Hp w.heap.size A216 w213 (obS (α := ByteArray) 9 v143 x142 :: []) := hH217
          refine C_at (n := ⟨174, [], none⟩) (fun _ _ => rfl) ?_ ha215
          refine C_region ?_
          refine V_y (Y_addI rfl rfl) rfl rfl rfl ?_
          refine V_mv rfl rfl ?_
          obtain rfl := Option.some.inj h202
          refine V_end (fun a ha331 => ?_)
          exact ⟨(), hlt205, h203, ⟨A216, ha331.sub ⟨rfl, rfl, rfl, rfl, rfl, rfl, rfl, (congrArg (fun z => some (Value.int .i64 z)) (w64_succ hlt205 hn208)), trivial⟩, ⟨hH, hr190⟩⟩⟩
         ·refine C_exit (fun a ha332 => ?_)
          exact ⟨((), A199), ha332.sub ⟨rfl, rfl, rfl, rfl, trivial⟩, ⟨(h206 (eq_of_dec hle204 hc209)).symm, hH, hr190⟩⟩
        rintro ⟨s189, A195⟩ w192 ⟨rfl, hH196, hk193⟩ a ha194
        rw [Lp.andThen_fin] at ho115
        replace hr117 := Tr.trans hr117 hk193
        replace hA := hk193.new
        replace hH : Hp w.heap.size A195 w192 (obS (α := ByteArray) 9 v143 x142 :: []) := hH196
        obtain rfl := Option.some.inj ho115
        replace hH : Hp w.heap.size A195 w192 ([]) := Hp.drop hH (i := 0) rfl
        exact ⟨((), A195), ha194.sub ⟨rfl, rfl, rfl, rfl, trivial⟩, ⟨rfl, hH, hr117⟩⟩
     rintro ⟨s116, A121⟩ w118 ⟨rfl, hH122, hk119⟩ a ha120
     rw [Lp.andThen_fin] at h107
     replace hr95 := Tr.trans hr95 hk119
     replace hA := hk119.new
     replace hH : Hp w.heap.size A121 w118 ([]) := hH122
     refine C_at (n := ⟨174, [], none⟩) (fun _ _ => rfl) ?_ ha120
     refine C_region ?_
     refine V_y (Y_addI rfl rfl) rfl rfl rfl ?_
     refine V_mv rfl rfl ?_
     obtain rfl := Option.some.inj h107
     refine V_end (fun a ha335 => ?_)
     exact ⟨(), hlt110, h108, ⟨A121, ha335.sub ⟨rfl, rfl, rfl, (congrArg (fun z => some (Value.int .i64 z)) (w64_succ hlt110 hn113)), trivial⟩, ⟨hH, hr95⟩⟩⟩
    ·refine C_exit (fun a ha336 => ?_)
     exact ⟨((), A104), ha336.sub trivial, ⟨(h111 (eq_of_dec hle109 hc114)).symm, hH, hr95⟩⟩
   rintro ⟨s94, A100⟩ w97 ⟨rfl, hH101, hk98⟩ a ha99
   rw [Lp.andThen_fin] at hm
   replace hK := Tr.trans hK hk98
   replace hA := hk98.new
   replace hH : Hp w.heap.size A100 w97 ([]) := hH101
   refine C_at (n := ⟨174, [], none⟩) (fun _ _ => rfl) ?_ ha99
   refine C_seq ?_
   refine C_region ?_
   refine V_as rfl rfl ?_
   refine V_to (fun _ _ => rfl) ?_
   obtain rfl := Option.some.inj hm
   refine C_ret ?_
   try simp only [↓inBlock_ret, ↓then_ret]
   exact retQ rfl (Res.one Tryz.results16 rfl) ⟨rfl, hK.kp⟩

set_option maxRecDepth 4000 in
set_option maxHeartbeats 4000000 in
theorem portref2_QueryFault_c (w : World) {A : Nat → Prop} (hA : ∀ b, w.heap.size ≤ b → A b) (q : know_Query) (v_q : Value) (h_q : Sl A w v_q q.parts) {r : (ByteArray × Int)} (hm : portref2_QueryFault q = some r) : Ret Tryz.prog 17 #[.agg #[v_q]] w fun v w' => v = .tuple #[.string r.1, .int .i64 r.2] ∧ Kp False w w' := by
 unfold portref2_QueryFault at hm
 refine enter Tryz.func17 rfl Tryz.ntmps17 rfl ?_
 have hA0 := hA
 have hB := Nat.le_refl w.heap.size
 have hK : Tr False w.heap.size A w A w := Tr.refl (Dw := False) hA
 have hH : Hp w.heap.size A w [] := Hp.nil
 refine C_seq ?_
 refine C_region ?_
 refine V_box rfl rfl ?_
 intro b3 w4 h5
 have hk7 := h5.kp (Dw := False)
 have h6 : El (α := know_Query) A w4 b3 0 q := h5.el hA ⟨_, rfl, h_q⟩
 have ht8 := Kp.tr (Dw := False) hk7 hA hB
 replace hH := Hp.kp (Dw := False) hH hk7
 replace hK := Tr.trans (Dw := False) hK ht8
 replace hB := Nat.le_trans hB ht8.ex.size
 replace hA := ht8.new
 refine V_as rfl rfl ?_
 refine V_as rfl rfl ?_
 refine V_to (fun _ _ => rfl) ?_
 refine C_seq ?_
 refine C_seq ?_
 refine C_region ?_
 have h9 := El_know_Query_0 h6
 refine V_y (Y_fieldAddr Tryz.underlying28 rfl Tryz.sizeOf26 (by decide) rfl) rfl rfl rfl ?_
 obtain ⟨v10, h11, h12⟩ := El.list h9
 refine V_y (Y_load h11 Tryz.isAgg26 rfl) rfl rfl rfl ?_
 refine V_y (Y_lenSl h12 rfl Tryz.underlying26 rfl) rfl rfl rfl ?_
 refine V_y (Y_gtr rfl rfl) rfl rfl rfl ?_
 refine V_to (fun _ _ => rfl) ?_
 refine C_cond rfl (fun hc13 => ?_) (fun hc13 => ?_)
 ·rw [if_pos hc13] at hm
  refine C_seq ?_
  refine C_region ?_
  refine V_as rfl rfl ?_
  refine V_as rfl rfl ?_
  refine V_to (fun _ _ => rfl) ?_
  obtain rfl := Option.some.inj hm
  refine C_ret ?_
  try simp only [↓inBlock_ret, ↓then_ret]
  exact retQ rfl (Res.two Tryz.results17 rfl rfl) ⟨rfl, hK.kp⟩
 ·rw [if_neg (nt hc13)] at hm
  refine C_skip_to (fun _ _ => rfl) ?_
  refine C_seq ?_
  refine C_region ?_
  refine V_as rfl rfl ?_
  refine V_to (fun _ _ => rfl) ?_
  refine C_seq ?_
  refine C_seq ?_
  refine C_region ?_
  have h14 := El_know_Query_0 h6
  refine V_y (Y_fieldAddr Tryz.underlying28 rfl Tryz.sizeOf26 (by decide) rfl) rfl rfl rfl ?_
  obtain ⟨v15, h16, h17⟩ := El.list h14
  refine V_y (Y_load h16 Tryz.isAgg26 rfl) rfl rfl rfl ?_
  refine V_y (Y_lenSl h17 rfl Tryz.underlying26 rfl) rfl rfl rfl ?_
  refine V_mv rfl rfl ?_
  refine V_to (fun _ _ => rfl) ?_
  replace hH : Hp w.heap.size A w4 (obS (α := ByteArray) 9 (.slice none 0 0) ([] : (List ByteArray)) :: []) := Hp.addNil (α := ByteArray) (e := 9) hH
  have hn42 := Sl.le h17
  obtain ⟨o18, ho18, hm⟩ := Option.bind_eq_some_iff.1 hm
  refine C_cutG (ι := ((List ByteArray) × Value × (Nat → Prop))) (fun ⟨s19, v25, A27⟩ => [(4, v25)]) (fun ⟨s19, v25, A27⟩ => fun w' => o18 = .fin s19 ∧ Hp w.heap.size A27 w' (obS (α := ByteArray) 9 v25 s19 :: []) ∧ Tr False w.heap.size A w4 A27 w') ?_ ?_
  ·refine C_block ?_
   refine C_range ho18 (fun k21 s29 a w' => ∃ i : (Value × (Nat → Prop)), Has ⟨97, [], none⟩ a ([(4, i.1), (17, v15), (18, .int .i64 (q.parts.length : Int)), (19, .int .i64 (k21 : Int))]) ∧ Hp w.heap.size i.2 w' (obS (α := ByteArray) 9 i.1 s29 :: []) ∧ Tr False w.heap.size A w4 i.2 w') (fun a ha => ⟨(.slice none 0 0, A), ha.sub ⟨rfl, rfl, rfl, rfl, trivial⟩, ⟨hH, Tr.refl (Dw := False) hA⟩⟩) ?_
   rintro K k21 s29 a w30 ⟨⟨v31, A33⟩, ha192, hH34, hr20⟩ hle38 K41 h40
   refine C_of ?_ ha192
   replace h17 := Sl.tr (Dw := False) h17 hr20
   replace hK := Tr.trans (Dw := False) hK hr20
   replace hB := Nat.le_trans hB hr20.ex.size
   replace hA := hr20.new
   replace hH : Hp w.heap.size A33 w30 (obS (α := ByteArray) 9 v31 s29 :: []) := hH34
   refine C_seq (C_region (V_y (Y_lss rfl rfl) rfl rfl rfl (V_to (fun _ _ => rfl) ?_)))
   refine C_seq ?_
   refine C_cond rfl (fun hc43 => ?_) (fun hc43 => ?_)
   ·have hlt39 := lt_of_dec hc43
    obtain ⟨x35, h36, h37⟩ := K41 hlt39
    refine C_skip_to (fun _ _ => rfl) ?_
    refine C_seq ?_
    refine C_block ?_
    refine C_seq ?_
    refine C_region ?_
    obtain ⟨x44, hx44, h36⟩ := Option.bind_eq_some_iff.1 h36
    refine V_indexAddr h17 hx44 Tryz.underlying26 Tryz.sizeOf44 rfl rfl rfl ?_
    intro b45 o46 h47
    obtain ⟨v48, h50, h49⟩ := El_know_Part h47
    refine V_y (Y_loadA h50 Tryz.isAgg44 Tryz.sizeOf44 rfl) rfl rfl rfl ?_
    refine V_alloc Tryz.zeroValue44 rfl ?_
    intro b51 w52 h53
    have h58 : (v48).oneCell' = true := by obtain ⟨_, _, e, _⟩ := Sl.form h49; rw [e]; rfl
    refine V_storeNew h53 Tryz.sizeOf44 rfl rfl rfl rfl (by exact (List.forall_mem_cons.2 ⟨rfl, (List.forall_mem_cons.2 ⟨rfl, (List.forall_mem_cons.2 ⟨h58, (fun _ h => nomatch h)⟩)⟩)⟩)) ?_
    intro w54 h55
    have hk60 := h55.kp (Dw := False)
    have h59 : El (α := know_Part) A33 w54 b51 0 x44 := h55.el hA ⟨[.int .i64 x44.kind], _, rfl, rfl, ⟨[.bool x44.not_], _, rfl, rfl, ⟨_, rfl, h49⟩⟩⟩
    have ht61 := Kp.tr (Dw := False) hk60 hA hB
    replace hH := Hp.kp (Dw := False) hH hk60
    replace hK := Tr.trans (Dw := False) hK ht61
    replace hr20 := Tr.trans (Dw := False) hr20 ht61
    replace hB := Nat.le_trans hB ht61.ex.size
    replace hA := ht61.new
    refine V_to (fun _ _ => rfl) ?_
    refine C_seq ?_
    refine C_seq ?_
    refine C_region ?_
    have h62 := El_know_Part_0 h59
    refine V_y (Y_fieldAddr Tryz.underlying44 rfl Tryz.sizeOf3 (by decide) rfl) rfl rfl rfl ?_
    refine V_y (Y_load (El.int h62) Tryz.isAgg3 rfl) rfl rfl rfl ?_
    refine V_y (Y_lss rfl rfl) rfl rfl rfl ?_
    refine V_mv rfl rfl ?_
    refine V_cut 4 (fun _ : Unit => [(4, v31), (6, .pointer (some ⟨b51, 0, none⟩)), (17, v15), (18, .int .i64 (q.parts.length : Int)), (19, .int .i64 (k21 : Int)), (30, .bool ((decide (x44.kind < 0)) || (decide ((2 : Int) < x44.kind))))]) (fun _ w' => w54 = w') ?_ ?_
    ·simp only [List.take, List.drop]
     rcases Bool.eq_false_or_eq_true (decide (x44.kind < 0)) with hc63 | hc63
     ·refine V_gn rfl rfl rfl hc63 rfl rfl rfl ?_
      refine V_gn rfl rfl rfl hc63 rfl rfl rfl ?_
      refine V_gn rfl rfl rfl hc63 rfl rfl rfl ?_
      refine V_y (Y_pick_te rfl hc63 rfl) rfl rfl rfl ?_
      exact V_end fun a ha => ⟨(), ha.sub ⟨rfl, rfl, rfl, rfl, rfl, (by rw [hc63]; rfl), trivial⟩, rfl⟩
     ·refine V_ge rfl rfl rfl hc63 ?_
      have h65 := El_know_Part_0 h59
      refine V_y (Y_fieldAddr Tryz.underlying44 rfl Tryz.sizeOf3 (by decide) rfl) rfl rfl rfl ?_
      refine V_ge rfl rfl rfl hc63 ?_
      refine V_y (Y_load (El.int h65) Tryz.isAgg3 rfl) rfl rfl rfl ?_
      refine V_ge rfl rfl rfl hc63 ?_
      refine V_y (Y_gtr rfl rfl) rfl rfl rfl ?_
      refine V_y (Y_pick_fe rfl hc63 rfl) rfl rfl rfl ?_
      exact V_end fun a ha => ⟨(), ha.sub ⟨rfl, rfl, rfl, rfl, rfl, (by rw [hc63]; rfl), trivial⟩, rfl⟩
    simp only [List.take, List.drop]
    rintro _ _ rfl
    refine V_mv rfl rfl ?_
    refine V_cut 5 (fun _ : Unit => [(4, v31), (6, .pointer (some ⟨b51, 0, none⟩)), (17, v15), (18, .int .i64 (q.parts.length : Int)), (19, .int .i64 (k21 : Int)), (36, .bool (((decide (x44.kind < 0)) || (decide ((2 : Int) < x44.kind))) || ((x44.words.length : Int) == 0)))]) (fun _ w' => w54 = w') ?_ ?_
    ·simp only [List.take, List.drop]
     rcases Bool.eq_false_or_eq_true (((decide (x44.kind < 0)) || (decide ((2 : Int) < x44.kind)))) with hc66 | hc66
     ·refine V_gn rfl rfl rfl hc66 rfl rfl rfl ?_
      refine V_gn rfl rfl rfl hc66 rfl rfl rfl ?_
      refine V_gn rfl rfl rfl hc66 rfl rfl rfl ?_
      refine V_gn rfl rfl rfl hc66 rfl rfl rfl ?_
      refine V_y (Y_pick_te rfl hc66 rfl) rfl rfl rfl ?_
      exact V_end fun a ha => ⟨(), ha.sub ⟨rfl, rfl, rfl, rfl, rfl, (by rw [hc66]; rfl), trivial⟩, rfl⟩
     ·refine V_ge rfl rfl rfl hc66 ?_
      have h68 := El_know_Part_2 h59
      refine V_y (Y_fieldAddr Tryz.underlying44 rfl Tryz.sizeOf42 (by decide) rfl) rfl rfl rfl ?_
      refine V_ge rfl rfl rfl hc66 ?_
      obtain ⟨v69, h70, h71⟩ := El.list h68
      refine V_y (Y_load h70 Tryz.isAgg42 rfl) rfl rfl rfl ?_
      refine V_ge rfl rfl rfl hc66 ?_
      refine V_y (Y_lenSl h71 rfl Tryz.underlying42 rfl) rfl rfl rfl ?_
      refine V_ge rfl rfl rfl hc66 ?_
      refine V_y (Y_eql rfl rfl) rfl rfl rfl ?_
      refine V_y (Y_pick_fe rfl hc66 rfl) rfl rfl rfl ?_
      exact V_end fun a ha => ⟨(), ha.sub ⟨rfl, rfl, rfl, rfl, rfl, (by rw [hc66]; rfl), trivial⟩, rfl⟩
    simp only [List.take, List.drop]
    rintro _ _ rfl
    refine V_mv rfl rfl ?_
    refine V_cut 10 (fun _ : Unit => [(4, v31), (6, .pointer (some ⟨b51, 0, none⟩)), (17, v15), (18, .int .i64 (q.parts.length : Int)), (19, .int .i64 (k21 : Int)), (47, .bool ((((decide (x44.kind < 0)) || (decide ((2 : Int) < x44.kind))) || ((x44.words.length : Int) == 0)) || ((x44.kind != 1) && ((x44.words.length : Int) != 1))))]) (fun _ w' => w54 = w') ?_ ?_
    ·simp only [List.take, List.drop]
     rcases Bool.eq_false_or_eq_true ((((decide (x44.kind < 0)) || (decide ((2 : Int) < x44.kind))) || ((x44.words.length : Int) == 0))) with hc72 | hc72
     ·refine V_gn rfl rfl rfl hc72 rfl rfl rfl ?_
      refine V_gn rfl rfl rfl hc72 rfl rfl rfl ?_
      refine V_gn rfl rfl rfl hc72 rfl rfl rfl ?_
      refine V_gn rfl rfl rfl hc72 rfl rfl rfl ?_
      refine V_gu rfl rfl rfl rfl rfl ?_
      refine V_gu rfl rfl rfl rfl rfl ?_
      refine V_gu rfl rfl rfl rfl rfl ?_
      refine V_gu rfl rfl rfl rfl rfl ?_
      refine V_gn rfl rfl rfl hc72 rfl rfl rfl ?_
      refine V_y (Y_pick_te rfl hc72 rfl) rfl rfl rfl ?_
      exact V_end fun a ha => ⟨(), ha.sub ⟨rfl, rfl, rfl, rfl, rfl, (by rw [hc72]; rfl), trivial⟩, rfl⟩
     ·refine V_ge rfl rfl rfl hc72 ?_
      have h74 := El_know_Part_0 h59
      refine V_y (Y_fieldAddr Tryz.underlying44 rfl Tryz.sizeOf3 (by decide) rfl) rfl rfl rfl ?_
      refine V_ge rfl rfl rfl hc72 ?_
      refine V_y (Y_load (El.int h74) Tryz.isAgg3 rfl) rfl rfl rfl ?_
      refine V_ge rfl rfl rfl hc72 ?_
      refine V_y (Y_neq rfl rfl) rfl rfl rfl ?_
      refine V_ge rfl rfl rfl hc72 ?_
      refine V_mv rfl rfl ?_
      refine V_cut 5 (fun _ : Unit => [(4, v31), (6, .pointer (some ⟨b51, 0, none⟩)), (17, v15), (18, .int .i64 (q.parts.length : Int)), (19, .int .i64 (k21 : Int)), (37, .bool (((decide (x44.kind < 0)) || (decide ((2 : Int) < x44.kind))) || ((x44.words.length : Int) == 0))), (46, .bool ((x44.kind != 1) && ((x44.words.length : Int) != 1)))]) (fun _ w' => w54 = w') ?_ ?_
      ·simp only [List.take, List.drop]
       rcases Bool.eq_false_or_eq_true (x44.kind != 1) with hc75 | hc75
       ·refine V_ge rfl rfl rfl hc75 ?_
        have h77 := El_know_Part_2 h59
        refine V_y (Y_fieldAddr Tryz.underlying44 rfl Tryz.sizeOf42 (by decide) rfl) rfl rfl rfl ?_
        refine V_ge rfl rfl rfl hc75 ?_
        obtain ⟨v78, h79, h80⟩ := El.list h77
        refine V_y (Y_load h79 Tryz.isAgg42 rfl) rfl rfl rfl ?_
        refine V_ge rfl rfl rfl hc75 ?_
        refine V_y (Y_lenSl h80 rfl Tryz.underlying42 rfl) rfl rfl rfl ?_
        refine V_ge rfl rfl rfl hc75 ?_
        refine V_y (Y_neq rfl rfl) rfl rfl rfl ?_
        refine V_ge rfl rfl rfl hc72 ?_
        refine V_y (Y_pick_te rfl hc75 rfl) rfl rfl rfl ?_
        exact V_end fun a ha => ⟨(), ha.sub ⟨rfl, rfl, rfl, rfl, rfl, rfl, (by rw [hc75]; rfl), trivial⟩, rfl⟩
       ·refine V_gn rfl rfl rfl hc75 rfl rfl rfl ?_
        refine V_gn rfl rfl rfl hc75 rfl rfl rfl ?_
        refine V_gn rfl rfl rfl hc75 rfl rfl rfl ?_
        refine V_gn rfl rfl rfl hc75 rfl rfl rfl ?_
        refine V_ge rfl rfl rfl hc72 ?_
        refine V_y (Y_pick_fe rfl hc75 rfl) rfl rfl rfl ?_
        exact V_end fun a ha => ⟨(), ha.sub ⟨rfl, rfl, rfl, rfl, rfl, rfl, (by rw [hc75]; rfl), trivial⟩, rfl⟩
      simp only [List.take, List.drop]
      rintro _ _ rfl
      refine V_y (Y_pick_fe rfl hc72 rfl) rfl rfl rfl ?_
      exact V_end fun a ha => ⟨(), ha.sub ⟨rfl, rfl, rfl, rfl, rfl, (by rw [hc72]; rfl), trivial⟩, rfl⟩
    simp only [List.take, List.drop]
    rintro _ _ rfl
    refine V_to (fun _ _ => rfl) ?_
    refine C_cond rfl (fun hc81 => ?_) (fun hc81 => ?_)
    ·rw [if_pos hc81] at h36
     refine C_seq ?_
     refine C_region ?_
     refine V_as rfl rfl ?_
     refine V_as rfl rfl ?_
     refine V_to (fun _ _ => rfl) ?_
     obtain rfl := Option.some.inj h36
     obtain rfl := (h37 : Lp.rt _ = _)
     rw [Lp.andThen_rt] at hm
     obtain rfl := Option.some.inj hm
     refine C_ret ?_
     try simp only [↓inBlock_ret, ↓then_ret]
     exact retQ rfl (Res.two Tryz.results17 rfl rfl) ⟨rfl, hK.kp⟩
    ·rw [if_neg (nt hc81)] at h36
     refine C_skip_to (fun _ _ => rfl) ?_
     refine C_seq ?_
     refine C_seq ?_
     refine C_region ?_
     have h82 := El_know_Part_2 h59
     refine V_y (Y_fieldAddr Tryz.underlying44 rfl Tryz.sizeOf42 (by decide) rfl) rfl rfl rfl ?_
     obtain ⟨v83, h84, h85⟩ := El.list h82
     refine V_y (Y_load h84 Tryz.isAgg42 rfl) rfl rfl rfl ?_
     refine V_y (Y_lenSl h85 rfl Tryz.underlying42 rfl) rfl rfl rfl ?_
     refine V_mv rfl rfl ?_
     refine V_to (fun _ _ => rfl) ?_
     have hn106 := Sl.le h85
     obtain ⟨o86, ho86, h36⟩ := Option.bind_eq_some_iff.1 h36
     refine C_cutG (ι := (Unit × (Nat → Prop))) (fun ⟨s87, A93⟩ => [(4, v31), (6, .pointer (some ⟨b51, 0, none⟩)), (17, v15), (18, .int .i64 (q.parts.length : Int)), (19, .int .i64 (k21 : Int))]) (fun ⟨s87, A93⟩ => fun w' => o86 = .fin s87 ∧ Hp w.heap.size A93 w' (obS (α := ByteArray) 9 v31 s29 :: []) ∧ Tr False w.heap.size A33 w54 A93 w') ?_ ?_
     ·refine C_block ?_
      refine C_range ho86 (fun k89 _ a w' => ∃ i : (Nat → Prop), Has ⟨97, [], none⟩ a ([(4, v31), (6, .pointer (some ⟨b51, 0, none⟩)), (17, v15), (18, .int .i64 (q.parts.length : Int)), (19, .int .i64 (k21 : Int)), (49, v83), (50, .int .i64 (x44.words.length : Int)), (51, .int .i64 (k89 : Int))]) ∧ Hp w.heap.size i w' (obS (α := ByteArray) 9 v31 s29 :: []) ∧ Tr False w.heap.size A33 w54 i w') (fun a ha => ⟨A33, ha.sub ⟨rfl, rfl, rfl, rfl, rfl, rfl, rfl, rfl, trivial⟩, ⟨hH, Tr.refl (Dw := False) hA⟩⟩) ?_
      rintro K k89 _ a w96 ⟨A97, ha130, hH98, hr88⟩ hle102 K105 h104
      refine C_of ?_ ha130
      replace h85 := Sl.tr (Dw := False) h85 hr88
      replace hK := Tr.trans (Dw := False) hK hr88
      replace hB := Nat.le_trans hB hr88.ex.size
      replace hA := hr88.new
      replace hH : Hp w.heap.size A97 w96 (obS (α := ByteArray) 9 v31 s29 :: []) := hH98
      refine C_seq (C_region (V_y (Y_lss rfl rfl) rfl rfl rfl (V_to (fun _ _ => rfl) ?_)))
      refine C_seq ?_
      refine C_cond rfl (fun hc107 => ?_) (fun hc107 => ?_)
      ·have hlt103 := lt_of_dec hc107
       obtain ⟨x99, h100, h101⟩ := K105 hlt103
       refine C_skip_to (fun _ _ => rfl) ?_
       refine C_seq ?_
       refine C_block ?_
       refine C_seq ?_
       refine C_region ?_
       obtain ⟨x108, hx108, h100⟩ := Option.bind_eq_some_iff.1 h100
       refine V_indexAddr h85 hx108 Tryz.underlying42 Tryz.sizeOf9 rfl rfl rfl ?_
       intro b109 o110 h111
       refine V_y (Y_load (El.str h111) Tryz.isAgg9 rfl) rfl rfl rfl ?_
       refine V_as rfl rfl ?_
       refine V_to (fun _ _ => rfl) ?_
       refine C_seq ?_
       refine C_region ?_
       refine V_mv rfl rfl ?_
       obtain ⟨x112, hx112, h100⟩ := Option.bind_eq_some_iff.1 h100
       refine V_call Tryz.call39 rfl rfl rfl rfl (portref2_WordsOf_c (Dw := False) w96 hA x108 hx112) ?_
       rintro v113 w115 ⟨_, rfl, h114, hk116⟩
       obtain ⟨A117, ht118, hH119⟩ := Hp.addOwnd (Dw := False) hH hB hA hk116 h114
       replace hK := Tr.trans (Dw := False) hK ht118
       replace hr88 := Tr.trans (Dw := False) hr88 ht118
       replace hH : Hp w.heap.size A117 w115 (obS (α := ByteArray) 9 v113 x112 :: obS (α := ByteArray) 9 v31 s29 :: []) := hH119
       refine V_as rfl rfl ?_
       refine V_to (fun _ _ => rfl) ?_
       refine C_seq ?_
       refine C_region ?_
       refine V_mv rfl rfl ?_
       refine V_y (Y_lenSl (Hp.any (α := ByteArray) (e := 9) (v := v113) (l := x112) hH (i := 0) rfl) rfl Tryz.underlying42 rfl) rfl rfl rfl ?_
       refine V_y (Y_neq rfl rfl) rfl rfl rfl ?_
       refine V_mv rfl rfl ?_
       obtain ⟨s121, hs121, h100⟩ := Option.bind_eq_some_iff.1 h100
       refine V_cut 6 (fun _ : Unit => [(4, v31), (6, .pointer (some ⟨b51, 0, none⟩)), (17, v15), (18, .int .i64 (q.parts.length : Int)), (19, .int .i64 (k21 : Int)), (49, v83), (50, .int .i64 (x44.words.length : Int)), (51, .int .i64 (k89 : Int)), (66, .bool s121)]) (fun _ w' => w115 = w') ?_ ?_
       ·simp only [List.take, List.drop]
        rcases Bool.eq_false_or_eq_true ((x112.length : Int) != 1) with hc120 | hc120
        ·rw [if_pos hc120] at hs121
         refine V_gn rfl rfl rfl hc120 rfl rfl rfl ?_
         refine V_gn rfl rfl rfl hc120 rfl rfl rfl ?_
         refine V_gn rfl rfl rfl hc120 rfl rfl rfl ?_
         refine V_gn rfl rfl rfl hc120 rfl rfl rfl ?_
         refine V_gn rfl rfl rfl hc120 rfl rfl rfl ?_
         refine V_y (Y_pick_te rfl hc120 rfl) rfl rfl rfl ?_
         obtain rfl := Option.some.inj hs121
         exact V_end fun a ha => ⟨(), ha.sub ⟨rfl, rfl, rfl, rfl, rfl, rfl, rfl, rfl, rfl, trivial⟩, rfl⟩
        ·rw [if_neg (nt hc120)] at hs121
         refine V_ge rfl rfl rfl hc120 ?_
         refine V_mv rfl rfl ?_
         refine V_ge rfl rfl rfl hc120 ?_
         obtain ⟨x122, hx122, hs121⟩ := Option.bind_eq_some_iff.1 hs121
         refine V_indexAddrH (α := ByteArray) (e := 9) (v := v113) (l := x112) hH (i := 0) rfl hx122 Tryz.underlying42 Tryz.sizeOf9 rfl rfl rfl ?_
         intro b123 o124 h125 hl126
         refine V_ge rfl rfl rfl hc120 ?_
         refine V_y (Y_load (El.str h125) Tryz.isAgg9 rfl) rfl rfl rfl ?_
         refine V_ge rfl rfl rfl hc120 ?_
         refine V_mv rfl rfl ?_
         refine V_ge rfl rfl rfl hc120 ?_
         refine V_y (Y_sneq rfl rfl) rfl rfl rfl ?_
         refine V_y (Y_pick_fe rfl hc120 rfl) rfl rfl rfl ?_
         obtain rfl := Option.some.inj hs121
         exact V_end fun a ha => ⟨(), ha.sub ⟨rfl, rfl, rfl, rfl, rfl, rfl, rfl, rfl, rfl, trivial⟩, rfl⟩
       simp only [List.take, List.drop]
       rintro _ _ rfl
       refine V_to (fun _ _ => rfl) ?_
       refine C_cond rfl (fun hc127 => ?_) (fun hc127 => ?_)
       ·rw [if_pos hc127] at h100
        refine C_seq ?_
        refine C_region ?_
        refine V_as rfl rfl ?_
        refine V_as rfl rfl ?_
        refine V_to (fun _ _ => rfl) ?_
        obtain rfl := Option.some.inj h100
        obtain rfl := (h101 : Lp.rt _ = _)
        rw [Lp.andThen_rt] at h36
        obtain rfl := Option.some.inj h36
        obtain rfl := (h37 : Lp.rt _ = _)
        rw [Lp.andThen_rt] at hm
        obtain rfl := Option.some.inj hm
        refine C_ret ?_
        try simp only [↓inBlock_ret, ↓then_ret]
        exact retQ rfl (Res.two Tryz.results17 rfl rfl) ⟨rfl, hK.kp⟩
       ·rw [if_neg (nt hc127)] at h100
        refine C_skip_to (fun _ _ => rfl) ?_
        refine C_region ?_
        refine V_y (Y_addI rfl rfl) rfl rfl rfl ?_
        refine V_mv rfl rfl ?_
        obtain rfl := Option.some.inj h100
        refine V_end (fun a ha128 => ?_)
        replace hH : Hp w.heap.size A117 w115 (obS (α := ByteArray) 9 v31 s29 :: obS (α := ByteArray) 9 v113 x112 :: []) := Hp.front hH (i := 1) rfl
        replace hH : Hp w.heap.size A117 w115 (obS (α := ByteArray) 9 v31 s29 :: []) := Hp.drop hH (i := 1) rfl
        exact ⟨(), hlt103, h101, ⟨A117, ha128.sub ⟨rfl, rfl, rfl, rfl, rfl, rfl, rfl, (congrArg (fun z => some (Value.int .i64 z)) (w64_succ hlt103 hn106)), trivial⟩, ⟨hH, hr88⟩⟩⟩
      ·refine C_exit (fun a ha129 => ?_)
       exact ⟨((), A97), ha129.sub ⟨rfl, rfl, rfl, rfl, rfl, trivial⟩, ⟨(h104 (eq_of_dec hle102 hc107)).symm, hH, hr88⟩⟩
     rintro ⟨s87, A93⟩ w90 ⟨rfl, hH94, hk91⟩ a ha92
     rw [Lp.andThen_fin] at h36
     replace h59 := El.tr (Dw := False) h59 hk91
     replace hr20 := Tr.trans (Dw := False) hr20 hk91
     replace hB := Nat.le_trans hB hk91.ex.size
     replace hA := hk91.new
     replace hH : Hp w.heap.size A93 w90 (obS (α := ByteArray) 9 v31 s29 :: []) := hH94
     refine C_at (n := ⟨97, [], none⟩) (fun _ _ => rfl) ?_ ha92
     refine C_seq ?_
     refine C_region ?_
     have h131 := El_know_Part_2 h59
     refine V_y (Y_fieldAddr Tryz.underlying44 rfl Tryz.sizeOf42 (by decide) rfl) rfl rfl rfl ?_
     obtain ⟨v132, h133, h134⟩ := El.list h131
     refine V_y (Y_load h133 Tryz.isAgg42 rfl) rfl rfl rfl ?_
     obtain ⟨x135, hx135, h36⟩ := Option.bind_eq_some_iff.1 h36
     refine V_call Tryz.call24 rfl rfl rfl rfl (strings_Join_c w90 hA x44.words v132 h134 (⟨#[32]⟩ : ByteArray) hx135) ?_
     rintro _ w136 ⟨rfl, hk137⟩
     have ht138 := Kp.tr (Dw := False) hk137 hA hB
     replace hH := Hp.kp (Dw := False) hH hk137
     replace h59 := El.tr (Dw := False) h59 ht138
     replace hr20 := Tr.trans (Dw := False) hr20 ht138
     replace hB := Nat.le_trans hB ht138.ex.size
     replace hA := ht138.new
     refine V_as rfl rfl ?_
     refine V_to (fun _ _ => rfl) ?_
     refine C_seq ?_
     refine C_seq ?_
     refine C_region ?_
     have h139 := El_know_Part_0 h59
     refine V_y (Y_fieldAddr Tryz.underlying44 rfl Tryz.sizeOf3 (by decide) rfl) rfl rfl rfl ?_
     refine V_y (Y_load (El.int h139) Tryz.isAgg3 rfl) rfl rfl rfl ?_
     refine V_to (fun _ _ => rfl) ?_
     obtain ⟨s141, ho140, h36⟩ := Option.bind_eq_some_iff.1 h36
     refine C_cutG (ι := Unit) (fun (_ : Unit) => [(4, v31), (6, .pointer (some ⟨b51, 0, none⟩)), (10, .string s141), (17, v15), (18, .int .i64 (q.parts.length : Int)), (19, .int .i64 (k21 : Int))]) (fun (_ : Unit) => fun w' => w136 = w') ?_ ?_
     ·refine C_block ?_
      refine C_seq ?_
      refine C_region ?_
      refine V_y (Y_eql rfl rfl) rfl rfl rfl ?_
      refine V_as rfl rfl ?_
      refine V_to (fun _ _ => rfl) ?_
      obtain ⟨s147, ho146, ho140⟩ := Option.bind_eq_some_iff.1 ho140
      refine C_cutG (ι := Unit) (fun (_ : Unit) => [(4, v31), (6, .pointer (some ⟨b51, 0, none⟩)), (10, .string s147), (17, v15), (18, .int .i64 (q.parts.length : Int)), (19, .int .i64 (k21 : Int))]) (fun (_ : Unit) => fun w' => w136 = w') ?_ ?_
      ·refine C_cond rfl (fun hc152 => ?_) (fun hc152 => ?_)
       ·rw [if_pos hc152] at ho146
        refine C_region ?_
        refine V_mv rfl rfl ?_
        obtain ⟨x153, hx153, ho146⟩ := Option.bind_eq_some_iff.1 ho146
        refine V_y (Y_sadd hx153 rfl rfl) rfl rfl rfl ?_
        obtain ⟨x154, hx154, ho146⟩ := Option.bind_eq_some_iff.1 ho146
        refine V_y (Y_sadd hx154 rfl rfl) rfl rfl rfl ?_
        refine V_as rfl rfl ?_
        obtain rfl := Option.some.inj ho146
        refine V_end (fun a ha155 => ?_)
        exact ⟨(), ha155.sub ⟨rfl, rfl, rfl, rfl, rfl, rfl, trivial⟩, rfl⟩
       ·rw [if_neg (nt hc152)] at ho146
        refine C_seq ?_
        refine C_region ?_
        refine V_y (Y_eql rfl rfl) rfl rfl rfl ?_
        refine V_as rfl rfl ?_
        refine V_to (fun _ _ => rfl) ?_
        obtain ⟨s157, ho156, ho146⟩ := Option.bind_eq_some_iff.1 ho146
        refine C_cutG (ι := Unit) (fun (_ : Unit) => [(4, v31), (6, .pointer (some ⟨b51, 0, none⟩)), (10, .string s157), (17, v15), (18, .int .i64 (q.parts.length : Int)), (19, .int .i64 (k21 : Int))]) (fun (_ : Unit) => fun w' => w136 = w') ?_ ?_
        ·refine C_cond rfl (fun hc162 => ?_) (fun hc162 => ?_)
         ·rw [if_pos hc162] at ho156
          refine C_region ?_
          refine V_mv rfl rfl ?_
          obtain ⟨x163, hx163, ho156⟩ := Option.bind_eq_some_iff.1 ho156
          refine V_y (Y_sadd hx163 rfl rfl) rfl rfl rfl ?_
          refine V_as rfl rfl ?_
          obtain rfl := Option.some.inj ho156
          refine V_end (fun a ha164 => ?_)
          exact ⟨(), ha164.sub ⟨rfl, rfl, rfl, rfl, rfl, rfl, trivial⟩, rfl⟩
         ·rw [if_neg (nt hc162)] at ho156
          obtain rfl := Option.some.inj ho156
          refine C_skip (fun a ha165 => ?_)
          exact ⟨(), ha165.sub ⟨rfl, rfl, rfl, rfl, rfl, rfl, trivial⟩, rfl⟩
        rintro _ _ rfl a ha161
        obtain rfl := Option.some.inj ho146
        exact ⟨(), ha161.sub ⟨rfl, rfl, rfl, rfl, rfl, rfl, trivial⟩, rfl⟩
      rintro _ _ rfl a ha151
      obtain rfl := Option.some.inj ho140
      exact ⟨(), ha151.sub ⟨rfl, rfl, rfl, rfl, rfl, rfl, trivial⟩, rfl⟩
     rintro _ _ rfl a ha145
     refine C_at (n := ⟨97, [], none⟩) (fun _ _ => rfl) ?_ ha145
     refine C_seq ?_
     refine C_seq ?_
     refine C_region ?_
     have h168 := El_know_Part_1 h59
     refine V_y (Y_fieldAddr Tryz.underlying44 rfl Tryz.sizeOf4 (by decide) rfl) rfl rfl rfl ?_
     refine V_y (Y_load (El.bool h168) Tryz.isAgg4 rfl) rfl rfl rfl ?_
     refine V_to (fun _ _ => rfl) ?_
     obtain ⟨s170, ho169, h36⟩ := Option.bind_eq_some_iff.1 h36
     refine C_cutG (ι := Unit) (fun (_ : Unit) => [(4, v31), (10, .string s170), (17, v15), (18, .int .i64 (q.parts.length : Int)), (19, .int .i64 (k21 : Int))]) (fun (_ : Unit) => fun w' => w136 = w') ?_ ?_
     ·refine C_cond rfl (fun hc175 => ?_) (fun hc175 => ?_)
      ·rw [if_pos hc175] at ho169
       refine C_region ?_
       refine V_mv rfl rfl ?_
       obtain ⟨x176, hx176, ho169⟩ := Option.bind_eq_some_iff.1 ho169
       refine V_y (Y_sadd hx176 rfl rfl) rfl rfl rfl ?_
       refine V_as rfl rfl ?_
       obtain rfl := Option.some.inj ho169
       refine V_end (fun a ha177 => ?_)
       exact ⟨(), ha177.sub ⟨rfl, rfl, rfl, rfl, rfl, trivial⟩, rfl⟩
      ·rw [if_neg (nt hc175)] at ho169
       obtain rfl := Option.some.inj ho169
       refine C_skip (fun a ha178 => ?_)
       exact ⟨(), ha178.sub ⟨rfl, rfl, rfl, rfl, rfl, trivial⟩, rfl⟩
     rintro _ _ rfl a ha174
     refine C_at (n := ⟨97, [], none⟩) (fun _ _ => rfl) ?_ ha174
     refine C_region ?_
     refine V_mv rfl rfl ?_
     refine V_mv rfl rfl ?_
     refine V_buildSlice (Dw := False) (l := ([s170] : List ByteArray)) (len := 1) Tryz.underlying42 Tryz.sizeOf9 Tryz.zeroValue9 rfl (by with_unfolding_all rfl) (show (1 * 1 : Nat) ≠ 0 by decide) (show (1 * 1 : Nat) ≤ 2 ^ 24 by decide) hA ⟨[.string s170], _, rfl, rfl, rfl⟩ rfl rfl ?_
     intro v179 w180 hk182 h181
     have ht183 := Kp.tr (Dw := False) hk182 hA hB
     replace hH := Hp.kp (Dw := False) hH hk182
     replace hr20 := Tr.trans (Dw := False) hr20 ht183
     replace hB := Nat.le_trans hB ht183.ex.size
     replace hA := ht183.new
     obtain ⟨x184, hx184, h36⟩ := Option.bind_eq_some_iff.1 h36
     refine V_appendH (Dw := False) (e := 9) (v := v31) (l := s29) (ti := Tryz.t9) (bytes := 16) (lim := 8796093022208) hH (i := 0) rfl h181 hx184 Tryz.underlying42 Tryz_info9 rfl rfl rfl rfl (by decide) (by decide) (by decide) hB hA rfl rfl rfl ?_
     intro v185 w186 A187 hH188 ht189
     replace hr20 := Tr.trans (Dw := False) hr20 ht189
     replace hH : Hp w.heap.size A187 w186 (obS (α := ByteArray) 9 v185 x184 :: []) := hH188
     refine V_as rfl rfl ?_
     refine V_to (fun _ _ => rfl) ?_
     refine C_region ?_
     refine V_y (Y_addI rfl rfl) rfl rfl rfl ?_
     refine V_mv rfl rfl ?_
     obtain rfl := Option.some.inj h36
     refine V_end (fun a ha190 => ?_)
     exact ⟨x184, hlt39, h37, ⟨(v185, A187), ha190.sub ⟨rfl, rfl, rfl, (congrArg (fun z => some (Value.int .i64 z)) (w64_succ hlt39 hn42)), trivial⟩, ⟨hH, hr20⟩⟩⟩
   ·refine C_exit (fun a ha191 => ?_)
    exact ⟨(s29, v31, A33), ha191.sub ⟨rfl, trivial⟩, ⟨(h40 (eq_of_dec hle38 hc43)).symm, hH, hr20⟩⟩
  rintro ⟨s19, v25, A27⟩ w22 ⟨rfl, hH28, hk23⟩ a ha24
  rw [Lp.andThen_fin] at hm
  replace hK := Tr.trans (Dw := False) hK hk23
  replace hB := Nat.le_trans hB hk23.ex.size
  replace hA := hk23.new
  replace hH : Hp w.heap.size A27 w22 (obS (α := ByteArray) 9 v25 s19 :: []) := hH28
  refine C_at (n := ⟨97, [], none⟩) (fun _ _ => rfl) ?_ ha24
  refine C_seq ?_
  refine C_region ?_
  refine V_mv rfl rfl ?_
  obtain ⟨x193, hx193, hm⟩ := Option.bind_eq_some_iff.1 hm
  refine V_call Tryz.call24 rfl rfl rfl rfl (strings_Join_c w22 (A := fun _ => True) (fun _ _ => trivial) s19 v25 (Hp.any (α := ByteArray) (e := 9) (v := v25) (l := s19) hH (i := 0) rfl) (⟨#[32]⟩ : ByteArray) hx193) ?_
  rintro _ w194 ⟨rfl, hk195⟩
  have ht196 := Kp.tr (Dw := False) hk195 hA hB
  replace hK := Tr.trans (Dw := False) hK ht196
  refine V_as rfl rfl ?_
  refine V_to (fun _ _ => rfl) ?_
  refine C_seq ?_
  refine C_seq ?_
  refine C_region ?_
  refine V_mv rfl rfl ?_
  refine V_y (Y_lenStr rfl Tryz.underlying9 rfl) rfl rfl rfl ?_
  refine V_y (Y_gtr rfl rfl) rfl rfl rfl ?_
  refine V_to (fun _ _ => rfl) ?_
  refine C_cond rfl (fun hc197 => ?_) (fun hc197 => ?_)
  ·rw [if_pos hc197] at hm
   refine C_seq ?_
   refine C_region ?_
   refine V_as rfl rfl ?_
   refine V_as rfl rfl ?_
   refine V_to (fun _ _ => rfl) ?_
   obtain rfl := Option.some.inj hm
   refine C_ret ?_
   try simp only [↓inBlock_ret, ↓then_ret]
   exact retQ rfl (Res.two Tryz.results17 rfl rfl) ⟨rfl, hK.kp⟩
  ·rw [if_neg (nt hc197)] at hm
   refine C_skip_to (fun _ _ => rfl) ?_
   refine C_seq ?_
   refine C_region ?_
   refine V_mv rfl rfl ?_
   refine V_as rfl rfl ?_
   refine V_as rfl rfl ?_
   refine V_to (fun _ _ => rfl) ?_
   obtain rfl := Option.some.inj hm
   refine C_ret ?_
   try simp only [↓inBlock_ret, ↓then_ret]
   exact retQ rfl (Res.two Tryz.results17 rfl rfl) ⟨rfl, hK.kp⟩

set_option maxRecDepth 4000 in
set_option maxHeartbeats 4000000 in
theorem slices_IndexFunc_Lstring_string_c (w : World) {A : Nat → Prop} (hA : ∀ b, w.heap.size ≤ b → A b) (s : (List ByteArray)) (v_s : Value) (h_s : Sl A w v_s s) (f : ByteArray → Option Bool) (f_f : FuncId) (f_a f_c : Array Value) (f_call : ∀ (args : Array Value) (w : World), (callFunc f_f args).run Tryz.prog w = .ok (.enter f_f args) w) (f_spec : ∀ (w1 : World) (A1 : Nat → Prop), Tr Dw w.heap.size A w A1 w1 → (∀ b, w1.heap.size ≤ b → A1 b) → ∀ (y0 : ByteArray) (r : Bool), f y0 = some r → Ret Tryz.prog f_f (f_a ++ #[.string y0] ++ f_c) w1 fun v w' => v = .bool r ∧ Kp Dw w1 w') {r : Int} (hm : slices_IndexFunc_Lstring_string s f = some r) : Ret Tryz.prog 78 #[v_s, .func (.func f_f) f_a f_c] w fun v w' => v = .int .i64 r ∧ Kp Dw w w' := by
 unfold slices_IndexFunc_Lstring_string at hm
 refine enter Tryz.func78 rfl Tryz.ntmps78 rfl ?_
 have hA0 := hA
 have hB := Nat.le_refl w.heap.size
 have hK : Tr Dw w.heap.size A w A w := Tr.refl (Dw := Dw) hA
 have hH : Hp w.heap.size A w [] := Hp.nil
 refine C_seq ?_
 refine C_region ?_
 refine V_as rfl rfl ?_
 refine V_to (fun _ _ => rfl) ?_
 refine C_seq ?_
 refine C_seq ?_
 refine C_region ?_
 refine V_mv rfl rfl ?_
 refine V_y (Y_lenSl h_s rfl Tryz.underlying42 rfl) rfl rfl rfl ?_
 refine V_mv rfl rfl ?_
 refine V_to (fun _ _ => rfl) ?_
 have hn23 := Sl.le h_s
 obtain ⟨o3, ho3, hm⟩ := Option.bind_eq_some_iff.1 hm
 refine C_cutG (ι := (Unit × (Nat → Prop))) (fun ⟨s4, A10⟩ => []) (fun ⟨s4, A10⟩ => fun w' => o3 = .fin s4 ∧ Hp w.heap.size A10 w' ([]) ∧ Tr Dw w.heap.size A w A10 w') ?_ ?_
 ·refine C_block ?_
  refine C_range ho3 (fun k6 _ a w' => ∃ i : (Nat → Prop), Has ⟨19, [], none⟩ a ([(0, v_s), (1, .func (.func f_f) f_a f_c), (7, .int .i64 (s.length : Int)), (8, .int .i64 (k6 : Int))]) ∧ Hp w.heap.size i w' ([]) ∧ Tr Dw w.heap.size A w i w') (fun a ha => ⟨A, ha.sub ⟨rfl, rfl, rfl, rfl, trivial⟩, ⟨hH, Tr.refl (Dw := Dw) hA⟩⟩) ?_
  rintro K k6 _ a w13 ⟨A14, ha36, hH15, hr5⟩ hle19 K22 h21
  refine C_of ?_ ha36
  replace h_s := Sl.tr h_s hr5
  replace hK := Tr.trans hK hr5
  replace hB := Nat.le_trans hB hr5.ex.size
  replace hA := hr5.new
  replace hH : Hp w.heap.size A14 w13 ([]) := hH15
  refine C_seq (C_region (V_y (Y_lss rfl rfl) rfl rfl rfl (V_to (fun _ _ => rfl) ?_)))
  refine C_seq ?_
  refine C_cond rfl (fun hc24 => ?_) (fun hc24 => ?_)
  ·have hlt20 := lt_of_dec hc24
   obtain ⟨x16, h17, h18⟩ := K22 hlt20
   refine C_skip_to (fun _ _ => rfl) ?_
   refine C_seq ?_
   refine C_block ?_
   refine C_seq ?_
   refine C_region ?_
   refine V_mv rfl rfl ?_
   refine V_as rfl rfl ?_
   refine V_to (fun _ _ => rfl) ?_
   refine C_seq ?_
   refine C_region ?_
   refine V_mv rfl rfl ?_
   refine V_mv rfl rfl ?_
   refine V_mv rfl rfl ?_
   obtain ⟨x25, hx25, h17⟩ := Option.bind_eq_some_iff.1 h17
   refine V_indexAddr h_s hx25 Tryz.underlying42 Tryz.sizeOf9 rfl rfl rfl ?_
   intro b26 o27 h28
   refine V_y (Y_load (El.str h28) Tryz.isAgg9 rfl) rfl rfl rfl ?_
   obtain ⟨x29, hx29, h17⟩ := Option.bind_eq_some_iff.1 h17
   refine V_call f_call rfl rfl rfl rfl (f_spec w13 _ hK hA x25 _ hx29) ?_
   rintro _ w30 ⟨rfl, hk31⟩
   have ht32 := Kp.tr hk31 hA hB
   replace hH := Hp.kp hH hk31
   replace hK := Tr.trans hK ht32
   replace hr5 := Tr.trans hr5 ht32
   refine V_to (fun _ _ => rfl) ?_
   refine C_cond rfl (fun hc33 => ?_) (fun hc33 => ?_)
   ·rw [if_pos hc33] at h17
    refine C_seq ?_
    refine C_region ?_
    refine V_mv rfl rfl ?_
    refine V_as rfl rfl ?_
    refine V_to (fun _ _ => rfl) ?_
    obtain rfl := Option.some.inj h17
    obtain rfl := (h18 : Lp.rt _ = _)
    rw [Lp.andThen_rt] at hm
    obtain rfl := Option.some.inj hm
    refine C_ret ?_
    try simp only [↓inBlock_ret, ↓then_ret]
    exact retQ rfl (Res.one Tryz.results78 rfl) ⟨rfl, hK.kp⟩
   ·rw [if_neg (nt hc33)] at h17
    refine C_skip_to (fun _ _ => rfl) ?_
    refine C_region ?_
    refine V_y (Y_addI rfl rfl) rfl rfl rfl ?_
    refine V_mv rfl rfl ?_
    obtain rfl := Option.some.inj h17
    refine V_end (fun a ha34 => ?_)
    exact ⟨(), hlt20, h18, ⟨A14, ha34.sub ⟨rfl, rfl, rfl, (congrArg (fun z => some (Value.int .i64 z)) (w64_succ hlt20 hn23)), trivial⟩, ⟨hH, hr5⟩⟩⟩
  ·refine C_exit (fun a ha35 => ?_)
   exact ⟨((), A14), ha35.sub trivial, ⟨(h21 (eq_of_dec hle19 hc24)).symm, hH, hr5⟩⟩
 rintro ⟨s4, A10⟩ w7 ⟨rfl, hH11, hk8⟩ a ha9
 rw [Lp.andThen_fin] at hm
 replace hK := Tr.trans hK hk8
 replace hA := hk8.new
 replace hH : Hp w.heap.size A10 w7 ([]) := hH11
 refine C_at (n := ⟨19, [], none⟩) (fun _ _ => rfl) ?_ ha9
 refine C_seq ?_
 refine C_region ?_
 refine V_as rfl rfl ?_
 refine V_to (fun _ _ => rfl) ?_
 obtain rfl := Option.some.inj hm
 refine C_ret ?_
 try simp only [↓inBlock_ret, ↓then_ret]
 exact retQ rfl (Res.one Tryz.results78 rfl) ⟨rfl, hK.kp⟩

set_option maxRecDepth 4000 in
set_option maxHeartbeats 4000000 in
theorem slices_ContainsFunc_Lstring_string_c (w : World) {A : Nat → Prop} (hA : ∀ b, w.heap.size ≤ b → A b) (s : (List ByteArray)) (v_s : Value) (h_s : Sl A w v_s s) (f : ByteArray → Option Bool) (f_f : FuncId) (f_a f_c : Array Value) (f_call : ∀ (args : Array Value) (w : World), (callFunc f_f args).run Tryz.prog w = .ok (.enter f_f args) w) (f_spec : ∀ (w1 : World) (A1 : Nat → Prop), Tr Dw w.heap.size A w A1 w1 → (∀ b, w1.heap.size ≤ b → A1 b) → ∀ (y0 : ByteArray) (r : Bool), f y0 = some r → Ret Tryz.prog f_f (f_a ++ #[.string y0] ++ f_c) w1 fun v w' => v = .bool r ∧ Kp Dw w1 w') {r : Bool} (hm : slices_ContainsFunc_Lstring_string s f = some r) : Ret Tryz.prog 48 #[v_s, .func (.func f_f) f_a f_c] w fun v w' => v = .bool r ∧ Kp Dw w w' := by
 unfold slices_ContainsFunc_Lstring_string at hm
 refine enter Tryz.func48 rfl Tryz.ntmps48 rfl ?_
 have hA0 := hA
 have hB := Nat.le_refl w.heap.size
 have hK : Tr Dw w.heap.size A w A w := Tr.refl (Dw := Dw) hA
 have hH : Hp w.heap.size A w [] := Hp.nil
 refine C_seq ?_
 refine C_region ?_
 refine V_as rfl rfl ?_
 refine V_to (fun _ _ => rfl) ?_
 refine C_seq ?_
 refine C_region ?_
 refine V_mv rfl rfl ?_
 refine V_mv rfl rfl ?_
 obtain ⟨x3, hx3, hm⟩ := Option.bind_eq_some_iff.1 hm
 refine V_call Tryz.call78 rfl rfl rfl rfl (slices_IndexFunc_Lstring_string_c (Dw := Dw) w hA s v_s h_s f f_f f_a f_c f_call (fun w1 A1 ht => f_spec w1 A1 (Tr.trans hK (Tr.lower (Dw := Dw) ht hB))) hx3) ?_
 rintro _ w4 ⟨rfl, hk5⟩
 have ht6 := Kp.tr hk5 hA hB
 replace hK := Tr.trans hK ht6
 refine V_y (Y_geq rfl rfl) rfl rfl rfl ?_
 refine V_as rfl rfl ?_
 refine V_to (fun _ _ => rfl) ?_
 obtain rfl := Option.some.inj hm
 refine C_ret ?_
 try simp only [↓inBlock_ret, ↓then_ret]
 exact retQ rfl (Res.one Tryz.results48 rfl) ⟨rfl, hK.kp⟩

def Tryz_strings_Trim_lay_ren : Go.Shelf.Ren := ⟨fun | 119 => 120 | 120 => 118 | 137 => 119 | 151 => 113 | 152 => 117 | 160 => 76 | 197 => 112 | 217 => 123 | 224 => 121 | 225 => 122 | 227 => 98 | 228 => 111 | 231 => 96 | 232 => 97 | 233 => 99 | 234 => 100 | 235 => 101 | 236 => 102 | 260 => 116 | 266 => 124 | 271 => 114 | n => n, fun | 0 => 0 | 1 => 1 | 2 => 2 | 3 => 3 | 4 => 4 | 5 => 5 | 6 => 6 | 7 => 7 | 8 => 8 | 9 => 9 | 10 => 10 | 11 => 11 | 12 => 12 | 13 => 13 | 14 => 14 | 15 => 15 | 16 => 16 | 17 => 17 | 18 => 18 | 19 => 19 | 20 => 20 | 21 => 21 | 22 => 61 | 23 => 118 | 27 => 105 | 28 => 22 | 29 => 87 | 30 => 80 | 31 => 42 | 37 => 95 | 40 => 159 | 41 => 90 | 43 => 77 | 46 => 74 | 47 => 73 | 51 => 114 | 52 => 113 | 53 => 116 | 54 => 115 | 55 => 158 | 63 => 149 | 64 => 153 | 67 => 59 | 68 => 57 | 69 => 63 | 70 => 94 | 71 => 96 | 72 => 97 | 73 => 98 | 74 => 99 | 75 => 100 | 76 => 101 | 77 => 102 | 80 => 103 | 81 => 166 | 104 => 89 | 105 => 147 | 106 => 148 | 111 => 108 | 112 => 120 | 114 => 160 | 115 => 132 | 116 => 133 | 117 => 134 | 118 => 135 | 119 => 154 | 122 => 131 | 123 => 136 | 124 => 137 | 127 => 122 | 131 => 91 | 137 => 155 | 138 => 156 | 139 => 157 | 164 => 138 | 165 => 139 | 166 => 140 | 182 => 125 | 183 => 126 | 218 => 141 | 219 => 142 | 220 => 143 | 222 => 145 | 228 => 150 | 229 => 151 | 238 => 161 | 239 => 162 | 240 => 163 | 241 => 164 | 242 => 165 | 243 => 167 | 244 => 168 | 245 => 169 | 246 => 170 | 247 => 171 | 248 => 172 | 249 => 173 | n => n, fun | 1 => 0 | 3 => 1 | 4 => 2 | n => n⟩
theorem Tryz_strings_Trim_lay : Go.Proofs.Lays.n160 Tryz.prog Tryz_strings_Trim_lay_ren := {
 mixed := by kernel_rfl,
 f119 := Tryz.func120.trans (congrArg some (by kernel_rfl)),
 f120 := Tryz.func118.trans (congrArg some (by kernel_rfl)),
 f137 := Tryz.func119.trans (congrArg some (by kernel_rfl)),
 f151 := Tryz.func113.trans (congrArg some (by kernel_rfl)),
 f152 := Tryz.func117.trans (congrArg some (by kernel_rfl)),
 f160 := Tryz.func76.trans (congrArg some (by kernel_rfl)),
 f197 := Tryz.func112.trans (congrArg some (by kernel_rfl)),
 f217 := Tryz.func123.trans (congrArg some (by kernel_rfl)),
 f224 := Tryz.func121.trans (congrArg some (by kernel_rfl)),
 f225 := Tryz.func122.trans (congrArg some (by kernel_rfl)),
 f227 := Tryz.func98.trans (congrArg some (by kernel_rfl)),
 f228 := Tryz.func111.trans (congrArg some (by kernel_rfl)),
 f231 := Tryz.func96.trans (congrArg some (by kernel_rfl)),
 f232 := Tryz.func97.trans (congrArg some (by kernel_rfl)),
 f233 := Tryz.func99.trans (congrArg some (by kernel_rfl)),
 f234 := Tryz.func100.trans (congrArg some (by kernel_rfl)),
 f235 := Tryz.func101.trans (congrArg some (by kernel_rfl)),
 f236 := Tryz.func102.trans (congrArg some (by kernel_rfl)),
 f260 := Tryz.func116.trans (congrArg some (by kernel_rfl)),
 f266 := Tryz.func124.trans (congrArg some (by kernel_rfl)),
 f271 := Tryz.func114.trans (congrArg some (by kernel_rfl)),
 t0 := Tryz.underlying0,
 a0 := Tryz.isAgg0,
 z0 := Tryz.sizeOf0,
 v0 := Tryz.zeroValue0,
 t3 := Tryz.underlying3,
 a3 := Tryz.isAgg3,
 z3 := Tryz.sizeOf3,
 v3 := Tryz.zeroValue3,
 t4 := Tryz.underlying4,
 a4 := Tryz.isAgg4,
 z4 := Tryz.sizeOf4,
 v4 := Tryz.zeroValue4,
 t5 := Tryz.underlying5,
 a5 := Tryz.isAgg5,
 z5 := Tryz.sizeOf5,
 v5 := Tryz.zeroValue5,
 t9 := Tryz.underlying9,
 a9 := Tryz.isAgg9,
 z9 := Tryz.sizeOf9,
 v9 := Tryz.zeroValue9,
 t21 := Tryz.underlying21,
 a21 := Tryz.isAgg21,
 z21 := Tryz.sizeOf21,
 v21 := Tryz.zeroValue21,
 t46 := Tryz.underlying74,
 a46 := Tryz.isAgg74,
 z46 := Tryz.sizeOf74,
 v46 := Tryz.zeroValue74,
 t105 := Tryz.underlying147,
 a105 := Tryz.isAgg147,
 z105 := Tryz.sizeOf147,
 v105 := Tryz.zeroValue147,
 t116 := Tryz.underlying133,
 a116 := Tryz.isAgg133,
 z116 := Tryz.sizeOf133,
 t117 := Tryz.underlying134,
 a117 := Tryz.isAgg134,
 z117 := Tryz.sizeOf134,
 v117 := Tryz.zeroValue134,
 t119 := Tryz.underlying154,
 a119 := Tryz.isAgg154,
 z119 := Tryz.sizeOf154,
 t124 := Tryz.underlying137,
 a124 := Tryz.isAgg137,
 z124 := Tryz.sizeOf137,
 v124 := Tryz.zeroValue137,
 t138 := Tryz.underlying156,
 a138 := Tryz.isAgg156,
 z138 := Tryz.sizeOf156,
 v138 := Tryz.zeroValue156,
 t139 := Tryz.underlying157,
 a139 := Tryz.isAgg157,
 z139 := Tryz.sizeOf157,
 v139 := Tryz.zeroValue157,
 g3 := by kernel_rfl,
 g4 := by kernel_rfl }
theorem strings_Trim_c (w : World) {A : Nat → Prop} (hA : ∀ b, w.heap.size ≤ b → A b) (s : ByteArray) (cutset : ByteArray) {r : ByteArray} (hm : strings_Trim s cutset = some r) : Ret Tryz.prog 76 #[.string s, .string cutset] w fun v w' => v = .string r ∧ Kp False w w' := by
 unfold strings_Trim at hm
 split at hm
 case isFalse => cases hm
 rename_i h
 obtain rfl := Option.some.inj hm
 refine Calls.mono (Go.Proofs.Any.strings_Trim_laid Tryz_strings_Trim_lay (by kernel_rfl) s cutset w h.1 h.2.1 (Go.Proofs.ascii_of_all h.2.2)) ?_
 rintro _ w' ⟨rfl, hk⟩
 exact ⟨_, rfl, rfl, .of hk⟩

set_option maxRecDepth 4000 in
set_option maxHeartbeats 4000000 in
theorem portref2_StemOf_1_c (w : World) {A : Nat → Prop} (s : ByteArray) (p1 : ByteArray) (b_p1 : Nat) (h_p1 : El A w b_p1 0 p1) {r : Bool} (hm : portref2_StemOf_1 s p1 = some r) : Ret Tryz.prog 77 #[.string s, .pointer (some ⟨b_p1, 0, none⟩)] w fun v w' => v = .bool r ∧ w = w' := by
 unfold portref2_StemOf_1 at hm
 refine enter Tryz.func77 rfl Tryz.ntmps77 rfl ?_
 refine C_seq ?_
 refine C_region ?_
 refine V_as rfl rfl ?_
 refine V_to (fun _ _ => rfl) ?_
 refine C_seq ?_
 refine C_region ?_
 refine V_y (Y_load (El.str h_p1) Tryz.isAgg9 rfl) rfl rfl rfl ?_
 refine V_mv rfl rfl ?_
 obtain ⟨x1, hx1, hm⟩ := Option.bind_eq_some_iff.1 hm
 refine V_call Tryz.call60 rfl rfl rfl rfl (strings_HasSuffix_c w p1 s hx1) ?_
 rintro _ _ ⟨rfl, rfl⟩
 refine V_as rfl rfl ?_
 refine V_to (fun _ _ => rfl) ?_
 obtain rfl := Option.some.inj hm
 refine C_ret ?_
 try simp only [↓inBlock_ret, ↓then_ret]
 exact retQ rfl (Res.one Tryz.results77 rfl) ⟨rfl, rfl⟩

set_option maxRecDepth 4000 in
set_option maxHeartbeats 4000000 in
theorem portref2_StemOf_c (w : World) {A : Nat → Prop} (hA : ∀ b, w.heap.size ≤ b → A b) (w_ : ByteArray) {r : ByteArray} (hm : portref2_StemOf w_ = some r) : Ret Tryz.prog 46 #[.string w_] w fun v w' => v = .string r ∧ Kp False w w' := by
 unfold portref2_StemOf at hm
 refine enter Tryz.func46 rfl Tryz.ntmps46 rfl ?_
 have hA0 := hA
 have hB := Nat.le_refl w.heap.size
 have hK : Tr False w.heap.size A w A w := Tr.refl (Dw := False) hA
 have hH : Hp w.heap.size A w [] := Hp.nil
 refine C_seq ?_
 refine C_region ?_
 refine V_box rfl rfl ?_
 intro b1 w2 h3
 have hk5 := h3.kp (Dw := False)
 have h4 : El (α := ByteArray) A w2 b1 0 w_ := h3.el hA rfl
 have ht6 := Kp.tr (Dw := False) hk5 hA hB
 replace hH := Hp.kp (Dw := False) hH hk5
 replace hK := Tr.trans (Dw := False) hK ht6
 replace hB := Nat.le_trans hB ht6.ex.size
 replace hA := ht6.new
 refine V_as rfl rfl ?_
 refine V_to (fun _ _ => rfl) ?_
 refine C_seq ?_
 refine C_region ?_
 refine V_y (Y_load (El.str h4) Tryz.isAgg9 rfl) rfl rfl rfl ?_
 refine V_y (Y_lenStr rfl Tryz.underlying9 rfl) rfl rfl rfl ?_
 refine V_as rfl rfl ?_
 refine V_to (fun _ _ => rfl) ?_
 refine C_seq ?_
 refine C_seq ?_
 obtain ⟨s8, ho7, hm⟩ := Option.bind_eq_some_iff.1 hm
 refine C_cutG (ι := (Nat → Prop)) (fun (A13 : (Nat → Prop)) => [(1, .pointer (some ⟨b1, 0, none⟩)), (3, .int .i64 (w_.size : Int)), (13, .bool s8)]) (fun (A13 : (Nat → Prop)) => fun w' => Hp w.heap.size A13 w' ([]) ∧ Tr False w.heap.size A w2 A13 w') ?_ ?_
 ·have hr9 : Tr False w.heap.size A w2 A w2 := Tr.refl (Dw := False) hA
  refine C_region ?_
  refine V_mv rfl rfl ?_
  refine V_y (Y_lss rfl rfl) rfl rfl rfl ?_
  refine V_mv rfl rfl ?_
  rcases Bool.eq_false_or_eq_true (decide ((w_.size : Int) < 4)) with hc15 | hc15
  ·rw [if_pos hc15] at ho7
   refine V_gn rfl rfl rfl hc15 rfl rfl rfl ?_
   refine V_gn rfl rfl rfl hc15 rfl rfl rfl ?_
   refine V_gn rfl rfl rfl hc15 rfl rfl rfl ?_
   refine V_y (Y_pick_te rfl hc15 rfl) rfl rfl rfl ?_
   obtain rfl := Option.some.inj ho7
   refine V_end (fun a ha16 => ?_)
   exact ⟨A, ha16.sub ⟨rfl, rfl, rfl, trivial⟩, ⟨hH, hr9⟩⟩
  ·rw [if_neg (nt hc15)] at ho7
   refine V_ge rfl rfl rfl hc15 ?_
   refine V_y (Y_load (El.str h4) Tryz.isAgg9 rfl) rfl rfl rfl ?_
   refine V_ge rfl rfl rfl hc15 ?_
   obtain ⟨x17, hx17, ho7⟩ := Option.bind_eq_some_iff.1 ho7
   refine V_call Tryz.call76 rfl rfl rfl rfl (strings_Trim_c w2 hA w_ (⟨#[97, 98, 99, 100, 101, 102, 103, 104, 105, 106, 107, 108, 109, 110, 111, 112, 113, 114, 115, 116, 117, 118, 119, 120, 121, 122]⟩ : ByteArray) hx17) ?_
   rintro _ w18 ⟨rfl, hk19⟩
   have ht20 := Kp.tr (Dw := False) hk19 hA hB
   replace hH := Hp.kp (Dw := False) hH hk19
   replace hr9 := Tr.trans (Dw := False) hr9 ht20
   refine V_ge rfl rfl rfl hc15 ?_
   refine V_y (Y_sneq rfl rfl) rfl rfl rfl ?_
   refine V_y (Y_pick_fe rfl hc15 rfl) rfl rfl rfl ?_
   obtain rfl := Option.some.inj ho7
   refine V_end (fun a ha21 => ?_)
   exact ⟨A, ha21.sub ⟨rfl, rfl, rfl, trivial⟩, ⟨hH, hr9⟩⟩
 rintro A13 w10 ⟨hH14, hk11⟩ a ha12
 replace h4 := El.tr (Dw := False) h4 hk11
 replace hK := Tr.trans (Dw := False) hK hk11
 replace hA := hk11.new
 replace hH : Hp w.heap.size A13 w10 ([]) := hH14
 refine C_at (n := ⟨65, [], none⟩) (fun _ _ => rfl) ?_ ha12
 refine C_cond rfl (fun hc22 => ?_) (fun hc22 => ?_)
 ·rw [if_pos hc22] at hm
  refine C_seq ?_
  refine C_region ?_
  refine V_y (Y_load (El.str h4) Tryz.isAgg9 rfl) rfl rfl rfl ?_
  refine V_as rfl rfl ?_
  refine V_to (fun _ _ => rfl) ?_
  obtain rfl := Option.some.inj hm
  refine C_ret ?_
  try simp only [↓inBlock_ret, ↓then_ret]
  exact retQ rfl (Res.one Tryz.results46 rfl) ⟨rfl, hK.kp⟩
 ·rw [if_neg (nt hc22)] at hm
  refine C_skip_to (fun _ _ => rfl) ?_
  refine C_seq ?_
  refine C_region ?_
  refine V_y (Y_makeFunc rfl rfl) rfl rfl rfl ?_
  refine V_as rfl rfl ?_
  refine V_to (fun _ _ => rfl) ?_
  refine C_seq ?_
  refine C_block ?_
  refine C_seq ?_
  refine C_region ?_
  refine V_mv rfl rfl ?_
  obtain ⟨x23, hx23, hm⟩ := Option.bind_eq_some_iff.1 hm
  refine V_call Tryz.call77 rfl rfl rfl rfl (portref2_StemOf_1_c w10 (⟨#[105, 101, 115]⟩ : ByteArray) w_ b1 h4 hx23) ?_
  rintro _ _ ⟨rfl, rfl⟩
  refine V_as rfl rfl ?_
  refine V_to (fun _ _ => rfl) ?_
  refine C_cond rfl (fun hc24 => ?_) (fun hc24 => ?_)
  ·rw [if_pos hc24] at hm
   refine C_seq ?_
   refine C_region ?_
   refine V_y (Y_load (El.str h4) Tryz.isAgg9 rfl) rfl rfl rfl ?_
   refine V_mv rfl rfl ?_
   refine V_y (Y_subI rfl rfl) rfl rfl rfl ?_
   obtain ⟨x25, hx25, hm⟩ := Option.bind_eq_some_iff.1 hm
   refine V_y (Y_sliceSH hx25 Tryz.underlying9 rfl rfl) rfl rfl rfl ?_
   obtain ⟨x26, hx26, hm⟩ := Option.bind_eq_some_iff.1 hm
   refine V_y (Y_sadd hx26 rfl rfl) rfl rfl rfl ?_
   refine V_as rfl rfl ?_
   refine V_to (fun _ _ => rfl) ?_
   obtain rfl := Option.some.inj hm
   refine C_ret ?_
   try simp only [↓inBlock_ret, ↓then_ret]
   exact retQ rfl (Res.one Tryz.results46 rfl) ⟨rfl, hK.kp⟩
  ·rw [if_neg (nt hc24)] at hm
   refine C_seq ?_
   refine C_region ?_
   refine V_mv rfl rfl ?_
   obtain ⟨x27, hx27, hm⟩ := Option.bind_eq_some_iff.1 hm
   refine V_call Tryz.call77 rfl rfl rfl rfl (portref2_StemOf_1_c w10 (⟨#[115, 115, 101, 115]⟩ : ByteArray) w_ b1 h4 hx27) ?_
   rintro _ _ ⟨rfl, rfl⟩
   refine V_as rfl rfl ?_
   refine V_to (fun _ _ => rfl) ?_
   refine C_cond rfl (fun hc28 => ?_) (fun hc28 => ?_)
   ·rw [if_pos hc28] at hm
    refine C_seq ?_
    refine C_region ?_
    refine V_y (Y_load (El.str h4) Tryz.isAgg9 rfl) rfl rfl rfl ?_
    refine V_mv rfl rfl ?_
    refine V_y (Y_subI rfl rfl) rfl rfl rfl ?_
    obtain ⟨x29, hx29, hm⟩ := Option.bind_eq_some_iff.1 hm
    refine V_y (Y_sliceSH hx29 Tryz.underlying9 rfl rfl) rfl rfl rfl ?_
    refine V_as rfl rfl ?_
    refine V_to (fun _ _ => rfl) ?_
    obtain rfl := Option.some.inj hm
    refine C_ret ?_
    try simp only [↓inBlock_ret, ↓then_ret]
    exact retQ rfl (Res.one Tryz.results46 rfl) ⟨rfl, hK.kp⟩
   ·rw [if_neg (nt hc28)] at hm
    refine C_seq ?_
    refine C_region ?_
    refine V_mv rfl rfl ?_
    obtain ⟨x30, hx30, hm⟩ := Option.bind_eq_some_iff.1 hm
    refine V_call Tryz.call77 rfl rfl rfl rfl (portref2_StemOf_1_c w10 (⟨#[115, 115]⟩ : ByteArray) w_ b1 h4 hx30) ?_
    rintro _ _ ⟨rfl, rfl⟩
    refine V_as rfl rfl ?_
    refine V_to (fun _ _ => rfl) ?_
    refine C_cond rfl (fun hc31 => ?_) (fun hc31 => ?_)
    ·rw [if_pos hc31] at hm
     refine C_seq ?_
     refine C_region ?_
     refine V_y (Y_load (El.str h4) Tryz.isAgg9 rfl) rfl rfl rfl ?_
     refine V_as rfl rfl ?_
     refine V_to (fun _ _ => rfl) ?_
     obtain rfl := Option.some.inj hm
     refine C_ret ?_
     try simp only [↓inBlock_ret, ↓then_ret]
     exact retQ rfl (Res.one Tryz.results46 rfl) ⟨rfl, hK.kp⟩
    ·rw [if_neg (nt hc31)] at hm
     refine C_seq ?_
     refine C_region ?_
     refine V_mv rfl rfl ?_
     obtain ⟨x32, hx32, hm⟩ := Option.bind_eq_some_iff.1 hm
     refine V_call Tryz.call77 rfl rfl rfl rfl (portref2_StemOf_1_c w10 (⟨#[115]⟩ : ByteArray) w_ b1 h4 hx32) ?_
     rintro _ _ ⟨rfl, rfl⟩
     refine V_as rfl rfl ?_
     refine V_to (fun _ _ => rfl) ?_
     refine C_cond rfl (fun hc33 => ?_) (fun hc33 => ?_)
     ·rw [if_pos hc33] at hm
      refine C_seq ?_
      refine C_region ?_
      refine V_y (Y_load (El.str h4) Tryz.isAgg9 rfl) rfl rfl rfl ?_
      refine V_mv rfl rfl ?_
      refine V_y (Y_subI rfl rfl) rfl rfl rfl ?_
      obtain ⟨x34, hx34, hm⟩ := Option.bind_eq_some_iff.1 hm
      refine V_y (Y_sliceSH hx34 Tryz.underlying9 rfl rfl) rfl rfl rfl ?_
      refine V_as rfl rfl ?_
      refine V_to (fun _ _ => rfl) ?_
      obtain rfl := Option.some.inj hm
      refine C_ret ?_
      try simp only [↓inBlock_ret, ↓then_ret]
      exact retQ rfl (Res.one Tryz.results46 rfl) ⟨rfl, hK.kp⟩
     ·rw [if_neg (nt hc33)] at hm
      refine C_seq ?_
      refine C_region ?_
      refine V_mv rfl rfl ?_
      obtain ⟨x35, hx35, hm⟩ := Option.bind_eq_some_iff.1 hm
      refine V_call Tryz.call77 rfl rfl rfl rfl (portref2_StemOf_1_c w10 (⟨#[105, 110, 103]⟩ : ByteArray) w_ b1 h4 hx35) ?_
      rintro _ _ ⟨rfl, rfl⟩
      refine V_mv rfl rfl ?_
      refine V_cut 3 (fun _ : Unit => [(1, .pointer (some ⟨b1, 0, none⟩)), (3, .int .i64 (w_.size : Int)), (4, .func (.func 77) #[] #[.pointer (some ⟨b1, 0, none⟩)]), (48, .bool (x35 && (decide ((6 : Int) ≤ (w_.size : Int)))))]) (fun _ w' => w10 = w') ?_ ?_
      ·simp only [List.take, List.drop]
       rcases Bool.eq_false_or_eq_true (x35) with hc36 | hc36
       ·refine V_ge rfl rfl rfl hc36 ?_
        refine V_mv rfl rfl ?_
        refine V_ge rfl rfl rfl hc36 ?_
        refine V_y (Y_geq rfl rfl) rfl rfl rfl ?_
        refine V_y (Y_pick_te rfl hc36 rfl) rfl rfl rfl ?_
        exact V_end fun a ha => ⟨(), ha.sub ⟨rfl, rfl, rfl, (by rw [hc36]; rfl), trivial⟩, rfl⟩
       ·refine V_gn rfl rfl rfl hc36 rfl rfl rfl ?_
        refine V_gn rfl rfl rfl hc36 rfl rfl rfl ?_
        refine V_y (Y_pick_fe rfl hc36 rfl) rfl rfl rfl ?_
        exact V_end fun a ha => ⟨(), ha.sub ⟨rfl, rfl, rfl, (by rw [hc36]; rfl), trivial⟩, rfl⟩
      simp only [List.take, List.drop]
      rintro _ _ rfl
      refine V_as rfl rfl ?_
      refine V_to (fun _ _ => rfl) ?_
      refine C_cond rfl (fun hc38 => ?_) (fun hc38 => ?_)
      ·rw [if_pos hc38] at hm
       refine C_seq ?_
       refine C_region ?_
       refine V_y (Y_load (El.str h4) Tryz.isAgg9 rfl) rfl rfl rfl ?_
       refine V_mv rfl rfl ?_
       refine V_y (Y_subI rfl rfl) rfl rfl rfl ?_
       obtain ⟨x39, hx39, hm⟩ := Option.bind_eq_some_iff.1 hm
       refine V_y (Y_sliceSH hx39 Tryz.underlying9 rfl rfl) rfl rfl rfl ?_
       refine V_as rfl rfl ?_
       refine V_to (fun _ _ => rfl) ?_
       obtain rfl := Option.some.inj hm
       refine C_ret ?_
       try simp only [↓inBlock_ret, ↓then_ret]
       exact retQ rfl (Res.one Tryz.results46 rfl) ⟨rfl, hK.kp⟩
      ·rw [if_neg (nt hc38)] at hm
       refine C_seq ?_
       refine C_region ?_
       refine V_mv rfl rfl ?_
       obtain ⟨x40, hx40, hm⟩ := Option.bind_eq_some_iff.1 hm
       refine V_call Tryz.call77 rfl rfl rfl rfl (portref2_StemOf_1_c w10 (⟨#[101, 100]⟩ : ByteArray) w_ b1 h4 hx40) ?_
       rintro _ _ ⟨rfl, rfl⟩
       refine V_mv rfl rfl ?_
       refine V_cut 3 (fun _ : Unit => [(1, .pointer (some ⟨b1, 0, none⟩)), (3, .int .i64 (w_.size : Int)), (59, .bool (x40 && (decide ((5 : Int) ≤ (w_.size : Int)))))]) (fun _ w' => w10 = w') ?_ ?_
       ·simp only [List.take, List.drop]
        rcases Bool.eq_false_or_eq_true (x40) with hc41 | hc41
        ·refine V_ge rfl rfl rfl hc41 ?_
         refine V_mv rfl rfl ?_
         refine V_ge rfl rfl rfl hc41 ?_
         refine V_y (Y_geq rfl rfl) rfl rfl rfl ?_
         refine V_y (Y_pick_te rfl hc41 rfl) rfl rfl rfl ?_
         exact V_end fun a ha => ⟨(), ha.sub ⟨rfl, rfl, (by rw [hc41]; rfl), trivial⟩, rfl⟩
        ·refine V_gn rfl rfl rfl hc41 rfl rfl rfl ?_
         refine V_gn rfl rfl rfl hc41 rfl rfl rfl ?_
         refine V_y (Y_pick_fe rfl hc41 rfl) rfl rfl rfl ?_
         exact V_end fun a ha => ⟨(), ha.sub ⟨rfl, rfl, (by rw [hc41]; rfl), trivial⟩, rfl⟩
       simp only [List.take, List.drop]
       rintro _ _ rfl
       refine V_as rfl rfl ?_
       refine V_to (fun _ _ => rfl) ?_
       refine C_cond rfl (fun hc43 => ?_) (fun hc43 => ?_)
       ·rw [if_pos hc43] at hm
        refine C_seq ?_
        refine C_region ?_
        refine V_y (Y_load (El.str h4) Tryz.isAgg9 rfl) rfl rfl rfl ?_
        refine V_mv rfl rfl ?_
        refine V_y (Y_subI rfl rfl) rfl rfl rfl ?_
        obtain ⟨x44, hx44, hm⟩ := Option.bind_eq_some_iff.1 hm
        refine V_y (Y_sliceSH hx44 Tryz.underlying9 rfl rfl) rfl rfl rfl ?_
        refine V_as rfl rfl ?_
        refine V_to (fun _ _ => rfl) ?_
        obtain rfl := Option.some.inj hm
        refine C_ret ?_
        try simp only [↓inBlock_ret, ↓then_ret]
        exact retQ rfl (Res.one Tryz.results46 rfl) ⟨rfl, hK.kp⟩
       ·rw [if_neg (nt hc43)] at hm
        refine C_skip_to (fun _ _ => rfl) ?_
        refine C_seq ?_
        refine C_region ?_
        refine V_y (Y_load (El.str h4) Tryz.isAgg9 rfl) rfl rfl rfl ?_
        refine V_as rfl rfl ?_
        refine V_to (fun _ _ => rfl) ?_
        obtain rfl := Option.some.inj hm
        refine C_ret ?_
        try simp only [↓inBlock_ret, ↓then_ret]
        exact retQ rfl (Res.one Tryz.results46 rfl) ⟨rfl, hK.kp⟩

set_option maxRecDepth 4000 in
set_option maxHeartbeats 4000000 in
theorem portref2_termsOf_1_c (w : World) {A : Nat → Prop} (hA : ∀ b, w.heap.size ≤ b → A b) (w_ : ByteArray) (p1 : know_Part) (b_p1 : Nat) (h_p1 : El A w b_p1 0 p1) (p2 : know_Term) (b_p2 : Nat) (h_p2 : El A w b_p2 0 p2) {r : Bool} (hm : portref2_termsOf_1 w_ p1 p2 = some r) : Ret Tryz.prog 49 #[.string w_, .pointer (some ⟨b_p1, 0, none⟩), .pointer (some ⟨b_p2, 0, none⟩)] w fun v w' => v = .bool r ∧ Kp False w w' := by
 unfold portref2_termsOf_1 at hm
 refine enter Tryz.func49 rfl Tryz.ntmps49 rfl ?_
 have hA0 := hA
 have hB := Nat.le_refl w.heap.size
 have hK : Tr False w.heap.size A w A w := Tr.refl (Dw := False) hA
 have hH : Hp w.heap.size A w [] := Hp.nil
 refine C_seq ?_
 refine C_region ?_
 refine V_as rfl rfl ?_
 refine V_to (fun _ _ => rfl) ?_
 refine C_seq ?_
 refine C_seq ?_
 refine C_region ?_
 have h1 := El_know_Part_0 h_p1
 refine V_y (Y_fieldAddr Tryz.underlying44 rfl Tryz.sizeOf3 (by decide) rfl) rfl rfl rfl ?_
 refine V_y (Y_load (El.int h1) Tryz.isAgg3 rfl) rfl rfl rfl ?_
 refine V_y (Y_eql rfl rfl) rfl rfl rfl ?_
 refine V_to (fun _ _ => rfl) ?_
 refine C_cond rfl (fun hc2 => ?_) (fun hc2 => ?_)
 ·rw [if_pos hc2] at hm
  refine C_seq ?_
  refine C_region ?_
  have h3 := El_know_Term_0 h_p2
  refine V_y (Y_fieldAddr Tryz.underlying51 rfl Tryz.sizeOf9 (by decide) rfl) rfl rfl rfl ?_
  refine V_y (Y_load (El.str h3) Tryz.isAgg9 rfl) rfl rfl rfl ?_
  refine V_mv rfl rfl ?_
  obtain ⟨x4, hx4, hm⟩ := Option.bind_eq_some_iff.1 hm
  refine V_call Tryz.call26 rfl rfl rfl rfl (strings_HasPrefix_c w p2.word w_ hx4) ?_
  rintro _ _ ⟨rfl, rfl⟩
  refine V_as rfl rfl ?_
  refine V_to (fun _ _ => rfl) ?_
  obtain rfl := Option.some.inj hm
  refine C_ret ?_
  try simp only [↓inBlock_ret, ↓then_ret]
  exact retQ rfl (Res.one Tryz.results49 rfl) ⟨rfl, hK.kp⟩
 ·rw [if_neg (nt hc2)] at hm
  refine C_skip_to (fun _ _ => rfl) ?_
  refine C_seq ?_
  refine C_region_q (Dw := False) Tryz_mixed (by kernel_rfl) ?_
  have h5 := El_know_Term_0 h_p2
  refine VQ_y (fun w' hw' => Y_fieldAddr Tryz.underlying51 rfl Tryz.sizeOf9 (by decide) rfl) rfl rfl rfl ?_
  refine VQ_y (fun w' hw' => Y_load (El.str (El.kp (Dw := False) h5 hw')) Tryz.isAgg9 rfl) rfl rfl rfl ?_
  refine VQ_y (fun w' hw' => Y_move rfl) rfl rfl rfl ?_
  obtain ⟨x6, hx6, hm⟩ := Option.bind_eq_some_iff.1 hm
  refine VQ_call (.string x6) Tryz.call46 rfl rfl rfl rfl (fun w' hw' => (portref2_StemOf_c w' (fun b hb => hA b (Nat.le_trans hw'.size hb)) w_ hx6).mono (fun _ _ h => ⟨h.1, Kp.trans (Dw := False) hw' h.2⟩)) ?_
  refine VQ_y (fun w' hw' => Y_seql rfl rfl) rfl rfl rfl ?_
  refine VQ_y (fun w' hw' => Y_assign rfl) rfl rfl rfl ?_
  refine VQ_to (fun _ _ => rfl) (fun w7 hk8 => ?_)
  have ht9 := Kp.tr (Dw := False) hk8 hA hB
  replace hK := Tr.trans (Dw := False) hK ht9
  obtain rfl := Option.some.inj hm
  refine C_ret ?_
  try simp only [↓inBlock_ret, ↓then_ret]
  exact retQ rfl (Res.one Tryz.results49 rfl) ⟨rfl, hK.kp⟩

set_option maxRecDepth 4000 in
set_option maxHeartbeats 4000000 in
theorem portref2_termsOf_c (w : World) {A : Nat → Prop} {B : Nat} (hB : B ≤ w.heap.size) (hA : ∀ b, w.heap.size ≤ b → A b) (x : know_Index) (v_x0 : Value) (h_x0 : Sl A w v_x0 x.ids) (v_x1 : Value) (h_x1 : Sl A w v_x1 x.sizes) (v_x2 : Value) (h_x2 : Sl A w v_x2 x.terms) (p : know_Part) (v_p : Value) (h_p : Sl A w v_p p.words) {L : List Ob} (hH : Hp B A w (L)) {r : (List know_Term)} (hm : portref2_termsOf x p = some r) : Ret Tryz.prog 19 #[.agg #[v_x0, v_x1, v_x2], .agg #[.int .i64 p.kind, .bool p.not_, v_p]] w fun v w' => ∃ s0, ∃ A1 : Nat → Prop, v = s0 ∧ Hp B A1 w' (obS (α := know_Term) 51 s0 r :: L) ∧ Tr False B A w A1 w' := by
 unfold portref2_termsOf at hm
 refine enter Tryz.func19 rfl Tryz.ntmps19 rfl ?_
 have hK : Tr False B A w A w := Tr.refl (Dw := False) hA
 refine C_seq ?_
 refine C_region ?_
 refine V_box rfl rfl ?_
 intro b9 w10 h11
 have hk13 := h11.kp (Dw := False)
 have h12 : El (α := know_Index) A w10 b9 0 x := h11.el hA ⟨[v_x0], _, rfl, ⟨_, rfl, h_x0⟩, ⟨[v_x1], _, rfl, ⟨_, rfl, h_x1⟩, ⟨_, rfl, h_x2⟩⟩⟩
 have ht14 := Kp.tr (Dw := False) hk13 hA hB
 replace hH := Hp.kp (Dw := False) hH hk13
 replace h_p := Sl.tr (Dw := False) h_p ht14
 replace hK := Tr.trans (Dw := False) hK ht14
 replace hB := Nat.le_trans hB ht14.ex.size
 replace hA := ht14.new
 refine V_box rfl rfl ?_
 intro b15 w17 h18
 have hk20 := h18.kp (Dw := False)
 have h19 : El (α := know_Part) A w17 b15 0 p := h18.el hA ⟨[.int .i64 p.kind], _, rfl, rfl, ⟨[.bool p.not_], _, rfl, rfl, ⟨_, rfl, h_p⟩⟩⟩
 have ht21 := Kp.tr (Dw := False) hk20 hA hB
 replace hH := Hp.kp (Dw := False) hH hk20
 replace h12 := El.tr (Dw := False) h12 ht21
 replace hK := Tr.trans (Dw := False) hK ht21
 replace hB := Nat.le_trans hB ht21.ex.size
 replace hA := ht21.new
 refine V_as rfl rfl ?_
 refine V_to (fun _ _ => rfl) ?_
 refine C_seq ?_
 refine C_region ?_
 refine V_as rfl rfl ?_
 refine V_to (fun _ _ => rfl) ?_
 refine C_seq ?_
 refine C_seq ?_
 refine C_region ?_
 have h22 := El_know_Index_2 h12
 refine V_y (Y_fieldAddr Tryz.underlying25 rfl Tryz.sizeOf23 (by decide) rfl) rfl rfl rfl ?_
 obtain ⟨v23, h24, h25⟩ := El.list h22
 refine V_y (Y_load h24 Tryz.isAgg23 rfl) rfl rfl rfl ?_
 refine V_y (Y_lenSl h25 rfl Tryz.underlying23 rfl) rfl rfl rfl ?_
 refine V_mv rfl rfl ?_
 refine V_to (fun _ _ => rfl) ?_
 replace hH : Hp B A w17 (obS (α := know_Term) 51 (.slice none 0 0) ([] : (List know_Term)) :: L) := Hp.addNil (α := know_Term) (e := 51) hH
 have hn50 := Sl.le h25
 obtain ⟨o26, ho26, hm⟩ := Option.bind_eq_some_iff.1 hm
 refine C_cutG (ι := ((List know_Term) × Value × (Nat → Prop))) (fun ⟨s27, v33, A35⟩ => [(5, v33)]) (fun ⟨s27, v33, A35⟩ => fun w' => o26 = .fin s27 ∧ Hp B A35 w' (obS (α := know_Term) 51 v33 s27 :: L) ∧ Tr False B A w17 A35 w') ?_ ?_
 ·refine C_block ?_
  refine C_range ho26 (fun k29 s37 a w' => ∃ i : (Value × (Nat → Prop)), Has ⟨27, [], none⟩ a ([(3, .pointer (some ⟨b15, 0, none⟩)), (5, i.1), (10, v23), (11, .int .i64 (x.terms.length : Int)), (12, .int .i64 (k29 : Int))]) ∧ Hp B i.2 w' (obS (α := know_Term) 51 i.1 s37 :: L) ∧ Tr False B A w17 i.2 w') (fun a ha => ⟨(.slice none 0 0, A), ha.sub ⟨rfl, rfl, rfl, rfl, rfl, trivial⟩, ⟨hH, Tr.refl (Dw := False) hA⟩⟩) ?_
  rintro K k29 s37 a w38 ⟨⟨v39, A41⟩, ha130, hH42, hr28⟩ hle46 K49 h48
  refine C_of ?_ ha130
  replace h19 := El.tr (Dw := False) h19 hr28
  replace h25 := Sl.tr (Dw := False) h25 hr28
  replace hB := Nat.le_trans hB hr28.ex.size
  replace hA := hr28.new
  replace hH : Hp B A41 w38 (obS (α := know_Term) 51 v39 s37 :: L) := hH42
  refine C_seq (C_region (V_y (Y_lss rfl rfl) rfl rfl rfl (V_to (fun _ _ => rfl) ?_)))
  refine C_seq ?_
  refine C_cond rfl (fun hc51 => ?_) (fun hc51 => ?_)
  ·have hlt47 := lt_of_dec hc51
   obtain ⟨x43, h44, h45⟩ := K49 hlt47
   refine C_skip_to (fun _ _ => rfl) ?_
   refine C_seq ?_
   obtain ⟨s53, ho52, h44⟩ := Option.bind_eq_some_iff.1 h44
   refine C_cutG (ι := (Value × (Nat → Prop))) (fun ⟨v55, A60⟩ => [(3, .pointer (some ⟨b15, 0, none⟩)), (5, v55), (10, v23), (11, .int .i64 (x.terms.length : Int)), (12, .int .i64 (k29 : Int))]) (fun ⟨v55, A60⟩ => fun w' => Hp B A60 w' (obS (α := know_Term) 51 v55 s53 :: L) ∧ Tr False B A41 w38 A60 w') ?_ ?_
   ·have hr54 : Tr False B A41 w38 A41 w38 := Tr.refl (Dw := False) hA
    refine C_block ?_
    refine C_seq ?_
    refine C_region ?_
    obtain ⟨x62, hx62, ho52⟩ := Option.bind_eq_some_iff.1 ho52
    refine V_indexAddr h25 hx62 Tryz.underlying23 Tryz.sizeOf51 rfl rfl rfl ?_
    intro b63 o64 h65
    obtain ⟨v66, h68, h67⟩ := El_know_Term h65
    refine V_y (Y_loadA h68 Tryz.isAgg51 Tryz.sizeOf51 rfl) rfl rfl rfl ?_
    refine V_alloc Tryz.zeroValue51 rfl ?_
    intro b69 w70 h71
    have h76 : (v66).oneCell' = true := by obtain ⟨_, _, e, _⟩ := Sl.form h67; rw [e]; rfl
    refine V_storeNew h71 Tryz.sizeOf51 rfl rfl rfl rfl (by exact (List.forall_mem_cons.2 ⟨rfl, (List.forall_mem_cons.2 ⟨h76, (fun _ h => nomatch h)⟩)⟩)) ?_
    intro w72 h73
    have hk78 := h73.kp (Dw := False)
    have h77 : El (α := know_Term) A41 w72 b69 0 x62 := h73.el hA ⟨[.string x62.word], _, rfl, rfl, ⟨_, rfl, h67⟩⟩
    have ht79 := Kp.tr (Dw := False) hk78 hA hB
    replace hH := Hp.kp (Dw := False) hH hk78
    replace h19 := El.tr (Dw := False) h19 ht79
    replace hr54 := Tr.trans (Dw := False) hr54 ht79
    replace hB := Nat.le_trans hB ht79.ex.size
    replace hA := ht79.new
    refine V_to (fun _ _ => rfl) ?_
    refine C_seq ?_
    refine C_region ?_
    have h80 := El_know_Part_2 h19
    refine V_y (Y_fieldAddr Tryz.underlying44 rfl Tryz.sizeOf42 (by decide) rfl) rfl rfl rfl ?_
    obtain ⟨v81, h82, h83⟩ := El.list h80
    refine V_y (Y_load h82 Tryz.isAgg42 rfl) rfl rfl rfl ?_
    refine V_y (Y_makeFunc rfl rfl) rfl rfl rfl ?_
    obtain ⟨x85, hx85, ho52⟩ := Option.bind_eq_some_iff.1 ho52
    refine V_call Tryz.call48 rfl rfl rfl rfl (slices_ContainsFunc_Lstring_string_c (Dw := False) w72 hA p.words v81 h83 (fun y93 => portref2_termsOf_1 y93 p x62) 49 #[] #[.pointer (some ⟨b15, 0, none⟩), .pointer (some ⟨b69, 0, none⟩)] Tryz.call49 (fun w89 A90 ht91 h92 y86 r87 h88 => (portref2_termsOf_1_c w89 h92 y86 p b15 (El.tr (Dw := False) h19 ht91) x62 b69 (El.tr (Dw := False) h77 ht91) h88).mono (fun _ _ h => ⟨h.1, h.2⟩)) hx85) ?_
    rintro _ w94 ⟨rfl, hk95⟩
    have ht96 := Kp.tr (Dw := False) hk95 hA hB
    replace hH := Hp.kp (Dw := False) hH hk95
    replace h77 := El.tr (Dw := False) h77 ht96
    replace hr54 := Tr.trans (Dw := False) hr54 ht96
    replace hB := Nat.le_trans hB ht96.ex.size
    replace hA := ht96.new
    refine V_as rfl rfl ?_
    refine V_to (fun _ _ => rfl) ?_
    refine C_seq ?_
    refine C_region ?_
    refine V_mv rfl rfl ?_
    refine V_to (fun _ _ => rfl) ?_
    obtain ⟨s98, ho97, ho52⟩ := Option.bind_eq_some_iff.1 ho52
    refine C_cutG (ι := (Value × (Nat → Prop))) (fun ⟨v100, A105⟩ => [(3, .pointer (some ⟨b15, 0, none⟩)), (5, v100), (10, v23), (11, .int .i64 (x.terms.length : Int)), (12, .int .i64 (k29 : Int))]) (fun ⟨v100, A105⟩ => fun w' => Hp B A105 w' (obS (α := know_Term) 51 v100 s98 :: L) ∧ Tr False B A41 w94 A105 w') ?_ ?_
    ·have hr99 : Tr False B A41 w94 A41 w94 := Tr.refl (Dw := False) hA
     refine C_cond rfl (fun hc107 => ?_) (fun hc107 => ?_)
     ·rw [if_pos hc107] at ho97
      refine C_region ?_
      refine V_mv rfl rfl ?_
      obtain ⟨v108, h110, h109⟩ := El_know_Term h77
      refine V_y (Y_loadA h110 Tryz.isAgg51 Tryz.sizeOf51 rfl) rfl rfl rfl ?_
      refine V_buildSlice (Dw := False) (cells := #[.string x62.word, v108]) (l := ([x62] : List know_Term)) (len := 1) Tryz.underlying23 Tryz.sizeOf51 Tryz.zeroValue51 rfl (by obtain ⟨a115, c116, e117, _⟩ := Sl.form h109; subst e117; kernel_rfl) (show (1 * 2 : Nat) ≠ 0 by decide) (show (1 * 2 : Nat) ≤ 2 ^ 24 by decide) hA ⟨[.string x62.word, v108], _, rfl, ⟨[.string x62.word], _, rfl, rfl, ⟨_, rfl, h109⟩⟩, rfl⟩ rfl rfl ?_
      intro v111 w112 hk114 h113
      have ht118 := Kp.tr (Dw := False) hk114 hA hB
      replace hH := Hp.kp (Dw := False) hH hk114
      replace hr99 := Tr.trans (Dw := False) hr99 ht118
      replace hB := Nat.le_trans hB ht118.ex.size
      replace hA := ht118.new
      obtain ⟨x119, hx119, ho97⟩ := Option.bind_eq_some_iff.1 ho97
      refine V_appendH (Dw := False) (e := 51) (v := v39) (l := s37) (ti := Tryz.t51) (bytes := 40) (lim := 3518437208883) hH (i := 0) rfl h113 hx119 Tryz.underlying23 Tryz_info51 rfl rfl rfl rfl (by decide) (by decide) (by decide) hB hA rfl rfl rfl ?_
      intro v120 w121 A122 hH123 ht124
      replace hr99 := Tr.trans (Dw := False) hr99 ht124
      replace hH : Hp B A122 w121 (obS (α := know_Term) 51 v120 x119 :: L) := hH123
      refine V_as rfl rfl ?_
      obtain rfl := Option.some.inj ho97
      refine V_end (fun a ha125 => ?_)
      exact ⟨(v120, A122), ha125.sub ⟨rfl, rfl, rfl, rfl, rfl, trivial⟩, ⟨hH, hr99⟩⟩
     ·rw [if_neg (nt hc107)] at ho97
      obtain rfl := Option.some.inj ho97
      refine C_skip (fun a ha126 => ?_)
      exact ⟨(v39, A41), ha126.sub ⟨rfl, rfl, rfl, rfl, rfl, trivial⟩, ⟨hH, hr99⟩⟩
    rintro ⟨v100, A105⟩ w102 ⟨hH106, hk103⟩ a ha104
    replace hr54 := Tr.trans (Dw := False) hr54 hk103
    replace hA := hk103.new
    replace hH : Hp B A105 w102 (obS (α := know_Term) 51 v100 s98 :: L) := hH106
    obtain rfl := Option.some.inj ho52
    exact ⟨(v100, A105), ha104.sub ⟨rfl, rfl, rfl, rfl, rfl, trivial⟩, ⟨hH, hr54⟩⟩
   rintro ⟨v55, A60⟩ w57 ⟨hH61, hk58⟩ a ha59
   replace hr28 := Tr.trans (Dw := False) hr28 hk58
   replace hA := hk58.new
   replace hH : Hp B A60 w57 (obS (α := know_Term) 51 v55 s53 :: L) := hH61
   refine C_at (n := ⟨27, [], none⟩) (fun _ _ => rfl) ?_ ha59
   refine C_region ?_
   refine V_y (Y_addI rfl rfl) rfl rfl rfl ?_
   refine V_mv rfl rfl ?_
   obtain rfl := Option.some.inj h44
   refine V_end (fun a ha128 => ?_)
   exact ⟨s53, hlt47, h45, ⟨(v55, A60), ha128.sub ⟨rfl, rfl, rfl, rfl, (congrArg (fun z => some (Value.int .i64 z)) (w64_succ hlt47 hn50)), trivial⟩, ⟨hH, hr28⟩⟩⟩
  ·refine C_exit (fun a ha129 => ?_)
   exact ⟨(s37, v39, A41), ha129.sub ⟨rfl, trivial⟩, ⟨(h48 (eq_of_dec hle46 hc51)).symm, hH, hr28⟩⟩
 rintro ⟨s27, v33, A35⟩ w30 ⟨rfl, hH36, hk31⟩ a ha32
 rw [Lp.andThen_fin] at hm
 replace hK := Tr.trans (Dw := False) hK hk31
 replace hA := hk31.new
 replace hH : Hp B A35 w30 (obS (α := know_Term) 51 v33 s27 :: L) := hH36
 refine C_at (n := ⟨27, [], none⟩) (fun _ _ => rfl) ?_ ha32
 refine C_seq ?_
 refine C_region ?_
 refine V_mv rfl rfl ?_
 refine V_as rfl rfl ?_
 refine V_to (fun _ _ => rfl) ?_
 obtain rfl := Option.some.inj hm
 refine C_ret ?_
 try simp only [↓inBlock_ret, ↓then_ret]
 exact retQ rfl (Res.one Tryz.results19 rfl) ⟨v33, A35, rfl, hH, hK⟩

end Go.Proofs.YtkjlbaacbkdnfaaGreatDoor.W
