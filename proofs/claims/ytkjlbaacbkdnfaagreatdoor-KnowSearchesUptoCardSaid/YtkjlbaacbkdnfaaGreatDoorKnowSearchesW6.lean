/-
  Written by program (gen.py) from the IR of the dump: each function computes its model.
-/
import Derived.Test.YtkjlbaacbkdnfaaGreatDoorKnowSearchesW5
namespace Go.Proofs.YtkjlbaacbkdnfaaGreatDoor.W
open Go Go.RowKit Go.Pu Go.Gw Go.Proofs Go.Proofs.YtkjlbaacbkdnfaaGreatDoor.M
set_option linter.unusedVariables false
set_option linter.unusedSimpArgs false
variable {Dw : Prop}

set_option maxRecDepth 4000 in
set_option maxHeartbeats 4000000 in
theorem slices_Equal_Lknow_Hit_know_Hit_c (w : World) {A : Nat → Prop} (hA : ∀ b, w.heap.size ≤ b → A b) (s1 : (List know_Hit)) (v_s1 : Value) (h_s1 : Sl A w v_s1 s1) (s2 : (List know_Hit)) (v_s2 : Value) (h_s2 : Sl A w v_s2 s2) {r : Bool} (hm : slices_Equal_Lknow_Hit_know_Hit s1 s2 = some r) : Ret Tryz.prog 6 #[v_s1, v_s2] w fun v w' => v = .bool r ∧ Kp Dw w w' := by
 unfold slices_Equal_Lknow_Hit_know_Hit at hm
 refine enter Tryz.func6 rfl Tryz.ntmps6 rfl ?_
 have hA0 := hA
 have hB := Nat.le_refl w.heap.size
 have hK : Tr Dw w.heap.size A w A w := Tr.refl (Dw := Dw) hA
 have hH : Hp w.heap.size A w [] := Hp.nil
 refine C_seq ?_
 refine C_region ?_
 refine V_as rfl rfl ?_
 refine V_to (fun _ _ => rfl) ?_
 refine C_seq ?_
 refine C_seq ?_
 refine C_region ?_
 refine V_mv rfl rfl ?_
 refine V_y (Y_lenSl h_s1 rfl Tryz.underlying29 rfl) rfl rfl rfl ?_
 refine V_mv rfl rfl ?_
 refine V_y (Y_lenSl h_s2 rfl Tryz.underlying29 rfl) rfl rfl rfl ?_
 refine V_y (Y_neq rfl rfl) rfl rfl rfl ?_
 refine V_to (fun _ _ => rfl) ?_
 refine C_cond rfl (fun hc5 => ?_) (fun hc5 => ?_)
 ·rw [if_pos hc5] at hm
  refine C_seq ?_
  refine C_region ?_
  refine V_as rfl rfl ?_
  refine V_to (fun _ _ => rfl) ?_
  obtain rfl := Option.some.inj hm
  refine C_ret ?_
  try simp only [↓inBlock_ret, ↓then_ret]
  exact retQ rfl (Res.one Tryz.results6 rfl) ⟨rfl, hK.kp⟩
 ·rw [if_neg (nt hc5)] at hm
  refine C_skip_to (fun _ _ => rfl) ?_
  refine C_seq ?_
  refine C_seq ?_
  refine C_region ?_
  refine V_mv rfl rfl ?_
  refine V_y (Y_lenSl h_s1 rfl Tryz.underlying29 rfl) rfl rfl rfl ?_
  refine V_mv rfl rfl ?_
  refine V_to (fun _ _ => rfl) ?_
  have hn27 := Sl.le h_s1
  obtain ⟨o6, ho6, hm⟩ := Option.bind_eq_some_iff.1 hm
  refine C_cutG (ι := (Unit × (Nat → Prop))) (fun ⟨s7, A13⟩ => []) (fun ⟨s7, A13⟩ => fun w' => o6 = .fin s7 ∧ Hp w.heap.size A13 w' ([]) ∧ Tr Dw w.heap.size A w A13 w') ?_ ?_
  ·refine C_block ?_
   refine C_range ho6 (fun k9 _ a w' => ∃ i : (Nat → Prop), Has ⟨26, [], none⟩ a ([(0, v_s1), (1, v_s2), (12, .int .i64 (s1.length : Int)), (13, .int .i64 (k9 : Int))]) ∧ Hp w.heap.size i w' ([]) ∧ Tr Dw w.heap.size A w i w') (fun a ha => ⟨A, ha.sub ⟨rfl, rfl, rfl, rfl, trivial⟩, ⟨hH, Tr.refl (Dw := Dw) hA⟩⟩) ?_
   rintro K k9 _ a w17 ⟨A18, ha45, hH19, hr8⟩ hle23 K26 h25
   refine C_of ?_ ha45
   replace h_s1 := Sl.tr h_s1 hr8
   replace h_s2 := Sl.tr h_s2 hr8
   replace hK := Tr.trans hK hr8
   replace hB := Nat.le_trans hB hr8.ex.size
   replace hA := hr8.new
   replace hH : Hp w.heap.size A18 w17 ([]) := hH19
   refine C_seq (C_region (V_y (Y_lss rfl rfl) rfl rfl rfl (V_to (fun _ _ => rfl) ?_)))
   refine C_seq ?_
   refine C_cond rfl (fun hc28 => ?_) (fun hc28 => ?_)
   ·have hlt24 := lt_of_dec hc28
    obtain ⟨x20, h21, h22⟩ := K26 hlt24
    refine C_skip_to (fun _ _ => rfl) ?_
    refine C_seq ?_
    refine C_block ?_
    refine C_seq ?_
    refine C_region ?_
    refine V_mv rfl rfl ?_
    refine V_as rfl rfl ?_
    refine V_to (fun _ _ => rfl) ?_
    refine C_seq ?_
    refine C_region_q (Dw := Dw) Tryz_mixed (by kernel_rfl) ?_
    refine VQ_y (fun w' hw' => Y_move rfl) rfl rfl rfl ?_
    refine VQ_y (fun w' hw' => Y_move rfl) rfl rfl rfl ?_
    obtain ⟨x29, hx29, h21⟩ := Option.bind_eq_some_iff.1 h21
    refine VQ_indexAddr h_s1 hx29 Tryz.underlying29 Tryz.sizeOf35 rfl rfl rfl ?_
    intro b30 o31 h32
    obtain ⟨h33, _⟩ := El_know_Hit h32
    refine VQ_y (fun w' hw' => Y_loadA (At.kp (Dw := Dw) h33 hw' h32.2.1) Tryz.isAgg35 Tryz.sizeOf35 rfl) rfl rfl rfl ?_
    refine VQ_y (fun w' hw' => Y_move rfl) rfl rfl rfl ?_
    refine VQ_y (fun w' hw' => Y_move rfl) rfl rfl rfl ?_
    obtain ⟨x34, hx34, h21⟩ := Option.bind_eq_some_iff.1 h21
    refine VQ_indexAddr h_s2 hx34 Tryz.underlying29 Tryz.sizeOf35 rfl rfl rfl ?_
    intro b35 o36 h37
    obtain ⟨h38, _⟩ := El_know_Hit h37
    refine VQ_y (fun w' hw' => Y_loadA (At.kp (Dw := Dw) h38 hw' h37.2.1) Tryz.isAgg35 Tryz.sizeOf35 rfl) rfl rfl rfl ?_
    refine VQ_y (fun w' hw' => Y_neqA (fun w => Tryz_eqt35_10000 x29.id_ x29.score x34.id_ x34.score w) Tryz_eqg35 rfl rfl) rfl rfl rfl ?_
    refine VQ_to (fun _ _ => rfl) (fun w39 hk40 => ?_)
    have ht41 := Kp.tr hk40 hA hB
    replace hH := Hp.kp hH hk40
    replace hK := Tr.trans hK ht41
    replace hr8 := Tr.trans hr8 ht41
    refine C_cond rfl (fun hc42 => ?_) (fun hc42 => ?_)
    ·rw [if_pos hc42] at h21
     refine C_seq ?_
     refine C_region ?_
     refine V_as rfl rfl ?_
     refine V_to (fun _ _ => rfl) ?_
     obtain rfl := Option.some.inj h21
     obtain rfl := (h22 : Lp.rt _ = _)
     rw [Lp.andThen_rt] at hm
     obtain rfl := Option.some.inj hm
     refine C_ret ?_
     try simp only [↓inBlock_ret, ↓then_ret]
     exact retQ rfl (Res.one Tryz.results6 rfl) ⟨rfl, hK.kp⟩
    ·rw [if_neg (nt hc42)] at h21
     refine C_skip_to (fun _ _ => rfl) ?_
     refine C_region ?_
     refine V_y (Y_addI rfl rfl) rfl rfl rfl ?_
     refine V_mv rfl rfl ?_
     obtain rfl := Option.some.inj h21
     refine V_end (fun a ha43 => ?_)
     exact ⟨(), hlt24, h22, ⟨A18, ha43.sub ⟨rfl, rfl, rfl, (congrArg (fun z => some (Value.int .i64 z)) (w64_succ hlt24 hn27)), trivial⟩, ⟨hH, hr8⟩⟩⟩
   ·refine C_exit (fun a ha44 => ?_)
    exact ⟨((), A18), ha44.sub trivial, ⟨(h25 (eq_of_dec hle23 hc28)).symm, hH, hr8⟩⟩
  rintro ⟨s7, A13⟩ w10 ⟨rfl, hH14, hk11⟩ a ha12
  rw [Lp.andThen_fin] at hm
  replace hK := Tr.trans hK hk11
  replace hA := hk11.new
  replace hH : Hp w.heap.size A13 w10 ([]) := hH14
  refine C_at (n := ⟨26, [], none⟩) (fun _ _ => rfl) ?_ ha12
  refine C_seq ?_
  refine C_region ?_
  refine V_as rfl rfl ?_
  refine V_to (fun _ _ => rfl) ?_
  obtain rfl := Option.some.inj hm
  refine C_ret ?_
  try simp only [↓inBlock_ret, ↓then_ret]
  exact retQ rfl (Res.one Tryz.results6 rfl) ⟨rfl, hK.kp⟩

set_option maxRecDepth 4000 in
set_option maxHeartbeats 4000000 in
theorem portlaw2_KnowSearches_c (w : World) {A : Nat → Prop} (hA : ∀ b, w.heap.size ≤ b → A b) (x : know_Index) (v_x0 : Value) (h_x0 : Sl A w v_x0 x.ids) (v_x1 : Value) (h_x1 : Sl A w v_x1 x.sizes) (v_x2 : Value) (h_x2 : Sl A w v_x2 x.terms) (q : know_Query) (v_q : Value) (h_q : Sl A w v_q q.parts) (most : Int) {r : Bool} (hm : portlaw2_KnowSearches x q most = some r) : Ret Tryz.prog 3 #[.agg #[v_x0, v_x1, v_x2], .agg #[v_q], .int .i64 most] w fun v w' => v = .bool r ∧ Kp False w w' := by
 unfold portlaw2_KnowSearches at hm
 refine enter Tryz.func3 rfl Tryz.ntmps3 rfl ?_
 have hA0 := hA
 have hB := Nat.le_refl w.heap.size
 have hK : Tr False w.heap.size A w A w := Tr.refl (Dw := False) hA
 have hH : Hp w.heap.size A w [] := Hp.nil
 refine C_seq ?_
 refine C_region ?_
 refine V_box rfl rfl ?_
 intro b9 w10 h11
 have hk13 := h11.kp (Dw := False)
 have h12 : El (α := know_Index) A w10 b9 0 x := h11.el hA ⟨[v_x0], _, rfl, ⟨_, rfl, h_x0⟩, ⟨[v_x1], _, rfl, ⟨_, rfl, h_x1⟩, ⟨_, rfl, h_x2⟩⟩⟩
 have ht14 := Kp.tr (Dw := False) hk13 hA hB
 replace hH := Hp.kp (Dw := False) hH hk13
 replace h_q := Sl.tr (Dw := False) h_q ht14
 replace hK := Tr.trans (Dw := False) hK ht14
 replace hB := Nat.le_trans hB ht14.ex.size
 replace hA := ht14.new
 refine V_box rfl rfl ?_
 intro b15 w17 h18
 have hk20 := h18.kp (Dw := False)
 have h19 : El (α := know_Query) A w17 b15 0 q := h18.el hA ⟨_, rfl, h_q⟩
 have ht21 := Kp.tr (Dw := False) hk20 hA hB
 replace hH := Hp.kp (Dw := False) hH hk20
 replace h12 := El.tr (Dw := False) h12 ht21
 replace hK := Tr.trans (Dw := False) hK ht21
 replace hB := Nat.le_trans hB ht21.ex.size
 replace hA := ht21.new
 refine V_as rfl rfl ?_
 refine V_to (fun _ _ => rfl) ?_
 refine C_seq ?_
 refine C_region ?_
 obtain ⟨v22, v24, v26, h28, h23, h25, h27⟩ := El_know_Index h12
 refine V_y (Y_loadA h28 Tryz.isAgg25 Tryz.sizeOf25 rfl) rfl rfl rfl ?_
 obtain ⟨v29, h31, h30⟩ := El_know_Query h19
 refine V_y (Y_loadA h31 Tryz.isAgg28 Tryz.sizeOf28 rfl) rfl rfl rfl ?_
 refine V_mv rfl rfl ?_
 obtain ⟨x32, hx32, hm⟩ := Option.bind_eq_some_iff.1 hm
 refine V_call Tryz.call4 rfl rfl rfl rfl (know_Search_c w17 hA x v22 h23 v24 h25 v26 h27 q v29 h30 most hx32) ?_
 rintro _ w35 ⟨v33, rfl, h34, hk36⟩
 obtain ⟨A37, ht38, hH39⟩ := Hp.addOwnd (Dw := False) hH hB hA hk36 h34
 replace h12 := El.tr (Dw := False) h12 ht38
 replace h19 := El.tr (Dw := False) h19 ht38
 replace hK := Tr.trans (Dw := False) hK ht38
 replace hB := Nat.le_trans hB ht38.ex.size
 replace hA := ht38.new
 replace hH : Hp w.heap.size A37 w35 (obS (α := know_Hit) 35 v33 x32.1 :: []) := hH39
 refine V_mv rfl rfl ?_
 refine V_y (Y_extract rfl rfl) rfl rfl rfl ?_
 refine V_y (Y_extract rfl rfl) rfl rfl rfl ?_
 refine V_as rfl rfl ?_
 refine V_as rfl rfl ?_
 refine V_to (fun _ _ => rfl) ?_
 refine C_seq ?_
 refine C_region ?_
 obtain ⟨v40, v42, v44, h46, h41, h43, h45⟩ := El_know_Index h12
 refine V_y (Y_loadA h46 Tryz.isAgg25 Tryz.sizeOf25 rfl) rfl rfl rfl ?_
 obtain ⟨v47, h49, h48⟩ := El_know_Query h19
 refine V_y (Y_loadA h49 Tryz.isAgg28 Tryz.sizeOf28 rfl) rfl rfl rfl ?_
 refine V_mv rfl rfl ?_
 obtain ⟨x50, hx50, hm⟩ := Option.bind_eq_some_iff.1 hm
 refine V_call Tryz.call5 rfl rfl rfl rfl (portref2_SearchOf_c w35 hA x v40 h41 v42 h43 v44 h45 q v47 h48 most hx50) ?_
 rintro _ w53 ⟨v51, rfl, h52, hk54⟩
 have ht55 := Kp.tr (Dw := False) hk54 hA hB
 replace hH := Hp.kp (Dw := False) hH hk54
 replace hK := Tr.trans (Dw := False) hK ht55
 replace hB := Nat.le_trans hB ht55.ex.size
 replace hA := ht55.new
 refine V_mv rfl rfl ?_
 refine V_y (Y_extract rfl rfl) rfl rfl rfl ?_
 refine V_y (Y_extract rfl rfl) rfl rfl rfl ?_
 refine V_as rfl rfl ?_
 refine V_as rfl rfl ?_
 refine V_to (fun _ _ => rfl) ?_
 refine C_seq ?_
 obtain ⟨s57, ho56, hm⟩ := Option.bind_eq_some_iff.1 hm
 refine C_cutG (ι := (Nat → Prop)) (fun (A62 : (Nat → Prop)) => [(6, .bool s57)]) (fun (A62 : (Nat → Prop)) => fun w' => Hp w.heap.size A62 w' (obS (α := know_Hit) 35 v33 x32.1 :: []) ∧ Tr False w.heap.size A37 w53 A62 w') ?_ ?_
 ·have hr58 : Tr False w.heap.size A37 w53 A37 w53 := Tr.refl (Dw := False) hA
  refine C_region ?_
  refine V_mv rfl rfl ?_
  refine V_mv rfl rfl ?_
  refine V_y (Y_eql rfl rfl) rfl rfl rfl ?_
  refine V_mv rfl rfl ?_
  rcases Bool.eq_false_or_eq_true (x32.2 == x50.2) with hc64 | hc64
  ·rw [if_pos hc64] at ho56
   refine V_ge rfl rfl rfl hc64 ?_
   refine V_mv rfl rfl ?_
   refine V_ge rfl rfl rfl hc64 ?_
   refine V_mv rfl rfl ?_
   refine V_ge rfl rfl rfl hc64 ?_
   obtain ⟨x65, hx65, ho56⟩ := Option.bind_eq_some_iff.1 ho56
   refine V_call Tryz.call6 rfl rfl rfl rfl (slices_Equal_Lknow_Hit_know_Hit_c (Dw := False) w53 (A := fun _ => True) (fun _ _ => trivial) x32.1 v33 (Hp.any (α := know_Hit) (e := 35) (v := v33) (l := x32.1) hH (i := 0) rfl) x50.1 v51 (Sl.any h52) hx65) ?_
   rintro _ w66 ⟨rfl, hk67⟩
   have ht68 := Kp.tr (Dw := False) hk67 hA hB
   replace hH := Hp.kp (Dw := False) hH hk67
   replace hr58 := Tr.trans (Dw := False) hr58 ht68
   refine V_y (Y_pick_te rfl hc64 rfl) rfl rfl rfl ?_
   refine V_as rfl rfl ?_
   obtain rfl := Option.some.inj ho56
   refine V_end (fun a ha69 => ?_)
   exact ⟨A37, ha69.sub ⟨rfl, trivial⟩, ⟨hH, hr58⟩⟩
  ·rw [if_neg (nt hc64)] at ho56
   refine V_gn rfl rfl rfl hc64 rfl rfl rfl ?_
   refine V_gn rfl rfl rfl hc64 rfl rfl rfl ?_
   refine V_gn rfl rfl rfl hc64 rfl rfl rfl ?_
   refine V_y (Y_pick_fe rfl hc64 rfl) rfl rfl rfl ?_
   refine V_as rfl rfl ?_
   obtain rfl := Option.some.inj ho56
   refine V_end (fun a ha70 => ?_)
   exact ⟨A37, ha70.sub ⟨rfl, trivial⟩, ⟨hH, hr58⟩⟩
 rintro A62 w59 ⟨hH63, hk60⟩ a ha61
 replace hK := Tr.trans (Dw := False) hK hk60
 replace hA := hk60.new
 replace hH : Hp w.heap.size A62 w59 (obS (α := know_Hit) 35 v33 x32.1 :: []) := hH63
 refine C_at (n := ⟨33, [], none⟩) (fun _ _ => rfl) ?_ ha61
 obtain rfl := Option.some.inj hm
 refine C_ret ?_
 try simp only [↓inBlock_ret, ↓then_ret]
 exact retQ rfl (Res.one Tryz.results3 rfl) ⟨rfl, hK.kp⟩

end Go.Proofs.YtkjlbaacbkdnfaaGreatDoor.W
