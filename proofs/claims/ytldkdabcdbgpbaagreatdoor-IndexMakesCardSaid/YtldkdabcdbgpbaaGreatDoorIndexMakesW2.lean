/-
  Written by program (gen.py) from the IR of the dump: each function computes its model.
-/
import Derived.Test.YtldkdabcdbgpbaaGreatDoorIndexMakesW1
namespace Go.Proofs.YtldkdabcdbgpbaaGreatDoor.W
open Go Go.RowKit Go.Pu Go.Gw Go.Proofs Go.Proofs.YtldkdabcdbgpbaaGreatDoor.M
set_option linter.unusedVariables false
set_option linter.unusedSimpArgs false
variable {Dw : Prop}

set_option maxRecDepth 4000 in
set_option maxHeartbeats 4000000 in
theorem know_NewIndex_c (w : World) {A : Nat → Prop} (hA : ∀ b, w.heap.size ≤ b → A b) (l : (List know_Entry)) (v_l : Value) (h_l : Sl A w v_l l) {r : (know_Index × Int)} (hm : know_NewIndex l = some r) : Ret Tryz.prog 5 #[v_l] w fun v w' => ∃ s0 s1 s2, v = .tuple #[.agg #[s0, s1, s2], .int .i64 r.2] ∧ Sl A w' s0 r.1.ids ∧ Sl A w' s1 r.1.sizes ∧ Sl A w' s2 r.1.terms ∧ Kp Dw w w' := by
  unfold know_NewIndex at hm
  refine enter Tryz.func5 rfl Tryz.ntmps5 rfl ?_
  have hA0 := hA
  have hB := Nat.le_refl w.heap.size
  have hK : Tr Dw w.heap.size A w A w := Tr.refl (Dw := Dw) hA
  have hH : Hp w.heap.size A w [] := Hp.nil
  refine C_seq ?_
  refine C_region ?_
  refine V_allocH (Dw := Dw) (B := w.heap.size) hH Tryz.zeroValue26 hB hA rfl ?_
  intro b3 w4 A5 hH6 ht7
  replace h_l := Sl.tr (Dw := Dw) h_l ht7
  replace hK := Tr.trans (Dw := Dw) hK ht7
  replace hB := Nat.le_trans hB ht7.ex.size
  replace hA := ht7.new
  replace hH : Hp w.heap.size A5 w4 (obC b3 [.slice none 0 0, .slice none 0 0, .slice none 0 0] 26 :: []) := hH6
  refine V_y (Y_assign rfl) rfl rfl rfl ?_
  refine V_to (fun _ _ => rfl) ?_
  refine C_seq ?_
  refine C_seq ?_
  refine C_region ?_
  refine V_y (Y_move rfl) rfl rfl rfl ?_
  refine V_y (Y_lenSl h_l rfl Tryz.underlying22 rfl) rfl rfl rfl ?_
  refine V_y (Y_gtr rfl rfl) rfl rfl rfl ?_
  refine V_to (fun _ _ => rfl) ?_
  refine C_cond rfl (fun hc8 => ?_) (fun hc8 => ?_)
  · rw [if_pos hc8] at hm
    refine C_seq ?_
    refine C_region ?_
    refine V_y (Y_build Tryz.underlying26 Tryz.zeroValue26 (Tryz_places26 _ Tryz.underlying26) rfl (by with_unfolding_all rfl)) rfl rfl rfl ?_
    refine V_storeC (Dw := Dw) (off := 0) (ds := [.slice none 0 0, .slice none 0 0, .slice none 0 0]) hH (i := 0) rfl Tryz.sizeOf26 rfl (Nat.le_of_ble_eq_true rfl) (by exact (List.forall_mem_cons.2 ⟨rfl, (List.forall_mem_cons.2 ⟨rfl, (List.forall_mem_cons.2 ⟨rfl, (fun _ h => nomatch h)⟩)⟩)⟩)) rfl hB hA rfl rfl ?_
    intro w9 hH10 ht11
    replace h_l := Sl.tr (Dw := Dw) h_l ht11
    replace hK := Tr.trans (Dw := Dw) hK ht11
    replace hB := Nat.le_trans hB ht11.ex.size
    replace hA := ht11.new
    replace hH : Hp w.heap.size A5 w9 (obC b3 [.slice none 0 0, .slice none 0 0, .slice none 0 0] 26 :: []) := hH10
    refine V_y (Y_assign rfl) rfl rfl rfl ?_
    refine V_to (fun _ _ => rfl) ?_
    obtain rfl := Option.some.inj hm
    refine C_ret ?_
    try simp only [↓inBlock_ret, ↓then_ret]
    exact retQ rfl (Res.l2 Tryz.results5 (RL.cell rfl (loadVar_agg (Hp.part (off := 0) (n := 3) (ds := [.slice none 0 0, .slice none 0 0, .slice none 0 0]) hH (i := 0) rfl rfl) Tryz.isAgg26 Tryz.sizeOf26)) (RL.tmp rfl)) ⟨.slice none 0 0, .slice none 0 0, .slice none 0 0, rfl, Sl.nil, Sl.nil, Sl.nil, hK.kp⟩
  · rw [if_neg (nt hc8)] at hm
    refine C_skip_to (fun _ _ => rfl) ?_
    refine C_seq ?_
    refine C_region ?_
    refine V_y (Y_assign rfl) rfl rfl rfl ?_
    refine V_to (fun _ _ => rfl) ?_
    refine C_seq ?_
    refine C_seq ?_
    refine C_region ?_
    refine V_y (Y_move rfl) rfl rfl rfl ?_
    refine V_y (Y_lenSl h_l rfl Tryz.underlying22 rfl) rfl rfl rfl ?_
    refine V_y (Y_move rfl) rfl rfl rfl ?_
    refine V_to (fun _ _ => rfl) ?_
    have hn45 := Sl.le h_l
    obtain ⟨o12, ho12, hm⟩ := Option.bind_eq_some_iff.1 hm
    refine C_cutG (ι := ((Int × know_Index) × Value × Value × Value × (Nat → Prop))) (fun ⟨s13, v20, v22, v24, A26⟩ => [(0, v_l), (2, .pointer (some ⟨b3, 0, none⟩))]) (fun ⟨s13, v20, v22, v24, A26⟩ => fun w' => o12 = .fin s13 ∧ Sl A26 w' v20 s13.2.ids ∧ Sl A26 w' v22 s13.2.sizes ∧ Sl A26 w' v24 s13.2.terms ∧ Hp w.heap.size A26 w' (obC b3 [v20, v22, v24] 26 :: []) ∧ Tr Dw w.heap.size A5 w4 A26 w') ?_ ?_
    · refine C_block ?_
      refine C_range ho12 (fun k15 s28 a w' => ∃ i : (Value × Value × Value × (Nat → Prop)), Has ⟨42, [], none⟩ a ([(0, v_l), (2, .pointer (some ⟨b3, 0, none⟩)), (4, .int .i64 s28.1), (15, v_l), (16, .int .i64 (l.length : Int)), (17, .int .i64 (k15 : Int))]) ∧ Sl i.2.2.2 w' i.1 s28.2.ids ∧ Sl i.2.2.2 w' i.2.1 s28.2.sizes ∧ Sl i.2.2.2 w' i.2.2.1 s28.2.terms ∧ Hp w.heap.size i.2.2.2 w' (obC b3 [i.1, i.2.1, i.2.2.1] 26 :: []) ∧ Tr Dw w.heap.size A5 w4 i.2.2.2 w') (fun a ha => ⟨(.slice none 0 0, .slice none 0 0, .slice none 0 0, A5), ha.sub ⟨rfl, rfl, rfl, rfl, rfl, rfl, trivial⟩, ⟨Sl.nil, Sl.nil, Sl.nil, hH, Tr.refl (Dw := Dw) hA⟩⟩) ?_
      rintro K k15 s28 a w29 ⟨⟨v30, v32, v34, A36⟩, ha72, h31, h33, h35, hH37, hr14⟩ hle41 K44 h43
      refine C_of ?_ ha72
      replace h_l := Sl.tr (Dw := Dw) h_l hr14
      replace hK := Tr.trans (Dw := Dw) hK hr14
      replace hB := Nat.le_trans hB hr14.ex.size
      replace hA := hr14.new
      replace hH : Hp w.heap.size A36 w29 (obC b3 [v30, v32, v34] 26 :: []) := hH37
      refine C_seq (C_region (V_y (Y_lss rfl rfl) rfl rfl rfl (V_to (fun _ _ => rfl) ?_)))
      refine C_seq ?_
      refine C_cond rfl (fun hc46 => ?_) (fun hc46 => ?_)
      · have hlt42 := lt_of_dec hc46
        obtain ⟨x38, h39, h40⟩ := K44 hlt42
        refine C_skip_to (fun _ _ => rfl) ?_
        refine C_seq ?_
        refine C_block ?_
        refine C_seq ?_
        refine C_region ?_
        obtain ⟨x47, hx47, h39⟩ := Option.bind_eq_some_iff.1 h39
        refine V_indexAddr h_l hx47 Tryz.underlying22 Tryz.sizeOf33 rfl rfl rfl ?_
        intro b48 o49 h50
        obtain ⟨h51, _⟩ := El_know_Entry h50
        refine V_y (Y_loadA h51 Tryz.isAgg33 Tryz.sizeOf33 rfl) rfl rfl rfl ?_
        refine V_alloc Tryz.zeroValue33 rfl ?_
        intro b52 w53 h54
        refine V_storeNew h54 Tryz.sizeOf33 rfl rfl rfl rfl (by exact (List.forall_mem_cons.2 ⟨rfl, (List.forall_mem_cons.2 ⟨rfl, (List.forall_mem_cons.2 ⟨rfl, (fun _ h => nomatch h)⟩)⟩)⟩)) ?_
        intro w55 h56
        have hk58 := h56.kp (Dw := Dw)
        have h57 : El (α := know_Entry) A36 w55 b52 0 x47 := h56.el hA ⟨[.int .i64 x47.id_], _, rfl, rfl, ⟨[.string x47.title], _, rfl, rfl, rfl⟩⟩
        have ht59 := Kp.tr (Dw := Dw) hk58 hA hB
        replace hH := Hp.kp (Dw := Dw) hH hk58
        replace h_l := Sl.tr (Dw := Dw) h_l ht59
        replace h50 := El.tr (Dw := Dw) h50 ht59
        replace h31 := Sl.tr (Dw := Dw) h31 ht59
        replace h33 := Sl.tr (Dw := Dw) h33 ht59
        replace h35 := Sl.tr (Dw := Dw) h35 ht59
        replace hK := Tr.trans (Dw := Dw) hK ht59
        replace hr14 := Tr.trans (Dw := Dw) hr14 ht59
        replace hB := Nat.le_trans hB ht59.ex.size
        replace hA := ht59.new
        refine V_to (fun _ _ => rfl) ?_
        refine C_seq ?_
        refine C_seq ?_
        refine C_region ?_
        obtain ⟨h60, _⟩ := El_know_Entry h57
        refine V_y (Y_loadA h60 Tryz.isAgg33 Tryz.sizeOf33 rfl) rfl rfl rfl ?_
        refine V_y (Y_move rfl) rfl rfl rfl ?_
        obtain ⟨x61, hx61, h39⟩ := Option.bind_eq_some_iff.1 h39
        refine V_call Tryz.call14 rfl rfl rfl rfl (know_checkEntry_c (Dw := Dw) w55 hA x47 s28.1 hx61) ?_
        rintro _ w62 ⟨rfl, hk63⟩
        have ht64 := Kp.tr (Dw := Dw) hk63 hA hB
        replace hH := Hp.kp (Dw := Dw) hH hk63
        replace h_l := Sl.tr (Dw := Dw) h_l ht64
        replace h57 := El.tr (Dw := Dw) h57 ht64
        replace h31 := Sl.tr (Dw := Dw) h31 ht64
        replace h33 := Sl.tr (Dw := Dw) h33 ht64
        replace h35 := Sl.tr (Dw := Dw) h35 ht64
        replace hK := Tr.trans (Dw := Dw) hK ht64
        replace hr14 := Tr.trans (Dw := Dw) hr14 ht64
        replace hB := Nat.le_trans hB ht64.ex.size
        replace hA := ht64.new
        refine V_y (Y_assign rfl) rfl rfl rfl ?_
        refine V_to (fun _ _ => rfl) ?_
        refine C_seq ?_
        refine C_region ?_
        refine V_y (Y_move rfl) rfl rfl rfl ?_
        refine V_y (Y_neq rfl rfl) rfl rfl rfl ?_
        refine V_to (fun _ _ => rfl) ?_
        refine C_cond rfl (fun hc65 => ?_) (fun hc65 => ?_)
        · rw [if_pos hc65] at h39
          refine C_seq ?_
          refine C_region ?_
          refine V_y (Y_build Tryz.underlying26 Tryz.zeroValue26 (Tryz_places26 _ Tryz.underlying26) rfl (by with_unfolding_all rfl)) rfl rfl rfl ?_
          refine V_y (Y_move rfl) rfl rfl rfl ?_
          refine V_storeC (Dw := Dw) (off := 0) (ds := [.slice none 0 0, .slice none 0 0, .slice none 0 0]) hH (i := 0) rfl Tryz.sizeOf26 rfl (Nat.le_of_ble_eq_true rfl) (by exact (List.forall_mem_cons.2 ⟨rfl, (List.forall_mem_cons.2 ⟨rfl, (List.forall_mem_cons.2 ⟨rfl, (fun _ h => nomatch h)⟩)⟩)⟩)) rfl hB hA rfl rfl ?_
          intro w66 hH67 ht68
          replace h_l := Sl.tr (Dw := Dw) h_l ht68
          replace h57 := El.tr (Dw := Dw) h57 ht68
          replace h31 := Sl.tr (Dw := Dw) h31 ht68
          replace h33 := Sl.tr (Dw := Dw) h33 ht68
          replace h35 := Sl.tr (Dw := Dw) h35 ht68
          replace hK := Tr.trans (Dw := Dw) hK ht68
          replace hr14 := Tr.trans (Dw := Dw) hr14 ht68
          replace hB := Nat.le_trans hB ht68.ex.size
          replace hA := ht68.new
          replace hH : Hp w.heap.size A36 w66 (obC b3 [.slice none 0 0, .slice none 0 0, .slice none 0 0] 26 :: []) := hH67
          refine V_y (Y_assign rfl) rfl rfl rfl ?_
          refine V_to (fun _ _ => rfl) ?_
          obtain rfl := Option.some.inj h39
          obtain rfl := (h40 : Lp.rt _ = _)
          rw [Lp.andThen_rt] at hm
          obtain rfl := Option.some.inj hm
          refine C_ret ?_
          try simp only [↓inBlock_ret, ↓then_ret]
          exact retQ rfl (Res.l2 Tryz.results5 (RL.cell rfl (loadVar_agg (Hp.part (off := 0) (n := 3) (ds := [.slice none 0 0, .slice none 0 0, .slice none 0 0]) hH (i := 0) rfl rfl) Tryz.isAgg26 Tryz.sizeOf26)) (RL.tmp rfl)) ⟨.slice none 0 0, .slice none 0 0, .slice none 0 0, rfl, Sl.nil, Sl.nil, Sl.nil, hK.kp⟩
        · rw [if_neg (nt hc65)] at h39
          refine C_skip_to (fun _ _ => rfl) ?_
          refine C_region ?_
          have h69 := El_know_Entry_0 h57
          refine V_y (Y_fieldAddr Tryz.underlying33 rfl Tryz.sizeOf3 (by decide) rfl) rfl rfl rfl ?_
          refine V_y (Y_load (El.int h69) Tryz.isAgg3 rfl) rfl rfl rfl ?_
          refine V_y (Y_assign rfl) rfl rfl rfl ?_
          refine V_to (fun _ _ => rfl) ?_
          refine C_region ?_
          refine V_y (Y_addI rfl rfl) rfl rfl rfl ?_
          refine V_y (Y_move rfl) rfl rfl rfl ?_
          obtain rfl := Option.some.inj h39
          refine V_end (fun a ha70 => ?_)
          exact ⟨(x47.id_, s28.2), hlt42, h40, ⟨(v30, v32, v34, A36), ha70.sub ⟨rfl, rfl, rfl, rfl, rfl, (congrArg (fun z => some (Value.int .i64 z)) (w64_succ hlt42 hn45)), trivial⟩, ⟨h31, h33, h35, hH, hr14⟩⟩⟩
      · refine C_exit (fun a ha71 => ?_)
        exact ⟨((s28.1, s28.2), v30, v32, v34, A36), ha71.sub ⟨rfl, rfl, trivial⟩, ⟨(h43 (eq_of_dec hle41 hc46)).symm, h31, h33, h35, hH, hr14⟩⟩
    rintro ⟨s13, v20, v22, v24, A26⟩ w17 ⟨rfl, h21, h23, h25, hH27, hk18⟩ a ha19
    rw [Lp.andThen_fin] at hm
    replace h_l := Sl.tr (Dw := Dw) h_l hk18
    replace hK := Tr.trans (Dw := Dw) hK hk18
    replace hB := Nat.le_trans hB hk18.ex.size
    replace hA := hk18.new
    replace hH : Hp w.heap.size A26 w17 (obC b3 [v20, v22, v24] 26 :: []) := hH27
    refine C_at (n := ⟨42, [], none⟩) (fun _ _ => rfl) ?_ ha19
    refine C_seq ?_
    refine C_region ?_
    refine V_allocH (Dw := Dw) (B := w.heap.size) hH Tryz.zeroValue26 hB hA rfl ?_
    intro b73 w74 A75 hH76 ht77
    replace h_l := Sl.tr (Dw := Dw) h_l ht77
    replace h21 := Sl.tr (Dw := Dw) h21 ht77
    replace h23 := Sl.tr (Dw := Dw) h23 ht77
    replace h25 := Sl.tr (Dw := Dw) h25 ht77
    replace hK := Tr.trans (Dw := Dw) hK ht77
    replace hB := Nat.le_trans hB ht77.ex.size
    replace hA := ht77.new
    replace hH : Hp w.heap.size A75 w74 (obC b73 [.slice none 0 0, .slice none 0 0, .slice none 0 0] 26 :: obC b3 [v20, v22, v24] 26 :: []) := hH76
    refine V_to (fun _ _ => rfl) ?_
    refine C_seq ?_
    refine C_seq ?_
    refine C_region ?_
    refine V_y (Y_move rfl) rfl rfl rfl ?_
    refine V_y (Y_lenSl h_l rfl Tryz.underlying22 rfl) rfl rfl rfl ?_
    refine V_y (Y_move rfl) rfl rfl rfl ?_
    refine V_to (fun _ _ => rfl) ?_
    have hn110 := Sl.le h_l
    obtain ⟨o78, ho78, hm⟩ := Option.bind_eq_some_iff.1 hm
    refine C_cutG (ι := (know_Index × Value × Value × Value × (Nat → Prop))) (fun ⟨s79, v85, v87, v89, A91⟩ => [(2, .pointer (some ⟨b3, 0, none⟩)), (8, .pointer (some ⟨b73, 0, none⟩))]) (fun ⟨s79, v85, v87, v89, A91⟩ => fun w' => o78 = .fin s79 ∧ Sl A91 w' v85 s79.ids ∧ Sl A91 w' v87 s79.sizes ∧ Sl A91 w' v89 s79.terms ∧ Hp w.heap.size A91 w' (obC b73 [v85, v87, v89] 26 :: obC b3 [v20, v22, v24] 26 :: []) ∧ Tr Dw w.heap.size A75 w74 A91 w') ?_ ?_
    · refine C_block ?_
      refine C_range ho78 (fun k81 s93 a w' => ∃ i : (Value × Value × Value × (Nat → Prop)), Has ⟨42, [], none⟩ a ([(2, .pointer (some ⟨b3, 0, none⟩)), (8, .pointer (some ⟨b73, 0, none⟩)), (31, v_l), (32, .int .i64 (l.length : Int)), (33, .int .i64 (k81 : Int))]) ∧ Sl i.2.2.2 w' i.1 s93.ids ∧ Sl i.2.2.2 w' i.2.1 s93.sizes ∧ Sl i.2.2.2 w' i.2.2.1 s93.terms ∧ Hp w.heap.size i.2.2.2 w' (obC b73 [i.1, i.2.1, i.2.2.1] 26 :: obC b3 [v20, v22, v24] 26 :: []) ∧ Tr Dw w.heap.size A75 w74 i.2.2.2 w') (fun a ha => ⟨(.slice none 0 0, .slice none 0 0, .slice none 0 0, A75), ha.sub ⟨rfl, rfl, rfl, rfl, rfl, trivial⟩, ⟨Sl.nil, Sl.nil, Sl.nil, hH, Tr.refl (Dw := Dw) hA⟩⟩) ?_
      rintro K k81 s93 a w94 ⟨⟨v95, v97, v99, A101⟩, ha150, h96, h98, h100, hH102, hr80⟩ hle106 K109 h108
      refine C_of ?_ ha150
      replace h_l := Sl.tr (Dw := Dw) h_l hr80
      replace h21 := Sl.tr (Dw := Dw) h21 hr80
      replace h23 := Sl.tr (Dw := Dw) h23 hr80
      replace h25 := Sl.tr (Dw := Dw) h25 hr80
      replace hK := Tr.trans (Dw := Dw) hK hr80
      replace hB := Nat.le_trans hB hr80.ex.size
      replace hA := hr80.new
      replace hH : Hp w.heap.size A101 w94 (obC b73 [v95, v97, v99] 26 :: obC b3 [v20, v22, v24] 26 :: []) := hH102
      refine C_seq (C_region (V_y (Y_lss rfl rfl) rfl rfl rfl (V_to (fun _ _ => rfl) ?_)))
      refine C_seq ?_
      refine C_cond rfl (fun hc111 => ?_) (fun hc111 => ?_)
      · have hlt107 := lt_of_dec hc111
        obtain ⟨x103, h104, h105⟩ := K109 hlt107
        refine C_skip_to (fun _ _ => rfl) ?_
        refine C_seq ?_
        refine C_block ?_
        refine C_seq ?_
        refine C_region ?_
        obtain ⟨x112, hx112, h104⟩ := Option.bind_eq_some_iff.1 h104
        refine V_indexAddr h_l hx112 Tryz.underlying22 Tryz.sizeOf33 rfl rfl rfl ?_
        intro b113 o114 h115
        obtain ⟨h116, _⟩ := El_know_Entry h115
        refine V_y (Y_loadA h116 Tryz.isAgg33 Tryz.sizeOf33 rfl) rfl rfl rfl ?_
        refine V_alloc Tryz.zeroValue33 rfl ?_
        intro b117 w118 h119
        refine V_storeNew h119 Tryz.sizeOf33 rfl rfl rfl rfl (by exact (List.forall_mem_cons.2 ⟨rfl, (List.forall_mem_cons.2 ⟨rfl, (List.forall_mem_cons.2 ⟨rfl, (fun _ h => nomatch h)⟩)⟩)⟩)) ?_
        intro w120 h121
        have hk123 := h121.kp (Dw := Dw)
        have h122 : El (α := know_Entry) A101 w120 b117 0 x112 := h121.el hA ⟨[.int .i64 x112.id_], _, rfl, rfl, ⟨[.string x112.title], _, rfl, rfl, rfl⟩⟩
        have ht124 := Kp.tr (Dw := Dw) hk123 hA hB
        replace hH := Hp.kp (Dw := Dw) hH hk123
        replace h_l := Sl.tr (Dw := Dw) h_l ht124
        replace h115 := El.tr (Dw := Dw) h115 ht124
        replace h96 := Sl.tr (Dw := Dw) h96 ht124
        replace h98 := Sl.tr (Dw := Dw) h98 ht124
        replace h100 := Sl.tr (Dw := Dw) h100 ht124
        replace h21 := Sl.tr (Dw := Dw) h21 ht124
        replace h23 := Sl.tr (Dw := Dw) h23 ht124
        replace h25 := Sl.tr (Dw := Dw) h25 ht124
        replace hK := Tr.trans (Dw := Dw) hK ht124
        replace hr80 := Tr.trans (Dw := Dw) hr80 ht124
        replace hB := Nat.le_trans hB ht124.ex.size
        replace hA := ht124.new
        refine V_to (fun _ _ => rfl) ?_
        refine C_region ?_
        refine V_y (Y_loadA (Hp.part (off := 0) (n := 3) (ds := [v95, v97, v99]) hH (i := 0) rfl rfl) Tryz.isAgg26 Tryz.sizeOf26 rfl) rfl rfl rfl ?_
        obtain ⟨h125, _⟩ := El_know_Entry h122
        refine V_y (Y_loadA h125 Tryz.isAgg33 Tryz.sizeOf33 rfl) rfl rfl rfl ?_
        obtain ⟨x126, hx126, h104⟩ := Option.bind_eq_some_iff.1 h104
        refine V_call Tryz.call15 rfl rfl rfl rfl (know_Index_with_c (Dw := Dw) w120 hA s93 v95 h96 v97 h98 v99 h100 x112 hx126) ?_
        rintro _ w133 ⟨v127, v129, v131, rfl, h128, h130, h132, hk134⟩
        have ht135 := Kp.tr (Dw := Dw) hk134 hA hB
        replace hH := Hp.kp (Dw := Dw) hH hk134
        replace h_l := Sl.tr (Dw := Dw) h_l ht135
        replace h122 := El.tr (Dw := Dw) h122 ht135
        replace h96 := Sl.tr (Dw := Dw) h96 ht135
        replace h98 := Sl.tr (Dw := Dw) h98 ht135
        replace h100 := Sl.tr (Dw := Dw) h100 ht135
        replace h21 := Sl.tr (Dw := Dw) h21 ht135
        replace h23 := Sl.tr (Dw := Dw) h23 ht135
        replace h25 := Sl.tr (Dw := Dw) h25 ht135
        replace hK := Tr.trans (Dw := Dw) hK ht135
        replace hr80 := Tr.trans (Dw := Dw) hr80 ht135
        replace hB := Nat.le_trans hB ht135.ex.size
        replace hA := ht135.new
        have h141 : (v127).oneCell' = true := by obtain ⟨_, _, e, _⟩ := Sl.form h128; rw [e]; rfl
        have h144 : (v129).oneCell' = true := by obtain ⟨_, _, e, _⟩ := Sl.form h130; rw [e]; rfl
        have h147 : (v131).oneCell' = true := by obtain ⟨_, _, e, _⟩ := Sl.form h132; rw [e]; rfl
        refine V_storeC (Dw := Dw) (off := 0) (ds := [v127, v129, v131]) hH (i := 0) rfl Tryz.sizeOf26 rfl (Nat.le_of_ble_eq_true rfl) (by exact (List.forall_mem_cons.2 ⟨h141, (List.forall_mem_cons.2 ⟨h144, (List.forall_mem_cons.2 ⟨h147, (fun _ h => nomatch h)⟩)⟩)⟩)) rfl hB hA rfl rfl ?_
        intro w136 hH137 ht138
        replace h_l := Sl.tr (Dw := Dw) h_l ht138
        replace h122 := El.tr (Dw := Dw) h122 ht138
        replace h96 := Sl.tr (Dw := Dw) h96 ht138
        replace h98 := Sl.tr (Dw := Dw) h98 ht138
        replace h100 := Sl.tr (Dw := Dw) h100 ht138
        replace h128 := Sl.tr (Dw := Dw) h128 ht138
        replace h130 := Sl.tr (Dw := Dw) h130 ht138
        replace h132 := Sl.tr (Dw := Dw) h132 ht138
        replace h21 := Sl.tr (Dw := Dw) h21 ht138
        replace h23 := Sl.tr (Dw := Dw) h23 ht138
        replace h25 := Sl.tr (Dw := Dw) h25 ht138
        replace hK := Tr.trans (Dw := Dw) hK ht138
        replace hr80 := Tr.trans (Dw := Dw) hr80 ht138
        replace hB := Nat.le_trans hB ht138.ex.size
        replace hA := ht138.new
        replace hH : Hp w.heap.size A101 w136 (obC b73 [v127, v129, v131] 26 :: obC b3 [v20, v22, v24] 26 :: []) := hH137
        refine V_to (fun _ _ => rfl) ?_
        refine C_region ?_
        refine V_y (Y_addI rfl rfl) rfl rfl rfl ?_
        refine V_y (Y_move rfl) rfl rfl rfl ?_
        obtain rfl := Option.some.inj h104
        refine V_end (fun a ha148 => ?_)
        exact ⟨x126, hlt107, h105, ⟨(v127, v129, v131, A101), ha148.sub ⟨rfl, rfl, rfl, rfl, (congrArg (fun z => some (Value.int .i64 z)) (w64_succ hlt107 hn110)), trivial⟩, ⟨h128, h130, h132, hH, hr80⟩⟩⟩
      · refine C_exit (fun a ha149 => ?_)
        exact ⟨(s93, v95, v97, v99, A101), ha149.sub ⟨rfl, rfl, trivial⟩, ⟨(h108 (eq_of_dec hle106 hc111)).symm, h96, h98, h100, hH, hr80⟩⟩
    rintro ⟨s79, v85, v87, v89, A91⟩ w82 ⟨rfl, h86, h88, h90, hH92, hk83⟩ a ha84
    rw [Lp.andThen_fin] at hm
    replace h21 := Sl.tr (Dw := Dw) h21 hk83
    replace h23 := Sl.tr (Dw := Dw) h23 hk83
    replace h25 := Sl.tr (Dw := Dw) h25 hk83
    replace hK := Tr.trans (Dw := Dw) hK hk83
    replace hB := Nat.le_trans hB hk83.ex.size
    replace hA := hk83.new
    replace hH : Hp w.heap.size A91 w82 (obC b73 [v85, v87, v89] 26 :: obC b3 [v20, v22, v24] 26 :: []) := hH92
    refine C_at (n := ⟨42, [], none⟩) (fun _ _ => rfl) ?_ ha84
    refine C_seq ?_
    refine C_region ?_
    refine V_y (Y_loadA (Hp.part (off := 0) (n := 3) (ds := [v85, v87, v89]) hH (i := 0) rfl rfl) Tryz.isAgg26 Tryz.sizeOf26 rfl) rfl rfl rfl ?_
    have h156 : (v85).oneCell' = true := by obtain ⟨_, _, e, _⟩ := Sl.form h86; rw [e]; rfl
    have h159 : (v87).oneCell' = true := by obtain ⟨_, _, e, _⟩ := Sl.form h88; rw [e]; rfl
    have h162 : (v89).oneCell' = true := by obtain ⟨_, _, e, _⟩ := Sl.form h90; rw [e]; rfl
    refine V_storeC (Dw := Dw) (off := 0) (ds := [v85, v87, v89]) hH (i := 1) rfl Tryz.sizeOf26 rfl (Nat.le_of_ble_eq_true rfl) (by exact (List.forall_mem_cons.2 ⟨h156, (List.forall_mem_cons.2 ⟨h159, (List.forall_mem_cons.2 ⟨h162, (fun _ h => nomatch h)⟩)⟩)⟩)) rfl hB hA rfl rfl ?_
    intro w151 hH152 ht153
    replace h86 := Sl.tr (Dw := Dw) h86 ht153
    replace h88 := Sl.tr (Dw := Dw) h88 ht153
    replace h90 := Sl.tr (Dw := Dw) h90 ht153
    replace h21 := Sl.tr (Dw := Dw) h21 ht153
    replace h23 := Sl.tr (Dw := Dw) h23 ht153
    replace h25 := Sl.tr (Dw := Dw) h25 ht153
    replace hK := Tr.trans (Dw := Dw) hK ht153
    replace hB := Nat.le_trans hB ht153.ex.size
    replace hA := ht153.new
    replace hH : Hp w.heap.size A91 w151 (obC b73 [v85, v87, v89] 26 :: obC b3 [v85, v87, v89] 26 :: []) := hH152
    refine V_y (Y_assign rfl) rfl rfl rfl ?_
    refine V_to (fun _ _ => rfl) ?_
    obtain rfl := Option.some.inj hm
    refine C_ret ?_
    try simp only [↓inBlock_ret, ↓then_ret]
    exact retQ rfl (Res.l2 Tryz.results5 (RL.cell rfl (loadVar_agg (Hp.part (off := 0) (n := 3) (ds := [v85, v87, v89]) hH (i := 1) rfl rfl) Tryz.isAgg26 Tryz.sizeOf26)) (RL.tmp rfl)) ⟨v85, v87, v89, rfl, (Sl.out (Dw := Dw) h86 hA0 hK), (Sl.out (Dw := Dw) h88 hA0 hK), (Sl.out (Dw := Dw) h90 hA0 hK), hK.kp⟩

def Tryz_strings_ReplaceAll_lay_ren : Go.Shelf.Ren := ⟨fun | 138 => 138 | 143 => 140 | 154 => 109 | 155 => 79 | 165 => 139 | 166 => 141 | 169 => 143 | 195 => 171 | 197 => 142 | 217 => 188 | 218 => 172 | 219 => 175 | 224 => 190 | 225 => 189 | 240 => 173 | 241 => 174 | 260 => 176 | 266 => 195 | 267 => 191 | 276 => 186 | 277 => 187 | 314 => 196 | n => n, fun | 0 => 0 | 1 => 1 | 2 => 2 | 3 => 3 | 4 => 4 | 5 => 5 | 6 => 6 | 7 => 7 | 8 => 8 | 9 => 9 | 10 => 10 | 11 => 11 | 12 => 12 | 13 => 13 | 14 => 14 | 15 => 15 | 16 => 16 | 17 => 17 | 18 => 18 | 19 => 19 | 20 => 20 | 21 => 21 | 22 => 208 | 23 => 207 | 27 => 160 | 28 => 23 | 29 => 162 | 30 => 166 | 31 => 73 | 34 => 79 | 35 => 252 | 37 => 227 | 40 => 205 | 41 => 198 | 43 => 157 | 46 => 191 | 47 => 196 | 51 => 219 | 52 => 218 | 53 => 221 | 54 => 220 | 55 => 263 | 63 => 265 | 64 => 280 | 65 => 206 | 66 => 177 | 68 => 164 | 69 => 182 | 70 => 229 | 71 => 230 | 72 => 231 | 73 => 232 | 74 => 233 | 75 => 234 | 76 => 235 | 77 => 236 | 80 => 239 | 81 => 289 | 100 => 183 | 101 => 76 | 103 => 262 | 104 => 176 | 105 => 237 | 106 => 238 | 111 => 193 | 112 => 192 | 114 => 275 | 115 => 241 | 116 => 242 | 117 => 243 | 118 => 244 | 119 => 276 | 122 => 240 | 123 => 245 | 124 => 246 | 127 => 264 | 131 => 150 | 135 => 209 | 137 => 277 | 138 => 278 | 139 => 279 | 146 => 282 | 151 => 283 | 155 => 261 | 164 => 272 | 165 => 273 | 166 => 274 | 182 => 212 | 183 => 213 | 188 => 247 | 189 => 248 | 190 => 249 | 191 => 250 | 192 => 251 | 218 => 253 | 219 => 254 | 220 => 255 | 222 => 257 | 224 => 266 | 225 => 267 | 228 => 268 | 229 => 269 | 231 => 281 | 238 => 284 | 239 => 285 | 240 => 286 | 241 => 287 | 242 => 288 | 243 => 290 | 244 => 291 | 245 => 292 | 246 => 293 | 247 => 294 | 248 => 295 | 249 => 296 | n => n, fun | 1 => 0 | 3 => 1 | 4 => 2 | n => n⟩
theorem Tryz_strings_ReplaceAll_lay : Go.Proofs.Lays.n155 Tryz.prog Tryz_strings_ReplaceAll_lay_ren := {
  mixed := by kernel_rfl,
  f138 := Tryz.func138.trans (congrArg some (by kernel_rfl)),
  f143 := Tryz.func140.trans (congrArg some (by kernel_rfl)),
  f154 := Tryz.func109.trans (congrArg some (by kernel_rfl)),
  f155 := Tryz.func79.trans (congrArg some (by kernel_rfl)),
  f165 := Tryz.func139.trans (congrArg some (by kernel_rfl)),
  f166 := Tryz.func141.trans (congrArg some (by kernel_rfl)),
  f169 := Tryz.func143.trans (congrArg some (by kernel_rfl)),
  f195 := Tryz.func171.trans (congrArg some (by kernel_rfl)),
  f197 := Tryz.func142.trans (congrArg some (by kernel_rfl)),
  f217 := Tryz.func188.trans (congrArg some (by kernel_rfl)),
  f218 := Tryz.func172.trans (congrArg some (by kernel_rfl)),
  f219 := Tryz.func175.trans (congrArg some (by kernel_rfl)),
  f224 := Tryz.func190.trans (congrArg some (by kernel_rfl)),
  f225 := Tryz.func189.trans (congrArg some (by kernel_rfl)),
  f240 := Tryz.func173.trans (congrArg some (by kernel_rfl)),
  f241 := Tryz.func174.trans (congrArg some (by kernel_rfl)),
  f260 := Tryz.func176.trans (congrArg some (by kernel_rfl)),
  f266 := Tryz.func195.trans (congrArg some (by kernel_rfl)),
  f267 := Tryz.func191.trans (congrArg some (by kernel_rfl)),
  f276 := Tryz.func186.trans (congrArg some (by kernel_rfl)),
  f277 := Tryz.func187.trans (congrArg some (by kernel_rfl)),
  f314 := Tryz.func196.trans (congrArg some (by kernel_rfl)),
  t0 := Tryz.underlying0,
  a0 := Tryz.isAgg0,
  z0 := Tryz.sizeOf0,
  v0 := Tryz.zeroValue0,
  t3 := Tryz.underlying3,
  a3 := Tryz.isAgg3,
  z3 := Tryz.sizeOf3,
  v3 := Tryz.zeroValue3,
  t4 := Tryz.underlying4,
  a4 := Tryz.isAgg4,
  z4 := Tryz.sizeOf4,
  v4 := Tryz.zeroValue4,
  t5 := Tryz.underlying5,
  a5 := Tryz.isAgg5,
  z5 := Tryz.sizeOf5,
  v5 := Tryz.zeroValue5,
  t9 := Tryz.underlying9,
  a9 := Tryz.isAgg9,
  z9 := Tryz.sizeOf9,
  v9 := Tryz.zeroValue9,
  t20 := Tryz.underlying20,
  a20 := Tryz.isAgg20,
  z20 := Tryz.sizeOf20,
  v20 := Tryz.zeroValue20,
  t21 := Tryz.underlying21,
  a21 := Tryz.isAgg21,
  z21 := Tryz.sizeOf21,
  v21 := Tryz.zeroValue21,
  t37 := Tryz.underlying227,
  a37 := Tryz.isAgg227,
  z37 := Tryz.sizeOf227,
  v37 := Tryz.zeroValue227,
  t46 := Tryz.underlying191,
  a46 := Tryz.isAgg191,
  z46 := Tryz.sizeOf191,
  v46 := Tryz.zeroValue191,
  t51 := Tryz.underlying219,
  a51 := Tryz.isAgg219,
  z51 := Tryz.sizeOf219,
  v51 := Tryz.zeroValue219,
  t70 := Tryz.underlying229,
  a70 := Tryz.isAgg229,
  z70 := Tryz.sizeOf229,
  v70 := Tryz.zeroValue229,
  t72 := Tryz.underlying231,
  a72 := Tryz.isAgg231,
  z72 := Tryz.sizeOf231,
  v72 := Tryz.zeroValue231,
  t75 := Tryz.underlying234,
  a75 := Tryz.isAgg234,
  z75 := Tryz.sizeOf234,
  v75 := Tryz.zeroValue234,
  t76 := Tryz.underlying235,
  a76 := Tryz.isAgg235,
  z76 := Tryz.sizeOf235,
  v76 := Tryz.zeroValue235,
  t105 := Tryz.underlying237,
  a105 := Tryz.isAgg237,
  z105 := Tryz.sizeOf237,
  v105 := Tryz.zeroValue237,
  t119 := Tryz.underlying276,
  a119 := Tryz.isAgg276,
  z119 := Tryz.sizeOf276,
  t127 := Tryz.underlying264,
  a127 := Tryz.isAgg264,
  z127 := Tryz.sizeOf264,
  v127 := Tryz.zeroValue264,
  t138 := Tryz.underlying278,
  a138 := Tryz.isAgg278,
  z138 := Tryz.sizeOf278,
  v138 := Tryz.zeroValue278,
  t139 := Tryz.underlying279,
  a139 := Tryz.isAgg279,
  z139 := Tryz.sizeOf279,
  v139 := Tryz.zeroValue279,
  t146 := Tryz.underlying282,
  a146 := Tryz.isAgg282,
  z146 := Tryz.sizeOf282,
  v146 := Tryz.zeroValue282,
  t164 := Tryz.underlying272,
  a164 := Tryz.isAgg272,
  z164 := Tryz.sizeOf272,
  v164 := Tryz.zeroValue272,
  g1 := by kernel_rfl,
  g3 := by kernel_rfl,
  g4 := by kernel_rfl }
theorem Tryz_strings_ReplaceAll_lay_x : Go.Proofs.Builder.Extra Tryz.prog Tryz_strings_ReplaceAll_lay_ren := {
  sizeBuilder := by kernel_rfl
  liesBuilder := by kernel_rfl
  t5 := Tryz.underlying5
  a5 := Tryz.isAgg5
  z5 := Tryz.sizeOf5
  v5 := Tryz.zeroValue5
  infoByte := by kernel_rfl
  cellsByte := by kernel_rfl
  sizeByte := by kernel_rfl
  neB5 := (by decide : (231 : Nat) ≠ 5) }
theorem strings_ReplaceAll_c (w : World) {A : Nat → Prop} (hA : ∀ b, w.heap.size ≤ b → A b) (hT : Mx Tryz.prog 0 A w) (s : ByteArray) (old : ByteArray) (new : ByteArray) {r : ByteArray} (hm : strings_ReplaceAll s old new = some r) : Ret Tryz.prog 79 #[.string s, .string old, .string new] w fun v w' => v = .string r ∧ Kp False w w' := by
  unfold strings_ReplaceAll at hm
  split at hm
  case isFalse => cases hm
  rename_i h
  obtain rfl := Option.some.inj hm
  obtain ⟨⟨m, hmx⟩, _, _⟩ := hT
  refine Calls.mono (Go.Proofs.Any.strings_ReplaceAll Tryz_strings_ReplaceAll_lay Tryz_strings_ReplaceAll_lay_x s old new m w h.1 hmx h.2.1 h.2.2) ?_
  rintro _ w' ⟨rfl, hk⟩
  exact ⟨_, rfl, rfl, .of hk⟩

set_option maxRecDepth 4000 in
set_option maxHeartbeats 4000000 in
theorem portref2_lowByte_1_c (w : World) (r_ : Int) : Ret Tryz.prog 108 #[.int .i32 r_] w fun v w' => v = .bool (portref2_lowByte_1 r_) ∧ w = w' := by
  generalize hm : portref2_lowByte_1 r_ = r
  unfold portref2_lowByte_1 at hm
  refine enter Tryz.func108 rfl Tryz.ntmps108 rfl ?_
  refine C_seq ?_
  refine C_region ?_
  refine V_y (Y_assign rfl) rfl rfl rfl ?_
  refine V_to (fun _ _ => rfl) ?_
  refine C_seq ?_
  refine C_region ?_
  refine V_y (Y_move rfl) rfl rfl rfl ?_
  refine V_y (Y_lss rfl rfl) rfl rfl rfl ?_
  refine V_y (Y_move rfl) rfl rfl rfl ?_
  refine V_cut 3 (fun _ : Unit => [(8, .bool ((decide (r_ < 32)) || (r_ == 127)))]) (fun _ w' => w = w') ?_ ?_
  · simp only [List.take, List.drop]
    rcases Bool.eq_false_or_eq_true (decide (r_ < 32)) with hc1 | hc1
    · refine V_gn rfl rfl rfl hc1 rfl rfl rfl ?_
      refine V_gn rfl rfl rfl hc1 rfl rfl rfl ?_
      refine V_y (Y_pick_te rfl hc1 rfl) rfl rfl rfl ?_
      exact V_end fun a ha => ⟨(), ha.sub ⟨(by rw [hc1]; rfl), trivial⟩, rfl⟩
    · refine V_ge rfl rfl rfl hc1 ?_
      refine V_y (Y_move rfl) rfl rfl rfl ?_
      refine V_ge rfl rfl rfl hc1 ?_
      refine V_y (Y_eql rfl rfl) rfl rfl rfl ?_
      refine V_y (Y_pick_fe rfl hc1 rfl) rfl rfl rfl ?_
      exact V_end fun a ha => ⟨(), ha.sub ⟨(by rw [hc1]; rfl), trivial⟩, rfl⟩
  simp only [List.take, List.drop]
  rintro _ _ rfl
  refine V_y (Y_assign rfl) rfl rfl rfl ?_
  refine V_to (fun _ _ => rfl) ?_
  obtain rfl := hm
  refine C_ret ?_
  try simp only [↓inBlock_ret, ↓then_ret]
  exact retQ rfl (Res.one Tryz.results108 rfl) ⟨rfl, rfl⟩

set_option maxRecDepth 4000 in
set_option maxHeartbeats 4000000 in
theorem portref2_lowByte_c (w : World) {A : Nat → Prop} (hA : ∀ b, w.heap.size ≤ b → A b) (s : ByteArray) {r : Bool} (hm : portref2_lowByte s = some r) : Ret Tryz.prog 78 #[.string s] w fun v w' => v = .bool r ∧ Kp False w w' := by
  unfold portref2_lowByte at hm
  refine enter Tryz.func78 rfl Tryz.ntmps78 rfl ?_
  have hA0 := hA
  have hB := Nat.le_refl w.heap.size
  have hK : Tr False w.heap.size A w A w := Tr.refl (Dw := False) hA
  have hH : Hp w.heap.size A w [] := Hp.nil
  refine C_seq ?_
  refine C_region ?_
  refine V_y (Y_assign rfl) rfl rfl rfl ?_
  refine V_to (fun _ _ => rfl) ?_
  refine C_seq ?_
  refine C_region ?_
  refine V_y (Y_move rfl) rfl rfl rfl ?_
  refine V_call Tryz.call107 rfl rfl rfl rfl (contains_wrap (Go.Proofs.Any.strings_ContainsFunc_grows Tryz_contains_lay 108 #[] (fun args w => Tryz.call108 args w) (fun y => portref2_lowByte_1 (y : Int)) s w (fun W x _ _ => Calls.mono (portref2_lowByte_1_c W (x : Int)) fun _ _ h => contains_fn h))) ?_
  rintro _ w1 ⟨rfl, hk2⟩
  have ht3 := Kp.tr (Dw := False) hk2 hA hB
  replace hH := Hp.kp (Dw := False) hH hk2
  replace hK := Tr.trans (Dw := False) hK ht3
  replace hB := Nat.le_trans hB ht3.ex.size
  replace hA := ht3.new
  refine V_y (Y_assign rfl) rfl rfl rfl ?_
  refine V_to (fun _ _ => rfl) ?_
  obtain rfl := Option.some.inj hm
  refine C_ret ?_
  try simp only [↓inBlock_ret, ↓then_ret]
  exact retQ rfl (Res.one Tryz.results78 rfl) ⟨rfl, hK.kp⟩

set_option maxRecDepth 4000 in
set_option maxHeartbeats 4000000 in
theorem portref2_entryFault_c (w : World) {A : Nat → Prop} (hA : ∀ b, w.heap.size ≤ b → A b) (hT : Mx Tryz.prog 0 A w) (v : know_Entry) {r : Int} (hm : portref2_entryFault v = some r) : Ret Tryz.prog 16 #[.agg #[.int .i64 v.id_, .string v.title, .string v.body]] w fun v w' => v = .int .i64 r ∧ Kp False w w' := by
  unfold portref2_entryFault at hm
  refine enter Tryz.func16 rfl Tryz.ntmps16 rfl ?_
  have hA0 := hA
  have hB := Nat.le_refl w.heap.size
  have hK : Tr False w.heap.size A w A w := Tr.refl (Dw := False) hA
  have hH : Hp w.heap.size A w [] := Hp.nil
  refine C_seq ?_
  refine C_region ?_
  refine V_box rfl rfl ?_
  intro b1 w2 h3
  have hk5 := h3.kp (Dw := False)
  have h4 : El (α := know_Entry) A w2 b1 0 v := h3.el hA ⟨[.int .i64 v.id_], _, rfl, rfl, ⟨[.string v.title], _, rfl, rfl, rfl⟩⟩
  have ht6 := Kp.tr (Dw := False) hk5 hA hB
  replace hH := Hp.kp (Dw := False) hH hk5
  replace hK := Tr.trans (Dw := False) hK ht6
  replace hB := Nat.le_trans hB ht6.ex.size
  replace hA := ht6.new
  refine V_y (Y_assign rfl) rfl rfl rfl ?_
  refine V_to (fun _ _ => rfl) ?_
  refine C_seq ?_
  refine C_block ?_
  refine C_seq ?_
  refine C_region ?_
  have h7 := El_know_Entry_1 h4
  refine V_y (Y_fieldAddr Tryz.underlying33 rfl Tryz.sizeOf9 (by decide) rfl) rfl rfl rfl ?_
  refine V_y (Y_load (El.str h7) Tryz.isAgg9 rfl) rfl rfl rfl ?_
  refine V_y (Y_lenStr rfl Tryz.underlying9 rfl) rfl rfl rfl ?_
  refine V_y (Y_gtr rfl rfl) rfl rfl rfl ?_
  refine V_y (Y_move rfl) rfl rfl rfl ?_
  refine V_cut 5 (fun _ : Unit => [(1, .pointer (some ⟨b1, 0, none⟩)), (13, .bool ((decide ((200 : Int) < (v.title.size : Int))) || (decide ((20000 : Int) < (v.body.size : Int)))))]) (fun _ w' => w2 = w') ?_ ?_
  · simp only [List.take, List.drop]
    rcases Bool.eq_false_or_eq_true (decide ((200 : Int) < (v.title.size : Int))) with hc8 | hc8
    · refine V_gn rfl rfl rfl hc8 rfl rfl rfl ?_
      refine V_gn rfl rfl rfl hc8 rfl rfl rfl ?_
      refine V_gn rfl rfl rfl hc8 rfl rfl rfl ?_
      refine V_gn rfl rfl rfl hc8 rfl rfl rfl ?_
      refine V_y (Y_pick_te rfl hc8 rfl) rfl rfl rfl ?_
      exact V_end fun a ha => ⟨(), ha.sub ⟨rfl, (by rw [hc8]; rfl), trivial⟩, rfl⟩
    · refine V_ge rfl rfl rfl hc8 ?_
      have h10 := El_know_Entry_2 h4
      refine V_y (Y_fieldAddr Tryz.underlying33 rfl Tryz.sizeOf9 (by decide) rfl) rfl rfl rfl ?_
      refine V_ge rfl rfl rfl hc8 ?_
      refine V_y (Y_load (El.str h10) Tryz.isAgg9 rfl) rfl rfl rfl ?_
      refine V_ge rfl rfl rfl hc8 ?_
      refine V_y (Y_lenStr rfl Tryz.underlying9 rfl) rfl rfl rfl ?_
      refine V_ge rfl rfl rfl hc8 ?_
      refine V_y (Y_gtr rfl rfl) rfl rfl rfl ?_
      refine V_y (Y_pick_fe rfl hc8 rfl) rfl rfl rfl ?_
      exact V_end fun a ha => ⟨(), ha.sub ⟨rfl, (by rw [hc8]; rfl), trivial⟩, rfl⟩
  simp only [List.take, List.drop]
  rintro _ _ rfl
  refine V_y (Y_assign rfl) rfl rfl rfl ?_
  refine V_to (fun _ _ => rfl) ?_
  refine C_cond rfl (fun hc11 => ?_) (fun hc11 => ?_)
  · rw [if_pos hc11] at hm
    refine C_seq ?_
    refine C_region ?_
    refine V_y (Y_assign rfl) rfl rfl rfl ?_
    refine V_to (fun _ _ => rfl) ?_
    obtain rfl := Option.some.inj hm
    refine C_ret ?_
    try simp only [↓inBlock_ret, ↓then_ret]
    exact retQ rfl (Res.one Tryz.results16 rfl) ⟨rfl, hK.kp⟩
  · rw [if_neg (nt hc11)] at hm
    refine C_seq ?_
    obtain ⟨s13, ho12, hm⟩ := Option.bind_eq_some_iff.1 hm
    refine C_cutG (ι := (Nat → Prop)) (fun (A18 : (Nat → Prop)) => [(14, .bool s13)]) (fun (A18 : (Nat → Prop)) => fun w' => Hp w.heap.size A18 w' ([]) ∧ Tr False w.heap.size A w2 A18 w') ?_ ?_
    · have hr14 : Tr False w.heap.size A w2 A w2 := Tr.refl (Dw := False) hA
      refine C_region ?_
      have h20 := El_know_Entry_1 h4
      refine V_y (Y_fieldAddr Tryz.underlying33 rfl Tryz.sizeOf9 (by decide) rfl) rfl rfl rfl ?_
      refine V_y (Y_load (El.str h20) Tryz.isAgg9 rfl) rfl rfl rfl ?_
      obtain ⟨x21, hx21, ho12⟩ := Option.bind_eq_some_iff.1 ho12
      refine V_call Tryz.call78 rfl rfl rfl rfl (portref2_lowByte_c w2 hA v.title hx21) ?_
      rintro _ w22 ⟨rfl, hk23⟩
      have ht24 := Kp.tr (Dw := False) hk23 hA hB
      replace hH := Hp.kp (Dw := False) hH hk23
      replace h4 := El.tr (Dw := False) h4 ht24
      replace h20 := El.tr (Dw := False) h20 ht24
      replace hK := Tr.trans (Dw := False) hK ht24
      replace hr14 := Tr.trans (Dw := False) hr14 ht24
      replace hB := Nat.le_trans hB ht24.ex.size
      replace hA := ht24.new
      refine V_y (Y_move rfl) rfl rfl rfl ?_
      rcases Bool.eq_false_or_eq_true (x21) with hc25 | hc25
      · rw [if_pos hc25] at ho12
        refine V_gn rfl rfl rfl hc25 rfl rfl rfl ?_
        refine V_gn rfl rfl rfl hc25 rfl rfl rfl ?_
        refine V_gn rfl rfl rfl hc25 rfl rfl rfl ?_
        refine V_gn rfl rfl rfl hc25 rfl rfl rfl ?_
        refine V_y (Y_pick_te rfl hc25 rfl) rfl rfl rfl ?_
        refine V_y (Y_assign rfl) rfl rfl rfl ?_
        obtain rfl := Option.some.inj ho12
        refine V_end (fun a ha26 => ?_)
        exact ⟨A, ha26.sub ⟨rfl, trivial⟩, ⟨hH, hr14⟩⟩
      · rw [if_neg (nt hc25)] at ho12
        refine V_ge rfl rfl rfl hc25 ?_
        have h27 := El_know_Entry_2 h4
        refine V_y (Y_fieldAddr Tryz.underlying33 rfl Tryz.sizeOf9 (by decide) rfl) rfl rfl rfl ?_
        refine V_ge rfl rfl rfl hc25 ?_
        refine V_y (Y_load (El.str h27) Tryz.isAgg9 rfl) rfl rfl rfl ?_
        refine V_ge rfl rfl rfl hc25 ?_
        obtain ⟨x28, hx28, ho12⟩ := Option.bind_eq_some_iff.1 ho12
        refine V_call Tryz.call79 rfl rfl rfl rfl (strings_ReplaceAll_c w22 hA (Mx.tr (Dw := False) hT hK) v.body (⟨#[10]⟩ : ByteArray) (⟨#[]⟩ : ByteArray) hx28) ?_
        rintro _ w29 ⟨rfl, hk30⟩
        have ht31 := Kp.tr (Dw := False) hk30 hA hB
        replace hH := Hp.kp (Dw := False) hH hk30
        replace h4 := El.tr (Dw := False) h4 ht31
        replace h20 := El.tr (Dw := False) h20 ht31
        replace h27 := El.tr (Dw := False) h27 ht31
        replace hK := Tr.trans (Dw := False) hK ht31
        replace hr14 := Tr.trans (Dw := False) hr14 ht31
        replace hB := Nat.le_trans hB ht31.ex.size
        replace hA := ht31.new
        refine V_ge rfl rfl rfl hc25 ?_
        obtain ⟨x32, hx32, ho12⟩ := Option.bind_eq_some_iff.1 ho12
        refine V_call Tryz.call78 rfl rfl rfl rfl (portref2_lowByte_c w29 hA x28 hx32) ?_
        rintro _ w33 ⟨rfl, hk34⟩
        have ht35 := Kp.tr (Dw := False) hk34 hA hB
        replace hH := Hp.kp (Dw := False) hH hk34
        replace h4 := El.tr (Dw := False) h4 ht35
        replace h20 := El.tr (Dw := False) h20 ht35
        replace h27 := El.tr (Dw := False) h27 ht35
        replace hK := Tr.trans (Dw := False) hK ht35
        replace hr14 := Tr.trans (Dw := False) hr14 ht35
        replace hB := Nat.le_trans hB ht35.ex.size
        replace hA := ht35.new
        refine V_y (Y_pick_fe rfl hc25 rfl) rfl rfl rfl ?_
        refine V_y (Y_assign rfl) rfl rfl rfl ?_
        obtain rfl := Option.some.inj ho12
        refine V_end (fun a ha36 => ?_)
        exact ⟨A, ha36.sub ⟨rfl, trivial⟩, ⟨hH, hr14⟩⟩
    rintro A18 w15 ⟨hH19, hk16⟩ a ha17
    replace hK := Tr.trans (Dw := False) hK hk16
    replace hB := Nat.le_trans hB hk16.ex.size
    replace hA := hk16.new
    replace hH : Hp w.heap.size A18 w15 ([]) := hH19
    refine C_at (n := ⟨24, [], none⟩) (fun _ _ => rfl) ?_ ha17
    refine C_cond rfl (fun hc37 => ?_) (fun hc37 => ?_)
    · rw [if_pos hc37] at hm
      refine C_seq ?_
      refine C_region ?_
      refine V_y (Y_assign rfl) rfl rfl rfl ?_
      refine V_to (fun _ _ => rfl) ?_
      obtain rfl := Option.some.inj hm
      refine C_ret ?_
      try simp only [↓inBlock_ret, ↓then_ret]
      exact retQ rfl (Res.one Tryz.results16 rfl) ⟨rfl, hK.kp⟩
    · rw [if_neg (nt hc37)] at hm
      refine C_skip_to (fun _ _ => rfl) ?_
      refine C_seq ?_
      refine C_region ?_
      refine V_y (Y_assign rfl) rfl rfl rfl ?_
      refine V_to (fun _ _ => rfl) ?_
      obtain rfl := Option.some.inj hm
      refine C_ret ?_
      try simp only [↓inBlock_ret, ↓then_ret]
      exact retQ rfl (Res.one Tryz.results16 rfl) ⟨rfl, hK.kp⟩

set_option maxRecDepth 4000 in
set_option maxHeartbeats 4000000 in
theorem portref2_isWordByte_c (w : World) (b : Int) : Ret Tryz.prog 100 #[.int .u8 b] w fun v w' => v = .bool (portref2_isWordByte b) ∧ w = w' := by
  generalize hm : portref2_isWordByte b = r
  unfold portref2_isWordByte at hm
  refine enter Tryz.func100 rfl Tryz.ntmps100 rfl ?_
  refine C_seq ?_
  refine C_region ?_
  refine V_y (Y_assign rfl) rfl rfl rfl ?_
  refine V_to (fun _ _ => rfl) ?_
  refine C_seq ?_
  refine C_region ?_
  refine V_y (Y_move rfl) rfl rfl rfl ?_
  refine V_y (Y_geq rfl rfl) rfl rfl rfl ?_
  refine V_y (Y_move rfl) rfl rfl rfl ?_
  refine V_cut 3 (fun _ : Unit => [(0, .int .u8 b), (8, .bool ((decide ((97 : Int) ≤ b)) && (decide (b ≤ 122))))]) (fun _ w' => w = w') ?_ ?_
  · simp only [List.take, List.drop]
    rcases Bool.eq_false_or_eq_true (decide ((97 : Int) ≤ b)) with hc1 | hc1
    · refine V_ge rfl rfl rfl hc1 ?_
      refine V_y (Y_move rfl) rfl rfl rfl ?_
      refine V_ge rfl rfl rfl hc1 ?_
      refine V_y (Y_leq rfl rfl) rfl rfl rfl ?_
      refine V_y (Y_pick_te rfl hc1 rfl) rfl rfl rfl ?_
      exact V_end fun a ha => ⟨(), ha.sub ⟨rfl, (by rw [hc1]; rfl), trivial⟩, rfl⟩
    · refine V_gn rfl rfl rfl hc1 rfl rfl rfl ?_
      refine V_gn rfl rfl rfl hc1 rfl rfl rfl ?_
      refine V_y (Y_pick_fe rfl hc1 rfl) rfl rfl rfl ?_
      exact V_end fun a ha => ⟨(), ha.sub ⟨rfl, (by rw [hc1]; rfl), trivial⟩, rfl⟩
  simp only [List.take, List.drop]
  rintro _ _ rfl
  refine V_y (Y_move rfl) rfl rfl rfl ?_
  refine V_cut 7 (fun _ : Unit => [(0, .int .u8 b), (16, .bool (((decide ((97 : Int) ≤ b)) && (decide (b ≤ 122))) || ((decide ((65 : Int) ≤ b)) && (decide (b ≤ 90)))))]) (fun _ w' => w = w') ?_ ?_
  · simp only [List.take, List.drop]
    rcases Bool.eq_false_or_eq_true (((decide ((97 : Int) ≤ b)) && (decide (b ≤ 122)))) with hc3 | hc3
    · refine V_gn rfl rfl rfl hc3 rfl rfl rfl ?_
      refine V_gn rfl rfl rfl hc3 rfl rfl rfl ?_
      refine V_gn rfl rfl rfl hc3 rfl rfl rfl ?_
      refine V_gu rfl rfl rfl rfl rfl ?_
      refine V_gu rfl rfl rfl rfl rfl ?_
      refine V_gn rfl rfl rfl hc3 rfl rfl rfl ?_
      refine V_y (Y_pick_te rfl hc3 rfl) rfl rfl rfl ?_
      exact V_end fun a ha => ⟨(), ha.sub ⟨rfl, (by rw [hc3]; rfl), trivial⟩, rfl⟩
    · refine V_ge rfl rfl rfl hc3 ?_
      refine V_y (Y_move rfl) rfl rfl rfl ?_
      refine V_ge rfl rfl rfl hc3 ?_
      refine V_y (Y_geq rfl rfl) rfl rfl rfl ?_
      refine V_ge rfl rfl rfl hc3 ?_
      refine V_y (Y_move rfl) rfl rfl rfl ?_
      refine V_cut 3 (fun _ : Unit => [(0, .int .u8 b), (9, .bool ((decide ((97 : Int) ≤ b)) && (decide (b ≤ 122)))), (15, .bool ((decide ((65 : Int) ≤ b)) && (decide (b ≤ 90))))]) (fun _ w' => w = w') ?_ ?_
      · simp only [List.take, List.drop]
        rcases Bool.eq_false_or_eq_true (decide ((65 : Int) ≤ b)) with hc5 | hc5
        · refine V_ge rfl rfl rfl hc5 ?_
          refine V_y (Y_move rfl) rfl rfl rfl ?_
          refine V_ge rfl rfl rfl hc5 ?_
          refine V_y (Y_leq rfl rfl) rfl rfl rfl ?_
          refine V_ge rfl rfl rfl hc3 ?_
          refine V_y (Y_pick_te rfl hc5 rfl) rfl rfl rfl ?_
          exact V_end fun a ha => ⟨(), ha.sub ⟨rfl, rfl, (by rw [hc5]; rfl), trivial⟩, rfl⟩
        · refine V_gn rfl rfl rfl hc5 rfl rfl rfl ?_
          refine V_gn rfl rfl rfl hc5 rfl rfl rfl ?_
          refine V_ge rfl rfl rfl hc3 ?_
          refine V_y (Y_pick_fe rfl hc5 rfl) rfl rfl rfl ?_
          exact V_end fun a ha => ⟨(), ha.sub ⟨rfl, rfl, (by rw [hc5]; rfl), trivial⟩, rfl⟩
      simp only [List.take, List.drop]
      rintro _ _ rfl
      refine V_y (Y_pick_fe rfl hc3 rfl) rfl rfl rfl ?_
      exact V_end fun a ha => ⟨(), ha.sub ⟨rfl, (by rw [hc3]; rfl), trivial⟩, rfl⟩
  simp only [List.take, List.drop]
  rintro _ _ rfl
  refine V_y (Y_move rfl) rfl rfl rfl ?_
  refine V_cut 7 (fun _ : Unit => [(0, .int .u8 b), (24, .bool ((((decide ((97 : Int) ≤ b)) && (decide (b ≤ 122))) || ((decide ((65 : Int) ≤ b)) && (decide (b ≤ 90)))) || ((decide ((48 : Int) ≤ b)) && (decide (b ≤ 57)))))]) (fun _ w' => w = w') ?_ ?_
  · simp only [List.take, List.drop]
    rcases Bool.eq_false_or_eq_true ((((decide ((97 : Int) ≤ b)) && (decide (b ≤ 122))) || ((decide ((65 : Int) ≤ b)) && (decide (b ≤ 90))))) with hc7 | hc7
    · refine V_gn rfl rfl rfl hc7 rfl rfl rfl ?_
      refine V_gn rfl rfl rfl hc7 rfl rfl rfl ?_
      refine V_gn rfl rfl rfl hc7 rfl rfl rfl ?_
      refine V_gu rfl rfl rfl rfl rfl ?_
      refine V_gu rfl rfl rfl rfl rfl ?_
      refine V_gn rfl rfl rfl hc7 rfl rfl rfl ?_
      refine V_y (Y_pick_te rfl hc7 rfl) rfl rfl rfl ?_
      exact V_end fun a ha => ⟨(), ha.sub ⟨rfl, (by rw [hc7]; rfl), trivial⟩, rfl⟩
    · refine V_ge rfl rfl rfl hc7 ?_
      refine V_y (Y_move rfl) rfl rfl rfl ?_
      refine V_ge rfl rfl rfl hc7 ?_
      refine V_y (Y_geq rfl rfl) rfl rfl rfl ?_
      refine V_ge rfl rfl rfl hc7 ?_
      refine V_y (Y_move rfl) rfl rfl rfl ?_
      refine V_cut 3 (fun _ : Unit => [(0, .int .u8 b), (17, .bool (((decide ((97 : Int) ≤ b)) && (decide (b ≤ 122))) || ((decide ((65 : Int) ≤ b)) && (decide (b ≤ 90))))), (23, .bool ((decide ((48 : Int) ≤ b)) && (decide (b ≤ 57))))]) (fun _ w' => w = w') ?_ ?_
      · simp only [List.take, List.drop]
        rcases Bool.eq_false_or_eq_true (decide ((48 : Int) ≤ b)) with hc9 | hc9
        · refine V_ge rfl rfl rfl hc9 ?_
          refine V_y (Y_move rfl) rfl rfl rfl ?_
          refine V_ge rfl rfl rfl hc9 ?_
          refine V_y (Y_leq rfl rfl) rfl rfl rfl ?_
          refine V_ge rfl rfl rfl hc7 ?_
          refine V_y (Y_pick_te rfl hc9 rfl) rfl rfl rfl ?_
          exact V_end fun a ha => ⟨(), ha.sub ⟨rfl, rfl, (by rw [hc9]; rfl), trivial⟩, rfl⟩
        · refine V_gn rfl rfl rfl hc9 rfl rfl rfl ?_
          refine V_gn rfl rfl rfl hc9 rfl rfl rfl ?_
          refine V_ge rfl rfl rfl hc7 ?_
          refine V_y (Y_pick_fe rfl hc9 rfl) rfl rfl rfl ?_
          exact V_end fun a ha => ⟨(), ha.sub ⟨rfl, rfl, (by rw [hc9]; rfl), trivial⟩, rfl⟩
      simp only [List.take, List.drop]
      rintro _ _ rfl
      refine V_y (Y_pick_fe rfl hc7 rfl) rfl rfl rfl ?_
      exact V_end fun a ha => ⟨(), ha.sub ⟨rfl, (by rw [hc7]; rfl), trivial⟩, rfl⟩
  simp only [List.take, List.drop]
  rintro _ _ rfl
  refine V_y (Y_move rfl) rfl rfl rfl ?_
  refine V_cut 3 (fun _ : Unit => [(28, .bool (((((decide ((97 : Int) ≤ b)) && (decide (b ≤ 122))) || ((decide ((65 : Int) ≤ b)) && (decide (b ≤ 90)))) || ((decide ((48 : Int) ≤ b)) && (decide (b ≤ 57)))) || (decide ((128 : Int) ≤ b))))]) (fun _ w' => w = w') ?_ ?_
  · simp only [List.take, List.drop]
    rcases Bool.eq_false_or_eq_true (((((decide ((97 : Int) ≤ b)) && (decide (b ≤ 122))) || ((decide ((65 : Int) ≤ b)) && (decide (b ≤ 90)))) || ((decide ((48 : Int) ≤ b)) && (decide (b ≤ 57))))) with hc11 | hc11
    · refine V_gn rfl rfl rfl hc11 rfl rfl rfl ?_
      refine V_gn rfl rfl rfl hc11 rfl rfl rfl ?_
      refine V_y (Y_pick_te rfl hc11 rfl) rfl rfl rfl ?_
      exact V_end fun a ha => ⟨(), ha.sub ⟨(by rw [hc11]; rfl), trivial⟩, rfl⟩
    · refine V_ge rfl rfl rfl hc11 ?_
      refine V_y (Y_move rfl) rfl rfl rfl ?_
      refine V_ge rfl rfl rfl hc11 ?_
      refine V_y (Y_geq rfl rfl) rfl rfl rfl ?_
      refine V_y (Y_pick_fe rfl hc11 rfl) rfl rfl rfl ?_
      exact V_end fun a ha => ⟨(), ha.sub ⟨(by rw [hc11]; rfl), trivial⟩, rfl⟩
  simp only [List.take, List.drop]
  rintro _ _ rfl
  refine V_y (Y_assign rfl) rfl rfl rfl ?_
  refine V_to (fun _ _ => rfl) ?_
  obtain rfl := hm
  refine C_ret ?_
  try simp only [↓inBlock_ret, ↓then_ret]
  exact retQ rfl (Res.one Tryz.results100 rfl) ⟨rfl, rfl⟩

set_option maxRecDepth 4000 in
set_option maxHeartbeats 4000000 in
theorem portref2_lower_c (w : World) {A : Nat → Prop} (hA : ∀ b, w.heap.size ≤ b → A b) (s : ByteArray) {r : ByteArray} (hm : portref2_lower s = some r) : Ret Tryz.prog 101 #[.string s] w fun v w' => v = .string r ∧ Kp Dw w w' := by
  unfold portref2_lower at hm
  refine enter Tryz.func101 rfl Tryz.ntmps101 rfl ?_
  have hA0 := hA
  have hB := Nat.le_refl w.heap.size
  have hK : Tr Dw w.heap.size A w A w := Tr.refl (Dw := Dw) hA
  have hH : Hp w.heap.size A w [] := Hp.nil
  refine C_seq ?_
  refine C_region ?_
  refine V_y (Y_assign rfl) rfl rfl rfl ?_
  refine V_to (fun _ _ => rfl) ?_
  refine C_seq ?_
  refine C_region ?_
  refine V_y (Y_move rfl) rfl rfl rfl ?_
  obtain ⟨x1, hx1, hm⟩ := Option.bind_eq_some_iff.1 hm
  refine V_convU (Dw := Dw) (e := 5) hH hx1 Tryz.underlying9 Tryz.underlying227 Tryz.underlying5 hB hA rfl rfl ?_
  intro v2 w3 A4 hH5 ht6
  replace hK := Tr.trans (Dw := Dw) hK ht6
  replace hB := Nat.le_trans hB ht6.ex.size
  replace hA := ht6.new
  replace hH : Hp w.heap.size A4 w3 (obU 5 v2 x1 :: []) := hH5
  refine V_y (Y_assign rfl) rfl rfl rfl ?_
  refine V_to (fun _ _ => rfl) ?_
  refine C_seq ?_
  refine C_seq ?_
  refine C_region ?_
  refine V_y (Y_move rfl) rfl rfl rfl ?_
  refine V_y (Y_lenSl (Hp.anyU (e := 5) (v := v2) (l := x1) hH (i := 0) rfl) rfl Tryz.underlying227 rfl) rfl rfl rfl ?_
  refine V_y (Y_move rfl) rfl rfl rfl ?_
  refine V_to (fun _ _ => rfl) ?_
  have hn31 := Hp.leU (e := 5) (v := v2) (l := x1) hH (i := 0) rfl
  obtain ⟨o7, ho7, hm⟩ := Option.bind_eq_some_iff.1 hm
  refine C_cutG (ι := ((List UInt8) × Value × (Nat → Prop))) (fun ⟨s8, v14, A16⟩ => [(3, v14)]) (fun ⟨s8, v14, A16⟩ => fun w' => o7 = .fin s8 ∧ Hp w.heap.size A16 w' (obU 5 v14 s8 :: []) ∧ Tr Dw w.heap.size A4 w3 A16 w') ?_ ?_
  · refine C_block ?_
    refine C_range ho7 (fun k10 s18 a w' => ∃ i : (Value × (Nat → Prop)), Has ⟨29, [], none⟩ a ([(3, i.1), (8, i.1), (9, .int .i64 (x1.length : Int)), (10, .int .i64 (k10 : Int))]) ∧ Hp w.heap.size i.2 w' (obU 5 i.1 s18 :: []) ∧ Tr Dw w.heap.size A4 w3 i.2 w') (fun a ha => ⟨(v2, A4), ha.sub ⟨rfl, rfl, rfl, rfl, trivial⟩, ⟨hH, Tr.refl (Dw := Dw) hA⟩⟩) ?_
    rintro K k10 s18 a w19 ⟨⟨v20, A22⟩, ha74, hH23, hr9⟩ hle27 K30 h29
    refine C_of ?_ ha74
    replace hK := Tr.trans (Dw := Dw) hK hr9
    replace hB := Nat.le_trans hB hr9.ex.size
    replace hA := hr9.new
    replace hH : Hp w.heap.size A22 w19 (obU 5 v20 s18 :: []) := hH23
    refine C_seq (C_region (V_y (Y_lss rfl rfl) rfl rfl rfl (V_to (fun _ _ => rfl) ?_)))
    refine C_seq ?_
    refine C_cond rfl (fun hc32 => ?_) (fun hc32 => ?_)
    · have hlt28 := lt_of_dec hc32
      obtain ⟨x24, h25, h26⟩ := K30 hlt28
      refine C_skip_to (fun _ _ => rfl) ?_
      refine C_seq ?_
      obtain ⟨s34, ho33, h25⟩ := Option.bind_eq_some_iff.1 h25
      refine C_cutG (ι := (Value × (Nat → Prop))) (fun ⟨v36, A41⟩ => [(3, v36), (8, v36), (9, .int .i64 (x1.length : Int)), (10, .int .i64 (k10 : Int))]) (fun ⟨v36, A41⟩ => fun w' => Hp w.heap.size A41 w' (obU 5 v36 s34 :: []) ∧ Tr Dw w.heap.size A22 w19 A41 w') ?_ ?_
      · have hr35 : Tr Dw w.heap.size A22 w19 A22 w19 := Tr.refl (Dw := Dw) hA
        refine C_block ?_
        refine C_seq ?_
        refine C_region ?_
        refine V_y (Y_move rfl) rfl rfl rfl ?_
        obtain ⟨x43, hx43, ho33⟩ := Option.bind_eq_some_iff.1 ho33
        refine V_indexAddrU (e := 5) (v := v20) (l := s18) hH (i := 0) rfl hx43 Tryz.underlying227 Tryz.sizeOf5 rfl rfl rfl ?_
        intro b44 o45 h46 hl47
        refine V_y (Y_load (El.u8 h46) Tryz.isAgg5 rfl) rfl rfl rfl ?_
        refine V_y (Y_assign rfl) rfl rfl rfl ?_
        refine V_y (Y_assign rfl) rfl rfl rfl ?_
        refine V_to (fun _ _ => rfl) ?_
        refine C_seq ?_
        refine C_region ?_
        refine V_y (Y_move rfl) rfl rfl rfl ?_
        refine V_y (Y_geq rfl rfl) rfl rfl rfl ?_
        refine V_y (Y_move rfl) rfl rfl rfl ?_
        refine V_cut 3 (fun _ : Unit => [(3, v20), (4, .int .i64 (k10 : Int)), (5, .int .u8 (x43.toNat : Int)), (8, v20), (9, .int .i64 (x1.length : Int)), (10, .int .i64 (k10 : Int)), (20, .bool ((decide ((65 : Int) ≤ (x43.toNat : Int))) && (decide ((x43.toNat : Int) ≤ 90))))]) (fun _ w' => w19 = w') ?_ ?_
        · simp only [List.take, List.drop]
          rcases Bool.eq_false_or_eq_true (decide ((65 : Int) ≤ (x43.toNat : Int))) with hc48 | hc48
          · refine V_ge rfl rfl rfl hc48 ?_
            refine V_y (Y_move rfl) rfl rfl rfl ?_
            refine V_ge rfl rfl rfl hc48 ?_
            refine V_y (Y_leq rfl rfl) rfl rfl rfl ?_
            refine V_y (Y_pick_te rfl hc48 rfl) rfl rfl rfl ?_
            exact V_end fun a ha => ⟨(), ha.sub ⟨rfl, rfl, rfl, rfl, rfl, rfl, (by rw [hc48]; rfl), trivial⟩, rfl⟩
          · refine V_gn rfl rfl rfl hc48 rfl rfl rfl ?_
            refine V_gn rfl rfl rfl hc48 rfl rfl rfl ?_
            refine V_y (Y_pick_fe rfl hc48 rfl) rfl rfl rfl ?_
            exact V_end fun a ha => ⟨(), ha.sub ⟨rfl, rfl, rfl, rfl, rfl, rfl, (by rw [hc48]; rfl), trivial⟩, rfl⟩
        simp only [List.take, List.drop]
        rintro _ _ rfl
        refine V_to (fun _ _ => rfl) ?_
        obtain ⟨s51, ho50, ho33⟩ := Option.bind_eq_some_iff.1 ho33
        refine C_cutG (ι := (Value × (Nat → Prop))) (fun ⟨v53, A58⟩ => [(3, v53), (8, v53), (9, .int .i64 (x1.length : Int)), (10, .int .i64 (k10 : Int))]) (fun ⟨v53, A58⟩ => fun w' => Hp w.heap.size A58 w' (obU 5 v53 s51 :: []) ∧ Tr Dw w.heap.size A22 w19 A58 w') ?_ ?_
        · have hr52 : Tr Dw w.heap.size A22 w19 A22 w19 := Tr.refl (Dw := Dw) hA
          refine C_cond rfl (fun hc60 => ?_) (fun hc60 => ?_)
          · rw [if_pos hc60] at ho50
            refine C_region ?_
            refine V_y (Y_move rfl) rfl rfl rfl ?_
            refine V_y (Y_move rfl) rfl rfl rfl ?_
            refine V_y (Y_move rfl) rfl rfl rfl ?_
            refine V_y (Y_addB rfl rfl) rfl rfl rfl ?_
            refine V_indexAddrU (e := 5) (v := v20) (l := s18) hH (i := 0) rfl hx43 Tryz.underlying227 Tryz.sizeOf5 rfl rfl rfl ?_
            intro b61 o62 h63 hl64
            obtain ⟨x65, hx65, ho50⟩ := Option.bind_eq_some_iff.1 ho50
            refine V_storeU (Dw := Dw) (e := 5) (v := v20) (l := s18) hH (i := 0) rfl hl64 hx65 rfl Tryz.sizeOf5 rfl hB hA rfl rfl ?_
            intro w66 hH67 ht68
            replace hK := Tr.trans (Dw := Dw) hK ht68
            replace hr9 := Tr.trans (Dw := Dw) hr9 ht68
            replace hr35 := Tr.trans (Dw := Dw) hr35 ht68
            replace hr52 := Tr.trans (Dw := Dw) hr52 ht68
            replace hB := Nat.le_trans hB ht68.ex.size
            replace hA := ht68.new
            replace hH : Hp w.heap.size A22 w66 (obU 5 v20 x65 :: []) := hH67
            obtain rfl := Option.some.inj ho50
            refine V_end (fun a ha69 => ?_)
            exact ⟨(v20, A22), ha69.sub ⟨rfl, rfl, rfl, rfl, trivial⟩, ⟨hH, hr52⟩⟩
          · rw [if_neg (nt hc60)] at ho50
            obtain rfl := Option.some.inj ho50
            refine C_skip (fun a ha70 => ?_)
            exact ⟨(v20, A22), ha70.sub ⟨rfl, rfl, rfl, rfl, trivial⟩, ⟨hH, hr52⟩⟩
        rintro ⟨v53, A58⟩ w55 ⟨hH59, hk56⟩ a ha57
        replace hK := Tr.trans (Dw := Dw) hK hk56
        replace hr9 := Tr.trans (Dw := Dw) hr9 hk56
        replace hr35 := Tr.trans (Dw := Dw) hr35 hk56
        replace hB := Nat.le_trans hB hk56.ex.size
        replace hA := hk56.new
        replace hH : Hp w.heap.size A58 w55 (obU 5 v53 s51 :: []) := hH59
        obtain rfl := Option.some.inj ho33
        exact ⟨(v53, A58), ha57.sub ⟨rfl, rfl, rfl, rfl, trivial⟩, ⟨hH, hr35⟩⟩
      rintro ⟨v36, A41⟩ w38 ⟨hH42, hk39⟩ a ha40
      replace hK := Tr.trans (Dw := Dw) hK hk39
      replace hr9 := Tr.trans (Dw := Dw) hr9 hk39
      replace hB := Nat.le_trans hB hk39.ex.size
      replace hA := hk39.new
      replace hH : Hp w.heap.size A41 w38 (obU 5 v36 s34 :: []) := hH42
      refine C_at (n := ⟨29, [], none⟩) (fun _ _ => rfl) ?_ ha40
      refine C_region ?_
      refine V_y (Y_addI rfl rfl) rfl rfl rfl ?_
      refine V_y (Y_move rfl) rfl rfl rfl ?_
      obtain rfl := Option.some.inj h25
      refine V_end (fun a ha72 => ?_)
      exact ⟨s34, hlt28, h26, ⟨(v36, A41), ha72.sub ⟨rfl, rfl, rfl, (congrArg (fun z => some (Value.int .i64 z)) (w64_succ hlt28 hn31)), trivial⟩, ⟨hH, hr9⟩⟩⟩
    · refine C_exit (fun a ha73 => ?_)
      exact ⟨(s18, v20, A22), ha73.sub ⟨rfl, trivial⟩, ⟨(h29 (eq_of_dec hle27 hc32)).symm, hH, hr9⟩⟩
  rintro ⟨s8, v14, A16⟩ w11 ⟨rfl, hH17, hk12⟩ a ha13
  rw [Lp.andThen_fin] at hm
  replace hK := Tr.trans (Dw := Dw) hK hk12
  replace hB := Nat.le_trans hB hk12.ex.size
  replace hA := hk12.new
  replace hH : Hp w.heap.size A16 w11 (obU 5 v14 s8 :: []) := hH17
  refine C_at (n := ⟨29, [], none⟩) (fun _ _ => rfl) ?_ ha13
  refine C_seq ?_
  refine C_region ?_
  refine V_y (Y_move rfl) rfl rfl rfl ?_
  obtain ⟨A75, ht76, h77, hH78⟩ := Hp.freezeU (Dw := Dw) (v := v14) (l := s8) hH (i := 0) rfl hA
  replace hK := Tr.trans (Dw := Dw) hK ht76
  replace hB := Nat.le_trans hB ht76.ex.size
  replace hA := ht76.new
  replace hH : Hp w.heap.size A75 w11 ([]) := hH78
  refine V_y (Y_convBS (l := s8) h77 Tryz.underlying227 Tryz.underlying5 Tryz.underlying9 rfl) rfl rfl rfl ?_
  refine V_y (Y_assign rfl) rfl rfl rfl ?_
  refine V_to (fun _ _ => rfl) ?_
  obtain rfl := Option.some.inj hm
  refine C_ret ?_
  try simp only [↓inBlock_ret, ↓then_ret]
  exact retQ rfl (Res.one Tryz.results101 rfl) ⟨rfl, hK.kp⟩

set_option maxRecDepth 4000 in
set_option maxHeartbeats 4000000 in
theorem portref2_WordsOf_c (w : World) {A : Nat → Prop} (hA : ∀ b, w.heap.size ≤ b → A b) (s : ByteArray) {r : (List ByteArray)} (hm : portref2_WordsOf s = some r) : Ret Tryz.prog 67 #[.string s] w fun v w' => ∃ s0, v = s0 ∧ Ownd 9 w w' s0 r ∧ Kp Dw w w' := by
  unfold portref2_WordsOf at hm
  refine enter Tryz.func67 rfl Tryz.ntmps67 rfl ?_
  have hA0 := hA
  have hB := Nat.le_refl w.heap.size
  have hK : Tr Dw w.heap.size A w A w := Tr.refl (Dw := Dw) hA
  have hH : Hp w.heap.size A w [] := Hp.nil
  refine C_seq ?_
  refine C_region ?_
  refine V_y (Y_assign rfl) rfl rfl rfl ?_
  refine V_to (fun _ _ => rfl) ?_
  refine C_seq ?_
  refine C_region ?_
  refine V_y (Y_assign rfl) rfl rfl rfl ?_
  refine V_to (fun _ _ => rfl) ?_
  refine C_seq ?_
  refine C_seq ?_
  refine C_region ?_
  refine V_y (Y_assign rfl) rfl rfl rfl ?_
  refine V_to (fun _ _ => rfl) ?_
  replace hH : Hp w.heap.size A w (obS (α := ByteArray) 9 (.slice none 0 0) ([] : (List ByteArray)) :: []) := Hp.addNil (α := ByteArray) (e := 9) hH
  obtain ⟨o1, ho1, hm⟩ := Option.bind_eq_some_iff.1 hm
  refine C_cutG (ι := (((List ByteArray) × Int) × Value × (Nat → Prop))) (fun ⟨s2, v8, A10⟩ => [(3, v8)]) (fun ⟨s2, v8, A10⟩ => fun w' => o1 = .fin s2 ∧ Hp w.heap.size A10 w' (obS (α := ByteArray) 9 v8 s2.1 :: []) ∧ Tr Dw w.heap.size A w A10 w') ?_ ?_
  · refine C_block ?_
    refine C_while ho1 (fun s12 a w' => ∃ i : (Value × (Nat → Prop)), Has ⟨45, [], none⟩ a ([(0, .string s), (3, i.1), (4, .int .i64 s12.2)]) ∧ Hp w.heap.size i.2 w' (obS (α := ByteArray) 9 i.1 s12.1 :: []) ∧ Tr Dw w.heap.size A w i.2 w') (fun a ha => ⟨(.slice none 0 0, A), ha.sub ⟨rfl, rfl, rfl, trivial⟩, ⟨hH, Tr.refl (Dw := Dw) hA⟩⟩) ?_
    rintro K s12 a w13 ⟨⟨v14, A16⟩, ha83, hH17, hr3⟩ K24
    refine C_of ?_ ha83
    replace hK := Tr.trans (Dw := Dw) hK hr3
    replace hB := Nat.le_trans hB hr3.ex.size
    replace hA := hr3.new
    replace hH : Hp w.heap.size A16 w13 (obS (α := ByteArray) 9 v14 s12.1 :: []) := hH17
    obtain ⟨x18, h19, h20⟩ := K24
    refine C_seq ?_
    refine C_seq ?_
    refine C_region ?_
    refine V_y (Y_move rfl) rfl rfl rfl ?_
    refine V_y (Y_move rfl) rfl rfl rfl ?_
    refine V_y (Y_lenStr rfl Tryz.underlying9 rfl) rfl rfl rfl ?_
    refine V_y (Y_lss rfl rfl) rfl rfl rfl ?_
    refine V_to (fun _ _ => rfl) ?_
    refine C_cond rfl (fun hc25 => ?_) (fun hc25 => ?_)
    · rw [if_pos hc25] at h19
      refine C_skip_to (fun _ _ => rfl) ?_
      refine C_block ?_
      refine C_seq ?_
      refine C_region ?_
      refine V_y (Y_move rfl) rfl rfl rfl ?_
      refine V_y (Y_assign rfl) rfl rfl rfl ?_
      refine V_to (fun _ _ => rfl) ?_
      refine C_seq ?_
      obtain ⟨o26, ho26, h19⟩ := Option.bind_eq_some_iff.1 h19
      refine C_cutG (ι := Int) (fun (s27 : Int) => [(0, .string s), (3, v14), (4, .int .i64 s12.2), (5, .int .i64 s27)]) (fun (s27 : Int) => fun w' => o26 = .fin s27 ∧ w13 = w') ?_ ?_
      · refine C_block ?_
        refine C_while ho26 (fun s33 a w' => ∃ i : Unit, Has ⟨45, [], none⟩ a ([(0, .string s), (3, v14), (4, .int .i64 s12.2), (5, .int .i64 s33)]) ∧ w13 = w') (fun a ha => ⟨(), ha.sub ⟨rfl, rfl, rfl, rfl, trivial⟩, rfl⟩) ?_
        rintro K s33 a _ ⟨_, ha48, rfl⟩ K41
        refine C_of ?_ ha48
        obtain ⟨x35, h36, h37⟩ := K41
        refine C_seq ?_
        refine C_seq ?_
        refine C_region ?_
        refine V_y (Y_move rfl) rfl rfl rfl ?_
        refine V_y (Y_move rfl) rfl rfl rfl ?_
        refine V_y (Y_lenStr rfl Tryz.underlying9 rfl) rfl rfl rfl ?_
        refine V_y (Y_lss rfl rfl) rfl rfl rfl ?_
        refine V_y (Y_move rfl) rfl rfl rfl ?_
        obtain ⟨s43, hs43, h36⟩ := Option.bind_eq_some_iff.1 h36
        refine V_cut 5 (fun _ : Unit => [(0, .string s), (3, v14), (4, .int .i64 s12.2), (5, .int .i64 s33), (20, .bool s43)]) (fun _ w' => w13 = w') ?_ ?_
        · simp only [List.take, List.drop]
          rcases Bool.eq_false_or_eq_true (decide (s33 < (s.size : Int))) with hc42 | hc42
          · rw [if_pos hc42] at hs43
            refine V_ge rfl rfl rfl hc42 ?_
            refine V_y (Y_move rfl) rfl rfl rfl ?_
            refine V_ge rfl rfl rfl hc42 ?_
            refine V_y (Y_move rfl) rfl rfl rfl ?_
            refine V_ge rfl rfl rfl hc42 ?_
            obtain ⟨x44, hx44, hs43⟩ := Option.bind_eq_some_iff.1 hs43
            refine V_y (Y_indexS hx44 Tryz.underlying9 rfl rfl) rfl rfl rfl ?_
            refine V_ge rfl rfl rfl hc42 ?_
            refine V_call Tryz.call100 rfl rfl rfl rfl (portref2_isWordByte_c w13 (x44.toNat : Int)) ?_
            rintro _ _ ⟨rfl, rfl⟩
            refine V_y (Y_pick_te rfl hc42 rfl) rfl rfl rfl ?_
            obtain rfl := Option.some.inj hs43
            exact V_end fun a ha => ⟨(), ha.sub ⟨rfl, rfl, rfl, rfl, rfl, trivial⟩, rfl⟩
          · rw [if_neg (nt hc42)] at hs43
            refine V_gn rfl rfl rfl hc42 rfl rfl rfl ?_
            refine V_gn rfl rfl rfl hc42 rfl rfl rfl ?_
            refine V_gn rfl rfl rfl hc42 rfl rfl rfl ?_
            refine V_gn rfl rfl rfl hc42 rfl rfl rfl ?_
            refine V_y (Y_pick_fe rfl hc42 rfl) rfl rfl rfl ?_
            obtain rfl := Option.some.inj hs43
            exact V_end fun a ha => ⟨(), ha.sub ⟨rfl, rfl, rfl, rfl, rfl, trivial⟩, rfl⟩
        simp only [List.take, List.drop]
        rintro _ _ rfl
        refine V_to (fun _ _ => rfl) ?_
        refine C_cond rfl (fun hc45 => ?_) (fun hc45 => ?_)
        · rw [if_pos hc45] at h36
          refine C_skip_to (fun _ _ => rfl) ?_
          refine C_block ?_
          refine C_region ?_
          refine V_y (Y_move rfl) rfl rfl rfl ?_
          refine V_y (Y_addI rfl rfl) rfl rfl rfl ?_
          refine V_y (Y_assign rfl) rfl rfl rfl ?_
          obtain rfl := Option.some.inj h36
          refine V_end (fun a ha46 => ?_)
          exact ⟨w64 (s33 + 1), h37, ⟨(), ha46.sub ⟨rfl, rfl, rfl, rfl, trivial⟩, rfl⟩⟩
        · rw [if_neg (nt hc45)] at h36
          obtain rfl := Option.some.inj h36
          refine C_exit (fun a ha47 => ?_)
          exact ⟨s33, ha47.sub ⟨rfl, rfl, rfl, rfl, trivial⟩, ⟨h37.symm, rfl⟩⟩
      rintro s27 _ ⟨rfl, rfl⟩ a ha32
      rw [Lp.andThen_fin] at h19
      refine C_at (n := ⟨45, [], none⟩) (fun _ _ => rfl) ?_ ha32
      refine C_seq ?_
      refine C_seq ?_
      refine C_region ?_
      refine V_y (Y_move rfl) rfl rfl rfl ?_
      refine V_y (Y_move rfl) rfl rfl rfl ?_
      refine V_y (Y_gtr rfl rfl) rfl rfl rfl ?_
      refine V_y (Y_move rfl) rfl rfl rfl ?_
      refine V_cut 5 (fun _ : Unit => [(0, .string s), (3, v14), (4, .int .i64 s12.2), (5, .int .i64 s27), (31, .bool ((decide (s12.2 < s27)) && (decide ((w64 (s27 - s12.2)) ≤ 30))))]) (fun _ w' => w13 = w') ?_ ?_
      · simp only [List.take, List.drop]
        rcases Bool.eq_false_or_eq_true (decide (s12.2 < s27)) with hc49 | hc49
        · refine V_ge rfl rfl rfl hc49 ?_
          refine V_y (Y_move rfl) rfl rfl rfl ?_
          refine V_ge rfl rfl rfl hc49 ?_
          refine V_y (Y_move rfl) rfl rfl rfl ?_
          refine V_ge rfl rfl rfl hc49 ?_
          refine V_y (Y_subI rfl rfl) rfl rfl rfl ?_
          refine V_ge rfl rfl rfl hc49 ?_
          refine V_y (Y_leq rfl rfl) rfl rfl rfl ?_
          refine V_y (Y_pick_te rfl hc49 rfl) rfl rfl rfl ?_
          exact V_end fun a ha => ⟨(), ha.sub ⟨rfl, rfl, rfl, rfl, (by rw [hc49]; rfl), trivial⟩, rfl⟩
        · refine V_gn rfl rfl rfl hc49 rfl rfl rfl ?_
          refine V_gn rfl rfl rfl hc49 rfl rfl rfl ?_
          refine V_gn rfl rfl rfl hc49 rfl rfl rfl ?_
          refine V_gn rfl rfl rfl hc49 rfl rfl rfl ?_
          refine V_y (Y_pick_fe rfl hc49 rfl) rfl rfl rfl ?_
          exact V_end fun a ha => ⟨(), ha.sub ⟨rfl, rfl, rfl, rfl, (by rw [hc49]; rfl), trivial⟩, rfl⟩
      simp only [List.take, List.drop]
      rintro _ _ rfl
      refine V_to (fun _ _ => rfl) ?_
      obtain ⟨s52, ho51, h19⟩ := Option.bind_eq_some_iff.1 h19
      refine C_cutG (ι := (Value × (Nat → Prop))) (fun ⟨v54, A59⟩ => [(0, .string s), (3, v54), (4, .int .i64 s12.2), (5, .int .i64 s27)]) (fun ⟨v54, A59⟩ => fun w' => Hp w.heap.size A59 w' (obS (α := ByteArray) 9 v54 s52 :: []) ∧ Tr Dw w.heap.size A16 w13 A59 w') ?_ ?_
      · have hr53 : Tr Dw w.heap.size A16 w13 A16 w13 := Tr.refl (Dw := Dw) hA
        refine C_cond rfl (fun hc61 => ?_) (fun hc61 => ?_)
        · rw [if_pos hc61] at ho51
          refine C_region ?_
          refine V_y (Y_move rfl) rfl rfl rfl ?_
          refine V_y (Y_move rfl) rfl rfl rfl ?_
          refine V_y (Y_move rfl) rfl rfl rfl ?_
          refine V_y (Y_move rfl) rfl rfl rfl ?_
          obtain ⟨x62, hx62, ho51⟩ := Option.bind_eq_some_iff.1 ho51
          refine V_y (Y_sliceSLH hx62 Tryz.underlying9 rfl rfl rfl) rfl rfl rfl ?_
          obtain ⟨x63, hx63, ho51⟩ := Option.bind_eq_some_iff.1 ho51
          refine V_call Tryz.call101 rfl rfl rfl rfl (portref2_lower_c (Dw := Dw) w13 hA x62 hx63) ?_
          rintro _ w65 ⟨rfl, hk66⟩
          have ht67 := Kp.tr (Dw := Dw) hk66 hA hB
          replace hH := Hp.kp (Dw := Dw) hH hk66
          replace hK := Tr.trans (Dw := Dw) hK ht67
          replace hr3 := Tr.trans (Dw := Dw) hr3 ht67
          replace hr53 := Tr.trans (Dw := Dw) hr53 ht67
          replace hB := Nat.le_trans hB ht67.ex.size
          replace hA := ht67.new
          refine V_buildSlice (Dw := Dw) (l := ([x63] : List ByteArray)) (len := 1) Tryz.underlying73 Tryz.sizeOf9 Tryz.zeroValue9 rfl (by with_unfolding_all rfl) (show (1 * 1 : Nat) ≠ 0 by decide) (show (1 * 1 : Nat) ≤ 2 ^ 24 by decide) hA ⟨[.string x63], _, rfl, rfl, rfl⟩ rfl rfl ?_
          intro v68 w69 hk71 h70
          have ht72 := Kp.tr (Dw := Dw) hk71 hA hB
          replace hH := Hp.kp (Dw := Dw) hH hk71
          replace hK := Tr.trans (Dw := Dw) hK ht72
          replace hr3 := Tr.trans (Dw := Dw) hr3 ht72
          replace hr53 := Tr.trans (Dw := Dw) hr53 ht72
          replace hB := Nat.le_trans hB ht72.ex.size
          replace hA := ht72.new
          obtain ⟨x73, hx73, ho51⟩ := Option.bind_eq_some_iff.1 ho51
          refine V_appendH (Dw := Dw) (e := 9) (v := v14) (l := s12.1) (ti := Tryz.t9) (bytes := 16) (lim := 8796093022208) hH (i := 0) rfl h70 hx73 Tryz.underlying73 Tryz_info9 rfl rfl rfl rfl (by decide) (by decide) (by decide) hB hA rfl rfl rfl ?_
          intro v74 w75 A76 hH77 ht78
          replace h70 := Sl.tr (Dw := Dw) h70 ht78
          replace hK := Tr.trans (Dw := Dw) hK ht78
          replace hr3 := Tr.trans (Dw := Dw) hr3 ht78
          replace hr53 := Tr.trans (Dw := Dw) hr53 ht78
          replace hB := Nat.le_trans hB ht78.ex.size
          replace hA := ht78.new
          replace hH : Hp w.heap.size A76 w75 (obS (α := ByteArray) 9 v74 x73 :: []) := hH77
          refine V_y (Y_assign rfl) rfl rfl rfl ?_
          obtain rfl := Option.some.inj ho51
          refine V_end (fun a ha79 => ?_)
          exact ⟨(v74, A76), ha79.sub ⟨rfl, rfl, rfl, rfl, trivial⟩, ⟨hH, hr53⟩⟩
        · rw [if_neg (nt hc61)] at ho51
          obtain rfl := Option.some.inj ho51
          refine C_skip (fun a ha80 => ?_)
          exact ⟨(v14, A16), ha80.sub ⟨rfl, rfl, rfl, rfl, trivial⟩, ⟨hH, hr53⟩⟩
      rintro ⟨v54, A59⟩ w56 ⟨hH60, hk57⟩ a ha58
      replace hK := Tr.trans (Dw := Dw) hK hk57
      replace hr3 := Tr.trans (Dw := Dw) hr3 hk57
      replace hB := Nat.le_trans hB hk57.ex.size
      replace hA := hk57.new
      replace hH : Hp w.heap.size A59 w56 (obS (α := ByteArray) 9 v54 s52 :: []) := hH60
      refine C_at (n := ⟨45, [], none⟩) (fun _ _ => rfl) ?_ ha58
      refine C_region ?_
      refine V_y (Y_move rfl) rfl rfl rfl ?_
      refine V_y (Y_move rfl) rfl rfl rfl ?_
      refine V_y (Y_addI rfl rfl) rfl rfl rfl ?_
      refine V_y (Y_max2 rfl rfl) rfl rfl rfl ?_
      refine V_y (Y_assign rfl) rfl rfl rfl ?_
      obtain rfl := Option.some.inj h19
      refine V_end (fun a ha81 => ?_)
      exact ⟨(s52, (if s27 < w64 (s12.2 + 1) then w64 (s12.2 + 1) else s27)), h20, ⟨(v54, A59), ha81.sub ⟨rfl, rfl, rfl, trivial⟩, ⟨hH, hr3⟩⟩⟩
    · rw [if_neg (nt hc25)] at h19
      obtain rfl := Option.some.inj h19
      refine C_exit (fun a ha82 => ?_)
      exact ⟨((s12.1, s12.2), v14, A16), ha82.sub ⟨rfl, trivial⟩, ⟨h20.symm, hH, hr3⟩⟩
  rintro ⟨s2, v8, A10⟩ w5 ⟨rfl, hH11, hk6⟩ a ha7
  rw [Lp.andThen_fin] at hm
  replace hK := Tr.trans (Dw := Dw) hK hk6
  replace hB := Nat.le_trans hB hk6.ex.size
  replace hA := hk6.new
  replace hH : Hp w.heap.size A10 w5 (obS (α := ByteArray) 9 v8 s2.1 :: []) := hH11
  refine C_at (n := ⟨45, [], none⟩) (fun _ _ => rfl) ?_ ha7
  refine C_seq ?_
  refine C_region ?_
  refine V_y (Y_move rfl) rfl rfl rfl ?_
  refine V_y (Y_assign rfl) rfl rfl rfl ?_
  refine V_to (fun _ _ => rfl) ?_
  obtain rfl := Option.some.inj hm
  refine C_ret ?_
  try simp only [↓inBlock_ret, ↓then_ret]
  exact retQ rfl (Res.one Tryz.results67 rfl) ⟨v8, rfl, (Hp.ownd hH (i := 0) rfl), hK.kp⟩

def Tryz_strings_Trim_lay_ren : Go.Shelf.Ren := ⟨fun | 119 => 198 | 120 => 193 | 137 => 197 | 151 => 178 | 152 => 192 | 160 => 110 | 197 => 142 | 217 => 188 | 224 => 190 | 225 => 189 | 227 => 146 | 228 => 177 | 231 => 144 | 232 => 145 | 233 => 147 | 234 => 148 | 235 => 149 | 236 => 150 | 260 => 176 | 266 => 195 | 271 => 179 | n => n, fun | 0 => 0 | 1 => 1 | 2 => 2 | 3 => 3 | 4 => 4 | 5 => 5 | 6 => 6 | 7 => 7 | 8 => 8 | 9 => 9 | 10 => 10 | 11 => 11 | 12 => 12 | 13 => 13 | 14 => 14 | 15 => 15 | 16 => 16 | 17 => 17 | 18 => 18 | 19 => 19 | 20 => 20 | 21 => 21 | 22 => 208 | 23 => 207 | 27 => 160 | 28 => 23 | 29 => 162 | 30 => 166 | 31 => 73 | 34 => 79 | 35 => 252 | 37 => 227 | 40 => 205 | 41 => 198 | 43 => 157 | 46 => 191 | 47 => 196 | 51 => 219 | 52 => 218 | 53 => 221 | 54 => 220 | 55 => 263 | 63 => 265 | 64 => 280 | 65 => 206 | 66 => 177 | 68 => 164 | 69 => 182 | 70 => 229 | 71 => 230 | 72 => 231 | 73 => 232 | 74 => 233 | 75 => 234 | 76 => 235 | 77 => 236 | 80 => 239 | 81 => 289 | 100 => 183 | 101 => 76 | 103 => 262 | 104 => 176 | 105 => 237 | 106 => 238 | 111 => 193 | 112 => 192 | 114 => 275 | 115 => 241 | 116 => 242 | 117 => 243 | 118 => 244 | 119 => 276 | 122 => 240 | 123 => 245 | 124 => 246 | 127 => 264 | 131 => 150 | 135 => 209 | 137 => 277 | 138 => 278 | 139 => 279 | 146 => 282 | 151 => 283 | 155 => 261 | 164 => 272 | 165 => 273 | 166 => 274 | 182 => 212 | 183 => 213 | 188 => 247 | 189 => 248 | 190 => 249 | 191 => 250 | 192 => 251 | 218 => 253 | 219 => 254 | 220 => 255 | 222 => 257 | 224 => 266 | 225 => 267 | 228 => 268 | 229 => 269 | 231 => 281 | 238 => 284 | 239 => 285 | 240 => 286 | 241 => 287 | 242 => 288 | 243 => 290 | 244 => 291 | 245 => 292 | 246 => 293 | 247 => 294 | 248 => 295 | 249 => 296 | n => n, fun | 1 => 0 | 3 => 1 | 4 => 2 | n => n⟩
theorem Tryz_strings_Trim_lay : Go.Proofs.Lays.n160 Tryz.prog Tryz_strings_Trim_lay_ren := {
  mixed := by kernel_rfl,
  f119 := Tryz.func198.trans (congrArg some (by kernel_rfl)),
  f120 := Tryz.func193.trans (congrArg some (by kernel_rfl)),
  f137 := Tryz.func197.trans (congrArg some (by kernel_rfl)),
  f151 := Tryz.func178.trans (congrArg some (by kernel_rfl)),
  f152 := Tryz.func192.trans (congrArg some (by kernel_rfl)),
  f160 := Tryz.func110.trans (congrArg some (by kernel_rfl)),
  f197 := Tryz.func142.trans (congrArg some (by kernel_rfl)),
  f217 := Tryz.func188.trans (congrArg some (by kernel_rfl)),
  f224 := Tryz.func190.trans (congrArg some (by kernel_rfl)),
  f225 := Tryz.func189.trans (congrArg some (by kernel_rfl)),
  f227 := Tryz.func146.trans (congrArg some (by kernel_rfl)),
  f228 := Tryz.func177.trans (congrArg some (by kernel_rfl)),
  f231 := Tryz.func144.trans (congrArg some (by kernel_rfl)),
  f232 := Tryz.func145.trans (congrArg some (by kernel_rfl)),
  f233 := Tryz.func147.trans (congrArg some (by kernel_rfl)),
  f234 := Tryz.func148.trans (congrArg some (by kernel_rfl)),
  f235 := Tryz.func149.trans (congrArg some (by kernel_rfl)),
  f236 := Tryz.func150.trans (congrArg some (by kernel_rfl)),
  f260 := Tryz.func176.trans (congrArg some (by kernel_rfl)),
  f266 := Tryz.func195.trans (congrArg some (by kernel_rfl)),
  f271 := Tryz.func179.trans (congrArg some (by kernel_rfl)),
  t0 := Tryz.underlying0,
  a0 := Tryz.isAgg0,
  z0 := Tryz.sizeOf0,
  v0 := Tryz.zeroValue0,
  t3 := Tryz.underlying3,
  a3 := Tryz.isAgg3,
  z3 := Tryz.sizeOf3,
  v3 := Tryz.zeroValue3,
  t4 := Tryz.underlying4,
  a4 := Tryz.isAgg4,
  z4 := Tryz.sizeOf4,
  v4 := Tryz.zeroValue4,
  t5 := Tryz.underlying5,
  a5 := Tryz.isAgg5,
  z5 := Tryz.sizeOf5,
  v5 := Tryz.zeroValue5,
  t9 := Tryz.underlying9,
  a9 := Tryz.isAgg9,
  z9 := Tryz.sizeOf9,
  v9 := Tryz.zeroValue9,
  t21 := Tryz.underlying21,
  a21 := Tryz.isAgg21,
  z21 := Tryz.sizeOf21,
  v21 := Tryz.zeroValue21,
  t46 := Tryz.underlying191,
  a46 := Tryz.isAgg191,
  z46 := Tryz.sizeOf191,
  v46 := Tryz.zeroValue191,
  t105 := Tryz.underlying237,
  a105 := Tryz.isAgg237,
  z105 := Tryz.sizeOf237,
  v105 := Tryz.zeroValue237,
  t116 := Tryz.underlying242,
  a116 := Tryz.isAgg242,
  z116 := Tryz.sizeOf242,
  t117 := Tryz.underlying243,
  a117 := Tryz.isAgg243,
  z117 := Tryz.sizeOf243,
  v117 := Tryz.zeroValue243,
  t119 := Tryz.underlying276,
  a119 := Tryz.isAgg276,
  z119 := Tryz.sizeOf276,
  t124 := Tryz.underlying246,
  a124 := Tryz.isAgg246,
  z124 := Tryz.sizeOf246,
  v124 := Tryz.zeroValue246,
  t138 := Tryz.underlying278,
  a138 := Tryz.isAgg278,
  z138 := Tryz.sizeOf278,
  v138 := Tryz.zeroValue278,
  t139 := Tryz.underlying279,
  a139 := Tryz.isAgg279,
  z139 := Tryz.sizeOf279,
  v139 := Tryz.zeroValue279,
  g3 := by kernel_rfl,
  g4 := by kernel_rfl }
theorem strings_Trim_c (w : World) {A : Nat → Prop} (hA : ∀ b, w.heap.size ≤ b → A b) (s : ByteArray) (cutset : ByteArray) {r : ByteArray} (hm : strings_Trim s cutset = some r) : Ret Tryz.prog 110 #[.string s, .string cutset] w fun v w' => v = .string r ∧ Kp False w w' := by
  unfold strings_Trim at hm
  split at hm
  case isFalse => cases hm
  rename_i h
  obtain rfl := Option.some.inj hm
  refine Calls.mono (Go.Proofs.Any.strings_Trim_laid Tryz_strings_Trim_lay (by kernel_rfl) s cutset w h.1 h.2.1 (Go.Proofs.ascii_of_all h.2.2)) ?_
  rintro _ w' ⟨rfl, hk⟩
  exact ⟨_, rfl, rfl, .of hk⟩

set_option maxRecDepth 4000 in
set_option maxHeartbeats 4000000 in
theorem portref2_StemOf_1_c (w : World) {A : Nat → Prop} (s : ByteArray) (p1 : ByteArray) (b_p1 : Nat) (h_p1 : El A w b_p1 0 p1) {r : Bool} (hm : portref2_StemOf_1 s p1 = some r) : Ret Tryz.prog 111 #[.string s, .pointer (some ⟨b_p1, 0, none⟩)] w fun v w' => v = .bool r ∧ w = w' := by
  unfold portref2_StemOf_1 at hm
  refine enter Tryz.func111 rfl Tryz.ntmps111 rfl ?_
  refine C_seq ?_
  refine C_region ?_
  refine V_y (Y_assign rfl) rfl rfl rfl ?_
  refine V_to (fun _ _ => rfl) ?_
  refine C_seq ?_
  refine C_region ?_
  refine V_y (Y_load (El.str h_p1) Tryz.isAgg9 rfl) rfl rfl rfl ?_
  refine V_y (Y_move rfl) rfl rfl rfl ?_
  obtain ⟨x1, hx1, hm⟩ := Option.bind_eq_some_iff.1 hm
  refine V_call Tryz.call112 rfl rfl rfl rfl (strings_HasSuffix_c w p1 s hx1) ?_
  rintro _ _ ⟨rfl, rfl⟩
  refine V_y (Y_assign rfl) rfl rfl rfl ?_
  refine V_to (fun _ _ => rfl) ?_
  obtain rfl := Option.some.inj hm
  refine C_ret ?_
  try simp only [↓inBlock_ret, ↓then_ret]
  exact retQ rfl (Res.one Tryz.results111 rfl) ⟨rfl, rfl⟩

set_option maxRecDepth 4000 in
set_option maxHeartbeats 4000000 in
theorem portref2_StemOf_c (w : World) {A : Nat → Prop} (hA : ∀ b, w.heap.size ≤ b → A b) (w_ : ByteArray) {r : ByteArray} (hm : portref2_StemOf w_ = some r) : Ret Tryz.prog 81 #[.string w_] w fun v w' => v = .string r ∧ Kp False w w' := by
  unfold portref2_StemOf at hm
  refine enter Tryz.func81 rfl Tryz.ntmps81 rfl ?_
  have hA0 := hA
  have hB := Nat.le_refl w.heap.size
  have hK : Tr False w.heap.size A w A w := Tr.refl (Dw := False) hA
  have hH : Hp w.heap.size A w [] := Hp.nil
  refine C_seq ?_
  refine C_region ?_
  refine V_box rfl rfl ?_
  intro b1 w2 h3
  have hk5 := h3.kp (Dw := False)
  have h4 : El (α := ByteArray) A w2 b1 0 w_ := h3.el hA rfl
  have ht6 := Kp.tr (Dw := False) hk5 hA hB
  replace hH := Hp.kp (Dw := False) hH hk5
  replace hK := Tr.trans (Dw := False) hK ht6
  replace hB := Nat.le_trans hB ht6.ex.size
  replace hA := ht6.new
  refine V_y (Y_assign rfl) rfl rfl rfl ?_
  refine V_to (fun _ _ => rfl) ?_
  refine C_seq ?_
  refine C_region ?_
  refine V_y (Y_load (El.str h4) Tryz.isAgg9 rfl) rfl rfl rfl ?_
  refine V_y (Y_lenStr rfl Tryz.underlying9 rfl) rfl rfl rfl ?_
  refine V_y (Y_assign rfl) rfl rfl rfl ?_
  refine V_to (fun _ _ => rfl) ?_
  refine C_seq ?_
  refine C_seq ?_
  obtain ⟨s8, ho7, hm⟩ := Option.bind_eq_some_iff.1 hm
  refine C_cutG (ι := (Nat → Prop)) (fun (A13 : (Nat → Prop)) => [(1, .pointer (some ⟨b1, 0, none⟩)), (3, .int .i64 (w_.size : Int)), (13, .bool s8)]) (fun (A13 : (Nat → Prop)) => fun w' => Hp w.heap.size A13 w' ([]) ∧ Tr False w.heap.size A w2 A13 w') ?_ ?_
  · have hr9 : Tr False w.heap.size A w2 A w2 := Tr.refl (Dw := False) hA
    refine C_region ?_
    refine V_y (Y_move rfl) rfl rfl rfl ?_
    refine V_y (Y_lss rfl rfl) rfl rfl rfl ?_
    refine V_y (Y_move rfl) rfl rfl rfl ?_
    rcases Bool.eq_false_or_eq_true (decide ((w_.size : Int) < 4)) with hc15 | hc15
    · rw [if_pos hc15] at ho7
      refine V_gn rfl rfl rfl hc15 rfl rfl rfl ?_
      refine V_gn rfl rfl rfl hc15 rfl rfl rfl ?_
      refine V_gn rfl rfl rfl hc15 rfl rfl rfl ?_
      refine V_y (Y_pick_te rfl hc15 rfl) rfl rfl rfl ?_
      obtain rfl := Option.some.inj ho7
      refine V_end (fun a ha16 => ?_)
      exact ⟨A, ha16.sub ⟨rfl, rfl, rfl, trivial⟩, ⟨hH, hr9⟩⟩
    · rw [if_neg (nt hc15)] at ho7
      refine V_ge rfl rfl rfl hc15 ?_
      refine V_y (Y_load (El.str h4) Tryz.isAgg9 rfl) rfl rfl rfl ?_
      refine V_ge rfl rfl rfl hc15 ?_
      obtain ⟨x17, hx17, ho7⟩ := Option.bind_eq_some_iff.1 ho7
      refine V_call Tryz.call110 rfl rfl rfl rfl (strings_Trim_c w2 hA w_ (⟨#[97, 98, 99, 100, 101, 102, 103, 104, 105, 106, 107, 108, 109, 110, 111, 112, 113, 114, 115, 116, 117, 118, 119, 120, 121, 122]⟩ : ByteArray) hx17) ?_
      rintro _ w18 ⟨rfl, hk19⟩
      have ht20 := Kp.tr (Dw := False) hk19 hA hB
      replace hH := Hp.kp (Dw := False) hH hk19
      replace h4 := El.tr (Dw := False) h4 ht20
      replace hK := Tr.trans (Dw := False) hK ht20
      replace hr9 := Tr.trans (Dw := False) hr9 ht20
      replace hB := Nat.le_trans hB ht20.ex.size
      replace hA := ht20.new
      refine V_ge rfl rfl rfl hc15 ?_
      refine V_y (Y_sneq rfl rfl) rfl rfl rfl ?_
      refine V_y (Y_pick_fe rfl hc15 rfl) rfl rfl rfl ?_
      obtain rfl := Option.some.inj ho7
      refine V_end (fun a ha21 => ?_)
      exact ⟨A, ha21.sub ⟨rfl, rfl, rfl, trivial⟩, ⟨hH, hr9⟩⟩
  rintro A13 w10 ⟨hH14, hk11⟩ a ha12
  replace h4 := El.tr (Dw := False) h4 hk11
  replace hK := Tr.trans (Dw := False) hK hk11
  replace hB := Nat.le_trans hB hk11.ex.size
  replace hA := hk11.new
  replace hH : Hp w.heap.size A13 w10 ([]) := hH14
  refine C_at (n := ⟨65, [], none⟩) (fun _ _ => rfl) ?_ ha12
  refine C_cond rfl (fun hc22 => ?_) (fun hc22 => ?_)
  · rw [if_pos hc22] at hm
    refine C_seq ?_
    refine C_region ?_
    refine V_y (Y_load (El.str h4) Tryz.isAgg9 rfl) rfl rfl rfl ?_
    refine V_y (Y_assign rfl) rfl rfl rfl ?_
    refine V_to (fun _ _ => rfl) ?_
    obtain rfl := Option.some.inj hm
    refine C_ret ?_
    try simp only [↓inBlock_ret, ↓then_ret]
    exact retQ rfl (Res.one Tryz.results81 rfl) ⟨rfl, hK.kp⟩
  · rw [if_neg (nt hc22)] at hm
    refine C_skip_to (fun _ _ => rfl) ?_
    refine C_seq ?_
    refine C_region ?_
    refine V_y (Y_makeFunc rfl rfl) rfl rfl rfl ?_
    refine V_y (Y_assign rfl) rfl rfl rfl ?_
    refine V_to (fun _ _ => rfl) ?_
    refine C_seq ?_
    refine C_block ?_
    refine C_seq ?_
    refine C_region ?_
    refine V_y (Y_move rfl) rfl rfl rfl ?_
    obtain ⟨x23, hx23, hm⟩ := Option.bind_eq_some_iff.1 hm
    refine V_call Tryz.call111 rfl rfl rfl rfl (portref2_StemOf_1_c w10 (⟨#[105, 101, 115]⟩ : ByteArray) w_ b1 h4 hx23) ?_
    rintro _ _ ⟨rfl, rfl⟩
    refine V_y (Y_assign rfl) rfl rfl rfl ?_
    refine V_to (fun _ _ => rfl) ?_
    refine C_cond rfl (fun hc24 => ?_) (fun hc24 => ?_)
    · rw [if_pos hc24] at hm
      refine C_seq ?_
      refine C_region ?_
      refine V_y (Y_load (El.str h4) Tryz.isAgg9 rfl) rfl rfl rfl ?_
      refine V_y (Y_move rfl) rfl rfl rfl ?_
      refine V_y (Y_subI rfl rfl) rfl rfl rfl ?_
      obtain ⟨x25, hx25, hm⟩ := Option.bind_eq_some_iff.1 hm
      refine V_y (Y_sliceSH hx25 Tryz.underlying9 rfl rfl) rfl rfl rfl ?_
      obtain ⟨x26, hx26, hm⟩ := Option.bind_eq_some_iff.1 hm
      refine V_y (Y_sadd hx26 rfl rfl) rfl rfl rfl ?_
      refine V_y (Y_assign rfl) rfl rfl rfl ?_
      refine V_to (fun _ _ => rfl) ?_
      obtain rfl := Option.some.inj hm
      refine C_ret ?_
      try simp only [↓inBlock_ret, ↓then_ret]
      exact retQ rfl (Res.one Tryz.results81 rfl) ⟨rfl, hK.kp⟩
    · rw [if_neg (nt hc24)] at hm
      refine C_seq ?_
      refine C_region ?_
      refine V_y (Y_move rfl) rfl rfl rfl ?_
      obtain ⟨x27, hx27, hm⟩ := Option.bind_eq_some_iff.1 hm
      refine V_call Tryz.call111 rfl rfl rfl rfl (portref2_StemOf_1_c w10 (⟨#[115, 115, 101, 115]⟩ : ByteArray) w_ b1 h4 hx27) ?_
      rintro _ _ ⟨rfl, rfl⟩
      refine V_y (Y_assign rfl) rfl rfl rfl ?_
      refine V_to (fun _ _ => rfl) ?_
      refine C_cond rfl (fun hc28 => ?_) (fun hc28 => ?_)
      · rw [if_pos hc28] at hm
        refine C_seq ?_
        refine C_region ?_
        refine V_y (Y_load (El.str h4) Tryz.isAgg9 rfl) rfl rfl rfl ?_
        refine V_y (Y_move rfl) rfl rfl rfl ?_
        refine V_y (Y_subI rfl rfl) rfl rfl rfl ?_
        obtain ⟨x29, hx29, hm⟩ := Option.bind_eq_some_iff.1 hm
        refine V_y (Y_sliceSH hx29 Tryz.underlying9 rfl rfl) rfl rfl rfl ?_
        refine V_y (Y_assign rfl) rfl rfl rfl ?_
        refine V_to (fun _ _ => rfl) ?_
        obtain rfl := Option.some.inj hm
        refine C_ret ?_
        try simp only [↓inBlock_ret, ↓then_ret]
        exact retQ rfl (Res.one Tryz.results81 rfl) ⟨rfl, hK.kp⟩
      · rw [if_neg (nt hc28)] at hm
        refine C_seq ?_
        refine C_region ?_
        refine V_y (Y_move rfl) rfl rfl rfl ?_
        obtain ⟨x30, hx30, hm⟩ := Option.bind_eq_some_iff.1 hm
        refine V_call Tryz.call111 rfl rfl rfl rfl (portref2_StemOf_1_c w10 (⟨#[115, 115]⟩ : ByteArray) w_ b1 h4 hx30) ?_
        rintro _ _ ⟨rfl, rfl⟩
        refine V_y (Y_assign rfl) rfl rfl rfl ?_
        refine V_to (fun _ _ => rfl) ?_
        refine C_cond rfl (fun hc31 => ?_) (fun hc31 => ?_)
        · rw [if_pos hc31] at hm
          refine C_seq ?_
          refine C_region ?_
          refine V_y (Y_load (El.str h4) Tryz.isAgg9 rfl) rfl rfl rfl ?_
          refine V_y (Y_assign rfl) rfl rfl rfl ?_
          refine V_to (fun _ _ => rfl) ?_
          obtain rfl := Option.some.inj hm
          refine C_ret ?_
          try simp only [↓inBlock_ret, ↓then_ret]
          exact retQ rfl (Res.one Tryz.results81 rfl) ⟨rfl, hK.kp⟩
        · rw [if_neg (nt hc31)] at hm
          refine C_seq ?_
          refine C_region ?_
          refine V_y (Y_move rfl) rfl rfl rfl ?_
          obtain ⟨x32, hx32, hm⟩ := Option.bind_eq_some_iff.1 hm
          refine V_call Tryz.call111 rfl rfl rfl rfl (portref2_StemOf_1_c w10 (⟨#[115]⟩ : ByteArray) w_ b1 h4 hx32) ?_
          rintro _ _ ⟨rfl, rfl⟩
          refine V_y (Y_assign rfl) rfl rfl rfl ?_
          refine V_to (fun _ _ => rfl) ?_
          refine C_cond rfl (fun hc33 => ?_) (fun hc33 => ?_)
          · rw [if_pos hc33] at hm
            refine C_seq ?_
            refine C_region ?_
            refine V_y (Y_load (El.str h4) Tryz.isAgg9 rfl) rfl rfl rfl ?_
            refine V_y (Y_move rfl) rfl rfl rfl ?_
            refine V_y (Y_subI rfl rfl) rfl rfl rfl ?_
            obtain ⟨x34, hx34, hm⟩ := Option.bind_eq_some_iff.1 hm
            refine V_y (Y_sliceSH hx34 Tryz.underlying9 rfl rfl) rfl rfl rfl ?_
            refine V_y (Y_assign rfl) rfl rfl rfl ?_
            refine V_to (fun _ _ => rfl) ?_
            obtain rfl := Option.some.inj hm
            refine C_ret ?_
            try simp only [↓inBlock_ret, ↓then_ret]
            exact retQ rfl (Res.one Tryz.results81 rfl) ⟨rfl, hK.kp⟩
          · rw [if_neg (nt hc33)] at hm
            refine C_seq ?_
            refine C_region ?_
            refine V_y (Y_move rfl) rfl rfl rfl ?_
            obtain ⟨x35, hx35, hm⟩ := Option.bind_eq_some_iff.1 hm
            refine V_call Tryz.call111 rfl rfl rfl rfl (portref2_StemOf_1_c w10 (⟨#[105, 110, 103]⟩ : ByteArray) w_ b1 h4 hx35) ?_
            rintro _ _ ⟨rfl, rfl⟩
            refine V_y (Y_move rfl) rfl rfl rfl ?_
            refine V_cut 3 (fun _ : Unit => [(1, .pointer (some ⟨b1, 0, none⟩)), (3, .int .i64 (w_.size : Int)), (4, .func (.func 111) #[] #[.pointer (some ⟨b1, 0, none⟩)]), (48, .bool (x35 && (decide ((6 : Int) ≤ (w_.size : Int)))))]) (fun _ w' => w10 = w') ?_ ?_
            · simp only [List.take, List.drop]
              rcases Bool.eq_false_or_eq_true (x35) with hc36 | hc36
              · refine V_ge rfl rfl rfl hc36 ?_
                refine V_y (Y_move rfl) rfl rfl rfl ?_
                refine V_ge rfl rfl rfl hc36 ?_
                refine V_y (Y_geq rfl rfl) rfl rfl rfl ?_
                refine V_y (Y_pick_te rfl hc36 rfl) rfl rfl rfl ?_
                exact V_end fun a ha => ⟨(), ha.sub ⟨rfl, rfl, rfl, (by rw [hc36]; rfl), trivial⟩, rfl⟩
              · refine V_gn rfl rfl rfl hc36 rfl rfl rfl ?_
                refine V_gn rfl rfl rfl hc36 rfl rfl rfl ?_
                refine V_y (Y_pick_fe rfl hc36 rfl) rfl rfl rfl ?_
                exact V_end fun a ha => ⟨(), ha.sub ⟨rfl, rfl, rfl, (by rw [hc36]; rfl), trivial⟩, rfl⟩
            simp only [List.take, List.drop]
            rintro _ _ rfl
            refine V_y (Y_assign rfl) rfl rfl rfl ?_
            refine V_to (fun _ _ => rfl) ?_
            refine C_cond rfl (fun hc38 => ?_) (fun hc38 => ?_)
            · rw [if_pos hc38] at hm
              refine C_seq ?_
              refine C_region ?_
              refine V_y (Y_load (El.str h4) Tryz.isAgg9 rfl) rfl rfl rfl ?_
              refine V_y (Y_move rfl) rfl rfl rfl ?_
              refine V_y (Y_subI rfl rfl) rfl rfl rfl ?_
              obtain ⟨x39, hx39, hm⟩ := Option.bind_eq_some_iff.1 hm
              refine V_y (Y_sliceSH hx39 Tryz.underlying9 rfl rfl) rfl rfl rfl ?_
              refine V_y (Y_assign rfl) rfl rfl rfl ?_
              refine V_to (fun _ _ => rfl) ?_
              obtain rfl := Option.some.inj hm
              refine C_ret ?_
              try simp only [↓inBlock_ret, ↓then_ret]
              exact retQ rfl (Res.one Tryz.results81 rfl) ⟨rfl, hK.kp⟩
            · rw [if_neg (nt hc38)] at hm
              refine C_seq ?_
              refine C_region ?_
              refine V_y (Y_move rfl) rfl rfl rfl ?_
              obtain ⟨x40, hx40, hm⟩ := Option.bind_eq_some_iff.1 hm
              refine V_call Tryz.call111 rfl rfl rfl rfl (portref2_StemOf_1_c w10 (⟨#[101, 100]⟩ : ByteArray) w_ b1 h4 hx40) ?_
              rintro _ _ ⟨rfl, rfl⟩
              refine V_y (Y_move rfl) rfl rfl rfl ?_
              refine V_cut 3 (fun _ : Unit => [(1, .pointer (some ⟨b1, 0, none⟩)), (3, .int .i64 (w_.size : Int)), (59, .bool (x40 && (decide ((5 : Int) ≤ (w_.size : Int)))))]) (fun _ w' => w10 = w') ?_ ?_
              · simp only [List.take, List.drop]
                rcases Bool.eq_false_or_eq_true (x40) with hc41 | hc41
                · refine V_ge rfl rfl rfl hc41 ?_
                  refine V_y (Y_move rfl) rfl rfl rfl ?_
                  refine V_ge rfl rfl rfl hc41 ?_
                  refine V_y (Y_geq rfl rfl) rfl rfl rfl ?_
                  refine V_y (Y_pick_te rfl hc41 rfl) rfl rfl rfl ?_
                  exact V_end fun a ha => ⟨(), ha.sub ⟨rfl, rfl, (by rw [hc41]; rfl), trivial⟩, rfl⟩
                · refine V_gn rfl rfl rfl hc41 rfl rfl rfl ?_
                  refine V_gn rfl rfl rfl hc41 rfl rfl rfl ?_
                  refine V_y (Y_pick_fe rfl hc41 rfl) rfl rfl rfl ?_
                  exact V_end fun a ha => ⟨(), ha.sub ⟨rfl, rfl, (by rw [hc41]; rfl), trivial⟩, rfl⟩
              simp only [List.take, List.drop]
              rintro _ _ rfl
              refine V_y (Y_assign rfl) rfl rfl rfl ?_
              refine V_to (fun _ _ => rfl) ?_
              refine C_cond rfl (fun hc43 => ?_) (fun hc43 => ?_)
              · rw [if_pos hc43] at hm
                refine C_seq ?_
                refine C_region ?_
                refine V_y (Y_load (El.str h4) Tryz.isAgg9 rfl) rfl rfl rfl ?_
                refine V_y (Y_move rfl) rfl rfl rfl ?_
                refine V_y (Y_subI rfl rfl) rfl rfl rfl ?_
                obtain ⟨x44, hx44, hm⟩ := Option.bind_eq_some_iff.1 hm
                refine V_y (Y_sliceSH hx44 Tryz.underlying9 rfl rfl) rfl rfl rfl ?_
                refine V_y (Y_assign rfl) rfl rfl rfl ?_
                refine V_to (fun _ _ => rfl) ?_
                obtain rfl := Option.some.inj hm
                refine C_ret ?_
                try simp only [↓inBlock_ret, ↓then_ret]
                exact retQ rfl (Res.one Tryz.results81 rfl) ⟨rfl, hK.kp⟩
              · rw [if_neg (nt hc43)] at hm
                refine C_skip_to (fun _ _ => rfl) ?_
                refine C_seq ?_
                refine C_region ?_
                refine V_y (Y_load (El.str h4) Tryz.isAgg9 rfl) rfl rfl rfl ?_
                refine V_y (Y_assign rfl) rfl rfl rfl ?_
                refine V_to (fun _ _ => rfl) ?_
                obtain rfl := Option.some.inj hm
                refine C_ret ?_
                try simp only [↓inBlock_ret, ↓then_ret]
                exact retQ rfl (Res.one Tryz.results81 rfl) ⟨rfl, hK.kp⟩

def Tryz_sf57_ren : Go.Shelf.Ren := ⟨fun | 6 => 57 | 14 => 92 | 15 => 93 | 20 => 116 | 21 => 117 | 22 => 118 | 23 => 119 | 24 => 120 | 25 => 121 | 26 => 122 | 27 => 123 | 28 => 124 | 29 => 125 | 46 => 162 | 47 => 163 | 48 => 164 | 49 => 165 | 50 => 166 | 57 => 184 | n => n, fun | 0 => 0 | 1 => 1 | 2 => 2 | 3 => 3 | 4 => 4 | 5 => 5 | 6 => 6 | 7 => 7 | 8 => 8 | 9 => 9 | 10 => 10 | 11 => 11 | 12 => 12 | 13 => 13 | 14 => 14 | 15 => 15 | 16 => 16 | 17 => 17 | 18 => 18 | 19 => 19 | 20 => 20 | 21 => 21 | 22 => 81 | 23 => 156 | 24 => 86 | 25 => 158 | 27 => 23 | 29 => 157 | 30 => 252 | 37 => 195 | 38 => 196 | 39 => 191 | 40 => 190 | 42 => 193 | 44 => 211 | 45 => 212 | 46 => 213 | 47 => 214 | 48 => 215 | 49 => 216 | 50 => 150 | 51 => 217 | 52 => 218 | 53 => 219 | 54 => 220 | 55 => 221 | 66 => 253 | 67 => 254 | 68 => 255 | 69 => 256 | 70 => 257 | 71 => 258 | 76 => 268 | 77 => 269 | 78 => 270 | 81 => 239 | 82 => 284 | 83 => 285 | 84 => 286 | 85 => 287 | 86 => 288 | 87 => 289 | 88 => 290 | 89 => 291 | 90 => 292 | 91 => 264 | 92 => 293 | 93 => 294 | 94 => 295 | 95 => 296 | 96 => 272 | n => n, fun n => n⟩
theorem Tryz_sf57_lay : Go.Proofs.SlLaysF0.n6 Tryz.prog Tryz_sf57_ren := {
  mixed := by kernel_rfl,
  f6 := ⟨ "slices.SortFunc[[]porterslodge/know.Posting,porterslodge/know.Posting]", by kernel_rfl, Tryz.func57.trans (congrArg some (by kernel_rfl))⟩,
  f14 := ⟨ "slices.pdqsortCmpFunc[porterslodge/know.Posting]", by kernel_rfl, Tryz.func92.trans (congrArg some (by kernel_rfl))⟩,
  f15 := Tryz.func93.trans (congrArg some (by kernel_rfl)),
  f20 := ⟨ "slices.insertionSortCmpFunc[porterslodge/know.Posting]", by kernel_rfl, Tryz.func116.trans (congrArg some (by kernel_rfl))⟩,
  f21 := ⟨ "slices.heapSortCmpFunc[porterslodge/know.Posting]", by kernel_rfl, Tryz.func117.trans (congrArg some (by kernel_rfl))⟩,
  f22 := ⟨ "slices.breakPatternsCmpFunc[porterslodge/know.Posting]", by kernel_rfl, Tryz.func118.trans (congrArg some (by kernel_rfl))⟩,
  f23 := ⟨ "slices.choosePivotCmpFunc[porterslodge/know.Posting]", by kernel_rfl, Tryz.func119.trans (congrArg some (by kernel_rfl))⟩,
  f24 := ⟨ "slices.reverseRangeCmpFunc[porterslodge/know.Posting]", by kernel_rfl, Tryz.func120.trans (congrArg some (by kernel_rfl))⟩,
  f25 := ⟨ "slices.partialInsertionSortCmpFunc[porterslodge/know.Posting]", by kernel_rfl, Tryz.func121.trans (congrArg some (by kernel_rfl))⟩,
  f26 := ⟨ "slices.partitionEqualCmpFunc[porterslodge/know.Posting]", by kernel_rfl, Tryz.func122.trans (congrArg some (by kernel_rfl))⟩,
  f27 := ⟨ "slices.partitionCmpFunc[porterslodge/know.Posting]", by kernel_rfl, Tryz.func123.trans (congrArg some (by kernel_rfl))⟩,
  f28 := Tryz.func124.trans (congrArg some (by kernel_rfl)),
  f29 := Tryz.func125.trans (congrArg some (by kernel_rfl)),
  f46 := ⟨ "slices.siftDownCmpFunc[porterslodge/know.Posting]", by kernel_rfl, Tryz.func162.trans (congrArg some (by kernel_rfl))⟩,
  f47 := Tryz.func163.trans (congrArg some (by kernel_rfl)),
  f48 := Tryz.func164.trans (congrArg some (by kernel_rfl)),
  f49 := ⟨ "slices.medianAdjacentCmpFunc[porterslodge/know.Posting]", by kernel_rfl, Tryz.func165.trans (congrArg some (by kernel_rfl))⟩,
  f50 := ⟨ "slices.medianCmpFunc[porterslodge/know.Posting]", by kernel_rfl, Tryz.func166.trans (congrArg some (by kernel_rfl))⟩,
  f57 := ⟨ "slices.order2CmpFunc[porterslodge/know.Posting]", by kernel_rfl, Tryz.func184.trans (congrArg some (by kernel_rfl))⟩,
  t0 := Tryz.underlying0,
  a0 := Tryz.isAgg0,
  z0 := Tryz.sizeOf0,
  v0 := Tryz.zeroValue0,
  t3 := Tryz.underlying3,
  a3 := Tryz.isAgg3,
  z3 := Tryz.sizeOf3,
  v3 := Tryz.zeroValue3,
  t4 := Tryz.underlying4,
  a4 := Tryz.isAgg4,
  z4 := Tryz.sizeOf4,
  v4 := Tryz.zeroValue4,
  t5 := Tryz.underlying5,
  a5 := Tryz.isAgg5,
  z5 := Tryz.sizeOf5,
  v5 := Tryz.zeroValue5,
  t9 := Tryz.underlying9,
  a9 := Tryz.isAgg9,
  z9 := Tryz.sizeOf9,
  v9 := Tryz.zeroValue9,
  t22 := Tryz.underlying81,
  a22 := Tryz.isAgg81,
  z22 := Tryz.sizeOf81,
  v22 := Tryz.zeroValue81,
  t25 := Tryz.underlying158,
  a25 := Tryz.isAgg158,
  z25 := Tryz.sizeOf158,
  v25 := Tryz.zeroValue158,
  t39 := Tryz.underlying191,
  a39 := Tryz.isAgg191,
  z39 := Tryz.sizeOf191,
  v39 := Tryz.zeroValue191,
  t45 := Tryz.underlying212,
  a45 := Tryz.isAgg212,
  z45 := Tryz.sizeOf212,
  v45 := Tryz.zeroValue212,
  t46 := Tryz.underlying213,
  a46 := Tryz.isAgg213,
  z46 := Tryz.sizeOf213,
  v46 := Tryz.zeroValue213,
  t50 := Tryz.underlying150,
  a50 := Tryz.isAgg150,
  z50 := Tryz.sizeOf150,
  v50 := Tryz.zeroValue150,
  t53 := Tryz.underlying219,
  a53 := Tryz.isAgg219,
  z53 := Tryz.sizeOf219,
  v53 := Tryz.zeroValue219,
  t55 := Tryz.underlying221,
  a55 := Tryz.isAgg221,
  z55 := Tryz.sizeOf221,
  v55 := Tryz.zeroValue221,
  t66 := Tryz.underlying253,
  a66 := Tryz.isAgg253,
  z66 := Tryz.sizeOf253,
  v66 := Tryz.zeroValue253,
  t70 := Tryz.underlying257,
  a70 := Tryz.isAgg257,
  z70 := Tryz.sizeOf257,
  v70 := Tryz.zeroValue257,
  t76 := Tryz.underlying268,
  a76 := Tryz.isAgg268,
  z76 := Tryz.sizeOf268,
  v76 := Tryz.zeroValue268,
  t77 := Tryz.underlying269,
  a77 := Tryz.isAgg269,
  z77 := Tryz.sizeOf269,
  v77 := Tryz.zeroValue269 }
theorem Tryz_sf57 {cmp : know_Posting → know_Posting → Option Int} {l r : List know_Posting} {g : FuncId} {cb : Array Value} {B : Nat} {A : Nat → Prop} {w : World} {L : List Ob} {i : Nat} {v : Value} (eg : ∀ (args : Array Value) (w : World), (callFunc g args).run Tryz.prog w = .ok (.enter g args) w) (hcl : ∀ (w1 : World), Tr True B A w A w1 → (∀ b, w1.heap.size ≤ b → A b) → ∀ (x y : know_Posting) (cx cy : List Value) (c : Int), GoT.rep A w1 cx x → GoT.rep A w1 cy y → cmp x y = some c → Ret Tryz.prog g (#[.agg cx.toArray, .agg cy.toArray] ++ cb) w1 fun v w' => v = .int .i64 c ∧ Kp True w1 w') (hH : Hp B A w L) (hi : L[i]? = some (obS (α := know_Posting) 86 v l)) (hB : B ≤ w.heap.size) (hA : ∀ b, w.heap.size ≤ b → A b) (hr : sortFuncL cmp l = some r) : Ret Tryz.prog 57 #[v, .func (.func g) #[] cb] w fun u w' => u = .tuple #[] ∧ Hp B A w' (L.set i (obS (α := know_Posting) 86 v r)) ∧ Tr Dw B A w A w' :=
  Hp.sortFuncK (Dw := Dw) (fun p c w => Go.Proofs.AnyF.slices_SortFunc_none Tryz_sf57_lay p c _ w) (fun enc hk hone cf hO blk off cap d w hc hh hb hs => Go.Proofs.AnyQ.slices_SortFunc Tryz_sf57_lay _ Tryz.isAgg86 Tryz.sizeOf86 enc hk hone cf hO g cb blk off cap d w eg hc hh hb hs) hcl hH hi hB hA hr

set_option maxRecDepth 4000 in
set_option maxHeartbeats 4000000 in
theorem portref2_indexOf_2_c (w : World) {A : Nat → Prop} (hA : ∀ b, w.heap.size ≤ b → A b) (a_ : know_Posting) (v_a_0 : Value) (h_a_0 : Sl A w v_a_0 a_.title) (v_a_1 : Value) (h_a_1 : Sl A w v_a_1 a_.body) (b : know_Posting) (v_b0 : Value) (h_b0 : Sl A w v_b0 b.title) (v_b1 : Value) (h_b1 : Sl A w v_b1 b.body) {r : Int} (hm : portref2_indexOf_2 a_ b = some r) : Ret Tryz.prog 83 #[.agg #[.int .i64 a_.id_, v_a_0, v_a_1], .agg #[.int .i64 b.id_, v_b0, v_b1]] w fun v w' => v = .int .i64 r ∧ Kp Dw w w' := by
  unfold portref2_indexOf_2 at hm
  refine enter Tryz.func83 rfl Tryz.ntmps83 rfl ?_
  have hA0 := hA
  have hB := Nat.le_refl w.heap.size
  have hK : Tr Dw w.heap.size A w A w := Tr.refl (Dw := Dw) hA
  have hH : Hp w.heap.size A w [] := Hp.nil
  refine C_seq ?_
  refine C_region ?_
  refine V_box rfl rfl ?_
  intro b9 w10 h11
  have hk13 := h11.kp (Dw := Dw)
  have h12 : El (α := know_Posting) A w10 b9 0 a_ := h11.el hA ⟨[.int .i64 a_.id_], _, rfl, rfl, ⟨[v_a_0], _, rfl, ⟨_, rfl, h_a_0⟩, ⟨_, rfl, h_a_1⟩⟩⟩
  have ht14 := Kp.tr (Dw := Dw) hk13 hA hB
  replace hH := Hp.kp (Dw := Dw) hH hk13
  replace h_a_0 := Sl.tr (Dw := Dw) h_a_0 ht14
  replace h_a_1 := Sl.tr (Dw := Dw) h_a_1 ht14
  replace h_b0 := Sl.tr (Dw := Dw) h_b0 ht14
  replace h_b1 := Sl.tr (Dw := Dw) h_b1 ht14
  replace hK := Tr.trans (Dw := Dw) hK ht14
  replace hB := Nat.le_trans hB ht14.ex.size
  replace hA := ht14.new
  refine V_box rfl rfl ?_
  intro b15 w17 h18
  have hk20 := h18.kp (Dw := Dw)
  have h19 : El (α := know_Posting) A w17 b15 0 b := h18.el hA ⟨[.int .i64 b.id_], _, rfl, rfl, ⟨[v_b0], _, rfl, ⟨_, rfl, h_b0⟩, ⟨_, rfl, h_b1⟩⟩⟩
  have ht21 := Kp.tr (Dw := Dw) hk20 hA hB
  replace hH := Hp.kp (Dw := Dw) hH hk20
  replace h_a_0 := Sl.tr (Dw := Dw) h_a_0 ht21
  replace h_a_1 := Sl.tr (Dw := Dw) h_a_1 ht21
  replace h_b0 := Sl.tr (Dw := Dw) h_b0 ht21
  replace h_b1 := Sl.tr (Dw := Dw) h_b1 ht21
  replace h12 := El.tr (Dw := Dw) h12 ht21
  replace hK := Tr.trans (Dw := Dw) hK ht21
  replace hB := Nat.le_trans hB ht21.ex.size
  replace hA := ht21.new
  refine V_y (Y_assign rfl) rfl rfl rfl ?_
  refine V_to (fun _ _ => rfl) ?_
  refine C_seq ?_
  refine C_region ?_
  have h22 := El_know_Posting_0 h12
  refine V_y (Y_fieldAddr Tryz.underlying86 rfl Tryz.sizeOf3 (by decide) rfl) rfl rfl rfl ?_
  refine V_y (Y_load (El.int h22) Tryz.isAgg3 rfl) rfl rfl rfl ?_
  have h23 := El_know_Posting_0 h19
  refine V_y (Y_fieldAddr Tryz.underlying86 rfl Tryz.sizeOf3 (by decide) rfl) rfl rfl rfl ?_
  refine V_y (Y_load (El.int h23) Tryz.isAgg3 rfl) rfl rfl rfl ?_
  refine V_call Tryz.call59 rfl rfl rfl rfl (cmp_Compare_int_c w17 a_.id_ b.id_) ?_
  rintro _ _ ⟨rfl, rfl⟩
  refine V_y (Y_assign rfl) rfl rfl rfl ?_
  refine V_to (fun _ _ => rfl) ?_
  obtain rfl := Option.some.inj hm
  refine C_ret ?_
  try simp only [↓inBlock_ret, ↓then_ret]
  exact retQ rfl (Res.one Tryz.results83 rfl) ⟨rfl, hK.kp⟩

end Go.Proofs.YtldkdabcdbgpbaaGreatDoor.W
