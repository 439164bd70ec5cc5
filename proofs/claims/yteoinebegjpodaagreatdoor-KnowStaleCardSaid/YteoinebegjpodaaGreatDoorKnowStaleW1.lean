/-
  Written by program (gen.py) from the IR of the dump: each function computes its model.
-/
import Derived.Test.YteoinebegjpodaaGreatDoorKnowStaleW0
namespace Go.Proofs.YteoinebegjpodaaGreatDoor.W
open Go Go.RowKit Go.Pu Go.Gw Go.Proofs Go.Proofs.YteoinebegjpodaaGreatDoor.M
set_option linter.unusedVariables false
set_option linter.unusedSimpArgs false
variable {Dw : Prop}

set_option maxRecDepth 4000 in
set_option maxHeartbeats 4000000 in
theorem know_Stale_c (w : World) {A : Nat → Prop} (hA : ∀ b, w.heap.size ≤ b → A b) (hT : Fz Tryz_FR A w) (l : (List know_Article)) (v_l : Value) (h_l : Sl A w v_l l) (m : Int) (age : Int) {r : ((List Int) × Int)} (hm : know_Stale l m age = some r) : Ret Tryz.prog 4 #[v_l, .int .i64 m, .int .i64 age] w fun v w' => ∃ s0, v = .tuple #[s0, .int .i64 r.2] ∧ Ownd 3 w w' s0 r.1 ∧ Kp Dw w w' := by
  unfold know_Stale at hm
  refine enter Tryz.func4 rfl Tryz.ntmps4 rfl ?_
  have hA0 := hA
  have hB := Nat.le_refl w.heap.size
  have hK : Tr Dw w.heap.size A w A w := Tr.refl (Dw := Dw) hA
  have hH : Hp w.heap.size A w [] := Hp.nil
  refine C_seq ?_
  refine C_region ?_
  refine V_y (Y_assign rfl) rfl rfl rfl ?_
  refine V_y (Y_assign rfl) rfl rfl rfl ?_
  refine V_to (fun _ _ => rfl) ?_
  refine C_seq ?_
  refine C_seq ?_
  refine C_region ?_
  refine V_y (Y_move rfl) rfl rfl rfl ?_
  obtain ⟨x3, hx3, hm⟩ := Option.bind_eq_some_iff.1 hm
  refine V_call Tryz.call7 rfl rfl rfl rfl (know_CheckArticles_c (Dw := Dw) w hA (Fz.tr (Dw := Dw) hT hK) l v_l h_l hx3) ?_
  rintro _ w4 ⟨rfl, hk5⟩
  have ht6 := Kp.tr (Dw := Dw) hk5 hA hB
  replace hH := Hp.kp (Dw := Dw) hH hk5
  replace h_l := Sl.tr (Dw := Dw) h_l ht6
  replace hK := Tr.trans (Dw := Dw) hK ht6
  replace hB := Nat.le_trans hB ht6.ex.size
  replace hA := ht6.new
  refine V_y (Y_assign rfl) rfl rfl rfl ?_
  refine V_to (fun _ _ => rfl) ?_
  refine C_seq ?_
  refine C_region ?_
  refine V_y (Y_move rfl) rfl rfl rfl ?_
  refine V_y (Y_neq rfl rfl) rfl rfl rfl ?_
  refine V_to (fun _ _ => rfl) ?_
  refine C_cond rfl (fun hc7 => ?_) (fun hc7 => ?_)
  · rw [if_pos hc7] at hm
    refine C_seq ?_
    refine C_region ?_
    refine V_y (Y_move rfl) rfl rfl rfl ?_
    refine V_y (Y_assign rfl) rfl rfl rfl ?_
    refine V_y (Y_assign rfl) rfl rfl rfl ?_
    refine V_to (fun _ _ => rfl) ?_
    obtain rfl := Option.some.inj hm
    replace hH : Hp w.heap.size A w4 (obS (α := Int) 3 (.slice none 0 0) ([] : (List Int)) :: []) := Hp.addNil (α := Int) (e := 3) hH
    refine C_ret ?_
    try simp only [↓inBlock_ret, ↓then_ret]
    exact retQ rfl (Res.two Tryz.results4 rfl rfl) ⟨.slice none 0 0, rfl, (Hp.ownd hH (i := 0) rfl), hK.kp⟩
  · rw [if_neg (nt hc7)] at hm
    refine C_skip_to (fun _ _ => rfl) ?_
    refine C_seq ?_
    refine C_seq ?_
    refine C_region ?_
    refine V_y (Y_move rfl) rfl rfl rfl ?_
    refine V_call Tryz.call8 rfl rfl rfl rfl (know_within_c w4 m 0 3000000) ?_
    rintro _ _ ⟨rfl, rfl⟩
    refine V_y (Y_not rfl) rfl rfl rfl ?_
    refine V_y (Y_move rfl) rfl rfl rfl ?_
    refine V_cut 3 (fun _ : Unit => [(0, v_l), (1, .int .i64 m), (2, .int .i64 age), (28, .bool ((!(know_within m 0 3000000)) || (decide (age < 0))))]) (fun _ w' => w4 = w') ?_ ?_
    · simp only [List.take, List.drop]
      rcases Bool.eq_false_or_eq_true (!(know_within m 0 3000000)) with hc8 | hc8
      · refine V_gn rfl rfl rfl hc8 rfl rfl rfl ?_
        refine V_gn rfl rfl rfl hc8 rfl rfl rfl ?_
        refine V_y (Y_pick_te rfl hc8 rfl) rfl rfl rfl ?_
        exact V_end fun a ha => ⟨(), ha.sub ⟨rfl, rfl, rfl, (by rw [hc8]; rfl), trivial⟩, rfl⟩
      · refine V_ge rfl rfl rfl hc8 ?_
        refine V_y (Y_move rfl) rfl rfl rfl ?_
        refine V_ge rfl rfl rfl hc8 ?_
        refine V_y (Y_lss rfl rfl) rfl rfl rfl ?_
        refine V_y (Y_pick_fe rfl hc8 rfl) rfl rfl rfl ?_
        exact V_end fun a ha => ⟨(), ha.sub ⟨rfl, rfl, rfl, (by rw [hc8]; rfl), trivial⟩, rfl⟩
    simp only [List.take, List.drop]
    rintro _ _ rfl
    refine V_to (fun _ _ => rfl) ?_
    refine C_cond rfl (fun hc10 => ?_) (fun hc10 => ?_)
    · rw [if_pos hc10] at hm
      refine C_seq ?_
      refine C_region ?_
      refine V_y (Y_assign rfl) rfl rfl rfl ?_
      refine V_y (Y_assign rfl) rfl rfl rfl ?_
      refine V_to (fun _ _ => rfl) ?_
      obtain rfl := Option.some.inj hm
      replace hH : Hp w.heap.size A w4 (obS (α := Int) 3 (.slice none 0 0) ([] : (List Int)) :: []) := Hp.addNil (α := Int) (e := 3) hH
      refine C_ret ?_
      try simp only [↓inBlock_ret, ↓then_ret]
      exact retQ rfl (Res.two Tryz.results4 rfl rfl) ⟨.slice none 0 0, rfl, (Hp.ownd hH (i := 0) rfl), hK.kp⟩
    · rw [if_neg (nt hc10)] at hm
      refine C_skip_to (fun _ _ => rfl) ?_
      refine C_seq ?_
      refine C_region ?_
      refine V_y (Y_move rfl) rfl rfl rfl ?_
      refine V_y (Y_move rfl) rfl rfl rfl ?_
      obtain ⟨x12, hx12, hm⟩ := Option.bind_eq_some_iff.1 hm
      refine V_call Tryz.call9 rfl rfl rfl rfl (know_current_c (Dw := Dw) w4 hB hA l v_l h_l m (fun y24 => some (know_Stale_1 y24)) 10 #[] #[] Tryz.call10 (fun w20 A21 ht22 h23 y17 r18 h19 => (know_Stale_1_c w20  y17 ).mono (fun _ _ h => ⟨h.1.trans (by rw [← Option.some.inj h19]), h.2 ▸ Kp.refl (Dw := Dw) _⟩)) hH hx12) ?_
      rintro _ w25 ⟨v13, v15, A26, rfl, hH27, ht28⟩
      replace h_l := Sl.tr (Dw := Dw) h_l ht28
      replace hK := Tr.trans (Dw := Dw) hK ht28
      replace hB := Nat.le_trans hB ht28.ex.size
      replace hA := ht28.new
      replace hH : Hp w.heap.size A26 w25 (obS (α := know_Entry) 38 v13 x12.1 :: obS (α := know_Version) 40 v15 x12.2 :: []) := hH27
      refine V_y (Y_move rfl) rfl rfl rfl ?_
      refine V_y (Y_extract rfl rfl) rfl rfl rfl ?_
      refine V_y (Y_extract rfl rfl) rfl rfl rfl ?_
      refine V_y (Y_assign rfl) rfl rfl rfl ?_
      refine V_y (Y_assign rfl) rfl rfl rfl ?_
      refine V_to (fun _ _ => rfl) ?_
      refine C_seq ?_
      refine C_region ?_
      refine V_makeMapS (Dw := Dw) (B := w.heap.size) Int Bool hH hB hA rfl ?_
      intro b29 w30 A31 hH32 ht33
      replace hK := Tr.trans (Dw := Dw) hK ht33
      replace hB := Nat.le_trans hB ht33.ex.size
      replace hA := ht33.new
      replace hH : Hp w.heap.size A31 w30 (obSM (κ := Int) (α := Bool) b29 ([] : List (Int × Bool)) :: obS (α := know_Entry) 38 v13 x12.1 :: obS (α := know_Version) 40 v15 x12.2 :: []) := hH32
      refine V_alloc Tryz.zeroValue36 rfl ?_
      intro b34 w35 h36
      refine V_storeNew h36 Tryz.sizeOf36 rfl rfl rfl rfl (by simp [Value.cells, Value.oneCell']) ?_
      intro w37 h38
      have hk39 := h38.kp (Dw := Dw)
      have h40 : Vb A31 w37 b34 (.map (some b29)) := h38.vb hA rfl
      have ht41 := Kp.tr (Dw := Dw) hk39 hA hB
      replace hH := Hp.kp (Dw := Dw) hH hk39
      replace hK := Tr.trans (Dw := Dw) hK ht41
      replace hB := Nat.le_trans hB ht41.ex.size
      replace hA := ht41.new
      refine V_to (fun _ _ => rfl) ?_
      refine C_seq ?_
      refine C_seq ?_
      refine C_region ?_
      refine V_y (Y_move rfl) rfl rfl rfl ?_
      refine V_y (Y_lenSl (Hp.any (α := know_Entry) (e := 38) (v := v13) (l := x12.1) hH (i := 1) rfl) rfl Tryz.underlying31 rfl) rfl rfl rfl ?_
      refine V_y (Y_move rfl) rfl rfl rfl ?_
      refine V_to (fun _ _ => rfl) ?_
      have hn62 := Hp.le (α := know_Entry) (e := 38) (v := v13) (l := x12.1) hH (i := 1) rfl
      obtain ⟨o42, ho42, hm⟩ := Option.bind_eq_some_iff.1 hm
      refine C_cutG (ι := ((List (Int × Bool)) × (Nat → Prop))) (fun ⟨s43, A49⟩ => [(1, .int .i64 m), (2, .int .i64 age), (9, v13), (10, v15), (11, .pointer (some ⟨b34, 0, none⟩))]) (fun ⟨s43, A49⟩ => fun w' => o42 = .fin s43 ∧ Hp w.heap.size A49 w' (obSM (κ := Int) (α := Bool) b29 s43 :: obS (α := know_Entry) 38 v13 x12.1 :: obS (α := know_Version) 40 v15 x12.2 :: []) ∧ Tr Dw w.heap.size A31 w37 A49 w') ?_ ?_
      · refine C_block ?_
        refine C_range ho42 (fun k45 s51 a w' => ∃ i : (Nat → Prop), Has ⟨76, [], none⟩ a ([(1, .int .i64 m), (2, .int .i64 age), (9, v13), (10, v15), (11, .pointer (some ⟨b34, 0, none⟩)), (36, v13), (37, .int .i64 (x12.1.length : Int)), (38, .int .i64 (k45 : Int))]) ∧ Hp w.heap.size i w' (obSM (κ := Int) (α := Bool) b29 s51 :: obS (α := know_Entry) 38 v13 x12.1 :: obS (α := know_Version) 40 v15 x12.2 :: []) ∧ Tr Dw w.heap.size A31 w37 i w') (fun a ha => ⟨A31, ha.sub ⟨rfl, rfl, rfl, rfl, rfl, rfl, rfl, rfl, trivial⟩, ⟨hH, Tr.refl (Dw := Dw) hA⟩⟩) ?_
        rintro K k45 s51 a w52 ⟨A53, ha84, hH54, hr44⟩ hle58 K61 h60
        refine C_of ?_ ha84
        replace h40 := Vb.tr (Dw := Dw) h40 hr44
        replace hK := Tr.trans (Dw := Dw) hK hr44
        replace hB := Nat.le_trans hB hr44.ex.size
        replace hA := hr44.new
        replace hH : Hp w.heap.size A53 w52 (obSM (κ := Int) (α := Bool) b29 s51 :: obS (α := know_Entry) 38 v13 x12.1 :: obS (α := know_Version) 40 v15 x12.2 :: []) := hH54
        refine C_seq (C_region (V_y (Y_lss rfl rfl) rfl rfl rfl (V_to (fun _ _ => rfl) ?_)))
        refine C_seq ?_
        refine C_cond rfl (fun hc63 => ?_) (fun hc63 => ?_)
        · have hlt59 := lt_of_dec hc63
          obtain ⟨x55, h56, h57⟩ := K61 hlt59
          refine C_skip_to (fun _ _ => rfl) ?_
          refine C_seq ?_
          refine C_block ?_
          refine C_seq ?_
          refine C_region ?_
          obtain ⟨x64, hx64, h56⟩ := Option.bind_eq_some_iff.1 h56
          refine V_indexAddrH (α := know_Entry) (e := 38) (v := v13) (l := x12.1) hH (i := 1) rfl hx64 Tryz.underlying31 Tryz.sizeOf38 rfl rfl rfl ?_
          intro b65 o66 h67 hl68
          obtain ⟨h69, _⟩ := El_know_Entry h67
          refine V_y (Y_loadA h69 Tryz.isAgg38 Tryz.sizeOf38 rfl) rfl rfl rfl ?_
          refine V_alloc Tryz.zeroValue38 rfl ?_
          intro b70 w71 h72
          refine V_storeNew h72 Tryz.sizeOf38 rfl rfl rfl rfl (by exact (List.forall_mem_cons.2 ⟨rfl, (List.forall_mem_cons.2 ⟨rfl, (List.forall_mem_cons.2 ⟨rfl, (fun _ h => nomatch h)⟩)⟩)⟩)) ?_
          intro w73 h74
          have hk76 := h74.kp (Dw := Dw)
          have h75 : El (α := know_Entry) A53 w73 b70 0 x64 := h74.el hA ⟨[.int .i64 x64.id_], _, rfl, rfl, ⟨[.string x64.title], _, rfl, rfl, rfl⟩⟩
          have ht77 := Kp.tr (Dw := Dw) hk76 hA hB
          replace hH := Hp.kp (Dw := Dw) hH hk76
          replace h40 := Vb.tr (Dw := Dw) h40 ht77
          replace h67 := El.kp (Dw := Dw) h67 hk76
          replace hK := Tr.trans (Dw := Dw) hK ht77
          replace hr44 := Tr.trans (Dw := Dw) hr44 ht77
          replace hB := Nat.le_trans hB ht77.ex.size
          replace hA := ht77.new
          refine V_to (fun _ _ => rfl) ?_
          refine C_region ?_
          refine V_y (Y_load h40.2.2 Tryz.isAgg36 rfl) rfl rfl rfl ?_
          have h78 := El_know_Entry_0 h75
          refine V_y (Y_fieldAddr Tryz.underlying38 rfl Tryz.sizeOf3 (by decide) rfl) rfl rfl rfl ?_
          refine V_y (Y_load (El.int h78) Tryz.isAgg3 rfl) rfl rfl rfl ?_
          refine V_mapUpdateS (Dw := Dw) (κ := Int) (α := Bool) (l := s51) (c := true) hH (i := 0) rfl Tryz.underlying36 Tryz.underlying3 rfl rfl rfl hB hA ?_
          intro w79 hH80 ht81
          replace h40 := Vb.tr (Dw := Dw) h40 ht81
          replace h75 := El.tr (Dw := Dw) h75 ht81
          replace h78 := El.tr (Dw := Dw) h78 ht81
          replace hK := Tr.trans (Dw := Dw) hK ht81
          replace hr44 := Tr.trans (Dw := Dw) hr44 ht81
          replace hB := Nat.le_trans hB ht81.ex.size
          replace hA := ht81.new
          replace hH : Hp w.heap.size A53 w79 (obSM (κ := Int) (α := Bool) b29 (mapPut s51 x64.id_ true) :: obS (α := know_Entry) 38 v13 x12.1 :: obS (α := know_Version) 40 v15 x12.2 :: []) := hH80
          refine V_to (fun _ _ => rfl) ?_
          refine C_region ?_
          refine V_y (Y_addI rfl rfl) rfl rfl rfl ?_
          refine V_y (Y_move rfl) rfl rfl rfl ?_
          obtain rfl := Option.some.inj h56
          refine V_end (fun a ha82 => ?_)
          exact ⟨(mapPut s51 x64.id_ true), hlt59, h57, ⟨A53, ha82.sub ⟨rfl, rfl, rfl, rfl, rfl, rfl, rfl, (congrArg (fun z => some (Value.int .i64 z)) (w64_succ hlt59 hn62)), trivial⟩, ⟨hH, hr44⟩⟩⟩
        · refine C_exit (fun a ha83 => ?_)
          exact ⟨(s51, A53), ha83.sub ⟨rfl, rfl, rfl, rfl, rfl, trivial⟩, ⟨(h60 (eq_of_dec hle58 hc63)).symm, hH, hr44⟩⟩
      rintro ⟨s43, A49⟩ w46 ⟨rfl, hH50, hk47⟩ a ha48
      rw [Lp.andThen_fin] at hm
      replace h40 := Vb.tr (Dw := Dw) h40 hk47
      replace hK := Tr.trans (Dw := Dw) hK hk47
      replace hB := Nat.le_trans hB hk47.ex.size
      replace hA := hk47.new
      replace hH : Hp w.heap.size A49 w46 (obSM (κ := Int) (α := Bool) b29 s43 :: obS (α := know_Entry) 38 v13 x12.1 :: obS (α := know_Version) 40 v15 x12.2 :: []) := hH50
      refine C_at (n := ⟨76, [], none⟩) (fun _ _ => rfl) ?_ ha48
      refine C_seq ?_
      refine C_region ?_
      refine V_y (Y_assign rfl) rfl rfl rfl ?_
      refine V_to (fun _ _ => rfl) ?_
      refine C_seq ?_
      refine C_seq ?_
      refine C_region ?_
      refine V_y (Y_move rfl) rfl rfl rfl ?_
      refine V_y (Y_lenSl (Hp.any (α := know_Entry) (e := 38) (v := v13) (l := x12.1) hH (i := 1) rfl) rfl Tryz.underlying31 rfl) rfl rfl rfl ?_
      refine V_y (Y_move rfl) rfl rfl rfl ?_
      refine V_to (fun _ _ => rfl) ?_
      obtain ⟨A85, ht86, h87, hH88⟩ := Hp.freezeSM (Dw := Dw) (κ := Int) (α := Bool) (l := s43) hH (i := 0) rfl hA h40
      replace hK := Tr.trans (Dw := Dw) hK ht86
      replace hB := Nat.le_trans hB ht86.ex.size
      replace hA := ht86.new
      replace hH : Hp w.heap.size A85 w46 (obS (α := know_Entry) 38 v13 x12.1 :: obS (α := know_Version) 40 v15 x12.2 :: []) := hH88
      replace hH : Hp w.heap.size A85 w46 (obS (α := Int) 3 (.slice none 0 0) ([] : (List Int)) :: obS (α := know_Entry) 38 v13 x12.1 :: obS (α := know_Version) 40 v15 x12.2 :: []) := Hp.addNil (α := Int) (e := 3) hH
      have hn113 := Hp.le (α := know_Entry) (e := 38) (v := v13) (l := x12.1) hH (i := 1) rfl
      obtain ⟨o89, ho89, hm⟩ := Option.bind_eq_some_iff.1 hm
      refine C_cutG (ι := ((List Int) × Value × (Nat → Prop))) (fun ⟨s90, v96, A98⟩ => [(14, v96)]) (fun ⟨s90, v96, A98⟩ => fun w' => o89 = .fin s90 ∧ Hp w.heap.size A98 w' (obS (α := Int) 3 v96 s90 :: obS (α := know_Entry) 38 v13 x12.1 :: obS (α := know_Version) 40 v15 x12.2 :: []) ∧ Tr Dw w.heap.size A85 w46 A98 w') ?_ ?_
      · refine C_block ?_
        refine C_range ho89 (fun k92 s100 a w' => ∃ i : (Value × (Nat → Prop)), Has ⟨76, [], none⟩ a ([(1, .int .i64 m), (2, .int .i64 age), (10, v15), (11, .pointer (some ⟨b34, 0, none⟩)), (14, i.1), (46, v13), (47, .int .i64 (x12.1.length : Int)), (48, .int .i64 (k92 : Int))]) ∧ Hp w.heap.size i.2 w' (obS (α := Int) 3 i.1 s100 :: obS (α := know_Entry) 38 v13 x12.1 :: obS (α := know_Version) 40 v15 x12.2 :: []) ∧ Tr Dw w.heap.size A85 w46 i.2 w') (fun a ha => ⟨(.slice none 0 0, A85), ha.sub ⟨rfl, rfl, rfl, rfl, rfl, rfl, rfl, rfl, trivial⟩, ⟨hH, Tr.refl (Dw := Dw) hA⟩⟩) ?_
        rintro K k92 s100 a w101 ⟨⟨v102, A104⟩, ha206, hH105, hr91⟩ hle109 K112 h111
        refine C_of ?_ ha206
        replace h87 := El.tr (Dw := Dw) h87 hr91
        replace hK := Tr.trans (Dw := Dw) hK hr91
        replace hB := Nat.le_trans hB hr91.ex.size
        replace hA := hr91.new
        replace hH : Hp w.heap.size A104 w101 (obS (α := Int) 3 v102 s100 :: obS (α := know_Entry) 38 v13 x12.1 :: obS (α := know_Version) 40 v15 x12.2 :: []) := hH105
        refine C_seq (C_region (V_y (Y_lss rfl rfl) rfl rfl rfl (V_to (fun _ _ => rfl) ?_)))
        refine C_seq ?_
        refine C_cond rfl (fun hc114 => ?_) (fun hc114 => ?_)
        · have hlt110 := lt_of_dec hc114
          obtain ⟨x106, h107, h108⟩ := K112 hlt110
          refine C_skip_to (fun _ _ => rfl) ?_
          refine C_seq ?_
          obtain ⟨s116, ho115, h107⟩ := Option.bind_eq_some_iff.1 h107
          refine C_cutG (ι := (Value × (Nat → Prop))) (fun ⟨v118, A123⟩ => [(1, .int .i64 m), (2, .int .i64 age), (10, v15), (11, .pointer (some ⟨b34, 0, none⟩)), (14, v118), (46, v13), (47, .int .i64 (x12.1.length : Int)), (48, .int .i64 (k92 : Int))]) (fun ⟨v118, A123⟩ => fun w' => Hp w.heap.size A123 w' (obS (α := Int) 3 v118 s116 :: obS (α := know_Entry) 38 v13 x12.1 :: obS (α := know_Version) 40 v15 x12.2 :: []) ∧ Tr Dw w.heap.size A104 w101 A123 w') ?_ ?_
          · have hr117 : Tr Dw w.heap.size A104 w101 A104 w101 := Tr.refl (Dw := Dw) hA
            refine C_block ?_
            refine C_seq ?_
            refine C_region ?_
            refine V_y (Y_move rfl) rfl rfl rfl ?_
            obtain ⟨x125, hx125, ho115⟩ := Option.bind_eq_some_iff.1 ho115
            refine V_indexAddrH (α := know_Entry) (e := 38) (v := v13) (l := x12.1) hH (i := 1) rfl hx125 Tryz.underlying31 Tryz.sizeOf38 rfl rfl rfl ?_
            intro b126 o127 h128 hl129
            obtain ⟨h130, _⟩ := El_know_Entry h128
            refine V_y (Y_loadA h130 Tryz.isAgg38 Tryz.sizeOf38 rfl) rfl rfl rfl ?_
            refine V_alloc Tryz.zeroValue38 rfl ?_
            intro b131 w132 h133
            refine V_y (Y_assign rfl) rfl rfl rfl ?_
            refine V_storeNew h133 Tryz.sizeOf38 rfl rfl rfl rfl (by exact (List.forall_mem_cons.2 ⟨rfl, (List.forall_mem_cons.2 ⟨rfl, (List.forall_mem_cons.2 ⟨rfl, (fun _ h => nomatch h)⟩)⟩)⟩)) ?_
            intro w134 h135
            have hk137 := h135.kp (Dw := Dw)
            have h136 : El (α := know_Entry) A104 w134 b131 0 x125 := h135.el hA ⟨[.int .i64 x125.id_], _, rfl, rfl, ⟨[.string x125.title], _, rfl, rfl, rfl⟩⟩
            have ht138 := Kp.tr (Dw := Dw) hk137 hA hB
            replace hH := Hp.kp (Dw := Dw) hH hk137
            replace h87 := El.tr (Dw := Dw) h87 ht138
            replace h128 := El.kp (Dw := Dw) h128 hk137
            replace hK := Tr.trans (Dw := Dw) hK ht138
            replace hr91 := Tr.trans (Dw := Dw) hr91 ht138
            replace hr117 := Tr.trans (Dw := Dw) hr117 ht138
            replace hB := Nat.le_trans hB ht138.ex.size
            replace hA := ht138.new
            refine V_to (fun _ _ => rfl) ?_
            refine C_seq ?_
            obtain ⟨s140, ho139, ho115⟩ := Option.bind_eq_some_iff.1 ho115
            refine C_cutG (ι := (Nat → Prop)) (fun (A145 : (Nat → Prop)) => [(1, .int .i64 m), (2, .int .i64 age), (10, v15), (11, .pointer (some ⟨b34, 0, none⟩)), (14, v102), (16, .pointer (some ⟨b131, 0, none⟩)), (46, v13), (47, .int .i64 (x12.1.length : Int)), (48, .int .i64 (k92 : Int)), (68, .bool s140)]) (fun (A145 : (Nat → Prop)) => fun w' => Hp w.heap.size A145 w' (obS (α := Int) 3 v102 s100 :: obS (α := know_Entry) 38 v13 x12.1 :: obS (α := know_Version) 40 v15 x12.2 :: []) ∧ Tr Dw w.heap.size A104 w134 A145 w') ?_ ?_
            · have hr141 : Tr Dw w.heap.size A104 w134 A104 w134 := Tr.refl (Dw := Dw) hA
              refine C_region ?_
              refine V_y (Y_move rfl) rfl rfl rfl ?_
              refine V_y (Y_move rfl) rfl rfl rfl ?_
              refine V_y (Y_move rfl) rfl rfl rfl ?_
              obtain ⟨x147, hx147, ho139⟩ := Option.bind_eq_some_iff.1 ho139
              refine V_indexAddrH (α := know_Version) (e := 40) (v := v15) (l := x12.2) hH (i := 2) rfl hx147 Tryz.underlying32 Tryz.sizeOf40 rfl rfl rfl ?_
              intro b148 o149 h150 hl151
              have h152 := El_know_Version_0 h150
              refine V_y (Y_fieldAddr Tryz.underlying40 rfl Tryz.sizeOf3 (by decide) rfl) rfl rfl rfl ?_
              refine V_y (Y_load (El.int h152) Tryz.isAgg3 rfl) rfl rfl rfl ?_
              refine V_y (Y_subI rfl rfl) rfl rfl rfl ?_
              refine V_y (Y_move rfl) rfl rfl rfl ?_
              refine V_y (Y_gtr rfl rfl) rfl rfl rfl ?_
              refine V_y (Y_move rfl) rfl rfl rfl ?_
              rcases Bool.eq_false_or_eq_true (decide (age < (w64 (m - x147.at_)))) with hc153 | hc153
              · rw [if_pos hc153] at ho139
                refine V_gn rfl rfl rfl hc153 rfl rfl rfl ?_
                refine V_gn rfl rfl rfl hc153 rfl rfl rfl ?_
                refine V_gn rfl rfl rfl hc153 rfl rfl rfl ?_
                refine V_gn rfl rfl rfl hc153 rfl rfl rfl ?_
                refine V_gn rfl rfl rfl hc153 rfl rfl rfl ?_
                refine V_y (Y_pick_te rfl hc153 rfl) rfl rfl rfl ?_
                obtain rfl := Option.some.inj ho139
                refine V_end (fun a ha154 => ?_)
                exact ⟨A104, ha154.sub ⟨rfl, rfl, rfl, rfl, rfl, rfl, rfl, rfl, rfl, rfl, trivial⟩, ⟨hH, hr141⟩⟩
              · rw [if_neg (nt hc153)] at ho139
                refine V_ge rfl rfl rfl hc153 ?_
                have h155 := El_know_Entry_2 h136
                refine V_y (Y_fieldAddr Tryz.underlying38 rfl Tryz.sizeOf9 (by decide) rfl) rfl rfl rfl ?_
                refine V_ge rfl rfl rfl hc153 ?_
                refine V_y (Y_load (El.str h155) Tryz.isAgg9 rfl) rfl rfl rfl ?_
                refine V_ge rfl rfl rfl hc153 ?_
                obtain ⟨x156, hx156, ho139⟩ := Option.bind_eq_some_iff.1 ho139
                refine V_call Tryz.call12 rfl rfl rfl rfl (know_Links_c (Dw := Dw) w134 hA x125.body hx156) ?_
                rintro v157 w159 ⟨_, rfl, h158, hk160⟩
                obtain ⟨A161, ht162, hH163⟩ := Hp.addOwnd (Dw := Dw) hH hB hA hk160 h158
                replace h87 := El.tr (Dw := Dw) h87 ht162
                replace h136 := El.tr (Dw := Dw) h136 ht162
                replace h155 := El.tr (Dw := Dw) h155 ht162
                replace hK := Tr.trans (Dw := Dw) hK ht162
                replace hr91 := Tr.trans (Dw := Dw) hr91 ht162
                replace hr117 := Tr.trans (Dw := Dw) hr117 ht162
                replace hr141 := Tr.trans (Dw := Dw) hr141 ht162
                replace hB := Nat.le_trans hB ht162.ex.size
                replace hA := ht162.new
                replace hH : Hp w.heap.size A161 w159 (obS (α := Int) 3 v157 x156 :: obS (α := Int) 3 v102 s100 :: obS (α := know_Entry) 38 v13 x12.1 :: obS (α := know_Version) 40 v15 x12.2 :: []) := hH163
                refine V_ge rfl rfl rfl hc153 ?_
                refine V_y (Y_makeFunc rfl rfl) rfl rfl rfl ?_
                refine V_ge rfl rfl rfl hc153 ?_
                obtain ⟨x165, hx165, ho139⟩ := Option.bind_eq_some_iff.1 ho139
                refine V_call Tryz.call11 rfl rfl rfl rfl (slices_ContainsFunc_Lint_int_c (Dw := Dw) w159 (A := fun _ => True) (fun _ _ => trivial) x156 v157 (Hp.any (α := Int) (e := 3) (v := v157) (l := x156) hH (i := 0) rfl) (fun y173 => know_Stale_2 y173 (⟨s43⟩ : (Fmap Int Bool))) 13 #[] #[.pointer (some ⟨b34, 0, none⟩)] Tryz.call13 (fun w169 A170 ht171 h172 y166 r167 h168 => (know_Stale_2_c (Dw := Dw) w169 h172 y166 (⟨s43⟩ : (Fmap Int Bool)) b34 (El.tr (Dw := Dw) (El.keep h87 .any) ht171) h168).mono (fun _ _ h => ⟨h.1, h.2⟩)) hx165) ?_
                rintro _ w174 ⟨rfl, hk175⟩
                have ht176 := Kp.tr (Dw := Dw) hk175 hA hB
                replace hH := Hp.kp (Dw := Dw) hH hk175
                replace h87 := El.tr (Dw := Dw) h87 ht176
                replace h136 := El.tr (Dw := Dw) h136 ht176
                replace h155 := El.tr (Dw := Dw) h155 ht176
                replace hK := Tr.trans (Dw := Dw) hK ht176
                replace hr91 := Tr.trans (Dw := Dw) hr91 ht176
                replace hr117 := Tr.trans (Dw := Dw) hr117 ht176
                replace hr141 := Tr.trans (Dw := Dw) hr141 ht176
                replace hB := Nat.le_trans hB ht176.ex.size
                replace hA := ht176.new
                refine V_y (Y_pick_fe rfl hc153 rfl) rfl rfl rfl ?_
                obtain rfl := Option.some.inj ho139
                refine V_end (fun a ha177 => ?_)
                replace hH : Hp w.heap.size A161 w174 (obS (α := know_Version) 40 v15 x12.2 :: obS (α := Int) 3 v157 x156 :: obS (α := Int) 3 v102 s100 :: obS (α := know_Entry) 38 v13 x12.1 :: []) := Hp.front hH (i := 3) rfl
                replace hH : Hp w.heap.size A161 w174 (obS (α := know_Entry) 38 v13 x12.1 :: obS (α := know_Version) 40 v15 x12.2 :: obS (α := Int) 3 v157 x156 :: obS (α := Int) 3 v102 s100 :: []) := Hp.front hH (i := 3) rfl
                replace hH : Hp w.heap.size A161 w174 (obS (α := Int) 3 v102 s100 :: obS (α := know_Entry) 38 v13 x12.1 :: obS (α := know_Version) 40 v15 x12.2 :: obS (α := Int) 3 v157 x156 :: []) := Hp.front hH (i := 3) rfl
                replace hH : Hp w.heap.size A161 w174 (obS (α := Int) 3 v102 s100 :: obS (α := know_Entry) 38 v13 x12.1 :: obS (α := know_Version) 40 v15 x12.2 :: []) := Hp.drop hH (i := 3) rfl
                exact ⟨A161, ha177.sub ⟨rfl, rfl, rfl, rfl, rfl, rfl, rfl, rfl, rfl, rfl, trivial⟩, ⟨hH, hr141⟩⟩
            rintro A145 w142 ⟨hH146, hk143⟩ a ha144
            replace h87 := El.tr (Dw := Dw) h87 hk143
            replace h136 := El.tr (Dw := Dw) h136 hk143
            replace hK := Tr.trans (Dw := Dw) hK hk143
            replace hr91 := Tr.trans (Dw := Dw) hr91 hk143
            replace hr117 := Tr.trans (Dw := Dw) hr117 hk143
            replace hB := Nat.le_trans hB hk143.ex.size
            replace hA := hk143.new
            replace hH : Hp w.heap.size A145 w142 (obS (α := Int) 3 v102 s100 :: obS (α := know_Entry) 38 v13 x12.1 :: obS (α := know_Version) 40 v15 x12.2 :: []) := hH146
            refine C_at (n := ⟨76, [], none⟩) (fun _ _ => rfl) ?_ ha144
            obtain ⟨s179, ho178, ho115⟩ := Option.bind_eq_some_iff.1 ho115
            refine C_cutG (ι := (Value × (Nat → Prop))) (fun ⟨v181, A186⟩ => [(1, .int .i64 m), (2, .int .i64 age), (10, v15), (11, .pointer (some ⟨b34, 0, none⟩)), (14, v181), (46, v13), (47, .int .i64 (x12.1.length : Int)), (48, .int .i64 (k92 : Int))]) (fun ⟨v181, A186⟩ => fun w' => Hp w.heap.size A186 w' (obS (α := Int) 3 v181 s179 :: obS (α := know_Entry) 38 v13 x12.1 :: obS (α := know_Version) 40 v15 x12.2 :: []) ∧ Tr Dw w.heap.size A145 w142 A186 w') ?_ ?_
            · have hr180 : Tr Dw w.heap.size A145 w142 A145 w142 := Tr.refl (Dw := Dw) hA
              refine C_cond rfl (fun hc188 => ?_) (fun hc188 => ?_)
              · rw [if_pos hc188] at ho178
                refine C_region ?_
                refine V_y (Y_move rfl) rfl rfl rfl ?_
                have h189 := El_know_Entry_0 h136
                refine V_y (Y_fieldAddr Tryz.underlying38 rfl Tryz.sizeOf3 (by decide) rfl) rfl rfl rfl ?_
                refine V_y (Y_load (El.int h189) Tryz.isAgg3 rfl) rfl rfl rfl ?_
                refine V_buildSlice (Dw := Dw) (l := ([x125.id_] : List Int)) (len := 1) Tryz.underlying23 Tryz.sizeOf3 Tryz.zeroValue3 rfl (by with_unfolding_all rfl) (show (1 * 1 : Nat) ≠ 0 by decide) (show (1 * 1 : Nat) ≤ 2 ^ 24 by decide) hA ⟨[.int .i64 x125.id_], _, rfl, rfl, rfl⟩ rfl rfl ?_
                intro v190 w191 hk193 h192
                have ht194 := Kp.tr (Dw := Dw) hk193 hA hB
                replace hH := Hp.kp (Dw := Dw) hH hk193
                replace h87 := El.tr (Dw := Dw) h87 ht194
                replace h136 := El.tr (Dw := Dw) h136 ht194
                replace h189 := El.tr (Dw := Dw) h189 ht194
                replace hK := Tr.trans (Dw := Dw) hK ht194
                replace hr91 := Tr.trans (Dw := Dw) hr91 ht194
                replace hr117 := Tr.trans (Dw := Dw) hr117 ht194
                replace hr180 := Tr.trans (Dw := Dw) hr180 ht194
                replace hB := Nat.le_trans hB ht194.ex.size
                replace hA := ht194.new
                obtain ⟨x195, hx195, ho178⟩ := Option.bind_eq_some_iff.1 ho178
                refine V_appendH (Dw := Dw) (e := 3) (v := v102) (l := s100) (ti := Tryz.t3) (bytes := 8) (lim := 17592186044416) hH (i := 0) rfl h192 hx195 Tryz.underlying23 Tryz_info3 rfl rfl rfl rfl (by decide) (by decide) (by decide) hB hA rfl rfl rfl ?_
                intro v196 w197 A198 hH199 ht200
                replace h87 := El.tr (Dw := Dw) h87 ht200
                replace h136 := El.tr (Dw := Dw) h136 ht200
                replace h189 := El.tr (Dw := Dw) h189 ht200
                replace h192 := Sl.tr (Dw := Dw) h192 ht200
                replace hK := Tr.trans (Dw := Dw) hK ht200
                replace hr91 := Tr.trans (Dw := Dw) hr91 ht200
                replace hr117 := Tr.trans (Dw := Dw) hr117 ht200
                replace hr180 := Tr.trans (Dw := Dw) hr180 ht200
                replace hB := Nat.le_trans hB ht200.ex.size
                replace hA := ht200.new
                replace hH : Hp w.heap.size A198 w197 (obS (α := Int) 3 v196 x195 :: obS (α := know_Entry) 38 v13 x12.1 :: obS (α := know_Version) 40 v15 x12.2 :: []) := hH199
                refine V_y (Y_assign rfl) rfl rfl rfl ?_
                obtain rfl := Option.some.inj ho178
                refine V_end (fun a ha201 => ?_)
                exact ⟨(v196, A198), ha201.sub ⟨rfl, rfl, rfl, rfl, rfl, rfl, rfl, rfl, trivial⟩, ⟨hH, hr180⟩⟩
              · rw [if_neg (nt hc188)] at ho178
                obtain rfl := Option.some.inj ho178
                refine C_skip (fun a ha202 => ?_)
                exact ⟨(v102, A145), ha202.sub ⟨rfl, rfl, rfl, rfl, rfl, rfl, rfl, rfl, trivial⟩, ⟨hH, hr180⟩⟩
            rintro ⟨v181, A186⟩ w183 ⟨hH187, hk184⟩ a ha185
            replace h87 := El.tr (Dw := Dw) h87 hk184
            replace hK := Tr.trans (Dw := Dw) hK hk184
            replace hr91 := Tr.trans (Dw := Dw) hr91 hk184
            replace hr117 := Tr.trans (Dw := Dw) hr117 hk184
            replace hB := Nat.le_trans hB hk184.ex.size
            replace hA := hk184.new
            replace hH : Hp w.heap.size A186 w183 (obS (α := Int) 3 v181 s179 :: obS (α := know_Entry) 38 v13 x12.1 :: obS (α := know_Version) 40 v15 x12.2 :: []) := hH187
            obtain rfl := Option.some.inj ho115
            exact ⟨(v181, A186), ha185.sub ⟨rfl, rfl, rfl, rfl, rfl, rfl, rfl, rfl, trivial⟩, ⟨hH, hr117⟩⟩
          rintro ⟨v118, A123⟩ w120 ⟨hH124, hk121⟩ a ha122
          replace h87 := El.tr (Dw := Dw) h87 hk121
          replace hK := Tr.trans (Dw := Dw) hK hk121
          replace hr91 := Tr.trans (Dw := Dw) hr91 hk121
          replace hB := Nat.le_trans hB hk121.ex.size
          replace hA := hk121.new
          replace hH : Hp w.heap.size A123 w120 (obS (α := Int) 3 v118 s116 :: obS (α := know_Entry) 38 v13 x12.1 :: obS (α := know_Version) 40 v15 x12.2 :: []) := hH124
          refine C_at (n := ⟨76, [], none⟩) (fun _ _ => rfl) ?_ ha122
          refine C_region ?_
          refine V_y (Y_addI rfl rfl) rfl rfl rfl ?_
          refine V_y (Y_move rfl) rfl rfl rfl ?_
          obtain rfl := Option.some.inj h107
          refine V_end (fun a ha204 => ?_)
          exact ⟨s116, hlt110, h108, ⟨(v118, A123), ha204.sub ⟨rfl, rfl, rfl, rfl, rfl, rfl, rfl, (congrArg (fun z => some (Value.int .i64 z)) (w64_succ hlt110 hn113)), trivial⟩, ⟨hH, hr91⟩⟩⟩
        · refine C_exit (fun a ha205 => ?_)
          exact ⟨(s100, v102, A104), ha205.sub ⟨rfl, trivial⟩, ⟨(h111 (eq_of_dec hle109 hc114)).symm, hH, hr91⟩⟩
      rintro ⟨s90, v96, A98⟩ w93 ⟨rfl, hH99, hk94⟩ a ha95
      rw [Lp.andThen_fin] at hm
      replace hK := Tr.trans (Dw := Dw) hK hk94
      replace hB := Nat.le_trans hB hk94.ex.size
      replace hA := hk94.new
      replace hH : Hp w.heap.size A98 w93 (obS (α := Int) 3 v96 s90 :: obS (α := know_Entry) 38 v13 x12.1 :: obS (α := know_Version) 40 v15 x12.2 :: []) := hH99
      refine C_at (n := ⟨76, [], none⟩) (fun _ _ => rfl) ?_ ha95
      refine C_seq ?_
      refine C_region ?_
      refine V_y (Y_move rfl) rfl rfl rfl ?_
      refine V_y (Y_assign rfl) rfl rfl rfl ?_
      refine V_y (Y_assign rfl) rfl rfl rfl ?_
      refine V_to (fun _ _ => rfl) ?_
      obtain rfl := Option.some.inj hm
      refine C_ret ?_
      try simp only [↓inBlock_ret, ↓then_ret]
      exact retQ rfl (Res.two Tryz.results4 rfl rfl) ⟨v96, rfl, (Hp.ownd hH (i := 0) rfl), hK.kp⟩

set_option maxRecDepth 4000 in
set_option maxHeartbeats 4000000 in
theorem portref2_IsMoment_c (w : World) (m : Int) : Ret Tryz.prog 15 #[.int .i64 m] w fun v w' => v = .bool (portref2_IsMoment m) ∧ w = w' := by
  generalize hm : portref2_IsMoment m = r
  unfold portref2_IsMoment at hm
  refine enter Tryz.func15 rfl Tryz.ntmps15 rfl ?_
  refine C_seq ?_
  refine C_region ?_
  refine V_y (Y_assign rfl) rfl rfl rfl ?_
  refine V_to (fun _ _ => rfl) ?_
  refine C_seq ?_
  refine C_region ?_
  refine V_y (Y_move rfl) rfl rfl rfl ?_
  refine V_y (Y_geq rfl rfl) rfl rfl rfl ?_
  refine V_y (Y_move rfl) rfl rfl rfl ?_
  refine V_cut 3 (fun _ : Unit => [(8, .bool ((decide ((0 : Int) ≤ m)) && (decide (m ≤ 3000000))))]) (fun _ w' => w = w') ?_ ?_
  · simp only [List.take, List.drop]
    rcases Bool.eq_false_or_eq_true (decide ((0 : Int) ≤ m)) with hc1 | hc1
    · refine V_ge rfl rfl rfl hc1 ?_
      refine V_y (Y_move rfl) rfl rfl rfl ?_
      refine V_ge rfl rfl rfl hc1 ?_
      refine V_y (Y_leq rfl rfl) rfl rfl rfl ?_
      refine V_y (Y_pick_te rfl hc1 rfl) rfl rfl rfl ?_
      exact V_end fun a ha => ⟨(), ha.sub ⟨(by rw [hc1]; rfl), trivial⟩, rfl⟩
    · refine V_gn rfl rfl rfl hc1 rfl rfl rfl ?_
      refine V_gn rfl rfl rfl hc1 rfl rfl rfl ?_
      refine V_y (Y_pick_fe rfl hc1 rfl) rfl rfl rfl ?_
      exact V_end fun a ha => ⟨(), ha.sub ⟨(by rw [hc1]; rfl), trivial⟩, rfl⟩
  simp only [List.take, List.drop]
  rintro _ _ rfl
  refine V_y (Y_assign rfl) rfl rfl rfl ?_
  refine V_to (fun _ _ => rfl) ?_
  obtain rfl := hm
  refine C_ret ?_
  try simp only [↓inBlock_ret, ↓then_ret]
  exact retQ rfl (Res.one Tryz.results15 rfl) ⟨rfl, rfl⟩

set_option maxRecDepth 4000 in
set_option maxHeartbeats 4000000 in
theorem portref2_bodyLines_c (w : World) {A : Nat → Prop} (hA : ∀ b, w.heap.size ≤ b → A b) (hT : Fz Tryz_FR A w) (s : ByteArray) {r : (List ByteArray)} (hm : portref2_bodyLines s = some r) : Ret Tryz.prog 33 #[.string s] w fun v w' => ∃ s0, v = s0 ∧ Sl A w' s0 r ∧ Kp Dw w w' := by
  unfold portref2_bodyLines at hm
  refine enter Tryz.func33 rfl Tryz.ntmps33 rfl ?_
  have hA0 := hA
  have hB := Nat.le_refl w.heap.size
  have hK : Tr Dw w.heap.size A w A w := Tr.refl (Dw := Dw) hA
  have hH : Hp w.heap.size A w [] := Hp.nil
  refine C_seq ?_
  refine C_region ?_
  refine V_y (Y_assign rfl) rfl rfl rfl ?_
  refine V_to (fun _ _ => rfl) ?_
  refine C_seq ?_
  refine C_region ?_
  refine V_y (Y_move rfl) rfl rfl rfl ?_
  obtain ⟨x1, hx1, hm⟩ := Option.bind_eq_some_iff.1 hm
  refine V_call Tryz.call38 rfl rfl rfl rfl (strings_SplitAfter_c (Dw := Dw) w hA (Fz.tr (Dw := Dw) hT hK) s (⟨#[10]⟩ : ByteArray) hx1) ?_
  rintro v2 w4 ⟨_, rfl, h3, hk5⟩
  have ht6 := Kp.tr (Dw := Dw) hk5 hA hB
  replace hH := Hp.kp (Dw := Dw) hH hk5
  replace hK := Tr.trans (Dw := Dw) hK ht6
  replace hB := Nat.le_trans hB ht6.ex.size
  replace hA := ht6.new
  refine V_y (Y_assign rfl) rfl rfl rfl ?_
  refine V_to (fun _ _ => rfl) ?_
  refine C_seq ?_
  refine C_seq ?_
  refine C_region ?_
  refine V_y (Y_move rfl) rfl rfl rfl ?_
  refine V_y (Y_move rfl) rfl rfl rfl ?_
  refine V_y (Y_lenSl h3 rfl Tryz.underlying57 rfl) rfl rfl rfl ?_
  refine V_y (Y_subI rfl rfl) rfl rfl rfl ?_
  obtain ⟨x7, hx7, hm⟩ := Option.bind_eq_some_iff.1 hm
  refine V_indexAddr h3 hx7 Tryz.underlying57 Tryz.sizeOf9 rfl rfl rfl ?_
  intro b8 o9 h10
  refine V_y (Y_load (El.str h10) Tryz.isAgg9 rfl) rfl rfl rfl ?_
  refine V_y (Y_seql rfl rfl) rfl rfl rfl ?_
  refine V_to (fun _ _ => rfl) ?_
  obtain ⟨s12, ho11, hm⟩ := Option.bind_eq_some_iff.1 hm
  refine C_cutG (ι := Value) (fun (v14 : Value) => [(3, v14)]) (fun (v14 : Value) => fun w' => Sl A w' v14 s12 ∧ w4 = w') ?_ ?_
  · refine C_cond rfl (fun hc20 => ?_) (fun hc20 => ?_)
    · rw [if_pos hc20] at ho11
      refine C_region ?_
      refine V_y (Y_move rfl) rfl rfl rfl ?_
      refine V_y (Y_move rfl) rfl rfl rfl ?_
      refine V_y (Y_lenSl h3 rfl Tryz.underlying57 rfl) rfl rfl rfl ?_
      refine V_y (Y_subI rfl rfl) rfl rfl rfl ?_
      obtain ⟨x21, hx21, ho11⟩ := Option.bind_eq_some_iff.1 ho11
      obtain ⟨v22, h23, h23y⟩ := sliceL_val hx21 h3
      refine V_y (Y_sliceLH h23y Tryz.underlying57 Tryz.sizeOf9 rfl rfl) rfl rfl rfl ?_
      refine V_y (Y_assign rfl) rfl rfl rfl ?_
      obtain rfl := Option.some.inj ho11
      refine V_end (fun a ha24 => ?_)
      exact ⟨v22, ha24.sub ⟨rfl, trivial⟩, ⟨h23, rfl⟩⟩
    · rw [if_neg (nt hc20)] at ho11
      obtain rfl := Option.some.inj ho11
      refine C_skip (fun a ha25 => ?_)
      exact ⟨v2, ha25.sub ⟨rfl, trivial⟩, ⟨h3, rfl⟩⟩
  rintro v14 _ ⟨h15, rfl⟩ a ha19
  refine C_at (n := ⟨19, [], none⟩) (fun _ _ => rfl) ?_ ha19
  refine C_seq ?_
  refine C_region ?_
  refine V_y (Y_move rfl) rfl rfl rfl ?_
  refine V_y (Y_assign rfl) rfl rfl rfl ?_
  refine V_to (fun _ _ => rfl) ?_
  obtain rfl := Option.some.inj hm
  refine C_ret ?_
  try simp only [↓inBlock_ret, ↓then_ret]
  exact retQ rfl (Res.one Tryz.results33 rfl) ⟨v14, rfl, (Sl.out (Dw := Dw) h15 hA0 hK), hK.kp⟩

def Tryz_strings_ReplaceAll_lay_ren : Go.Shelf.Ren := ⟨fun | 138 => 67 | 143 => 69 | 154 => 53 | 155 => 35 | 165 => 68 | 166 => 70 | 169 => 72 | 195 => 80 | 197 => 71 | 217 => 91 | 218 => 81 | 219 => 84 | 224 => 93 | 225 => 92 | 240 => 82 | 241 => 83 | 260 => 85 | 266 => 96 | 267 => 94 | 276 => 89 | 277 => 90 | 314 => 97 | n => n, fun | 0 => 0 | 1 => 1 | 2 => 2 | 3 => 3 | 4 => 4 | 5 => 5 | 6 => 6 | 7 => 7 | 8 => 8 | 9 => 9 | 10 => 10 | 11 => 11 | 12 => 12 | 13 => 13 | 14 => 14 | 15 => 15 | 16 => 16 | 17 => 17 | 18 => 18 | 19 => 19 | 20 => 20 | 21 => 21 | 27 => 99 | 28 => 23 | 31 => 57 | 34 => 27 | 35 => 50 | 37 => 85 | 40 => 82 | 41 => 49 | 46 => 62 | 47 => 61 | 51 => 78 | 52 => 77 | 53 => 80 | 54 => 79 | 55 => 120 | 61 => 66 | 65 => 83 | 66 => 64 | 68 => 58 | 69 => 109 | 70 => 100 | 71 => 101 | 72 => 102 | 73 => 103 | 74 => 53 | 75 => 54 | 76 => 55 | 77 => 56 | 80 => 106 | 81 => 151 | 83 => 113 | 84 => 134 | 85 => 86 | 86 => 87 | 103 => 119 | 104 => 63 | 105 => 104 | 106 => 105 | 108 => 112 | 111 => 35 | 112 => 73 | 113 => 91 | 114 => 129 | 119 => 130 | 127 => 121 | 128 => 65 | 131 => 75 | 134 => 60 | 137 => 131 | 138 => 132 | 139 => 133 | 143 => 123 | 144 => 124 | 145 => 125 | 146 => 135 | 150 => 114 | 151 => 136 | 155 => 118 | 164 => 126 | 165 => 127 | 166 => 128 | 167 => 84 | 168 => 88 | 169 => 89 | 170 => 90 | 171 => 137 | 172 => 138 | 173 => 139 | 174 => 140 | 175 => 107 | 176 => 108 | 181 => 68 | 182 => 69 | 183 => 70 | 184 => 71 | 185 => 72 | 186 => 74 | 187 => 76 | 209 => 110 | 210 => 111 | 211 => 141 | 212 => 142 | 213 => 143 | 214 => 122 | 218 => 92 | 219 => 93 | 220 => 94 | 221 => 95 | 222 => 96 | 223 => 97 | 228 => 115 | 229 => 116 | 230 => 117 | 232 => 144 | 233 => 145 | 238 => 146 | 239 => 147 | 240 => 148 | 241 => 149 | 242 => 150 | 243 => 152 | 244 => 153 | 245 => 154 | 246 => 155 | 247 => 156 | 248 => 157 | 249 => 158 | n => n, fun | 1 => 2 | 3 => 3 | 4 => 4 | 15 => 0 | 16 => 1 | 17 => 5 | 18 => 6 | 19 => 7 | n => n⟩
theorem Tryz_strings_ReplaceAll_lay : Go.Proofs.Lays.n155 Tryz.prog Tryz_strings_ReplaceAll_lay_ren := {
  mixed := by kernel_rfl,
  f138 := Tryz.func67.trans (congrArg some (by kernel_rfl)),
  f143 := Tryz.func69.trans (congrArg some (by kernel_rfl)),
  f154 := Tryz.func53.trans (congrArg some (by kernel_rfl)),
  f155 := Tryz.func35.trans (congrArg some (by kernel_rfl)),
  f165 := Tryz.func68.trans (congrArg some (by kernel_rfl)),
  f166 := Tryz.func70.trans (congrArg some (by kernel_rfl)),
  f169 := Tryz.func72.trans (congrArg some (by kernel_rfl)),
  f195 := Tryz.func80.trans (congrArg some (by kernel_rfl)),
  f197 := Tryz.func71.trans (congrArg some (by kernel_rfl)),
  f217 := Tryz.func91.trans (congrArg some (by kernel_rfl)),
  f218 := Tryz.func81.trans (congrArg some (by kernel_rfl)),
  f219 := Tryz.func84.trans (congrArg some (by kernel_rfl)),
  f224 := Tryz.func93.trans (congrArg some (by kernel_rfl)),
  f225 := Tryz.func92.trans (congrArg some (by kernel_rfl)),
  f240 := Tryz.func82.trans (congrArg some (by kernel_rfl)),
  f241 := Tryz.func83.trans (congrArg some (by kernel_rfl)),
  f260 := Tryz.func85.trans (congrArg some (by kernel_rfl)),
  f266 := Tryz.func96.trans (congrArg some (by kernel_rfl)),
  f267 := Tryz.func94.trans (congrArg some (by kernel_rfl)),
  f276 := Tryz.func89.trans (congrArg some (by kernel_rfl)),
  f277 := Tryz.func90.trans (congrArg some (by kernel_rfl)),
  f314 := Tryz.func97.trans (congrArg some (by kernel_rfl)),
  t0 := Tryz.underlying0,
  a0 := Tryz.isAgg0,
  z0 := Tryz.sizeOf0,
  v0 := Tryz.zeroValue0,
  t3 := Tryz.underlying3,
  a3 := Tryz.isAgg3,
  z3 := Tryz.sizeOf3,
  v3 := Tryz.zeroValue3,
  t4 := Tryz.underlying4,
  a4 := Tryz.isAgg4,
  z4 := Tryz.sizeOf4,
  v4 := Tryz.zeroValue4,
  t5 := Tryz.underlying5,
  a5 := Tryz.isAgg5,
  z5 := Tryz.sizeOf5,
  v5 := Tryz.zeroValue5,
  t9 := Tryz.underlying9,
  a9 := Tryz.isAgg9,
  z9 := Tryz.sizeOf9,
  v9 := Tryz.zeroValue9,
  t20 := Tryz.underlying20,
  a20 := Tryz.isAgg20,
  z20 := Tryz.sizeOf20,
  v20 := Tryz.zeroValue20,
  t21 := Tryz.underlying21,
  a21 := Tryz.isAgg21,
  z21 := Tryz.sizeOf21,
  v21 := Tryz.zeroValue21,
  t37 := Tryz.underlying85,
  a37 := Tryz.isAgg85,
  z37 := Tryz.sizeOf85,
  v37 := Tryz.zeroValue85,
  t46 := Tryz.underlying62,
  a46 := Tryz.isAgg62,
  z46 := Tryz.sizeOf62,
  v46 := Tryz.zeroValue62,
  t51 := Tryz.underlying78,
  a51 := Tryz.isAgg78,
  z51 := Tryz.sizeOf78,
  v51 := Tryz.zeroValue78,
  t70 := Tryz.underlying100,
  a70 := Tryz.isAgg100,
  z70 := Tryz.sizeOf100,
  v70 := Tryz.zeroValue100,
  t72 := Tryz.underlying102,
  a72 := Tryz.isAgg102,
  z72 := Tryz.sizeOf102,
  v72 := Tryz.zeroValue102,
  t75 := Tryz.underlying54,
  a75 := Tryz.isAgg54,
  z75 := Tryz.sizeOf54,
  v75 := Tryz.zeroValue54,
  t76 := Tryz.underlying55,
  a76 := Tryz.isAgg55,
  z76 := Tryz.sizeOf55,
  v76 := Tryz.zeroValue55,
  t105 := Tryz.underlying104,
  a105 := Tryz.isAgg104,
  z105 := Tryz.sizeOf104,
  v105 := Tryz.zeroValue104,
  t119 := Tryz.underlying130,
  a119 := Tryz.isAgg130,
  z119 := Tryz.sizeOf130,
  t127 := Tryz.underlying121,
  a127 := Tryz.isAgg121,
  z127 := Tryz.sizeOf121,
  v127 := Tryz.zeroValue121,
  t138 := Tryz.underlying132,
  a138 := Tryz.isAgg132,
  z138 := Tryz.sizeOf132,
  v138 := Tryz.zeroValue132,
  t139 := Tryz.underlying133,
  a139 := Tryz.isAgg133,
  z139 := Tryz.sizeOf133,
  v139 := Tryz.zeroValue133,
  t146 := Tryz.underlying135,
  a146 := Tryz.isAgg135,
  z146 := Tryz.sizeOf135,
  v146 := Tryz.zeroValue135,
  t164 := Tryz.underlying126,
  a164 := Tryz.isAgg126,
  z164 := Tryz.sizeOf126,
  v164 := Tryz.zeroValue126,
  g1 := by kernel_rfl,
  g3 := by kernel_rfl,
  g4 := by kernel_rfl }
theorem Tryz_strings_ReplaceAll_lay_x : Go.Proofs.Builder.Extra Tryz.prog Tryz_strings_ReplaceAll_lay_ren := {
  sizeBuilder := by kernel_rfl
  liesBuilder := by kernel_rfl
  t5 := Tryz.underlying5
  a5 := Tryz.isAgg5
  z5 := Tryz.sizeOf5
  v5 := Tryz.zeroValue5
  infoByte := by kernel_rfl
  cellsByte := by kernel_rfl
  sizeByte := by kernel_rfl
  neB5 := (by decide : (102 : Nat) ≠ 5) }
theorem strings_ReplaceAll_c (w : World) {A : Nat → Prop} (hA : ∀ b, w.heap.size ≤ b → A b) (hT : Mx Tryz.prog 2 A w) (s : ByteArray) (old : ByteArray) (new : ByteArray) {r : ByteArray} (hm : strings_ReplaceAll s old new = some r) : Ret Tryz.prog 35 #[.string s, .string old, .string new] w fun v w' => v = .string r ∧ Kp False w w' := by
  unfold strings_ReplaceAll at hm
  split at hm
  case isFalse => cases hm
  rename_i h
  obtain rfl := Option.some.inj hm
  obtain ⟨⟨m, hmx⟩, _, _⟩ := hT
  refine Calls.mono (Go.Proofs.Any.strings_ReplaceAll Tryz_strings_ReplaceAll_lay Tryz_strings_ReplaceAll_lay_x s old new m w h.1 hmx h.2.1 h.2.2) ?_
  rintro _ w' ⟨rfl, hk⟩
  exact ⟨_, rfl, rfl, .of hk⟩

set_option maxRecDepth 4000 in
set_option maxHeartbeats 4000000 in
theorem portref2_lowByte_1_c (w : World) (r_ : Int) : Ret Tryz.prog 52 #[.int .i32 r_] w fun v w' => v = .bool (portref2_lowByte_1 r_) ∧ w = w' := by
  generalize hm : portref2_lowByte_1 r_ = r
  unfold portref2_lowByte_1 at hm
  refine enter Tryz.func52 rfl Tryz.ntmps52 rfl ?_
  refine C_seq ?_
  refine C_region ?_
  refine V_y (Y_assign rfl) rfl rfl rfl ?_
  refine V_to (fun _ _ => rfl) ?_
  refine C_seq ?_
  refine C_region ?_
  refine V_y (Y_move rfl) rfl rfl rfl ?_
  refine V_y (Y_lss rfl rfl) rfl rfl rfl ?_
  refine V_y (Y_move rfl) rfl rfl rfl ?_
  refine V_cut 3 (fun _ : Unit => [(8, .bool ((decide (r_ < 32)) || (r_ == 127)))]) (fun _ w' => w = w') ?_ ?_
  · simp only [List.take, List.drop]
    rcases Bool.eq_false_or_eq_true (decide (r_ < 32)) with hc1 | hc1
    · refine V_gn rfl rfl rfl hc1 rfl rfl rfl ?_
      refine V_gn rfl rfl rfl hc1 rfl rfl rfl ?_
      refine V_y (Y_pick_te rfl hc1 rfl) rfl rfl rfl ?_
      exact V_end fun a ha => ⟨(), ha.sub ⟨(by rw [hc1]; rfl), trivial⟩, rfl⟩
    · refine V_ge rfl rfl rfl hc1 ?_
      refine V_y (Y_move rfl) rfl rfl rfl ?_
      refine V_ge rfl rfl rfl hc1 ?_
      refine V_y (Y_eql rfl rfl) rfl rfl rfl ?_
      refine V_y (Y_pick_fe rfl hc1 rfl) rfl rfl rfl ?_
      exact V_end fun a ha => ⟨(), ha.sub ⟨(by rw [hc1]; rfl), trivial⟩, rfl⟩
  simp only [List.take, List.drop]
  rintro _ _ rfl
  refine V_y (Y_assign rfl) rfl rfl rfl ?_
  refine V_to (fun _ _ => rfl) ?_
  obtain rfl := hm
  refine C_ret ?_
  try simp only [↓inBlock_ret, ↓then_ret]
  exact retQ rfl (Res.one Tryz.results52 rfl) ⟨rfl, rfl⟩

set_option maxRecDepth 4000 in
set_option maxHeartbeats 4000000 in
theorem portref2_lowByte_c (w : World) {A : Nat → Prop} (hA : ∀ b, w.heap.size ≤ b → A b) (s : ByteArray) {r : Bool} (hm : portref2_lowByte s = some r) : Ret Tryz.prog 34 #[.string s] w fun v w' => v = .bool r ∧ Kp False w w' := by
  unfold portref2_lowByte at hm
  refine enter Tryz.func34 rfl Tryz.ntmps34 rfl ?_
  have hA0 := hA
  have hB := Nat.le_refl w.heap.size
  have hK : Tr False w.heap.size A w A w := Tr.refl (Dw := False) hA
  have hH : Hp w.heap.size A w [] := Hp.nil
  refine C_seq ?_
  refine C_region ?_
  refine V_y (Y_assign rfl) rfl rfl rfl ?_
  refine V_to (fun _ _ => rfl) ?_
  refine C_seq ?_
  refine C_region ?_
  refine V_y (Y_move rfl) rfl rfl rfl ?_
  refine V_call Tryz.call51 rfl rfl rfl rfl (contains_wrap (Go.Proofs.Any.strings_ContainsFunc_grows Tryz_contains_lay 52 #[] (fun args w => Tryz.call52 args w) (fun y => portref2_lowByte_1 (y : Int)) s w (fun W x _ _ => Calls.mono (portref2_lowByte_1_c W (x : Int)) fun _ _ h => contains_fn h))) ?_
  rintro _ w1 ⟨rfl, hk2⟩
  have ht3 := Kp.tr (Dw := False) hk2 hA hB
  replace hH := Hp.kp (Dw := False) hH hk2
  replace hK := Tr.trans (Dw := False) hK ht3
  replace hB := Nat.le_trans hB ht3.ex.size
  replace hA := ht3.new
  refine V_y (Y_assign rfl) rfl rfl rfl ?_
  refine V_to (fun _ _ => rfl) ?_
  obtain rfl := Option.some.inj hm
  refine C_ret ?_
  try simp only [↓inBlock_ret, ↓then_ret]
  exact retQ rfl (Res.one Tryz.results34 rfl) ⟨rfl, hK.kp⟩

set_option maxRecDepth 4000 in
set_option maxHeartbeats 4000000 in
theorem portref2_versionFault_c (w : World) {A : Nat → Prop} (hA : ∀ b, w.heap.size ≤ b → A b) (hT : Fz Tryz_FR A w) (v : know_Version) {r : Int} (hm : portref2_versionFault v = some r) : Ret Tryz.prog 25 #[.agg #[.int .i64 v.at_, .string v.title, .string v.body]] w fun v w' => v = .int .i64 r ∧ Kp False w w' := by
  unfold portref2_versionFault at hm
  refine enter Tryz.func25 rfl Tryz.ntmps25 rfl ?_
  have hA0 := hA
  have hB := Nat.le_refl w.heap.size
  have hK : Tr False w.heap.size A w A w := Tr.refl (Dw := False) hA
  have hH : Hp w.heap.size A w [] := Hp.nil
  refine C_seq ?_
  refine C_region ?_
  refine V_box rfl rfl ?_
  intro b1 w2 h3
  have hk5 := h3.kp (Dw := False)
  have h4 : El (α := know_Version) A w2 b1 0 v := h3.el hA ⟨[.int .i64 v.at_], _, rfl, rfl, ⟨[.string v.title], _, rfl, rfl, rfl⟩⟩
  have ht6 := Kp.tr (Dw := False) hk5 hA hB
  replace hH := Hp.kp (Dw := False) hH hk5
  replace hK := Tr.trans (Dw := False) hK ht6
  replace hB := Nat.le_trans hB ht6.ex.size
  replace hA := ht6.new
  refine V_y (Y_assign rfl) rfl rfl rfl ?_
  refine V_to (fun _ _ => rfl) ?_
  refine C_seq ?_
  refine C_block ?_
  refine C_seq ?_
  obtain ⟨s8, ho7, hm⟩ := Option.bind_eq_some_iff.1 hm
  refine C_cutG (ι := (Nat → Prop)) (fun (A13 : (Nat → Prop)) => [(1, .pointer (some ⟨b1, 0, none⟩)), (3, .bool s8)]) (fun (A13 : (Nat → Prop)) => fun w' => Hp w.heap.size A13 w' ([]) ∧ Tr False w.heap.size A w2 A13 w') ?_ ?_
  · have hr9 : Tr False w.heap.size A w2 A w2 := Tr.refl (Dw := False) hA
    refine C_region ?_
    have h15 := El_know_Version_1 h4
    refine V_y (Y_fieldAddr Tryz.underlying40 rfl Tryz.sizeOf9 (by decide) rfl) rfl rfl rfl ?_
    refine V_y (Y_load (El.str h15) Tryz.isAgg9 rfl) rfl rfl rfl ?_
    refine V_y (Y_lenStr rfl Tryz.underlying9 rfl) rfl rfl rfl ?_
    refine V_y (Y_gtr rfl rfl) rfl rfl rfl ?_
    refine V_y (Y_move rfl) rfl rfl rfl ?_
    rcases Bool.eq_false_or_eq_true (decide ((200 : Int) < (v.title.size : Int))) with hc16 | hc16
    · rw [if_pos hc16] at ho7
      refine V_gn rfl rfl rfl hc16 rfl rfl rfl ?_
      refine V_gn rfl rfl rfl hc16 rfl rfl rfl ?_
      refine V_gn rfl rfl rfl hc16 rfl rfl rfl ?_
      refine V_gn rfl rfl rfl hc16 rfl rfl rfl ?_
      refine V_y (Y_pick_te rfl hc16 rfl) rfl rfl rfl ?_
      refine V_y (Y_move rfl) rfl rfl rfl ?_
      rcases Bool.eq_false_or_eq_true (true) with hc17 | hc17
      · rw [if_pos hc17] at ho7
        refine V_gn rfl rfl rfl hc17 rfl rfl rfl ?_
        refine V_gn rfl rfl rfl hc17 rfl rfl rfl ?_
        refine V_gn rfl rfl rfl hc17 rfl rfl rfl ?_
        refine V_gn rfl rfl rfl hc17 rfl rfl rfl ?_
        refine V_gn rfl rfl rfl hc17 rfl rfl rfl ?_
        refine V_y (Y_pick_te rfl hc17 rfl) rfl rfl rfl ?_
        refine V_y (Y_assign rfl) rfl rfl rfl ?_
        obtain rfl := Option.some.inj ho7
        refine V_end (fun a ha18 => ?_)
        exact ⟨A, ha18.sub ⟨rfl, rfl, trivial⟩, ⟨hH, hr9⟩⟩
      · rw [if_neg (nt hc17)] at ho7
        refine V_ge rfl rfl rfl hc17 ?_
        have h19 := El_know_Version_2 h4
        refine V_y (Y_fieldAddr Tryz.underlying40 rfl Tryz.sizeOf9 (by decide) rfl) rfl rfl rfl ?_
        refine V_ge rfl rfl rfl hc17 ?_
        refine V_y (Y_load (El.str h19) Tryz.isAgg9 rfl) rfl rfl rfl ?_
        refine V_ge rfl rfl rfl hc17 ?_
        obtain ⟨x20, hx20, ho7⟩ := Option.bind_eq_some_iff.1 ho7
        refine V_call Tryz.call33 rfl rfl rfl rfl (portref2_bodyLines_c (Dw := False) w2 hA (Fz.tr (Dw := False) hT hK) v.body hx20) ?_
        rintro v21 w23 ⟨_, rfl, h22, hk24⟩
        have ht25 := Kp.tr (Dw := False) hk24 hA hB
        replace hH := Hp.kp (Dw := False) hH hk24
        replace h4 := El.tr (Dw := False) h4 ht25
        replace h15 := El.tr (Dw := False) h15 ht25
        replace h19 := El.tr (Dw := False) h19 ht25
        replace hK := Tr.trans (Dw := False) hK ht25
        replace hr9 := Tr.trans (Dw := False) hr9 ht25
        replace hB := Nat.le_trans hB ht25.ex.size
        replace hA := ht25.new
        refine V_ge rfl rfl rfl hc17 ?_
        refine V_y (Y_lenSl h22 rfl Tryz.underlying57 rfl) rfl rfl rfl ?_
        refine V_ge rfl rfl rfl hc17 ?_
        refine V_y (Y_gtr rfl rfl) rfl rfl rfl ?_
        refine V_y (Y_pick_fe rfl hc17 rfl) rfl rfl rfl ?_
        refine V_y (Y_assign rfl) rfl rfl rfl ?_
        obtain rfl := Option.some.inj ho7
        refine V_end (fun a ha26 => ?_)
        exact ⟨A, ha26.sub ⟨rfl, rfl, trivial⟩, ⟨hH, hr9⟩⟩
    · rw [if_neg (nt hc16)] at ho7
      refine V_ge rfl rfl rfl hc16 ?_
      have h27 := El_know_Version_2 h4
      refine V_y (Y_fieldAddr Tryz.underlying40 rfl Tryz.sizeOf9 (by decide) rfl) rfl rfl rfl ?_
      refine V_ge rfl rfl rfl hc16 ?_
      refine V_y (Y_load (El.str h27) Tryz.isAgg9 rfl) rfl rfl rfl ?_
      refine V_ge rfl rfl rfl hc16 ?_
      refine V_y (Y_lenStr rfl Tryz.underlying9 rfl) rfl rfl rfl ?_
      refine V_ge rfl rfl rfl hc16 ?_
      refine V_y (Y_gtr rfl rfl) rfl rfl rfl ?_
      refine V_y (Y_pick_fe rfl hc16 rfl) rfl rfl rfl ?_
      refine V_y (Y_move rfl) rfl rfl rfl ?_
      rcases Bool.eq_false_or_eq_true (decide ((20000 : Int) < (v.body.size : Int))) with hc28 | hc28
      · rw [if_pos hc28] at ho7
        refine V_gn rfl rfl rfl hc28 rfl rfl rfl ?_
        refine V_gn rfl rfl rfl hc28 rfl rfl rfl ?_
        refine V_gn rfl rfl rfl hc28 rfl rfl rfl ?_
        refine V_gn rfl rfl rfl hc28 rfl rfl rfl ?_
        refine V_gn rfl rfl rfl hc28 rfl rfl rfl ?_
        refine V_y (Y_pick_te rfl hc28 rfl) rfl rfl rfl ?_
        refine V_y (Y_assign rfl) rfl rfl rfl ?_
        obtain rfl := Option.some.inj ho7
        refine V_end (fun a ha29 => ?_)
        exact ⟨A, ha29.sub ⟨rfl, rfl, trivial⟩, ⟨hH, hr9⟩⟩
      · rw [if_neg (nt hc28)] at ho7
        refine V_ge rfl rfl rfl hc28 ?_
        have h30 := El_know_Version_2 h4
        refine V_y (Y_fieldAddr Tryz.underlying40 rfl Tryz.sizeOf9 (by decide) rfl) rfl rfl rfl ?_
        refine V_ge rfl rfl rfl hc28 ?_
        refine V_y (Y_load (El.str h30) Tryz.isAgg9 rfl) rfl rfl rfl ?_
        refine V_ge rfl rfl rfl hc28 ?_
        obtain ⟨x31, hx31, ho7⟩ := Option.bind_eq_some_iff.1 ho7
        refine V_call Tryz.call33 rfl rfl rfl rfl (portref2_bodyLines_c (Dw := False) w2 hA (Fz.tr (Dw := False) hT hK) v.body hx31) ?_
        rintro v32 w34 ⟨_, rfl, h33, hk35⟩
        have ht36 := Kp.tr (Dw := False) hk35 hA hB
        replace hH := Hp.kp (Dw := False) hH hk35
        replace h4 := El.tr (Dw := False) h4 ht36
        replace h15 := El.tr (Dw := False) h15 ht36
        replace h27 := El.tr (Dw := False) h27 ht36
        replace h30 := El.tr (Dw := False) h30 ht36
        replace hK := Tr.trans (Dw := False) hK ht36
        replace hr9 := Tr.trans (Dw := False) hr9 ht36
        replace hB := Nat.le_trans hB ht36.ex.size
        replace hA := ht36.new
        refine V_ge rfl rfl rfl hc28 ?_
        refine V_y (Y_lenSl h33 rfl Tryz.underlying57 rfl) rfl rfl rfl ?_
        refine V_ge rfl rfl rfl hc28 ?_
        refine V_y (Y_gtr rfl rfl) rfl rfl rfl ?_
        refine V_y (Y_pick_fe rfl hc28 rfl) rfl rfl rfl ?_
        refine V_y (Y_assign rfl) rfl rfl rfl ?_
        obtain rfl := Option.some.inj ho7
        refine V_end (fun a ha37 => ?_)
        exact ⟨A, ha37.sub ⟨rfl, rfl, trivial⟩, ⟨hH, hr9⟩⟩
  rintro A13 w10 ⟨hH14, hk11⟩ a ha12
  replace h4 := El.tr (Dw := False) h4 hk11
  replace hK := Tr.trans (Dw := False) hK hk11
  replace hB := Nat.le_trans hB hk11.ex.size
  replace hA := hk11.new
  replace hH : Hp w.heap.size A13 w10 ([]) := hH14
  refine C_at (n := ⟨40, [], none⟩) (fun _ _ => rfl) ?_ ha12
  refine C_cond rfl (fun hc38 => ?_) (fun hc38 => ?_)
  · rw [if_pos hc38] at hm
    refine C_seq ?_
    refine C_region ?_
    refine V_y (Y_assign rfl) rfl rfl rfl ?_
    refine V_to (fun _ _ => rfl) ?_
    obtain rfl := Option.some.inj hm
    refine C_ret ?_
    try simp only [↓inBlock_ret, ↓then_ret]
    exact retQ rfl (Res.one Tryz.results25 rfl) ⟨rfl, hK.kp⟩
  · rw [if_neg (nt hc38)] at hm
    refine C_seq ?_
    obtain ⟨s40, ho39, hm⟩ := Option.bind_eq_some_iff.1 hm
    refine C_cutG (ι := (Nat → Prop)) (fun (A45 : (Nat → Prop)) => [(1, .pointer (some ⟨b1, 0, none⟩)), (21, .bool s40)]) (fun (A45 : (Nat → Prop)) => fun w' => Hp w.heap.size A45 w' ([]) ∧ Tr False w.heap.size A13 w10 A45 w') ?_ ?_
    · have hr41 : Tr False w.heap.size A13 w10 A13 w10 := Tr.refl (Dw := False) hA
      refine C_region ?_
      have h47 := El_know_Version_1 h4
      refine V_y (Y_fieldAddr Tryz.underlying40 rfl Tryz.sizeOf9 (by decide) rfl) rfl rfl rfl ?_
      refine V_y (Y_load (El.str h47) Tryz.isAgg9 rfl) rfl rfl rfl ?_
      obtain ⟨x48, hx48, ho39⟩ := Option.bind_eq_some_iff.1 ho39
      refine V_call Tryz.call34 rfl rfl rfl rfl (portref2_lowByte_c w10 hA v.title hx48) ?_
      rintro _ w49 ⟨rfl, hk50⟩
      have ht51 := Kp.tr (Dw := False) hk50 hA hB
      replace hH := Hp.kp (Dw := False) hH hk50
      replace h4 := El.tr (Dw := False) h4 ht51
      replace h47 := El.tr (Dw := False) h47 ht51
      replace hK := Tr.trans (Dw := False) hK ht51
      replace hr41 := Tr.trans (Dw := False) hr41 ht51
      replace hB := Nat.le_trans hB ht51.ex.size
      replace hA := ht51.new
      refine V_y (Y_move rfl) rfl rfl rfl ?_
      rcases Bool.eq_false_or_eq_true (x48) with hc52 | hc52
      · rw [if_pos hc52] at ho39
        refine V_gn rfl rfl rfl hc52 rfl rfl rfl ?_
        refine V_gn rfl rfl rfl hc52 rfl rfl rfl ?_
        refine V_gn rfl rfl rfl hc52 rfl rfl rfl ?_
        refine V_gn rfl rfl rfl hc52 rfl rfl rfl ?_
        refine V_y (Y_pick_te rfl hc52 rfl) rfl rfl rfl ?_
        refine V_y (Y_assign rfl) rfl rfl rfl ?_
        obtain rfl := Option.some.inj ho39
        refine V_end (fun a ha53 => ?_)
        exact ⟨A13, ha53.sub ⟨rfl, rfl, trivial⟩, ⟨hH, hr41⟩⟩
      · rw [if_neg (nt hc52)] at ho39
        refine V_ge rfl rfl rfl hc52 ?_
        have h54 := El_know_Version_2 h4
        refine V_y (Y_fieldAddr Tryz.underlying40 rfl Tryz.sizeOf9 (by decide) rfl) rfl rfl rfl ?_
        refine V_ge rfl rfl rfl hc52 ?_
        refine V_y (Y_load (El.str h54) Tryz.isAgg9 rfl) rfl rfl rfl ?_
        refine V_ge rfl rfl rfl hc52 ?_
        obtain ⟨x55, hx55, ho39⟩ := Option.bind_eq_some_iff.1 ho39
        refine V_call Tryz.call35 rfl rfl rfl rfl (strings_ReplaceAll_c w49 hA ((Fz.tr (Dw := False) hT hK)).1 v.body (⟨#[10]⟩ : ByteArray) (⟨#[]⟩ : ByteArray) hx55) ?_
        rintro _ w56 ⟨rfl, hk57⟩
        have ht58 := Kp.tr (Dw := False) hk57 hA hB
        replace hH := Hp.kp (Dw := False) hH hk57
        replace h4 := El.tr (Dw := False) h4 ht58
        replace h47 := El.tr (Dw := False) h47 ht58
        replace h54 := El.tr (Dw := False) h54 ht58
        replace hK := Tr.trans (Dw := False) hK ht58
        replace hr41 := Tr.trans (Dw := False) hr41 ht58
        replace hB := Nat.le_trans hB ht58.ex.size
        replace hA := ht58.new
        refine V_ge rfl rfl rfl hc52 ?_
        obtain ⟨x59, hx59, ho39⟩ := Option.bind_eq_some_iff.1 ho39
        refine V_call Tryz.call34 rfl rfl rfl rfl (portref2_lowByte_c w56 hA x55 hx59) ?_
        rintro _ w60 ⟨rfl, hk61⟩
        have ht62 := Kp.tr (Dw := False) hk61 hA hB
        replace hH := Hp.kp (Dw := False) hH hk61
        replace h4 := El.tr (Dw := False) h4 ht62
        replace h47 := El.tr (Dw := False) h47 ht62
        replace h54 := El.tr (Dw := False) h54 ht62
        replace hK := Tr.trans (Dw := False) hK ht62
        replace hr41 := Tr.trans (Dw := False) hr41 ht62
        replace hB := Nat.le_trans hB ht62.ex.size
        replace hA := ht62.new
        refine V_y (Y_pick_fe rfl hc52 rfl) rfl rfl rfl ?_
        refine V_y (Y_assign rfl) rfl rfl rfl ?_
        obtain rfl := Option.some.inj ho39
        refine V_end (fun a ha63 => ?_)
        exact ⟨A13, ha63.sub ⟨rfl, rfl, trivial⟩, ⟨hH, hr41⟩⟩
    rintro A45 w42 ⟨hH46, hk43⟩ a ha44
    replace h4 := El.tr (Dw := False) h4 hk43
    replace hK := Tr.trans (Dw := False) hK hk43
    replace hB := Nat.le_trans hB hk43.ex.size
    replace hA := hk43.new
    replace hH : Hp w.heap.size A45 w42 ([]) := hH46
    refine C_at (n := ⟨40, [], none⟩) (fun _ _ => rfl) ?_ ha44
    refine C_cond rfl (fun hc64 => ?_) (fun hc64 => ?_)
    · rw [if_pos hc64] at hm
      refine C_seq ?_
      refine C_region ?_
      refine V_y (Y_assign rfl) rfl rfl rfl ?_
      refine V_to (fun _ _ => rfl) ?_
      obtain rfl := Option.some.inj hm
      refine C_ret ?_
      try simp only [↓inBlock_ret, ↓then_ret]
      exact retQ rfl (Res.one Tryz.results25 rfl) ⟨rfl, hK.kp⟩
    · rw [if_neg (nt hc64)] at hm
      refine C_seq ?_
      refine C_region ?_
      have h65 := El_know_Version_1 h4
      refine V_y (Y_fieldAddr Tryz.underlying40 rfl Tryz.sizeOf9 (by decide) rfl) rfl rfl rfl ?_
      refine V_y (Y_load (El.str h65) Tryz.isAgg9 rfl) rfl rfl rfl ?_
      refine V_y (Y_seql rfl rfl) rfl rfl rfl ?_
      refine V_y (Y_move rfl) rfl rfl rfl ?_
      refine V_cut 4 (fun _ : Unit => [(39, .bool ((strEq v.title (⟨#[]⟩ : ByteArray)) && (!(strEq v.body (⟨#[]⟩ : ByteArray)))))]) (fun _ w' => w42 = w') ?_ ?_
      · simp only [List.take, List.drop]
        rcases Bool.eq_false_or_eq_true (strEq v.title (⟨#[]⟩ : ByteArray)) with hc66 | hc66
        · refine V_ge rfl rfl rfl hc66 ?_
          have h68 := El_know_Version_2 h4
          refine V_y (Y_fieldAddr Tryz.underlying40 rfl Tryz.sizeOf9 (by decide) rfl) rfl rfl rfl ?_
          refine V_ge rfl rfl rfl hc66 ?_
          refine V_y (Y_load (El.str h68) Tryz.isAgg9 rfl) rfl rfl rfl ?_
          refine V_ge rfl rfl rfl hc66 ?_
          refine V_y (Y_sneq rfl rfl) rfl rfl rfl ?_
          refine V_y (Y_pick_te rfl hc66 rfl) rfl rfl rfl ?_
          exact V_end fun a ha => ⟨(), ha.sub ⟨(by rw [hc66]; rfl), trivial⟩, rfl⟩
        · refine V_gn rfl rfl rfl hc66 rfl rfl rfl ?_
          refine V_gn rfl rfl rfl hc66 rfl rfl rfl ?_
          refine V_gn rfl rfl rfl hc66 rfl rfl rfl ?_
          refine V_y (Y_pick_fe rfl hc66 rfl) rfl rfl rfl ?_
          exact V_end fun a ha => ⟨(), ha.sub ⟨(by rw [hc66]; rfl), trivial⟩, rfl⟩
      simp only [List.take, List.drop]
      rintro _ _ rfl
      refine V_y (Y_assign rfl) rfl rfl rfl ?_
      refine V_to (fun _ _ => rfl) ?_
      refine C_cond rfl (fun hc69 => ?_) (fun hc69 => ?_)
      · rw [if_pos hc69] at hm
        refine C_seq ?_
        refine C_region ?_
        refine V_y (Y_assign rfl) rfl rfl rfl ?_
        refine V_to (fun _ _ => rfl) ?_
        obtain rfl := Option.some.inj hm
        refine C_ret ?_
        try simp only [↓inBlock_ret, ↓then_ret]
        exact retQ rfl (Res.one Tryz.results25 rfl) ⟨rfl, hK.kp⟩
      · rw [if_neg (nt hc69)] at hm
        refine C_skip_to (fun _ _ => rfl) ?_
        refine C_seq ?_
        refine C_region ?_
        refine V_y (Y_assign rfl) rfl rfl rfl ?_
        refine V_to (fun _ _ => rfl) ?_
        obtain rfl := Option.some.inj hm
        refine C_ret ?_
        try simp only [↓inBlock_ret, ↓then_ret]
        exact retQ rfl (Res.one Tryz.results25 rfl) ⟨rfl, hK.kp⟩

set_option maxRecDepth 4000 in
set_option maxHeartbeats 4000000 in
theorem portref2_ArticlesFault_c (w : World) {A : Nat → Prop} (hA : ∀ b, w.heap.size ≤ b → A b) (hT : Fz Tryz_FR A w) (l : (List know_Article)) (v_l : Value) (h_l : Sl A w v_l l) {r : Int} (hm : portref2_ArticlesFault l = some r) : Ret Tryz.prog 14 #[v_l] w fun v w' => v = .int .i64 r ∧ Kp False w w' := by
  unfold portref2_ArticlesFault at hm
  refine enter Tryz.func14 rfl Tryz.ntmps14 rfl ?_
  have hA0 := hA
  have hB := Nat.le_refl w.heap.size
  have hK : Tr False w.heap.size A w A w := Tr.refl (Dw := False) hA
  have hH : Hp w.heap.size A w [] := Hp.nil
  refine C_seq ?_
  refine C_region ?_
  refine V_y (Y_assign rfl) rfl rfl rfl ?_
  refine V_to (fun _ _ => rfl) ?_
  refine C_seq ?_
  refine C_seq ?_
  refine C_region ?_
  refine V_y (Y_move rfl) rfl rfl rfl ?_
  refine V_y (Y_lenSl h_l rfl Tryz.underlying22 rfl) rfl rfl rfl ?_
  refine V_y (Y_gtr rfl rfl) rfl rfl rfl ?_
  refine V_to (fun _ _ => rfl) ?_
  refine C_cond rfl (fun hc3 => ?_) (fun hc3 => ?_)
  · rw [if_pos hc3] at hm
    refine C_seq ?_
    refine C_region ?_
    refine V_y (Y_assign rfl) rfl rfl rfl ?_
    refine V_to (fun _ _ => rfl) ?_
    obtain rfl := Option.some.inj hm
    refine C_ret ?_
    try simp only [↓inBlock_ret, ↓then_ret]
    exact retQ rfl (Res.one Tryz.results14 rfl) ⟨rfl, hK.kp⟩
  · rw [if_neg (nt hc3)] at hm
    refine C_skip_to (fun _ _ => rfl) ?_
    refine C_seq ?_
    refine C_seq ?_
    refine C_region ?_
    refine V_y (Y_move rfl) rfl rfl rfl ?_
    refine V_y (Y_lenSl h_l rfl Tryz.underlying22 rfl) rfl rfl rfl ?_
    refine V_y (Y_move rfl) rfl rfl rfl ?_
    refine V_to (fun _ _ => rfl) ?_
    have hn25 := Sl.le h_l
    obtain ⟨o4, ho4, hm⟩ := Option.bind_eq_some_iff.1 hm
    refine C_cutG (ι := (Unit × (Nat → Prop))) (fun ⟨s5, A12⟩ => []) (fun ⟨s5, A12⟩ => fun w' => o4 = .fin s5 ∧ Hp w.heap.size A12 w' ([]) ∧ Tr False w.heap.size A w A12 w') ?_ ?_
    · refine C_block ?_
      refine C_range ho4 (fun k7 _ a w' => ∃ i : (Nat → Prop), Has ⟨94, [], none⟩ a ([(0, v_l), (11, v_l), (12, .int .i64 (l.length : Int)), (13, .int .i64 (k7 : Int))]) ∧ Hp w.heap.size i w' ([]) ∧ Tr False w.heap.size A w i w') (fun a ha => ⟨A, ha.sub ⟨rfl, rfl, rfl, rfl, trivial⟩, ⟨hH, Tr.refl (Dw := False) hA⟩⟩) ?_
      rintro K k7 _ a w15 ⟨A16, ha155, hH17, hr6⟩ hle21 K24 h23
      refine C_of ?_ ha155
      replace h_l := Sl.tr (Dw := False) h_l hr6
      replace hK := Tr.trans (Dw := False) hK hr6
      replace hB := Nat.le_trans hB hr6.ex.size
      replace hA := hr6.new
      replace hH : Hp w.heap.size A16 w15 ([]) := hH17
      refine C_seq (C_region (V_y (Y_lss rfl rfl) rfl rfl rfl (V_to (fun _ _ => rfl) ?_)))
      refine C_seq ?_
      refine C_cond rfl (fun hc26 => ?_) (fun hc26 => ?_)
      · have hlt22 := lt_of_dec hc26
        obtain ⟨x18, h19, h20⟩ := K24 hlt22
        refine C_skip_to (fun _ _ => rfl) ?_
        refine C_seq ?_
        obtain ⟨o27, ho27, h19⟩ := Option.bind_eq_some_iff.1 h19
        refine C_cutG (ι := (Unit × (Nat → Prop))) (fun ⟨s28, A33⟩ => [(0, v_l), (11, v_l), (12, .int .i64 (l.length : Int)), (13, .int .i64 (k7 : Int))]) (fun ⟨s28, A33⟩ => fun w' => o27 = .fin s28 ∧ Hp w.heap.size A33 w' ([]) ∧ Tr False w.heap.size A16 w15 A33 w') ?_ ?_
        · have hr29 : Tr False w.heap.size A16 w15 A16 w15 := Tr.refl (Dw := False) hA
          refine C_block ?_
          refine C_seq ?_
          refine C_region ?_
          refine V_y (Y_move rfl) rfl rfl rfl ?_
          obtain ⟨x35, hx35, ho27⟩ := Option.bind_eq_some_iff.1 ho27
          refine V_indexAddr h_l hx35 Tryz.underlying22 Tryz.sizeOf44 rfl rfl rfl ?_
          intro b36 o37 h38
          obtain ⟨v39, h41, h40⟩ := El_know_Article h38
          refine V_y (Y_loadA h41 Tryz.isAgg44 Tryz.sizeOf44 rfl) rfl rfl rfl ?_
          refine V_alloc Tryz.zeroValue44 rfl ?_
          intro b42 w43 h44
          refine V_y (Y_assign rfl) rfl rfl rfl ?_
          have h49 : (v39).oneCell' = true := by obtain ⟨_, _, e, _⟩ := Sl.form h40; rw [e]; rfl
          refine V_storeNew h44 Tryz.sizeOf44 rfl rfl rfl rfl (by exact (List.forall_mem_cons.2 ⟨rfl, (List.forall_mem_cons.2 ⟨rfl, (List.forall_mem_cons.2 ⟨h49, (fun _ h => nomatch h)⟩)⟩)⟩)) ?_
          intro w45 h46
          have hk51 := h46.kp (Dw := False)
          have h50 : El (α := know_Article) A16 w45 b42 0 x35 := h46.el hA ⟨[.int .i64 x35.id_], _, rfl, rfl, ⟨[.int .i64 x35.group], _, rfl, rfl, ⟨_, rfl, h40⟩⟩⟩
          have ht52 := Kp.tr (Dw := False) hk51 hA hB
          replace hH := Hp.kp (Dw := False) hH hk51
          replace h_l := Sl.tr (Dw := False) h_l ht52
          replace h38 := El.tr (Dw := False) h38 ht52
          replace h40 := Sl.tr (Dw := False) h40 ht52
          replace hK := Tr.trans (Dw := False) hK ht52
          replace hr6 := Tr.trans (Dw := False) hr6 ht52
          replace hr29 := Tr.trans (Dw := False) hr29 ht52
          replace hB := Nat.le_trans hB ht52.ex.size
          replace hA := ht52.new
          refine V_to (fun _ _ => rfl) ?_
          refine C_seq ?_
          refine C_block ?_
          refine C_seq ?_
          refine C_region ?_
          have h53 := El_know_Article_0 h50
          refine V_y (Y_fieldAddr Tryz.underlying44 rfl Tryz.sizeOf3 (by decide) rfl) rfl rfl rfl ?_
          refine V_y (Y_load (El.int h53) Tryz.isAgg3 rfl) rfl rfl rfl ?_
          refine V_y (Y_lss rfl rfl) rfl rfl rfl ?_
          refine V_y (Y_move rfl) rfl rfl rfl ?_
          refine V_cut 4 (fun _ : Unit => [(0, v_l), (3, .int .i64 (k7 : Int)), (4, .pointer (some ⟨b42, 0, none⟩)), (11, v_l), (12, .int .i64 (l.length : Int)), (13, .int .i64 (k7 : Int)), (26, .bool ((decide (x35.id_ < 1)) || (decide ((3000000 : Int) < x35.id_))))]) (fun _ w' => w45 = w') ?_ ?_
          · simp only [List.take, List.drop]
            rcases Bool.eq_false_or_eq_true (decide (x35.id_ < 1)) with hc54 | hc54
            · refine V_gn rfl rfl rfl hc54 rfl rfl rfl ?_
              refine V_gn rfl rfl rfl hc54 rfl rfl rfl ?_
              refine V_gn rfl rfl rfl hc54 rfl rfl rfl ?_
              refine V_y (Y_pick_te rfl hc54 rfl) rfl rfl rfl ?_
              exact V_end fun a ha => ⟨(), ha.sub ⟨rfl, rfl, rfl, rfl, rfl, rfl, (by rw [hc54]; rfl), trivial⟩, rfl⟩
            · refine V_ge rfl rfl rfl hc54 ?_
              have h56 := El_know_Article_0 h50
              refine V_y (Y_fieldAddr Tryz.underlying44 rfl Tryz.sizeOf3 (by decide) rfl) rfl rfl rfl ?_
              refine V_ge rfl rfl rfl hc54 ?_
              refine V_y (Y_load (El.int h56) Tryz.isAgg3 rfl) rfl rfl rfl ?_
              refine V_ge rfl rfl rfl hc54 ?_
              refine V_y (Y_gtr rfl rfl) rfl rfl rfl ?_
              refine V_y (Y_pick_fe rfl hc54 rfl) rfl rfl rfl ?_
              exact V_end fun a ha => ⟨(), ha.sub ⟨rfl, rfl, rfl, rfl, rfl, rfl, (by rw [hc54]; rfl), trivial⟩, rfl⟩
          simp only [List.take, List.drop]
          rintro _ _ rfl
          refine V_y (Y_assign rfl) rfl rfl rfl ?_
          refine V_to (fun _ _ => rfl) ?_
          refine C_cond rfl (fun hc57 => ?_) (fun hc57 => ?_)
          · rw [if_pos hc57] at ho27
            refine C_seq ?_
            refine C_region ?_
            refine V_y (Y_assign rfl) rfl rfl rfl ?_
            refine V_to (fun _ _ => rfl) ?_
            obtain rfl := Option.some.inj ho27
            rw [Lp.andThen_rt] at h19
            obtain rfl := Option.some.inj h19
            obtain rfl := (h20 : Lp.rt _ = _)
            rw [Lp.andThen_rt] at hm
            obtain rfl := Option.some.inj hm
            refine C_ret ?_
            try simp only [↓inBlock_ret, ↓then_ret]
            exact retQ rfl (Res.one Tryz.results14 rfl) ⟨rfl, hK.kp⟩
          · rw [if_neg (nt hc57)] at ho27
            refine C_seq ?_
            refine C_region_q (Dw := False) Tryz_mixed (by kernel_rfl) ?_
            refine VQ_y (fun w' hw' => Y_move rfl) rfl rfl rfl ?_
            refine VQ_y (fun w' hw' => Y_gtr rfl rfl) rfl rfl rfl ?_
            refine VQ_y (fun w' hw' => Y_move rfl) rfl rfl rfl ?_
            obtain ⟨s59, hs59, ho27⟩ := Option.bind_eq_some_iff.1 ho27
            refine VQ_cut 10 (fun _ : Unit => [(0, v_l), (4, .pointer (some ⟨b42, 0, none⟩)), (11, v_l), (12, .int .i64 (l.length : Int)), (13, .int .i64 (k7 : Int)), (40, .bool s59)]) (fun _ => True) ?_ ?_
            · simp only [List.take, List.drop]
              rcases Bool.eq_false_or_eq_true (decide ((0 : Int) < (k7 : Int))) with hc58 | hc58
              · rw [if_pos hc58] at hs59
                refine VQ_ge rfl rfl rfl hc58 ?_
                have h60 := El_know_Article_0 h50
                refine VQ_y (fun w' hw' => Y_fieldAddr Tryz.underlying44 rfl Tryz.sizeOf3 (by decide) rfl) rfl rfl rfl ?_
                refine VQ_ge rfl rfl rfl hc58 ?_
                refine VQ_y (fun w' hw' => Y_load (El.int (El.kp (Dw := False) h60 hw')) Tryz.isAgg3 rfl) rfl rfl rfl ?_
                refine VQ_ge rfl rfl rfl hc58 ?_
                refine VQ_y (fun w' hw' => Y_move rfl) rfl rfl rfl ?_
                refine VQ_ge rfl rfl rfl hc58 ?_
                refine VQ_y (fun w' hw' => Y_move rfl) rfl rfl rfl ?_
                refine VQ_ge rfl rfl rfl hc58 ?_
                refine VQ_y (fun w' hw' => Y_subI rfl rfl) rfl rfl rfl ?_
                refine VQ_ge rfl rfl rfl hc58 ?_
                obtain ⟨x61, hx61, hs59⟩ := Option.bind_eq_some_iff.1 hs59
                refine VQ_indexAddr h_l hx61 Tryz.underlying22 Tryz.sizeOf44 rfl rfl rfl ?_
                intro b62 o63 h64
                refine VQ_ge rfl rfl rfl hc58 ?_
                have h65 := El_know_Article_0 h64
                refine VQ_y (fun w' hw' => Y_fieldAddr Tryz.underlying44 rfl Tryz.sizeOf3 (by decide) rfl) rfl rfl rfl ?_
                refine VQ_ge rfl rfl rfl hc58 ?_
                refine VQ_y (fun w' hw' => Y_load (El.int (El.kp (Dw := False) h65 hw')) Tryz.isAgg3 rfl) rfl rfl rfl ?_
                refine VQ_ge rfl rfl rfl hc58 ?_
                refine VQ_y (fun w' hw' => Y_leq rfl rfl) rfl rfl rfl ?_
                refine VQ_y (fun _ _ => Y_pick_te rfl hc58 rfl) rfl rfl rfl ?_
                obtain rfl := Option.some.inj hs59
                exact VQ_end fun a ha => ⟨(), ha.sub ⟨rfl, rfl, rfl, rfl, rfl, rfl, trivial⟩, trivial⟩
              · rw [if_neg (nt hc58)] at hs59
                refine VQ_gn rfl rfl rfl hc58 rfl rfl rfl ?_
                refine VQ_gn rfl rfl rfl hc58 rfl rfl rfl ?_
                refine VQ_gn rfl rfl rfl hc58 rfl rfl rfl ?_
                refine VQ_gn rfl rfl rfl hc58 rfl rfl rfl ?_
                refine VQ_gn rfl rfl rfl hc58 rfl rfl rfl ?_
                refine VQ_gn rfl rfl rfl hc58 rfl rfl rfl ?_
                refine VQ_gn rfl rfl rfl hc58 rfl rfl rfl ?_
                refine VQ_gn rfl rfl rfl hc58 rfl rfl rfl ?_
                refine VQ_gn rfl rfl rfl hc58 rfl rfl rfl ?_
                refine VQ_y (fun _ _ => Y_pick_fe rfl hc58 rfl) rfl rfl rfl ?_
                obtain rfl := Option.some.inj hs59
                exact VQ_end fun a ha => ⟨(), ha.sub ⟨rfl, rfl, rfl, rfl, rfl, rfl, trivial⟩, trivial⟩
            simp only [List.take, List.drop]
            rintro _ _
            refine VQ_y (fun w' hw' => Y_assign rfl) rfl rfl rfl ?_
            refine VQ_to (fun _ _ => rfl) (fun w66 hk67 => ?_)
            have ht68 := Kp.tr (Dw := False) hk67 hA hB
            replace hH := Hp.kp (Dw := False) hH hk67
            replace h_l := Sl.tr (Dw := False) h_l ht68
            replace h50 := El.tr (Dw := False) h50 ht68
            replace hK := Tr.trans (Dw := False) hK ht68
            replace hr6 := Tr.trans (Dw := False) hr6 ht68
            replace hr29 := Tr.trans (Dw := False) hr29 ht68
            replace hB := Nat.le_trans hB ht68.ex.size
            replace hA := ht68.new
            refine C_cond rfl (fun hc69 => ?_) (fun hc69 => ?_)
            · rw [if_pos hc69] at ho27
              refine C_seq ?_
              refine C_region ?_
              refine V_y (Y_assign rfl) rfl rfl rfl ?_
              refine V_to (fun _ _ => rfl) ?_
              obtain rfl := Option.some.inj ho27
              rw [Lp.andThen_rt] at h19
              obtain rfl := Option.some.inj h19
              obtain rfl := (h20 : Lp.rt _ = _)
              rw [Lp.andThen_rt] at hm
              obtain rfl := Option.some.inj hm
              refine C_ret ?_
              try simp only [↓inBlock_ret, ↓then_ret]
              exact retQ rfl (Res.one Tryz.results14 rfl) ⟨rfl, hK.kp⟩
            · rw [if_neg (nt hc69)] at ho27
              refine C_seq ?_
              refine C_region ?_
              have h70 := El_know_Article_1 h50
              refine V_y (Y_fieldAddr Tryz.underlying44 rfl Tryz.sizeOf3 (by decide) rfl) rfl rfl rfl ?_
              refine V_y (Y_load (El.int h70) Tryz.isAgg3 rfl) rfl rfl rfl ?_
              refine V_y (Y_lss rfl rfl) rfl rfl rfl ?_
              refine V_y (Y_move rfl) rfl rfl rfl ?_
              refine V_cut 4 (fun _ : Unit => [(0, v_l), (4, .pointer (some ⟨b42, 0, none⟩)), (11, v_l), (12, .int .i64 (l.length : Int)), (13, .int .i64 (k7 : Int)), (49, .bool ((decide (x35.group < 0)) || (decide ((40 : Int) < x35.group))))]) (fun _ w' => w66 = w') ?_ ?_
              · simp only [List.take, List.drop]
                rcases Bool.eq_false_or_eq_true (decide (x35.group < 0)) with hc71 | hc71
                · refine V_gn rfl rfl rfl hc71 rfl rfl rfl ?_
                  refine V_gn rfl rfl rfl hc71 rfl rfl rfl ?_
                  refine V_gn rfl rfl rfl hc71 rfl rfl rfl ?_
                  refine V_y (Y_pick_te rfl hc71 rfl) rfl rfl rfl ?_
                  exact V_end fun a ha => ⟨(), ha.sub ⟨rfl, rfl, rfl, rfl, rfl, (by rw [hc71]; rfl), trivial⟩, rfl⟩
                · refine V_ge rfl rfl rfl hc71 ?_
                  have h73 := El_know_Article_1 h50
                  refine V_y (Y_fieldAddr Tryz.underlying44 rfl Tryz.sizeOf3 (by decide) rfl) rfl rfl rfl ?_
                  refine V_ge rfl rfl rfl hc71 ?_
                  refine V_y (Y_load (El.int h73) Tryz.isAgg3 rfl) rfl rfl rfl ?_
                  refine V_ge rfl rfl rfl hc71 ?_
                  refine V_y (Y_gtr rfl rfl) rfl rfl rfl ?_
                  refine V_y (Y_pick_fe rfl hc71 rfl) rfl rfl rfl ?_
                  exact V_end fun a ha => ⟨(), ha.sub ⟨rfl, rfl, rfl, rfl, rfl, (by rw [hc71]; rfl), trivial⟩, rfl⟩
              simp only [List.take, List.drop]
              rintro _ _ rfl
              refine V_y (Y_assign rfl) rfl rfl rfl ?_
              refine V_to (fun _ _ => rfl) ?_
              refine C_cond rfl (fun hc74 => ?_) (fun hc74 => ?_)
              · rw [if_pos hc74] at ho27
                refine C_seq ?_
                refine C_region ?_
                refine V_y (Y_assign rfl) rfl rfl rfl ?_
                refine V_to (fun _ _ => rfl) ?_
                obtain rfl := Option.some.inj ho27
                rw [Lp.andThen_rt] at h19
                obtain rfl := Option.some.inj h19
                obtain rfl := (h20 : Lp.rt _ = _)
                rw [Lp.andThen_rt] at hm
                obtain rfl := Option.some.inj hm
                refine C_ret ?_
                try simp only [↓inBlock_ret, ↓then_ret]
                exact retQ rfl (Res.one Tryz.results14 rfl) ⟨rfl, hK.kp⟩
              · rw [if_neg (nt hc74)] at ho27
                refine C_seq ?_
                refine C_region ?_
                have h75 := El_know_Article_2 h50
                refine V_y (Y_fieldAddr Tryz.underlying44 rfl Tryz.sizeOf32 (by decide) rfl) rfl rfl rfl ?_
                obtain ⟨v76, h77, h78⟩ := El.list h75
                refine V_y (Y_load h77 Tryz.isAgg32 rfl) rfl rfl rfl ?_
                refine V_y (Y_lenSl h78 rfl Tryz.underlying32 rfl) rfl rfl rfl ?_
                refine V_y (Y_lss rfl rfl) rfl rfl rfl ?_
                refine V_y (Y_move rfl) rfl rfl rfl ?_
                refine V_cut 5 (fun _ : Unit => [(0, v_l), (4, .pointer (some ⟨b42, 0, none⟩)), (11, v_l), (12, .int .i64 (l.length : Int)), (13, .int .i64 (k7 : Int)), (60, .bool ((decide ((x35.versions.length : Int) < 1)) || (decide ((40 : Int) < (x35.versions.length : Int)))))]) (fun _ w' => w66 = w') ?_ ?_
                · simp only [List.take, List.drop]
                  rcases Bool.eq_false_or_eq_true (decide ((x35.versions.length : Int) < 1)) with hc79 | hc79
                  · refine V_gn rfl rfl rfl hc79 rfl rfl rfl ?_
                    refine V_gn rfl rfl rfl hc79 rfl rfl rfl ?_
                    refine V_gn rfl rfl rfl hc79 rfl rfl rfl ?_
                    refine V_gn rfl rfl rfl hc79 rfl rfl rfl ?_
                    refine V_y (Y_pick_te rfl hc79 rfl) rfl rfl rfl ?_
                    exact V_end fun a ha => ⟨(), ha.sub ⟨rfl, rfl, rfl, rfl, rfl, (by rw [hc79]; rfl), trivial⟩, rfl⟩
                  · refine V_ge rfl rfl rfl hc79 ?_
                    have h81 := El_know_Article_2 h50
                    refine V_y (Y_fieldAddr Tryz.underlying44 rfl Tryz.sizeOf32 (by decide) rfl) rfl rfl rfl ?_
                    refine V_ge rfl rfl rfl hc79 ?_
                    obtain ⟨v82, h83, h84⟩ := El.list h81
                    refine V_y (Y_load h83 Tryz.isAgg32 rfl) rfl rfl rfl ?_
                    refine V_ge rfl rfl rfl hc79 ?_
                    refine V_y (Y_lenSl h84 rfl Tryz.underlying32 rfl) rfl rfl rfl ?_
                    refine V_ge rfl rfl rfl hc79 ?_
                    refine V_y (Y_gtr rfl rfl) rfl rfl rfl ?_
                    refine V_y (Y_pick_fe rfl hc79 rfl) rfl rfl rfl ?_
                    exact V_end fun a ha => ⟨(), ha.sub ⟨rfl, rfl, rfl, rfl, rfl, (by rw [hc79]; rfl), trivial⟩, rfl⟩
                simp only [List.take, List.drop]
                rintro _ _ rfl
                refine V_y (Y_assign rfl) rfl rfl rfl ?_
                refine V_to (fun _ _ => rfl) ?_
                refine C_cond rfl (fun hc85 => ?_) (fun hc85 => ?_)
                · rw [if_pos hc85] at ho27
                  refine C_seq ?_
                  refine C_region ?_
                  refine V_y (Y_assign rfl) rfl rfl rfl ?_
                  refine V_to (fun _ _ => rfl) ?_
                  obtain rfl := Option.some.inj ho27
                  rw [Lp.andThen_rt] at h19
                  obtain rfl := Option.some.inj h19
                  obtain rfl := (h20 : Lp.rt _ = _)
                  rw [Lp.andThen_rt] at hm
                  obtain rfl := Option.some.inj hm
                  refine C_ret ?_
                  try simp only [↓inBlock_ret, ↓then_ret]
                  exact retQ rfl (Res.one Tryz.results14 rfl) ⟨rfl, hK.kp⟩
                · rw [if_neg (nt hc85)] at ho27
                  refine C_skip_to (fun _ _ => rfl) ?_
                  refine C_seq ?_
                  refine C_region ?_
                  have h86 := El_know_Article_2 h50
                  refine V_y (Y_fieldAddr Tryz.underlying44 rfl Tryz.sizeOf32 (by decide) rfl) rfl rfl rfl ?_
                  obtain ⟨v87, h88, h89⟩ := El.list h86
                  refine V_y (Y_load h88 Tryz.isAgg32 rfl) rfl rfl rfl ?_
                  refine V_y (Y_lenSl h89 rfl Tryz.underlying32 rfl) rfl rfl rfl ?_
                  refine V_y (Y_move rfl) rfl rfl rfl ?_
                  refine V_to (fun _ _ => rfl) ?_
                  have hn110 := Sl.le h89
                  obtain ⟨o90, ho90, ho27⟩ := Option.bind_eq_some_iff.1 ho27
                  refine C_cutG (ι := (Unit × (Nat → Prop))) (fun ⟨s91, A97⟩ => [(0, v_l), (11, v_l), (12, .int .i64 (l.length : Int)), (13, .int .i64 (k7 : Int))]) (fun ⟨s91, A97⟩ => fun w' => o90 = .fin s91 ∧ Hp w.heap.size A97 w' ([]) ∧ Tr False w.heap.size A16 w66 A97 w') ?_ ?_
                  · refine C_block ?_
                    refine C_range ho90 (fun k93 _ a w' => ∃ i : (Nat → Prop), Has ⟨94, [], none⟩ a ([(0, v_l), (4, .pointer (some ⟨b42, 0, none⟩)), (11, v_l), (12, .int .i64 (l.length : Int)), (13, .int .i64 (k7 : Int)), (62, v87), (63, .int .i64 (x35.versions.length : Int)), (64, .int .i64 (k93 : Int))]) ∧ Hp w.heap.size i w' ([]) ∧ Tr False w.heap.size A16 w66 i w') (fun a ha => ⟨A16, ha.sub ⟨rfl, rfl, rfl, rfl, rfl, rfl, rfl, rfl, trivial⟩, ⟨hH, Tr.refl (Dw := False) hA⟩⟩) ?_
                    rintro K k93 _ a w100 ⟨A101, ha151, hH102, hr92⟩ hle106 K109 h108
                    refine C_of ?_ ha151
                    replace h_l := Sl.tr (Dw := False) h_l hr92
                    replace h50 := El.tr (Dw := False) h50 hr92
                    replace h89 := Sl.tr (Dw := False) h89 hr92
                    replace hK := Tr.trans (Dw := False) hK hr92
                    replace hr6 := Tr.trans (Dw := False) hr6 hr92
                    replace hr29 := Tr.trans (Dw := False) hr29 hr92
                    replace hB := Nat.le_trans hB hr92.ex.size
                    replace hA := hr92.new
                    replace hH : Hp w.heap.size A101 w100 ([]) := hH102
                    refine C_seq (C_region (V_y (Y_lss rfl rfl) rfl rfl rfl (V_to (fun _ _ => rfl) ?_)))
                    refine C_seq ?_
                    refine C_cond rfl (fun hc111 => ?_) (fun hc111 => ?_)
                    · have hlt107 := lt_of_dec hc111
                      obtain ⟨x103, h104, h105⟩ := K109 hlt107
                      refine C_skip_to (fun _ _ => rfl) ?_
                      refine C_seq ?_
                      refine C_block ?_
                      refine C_seq ?_
                      refine C_region ?_
                      refine V_y (Y_move rfl) rfl rfl rfl ?_
                      obtain ⟨x112, hx112, h104⟩ := Option.bind_eq_some_iff.1 h104
                      refine V_indexAddr h89 hx112 Tryz.underlying32 Tryz.sizeOf40 rfl rfl rfl ?_
                      intro b113 o114 h115
                      obtain ⟨h116, _⟩ := El_know_Version h115
                      refine V_y (Y_loadA h116 Tryz.isAgg40 Tryz.sizeOf40 rfl) rfl rfl rfl ?_
                      refine V_alloc Tryz.zeroValue40 rfl ?_
                      intro b117 w118 h119
                      refine V_y (Y_assign rfl) rfl rfl rfl ?_
                      refine V_storeNew h119 Tryz.sizeOf40 rfl rfl rfl rfl (by exact (List.forall_mem_cons.2 ⟨rfl, (List.forall_mem_cons.2 ⟨rfl, (List.forall_mem_cons.2 ⟨rfl, (fun _ h => nomatch h)⟩)⟩)⟩)) ?_
                      intro w120 h121
                      have hk123 := h121.kp (Dw := False)
                      have h122 : El (α := know_Version) A101 w120 b117 0 x112 := h121.el hA ⟨[.int .i64 x112.at_], _, rfl, rfl, ⟨[.string x112.title], _, rfl, rfl, rfl⟩⟩
                      have ht124 := Kp.tr (Dw := False) hk123 hA hB
                      replace hH := Hp.kp (Dw := False) hH hk123
                      replace h_l := Sl.tr (Dw := False) h_l ht124
                      replace h50 := El.tr (Dw := False) h50 ht124
                      replace h89 := Sl.tr (Dw := False) h89 ht124
                      replace h115 := El.tr (Dw := False) h115 ht124
                      replace hK := Tr.trans (Dw := False) hK ht124
                      replace hr6 := Tr.trans (Dw := False) hr6 ht124
                      replace hr29 := Tr.trans (Dw := False) hr29 ht124
                      replace hr92 := Tr.trans (Dw := False) hr92 ht124
                      replace hB := Nat.le_trans hB ht124.ex.size
                      replace hA := ht124.new
                      refine V_to (fun _ _ => rfl) ?_
                      refine C_seq ?_
                      refine C_seq ?_
                      refine C_region ?_
                      have h125 := El_know_Version_0 h122
                      refine V_y (Y_fieldAddr Tryz.underlying40 rfl Tryz.sizeOf3 (by decide) rfl) rfl rfl rfl ?_
                      refine V_y (Y_load (El.int h125) Tryz.isAgg3 rfl) rfl rfl rfl ?_
                      refine V_call Tryz.call15 rfl rfl rfl rfl (portref2_IsMoment_c w120 x112.at_) ?_
                      rintro _ _ ⟨rfl, rfl⟩
                      refine V_y (Y_not rfl) rfl rfl rfl ?_
                      refine V_to (fun _ _ => rfl) ?_
                      refine C_cond rfl (fun hc126 => ?_) (fun hc126 => ?_)
                      · rw [if_pos hc126] at h104
                        refine C_seq ?_
                        refine C_region ?_
                        refine V_y (Y_assign rfl) rfl rfl rfl ?_
                        refine V_to (fun _ _ => rfl) ?_
                        obtain rfl := Option.some.inj h104
                        obtain rfl := (h105 : Lp.rt _ = _)
                        rw [Lp.andThen_rt] at ho27
                        obtain rfl := Option.some.inj ho27
                        rw [Lp.andThen_rt] at h19
                        obtain rfl := Option.some.inj h19
                        obtain rfl := (h20 : Lp.rt _ = _)
                        rw [Lp.andThen_rt] at hm
                        obtain rfl := Option.some.inj hm
                        refine C_ret ?_
                        try simp only [↓inBlock_ret, ↓then_ret]
                        exact retQ rfl (Res.one Tryz.results14 rfl) ⟨rfl, hK.kp⟩
                      · rw [if_neg (nt hc126)] at h104
                        refine C_skip_to (fun _ _ => rfl) ?_
                        refine C_seq ?_
                        refine C_seq ?_
                        refine C_region_q (Dw := False) Tryz_mixed (by kernel_rfl) ?_
                        refine VQ_y (fun w' hw' => Y_move rfl) rfl rfl rfl ?_
                        refine VQ_y (fun w' hw' => Y_gtr rfl rfl) rfl rfl rfl ?_
                        refine VQ_y (fun w' hw' => Y_move rfl) rfl rfl rfl ?_
                        obtain ⟨s128, hs128, h104⟩ := Option.bind_eq_some_iff.1 h104
                        refine VQ_cut 11 (fun _ : Unit => [(0, v_l), (4, .pointer (some ⟨b42, 0, none⟩)), (6, .pointer (some ⟨b117, 0, none⟩)), (11, v_l), (12, .int .i64 (l.length : Int)), (13, .int .i64 (k7 : Int)), (62, v87), (63, .int .i64 (x35.versions.length : Int)), (64, .int .i64 (k93 : Int)), (86, .bool s128)]) (fun _ => True) ?_ ?_
                        · simp only [List.take, List.drop]
                          rcases Bool.eq_false_or_eq_true (decide ((0 : Int) < (k93 : Int))) with hc127 | hc127
                          · rw [if_pos hc127] at hs128
                            refine VQ_ge rfl rfl rfl hc127 ?_
                            have h129 := El_know_Version_0 h122
                            refine VQ_y (fun w' hw' => Y_fieldAddr Tryz.underlying40 rfl Tryz.sizeOf3 (by decide) rfl) rfl rfl rfl ?_
                            refine VQ_ge rfl rfl rfl hc127 ?_
                            refine VQ_y (fun w' hw' => Y_load (El.int (El.kp (Dw := False) h129 hw')) Tryz.isAgg3 rfl) rfl rfl rfl ?_
                            refine VQ_ge rfl rfl rfl hc127 ?_
                            have h130 := El_know_Article_2 h50
                            refine VQ_y (fun w' hw' => Y_fieldAddr Tryz.underlying44 rfl Tryz.sizeOf32 (by decide) rfl) rfl rfl rfl ?_
                            refine VQ_ge rfl rfl rfl hc127 ?_
                            obtain ⟨v131, h132, h133⟩ := El.list h130
                            refine VQ_y (fun w' hw' => Y_load ((World.cell?_of_block (hw'.block _ (World.block_lt_of_cell? _ _ h132))).trans h132) Tryz.isAgg32 rfl) rfl rfl rfl ?_
                            refine VQ_ge rfl rfl rfl hc127 ?_
                            refine VQ_y (fun w' hw' => Y_move rfl) rfl rfl rfl ?_
                            refine VQ_ge rfl rfl rfl hc127 ?_
                            refine VQ_y (fun w' hw' => Y_subI rfl rfl) rfl rfl rfl ?_
                            refine VQ_ge rfl rfl rfl hc127 ?_
                            obtain ⟨x134, hx134, hs128⟩ := Option.bind_eq_some_iff.1 hs128
                            refine VQ_indexAddr h133 hx134 Tryz.underlying32 Tryz.sizeOf40 rfl rfl rfl ?_
                            intro b135 o136 h137
                            refine VQ_ge rfl rfl rfl hc127 ?_
                            have h138 := El_know_Version_0 h137
                            refine VQ_y (fun w' hw' => Y_fieldAddr Tryz.underlying40 rfl Tryz.sizeOf3 (by decide) rfl) rfl rfl rfl ?_
                            refine VQ_ge rfl rfl rfl hc127 ?_
                            refine VQ_y (fun w' hw' => Y_load (El.int (El.kp (Dw := False) h138 hw')) Tryz.isAgg3 rfl) rfl rfl rfl ?_
                            refine VQ_ge rfl rfl rfl hc127 ?_
                            refine VQ_y (fun w' hw' => Y_lss rfl rfl) rfl rfl rfl ?_
                            refine VQ_y (fun _ _ => Y_pick_te rfl hc127 rfl) rfl rfl rfl ?_
                            obtain rfl := Option.some.inj hs128
                            exact VQ_end fun a ha => ⟨(), ha.sub ⟨rfl, rfl, rfl, rfl, rfl, rfl, rfl, rfl, rfl, rfl, trivial⟩, trivial⟩
                          · rw [if_neg (nt hc127)] at hs128
                            refine VQ_gn rfl rfl rfl hc127 rfl rfl rfl ?_
                            refine VQ_gn rfl rfl rfl hc127 rfl rfl rfl ?_
                            refine VQ_gn rfl rfl rfl hc127 rfl rfl rfl ?_
                            refine VQ_gn rfl rfl rfl hc127 rfl rfl rfl ?_
                            refine VQ_gn rfl rfl rfl hc127 rfl rfl rfl ?_
                            refine VQ_gn rfl rfl rfl hc127 rfl rfl rfl ?_
                            refine VQ_gn rfl rfl rfl hc127 rfl rfl rfl ?_
                            refine VQ_gn rfl rfl rfl hc127 rfl rfl rfl ?_
                            refine VQ_gn rfl rfl rfl hc127 rfl rfl rfl ?_
                            refine VQ_gn rfl rfl rfl hc127 rfl rfl rfl ?_
                            refine VQ_y (fun _ _ => Y_pick_fe rfl hc127 rfl) rfl rfl rfl ?_
                            obtain rfl := Option.some.inj hs128
                            exact VQ_end fun a ha => ⟨(), ha.sub ⟨rfl, rfl, rfl, rfl, rfl, rfl, rfl, rfl, rfl, rfl, trivial⟩, trivial⟩
                        simp only [List.take, List.drop]
                        rintro _ _
                        refine VQ_to (fun _ _ => rfl) (fun w139 hk140 => ?_)
                        have ht141 := Kp.tr (Dw := False) hk140 hA hB
                        replace hH := Hp.kp (Dw := False) hH hk140
                        replace h_l := Sl.tr (Dw := False) h_l ht141
                        replace h50 := El.tr (Dw := False) h50 ht141
                        replace h89 := Sl.tr (Dw := False) h89 ht141
                        replace h122 := El.tr (Dw := False) h122 ht141
                        replace hK := Tr.trans (Dw := False) hK ht141
                        replace hr6 := Tr.trans (Dw := False) hr6 ht141
                        replace hr29 := Tr.trans (Dw := False) hr29 ht141
                        replace hr92 := Tr.trans (Dw := False) hr92 ht141
                        replace hB := Nat.le_trans hB ht141.ex.size
                        replace hA := ht141.new
                        refine C_cond rfl (fun hc142 => ?_) (fun hc142 => ?_)
                        · rw [if_pos hc142] at h104
                          refine C_seq ?_
                          refine C_region ?_
                          refine V_y (Y_assign rfl) rfl rfl rfl ?_
                          refine V_to (fun _ _ => rfl) ?_
                          obtain rfl := Option.some.inj h104
                          obtain rfl := (h105 : Lp.rt _ = _)
                          rw [Lp.andThen_rt] at ho27
                          obtain rfl := Option.some.inj ho27
                          rw [Lp.andThen_rt] at h19
                          obtain rfl := Option.some.inj h19
                          obtain rfl := (h20 : Lp.rt _ = _)
                          rw [Lp.andThen_rt] at hm
                          obtain rfl := Option.some.inj hm
                          refine C_ret ?_
                          try simp only [↓inBlock_ret, ↓then_ret]
                          exact retQ rfl (Res.one Tryz.results14 rfl) ⟨rfl, hK.kp⟩
                        · rw [if_neg (nt hc142)] at h104
                          refine C_skip_to (fun _ _ => rfl) ?_
                          refine C_seq ?_
                          refine C_region ?_
                          obtain ⟨h143, _⟩ := El_know_Version h122
                          refine V_y (Y_loadA h143 Tryz.isAgg40 Tryz.sizeOf40 rfl) rfl rfl rfl ?_
                          obtain ⟨x144, hx144, h104⟩ := Option.bind_eq_some_iff.1 h104
                          refine V_call Tryz.call25 rfl rfl rfl rfl (portref2_versionFault_c w139 hA (Fz.tr (Dw := False) hT hK) x112 hx144) ?_
                          rintro _ w145 ⟨rfl, hk146⟩
                          have ht147 := Kp.tr (Dw := False) hk146 hA hB
                          replace hH := Hp.kp (Dw := False) hH hk146
                          replace h_l := Sl.tr (Dw := False) h_l ht147
                          replace h50 := El.tr (Dw := False) h50 ht147
                          replace h89 := Sl.tr (Dw := False) h89 ht147
                          replace h122 := El.tr (Dw := False) h122 ht147
                          replace hK := Tr.trans (Dw := False) hK ht147
                          replace hr6 := Tr.trans (Dw := False) hr6 ht147
                          replace hr29 := Tr.trans (Dw := False) hr29 ht147
                          replace hr92 := Tr.trans (Dw := False) hr92 ht147
                          replace hB := Nat.le_trans hB ht147.ex.size
                          replace hA := ht147.new
                          refine V_y (Y_assign rfl) rfl rfl rfl ?_
                          refine V_to (fun _ _ => rfl) ?_
                          refine C_seq ?_
                          refine C_region ?_
                          refine V_y (Y_move rfl) rfl rfl rfl ?_
                          refine V_y (Y_neq rfl rfl) rfl rfl rfl ?_
                          refine V_to (fun _ _ => rfl) ?_
                          refine C_cond rfl (fun hc148 => ?_) (fun hc148 => ?_)
                          · rw [if_pos hc148] at h104
                            refine C_seq ?_
                            refine C_region ?_
                            refine V_y (Y_move rfl) rfl rfl rfl ?_
                            refine V_y (Y_assign rfl) rfl rfl rfl ?_
                            refine V_to (fun _ _ => rfl) ?_
                            obtain rfl := Option.some.inj h104
                            obtain rfl := (h105 : Lp.rt _ = _)
                            rw [Lp.andThen_rt] at ho27
                            obtain rfl := Option.some.inj ho27
                            rw [Lp.andThen_rt] at h19
                            obtain rfl := Option.some.inj h19
                            obtain rfl := (h20 : Lp.rt _ = _)
                            rw [Lp.andThen_rt] at hm
                            obtain rfl := Option.some.inj hm
                            refine C_ret ?_
                            try simp only [↓inBlock_ret, ↓then_ret]
                            exact retQ rfl (Res.one Tryz.results14 rfl) ⟨rfl, hK.kp⟩
                          · rw [if_neg (nt hc148)] at h104
                            refine C_skip_to (fun _ _ => rfl) ?_
                            refine C_region ?_
                            refine V_y (Y_addI rfl rfl) rfl rfl rfl ?_
                            refine V_y (Y_move rfl) rfl rfl rfl ?_
                            obtain rfl := Option.some.inj h104
                            refine V_end (fun a ha149 => ?_)
                            exact ⟨(), hlt107, h105, ⟨A101, ha149.sub ⟨rfl, rfl, rfl, rfl, rfl, rfl, rfl, (congrArg (fun z => some (Value.int .i64 z)) (w64_succ hlt107 hn110)), trivial⟩, ⟨hH, hr92⟩⟩⟩
                    · refine C_exit (fun a ha150 => ?_)
                      exact ⟨((), A101), ha150.sub ⟨rfl, rfl, rfl, rfl, trivial⟩, ⟨(h108 (eq_of_dec hle106 hc111)).symm, hH, hr92⟩⟩
                  rintro ⟨s91, A97⟩ w94 ⟨rfl, hH98, hk95⟩ a ha96
                  rw [Lp.andThen_fin] at ho27
                  replace h_l := Sl.tr (Dw := False) h_l hk95
                  replace hK := Tr.trans (Dw := False) hK hk95
                  replace hr6 := Tr.trans (Dw := False) hr6 hk95
                  replace hr29 := Tr.trans (Dw := False) hr29 hk95
                  replace hB := Nat.le_trans hB hk95.ex.size
                  replace hA := hk95.new
                  replace hH : Hp w.heap.size A97 w94 ([]) := hH98
                  obtain rfl := Option.some.inj ho27
                  exact ⟨((), A97), ha96.sub ⟨rfl, rfl, rfl, rfl, trivial⟩, ⟨rfl, hH, hr29⟩⟩
        rintro ⟨s28, A33⟩ w30 ⟨rfl, hH34, hk31⟩ a ha32
        rw [Lp.andThen_fin] at h19
        replace h_l := Sl.tr (Dw := False) h_l hk31
        replace hK := Tr.trans (Dw := False) hK hk31
        replace hr6 := Tr.trans (Dw := False) hr6 hk31
        replace hB := Nat.le_trans hB hk31.ex.size
        replace hA := hk31.new
        replace hH : Hp w.heap.size A33 w30 ([]) := hH34
        refine C_at (n := ⟨94, [], none⟩) (fun _ _ => rfl) ?_ ha32
        refine C_region ?_
        refine V_y (Y_addI rfl rfl) rfl rfl rfl ?_
        refine V_y (Y_move rfl) rfl rfl rfl ?_
        obtain rfl := Option.some.inj h19
        refine V_end (fun a ha153 => ?_)
        exact ⟨(), hlt22, h20, ⟨A33, ha153.sub ⟨rfl, rfl, rfl, (congrArg (fun z => some (Value.int .i64 z)) (w64_succ hlt22 hn25)), trivial⟩, ⟨hH, hr6⟩⟩⟩
      · refine C_exit (fun a ha154 => ?_)
        exact ⟨((), A16), ha154.sub trivial, ⟨(h23 (eq_of_dec hle21 hc26)).symm, hH, hr6⟩⟩
    rintro ⟨s5, A12⟩ w9 ⟨rfl, hH13, hk10⟩ a ha11
    rw [Lp.andThen_fin] at hm
    replace hK := Tr.trans (Dw := False) hK hk10
    replace hB := Nat.le_trans hB hk10.ex.size
    replace hA := hk10.new
    replace hH : Hp w.heap.size A12 w9 ([]) := hH13
    refine C_at (n := ⟨94, [], none⟩) (fun _ _ => rfl) ?_ ha11
    refine C_seq ?_
    refine C_region ?_
    refine V_y (Y_assign rfl) rfl rfl rfl ?_
    refine V_to (fun _ _ => rfl) ?_
    obtain rfl := Option.some.inj hm
    refine C_ret ?_
    try simp only [↓inBlock_ret, ↓then_ret]
    exact retQ rfl (Res.one Tryz.results14 rfl) ⟨rfl, hK.kp⟩

set_option maxRecDepth 4000 in
set_option maxHeartbeats 4000000 in
theorem portref2_versionAt_c (w : World) {A : Nat → Prop} (hA : ∀ b, w.heap.size ≤ b → A b) (a_ : know_Article) (v_a_ : Value) (h_a_ : Sl A w v_a_ a_.versions) (m : Int) {r : (know_Version × Bool)} (hm : portref2_versionAt a_ m = some r) : Ret Tryz.prog 16 #[.agg #[.int .i64 a_.id_, .int .i64 a_.group, v_a_], .int .i64 m] w fun v w' => v = .tuple #[.agg #[.int .i64 r.1.at_, .string r.1.title, .string r.1.body], .bool r.2] ∧ Kp Dw w w' := by
  unfold portref2_versionAt at hm
  refine enter Tryz.func16 rfl Tryz.ntmps16 rfl ?_
  have hA0 := hA
  have hB := Nat.le_refl w.heap.size
  have hK : Tr Dw w.heap.size A w A w := Tr.refl (Dw := Dw) hA
  have hH : Hp w.heap.size A w [] := Hp.nil
  refine C_seq ?_
  refine C_region ?_
  refine V_box rfl rfl ?_
  intro b3 w4 h5
  have hk7 := h5.kp (Dw := Dw)
  have h6 : El (α := know_Article) A w4 b3 0 a_ := h5.el hA ⟨[.int .i64 a_.id_], _, rfl, rfl, ⟨[.int .i64 a_.group], _, rfl, rfl, ⟨_, rfl, h_a_⟩⟩⟩
  have ht8 := Kp.tr (Dw := Dw) hk7 hA hB
  replace hH := Hp.kp (Dw := Dw) hH hk7
  replace h_a_ := Sl.tr (Dw := Dw) h_a_ ht8
  replace hK := Tr.trans (Dw := Dw) hK ht8
  replace hB := Nat.le_trans hB ht8.ex.size
  replace hA := ht8.new
  refine V_allocH (Dw := Dw) (B := w.heap.size) hH Tryz.zeroValue40 hB hA rfl ?_
  intro b9 w10 A11 hH12 ht13
  replace h_a_ := Sl.tr (Dw := Dw) h_a_ ht13
  replace h6 := El.tr (Dw := Dw) h6 ht13
  replace hK := Tr.trans (Dw := Dw) hK ht13
  replace hB := Nat.le_trans hB ht13.ex.size
  replace hA := ht13.new
  replace hH : Hp w.heap.size A11 w10 (obC b9 [.int .i64 0, .string ByteArray.empty, .string ByteArray.empty] 40 :: []) := hH12
  refine V_y (Y_assign rfl) rfl rfl rfl ?_
  refine V_to (fun _ _ => rfl) ?_
  refine C_seq ?_
  refine C_region ?_
  refine V_allocH (Dw := Dw) (B := w.heap.size) hH Tryz.zeroValue40 hB hA rfl ?_
  intro b14 w15 A16 hH17 ht18
  replace h6 := El.tr (Dw := Dw) h6 ht18
  replace hK := Tr.trans (Dw := Dw) hK ht18
  replace hB := Nat.le_trans hB ht18.ex.size
  replace hA := ht18.new
  replace hH : Hp w.heap.size A16 w15 (obC b14 [.int .i64 0, .string ByteArray.empty, .string ByteArray.empty] 40 :: obC b9 [.int .i64 0, .string ByteArray.empty, .string ByteArray.empty] 40 :: []) := hH17
  refine V_to (fun _ _ => rfl) ?_
  refine C_seq ?_
  refine C_region ?_
  refine V_y (Y_assign rfl) rfl rfl rfl ?_
  refine V_to (fun _ _ => rfl) ?_
  refine C_seq ?_
  refine C_seq ?_
  refine C_region ?_
  have h19 := El_know_Article_2 h6
  refine V_y (Y_fieldAddr Tryz.underlying44 rfl Tryz.sizeOf32 (by decide) rfl) rfl rfl rfl ?_
  obtain ⟨v20, h21, h22⟩ := El.list h19
  refine V_y (Y_load h21 Tryz.isAgg32 rfl) rfl rfl rfl ?_
  refine V_y (Y_lenSl h22 rfl Tryz.underlying32 rfl) rfl rfl rfl ?_
  refine V_y (Y_move rfl) rfl rfl rfl ?_
  refine V_to (fun _ _ => rfl) ?_
  have hn43 := Sl.le h22
  obtain ⟨o23, ho23, hm⟩ := Option.bind_eq_some_iff.1 hm
  refine C_cutG (ι := ((Bool × know_Version) × (Nat → Prop))) (fun ⟨s24, A30⟩ => [(4, .pointer (some ⟨b9, 0, none⟩)), (6, .pointer (some ⟨b14, 0, none⟩)), (7, .bool s24.1)]) (fun ⟨s24, A30⟩ => fun w' => o23 = .fin s24 ∧ Hp w.heap.size A30 w' (obC b14 [.int .i64 s24.2.at_, .string s24.2.title, .string s24.2.body] 40 :: obC b9 [.int .i64 0, .string ByteArray.empty, .string ByteArray.empty] 40 :: []) ∧ Tr Dw w.heap.size A16 w15 A30 w') ?_ ?_
  · refine C_block ?_
    refine C_range ho23 (fun k26 s32 a w' => ∃ i : (Nat → Prop), Has ⟨30, [], none⟩ a ([(1, .int .i64 m), (4, .pointer (some ⟨b9, 0, none⟩)), (6, .pointer (some ⟨b14, 0, none⟩)), (7, .bool s32.1), (11, v20), (12, .int .i64 (a_.versions.length : Int)), (13, .int .i64 (k26 : Int))]) ∧ Hp w.heap.size i w' (obC b14 [.int .i64 s32.2.at_, .string s32.2.title, .string s32.2.body] 40 :: obC b9 [.int .i64 0, .string ByteArray.empty, .string ByteArray.empty] 40 :: []) ∧ Tr Dw w.heap.size A16 w15 i w') (fun a ha => ⟨A16, ha.sub ⟨rfl, rfl, rfl, rfl, rfl, rfl, rfl, trivial⟩, ⟨hH, Tr.refl (Dw := Dw) hA⟩⟩) ?_
    rintro K k26 s32 a w33 ⟨A34, ha85, hH35, hr25⟩ hle39 K42 h41
    refine C_of ?_ ha85
    replace h22 := Sl.tr (Dw := Dw) h22 hr25
    replace hK := Tr.trans (Dw := Dw) hK hr25
    replace hB := Nat.le_trans hB hr25.ex.size
    replace hA := hr25.new
    replace hH : Hp w.heap.size A34 w33 (obC b14 [.int .i64 s32.2.at_, .string s32.2.title, .string s32.2.body] 40 :: obC b9 [.int .i64 0, .string ByteArray.empty, .string ByteArray.empty] 40 :: []) := hH35
    refine C_seq (C_region (V_y (Y_lss rfl rfl) rfl rfl rfl (V_to (fun _ _ => rfl) ?_)))
    refine C_seq ?_
    refine C_cond rfl (fun hc44 => ?_) (fun hc44 => ?_)
    · have hlt40 := lt_of_dec hc44
      obtain ⟨x36, h37, h38⟩ := K42 hlt40
      refine C_skip_to (fun _ _ => rfl) ?_
      refine C_seq ?_
      obtain ⟨s46, ho45, h37⟩ := Option.bind_eq_some_iff.1 h37
      refine C_cutG (ι := (Nat → Prop)) (fun (A51 : (Nat → Prop)) => [(1, .int .i64 m), (4, .pointer (some ⟨b9, 0, none⟩)), (6, .pointer (some ⟨b14, 0, none⟩)), (7, .bool s46.1), (11, v20), (12, .int .i64 (a_.versions.length : Int)), (13, .int .i64 (k26 : Int))]) (fun (A51 : (Nat → Prop)) => fun w' => Hp w.heap.size A51 w' (obC b14 [.int .i64 s46.2.at_, .string s46.2.title, .string s46.2.body] 40 :: obC b9 [.int .i64 0, .string ByteArray.empty, .string ByteArray.empty] 40 :: []) ∧ Tr Dw w.heap.size A34 w33 A51 w') ?_ ?_
      · have hr47 : Tr Dw w.heap.size A34 w33 A34 w33 := Tr.refl (Dw := Dw) hA
        refine C_block ?_
        refine C_seq ?_
        refine C_region ?_
        obtain ⟨x53, hx53, ho45⟩ := Option.bind_eq_some_iff.1 ho45
        refine V_indexAddr h22 hx53 Tryz.underlying32 Tryz.sizeOf40 rfl rfl rfl ?_
        intro b54 o55 h56
        obtain ⟨h57, _⟩ := El_know_Version h56
        refine V_y (Y_loadA h57 Tryz.isAgg40 Tryz.sizeOf40 rfl) rfl rfl rfl ?_
        refine V_alloc Tryz.zeroValue40 rfl ?_
        intro b58 w59 h60
        refine V_storeNew h60 Tryz.sizeOf40 rfl rfl rfl rfl (by exact (List.forall_mem_cons.2 ⟨rfl, (List.forall_mem_cons.2 ⟨rfl, (List.forall_mem_cons.2 ⟨rfl, (fun _ h => nomatch h)⟩)⟩)⟩)) ?_
        intro w61 h62
        have hk64 := h62.kp (Dw := Dw)
        have h63 : El (α := know_Version) A34 w61 b58 0 x53 := h62.el hA ⟨[.int .i64 x53.at_], _, rfl, rfl, ⟨[.string x53.title], _, rfl, rfl, rfl⟩⟩
        have ht65 := Kp.tr (Dw := Dw) hk64 hA hB
        replace hH := Hp.kp (Dw := Dw) hH hk64
        replace h22 := Sl.tr (Dw := Dw) h22 ht65
        replace h56 := El.tr (Dw := Dw) h56 ht65
        replace hK := Tr.trans (Dw := Dw) hK ht65
        replace hr25 := Tr.trans (Dw := Dw) hr25 ht65
        replace hr47 := Tr.trans (Dw := Dw) hr47 ht65
        replace hB := Nat.le_trans hB ht65.ex.size
        replace hA := ht65.new
        refine V_to (fun _ _ => rfl) ?_
        refine C_seq ?_
        refine C_region ?_
        have h66 := El_know_Version_0 h63
        refine V_y (Y_fieldAddr Tryz.underlying40 rfl Tryz.sizeOf3 (by decide) rfl) rfl rfl rfl ?_
        refine V_y (Y_load (El.int h66) Tryz.isAgg3 rfl) rfl rfl rfl ?_
        refine V_y (Y_move rfl) rfl rfl rfl ?_
        refine V_y (Y_leq rfl rfl) rfl rfl rfl ?_
        refine V_to (fun _ _ => rfl) ?_
        obtain ⟨s68, ho67, ho45⟩ := Option.bind_eq_some_iff.1 ho45
        refine C_cutG (ι := (Nat → Prop)) (fun (A73 : (Nat → Prop)) => [(1, .int .i64 m), (4, .pointer (some ⟨b9, 0, none⟩)), (6, .pointer (some ⟨b14, 0, none⟩)), (7, .bool s68.1), (11, v20), (12, .int .i64 (a_.versions.length : Int)), (13, .int .i64 (k26 : Int))]) (fun (A73 : (Nat → Prop)) => fun w' => Hp w.heap.size A73 w' (obC b14 [.int .i64 s68.2.at_, .string s68.2.title, .string s68.2.body] 40 :: obC b9 [.int .i64 0, .string ByteArray.empty, .string ByteArray.empty] 40 :: []) ∧ Tr Dw w.heap.size A34 w61 A73 w') ?_ ?_
        · have hr69 : Tr Dw w.heap.size A34 w61 A34 w61 := Tr.refl (Dw := Dw) hA
          refine C_cond rfl (fun hc75 => ?_) (fun hc75 => ?_)
          · rw [if_pos hc75] at ho67
            refine C_region ?_
            obtain ⟨h76, _⟩ := El_know_Version h63
            refine V_y (Y_loadA h76 Tryz.isAgg40 Tryz.sizeOf40 rfl) rfl rfl rfl ?_
            refine V_storeC (Dw := Dw) (off := 0) (ds := [.int .i64 x53.at_, .string x53.title, .string x53.body]) hH (i := 0) rfl Tryz.sizeOf40 rfl (Nat.le_of_ble_eq_true rfl) (by simp [Value.cells, Value.oneCell']) rfl hB hA rfl rfl ?_
            intro w77 hH78 ht79
            replace h22 := Sl.tr (Dw := Dw) h22 ht79
            replace h63 := El.tr (Dw := Dw) h63 ht79
            replace hK := Tr.trans (Dw := Dw) hK ht79
            replace hr25 := Tr.trans (Dw := Dw) hr25 ht79
            replace hr47 := Tr.trans (Dw := Dw) hr47 ht79
            replace hr69 := Tr.trans (Dw := Dw) hr69 ht79
            replace hB := Nat.le_trans hB ht79.ex.size
            replace hA := ht79.new
            replace hH : Hp w.heap.size A34 w77 (obC b14 [.int .i64 x53.at_, .string x53.title, .string x53.body] 40 :: obC b9 [.int .i64 0, .string ByteArray.empty, .string ByteArray.empty] 40 :: []) := hH78
            refine V_y (Y_assign rfl) rfl rfl rfl ?_
            obtain rfl := Option.some.inj ho67
            refine V_end (fun a ha80 => ?_)
            exact ⟨A34, ha80.sub ⟨rfl, rfl, rfl, rfl, rfl, rfl, rfl, trivial⟩, ⟨hH, hr69⟩⟩
          · rw [if_neg (nt hc75)] at ho67
            obtain rfl := Option.some.inj ho67
            refine C_skip (fun a ha81 => ?_)
            exact ⟨A34, ha81.sub ⟨rfl, rfl, rfl, rfl, rfl, rfl, rfl, trivial⟩, ⟨hH, hr69⟩⟩
        rintro A73 w70 ⟨hH74, hk71⟩ a ha72
        replace h22 := Sl.tr (Dw := Dw) h22 hk71
        replace hK := Tr.trans (Dw := Dw) hK hk71
        replace hr25 := Tr.trans (Dw := Dw) hr25 hk71
        replace hr47 := Tr.trans (Dw := Dw) hr47 hk71
        replace hB := Nat.le_trans hB hk71.ex.size
        replace hA := hk71.new
        replace hH : Hp w.heap.size A73 w70 (obC b14 [.int .i64 s68.2.at_, .string s68.2.title, .string s68.2.body] 40 :: obC b9 [.int .i64 0, .string ByteArray.empty, .string ByteArray.empty] 40 :: []) := hH74
        obtain rfl := Option.some.inj ho45
        exact ⟨A73, ha72.sub ⟨rfl, rfl, rfl, rfl, rfl, rfl, rfl, trivial⟩, ⟨hH, hr47⟩⟩
      rintro A51 w48 ⟨hH52, hk49⟩ a ha50
      replace h22 := Sl.tr (Dw := Dw) h22 hk49
      replace hK := Tr.trans (Dw := Dw) hK hk49
      replace hr25 := Tr.trans (Dw := Dw) hr25 hk49
      replace hB := Nat.le_trans hB hk49.ex.size
      replace hA := hk49.new
      replace hH : Hp w.heap.size A51 w48 (obC b14 [.int .i64 s46.2.at_, .string s46.2.title, .string s46.2.body] 40 :: obC b9 [.int .i64 0, .string ByteArray.empty, .string ByteArray.empty] 40 :: []) := hH52
      refine C_at (n := ⟨30, [], none⟩) (fun _ _ => rfl) ?_ ha50
      refine C_region ?_
      refine V_y (Y_addI rfl rfl) rfl rfl rfl ?_
      refine V_y (Y_move rfl) rfl rfl rfl ?_
      obtain rfl := Option.some.inj h37
      refine V_end (fun a ha83 => ?_)
      exact ⟨(s46.1, s46.2), hlt40, h38, ⟨A51, ha83.sub ⟨rfl, rfl, rfl, rfl, rfl, rfl, (congrArg (fun z => some (Value.int .i64 z)) (w64_succ hlt40 hn43)), trivial⟩, ⟨hH, hr25⟩⟩⟩
    · refine C_exit (fun a ha84 => ?_)
      exact ⟨((s32.1, s32.2), A34), ha84.sub ⟨rfl, rfl, rfl, trivial⟩, ⟨(h41 (eq_of_dec hle39 hc44)).symm, hH, hr25⟩⟩
  rintro ⟨s24, A30⟩ w27 ⟨rfl, hH31, hk28⟩ a ha29
  rw [Lp.andThen_fin] at hm
  replace hK := Tr.trans (Dw := Dw) hK hk28
  replace hB := Nat.le_trans hB hk28.ex.size
  replace hA := hk28.new
  replace hH : Hp w.heap.size A30 w27 (obC b14 [.int .i64 s24.2.at_, .string s24.2.title, .string s24.2.body] 40 :: obC b9 [.int .i64 0, .string ByteArray.empty, .string ByteArray.empty] 40 :: []) := hH31
  refine C_at (n := ⟨30, [], none⟩) (fun _ _ => rfl) ?_ ha29
  refine C_seq ?_
  obtain ⟨A86, ht87, h88, hH89⟩ := Hp.freezeC (Dw := Dw) (α := know_Version) (x := s24.2) hH (i := 0) rfl hA (by exact ⟨[.int .i64 s24.2.at_], _, rfl, rfl, ⟨[.string s24.2.title], _, rfl, rfl, rfl⟩⟩)
  replace hK := Tr.trans (Dw := Dw) hK ht87
  replace hB := Nat.le_trans hB ht87.ex.size
  replace hA := ht87.new
  replace hH : Hp w.heap.size A86 w27 (obC b9 [.int .i64 0, .string ByteArray.empty, .string ByteArray.empty] 40 :: []) := hH89
  refine C_region_ch (Dw := Dw) A86 9 [(1, 0), (1, 1), (1, 2), (1, 3), (1, 4), (1, 5), (1, 6), (3, 7), (1, 8)] Tryz_mixed (by kernel_rfl) (fun w90 hk91 => ?_)
  have ht92 := Kp.tr (Dw := Dw) hk91 hA hB
  replace hH := Hp.kp (Dw := Dw) hH hk91
  replace h88 := El.tr (Dw := Dw) h88 ht92
  replace hK := Tr.trans (Dw := Dw) hK ht92
  replace hB := Nat.le_trans hB ht92.ex.size
  replace hA := ht92.new
  refine CH_q2 (Dw := Dw) rfl ?_
  obtain ⟨h93, _⟩ := El_know_Version h88
  refine VQ_y (fun w' hw' => Y_loadA (At.same h93 (hw'.2 _ h88.2.1 h88.1)) Tryz.isAgg40 Tryz.sizeOf40 rfl) rfl rfl rfl ?_
  refine VQ_CH (Dw := Dw) ?_
  refine CH_q2 (Dw := Dw) rfl ?_
  refine VQ_y (fun w' hw' => Y_move rfl) rfl rfl rfl ?_
  refine VQ_CH (Dw := Dw) ?_
  refine CH_q2 (Dw := Dw) rfl ?_
  refine VQ_y (fun w' hw' => Y_move rfl) rfl rfl rfl ?_
  refine VQ_CH (Dw := Dw) ?_
  rcases Bool.eq_false_or_eq_true (s24.1) with hc94 | hc94
  · rw [if_pos hc94] at hm
    refine CH_q2 (Dw := Dw) rfl ?_
    refine VQ_ge rfl rfl rfl hc94 ?_
    have h95 := El_know_Version_1 h88
    refine VQ_y (fun w' hw' => Y_fieldAddr Tryz.underlying40 rfl Tryz.sizeOf9 (by decide) rfl) rfl rfl rfl ?_
    refine VQ_CH (Dw := Dw) ?_
    refine CH_q2 (Dw := Dw) rfl ?_
    refine VQ_ge rfl rfl rfl hc94 ?_
    refine VQ_y (fun w' hw' => Y_load (El.str (El.keep h95 (XA.ex hw'))) Tryz.isAgg9 rfl) rfl rfl rfl ?_
    refine VQ_CH (Dw := Dw) ?_
    refine CH_q2 (Dw := Dw) rfl ?_
    refine VQ_ge rfl rfl rfl hc94 ?_
    refine VQ_y (fun w' hw' => Y_sneq rfl rfl) rfl rfl rfl ?_
    refine VQ_CH (Dw := Dw) ?_
    refine CH_q2 (Dw := Dw) rfl ?_
    refine VQ_y (fun _ _ => Y_pick_te rfl hc94 rfl) rfl rfl rfl ?_
    refine VQ_CH (Dw := Dw) ?_
    refine CH_l1 (Dw := Dw) (k := 1) rfl ?_
    refine V_storeC (Dw := Dw) (off := 0) (ds := [.int .i64 s24.2.at_, .string s24.2.title, .string s24.2.body]) hH (i := 0) rfl Tryz.sizeOf40 rfl (Nat.le_of_ble_eq_true rfl) (by simp [Value.cells, Value.oneCell']) rfl hB hA rfl rfl ?_
    intro w96 hH97 ht98
    replace h88 := El.tr (Dw := Dw) h88 ht98
    replace h95 := El.tr (Dw := Dw) h95 ht98
    replace hK := Tr.trans (Dw := Dw) hK ht98
    replace hB := Nat.le_trans hB ht98.ex.size
    replace hA := ht98.new
    replace hH : Hp w.heap.size A86 w96 (obC b9 [.int .i64 s24.2.at_, .string s24.2.title, .string s24.2.body] 40 :: []) := hH97
    refine V_CHx (Dw := Dw) (XA.tr (Dw := Dw) ht98) ?_
    refine CH_q2 (Dw := Dw) rfl ?_
    refine VQ_y (fun w' hw' => Y_assign rfl) rfl rfl rfl ?_
    refine VQ_CH (Dw := Dw) ?_
    refine CH_tail (Dw := Dw) ?_
    show V _ _ _ _ [] _ _
    refine V_to (fun _ _ => rfl) ?_
    obtain rfl := Option.some.inj hm
    refine C_ret ?_
    try simp only [↓inBlock_ret, ↓then_ret]
    exact retQ rfl (Res.l2 Tryz.results16 (RL.cell rfl (loadVar_agg (Hp.part (off := 0) (n := 3) (ds := [.int .i64 s24.2.at_, .string s24.2.title, .string s24.2.body]) hH (i := 0) rfl rfl) Tryz.isAgg40 Tryz.sizeOf40)) (RL.tmp rfl)) ⟨rfl, hK.kp⟩
  · rw [if_neg (nt hc94)] at hm
    refine CH_q2 (Dw := Dw) rfl ?_
    refine VQ_gn rfl rfl rfl hc94 rfl rfl rfl ?_
    refine VQ_CH (Dw := Dw) ?_
    refine CH_q2 (Dw := Dw) rfl ?_
    refine VQ_gn rfl rfl rfl hc94 rfl rfl rfl ?_
    refine VQ_CH (Dw := Dw) ?_
    refine CH_q2 (Dw := Dw) rfl ?_
    refine VQ_gn rfl rfl rfl hc94 rfl rfl rfl ?_
    refine VQ_CH (Dw := Dw) ?_
    refine CH_q2 (Dw := Dw) rfl ?_
    refine VQ_y (fun _ _ => Y_pick_fe rfl hc94 rfl) rfl rfl rfl ?_
    refine VQ_CH (Dw := Dw) ?_
    refine CH_l1 (Dw := Dw) (k := 1) rfl ?_
    refine V_storeC (Dw := Dw) (off := 0) (ds := [.int .i64 s24.2.at_, .string s24.2.title, .string s24.2.body]) hH (i := 0) rfl Tryz.sizeOf40 rfl (Nat.le_of_ble_eq_true rfl) (by simp [Value.cells, Value.oneCell']) rfl hB hA rfl rfl ?_
    intro w99 hH100 ht101
    replace h88 := El.tr (Dw := Dw) h88 ht101
    replace hK := Tr.trans (Dw := Dw) hK ht101
    replace hB := Nat.le_trans hB ht101.ex.size
    replace hA := ht101.new
    replace hH : Hp w.heap.size A86 w99 (obC b9 [.int .i64 s24.2.at_, .string s24.2.title, .string s24.2.body] 40 :: []) := hH100
    refine V_CHx (Dw := Dw) (XA.tr (Dw := Dw) ht101) ?_
    refine CH_q2 (Dw := Dw) rfl ?_
    refine VQ_y (fun w' hw' => Y_assign rfl) rfl rfl rfl ?_
    refine VQ_CH (Dw := Dw) ?_
    refine CH_tail (Dw := Dw) ?_
    show V _ _ _ _ [] _ _
    refine V_to (fun _ _ => rfl) ?_
    obtain rfl := Option.some.inj hm
    refine C_ret ?_
    try simp only [↓inBlock_ret, ↓then_ret]
    exact retQ rfl (Res.l2 Tryz.results16 (RL.cell rfl (loadVar_agg (Hp.part (off := 0) (n := 3) (ds := [.int .i64 s24.2.at_, .string s24.2.title, .string s24.2.body]) hH (i := 0) rfl rfl) Tryz.isAgg40 Tryz.sizeOf40)) (RL.tmp rfl)) ⟨rfl, hK.kp⟩

set_option maxRecDepth 4000 in
set_option maxHeartbeats 4000000 in
theorem portref2_isWordByte_c (w : World) (b : Int) : Ret Tryz.prog 27 #[.int .u8 b] w fun v w' => v = .bool (portref2_isWordByte b) ∧ w = w' := by
  generalize hm : portref2_isWordByte b = r
  unfold portref2_isWordByte at hm
  refine enter Tryz.func27 rfl Tryz.ntmps27 rfl ?_
  refine C_seq ?_
  refine C_region ?_
  refine V_y (Y_assign rfl) rfl rfl rfl ?_
  refine V_to (fun _ _ => rfl) ?_
  refine C_seq ?_
  refine C_region ?_
  refine V_y (Y_move rfl) rfl rfl rfl ?_
  refine V_y (Y_geq rfl rfl) rfl rfl rfl ?_
  refine V_y (Y_move rfl) rfl rfl rfl ?_
  refine V_cut 3 (fun _ : Unit => [(0, .int .u8 b), (8, .bool ((decide ((97 : Int) ≤ b)) && (decide (b ≤ 122))))]) (fun _ w' => w = w') ?_ ?_
  · simp only [List.take, List.drop]
    rcases Bool.eq_false_or_eq_true (decide ((97 : Int) ≤ b)) with hc1 | hc1
    · refine V_ge rfl rfl rfl hc1 ?_
      refine V_y (Y_move rfl) rfl rfl rfl ?_
      refine V_ge rfl rfl rfl hc1 ?_
      refine V_y (Y_leq rfl rfl) rfl rfl rfl ?_
      refine V_y (Y_pick_te rfl hc1 rfl) rfl rfl rfl ?_
      exact V_end fun a ha => ⟨(), ha.sub ⟨rfl, (by rw [hc1]; rfl), trivial⟩, rfl⟩
    · refine V_gn rfl rfl rfl hc1 rfl rfl rfl ?_
      refine V_gn rfl rfl rfl hc1 rfl rfl rfl ?_
      refine V_y (Y_pick_fe rfl hc1 rfl) rfl rfl rfl ?_
      exact V_end fun a ha => ⟨(), ha.sub ⟨rfl, (by rw [hc1]; rfl), trivial⟩, rfl⟩
  simp only [List.take, List.drop]
  rintro _ _ rfl
  refine V_y (Y_move rfl) rfl rfl rfl ?_
  refine V_cut 7 (fun _ : Unit => [(0, .int .u8 b), (16, .bool (((decide ((97 : Int) ≤ b)) && (decide (b ≤ 122))) || ((decide ((65 : Int) ≤ b)) && (decide (b ≤ 90)))))]) (fun _ w' => w = w') ?_ ?_
  · simp only [List.take, List.drop]
    rcases Bool.eq_false_or_eq_true (((decide ((97 : Int) ≤ b)) && (decide (b ≤ 122)))) with hc3 | hc3
    · refine V_gn rfl rfl rfl hc3 rfl rfl rfl ?_
      refine V_gn rfl rfl rfl hc3 rfl rfl rfl ?_
      refine V_gn rfl rfl rfl hc3 rfl rfl rfl ?_
      refine V_gu rfl rfl rfl rfl rfl ?_
      refine V_gu rfl rfl rfl rfl rfl ?_
      refine V_gn rfl rfl rfl hc3 rfl rfl rfl ?_
      refine V_y (Y_pick_te rfl hc3 rfl) rfl rfl rfl ?_
      exact V_end fun a ha => ⟨(), ha.sub ⟨rfl, (by rw [hc3]; rfl), trivial⟩, rfl⟩
    · refine V_ge rfl rfl rfl hc3 ?_
      refine V_y (Y_move rfl) rfl rfl rfl ?_
      refine V_ge rfl rfl rfl hc3 ?_
      refine V_y (Y_geq rfl rfl) rfl rfl rfl ?_
      refine V_ge rfl rfl rfl hc3 ?_
      refine V_y (Y_move rfl) rfl rfl rfl ?_
      refine V_cut 3 (fun _ : Unit => [(0, .int .u8 b), (9, .bool ((decide ((97 : Int) ≤ b)) && (decide (b ≤ 122)))), (15, .bool ((decide ((65 : Int) ≤ b)) && (decide (b ≤ 90))))]) (fun _ w' => w = w') ?_ ?_
      · simp only [List.take, List.drop]
        rcases Bool.eq_false_or_eq_true (decide ((65 : Int) ≤ b)) with hc5 | hc5
        · refine V_ge rfl rfl rfl hc5 ?_
          refine V_y (Y_move rfl) rfl rfl rfl ?_
          refine V_ge rfl rfl rfl hc5 ?_
          refine V_y (Y_leq rfl rfl) rfl rfl rfl ?_
          refine V_ge rfl rfl rfl hc3 ?_
          refine V_y (Y_pick_te rfl hc5 rfl) rfl rfl rfl ?_
          exact V_end fun a ha => ⟨(), ha.sub ⟨rfl, rfl, (by rw [hc5]; rfl), trivial⟩, rfl⟩
        · refine V_gn rfl rfl rfl hc5 rfl rfl rfl ?_
          refine V_gn rfl rfl rfl hc5 rfl rfl rfl ?_
          refine V_ge rfl rfl rfl hc3 ?_
          refine V_y (Y_pick_fe rfl hc5 rfl) rfl rfl rfl ?_
          exact V_end fun a ha => ⟨(), ha.sub ⟨rfl, rfl, (by rw [hc5]; rfl), trivial⟩, rfl⟩
      simp only [List.take, List.drop]
      rintro _ _ rfl
      refine V_y (Y_pick_fe rfl hc3 rfl) rfl rfl rfl ?_
      exact V_end fun a ha => ⟨(), ha.sub ⟨rfl, (by rw [hc3]; rfl), trivial⟩, rfl⟩
  simp only [List.take, List.drop]
  rintro _ _ rfl
  refine V_y (Y_move rfl) rfl rfl rfl ?_
  refine V_cut 7 (fun _ : Unit => [(0, .int .u8 b), (24, .bool ((((decide ((97 : Int) ≤ b)) && (decide (b ≤ 122))) || ((decide ((65 : Int) ≤ b)) && (decide (b ≤ 90)))) || ((decide ((48 : Int) ≤ b)) && (decide (b ≤ 57)))))]) (fun _ w' => w = w') ?_ ?_
  · simp only [List.take, List.drop]
    rcases Bool.eq_false_or_eq_true ((((decide ((97 : Int) ≤ b)) && (decide (b ≤ 122))) || ((decide ((65 : Int) ≤ b)) && (decide (b ≤ 90))))) with hc7 | hc7
    · refine V_gn rfl rfl rfl hc7 rfl rfl rfl ?_
      refine V_gn rfl rfl rfl hc7 rfl rfl rfl ?_
      refine V_gn rfl rfl rfl hc7 rfl rfl rfl ?_
      refine V_gu rfl rfl rfl rfl rfl ?_
      refine V_gu rfl rfl rfl rfl rfl ?_
      refine V_gn rfl rfl rfl hc7 rfl rfl rfl ?_
      refine V_y (Y_pick_te rfl hc7 rfl) rfl rfl rfl ?_
      exact V_end fun a ha => ⟨(), ha.sub ⟨rfl, (by rw [hc7]; rfl), trivial⟩, rfl⟩
    · refine V_ge rfl rfl rfl hc7 ?_
      refine V_y (Y_move rfl) rfl rfl rfl ?_
      refine V_ge rfl rfl rfl hc7 ?_
      refine V_y (Y_geq rfl rfl) rfl rfl rfl ?_
      refine V_ge rfl rfl rfl hc7 ?_
      refine V_y (Y_move rfl) rfl rfl rfl ?_
      refine V_cut 3 (fun _ : Unit => [(0, .int .u8 b), (17, .bool (((decide ((97 : Int) ≤ b)) && (decide (b ≤ 122))) || ((decide ((65 : Int) ≤ b)) && (decide (b ≤ 90))))), (23, .bool ((decide ((48 : Int) ≤ b)) && (decide (b ≤ 57))))]) (fun _ w' => w = w') ?_ ?_
      · simp only [List.take, List.drop]
        rcases Bool.eq_false_or_eq_true (decide ((48 : Int) ≤ b)) with hc9 | hc9
        · refine V_ge rfl rfl rfl hc9 ?_
          refine V_y (Y_move rfl) rfl rfl rfl ?_
          refine V_ge rfl rfl rfl hc9 ?_
          refine V_y (Y_leq rfl rfl) rfl rfl rfl ?_
          refine V_ge rfl rfl rfl hc7 ?_
          refine V_y (Y_pick_te rfl hc9 rfl) rfl rfl rfl ?_
          exact V_end fun a ha => ⟨(), ha.sub ⟨rfl, rfl, (by rw [hc9]; rfl), trivial⟩, rfl⟩
        · refine V_gn rfl rfl rfl hc9 rfl rfl rfl ?_
          refine V_gn rfl rfl rfl hc9 rfl rfl rfl ?_
          refine V_ge rfl rfl rfl hc7 ?_
          refine V_y (Y_pick_fe rfl hc9 rfl) rfl rfl rfl ?_
          exact V_end fun a ha => ⟨(), ha.sub ⟨rfl, rfl, (by rw [hc9]; rfl), trivial⟩, rfl⟩
      simp only [List.take, List.drop]
      rintro _ _ rfl
      refine V_y (Y_pick_fe rfl hc7 rfl) rfl rfl rfl ?_
      exact V_end fun a ha => ⟨(), ha.sub ⟨rfl, (by rw [hc7]; rfl), trivial⟩, rfl⟩
  simp only [List.take, List.drop]
  rintro _ _ rfl
  refine V_y (Y_move rfl) rfl rfl rfl ?_
  refine V_cut 3 (fun _ : Unit => [(28, .bool (((((decide ((97 : Int) ≤ b)) && (decide (b ≤ 122))) || ((decide ((65 : Int) ≤ b)) && (decide (b ≤ 90)))) || ((decide ((48 : Int) ≤ b)) && (decide (b ≤ 57)))) || (decide ((128 : Int) ≤ b))))]) (fun _ w' => w = w') ?_ ?_
  · simp only [List.take, List.drop]
    rcases Bool.eq_false_or_eq_true (((((decide ((97 : Int) ≤ b)) && (decide (b ≤ 122))) || ((decide ((65 : Int) ≤ b)) && (decide (b ≤ 90)))) || ((decide ((48 : Int) ≤ b)) && (decide (b ≤ 57))))) with hc11 | hc11
    · refine V_gn rfl rfl rfl hc11 rfl rfl rfl ?_
      refine V_gn rfl rfl rfl hc11 rfl rfl rfl ?_
      refine V_y (Y_pick_te rfl hc11 rfl) rfl rfl rfl ?_
      exact V_end fun a ha => ⟨(), ha.sub ⟨(by rw [hc11]; rfl), trivial⟩, rfl⟩
    · refine V_ge rfl rfl rfl hc11 ?_
      refine V_y (Y_move rfl) rfl rfl rfl ?_
      refine V_ge rfl rfl rfl hc11 ?_
      refine V_y (Y_geq rfl rfl) rfl rfl rfl ?_
      refine V_y (Y_pick_fe rfl hc11 rfl) rfl rfl rfl ?_
      exact V_end fun a ha => ⟨(), ha.sub ⟨(by rw [hc11]; rfl), trivial⟩, rfl⟩
  simp only [List.take, List.drop]
  rintro _ _ rfl
  refine V_y (Y_assign rfl) rfl rfl rfl ?_
  refine V_to (fun _ _ => rfl) ?_
  obtain rfl := hm
  refine C_ret ?_
  try simp only [↓inBlock_ret, ↓then_ret]
  exact retQ rfl (Res.one Tryz.results27 rfl) ⟨rfl, rfl⟩

set_option maxRecDepth 4000 in
set_option maxHeartbeats 4000000 in
theorem portref2_LinksOf_1_c (w : World) (b : Int) : Ret Tryz.prog 26 #[.int .u8 b] w fun v w' => v = .bool (portref2_LinksOf_1 b) ∧ w = w' := by
  generalize hm : portref2_LinksOf_1 b = r
  unfold portref2_LinksOf_1 at hm
  refine enter Tryz.func26 rfl Tryz.ntmps26 rfl ?_
  refine C_seq ?_
  refine C_region ?_
  refine V_y (Y_assign rfl) rfl rfl rfl ?_
  refine V_to (fun _ _ => rfl) ?_
  refine C_seq ?_
  refine C_region ?_
  refine V_y (Y_move rfl) rfl rfl rfl ?_
  refine V_y (Y_lss rfl rfl) rfl rfl rfl ?_
  refine V_y (Y_move rfl) rfl rfl rfl ?_
  refine V_cut 3 (fun _ : Unit => [(8, .bool ((decide (b < 128)) && (portref2_isWordByte b)))]) (fun _ w' => w = w') ?_ ?_
  · simp only [List.take, List.drop]
    rcases Bool.eq_false_or_eq_true (decide (b < 128)) with hc1 | hc1
    · refine V_ge rfl rfl rfl hc1 ?_
      refine V_y (Y_move rfl) rfl rfl rfl ?_
      refine V_ge rfl rfl rfl hc1 ?_
      refine V_call Tryz.call27 rfl rfl rfl rfl (portref2_isWordByte_c w b) ?_
      rintro _ _ ⟨rfl, rfl⟩
      refine V_y (Y_pick_te rfl hc1 rfl) rfl rfl rfl ?_
      exact V_end fun a ha => ⟨(), ha.sub ⟨(by rw [hc1]; rfl), trivial⟩, rfl⟩
    · refine V_gn rfl rfl rfl hc1 rfl rfl rfl ?_
      refine V_gn rfl rfl rfl hc1 rfl rfl rfl ?_
      refine V_y (Y_pick_fe rfl hc1 rfl) rfl rfl rfl ?_
      exact V_end fun a ha => ⟨(), ha.sub ⟨(by rw [hc1]; rfl), trivial⟩, rfl⟩
  simp only [List.take, List.drop]
  rintro _ _ rfl
  refine V_y (Y_assign rfl) rfl rfl rfl ?_
  refine V_to (fun _ _ => rfl) ?_
  obtain rfl := hm
  refine C_ret ?_
  try simp only [↓inBlock_ret, ↓then_ret]
  exact retQ rfl (Res.one Tryz.results26 rfl) ⟨rfl, rfl⟩

def Tryz_strconv_Atoi_lay_ren : Go.Shelf.Ren := ⟨fun | 129 => 50 | 171 => 76 | 172 => 28 | 205 => 75 | 243 => 88 | 244 => 36 | 245 => 37 | 246 => 95 | 247 => 54 | 279 => 55 | 280 => 56 | 281 => 57 | 282 => 58 | 283 => 98 | 284 => 99 | 285 => 100 | 286 => 101 | 287 => 73 | 316 => 74 | 317 => 102 | 318 => 103 | 319 => 104 | 320 => 105 | 321 => 86 | 322 => 87 | 337 => 106 | 338 => 107 | n => n, fun | 0 => 0 | 1 => 1 | 2 => 2 | 3 => 3 | 4 => 4 | 5 => 5 | 6 => 6 | 7 => 7 | 8 => 8 | 9 => 9 | 10 => 10 | 11 => 11 | 12 => 12 | 13 => 13 | 14 => 14 | 15 => 15 | 16 => 16 | 17 => 17 | 18 => 18 | 19 => 19 | 20 => 20 | 21 => 21 | 27 => 99 | 28 => 23 | 31 => 57 | 34 => 27 | 35 => 50 | 37 => 85 | 40 => 82 | 41 => 49 | 46 => 62 | 47 => 61 | 51 => 78 | 52 => 77 | 53 => 80 | 54 => 79 | 55 => 120 | 61 => 66 | 65 => 83 | 66 => 64 | 68 => 58 | 69 => 109 | 70 => 100 | 71 => 101 | 72 => 102 | 73 => 103 | 74 => 53 | 75 => 54 | 76 => 55 | 77 => 56 | 80 => 106 | 81 => 151 | 83 => 113 | 84 => 134 | 85 => 86 | 86 => 87 | 103 => 119 | 104 => 63 | 105 => 104 | 106 => 105 | 108 => 112 | 111 => 35 | 112 => 73 | 113 => 91 | 114 => 129 | 119 => 130 | 127 => 121 | 128 => 65 | 131 => 75 | 134 => 60 | 137 => 131 | 138 => 132 | 139 => 133 | 143 => 123 | 144 => 124 | 145 => 125 | 146 => 135 | 150 => 114 | 151 => 136 | 155 => 118 | 164 => 126 | 165 => 127 | 166 => 128 | 167 => 84 | 168 => 88 | 169 => 89 | 170 => 90 | 171 => 137 | 172 => 138 | 173 => 139 | 174 => 140 | 175 => 107 | 176 => 108 | 181 => 68 | 182 => 69 | 183 => 70 | 184 => 71 | 185 => 72 | 186 => 74 | 187 => 76 | 209 => 110 | 210 => 111 | 211 => 141 | 212 => 142 | 213 => 143 | 214 => 122 | 218 => 92 | 219 => 93 | 220 => 94 | 221 => 95 | 222 => 96 | 223 => 97 | 228 => 115 | 229 => 116 | 230 => 117 | 232 => 144 | 233 => 145 | 238 => 146 | 239 => 147 | 240 => 148 | 241 => 149 | 242 => 150 | 243 => 152 | 244 => 153 | 245 => 154 | 246 => 155 | 247 => 156 | 248 => 157 | 249 => 158 | n => n, fun | 1 => 2 | 3 => 3 | 4 => 4 | 15 => 0 | 16 => 1 | 17 => 5 | 18 => 6 | 19 => 7 | n => n⟩
theorem Tryz_strconv_Atoi_laym0 : Go.Proofs.Lays.n172 Tryz.prog Tryz_strconv_Atoi_lay_ren := {
  mixed := by kernel_rfl,
  f129 := Tryz.func50.trans (congrArg some (by kernel_rfl)),
  f171 := Tryz.func76.trans (congrArg some (by kernel_rfl)),
  f172 := Tryz.func28.trans (congrArg some (by kernel_rfl)),
  f205 := Tryz.func75.trans (congrArg some (by kernel_rfl)),
  f243 := Tryz.func88.trans (congrArg some (by kernel_rfl)),
  f244 := Tryz.func36.trans (congrArg some (by kernel_rfl)),
  f245 := Tryz.func37.trans (congrArg some (by kernel_rfl)),
  f246 := Tryz.func95.trans (congrArg some (by kernel_rfl)),
  f247 := Tryz.func54.trans (congrArg some (by kernel_rfl)),
  f279 := Tryz.func55.trans (congrArg some (by kernel_rfl)),
  f280 := Tryz.func56.trans (congrArg some (by kernel_rfl)),
  f281 := Tryz.func57.trans (congrArg some (by kernel_rfl)),
  f282 := Tryz.func58.trans (congrArg some (by kernel_rfl)),
  f283 := Tryz.func98.trans (congrArg some (by kernel_rfl)),
  f284 := Tryz.func99.trans (congrArg some (by kernel_rfl)),
  f285 := Tryz.func100.trans (congrArg some (by kernel_rfl)),
  f286 := Tryz.func101.trans (congrArg some (by kernel_rfl)),
  f287 := Tryz.func73.trans (congrArg some (by kernel_rfl)),
  f316 := Tryz.func74.trans (congrArg some (by kernel_rfl)),
  f317 := Tryz.func102.trans (congrArg some (by kernel_rfl)),
  f318 := Tryz.func103.trans (congrArg some (by kernel_rfl)),
  f319 := Tryz.func104.trans (congrArg some (by kernel_rfl)),
  f320 := Tryz.func105.trans (congrArg some (by kernel_rfl)),
  f321 := Tryz.func86.trans (congrArg some (by kernel_rfl)),
  f322 := Tryz.func87.trans (congrArg some (by kernel_rfl)),
  f337 := Tryz.func106.trans (congrArg some (by kernel_rfl)),
  f338 := Tryz.func107.trans (congrArg some (by kernel_rfl)),
  t0 := Tryz.underlying0,
  a0 := Tryz.isAgg0,
  z0 := Tryz.sizeOf0,
  v0 := Tryz.zeroValue0,
  t2 := Tryz.underlying2,
  a2 := Tryz.isAgg2,
  z2 := Tryz.sizeOf2,
  v2 := Tryz.zeroValue2,
  t3 := Tryz.underlying3,
  a3 := Tryz.isAgg3,
  z3 := Tryz.sizeOf3,
  v3 := Tryz.zeroValue3,
  t4 := Tryz.underlying4,
  a4 := Tryz.isAgg4,
  z4 := Tryz.sizeOf4,
  v4 := Tryz.zeroValue4,
  t5 := Tryz.underlying5,
  a5 := Tryz.isAgg5,
  z5 := Tryz.sizeOf5,
  v5 := Tryz.zeroValue5,
  t9 := Tryz.underlying9,
  a9 := Tryz.isAgg9,
  z9 := Tryz.sizeOf9,
  v9 := Tryz.zeroValue9,
  t20 := Tryz.underlying20,
  a20 := Tryz.isAgg20,
  z20 := Tryz.sizeOf20,
  v20 := Tryz.zeroValue20,
  t21 := Tryz.underlying21,
  a21 := Tryz.isAgg21,
  z21 := Tryz.sizeOf21,
  v21 := Tryz.zeroValue21,
  t37 := Tryz.underlying85,
  a37 := Tryz.isAgg85,
  z37 := Tryz.sizeOf85,
  v37 := Tryz.zeroValue85,
  t46 := Tryz.underlying62,
  a46 := Tryz.isAgg62,
  z46 := Tryz.sizeOf62,
  v46 := Tryz.zeroValue62,
  t51 := Tryz.underlying78,
  a51 := Tryz.isAgg78,
  z51 := Tryz.sizeOf78,
  v51 := Tryz.zeroValue78,
  t53 := Tryz.underlying80,
  a53 := Tryz.isAgg80,
  z53 := Tryz.sizeOf80,
  v53 := Tryz.zeroValue80,
  t75 := Tryz.underlying54,
  a75 := Tryz.isAgg54,
  z75 := Tryz.sizeOf54,
  v75 := Tryz.zeroValue54,
  t76 := Tryz.underlying55,
  a76 := Tryz.isAgg55,
  z76 := Tryz.sizeOf55,
  v76 := Tryz.zeroValue55,
  t85 := Tryz.underlying86,
  a85 := Tryz.isAgg86,
  z85 := Tryz.sizeOf86,
  v85 := Tryz.zeroValue86,
  t127 := Tryz.underlying121,
  a127 := Tryz.isAgg121,
  z127 := Tryz.sizeOf121,
  v127 := Tryz.zeroValue121,
  t143 := Tryz.underlying123,
  a143 := Tryz.isAgg123,
  z143 := Tryz.sizeOf123,
  v143 := Tryz.zeroValue123,
  t145 := Tryz.underlying125,
  a145 := Tryz.isAgg125,
  z145 := Tryz.sizeOf125,
  v145 := Tryz.zeroValue125,
  t167 := Tryz.underlying84,
  a167 := Tryz.isAgg84,
  z167 := Tryz.sizeOf84,
  v167 := Tryz.zeroValue84,
  t168 := Tryz.underlying88,
  a168 := Tryz.isAgg88,
  z168 := Tryz.sizeOf88,
  v168 := Tryz.zeroValue88,
  t171 := Tryz.underlying137,
  a171 := Tryz.isAgg137,
  z171 := Tryz.sizeOf137,
  v171 := Tryz.zeroValue137,
  t173 := Tryz.underlying139,
  a173 := Tryz.isAgg139,
  z173 := Tryz.sizeOf139,
  v173 := Tryz.zeroValue139,
  t175 := Tryz.underlying107,
  a175 := Tryz.isAgg107,
  z175 := Tryz.sizeOf107,
  v175 := Tryz.zeroValue107,
  t210 := Tryz.underlying111,
  a210 := Tryz.isAgg111,
  z210 := Tryz.sizeOf111,
  v210 := Tryz.zeroValue111,
  t212 := Tryz.underlying142,
  a212 := Tryz.isAgg142,
  z212 := Tryz.sizeOf142,
  v212 := Tryz.zeroValue142,
  t213 := Tryz.underlying143,
  a213 := Tryz.isAgg143,
  z213 := Tryz.sizeOf143,
  t232 := Tryz.underlying144,
  a232 := Tryz.isAgg144,
  z232 := Tryz.sizeOf144,
  v232 := Tryz.zeroValue144,
  t233 := Tryz.underlying145,
  a233 := Tryz.isAgg145,
  z233 := Tryz.sizeOf145,
  v233 := Tryz.zeroValue145,
  g15 := by kernel_rfl,
  g16 := by kernel_rfl,
  g17 := by kernel_rfl,
  g18 := by kernel_rfl,
  g19 := by kernel_rfl }
theorem Tryz_strconv_Atoi_laym : Go.Proofs.LaysM.n172 Tryz.prog Tryz_strconv_Atoi_lay_ren := { Tryz_strconv_Atoi_laym0 with
  t80 := Tryz.underlying106,
  a80 := Tryz.isAgg106,
  z80 := Tryz.sizeOf106,
  v80 := Tryz.zeroValue106,
  i0 := by kernel_rfl,
  i2 := by kernel_rfl,
  i3 := by kernel_rfl,
  i4 := by kernel_rfl,
  i5 := by kernel_rfl,
  i9 := by kernel_rfl,
  i20 := by kernel_rfl,
  i21 := by kernel_rfl,
  i37 := by kernel_rfl,
  i46 := by kernel_rfl,
  i51 := by kernel_rfl,
  i53 := by kernel_rfl,
  i75 := by kernel_rfl,
  i76 := by kernel_rfl,
  i80 := by kernel_rfl,
  i85 := by kernel_rfl,
  i127 := by kernel_rfl,
  i143 := by kernel_rfl,
  i145 := by kernel_rfl,
  i167 := by kernel_rfl,
  i168 := by kernel_rfl,
  i171 := by kernel_rfl,
  i173 := by kernel_rfl,
  i175 := by kernel_rfl,
  i210 := by kernel_rfl,
  i212 := by kernel_rfl,
  i232 := by kernel_rfl,
  i233 := by kernel_rfl,
  m15 := by kernel_rfl,
  m16 := by kernel_rfl,
  m17 := by kernel_rfl,
  m18 := by kernel_rfl,
  m19 := by kernel_rfl }
theorem Tryz_strconv_Atoi_lay : Go.Proofs.LaysC.n172 Tryz.prog Tryz_strconv_Atoi_lay_ren := { Tryz_strconv_Atoi_laym with
  c0 := by kernel_rfl,
  c2 := by kernel_rfl,
  c3 := by kernel_rfl,
  c4 := by kernel_rfl,
  c5 := by kernel_rfl,
  c9 := by kernel_rfl,
  c20 := by kernel_rfl,
  c21 := by kernel_rfl,
  c37 := by kernel_rfl,
  c46 := by kernel_rfl,
  c51 := by kernel_rfl,
  c53 := by kernel_rfl,
  c75 := by kernel_rfl,
  c76 := by kernel_rfl,
  c80 := by kernel_rfl,
  c85 := by kernel_rfl,
  c127 := by kernel_rfl,
  c143 := by kernel_rfl,
  c145 := by kernel_rfl,
  c167 := by kernel_rfl,
  c168 := by kernel_rfl,
  c171 := by kernel_rfl,
  c173 := by kernel_rfl,
  c175 := by kernel_rfl,
  c210 := by kernel_rfl,
  c212 := by kernel_rfl,
  c213 := by kernel_rfl,
  c232 := by kernel_rfl,
  c233 := by kernel_rfl }
theorem strconv_Atoi_c (w : World) {A : Nat → Prop} (hA : ∀ b, w.heap.size ≤ b → A b) (hT : Er Tryz.prog 0 A w ∧ Er Tryz.prog 1 A w) (s : ByteArray) {r : Int × Bool} (hm : strconv_Atoi s = some r) : Ret Tryz.prog 28 #[.string s] w fun v w' => ∃ ev, v = .tuple #[.int .i64 r.1, ev] ∧ ErV ev r.2 ∧ Kp False w w' := by
  unfold strconv_Atoi at hm
  split at hm
  case isFalse => cases hm
  rename_i hs
  obtain rfl := Option.some.inj hm
  obtain ⟨⟨⟨t1, p1, hc1⟩, _, _⟩, ⟨t2, p2, hc2⟩, _, _⟩ := hT
  rcases h : Go.Lib.atoiAll s.data.toList with v | _ | _
  · refine Calls.mono (Go.Proofs.Any.strconv_Atoi_ok Tryz_strconv_Atoi_lay s (by omega) v h w) ?_
    rintro _ w' ⟨rfl, hk⟩
    refine ⟨_, rfl, _, rfl, rfl, ?_⟩
    rcases hk with rfl | ⟨t, rfl⟩
    · exact Kp.refl (Dw := False) _
    · exact .of (Go.Lib.bytesWorld_below w _ t)
  · refine Calls.mono (Go.Proofs.Any.strconv_Atoi_syntax Tryz_strconv_Atoi_lay s hs h (.iface t1 p1) w hc1 (.inr ⟨t1, p1, rfl⟩)) ?_
    rintro _ w' ⟨N, rfl, _, _, hb⟩
    exact ⟨_, rfl, _, rfl, ⟨_, _, rfl⟩, .of hb⟩
  · refine Calls.mono (Go.Proofs.Any.strconv_Atoi_range Tryz_strconv_Atoi_lay s hs h (.iface t2 p2) w hc2 (.inr ⟨t2, p2, rfl⟩)) ?_
    rintro _ w' ⟨N, rfl, _, _, hb⟩
    exact ⟨_, rfl, _, rfl, ⟨_, _, rfl⟩, .of hb⟩

end Go.Proofs.YteoinebegjpodaaGreatDoor.W
