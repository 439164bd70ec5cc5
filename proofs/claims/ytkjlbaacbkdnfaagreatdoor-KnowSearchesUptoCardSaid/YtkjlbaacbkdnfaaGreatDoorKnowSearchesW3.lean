/-
  Written by program (gen.py) from the IR of the dump: each function computes its model.
-/
import Derived.Test.YtkjlbaacbkdnfaaGreatDoorKnowSearchesW2
namespace Go.Proofs.YtkjlbaacbkdnfaaGreatDoor.W
open Go Go.RowKit Go.Pu Go.Gw Go.Proofs Go.Proofs.YtkjlbaacbkdnfaaGreatDoor.M
set_option linter.unusedVariables false
set_option linter.unusedSimpArgs false
variable {Dw : Prop}

set_option maxRecDepth 4000 in
set_option maxHeartbeats 4000000 in
theorem know_Search_c (w : World) {A : Nat → Prop} (hA : ∀ b, w.heap.size ≤ b → A b) (x : know_Index) (v_x0 : Value) (h_x0 : Sl A w v_x0 x.ids) (v_x1 : Value) (h_x1 : Sl A w v_x1 x.sizes) (v_x2 : Value) (h_x2 : Sl A w v_x2 x.terms) (q : know_Query) (v_q : Value) (h_q : Sl A w v_q q.parts) (most : Int) {r : ((List know_Hit) × Int)} (hm : know_Search x q most = some r) : Ret Tryz.prog 4 #[.agg #[v_x0, v_x1, v_x2], .agg #[v_q], .int .i64 most] w fun v w' => ∃ s0, v = .tuple #[s0, .int .i64 r.2] ∧ Ownd 35 w w' s0 r.1 ∧ Kp False w w' := by
 unfold know_Search at hm
 refine enter Tryz.func4 rfl Tryz.ntmps4 rfl ?_
 have hA0 := hA
 have hB := Nat.le_refl w.heap.size
 have hK : Tr False w.heap.size A w A w := Tr.refl (Dw := False) hA
 have hH : Hp w.heap.size A w [] := Hp.nil
 refine C_seq ?_
 refine C_region ?_
 refine V_box rfl rfl ?_
 intro b9 w10 h11
 have hk13 := h11.kp (Dw := False)
 have h12 : El (α := know_Index) A w10 b9 0 x := h11.el hA ⟨[v_x0], _, rfl, ⟨_, rfl, h_x0⟩, ⟨[v_x1], _, rfl, ⟨_, rfl, h_x1⟩, ⟨_, rfl, h_x2⟩⟩⟩
 have ht14 := Kp.tr (Dw := False) hk13 hA hB
 replace hH := Hp.kp (Dw := False) hH hk13
 replace h_q := Sl.tr (Dw := False) h_q ht14
 replace hK := Tr.trans (Dw := False) hK ht14
 replace hB := Nat.le_trans hB ht14.ex.size
 replace hA := ht14.new
 refine V_box rfl rfl ?_
 intro b15 w17 h18
 have hk20 := h18.kp (Dw := False)
 have h19 : El (α := know_Query) A w17 b15 0 q := h18.el hA ⟨_, rfl, h_q⟩
 have ht21 := Kp.tr (Dw := False) hk20 hA hB
 replace hH := Hp.kp (Dw := False) hH hk20
 replace h12 := El.tr (Dw := False) h12 ht21
 replace hK := Tr.trans (Dw := False) hK ht21
 replace hB := Nat.le_trans hB ht21.ex.size
 replace hA := ht21.new
 refine V_as rfl rfl ?_
 refine V_as rfl rfl ?_
 refine V_to (fun _ _ => rfl) ?_
 refine C_seq ?_
 refine C_seq ?_
 refine C_region ?_
 obtain ⟨v22, v24, v26, h28, h23, h25, h27⟩ := El_know_Index h12
 refine V_y (Y_loadA h28 Tryz.isAgg25 Tryz.sizeOf25 rfl) rfl rfl rfl ?_
 obtain ⟨x29, hx29, hm⟩ := Option.bind_eq_some_iff.1 hm
 refine V_call Tryz.call7 rfl rfl rfl rfl (know_CheckIndex_c (Dw := False) w17 hA x v22 h23 v24 h25 v26 h27 hx29) ?_
 rintro _ w30 ⟨rfl, hk31⟩
 have ht32 := Kp.tr (Dw := False) hk31 hA hB
 replace hH := Hp.kp (Dw := False) hH hk31
 replace h12 := El.tr (Dw := False) h12 ht32
 replace h19 := El.tr (Dw := False) h19 ht32
 replace hK := Tr.trans (Dw := False) hK ht32
 replace hB := Nat.le_trans hB ht32.ex.size
 replace hA := ht32.new
 refine V_as rfl rfl ?_
 refine V_to (fun _ _ => rfl) ?_
 refine C_seq ?_
 refine C_region ?_
 refine V_mv rfl rfl ?_
 refine V_y (Y_neq rfl rfl) rfl rfl rfl ?_
 refine V_to (fun _ _ => rfl) ?_
 refine C_cond rfl (fun hc33 => ?_) (fun hc33 => ?_)
 ·rw [if_pos hc33] at hm
  refine C_seq ?_
  refine C_region ?_
  refine V_mv rfl rfl ?_
  refine V_as rfl rfl ?_
  refine V_as rfl rfl ?_
  refine V_to (fun _ _ => rfl) ?_
  obtain rfl := Option.some.inj hm
  replace hH : Hp w.heap.size A w30 (obS (α := know_Hit) 35 (.slice none 0 0) ([] : (List know_Hit)) :: []) := Hp.addNil (α := know_Hit) (e := 35) hH
  refine C_ret ?_
  try simp only [↓inBlock_ret, ↓then_ret]
  exact retQ rfl (Res.two Tryz.results4 rfl rfl) ⟨.slice none 0 0, rfl, (Hp.ownd hH (i := 0) rfl), hK.kp⟩
 ·rw [if_neg (nt hc33)] at hm
  refine C_skip_to (fun _ _ => rfl) ?_
  refine C_seq ?_
  refine C_seq ?_
  refine C_region ?_
  obtain ⟨v34, h36, h35⟩ := El_know_Query h19
  refine V_y (Y_loadA h36 Tryz.isAgg28 Tryz.sizeOf28 rfl) rfl rfl rfl ?_
  obtain ⟨x37, hx37, hm⟩ := Option.bind_eq_some_iff.1 hm
  refine V_call Tryz.call8 rfl rfl rfl rfl (know_QueryText_c w30 hA q v34 h35 hx37) ?_
  rintro _ w38 ⟨rfl, hk39⟩
  have ht40 := Kp.tr (Dw := False) hk39 hA hB
  replace hH := Hp.kp (Dw := False) hH hk39
  replace h12 := El.tr (Dw := False) h12 ht40
  replace h19 := El.tr (Dw := False) h19 ht40
  replace hK := Tr.trans (Dw := False) hK ht40
  replace hB := Nat.le_trans hB ht40.ex.size
  replace hA := ht40.new
  refine V_mv rfl rfl ?_
  refine V_y (Y_extract rfl rfl) rfl rfl rfl ?_
  refine V_y (Y_extract rfl rfl) rfl rfl rfl ?_
  refine V_as rfl rfl ?_
  refine V_as rfl rfl ?_
  refine V_to (fun _ _ => rfl) ?_
  refine C_seq ?_
  refine C_region ?_
  refine V_mv rfl rfl ?_
  refine V_y (Y_neq rfl rfl) rfl rfl rfl ?_
  refine V_to (fun _ _ => rfl) ?_
  refine C_cond rfl (fun hc41 => ?_) (fun hc41 => ?_)
  ·rw [if_pos hc41] at hm
   refine C_seq ?_
   refine C_region ?_
   refine V_mv rfl rfl ?_
   refine V_as rfl rfl ?_
   refine V_as rfl rfl ?_
   refine V_to (fun _ _ => rfl) ?_
   obtain rfl := Option.some.inj hm
   replace hH : Hp w.heap.size A w38 (obS (α := know_Hit) 35 (.slice none 0 0) ([] : (List know_Hit)) :: []) := Hp.addNil (α := know_Hit) (e := 35) hH
   refine C_ret ?_
   try simp only [↓inBlock_ret, ↓then_ret]
   exact retQ rfl (Res.two Tryz.results4 rfl rfl) ⟨.slice none 0 0, rfl, (Hp.ownd hH (i := 0) rfl), hK.kp⟩
  ·rw [if_neg (nt hc41)] at hm
   refine C_skip_to (fun _ _ => rfl) ?_
   refine C_seq ?_
   refine C_seq ?_
   refine C_region ?_
   refine V_mv rfl rfl ?_
   refine V_call Tryz.call9 rfl rfl rfl rfl (know_within_c w38 most 0 100) ?_
   rintro _ _ ⟨rfl, rfl⟩
   refine V_y (Y_not rfl) rfl rfl rfl ?_
   refine V_to (fun _ _ => rfl) ?_
   refine C_cond rfl (fun hc42 => ?_) (fun hc42 => ?_)
   ·rw [if_pos hc42] at hm
    refine C_seq ?_
    refine C_region ?_
    refine V_as rfl rfl ?_
    refine V_as rfl rfl ?_
    refine V_to (fun _ _ => rfl) ?_
    obtain rfl := Option.some.inj hm
    replace hH : Hp w.heap.size A w38 (obS (α := know_Hit) 35 (.slice none 0 0) ([] : (List know_Hit)) :: []) := Hp.addNil (α := know_Hit) (e := 35) hH
    refine C_ret ?_
    try simp only [↓inBlock_ret, ↓then_ret]
    exact retQ rfl (Res.two Tryz.results4 rfl rfl) ⟨.slice none 0 0, rfl, (Hp.ownd hH (i := 0) rfl), hK.kp⟩
   ·rw [if_neg (nt hc42)] at hm
    refine C_skip_to (fun _ _ => rfl) ?_
    refine C_seq ?_
    refine C_seq ?_
    refine C_region ?_
    have h43 := El_know_Query_0 h19
    refine V_y (Y_fieldAddr Tryz.underlying28 rfl Tryz.sizeOf26 (by decide) rfl) rfl rfl rfl ?_
    obtain ⟨v44, h45, h46⟩ := El.list h43
    refine V_y (Y_load h45 Tryz.isAgg26 rfl) rfl rfl rfl ?_
    obtain ⟨x48, hx48, hm⟩ := Option.bind_eq_some_iff.1 hm
    refine V_call Tryz.call10 rfl rfl rfl rfl (slices_ContainsFunc_Lknow_Part_know_Part_c (Dw := False) w38 hA q.parts v44 h46 (fun y58 => know_Search_1 y58) 11 #[] #[] Tryz.call11 (fun w54 A55 ht56 h57 y49 v50 h51 r52 h53 => (know_Search_1_c (Dw := False) w54 h57 y49 v50 h51  h53).mono (fun _ _ h => ⟨h.1, h.2⟩)) hx48) ?_
    rintro _ w59 ⟨rfl, hk60⟩
    have ht61 := Kp.tr (Dw := False) hk60 hA hB
    replace hH := Hp.kp (Dw := False) hH hk60
    replace h12 := El.tr (Dw := False) h12 ht61
    replace h19 := El.tr (Dw := False) h19 ht61
    replace hK := Tr.trans (Dw := False) hK ht61
    replace hB := Nat.le_trans hB ht61.ex.size
    replace hA := ht61.new
    refine V_y (Y_not rfl) rfl rfl rfl ?_
    refine V_to (fun _ _ => rfl) ?_
    refine C_cond rfl (fun hc62 => ?_) (fun hc62 => ?_)
    ·rw [if_pos hc62] at hm
     refine C_seq ?_
     refine C_region ?_
     refine V_as rfl rfl ?_
     refine V_as rfl rfl ?_
     refine V_to (fun _ _ => rfl) ?_
     obtain rfl := Option.some.inj hm
     replace hH : Hp w.heap.size A w59 (obS (α := know_Hit) 35 (.slice none 0 0) ([] : (List know_Hit)) :: []) := Hp.addNil (α := know_Hit) (e := 35) hH
     refine C_ret ?_
     try simp only [↓inBlock_ret, ↓then_ret]
     exact retQ rfl (Res.two Tryz.results4 rfl rfl) ⟨.slice none 0 0, rfl, (Hp.ownd hH (i := 0) rfl), hK.kp⟩
    ·rw [if_neg (nt hc62)] at hm
     refine C_skip_to (fun _ _ => rfl) ?_
     refine C_seq ?_
     refine C_region ?_
     refine V_as rfl rfl ?_
     refine V_to (fun _ _ => rfl) ?_
     refine C_seq ?_
     refine C_seq ?_
     refine C_region ?_
     have h63 := El_know_Query_0 h19
     refine V_y (Y_fieldAddr Tryz.underlying28 rfl Tryz.sizeOf26 (by decide) rfl) rfl rfl rfl ?_
     obtain ⟨v64, h65, h66⟩ := El.list h63
     refine V_y (Y_load h65 Tryz.isAgg26 rfl) rfl rfl rfl ?_
     refine V_y (Y_lenSl h66 rfl Tryz.underlying26 rfl) rfl rfl rfl ?_
     refine V_mv rfl rfl ?_
     refine V_to (fun _ _ => rfl) ?_
     replace hH : Hp w.heap.size A w59 (obS (α := (List know_Term)) 23 (.slice none 0 0) ([] : (List (List know_Term))) :: []) := Hp.addNil (α := (List know_Term)) (e := 23) hH
     have hn91 := Sl.le h66
     obtain ⟨o67, ho67, hm⟩ := Option.bind_eq_some_iff.1 hm
     refine C_cutG (ι := ((List (List know_Term)) × Value × (Nat → Prop))) (fun ⟨s68, v74, A76⟩ => [(2, .int .i64 most), (3, .pointer (some ⟨b9, 0, none⟩)), (4, .pointer (some ⟨b15, 0, none⟩)), (11, v74)]) (fun ⟨s68, v74, A76⟩ => fun w' => o67 = .fin s68 ∧ Hp w.heap.size A76 w' (obS (α := (List know_Term)) 23 v74 s68 :: []) ∧ Tr False w.heap.size A w59 A76 w') ?_ ?_
     ·refine C_block ?_
      refine C_range ho67 (fun k70 s78 a w' => ∃ i : (Value × (Nat → Prop)), Has ⟨117, [], none⟩ a ([(2, .int .i64 most), (3, .pointer (some ⟨b9, 0, none⟩)), (4, .pointer (some ⟨b15, 0, none⟩)), (11, i.1), (44, v64), (45, .int .i64 (q.parts.length : Int)), (46, .int .i64 (k70 : Int))]) ∧ Hp w.heap.size i.2 w' (obS (α := (List know_Term)) 23 i.1 s78 :: []) ∧ Tr False w.heap.size A w59 i.2 w') (fun a ha => ⟨(.slice none 0 0, A), ha.sub ⟨rfl, rfl, rfl, rfl, rfl, rfl, rfl, trivial⟩, ⟨hH, Tr.refl (Dw := False) hA⟩⟩) ?_
      rintro K k70 s78 a w79 ⟨⟨v80, A82⟩, ha149, hH83, hr69⟩ hle87 K90 h89
      refine C_of ?_ ha149
      replace h12 := El.tr (Dw := False) h12 hr69
      replace h66 := Sl.tr (Dw := False) h66 hr69
      replace hB := Nat.le_trans hB hr69.ex.size
      replace hA := hr69.new
      replace hH : Hp w.heap.size A82 w79 (obS (α := (List know_Term)) 23 v80 s78 :: []) := hH83
      refine C_seq (C_region (V_y (Y_lss rfl rfl) rfl rfl rfl (V_to (fun _ _ => rfl) ?_)))
      refine C_seq ?_
      refine C_cond rfl (fun hc92 => ?_) (fun hc92 => ?_)
      ·have hlt88 := lt_of_dec hc92
       obtain ⟨x84, h85, h86⟩ := K90 hlt88
       refine C_skip_to (fun _ _ => rfl) ?_
       refine C_seq ?_
       refine C_block ?_
       refine C_seq ?_
       refine C_region ?_
       obtain ⟨x93, hx93, h85⟩ := Option.bind_eq_some_iff.1 h85
       refine V_indexAddr h66 hx93 Tryz.underlying26 Tryz.sizeOf44 rfl rfl rfl ?_
       intro b94 o95 h96
       obtain ⟨v97, h99, h98⟩ := El_know_Part h96
       refine V_y (Y_loadA h99 Tryz.isAgg44 Tryz.sizeOf44 rfl) rfl rfl rfl ?_
       refine V_alloc Tryz.zeroValue44 rfl ?_
       intro b100 w101 h102
       have h107 : (v97).oneCell' = true := by obtain ⟨_, _, e, _⟩ := Sl.form h98; rw [e]; rfl
       refine V_storeNew h102 Tryz.sizeOf44 rfl rfl rfl rfl (by exact (List.forall_mem_cons.2 ⟨rfl, (List.forall_mem_cons.2 ⟨rfl, (List.forall_mem_cons.2 ⟨h107, (fun _ h => nomatch h)⟩)⟩)⟩)) ?_
       intro w103 h104
       have hk109 := h104.kp (Dw := False)
       have h108 : El (α := know_Part) A82 w103 b100 0 x93 := h104.el hA ⟨[.int .i64 x93.kind], _, rfl, rfl, ⟨[.bool x93.not_], _, rfl, rfl, ⟨_, rfl, h98⟩⟩⟩
       have ht110 := Kp.tr (Dw := False) hk109 hA hB
       replace hH := Hp.kp (Dw := False) hH hk109
       replace h12 := El.tr (Dw := False) h12 ht110
       replace hr69 := Tr.trans (Dw := False) hr69 ht110
       replace hB := Nat.le_trans hB ht110.ex.size
       replace hA := ht110.new
       refine V_to (fun _ _ => rfl) ?_
       refine C_region ?_
       refine V_mv rfl rfl ?_
       obtain ⟨v111, v113, v115, h117, h112, h114, h116⟩ := El_know_Index h12
       refine V_y (Y_loadA h117 Tryz.isAgg25 Tryz.sizeOf25 rfl) rfl rfl rfl ?_
       obtain ⟨v118, h120, h119⟩ := El_know_Part h108
       refine V_y (Y_loadA h120 Tryz.isAgg44 Tryz.sizeOf44 rfl) rfl rfl rfl ?_
       obtain ⟨x121, hx121, h85⟩ := Option.bind_eq_some_iff.1 h85
       refine V_call Tryz.call12 rfl rfl rfl rfl (know_Index_named_c (Dw := False) w103 hB hA x v111 h112 v113 h114 v115 h116 x93 v118 h119 hH hx121) ?_
       rintro v122 w124 ⟨_, A125, rfl, hH126, ht127⟩
       replace hr69 := Tr.trans (Dw := False) hr69 ht127
       replace hB := Nat.le_trans hB ht127.ex.size
       replace hA := ht127.new
       replace hH : Hp w.heap.size A125 w124 (obS (α := know_Term) 51 v122 x121 :: obS (α := (List know_Term)) 23 v80 s78 :: []) := hH126
       obtain ⟨A128, ht129, h130, hH131⟩ := Hp.freeze (Dw := False) (α := know_Term) (v := v122) (l := x121) hH (i := 0) rfl hA
       replace hr69 := Tr.trans (Dw := False) hr69 ht129
       replace hB := Nat.le_trans hB ht129.ex.size
       replace hA := ht129.new
       replace hH : Hp w.heap.size A128 w124 (obS (α := (List know_Term)) 23 v80 s78 :: []) := hH131
       refine V_buildSlice (Dw := False) (cells := #[v122]) (l := ([x121] : List (List know_Term))) (len := 1) Tryz.underlying46 Tryz.sizeOf23 Tryz.zeroValue23 rfl (by obtain ⟨a137, c138, e139, _⟩ := Sl.form h130; subst e139; kernel_rfl) (show (1 * 1 : Nat) ≠ 0 by decide) (show (1 * 1 : Nat) ≤ 2 ^ 24 by decide) hA ⟨[v122], _, rfl, ⟨_, rfl, h130⟩, rfl⟩ rfl rfl ?_
       intro v133 w134 hk136 h135
       have ht140 := Kp.tr (Dw := False) hk136 hA hB
       replace hH := Hp.kp (Dw := False) hH hk136
       replace hr69 := Tr.trans (Dw := False) hr69 ht140
       replace hB := Nat.le_trans hB ht140.ex.size
       replace hA := ht140.new
       obtain ⟨x141, hx141, h85⟩ := Option.bind_eq_some_iff.1 h85
       refine V_appendH (Dw := False) (e := 23) (v := v80) (l := s78) (ti := Tryz.t23) (bytes := 24) (lim := 5864062014805) hH (i := 0) rfl h135 hx141 Tryz.underlying46 Tryz_info23 rfl rfl rfl rfl (by decide) (by decide) (by decide) hB hA rfl rfl rfl ?_
       intro v142 w143 A144 hH145 ht146
       replace hr69 := Tr.trans (Dw := False) hr69 ht146
       replace hH : Hp w.heap.size A144 w143 (obS (α := (List know_Term)) 23 v142 x141 :: []) := hH145
       refine V_as rfl rfl ?_
       refine V_to (fun _ _ => rfl) ?_
       refine C_region ?_
       refine V_y (Y_addI rfl rfl) rfl rfl rfl ?_
       refine V_mv rfl rfl ?_
       obtain rfl := Option.some.inj h85
       refine V_end (fun a ha147 => ?_)
       exact ⟨x141, hlt88, h86, ⟨(v142, A144), ha147.sub ⟨rfl, rfl, rfl, rfl, rfl, rfl, (congrArg (fun z => some (Value.int .i64 z)) (w64_succ hlt88 hn91)), trivial⟩, ⟨hH, hr69⟩⟩⟩
      ·refine C_exit (fun a ha148 => ?_)
       exact ⟨(s78, v80, A82), ha148.sub ⟨rfl, rfl, rfl, rfl, trivial⟩, ⟨(h89 (eq_of_dec hle87 hc92)).symm, hH, hr69⟩⟩
     rintro ⟨s68, v74, A76⟩ w71 ⟨rfl, hH77, hk72⟩ a ha73
     rw [Lp.andThen_fin] at hm
     replace h12 := El.tr (Dw := False) h12 hk72
     replace h19 := El.tr (Dw := False) h19 hk72
     replace hK := Tr.trans (Dw := False) hK hk72
     replace hB := Nat.le_trans hB hk72.ex.size
     replace hA := hk72.new
     replace hH : Hp w.heap.size A76 w71 (obS (α := (List know_Term)) 23 v74 s68 :: []) := hH77
     refine C_at (n := ⟨117, [], none⟩) (fun _ _ => rfl) ?_ ha73
     refine C_seq ?_
     refine C_region ?_
     refine V_as rfl rfl ?_
     refine V_to (fun _ _ => rfl) ?_
     refine C_seq ?_
     refine C_seq ?_
     refine C_region ?_
     have h150 := El_know_Index_0 h12
     refine V_y (Y_fieldAddr Tryz.underlying25 rfl Tryz.sizeOf22 (by decide) rfl) rfl rfl rfl ?_
     obtain ⟨v151, h152, h153⟩ := El.list h150
     refine V_y (Y_load h152 Tryz.isAgg22 rfl) rfl rfl rfl ?_
     refine V_y (Y_lenSl h153 rfl Tryz.underlying22 rfl) rfl rfl rfl ?_
     refine V_mv rfl rfl ?_
     refine V_to (fun _ _ => rfl) ?_
     obtain ⟨A154, ht155, h156, hH157⟩ := Hp.freeze (Dw := False) (α := (List know_Term)) (v := v74) (l := s68) hH (i := 0) rfl hA
     replace h12 := El.tr (Dw := False) h12 ht155
     replace h19 := El.tr (Dw := False) h19 ht155
     replace h153 := Sl.tr (Dw := False) h153 ht155
     replace hK := Tr.trans (Dw := False) hK ht155
     replace hB := Nat.le_trans hB ht155.ex.size
     replace hA := ht155.new
     replace hH : Hp w.heap.size A154 w71 ([]) := hH157
     replace hH : Hp w.heap.size A154 w71 (obS (α := know_Hit) 35 (.slice none 0 0) ([] : (List know_Hit)) :: []) := Hp.addNil (α := know_Hit) (e := 35) hH
     have hn183 := Sl.le h153
     obtain ⟨o159, ho159, hm⟩ := Option.bind_eq_some_iff.1 hm
     refine C_cutG (ι := ((List know_Hit) × Value × (Nat → Prop))) (fun ⟨s160, v166, A168⟩ => [(2, .int .i64 most), (14, v166)]) (fun ⟨s160, v166, A168⟩ => fun w' => o159 = .fin s160 ∧ Hp w.heap.size A168 w' (obS (α := know_Hit) 35 v166 s160 :: []) ∧ Tr False w.heap.size A154 w71 A168 w') ?_ ?_
     ·refine C_block ?_
      refine C_range ho159 (fun k162 s170 a w' => ∃ i : (Value × (Nat → Prop)), Has ⟨117, [], none⟩ a ([(2, .int .i64 most), (3, .pointer (some ⟨b9, 0, none⟩)), (4, .pointer (some ⟨b15, 0, none⟩)), (11, v74), (14, i.1), (58, v151), (59, .int .i64 (x.ids.length : Int)), (60, .int .i64 (k162 : Int))]) ∧ Hp w.heap.size i.2 w' (obS (α := know_Hit) 35 i.1 s170 :: []) ∧ Tr False w.heap.size A154 w71 i.2 w') (fun a ha => ⟨(.slice none 0 0, A154), ha.sub ⟨rfl, rfl, rfl, rfl, rfl, rfl, rfl, rfl, trivial⟩, ⟨hH, Tr.refl (Dw := False) hA⟩⟩) ?_
      rintro K k162 s170 a w171 ⟨⟨v172, A174⟩, ha373, hH175, hr161⟩ hle179 K182 h181
      refine C_of ?_ ha373
      replace h12 := El.tr (Dw := False) h12 hr161
      replace h19 := El.tr (Dw := False) h19 hr161
      replace h156 := Sl.tr (Dw := False) h156 hr161
      replace h153 := Sl.tr (Dw := False) h153 hr161
      replace hB := Nat.le_trans hB hr161.ex.size
      replace hA := hr161.new
      replace hH : Hp w.heap.size A174 w171 (obS (α := know_Hit) 35 v172 s170 :: []) := hH175
      refine C_seq (C_region (V_y (Y_lss rfl rfl) rfl rfl rfl (V_to (fun _ _ => rfl) ?_)))
      refine C_seq ?_
      refine C_cond rfl (fun hc184 => ?_) (fun hc184 => ?_)
      ·have hlt180 := lt_of_dec hc184
       obtain ⟨x176, h177, h178⟩ := K182 hlt180
       refine C_skip_to (fun _ _ => rfl) ?_
       refine C_seq ?_
       obtain ⟨s186, ho185, h177⟩ := Option.bind_eq_some_iff.1 h177
       refine C_cutG (ι := (Value × (Nat → Prop))) (fun ⟨v188, A193⟩ => [(2, .int .i64 most), (3, .pointer (some ⟨b9, 0, none⟩)), (4, .pointer (some ⟨b15, 0, none⟩)), (11, v74), (14, v188), (58, v151), (59, .int .i64 (x.ids.length : Int)), (60, .int .i64 (k162 : Int))]) (fun ⟨v188, A193⟩ => fun w' => Hp w.heap.size A193 w' (obS (α := know_Hit) 35 v188 s186 :: []) ∧ Tr False w.heap.size A174 w171 A193 w') ?_ ?_
       ·have hr187 : Tr False w.heap.size A174 w171 A174 w171 := Tr.refl (Dw := False) hA
        refine C_block ?_
        refine C_seq ?_
        refine C_region ?_
        refine V_mv rfl rfl ?_
        obtain ⟨x195, hx195, ho185⟩ := Option.bind_eq_some_iff.1 ho185
        refine V_indexAddr h153 hx195 Tryz.underlying22 Tryz.sizeOf3 rfl rfl rfl ?_
        intro b196 o197 h198
        refine V_y (Y_load (El.int h198) Tryz.isAgg3 rfl) rfl rfl rfl ?_
        refine V_as rfl rfl ?_
        refine V_as rfl rfl ?_
        refine V_to (fun _ _ => rfl) ?_
        refine C_seq ?_
        refine C_region ?_
        refine V_as rfl rfl ?_
        refine V_as rfl rfl ?_
        refine V_to (fun _ _ => rfl) ?_
        refine C_seq ?_
        refine C_seq ?_
        refine C_region ?_
        have h199 := El_know_Query_0 h19
        refine V_y (Y_fieldAddr Tryz.underlying28 rfl Tryz.sizeOf26 (by decide) rfl) rfl rfl rfl ?_
        obtain ⟨v200, h201, h202⟩ := El.list h199
        refine V_y (Y_load h201 Tryz.isAgg26 rfl) rfl rfl rfl ?_
        refine V_y (Y_lenSl h202 rfl Tryz.underlying26 rfl) rfl rfl rfl ?_
        refine V_mv rfl rfl ?_
        refine V_to (fun _ _ => rfl) ?_
        have hn223 := Sl.le h202
        obtain ⟨o203, ho203, ho185⟩ := Option.bind_eq_some_iff.1 ho185
        refine C_cutG (ι := ((Bool × Int) × (Nat → Prop))) (fun ⟨s204, A210⟩ => [(2, .int .i64 most), (3, .pointer (some ⟨b9, 0, none⟩)), (4, .pointer (some ⟨b15, 0, none⟩)), (11, v74), (14, v172), (16, .int .i64 x195), (17, .bool s204.1), (18, .int .i64 s204.2), (58, v151), (59, .int .i64 (x.ids.length : Int)), (60, .int .i64 (k162 : Int))]) (fun ⟨s204, A210⟩ => fun w' => o203 = .fin s204 ∧ Hp w.heap.size A210 w' (obS (α := know_Hit) 35 v172 s170 :: []) ∧ Tr False w.heap.size A174 w171 A210 w') ?_ ?_
        ·refine C_block ?_
         refine C_range ho203 (fun k206 s212 a w' => ∃ i : (Nat → Prop), Has ⟨117, [], none⟩ a ([(2, .int .i64 most), (3, .pointer (some ⟨b9, 0, none⟩)), (4, .pointer (some ⟨b15, 0, none⟩)), (11, v74), (14, v172), (15, .int .i64 (k162 : Int)), (16, .int .i64 x195), (17, .bool s212.1), (18, .int .i64 s212.2), (58, v151), (59, .int .i64 (x.ids.length : Int)), (60, .int .i64 (k162 : Int)), (66, v200), (67, .int .i64 (q.parts.length : Int)), (68, .int .i64 (k206 : Int))]) ∧ Hp w.heap.size i w' (obS (α := know_Hit) 35 v172 s170 :: []) ∧ Tr False w.heap.size A174 w171 i w') (fun a ha => ⟨A174, ha.sub ⟨rfl, rfl, rfl, rfl, rfl, rfl, rfl, rfl, rfl, rfl, rfl, rfl, rfl, rfl, rfl, trivial⟩, ⟨hH, Tr.refl (Dw := False) hA⟩⟩) ?_
         rintro K k206 s212 a w213 ⟨A214, ha345, hH215, hr205⟩ hle219 K222 h221
         refine C_of ?_ ha345
         replace h12 := El.tr (Dw := False) h12 hr205
         replace h156 := Sl.tr (Dw := False) h156 hr205
         replace h202 := Sl.tr (Dw := False) h202 hr205
         replace hB := Nat.le_trans hB hr205.ex.size
         replace hA := hr205.new
         replace hH : Hp w.heap.size A214 w213 (obS (α := know_Hit) 35 v172 s170 :: []) := hH215
         refine C_seq (C_region (V_y (Y_lss rfl rfl) rfl rfl rfl (V_to (fun _ _ => rfl) ?_)))
         refine C_seq ?_
         refine C_cond rfl (fun hc224 => ?_) (fun hc224 => ?_)
         ·have hlt220 := lt_of_dec hc224
          obtain ⟨x216, h217, h218⟩ := K222 hlt220
          refine C_skip_to (fun _ _ => rfl) ?_
          refine C_seq ?_
          obtain ⟨s226, ho225, h217⟩ := Option.bind_eq_some_iff.1 h217
          refine C_cutG (ι := (Nat → Prop)) (fun (A231 : (Nat → Prop)) => [(2, .int .i64 most), (3, .pointer (some ⟨b9, 0, none⟩)), (4, .pointer (some ⟨b15, 0, none⟩)), (11, v74), (14, v172), (15, .int .i64 (k162 : Int)), (16, .int .i64 x195), (17, .bool s226.1), (18, .int .i64 s226.2), (58, v151), (59, .int .i64 (x.ids.length : Int)), (60, .int .i64 (k162 : Int)), (66, v200), (67, .int .i64 (q.parts.length : Int)), (68, .int .i64 (k206 : Int))]) (fun (A231 : (Nat → Prop)) => fun w' => Hp w.heap.size A231 w' (obS (α := know_Hit) 35 v172 s170 :: []) ∧ Tr False w.heap.size A214 w213 A231 w') ?_ ?_
          ·have hr227 : Tr False w.heap.size A214 w213 A214 w213 := Tr.refl (Dw := False) hA
           refine C_block ?_
           refine C_seq ?_
           refine C_region ?_
           refine V_mv rfl rfl ?_
           obtain ⟨x233, hx233, ho225⟩ := Option.bind_eq_some_iff.1 ho225
           refine V_indexAddr h202 hx233 Tryz.underlying26 Tryz.sizeOf44 rfl rfl rfl ?_
           intro b234 o235 h236
           obtain ⟨v237, h239, h238⟩ := El_know_Part h236
           refine V_y (Y_loadA h239 Tryz.isAgg44 Tryz.sizeOf44 rfl) rfl rfl rfl ?_
           refine V_alloc Tryz.zeroValue44 rfl ?_
           intro b240 w241 h242
           refine V_as rfl rfl ?_
           have h247 : (v237).oneCell' = true := by obtain ⟨_, _, e, _⟩ := Sl.form h238; rw [e]; rfl
           refine V_storeNew h242 Tryz.sizeOf44 rfl rfl rfl rfl (by exact (List.forall_mem_cons.2 ⟨rfl, (List.forall_mem_cons.2 ⟨rfl, (List.forall_mem_cons.2 ⟨h247, (fun _ h => nomatch h)⟩)⟩)⟩)) ?_
           intro w243 h244
           have hk249 := h244.kp (Dw := False)
           have h248 : El (α := know_Part) A214 w243 b240 0 x233 := h244.el hA ⟨[.int .i64 x233.kind], _, rfl, rfl, ⟨[.bool x233.not_], _, rfl, rfl, ⟨_, rfl, h238⟩⟩⟩
           have ht250 := Kp.tr (Dw := False) hk249 hA hB
           replace hH := Hp.kp (Dw := False) hH hk249
           replace h12 := El.tr (Dw := False) h12 ht250
           replace h156 := Sl.tr (Dw := False) h156 ht250
           replace hr227 := Tr.trans (Dw := False) hr227 ht250
           replace hB := Nat.le_trans hB ht250.ex.size
           replace hA := ht250.new
           refine V_to (fun _ _ => rfl) ?_
           refine C_seq ?_
           refine C_region_q (Dw := False) Tryz_mixed (by kernel_rfl) ?_
           refine VQ_y (fun w' hw' => Y_move rfl) rfl rfl rfl ?_
           refine VQ_y (fun w' hw' => Y_move rfl) rfl rfl rfl ?_
           obtain ⟨s252, hs252, ho225⟩ := Option.bind_eq_some_iff.1 ho225
           refine VQ_cut 12 (fun _ : Unit => [(2, .int .i64 most), (3, .pointer (some ⟨b9, 0, none⟩)), (4, .pointer (some ⟨b15, 0, none⟩)), (11, v74), (14, v172), (15, .int .i64 (k162 : Int)), (16, .int .i64 x195), (18, .int .i64 s212.2), (19, .int .i64 (k206 : Int)), (20, .pointer (some ⟨b240, 0, none⟩)), (58, v151), (59, .int .i64 (x.ids.length : Int)), (60, .int .i64 (k162 : Int)), (66, v200), (67, .int .i64 (q.parts.length : Int)), (68, .int .i64 (k206 : Int)), (86, .bool s252)]) (fun _ => True) ?_ ?_
           ·simp only [List.take, List.drop]
            rcases Bool.eq_false_or_eq_true (s212.1) with hc251 | hc251
            ·rw [if_pos hc251] at hs252
             refine VQ_ge rfl rfl rfl hc251 ?_
             obtain ⟨v253, v255, v257, h259, h254, h256, h258⟩ := El_know_Index h12
             refine VQ_y (fun w' hw' => Y_loadA (At.kp (Dw := False) h259 hw' h12.2.1) Tryz.isAgg25 Tryz.sizeOf25 rfl) rfl rfl rfl ?_
             refine VQ_ge rfl rfl rfl hc251 ?_
             obtain ⟨v260, h262, h261⟩ := El_know_Part h248
             refine VQ_y (fun w' hw' => Y_loadA (At.kp (Dw := False) h262 hw' h248.2.1) Tryz.isAgg44 Tryz.sizeOf44 rfl) rfl rfl rfl ?_
             refine VQ_ge rfl rfl rfl hc251 ?_
             refine VQ_y (fun w' hw' => Y_move rfl) rfl rfl rfl ?_
             refine VQ_ge rfl rfl rfl hc251 ?_
             refine VQ_y (fun w' hw' => Y_move rfl) rfl rfl rfl ?_
             refine VQ_ge rfl rfl rfl hc251 ?_
             obtain ⟨x263, hx263, hs252⟩ := Option.bind_eq_some_iff.1 hs252
             refine VQ_indexAddr h156 hx263 Tryz.underlying46 Tryz.sizeOf23 rfl rfl rfl ?_
             intro b264 o265 h266
             refine VQ_ge rfl rfl rfl hc251 ?_
             obtain ⟨v267, h268, h269⟩ := El.list h266
             refine VQ_y (fun w' hw' => Y_load ((World.cell?_of_block (hw'.block _ (World.block_lt_of_cell? _ _ h268))).trans h268) Tryz.isAgg23 rfl) rfl rfl rfl ?_
             refine VQ_ge rfl rfl rfl hc251 ?_
             refine VQ_y (fun w' hw' => Y_move rfl) rfl rfl rfl ?_
             refine VQ_ge rfl rfl rfl hc251 ?_
             obtain ⟨x270, hx270, hs252⟩ := Option.bind_eq_some_iff.1 hs252
             refine VQ_call (.bool x270) Tryz.call13 rfl rfl rfl rfl (fun w' hw' => (know_Index_matches_c (Dw := False) w' (fun b hb => hA b (Nat.le_trans hw'.size hb)) x v253 (Sl.kp (Dw := False) h254 hw') v255 (Sl.kp (Dw := False) h256 hw') v257 (Sl.kp (Dw := False) h258 hw') x233 v260 (Sl.kp (Dw := False) h261 hw') x263 v267 (Sl.kp (Dw := False) h269 hw') x195 hx270).mono (fun _ _ h => ⟨h.1, Kp.trans (Dw := False) hw' h.2⟩)) ?_
             refine VQ_ge rfl rfl rfl hc251 ?_
             have h271 := El_know_Part_1 h248
             refine VQ_y (fun w' hw' => Y_fieldAddr Tryz.underlying44 rfl Tryz.sizeOf4 (by decide) rfl) rfl rfl rfl ?_
             refine VQ_ge rfl rfl rfl hc251 ?_
             refine VQ_y (fun w' hw' => Y_load (El.bool (El.kp (Dw := False) h271 hw')) Tryz.isAgg4 rfl) rfl rfl rfl ?_
             refine VQ_ge rfl rfl rfl hc251 ?_
             refine VQ_y (fun w' hw' => Y_bneq Tryz.underlying4 rfl rfl) rfl rfl rfl ?_
             refine VQ_y (fun _ _ => Y_pick_te rfl hc251 rfl) rfl rfl rfl ?_
             obtain rfl := Option.some.inj hs252
             exact VQ_end fun a ha => ⟨(), ha.sub ⟨rfl, rfl, rfl, rfl, rfl, rfl, rfl, rfl, rfl, rfl, rfl, rfl, rfl, rfl, rfl, rfl, rfl, trivial⟩, trivial⟩
            ·rw [if_neg (nt hc251)] at hs252
             refine VQ_gn rfl rfl rfl hc251 rfl rfl rfl ?_
             refine VQ_gn rfl rfl rfl hc251 rfl rfl rfl ?_
             refine VQ_gn rfl rfl rfl hc251 rfl rfl rfl ?_
             refine VQ_gn rfl rfl rfl hc251 rfl rfl rfl ?_
             refine VQ_gn rfl rfl rfl hc251 rfl rfl rfl ?_
             refine VQ_gn rfl rfl rfl hc251 rfl rfl rfl ?_
             refine VQ_gn rfl rfl rfl hc251 rfl rfl rfl ?_
             refine VQ_gn rfl rfl rfl hc251 rfl rfl rfl ?_
             refine VQ_gn rfl rfl rfl hc251 rfl rfl rfl ?_
             refine VQ_gn rfl rfl rfl hc251 rfl rfl rfl ?_
             refine VQ_gn rfl rfl rfl hc251 rfl rfl rfl ?_
             refine VQ_y (fun _ _ => Y_pick_fe rfl hc251 rfl) rfl rfl rfl ?_
             obtain rfl := Option.some.inj hs252
             exact VQ_end fun a ha => ⟨(), ha.sub ⟨rfl, rfl, rfl, rfl, rfl, rfl, rfl, rfl, rfl, rfl, rfl, rfl, rfl, rfl, rfl, rfl, rfl, trivial⟩, trivial⟩
           simp only [List.take, List.drop]
           rintro _ _
           refine VQ_y (fun w' hw' => Y_assign rfl) rfl rfl rfl ?_
           refine VQ_to (fun _ _ => rfl) (fun w272 hk273 => ?_)
           have ht274 := Kp.tr (Dw := False) hk273 hA hB
           replace hH := Hp.kp (Dw := False) hH hk273
           replace h12 := El.tr (Dw := False) h12 ht274
           replace h156 := Sl.tr (Dw := False) h156 ht274
           replace h248 := El.tr (Dw := False) h248 ht274
           replace hr227 := Tr.trans (Dw := False) hr227 ht274
           replace hB := Nat.le_trans hB ht274.ex.size
           replace hA := ht274.new
           refine C_seq ?_
           refine C_seq ?_
           refine C_region ?_
           have h275 := El_know_Part_1 h248
           refine V_y (Y_fieldAddr Tryz.underlying44 rfl Tryz.sizeOf4 (by decide) rfl) rfl rfl rfl ?_
           refine V_y (Y_load (El.bool h275) Tryz.isAgg4 rfl) rfl rfl rfl ?_
           refine V_to (fun _ _ => rfl) ?_
           refine C_cond rfl (fun hc276 => ?_) (fun hc276 => ?_)
           ·rw [if_pos hc276] at ho225
            obtain rfl := Option.some.inj ho225
            refine C_exit (fun a ha277 => ?_)
            exact ⟨A214, ha277.sub ⟨rfl, rfl, rfl, rfl, rfl, rfl, rfl, rfl, rfl, rfl, rfl, rfl, rfl, rfl, rfl, trivial⟩, ⟨hH, hr227⟩⟩
           ·rw [if_neg (nt hc276)] at ho225
            refine C_skip_to (fun _ _ => rfl) ?_
            refine C_seq ?_
            refine C_region ?_
            refine V_mv rfl rfl ?_
            refine V_mv rfl rfl ?_
            obtain ⟨x278, hx278, ho225⟩ := Option.bind_eq_some_iff.1 ho225
            refine V_indexAddr h156 hx278 Tryz.underlying46 Tryz.sizeOf23 rfl rfl rfl ?_
            intro b279 o280 h281
            obtain ⟨v282, h283, h284⟩ := El.list h281
            refine V_y (Y_load h283 Tryz.isAgg23 rfl) rfl rfl rfl ?_
            refine V_y (Y_lenSl h284 rfl Tryz.underlying23 rfl) rfl rfl rfl ?_
            refine V_mv rfl rfl ?_
            refine V_to (fun _ _ => rfl) ?_
            have hn305 := Sl.le h284
            obtain ⟨o285, ho285, ho225⟩ := Option.bind_eq_some_iff.1 ho225
            refine C_cutG (ι := (Int × (Nat → Prop))) (fun ⟨s286, A292⟩ => [(2, .int .i64 most), (3, .pointer (some ⟨b9, 0, none⟩)), (4, .pointer (some ⟨b15, 0, none⟩)), (11, v74), (14, v172), (15, .int .i64 (k162 : Int)), (16, .int .i64 x195), (17, .bool s252), (18, .int .i64 s286), (58, v151), (59, .int .i64 (x.ids.length : Int)), (60, .int .i64 (k162 : Int)), (66, v200), (67, .int .i64 (q.parts.length : Int)), (68, .int .i64 (k206 : Int))]) (fun ⟨s286, A292⟩ => fun w' => o285 = .fin s286 ∧ Hp w.heap.size A292 w' (obS (α := know_Hit) 35 v172 s170 :: []) ∧ Tr False w.heap.size A214 w272 A292 w') ?_ ?_
            ·refine C_block ?_
             refine C_range ho285 (fun k288 s294 a w' => ∃ i : (Nat → Prop), Has ⟨117, [], none⟩ a ([(2, .int .i64 most), (3, .pointer (some ⟨b9, 0, none⟩)), (4, .pointer (some ⟨b15, 0, none⟩)), (11, v74), (14, v172), (15, .int .i64 (k162 : Int)), (16, .int .i64 x195), (17, .bool s252), (18, .int .i64 s294), (58, v151), (59, .int .i64 (x.ids.length : Int)), (60, .int .i64 (k162 : Int)), (66, v200), (67, .int .i64 (q.parts.length : Int)), (68, .int .i64 (k206 : Int)), (92, v282), (93, .int .i64 (x278.length : Int)), (94, .int .i64 (k288 : Int))]) ∧ Hp w.heap.size i w' (obS (α := know_Hit) 35 v172 s170 :: []) ∧ Tr False w.heap.size A214 w272 i w') (fun a ha => ⟨A214, ha.sub ⟨rfl, rfl, rfl, rfl, rfl, rfl, rfl, rfl, rfl, rfl, rfl, rfl, rfl, rfl, rfl, rfl, rfl, rfl, trivial⟩, ⟨hH, Tr.refl (Dw := False) hA⟩⟩) ?_
             rintro K k288 s294 a w295 ⟨A296, ha341, hH297, hr287⟩ hle301 K304 h303
             refine C_of ?_ ha341
             replace h12 := El.tr (Dw := False) h12 hr287
             replace h284 := Sl.tr (Dw := False) h284 hr287
             replace hB := Nat.le_trans hB hr287.ex.size
             replace hA := hr287.new
             replace hH : Hp w.heap.size A296 w295 (obS (α := know_Hit) 35 v172 s170 :: []) := hH297
             refine C_seq (C_region (V_y (Y_lss rfl rfl) rfl rfl rfl (V_to (fun _ _ => rfl) ?_)))
             refine C_seq ?_
             refine C_cond rfl (fun hc306 => ?_) (fun hc306 => ?_)
             ·have hlt302 := lt_of_dec hc306
              obtain ⟨x298, h299, h300⟩ := K304 hlt302
              refine C_skip_to (fun _ _ => rfl) ?_
              refine C_seq ?_
              refine C_block ?_
              refine C_seq ?_
              refine C_region ?_
              obtain ⟨x307, hx307, h299⟩ := Option.bind_eq_some_iff.1 h299
              refine V_indexAddr h284 hx307 Tryz.underlying23 Tryz.sizeOf51 rfl rfl rfl ?_
              intro b308 o309 h310
              obtain ⟨v311, h313, h312⟩ := El_know_Term h310
              refine V_y (Y_loadA h313 Tryz.isAgg51 Tryz.sizeOf51 rfl) rfl rfl rfl ?_
              refine V_alloc Tryz.zeroValue51 rfl ?_
              intro b314 w315 h316
              have h321 : (v311).oneCell' = true := by obtain ⟨_, _, e, _⟩ := Sl.form h312; rw [e]; rfl
              refine V_storeNew h316 Tryz.sizeOf51 rfl rfl rfl rfl (by exact (List.forall_mem_cons.2 ⟨rfl, (List.forall_mem_cons.2 ⟨h321, (fun _ h => nomatch h)⟩)⟩)) ?_
              intro w317 h318
              have hk323 := h318.kp (Dw := False)
              have h322 : El (α := know_Term) A296 w317 b314 0 x307 := h318.el hA ⟨[.string x307.word], _, rfl, rfl, ⟨_, rfl, h312⟩⟩
              have ht324 := Kp.tr (Dw := False) hk323 hA hB
              replace hH := Hp.kp (Dw := False) hH hk323
              replace h12 := El.tr (Dw := False) h12 ht324
              replace hr287 := Tr.trans (Dw := False) hr287 ht324
              replace hB := Nat.le_trans hB ht324.ex.size
              replace hA := ht324.new
              refine V_to (fun _ _ => rfl) ?_
              refine C_region ?_
              refine V_mv rfl rfl ?_
              obtain ⟨v325, v327, v329, h331, h326, h328, h330⟩ := El_know_Index h12
              refine V_y (Y_loadA h331 Tryz.isAgg25 Tryz.sizeOf25 rfl) rfl rfl rfl ?_
              obtain ⟨v332, h334, h333⟩ := El_know_Term h322
              refine V_y (Y_loadA h334 Tryz.isAgg51 Tryz.sizeOf51 rfl) rfl rfl rfl ?_
              refine V_mv rfl rfl ?_
              obtain ⟨x335, hx335, h299⟩ := Option.bind_eq_some_iff.1 h299
              refine V_call Tryz.call14 rfl rfl rfl rfl (know_Index_score_c (Dw := False) w317 hA x v325 h326 v327 h328 v329 h330 x307 v332 h333 (k162 : Int) hx335) ?_
              rintro _ w336 ⟨rfl, hk337⟩
              have ht338 := Kp.tr (Dw := False) hk337 hA hB
              replace hH := Hp.kp (Dw := False) hH hk337
              replace hr287 := Tr.trans (Dw := False) hr287 ht338
              refine V_y (Y_addI rfl rfl) rfl rfl rfl ?_
              refine V_as rfl rfl ?_
              refine V_to (fun _ _ => rfl) ?_
              refine C_region ?_
              refine V_y (Y_addI rfl rfl) rfl rfl rfl ?_
              refine V_mv rfl rfl ?_
              obtain rfl := Option.some.inj h299
              refine V_end (fun a ha339 => ?_)
              exact ⟨w64 (s294 + x335), hlt302, h300, ⟨A296, ha339.sub ⟨rfl, rfl, rfl, rfl, rfl, rfl, rfl, rfl, rfl, rfl, rfl, rfl, rfl, rfl, rfl, rfl, rfl, (congrArg (fun z => some (Value.int .i64 z)) (w64_succ hlt302 hn305)), trivial⟩, ⟨hH, hr287⟩⟩⟩
             ·refine C_exit (fun a ha340 => ?_)
              exact ⟨(s294, A296), ha340.sub ⟨rfl, rfl, rfl, rfl, rfl, rfl, rfl, rfl, rfl, rfl, rfl, rfl, rfl, rfl, rfl, trivial⟩, ⟨(h303 (eq_of_dec hle301 hc306)).symm, hH, hr287⟩⟩
            rintro ⟨s286, A292⟩ w289 ⟨rfl, hH293, hk290⟩ a ha291
            rw [Lp.andThen_fin] at ho225
            replace hr227 := Tr.trans (Dw := False) hr227 hk290
            replace hA := hk290.new
            replace hH : Hp w.heap.size A292 w289 (obS (α := know_Hit) 35 v172 s170 :: []) := hH293
            obtain rfl := Option.some.inj ho225
            exact ⟨A292, ha291.sub ⟨rfl, rfl, rfl, rfl, rfl, rfl, rfl, rfl, rfl, rfl, rfl, rfl, rfl, rfl, rfl, trivial⟩, ⟨hH, hr227⟩⟩
          rintro A231 w228 ⟨hH232, hk229⟩ a ha230
          replace hr205 := Tr.trans (Dw := False) hr205 hk229
          replace hA := hk229.new
          replace hH : Hp w.heap.size A231 w228 (obS (α := know_Hit) 35 v172 s170 :: []) := hH232
          refine C_at (n := ⟨117, [], none⟩) (fun _ _ => rfl) ?_ ha230
          refine C_region ?_
          refine V_y (Y_addI rfl rfl) rfl rfl rfl ?_
          refine V_mv rfl rfl ?_
          obtain rfl := Option.some.inj h217
          refine V_end (fun a ha343 => ?_)
          exact ⟨(s226.1, s226.2), hlt220, h218, ⟨A231, ha343.sub ⟨rfl, rfl, rfl, rfl, rfl, rfl, rfl, rfl, rfl, rfl, rfl, rfl, rfl, rfl, (congrArg (fun z => some (Value.int .i64 z)) (w64_succ hlt220 hn223)), trivial⟩, ⟨hH, hr205⟩⟩⟩
         ·refine C_exit (fun a ha344 => ?_)
          exact ⟨((s212.1, s212.2), A214), ha344.sub ⟨rfl, rfl, rfl, rfl, rfl, rfl, rfl, rfl, rfl, rfl, rfl, trivial⟩, ⟨(h221 (eq_of_dec hle219 hc224)).symm, hH, hr205⟩⟩
        rintro ⟨s204, A210⟩ w207 ⟨rfl, hH211, hk208⟩ a ha209
        rw [Lp.andThen_fin] at ho185
        replace hr187 := Tr.trans (Dw := False) hr187 hk208
        replace hB := Nat.le_trans hB hk208.ex.size
        replace hA := hk208.new
        replace hH : Hp w.heap.size A210 w207 (obS (α := know_Hit) 35 v172 s170 :: []) := hH211
        refine C_at (n := ⟨117, [], none⟩) (fun _ _ => rfl) ?_ ha209
        refine C_seq ?_
        refine C_region ?_
        refine V_mv rfl rfl ?_
        refine V_to (fun _ _ => rfl) ?_
        obtain ⟨s347, ho346, ho185⟩ := Option.bind_eq_some_iff.1 ho185
        refine C_cutG (ι := (Value × (Nat → Prop))) (fun ⟨v349, A354⟩ => [(2, .int .i64 most), (3, .pointer (some ⟨b9, 0, none⟩)), (4, .pointer (some ⟨b15, 0, none⟩)), (11, v74), (14, v349), (58, v151), (59, .int .i64 (x.ids.length : Int)), (60, .int .i64 (k162 : Int))]) (fun ⟨v349, A354⟩ => fun w' => Hp w.heap.size A354 w' (obS (α := know_Hit) 35 v349 s347 :: []) ∧ Tr False w.heap.size A210 w207 A354 w') ?_ ?_
        ·have hr348 : Tr False w.heap.size A210 w207 A210 w207 := Tr.refl (Dw := False) hA
         refine C_cond rfl (fun hc356 => ?_) (fun hc356 => ?_)
         ·rw [if_pos hc356] at ho346
          refine C_region ?_
          refine V_mv rfl rfl ?_
          refine V_mv rfl rfl ?_
          refine V_mv rfl rfl ?_
          refine V_y (Y_build Tryz.underlying35 Tryz.zeroValue35 (Tryz_places35 _ Tryz.underlying35) rfl (by with_unfolding_all rfl)) rfl rfl rfl ?_
          refine V_buildSlice (Dw := False) (cells := #[.int .i64 x195, .int .i64 s204.2]) (l := ([(⟨x195, s204.2⟩ : know_Hit)] : List know_Hit)) (len := 1) Tryz.underlying29 Tryz.sizeOf35 Tryz.zeroValue35 rfl (by kernel_rfl) (show (1 * 2 : Nat) ≠ 0 by decide) (show (1 * 2 : Nat) ≤ 2 ^ 24 by decide) hA ⟨[.int .i64 x195, .int .i64 s204.2], _, rfl, ⟨[.int .i64 x195], _, rfl, rfl, rfl⟩, rfl⟩ rfl rfl ?_
          intro v357 w358 hk360 h359
          have ht361 := Kp.tr (Dw := False) hk360 hA hB
          replace hH := Hp.kp (Dw := False) hH hk360
          replace hr348 := Tr.trans (Dw := False) hr348 ht361
          replace hB := Nat.le_trans hB ht361.ex.size
          replace hA := ht361.new
          obtain ⟨x362, hx362, ho346⟩ := Option.bind_eq_some_iff.1 ho346
          refine V_appendH (Dw := False) (e := 35) (v := v172) (l := s170) (ti := Tryz.t35) (bytes := 16) (lim := 8796093022208) hH (i := 0) rfl h359 hx362 Tryz.underlying29 Tryz_info35 rfl rfl rfl rfl (by decide) (by decide) (by decide) hB hA rfl rfl rfl ?_
          intro v363 w364 A365 hH366 ht367
          replace hr348 := Tr.trans (Dw := False) hr348 ht367
          replace hH : Hp w.heap.size A365 w364 (obS (α := know_Hit) 35 v363 x362 :: []) := hH366
          refine V_as rfl rfl ?_
          obtain rfl := Option.some.inj ho346
          refine V_end (fun a ha368 => ?_)
          exact ⟨(v363, A365), ha368.sub ⟨rfl, rfl, rfl, rfl, rfl, rfl, rfl, rfl, trivial⟩, ⟨hH, hr348⟩⟩
         ·rw [if_neg (nt hc356)] at ho346
          obtain rfl := Option.some.inj ho346
          refine C_skip (fun a ha369 => ?_)
          exact ⟨(v172, A210), ha369.sub ⟨rfl, rfl, rfl, rfl, rfl, rfl, rfl, rfl, trivial⟩, ⟨hH, hr348⟩⟩
        rintro ⟨v349, A354⟩ w351 ⟨hH355, hk352⟩ a ha353
        replace hr187 := Tr.trans (Dw := False) hr187 hk352
        replace hA := hk352.new
        replace hH : Hp w.heap.size A354 w351 (obS (α := know_Hit) 35 v349 s347 :: []) := hH355
        obtain rfl := Option.some.inj ho185
        exact ⟨(v349, A354), ha353.sub ⟨rfl, rfl, rfl, rfl, rfl, rfl, rfl, rfl, trivial⟩, ⟨hH, hr187⟩⟩
       rintro ⟨v188, A193⟩ w190 ⟨hH194, hk191⟩ a ha192
       replace hr161 := Tr.trans (Dw := False) hr161 hk191
       replace hA := hk191.new
       replace hH : Hp w.heap.size A193 w190 (obS (α := know_Hit) 35 v188 s186 :: []) := hH194
       refine C_at (n := ⟨117, [], none⟩) (fun _ _ => rfl) ?_ ha192
       refine C_region ?_
       refine V_y (Y_addI rfl rfl) rfl rfl rfl ?_
       refine V_mv rfl rfl ?_
       obtain rfl := Option.some.inj h177
       refine V_end (fun a ha371 => ?_)
       exact ⟨s186, hlt180, h178, ⟨(v188, A193), ha371.sub ⟨rfl, rfl, rfl, rfl, rfl, rfl, rfl, (congrArg (fun z => some (Value.int .i64 z)) (w64_succ hlt180 hn183)), trivial⟩, ⟨hH, hr161⟩⟩⟩
      ·refine C_exit (fun a ha372 => ?_)
       exact ⟨(s170, v172, A174), ha372.sub ⟨rfl, rfl, trivial⟩, ⟨(h181 (eq_of_dec hle179 hc184)).symm, hH, hr161⟩⟩
     rintro ⟨s160, v166, A168⟩ w163 ⟨rfl, hH169, hk164⟩ a ha165
     rw [Lp.andThen_fin] at hm
     replace hK := Tr.trans (Dw := False) hK hk164
     replace hB := Nat.le_trans hB hk164.ex.size
     replace hA := hk164.new
     replace hH : Hp w.heap.size A168 w163 (obS (α := know_Hit) 35 v166 s160 :: []) := hH169
     refine C_at (n := ⟨117, [], none⟩) (fun _ _ => rfl) ?_ ha165
     refine C_seq ?_
     refine C_region ?_
     refine V_mv rfl rfl ?_
     refine V_mv rfl rfl ?_
     obtain ⟨x374, hx374, hm⟩ := Option.bind_eq_some_iff.1 hm
     refine V_call Tryz.call15 rfl rfl rfl rfl (know_ranked_c (Dw := False) w163 hB hA s160 v166 most hH hx374) ?_
     rintro v375 w377 ⟨_, A378, rfl, hH379, ht380⟩
     replace hK := Tr.trans (Dw := False) hK ht380
     replace hH : Hp w.heap.size A378 w377 (obS (α := know_Hit) 35 v375 x374 :: []) := hH379
     refine V_as rfl rfl ?_
     refine V_as rfl rfl ?_
     refine V_to (fun _ _ => rfl) ?_
     obtain rfl := Option.some.inj hm
     refine C_ret ?_
     try simp only [↓inBlock_ret, ↓then_ret]
     exact retQ rfl (Res.two Tryz.results4 rfl rfl) ⟨v375, rfl, (Hp.ownd hH (i := 0) rfl), hK.kp⟩

set_option maxRecDepth 4000 in
set_option maxHeartbeats 4000000 in
theorem portref2_isWordByte_c (w : World) (b : Int) : Ret Tryz.prog 74 #[.int .u8 b] w fun v w' => v = .bool (portref2_isWordByte b) ∧ w = w' := by
 generalize hm : portref2_isWordByte b = r
 unfold portref2_isWordByte at hm
 refine enter Tryz.func74 rfl Tryz.ntmps74 rfl ?_
 refine C_seq ?_
 refine C_region ?_
 refine V_as rfl rfl ?_
 refine V_to (fun _ _ => rfl) ?_
 refine C_seq ?_
 refine C_region ?_
 refine V_mv rfl rfl ?_
 refine V_y (Y_geq rfl rfl) rfl rfl rfl ?_
 refine V_mv rfl rfl ?_
 refine V_cut 3 (fun _ : Unit => [(0, .int .u8 b), (8, .bool ((decide ((97 : Int) ≤ b)) && (decide (b ≤ 122))))]) (fun _ w' => w = w') ?_ ?_
 ·simp only [List.take, List.drop]
  rcases Bool.eq_false_or_eq_true (decide ((97 : Int) ≤ b)) with hc1 | hc1
  ·refine V_ge rfl rfl rfl hc1 ?_
   refine V_mv rfl rfl ?_
   refine V_ge rfl rfl rfl hc1 ?_
   refine V_y (Y_leq rfl rfl) rfl rfl rfl ?_
   refine V_y (Y_pick_te rfl hc1 rfl) rfl rfl rfl ?_
   exact V_end fun a ha => ⟨(), ha.sub ⟨rfl, (by rw [hc1]; rfl), trivial⟩, rfl⟩
  ·refine V_gn rfl rfl rfl hc1 rfl rfl rfl ?_
   refine V_gn rfl rfl rfl hc1 rfl rfl rfl ?_
   refine V_y (Y_pick_fe rfl hc1 rfl) rfl rfl rfl ?_
   exact V_end fun a ha => ⟨(), ha.sub ⟨rfl, (by rw [hc1]; rfl), trivial⟩, rfl⟩
 simp only [List.take, List.drop]
 rintro _ _ rfl
 refine V_mv rfl rfl ?_
 refine V_cut 7 (fun _ : Unit => [(0, .int .u8 b), (16, .bool (((decide ((97 : Int) ≤ b)) && (decide (b ≤ 122))) || ((decide ((65 : Int) ≤ b)) && (decide (b ≤ 90)))))]) (fun _ w' => w = w') ?_ ?_
 ·simp only [List.take, List.drop]
  rcases Bool.eq_false_or_eq_true (((decide ((97 : Int) ≤ b)) && (decide (b ≤ 122)))) with hc3 | hc3
  ·refine V_gn rfl rfl rfl hc3 rfl rfl rfl ?_
   refine V_gn rfl rfl rfl hc3 rfl rfl rfl ?_
   refine V_gn rfl rfl rfl hc3 rfl rfl rfl ?_
   refine V_gu rfl rfl rfl rfl rfl ?_
   refine V_gu rfl rfl rfl rfl rfl ?_
   refine V_gn rfl rfl rfl hc3 rfl rfl rfl ?_
   refine V_y (Y_pick_te rfl hc3 rfl) rfl rfl rfl ?_
   exact V_end fun a ha => ⟨(), ha.sub ⟨rfl, (by rw [hc3]; rfl), trivial⟩, rfl⟩
  ·refine V_ge rfl rfl rfl hc3 ?_
   refine V_mv rfl rfl ?_
   refine V_ge rfl rfl rfl hc3 ?_
   refine V_y (Y_geq rfl rfl) rfl rfl rfl ?_
   refine V_ge rfl rfl rfl hc3 ?_
   refine V_mv rfl rfl ?_
   refine V_cut 3 (fun _ : Unit => [(0, .int .u8 b), (9, .bool ((decide ((97 : Int) ≤ b)) && (decide (b ≤ 122)))), (15, .bool ((decide ((65 : Int) ≤ b)) && (decide (b ≤ 90))))]) (fun _ w' => w = w') ?_ ?_
   ·simp only [List.take, List.drop]
    rcases Bool.eq_false_or_eq_true (decide ((65 : Int) ≤ b)) with hc5 | hc5
    ·refine V_ge rfl rfl rfl hc5 ?_
     refine V_mv rfl rfl ?_
     refine V_ge rfl rfl rfl hc5 ?_
     refine V_y (Y_leq rfl rfl) rfl rfl rfl ?_
     refine V_ge rfl rfl rfl hc3 ?_
     refine V_y (Y_pick_te rfl hc5 rfl) rfl rfl rfl ?_
     exact V_end fun a ha => ⟨(), ha.sub ⟨rfl, rfl, (by rw [hc5]; rfl), trivial⟩, rfl⟩
    ·refine V_gn rfl rfl rfl hc5 rfl rfl rfl ?_
     refine V_gn rfl rfl rfl hc5 rfl rfl rfl ?_
     refine V_ge rfl rfl rfl hc3 ?_
     refine V_y (Y_pick_fe rfl hc5 rfl) rfl rfl rfl ?_
     exact V_end fun a ha => ⟨(), ha.sub ⟨rfl, rfl, (by rw [hc5]; rfl), trivial⟩, rfl⟩
   simp only [List.take, List.drop]
   rintro _ _ rfl
   refine V_y (Y_pick_fe rfl hc3 rfl) rfl rfl rfl ?_
   exact V_end fun a ha => ⟨(), ha.sub ⟨rfl, (by rw [hc3]; rfl), trivial⟩, rfl⟩
 simp only [List.take, List.drop]
 rintro _ _ rfl
 refine V_mv rfl rfl ?_
 refine V_cut 7 (fun _ : Unit => [(0, .int .u8 b), (24, .bool ((((decide ((97 : Int) ≤ b)) && (decide (b ≤ 122))) || ((decide ((65 : Int) ≤ b)) && (decide (b ≤ 90)))) || ((decide ((48 : Int) ≤ b)) && (decide (b ≤ 57)))))]) (fun _ w' => w = w') ?_ ?_
 ·simp only [List.take, List.drop]
  rcases Bool.eq_false_or_eq_true ((((decide ((97 : Int) ≤ b)) && (decide (b ≤ 122))) || ((decide ((65 : Int) ≤ b)) && (decide (b ≤ 90))))) with hc7 | hc7
  ·refine V_gn rfl rfl rfl hc7 rfl rfl rfl ?_
   refine V_gn rfl rfl rfl hc7 rfl rfl rfl ?_
   refine V_gn rfl rfl rfl hc7 rfl rfl rfl ?_
   refine V_gu rfl rfl rfl rfl rfl ?_
   refine V_gu rfl rfl rfl rfl rfl ?_
   refine V_gn rfl rfl rfl hc7 rfl rfl rfl ?_
   refine V_y (Y_pick_te rfl hc7 rfl) rfl rfl rfl ?_
   exact V_end fun a ha => ⟨(), ha.sub ⟨rfl, (by rw [hc7]; rfl), trivial⟩, rfl⟩
  ·refine V_ge rfl rfl rfl hc7 ?_
   refine V_mv rfl rfl ?_
   refine V_ge rfl rfl rfl hc7 ?_
   refine V_y (Y_geq rfl rfl) rfl rfl rfl ?_
   refine V_ge rfl rfl rfl hc7 ?_
   refine V_mv rfl rfl ?_
   refine V_cut 3 (fun _ : Unit => [(0, .int .u8 b), (17, .bool (((decide ((97 : Int) ≤ b)) && (decide (b ≤ 122))) || ((decide ((65 : Int) ≤ b)) && (decide (b ≤ 90))))), (23, .bool ((decide ((48 : Int) ≤ b)) && (decide (b ≤ 57))))]) (fun _ w' => w = w') ?_ ?_
   ·simp only [List.take, List.drop]
    rcases Bool.eq_false_or_eq_true (decide ((48 : Int) ≤ b)) with hc9 | hc9
    ·refine V_ge rfl rfl rfl hc9 ?_
     refine V_mv rfl rfl ?_
     refine V_ge rfl rfl rfl hc9 ?_
     refine V_y (Y_leq rfl rfl) rfl rfl rfl ?_
     refine V_ge rfl rfl rfl hc7 ?_
     refine V_y (Y_pick_te rfl hc9 rfl) rfl rfl rfl ?_
     exact V_end fun a ha => ⟨(), ha.sub ⟨rfl, rfl, (by rw [hc9]; rfl), trivial⟩, rfl⟩
    ·refine V_gn rfl rfl rfl hc9 rfl rfl rfl ?_
     refine V_gn rfl rfl rfl hc9 rfl rfl rfl ?_
     refine V_ge rfl rfl rfl hc7 ?_
     refine V_y (Y_pick_fe rfl hc9 rfl) rfl rfl rfl ?_
     exact V_end fun a ha => ⟨(), ha.sub ⟨rfl, rfl, (by rw [hc9]; rfl), trivial⟩, rfl⟩
   simp only [List.take, List.drop]
   rintro _ _ rfl
   refine V_y (Y_pick_fe rfl hc7 rfl) rfl rfl rfl ?_
   exact V_end fun a ha => ⟨(), ha.sub ⟨rfl, (by rw [hc7]; rfl), trivial⟩, rfl⟩
 simp only [List.take, List.drop]
 rintro _ _ rfl
 refine V_mv rfl rfl ?_
 refine V_cut 3 (fun _ : Unit => [(28, .bool (((((decide ((97 : Int) ≤ b)) && (decide (b ≤ 122))) || ((decide ((65 : Int) ≤ b)) && (decide (b ≤ 90)))) || ((decide ((48 : Int) ≤ b)) && (decide (b ≤ 57)))) || (decide ((128 : Int) ≤ b))))]) (fun _ w' => w = w') ?_ ?_
 ·simp only [List.take, List.drop]
  rcases Bool.eq_false_or_eq_true (((((decide ((97 : Int) ≤ b)) && (decide (b ≤ 122))) || ((decide ((65 : Int) ≤ b)) && (decide (b ≤ 90)))) || ((decide ((48 : Int) ≤ b)) && (decide (b ≤ 57))))) with hc11 | hc11
  ·refine V_gn rfl rfl rfl hc11 rfl rfl rfl ?_
   refine V_gn rfl rfl rfl hc11 rfl rfl rfl ?_
   refine V_y (Y_pick_te rfl hc11 rfl) rfl rfl rfl ?_
   exact V_end fun a ha => ⟨(), ha.sub ⟨(by rw [hc11]; rfl), trivial⟩, rfl⟩
  ·refine V_ge rfl rfl rfl hc11 ?_
   refine V_mv rfl rfl ?_
   refine V_ge rfl rfl rfl hc11 ?_
   refine V_y (Y_geq rfl rfl) rfl rfl rfl ?_
   refine V_y (Y_pick_fe rfl hc11 rfl) rfl rfl rfl ?_
   exact V_end fun a ha => ⟨(), ha.sub ⟨(by rw [hc11]; rfl), trivial⟩, rfl⟩
 simp only [List.take, List.drop]
 rintro _ _ rfl
 refine V_as rfl rfl ?_
 refine V_to (fun _ _ => rfl) ?_
 obtain rfl := hm
 refine C_ret ?_
 try simp only [↓inBlock_ret, ↓then_ret]
 exact retQ rfl (Res.one Tryz.results74 rfl) ⟨rfl, rfl⟩

set_option maxRecDepth 4000 in
set_option maxHeartbeats 4000000 in
theorem portref2_lower_c (w : World) {A : Nat → Prop} (hA : ∀ b, w.heap.size ≤ b → A b) (s : ByteArray) {r : ByteArray} (hm : portref2_lower s = some r) : Ret Tryz.prog 75 #[.string s] w fun v w' => v = .string r ∧ Kp Dw w w' := by
 unfold portref2_lower at hm
 refine enter Tryz.func75 rfl Tryz.ntmps75 rfl ?_
 have hA0 := hA
 have hB := Nat.le_refl w.heap.size
 have hK : Tr Dw w.heap.size A w A w := Tr.refl (Dw := Dw) hA
 have hH : Hp w.heap.size A w [] := Hp.nil
 refine C_seq ?_
 refine C_region ?_
 refine V_as rfl rfl ?_
 refine V_to (fun _ _ => rfl) ?_
 refine C_seq ?_
 refine C_region ?_
 refine V_mv rfl rfl ?_
 obtain ⟨x1, hx1, hm⟩ := Option.bind_eq_some_iff.1 hm
 refine V_convU (Dw := Dw) (e := 5) hH hx1 Tryz.underlying9 Tryz.underlying95 Tryz.underlying5 hB hA rfl rfl ?_
 intro v2 w3 A4 hH5 ht6
 replace hK := Tr.trans hK ht6
 replace hB := Nat.le_trans hB ht6.ex.size
 replace hA := ht6.new
 replace hH : Hp w.heap.size A4 w3 (obU 5 v2 x1 :: []) := hH5
 refine V_as rfl rfl ?_
 refine V_to (fun _ _ => rfl) ?_
 refine C_seq ?_
 refine C_seq ?_
 refine C_region ?_
 refine V_mv rfl rfl ?_
 refine V_y (Y_lenSl (Hp.anyU (e := 5) (v := v2) (l := x1) hH (i := 0) rfl) rfl Tryz.underlying95 rfl) rfl rfl rfl ?_
 refine V_mv rfl rfl ?_
 refine V_to (fun _ _ => rfl) ?_
 have hn31 := Hp.leU (e := 5) (v := v2) (l := x1) hH (i := 0) rfl
 obtain ⟨o7, ho7, hm⟩ := Option.bind_eq_some_iff.1 hm
 refine C_cutG (ι := ((List UInt8) × Value × (Nat → Prop))) (fun ⟨s8, v14, A16⟩ => [(3, v14)]) (fun ⟨s8, v14, A16⟩ => fun w' => o7 = .fin s8 ∧ Hp w.heap.size A16 w' (obU 5 v14 s8 :: []) ∧ Tr Dw w.heap.size A4 w3 A16 w') ?_ ?_
 ·refine C_block ?_
  refine C_range ho7 (fun k10 s18 a w' => ∃ i : (Value × (Nat → Prop)), Has ⟨29, [], none⟩ a ([(3, i.1), (8, i.1), (9, .int .i64 (x1.length : Int)), (10, .int .i64 (k10 : Int))]) ∧ Hp w.heap.size i.2 w' (obU 5 i.1 s18 :: []) ∧ Tr Dw w.heap.size A4 w3 i.2 w') (fun a ha => ⟨(v2, A4), ha.sub ⟨rfl, rfl, rfl, rfl, trivial⟩, ⟨hH, Tr.refl (Dw := Dw) hA⟩⟩) ?_
  rintro K k10 s18 a w19 ⟨⟨v20, A22⟩, ha74, hH23, hr9⟩ hle27 K30 h29
  refine C_of ?_ ha74
  replace hB := Nat.le_trans hB hr9.ex.size
  replace hA := hr9.new
  replace hH : Hp w.heap.size A22 w19 (obU 5 v20 s18 :: []) := hH23
  refine C_seq (C_region (V_y (Y_lss rfl rfl) rfl rfl rfl (V_to (fun _ _ => rfl) ?_)))
  refine C_seq ?_
  refine C_cond rfl (fun hc32 => ?_) (fun hc32 => ?_)
  ·have hlt28 := lt_of_dec hc32
   obtain ⟨x24, h25, h26⟩ := K30 hlt28
   refine C_skip_to (fun _ _ => rfl) ?_
   refine C_seq ?_
   obtain ⟨s34, ho33, h25⟩ := Option.bind_eq_some_iff.1 h25
   refine C_cutG (ι := (Value × (Nat → Prop))) (fun ⟨v36, A41⟩ => [(3, v36), (8, v36), (9, .int .i64 (x1.length : Int)), (10, .int .i64 (k10 : Int))]) (fun ⟨v36, A41⟩ => fun w' => Hp w.heap.size A41 w' (obU 5 v36 s34 :: []) ∧ Tr Dw w.heap.size A22 w19 A41 w') ?_ ?_
   ·have hr35 : Tr Dw w.heap.size A22 w19 A22 w19 := Tr.refl (Dw := Dw) hA
    refine C_block ?_
    refine C_seq ?_
    refine C_region ?_
    refine V_mv rfl rfl ?_
    obtain ⟨x43, hx43, ho33⟩ := Option.bind_eq_some_iff.1 ho33
    refine V_indexAddrU (e := 5) (v := v20) (l := s18) hH (i := 0) rfl hx43 Tryz.underlying95 Tryz.sizeOf5 rfl rfl rfl ?_
    intro b44 o45 h46 hl47
    refine V_y (Y_load (El.u8 h46) Tryz.isAgg5 rfl) rfl rfl rfl ?_
    refine V_as rfl rfl ?_
    refine V_as rfl rfl ?_
    refine V_to (fun _ _ => rfl) ?_
    refine C_seq ?_
    refine C_region ?_
    refine V_mv rfl rfl ?_
    refine V_y (Y_geq rfl rfl) rfl rfl rfl ?_
    refine V_mv rfl rfl ?_
    refine V_cut 3 (fun _ : Unit => [(3, v20), (4, .int .i64 (k10 : Int)), (5, .int .u8 (x43.toNat : Int)), (8, v20), (9, .int .i64 (x1.length : Int)), (10, .int .i64 (k10 : Int)), (20, .bool ((decide ((65 : Int) ≤ (x43.toNat : Int))) && (decide ((x43.toNat : Int) ≤ 90))))]) (fun _ w' => w19 = w') ?_ ?_
    ·simp only [List.take, List.drop]
     rcases Bool.eq_false_or_eq_true (decide ((65 : Int) ≤ (x43.toNat : Int))) with hc48 | hc48
     ·refine V_ge rfl rfl rfl hc48 ?_
      refine V_mv rfl rfl ?_
      refine V_ge rfl rfl rfl hc48 ?_
      refine V_y (Y_leq rfl rfl) rfl rfl rfl ?_
      refine V_y (Y_pick_te rfl hc48 rfl) rfl rfl rfl ?_
      exact V_end fun a ha => ⟨(), ha.sub ⟨rfl, rfl, rfl, rfl, rfl, rfl, (by rw [hc48]; rfl), trivial⟩, rfl⟩
     ·refine V_gn rfl rfl rfl hc48 rfl rfl rfl ?_
      refine V_gn rfl rfl rfl hc48 rfl rfl rfl ?_
      refine V_y (Y_pick_fe rfl hc48 rfl) rfl rfl rfl ?_
      exact V_end fun a ha => ⟨(), ha.sub ⟨rfl, rfl, rfl, rfl, rfl, rfl, (by rw [hc48]; rfl), trivial⟩, rfl⟩
    simp only [List.take, List.drop]
    rintro _ _ rfl
    refine V_to (fun _ _ => rfl) ?_
    obtain ⟨s51, ho50, ho33⟩ := Option.bind_eq_some_iff.1 ho33
    refine C_cutG (ι := (Value × (Nat → Prop))) (fun ⟨v53, A58⟩ => [(3, v53), (8, v53), (9, .int .i64 (x1.length : Int)), (10, .int .i64 (k10 : Int))]) (fun ⟨v53, A58⟩ => fun w' => Hp w.heap.size A58 w' (obU 5 v53 s51 :: []) ∧ Tr Dw w.heap.size A22 w19 A58 w') ?_ ?_
    ·have hr52 : Tr Dw w.heap.size A22 w19 A22 w19 := Tr.refl (Dw := Dw) hA
     refine C_cond rfl (fun hc60 => ?_) (fun hc60 => ?_)
     ·rw [if_pos hc60] at ho50
      refine C_region ?_
      refine V_mv rfl rfl ?_
      refine V_mv rfl rfl ?_
      refine V_mv rfl rfl ?_
      refine V_y (Y_addB rfl rfl) rfl rfl rfl ?_
      refine V_indexAddrU (e := 5) (v := v20) (l := s18) hH (i := 0) rfl hx43 Tryz.underlying95 Tryz.sizeOf5 rfl rfl rfl ?_
      intro b61 o62 h63 hl64
      obtain ⟨x65, hx65, ho50⟩ := Option.bind_eq_some_iff.1 ho50
      refine V_storeU (Dw := Dw) (e := 5) (v := v20) (l := s18) hH (i := 0) rfl hl64 hx65 rfl Tryz.sizeOf5 rfl hB hA rfl rfl ?_
      intro w66 hH67 ht68
      replace hr52 := Tr.trans hr52 ht68
      replace hH : Hp w.heap.size A22 w66 (obU 5 v20 x65 :: []) := hH67
      obtain rfl := Option.some.inj ho50
      refine V_end (fun a ha69 => ?_)
      exact ⟨(v20, A22), ha69.sub ⟨rfl, rfl, rfl, rfl, trivial⟩, ⟨hH, hr52⟩⟩
     ·rw [if_neg (nt hc60)] at ho50
      obtain rfl := Option.some.inj ho50
      refine C_skip (fun a ha70 => ?_)
      exact ⟨(v20, A22), ha70.sub ⟨rfl, rfl, rfl, rfl, trivial⟩, ⟨hH, hr52⟩⟩
    rintro ⟨v53, A58⟩ w55 ⟨hH59, hk56⟩ a ha57
    replace hr35 := Tr.trans hr35 hk56
    replace hA := hk56.new
    replace hH : Hp w.heap.size A58 w55 (obU 5 v53 s51 :: []) := hH59
    obtain rfl := Option.some.inj ho33
    exact ⟨(v53, A58), ha57.sub ⟨rfl, rfl, rfl, rfl, trivial⟩, ⟨hH, hr35⟩⟩
   rintro ⟨v36, A41⟩ w38 ⟨hH42, hk39⟩ a ha40
   replace hr9 := Tr.trans hr9 hk39
   replace hA := hk39.new
   replace hH : Hp w.heap.size A41 w38 (obU 5 v36 s34 :: []) := hH42
   refine C_at (n := ⟨29, [], none⟩) (fun _ _ => rfl) ?_ ha40
   refine C_region ?_
   refine V_y (Y_addI rfl rfl) rfl rfl rfl ?_
   refine V_mv rfl rfl ?_
   obtain rfl := Option.some.inj h25
   refine V_end (fun a ha72 => ?_)
   exact ⟨s34, hlt28, h26, ⟨(v36, A41), ha72.sub ⟨rfl, rfl, rfl, (congrArg (fun z => some (Value.int .i64 z)) (w64_succ hlt28 hn31)), trivial⟩, ⟨hH, hr9⟩⟩⟩
  ·refine C_exit (fun a ha73 => ?_)
   exact ⟨(s18, v20, A22), ha73.sub ⟨rfl, trivial⟩, ⟨(h29 (eq_of_dec hle27 hc32)).symm, hH, hr9⟩⟩
 rintro ⟨s8, v14, A16⟩ w11 ⟨rfl, hH17, hk12⟩ a ha13
 rw [Lp.andThen_fin] at hm
 replace hK := Tr.trans hK hk12
 replace hA := hk12.new
 replace hH : Hp w.heap.size A16 w11 (obU 5 v14 s8 :: []) := hH17
 refine C_at (n := ⟨29, [], none⟩) (fun _ _ => rfl) ?_ ha13
 refine C_seq ?_
 refine C_region ?_
 refine V_mv rfl rfl ?_
 obtain ⟨A75, ht76, h77, hH78⟩ := Hp.freezeU (Dw := Dw) (v := v14) (l := s8) hH (i := 0) rfl hA
 replace hK := Tr.trans hK ht76
 replace hH : Hp w.heap.size A75 w11 ([]) := hH78
 refine V_y (Y_convBS (l := s8) h77 Tryz.underlying95 Tryz.underlying5 Tryz.underlying9 rfl) rfl rfl rfl ?_
 refine V_as rfl rfl ?_
 refine V_to (fun _ _ => rfl) ?_
 obtain rfl := Option.some.inj hm
 refine C_ret ?_
 try simp only [↓inBlock_ret, ↓then_ret]
 exact retQ rfl (Res.one Tryz.results75 rfl) ⟨rfl, hK.kp⟩

set_option maxRecDepth 4000 in
set_option maxHeartbeats 4000000 in
theorem portref2_WordsOf_c (w : World) {A : Nat → Prop} (hA : ∀ b, w.heap.size ≤ b → A b) (s : ByteArray) {r : (List ByteArray)} (hm : portref2_WordsOf s = some r) : Ret Tryz.prog 39 #[.string s] w fun v w' => ∃ s0, v = s0 ∧ Ownd 9 w w' s0 r ∧ Kp Dw w w' := by
 unfold portref2_WordsOf at hm
 refine enter Tryz.func39 rfl Tryz.ntmps39 rfl ?_
 have hA0 := hA
 have hB := Nat.le_refl w.heap.size
 have hK : Tr Dw w.heap.size A w A w := Tr.refl (Dw := Dw) hA
 have hH : Hp w.heap.size A w [] := Hp.nil
 refine C_seq ?_
 refine C_region ?_
 refine V_as rfl rfl ?_
 refine V_to (fun _ _ => rfl) ?_
 refine C_seq ?_
 refine C_region ?_
 refine V_as rfl rfl ?_
 refine V_to (fun _ _ => rfl) ?_
 refine C_seq ?_
 refine C_seq ?_
 refine C_region ?_
 refine V_as rfl rfl ?_
 refine V_to (fun _ _ => rfl) ?_
 replace hH : Hp w.heap.size A w (obS (α := ByteArray) 9 (.slice none 0 0) ([] : (List ByteArray)) :: []) := Hp.addNil (α := ByteArray) (e := 9) hH
 obtain ⟨o1, ho1, hm⟩ := Option.bind_eq_some_iff.1 hm
 refine C_cutG (ι := (((List ByteArray) × Int) × Value × (Nat → Prop))) (fun ⟨s2, v8, A10⟩ => [(3, v8)]) (fun ⟨s2, v8, A10⟩ => fun w' => o1 = .fin s2 ∧ Hp w.heap.size A10 w' (obS (α := ByteArray) 9 v8 s2.1 :: []) ∧ Tr Dw w.heap.size A w A10 w') ?_ ?_
 ·refine C_block ?_
  refine C_while ho1 (fun s12 a w' => ∃ i : (Value × (Nat → Prop)), Has ⟨45, [], none⟩ a ([(0, .string s), (3, i.1), (4, .int .i64 s12.2)]) ∧ Hp w.heap.size i.2 w' (obS (α := ByteArray) 9 i.1 s12.1 :: []) ∧ Tr Dw w.heap.size A w i.2 w') (fun a ha => ⟨(.slice none 0 0, A), ha.sub ⟨rfl, rfl, rfl, trivial⟩, ⟨hH, Tr.refl (Dw := Dw) hA⟩⟩) ?_
  rintro K s12 a w13 ⟨⟨v14, A16⟩, ha83, hH17, hr3⟩ K24
  refine C_of ?_ ha83
  replace hB := Nat.le_trans hB hr3.ex.size
  replace hA := hr3.new
  replace hH : Hp w.heap.size A16 w13 (obS (α := ByteArray) 9 v14 s12.1 :: []) := hH17
  obtain ⟨x18, h19, h20⟩ := K24
  refine C_seq ?_
  refine C_seq ?_
  refine C_region ?_
  refine V_mv rfl rfl ?_
  refine V_mv rfl rfl ?_
  refine V_y (Y_lenStr rfl Tryz.underlying9 rfl) rfl rfl rfl ?_
  refine V_y (Y_lss rfl rfl) rfl rfl rfl ?_
  refine V_to (fun _ _ => rfl) ?_
  refine C_cond rfl (fun hc25 => ?_) (fun hc25 => ?_)
  ·rw [if_pos hc25] at h19
   refine C_skip_to (fun _ _ => rfl) ?_
   refine C_block ?_
   refine C_seq ?_
   refine C_region ?_
   refine V_mv rfl rfl ?_
   refine V_as rfl rfl ?_
   refine V_to (fun _ _ => rfl) ?_
   refine C_seq ?_
   obtain ⟨o26, ho26, h19⟩ := Option.bind_eq_some_iff.1 h19
   refine C_cutG (ι := Int) (fun (s27 : Int) => [(0, .string s), (3, v14), (4, .int .i64 s12.2), (5, .int .i64 s27)]) (fun (s27 : Int) => fun w' => o26 = .fin s27 ∧ w13 = w') ?_ ?_
   ·refine C_block ?_
    refine C_while ho26 (fun s33 a w' => ∃ i : Unit, Has ⟨45, [], none⟩ a ([(0, .string s), (3, v14), (4, .int .i64 s12.2), (5, .int .i64 s33)]) ∧ w13 = w') (fun a ha => ⟨(), ha.sub ⟨rfl, rfl, rfl, rfl, trivial⟩, rfl⟩) ?_
    rintro K s33 a _ ⟨_, ha48, rfl⟩ K41
    refine C_of ?_ ha48
    obtain ⟨x35, h36, h37⟩ := K41
    refine C_seq ?_
    refine C_seq ?_
    refine C_region ?_
    refine V_mv rfl rfl ?_
    refine V_mv rfl rfl ?_
    refine V_y (Y_lenStr rfl Tryz.underlying9 rfl) rfl rfl rfl ?_
    refine V_y (Y_lss rfl rfl) rfl rfl rfl ?_
    refine V_mv rfl rfl ?_
    obtain ⟨s43, hs43, h36⟩ := Option.bind_eq_some_iff.1 h36
    refine V_cut 5 (fun _ : Unit => [(0, .string s), (3, v14), (4, .int .i64 s12.2), (5, .int .i64 s33), (20, .bool s43)]) (fun _ w' => w13 = w') ?_ ?_
    ·simp only [List.take, List.drop]
     rcases Bool.eq_false_or_eq_true (decide (s33 < (s.size : Int))) with hc42 | hc42
     ·rw [if_pos hc42] at hs43
      refine V_ge rfl rfl rfl hc42 ?_
      refine V_mv rfl rfl ?_
      refine V_ge rfl rfl rfl hc42 ?_
      refine V_mv rfl rfl ?_
      refine V_ge rfl rfl rfl hc42 ?_
      obtain ⟨x44, hx44, hs43⟩ := Option.bind_eq_some_iff.1 hs43
      refine V_y (Y_indexS hx44 Tryz.underlying9 rfl rfl) rfl rfl rfl ?_
      refine V_ge rfl rfl rfl hc42 ?_
      refine V_call Tryz.call74 rfl rfl rfl rfl (portref2_isWordByte_c w13 (x44.toNat : Int)) ?_
      rintro _ _ ⟨rfl, rfl⟩
      refine V_y (Y_pick_te rfl hc42 rfl) rfl rfl rfl ?_
      obtain rfl := Option.some.inj hs43
      exact V_end fun a ha => ⟨(), ha.sub ⟨rfl, rfl, rfl, rfl, rfl, trivial⟩, rfl⟩
     ·rw [if_neg (nt hc42)] at hs43
      refine V_gn rfl rfl rfl hc42 rfl rfl rfl ?_
      refine V_gn rfl rfl rfl hc42 rfl rfl rfl ?_
      refine V_gn rfl rfl rfl hc42 rfl rfl rfl ?_
      refine V_gn rfl rfl rfl hc42 rfl rfl rfl ?_
      refine V_y (Y_pick_fe rfl hc42 rfl) rfl rfl rfl ?_
      obtain rfl := Option.some.inj hs43
      exact V_end fun a ha => ⟨(), ha.sub ⟨rfl, rfl, rfl, rfl, rfl, trivial⟩, rfl⟩
    simp only [List.take, List.drop]
    rintro _ _ rfl
    refine V_to (fun _ _ => rfl) ?_
    refine C_cond rfl (fun hc45 => ?_) (fun hc45 => ?_)
    ·rw [if_pos hc45] at h36
     refine C_skip_to (fun _ _ => rfl) ?_
     refine C_block ?_
     refine C_region ?_
     refine V_mv rfl rfl ?_
     refine V_y (Y_addI rfl rfl) rfl rfl rfl ?_
     refine V_as rfl rfl ?_
     obtain rfl := Option.some.inj h36
     refine V_end (fun a ha46 => ?_)
     exact ⟨w64 (s33 + 1), h37, ⟨(), ha46.sub ⟨rfl, rfl, rfl, rfl, trivial⟩, rfl⟩⟩
    ·rw [if_neg (nt hc45)] at h36
     obtain rfl := Option.some.inj h36
     refine C_exit (fun a ha47 => ?_)
     exact ⟨s33, ha47.sub ⟨rfl, rfl, rfl, rfl, trivial⟩, ⟨h37.symm, rfl⟩⟩
   rintro s27 _ ⟨rfl, rfl⟩ a ha32
   rw [Lp.andThen_fin] at h19
   refine C_at (n := ⟨45, [], none⟩) (fun _ _ => rfl) ?_ ha32
   refine C_seq ?_
   refine C_seq ?_
   refine C_region ?_
   refine V_mv rfl rfl ?_
   refine V_mv rfl rfl ?_
   refine V_y (Y_gtr rfl rfl) rfl rfl rfl ?_
   refine V_mv rfl rfl ?_
   refine V_cut 5 (fun _ : Unit => [(0, .string s), (3, v14), (4, .int .i64 s12.2), (5, .int .i64 s27), (31, .bool ((decide (s12.2 < s27)) && (decide ((w64 (s27 - s12.2)) ≤ 30))))]) (fun _ w' => w13 = w') ?_ ?_
   ·simp only [List.take, List.drop]
    rcases Bool.eq_false_or_eq_true (decide (s12.2 < s27)) with hc49 | hc49
    ·refine V_ge rfl rfl rfl hc49 ?_
     refine V_mv rfl rfl ?_
     refine V_ge rfl rfl rfl hc49 ?_
     refine V_mv rfl rfl ?_
     refine V_ge rfl rfl rfl hc49 ?_
     refine V_y (Y_subI rfl rfl) rfl rfl rfl ?_
     refine V_ge rfl rfl rfl hc49 ?_
     refine V_y (Y_leq rfl rfl) rfl rfl rfl ?_
     refine V_y (Y_pick_te rfl hc49 rfl) rfl rfl rfl ?_
     exact V_end fun a ha => ⟨(), ha.sub ⟨rfl, rfl, rfl, rfl, (by rw [hc49]; rfl), trivial⟩, rfl⟩
    ·refine V_gn rfl rfl rfl hc49 rfl rfl rfl ?_
     refine V_gn rfl rfl rfl hc49 rfl rfl rfl ?_
     refine V_gn rfl rfl rfl hc49 rfl rfl rfl ?_
     refine V_gn rfl rfl rfl hc49 rfl rfl rfl ?_
     refine V_y (Y_pick_fe rfl hc49 rfl) rfl rfl rfl ?_
     exact V_end fun a ha => ⟨(), ha.sub ⟨rfl, rfl, rfl, rfl, (by rw [hc49]; rfl), trivial⟩, rfl⟩
   simp only [List.take, List.drop]
   rintro _ _ rfl
   refine V_to (fun _ _ => rfl) ?_
   obtain ⟨s52, ho51, h19⟩ := Option.bind_eq_some_iff.1 h19
   refine C_cutG (ι := (Value × (Nat → Prop))) (fun ⟨v54, A59⟩ => [(0, .string s), (3, v54), (4, .int .i64 s12.2), (5, .int .i64 s27)]) (fun ⟨v54, A59⟩ => fun w' => Hp w.heap.size A59 w' (obS (α := ByteArray) 9 v54 s52 :: []) ∧ Tr Dw w.heap.size A16 w13 A59 w') ?_ ?_
   ·have hr53 : Tr Dw w.heap.size A16 w13 A16 w13 := Tr.refl (Dw := Dw) hA
    refine C_cond rfl (fun hc61 => ?_) (fun hc61 => ?_)
    ·rw [if_pos hc61] at ho51
     refine C_region ?_
     refine V_mv rfl rfl ?_
     refine V_mv rfl rfl ?_
     refine V_mv rfl rfl ?_
     refine V_mv rfl rfl ?_
     obtain ⟨x62, hx62, ho51⟩ := Option.bind_eq_some_iff.1 ho51
     refine V_y (Y_sliceSLH hx62 Tryz.underlying9 rfl rfl rfl) rfl rfl rfl ?_
     obtain ⟨x63, hx63, ho51⟩ := Option.bind_eq_some_iff.1 ho51
     refine V_call Tryz.call75 rfl rfl rfl rfl (portref2_lower_c (Dw := Dw) w13 hA x62 hx63) ?_
     rintro _ w65 ⟨rfl, hk66⟩
     have ht67 := Kp.tr hk66 hA hB
     replace hH := Hp.kp hH hk66
     replace hr53 := Tr.trans hr53 ht67
     replace hB := Nat.le_trans hB ht67.ex.size
     replace hA := ht67.new
     refine V_buildSlice (Dw := Dw) (l := ([x63] : List ByteArray)) (len := 1) Tryz.underlying42 Tryz.sizeOf9 Tryz.zeroValue9 rfl (by with_unfolding_all rfl) (show (1 * 1 : Nat) ≠ 0 by decide) (show (1 * 1 : Nat) ≤ 2 ^ 24 by decide) hA ⟨[.string x63], _, rfl, rfl, rfl⟩ rfl rfl ?_
     intro v68 w69 hk71 h70
     have ht72 := Kp.tr hk71 hA hB
     replace hH := Hp.kp hH hk71
     replace hr53 := Tr.trans hr53 ht72
     replace hB := Nat.le_trans hB ht72.ex.size
     replace hA := ht72.new
     obtain ⟨x73, hx73, ho51⟩ := Option.bind_eq_some_iff.1 ho51
     refine V_appendH (Dw := Dw) (e := 9) (v := v14) (l := s12.1) (ti := Tryz.t9) (bytes := 16) (lim := 8796093022208) hH (i := 0) rfl h70 hx73 Tryz.underlying42 Tryz_info9 rfl rfl rfl rfl (by decide) (by decide) (by decide) hB hA rfl rfl rfl ?_
     intro v74 w75 A76 hH77 ht78
     replace hr53 := Tr.trans hr53 ht78
     replace hH : Hp w.heap.size A76 w75 (obS (α := ByteArray) 9 v74 x73 :: []) := hH77
     refine V_as rfl rfl ?_
     obtain rfl := Option.some.inj ho51
     refine V_end (fun a ha79 => ?_)
     exact ⟨(v74, A76), ha79.sub ⟨rfl, rfl, rfl, rfl, trivial⟩, ⟨hH, hr53⟩⟩
    ·rw [if_neg (nt hc61)] at ho51
     obtain rfl := Option.some.inj ho51
     refine C_skip (fun a ha80 => ?_)
     exact ⟨(v14, A16), ha80.sub ⟨rfl, rfl, rfl, rfl, trivial⟩, ⟨hH, hr53⟩⟩
   rintro ⟨v54, A59⟩ w56 ⟨hH60, hk57⟩ a ha58
   replace hr3 := Tr.trans hr3 hk57
   replace hA := hk57.new
   replace hH : Hp w.heap.size A59 w56 (obS (α := ByteArray) 9 v54 s52 :: []) := hH60
   refine C_at (n := ⟨45, [], none⟩) (fun _ _ => rfl) ?_ ha58
   refine C_region ?_
   refine V_mv rfl rfl ?_
   refine V_mv rfl rfl ?_
   refine V_y (Y_addI rfl rfl) rfl rfl rfl ?_
   refine V_y (Y_max2 rfl rfl) rfl rfl rfl ?_
   refine V_as rfl rfl ?_
   obtain rfl := Option.some.inj h19
   refine V_end (fun a ha81 => ?_)
   exact ⟨(s52, (if s27 < w64 (s12.2 + 1) then w64 (s12.2 + 1) else s27)), h20, ⟨(v54, A59), ha81.sub ⟨rfl, rfl, rfl, trivial⟩, ⟨hH, hr3⟩⟩⟩
  ·rw [if_neg (nt hc25)] at h19
   obtain rfl := Option.some.inj h19
   refine C_exit (fun a ha82 => ?_)
   exact ⟨((s12.1, s12.2), v14, A16), ha82.sub ⟨rfl, trivial⟩, ⟨h20.symm, hH, hr3⟩⟩
 rintro ⟨s2, v8, A10⟩ w5 ⟨rfl, hH11, hk6⟩ a ha7
 rw [Lp.andThen_fin] at hm
 replace hK := Tr.trans hK hk6
 replace hA := hk6.new
 replace hH : Hp w.heap.size A10 w5 (obS (α := ByteArray) 9 v8 s2.1 :: []) := hH11
 refine C_at (n := ⟨45, [], none⟩) (fun _ _ => rfl) ?_ ha7
 refine C_seq ?_
 refine C_region ?_
 refine V_mv rfl rfl ?_
 refine V_as rfl rfl ?_
 refine V_to (fun _ _ => rfl) ?_
 obtain rfl := Option.some.inj hm
 refine C_ret ?_
 try simp only [↓inBlock_ret, ↓then_ret]
 exact retQ rfl (Res.one Tryz.results39 rfl) ⟨v8, rfl, (Hp.ownd hH (i := 0) rfl), hK.kp⟩

set_option maxRecDepth 4000 in
set_option maxHeartbeats 4000000 in
theorem slices_Index_Lint_int_c (w : World) {A : Nat → Prop} (s : (List Int)) (v_s : Value) (h_s : Sl A w v_s s) (v : Int) {r : Int} (hm : slices_Index_Lint_int s v = some r) : Ret Tryz.prog 40 #[v_s, .int .i64 v] w fun v w' => v = .int .i64 r ∧ w = w' := by
 unfold slices_Index_Lint_int at hm
 refine enter Tryz.func40 rfl Tryz.ntmps40 rfl ?_
 refine C_seq ?_
 refine C_region ?_
 refine V_as rfl rfl ?_
 refine V_to (fun _ _ => rfl) ?_
 refine C_seq ?_
 refine C_seq ?_
 refine C_region ?_
 refine V_mv rfl rfl ?_
 refine V_y (Y_lenSl h_s rfl Tryz.underlying22 rfl) rfl rfl rfl ?_
 refine V_mv rfl rfl ?_
 refine V_to (fun _ _ => rfl) ?_
 have hn19 := Sl.le h_s
 obtain ⟨o3, ho3, hm⟩ := Option.bind_eq_some_iff.1 hm
 refine C_cutG (ι := Unit) (fun (s4 : Unit) => []) (fun (s4 : Unit) => fun w' => o3 = .fin s4 ∧ w = w') ?_ ?_
 ·refine C_block ?_
  refine C_range ho3 (fun k6 _ a w' => ∃ i : Unit, Has ⟨19, [], none⟩ a ([(0, v_s), (1, .int .i64 v), (7, .int .i64 (s.length : Int)), (8, .int .i64 (k6 : Int))]) ∧ w = w') (fun a ha => ⟨(), ha.sub ⟨rfl, rfl, rfl, rfl, trivial⟩, rfl⟩) ?_
  rintro K k6 _ a _ ⟨_, ha28, rfl⟩ hle15 K18 h17
  refine C_of ?_ ha28
  refine C_seq (C_region (V_y (Y_lss rfl rfl) rfl rfl rfl (V_to (fun _ _ => rfl) ?_)))
  refine C_seq ?_
  refine C_cond rfl (fun hc20 => ?_) (fun hc20 => ?_)
  ·have hlt16 := lt_of_dec hc20
   obtain ⟨x12, h13, h14⟩ := K18 hlt16
   refine C_skip_to (fun _ _ => rfl) ?_
   refine C_seq ?_
   refine C_block ?_
   refine C_seq ?_
   refine C_region ?_
   refine V_mv rfl rfl ?_
   refine V_as rfl rfl ?_
   refine V_to (fun _ _ => rfl) ?_
   refine C_seq ?_
   refine C_region ?_
   refine V_mv rfl rfl ?_
   refine V_mv rfl rfl ?_
   refine V_mv rfl rfl ?_
   obtain ⟨x21, hx21, h13⟩ := Option.bind_eq_some_iff.1 h13
   refine V_indexAddr h_s hx21 Tryz.underlying22 Tryz.sizeOf3 rfl rfl rfl ?_
   intro b22 o23 h24
   refine V_y (Y_load (El.int h24) Tryz.isAgg3 rfl) rfl rfl rfl ?_
   refine V_y (Y_eql rfl rfl) rfl rfl rfl ?_
   refine V_to (fun _ _ => rfl) ?_
   refine C_cond rfl (fun hc25 => ?_) (fun hc25 => ?_)
   ·rw [if_pos hc25] at h13
    refine C_seq ?_
    refine C_region ?_
    refine V_mv rfl rfl ?_
    refine V_as rfl rfl ?_
    refine V_to (fun _ _ => rfl) ?_
    obtain rfl := Option.some.inj h13
    obtain rfl := (h14 : Lp.rt _ = _)
    rw [Lp.andThen_rt] at hm
    obtain rfl := Option.some.inj hm
    refine C_ret ?_
    try simp only [↓inBlock_ret, ↓then_ret]
    exact retQ rfl (Res.one Tryz.results40 rfl) ⟨rfl, rfl⟩
   ·rw [if_neg (nt hc25)] at h13
    refine C_skip_to (fun _ _ => rfl) ?_
    refine C_region ?_
    refine V_y (Y_addI rfl rfl) rfl rfl rfl ?_
    refine V_mv rfl rfl ?_
    obtain rfl := Option.some.inj h13
    refine V_end (fun a ha26 => ?_)
    exact ⟨(), hlt16, h14, ⟨(), ha26.sub ⟨rfl, rfl, rfl, (congrArg (fun z => some (Value.int .i64 z)) (w64_succ hlt16 hn19)), trivial⟩, rfl⟩⟩
  ·refine C_exit (fun a ha27 => ?_)
   exact ⟨(), ha27.sub trivial, ⟨(h17 (eq_of_dec hle15 hc20)).symm, rfl⟩⟩
 rintro s4 _ ⟨rfl, rfl⟩ a ha9
 rw [Lp.andThen_fin] at hm
 refine C_at (n := ⟨19, [], none⟩) (fun _ _ => rfl) ?_ ha9
 refine C_seq ?_
 refine C_region ?_
 refine V_as rfl rfl ?_
 refine V_to (fun _ _ => rfl) ?_
 obtain rfl := Option.some.inj hm
 refine C_ret ?_
 try simp only [↓inBlock_ret, ↓then_ret]
 exact retQ rfl (Res.one Tryz.results40 rfl) ⟨rfl, rfl⟩

set_option maxRecDepth 4000 in
set_option maxHeartbeats 4000000 in
theorem portref2_positionsFault_c (w : World) {A : Nat → Prop} (l : (List Int)) (v_l : Value) (h_l : Sl A w v_l l) (size : Int) {r : Int} (hm : portref2_positionsFault l size = some r) : Ret Tryz.prog 41 #[v_l, .int .i64 size] w fun v w' => v = .int .i64 r ∧ w = w' := by
 unfold portref2_positionsFault at hm
 refine enter Tryz.func41 rfl Tryz.ntmps41 rfl ?_
 refine C_seq ?_
 refine C_region ?_
 refine V_as rfl rfl ?_
 refine V_to (fun _ _ => rfl) ?_
 refine C_seq ?_
 refine C_seq ?_
 refine C_region ?_
 refine V_mv rfl rfl ?_
 refine V_y (Y_lenSl h_l rfl Tryz.underlying22 rfl) rfl rfl rfl ?_
 refine V_mv rfl rfl ?_
 refine V_to (fun _ _ => rfl) ?_
 have hn19 := Sl.le h_l
 obtain ⟨o3, ho3, hm⟩ := Option.bind_eq_some_iff.1 hm
 refine C_cutG (ι := Unit) (fun (s4 : Unit) => [(0, v_l)]) (fun (s4 : Unit) => fun w' => o3 = .fin s4 ∧ w = w') ?_ ?_
 ·refine C_block ?_
  refine C_range ho3 (fun k6 _ a w' => ∃ i : Unit, Has ⟨42, [], none⟩ a ([(0, v_l), (1, .int .i64 size), (9, v_l), (10, .int .i64 (l.length : Int)), (11, .int .i64 (k6 : Int))]) ∧ w = w') (fun a ha => ⟨(), ha.sub ⟨rfl, rfl, rfl, rfl, rfl, trivial⟩, rfl⟩) ?_
  rintro K k6 _ a _ ⟨_, ha30, rfl⟩ hle15 K18 h17
  refine C_of ?_ ha30
  refine C_seq (C_region (V_y (Y_lss rfl rfl) rfl rfl rfl (V_to (fun _ _ => rfl) ?_)))
  refine C_seq ?_
  refine C_cond rfl (fun hc20 => ?_) (fun hc20 => ?_)
  ·have hlt16 := lt_of_dec hc20
   obtain ⟨x12, h13, h14⟩ := K18 hlt16
   refine C_skip_to (fun _ _ => rfl) ?_
   refine C_seq ?_
   refine C_block ?_
   refine C_seq ?_
   refine C_region ?_
   obtain ⟨x21, hx21, h13⟩ := Option.bind_eq_some_iff.1 h13
   refine V_indexAddr h_l hx21 Tryz.underlying22 Tryz.sizeOf3 rfl rfl rfl ?_
   intro b22 o23 h24
   refine V_y (Y_load (El.int h24) Tryz.isAgg3 rfl) rfl rfl rfl ?_
   refine V_as rfl rfl ?_
   refine V_to (fun _ _ => rfl) ?_
   refine C_seq ?_
   refine C_region ?_
   refine V_mv rfl rfl ?_
   refine V_y (Y_lss rfl rfl) rfl rfl rfl ?_
   refine V_mv rfl rfl ?_
   refine V_cut 4 (fun _ : Unit => [(0, v_l), (1, .int .i64 size), (9, v_l), (10, .int .i64 (l.length : Int)), (11, .int .i64 (k6 : Int)), (21, .bool ((decide (x21 < 0)) || (decide (size ≤ x21))))]) (fun _ w' => w = w') ?_ ?_
   ·simp only [List.take, List.drop]
    rcases Bool.eq_false_or_eq_true (decide (x21 < 0)) with hc25 | hc25
    ·refine V_gn rfl rfl rfl hc25 rfl rfl rfl ?_
     refine V_gn rfl rfl rfl hc25 rfl rfl rfl ?_
     refine V_gn rfl rfl rfl hc25 rfl rfl rfl ?_
     refine V_y (Y_pick_te rfl hc25 rfl) rfl rfl rfl ?_
     exact V_end fun a ha => ⟨(), ha.sub ⟨rfl, rfl, rfl, rfl, rfl, (by rw [hc25]; rfl), trivial⟩, rfl⟩
    ·refine V_ge rfl rfl rfl hc25 ?_
     refine V_mv rfl rfl ?_
     refine V_ge rfl rfl rfl hc25 ?_
     refine V_mv rfl rfl ?_
     refine V_ge rfl rfl rfl hc25 ?_
     refine V_y (Y_geq rfl rfl) rfl rfl rfl ?_
     refine V_y (Y_pick_fe rfl hc25 rfl) rfl rfl rfl ?_
     exact V_end fun a ha => ⟨(), ha.sub ⟨rfl, rfl, rfl, rfl, rfl, (by rw [hc25]; rfl), trivial⟩, rfl⟩
   simp only [List.take, List.drop]
   rintro _ _ rfl
   refine V_to (fun _ _ => rfl) ?_
   refine C_cond rfl (fun hc27 => ?_) (fun hc27 => ?_)
   ·rw [if_pos hc27] at h13
    refine C_seq ?_
    refine C_region ?_
    refine V_as rfl rfl ?_
    refine V_to (fun _ _ => rfl) ?_
    obtain rfl := Option.some.inj h13
    obtain rfl := (h14 : Lp.rt _ = _)
    rw [Lp.andThen_rt] at hm
    obtain rfl := Option.some.inj hm
    refine C_ret ?_
    try simp only [↓inBlock_ret, ↓then_ret]
    exact retQ rfl (Res.one Tryz.results41 rfl) ⟨rfl, rfl⟩
   ·rw [if_neg (nt hc27)] at h13
    refine C_skip_to (fun _ _ => rfl) ?_
    refine C_region ?_
    refine V_y (Y_addI rfl rfl) rfl rfl rfl ?_
    refine V_mv rfl rfl ?_
    obtain rfl := Option.some.inj h13
    refine V_end (fun a ha28 => ?_)
    exact ⟨(), hlt16, h14, ⟨(), ha28.sub ⟨rfl, rfl, rfl, rfl, (congrArg (fun z => some (Value.int .i64 z)) (w64_succ hlt16 hn19)), trivial⟩, rfl⟩⟩
  ·refine C_exit (fun a ha29 => ?_)
   exact ⟨(), ha29.sub ⟨rfl, trivial⟩, ⟨(h17 (eq_of_dec hle15 hc20)).symm, rfl⟩⟩
 rintro s4 _ ⟨rfl, rfl⟩ a ha9
 rw [Lp.andThen_fin] at hm
 refine C_at (n := ⟨42, [], none⟩) (fun _ _ => rfl) ?_ ha9
 refine C_seq ?_
 refine C_seq ?_
 refine C_region ?_
 refine V_mv rfl rfl ?_
 refine V_y (Y_lenSl h_l rfl Tryz.underlying22 rfl) rfl rfl rfl ?_
 refine V_mv rfl rfl ?_
 refine V_to (fun _ _ => rfl) ?_
 have hn47 := Sl.le h_l
 obtain ⟨o31, ho31, hm⟩ := Option.bind_eq_some_iff.1 hm
 refine C_cutG (ι := Unit) (fun (s32 : Unit) => []) (fun (s32 : Unit) => fun w' => o31 = .fin s32 ∧ w = w') ?_ ?_
 ·refine C_block ?_
  refine C_range ho31 (fun k34 _ a w' => ∃ i : Unit, Has ⟨42, [], none⟩ a ([(0, v_l), (23, v_l), (24, .int .i64 (l.length : Int)), (25, .int .i64 (k34 : Int))]) ∧ w = w') (fun a ha => ⟨(), ha.sub ⟨rfl, rfl, rfl, rfl, trivial⟩, rfl⟩) ?_
  rintro K k34 _ a _ ⟨_, ha62, rfl⟩ hle43 K46 h45
  refine C_of ?_ ha62
  refine C_seq (C_region (V_y (Y_lss rfl rfl) rfl rfl rfl (V_to (fun _ _ => rfl) ?_)))
  refine C_seq ?_
  refine C_cond rfl (fun hc48 => ?_) (fun hc48 => ?_)
  ·have hlt44 := lt_of_dec hc48
   obtain ⟨x40, h41, h42⟩ := K46 hlt44
   refine C_skip_to (fun _ _ => rfl) ?_
   refine C_seq ?_
   refine C_block ?_
   refine C_seq ?_
   refine C_region ?_
   refine V_mv rfl rfl ?_
   obtain ⟨x49, hx49, h41⟩ := Option.bind_eq_some_iff.1 h41
   refine V_indexAddr h_l hx49 Tryz.underlying22 Tryz.sizeOf3 rfl rfl rfl ?_
   intro b50 o51 h52
   refine V_y (Y_load (El.int h52) Tryz.isAgg3 rfl) rfl rfl rfl ?_
   refine V_as rfl rfl ?_
   refine V_as rfl rfl ?_
   refine V_to (fun _ _ => rfl) ?_
   refine C_seq ?_
   refine C_region ?_
   refine V_mv rfl rfl ?_
   refine V_y (Y_gtr rfl rfl) rfl rfl rfl ?_
   refine V_mv rfl rfl ?_
   obtain ⟨s54, hs54, h41⟩ := Option.bind_eq_some_iff.1 h41
   refine V_cut 8 (fun _ : Unit => [(0, v_l), (23, v_l), (24, .int .i64 (l.length : Int)), (25, .int .i64 (k34 : Int)), (40, .bool s54)]) (fun _ w' => w = w') ?_ ?_
   ·simp only [List.take, List.drop]
    rcases Bool.eq_false_or_eq_true (decide ((0 : Int) < (k34 : Int))) with hc53 | hc53
    ·rw [if_pos hc53] at hs54
     refine V_ge rfl rfl rfl hc53 ?_
     refine V_mv rfl rfl ?_
     refine V_ge rfl rfl rfl hc53 ?_
     refine V_mv rfl rfl ?_
     refine V_ge rfl rfl rfl hc53 ?_
     refine V_mv rfl rfl ?_
     refine V_ge rfl rfl rfl hc53 ?_
     refine V_y (Y_subI rfl rfl) rfl rfl rfl ?_
     refine V_ge rfl rfl rfl hc53 ?_
     obtain ⟨x55, hx55, hs54⟩ := Option.bind_eq_some_iff.1 hs54
     refine V_indexAddr h_l hx55 Tryz.underlying22 Tryz.sizeOf3 rfl rfl rfl ?_
     intro b56 o57 h58
     refine V_ge rfl rfl rfl hc53 ?_
     refine V_y (Y_load (El.int h58) Tryz.isAgg3 rfl) rfl rfl rfl ?_
     refine V_ge rfl rfl rfl hc53 ?_
     refine V_y (Y_leq rfl rfl) rfl rfl rfl ?_
     refine V_y (Y_pick_te rfl hc53 rfl) rfl rfl rfl ?_
     obtain rfl := Option.some.inj hs54
     exact V_end fun a ha => ⟨(), ha.sub ⟨rfl, rfl, rfl, rfl, rfl, trivial⟩, rfl⟩
    ·rw [if_neg (nt hc53)] at hs54
     refine V_gn rfl rfl rfl hc53 rfl rfl rfl ?_
     refine V_gn rfl rfl rfl hc53 rfl rfl rfl ?_
     refine V_gn rfl rfl rfl hc53 rfl rfl rfl ?_
     refine V_gn rfl rfl rfl hc53 rfl rfl rfl ?_
     refine V_gn rfl rfl rfl hc53 rfl rfl rfl ?_
     refine V_gn rfl rfl rfl hc53 rfl rfl rfl ?_
     refine V_gn rfl rfl rfl hc53 rfl rfl rfl ?_
     refine V_y (Y_pick_fe rfl hc53 rfl) rfl rfl rfl ?_
     obtain rfl := Option.some.inj hs54
     exact V_end fun a ha => ⟨(), ha.sub ⟨rfl, rfl, rfl, rfl, rfl, trivial⟩, rfl⟩
   simp only [List.take, List.drop]
   rintro _ _ rfl
   refine V_to (fun _ _ => rfl) ?_
   refine C_cond rfl (fun hc59 => ?_) (fun hc59 => ?_)
   ·rw [if_pos hc59] at h41
    refine C_seq ?_
    refine C_region ?_
    refine V_as rfl rfl ?_
    refine V_to (fun _ _ => rfl) ?_
    obtain rfl := Option.some.inj h41
    obtain rfl := (h42 : Lp.rt _ = _)
    rw [Lp.andThen_rt] at hm
    obtain rfl := Option.some.inj hm
    refine C_ret ?_
    try simp only [↓inBlock_ret, ↓then_ret]
    exact retQ rfl (Res.one Tryz.results41 rfl) ⟨rfl, rfl⟩
   ·rw [if_neg (nt hc59)] at h41
    refine C_skip_to (fun _ _ => rfl) ?_
    refine C_region ?_
    refine V_y (Y_addI rfl rfl) rfl rfl rfl ?_
    refine V_mv rfl rfl ?_
    obtain rfl := Option.some.inj h41
    refine V_end (fun a ha60 => ?_)
    exact ⟨(), hlt44, h42, ⟨(), ha60.sub ⟨rfl, rfl, rfl, (congrArg (fun z => some (Value.int .i64 z)) (w64_succ hlt44 hn47)), trivial⟩, rfl⟩⟩
  ·refine C_exit (fun a ha61 => ?_)
   exact ⟨(), ha61.sub trivial, ⟨(h45 (eq_of_dec hle43 hc48)).symm, rfl⟩⟩
 rintro s32 _ ⟨rfl, rfl⟩ a ha37
 rw [Lp.andThen_fin] at hm
 refine C_at (n := ⟨42, [], none⟩) (fun _ _ => rfl) ?_ ha37
 refine C_seq ?_
 refine C_region ?_
 refine V_as rfl rfl ?_
 refine V_to (fun _ _ => rfl) ?_
 obtain rfl := Option.some.inj hm
 refine C_ret ?_
 try simp only [↓inBlock_ret, ↓then_ret]
 exact retQ rfl (Res.one Tryz.results41 rfl) ⟨rfl, rfl⟩

end Go.Proofs.YtkjlbaacbkdnfaaGreatDoor.W
