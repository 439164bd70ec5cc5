/-
  Written by program (gen.py) from the IR of the dump: each function computes its model.
-/
import Derived.Test.YtfdhiclmjfkflaaDoorTemplateFillsW2
namespace Go.Proofs.YtfdhiclmjfkflaaDoor.W
open Go Go.RowKit Go.Pu Go.Gw Go.Proofs Go.Proofs.YtfdhiclmjfkflaaDoor.M
set_option linter.unusedVariables false
set_option linter.unusedSimpArgs false
variable {Dw : Prop}

set_option maxRecDepth 4000 in
set_option maxHeartbeats 4000000 in
theorem portref2_FillOf_c (w : World) {A : Nat → Prop} (hA : ∀ b, w.heap.size ≤ b → A b) (hT : Mx Tryd.prog 0 A w) (s : ByteArray) (values : (List know_Pair)) (v_values : Value) (h_values : Sl A w v_values values) {r : (ByteArray × Int)} (hm : portref2_FillOf s values = some r) : Ret Tryd.prog 5 #[.string s, v_values] w fun v w' => v = .tuple #[.string r.1, .int .i64 r.2] ∧ Kp False w w' := by
  unfold portref2_FillOf at hm
  refine enter Tryd.func5 rfl Tryd.ntmps5 rfl ?_
  have hA0 := hA
  have hB := Nat.le_refl w.heap.size
  have hK : Tr False w.heap.size A w A w := Tr.refl (Dw := False) hA
  have hH : Hp w.heap.size A w [] := Hp.nil
  refine C_seq ?_
  refine C_region ?_
  refine V_y (Y_assign rfl) rfl rfl rfl ?_
  refine V_y (Y_assign rfl) rfl rfl rfl ?_
  refine V_to (fun _ _ => rfl) ?_
  refine C_seq ?_
  refine C_region ?_
  refine V_y (Y_move rfl) rfl rfl rfl ?_
  obtain ⟨x3, hx3, hm⟩ := Option.bind_eq_some_iff.1 hm
  refine V_call Tryd.call11 rfl rfl rfl rfl (portref2_TemplateFault_c w hA (Mx.tr (Dw := False) hT hK) s hx3) ?_
  rintro _ w6 ⟨v4, rfl, h5, hk7⟩
  have ht8 := Kp.tr (Dw := False) hk7 hA hB
  replace hH := Hp.kp (Dw := False) hH hk7
  replace h_values := Sl.tr (Dw := False) h_values ht8
  replace hK := Tr.trans (Dw := False) hK ht8
  replace hB := Nat.le_trans hB ht8.ex.size
  replace hA := ht8.new
  refine V_y (Y_move rfl) rfl rfl rfl ?_
  refine V_y (Y_extract rfl rfl) rfl rfl rfl ?_
  refine V_y (Y_extract rfl rfl) rfl rfl rfl ?_
  refine V_y (Y_extract rfl rfl) rfl rfl rfl ?_
  refine V_y (Y_assign rfl) rfl rfl rfl ?_
  refine V_y (Y_assign rfl) rfl rfl rfl ?_
  refine V_y (Y_assign rfl) rfl rfl rfl ?_
  refine V_to (fun _ _ => rfl) ?_
  refine C_seq ?_
  refine C_seq ?_
  refine C_region ?_
  refine V_y (Y_move rfl) rfl rfl rfl ?_
  refine V_y (Y_neq rfl rfl) rfl rfl rfl ?_
  refine V_to (fun _ _ => rfl) ?_
  refine C_cond rfl (fun hc9 => ?_) (fun hc9 => ?_)
  · rw [if_pos hc9] at hm
    refine C_seq ?_
    refine C_region ?_
    refine V_y (Y_move rfl) rfl rfl rfl ?_
    refine V_y (Y_assign rfl) rfl rfl rfl ?_
    refine V_y (Y_assign rfl) rfl rfl rfl ?_
    refine V_to (fun _ _ => rfl) ?_
    obtain rfl := Option.some.inj hm
    refine C_ret ?_
    try simp only [↓inBlock_ret, ↓then_ret]
    exact retQ rfl (Res.two Tryd.results5 rfl rfl) ⟨rfl, hK.kp⟩
  · rw [if_neg (nt hc9)] at hm
    refine C_skip_to (fun _ _ => rfl) ?_
    refine C_seq ?_
    refine C_seq ?_
    refine C_region ?_
    refine V_y (Y_move rfl) rfl rfl rfl ?_
    refine V_y (Y_lenSl h_values rfl Tryd.underlying22 rfl) rfl rfl rfl ?_
    refine V_y (Y_gtr rfl rfl) rfl rfl rfl ?_
    refine V_to (fun _ _ => rfl) ?_
    refine C_cond rfl (fun hc10 => ?_) (fun hc10 => ?_)
    · rw [if_pos hc10] at hm
      refine C_seq ?_
      refine C_region ?_
      refine V_y (Y_assign rfl) rfl rfl rfl ?_
      refine V_y (Y_assign rfl) rfl rfl rfl ?_
      refine V_to (fun _ _ => rfl) ?_
      obtain rfl := Option.some.inj hm
      refine C_ret ?_
      try simp only [↓inBlock_ret, ↓then_ret]
      exact retQ rfl (Res.two Tryd.results5 rfl rfl) ⟨rfl, hK.kp⟩
    · rw [if_neg (nt hc10)] at hm
      refine C_skip_to (fun _ _ => rfl) ?_
      refine C_seq ?_
      refine C_region ?_
      refine V_makeMapS (Dw := False) (B := w.heap.size) ByteArray ByteArray hH hB hA rfl ?_
      intro b11 w12 A13 hH14 ht15
      replace h_values := Sl.tr (Dw := False) h_values ht15
      replace h5 := Sl.tr (Dw := False) h5 ht15
      replace hK := Tr.trans (Dw := False) hK ht15
      replace hB := Nat.le_trans hB ht15.ex.size
      replace hA := ht15.new
      replace hH : Hp w.heap.size A13 w12 (obSM (κ := ByteArray) (α := ByteArray) b11 ([] : List (ByteArray × ByteArray)) :: []) := hH14
      refine V_y (Y_assign rfl) rfl rfl rfl ?_
      refine V_to (fun _ _ => rfl) ?_
      refine C_seq ?_
      refine C_seq ?_
      refine C_region ?_
      refine V_y (Y_move rfl) rfl rfl rfl ?_
      refine V_y (Y_lenSl h_values rfl Tryd.underlying22 rfl) rfl rfl rfl ?_
      refine V_y (Y_move rfl) rfl rfl rfl ?_
      refine V_to (fun _ _ => rfl) ?_
      have hn36 := Sl.le h_values
      obtain ⟨o16, ho16, hm⟩ := Option.bind_eq_some_iff.1 hm
      refine C_cutG (ι := ((List (ByteArray × ByteArray)) × (Nat → Prop))) (fun ⟨s17, A23⟩ => [(6, v4), (9, .map (some b11))]) (fun ⟨s17, A23⟩ => fun w' => o16 = .fin s17 ∧ Hp w.heap.size A23 w' (obSM (κ := ByteArray) (α := ByteArray) b11 s17 :: []) ∧ Tr False w.heap.size A13 w12 A23 w') ?_ ?_
      · refine C_block ?_
        refine C_range ho16 (fun k19 s25 a w' => ∃ i : (Nat → Prop), Has ⟨129, [], none⟩ a ([(6, v4), (9, .map (some b11)), (33, v_values), (34, .int .i64 (values.length : Int)), (35, .int .i64 (k19 : Int))]) ∧ Hp w.heap.size i w' (obSM (κ := ByteArray) (α := ByteArray) b11 s25 :: []) ∧ Tr False w.heap.size A13 w12 i w') (fun a ha => ⟨A13, ha.sub ⟨rfl, rfl, rfl, rfl, rfl, trivial⟩, ⟨hH, Tr.refl (Dw := False) hA⟩⟩) ?_
        rintro K k19 s25 a w26 ⟨A27, ha68, hH28, hr18⟩ hle32 K35 h34
        refine C_of ?_ ha68
        replace h5 := Sl.tr (Dw := False) h5 hr18
        replace h_values := Sl.tr (Dw := False) h_values hr18
        replace hK := Tr.trans (Dw := False) hK hr18
        replace hB := Nat.le_trans hB hr18.ex.size
        replace hA := hr18.new
        replace hH : Hp w.heap.size A27 w26 (obSM (κ := ByteArray) (α := ByteArray) b11 s25 :: []) := hH28
        refine C_seq (C_region (V_y (Y_lss rfl rfl) rfl rfl rfl (V_to (fun _ _ => rfl) ?_)))
        refine C_seq ?_
        refine C_cond rfl (fun hc37 => ?_) (fun hc37 => ?_)
        · have hlt33 := lt_of_dec hc37
          obtain ⟨x29, h30, h31⟩ := K35 hlt33
          refine C_skip_to (fun _ _ => rfl) ?_
          refine C_seq ?_
          refine C_block ?_
          refine C_seq ?_
          refine C_region ?_
          obtain ⟨x38, hx38, h30⟩ := Option.bind_eq_some_iff.1 h30
          refine V_indexAddr h_values hx38 Tryd.underlying22 Tryd.sizeOf50 rfl rfl rfl ?_
          intro b39 o40 h41
          obtain ⟨h42, _⟩ := El_know_Pair h41
          refine V_y (Y_loadA h42 Tryd.isAgg50 Tryd.sizeOf50 rfl) rfl rfl rfl ?_
          refine V_alloc Tryd.zeroValue50 rfl ?_
          intro b43 w44 h45
          refine V_storeNew h45 Tryd.sizeOf50 rfl rfl rfl rfl (by exact (List.forall_mem_cons.2 ⟨rfl, (List.forall_mem_cons.2 ⟨rfl, (fun _ h => nomatch h)⟩)⟩)) ?_
          intro w46 h47
          have hk49 := h47.kp (Dw := False)
          have h48 : El (α := know_Pair) A27 w46 b43 0 x38 := h47.el hA ⟨[.string x38.name], _, rfl, rfl, rfl⟩
          have ht50 := Kp.tr (Dw := False) hk49 hA hB
          replace hH := Hp.kp (Dw := False) hH hk49
          replace h5 := Sl.tr (Dw := False) h5 ht50
          replace h_values := Sl.tr (Dw := False) h_values ht50
          replace h41 := El.tr (Dw := False) h41 ht50
          replace hK := Tr.trans (Dw := False) hK ht50
          replace hr18 := Tr.trans (Dw := False) hr18 ht50
          replace hB := Nat.le_trans hB ht50.ex.size
          replace hA := ht50.new
          refine V_to (fun _ _ => rfl) ?_
          refine C_seq ?_
          refine C_seq ?_
          refine C_region ?_
          have h51 := El_know_Pair_0 h48
          refine V_y (Y_fieldAddr Tryd.underlying50 rfl Tryd.sizeOf9 (by decide) rfl) rfl rfl rfl ?_
          refine V_y (Y_load (El.str h51) Tryd.isAgg9 rfl) rfl rfl rfl ?_
          obtain ⟨x52, hx52, h30⟩ := Option.bind_eq_some_iff.1 h30
          refine V_call Tryd.call12 rfl rfl rfl rfl (portref2_IsName_c w46 hA x38.name hx52) ?_
          rintro _ w53 ⟨rfl, hk54⟩
          have ht55 := Kp.tr (Dw := False) hk54 hA hB
          replace hH := Hp.kp (Dw := False) hH hk54
          replace h5 := Sl.tr (Dw := False) h5 ht55
          replace h_values := Sl.tr (Dw := False) h_values ht55
          replace h48 := El.tr (Dw := False) h48 ht55
          replace h51 := El.tr (Dw := False) h51 ht55
          replace hK := Tr.trans (Dw := False) hK ht55
          replace hr18 := Tr.trans (Dw := False) hr18 ht55
          replace hB := Nat.le_trans hB ht55.ex.size
          replace hA := ht55.new
          refine V_y (Y_not rfl) rfl rfl rfl ?_
          refine V_to (fun _ _ => rfl) ?_
          refine C_cond rfl (fun hc56 => ?_) (fun hc56 => ?_)
          · rw [if_pos hc56] at h30
            refine C_seq ?_
            refine C_region ?_
            refine V_y (Y_assign rfl) rfl rfl rfl ?_
            refine V_y (Y_assign rfl) rfl rfl rfl ?_
            refine V_to (fun _ _ => rfl) ?_
            obtain rfl := Option.some.inj h30
            obtain rfl := (h31 : Lp.rt _ = _)
            rw [Lp.andThen_rt] at hm
            obtain rfl := Option.some.inj hm
            refine C_ret ?_
            try simp only [↓inBlock_ret, ↓then_ret]
            exact retQ rfl (Res.two Tryd.results5 rfl rfl) ⟨rfl, hK.kp⟩
          · rw [if_neg (nt hc56)] at h30
            refine C_skip_to (fun _ _ => rfl) ?_
            refine C_seq ?_
            refine C_seq ?_
            refine C_region ?_
            refine V_y (Y_move rfl) rfl rfl rfl ?_
            have h57 := El_know_Pair_0 h48
            refine V_y (Y_fieldAddr Tryd.underlying50 rfl Tryd.sizeOf9 (by decide) rfl) rfl rfl rfl ?_
            refine V_y (Y_load (El.str h57) Tryd.isAgg9 rfl) rfl rfl rfl ?_
            refine V_lookupSO (κ := ByteArray) (α := ByteArray) (z := ByteArray.empty) (l := s25) hH (i := 0) rfl Tryd.underlying30 Tryd.underlying9 Tryd.zeroValue9 rfl rfl rfl rfl ?_
            refine V_y (Y_move rfl) rfl rfl rfl ?_
            refine V_y (Y_extract rfl rfl) rfl rfl rfl ?_
            refine V_y (Y_extract rfl rfl) rfl rfl rfl ?_
            refine V_y (Y_assign rfl) rfl rfl rfl ?_
            refine V_y (Y_assign rfl) rfl rfl rfl ?_
            refine V_to (fun _ _ => rfl) ?_
            refine C_seq ?_
            refine C_region ?_
            refine V_y (Y_move rfl) rfl rfl rfl ?_
            refine V_to (fun _ _ => rfl) ?_
            refine C_cond rfl (fun hc58 => ?_) (fun hc58 => ?_)
            · rw [if_pos hc58] at h30
              refine C_seq ?_
              refine C_region ?_
              refine V_y (Y_assign rfl) rfl rfl rfl ?_
              refine V_y (Y_assign rfl) rfl rfl rfl ?_
              refine V_to (fun _ _ => rfl) ?_
              obtain rfl := Option.some.inj h30
              obtain rfl := (h31 : Lp.rt _ = _)
              rw [Lp.andThen_rt] at hm
              obtain rfl := Option.some.inj hm
              refine C_ret ?_
              try simp only [↓inBlock_ret, ↓then_ret]
              exact retQ rfl (Res.two Tryd.results5 rfl rfl) ⟨rfl, hK.kp⟩
            · rw [if_neg (nt hc58)] at h30
              refine C_skip_to (fun _ _ => rfl) ?_
              refine C_seq ?_
              refine C_seq ?_
              refine C_region ?_
              have h59 := El_know_Pair_1 h48
              refine V_y (Y_fieldAddr Tryd.underlying50 rfl Tryd.sizeOf9 (by decide) rfl) rfl rfl rfl ?_
              refine V_y (Y_load (El.str h59) Tryd.isAgg9 rfl) rfl rfl rfl ?_
              refine V_y (Y_lenStr rfl Tryd.underlying9 rfl) rfl rfl rfl ?_
              refine V_y (Y_gtr rfl rfl) rfl rfl rfl ?_
              refine V_to (fun _ _ => rfl) ?_
              refine C_cond rfl (fun hc60 => ?_) (fun hc60 => ?_)
              · rw [if_pos hc60] at h30
                refine C_seq ?_
                refine C_region ?_
                refine V_y (Y_assign rfl) rfl rfl rfl ?_
                refine V_y (Y_assign rfl) rfl rfl rfl ?_
                refine V_to (fun _ _ => rfl) ?_
                obtain rfl := Option.some.inj h30
                obtain rfl := (h31 : Lp.rt _ = _)
                rw [Lp.andThen_rt] at hm
                obtain rfl := Option.some.inj hm
                refine C_ret ?_
                try simp only [↓inBlock_ret, ↓then_ret]
                exact retQ rfl (Res.two Tryd.results5 rfl rfl) ⟨rfl, hK.kp⟩
              · rw [if_neg (nt hc60)] at h30
                refine C_skip_to (fun _ _ => rfl) ?_
                refine C_region ?_
                refine V_y (Y_move rfl) rfl rfl rfl ?_
                have h61 := El_know_Pair_0 h48
                refine V_y (Y_fieldAddr Tryd.underlying50 rfl Tryd.sizeOf9 (by decide) rfl) rfl rfl rfl ?_
                refine V_y (Y_load (El.str h61) Tryd.isAgg9 rfl) rfl rfl rfl ?_
                have h62 := El_know_Pair_1 h48
                refine V_y (Y_fieldAddr Tryd.underlying50 rfl Tryd.sizeOf9 (by decide) rfl) rfl rfl rfl ?_
                refine V_y (Y_load (El.str h62) Tryd.isAgg9 rfl) rfl rfl rfl ?_
                refine V_mapUpdateS (Dw := False) (κ := ByteArray) (α := ByteArray) (l := s25) (c := x38.value) hH (i := 0) rfl Tryd.underlying30 Tryd.underlying9 rfl rfl rfl hB hA ?_
                intro w63 hH64 ht65
                replace h5 := Sl.tr (Dw := False) h5 ht65
                replace h_values := Sl.tr (Dw := False) h_values ht65
                replace h48 := El.tr (Dw := False) h48 ht65
                replace h61 := El.tr (Dw := False) h61 ht65
                replace h62 := El.tr (Dw := False) h62 ht65
                replace hK := Tr.trans (Dw := False) hK ht65
                replace hr18 := Tr.trans (Dw := False) hr18 ht65
                replace hB := Nat.le_trans hB ht65.ex.size
                replace hA := ht65.new
                replace hH : Hp w.heap.size A27 w63 (obSM (κ := ByteArray) (α := ByteArray) b11 (mapPut s25 x38.name x38.value) :: []) := hH64
                refine V_to (fun _ _ => rfl) ?_
                refine C_region ?_
                refine V_y (Y_addI rfl rfl) rfl rfl rfl ?_
                refine V_y (Y_move rfl) rfl rfl rfl ?_
                obtain rfl := Option.some.inj h30
                refine V_end (fun a ha66 => ?_)
                exact ⟨(mapPut s25 x38.name x38.value), hlt33, h31, ⟨A27, ha66.sub ⟨rfl, rfl, rfl, rfl, (congrArg (fun z => some (Value.int .i64 z)) (w64_succ hlt33 hn36)), trivial⟩, ⟨hH, hr18⟩⟩⟩
        · refine C_exit (fun a ha67 => ?_)
          exact ⟨(s25, A27), ha67.sub ⟨rfl, rfl, trivial⟩, ⟨(h34 (eq_of_dec hle32 hc37)).symm, hH, hr18⟩⟩
      rintro ⟨s17, A23⟩ w20 ⟨rfl, hH24, hk21⟩ a ha22
      rw [Lp.andThen_fin] at hm
      replace h5 := Sl.tr (Dw := False) h5 hk21
      replace hK := Tr.trans (Dw := False) hK hk21
      replace hB := Nat.le_trans hB hk21.ex.size
      replace hA := hk21.new
      replace hH : Hp w.heap.size A23 w20 (obSM (κ := ByteArray) (α := ByteArray) b11 s17 :: []) := hH24
      refine C_at (n := ⟨129, [], none⟩) (fun _ _ => rfl) ?_ ha22
      refine C_seq ?_
      refine C_region ?_
      refine V_y (Y_assign rfl) rfl rfl rfl ?_
      refine V_to (fun _ _ => rfl) ?_
      refine C_seq ?_
      refine C_seq ?_
      refine C_region ?_
      refine V_y (Y_move rfl) rfl rfl rfl ?_
      refine V_y (Y_lenSl h5 rfl Tryd.underlying46 rfl) rfl rfl rfl ?_
      refine V_y (Y_move rfl) rfl rfl rfl ?_
      refine V_to (fun _ _ => rfl) ?_
      replace hH : Hp w.heap.size A23 w20 (obS (α := ByteArray) 9 (.slice none 0 0) ([] : (List ByteArray)) :: obSM (κ := ByteArray) (α := ByteArray) b11 s17 :: []) := Hp.addNil (α := ByteArray) (e := 9) hH
      have hn93 := Sl.le h5
      obtain ⟨o69, ho69, hm⟩ := Option.bind_eq_some_iff.1 hm
      refine C_cutG (ι := ((List ByteArray) × Value × (Nat → Prop))) (fun ⟨s70, v76, A78⟩ => [(14, v76)]) (fun ⟨s70, v76, A78⟩ => fun w' => o69 = .fin s70 ∧ Hp w.heap.size A78 w' (obS (α := ByteArray) 9 v76 s70 :: obSM (κ := ByteArray) (α := ByteArray) b11 s17 :: []) ∧ Tr False w.heap.size A23 w20 A78 w') ?_ ?_
      · refine C_block ?_
        refine C_range ho69 (fun k72 s80 a w' => ∃ i : (Value × (Nat → Prop)), Has ⟨129, [], none⟩ a ([(9, .map (some b11)), (14, i.1), (61, v4), (62, .int .i64 (x3.1.length : Int)), (63, .int .i64 (k72 : Int))]) ∧ Hp w.heap.size i.2 w' (obS (α := ByteArray) 9 i.1 s80 :: obSM (κ := ByteArray) (α := ByteArray) b11 s17 :: []) ∧ Tr False w.heap.size A23 w20 i.2 w') (fun a ha => ⟨(.slice none 0 0, A23), ha.sub ⟨rfl, rfl, rfl, rfl, rfl, trivial⟩, ⟨hH, Tr.refl (Dw := False) hA⟩⟩) ?_
        rintro K k72 s80 a w81 ⟨⟨v82, A84⟩, ha258, hH85, hr71⟩ hle89 K92 h91
        refine C_of ?_ ha258
        replace h5 := Sl.tr (Dw := False) h5 hr71
        replace hK := Tr.trans (Dw := False) hK hr71
        replace hB := Nat.le_trans hB hr71.ex.size
        replace hA := hr71.new
        replace hH : Hp w.heap.size A84 w81 (obS (α := ByteArray) 9 v82 s80 :: obSM (κ := ByteArray) (α := ByteArray) b11 s17 :: []) := hH85
        refine C_seq (C_region (V_y (Y_lss rfl rfl) rfl rfl rfl (V_to (fun _ _ => rfl) ?_)))
        refine C_seq ?_
        refine C_cond rfl (fun hc94 => ?_) (fun hc94 => ?_)
        · have hlt90 := lt_of_dec hc94
          obtain ⟨x86, h87, h88⟩ := K92 hlt90
          refine C_skip_to (fun _ _ => rfl) ?_
          refine C_seq ?_
          obtain ⟨o95, ho95, h87⟩ := Option.bind_eq_some_iff.1 h87
          refine C_cutG (ι := ((List ByteArray) × Value × (Nat → Prop))) (fun ⟨s96, v98, A103⟩ => [(9, .map (some b11)), (14, v98), (61, v4), (62, .int .i64 (x3.1.length : Int)), (63, .int .i64 (k72 : Int))]) (fun ⟨s96, v98, A103⟩ => fun w' => o95 = .fin s96 ∧ Hp w.heap.size A103 w' (obS (α := ByteArray) 9 v98 s96 :: obSM (κ := ByteArray) (α := ByteArray) b11 s17 :: []) ∧ Tr False w.heap.size A84 w81 A103 w') ?_ ?_
          · have hr97 : Tr False w.heap.size A84 w81 A84 w81 := Tr.refl (Dw := False) hA
            refine C_block ?_
            refine C_seq ?_
            refine C_region ?_
            obtain ⟨x105, hx105, ho95⟩ := Option.bind_eq_some_iff.1 ho95
            refine V_indexAddr h5 hx105 Tryd.underlying46 Tryd.sizeOf54 rfl rfl rfl ?_
            intro b106 o107 h108
            obtain ⟨h109, _⟩ := El_portref2_piece h108
            refine V_y (Y_loadA h109 Tryd.isAgg54 Tryd.sizeOf54 rfl) rfl rfl rfl ?_
            refine V_alloc Tryd.zeroValue54 rfl ?_
            intro b110 w111 h112
            refine V_storeNew h112 Tryd.sizeOf54 rfl rfl rfl rfl (by exact (List.forall_mem_cons.2 ⟨rfl, (List.forall_mem_cons.2 ⟨rfl, (List.forall_mem_cons.2 ⟨rfl, (List.forall_mem_cons.2 ⟨rfl, (List.forall_mem_cons.2 ⟨rfl, (fun _ h => nomatch h)⟩)⟩)⟩)⟩)⟩)) ?_
            intro w113 h114
            have hk116 := h114.kp (Dw := False)
            have h115 : El (α := portref2_piece) A84 w113 b110 0 x105 := h114.el hA ⟨[.string x105.text], _, rfl, rfl, ⟨[.string x105.name], _, rfl, rfl, ⟨[.int .u8 (x105.kind.toNat : Int)], _, rfl, rfl, ⟨[.string x105.one], _, rfl, rfl, rfl⟩⟩⟩⟩
            have ht117 := Kp.tr (Dw := False) hk116 hA hB
            replace hH := Hp.kp (Dw := False) hH hk116
            replace h5 := Sl.tr (Dw := False) h5 ht117
            replace h108 := El.tr (Dw := False) h108 ht117
            replace hK := Tr.trans (Dw := False) hK ht117
            replace hr71 := Tr.trans (Dw := False) hr71 ht117
            replace hr97 := Tr.trans (Dw := False) hr97 ht117
            replace hB := Nat.le_trans hB ht117.ex.size
            replace hA := ht117.new
            refine V_to (fun _ _ => rfl) ?_
            refine C_seq ?_
            refine C_region ?_
            refine V_y (Y_move rfl) rfl rfl rfl ?_
            have h118 := El_portref2_piece_1 h115
            refine V_y (Y_fieldAddr Tryd.underlying54 rfl Tryd.sizeOf9 (by decide) rfl) rfl rfl rfl ?_
            refine V_y (Y_load (El.str h118) Tryd.isAgg9 rfl) rfl rfl rfl ?_
            refine V_lookupSO (κ := ByteArray) (α := ByteArray) (z := ByteArray.empty) (l := s17) hH (i := 1) rfl Tryd.underlying30 Tryd.underlying9 Tryd.zeroValue9 rfl rfl rfl rfl ?_
            refine V_y (Y_move rfl) rfl rfl rfl ?_
            refine V_y (Y_extract rfl rfl) rfl rfl rfl ?_
            refine V_y (Y_extract rfl rfl) rfl rfl rfl ?_
            refine V_y (Y_assign rfl) rfl rfl rfl ?_
            refine V_y (Y_assign rfl) rfl rfl rfl ?_
            refine V_to (fun _ _ => rfl) ?_
            obtain ⟨o119, ho119, ho95⟩ := Option.bind_eq_some_iff.1 ho95
            refine C_cutG (ι := ((List ByteArray) × Value × (Nat → Prop))) (fun ⟨s120, v122, A127⟩ => [(9, .map (some b11)), (14, v122), (61, v4), (62, .int .i64 (x3.1.length : Int)), (63, .int .i64 (k72 : Int))]) (fun ⟨s120, v122, A127⟩ => fun w' => o119 = .fin s120 ∧ Hp w.heap.size A127 w' (obS (α := ByteArray) 9 v122 s120 :: obSM (κ := ByteArray) (α := ByteArray) b11 s17 :: []) ∧ Tr False w.heap.size A84 w113 A127 w') ?_ ?_
            · have hr121 : Tr False w.heap.size A84 w113 A84 w113 := Tr.refl (Dw := False) hA
              refine C_block ?_
              refine C_seq ?_
              refine C_region ?_
              have h129 := El_portref2_piece_2 h115
              refine V_y (Y_fieldAddr Tryd.underlying54 rfl Tryd.sizeOf5 (by decide) rfl) rfl rfl rfl ?_
              refine V_y (Y_load (El.u8 h129) Tryd.isAgg5 rfl) rfl rfl rfl ?_
              refine V_y (Y_eql rfl rfl) rfl rfl rfl ?_
              refine V_y (Y_assign rfl) rfl rfl rfl ?_
              refine V_to (fun _ _ => rfl) ?_
              obtain ⟨o130, ho130, ho119⟩ := Option.bind_eq_some_iff.1 ho119
              refine C_cutG (ι := ((List ByteArray) × Value × (Nat → Prop))) (fun ⟨s131, v133, A138⟩ => [(9, .map (some b11)), (14, v133), (61, v4), (62, .int .i64 (x3.1.length : Int)), (63, .int .i64 (k72 : Int))]) (fun ⟨s131, v133, A138⟩ => fun w' => o130 = .fin s131 ∧ Hp w.heap.size A138 w' (obS (α := ByteArray) 9 v133 s131 :: obSM (κ := ByteArray) (α := ByteArray) b11 s17 :: []) ∧ Tr False w.heap.size A84 w113 A138 w') ?_ ?_
              · have hr132 : Tr False w.heap.size A84 w113 A84 w113 := Tr.refl (Dw := False) hA
                refine C_cond rfl (fun hc140 => ?_) (fun hc140 => ?_)
                · rw [if_pos hc140] at ho130
                  refine C_region ?_
                  refine V_y (Y_move rfl) rfl rfl rfl ?_
                  have h141 := El_portref2_piece_0 h115
                  refine V_y (Y_fieldAddr Tryd.underlying54 rfl Tryd.sizeOf9 (by decide) rfl) rfl rfl rfl ?_
                  refine V_y (Y_load (El.str h141) Tryd.isAgg9 rfl) rfl rfl rfl ?_
                  refine V_buildSlice (Dw := False) (l := ([x105.text] : List ByteArray)) (len := 1) Tryd.underlying52 Tryd.sizeOf9 Tryd.zeroValue9 rfl (by with_unfolding_all rfl) (show (1 * 1 : Nat) ≠ 0 by decide) (show (1 * 1 : Nat) ≤ 2 ^ 24 by decide) hA ⟨[.string x105.text], _, rfl, rfl, rfl⟩ rfl rfl ?_
                  intro v142 w143 hk145 h144
                  have ht146 := Kp.tr (Dw := False) hk145 hA hB
                  replace hH := Hp.kp (Dw := False) hH hk145
                  replace h5 := Sl.tr (Dw := False) h5 ht146
                  replace h115 := El.tr (Dw := False) h115 ht146
                  replace h141 := El.tr (Dw := False) h141 ht146
                  replace hK := Tr.trans (Dw := False) hK ht146
                  replace hr71 := Tr.trans (Dw := False) hr71 ht146
                  replace hr97 := Tr.trans (Dw := False) hr97 ht146
                  replace hr121 := Tr.trans (Dw := False) hr121 ht146
                  replace hr132 := Tr.trans (Dw := False) hr132 ht146
                  replace hB := Nat.le_trans hB ht146.ex.size
                  replace hA := ht146.new
                  obtain ⟨x147, hx147, ho130⟩ := Option.bind_eq_some_iff.1 ho130
                  refine V_appendH (Dw := False) (e := 9) (v := v82) (l := s80) (ti := Tryd.t9) (bytes := 16) (lim := 8796093022208) hH (i := 0) rfl h144 hx147 Tryd.underlying52 Tryd_info9 rfl rfl rfl rfl (by decide) (by decide) (by decide) hB hA rfl rfl rfl ?_
                  intro v148 w149 A150 hH151 ht152
                  replace h5 := Sl.tr (Dw := False) h5 ht152
                  replace h115 := El.tr (Dw := False) h115 ht152
                  replace h141 := El.tr (Dw := False) h141 ht152
                  replace h144 := Sl.tr (Dw := False) h144 ht152
                  replace hK := Tr.trans (Dw := False) hK ht152
                  replace hr71 := Tr.trans (Dw := False) hr71 ht152
                  replace hr97 := Tr.trans (Dw := False) hr97 ht152
                  replace hr121 := Tr.trans (Dw := False) hr121 ht152
                  replace hr132 := Tr.trans (Dw := False) hr132 ht152
                  replace hB := Nat.le_trans hB ht152.ex.size
                  replace hA := ht152.new
                  replace hH : Hp w.heap.size A150 w149 (obS (α := ByteArray) 9 v148 x147 :: obSM (κ := ByteArray) (α := ByteArray) b11 s17 :: []) := hH151
                  refine V_y (Y_assign rfl) rfl rfl rfl ?_
                  obtain rfl := Option.some.inj ho130
                  refine V_end (fun a ha153 => ?_)
                  exact ⟨(x147, v148, A150), ha153.sub ⟨rfl, rfl, rfl, rfl, rfl, trivial⟩, ⟨rfl, hH, hr132⟩⟩
                · rw [if_neg (nt hc140)] at ho130
                  refine C_seq ?_
                  refine C_region ?_
                  have h154 := El_portref2_piece_2 h115
                  refine V_y (Y_fieldAddr Tryd.underlying54 rfl Tryd.sizeOf5 (by decide) rfl) rfl rfl rfl ?_
                  refine V_y (Y_load (El.u8 h154) Tryd.isAgg5 rfl) rfl rfl rfl ?_
                  refine V_y (Y_eql rfl rfl) rfl rfl rfl ?_
                  refine V_y (Y_move rfl) rfl rfl rfl ?_
                  refine V_cut 3 (fun _ : Unit => [(9, .map (some b11)), (14, v82), (16, .pointer (some ⟨b110, 0, none⟩)), (17, .string ((mapGet s17 x105.name).getD ByteArray.empty)), (61, v4), (62, .int .i64 (x3.1.length : Int)), (63, .int .i64 (k72 : Int)), (95, .bool (((x105.kind.toNat : Int) == 102) && (!((mapGet s17 x105.name).isSome))))]) (fun _ w' => w113 = w') ?_ ?_
                  · simp only [List.take, List.drop]
                    rcases Bool.eq_false_or_eq_true ((x105.kind.toNat : Int) == 102) with hc155 | hc155
                    · refine V_ge rfl rfl rfl hc155 ?_
                      refine V_y (Y_move rfl) rfl rfl rfl ?_
                      refine V_ge rfl rfl rfl hc155 ?_
                      refine V_y (Y_not rfl) rfl rfl rfl ?_
                      refine V_y (Y_pick_te rfl hc155 rfl) rfl rfl rfl ?_
                      exact V_end fun a ha => ⟨(), ha.sub ⟨rfl, rfl, rfl, rfl, rfl, rfl, rfl, (by rw [hc155]; rfl), trivial⟩, rfl⟩
                    · refine V_gn rfl rfl rfl hc155 rfl rfl rfl ?_
                      refine V_gn rfl rfl rfl hc155 rfl rfl rfl ?_
                      refine V_y (Y_pick_fe rfl hc155 rfl) rfl rfl rfl ?_
                      exact V_end fun a ha => ⟨(), ha.sub ⟨rfl, rfl, rfl, rfl, rfl, rfl, rfl, (by rw [hc155]; rfl), trivial⟩, rfl⟩
                  simp only [List.take, List.drop]
                  rintro _ _ rfl
                  refine V_y (Y_assign rfl) rfl rfl rfl ?_
                  refine V_to (fun _ _ => rfl) ?_
                  obtain ⟨o157, ho157, ho130⟩ := Option.bind_eq_some_iff.1 ho130
                  refine C_cutG (ι := ((List ByteArray) × Value × (Nat → Prop))) (fun ⟨s158, v160, A165⟩ => [(9, .map (some b11)), (14, v160), (61, v4), (62, .int .i64 (x3.1.length : Int)), (63, .int .i64 (k72 : Int))]) (fun ⟨s158, v160, A165⟩ => fun w' => o157 = .fin s158 ∧ Hp w.heap.size A165 w' (obS (α := ByteArray) 9 v160 s158 :: obSM (κ := ByteArray) (α := ByteArray) b11 s17 :: []) ∧ Tr False w.heap.size A84 w113 A165 w') ?_ ?_
                  · have hr159 : Tr False w.heap.size A84 w113 A84 w113 := Tr.refl (Dw := False) hA
                    refine C_cond rfl (fun hc167 => ?_) (fun hc167 => ?_)
                    · rw [if_pos hc167] at ho157
                      refine C_seq ?_
                      refine C_region ?_
                      refine V_y (Y_assign rfl) rfl rfl rfl ?_
                      refine V_y (Y_assign rfl) rfl rfl rfl ?_
                      refine V_to (fun _ _ => rfl) ?_
                      obtain rfl := Option.some.inj ho157
                      rw [Lp.andThen_rt] at ho130
                      obtain rfl := Option.some.inj ho130
                      rw [Lp.andThen_rt] at ho119
                      obtain rfl := Option.some.inj ho119
                      rw [Lp.andThen_rt] at ho95
                      obtain rfl := Option.some.inj ho95
                      rw [Lp.andThen_rt] at h87
                      obtain rfl := Option.some.inj h87
                      obtain rfl := (h88 : Lp.rt _ = _)
                      rw [Lp.andThen_rt] at hm
                      obtain rfl := Option.some.inj hm
                      refine C_ret ?_
                      try simp only [↓inBlock_ret, ↓then_ret]
                      exact retQ rfl (Res.two Tryd.results5 rfl rfl) ⟨rfl, hK.kp⟩
                    · rw [if_neg (nt hc167)] at ho157
                      refine C_seq ?_
                      refine C_seq ?_
                      refine C_region ?_
                      have h168 := El_portref2_piece_2 h115
                      refine V_y (Y_fieldAddr Tryd.underlying54 rfl Tryd.sizeOf5 (by decide) rfl) rfl rfl rfl ?_
                      refine V_y (Y_load (El.u8 h168) Tryd.isAgg5 rfl) rfl rfl rfl ?_
                      refine V_y (Y_eql rfl rfl) rfl rfl rfl ?_
                      refine V_y (Y_assign rfl) rfl rfl rfl ?_
                      refine V_to (fun _ _ => rfl) ?_
                      obtain ⟨s170, ho169, ho157⟩ := Option.bind_eq_some_iff.1 ho157
                      refine C_cutG (ι := Unit) (fun (_ : Unit) => [(9, .map (some b11)), (14, v82), (16, .pointer (some ⟨b110, 0, none⟩)), (17, .string ((mapGet s17 x105.name).getD ByteArray.empty)), (61, v4), (62, .int .i64 (x3.1.length : Int)), (63, .int .i64 (k72 : Int)), (96, .bool s170)]) (fun (_ : Unit) => fun w' => w113 = w') ?_ ?_
                      · refine C_cond rfl (fun hc175 => ?_) (fun hc175 => ?_)
                        · rw [if_pos hc175] at ho169
                          obtain rfl := Option.some.inj ho169
                          refine C_skip (fun a ha176 => ?_)
                          exact ⟨(), ha176.sub ⟨rfl, rfl, rfl, rfl, rfl, rfl, rfl, rfl, trivial⟩, rfl⟩
                        · rw [if_neg (nt hc175)] at ho169
                          refine C_region ?_
                          have h177 := El_portref2_piece_2 h115
                          refine V_y (Y_fieldAddr Tryd.underlying54 rfl Tryd.sizeOf5 (by decide) rfl) rfl rfl rfl ?_
                          refine V_y (Y_load (El.u8 h177) Tryd.isAgg5 rfl) rfl rfl rfl ?_
                          refine V_y (Y_eql rfl rfl) rfl rfl rfl ?_
                          refine V_y (Y_move rfl) rfl rfl rfl ?_
                          refine V_cut 3 (fun _ : Unit => [(9, .map (some b11)), (14, v82), (16, .pointer (some ⟨b110, 0, none⟩)), (17, .string ((mapGet s17 x105.name).getD ByteArray.empty)), (61, v4), (62, .int .i64 (x3.1.length : Int)), (63, .int .i64 (k72 : Int)), (106, .bool (((x105.kind.toNat : Int) == 124) && (!(strEq ((mapGet s17 x105.name).getD ByteArray.empty) (⟨#[]⟩ : ByteArray)))))]) (fun _ w' => w113 = w') ?_ ?_
                          · simp only [List.take, List.drop]
                            rcases Bool.eq_false_or_eq_true ((x105.kind.toNat : Int) == 124) with hc178 | hc178
                            · refine V_ge rfl rfl rfl hc178 ?_
                              refine V_y (Y_move rfl) rfl rfl rfl ?_
                              refine V_ge rfl rfl rfl hc178 ?_
                              refine V_y (Y_sneq rfl rfl) rfl rfl rfl ?_
                              refine V_y (Y_pick_te rfl hc178 rfl) rfl rfl rfl ?_
                              exact V_end fun a ha => ⟨(), ha.sub ⟨rfl, rfl, rfl, rfl, rfl, rfl, rfl, (by rw [hc178]; rfl), trivial⟩, rfl⟩
                            · refine V_gn rfl rfl rfl hc178 rfl rfl rfl ?_
                              refine V_gn rfl rfl rfl hc178 rfl rfl rfl ?_
                              refine V_y (Y_pick_fe rfl hc178 rfl) rfl rfl rfl ?_
                              exact V_end fun a ha => ⟨(), ha.sub ⟨rfl, rfl, rfl, rfl, rfl, rfl, rfl, (by rw [hc178]; rfl), trivial⟩, rfl⟩
                          simp only [List.take, List.drop]
                          rintro _ _ rfl
                          refine V_y (Y_assign rfl) rfl rfl rfl ?_
                          obtain rfl := Option.some.inj ho169
                          refine V_end (fun a ha180 => ?_)
                          exact ⟨(), ha180.sub ⟨rfl, rfl, rfl, rfl, rfl, rfl, rfl, rfl, trivial⟩, rfl⟩
                      rintro _ _ rfl a ha174
                      refine C_at (n := ⟨129, [], none⟩) (fun _ _ => rfl) ?_ ha174
                      obtain ⟨s182, ho181, ho157⟩ := Option.bind_eq_some_iff.1 ho157
                      refine C_cutG (ι := (Value × (Nat → Prop))) (fun ⟨v184, A189⟩ => [(9, .map (some b11)), (14, v184), (61, v4), (62, .int .i64 (x3.1.length : Int)), (63, .int .i64 (k72 : Int))]) (fun ⟨v184, A189⟩ => fun w' => Hp w.heap.size A189 w' (obS (α := ByteArray) 9 v184 s182 :: obSM (κ := ByteArray) (α := ByteArray) b11 s17 :: []) ∧ Tr False w.heap.size A84 w113 A189 w') ?_ ?_
                      · have hr183 : Tr False w.heap.size A84 w113 A84 w113 := Tr.refl (Dw := False) hA
                        refine C_cond rfl (fun hc191 => ?_) (fun hc191 => ?_)
                        · rw [if_pos hc191] at ho181
                          refine C_region ?_
                          refine V_y (Y_move rfl) rfl rfl rfl ?_
                          refine V_y (Y_move rfl) rfl rfl rfl ?_
                          refine V_buildSlice (Dw := False) (l := ([((mapGet s17 x105.name).getD ByteArray.empty)] : List ByteArray)) (len := 1) Tryd.underlying52 Tryd.sizeOf9 Tryd.zeroValue9 rfl (by with_unfolding_all rfl) (show (1 * 1 : Nat) ≠ 0 by decide) (show (1 * 1 : Nat) ≤ 2 ^ 24 by decide) hA ⟨[.string ((mapGet s17 x105.name).getD ByteArray.empty)], _, rfl, rfl, rfl⟩ rfl rfl ?_
                          intro v192 w193 hk195 h194
                          have ht196 := Kp.tr (Dw := False) hk195 hA hB
                          replace hH := Hp.kp (Dw := False) hH hk195
                          replace h5 := Sl.tr (Dw := False) h5 ht196
                          replace h115 := El.tr (Dw := False) h115 ht196
                          replace hK := Tr.trans (Dw := False) hK ht196
                          replace hr71 := Tr.trans (Dw := False) hr71 ht196
                          replace hr97 := Tr.trans (Dw := False) hr97 ht196
                          replace hr121 := Tr.trans (Dw := False) hr121 ht196
                          replace hr132 := Tr.trans (Dw := False) hr132 ht196
                          replace hr159 := Tr.trans (Dw := False) hr159 ht196
                          replace hr183 := Tr.trans (Dw := False) hr183 ht196
                          replace hB := Nat.le_trans hB ht196.ex.size
                          replace hA := ht196.new
                          obtain ⟨x197, hx197, ho181⟩ := Option.bind_eq_some_iff.1 ho181
                          refine V_appendH (Dw := False) (e := 9) (v := v82) (l := s80) (ti := Tryd.t9) (bytes := 16) (lim := 8796093022208) hH (i := 0) rfl h194 hx197 Tryd.underlying52 Tryd_info9 rfl rfl rfl rfl (by decide) (by decide) (by decide) hB hA rfl rfl rfl ?_
                          intro v198 w199 A200 hH201 ht202
                          replace h5 := Sl.tr (Dw := False) h5 ht202
                          replace h115 := El.tr (Dw := False) h115 ht202
                          replace h194 := Sl.tr (Dw := False) h194 ht202
                          replace hK := Tr.trans (Dw := False) hK ht202
                          replace hr71 := Tr.trans (Dw := False) hr71 ht202
                          replace hr97 := Tr.trans (Dw := False) hr97 ht202
                          replace hr121 := Tr.trans (Dw := False) hr121 ht202
                          replace hr132 := Tr.trans (Dw := False) hr132 ht202
                          replace hr159 := Tr.trans (Dw := False) hr159 ht202
                          replace hr183 := Tr.trans (Dw := False) hr183 ht202
                          replace hB := Nat.le_trans hB ht202.ex.size
                          replace hA := ht202.new
                          replace hH : Hp w.heap.size A200 w199 (obS (α := ByteArray) 9 v198 x197 :: obSM (κ := ByteArray) (α := ByteArray) b11 s17 :: []) := hH201
                          refine V_y (Y_assign rfl) rfl rfl rfl ?_
                          obtain rfl := Option.some.inj ho181
                          refine V_end (fun a ha203 => ?_)
                          exact ⟨(v198, A200), ha203.sub ⟨rfl, rfl, rfl, rfl, rfl, trivial⟩, ⟨hH, hr183⟩⟩
                        · rw [if_neg (nt hc191)] at ho181
                          refine C_seq ?_
                          refine C_seq ?_
                          refine C_region ?_
                          have h204 := El_portref2_piece_2 h115
                          refine V_y (Y_fieldAddr Tryd.underlying54 rfl Tryd.sizeOf5 (by decide) rfl) rfl rfl rfl ?_
                          refine V_y (Y_load (El.u8 h204) Tryd.isAgg5 rfl) rfl rfl rfl ?_
                          refine V_y (Y_eql rfl rfl) rfl rfl rfl ?_
                          refine V_y (Y_assign rfl) rfl rfl rfl ?_
                          refine V_to (fun _ _ => rfl) ?_
                          obtain ⟨s206, ho205, ho181⟩ := Option.bind_eq_some_iff.1 ho181
                          refine C_cutG (ι := Unit) (fun (_ : Unit) => [(9, .map (some b11)), (14, v82), (16, .pointer (some ⟨b110, 0, none⟩)), (61, v4), (62, .int .i64 (x3.1.length : Int)), (63, .int .i64 (k72 : Int)), (111, .bool s206)]) (fun (_ : Unit) => fun w' => w113 = w') ?_ ?_
                          · refine C_cond rfl (fun hc211 => ?_) (fun hc211 => ?_)
                            · rw [if_pos hc211] at ho205
                              obtain rfl := Option.some.inj ho205
                              refine C_skip (fun a ha212 => ?_)
                              exact ⟨(), ha212.sub ⟨rfl, rfl, rfl, rfl, rfl, rfl, rfl, trivial⟩, rfl⟩
                            · rw [if_neg (nt hc211)] at ho205
                              refine C_region ?_
                              refine V_y (Y_move rfl) rfl rfl rfl ?_
                              refine V_y (Y_sneq rfl rfl) rfl rfl rfl ?_
                              refine V_y (Y_assign rfl) rfl rfl rfl ?_
                              obtain rfl := Option.some.inj ho205
                              refine V_end (fun a ha213 => ?_)
                              exact ⟨(), ha213.sub ⟨rfl, rfl, rfl, rfl, rfl, rfl, rfl, trivial⟩, rfl⟩
                          rintro _ _ rfl a ha210
                          refine C_at (n := ⟨129, [], none⟩) (fun _ _ => rfl) ?_ ha210
                          obtain ⟨s215, ho214, ho181⟩ := Option.bind_eq_some_iff.1 ho181
                          refine C_cutG (ι := (Value × (Nat → Prop))) (fun ⟨v217, A222⟩ => [(9, .map (some b11)), (14, v217), (61, v4), (62, .int .i64 (x3.1.length : Int)), (63, .int .i64 (k72 : Int))]) (fun ⟨v217, A222⟩ => fun w' => Hp w.heap.size A222 w' (obS (α := ByteArray) 9 v217 s215 :: obSM (κ := ByteArray) (α := ByteArray) b11 s17 :: []) ∧ Tr False w.heap.size A84 w113 A222 w') ?_ ?_
                          · have hr216 : Tr False w.heap.size A84 w113 A84 w113 := Tr.refl (Dw := False) hA
                            refine C_cond rfl (fun hc224 => ?_) (fun hc224 => ?_)
                            · rw [if_pos hc224] at ho214
                              refine C_region ?_
                              refine V_y (Y_move rfl) rfl rfl rfl ?_
                              have h225 := El_portref2_piece_3 h115
                              refine V_y (Y_fieldAddr Tryd.underlying54 rfl Tryd.sizeOf9 (by decide) rfl) rfl rfl rfl ?_
                              refine V_y (Y_load (El.str h225) Tryd.isAgg9 rfl) rfl rfl rfl ?_
                              refine V_buildSlice (Dw := False) (l := ([x105.one] : List ByteArray)) (len := 1) Tryd.underlying52 Tryd.sizeOf9 Tryd.zeroValue9 rfl (by with_unfolding_all rfl) (show (1 * 1 : Nat) ≠ 0 by decide) (show (1 * 1 : Nat) ≤ 2 ^ 24 by decide) hA ⟨[.string x105.one], _, rfl, rfl, rfl⟩ rfl rfl ?_
                              intro v226 w227 hk229 h228
                              have ht230 := Kp.tr (Dw := False) hk229 hA hB
                              replace hH := Hp.kp (Dw := False) hH hk229
                              replace h5 := Sl.tr (Dw := False) h5 ht230
                              replace h115 := El.tr (Dw := False) h115 ht230
                              replace h225 := El.tr (Dw := False) h225 ht230
                              replace hK := Tr.trans (Dw := False) hK ht230
                              replace hr71 := Tr.trans (Dw := False) hr71 ht230
                              replace hr97 := Tr.trans (Dw := False) hr97 ht230
                              replace hr121 := Tr.trans (Dw := False) hr121 ht230
                              replace hr132 := Tr.trans (Dw := False) hr132 ht230
                              replace hr159 := Tr.trans (Dw := False) hr159 ht230
                              replace hr183 := Tr.trans (Dw := False) hr183 ht230
                              replace hr216 := Tr.trans (Dw := False) hr216 ht230
                              replace hB := Nat.le_trans hB ht230.ex.size
                              replace hA := ht230.new
                              obtain ⟨x231, hx231, ho214⟩ := Option.bind_eq_some_iff.1 ho214
                              refine V_appendH (Dw := False) (e := 9) (v := v82) (l := s80) (ti := Tryd.t9) (bytes := 16) (lim := 8796093022208) hH (i := 0) rfl h228 hx231 Tryd.underlying52 Tryd_info9 rfl rfl rfl rfl (by decide) (by decide) (by decide) hB hA rfl rfl rfl ?_
                              intro v232 w233 A234 hH235 ht236
                              replace h5 := Sl.tr (Dw := False) h5 ht236
                              replace h115 := El.tr (Dw := False) h115 ht236
                              replace h225 := El.tr (Dw := False) h225 ht236
                              replace h228 := Sl.tr (Dw := False) h228 ht236
                              replace hK := Tr.trans (Dw := False) hK ht236
                              replace hr71 := Tr.trans (Dw := False) hr71 ht236
                              replace hr97 := Tr.trans (Dw := False) hr97 ht236
                              replace hr121 := Tr.trans (Dw := False) hr121 ht236
                              replace hr132 := Tr.trans (Dw := False) hr132 ht236
                              replace hr159 := Tr.trans (Dw := False) hr159 ht236
                              replace hr183 := Tr.trans (Dw := False) hr183 ht236
                              replace hr216 := Tr.trans (Dw := False) hr216 ht236
                              replace hB := Nat.le_trans hB ht236.ex.size
                              replace hA := ht236.new
                              replace hH : Hp w.heap.size A234 w233 (obS (α := ByteArray) 9 v232 x231 :: obSM (κ := ByteArray) (α := ByteArray) b11 s17 :: []) := hH235
                              refine V_y (Y_assign rfl) rfl rfl rfl ?_
                              obtain rfl := Option.some.inj ho214
                              refine V_end (fun a ha237 => ?_)
                              exact ⟨(v232, A234), ha237.sub ⟨rfl, rfl, rfl, rfl, rfl, trivial⟩, ⟨hH, hr216⟩⟩
                            · rw [if_neg (nt hc224)] at ho214
                              refine C_region ?_
                              refine V_y (Y_move rfl) rfl rfl rfl ?_
                              have h238 := El_portref2_piece_4 h115
                              refine V_y (Y_fieldAddr Tryd.underlying54 rfl Tryd.sizeOf9 (by decide) rfl) rfl rfl rfl ?_
                              refine V_y (Y_load (El.str h238) Tryd.isAgg9 rfl) rfl rfl rfl ?_
                              refine V_buildSlice (Dw := False) (l := ([x105.both] : List ByteArray)) (len := 1) Tryd.underlying52 Tryd.sizeOf9 Tryd.zeroValue9 rfl (by with_unfolding_all rfl) (show (1 * 1 : Nat) ≠ 0 by decide) (show (1 * 1 : Nat) ≤ 2 ^ 24 by decide) hA ⟨[.string x105.both], _, rfl, rfl, rfl⟩ rfl rfl ?_
                              intro v239 w240 hk242 h241
                              have ht243 := Kp.tr (Dw := False) hk242 hA hB
                              replace hH := Hp.kp (Dw := False) hH hk242
                              replace h5 := Sl.tr (Dw := False) h5 ht243
                              replace h115 := El.tr (Dw := False) h115 ht243
                              replace h238 := El.tr (Dw := False) h238 ht243
                              replace hK := Tr.trans (Dw := False) hK ht243
                              replace hr71 := Tr.trans (Dw := False) hr71 ht243
                              replace hr97 := Tr.trans (Dw := False) hr97 ht243
                              replace hr121 := Tr.trans (Dw := False) hr121 ht243
                              replace hr132 := Tr.trans (Dw := False) hr132 ht243
                              replace hr159 := Tr.trans (Dw := False) hr159 ht243
                              replace hr183 := Tr.trans (Dw := False) hr183 ht243
                              replace hr216 := Tr.trans (Dw := False) hr216 ht243
                              replace hB := Nat.le_trans hB ht243.ex.size
                              replace hA := ht243.new
                              obtain ⟨x244, hx244, ho214⟩ := Option.bind_eq_some_iff.1 ho214
                              refine V_appendH (Dw := False) (e := 9) (v := v82) (l := s80) (ti := Tryd.t9) (bytes := 16) (lim := 8796093022208) hH (i := 0) rfl h241 hx244 Tryd.underlying52 Tryd_info9 rfl rfl rfl rfl (by decide) (by decide) (by decide) hB hA rfl rfl rfl ?_
                              intro v245 w246 A247 hH248 ht249
                              replace h5 := Sl.tr (Dw := False) h5 ht249
                              replace h115 := El.tr (Dw := False) h115 ht249
                              replace h238 := El.tr (Dw := False) h238 ht249
                              replace h241 := Sl.tr (Dw := False) h241 ht249
                              replace hK := Tr.trans (Dw := False) hK ht249
                              replace hr71 := Tr.trans (Dw := False) hr71 ht249
                              replace hr97 := Tr.trans (Dw := False) hr97 ht249
                              replace hr121 := Tr.trans (Dw := False) hr121 ht249
                              replace hr132 := Tr.trans (Dw := False) hr132 ht249
                              replace hr159 := Tr.trans (Dw := False) hr159 ht249
                              replace hr183 := Tr.trans (Dw := False) hr183 ht249
                              replace hr216 := Tr.trans (Dw := False) hr216 ht249
                              replace hB := Nat.le_trans hB ht249.ex.size
                              replace hA := ht249.new
                              replace hH : Hp w.heap.size A247 w246 (obS (α := ByteArray) 9 v245 x244 :: obSM (κ := ByteArray) (α := ByteArray) b11 s17 :: []) := hH248
                              refine V_y (Y_assign rfl) rfl rfl rfl ?_
                              obtain rfl := Option.some.inj ho214
                              refine V_end (fun a ha250 => ?_)
                              exact ⟨(v245, A247), ha250.sub ⟨rfl, rfl, rfl, rfl, rfl, trivial⟩, ⟨hH, hr216⟩⟩
                          rintro ⟨v217, A222⟩ w219 ⟨hH223, hk220⟩ a ha221
                          replace h5 := Sl.tr (Dw := False) h5 hk220
                          replace hK := Tr.trans (Dw := False) hK hk220
                          replace hr71 := Tr.trans (Dw := False) hr71 hk220
                          replace hr97 := Tr.trans (Dw := False) hr97 hk220
                          replace hr121 := Tr.trans (Dw := False) hr121 hk220
                          replace hr132 := Tr.trans (Dw := False) hr132 hk220
                          replace hr159 := Tr.trans (Dw := False) hr159 hk220
                          replace hr183 := Tr.trans (Dw := False) hr183 hk220
                          replace hB := Nat.le_trans hB hk220.ex.size
                          replace hA := hk220.new
                          replace hH : Hp w.heap.size A222 w219 (obS (α := ByteArray) 9 v217 s215 :: obSM (κ := ByteArray) (α := ByteArray) b11 s17 :: []) := hH223
                          obtain rfl := Option.some.inj ho181
                          exact ⟨(v217, A222), ha221.sub ⟨rfl, rfl, rfl, rfl, rfl, trivial⟩, ⟨hH, hr183⟩⟩
                      rintro ⟨v184, A189⟩ w186 ⟨hH190, hk187⟩ a ha188
                      replace h5 := Sl.tr (Dw := False) h5 hk187
                      replace hK := Tr.trans (Dw := False) hK hk187
                      replace hr71 := Tr.trans (Dw := False) hr71 hk187
                      replace hr97 := Tr.trans (Dw := False) hr97 hk187
                      replace hr121 := Tr.trans (Dw := False) hr121 hk187
                      replace hr132 := Tr.trans (Dw := False) hr132 hk187
                      replace hr159 := Tr.trans (Dw := False) hr159 hk187
                      replace hB := Nat.le_trans hB hk187.ex.size
                      replace hA := hk187.new
                      replace hH : Hp w.heap.size A189 w186 (obS (α := ByteArray) 9 v184 s182 :: obSM (κ := ByteArray) (α := ByteArray) b11 s17 :: []) := hH190
                      obtain rfl := Option.some.inj ho157
                      exact ⟨(s182, v184, A189), ha188.sub ⟨rfl, rfl, rfl, rfl, rfl, trivial⟩, ⟨rfl, hH, hr159⟩⟩
                  rintro ⟨s158, v160, A165⟩ w162 ⟨rfl, hH166, hk163⟩ a ha164
                  rw [Lp.andThen_fin] at ho130
                  replace h5 := Sl.tr (Dw := False) h5 hk163
                  replace hK := Tr.trans (Dw := False) hK hk163
                  replace hr71 := Tr.trans (Dw := False) hr71 hk163
                  replace hr97 := Tr.trans (Dw := False) hr97 hk163
                  replace hr121 := Tr.trans (Dw := False) hr121 hk163
                  replace hr132 := Tr.trans (Dw := False) hr132 hk163
                  replace hB := Nat.le_trans hB hk163.ex.size
                  replace hA := hk163.new
                  replace hH : Hp w.heap.size A165 w162 (obS (α := ByteArray) 9 v160 s158 :: obSM (κ := ByteArray) (α := ByteArray) b11 s17 :: []) := hH166
                  obtain rfl := Option.some.inj ho130
                  exact ⟨(s158, v160, A165), ha164.sub ⟨rfl, rfl, rfl, rfl, rfl, trivial⟩, ⟨rfl, hH, hr132⟩⟩
              rintro ⟨s131, v133, A138⟩ w135 ⟨rfl, hH139, hk136⟩ a ha137
              rw [Lp.andThen_fin] at ho119
              replace h5 := Sl.tr (Dw := False) h5 hk136
              replace hK := Tr.trans (Dw := False) hK hk136
              replace hr71 := Tr.trans (Dw := False) hr71 hk136
              replace hr97 := Tr.trans (Dw := False) hr97 hk136
              replace hr121 := Tr.trans (Dw := False) hr121 hk136
              replace hB := Nat.le_trans hB hk136.ex.size
              replace hA := hk136.new
              replace hH : Hp w.heap.size A138 w135 (obS (α := ByteArray) 9 v133 s131 :: obSM (κ := ByteArray) (α := ByteArray) b11 s17 :: []) := hH139
              obtain rfl := Option.some.inj ho119
              exact ⟨(s131, v133, A138), ha137.sub ⟨rfl, rfl, rfl, rfl, rfl, trivial⟩, ⟨rfl, hH, hr121⟩⟩
            rintro ⟨s120, v122, A127⟩ w124 ⟨rfl, hH128, hk125⟩ a ha126
            rw [Lp.andThen_fin] at ho95
            replace h5 := Sl.tr (Dw := False) h5 hk125
            replace hK := Tr.trans (Dw := False) hK hk125
            replace hr71 := Tr.trans (Dw := False) hr71 hk125
            replace hr97 := Tr.trans (Dw := False) hr97 hk125
            replace hB := Nat.le_trans hB hk125.ex.size
            replace hA := hk125.new
            replace hH : Hp w.heap.size A127 w124 (obS (α := ByteArray) 9 v122 s120 :: obSM (κ := ByteArray) (α := ByteArray) b11 s17 :: []) := hH128
            obtain rfl := Option.some.inj ho95
            exact ⟨(s120, v122, A127), ha126.sub ⟨rfl, rfl, rfl, rfl, rfl, trivial⟩, ⟨rfl, hH, hr97⟩⟩
          rintro ⟨s96, v98, A103⟩ w100 ⟨rfl, hH104, hk101⟩ a ha102
          rw [Lp.andThen_fin] at h87
          replace h5 := Sl.tr (Dw := False) h5 hk101
          replace hK := Tr.trans (Dw := False) hK hk101
          replace hr71 := Tr.trans (Dw := False) hr71 hk101
          replace hB := Nat.le_trans hB hk101.ex.size
          replace hA := hk101.new
          replace hH : Hp w.heap.size A103 w100 (obS (α := ByteArray) 9 v98 s96 :: obSM (κ := ByteArray) (α := ByteArray) b11 s17 :: []) := hH104
          refine C_at (n := ⟨129, [], none⟩) (fun _ _ => rfl) ?_ ha102
          refine C_region ?_
          refine V_y (Y_addI rfl rfl) rfl rfl rfl ?_
          refine V_y (Y_move rfl) rfl rfl rfl ?_
          obtain rfl := Option.some.inj h87
          refine V_end (fun a ha256 => ?_)
          exact ⟨s96, hlt90, h88, ⟨(v98, A103), ha256.sub ⟨rfl, rfl, rfl, rfl, (congrArg (fun z => some (Value.int .i64 z)) (w64_succ hlt90 hn93)), trivial⟩, ⟨hH, hr71⟩⟩⟩
        · refine C_exit (fun a ha257 => ?_)
          exact ⟨(s80, v82, A84), ha257.sub ⟨rfl, trivial⟩, ⟨(h91 (eq_of_dec hle89 hc94)).symm, hH, hr71⟩⟩
      rintro ⟨s70, v76, A78⟩ w73 ⟨rfl, hH79, hk74⟩ a ha75
      rw [Lp.andThen_fin] at hm
      replace hK := Tr.trans (Dw := False) hK hk74
      replace hB := Nat.le_trans hB hk74.ex.size
      replace hA := hk74.new
      replace hH : Hp w.heap.size A78 w73 (obS (α := ByteArray) 9 v76 s70 :: obSM (κ := ByteArray) (α := ByteArray) b11 s17 :: []) := hH79
      refine C_at (n := ⟨129, [], none⟩) (fun _ _ => rfl) ?_ ha75
      refine C_seq ?_
      refine C_region ?_
      refine V_y (Y_move rfl) rfl rfl rfl ?_
      obtain ⟨x259, hx259, hm⟩ := Option.bind_eq_some_iff.1 hm
      refine V_call Tryd.call13 rfl rfl rfl rfl (strings_Join_c w73 (A := fun _ => True) (fun _ _ => trivial) s70 v76 (Hp.any (α := ByteArray) (e := 9) (v := v76) (l := s70) hH (i := 0) rfl) (⟨#[]⟩ : ByteArray) hx259) ?_
      rintro _ w260 ⟨rfl, hk261⟩
      have ht262 := Kp.tr (Dw := False) hk261 hA hB
      replace hH := Hp.kp (Dw := False) hH hk261
      replace hK := Tr.trans (Dw := False) hK ht262
      replace hB := Nat.le_trans hB ht262.ex.size
      replace hA := ht262.new
      refine V_y (Y_assign rfl) rfl rfl rfl ?_
      refine V_to (fun _ _ => rfl) ?_
      refine C_seq ?_
      refine C_seq ?_
      refine C_region ?_
      refine V_y (Y_move rfl) rfl rfl rfl ?_
      refine V_y (Y_lenStr rfl Tryd.underlying9 rfl) rfl rfl rfl ?_
      refine V_y (Y_gtr rfl rfl) rfl rfl rfl ?_
      refine V_to (fun _ _ => rfl) ?_
      refine C_cond rfl (fun hc263 => ?_) (fun hc263 => ?_)
      · rw [if_pos hc263] at hm
        refine C_seq ?_
        refine C_region ?_
        refine V_y (Y_assign rfl) rfl rfl rfl ?_
        refine V_y (Y_assign rfl) rfl rfl rfl ?_
        refine V_to (fun _ _ => rfl) ?_
        obtain rfl := Option.some.inj hm
        refine C_ret ?_
        try simp only [↓inBlock_ret, ↓then_ret]
        exact retQ rfl (Res.two Tryd.results5 rfl rfl) ⟨rfl, hK.kp⟩
      · rw [if_neg (nt hc263)] at hm
        refine C_skip_to (fun _ _ => rfl) ?_
        refine C_seq ?_
        refine C_region ?_
        refine V_y (Y_move rfl) rfl rfl rfl ?_
        refine V_y (Y_assign rfl) rfl rfl rfl ?_
        refine V_y (Y_assign rfl) rfl rfl rfl ?_
        refine V_to (fun _ _ => rfl) ?_
        obtain rfl := Option.some.inj hm
        refine C_ret ?_
        try simp only [↓inBlock_ret, ↓then_ret]
        exact retQ rfl (Res.two Tryd.results5 rfl rfl) ⟨rfl, hK.kp⟩

set_option maxRecDepth 4000 in
set_option maxHeartbeats 4000000 in
theorem portlaw2_TemplateFills_c (w : World) {A : Nat → Prop} (hA : ∀ b, w.heap.size ≤ b → A b) (hT : Mx Tryd.prog 0 A w) (s : ByteArray) (values : (List know_Pair)) (v_values : Value) (h_values : Sl A w v_values values) {r : Bool} (hm : portlaw2_TemplateFills s values = some r) : Ret Tryd.prog 3 #[.string s, v_values] w fun v w' => v = .bool r ∧ Kp False w w' := by
  unfold portlaw2_TemplateFills at hm
  refine enter Tryd.func3 rfl Tryd.ntmps3 rfl ?_
  have hA0 := hA
  have hB := Nat.le_refl w.heap.size
  have hK : Tr False w.heap.size A w A w := Tr.refl (Dw := False) hA
  have hH : Hp w.heap.size A w [] := Hp.nil
  refine C_seq ?_
  refine C_region ?_
  refine V_y (Y_assign rfl) rfl rfl rfl ?_
  refine V_to (fun _ _ => rfl) ?_
  refine C_seq ?_
  refine C_region ?_
  refine V_y (Y_move rfl) rfl rfl rfl ?_
  refine V_y (Y_move rfl) rfl rfl rfl ?_
  obtain ⟨x3, hx3, hm⟩ := Option.bind_eq_some_iff.1 hm
  refine V_call Tryd.call4 rfl rfl rfl rfl (know_Fill_c w hA s values v_values h_values hx3) ?_
  rintro _ w4 ⟨rfl, hk5⟩
  have ht6 := Kp.tr (Dw := False) hk5 hA hB
  replace hH := Hp.kp (Dw := False) hH hk5
  replace h_values := Sl.tr (Dw := False) h_values ht6
  replace hK := Tr.trans (Dw := False) hK ht6
  replace hB := Nat.le_trans hB ht6.ex.size
  replace hA := ht6.new
  refine V_y (Y_move rfl) rfl rfl rfl ?_
  refine V_y (Y_extract rfl rfl) rfl rfl rfl ?_
  refine V_y (Y_extract rfl rfl) rfl rfl rfl ?_
  refine V_y (Y_assign rfl) rfl rfl rfl ?_
  refine V_y (Y_assign rfl) rfl rfl rfl ?_
  refine V_to (fun _ _ => rfl) ?_
  refine C_seq ?_
  refine C_region ?_
  refine V_y (Y_move rfl) rfl rfl rfl ?_
  refine V_y (Y_move rfl) rfl rfl rfl ?_
  obtain ⟨x7, hx7, hm⟩ := Option.bind_eq_some_iff.1 hm
  refine V_call Tryd.call5 rfl rfl rfl rfl (portref2_FillOf_c w4 hA (Mx.tr (Dw := False) hT hK) s values v_values h_values hx7) ?_
  rintro _ w9 ⟨rfl, hk10⟩
  have ht11 := Kp.tr (Dw := False) hk10 hA hB
  replace hH := Hp.kp (Dw := False) hH hk10
  replace h_values := Sl.tr (Dw := False) h_values ht11
  replace hK := Tr.trans (Dw := False) hK ht11
  replace hB := Nat.le_trans hB ht11.ex.size
  replace hA := ht11.new
  refine V_y (Y_move rfl) rfl rfl rfl ?_
  refine V_y (Y_extract rfl rfl) rfl rfl rfl ?_
  refine V_y (Y_extract rfl rfl) rfl rfl rfl ?_
  refine V_y (Y_assign rfl) rfl rfl rfl ?_
  refine V_y (Y_assign rfl) rfl rfl rfl ?_
  refine V_to (fun _ _ => rfl) ?_
  refine C_seq ?_
  refine C_region ?_
  refine V_y (Y_move rfl) rfl rfl rfl ?_
  refine V_y (Y_move rfl) rfl rfl rfl ?_
  refine V_y (Y_seql rfl rfl) rfl rfl rfl ?_
  refine V_y (Y_move rfl) rfl rfl rfl ?_
  refine V_cut 4 (fun _ : Unit => [(28, .bool ((strEq x3.1 x7.1) && (x3.2 == x7.2)))]) (fun _ w' => w9 = w') ?_ ?_
  · simp only [List.take, List.drop]
    rcases Bool.eq_false_or_eq_true (strEq x3.1 x7.1) with hc12 | hc12
    · refine V_ge rfl rfl rfl hc12 ?_
      refine V_y (Y_move rfl) rfl rfl rfl ?_
      refine V_ge rfl rfl rfl hc12 ?_
      refine V_y (Y_move rfl) rfl rfl rfl ?_
      refine V_ge rfl rfl rfl hc12 ?_
      refine V_y (Y_eql rfl rfl) rfl rfl rfl ?_
      refine V_y (Y_pick_te rfl hc12 rfl) rfl rfl rfl ?_
      exact V_end fun a ha => ⟨(), ha.sub ⟨(by rw [hc12]; rfl), trivial⟩, rfl⟩
    · refine V_gn rfl rfl rfl hc12 rfl rfl rfl ?_
      refine V_gn rfl rfl rfl hc12 rfl rfl rfl ?_
      refine V_gn rfl rfl rfl hc12 rfl rfl rfl ?_
      refine V_y (Y_pick_fe rfl hc12 rfl) rfl rfl rfl ?_
      exact V_end fun a ha => ⟨(), ha.sub ⟨(by rw [hc12]; rfl), trivial⟩, rfl⟩
  simp only [List.take, List.drop]
  rintro _ _ rfl
  refine V_y (Y_assign rfl) rfl rfl rfl ?_
  refine V_to (fun _ _ => rfl) ?_
  obtain rfl := Option.some.inj hm
  refine C_ret ?_
  try simp only [↓inBlock_ret, ↓then_ret]
  exact retQ rfl (Res.one Tryd.results3 rfl) ⟨rfl, hK.kp⟩

end Go.Proofs.YtfdhiclmjfkflaaDoor.W
