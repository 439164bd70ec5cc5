/-
  Written by program (gen.py) from the IR of the dump: each function computes its model.
-/
import Derived.Test.YtkdkejikbcdadaaDoorClockChecksW0
namespace Go.Proofs.YtkdkejikbcdadaaDoor.W
open Go Go.RowKit Go.Pu Go.Gw Go.Proofs Go.Proofs.YtkdkejikbcdadaaDoor.M
set_option linter.unusedVariables false
set_option linter.unusedSimpArgs false

set_option maxRecDepth 4000 in
set_option maxHeartbeats 4000000 in
theorem portref2_line_c (w : World) {A : Nat → Prop} (hA : ∀ b, w.heap.size ≤ b → A b) (hT : Tb Tryd.prog A w) (words : (List AnyV)) (v_words : Value) (h_words : Sl A w v_words words) {r : ByteArray} (hm : portref2_line words = some r) : Ret Tryd.prog 23 #[v_words] w fun v w' => v = .string r ∧ Kp w w' := by
  unfold portref2_line at hm
  refine enter Tryd.func23 rfl Tryd.ntmps23 rfl ?_
  have hA0 := hA
  have hB := Nat.le_refl w.heap.size
  have hK : Tr w.heap.size A w A w := Tr.refl hA
  have hH : Hp w.heap.size A w [] := Hp.nil
  refine C_seq ?_
  refine C_region ?_
  refine V_y (Y_assign rfl) rfl rfl rfl ?_
  refine V_to (fun _ _ => rfl) ?_
  refine C_seq ?_
  refine C_region ?_
  refine V_y (Y_assign rfl) rfl rfl rfl ?_
  refine V_to (fun _ _ => rfl) ?_
  refine C_seq ?_
  refine C_seq ?_
  refine C_region ?_
  refine V_y (Y_move rfl) rfl rfl rfl ?_
  refine V_y (Y_lenSl h_words rfl Tryd.underlying52 rfl) rfl rfl rfl ?_
  refine V_y (Y_move rfl) rfl rfl rfl ?_
  refine V_to (fun _ _ => rfl) ?_
  replace hH : Hp w.heap.size A w (obS (α := ByteArray) 9 (.slice none 0 0) ([] : (List ByteArray)) :: []) := Hp.addNil (α := ByteArray) (e := 9) hH
  have hn27 := Sl.le h_words
  obtain ⟨o3, ho3, hm⟩ := Option.bind_eq_some_iff.1 hm
  refine C_cutG (ι := ((List ByteArray) × Value × (Nat → Prop))) (fun ⟨s4, v10, A12⟩ => [(3, v10)]) (fun ⟨s4, v10, A12⟩ => fun w' => o3 = .fin s4 ∧ Hp w.heap.size A12 w' (obS (α := ByteArray) 9 v10 s4 :: []) ∧ Tr w.heap.size A w A12 w') ?_ ?_
  · refine C_block ?_
    refine C_range ho3 (fun k6 s14 a w' => ∃ i : (Value × (Nat → Prop)), Has ⟨34, [], none⟩ a ([(3, i.1), (8, v_words), (9, .int .i64 (words.length : Int)), (10, .int .i64 (k6 : Int))]) ∧ Hp w.heap.size i.2 w' (obS (α := ByteArray) 9 i.1 s14 :: []) ∧ Tr w.heap.size A w i.2 w') (fun a ha => ⟨(.slice none 0 0, A), ha.sub ⟨rfl, rfl, rfl, rfl, trivial⟩, ⟨hH, Tr.refl hA⟩⟩) ?_
    rintro K k6 s14 a w15 ⟨⟨v16, A18⟩, ha109, hH19, hr5⟩ hle23 K26 h25
    refine C_of ?_ ha109
    replace h_words := Sl.tr h_words hr5
    replace hK := Tr.trans hK hr5
    replace hB := Nat.le_trans hB hr5.ex.size
    replace hA := hr5.new
    replace hH : Hp w.heap.size A18 w15 (obS (α := ByteArray) 9 v16 s14 :: []) := hH19
    refine C_seq (C_region (V_y (Y_lss rfl rfl) rfl rfl rfl (V_to (fun _ _ => rfl) ?_)))
    refine C_seq ?_
    refine C_cond rfl (fun hc28 => ?_) (fun hc28 => ?_)
    · have hlt24 := lt_of_dec hc28
      obtain ⟨x20, h21, h22⟩ := K26 hlt24
      refine C_skip_to (fun _ _ => rfl) ?_
      refine C_seq ?_
      obtain ⟨s30, ho29, h21⟩ := Option.bind_eq_some_iff.1 h21
      refine C_cutG (ι := (Value × (Nat → Prop))) (fun ⟨v32, A37⟩ => [(3, v32), (8, v_words), (9, .int .i64 (words.length : Int)), (10, .int .i64 (k6 : Int))]) (fun ⟨v32, A37⟩ => fun w' => Hp w.heap.size A37 w' (obS (α := ByteArray) 9 v32 s30 :: []) ∧ Tr w.heap.size A18 w15 A37 w') ?_ ?_
      · have hr31 : Tr w.heap.size A18 w15 A18 w15 := Tr.refl hA
        refine C_block ?_
        refine C_seq ?_
        refine C_region ?_
        obtain ⟨x39, hx39, ho29⟩ := Option.bind_eq_some_iff.1 ho29
        refine V_indexAddr h_words hx39 Tryd.underlying52 Tryd.sizeOf20 rfl rfl rfl ?_
        intro b40 o41 h42
        refine V_y (Y_load (El.anyv h42) Tryd.isAgg20 rfl) rfl rfl rfl ?_
        refine V_y (Y_assign rfl) rfl rfl rfl ?_
        refine V_to (fun _ _ => rfl) ?_
        refine C_seq ?_
        refine C_region ?_
        refine V_y (Y_move rfl) rfl rfl rfl ?_
        refine V_to (fun _ _ => rfl) ?_
        obtain ⟨s44, ho43, ho29⟩ := Option.bind_eq_some_iff.1 ho29
        refine C_cutG (ι := (Value × (Nat → Prop))) (fun ⟨v46, A51⟩ => [(3, v46), (8, v_words), (9, .int .i64 (words.length : Int)), (10, .int .i64 (k6 : Int))]) (fun ⟨v46, A51⟩ => fun w' => Hp w.heap.size A51 w' (obS (α := ByteArray) 9 v46 s44 :: []) ∧ Tr w.heap.size A18 w15 A51 w') ?_ ?_
        · have hr45 : Tr w.heap.size A18 w15 A18 w15 := Tr.refl hA
          refine C_block ?_
          refine C_seq ?_
          refine C_region ?_
          refine V_y (Y_asStr (ti := 3) Tryd.underlying9 Tryd.zeroValue9 (by decide) rfl) rfl rfl rfl ?_
          refine V_y (Y_extract rfl rfl) rfl rfl rfl ?_
          refine V_y (Y_extract rfl rfl) rfl rfl rfl ?_
          refine V_to (fun _ _ => rfl) ?_
          obtain ⟨s54, ho53, ho43⟩ := Option.bind_eq_some_iff.1 ho43
          refine C_cutG (ι := (Value × (Nat → Prop))) (fun ⟨v56, A61⟩ => [(3, v56), (8, v_words), (9, .int .i64 (words.length : Int)), (10, .int .i64 (k6 : Int))]) (fun ⟨v56, A61⟩ => fun w' => Hp w.heap.size A61 w' (obS (α := ByteArray) 9 v56 s54 :: []) ∧ Tr w.heap.size A18 w15 A61 w') ?_ ?_
          · have hr55 : Tr w.heap.size A18 w15 A18 w15 := Tr.refl hA
            refine C_cond rfl (fun hc63 => ?_) (fun hc63 => ?_)
            · rw [if_pos hc63] at ho53
              refine C_seq ?_
              refine C_region ?_
              refine V_y (Y_assign rfl) rfl rfl rfl ?_
              refine V_to (fun _ _ => rfl) ?_
              refine C_region ?_
              refine V_y (Y_move rfl) rfl rfl rfl ?_
              refine V_y (Y_move rfl) rfl rfl rfl ?_
              refine V_buildSlice (l := ([x39.asStr.1] : List ByteArray)) (len := 1) Tryd.underlying47 Tryd.sizeOf9 Tryd.zeroValue9 rfl (by with_unfolding_all rfl) (by decide) (by decide) hA ⟨[.string x39.asStr.1], _, rfl, rfl, rfl⟩ rfl rfl ?_
              intro v64 w65 hk67 h66
              have ht68 := Kp.tr hk67 hA hB
              replace hH := Hp.kp hH hk67
              replace h_words := Sl.tr h_words ht68
              replace hK := Tr.trans hK ht68
              replace hr5 := Tr.trans hr5 ht68
              replace hr31 := Tr.trans hr31 ht68
              replace hr45 := Tr.trans hr45 ht68
              replace hr55 := Tr.trans hr55 ht68
              replace hB := Nat.le_trans hB ht68.ex.size
              replace hA := ht68.new
              obtain ⟨x69, hx69, ho53⟩ := Option.bind_eq_some_iff.1 ho53
              refine V_appendH (e := 9) (v := v16) (l := s14) (ti := Tryd.t9) (bytes := 16) (lim := 8796093022208) hH (i := 0) rfl h66 hx69 Tryd.underlying47 Tryd_info9 rfl rfl rfl rfl (by decide) (by decide) (by decide) hB hA rfl rfl rfl ?_
              intro v70 w71 A72 hH73 ht74
              replace h_words := Sl.tr h_words ht74
              replace h66 := Sl.tr h66 ht74
              replace hK := Tr.trans hK ht74
              replace hr5 := Tr.trans hr5 ht74
              replace hr31 := Tr.trans hr31 ht74
              replace hr45 := Tr.trans hr45 ht74
              replace hr55 := Tr.trans hr55 ht74
              replace hB := Nat.le_trans hB ht74.ex.size
              replace hA := ht74.new
              replace hH : Hp w.heap.size A72 w71 (obS (α := ByteArray) 9 v70 x69 :: []) := hH73
              refine V_y (Y_assign rfl) rfl rfl rfl ?_
              obtain rfl := Option.some.inj ho53
              refine V_end (fun a ha75 => ?_)
              exact ⟨(v70, A72), ha75.sub ⟨rfl, rfl, rfl, rfl, trivial⟩, ⟨hH, hr55⟩⟩
            · rw [if_neg (nt hc63)] at ho53
              refine C_seq ?_
              refine C_region ?_
              refine V_y (Y_asInt (ts := 9) Tryd.underlying3 Tryd.zeroValue3 (by decide) rfl) rfl rfl rfl ?_
              refine V_y (Y_extract rfl rfl) rfl rfl rfl ?_
              refine V_y (Y_extract rfl rfl) rfl rfl rfl ?_
              refine V_to (fun _ _ => rfl) ?_
              obtain ⟨s77, ho76, ho53⟩ := Option.bind_eq_some_iff.1 ho53
              refine C_cutG (ι := (Value × (Nat → Prop))) (fun ⟨v79, A84⟩ => [(3, v79), (8, v_words), (9, .int .i64 (words.length : Int)), (10, .int .i64 (k6 : Int))]) (fun ⟨v79, A84⟩ => fun w' => Hp w.heap.size A84 w' (obS (α := ByteArray) 9 v79 s77 :: []) ∧ Tr w.heap.size A18 w15 A84 w') ?_ ?_
              · have hr78 : Tr w.heap.size A18 w15 A18 w15 := Tr.refl hA
                refine C_cond rfl (fun hc86 => ?_) (fun hc86 => ?_)
                · rw [if_pos hc86] at ho76
                  refine C_seq ?_
                  refine C_region ?_
                  refine V_y (Y_assign rfl) rfl rfl rfl ?_
                  refine V_to (fun _ _ => rfl) ?_
                  refine C_region ?_
                  refine V_y (Y_move rfl) rfl rfl rfl ?_
                  refine V_y (Y_move rfl) rfl rfl rfl ?_
                  obtain ⟨x87, hx87, ho76⟩ := Option.bind_eq_some_iff.1 ho76
                  refine V_call Tryd.call12 rfl rfl rfl rfl (strconv_Itoa_c w15 hA (Tb.tr hT hK) x39.asInt.1 hx87) ?_
                  rintro _ w88 ⟨rfl, hk89⟩
                  have ht90 := Kp.tr hk89 hA hB
                  replace hH := Hp.kp hH hk89
                  replace h_words := Sl.tr h_words ht90
                  replace hK := Tr.trans hK ht90
                  replace hr5 := Tr.trans hr5 ht90
                  replace hr31 := Tr.trans hr31 ht90
                  replace hr45 := Tr.trans hr45 ht90
                  replace hr55 := Tr.trans hr55 ht90
                  replace hr78 := Tr.trans hr78 ht90
                  replace hB := Nat.le_trans hB ht90.ex.size
                  replace hA := ht90.new
                  refine V_buildSlice (l := ([x87] : List ByteArray)) (len := 1) Tryd.underlying47 Tryd.sizeOf9 Tryd.zeroValue9 rfl (by with_unfolding_all rfl) (by decide) (by decide) hA ⟨[.string x87], _, rfl, rfl, rfl⟩ rfl rfl ?_
                  intro v91 w92 hk94 h93
                  have ht95 := Kp.tr hk94 hA hB
                  replace hH := Hp.kp hH hk94
                  replace h_words := Sl.tr h_words ht95
                  replace hK := Tr.trans hK ht95
                  replace hr5 := Tr.trans hr5 ht95
                  replace hr31 := Tr.trans hr31 ht95
                  replace hr45 := Tr.trans hr45 ht95
                  replace hr55 := Tr.trans hr55 ht95
                  replace hr78 := Tr.trans hr78 ht95
                  replace hB := Nat.le_trans hB ht95.ex.size
                  replace hA := ht95.new
                  obtain ⟨x96, hx96, ho76⟩ := Option.bind_eq_some_iff.1 ho76
                  refine V_appendH (e := 9) (v := v16) (l := s14) (ti := Tryd.t9) (bytes := 16) (lim := 8796093022208) hH (i := 0) rfl h93 hx96 Tryd.underlying47 Tryd_info9 rfl rfl rfl rfl (by decide) (by decide) (by decide) hB hA rfl rfl rfl ?_
                  intro v97 w98 A99 hH100 ht101
                  replace h_words := Sl.tr h_words ht101
                  replace h93 := Sl.tr h93 ht101
                  replace hK := Tr.trans hK ht101
                  replace hr5 := Tr.trans hr5 ht101
                  replace hr31 := Tr.trans hr31 ht101
                  replace hr45 := Tr.trans hr45 ht101
                  replace hr55 := Tr.trans hr55 ht101
                  replace hr78 := Tr.trans hr78 ht101
                  replace hB := Nat.le_trans hB ht101.ex.size
                  replace hA := ht101.new
                  replace hH : Hp w.heap.size A99 w98 (obS (α := ByteArray) 9 v97 x96 :: []) := hH100
                  refine V_y (Y_assign rfl) rfl rfl rfl ?_
                  obtain rfl := Option.some.inj ho76
                  refine V_end (fun a ha102 => ?_)
                  exact ⟨(v97, A99), ha102.sub ⟨rfl, rfl, rfl, rfl, trivial⟩, ⟨hH, hr78⟩⟩
                · rw [if_neg (nt hc86)] at ho76
                  obtain rfl := Option.some.inj ho76
                  refine C_skip (fun a ha103 => ?_)
                  exact ⟨(v16, A18), ha103.sub ⟨rfl, rfl, rfl, rfl, trivial⟩, ⟨hH, hr78⟩⟩
              rintro ⟨v79, A84⟩ w81 ⟨hH85, hk82⟩ a ha83
              replace h_words := Sl.tr h_words hk82
              replace hK := Tr.trans hK hk82
              replace hr5 := Tr.trans hr5 hk82
              replace hr31 := Tr.trans hr31 hk82
              replace hr45 := Tr.trans hr45 hk82
              replace hr55 := Tr.trans hr55 hk82
              replace hB := Nat.le_trans hB hk82.ex.size
              replace hA := hk82.new
              replace hH : Hp w.heap.size A84 w81 (obS (α := ByteArray) 9 v79 s77 :: []) := hH85
              obtain rfl := Option.some.inj ho53
              exact ⟨(v79, A84), ha83.sub ⟨rfl, rfl, rfl, rfl, trivial⟩, ⟨hH, hr55⟩⟩
          rintro ⟨v56, A61⟩ w58 ⟨hH62, hk59⟩ a ha60
          replace h_words := Sl.tr h_words hk59
          replace hK := Tr.trans hK hk59
          replace hr5 := Tr.trans hr5 hk59
          replace hr31 := Tr.trans hr31 hk59
          replace hr45 := Tr.trans hr45 hk59
          replace hB := Nat.le_trans hB hk59.ex.size
          replace hA := hk59.new
          replace hH : Hp w.heap.size A61 w58 (obS (α := ByteArray) 9 v56 s54 :: []) := hH62
          obtain rfl := Option.some.inj ho43
          exact ⟨(v56, A61), ha60.sub ⟨rfl, rfl, rfl, rfl, trivial⟩, ⟨hH, hr45⟩⟩
        rintro ⟨v46, A51⟩ w48 ⟨hH52, hk49⟩ a ha50
        replace h_words := Sl.tr h_words hk49
        replace hK := Tr.trans hK hk49
        replace hr5 := Tr.trans hr5 hk49
        replace hr31 := Tr.trans hr31 hk49
        replace hB := Nat.le_trans hB hk49.ex.size
        replace hA := hk49.new
        replace hH : Hp w.heap.size A51 w48 (obS (α := ByteArray) 9 v46 s44 :: []) := hH52
        obtain rfl := Option.some.inj ho29
        exact ⟨(v46, A51), ha50.sub ⟨rfl, rfl, rfl, rfl, trivial⟩, ⟨hH, hr31⟩⟩
      rintro ⟨v32, A37⟩ w34 ⟨hH38, hk35⟩ a ha36
      replace h_words := Sl.tr h_words hk35
      replace hK := Tr.trans hK hk35
      replace hr5 := Tr.trans hr5 hk35
      replace hB := Nat.le_trans hB hk35.ex.size
      replace hA := hk35.new
      replace hH : Hp w.heap.size A37 w34 (obS (α := ByteArray) 9 v32 s30 :: []) := hH38
      refine C_at (n := ⟨34, [], none⟩) (fun _ _ => rfl) ?_ ha36
      refine C_region ?_
      refine V_y (Y_addI rfl rfl) rfl rfl rfl ?_
      refine V_y (Y_move rfl) rfl rfl rfl ?_
      obtain rfl := Option.some.inj h21
      refine V_end (fun a ha107 => ?_)
      exact ⟨s30, hlt24, h22, ⟨(v32, A37), ha107.sub ⟨rfl, rfl, rfl, (congrArg (fun z => some (Value.int .i64 z)) (w64_succ hlt24 hn27)), trivial⟩, ⟨hH, hr5⟩⟩⟩
    · refine C_exit (fun a ha108 => ?_)
      exact ⟨(s14, v16, A18), ha108.sub ⟨rfl, trivial⟩, ⟨(h25 (eq_of_dec hle23 hc28)).symm, hH, hr5⟩⟩
  rintro ⟨s4, v10, A12⟩ w7 ⟨rfl, hH13, hk8⟩ a ha9
  rw [Lp.andThen_fin] at hm
  replace hK := Tr.trans hK hk8
  replace hB := Nat.le_trans hB hk8.ex.size
  replace hA := hk8.new
  replace hH : Hp w.heap.size A12 w7 (obS (α := ByteArray) 9 v10 s4 :: []) := hH13
  refine C_at (n := ⟨34, [], none⟩) (fun _ _ => rfl) ?_ ha9
  refine C_seq ?_
  refine C_region ?_
  refine V_y (Y_move rfl) rfl rfl rfl ?_
  obtain ⟨x110, hx110, hm⟩ := Option.bind_eq_some_iff.1 hm
  refine V_call Tryd.call22 rfl rfl rfl rfl (strings_Join_c w7 (A := fun _ => True) (fun _ _ => trivial) s4 v10 (Hp.any (α := ByteArray) (e := 9) (v := v10) (l := s4) hH (i := 0) rfl) (⟨#[32]⟩ : ByteArray) hx110) ?_
  rintro _ w111 ⟨rfl, hk112⟩
  have ht113 := Kp.tr hk112 hA hB
  replace hH := Hp.kp hH hk112
  replace hK := Tr.trans hK ht113
  replace hB := Nat.le_trans hB ht113.ex.size
  replace hA := ht113.new
  obtain ⟨x114, hx114, hm⟩ := Option.bind_eq_some_iff.1 hm
  refine V_y (Y_sadd hx114 rfl rfl) rfl rfl rfl ?_
  refine V_y (Y_assign rfl) rfl rfl rfl ?_
  refine V_to (fun _ _ => rfl) ?_
  obtain rfl := Option.some.inj hm
  refine C_ret ?_
  try simp only [↓inBlock_ret, ↓then_ret]
  exact retQ rfl (Res.one Tryd.results23 rfl) ⟨rfl, hK.kp⟩

set_option maxRecDepth 4000 in
set_option maxHeartbeats 4000000 in
theorem portref2_ClockString_c (w : World) {A : Nat → Prop} (hA : ∀ b, w.heap.size ≤ b → A b) (hT : Tb Tryd.prog A w) (c : level_Clock) (v_c : Value) (h_c : Sl A w v_c c.pieces) {r : (ByteArray × Int)} (hm : portref2_ClockString c = some r) : Ret Tryd.prog 8 #[.agg #[.int .i64 c.kind, .int .i64 c.level, .int .i64 c.minutes, .int .i64 c.start, .int .i64 c.stop, .int .i64 c.end_, v_c]] w fun v w' => v = .tuple #[.string r.1, .int .i64 r.2] ∧ Kp w w' := by
  unfold portref2_ClockString at hm
  refine enter Tryd.func8 rfl Tryd.ntmps8 rfl ?_
  have hA0 := hA
  have hB := Nat.le_refl w.heap.size
  have hK : Tr w.heap.size A w A w := Tr.refl hA
  have hH : Hp w.heap.size A w [] := Hp.nil
  refine C_seq ?_
  refine C_region ?_
  refine V_box rfl rfl ?_
  intro b3 w4 h5
  have hk7 := h5.kp
  have h6 : El (α := level_Clock) A w4 b3 0 c := h5.el hA ⟨[.int .i64 c.kind], _, rfl, rfl, ⟨[.int .i64 c.level], _, rfl, rfl, ⟨[.int .i64 c.minutes], _, rfl, rfl, ⟨[.int .i64 c.start], _, rfl, rfl, ⟨[.int .i64 c.stop], _, rfl, rfl, ⟨[.int .i64 c.end_], _, rfl, rfl, ⟨_, rfl, h_c⟩⟩⟩⟩⟩⟩⟩
  have ht8 := Kp.tr hk7 hA hB
  replace hH := Hp.kp hH hk7
  replace h_c := Sl.tr h_c ht8
  replace hK := Tr.trans hK ht8
  replace hB := Nat.le_trans hB ht8.ex.size
  replace hA := ht8.new
  refine V_y (Y_assign rfl) rfl rfl rfl ?_
  refine V_y (Y_assign rfl) rfl rfl rfl ?_
  refine V_to (fun _ _ => rfl) ?_
  refine C_seq ?_
  refine C_seq ?_
  refine C_region ?_
  obtain ⟨v9, h11, h10⟩ := El_level_Clock h6
  refine V_y (Y_loadA h11 Tryd.isAgg31 Tryd.sizeOf31 rfl) rfl rfl rfl ?_
  obtain ⟨x12, hx12, hm⟩ := Option.bind_eq_some_iff.1 hm
  refine V_call Tryd.call10 rfl rfl rfl rfl (portref2_ClockFault_c w4 hA c v9 h10 hx12) ?_
  rintro _ w13 ⟨rfl, hk14⟩
  have ht15 := Kp.tr hk14 hA hB
  replace hH := Hp.kp hH hk14
  replace h6 := El.tr h6 ht15
  replace h10 := Sl.tr h10 ht15
  replace hK := Tr.trans hK ht15
  replace hB := Nat.le_trans hB ht15.ex.size
  replace hA := ht15.new
  refine V_y (Y_assign rfl) rfl rfl rfl ?_
  refine V_to (fun _ _ => rfl) ?_
  refine C_seq ?_
  refine C_region ?_
  refine V_y (Y_move rfl) rfl rfl rfl ?_
  refine V_y (Y_neq rfl rfl) rfl rfl rfl ?_
  refine V_to (fun _ _ => rfl) ?_
  refine C_cond rfl (fun hc16 => ?_) (fun hc16 => ?_)
  · rw [if_pos hc16] at hm
    refine C_seq ?_
    refine C_region ?_
    refine V_y (Y_move rfl) rfl rfl rfl ?_
    refine V_y (Y_assign rfl) rfl rfl rfl ?_
    refine V_y (Y_assign rfl) rfl rfl rfl ?_
    refine V_to (fun _ _ => rfl) ?_
    obtain rfl := Option.some.inj hm
    refine C_ret ?_
    try simp only [↓inBlock_ret, ↓then_ret]
    exact retQ rfl (Res.two Tryd.results8 rfl rfl) ⟨rfl, hK.kp⟩
  · rw [if_neg (nt hc16)] at hm
    refine C_skip_to (fun _ _ => rfl) ?_
    refine C_seq ?_
    refine C_region ?_
    refine V_y (Y_mkStr (ti := 3) Tryd.underlying9 rfl) rfl rfl rfl ?_
    have h17 := El_level_Clock_0 h6
    refine V_y (Y_fieldAddr Tryd.underlying31 rfl Tryd.sizeOf3 (by decide) rfl) rfl rfl rfl ?_
    refine V_y (Y_load (El.int h17) Tryd.isAgg3 rfl) rfl rfl rfl ?_
    refine V_y (Y_mkInt (ts := 9) Tryd.underlying3 rfl) rfl rfl rfl ?_
    have h18 := El_level_Clock_1 h6
    refine V_y (Y_fieldAddr Tryd.underlying31 rfl Tryd.sizeOf3 (by decide) rfl) rfl rfl rfl ?_
    refine V_y (Y_load (El.int h18) Tryd.isAgg3 rfl) rfl rfl rfl ?_
    refine V_y (Y_mkInt (ts := 9) Tryd.underlying3 rfl) rfl rfl rfl ?_
    have h19 := El_level_Clock_2 h6
    refine V_y (Y_fieldAddr Tryd.underlying31 rfl Tryd.sizeOf3 (by decide) rfl) rfl rfl rfl ?_
    refine V_y (Y_load (El.int h19) Tryd.isAgg3 rfl) rfl rfl rfl ?_
    refine V_y (Y_mkInt (ts := 9) Tryd.underlying3 rfl) rfl rfl rfl ?_
    have h20 := El_level_Clock_3 h6
    refine V_y (Y_fieldAddr Tryd.underlying31 rfl Tryd.sizeOf3 (by decide) rfl) rfl rfl rfl ?_
    refine V_y (Y_load (El.int h20) Tryd.isAgg3 rfl) rfl rfl rfl ?_
    refine V_y (Y_mkInt (ts := 9) Tryd.underlying3 rfl) rfl rfl rfl ?_
    have h21 := El_level_Clock_4 h6
    refine V_y (Y_fieldAddr Tryd.underlying31 rfl Tryd.sizeOf3 (by decide) rfl) rfl rfl rfl ?_
    refine V_y (Y_load (El.int h21) Tryd.isAgg3 rfl) rfl rfl rfl ?_
    refine V_y (Y_mkInt (ts := 9) Tryd.underlying3 rfl) rfl rfl rfl ?_
    have h22 := El_level_Clock_5 h6
    refine V_y (Y_fieldAddr Tryd.underlying31 rfl Tryd.sizeOf3 (by decide) rfl) rfl rfl rfl ?_
    refine V_y (Y_load (El.int h22) Tryd.isAgg3 rfl) rfl rfl rfl ?_
    refine V_y (Y_mkInt (ts := 9) Tryd.underlying3 rfl) rfl rfl rfl ?_
    refine V_buildOwnH (l := ([(AnyV.str (⟨#[99, 108, 111, 99, 107]⟩ : ByteArray)), (AnyV.int c.kind), (AnyV.int c.level), (AnyV.int c.minutes), (AnyV.int c.start), (AnyV.int c.stop), (AnyV.int c.end_)] : List AnyV)) (len := 7) hH Tryd.underlying52 Tryd.sizeOf20 Tryd.zeroValue20 rfl (by with_unfolding_all rfl) (by decide) (by decide) hB hA ⟨[AnyV.val 9 3 (AnyV.str (⟨#[99, 108, 111, 99, 107]⟩ : ByteArray))], _, rfl, rfl, ⟨[AnyV.val 9 3 (AnyV.int c.kind)], _, rfl, rfl, ⟨[AnyV.val 9 3 (AnyV.int c.level)], _, rfl, rfl, ⟨[AnyV.val 9 3 (AnyV.int c.minutes)], _, rfl, rfl, ⟨[AnyV.val 9 3 (AnyV.int c.start)], _, rfl, rfl, ⟨[AnyV.val 9 3 (AnyV.int c.stop)], _, rfl, rfl, ⟨[AnyV.val 9 3 (AnyV.int c.end_)], _, rfl, rfl, rfl⟩⟩⟩⟩⟩⟩⟩ rfl rfl ?_
    intro v23 w24 A27 hH29 ht28
    replace h6 := El.tr h6 ht28
    replace h17 := El.tr h17 ht28
    replace h18 := El.tr h18 ht28
    replace h19 := El.tr h19 ht28
    replace h20 := El.tr h20 ht28
    replace h21 := El.tr h21 ht28
    replace h22 := El.tr h22 ht28
    replace hK := Tr.trans hK ht28
    replace hB := Nat.le_trans hB ht28.ex.size
    replace hA := ht28.new
    replace hH : Hp w.heap.size A27 w24 (obS (α := AnyV) 20 v23 ([(AnyV.str (⟨#[99, 108, 111, 99, 107]⟩ : ByteArray)), (AnyV.int c.kind), (AnyV.int c.level), (AnyV.int c.minutes), (AnyV.int c.start), (AnyV.int c.stop), (AnyV.int c.end_)] : List AnyV) :: []) := hH29
    refine V_y (Y_assign rfl) rfl rfl rfl ?_
    refine V_to (fun _ _ => rfl) ?_
    refine C_seq ?_
    refine C_seq ?_
    refine C_region ?_
    have h30 := El_level_Clock_6 h6
    refine V_y (Y_fieldAddr Tryd.underlying31 rfl Tryd.sizeOf29 (by decide) rfl) rfl rfl rfl ?_
    obtain ⟨v31, h32, h33⟩ := El.list h30
    refine V_y (Y_load h32 Tryd.isAgg29 rfl) rfl rfl rfl ?_
    refine V_y (Y_lenSl h33 rfl Tryd.underlying29 rfl) rfl rfl rfl ?_
    refine V_y (Y_move rfl) rfl rfl rfl ?_
    refine V_to (fun _ _ => rfl) ?_
    have hn58 := Sl.le h33
    obtain ⟨o34, ho34, hm⟩ := Option.bind_eq_some_iff.1 hm
    refine C_cutG (ι := ((List AnyV) × Value × (Nat → Prop))) (fun ⟨s35, v41, A43⟩ => [(5, v41)]) (fun ⟨s35, v41, A43⟩ => fun w' => o34 = .fin s35 ∧ Hp w.heap.size A43 w' (obS (α := AnyV) 20 v41 s35 :: []) ∧ Tr w.heap.size A27 w24 A43 w') ?_ ?_
    · refine C_block ?_
      refine C_range ho34 (fun k37 s45 a w' => ∃ i : (Value × (Nat → Prop)), Has ⟨55, [], none⟩ a ([(5, i.1), (34, v31), (35, .int .i64 (c.pieces.length : Int)), (36, .int .i64 (k37 : Int))]) ∧ Hp w.heap.size i.2 w' (obS (α := AnyV) 20 i.1 s45 :: []) ∧ Tr w.heap.size A27 w24 i.2 w') (fun a ha => ⟨(v23, A27), ha.sub ⟨rfl, rfl, rfl, rfl, trivial⟩, ⟨hH, Tr.refl hA⟩⟩) ?_
      rintro K k37 s45 a w46 ⟨⟨v47, A49⟩, ha89, hH50, hr36⟩ hle54 K57 h56
      refine C_of ?_ ha89
      replace h33 := Sl.tr h33 hr36
      replace hK := Tr.trans hK hr36
      replace hB := Nat.le_trans hB hr36.ex.size
      replace hA := hr36.new
      replace hH : Hp w.heap.size A49 w46 (obS (α := AnyV) 20 v47 s45 :: []) := hH50
      refine C_seq (C_region (V_y (Y_lss rfl rfl) rfl rfl rfl (V_to (fun _ _ => rfl) ?_)))
      refine C_seq ?_
      refine C_cond rfl (fun hc59 => ?_) (fun hc59 => ?_)
      · have hlt55 := lt_of_dec hc59
        obtain ⟨x51, h52, h53⟩ := K57 hlt55
        refine C_skip_to (fun _ _ => rfl) ?_
        refine C_seq ?_
        refine C_block ?_
        refine C_seq ?_
        refine C_region ?_
        obtain ⟨x60, hx60, h52⟩ := Option.bind_eq_some_iff.1 h52
        refine V_indexAddr h33 hx60 Tryd.underlying29 Tryd.sizeOf50 rfl rfl rfl ?_
        intro b61 o62 h63
        obtain ⟨h64, _⟩ := El_level_Piece h63
        refine V_y (Y_loadA h64 Tryd.isAgg50 Tryd.sizeOf50 rfl) rfl rfl rfl ?_
        refine V_alloc Tryd.zeroValue50 rfl ?_
        intro b65 w66 h67
        refine V_storeNew h67 Tryd.sizeOf50 rfl rfl rfl rfl (by exact (List.forall_mem_cons.2 ⟨rfl, (List.forall_mem_cons.2 ⟨rfl, (List.forall_mem_cons.2 ⟨rfl, (fun _ h => nomatch h)⟩)⟩)⟩)) ?_
        intro w68 h69
        have hk71 := h69.kp
        have h70 : El (α := level_Piece) A49 w68 b65 0 x60 := h69.el hA ⟨[.int .i64 x60.from_], _, rfl, rfl, ⟨[.int .i64 x60.to_], _, rfl, rfl, rfl⟩⟩
        have ht72 := Kp.tr hk71 hA hB
        replace hH := Hp.kp hH hk71
        replace h33 := Sl.tr h33 ht72
        replace h63 := El.tr h63 ht72
        replace hK := Tr.trans hK ht72
        replace hr36 := Tr.trans hr36 ht72
        replace hB := Nat.le_trans hB ht72.ex.size
        replace hA := ht72.new
        refine V_to (fun _ _ => rfl) ?_
        refine C_region ?_
        refine V_y (Y_move rfl) rfl rfl rfl ?_
        have h73 := El_level_Piece_0 h70
        refine V_y (Y_fieldAddr Tryd.underlying50 rfl Tryd.sizeOf3 (by decide) rfl) rfl rfl rfl ?_
        refine V_y (Y_load (El.int h73) Tryd.isAgg3 rfl) rfl rfl rfl ?_
        refine V_y (Y_mkInt (ts := 9) Tryd.underlying3 rfl) rfl rfl rfl ?_
        have h74 := El_level_Piece_1 h70
        refine V_y (Y_fieldAddr Tryd.underlying50 rfl Tryd.sizeOf3 (by decide) rfl) rfl rfl rfl ?_
        refine V_y (Y_load (El.int h74) Tryd.isAgg3 rfl) rfl rfl rfl ?_
        refine V_y (Y_mkInt (ts := 9) Tryd.underlying3 rfl) rfl rfl rfl ?_
        have h75 := El_level_Piece_2 h70
        refine V_y (Y_fieldAddr Tryd.underlying50 rfl Tryd.sizeOf3 (by decide) rfl) rfl rfl rfl ?_
        refine V_y (Y_load (El.int h75) Tryd.isAgg3 rfl) rfl rfl rfl ?_
        refine V_y (Y_mkInt (ts := 9) Tryd.underlying3 rfl) rfl rfl rfl ?_
        refine V_buildSlice (l := ([(AnyV.int x60.from_), (AnyV.int x60.to_), (AnyV.int x60.calendar)] : List AnyV)) (len := 3) Tryd.underlying52 Tryd.sizeOf20 Tryd.zeroValue20 rfl (by with_unfolding_all rfl) (by decide) (by decide) hA ⟨[AnyV.val 9 3 (AnyV.int x60.from_)], _, rfl, rfl, ⟨[AnyV.val 9 3 (AnyV.int x60.to_)], _, rfl, rfl, ⟨[AnyV.val 9 3 (AnyV.int x60.calendar)], _, rfl, rfl, rfl⟩⟩⟩ rfl rfl ?_
        intro v76 w77 hk79 h78
        have ht80 := Kp.tr hk79 hA hB
        replace hH := Hp.kp hH hk79
        replace h33 := Sl.tr h33 ht80
        replace h70 := El.tr h70 ht80
        replace h73 := El.tr h73 ht80
        replace h74 := El.tr h74 ht80
        replace h75 := El.tr h75 ht80
        replace hK := Tr.trans hK ht80
        replace hr36 := Tr.trans hr36 ht80
        replace hB := Nat.le_trans hB ht80.ex.size
        replace hA := ht80.new
        obtain ⟨x81, hx81, h52⟩ := Option.bind_eq_some_iff.1 h52
        refine V_appendH (e := 20) (v := v47) (l := s45) (ti := Tryd.t20) (bytes := 16) (lim := 8796093022208) hH (i := 0) rfl h78 hx81 Tryd.underlying52 Tryd_info20 rfl rfl rfl rfl (by decide) (by decide) (by decide) hB hA rfl rfl rfl ?_
        intro v82 w83 A84 hH85 ht86
        replace h33 := Sl.tr h33 ht86
        replace h70 := El.tr h70 ht86
        replace h73 := El.tr h73 ht86
        replace h74 := El.tr h74 ht86
        replace h75 := El.tr h75 ht86
        replace h78 := Sl.tr h78 ht86
        replace hK := Tr.trans hK ht86
        replace hr36 := Tr.trans hr36 ht86
        replace hB := Nat.le_trans hB ht86.ex.size
        replace hA := ht86.new
        replace hH : Hp w.heap.size A84 w83 (obS (α := AnyV) 20 v82 x81 :: []) := hH85
        refine V_y (Y_assign rfl) rfl rfl rfl ?_
        refine V_to (fun _ _ => rfl) ?_
        refine C_region ?_
        refine V_y (Y_addI rfl rfl) rfl rfl rfl ?_
        refine V_y (Y_move rfl) rfl rfl rfl ?_
        obtain rfl := Option.some.inj h52
        refine V_end (fun a ha87 => ?_)
        exact ⟨x81, hlt55, h53, ⟨(v82, A84), ha87.sub ⟨rfl, rfl, rfl, (congrArg (fun z => some (Value.int .i64 z)) (w64_succ hlt55 hn58)), trivial⟩, ⟨hH, hr36⟩⟩⟩
      · refine C_exit (fun a ha88 => ?_)
        exact ⟨(s45, v47, A49), ha88.sub ⟨rfl, trivial⟩, ⟨(h56 (eq_of_dec hle54 hc59)).symm, hH, hr36⟩⟩
    rintro ⟨s35, v41, A43⟩ w38 ⟨rfl, hH44, hk39⟩ a ha40
    rw [Lp.andThen_fin] at hm
    replace hK := Tr.trans hK hk39
    replace hB := Nat.le_trans hB hk39.ex.size
    replace hA := hk39.new
    replace hH : Hp w.heap.size A43 w38 (obS (α := AnyV) 20 v41 s35 :: []) := hH44
    refine C_at (n := ⟨55, [], none⟩) (fun _ _ => rfl) ?_ ha40
    refine C_seq ?_
    refine C_region ?_
    refine V_y (Y_move rfl) rfl rfl rfl ?_
    obtain ⟨x90, hx90, hm⟩ := Option.bind_eq_some_iff.1 hm
    refine V_call Tryd.call23 rfl rfl rfl rfl (portref2_line_c w38 (A := fun _ => True) (fun _ _ => trivial) (Tb.top (Tb.tr hT hK)) s35 v41 (Hp.any (α := AnyV) (e := 20) (v := v41) (l := s35) hH (i := 0) rfl) hx90) ?_
    rintro _ w91 ⟨rfl, hk92⟩
    have ht93 := Kp.tr hk92 hA hB
    replace hH := Hp.kp hH hk92
    replace hK := Tr.trans hK ht93
    replace hB := Nat.le_trans hB ht93.ex.size
    replace hA := ht93.new
    refine V_y (Y_assign rfl) rfl rfl rfl ?_
    refine V_y (Y_assign rfl) rfl rfl rfl ?_
    refine V_to (fun _ _ => rfl) ?_
    obtain rfl := Option.some.inj hm
    refine C_ret ?_
    try simp only [↓inBlock_ret, ↓then_ret]
    exact retQ rfl (Res.two Tryd.results8 rfl rfl) ⟨rfl, hK.kp⟩

set_option maxRecDepth 4000 in
set_option maxHeartbeats 4000000 in
theorem portlaw2_ClockChecks_c (w : World) {A : Nat → Prop} (hA : ∀ b, w.heap.size ≤ b → A b) (hT : Tb Tryd.prog A w) (c : level_Clock) (v_c : Value) (h_c : Sl A w v_c c.pieces) {r : Bool} (hm : portlaw2_ClockChecks c = some r) : Ret Tryd.prog 4 #[.agg #[.int .i64 c.kind, .int .i64 c.level, .int .i64 c.minutes, .int .i64 c.start, .int .i64 c.stop, .int .i64 c.end_, v_c]] w fun v w' => v = .bool r ∧ Kp w w' := by
  unfold portlaw2_ClockChecks at hm
  refine enter Tryd.func4 rfl Tryd.ntmps4 rfl ?_
  have hA0 := hA
  have hB := Nat.le_refl w.heap.size
  have hK : Tr w.heap.size A w A w := Tr.refl hA
  have hH : Hp w.heap.size A w [] := Hp.nil
  refine C_seq ?_
  refine C_region ?_
  refine V_box rfl rfl ?_
  intro b3 w4 h5
  have hk7 := h5.kp
  have h6 : El (α := level_Clock) A w4 b3 0 c := h5.el hA ⟨[.int .i64 c.kind], _, rfl, rfl, ⟨[.int .i64 c.level], _, rfl, rfl, ⟨[.int .i64 c.minutes], _, rfl, rfl, ⟨[.int .i64 c.start], _, rfl, rfl, ⟨[.int .i64 c.stop], _, rfl, rfl, ⟨[.int .i64 c.end_], _, rfl, rfl, ⟨_, rfl, h_c⟩⟩⟩⟩⟩⟩⟩
  have ht8 := Kp.tr hk7 hA hB
  replace hH := Hp.kp hH hk7
  replace h_c := Sl.tr h_c ht8
  replace hK := Tr.trans hK ht8
  replace hB := Nat.le_trans hB ht8.ex.size
  replace hA := ht8.new
  refine V_y (Y_assign rfl) rfl rfl rfl ?_
  refine V_to (fun _ _ => rfl) ?_
  refine C_seq ?_
  refine C_region ?_
  obtain ⟨v9, h11, h10⟩ := El_level_Clock h6
  refine V_y (Y_loadA h11 Tryd.isAgg31 Tryd.sizeOf31 rfl) rfl rfl rfl ?_
  obtain ⟨x12, hx12, hm⟩ := Option.bind_eq_some_iff.1 hm
  refine V_call Tryd.call7 rfl rfl rfl rfl (level_ClockText_c w4 hA (Tb.tr hT hK) c v9 h10 hx12) ?_
  rintro _ w13 ⟨rfl, hk14⟩
  have ht15 := Kp.tr hk14 hA hB
  replace hH := Hp.kp hH hk14
  replace h6 := El.tr h6 ht15
  replace h10 := Sl.tr h10 ht15
  replace hK := Tr.trans hK ht15
  replace hB := Nat.le_trans hB ht15.ex.size
  replace hA := ht15.new
  refine V_y (Y_move rfl) rfl rfl rfl ?_
  refine V_y (Y_extract rfl rfl) rfl rfl rfl ?_
  refine V_y (Y_extract rfl rfl) rfl rfl rfl ?_
  refine V_y (Y_assign rfl) rfl rfl rfl ?_
  refine V_y (Y_assign rfl) rfl rfl rfl ?_
  refine V_to (fun _ _ => rfl) ?_
  refine C_seq ?_
  refine C_region ?_
  obtain ⟨v16, h18, h17⟩ := El_level_Clock h6
  refine V_y (Y_loadA h18 Tryd.isAgg31 Tryd.sizeOf31 rfl) rfl rfl rfl ?_
  obtain ⟨x19, hx19, hm⟩ := Option.bind_eq_some_iff.1 hm
  refine V_call Tryd.call8 rfl rfl rfl rfl (portref2_ClockString_c w13 hA (Tb.tr hT hK) c v16 h17 hx19) ?_
  rintro _ w20 ⟨rfl, hk21⟩
  have ht22 := Kp.tr hk21 hA hB
  replace hH := Hp.kp hH hk21
  replace h6 := El.tr h6 ht22
  replace h17 := Sl.tr h17 ht22
  replace hK := Tr.trans hK ht22
  replace hB := Nat.le_trans hB ht22.ex.size
  replace hA := ht22.new
  refine V_y (Y_move rfl) rfl rfl rfl ?_
  refine V_y (Y_extract rfl rfl) rfl rfl rfl ?_
  refine V_y (Y_extract rfl rfl) rfl rfl rfl ?_
  refine V_y (Y_assign rfl) rfl rfl rfl ?_
  refine V_y (Y_assign rfl) rfl rfl rfl ?_
  refine V_to (fun _ _ => rfl) ?_
  refine C_seq ?_
  refine C_region_q Tryd_mixed (by kernel_rfl) ?_
  refine VQ_y (fun w' hw' => Y_move rfl) rfl rfl rfl ?_
  refine VQ_y (fun w' hw' => Y_move rfl) rfl rfl rfl ?_
  refine VQ_y (fun w' hw' => Y_seql rfl rfl) rfl rfl rfl ?_
  refine VQ_y (fun w' hw' => Y_move rfl) rfl rfl rfl ?_
  refine VQ_cut 4 (fun _ : Unit => [(1, .pointer (some ⟨b3, 0, none⟩)), (24, .bool ((strEq x12.1 x19.1) && (x12.2 == x19.2)))]) (fun _ => True) ?_ ?_
  · simp only [List.take, List.drop]
    rcases Bool.eq_false_or_eq_true (strEq x12.1 x19.1) with hc23 | hc23
    · refine VQ_ge rfl rfl rfl hc23 ?_
      refine VQ_y (fun w' hw' => Y_move rfl) rfl rfl rfl ?_
      refine VQ_ge rfl rfl rfl hc23 ?_
      refine VQ_y (fun w' hw' => Y_move rfl) rfl rfl rfl ?_
      refine VQ_ge rfl rfl rfl hc23 ?_
      refine VQ_y (fun w' hw' => Y_eql rfl rfl) rfl rfl rfl ?_
      refine VQ_y (fun _ _ => Y_pick_te rfl hc23 rfl) rfl rfl rfl ?_
      exact VQ_end fun a ha => ⟨(), ha.sub ⟨rfl, (by rw [hc23]; rfl), trivial⟩, trivial⟩
    · refine VQ_gn rfl rfl rfl hc23 rfl rfl rfl ?_
      refine VQ_gn rfl rfl rfl hc23 rfl rfl rfl ?_
      refine VQ_gn rfl rfl rfl hc23 rfl rfl rfl ?_
      refine VQ_y (fun _ _ => Y_pick_fe rfl hc23 rfl) rfl rfl rfl ?_
      exact VQ_end fun a ha => ⟨(), ha.sub ⟨rfl, (by rw [hc23]; rfl), trivial⟩, trivial⟩
  simp only [List.take, List.drop]
  rintro _ _
  refine VQ_y (fun w' hw' => Y_move rfl) rfl rfl rfl ?_
  obtain ⟨s26, hs26, hm⟩ := Option.bind_eq_some_iff.1 hm
  refine VQ_cut 6 (fun _ : Unit => [(31, .bool s26)]) (fun _ => True) ?_ ?_
  · simp only [List.take, List.drop]
    rcases Bool.eq_false_or_eq_true (((strEq x12.1 x19.1) && (x12.2 == x19.2))) with hc25 | hc25
    · rw [if_pos hc25] at hs26
      refine VQ_ge rfl rfl rfl hc25 ?_
      obtain ⟨v27, h29, h28⟩ := El_level_Clock h6
      refine VQ_y (fun w' hw' => Y_loadA (At.kp h29 hw' h6.2.1) Tryd.isAgg31 Tryd.sizeOf31 rfl) rfl rfl rfl ?_
      refine VQ_ge rfl rfl rfl hc25 ?_
      obtain ⟨x30, hx30, hs26⟩ := Option.bind_eq_some_iff.1 hs26
      refine VQ_call (.int .i64 x30) Tryd.call9 rfl rfl rfl rfl (fun w' hw' => (level_CheckClock_c w' (fun b hb => hA b (Nat.le_trans hw'.size hb)) c v27 (Sl.kp h28 hw') hx30).mono (fun _ _ h => ⟨h.1, Kp.trans hw' h.2⟩)) ?_
      refine VQ_ge rfl rfl rfl hc25 ?_
      obtain ⟨v31, h33, h32⟩ := El_level_Clock h6
      refine VQ_y (fun w' hw' => Y_loadA (At.kp h33 hw' h6.2.1) Tryd.isAgg31 Tryd.sizeOf31 rfl) rfl rfl rfl ?_
      refine VQ_ge rfl rfl rfl hc25 ?_
      obtain ⟨x34, hx34, hs26⟩ := Option.bind_eq_some_iff.1 hs26
      refine VQ_call (.int .i64 x34) Tryd.call10 rfl rfl rfl rfl (fun w' hw' => (portref2_ClockFault_c w' (fun b hb => hA b (Nat.le_trans hw'.size hb)) c v31 (Sl.kp h32 hw') hx34).mono (fun _ _ h => ⟨h.1, Kp.trans hw' h.2⟩)) ?_
      refine VQ_ge rfl rfl rfl hc25 ?_
      refine VQ_y (fun w' hw' => Y_eql rfl rfl) rfl rfl rfl ?_
      refine VQ_y (fun _ _ => Y_pick_te rfl hc25 rfl) rfl rfl rfl ?_
      obtain rfl := Option.some.inj hs26
      exact VQ_end fun a ha => ⟨(), ha.sub ⟨rfl, trivial⟩, trivial⟩
    · rw [if_neg (nt hc25)] at hs26
      refine VQ_gn rfl rfl rfl hc25 rfl rfl rfl ?_
      refine VQ_gn rfl rfl rfl hc25 rfl rfl rfl ?_
      refine VQ_gn rfl rfl rfl hc25 rfl rfl rfl ?_
      refine VQ_gn rfl rfl rfl hc25 rfl rfl rfl ?_
      refine VQ_gn rfl rfl rfl hc25 rfl rfl rfl ?_
      refine VQ_y (fun _ _ => Y_pick_fe rfl hc25 rfl) rfl rfl rfl ?_
      obtain rfl := Option.some.inj hs26
      exact VQ_end fun a ha => ⟨(), ha.sub ⟨rfl, trivial⟩, trivial⟩
  simp only [List.take, List.drop]
  rintro _ _
  refine VQ_y (fun w' hw' => Y_assign rfl) rfl rfl rfl ?_
  refine VQ_to (fun _ _ => rfl) (fun w35 hk36 => ?_)
  have ht37 := Kp.tr hk36 hA hB
  replace hH := Hp.kp hH hk36
  replace hK := Tr.trans hK ht37
  replace hB := Nat.le_trans hB ht37.ex.size
  replace hA := ht37.new
  obtain rfl := Option.some.inj hm
  refine C_ret ?_
  try simp only [↓inBlock_ret, ↓then_ret]
  exact retQ rfl (Res.one Tryd.results4 rfl) ⟨rfl, hK.kp⟩

end Go.Proofs.YtkdkejikbcdadaaDoor.W
