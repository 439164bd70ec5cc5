/-
  Written by program (gen.py) from the IR of the dump: each function computes its model.
-/
import Derived.Test.YtebhdihfjeiadaaGreatDoorKnowWordsW1
namespace Go.Proofs.YtebhdihfjeiadaaGreatDoor.W
open Go Go.RowKit Go.Pu Go.Gw Go.Proofs Go.Proofs.YtebhdihfjeiadaaGreatDoor.M
set_option linter.unusedVariables false
set_option linter.unusedSimpArgs false
variable {Dw : Prop}

set_option maxRecDepth 4000 in
set_option maxHeartbeats 4000000 in
theorem portlaw2_KnowWords_c (w : World) {A : Nat → Prop} (hA : ∀ b, w.heap.size ≤ b → A b) (hT : Fz Tryz_FR A w) (s : ByteArray) {r : Bool} (hm : portlaw2_KnowWords s = some r) : Ret Tryz.prog 3 #[.string s] w fun v w' => v = .bool r ∧ Kp False w w' := by
  unfold portlaw2_KnowWords at hm
  refine enter Tryz.func3 rfl Tryz.ntmps3 rfl ?_
  have hA0 := hA
  have hB := Nat.le_refl w.heap.size
  have hK : Tr False w.heap.size A w A w := Tr.refl (Dw := False) hA
  have hH : Hp w.heap.size A w [] := Hp.nil
  refine C_seq ?_
  refine C_region ?_
  refine V_y (Y_assign rfl) rfl rfl rfl ?_
  refine V_to (fun _ _ => rfl) ?_
  refine C_seq ?_
  refine C_region ?_
  refine V_y (Y_move rfl) rfl rfl rfl ?_
  obtain ⟨x1, hx1, hm⟩ := Option.bind_eq_some_iff.1 hm
  refine V_call Tryz.call4 rfl rfl rfl rfl (portref2_WordsOf_c (Dw := False) w hA s hx1) ?_
  rintro v2 w4 ⟨_, rfl, h3, hk5⟩
  obtain ⟨A6, ht7, hH8⟩ := Hp.addOwnd (Dw := False) hH hB hA hk5 h3
  replace hK := Tr.trans (Dw := False) hK ht7
  replace hB := Nat.le_trans hB ht7.ex.size
  replace hA := ht7.new
  replace hH : Hp w.heap.size A6 w4 (obS (α := ByteArray) 9 v2 x1 :: []) := hH8
  refine V_y (Y_assign rfl) rfl rfl rfl ?_
  refine V_to (fun _ _ => rfl) ?_
  refine C_seq ?_
  refine C_seq ?_
  refine C_region ?_
  refine V_y (Y_move rfl) rfl rfl rfl ?_
  obtain ⟨x9, hx9, hm⟩ := Option.bind_eq_some_iff.1 hm
  refine V_call Tryz.call5 rfl rfl rfl rfl (slices_Clone_Lstring_string_c (Dw := False) w4 (A := fun _ => True) (fun _ _ => trivial) x1 v2 (Hp.any (α := ByteArray) (e := 9) (v := v2) (l := x1) hH (i := 0) rfl) hx9) ?_
  rintro v10 w12 ⟨_, rfl, h11, hk13⟩
  obtain ⟨A14, ht15, hH16⟩ := Hp.addOwnd (Dw := False) hH hB hA hk13 h11
  replace hK := Tr.trans (Dw := False) hK ht15
  replace hB := Nat.le_trans hB ht15.ex.size
  replace hA := ht15.new
  replace hH : Hp w.heap.size A14 w12 (obS (α := ByteArray) 9 v10 x9 :: obS (α := ByteArray) 9 v2 x1 :: []) := hH16
  refine V_y (Y_move rfl) rfl rfl rfl ?_
  refine V_buildSlice (Dw := False) (l := ([s] : List ByteArray)) (len := 1) Tryz.underlying22 Tryz.sizeOf9 Tryz.zeroValue9 rfl (by with_unfolding_all rfl) (show (1 * 1 : Nat) ≠ 0 by decide) (show (1 * 1 : Nat) ≤ 2 ^ 24 by decide) hA ⟨[.string s], _, rfl, rfl, rfl⟩ rfl rfl ?_
  intro v17 w18 hk20 h19
  have ht21 := Kp.tr (Dw := False) hk20 hA hB
  replace hH := Hp.kp (Dw := False) hH hk20
  replace hK := Tr.trans (Dw := False) hK ht21
  replace hB := Nat.le_trans hB ht21.ex.size
  replace hA := ht21.new
  obtain ⟨x22, hx22, hm⟩ := Option.bind_eq_some_iff.1 hm
  refine V_appendH (Dw := False) (e := 9) (v := v10) (l := x9) (ti := Tryz.t9) (bytes := 16) (lim := 8796093022208) hH (i := 0) rfl h19 hx22 Tryz.underlying22 Tryz_info9 rfl rfl rfl rfl (by decide) (by decide) (by decide) hB hA rfl rfl rfl ?_
  intro v23 w24 A25 hH26 ht27
  replace h19 := Sl.tr (Dw := False) h19 ht27
  replace hK := Tr.trans (Dw := False) hK ht27
  replace hB := Nat.le_trans hB ht27.ex.size
  replace hA := ht27.new
  replace hH : Hp w.heap.size A25 w24 (obS (α := ByteArray) 9 v23 x22 :: obS (α := ByteArray) 9 v2 x1 :: []) := hH26
  refine V_y (Y_lenSl (Hp.any (α := ByteArray) (e := 9) (v := v23) (l := x22) hH (i := 0) rfl) rfl Tryz.underlying22 rfl) rfl rfl rfl ?_
  refine V_y (Y_move rfl) rfl rfl rfl ?_
  refine V_to (fun _ _ => rfl) ?_
  have hn49 := Hp.le (α := ByteArray) (e := 9) (v := v23) (l := x22) hH (i := 0) rfl
  obtain ⟨o28, ho28, hm⟩ := Option.bind_eq_some_iff.1 hm
  refine C_cutG (ι := (Unit × (Nat → Prop))) (fun ⟨s29, A36⟩ => [(0, .string s), (3, v2)]) (fun ⟨s29, A36⟩ => fun w' => o28 = .fin s29 ∧ Hp w.heap.size A36 w' (obS (α := ByteArray) 9 v23 x22 :: obS (α := ByteArray) 9 v2 x1 :: []) ∧ Tr False w.heap.size A25 w24 A36 w') ?_ ?_
  · refine C_block ?_
    refine C_range ho28 (fun k31 _ a w' => ∃ i : (Nat → Prop), Has ⟨42, [], none⟩ a ([(0, .string s), (3, v2), (12, v23), (13, .int .i64 (x22.length : Int)), (14, .int .i64 (k31 : Int))]) ∧ Hp w.heap.size i w' (obS (α := ByteArray) 9 v23 x22 :: obS (α := ByteArray) 9 v2 x1 :: []) ∧ Tr False w.heap.size A25 w24 i w') (fun a ha => ⟨A25, ha.sub ⟨rfl, rfl, rfl, rfl, rfl, trivial⟩, ⟨hH, Tr.refl (Dw := False) hA⟩⟩) ?_
    rintro K k31 _ a w39 ⟨A40, ha64, hH41, hr30⟩ hle45 K48 h47
    refine C_of ?_ ha64
    replace hK := Tr.trans (Dw := False) hK hr30
    replace hB := Nat.le_trans hB hr30.ex.size
    replace hA := hr30.new
    replace hH : Hp w.heap.size A40 w39 (obS (α := ByteArray) 9 v23 x22 :: obS (α := ByteArray) 9 v2 x1 :: []) := hH41
    refine C_seq (C_region (V_y (Y_lss rfl rfl) rfl rfl rfl (V_to (fun _ _ => rfl) ?_)))
    refine C_seq ?_
    refine C_cond rfl (fun hc50 => ?_) (fun hc50 => ?_)
    · have hlt46 := lt_of_dec hc50
      obtain ⟨x42, h43, h44⟩ := K48 hlt46
      refine C_skip_to (fun _ _ => rfl) ?_
      refine C_seq ?_
      refine C_block ?_
      refine C_seq ?_
      refine C_region ?_
      obtain ⟨x51, hx51, h43⟩ := Option.bind_eq_some_iff.1 h43
      refine V_indexAddrH (α := ByteArray) (e := 9) (v := v23) (l := x22) hH (i := 0) rfl hx51 Tryz.underlying22 Tryz.sizeOf9 rfl rfl rfl ?_
      intro b52 o53 h54 hl55
      refine V_y (Y_load (El.str h54) Tryz.isAgg9 rfl) rfl rfl rfl ?_
      refine V_y (Y_assign rfl) rfl rfl rfl ?_
      refine V_to (fun _ _ => rfl) ?_
      refine C_seq ?_
      refine C_region ?_
      refine V_y (Y_move rfl) rfl rfl rfl ?_
      obtain ⟨x56, hx56, h43⟩ := Option.bind_eq_some_iff.1 h43
      refine V_call Tryz.call6 rfl rfl rfl rfl (know_Stem_c w39 x51 hx56) ?_
      rintro _ _ ⟨rfl, rfl⟩
      refine V_y (Y_move rfl) rfl rfl rfl ?_
      obtain ⟨x57, hx57, h43⟩ := Option.bind_eq_some_iff.1 h43
      refine V_call Tryz.call7 rfl rfl rfl rfl (portref2_StemOf_c w39 hA x51 hx57) ?_
      rintro _ w58 ⟨rfl, hk59⟩
      have ht60 := Kp.tr (Dw := False) hk59 hA hB
      replace hH := Hp.kp (Dw := False) hH hk59
      replace hK := Tr.trans (Dw := False) hK ht60
      replace hr30 := Tr.trans (Dw := False) hr30 ht60
      replace hB := Nat.le_trans hB ht60.ex.size
      replace hA := ht60.new
      refine V_y (Y_sneq rfl rfl) rfl rfl rfl ?_
      refine V_to (fun _ _ => rfl) ?_
      refine C_cond rfl (fun hc61 => ?_) (fun hc61 => ?_)
      · rw [if_pos hc61] at h43
        refine C_seq ?_
        refine C_region ?_
        refine V_y (Y_assign rfl) rfl rfl rfl ?_
        refine V_to (fun _ _ => rfl) ?_
        obtain rfl := Option.some.inj h43
        obtain rfl := (h44 : Lp.rt _ = _)
        rw [Lp.andThen_rt] at hm
        obtain rfl := Option.some.inj hm
        refine C_ret ?_
        try simp only [↓inBlock_ret, ↓then_ret]
        exact retQ rfl (Res.one Tryz.results3 rfl) ⟨rfl, hK.kp⟩
      · rw [if_neg (nt hc61)] at h43
        refine C_skip_to (fun _ _ => rfl) ?_
        refine C_region ?_
        refine V_y (Y_addI rfl rfl) rfl rfl rfl ?_
        refine V_y (Y_move rfl) rfl rfl rfl ?_
        obtain rfl := Option.some.inj h43
        refine V_end (fun a ha62 => ?_)
        exact ⟨(), hlt46, h44, ⟨A40, ha62.sub ⟨rfl, rfl, rfl, rfl, (congrArg (fun z => some (Value.int .i64 z)) (w64_succ hlt46 hn49)), trivial⟩, ⟨hH, hr30⟩⟩⟩
    · refine C_exit (fun a ha63 => ?_)
      exact ⟨((), A40), ha63.sub ⟨rfl, rfl, trivial⟩, ⟨(h47 (eq_of_dec hle45 hc50)).symm, hH, hr30⟩⟩
  rintro ⟨s29, A36⟩ w33 ⟨rfl, hH37, hk34⟩ a ha35
  rw [Lp.andThen_fin] at hm
  replace hK := Tr.trans (Dw := False) hK hk34
  replace hB := Nat.le_trans hB hk34.ex.size
  replace hA := hk34.new
  replace hH : Hp w.heap.size A36 w33 (obS (α := ByteArray) 9 v23 x22 :: obS (α := ByteArray) 9 v2 x1 :: []) := hH37
  refine C_at (n := ⟨42, [], none⟩) (fun _ _ => rfl) ?_ ha35
  refine C_seq ?_
  obtain ⟨s66, ho65, hm⟩ := Option.bind_eq_some_iff.1 hm
  refine C_cutG (ι := (Nat → Prop)) (fun (A71 : (Nat → Prop)) => [(2, .bool s66)]) (fun (A71 : (Nat → Prop)) => fun w' => Hp w.heap.size A71 w' (obS (α := ByteArray) 9 v23 x22 :: obS (α := ByteArray) 9 v2 x1 :: []) ∧ Tr False w.heap.size A36 w33 A71 w') ?_ ?_
  · have hr67 : Tr False w.heap.size A36 w33 A36 w33 := Tr.refl (Dw := False) hA
    refine C_region ?_
    refine V_y (Y_move rfl) rfl rfl rfl ?_
    obtain ⟨x73, hx73, ho65⟩ := Option.bind_eq_some_iff.1 ho65
    refine V_call Tryz.call9 rfl rfl rfl rfl (know_Words_c (Dw := False) w33 hA s hx73) ?_
    rintro v74 w76 ⟨_, rfl, h75, hk77⟩
    obtain ⟨A78, ht79, hH80⟩ := Hp.addOwnd (Dw := False) hH hB hA hk77 h75
    replace hK := Tr.trans (Dw := False) hK ht79
    replace hr67 := Tr.trans (Dw := False) hr67 ht79
    replace hB := Nat.le_trans hB ht79.ex.size
    replace hA := ht79.new
    replace hH : Hp w.heap.size A78 w76 (obS (α := ByteArray) 9 v74 x73 :: obS (α := ByteArray) 9 v23 x22 :: obS (α := ByteArray) 9 v2 x1 :: []) := hH80
    refine V_y (Y_move rfl) rfl rfl rfl ?_
    obtain ⟨x81, hx81, ho65⟩ := Option.bind_eq_some_iff.1 ho65
    refine V_call Tryz.call8 rfl rfl rfl rfl (slices_Equal_Lstring_string_c (Dw := False) w76 (A := fun _ => True) (fun _ _ => trivial) x73 v74 (Hp.any (α := ByteArray) (e := 9) (v := v74) (l := x73) hH (i := 0) rfl) x1 v2 (Hp.any (α := ByteArray) (e := 9) (v := v2) (l := x1) hH (i := 2) rfl) hx81) ?_
    rintro _ w82 ⟨rfl, hk83⟩
    have ht84 := Kp.tr (Dw := False) hk83 hA hB
    replace hH := Hp.kp (Dw := False) hH hk83
    replace hK := Tr.trans (Dw := False) hK ht84
    replace hr67 := Tr.trans (Dw := False) hr67 ht84
    replace hB := Nat.le_trans hB ht84.ex.size
    replace hA := ht84.new
    refine V_y (Y_move rfl) rfl rfl rfl ?_
    rcases Bool.eq_false_or_eq_true (x81) with hc85 | hc85
    · rw [if_pos hc85] at ho65
      refine V_ge rfl rfl rfl hc85 ?_
      refine V_y (Y_move rfl) rfl rfl rfl ?_
      refine V_ge rfl rfl rfl hc85 ?_
      obtain ⟨x86, hx86, ho65⟩ := Option.bind_eq_some_iff.1 ho65
      refine V_call Tryz.call11 rfl rfl rfl rfl (know_Links_c (Dw := False) w82 hA s hx86) ?_
      rintro v87 w89 ⟨_, rfl, h88, hk90⟩
      obtain ⟨A91, ht92, hH93⟩ := Hp.addOwnd (Dw := False) hH hB hA hk90 h88
      replace hK := Tr.trans (Dw := False) hK ht92
      replace hr67 := Tr.trans (Dw := False) hr67 ht92
      replace hB := Nat.le_trans hB ht92.ex.size
      replace hA := ht92.new
      replace hH : Hp w.heap.size A91 w89 (obS (α := Int) 3 v87 x86 :: obS (α := ByteArray) 9 v74 x73 :: obS (α := ByteArray) 9 v23 x22 :: obS (α := ByteArray) 9 v2 x1 :: []) := hH93
      refine V_ge rfl rfl rfl hc85 ?_
      refine V_y (Y_move rfl) rfl rfl rfl ?_
      refine V_ge rfl rfl rfl hc85 ?_
      obtain ⟨x94, hx94, ho65⟩ := Option.bind_eq_some_iff.1 ho65
      refine V_call Tryz.call12 rfl rfl rfl rfl (portref2_LinksOf_c w89 hA (Fz.tr (Dw := False) hT hK) s hx94) ?_
      rintro v95 w97 ⟨_, rfl, h96, hk98⟩
      obtain ⟨A99, ht100, hH101⟩ := Hp.addOwnd (Dw := False) hH hB hA hk98 h96
      replace hK := Tr.trans (Dw := False) hK ht100
      replace hr67 := Tr.trans (Dw := False) hr67 ht100
      replace hB := Nat.le_trans hB ht100.ex.size
      replace hA := ht100.new
      replace hH : Hp w.heap.size A99 w97 (obS (α := Int) 3 v95 x94 :: obS (α := Int) 3 v87 x86 :: obS (α := ByteArray) 9 v74 x73 :: obS (α := ByteArray) 9 v23 x22 :: obS (α := ByteArray) 9 v2 x1 :: []) := hH101
      refine V_ge rfl rfl rfl hc85 ?_
      obtain ⟨x102, hx102, ho65⟩ := Option.bind_eq_some_iff.1 ho65
      refine V_call Tryz.call10 rfl rfl rfl rfl (slices_Equal_Lint_int_c (Dw := False) w97 (A := fun _ => True) (fun _ _ => trivial) x86 v87 (Hp.any (α := Int) (e := 3) (v := v87) (l := x86) hH (i := 1) rfl) x94 v95 (Hp.any (α := Int) (e := 3) (v := v95) (l := x94) hH (i := 0) rfl) hx102) ?_
      rintro _ w103 ⟨rfl, hk104⟩
      have ht105 := Kp.tr (Dw := False) hk104 hA hB
      replace hH := Hp.kp (Dw := False) hH hk104
      replace hK := Tr.trans (Dw := False) hK ht105
      replace hr67 := Tr.trans (Dw := False) hr67 ht105
      replace hB := Nat.le_trans hB ht105.ex.size
      replace hA := ht105.new
      refine V_y (Y_pick_te rfl hc85 rfl) rfl rfl rfl ?_
      refine V_y (Y_move rfl) rfl rfl rfl ?_
      rcases Bool.eq_false_or_eq_true (x102) with hc106 | hc106
      · rw [if_pos hc106] at ho65
        refine V_ge rfl rfl rfl hc106 ?_
        refine V_y (Y_move rfl) rfl rfl rfl ?_
        refine V_ge rfl rfl rfl hc106 ?_
        obtain ⟨x107, hx107, ho65⟩ := Option.bind_eq_some_iff.1 ho65
        refine V_call Tryz.call13 rfl rfl rfl rfl (know_Quote_c w103 hA s hx107) ?_
        rintro _ w108 ⟨rfl, hk109⟩
        have ht110 := Kp.tr (Dw := False) hk109 hA hB
        replace hH := Hp.kp (Dw := False) hH hk109
        replace hK := Tr.trans (Dw := False) hK ht110
        replace hr67 := Tr.trans (Dw := False) hr67 ht110
        replace hB := Nat.le_trans hB ht110.ex.size
        replace hA := ht110.new
        refine V_ge rfl rfl rfl hc106 ?_
        refine V_y (Y_move rfl) rfl rfl rfl ?_
        refine V_ge rfl rfl rfl hc106 ?_
        obtain ⟨x111, hx111, ho65⟩ := Option.bind_eq_some_iff.1 ho65
        refine V_call Tryz.call14 rfl rfl rfl rfl (portref2_QuoteOf_c w108 hA s hx111) ?_
        rintro _ w112 ⟨rfl, hk113⟩
        have ht114 := Kp.tr (Dw := False) hk113 hA hB
        replace hH := Hp.kp (Dw := False) hH hk113
        replace hK := Tr.trans (Dw := False) hK ht114
        replace hr67 := Tr.trans (Dw := False) hr67 ht114
        replace hB := Nat.le_trans hB ht114.ex.size
        replace hA := ht114.new
        refine V_ge rfl rfl rfl hc106 ?_
        refine V_y (Y_seql rfl rfl) rfl rfl rfl ?_
        refine V_y (Y_pick_te rfl hc106 rfl) rfl rfl rfl ?_
        refine V_y (Y_assign rfl) rfl rfl rfl ?_
        obtain rfl := Option.some.inj ho65
        refine V_end (fun a ha115 => ?_)
        replace hH : Hp w.heap.size A99 w112 (obS (α := ByteArray) 9 v2 x1 :: obS (α := Int) 3 v95 x94 :: obS (α := Int) 3 v87 x86 :: obS (α := ByteArray) 9 v74 x73 :: obS (α := ByteArray) 9 v23 x22 :: []) := Hp.front hH (i := 4) rfl
        replace hH : Hp w.heap.size A99 w112 (obS (α := ByteArray) 9 v23 x22 :: obS (α := ByteArray) 9 v2 x1 :: obS (α := Int) 3 v95 x94 :: obS (α := Int) 3 v87 x86 :: obS (α := ByteArray) 9 v74 x73 :: []) := Hp.front hH (i := 4) rfl
        replace hH : Hp w.heap.size A99 w112 (obS (α := ByteArray) 9 v23 x22 :: obS (α := ByteArray) 9 v2 x1 :: obS (α := Int) 3 v87 x86 :: obS (α := ByteArray) 9 v74 x73 :: []) := Hp.drop hH (i := 2) rfl
        replace hH : Hp w.heap.size A99 w112 (obS (α := ByteArray) 9 v23 x22 :: obS (α := ByteArray) 9 v2 x1 :: obS (α := ByteArray) 9 v74 x73 :: []) := Hp.drop hH (i := 2) rfl
        replace hH : Hp w.heap.size A99 w112 (obS (α := ByteArray) 9 v23 x22 :: obS (α := ByteArray) 9 v2 x1 :: []) := Hp.drop hH (i := 2) rfl
        exact ⟨A99, ha115.sub ⟨rfl, trivial⟩, ⟨hH, hr67⟩⟩
      · rw [if_neg (nt hc106)] at ho65
        refine V_gn rfl rfl rfl hc106 rfl rfl rfl ?_
        refine V_gn rfl rfl rfl hc106 rfl rfl rfl ?_
        refine V_gn rfl rfl rfl hc106 rfl rfl rfl ?_
        refine V_gn rfl rfl rfl hc106 rfl rfl rfl ?_
        refine V_gn rfl rfl rfl hc106 rfl rfl rfl ?_
        refine V_y (Y_pick_fe rfl hc106 rfl) rfl rfl rfl ?_
        refine V_y (Y_assign rfl) rfl rfl rfl ?_
        obtain rfl := Option.some.inj ho65
        refine V_end (fun a ha116 => ?_)
        replace hH : Hp w.heap.size A99 w103 (obS (α := ByteArray) 9 v2 x1 :: obS (α := Int) 3 v95 x94 :: obS (α := Int) 3 v87 x86 :: obS (α := ByteArray) 9 v74 x73 :: obS (α := ByteArray) 9 v23 x22 :: []) := Hp.front hH (i := 4) rfl
        replace hH : Hp w.heap.size A99 w103 (obS (α := ByteArray) 9 v23 x22 :: obS (α := ByteArray) 9 v2 x1 :: obS (α := Int) 3 v95 x94 :: obS (α := Int) 3 v87 x86 :: obS (α := ByteArray) 9 v74 x73 :: []) := Hp.front hH (i := 4) rfl
        replace hH : Hp w.heap.size A99 w103 (obS (α := ByteArray) 9 v23 x22 :: obS (α := ByteArray) 9 v2 x1 :: obS (α := Int) 3 v87 x86 :: obS (α := ByteArray) 9 v74 x73 :: []) := Hp.drop hH (i := 2) rfl
        replace hH : Hp w.heap.size A99 w103 (obS (α := ByteArray) 9 v23 x22 :: obS (α := ByteArray) 9 v2 x1 :: obS (α := ByteArray) 9 v74 x73 :: []) := Hp.drop hH (i := 2) rfl
        replace hH : Hp w.heap.size A99 w103 (obS (α := ByteArray) 9 v23 x22 :: obS (α := ByteArray) 9 v2 x1 :: []) := Hp.drop hH (i := 2) rfl
        exact ⟨A99, ha116.sub ⟨rfl, trivial⟩, ⟨hH, hr67⟩⟩
    · rw [if_neg (nt hc85)] at ho65
      refine V_gn rfl rfl rfl hc85 rfl rfl rfl ?_
      refine V_gn rfl rfl rfl hc85 rfl rfl rfl ?_
      refine V_gn rfl rfl rfl hc85 rfl rfl rfl ?_
      refine V_gn rfl rfl rfl hc85 rfl rfl rfl ?_
      refine V_gn rfl rfl rfl hc85 rfl rfl rfl ?_
      refine V_y (Y_pick_fe rfl hc85 rfl) rfl rfl rfl ?_
      refine V_y (Y_move rfl) rfl rfl rfl ?_
      rcases Bool.eq_false_or_eq_true (false) with hc117 | hc117
      · rw [if_pos hc117] at ho65
        refine V_ge rfl rfl rfl hc117 ?_
        refine V_y (Y_move rfl) rfl rfl rfl ?_
        refine V_ge rfl rfl rfl hc117 ?_
        obtain ⟨x118, hx118, ho65⟩ := Option.bind_eq_some_iff.1 ho65
        refine V_call Tryz.call13 rfl rfl rfl rfl (know_Quote_c w82 hA s hx118) ?_
        rintro _ w119 ⟨rfl, hk120⟩
        have ht121 := Kp.tr (Dw := False) hk120 hA hB
        replace hH := Hp.kp (Dw := False) hH hk120
        replace hK := Tr.trans (Dw := False) hK ht121
        replace hr67 := Tr.trans (Dw := False) hr67 ht121
        replace hB := Nat.le_trans hB ht121.ex.size
        replace hA := ht121.new
        refine V_ge rfl rfl rfl hc117 ?_
        refine V_y (Y_move rfl) rfl rfl rfl ?_
        refine V_ge rfl rfl rfl hc117 ?_
        obtain ⟨x122, hx122, ho65⟩ := Option.bind_eq_some_iff.1 ho65
        refine V_call Tryz.call14 rfl rfl rfl rfl (portref2_QuoteOf_c w119 hA s hx122) ?_
        rintro _ w123 ⟨rfl, hk124⟩
        have ht125 := Kp.tr (Dw := False) hk124 hA hB
        replace hH := Hp.kp (Dw := False) hH hk124
        replace hK := Tr.trans (Dw := False) hK ht125
        replace hr67 := Tr.trans (Dw := False) hr67 ht125
        replace hB := Nat.le_trans hB ht125.ex.size
        replace hA := ht125.new
        refine V_ge rfl rfl rfl hc117 ?_
        refine V_y (Y_seql rfl rfl) rfl rfl rfl ?_
        refine V_y (Y_pick_te rfl hc117 rfl) rfl rfl rfl ?_
        refine V_y (Y_assign rfl) rfl rfl rfl ?_
        obtain rfl := Option.some.inj ho65
        refine V_end (fun a ha126 => ?_)
        replace hH : Hp w.heap.size A78 w123 (obS (α := ByteArray) 9 v2 x1 :: obS (α := ByteArray) 9 v74 x73 :: obS (α := ByteArray) 9 v23 x22 :: []) := Hp.front hH (i := 2) rfl
        replace hH : Hp w.heap.size A78 w123 (obS (α := ByteArray) 9 v23 x22 :: obS (α := ByteArray) 9 v2 x1 :: obS (α := ByteArray) 9 v74 x73 :: []) := Hp.front hH (i := 2) rfl
        replace hH : Hp w.heap.size A78 w123 (obS (α := ByteArray) 9 v23 x22 :: obS (α := ByteArray) 9 v2 x1 :: []) := Hp.drop hH (i := 2) rfl
        exact ⟨A78, ha126.sub ⟨rfl, trivial⟩, ⟨hH, hr67⟩⟩
      · rw [if_neg (nt hc117)] at ho65
        refine V_gn rfl rfl rfl hc117 rfl rfl rfl ?_
        refine V_gn rfl rfl rfl hc117 rfl rfl rfl ?_
        refine V_gn rfl rfl rfl hc117 rfl rfl rfl ?_
        refine V_gn rfl rfl rfl hc117 rfl rfl rfl ?_
        refine V_gn rfl rfl rfl hc117 rfl rfl rfl ?_
        refine V_y (Y_pick_fe rfl hc117 rfl) rfl rfl rfl ?_
        refine V_y (Y_assign rfl) rfl rfl rfl ?_
        obtain rfl := Option.some.inj ho65
        refine V_end (fun a ha127 => ?_)
        replace hH : Hp w.heap.size A78 w82 (obS (α := ByteArray) 9 v2 x1 :: obS (α := ByteArray) 9 v74 x73 :: obS (α := ByteArray) 9 v23 x22 :: []) := Hp.front hH (i := 2) rfl
        replace hH : Hp w.heap.size A78 w82 (obS (α := ByteArray) 9 v23 x22 :: obS (α := ByteArray) 9 v2 x1 :: obS (α := ByteArray) 9 v74 x73 :: []) := Hp.front hH (i := 2) rfl
        replace hH : Hp w.heap.size A78 w82 (obS (α := ByteArray) 9 v23 x22 :: obS (α := ByteArray) 9 v2 x1 :: []) := Hp.drop hH (i := 2) rfl
        exact ⟨A78, ha127.sub ⟨rfl, trivial⟩, ⟨hH, hr67⟩⟩
  rintro A71 w68 ⟨hH72, hk69⟩ a ha70
  replace hK := Tr.trans (Dw := False) hK hk69
  replace hB := Nat.le_trans hB hk69.ex.size
  replace hA := hk69.new
  replace hH : Hp w.heap.size A71 w68 (obS (α := ByteArray) 9 v23 x22 :: obS (α := ByteArray) 9 v2 x1 :: []) := hH72
  refine C_at (n := ⟨42, [], none⟩) (fun _ _ => rfl) ?_ ha70
  obtain rfl := Option.some.inj hm
  refine C_ret ?_
  try simp only [↓inBlock_ret, ↓then_ret]
  exact retQ rfl (Res.one Tryz.results3 rfl) ⟨rfl, hK.kp⟩

end Go.Proofs.YtebhdihfjeiadaaGreatDoor.W
