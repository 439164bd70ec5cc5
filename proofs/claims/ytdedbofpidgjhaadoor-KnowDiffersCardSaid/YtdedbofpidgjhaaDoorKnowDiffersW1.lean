/-
  Written by program (gen.py) from the IR of the dump: each function computes its model.
-/
import Derived.Test.YtdedbofpidgjhaaDoorKnowDiffersW0
namespace Go.Proofs.YtdedbofpidgjhaaDoor.W
open Go Go.RowKit Go.Pu Go.Gw Go.Proofs Go.Proofs.YtdedbofpidgjhaaDoor.M
set_option linter.unusedVariables false
set_option linter.unusedSimpArgs false
variable {Dw : Prop}

set_option maxRecDepth 4000 in
set_option maxHeartbeats 4000000 in
theorem portref2_DifferOf_c (w : World) {A : Nat → Prop} {B : Nat} (hB : B ≤ w.heap.size) (hA : ∀ b, w.heap.size ≤ b → A b) (hT : Mx Tryd.prog 0 A w) (a_ : ByteArray) (b : ByteArray) {L : List Ob} (hH : Hp B A w (L)) {r : ((List know_Edit) × Int)} (hm : portref2_DifferOf a_ b = some r) : Ret Tryd.prog 5 #[.string a_, .string b] w fun v w' => ∃ s0, ∃ A1 : Nat → Prop, v = .tuple #[s0, .int .i64 r.2] ∧ Hp B A1 w' (obS (α := know_Edit) 36 s0 r.1 :: L) ∧ Tr Dw B A w A1 w' := by
  unfold portref2_DifferOf at hm
  refine enter Tryd.func5 rfl Tryd.ntmps5 rfl ?_
  have hK : Tr Dw B A w A w := Tr.refl (Dw := Dw) hA
  refine C_seq ?_
  refine C_region ?_
  refine V_y (Y_assign rfl) rfl rfl rfl ?_
  refine V_y (Y_assign rfl) rfl rfl rfl ?_
  refine V_to (fun _ _ => rfl) ?_
  refine C_seq ?_
  refine C_seq ?_
  refine C_region ?_
  refine V_y (Y_move rfl) rfl rfl rfl ?_
  refine V_y (Y_move rfl) rfl rfl rfl ?_
  refine V_buildSlice (Dw := Dw) (l := ([a_, b] : List ByteArray)) (len := 2) Tryd.underlying30 Tryd.sizeOf9 Tryd.zeroValue9 rfl (by with_unfolding_all rfl) (show (2 * 1 : Nat) ≠ 0 by decide) (show (2 * 1 : Nat) ≤ 2 ^ 24 by decide) hA ⟨[.string a_], _, rfl, rfl, ⟨[.string b], _, rfl, rfl, rfl⟩⟩ rfl rfl ?_
  intro v1 w2 hk4 h3
  have ht5 := Kp.tr (Dw := Dw) hk4 hA hB
  replace hH := Hp.kp (Dw := Dw) hH hk4
  replace hK := Tr.trans (Dw := Dw) hK ht5
  replace hB := Nat.le_trans hB ht5.ex.size
  replace hA := ht5.new
  refine V_y (Y_lenSl h3 rfl Tryd.underlying30 rfl) rfl rfl rfl ?_
  refine V_y (Y_move rfl) rfl rfl rfl ?_
  refine V_to (fun _ _ => rfl) ?_
  have hn27 := Sl.le h3
  obtain ⟨o6, ho6, hm⟩ := Option.bind_eq_some_iff.1 hm
  refine C_cutG (ι := (Unit × (Nat → Prop))) (fun ⟨s7, A13⟩ => [(0, .string a_), (1, .string b)]) (fun ⟨s7, A13⟩ => fun w' => o6 = .fin s7 ∧ Hp B A13 w' (L) ∧ Tr Dw B A w2 A13 w') ?_ ?_
  · refine C_block ?_
    refine C_range ho6 (fun k9 _ a w' => ∃ i : (Nat → Prop), Has ⟨235, [], none⟩ a ([(0, .string a_), (1, .string b), (28, v1), (29, .int .i64 (([a_, b] : List ByteArray).length : Int)), (30, .int .i64 (k9 : Int))]) ∧ Hp B i w' (L) ∧ Tr Dw B A w2 i w') (fun a ha => ⟨A, ha.sub ⟨rfl, rfl, rfl, rfl, rfl, trivial⟩, ⟨hH, Tr.refl (Dw := Dw) hA⟩⟩) ?_
    rintro K k9 _ a w17 ⟨A18, ha40, hH19, hr8⟩ hle23 K26 h25
    refine C_of ?_ ha40
    replace h3 := Sl.tr (Dw := Dw) h3 hr8
    replace hK := Tr.trans (Dw := Dw) hK hr8
    replace hB := Nat.le_trans hB hr8.ex.size
    replace hA := hr8.new
    replace hH : Hp B A18 w17 (L) := hH19
    refine C_seq (C_region (V_y (Y_lss rfl rfl) rfl rfl rfl (V_to (fun _ _ => rfl) ?_)))
    refine C_seq ?_
    refine C_cond rfl (fun hc28 => ?_) (fun hc28 => ?_)
    · have hlt24 := lt_of_dec hc28
      obtain ⟨x20, h21, h22⟩ := K26 hlt24
      refine C_skip_to (fun _ _ => rfl) ?_
      refine C_seq ?_
      refine C_block ?_
      refine C_seq ?_
      refine C_region ?_
      obtain ⟨x29, hx29, h21⟩ := Option.bind_eq_some_iff.1 h21
      refine V_indexAddr h3 hx29 Tryd.underlying30 Tryd.sizeOf9 rfl rfl rfl ?_
      intro b30 o31 h32
      refine V_y (Y_load (El.str h32) Tryd.isAgg9 rfl) rfl rfl rfl ?_
      refine V_y (Y_assign rfl) rfl rfl rfl ?_
      refine V_to (fun _ _ => rfl) ?_
      refine C_seq ?_
      refine C_region ?_
      refine V_y (Y_move rfl) rfl rfl rfl ?_
      obtain ⟨x33, hx33, h21⟩ := Option.bind_eq_some_iff.1 h21
      refine V_call Tryd.call13 rfl rfl rfl rfl (portref2_bodyFault_c (Dw := Dw) w17 hA (Mx.tr (Dw := Dw) hT hK) x29 hx33) ?_
      rintro _ w34 ⟨rfl, hk35⟩
      have ht36 := Kp.tr (Dw := Dw) hk35 hA hB
      replace hH := Hp.kp (Dw := Dw) hH hk35
      replace h3 := Sl.tr (Dw := Dw) h3 ht36
      replace hK := Tr.trans (Dw := Dw) hK ht36
      replace hr8 := Tr.trans (Dw := Dw) hr8 ht36
      replace hB := Nat.le_trans hB ht36.ex.size
      replace hA := ht36.new
      refine V_y (Y_assign rfl) rfl rfl rfl ?_
      refine V_to (fun _ _ => rfl) ?_
      refine C_seq ?_
      refine C_region ?_
      refine V_y (Y_move rfl) rfl rfl rfl ?_
      refine V_y (Y_neq rfl rfl) rfl rfl rfl ?_
      refine V_to (fun _ _ => rfl) ?_
      refine C_cond rfl (fun hc37 => ?_) (fun hc37 => ?_)
      · rw [if_pos hc37] at h21
        refine C_seq ?_
        refine C_region ?_
        refine V_y (Y_move rfl) rfl rfl rfl ?_
        refine V_y (Y_assign rfl) rfl rfl rfl ?_
        refine V_y (Y_assign rfl) rfl rfl rfl ?_
        refine V_to (fun _ _ => rfl) ?_
        obtain rfl := Option.some.inj h21
        obtain rfl := (h22 : Lp.rt _ = _)
        rw [Lp.andThen_rt] at hm
        obtain rfl := Option.some.inj hm
        replace hH : Hp B A18 w34 (obS (α := know_Edit) 36 (.slice none 0 0) ([] : (List know_Edit)) :: L) := Hp.addNil (α := know_Edit) (e := 36) hH
        refine C_ret ?_
        try simp only [↓inBlock_ret, ↓then_ret]
        exact retQ rfl (Res.two Tryd.results5 rfl rfl) ⟨.slice none 0 0, A18, rfl, hH, hK⟩
      · rw [if_neg (nt hc37)] at h21
        refine C_skip_to (fun _ _ => rfl) ?_
        refine C_region ?_
        refine V_y (Y_addI rfl rfl) rfl rfl rfl ?_
        refine V_y (Y_move rfl) rfl rfl rfl ?_
        obtain rfl := Option.some.inj h21
        refine V_end (fun a ha38 => ?_)
        exact ⟨(), hlt24, h22, ⟨A18, ha38.sub ⟨rfl, rfl, rfl, rfl, (congrArg (fun z => some (Value.int .i64 z)) (w64_succ hlt24 hn27)), trivial⟩, ⟨hH, hr8⟩⟩⟩
    · refine C_exit (fun a ha39 => ?_)
      exact ⟨((), A18), ha39.sub ⟨rfl, rfl, trivial⟩, ⟨(h25 (eq_of_dec hle23 hc28)).symm, hH, hr8⟩⟩
  rintro ⟨s7, A13⟩ w10 ⟨rfl, hH14, hk11⟩ a ha12
  rw [Lp.andThen_fin] at hm
  replace hK := Tr.trans (Dw := Dw) hK hk11
  replace hB := Nat.le_trans hB hk11.ex.size
  replace hA := hk11.new
  replace hH : Hp B A13 w10 (L) := hH14
  refine C_at (n := ⟨235, [], none⟩) (fun _ _ => rfl) ?_ ha12
  refine C_seq ?_
  refine C_region ?_
  refine V_y (Y_move rfl) rfl rfl rfl ?_
  obtain ⟨x41, hx41, hm⟩ := Option.bind_eq_some_iff.1 hm
  refine V_call Tryd.call14 rfl rfl rfl rfl (portref2_bodyLines_c (Dw := Dw) w10 hA (Mx.tr (Dw := Dw) hT hK) a_ hx41) ?_
  rintro v42 w44 ⟨_, rfl, h43, hk45⟩
  have ht46 := Kp.tr (Dw := Dw) hk45 hA hB
  replace hH := Hp.kp (Dw := Dw) hH hk45
  replace hK := Tr.trans (Dw := Dw) hK ht46
  replace hB := Nat.le_trans hB ht46.ex.size
  replace hA := ht46.new
  refine V_y (Y_move rfl) rfl rfl rfl ?_
  obtain ⟨x47, hx47, hm⟩ := Option.bind_eq_some_iff.1 hm
  refine V_call Tryd.call14 rfl rfl rfl rfl (portref2_bodyLines_c (Dw := Dw) w44 hA (Mx.tr (Dw := Dw) hT hK) b hx47) ?_
  rintro v48 w50 ⟨_, rfl, h49, hk51⟩
  have ht52 := Kp.tr (Dw := Dw) hk51 hA hB
  replace hH := Hp.kp (Dw := Dw) hH hk51
  replace h43 := Sl.tr (Dw := Dw) h43 ht52
  replace hK := Tr.trans (Dw := Dw) hK ht52
  replace hB := Nat.le_trans hB ht52.ex.size
  replace hA := ht52.new
  refine V_y (Y_assign rfl) rfl rfl rfl ?_
  refine V_y (Y_assign rfl) rfl rfl rfl ?_
  refine V_to (fun _ _ => rfl) ?_
  refine C_seq ?_
  refine C_region ?_
  refine V_y (Y_move rfl) rfl rfl rfl ?_
  refine V_y (Y_lenSl h43 rfl Tryd.underlying30 rfl) rfl rfl rfl ?_
  refine V_y (Y_addI rfl rfl) rfl rfl rfl ?_
  obtain ⟨x53, hx53, hm⟩ := Option.bind_eq_some_iff.1 hm
  refine V_makeSS (Dw := Dw) (α := Int) (e := 38) (e2 := 3) (ti := Tryd.t38) hH hx53 rfl Tryd.underlying32 Tryd_info38 rfl rfl rfl (by decide) (by decide) hB hA rfl rfl rfl ?_
  intro v54 w55 A56 hH57 ht58
  replace h43 := Sl.tr (Dw := Dw) h43 ht58
  replace h49 := Sl.tr (Dw := Dw) h49 ht58
  replace hK := Tr.trans (Dw := Dw) hK ht58
  replace hB := Nat.le_trans hB ht58.ex.size
  replace hA := ht58.new
  replace hH : Hp B A56 w55 (obSS (α := Int) 38 3 v54 x53 :: L) := hH57
  refine V_y (Y_assign rfl) rfl rfl rfl ?_
  refine V_to (fun _ _ => rfl) ?_
  refine C_seq ?_
  refine C_seq ?_
  refine C_region ?_
  refine V_y (Y_move rfl) rfl rfl rfl ?_
  refine V_y (Y_lenSl (Hp.anySS (α := Int) (e := 38) (v := v54) (l := x53) hH (i := 0) rfl) rfl Tryd.underlying32 rfl) rfl rfl rfl ?_
  refine V_y (Y_move rfl) rfl rfl rfl ?_
  refine V_to (fun _ _ => rfl) ?_
  have hn83 := Hp.ssLe (α := Int) (e := 38) (e2 := 3) (v := v54) (l := x53) hH (i := 0) rfl
  obtain ⟨o59, ho59, hm⟩ := Option.bind_eq_some_iff.1 hm
  refine C_cutG (ι := ((List (List Int)) × Value × (Nat → Prop))) (fun ⟨s60, v66, A68⟩ => [(9, v42), (10, v48), (11, v66)]) (fun ⟨s60, v66, A68⟩ => fun w' => o59 = .fin s60 ∧ Hp B A68 w' (obSS (α := Int) 38 3 v66 s60 :: L) ∧ Tr Dw B A56 w55 A68 w') ?_ ?_
  · refine C_block ?_
    refine C_range ho59 (fun k62 s70 a w' => ∃ i : (Value × (Nat → Prop)), Has ⟨235, [], none⟩ a ([(9, v42), (10, v48), (11, i.1), (49, .int .i64 (x53.length : Int)), (50, .int .i64 (k62 : Int))]) ∧ Hp B i.2 w' (obSS (α := Int) 38 3 i.1 s70 :: L) ∧ Tr Dw B A56 w55 i.2 w') (fun a ha => ⟨(v54, A56), ha.sub ⟨rfl, rfl, rfl, rfl, rfl, trivial⟩, ⟨hH, Tr.refl (Dw := Dw) hA⟩⟩) ?_
    rintro K k62 s70 a w71 ⟨⟨v72, A74⟩, ha102, hH75, hr61⟩ hle79 K82 h81
    refine C_of ?_ ha102
    replace h43 := Sl.tr (Dw := Dw) h43 hr61
    replace h49 := Sl.tr (Dw := Dw) h49 hr61
    replace hK := Tr.trans (Dw := Dw) hK hr61
    replace hB := Nat.le_trans hB hr61.ex.size
    replace hA := hr61.new
    replace hH : Hp B A74 w71 (obSS (α := Int) 38 3 v72 s70 :: L) := hH75
    refine C_seq (C_region (V_y (Y_lss rfl rfl) rfl rfl rfl (V_to (fun _ _ => rfl) ?_)))
    refine C_seq ?_
    refine C_cond rfl (fun hc84 => ?_) (fun hc84 => ?_)
    · have hlt80 := lt_of_dec hc84
      obtain ⟨x76, h77, h78⟩ := K82 hlt80
      refine C_skip_to (fun _ _ => rfl) ?_
      refine C_seq ?_
      refine C_block ?_
      refine C_seq ?_
      refine C_region ?_
      refine V_y (Y_move rfl) rfl rfl rfl ?_
      refine V_y (Y_assign rfl) rfl rfl rfl ?_
      refine V_to (fun _ _ => rfl) ?_
      refine C_region ?_
      refine V_y (Y_move rfl) rfl rfl rfl ?_
      refine V_y (Y_move rfl) rfl rfl rfl ?_
      refine V_y (Y_move rfl) rfl rfl rfl ?_
      refine V_y (Y_lenSl h49 rfl Tryd.underlying30 rfl) rfl rfl rfl ?_
      refine V_y (Y_addI rfl rfl) rfl rfl rfl ?_
      obtain ⟨x85, hx85, h77⟩ := Option.bind_eq_some_iff.1 h77
      refine V_makeH (Dw := Dw) (e := 3) (ti := Tryd.t3) hH hx85 (fun _ _ => rfl) Tryd.underlying38 Tryd_info3 rfl rfl rfl (by decide) (by decide) hB hA rfl rfl rfl ?_
      intro v86 w87 A88 hH89 ht90
      replace h43 := Sl.tr (Dw := Dw) h43 ht90
      replace h49 := Sl.tr (Dw := Dw) h49 ht90
      replace hK := Tr.trans (Dw := Dw) hK ht90
      replace hr61 := Tr.trans (Dw := Dw) hr61 ht90
      replace hB := Nat.le_trans hB ht90.ex.size
      replace hA := ht90.new
      replace hH : Hp B A88 w87 (obS (α := Int) 3 v86 x85 :: obSS (α := Int) 38 3 v72 s70 :: L) := hH89
      obtain ⟨x91, hx91, h77⟩ := Option.bind_eq_some_iff.1 h77
      refine V_indexAddrSS (α := Int) (e := 38) (v := v72) (l := s70) hH (i := 1) rfl hx91 Tryd.underlying32 Tryd.sizeOf38 rfl rfl rfl ?_
      intro b92 o93 h94 hl95
      replace hH : Hp B A88 w87 (obSS (α := Int) 38 3 v72 s70 :: obS (α := Int) 3 v86 x85 :: L) := Hp.front hH (i := 1) rfl
      obtain ⟨x96, hx96, h77⟩ := Option.bind_eq_some_iff.1 h77
      refine V_storeSN (Dw := Dw) (α := Int) (e := 38) (e2 := 3) (v := v72) (l := s70) (ix := (k62 : Int)) (nv := v86) (c' := x85) hH hl95 hx96 Tryd.sizeOf38 rfl hB hA rfl rfl ?_
      intro w97 hH98 ht99
      replace h43 := Sl.tr (Dw := Dw) h43 ht99
      replace h49 := Sl.tr (Dw := Dw) h49 ht99
      replace hK := Tr.trans (Dw := Dw) hK ht99
      replace hr61 := Tr.trans (Dw := Dw) hr61 ht99
      replace hB := Nat.le_trans hB ht99.ex.size
      replace hA := ht99.new
      replace hH : Hp B A88 w97 (obSS (α := Int) 38 3 v72 x96 :: L) := hH98
      refine V_to (fun _ _ => rfl) ?_
      refine C_region ?_
      refine V_y (Y_addI rfl rfl) rfl rfl rfl ?_
      refine V_y (Y_move rfl) rfl rfl rfl ?_
      obtain rfl := Option.some.inj h77
      refine V_end (fun a ha100 => ?_)
      exact ⟨x96, hlt80, h78, ⟨(v72, A88), ha100.sub ⟨rfl, rfl, rfl, rfl, (congrArg (fun z => some (Value.int .i64 z)) (w64_succ hlt80 hn83)), trivial⟩, ⟨hH, hr61⟩⟩⟩
    · refine C_exit (fun a ha101 => ?_)
      exact ⟨(s70, v72, A74), ha101.sub ⟨rfl, rfl, rfl, trivial⟩, ⟨(h81 (eq_of_dec hle79 hc84)).symm, hH, hr61⟩⟩
  rintro ⟨s60, v66, A68⟩ w63 ⟨rfl, hH69, hk64⟩ a ha65
  rw [Lp.andThen_fin] at hm
  replace h43 := Sl.tr (Dw := Dw) h43 hk64
  replace h49 := Sl.tr (Dw := Dw) h49 hk64
  replace hK := Tr.trans (Dw := Dw) hK hk64
  replace hB := Nat.le_trans hB hk64.ex.size
  replace hA := hk64.new
  replace hH : Hp B A68 w63 (obSS (α := Int) 38 3 v66 s60 :: L) := hH69
  refine C_at (n := ⟨235, [], none⟩) (fun _ _ => rfl) ?_ ha65
  refine C_seq ?_
  refine C_seq ?_
  refine C_region ?_
  refine V_y (Y_move rfl) rfl rfl rfl ?_
  refine V_y (Y_lenSl h43 rfl Tryd.underlying30 rfl) rfl rfl rfl ?_
  refine V_y (Y_subI rfl rfl) rfl rfl rfl ?_
  refine V_y (Y_assign rfl) rfl rfl rfl ?_
  refine V_to (fun _ _ => rfl) ?_
  obtain ⟨o103, ho103, hm⟩ := Option.bind_eq_some_iff.1 hm
  refine C_cutG (ι := (((List (List Int)) × Int) × Value × (Nat → Prop))) (fun ⟨s104, v110, A112⟩ => [(9, v42), (10, v48), (11, v110)]) (fun ⟨s104, v110, A112⟩ => fun w' => o103 = .fin s104 ∧ Hp B A112 w' (obSS (α := Int) 38 3 v110 s104.1 :: L) ∧ Tr Dw B A68 w63 A112 w') ?_ ?_
  · refine C_block ?_
    refine C_while ho103 (fun s114 a w' => ∃ i : (Value × (Nat → Prop)), Has ⟨235, [], none⟩ a ([(9, v42), (10, v48), (11, i.1), (13, .int .i64 s114.2)]) ∧ Hp B i.2 w' (obSS (α := Int) 38 3 i.1 s114.1 :: L) ∧ Tr Dw B A68 w63 i.2 w') (fun a ha => ⟨(v66, A68), ha.sub ⟨rfl, rfl, rfl, rfl, trivial⟩, ⟨hH, Tr.refl (Dw := Dw) hA⟩⟩) ?_
    rintro K s114 a w115 ⟨⟨v116, A118⟩, ha291, hH119, hr105⟩ K126
    refine C_of ?_ ha291
    replace h43 := Sl.tr (Dw := Dw) h43 hr105
    replace h49 := Sl.tr (Dw := Dw) h49 hr105
    replace hK := Tr.trans (Dw := Dw) hK hr105
    replace hB := Nat.le_trans hB hr105.ex.size
    replace hA := hr105.new
    replace hH : Hp B A118 w115 (obSS (α := Int) 38 3 v116 s114.1 :: L) := hH119
    obtain ⟨x120, h121, h122⟩ := K126
    refine C_seq ?_
    refine C_seq ?_
    refine C_region ?_
    refine V_y (Y_move rfl) rfl rfl rfl ?_
    refine V_y (Y_geq rfl rfl) rfl rfl rfl ?_
    refine V_to (fun _ _ => rfl) ?_
    refine C_cond rfl (fun hc127 => ?_) (fun hc127 => ?_)
    · rw [if_pos hc127] at h121
      refine C_skip_to (fun _ _ => rfl) ?_
      refine C_seq ?_
      obtain ⟨s129, ho128, h121⟩ := Option.bind_eq_some_iff.1 h121
      refine C_cutG (ι := (Value × (Nat → Prop))) (fun ⟨v131, A136⟩ => [(9, v42), (10, v48), (11, v131), (13, .int .i64 s114.2)]) (fun ⟨v131, A136⟩ => fun w' => Hp B A136 w' (obSS (α := Int) 38 3 v131 s129 :: L) ∧ Tr Dw B A118 w115 A136 w') ?_ ?_
      · have hr130 : Tr Dw B A118 w115 A118 w115 := Tr.refl (Dw := Dw) hA
        refine C_block ?_
        refine C_seq ?_
        refine C_region ?_
        refine V_y (Y_move rfl) rfl rfl rfl ?_
        refine V_y (Y_lenSl h49 rfl Tryd.underlying30 rfl) rfl rfl rfl ?_
        refine V_y (Y_subI rfl rfl) rfl rfl rfl ?_
        refine V_y (Y_assign rfl) rfl rfl rfl ?_
        refine V_to (fun _ _ => rfl) ?_
        obtain ⟨o138, ho138, ho128⟩ := Option.bind_eq_some_iff.1 ho128
        refine C_cutG (ι := (((List (List Int)) × Int) × Value × (Nat → Prop))) (fun ⟨s139, v145, A147⟩ => [(9, v42), (10, v48), (11, v145), (13, .int .i64 s114.2)]) (fun ⟨s139, v145, A147⟩ => fun w' => o138 = .fin s139 ∧ Hp B A147 w' (obSS (α := Int) 38 3 v145 s139.1 :: L) ∧ Tr Dw B A118 w115 A147 w') ?_ ?_
        · refine C_block ?_
          refine C_while ho138 (fun s149 a w' => ∃ i : (Value × (Nat → Prop)), Has ⟨235, [], none⟩ a ([(9, v42), (10, v48), (11, i.1), (13, .int .i64 s114.2), (14, .int .i64 s149.2)]) ∧ Hp B i.2 w' (obSS (α := Int) 38 3 i.1 s149.1 :: L) ∧ Tr Dw B A118 w115 i.2 w') (fun a ha => ⟨(v116, A118), ha.sub ⟨rfl, rfl, rfl, rfl, rfl, trivial⟩, ⟨hH, Tr.refl (Dw := Dw) hA⟩⟩) ?_
          rintro K s149 a w150 ⟨⟨v151, A153⟩, ha287, hH154, hr140⟩ K161
          refine C_of ?_ ha287
          replace h43 := Sl.tr (Dw := Dw) h43 hr140
          replace h49 := Sl.tr (Dw := Dw) h49 hr140
          replace hK := Tr.trans (Dw := Dw) hK hr140
          replace hr105 := Tr.trans (Dw := Dw) hr105 hr140
          replace hr130 := Tr.trans (Dw := Dw) hr130 hr140
          replace hB := Nat.le_trans hB hr140.ex.size
          replace hA := hr140.new
          replace hH : Hp B A153 w150 (obSS (α := Int) 38 3 v151 s149.1 :: L) := hH154
          obtain ⟨x155, h156, h157⟩ := K161
          refine C_seq ?_
          refine C_seq ?_
          refine C_region ?_
          refine V_y (Y_move rfl) rfl rfl rfl ?_
          refine V_y (Y_geq rfl rfl) rfl rfl rfl ?_
          refine V_to (fun _ _ => rfl) ?_
          refine C_cond rfl (fun hc162 => ?_) (fun hc162 => ?_)
          · rw [if_pos hc162] at h156
            refine C_skip_to (fun _ _ => rfl) ?_
            refine C_seq ?_
            obtain ⟨s164, ho163, h156⟩ := Option.bind_eq_some_iff.1 h156
            refine C_cutG (ι := (Value × (Nat → Prop))) (fun ⟨v166, A171⟩ => [(9, v42), (10, v48), (11, v166), (13, .int .i64 s114.2), (14, .int .i64 s149.2)]) (fun ⟨v166, A171⟩ => fun w' => Hp B A171 w' (obSS (α := Int) 38 3 v166 s164 :: L) ∧ Tr Dw B A153 w150 A171 w') ?_ ?_
            · have hr165 : Tr Dw B A153 w150 A153 w150 := Tr.refl (Dw := Dw) hA
              refine C_block ?_
              refine C_seq ?_
              obtain ⟨vs173, hl174, hH⟩ := Hp.ssOpen (α := Int) (e := 38) (e2 := 3) (v := v151) (l := s149.1) hH (i := 0) rfl
              replace hH : Hp B A153 w150 (obS (α := Sv) 38 v151 vs173 :: obZ (α := Int) 3 vs173 s149.1 :: L) := hH
              refine C_region_qt (Dw := Dw) 23 Tryd_mixed (by kernel_rfl) ?_
              simp only [List.take, List.drop]
              refine VQ_y (fun w' hw' => Y_move rfl) rfl rfl rfl ?_
              refine VQ_y (fun w' hw' => Y_move rfl) rfl rfl rfl ?_
              obtain ⟨x175, hx175, ho163⟩ := Option.bind_eq_some_iff.1 ho163
              obtain ⟨y180, hy181⟩ := ssIdx hx175 hl174
              refine VQ_indexAddrH (α := Sv) (e := 38) (v := v151) (l := vs173) hH (i := 0) rfl hy181 Tryd.underlying32 Tryd.sizeOf38 rfl rfl rfl ?_
              intro b176 o177 h178 hl179
              have h182 : Sl (α := Int) (fun _ => True) w150 y180.v x175 := (Hp.zTake hH (i := 1) rfl hx175 hy181).any (i := 0) rfl
              refine VQ_y (fun w' hw' => Y_load (El.sv (El.kp (Dw := Dw) h178 hw')) Tryd.isAgg38 rfl) rfl rfl rfl ?_
              refine VQ_y (fun w' hw' => Y_move rfl) rfl rfl rfl ?_
              refine VQ_y (fun w' hw' => Y_move rfl) rfl rfl rfl ?_
              refine VQ_y (fun w' hw' => Y_move rfl) rfl rfl rfl ?_
              refine VQ_y (fun w' hw' => Y_addI rfl rfl) rfl rfl rfl ?_
              obtain ⟨x183, hx183, ho163⟩ := Option.bind_eq_some_iff.1 ho163
              obtain ⟨y188, hy189⟩ := ssIdx hx183 hl174
              refine VQ_indexAddrH (α := Sv) (e := 38) (v := v151) (l := vs173) hH (i := 0) rfl hy189 Tryd.underlying32 Tryd.sizeOf38 rfl rfl rfl ?_
              intro b184 o185 h186 hl187
              have h190 : Sl (α := Int) (fun _ => True) w150 y188.v x183 := (Hp.zTake hH (i := 1) rfl hx183 hy189).any (i := 0) rfl
              refine VQ_y (fun w' hw' => Y_load (El.sv (El.kp (Dw := Dw) h186 hw')) Tryd.isAgg38 rfl) rfl rfl rfl ?_
              refine VQ_y (fun w' hw' => Y_move rfl) rfl rfl rfl ?_
              obtain ⟨x191, hx191, ho163⟩ := Option.bind_eq_some_iff.1 ho163
              refine VQ_indexAddr h190 hx191 Tryd.underlying38 Tryd.sizeOf3 rfl rfl rfl ?_
              intro b192 o193 h194
              refine VQ_y (fun w' hw' => Y_load (El.int (El.kp (Dw := Dw) h194 hw')) Tryd.isAgg3 rfl) rfl rfl rfl ?_
              refine VQ_y (fun w' hw' => Y_move rfl) rfl rfl rfl ?_
              refine VQ_y (fun w' hw' => Y_move rfl) rfl rfl rfl ?_
              refine VQ_indexAddrH (α := Sv) (e := 38) (v := v151) (l := vs173) hH (i := 0) rfl hy181 Tryd.underlying32 Tryd.sizeOf38 rfl rfl rfl ?_
              intro b195 o196 h197 hl198
              have h199 : Sl (α := Int) (fun _ => True) w150 y180.v x175 := (Hp.zTake hH (i := 1) rfl hx175 hy181).any (i := 0) rfl
              refine VQ_y (fun w' hw' => Y_load (El.sv (El.kp (Dw := Dw) h197 hw')) Tryd.isAgg38 rfl) rfl rfl rfl ?_
              refine VQ_y (fun w' hw' => Y_move rfl) rfl rfl rfl ?_
              refine VQ_y (fun w' hw' => Y_addI rfl rfl) rfl rfl rfl ?_
              obtain ⟨x200, hx200, ho163⟩ := Option.bind_eq_some_iff.1 ho163
              refine VQ_indexAddr h199 hx200 Tryd.underlying38 Tryd.sizeOf3 rfl rfl rfl ?_
              intro b201 o202 h203
              refine VQ_y (fun w' hw' => Y_load (El.int (El.kp (Dw := Dw) h203 hw')) Tryd.isAgg3 rfl) rfl rfl rfl ?_
              refine VQ_y (fun w' hw' => Y_max2 rfl rfl) rfl rfl rfl ?_
              obtain ⟨x204, hx204, ho163⟩ := Option.bind_eq_some_iff.1 ho163
              replace hH : Hp B A153 w150 (obS (α := Int) 3 y180.v x175 :: obS (α := Sv) 38 v151 vs173 :: obZX (α := Int) 3 vs173 s149.1 (Int.toNat s114.2) :: L) := Hp.zTake hH (i := 1) rfl hx175 hy181
              refine VQ_indexAddrH (α := Int) (e := 3) (v := y180.v) (l := x175) hH (i := 0) rfl hx204 Tryd.underlying38 Tryd.sizeOf3 rfl rfl rfl ?_
              intro b205 o206 h207 hl208
              refine VQ_tail (fun w209 hk210 => ?_)
              try simp only [List.take, List.drop]
              have ht211 := Kp.tr (Dw := Dw) hk210 hA hB
              replace hH := Hp.kp (Dw := Dw) hH hk210
              replace h43 := Sl.tr (Dw := Dw) h43 ht211
              replace h49 := Sl.tr (Dw := Dw) h49 ht211
              replace h178 := El.kp (Dw := Dw) h178 hk210
              replace h182 := Sl.kp (Dw := Dw) h182 hk210
              replace h186 := El.kp (Dw := Dw) h186 hk210
              replace h190 := Sl.kp (Dw := Dw) h190 hk210
              replace h194 := El.kp (Dw := Dw) h194 hk210
              replace h197 := El.kp (Dw := Dw) h197 hk210
              replace h199 := Sl.kp (Dw := Dw) h199 hk210
              replace h203 := El.kp (Dw := Dw) h203 hk210
              replace h207 := El.kp (Dw := Dw) h207 hk210
              replace hK := Tr.trans (Dw := Dw) hK ht211
              replace hr105 := Tr.trans (Dw := Dw) hr105 ht211
              replace hr130 := Tr.trans (Dw := Dw) hr130 ht211
              replace hr140 := Tr.trans (Dw := Dw) hr140 ht211
              replace hr165 := Tr.trans (Dw := Dw) hr165 ht211
              replace hB := Nat.le_trans hB ht211.ex.size
              replace hA := ht211.new
              obtain ⟨x212, hx212, ho163⟩ := Option.bind_eq_some_iff.1 ho163
              refine V_storeH (Dw := Dw) (α := Int) (e := 3) (v := y180.v) (l := x175) hH (i := 0) rfl hl208 hx212 rfl Tryd.sizeOf3 rfl hB hA rfl rfl ?_
              intro w213 hH214 ht215
              replace h43 := Sl.tr (Dw := Dw) h43 ht215
              replace h49 := Sl.tr (Dw := Dw) h49 ht215
              replace hK := Tr.trans (Dw := Dw) hK ht215
              replace hr105 := Tr.trans (Dw := Dw) hr105 ht215
              replace hr130 := Tr.trans (Dw := Dw) hr130 ht215
              replace hr140 := Tr.trans (Dw := Dw) hr140 ht215
              replace hr165 := Tr.trans (Dw := Dw) hr165 ht215
              replace hB := Nat.le_trans hB ht215.ex.size
              replace hA := ht215.new
              replace hH : Hp B A153 w213 (obS (α := Int) 3 y180.v x212 :: obS (α := Sv) 38 v151 vs173 :: obZX (α := Int) 3 vs173 s149.1 (Int.toNat s114.2) :: L) := hH214
              obtain ⟨x216, hx216, ho163⟩ := Option.bind_eq_some_iff.1 ho163
              replace hH : Hp B A153 w213 (obSS (α := Int) 38 3 v151 x216 :: L) := Hp.ssBackW (ix := s114.2) (y := y180) hH (i := 2) (j := 0) (k := 0) rfl rfl rfl hx175 hy181 hl174 hx216
              refine V_to (fun _ _ => rfl) ?_
              refine C_seq ?_
              refine C_region_q (Dw := Dw) Tryd_mixed (by kernel_rfl) ?_
              refine VQ_y (fun w' hw' => Y_move rfl) rfl rfl rfl ?_
              refine VQ_y (fun w' hw' => Y_move rfl) rfl rfl rfl ?_
              obtain ⟨x217, hx217, ho163⟩ := Option.bind_eq_some_iff.1 ho163
              refine VQ_indexAddr h43 hx217 Tryd.underlying30 Tryd.sizeOf9 rfl rfl rfl ?_
              intro b218 o219 h220
              refine VQ_y (fun w' hw' => Y_load (El.str (El.kp (Dw := Dw) h220 hw')) Tryd.isAgg9 rfl) rfl rfl rfl ?_
              refine VQ_y (fun w' hw' => Y_move rfl) rfl rfl rfl ?_
              refine VQ_y (fun w' hw' => Y_move rfl) rfl rfl rfl ?_
              obtain ⟨x221, hx221, ho163⟩ := Option.bind_eq_some_iff.1 ho163
              refine VQ_indexAddr h49 hx221 Tryd.underlying30 Tryd.sizeOf9 rfl rfl rfl ?_
              intro b222 o223 h224
              refine VQ_y (fun w' hw' => Y_load (El.str (El.kp (Dw := Dw) h224 hw')) Tryd.isAgg9 rfl) rfl rfl rfl ?_
              refine VQ_y (fun w' hw' => Y_seql rfl rfl) rfl rfl rfl ?_
              refine VQ_to (fun _ _ => rfl) (fun w225 hk226 => ?_)
              have ht227 := Kp.tr (Dw := Dw) hk226 hA hB
              replace hH := Hp.kp (Dw := Dw) hH hk226
              replace h43 := Sl.tr (Dw := Dw) h43 ht227
              replace h49 := Sl.tr (Dw := Dw) h49 ht227
              replace hK := Tr.trans (Dw := Dw) hK ht227
              replace hr105 := Tr.trans (Dw := Dw) hr105 ht227
              replace hr130 := Tr.trans (Dw := Dw) hr130 ht227
              replace hr140 := Tr.trans (Dw := Dw) hr140 ht227
              replace hr165 := Tr.trans (Dw := Dw) hr165 ht227
              replace hB := Nat.le_trans hB ht227.ex.size
              replace hA := ht227.new
              obtain ⟨s229, ho228, ho163⟩ := Option.bind_eq_some_iff.1 ho163
              refine C_cutG (ι := (Value × (Nat → Prop))) (fun ⟨v231, A236⟩ => [(9, v42), (10, v48), (11, v231), (13, .int .i64 s114.2), (14, .int .i64 s149.2)]) (fun ⟨v231, A236⟩ => fun w' => Hp B A236 w' (obSS (α := Int) 38 3 v231 s229 :: L) ∧ Tr Dw B A153 w225 A236 w') ?_ ?_
              · have hr230 : Tr Dw B A153 w225 A153 w225 := Tr.refl (Dw := Dw) hA
                refine C_cond rfl (fun hc238 => ?_) (fun hc238 => ?_)
                · rw [if_pos hc238] at ho228
                  obtain ⟨vs239, hl240, hH⟩ := Hp.ssOpen (α := Int) (e := 38) (e2 := 3) (v := v151) (l := x216) hH (i := 0) rfl
                  replace hH : Hp B A153 w225 (obS (α := Sv) 38 v151 vs239 :: obZ (α := Int) 3 vs239 x216 :: L) := hH
                  refine C_region_qt (Dw := Dw) 24 Tryd_mixed (by kernel_rfl) ?_
                  simp only [List.take, List.drop]
                  refine VQ_y (fun w' hw' => Y_move rfl) rfl rfl rfl ?_
                  refine VQ_y (fun w' hw' => Y_move rfl) rfl rfl rfl ?_
                  obtain ⟨x241, hx241, ho228⟩ := Option.bind_eq_some_iff.1 ho228
                  obtain ⟨y246, hy247⟩ := ssIdx hx241 hl240
                  refine VQ_indexAddrH (α := Sv) (e := 38) (v := v151) (l := vs239) hH (i := 0) rfl hy247 Tryd.underlying32 Tryd.sizeOf38 rfl rfl rfl ?_
                  intro b242 o243 h244 hl245
                  have h248 : Sl (α := Int) (fun _ => True) w225 y246.v x241 := (Hp.zTake hH (i := 1) rfl hx241 hy247).any (i := 0) rfl
                  refine VQ_y (fun w' hw' => Y_load (El.sv (El.kp (Dw := Dw) h244 hw')) Tryd.isAgg38 rfl) rfl rfl rfl ?_
                  refine VQ_y (fun w' hw' => Y_move rfl) rfl rfl rfl ?_
                  refine VQ_y (fun w' hw' => Y_move rfl) rfl rfl rfl ?_
                  refine VQ_y (fun w' hw' => Y_move rfl) rfl rfl rfl ?_
                  refine VQ_indexAddrH (α := Sv) (e := 38) (v := v151) (l := vs239) hH (i := 0) rfl hy247 Tryd.underlying32 Tryd.sizeOf38 rfl rfl rfl ?_
                  intro b249 o250 h251 hl252
                  have h253 : Sl (α := Int) (fun _ => True) w225 y246.v x241 := (Hp.zTake hH (i := 1) rfl hx241 hy247).any (i := 0) rfl
                  refine VQ_y (fun w' hw' => Y_load (El.sv (El.kp (Dw := Dw) h251 hw')) Tryd.isAgg38 rfl) rfl rfl rfl ?_
                  refine VQ_y (fun w' hw' => Y_move rfl) rfl rfl rfl ?_
                  obtain ⟨x254, hx254, ho228⟩ := Option.bind_eq_some_iff.1 ho228
                  refine VQ_indexAddr h253 hx254 Tryd.underlying38 Tryd.sizeOf3 rfl rfl rfl ?_
                  intro b255 o256 h257
                  refine VQ_y (fun w' hw' => Y_load (El.int (El.kp (Dw := Dw) h257 hw')) Tryd.isAgg3 rfl) rfl rfl rfl ?_
                  refine VQ_y (fun w' hw' => Y_move rfl) rfl rfl rfl ?_
                  refine VQ_y (fun w' hw' => Y_move rfl) rfl rfl rfl ?_
                  refine VQ_y (fun w' hw' => Y_addI rfl rfl) rfl rfl rfl ?_
                  obtain ⟨x258, hx258, ho228⟩ := Option.bind_eq_some_iff.1 ho228
                  obtain ⟨y263, hy264⟩ := ssIdx hx258 hl240
                  refine VQ_indexAddrH (α := Sv) (e := 38) (v := v151) (l := vs239) hH (i := 0) rfl hy264 Tryd.underlying32 Tryd.sizeOf38 rfl rfl rfl ?_
                  intro b259 o260 h261 hl262
                  have h265 : Sl (α := Int) (fun _ => True) w225 y263.v x258 := (Hp.zTake hH (i := 1) rfl hx258 hy264).any (i := 0) rfl
                  refine VQ_y (fun w' hw' => Y_load (El.sv (El.kp (Dw := Dw) h261 hw')) Tryd.isAgg38 rfl) rfl rfl rfl ?_
                  refine VQ_y (fun w' hw' => Y_move rfl) rfl rfl rfl ?_
                  refine VQ_y (fun w' hw' => Y_addI rfl rfl) rfl rfl rfl ?_
                  obtain ⟨x266, hx266, ho228⟩ := Option.bind_eq_some_iff.1 ho228
                  refine VQ_indexAddr h265 hx266 Tryd.underlying38 Tryd.sizeOf3 rfl rfl rfl ?_
                  intro b267 o268 h269
                  refine VQ_y (fun w' hw' => Y_load (El.int (El.kp (Dw := Dw) h269 hw')) Tryd.isAgg3 rfl) rfl rfl rfl ?_
                  refine VQ_y (fun w' hw' => Y_addI rfl rfl) rfl rfl rfl ?_
                  refine VQ_y (fun w' hw' => Y_max2 rfl rfl) rfl rfl rfl ?_
                  replace hH : Hp B A153 w225 (obS (α := Int) 3 y246.v x241 :: obS (α := Sv) 38 v151 vs239 :: obZX (α := Int) 3 vs239 x216 (Int.toNat s114.2) :: L) := Hp.zTake hH (i := 1) rfl hx241 hy247
                  refine VQ_indexAddrH (α := Int) (e := 3) (v := y246.v) (l := x241) hH (i := 0) rfl hx254 Tryd.underlying38 Tryd.sizeOf3 rfl rfl rfl ?_
                  intro b270 o271 h272 hl273
                  refine VQ_tail (fun w274 hk275 => ?_)
                  try simp only [List.take, List.drop]
                  have ht276 := Kp.tr (Dw := Dw) hk275 hA hB
                  replace hH := Hp.kp (Dw := Dw) hH hk275
                  replace h43 := Sl.tr (Dw := Dw) h43 ht276
                  replace h49 := Sl.tr (Dw := Dw) h49 ht276
                  replace h244 := El.kp (Dw := Dw) h244 hk275
                  replace h248 := Sl.kp (Dw := Dw) h248 hk275
                  replace h251 := El.kp (Dw := Dw) h251 hk275
                  replace h253 := Sl.kp (Dw := Dw) h253 hk275
                  replace h257 := El.kp (Dw := Dw) h257 hk275
                  replace h261 := El.kp (Dw := Dw) h261 hk275
                  replace h265 := Sl.kp (Dw := Dw) h265 hk275
                  replace h269 := El.kp (Dw := Dw) h269 hk275
                  replace h272 := El.kp (Dw := Dw) h272 hk275
                  replace hK := Tr.trans (Dw := Dw) hK ht276
                  replace hr105 := Tr.trans (Dw := Dw) hr105 ht276
                  replace hr130 := Tr.trans (Dw := Dw) hr130 ht276
                  replace hr140 := Tr.trans (Dw := Dw) hr140 ht276
                  replace hr165 := Tr.trans (Dw := Dw) hr165 ht276
                  replace hr230 := Tr.trans (Dw := Dw) hr230 ht276
                  replace hB := Nat.le_trans hB ht276.ex.size
                  replace hA := ht276.new
                  obtain ⟨x277, hx277, ho228⟩ := Option.bind_eq_some_iff.1 ho228
                  refine V_storeH (Dw := Dw) (α := Int) (e := 3) (v := y246.v) (l := x241) hH (i := 0) rfl hl273 hx277 rfl Tryd.sizeOf3 rfl hB hA rfl rfl ?_
                  intro w278 hH279 ht280
                  replace h43 := Sl.tr (Dw := Dw) h43 ht280
                  replace h49 := Sl.tr (Dw := Dw) h49 ht280
                  replace hK := Tr.trans (Dw := Dw) hK ht280
                  replace hr105 := Tr.trans (Dw := Dw) hr105 ht280
                  replace hr130 := Tr.trans (Dw := Dw) hr130 ht280
                  replace hr140 := Tr.trans (Dw := Dw) hr140 ht280
                  replace hr165 := Tr.trans (Dw := Dw) hr165 ht280
                  replace hr230 := Tr.trans (Dw := Dw) hr230 ht280
                  replace hB := Nat.le_trans hB ht280.ex.size
                  replace hA := ht280.new
                  replace hH : Hp B A153 w278 (obS (α := Int) 3 y246.v x277 :: obS (α := Sv) 38 v151 vs239 :: obZX (α := Int) 3 vs239 x216 (Int.toNat s114.2) :: L) := hH279
                  obtain ⟨x281, hx281, ho228⟩ := Option.bind_eq_some_iff.1 ho228
                  replace hH : Hp B A153 w278 (obSS (α := Int) 38 3 v151 x281 :: L) := Hp.ssBackW (ix := s114.2) (y := y246) hH (i := 2) (j := 0) (k := 0) rfl rfl rfl hx241 hy247 hl240 hx281
                  obtain rfl := Option.some.inj ho228
                  refine V_end (fun a ha282 => ?_)
                  exact ⟨(v151, A153), ha282.sub ⟨rfl, rfl, rfl, rfl, rfl, trivial⟩, ⟨hH, hr230⟩⟩
                · rw [if_neg (nt hc238)] at ho228
                  obtain rfl := Option.some.inj ho228
                  refine C_skip (fun a ha283 => ?_)
                  exact ⟨(v151, A153), ha283.sub ⟨rfl, rfl, rfl, rfl, rfl, trivial⟩, ⟨hH, hr230⟩⟩
              rintro ⟨v231, A236⟩ w233 ⟨hH237, hk234⟩ a ha235
              replace h43 := Sl.tr (Dw := Dw) h43 hk234
              replace h49 := Sl.tr (Dw := Dw) h49 hk234
              replace hK := Tr.trans (Dw := Dw) hK hk234
              replace hr105 := Tr.trans (Dw := Dw) hr105 hk234
              replace hr130 := Tr.trans (Dw := Dw) hr130 hk234
              replace hr140 := Tr.trans (Dw := Dw) hr140 hk234
              replace hr165 := Tr.trans (Dw := Dw) hr165 hk234
              replace hB := Nat.le_trans hB hk234.ex.size
              replace hA := hk234.new
              replace hH : Hp B A236 w233 (obSS (α := Int) 38 3 v231 s229 :: L) := hH237
              obtain rfl := Option.some.inj ho163
              exact ⟨(v231, A236), ha235.sub ⟨rfl, rfl, rfl, rfl, rfl, trivial⟩, ⟨hH, hr165⟩⟩
            rintro ⟨v166, A171⟩ w168 ⟨hH172, hk169⟩ a ha170
            replace h43 := Sl.tr (Dw := Dw) h43 hk169
            replace h49 := Sl.tr (Dw := Dw) h49 hk169
            replace hK := Tr.trans (Dw := Dw) hK hk169
            replace hr105 := Tr.trans (Dw := Dw) hr105 hk169
            replace hr130 := Tr.trans (Dw := Dw) hr130 hk169
            replace hr140 := Tr.trans (Dw := Dw) hr140 hk169
            replace hB := Nat.le_trans hB hk169.ex.size
            replace hA := hk169.new
            replace hH : Hp B A171 w168 (obSS (α := Int) 38 3 v166 s164 :: L) := hH172
            refine C_at (n := ⟨235, [], none⟩) (fun _ _ => rfl) ?_ ha170
            refine C_region ?_
            refine V_y (Y_move rfl) rfl rfl rfl ?_
            refine V_y (Y_subI rfl rfl) rfl rfl rfl ?_
            refine V_y (Y_assign rfl) rfl rfl rfl ?_
            obtain rfl := Option.some.inj h156
            refine V_end (fun a ha285 => ?_)
            exact ⟨(s164, w64 (s149.2 - 1)), h157, ⟨(v166, A171), ha285.sub ⟨rfl, rfl, rfl, rfl, rfl, trivial⟩, ⟨hH, hr140⟩⟩⟩
          · rw [if_neg (nt hc162)] at h156
            obtain rfl := Option.some.inj h156
            refine C_exit (fun a ha286 => ?_)
            exact ⟨((s149.1, s149.2), v151, A153), ha286.sub ⟨rfl, rfl, rfl, rfl, trivial⟩, ⟨h157.symm, hH, hr140⟩⟩
        rintro ⟨s139, v145, A147⟩ w142 ⟨rfl, hH148, hk143⟩ a ha144
        rw [Lp.andThen_fin] at ho128
        replace h43 := Sl.tr (Dw := Dw) h43 hk143
        replace h49 := Sl.tr (Dw := Dw) h49 hk143
        replace hK := Tr.trans (Dw := Dw) hK hk143
        replace hr105 := Tr.trans (Dw := Dw) hr105 hk143
        replace hr130 := Tr.trans (Dw := Dw) hr130 hk143
        replace hB := Nat.le_trans hB hk143.ex.size
        replace hA := hk143.new
        replace hH : Hp B A147 w142 (obSS (α := Int) 38 3 v145 s139.1 :: L) := hH148
        obtain rfl := Option.some.inj ho128
        exact ⟨(v145, A147), ha144.sub ⟨rfl, rfl, rfl, rfl, trivial⟩, ⟨hH, hr130⟩⟩
      rintro ⟨v131, A136⟩ w133 ⟨hH137, hk134⟩ a ha135
      replace h43 := Sl.tr (Dw := Dw) h43 hk134
      replace h49 := Sl.tr (Dw := Dw) h49 hk134
      replace hK := Tr.trans (Dw := Dw) hK hk134
      replace hr105 := Tr.trans (Dw := Dw) hr105 hk134
      replace hB := Nat.le_trans hB hk134.ex.size
      replace hA := hk134.new
      replace hH : Hp B A136 w133 (obSS (α := Int) 38 3 v131 s129 :: L) := hH137
      refine C_at (n := ⟨235, [], none⟩) (fun _ _ => rfl) ?_ ha135
      refine C_region ?_
      refine V_y (Y_move rfl) rfl rfl rfl ?_
      refine V_y (Y_subI rfl rfl) rfl rfl rfl ?_
      refine V_y (Y_assign rfl) rfl rfl rfl ?_
      obtain rfl := Option.some.inj h121
      refine V_end (fun a ha289 => ?_)
      exact ⟨(s129, w64 (s114.2 - 1)), h122, ⟨(v131, A136), ha289.sub ⟨rfl, rfl, rfl, rfl, trivial⟩, ⟨hH, hr105⟩⟩⟩
    · rw [if_neg (nt hc127)] at h121
      obtain rfl := Option.some.inj h121
      refine C_exit (fun a ha290 => ?_)
      exact ⟨((s114.1, s114.2), v116, A118), ha290.sub ⟨rfl, rfl, rfl, trivial⟩, ⟨h122.symm, hH, hr105⟩⟩
  rintro ⟨s104, v110, A112⟩ w107 ⟨rfl, hH113, hk108⟩ a ha109
  rw [Lp.andThen_fin] at hm
  replace h43 := Sl.tr (Dw := Dw) h43 hk108
  replace h49 := Sl.tr (Dw := Dw) h49 hk108
  replace hK := Tr.trans (Dw := Dw) hK hk108
  replace hB := Nat.le_trans hB hk108.ex.size
  replace hA := hk108.new
  replace hH : Hp B A112 w107 (obSS (α := Int) 38 3 v110 s104.1 :: L) := hH113
  refine C_at (n := ⟨235, [], none⟩) (fun _ _ => rfl) ?_ ha109
  refine C_seq ?_
  refine C_region ?_
  refine V_y (Y_assign rfl) rfl rfl rfl ?_
  refine V_y (Y_assign rfl) rfl rfl rfl ?_
  refine V_to (fun _ _ => rfl) ?_
  refine C_seq ?_
  refine C_seq ?_
  refine C_region ?_
  refine V_y (Y_assign rfl) rfl rfl rfl ?_
  refine V_y (Y_assign rfl) rfl rfl rfl ?_
  refine V_to (fun _ _ => rfl) ?_
  replace hH : Hp B A112 w107 (obS (α := Int) 3 (.slice none 0 0) ([] : (List Int)) :: obSS (α := Int) 38 3 v110 s104.1 :: L) := Hp.addNil (α := Int) (e := 3) hH
  replace hH : Hp B A112 w107 (obS (α := Int) 3 (.slice none 0 0) ([] : (List Int)) :: obS (α := Int) 3 (.slice none 0 0) ([] : (List Int)) :: obSS (α := Int) 38 3 v110 s104.1 :: L) := Hp.addNil (α := Int) (e := 3) hH
  obtain ⟨o292, ho292, hm⟩ := Option.bind_eq_some_iff.1 hm
  refine C_cutG (ι := (((List Int) × (List Int) × Int × Int) × Value × Value × (Nat → Prop))) (fun ⟨s293, v299, v301, A303⟩ => [(9, v42), (10, v48), (15, v299), (16, v301)]) (fun ⟨s293, v299, v301, A303⟩ => fun w' => o292 = .fin s293 ∧ Hp B A303 w' (obS (α := Int) 3 v301 s293.2.1 :: obS (α := Int) 3 v299 s293.1 :: obSS (α := Int) 38 3 v110 s104.1 :: L) ∧ Tr Dw B A112 w107 A303 w') ?_ ?_
  · refine C_block ?_
    refine C_while ho292 (fun s305 a w' => ∃ i : (Value × Value × (Nat → Prop)), Has ⟨235, [], none⟩ a ([(9, v42), (10, v48), (11, v110), (15, i.1), (16, i.2.1), (17, .int .i64 s305.2.2.1), (18, .int .i64 s305.2.2.2)]) ∧ Hp B i.2.2 w' (obS (α := Int) 3 i.2.1 s305.2.1 :: obS (α := Int) 3 i.1 s305.1 :: obSS (α := Int) 38 3 v110 s104.1 :: L) ∧ Tr Dw B A112 w107 i.2.2 w') (fun a ha => ⟨(.slice none 0 0, .slice none 0 0, A112), ha.sub ⟨rfl, rfl, rfl, rfl, rfl, rfl, rfl, trivial⟩, ⟨hH, Tr.refl (Dw := Dw) hA⟩⟩) ?_
    rintro K s305 a w306 ⟨⟨v307, v309, A311⟩, ha440, hH312, hr294⟩ K319
    refine C_of ?_ ha440
    replace h43 := Sl.tr (Dw := Dw) h43 hr294
    replace h49 := Sl.tr (Dw := Dw) h49 hr294
    replace hK := Tr.trans (Dw := Dw) hK hr294
    replace hB := Nat.le_trans hB hr294.ex.size
    replace hA := hr294.new
    replace hH : Hp B A311 w306 (obS (α := Int) 3 v309 s305.2.1 :: obS (α := Int) 3 v307 s305.1 :: obSS (α := Int) 38 3 v110 s104.1 :: L) := hH312
    obtain ⟨x313, h314, h315⟩ := K319
    refine C_seq ?_
    refine C_seq ?_
    refine C_region ?_
    refine V_y (Y_move rfl) rfl rfl rfl ?_
    refine V_y (Y_move rfl) rfl rfl rfl ?_
    obtain ⟨x320, hx320, h314⟩ := Option.bind_eq_some_iff.1 h314
    refine V_indexAddrSS (α := Int) (e := 38) (v := v110) (l := s104.1) hH (i := 2) rfl hx320 Tryd.underlying32 Tryd.sizeOf38 rfl rfl rfl ?_
    intro b321 o322 h323 hl324
    obtain ⟨v325, h326, h327⟩ := El.list h323
    refine V_y (Y_load h326 Tryd.isAgg38 rfl) rfl rfl rfl ?_
    refine V_y (Y_move rfl) rfl rfl rfl ?_
    obtain ⟨x328, hx328, h314⟩ := Option.bind_eq_some_iff.1 h314
    refine V_indexAddr h327 hx328 Tryd.underlying38 Tryd.sizeOf3 rfl rfl rfl ?_
    intro b329 o330 h331
    refine V_y (Y_load (El.int h331) Tryd.isAgg3 rfl) rfl rfl rfl ?_
    refine V_y (Y_gtr rfl rfl) rfl rfl rfl ?_
    refine V_to (fun _ _ => rfl) ?_
    refine C_cond rfl (fun hc332 => ?_) (fun hc332 => ?_)
    · rw [if_pos hc332] at h314
      refine C_skip_to (fun _ _ => rfl) ?_
      refine C_seq ?_
      obtain ⟨s334, ho333, h314⟩ := Option.bind_eq_some_iff.1 h314
      refine C_cutG (ι := (Value × Value × (Nat → Prop))) (fun ⟨v336, v338, A343⟩ => [(9, v42), (10, v48), (11, v110), (15, v336), (16, v338), (17, .int .i64 s305.2.2.1), (18, .int .i64 s334.2.2)]) (fun ⟨v336, v338, A343⟩ => fun w' => Hp B A343 w' (obS (α := Int) 3 v338 s334.2.1 :: obS (α := Int) 3 v336 s334.1 :: obSS (α := Int) 38 3 v110 s104.1 :: L) ∧ Tr Dw B A311 w306 A343 w') ?_ ?_
      · have hr335 : Tr Dw B A311 w306 A311 w306 := Tr.refl (Dw := Dw) hA
        refine C_block ?_
        refine C_seq ?_
        refine C_region ?_
        refine V_y (Y_move rfl) rfl rfl rfl ?_
        refine V_y (Y_assign rfl) rfl rfl rfl ?_
        refine V_to (fun _ _ => rfl) ?_
        obtain ⟨o345, ho345, ho333⟩ := Option.bind_eq_some_iff.1 ho333
        refine C_cutG (ι := (((List Int) × (List Int) × Int × Int) × Value × Value × (Nat → Prop))) (fun ⟨s346, v352, v354, A356⟩ => [(9, v42), (10, v48), (11, v110), (15, v352), (16, v354), (17, .int .i64 s305.2.2.1), (18, .int .i64 s346.2.2.1)]) (fun ⟨s346, v352, v354, A356⟩ => fun w' => o345 = .fin s346 ∧ Hp B A356 w' (obS (α := Int) 3 v354 s346.2.1 :: obS (α := Int) 3 v352 s346.1 :: obSS (α := Int) 38 3 v110 s104.1 :: L) ∧ Tr Dw B A311 w306 A356 w') ?_ ?_
        · refine C_block ?_
          refine C_while ho345 (fun s358 a w' => ∃ i : (Value × Value × (Nat → Prop)), Has ⟨235, [], none⟩ a ([(9, v42), (10, v48), (11, v110), (15, i.1), (16, i.2.1), (17, .int .i64 s305.2.2.1), (18, .int .i64 s358.2.2.1), (19, .int .i64 s358.2.2.2)]) ∧ Hp B i.2.2 w' (obS (α := Int) 3 i.2.1 s358.2.1 :: obS (α := Int) 3 i.1 s358.1 :: obSS (α := Int) 38 3 v110 s104.1 :: L) ∧ Tr Dw B A311 w306 i.2.2 w') (fun a ha => ⟨(v307, v309, A311), ha.sub ⟨rfl, rfl, rfl, rfl, rfl, rfl, rfl, rfl, trivial⟩, ⟨hH, Tr.refl (Dw := Dw) hA⟩⟩) ?_
          rintro K s358 a w359 ⟨⟨v360, v362, A364⟩, ha436, hH365, hr347⟩ K372
          refine C_of ?_ ha436
          replace h43 := Sl.tr (Dw := Dw) h43 hr347
          replace h49 := Sl.tr (Dw := Dw) h49 hr347
          replace hK := Tr.trans (Dw := Dw) hK hr347
          replace hr294 := Tr.trans (Dw := Dw) hr294 hr347
          replace hr335 := Tr.trans (Dw := Dw) hr335 hr347
          replace hB := Nat.le_trans hB hr347.ex.size
          replace hA := hr347.new
          replace hH : Hp B A364 w359 (obS (α := Int) 3 v362 s358.2.1 :: obS (α := Int) 3 v360 s358.1 :: obSS (α := Int) 38 3 v110 s104.1 :: L) := hH365
          obtain ⟨x366, h367, h368⟩ := K372
          refine C_seq ?_
          refine C_seq ?_
          refine C_region ?_
          refine V_y (Y_move rfl) rfl rfl rfl ?_
          refine V_y (Y_move rfl) rfl rfl rfl ?_
          refine V_y (Y_lenSl h49 rfl Tryd.underlying30 rfl) rfl rfl rfl ?_
          refine V_y (Y_lss rfl rfl) rfl rfl rfl ?_
          refine V_to (fun _ _ => rfl) ?_
          refine C_cond rfl (fun hc373 => ?_) (fun hc373 => ?_)
          · rw [if_pos hc373] at h367
            refine C_skip_to (fun _ _ => rfl) ?_
            refine C_seq ?_
            refine C_block ?_
            refine C_seq ?_
            refine C_region_q (Dw := Dw) Tryd_mixed (by kernel_rfl) ?_
            refine VQ_y (fun w' hw' => Y_move rfl) rfl rfl rfl ?_
            refine VQ_y (fun w' hw' => Y_move rfl) rfl rfl rfl ?_
            obtain ⟨x374, hx374, h367⟩ := Option.bind_eq_some_iff.1 h367
            refine VQ_indexAddr h43 hx374 Tryd.underlying30 Tryd.sizeOf9 rfl rfl rfl ?_
            intro b375 o376 h377
            refine VQ_y (fun w' hw' => Y_load (El.str (El.kp (Dw := Dw) h377 hw')) Tryd.isAgg9 rfl) rfl rfl rfl ?_
            refine VQ_y (fun w' hw' => Y_move rfl) rfl rfl rfl ?_
            refine VQ_y (fun w' hw' => Y_move rfl) rfl rfl rfl ?_
            obtain ⟨x378, hx378, h367⟩ := Option.bind_eq_some_iff.1 h367
            refine VQ_indexAddr h49 hx378 Tryd.underlying30 Tryd.sizeOf9 rfl rfl rfl ?_
            intro b379 o380 h381
            refine VQ_y (fun w' hw' => Y_load (El.str (El.kp (Dw := Dw) h381 hw')) Tryd.isAgg9 rfl) rfl rfl rfl ?_
            refine VQ_y (fun w' hw' => Y_seql rfl rfl) rfl rfl rfl ?_
            refine VQ_y (fun w' hw' => Y_move rfl) rfl rfl rfl ?_
            obtain ⟨s383, hs383, h367⟩ := Option.bind_eq_some_iff.1 h367
            refine VQ_cut 19 (fun _ : Unit => [(9, v42), (10, v48), (11, v110), (15, v360), (16, v362), (17, .int .i64 s305.2.2.1), (18, .int .i64 s358.2.2.1), (19, .int .i64 s358.2.2.2), (176, .bool s383)]) (fun _ => True) ?_ ?_
            · simp only [List.take, List.drop]
              rcases Bool.eq_false_or_eq_true (strEq x374 x378) with hc382 | hc382
              · rw [if_pos hc382] at hs383
                refine VQ_ge rfl rfl rfl hc382 ?_
                refine VQ_y (fun w' hw' => Y_move rfl) rfl rfl rfl ?_
                refine VQ_ge rfl rfl rfl hc382 ?_
                refine VQ_y (fun w' hw' => Y_move rfl) rfl rfl rfl ?_
                refine VQ_ge rfl rfl rfl hc382 ?_
                refine VQ_y (fun w' hw' => Y_addI rfl rfl) rfl rfl rfl ?_
                refine VQ_ge rfl rfl rfl hc382 ?_
                obtain ⟨x384, hx384, hs383⟩ := Option.bind_eq_some_iff.1 hs383
                refine VQ_indexAddrSS (α := Int) (e := 38) (v := v110) (l := s104.1) hH (i := 2) rfl hx384 Tryd.underlying32 Tryd.sizeOf38 rfl rfl rfl ?_
                intro b385 o386 h387 hl388
                refine VQ_ge rfl rfl rfl hc382 ?_
                obtain ⟨v389, h390, h391⟩ := El.list h387
                refine VQ_y (fun w' hw' => Y_load ((World.cell?_of_block (hw'.block _ (World.block_lt_of_cell? _ _ h390))).trans h390) Tryd.isAgg38 rfl) rfl rfl rfl ?_
                refine VQ_ge rfl rfl rfl hc382 ?_
                refine VQ_y (fun w' hw' => Y_move rfl) rfl rfl rfl ?_
                refine VQ_ge rfl rfl rfl hc382 ?_
                refine VQ_y (fun w' hw' => Y_addI rfl rfl) rfl rfl rfl ?_
                refine VQ_ge rfl rfl rfl hc382 ?_
                obtain ⟨x392, hx392, hs383⟩ := Option.bind_eq_some_iff.1 hs383
                refine VQ_indexAddr h391 hx392 Tryd.underlying38 Tryd.sizeOf3 rfl rfl rfl ?_
                intro b393 o394 h395
                refine VQ_ge rfl rfl rfl hc382 ?_
                refine VQ_y (fun w' hw' => Y_load (El.int (El.kp (Dw := Dw) h395 hw')) Tryd.isAgg3 rfl) rfl rfl rfl ?_
                refine VQ_ge rfl rfl rfl hc382 ?_
                refine VQ_y (fun w' hw' => Y_addI rfl rfl) rfl rfl rfl ?_
                refine VQ_ge rfl rfl rfl hc382 ?_
                refine VQ_y (fun w' hw' => Y_move rfl) rfl rfl rfl ?_
                refine VQ_ge rfl rfl rfl hc382 ?_
                refine VQ_y (fun w' hw' => Y_move rfl) rfl rfl rfl ?_
                refine VQ_ge rfl rfl rfl hc382 ?_
                refine VQ_indexAddrSS (α := Int) (e := 38) (v := v110) (l := s104.1) hH (i := 2) rfl hx320 Tryd.underlying32 Tryd.sizeOf38 rfl rfl rfl ?_
                intro b396 o397 h398 hl399
                refine VQ_ge rfl rfl rfl hc382 ?_
                obtain ⟨v400, h401, h402⟩ := El.list h398
                refine VQ_y (fun w' hw' => Y_load ((World.cell?_of_block (hw'.block _ (World.block_lt_of_cell? _ _ h401))).trans h401) Tryd.isAgg38 rfl) rfl rfl rfl ?_
                refine VQ_ge rfl rfl rfl hc382 ?_
                refine VQ_y (fun w' hw' => Y_move rfl) rfl rfl rfl ?_
                refine VQ_ge rfl rfl rfl hc382 ?_
                obtain ⟨x403, hx403, hs383⟩ := Option.bind_eq_some_iff.1 hs383
                refine VQ_indexAddr h402 hx403 Tryd.underlying38 Tryd.sizeOf3 rfl rfl rfl ?_
                intro b404 o405 h406
                refine VQ_ge rfl rfl rfl hc382 ?_
                refine VQ_y (fun w' hw' => Y_load (El.int (El.kp (Dw := Dw) h406 hw')) Tryd.isAgg3 rfl) rfl rfl rfl ?_
                refine VQ_ge rfl rfl rfl hc382 ?_
                refine VQ_y (fun w' hw' => Y_eql rfl rfl) rfl rfl rfl ?_
                refine VQ_y (fun _ _ => Y_pick_te rfl hc382 rfl) rfl rfl rfl ?_
                obtain rfl := Option.some.inj hs383
                exact VQ_end fun a ha => ⟨(), ha.sub ⟨rfl, rfl, rfl, rfl, rfl, rfl, rfl, rfl, rfl, trivial⟩, trivial⟩
              · rw [if_neg (nt hc382)] at hs383
                refine VQ_gn rfl rfl rfl hc382 rfl rfl rfl ?_
                refine VQ_gn rfl rfl rfl hc382 rfl rfl rfl ?_
                refine VQ_gn rfl rfl rfl hc382 rfl rfl rfl ?_
                refine VQ_gn rfl rfl rfl hc382 rfl rfl rfl ?_
                refine VQ_gn rfl rfl rfl hc382 rfl rfl rfl ?_
                refine VQ_gn rfl rfl rfl hc382 rfl rfl rfl ?_
                refine VQ_gn rfl rfl rfl hc382 rfl rfl rfl ?_
                refine VQ_gn rfl rfl rfl hc382 rfl rfl rfl ?_
                refine VQ_gn rfl rfl rfl hc382 rfl rfl rfl ?_
                refine VQ_gn rfl rfl rfl hc382 rfl rfl rfl ?_
                refine VQ_gn rfl rfl rfl hc382 rfl rfl rfl ?_
                refine VQ_gn rfl rfl rfl hc382 rfl rfl rfl ?_
                refine VQ_gn rfl rfl rfl hc382 rfl rfl rfl ?_
                refine VQ_gn rfl rfl rfl hc382 rfl rfl rfl ?_
                refine VQ_gn rfl rfl rfl hc382 rfl rfl rfl ?_
                refine VQ_gn rfl rfl rfl hc382 rfl rfl rfl ?_
                refine VQ_gn rfl rfl rfl hc382 rfl rfl rfl ?_
                refine VQ_gn rfl rfl rfl hc382 rfl rfl rfl ?_
                refine VQ_y (fun _ _ => Y_pick_fe rfl hc382 rfl) rfl rfl rfl ?_
                obtain rfl := Option.some.inj hs383
                exact VQ_end fun a ha => ⟨(), ha.sub ⟨rfl, rfl, rfl, rfl, rfl, rfl, rfl, rfl, rfl, trivial⟩, trivial⟩
            simp only [List.take, List.drop]
            rintro _ _
            refine VQ_to (fun _ _ => rfl) (fun w407 hk408 => ?_)
            have ht409 := Kp.tr (Dw := Dw) hk408 hA hB
            replace hH := Hp.kp (Dw := Dw) hH hk408
            replace h43 := Sl.tr (Dw := Dw) h43 ht409
            replace h49 := Sl.tr (Dw := Dw) h49 ht409
            replace hK := Tr.trans (Dw := Dw) hK ht409
            replace hr294 := Tr.trans (Dw := Dw) hr294 ht409
            replace hr335 := Tr.trans (Dw := Dw) hr335 ht409
            replace hr347 := Tr.trans (Dw := Dw) hr347 ht409
            replace hB := Nat.le_trans hB ht409.ex.size
            replace hA := ht409.new
            refine C_cond rfl (fun hc410 => ?_) (fun hc410 => ?_)
            · rw [if_pos hc410] at h367
              refine C_seq ?_
              refine C_region ?_
              refine V_y (Y_move rfl) rfl rfl rfl ?_
              refine V_y (Y_move rfl) rfl rfl rfl ?_
              refine V_buildSlice (Dw := Dw) (l := ([s305.2.2.1] : List Int)) (len := 1) Tryd.underlying38 Tryd.sizeOf3 Tryd.zeroValue3 rfl (by with_unfolding_all rfl) (show (1 * 1 : Nat) ≠ 0 by decide) (show (1 * 1 : Nat) ≤ 2 ^ 24 by decide) hA ⟨[.int .i64 s305.2.2.1], _, rfl, rfl, rfl⟩ rfl rfl ?_
              intro v411 w412 hk414 h413
              have ht415 := Kp.tr (Dw := Dw) hk414 hA hB
              replace hH := Hp.kp (Dw := Dw) hH hk414
              replace h43 := Sl.tr (Dw := Dw) h43 ht415
              replace h49 := Sl.tr (Dw := Dw) h49 ht415
              replace hK := Tr.trans (Dw := Dw) hK ht415
              replace hr294 := Tr.trans (Dw := Dw) hr294 ht415
              replace hr335 := Tr.trans (Dw := Dw) hr335 ht415
              replace hr347 := Tr.trans (Dw := Dw) hr347 ht415
              replace hB := Nat.le_trans hB ht415.ex.size
              replace hA := ht415.new
              obtain ⟨x416, hx416, h367⟩ := Option.bind_eq_some_iff.1 h367
              refine V_appendH (Dw := Dw) (e := 3) (v := v360) (l := s358.1) (ti := Tryd.t3) (bytes := 8) (lim := 17592186044416) hH (i := 1) rfl h413 hx416 Tryd.underlying38 Tryd_info3 rfl rfl rfl rfl (by decide) (by decide) (by decide) hB hA rfl rfl rfl ?_
              intro v417 w418 A419 hH420 ht421
              replace h43 := Sl.tr (Dw := Dw) h43 ht421
              replace h49 := Sl.tr (Dw := Dw) h49 ht421
              replace h413 := Sl.tr (Dw := Dw) h413 ht421
              replace hK := Tr.trans (Dw := Dw) hK ht421
              replace hr294 := Tr.trans (Dw := Dw) hr294 ht421
              replace hr335 := Tr.trans (Dw := Dw) hr335 ht421
              replace hr347 := Tr.trans (Dw := Dw) hr347 ht421
              replace hB := Nat.le_trans hB ht421.ex.size
              replace hA := ht421.new
              replace hH : Hp B A419 w418 (obS (α := Int) 3 v362 s358.2.1 :: obS (α := Int) 3 v417 x416 :: obSS (α := Int) 38 3 v110 s104.1 :: L) := hH420
              refine V_y (Y_move rfl) rfl rfl rfl ?_
              refine V_y (Y_move rfl) rfl rfl rfl ?_
              refine V_buildSlice (Dw := Dw) (l := ([s358.2.2.2] : List Int)) (len := 1) Tryd.underlying38 Tryd.sizeOf3 Tryd.zeroValue3 rfl (by with_unfolding_all rfl) (show (1 * 1 : Nat) ≠ 0 by decide) (show (1 * 1 : Nat) ≤ 2 ^ 24 by decide) hA ⟨[.int .i64 s358.2.2.2], _, rfl, rfl, rfl⟩ rfl rfl ?_
              intro v422 w423 hk425 h424
              have ht426 := Kp.tr (Dw := Dw) hk425 hA hB
              replace hH := Hp.kp (Dw := Dw) hH hk425
              replace h43 := Sl.tr (Dw := Dw) h43 ht426
              replace h49 := Sl.tr (Dw := Dw) h49 ht426
              replace h413 := Sl.tr (Dw := Dw) h413 ht426
              replace hK := Tr.trans (Dw := Dw) hK ht426
              replace hr294 := Tr.trans (Dw := Dw) hr294 ht426
              replace hr335 := Tr.trans (Dw := Dw) hr335 ht426
              replace hr347 := Tr.trans (Dw := Dw) hr347 ht426
              replace hB := Nat.le_trans hB ht426.ex.size
              replace hA := ht426.new
              obtain ⟨x427, hx427, h367⟩ := Option.bind_eq_some_iff.1 h367
              refine V_appendH (Dw := Dw) (e := 3) (v := v362) (l := s358.2.1) (ti := Tryd.t3) (bytes := 8) (lim := 17592186044416) hH (i := 0) rfl h424 hx427 Tryd.underlying38 Tryd_info3 rfl rfl rfl rfl (by decide) (by decide) (by decide) hB hA rfl rfl rfl ?_
              intro v428 w429 A430 hH431 ht432
              replace h43 := Sl.tr (Dw := Dw) h43 ht432
              replace h49 := Sl.tr (Dw := Dw) h49 ht432
              replace h413 := Sl.tr (Dw := Dw) h413 ht432
              replace h424 := Sl.tr (Dw := Dw) h424 ht432
              replace hK := Tr.trans (Dw := Dw) hK ht432
              replace hr294 := Tr.trans (Dw := Dw) hr294 ht432
              replace hr335 := Tr.trans (Dw := Dw) hr335 ht432
              replace hr347 := Tr.trans (Dw := Dw) hr347 ht432
              replace hB := Nat.le_trans hB ht432.ex.size
              replace hA := ht432.new
              replace hH : Hp B A430 w429 (obS (α := Int) 3 v428 x427 :: obS (α := Int) 3 v417 x416 :: obSS (α := Int) 38 3 v110 s104.1 :: L) := hH431
              refine V_y (Y_assign rfl) rfl rfl rfl ?_
              refine V_y (Y_assign rfl) rfl rfl rfl ?_
              refine V_to (fun _ _ => rfl) ?_
              refine C_seq ?_
              refine C_region ?_
              refine V_y (Y_move rfl) rfl rfl rfl ?_
              refine V_y (Y_addI rfl rfl) rfl rfl rfl ?_
              refine V_y (Y_assign rfl) rfl rfl rfl ?_
              refine V_to (fun _ _ => rfl) ?_
              obtain rfl := Option.some.inj h367
              refine C_exit (fun a ha433 => ?_)
              exact ⟨((x416, x427, w64 (s358.2.2.2 + 1), 0), v417, v428, A430), ha433.sub ⟨rfl, rfl, rfl, rfl, rfl, rfl, rfl, trivial⟩, ⟨h368.symm, hH, hr347⟩⟩
            · rw [if_neg (nt hc410)] at h367
              refine C_skip_to (fun _ _ => rfl) ?_
              refine C_region ?_
              refine V_y (Y_move rfl) rfl rfl rfl ?_
              refine V_y (Y_addI rfl rfl) rfl rfl rfl ?_
              refine V_y (Y_assign rfl) rfl rfl rfl ?_
              obtain rfl := Option.some.inj h367
              refine V_end (fun a ha434 => ?_)
              exact ⟨(s358.1, s358.2.1, s358.2.2.1, w64 (s358.2.2.2 + 1)), h368, ⟨(v360, v362, A364), ha434.sub ⟨rfl, rfl, rfl, rfl, rfl, rfl, rfl, rfl, trivial⟩, ⟨hH, hr347⟩⟩⟩
          · rw [if_neg (nt hc373)] at h367
            obtain rfl := Option.some.inj h367
            refine C_exit (fun a ha435 => ?_)
            exact ⟨((s358.1, s358.2.1, s358.2.2.1, s358.2.2.2), v360, v362, A364), ha435.sub ⟨rfl, rfl, rfl, rfl, rfl, rfl, rfl, trivial⟩, ⟨h368.symm, hH, hr347⟩⟩
        rintro ⟨s346, v352, v354, A356⟩ w349 ⟨rfl, hH357, hk350⟩ a ha351
        rw [Lp.andThen_fin] at ho333
        replace h43 := Sl.tr (Dw := Dw) h43 hk350
        replace h49 := Sl.tr (Dw := Dw) h49 hk350
        replace hK := Tr.trans (Dw := Dw) hK hk350
        replace hr294 := Tr.trans (Dw := Dw) hr294 hk350
        replace hr335 := Tr.trans (Dw := Dw) hr335 hk350
        replace hB := Nat.le_trans hB hk350.ex.size
        replace hA := hk350.new
        replace hH : Hp B A356 w349 (obS (α := Int) 3 v354 s346.2.1 :: obS (α := Int) 3 v352 s346.1 :: obSS (α := Int) 38 3 v110 s104.1 :: L) := hH357
        obtain rfl := Option.some.inj ho333
        exact ⟨(v352, v354, A356), ha351.sub ⟨rfl, rfl, rfl, rfl, rfl, rfl, rfl, trivial⟩, ⟨hH, hr335⟩⟩
      rintro ⟨v336, v338, A343⟩ w340 ⟨hH344, hk341⟩ a ha342
      replace h43 := Sl.tr (Dw := Dw) h43 hk341
      replace h49 := Sl.tr (Dw := Dw) h49 hk341
      replace hK := Tr.trans (Dw := Dw) hK hk341
      replace hr294 := Tr.trans (Dw := Dw) hr294 hk341
      replace hB := Nat.le_trans hB hk341.ex.size
      replace hA := hk341.new
      replace hH : Hp B A343 w340 (obS (α := Int) 3 v338 s334.2.1 :: obS (α := Int) 3 v336 s334.1 :: obSS (α := Int) 38 3 v110 s104.1 :: L) := hH344
      refine C_at (n := ⟨235, [], none⟩) (fun _ _ => rfl) ?_ ha342
      refine C_region ?_
      refine V_y (Y_move rfl) rfl rfl rfl ?_
      refine V_y (Y_addI rfl rfl) rfl rfl rfl ?_
      refine V_y (Y_assign rfl) rfl rfl rfl ?_
      obtain rfl := Option.some.inj h314
      refine V_end (fun a ha438 => ?_)
      exact ⟨(s334.1, s334.2.1, w64 (s305.2.2.1 + 1), s334.2.2), h315, ⟨(v336, v338, A343), ha438.sub ⟨rfl, rfl, rfl, rfl, rfl, rfl, rfl, trivial⟩, ⟨hH, hr294⟩⟩⟩
    · rw [if_neg (nt hc332)] at h314
      obtain rfl := Option.some.inj h314
      refine C_exit (fun a ha439 => ?_)
      exact ⟨((s305.1, s305.2.1, s305.2.2.1, s305.2.2.2), v307, v309, A311), ha439.sub ⟨rfl, rfl, rfl, rfl, trivial⟩, ⟨h315.symm, hH, hr294⟩⟩
  rintro ⟨s293, v299, v301, A303⟩ w296 ⟨rfl, hH304, hk297⟩ a ha298
  rw [Lp.andThen_fin] at hm
  replace h43 := Sl.tr (Dw := Dw) h43 hk297
  replace h49 := Sl.tr (Dw := Dw) h49 hk297
  replace hK := Tr.trans (Dw := Dw) hK hk297
  replace hB := Nat.le_trans hB hk297.ex.size
  replace hA := hk297.new
  replace hH : Hp B A303 w296 (obS (α := Int) 3 v301 s293.2.1 :: obS (α := Int) 3 v299 s293.1 :: obSS (α := Int) 38 3 v110 s104.1 :: L) := hH304
  refine C_at (n := ⟨235, [], none⟩) (fun _ _ => rfl) ?_ ha298
  refine C_seq ?_
  refine C_region ?_
  refine V_y (Y_assign rfl) rfl rfl rfl ?_
  refine V_to (fun _ _ => rfl) ?_
  refine C_seq ?_
  refine C_region ?_
  refine V_y (Y_assign rfl) rfl rfl rfl ?_
  refine V_y (Y_assign rfl) rfl rfl rfl ?_
  refine V_to (fun _ _ => rfl) ?_
  refine C_seq ?_
  refine C_seq ?_
  refine C_region ?_
  refine V_y (Y_assign rfl) rfl rfl rfl ?_
  refine V_to (fun _ _ => rfl) ?_
  replace hH : Hp B A303 w296 (obS (α := know_Edit) 36 (.slice none 0 0) ([] : (List know_Edit)) :: obS (α := Int) 3 v301 s293.2.1 :: obS (α := Int) 3 v299 s293.1 :: obSS (α := Int) 38 3 v110 s104.1 :: L) := Hp.addNil (α := know_Edit) (e := 36) hH
  obtain ⟨o441, ho441, hm⟩ := Option.bind_eq_some_iff.1 hm
  refine C_cutG (ι := (((List know_Edit) × Int × Int × Int) × Value × (Nat → Prop))) (fun ⟨s442, v448, A450⟩ => [(20, v448)]) (fun ⟨s442, v448, A450⟩ => fun w' => o441 = .fin s442 ∧ Hp B A450 w' (obS (α := know_Edit) 36 v448 s442.1 :: obS (α := Int) 3 v301 s293.2.1 :: obS (α := Int) 3 v299 s293.1 :: obSS (α := Int) 38 3 v110 s104.1 :: L) ∧ Tr Dw B A303 w296 A450 w') ?_ ?_
  · refine C_block ?_
    refine C_while ho441 (fun s452 a w' => ∃ i : (Value × (Nat → Prop)), Has ⟨235, [], none⟩ a ([(9, v42), (10, v48), (15, v299), (16, v301), (20, i.1), (21, .int .i64 s452.2.1), (22, .int .i64 s452.2.2.1), (23, .int .i64 s452.2.2.2)]) ∧ Hp B i.2 w' (obS (α := know_Edit) 36 i.1 s452.1 :: obS (α := Int) 3 v301 s293.2.1 :: obS (α := Int) 3 v299 s293.1 :: obSS (α := Int) 38 3 v110 s104.1 :: L) ∧ Tr Dw B A303 w296 i.2 w') (fun a ha => ⟨(.slice none 0 0, A303), ha.sub ⟨rfl, rfl, rfl, rfl, rfl, rfl, rfl, rfl, trivial⟩, ⟨hH, Tr.refl (Dw := Dw) hA⟩⟩) ?_
    rintro K s452 a w453 ⟨⟨v454, A456⟩, ha541, hH457, hr443⟩ K464
    refine C_of ?_ ha541
    replace h43 := Sl.tr (Dw := Dw) h43 hr443
    replace h49 := Sl.tr (Dw := Dw) h49 hr443
    replace hK := Tr.trans (Dw := Dw) hK hr443
    replace hB := Nat.le_trans hB hr443.ex.size
    replace hA := hr443.new
    replace hH : Hp B A456 w453 (obS (α := know_Edit) 36 v454 s452.1 :: obS (α := Int) 3 v301 s293.2.1 :: obS (α := Int) 3 v299 s293.1 :: obSS (α := Int) 38 3 v110 s104.1 :: L) := hH457
    obtain ⟨x458, h459, h460⟩ := K464
    refine C_seq ?_
    refine C_seq ?_
    refine C_region ?_
    refine V_y (Y_move rfl) rfl rfl rfl ?_
    refine V_y (Y_move rfl) rfl rfl rfl ?_
    refine V_y (Y_lenSl (Hp.any (α := Int) (e := 3) (v := v299) (l := s293.1) hH (i := 2) rfl) rfl Tryd.underlying38 rfl) rfl rfl rfl ?_
    refine V_y (Y_leq rfl rfl) rfl rfl rfl ?_
    refine V_to (fun _ _ => rfl) ?_
    refine C_cond rfl (fun hc465 => ?_) (fun hc465 => ?_)
    · rw [if_pos hc465] at h459
      refine C_skip_to (fun _ _ => rfl) ?_
      refine C_seq ?_
      refine C_block ?_
      refine C_seq ?_
      refine C_region ?_
      refine V_y (Y_move rfl) rfl rfl rfl ?_
      refine V_y (Y_lenSl h43 rfl Tryd.underlying30 rfl) rfl rfl rfl ?_
      refine V_y (Y_move rfl) rfl rfl rfl ?_
      refine V_y (Y_lenSl h49 rfl Tryd.underlying30 rfl) rfl rfl rfl ?_
      refine V_y (Y_assign rfl) rfl rfl rfl ?_
      refine V_y (Y_assign rfl) rfl rfl rfl ?_
      refine V_to (fun _ _ => rfl) ?_
      refine C_seq ?_
      refine C_seq ?_
      refine C_region ?_
      refine V_y (Y_move rfl) rfl rfl rfl ?_
      refine V_y (Y_move rfl) rfl rfl rfl ?_
      refine V_y (Y_lenSl (Hp.any (α := Int) (e := 3) (v := v299) (l := s293.1) hH (i := 2) rfl) rfl Tryd.underlying38 rfl) rfl rfl rfl ?_
      refine V_y (Y_lss rfl rfl) rfl rfl rfl ?_
      refine V_to (fun _ _ => rfl) ?_
      obtain ⟨s467, ho466, h459⟩ := Option.bind_eq_some_iff.1 h459
      refine C_cutG (ι := (Nat → Prop)) (fun (A472 : (Nat → Prop)) => [(9, v42), (10, v48), (15, v299), (16, v301), (20, v454), (21, .int .i64 s452.2.1), (22, .int .i64 s452.2.2.1), (23, .int .i64 s452.2.2.2), (24, .int .i64 s467.1), (25, .int .i64 s467.2)]) (fun (A472 : (Nat → Prop)) => fun w' => Hp B A472 w' (obS (α := know_Edit) 36 v454 s452.1 :: obS (α := Int) 3 v301 s293.2.1 :: obS (α := Int) 3 v299 s293.1 :: obSS (α := Int) 38 3 v110 s104.1 :: L) ∧ Tr Dw B A456 w453 A472 w') ?_ ?_
      · have hr468 : Tr Dw B A456 w453 A456 w453 := Tr.refl (Dw := Dw) hA
        refine C_cond rfl (fun hc474 => ?_) (fun hc474 => ?_)
        · rw [if_pos hc474] at ho466
          refine C_region_q (Dw := Dw) Tryd_mixed (by kernel_rfl) ?_
          refine VQ_y (fun w' hw' => Y_move rfl) rfl rfl rfl ?_
          refine VQ_y (fun w' hw' => Y_move rfl) rfl rfl rfl ?_
          obtain ⟨x475, hx475, ho466⟩ := Option.bind_eq_some_iff.1 ho466
          refine VQ_indexAddrH (α := Int) (e := 3) (v := v299) (l := s293.1) hH (i := 2) rfl hx475 Tryd.underlying38 Tryd.sizeOf3 rfl rfl rfl ?_
          intro b476 o477 h478 hl479
          refine VQ_y (fun w' hw' => Y_load (El.int (El.kp (Dw := Dw) h478 hw')) Tryd.isAgg3 rfl) rfl rfl rfl ?_
          refine VQ_y (fun w' hw' => Y_move rfl) rfl rfl rfl ?_
          refine VQ_y (fun w' hw' => Y_move rfl) rfl rfl rfl ?_
          obtain ⟨x480, hx480, ho466⟩ := Option.bind_eq_some_iff.1 ho466
          refine VQ_indexAddrH (α := Int) (e := 3) (v := v301) (l := s293.2.1) hH (i := 1) rfl hx480 Tryd.underlying38 Tryd.sizeOf3 rfl rfl rfl ?_
          intro b481 o482 h483 hl484
          refine VQ_y (fun w' hw' => Y_load (El.int (El.kp (Dw := Dw) h483 hw')) Tryd.isAgg3 rfl) rfl rfl rfl ?_
          refine VQ_y (fun w' hw' => Y_assign rfl) rfl rfl rfl ?_
          refine VQ_y (fun w' hw' => Y_assign rfl) rfl rfl rfl ?_
          obtain rfl := Option.some.inj ho466
          refine VQ_end (fun a ha485 w486 hk487 => ?_)
          have ht488 := Kp.tr (Dw := Dw) hk487 hA hB
          replace hH := Hp.kp (Dw := Dw) hH hk487
          replace h43 := Sl.tr (Dw := Dw) h43 ht488
          replace h49 := Sl.tr (Dw := Dw) h49 ht488
          replace h478 := El.kp (Dw := Dw) h478 hk487
          replace h483 := El.kp (Dw := Dw) h483 hk487
          replace hK := Tr.trans (Dw := Dw) hK ht488
          replace hr443 := Tr.trans (Dw := Dw) hr443 ht488
          replace hr468 := Tr.trans (Dw := Dw) hr468 ht488
          replace hB := Nat.le_trans hB ht488.ex.size
          replace hA := ht488.new
          exact ⟨A456, ha485.sub ⟨rfl, rfl, rfl, rfl, rfl, rfl, rfl, rfl, rfl, rfl, trivial⟩, ⟨hH, hr468⟩⟩
        · rw [if_neg (nt hc474)] at ho466
          obtain rfl := Option.some.inj ho466
          refine C_skip (fun a ha489 => ?_)
          exact ⟨A456, ha489.sub ⟨rfl, rfl, rfl, rfl, rfl, rfl, rfl, rfl, rfl, rfl, trivial⟩, ⟨hH, hr468⟩⟩
      rintro A472 w469 ⟨hH473, hk470⟩ a ha471
      replace h43 := Sl.tr (Dw := Dw) h43 hk470
      replace h49 := Sl.tr (Dw := Dw) h49 hk470
      replace hK := Tr.trans (Dw := Dw) hK hk470
      replace hr443 := Tr.trans (Dw := Dw) hr443 hk470
      replace hB := Nat.le_trans hB hk470.ex.size
      replace hA := hk470.new
      replace hH : Hp B A472 w469 (obS (α := know_Edit) 36 v454 s452.1 :: obS (α := Int) 3 v301 s293.2.1 :: obS (α := Int) 3 v299 s293.1 :: obSS (α := Int) 38 3 v110 s104.1 :: L) := hH473
      refine C_at (n := ⟨235, [], none⟩) (fun _ _ => rfl) ?_ ha471
      refine C_seq ?_
      refine C_seq ?_
      refine C_region ?_
      refine V_y (Y_move rfl) rfl rfl rfl ?_
      refine V_y (Y_move rfl) rfl rfl rfl ?_
      refine V_y (Y_gtr rfl rfl) rfl rfl rfl ?_
      refine V_y (Y_move rfl) rfl rfl rfl ?_
      refine V_cut 4 (fun _ : Unit => [(9, v42), (10, v48), (15, v299), (16, v301), (20, v454), (21, .int .i64 s452.2.1), (22, .int .i64 s452.2.2.1), (23, .int .i64 s452.2.2.2), (24, .int .i64 s467.1), (25, .int .i64 s467.2), (216, .bool ((decide (s452.2.1 < s467.1)) || (decide (s452.2.2.1 < s467.2))))]) (fun _ w' => w469 = w') ?_ ?_
      · simp only [List.take, List.drop]
        rcases Bool.eq_false_or_eq_true (decide (s452.2.1 < s467.1)) with hc490 | hc490
        · refine V_gn rfl rfl rfl hc490 rfl rfl rfl ?_
          refine V_gn rfl rfl rfl hc490 rfl rfl rfl ?_
          refine V_gn rfl rfl rfl hc490 rfl rfl rfl ?_
          refine V_y (Y_pick_te rfl hc490 rfl) rfl rfl rfl ?_
          exact V_end fun a ha => ⟨(), ha.sub ⟨rfl, rfl, rfl, rfl, rfl, rfl, rfl, rfl, rfl, rfl, (by rw [hc490]; rfl), trivial⟩, rfl⟩
        · refine V_ge rfl rfl rfl hc490 ?_
          refine V_y (Y_move rfl) rfl rfl rfl ?_
          refine V_ge rfl rfl rfl hc490 ?_
          refine V_y (Y_move rfl) rfl rfl rfl ?_
          refine V_ge rfl rfl rfl hc490 ?_
          refine V_y (Y_gtr rfl rfl) rfl rfl rfl ?_
          refine V_y (Y_pick_fe rfl hc490 rfl) rfl rfl rfl ?_
          exact V_end fun a ha => ⟨(), ha.sub ⟨rfl, rfl, rfl, rfl, rfl, rfl, rfl, rfl, rfl, rfl, (by rw [hc490]; rfl), trivial⟩, rfl⟩
      simp only [List.take, List.drop]
      rintro _ _ rfl
      refine V_to (fun _ _ => rfl) ?_
      obtain ⟨s493, ho492, h459⟩ := Option.bind_eq_some_iff.1 h459
      refine C_cutG (ι := (Value × (Nat → Prop))) (fun ⟨v495, A500⟩ => [(9, v42), (10, v48), (15, v299), (16, v301), (20, v495), (23, .int .i64 s452.2.2.2), (24, .int .i64 s467.1), (25, .int .i64 s467.2)]) (fun ⟨v495, A500⟩ => fun w' => Hp B A500 w' (obS (α := know_Edit) 36 v495 s493 :: obS (α := Int) 3 v301 s293.2.1 :: obS (α := Int) 3 v299 s293.1 :: obSS (α := Int) 38 3 v110 s104.1 :: L) ∧ Tr Dw B A472 w469 A500 w') ?_ ?_
      · have hr494 : Tr Dw B A472 w469 A472 w469 := Tr.refl (Dw := Dw) hA
        refine C_cond rfl (fun hc502 => ?_) (fun hc502 => ?_)
        · rw [if_pos hc502] at ho492
          refine C_region ?_
          refine V_y (Y_move rfl) rfl rfl rfl ?_
          refine V_y (Y_move rfl) rfl rfl rfl ?_
          refine V_y (Y_move rfl) rfl rfl rfl ?_
          refine V_y (Y_move rfl) rfl rfl rfl ?_
          refine V_y (Y_subI rfl rfl) rfl rfl rfl ?_
          refine V_y (Y_move rfl) rfl rfl rfl ?_
          refine V_y (Y_move rfl) rfl rfl rfl ?_
          refine V_y (Y_move rfl) rfl rfl rfl ?_
          obtain ⟨x503, hx503, ho492⟩ := Option.bind_eq_some_iff.1 ho492
          obtain ⟨v504, h505, h505y⟩ := sliceL_val hx503 h49
          refine V_y (Y_sliceLLH h505y Tryd.underlying30 Tryd.sizeOf9 rfl rfl rfl) rfl rfl rfl ?_
          obtain ⟨x506, hx506, ho492⟩ := Option.bind_eq_some_iff.1 ho492
          refine V_call Tryd.call12 rfl rfl rfl rfl (slices_Clone_Lstring_string_c (Dw := Dw) w469 hA x503 v504 h505 hx506) ?_
          rintro v507 w509 ⟨_, rfl, h508, hk510⟩
          obtain ⟨A511, ht512, hH513⟩ := Hp.addOwnd (Dw := Dw) hH hB hA hk510 h508
          replace h43 := Sl.tr (Dw := Dw) h43 ht512
          replace h49 := Sl.tr (Dw := Dw) h49 ht512
          replace h505 := Sl.tr (Dw := Dw) h505 ht512
          replace hK := Tr.trans (Dw := Dw) hK ht512
          replace hr443 := Tr.trans (Dw := Dw) hr443 ht512
          replace hr494 := Tr.trans (Dw := Dw) hr494 ht512
          replace hB := Nat.le_trans hB ht512.ex.size
          replace hA := ht512.new
          replace hH : Hp B A511 w509 (obS (α := ByteArray) 9 v507 x506 :: obS (α := know_Edit) 36 v454 s452.1 :: obS (α := Int) 3 v301 s293.2.1 :: obS (α := Int) 3 v299 s293.1 :: obSS (α := Int) 38 3 v110 s104.1 :: L) := hH513
          refine V_y (Y_build (cells := #[.int .i64 s452.2.1, .int .i64 (w64 (s467.1 - s452.2.1)), v507]) Tryd.underlying36 Tryd.zeroValue36 (Tryd_places36 _ Tryd.underlying36) rfl (by obtain ⟨a514, c515, e516, _⟩ := Hp.form (α := ByteArray) (e := 9) (v := v507) (l := x506) hH (i := 0) rfl; subst e516; with_unfolding_all rfl)) rfl rfl rfl ?_
          obtain ⟨A517, ht518, h519, hH520⟩ := Hp.freeze (Dw := Dw) (α := ByteArray) (v := v507) (l := x506) hH (i := 0) rfl hA
          replace h43 := Sl.tr (Dw := Dw) h43 ht518
          replace h49 := Sl.tr (Dw := Dw) h49 ht518
          replace h505 := Sl.tr (Dw := Dw) h505 ht518
          replace hK := Tr.trans (Dw := Dw) hK ht518
          replace hr443 := Tr.trans (Dw := Dw) hr443 ht518
          replace hr494 := Tr.trans (Dw := Dw) hr494 ht518
          replace hB := Nat.le_trans hB ht518.ex.size
          replace hA := ht518.new
          replace hH : Hp B A517 w509 (obS (α := know_Edit) 36 v454 s452.1 :: obS (α := Int) 3 v301 s293.2.1 :: obS (α := Int) 3 v299 s293.1 :: obSS (α := Int) 38 3 v110 s104.1 :: L) := hH520
          refine V_buildSlice (Dw := Dw) (cells := #[.int .i64 s452.2.1, .int .i64 (w64 (s467.1 - s452.2.1)), v507]) (l := ([(⟨s452.2.1, w64 (s467.1 - s452.2.1), x506⟩ : know_Edit)] : List know_Edit)) (len := 1) Tryd.underlying22 Tryd.sizeOf36 Tryd.zeroValue36 rfl (by obtain ⟨a526, c527, e528, _⟩ := Sl.form h519; subst e528; generalize (w64 (s467.1 - s452.2.1) : Int) = z529; kernel_rfl) (show (1 * 3 : Nat) ≠ 0 by decide) (show (1 * 3 : Nat) ≤ 2 ^ 24 by decide) hA ⟨[.int .i64 s452.2.1, .int .i64 (w64 (s467.1 - s452.2.1)), v507], _, rfl, ⟨[.int .i64 s452.2.1], _, rfl, rfl, ⟨[.int .i64 (w64 (s467.1 - s452.2.1))], _, rfl, rfl, ⟨_, rfl, h519⟩⟩⟩, rfl⟩ rfl rfl ?_
          intro v522 w523 hk525 h524
          have ht530 := Kp.tr (Dw := Dw) hk525 hA hB
          replace hH := Hp.kp (Dw := Dw) hH hk525
          replace h43 := Sl.tr (Dw := Dw) h43 ht530
          replace h49 := Sl.tr (Dw := Dw) h49 ht530
          replace h505 := Sl.tr (Dw := Dw) h505 ht530
          replace h519 := Sl.tr (Dw := Dw) h519 ht530
          replace hK := Tr.trans (Dw := Dw) hK ht530
          replace hr443 := Tr.trans (Dw := Dw) hr443 ht530
          replace hr494 := Tr.trans (Dw := Dw) hr494 ht530
          replace hB := Nat.le_trans hB ht530.ex.size
          replace hA := ht530.new
          obtain ⟨x531, hx531, ho492⟩ := Option.bind_eq_some_iff.1 ho492
          refine V_appendH (Dw := Dw) (e := 36) (v := v454) (l := s452.1) (ti := Tryd.t36) (bytes := 40) (lim := 3518437208883) hH (i := 0) rfl h524 hx531 Tryd.underlying22 Tryd_info36 rfl rfl rfl rfl (by decide) (by decide) (by decide) hB hA rfl rfl rfl ?_
          intro v532 w533 A534 hH535 ht536
          replace h43 := Sl.tr (Dw := Dw) h43 ht536
          replace h49 := Sl.tr (Dw := Dw) h49 ht536
          replace h505 := Sl.tr (Dw := Dw) h505 ht536
          replace h519 := Sl.tr (Dw := Dw) h519 ht536
          replace h524 := Sl.tr (Dw := Dw) h524 ht536
          replace hK := Tr.trans (Dw := Dw) hK ht536
          replace hr443 := Tr.trans (Dw := Dw) hr443 ht536
          replace hr494 := Tr.trans (Dw := Dw) hr494 ht536
          replace hB := Nat.le_trans hB ht536.ex.size
          replace hA := ht536.new
          replace hH : Hp B A534 w533 (obS (α := know_Edit) 36 v532 x531 :: obS (α := Int) 3 v301 s293.2.1 :: obS (α := Int) 3 v299 s293.1 :: obSS (α := Int) 38 3 v110 s104.1 :: L) := hH535
          refine V_y (Y_assign rfl) rfl rfl rfl ?_
          obtain rfl := Option.some.inj ho492
          refine V_end (fun a ha537 => ?_)
          exact ⟨(v532, A534), ha537.sub ⟨rfl, rfl, rfl, rfl, rfl, rfl, rfl, rfl, trivial⟩, ⟨hH, hr494⟩⟩
        · rw [if_neg (nt hc502)] at ho492
          obtain rfl := Option.some.inj ho492
          refine C_skip (fun a ha538 => ?_)
          exact ⟨(v454, A472), ha538.sub ⟨rfl, rfl, rfl, rfl, rfl, rfl, rfl, rfl, trivial⟩, ⟨hH, hr494⟩⟩
      rintro ⟨v495, A500⟩ w497 ⟨hH501, hk498⟩ a ha499
      replace h43 := Sl.tr (Dw := Dw) h43 hk498
      replace h49 := Sl.tr (Dw := Dw) h49 hk498
      replace hK := Tr.trans (Dw := Dw) hK hk498
      replace hr443 := Tr.trans (Dw := Dw) hr443 hk498
      replace hB := Nat.le_trans hB hk498.ex.size
      replace hA := hk498.new
      replace hH : Hp B A500 w497 (obS (α := know_Edit) 36 v495 s493 :: obS (α := Int) 3 v301 s293.2.1 :: obS (α := Int) 3 v299 s293.1 :: obSS (α := Int) 38 3 v110 s104.1 :: L) := hH501
      refine C_at (n := ⟨235, [], none⟩) (fun _ _ => rfl) ?_ ha499
      refine C_region ?_
      refine V_y (Y_move rfl) rfl rfl rfl ?_
      refine V_y (Y_addI rfl rfl) rfl rfl rfl ?_
      refine V_y (Y_move rfl) rfl rfl rfl ?_
      refine V_y (Y_addI rfl rfl) rfl rfl rfl ?_
      refine V_y (Y_assign rfl) rfl rfl rfl ?_
      refine V_y (Y_assign rfl) rfl rfl rfl ?_
      refine V_to (fun _ _ => rfl) ?_
      refine C_region ?_
      refine V_y (Y_move rfl) rfl rfl rfl ?_
      refine V_y (Y_addI rfl rfl) rfl rfl rfl ?_
      refine V_y (Y_assign rfl) rfl rfl rfl ?_
      obtain rfl := Option.some.inj h459
      refine V_end (fun a ha539 => ?_)
      exact ⟨(s493, w64 (s467.1 + 1), w64 (s467.2 + 1), w64 (s452.2.2.2 + 1)), h460, ⟨(v495, A500), ha539.sub ⟨rfl, rfl, rfl, rfl, rfl, rfl, rfl, rfl, trivial⟩, ⟨hH, hr443⟩⟩⟩
    · rw [if_neg (nt hc465)] at h459
      obtain rfl := Option.some.inj h459
      refine C_exit (fun a ha540 => ?_)
      exact ⟨((s452.1, s452.2.1, s452.2.2.1, s452.2.2.2), v454, A456), ha540.sub ⟨rfl, trivial⟩, ⟨h460.symm, hH, hr443⟩⟩
  rintro ⟨s442, v448, A450⟩ w445 ⟨rfl, hH451, hk446⟩ a ha447
  rw [Lp.andThen_fin] at hm
  replace hK := Tr.trans (Dw := Dw) hK hk446
  replace hB := Nat.le_trans hB hk446.ex.size
  replace hA := hk446.new
  replace hH : Hp B A450 w445 (obS (α := know_Edit) 36 v448 s442.1 :: obS (α := Int) 3 v301 s293.2.1 :: obS (α := Int) 3 v299 s293.1 :: obSS (α := Int) 38 3 v110 s104.1 :: L) := hH451
  refine C_at (n := ⟨235, [], none⟩) (fun _ _ => rfl) ?_ ha447
  refine C_seq ?_
  refine C_region ?_
  refine V_y (Y_move rfl) rfl rfl rfl ?_
  refine V_y (Y_assign rfl) rfl rfl rfl ?_
  refine V_y (Y_assign rfl) rfl rfl rfl ?_
  refine V_to (fun _ _ => rfl) ?_
  obtain rfl := Option.some.inj hm
  replace hH : Hp B A450 w445 (obS (α := know_Edit) 36 v448 s442.1 :: obS (α := Int) 3 v299 s293.1 :: obSS (α := Int) 38 3 v110 s104.1 :: L) := Hp.drop hH (i := 1) rfl
  replace hH : Hp B A450 w445 (obS (α := know_Edit) 36 v448 s442.1 :: obSS (α := Int) 38 3 v110 s104.1 :: L) := Hp.drop hH (i := 1) rfl
  replace hH : Hp B A450 w445 (obS (α := know_Edit) 36 v448 s442.1 :: L) := Hp.drop hH (i := 1) rfl
  refine C_ret ?_
  try simp only [↓inBlock_ret, ↓then_ret]
  exact retQ rfl (Res.two Tryd.results5 rfl rfl) ⟨v448, A450, rfl, hH, hK⟩

set_option maxRecDepth 4000 in
set_option maxHeartbeats 4000000 in
theorem slices_EqualFunc_Lknow_Edit_Lknow_Edit_know_Edit_know_Edit_c (w : World) {A : Nat → Prop} (hA : ∀ b, w.heap.size ≤ b → A b) (s1 : (List know_Edit)) (v_s1 : Value) (h_s1 : Sl A w v_s1 s1) (s2 : (List know_Edit)) (v_s2 : Value) (h_s2 : Sl A w v_s2 s2) (eq : know_Edit → know_Edit → Option Bool) (eq_f : FuncId) (eq_a eq_c : Array Value) (eq_call : ∀ (args : Array Value) (w : World), (callFunc eq_f args).run Tryd.prog w = .ok (.enter eq_f args) w) (eq_spec : ∀ (w1 : World) (A1 : Nat → Prop), Tr Dw w.heap.size A w A1 w1 → (∀ b, w1.heap.size ≤ b → A1 b) → ∀ (y0 : know_Edit) (v1 : Value) (h2 : Sl A1 w1 v1 y0.add) (y1 : know_Edit) (v3 : Value) (h4 : Sl A1 w1 v3 y1.add) (r : Bool), eq y0 y1 = some r → Ret Tryd.prog eq_f (eq_a ++ #[.agg #[.int .i64 y0.at_, .int .i64 y0.drop, v1], .agg #[.int .i64 y1.at_, .int .i64 y1.drop, v3]] ++ eq_c) w1 fun v w' => v = .bool r ∧ Kp Dw w1 w') {r : Bool} (hm : slices_EqualFunc_Lknow_Edit_Lknow_Edit_know_Edit_know_Edit s1 s2 eq = some r) : Ret Tryd.prog 22 #[v_s1, v_s2, .func (.func eq_f) eq_a eq_c] w fun v w' => v = .bool r ∧ Kp Dw w w' := by
  unfold slices_EqualFunc_Lknow_Edit_Lknow_Edit_know_Edit_know_Edit at hm
  refine enter Tryd.func22 rfl Tryd.ntmps22 rfl ?_
  have hA0 := hA
  have hB := Nat.le_refl w.heap.size
  have hK : Tr Dw w.heap.size A w A w := Tr.refl (Dw := Dw) hA
  have hH : Hp w.heap.size A w [] := Hp.nil
  refine C_seq ?_
  refine C_region ?_
  refine V_y (Y_assign rfl) rfl rfl rfl ?_
  refine V_to (fun _ _ => rfl) ?_
  refine C_seq ?_
  refine C_seq ?_
  refine C_region ?_
  refine V_y (Y_move rfl) rfl rfl rfl ?_
  refine V_y (Y_lenSl h_s1 rfl Tryd.underlying22 rfl) rfl rfl rfl ?_
  refine V_y (Y_move rfl) rfl rfl rfl ?_
  refine V_y (Y_lenSl h_s2 rfl Tryd.underlying22 rfl) rfl rfl rfl ?_
  refine V_y (Y_neq rfl rfl) rfl rfl rfl ?_
  refine V_to (fun _ _ => rfl) ?_
  refine C_cond rfl (fun hc5 => ?_) (fun hc5 => ?_)
  · rw [if_pos hc5] at hm
    refine C_seq ?_
    refine C_region ?_
    refine V_y (Y_assign rfl) rfl rfl rfl ?_
    refine V_to (fun _ _ => rfl) ?_
    obtain rfl := Option.some.inj hm
    refine C_ret ?_
    try simp only [↓inBlock_ret, ↓then_ret]
    exact retQ rfl (Res.one Tryd.results22 rfl) ⟨rfl, hK.kp⟩
  · rw [if_neg (nt hc5)] at hm
    refine C_skip_to (fun _ _ => rfl) ?_
    refine C_seq ?_
    refine C_seq ?_
    refine C_region ?_
    refine V_y (Y_move rfl) rfl rfl rfl ?_
    refine V_y (Y_lenSl h_s1 rfl Tryd.underlying22 rfl) rfl rfl rfl ?_
    refine V_y (Y_move rfl) rfl rfl rfl ?_
    refine V_to (fun _ _ => rfl) ?_
    have hn27 := Sl.le h_s1
    obtain ⟨o6, ho6, hm⟩ := Option.bind_eq_some_iff.1 hm
    refine C_cutG (ι := (Unit × (Nat → Prop))) (fun ⟨s7, A13⟩ => []) (fun ⟨s7, A13⟩ => fun w' => o6 = .fin s7 ∧ Hp w.heap.size A13 w' ([]) ∧ Tr Dw w.heap.size A w A13 w') ?_ ?_
    · refine C_block ?_
      refine C_range ho6 (fun k9 _ a w' => ∃ i : (Nat → Prop), Has ⟨32, [], none⟩ a ([(1, v_s2), (2, .func (.func eq_f) eq_a eq_c), (15, v_s1), (16, .int .i64 (s1.length : Int)), (17, .int .i64 (k9 : Int))]) ∧ Hp w.heap.size i w' ([]) ∧ Tr Dw w.heap.size A w i w') (fun a ha => ⟨A, ha.sub ⟨rfl, rfl, rfl, rfl, rfl, trivial⟩, ⟨hH, Tr.refl (Dw := Dw) hA⟩⟩) ?_
      rintro K k9 _ a w17 ⟨A18, ha78, hH19, hr8⟩ hle23 K26 h25
      refine C_of ?_ ha78
      replace h_s2 := Sl.tr (Dw := Dw) h_s2 hr8
      replace h_s1 := Sl.tr (Dw := Dw) h_s1 hr8
      replace hK := Tr.trans (Dw := Dw) hK hr8
      replace hB := Nat.le_trans hB hr8.ex.size
      replace hA := hr8.new
      replace hH : Hp w.heap.size A18 w17 ([]) := hH19
      refine C_seq (C_region (V_y (Y_lss rfl rfl) rfl rfl rfl (V_to (fun _ _ => rfl) ?_)))
      refine C_seq ?_
      refine C_cond rfl (fun hc28 => ?_) (fun hc28 => ?_)
      · have hlt24 := lt_of_dec hc28
        obtain ⟨x20, h21, h22⟩ := K26 hlt24
        refine C_skip_to (fun _ _ => rfl) ?_
        refine C_seq ?_
        refine C_block ?_
        refine C_seq ?_
        refine C_region ?_
        refine V_y (Y_move rfl) rfl rfl rfl ?_
        obtain ⟨x29, hx29, h21⟩ := Option.bind_eq_some_iff.1 h21
        refine V_indexAddr h_s1 hx29 Tryd.underlying22 Tryd.sizeOf36 rfl rfl rfl ?_
        intro b30 o31 h32
        obtain ⟨v33, h35, h34⟩ := El_know_Edit h32
        refine V_y (Y_loadA h35 Tryd.isAgg36 Tryd.sizeOf36 rfl) rfl rfl rfl ?_
        refine V_alloc Tryd.zeroValue36 rfl ?_
        intro b36 w37 h38
        refine V_y (Y_assign rfl) rfl rfl rfl ?_
        have h43 : (v33).oneCell' = true := by obtain ⟨_, _, e, _⟩ := Sl.form h34; rw [e]; rfl
        refine V_storeNew h38 Tryd.sizeOf36 rfl rfl rfl rfl (by exact (List.forall_mem_cons.2 ⟨rfl, (List.forall_mem_cons.2 ⟨rfl, (List.forall_mem_cons.2 ⟨h43, (fun _ h => nomatch h)⟩)⟩)⟩)) ?_
        intro w39 h40
        have hk45 := h40.kp (Dw := Dw)
        have h44 : El (α := know_Edit) A18 w39 b36 0 x29 := h40.el hA ⟨[.int .i64 x29.at_], _, rfl, rfl, ⟨[.int .i64 x29.drop], _, rfl, rfl, ⟨_, rfl, h34⟩⟩⟩
        have ht46 := Kp.tr (Dw := Dw) hk45 hA hB
        replace hH := Hp.kp (Dw := Dw) hH hk45
        replace h_s2 := Sl.tr (Dw := Dw) h_s2 ht46
        replace h_s1 := Sl.tr (Dw := Dw) h_s1 ht46
        replace h32 := El.tr (Dw := Dw) h32 ht46
        replace h34 := Sl.tr (Dw := Dw) h34 ht46
        replace hK := Tr.trans (Dw := Dw) hK ht46
        replace hr8 := Tr.trans (Dw := Dw) hr8 ht46
        replace hB := Nat.le_trans hB ht46.ex.size
        replace hA := ht46.new
        refine V_to (fun _ _ => rfl) ?_
        refine C_seq ?_
        refine C_region ?_
        refine V_y (Y_move rfl) rfl rfl rfl ?_
        refine V_y (Y_move rfl) rfl rfl rfl ?_
        obtain ⟨x47, hx47, h21⟩ := Option.bind_eq_some_iff.1 h21
        refine V_indexAddr h_s2 hx47 Tryd.underlying22 Tryd.sizeOf36 rfl rfl rfl ?_
        intro b48 o49 h50
        obtain ⟨v51, h53, h52⟩ := El_know_Edit h50
        refine V_y (Y_loadA h53 Tryd.isAgg36 Tryd.sizeOf36 rfl) rfl rfl rfl ?_
        refine V_alloc Tryd.zeroValue36 rfl ?_
        intro b54 w55 h56
        have h61 : (v51).oneCell' = true := by obtain ⟨_, _, e, _⟩ := Sl.form h52; rw [e]; rfl
        refine V_storeNew h56 Tryd.sizeOf36 rfl rfl rfl rfl (by exact (List.forall_mem_cons.2 ⟨rfl, (List.forall_mem_cons.2 ⟨rfl, (List.forall_mem_cons.2 ⟨h61, (fun _ h => nomatch h)⟩)⟩)⟩)) ?_
        intro w57 h58
        have hk63 := h58.kp (Dw := Dw)
        have h62 : El (α := know_Edit) A18 w57 b54 0 x47 := h58.el hA ⟨[.int .i64 x47.at_], _, rfl, rfl, ⟨[.int .i64 x47.drop], _, rfl, rfl, ⟨_, rfl, h52⟩⟩⟩
        have ht64 := Kp.tr (Dw := Dw) hk63 hA hB
        replace hH := Hp.kp (Dw := Dw) hH hk63
        replace h_s2 := Sl.tr (Dw := Dw) h_s2 ht64
        replace h_s1 := Sl.tr (Dw := Dw) h_s1 ht64
        replace h44 := El.tr (Dw := Dw) h44 ht64
        replace h50 := El.tr (Dw := Dw) h50 ht64
        replace h52 := Sl.tr (Dw := Dw) h52 ht64
        replace hK := Tr.trans (Dw := Dw) hK ht64
        replace hr8 := Tr.trans (Dw := Dw) hr8 ht64
        replace hB := Nat.le_trans hB ht64.ex.size
        replace hA := ht64.new
        refine V_to (fun _ _ => rfl) ?_
        refine C_seq ?_
        refine C_region ?_
        refine V_y (Y_move rfl) rfl rfl rfl ?_
        obtain ⟨v65, h67, h66⟩ := El_know_Edit h44
        refine V_y (Y_loadA h67 Tryd.isAgg36 Tryd.sizeOf36 rfl) rfl rfl rfl ?_
        obtain ⟨v68, h70, h69⟩ := El_know_Edit h62
        refine V_y (Y_loadA h70 Tryd.isAgg36 Tryd.sizeOf36 rfl) rfl rfl rfl ?_
        obtain ⟨x71, hx71, h21⟩ := Option.bind_eq_some_iff.1 h21
        refine V_call eq_call rfl rfl rfl rfl (eq_spec w57 _ hK hA x29 v65 h66 x47 v68 h69 _ hx71) ?_
        rintro _ w72 ⟨rfl, hk73⟩
        have ht74 := Kp.tr (Dw := Dw) hk73 hA hB
        replace hH := Hp.kp (Dw := Dw) hH hk73
        replace h_s2 := Sl.tr (Dw := Dw) h_s2 ht74
        replace h_s1 := Sl.tr (Dw := Dw) h_s1 ht74
        replace h44 := El.tr (Dw := Dw) h44 ht74
        replace h62 := El.tr (Dw := Dw) h62 ht74
        replace h66 := Sl.tr (Dw := Dw) h66 ht74
        replace h69 := Sl.tr (Dw := Dw) h69 ht74
        replace hK := Tr.trans (Dw := Dw) hK ht74
        replace hr8 := Tr.trans (Dw := Dw) hr8 ht74
        replace hB := Nat.le_trans hB ht74.ex.size
        replace hA := ht74.new
        refine V_y (Y_not rfl) rfl rfl rfl ?_
        refine V_to (fun _ _ => rfl) ?_
        refine C_cond rfl (fun hc75 => ?_) (fun hc75 => ?_)
        · rw [if_pos hc75] at h21
          refine C_seq ?_
          refine C_region ?_
          refine V_y (Y_assign rfl) rfl rfl rfl ?_
          refine V_to (fun _ _ => rfl) ?_
          obtain rfl := Option.some.inj h21
          obtain rfl := (h22 : Lp.rt _ = _)
          rw [Lp.andThen_rt] at hm
          obtain rfl := Option.some.inj hm
          refine C_ret ?_
          try simp only [↓inBlock_ret, ↓then_ret]
          exact retQ rfl (Res.one Tryd.results22 rfl) ⟨rfl, hK.kp⟩
        · rw [if_neg (nt hc75)] at h21
          refine C_skip_to (fun _ _ => rfl) ?_
          refine C_region ?_
          refine V_y (Y_addI rfl rfl) rfl rfl rfl ?_
          refine V_y (Y_move rfl) rfl rfl rfl ?_
          obtain rfl := Option.some.inj h21
          refine V_end (fun a ha76 => ?_)
          exact ⟨(), hlt24, h22, ⟨A18, ha76.sub ⟨rfl, rfl, rfl, rfl, (congrArg (fun z => some (Value.int .i64 z)) (w64_succ hlt24 hn27)), trivial⟩, ⟨hH, hr8⟩⟩⟩
      · refine C_exit (fun a ha77 => ?_)
        exact ⟨((), A18), ha77.sub trivial, ⟨(h25 (eq_of_dec hle23 hc28)).symm, hH, hr8⟩⟩
    rintro ⟨s7, A13⟩ w10 ⟨rfl, hH14, hk11⟩ a ha12
    rw [Lp.andThen_fin] at hm
    replace hK := Tr.trans (Dw := Dw) hK hk11
    replace hB := Nat.le_trans hB hk11.ex.size
    replace hA := hk11.new
    replace hH : Hp w.heap.size A13 w10 ([]) := hH14
    refine C_at (n := ⟨32, [], none⟩) (fun _ _ => rfl) ?_ ha12
    refine C_seq ?_
    refine C_region ?_
    refine V_y (Y_assign rfl) rfl rfl rfl ?_
    refine V_to (fun _ _ => rfl) ?_
    obtain rfl := Option.some.inj hm
    refine C_ret ?_
    try simp only [↓inBlock_ret, ↓then_ret]
    exact retQ rfl (Res.one Tryd.results22 rfl) ⟨rfl, hK.kp⟩

set_option maxRecDepth 4000 in
set_option maxHeartbeats 4000000 in
theorem slices_Equal_Lstring_string_c (w : World) {A : Nat → Prop} (hA : ∀ b, w.heap.size ≤ b → A b) (s1 : (List ByteArray)) (v_s1 : Value) (h_s1 : Sl A w v_s1 s1) (s2 : (List ByteArray)) (v_s2 : Value) (h_s2 : Sl A w v_s2 s2) {r : Bool} (hm : slices_Equal_Lstring_string s1 s2 = some r) : Ret Tryd.prog 24 #[v_s1, v_s2] w fun v w' => v = .bool r ∧ Kp Dw w w' := by
  unfold slices_Equal_Lstring_string at hm
  refine enter Tryd.func24 rfl Tryd.ntmps24 rfl ?_
  have hA0 := hA
  have hB := Nat.le_refl w.heap.size
  have hK : Tr Dw w.heap.size A w A w := Tr.refl (Dw := Dw) hA
  have hH : Hp w.heap.size A w [] := Hp.nil
  refine C_seq ?_
  refine C_region ?_
  refine V_y (Y_assign rfl) rfl rfl rfl ?_
  refine V_to (fun _ _ => rfl) ?_
  refine C_seq ?_
  refine C_seq ?_
  refine C_region ?_
  refine V_y (Y_move rfl) rfl rfl rfl ?_
  refine V_y (Y_lenSl h_s1 rfl Tryd.underlying30 rfl) rfl rfl rfl ?_
  refine V_y (Y_move rfl) rfl rfl rfl ?_
  refine V_y (Y_lenSl h_s2 rfl Tryd.underlying30 rfl) rfl rfl rfl ?_
  refine V_y (Y_neq rfl rfl) rfl rfl rfl ?_
  refine V_to (fun _ _ => rfl) ?_
  refine C_cond rfl (fun hc5 => ?_) (fun hc5 => ?_)
  · rw [if_pos hc5] at hm
    refine C_seq ?_
    refine C_region ?_
    refine V_y (Y_assign rfl) rfl rfl rfl ?_
    refine V_to (fun _ _ => rfl) ?_
    obtain rfl := Option.some.inj hm
    refine C_ret ?_
    try simp only [↓inBlock_ret, ↓then_ret]
    exact retQ rfl (Res.one Tryd.results24 rfl) ⟨rfl, hK.kp⟩
  · rw [if_neg (nt hc5)] at hm
    refine C_skip_to (fun _ _ => rfl) ?_
    refine C_seq ?_
    refine C_seq ?_
    refine C_region ?_
    refine V_y (Y_move rfl) rfl rfl rfl ?_
    refine V_y (Y_lenSl h_s1 rfl Tryd.underlying30 rfl) rfl rfl rfl ?_
    refine V_y (Y_move rfl) rfl rfl rfl ?_
    refine V_to (fun _ _ => rfl) ?_
    have hn27 := Sl.le h_s1
    obtain ⟨o6, ho6, hm⟩ := Option.bind_eq_some_iff.1 hm
    refine C_cutG (ι := (Unit × (Nat → Prop))) (fun ⟨s7, A13⟩ => []) (fun ⟨s7, A13⟩ => fun w' => o6 = .fin s7 ∧ Hp w.heap.size A13 w' ([]) ∧ Tr Dw w.heap.size A w A13 w') ?_ ?_
    · refine C_block ?_
      refine C_range ho6 (fun k9 _ a w' => ∃ i : (Nat → Prop), Has ⟨26, [], none⟩ a ([(0, v_s1), (1, v_s2), (12, .int .i64 (s1.length : Int)), (13, .int .i64 (k9 : Int))]) ∧ Hp w.heap.size i w' ([]) ∧ Tr Dw w.heap.size A w i w') (fun a ha => ⟨A, ha.sub ⟨rfl, rfl, rfl, rfl, trivial⟩, ⟨hH, Tr.refl (Dw := Dw) hA⟩⟩) ?_
      rintro K k9 _ a w17 ⟨A18, ha43, hH19, hr8⟩ hle23 K26 h25
      refine C_of ?_ ha43
      replace h_s1 := Sl.tr (Dw := Dw) h_s1 hr8
      replace h_s2 := Sl.tr (Dw := Dw) h_s2 hr8
      replace hK := Tr.trans (Dw := Dw) hK hr8
      replace hB := Nat.le_trans hB hr8.ex.size
      replace hA := hr8.new
      replace hH : Hp w.heap.size A18 w17 ([]) := hH19
      refine C_seq (C_region (V_y (Y_lss rfl rfl) rfl rfl rfl (V_to (fun _ _ => rfl) ?_)))
      refine C_seq ?_
      refine C_cond rfl (fun hc28 => ?_) (fun hc28 => ?_)
      · have hlt24 := lt_of_dec hc28
        obtain ⟨x20, h21, h22⟩ := K26 hlt24
        refine C_skip_to (fun _ _ => rfl) ?_
        refine C_seq ?_
        refine C_block ?_
        refine C_seq ?_
        refine C_region ?_
        refine V_y (Y_move rfl) rfl rfl rfl ?_
        refine V_y (Y_assign rfl) rfl rfl rfl ?_
        refine V_to (fun _ _ => rfl) ?_
        refine C_seq ?_
        refine C_region_q (Dw := Dw) Tryd_mixed (by kernel_rfl) ?_
        refine VQ_y (fun w' hw' => Y_move rfl) rfl rfl rfl ?_
        refine VQ_y (fun w' hw' => Y_move rfl) rfl rfl rfl ?_
        obtain ⟨x29, hx29, h21⟩ := Option.bind_eq_some_iff.1 h21
        refine VQ_indexAddr h_s1 hx29 Tryd.underlying30 Tryd.sizeOf9 rfl rfl rfl ?_
        intro b30 o31 h32
        refine VQ_y (fun w' hw' => Y_load (El.str (El.kp (Dw := Dw) h32 hw')) Tryd.isAgg9 rfl) rfl rfl rfl ?_
        refine VQ_y (fun w' hw' => Y_move rfl) rfl rfl rfl ?_
        refine VQ_y (fun w' hw' => Y_move rfl) rfl rfl rfl ?_
        obtain ⟨x33, hx33, h21⟩ := Option.bind_eq_some_iff.1 h21
        refine VQ_indexAddr h_s2 hx33 Tryd.underlying30 Tryd.sizeOf9 rfl rfl rfl ?_
        intro b34 o35 h36
        refine VQ_y (fun w' hw' => Y_load (El.str (El.kp (Dw := Dw) h36 hw')) Tryd.isAgg9 rfl) rfl rfl rfl ?_
        refine VQ_y (fun w' hw' => Y_sneq rfl rfl) rfl rfl rfl ?_
        refine VQ_to (fun _ _ => rfl) (fun w37 hk38 => ?_)
        have ht39 := Kp.tr (Dw := Dw) hk38 hA hB
        replace hH := Hp.kp (Dw := Dw) hH hk38
        replace h_s1 := Sl.tr (Dw := Dw) h_s1 ht39
        replace h_s2 := Sl.tr (Dw := Dw) h_s2 ht39
        replace hK := Tr.trans (Dw := Dw) hK ht39
        replace hr8 := Tr.trans (Dw := Dw) hr8 ht39
        replace hB := Nat.le_trans hB ht39.ex.size
        replace hA := ht39.new
        refine C_cond rfl (fun hc40 => ?_) (fun hc40 => ?_)
        · rw [if_pos hc40] at h21
          refine C_seq ?_
          refine C_region ?_
          refine V_y (Y_assign rfl) rfl rfl rfl ?_
          refine V_to (fun _ _ => rfl) ?_
          obtain rfl := Option.some.inj h21
          obtain rfl := (h22 : Lp.rt _ = _)
          rw [Lp.andThen_rt] at hm
          obtain rfl := Option.some.inj hm
          refine C_ret ?_
          try simp only [↓inBlock_ret, ↓then_ret]
          exact retQ rfl (Res.one Tryd.results24 rfl) ⟨rfl, hK.kp⟩
        · rw [if_neg (nt hc40)] at h21
          refine C_skip_to (fun _ _ => rfl) ?_
          refine C_region ?_
          refine V_y (Y_addI rfl rfl) rfl rfl rfl ?_
          refine V_y (Y_move rfl) rfl rfl rfl ?_
          obtain rfl := Option.some.inj h21
          refine V_end (fun a ha41 => ?_)
          exact ⟨(), hlt24, h22, ⟨A18, ha41.sub ⟨rfl, rfl, rfl, (congrArg (fun z => some (Value.int .i64 z)) (w64_succ hlt24 hn27)), trivial⟩, ⟨hH, hr8⟩⟩⟩
      · refine C_exit (fun a ha42 => ?_)
        exact ⟨((), A18), ha42.sub trivial, ⟨(h25 (eq_of_dec hle23 hc28)).symm, hH, hr8⟩⟩
    rintro ⟨s7, A13⟩ w10 ⟨rfl, hH14, hk11⟩ a ha12
    rw [Lp.andThen_fin] at hm
    replace hK := Tr.trans (Dw := Dw) hK hk11
    replace hB := Nat.le_trans hB hk11.ex.size
    replace hA := hk11.new
    replace hH : Hp w.heap.size A13 w10 ([]) := hH14
    refine C_at (n := ⟨26, [], none⟩) (fun _ _ => rfl) ?_ ha12
    refine C_seq ?_
    refine C_region ?_
    refine V_y (Y_assign rfl) rfl rfl rfl ?_
    refine V_to (fun _ _ => rfl) ?_
    obtain rfl := Option.some.inj hm
    refine C_ret ?_
    try simp only [↓inBlock_ret, ↓then_ret]
    exact retQ rfl (Res.one Tryd.results24 rfl) ⟨rfl, hK.kp⟩

set_option maxRecDepth 4000 in
set_option maxHeartbeats 4000000 in
theorem portref2_Alike_3_c (w : World) {A : Nat → Prop} (hA : ∀ b, w.heap.size ≤ b → A b) (a_ : know_Edit) (v_a_ : Value) (h_a_ : Sl A w v_a_ a_.add) (b : know_Edit) (v_b : Value) (h_b : Sl A w v_b b.add) {r : Bool} (hm : portref2_Alike_3 a_ b = some r) : Ret Tryd.prog 23 #[.agg #[.int .i64 a_.at_, .int .i64 a_.drop, v_a_], .agg #[.int .i64 b.at_, .int .i64 b.drop, v_b]] w fun v w' => v = .bool r ∧ Kp Dw w w' := by
  unfold portref2_Alike_3 at hm
  refine enter Tryd.func23 rfl Tryd.ntmps23 rfl ?_
  have hA0 := hA
  have hB := Nat.le_refl w.heap.size
  have hK : Tr Dw w.heap.size A w A w := Tr.refl (Dw := Dw) hA
  have hH : Hp w.heap.size A w [] := Hp.nil
  refine C_seq ?_
  refine C_region ?_
  refine V_box rfl rfl ?_
  intro b5 w6 h7
  have hk9 := h7.kp (Dw := Dw)
  have h8 : El (α := know_Edit) A w6 b5 0 a_ := h7.el hA ⟨[.int .i64 a_.at_], _, rfl, rfl, ⟨[.int .i64 a_.drop], _, rfl, rfl, ⟨_, rfl, h_a_⟩⟩⟩
  have ht10 := Kp.tr (Dw := Dw) hk9 hA hB
  replace hH := Hp.kp (Dw := Dw) hH hk9
  replace h_a_ := Sl.tr (Dw := Dw) h_a_ ht10
  replace h_b := Sl.tr (Dw := Dw) h_b ht10
  replace hK := Tr.trans (Dw := Dw) hK ht10
  replace hB := Nat.le_trans hB ht10.ex.size
  replace hA := ht10.new
  refine V_box rfl rfl ?_
  intro b11 w12 h13
  have hk15 := h13.kp (Dw := Dw)
  have h14 : El (α := know_Edit) A w12 b11 0 b := h13.el hA ⟨[.int .i64 b.at_], _, rfl, rfl, ⟨[.int .i64 b.drop], _, rfl, rfl, ⟨_, rfl, h_b⟩⟩⟩
  have ht16 := Kp.tr (Dw := Dw) hk15 hA hB
  replace hH := Hp.kp (Dw := Dw) hH hk15
  replace h_a_ := Sl.tr (Dw := Dw) h_a_ ht16
  replace h_b := Sl.tr (Dw := Dw) h_b ht16
  replace h8 := El.tr (Dw := Dw) h8 ht16
  replace hK := Tr.trans (Dw := Dw) hK ht16
  replace hB := Nat.le_trans hB ht16.ex.size
  replace hA := ht16.new
  refine V_y (Y_assign rfl) rfl rfl rfl ?_
  refine V_to (fun _ _ => rfl) ?_
  refine C_seq ?_
  obtain ⟨s18, ho17, hm⟩ := Option.bind_eq_some_iff.1 hm
  refine C_cutG (ι := (Nat → Prop)) (fun (A23 : (Nat → Prop)) => [(4, .bool s18)]) (fun (A23 : (Nat → Prop)) => fun w' => Hp w.heap.size A23 w' ([]) ∧ Tr Dw w.heap.size A w12 A23 w') ?_ ?_
  · have hr19 : Tr Dw w.heap.size A w12 A w12 := Tr.refl (Dw := Dw) hA
    refine C_region ?_
    have h25 := El_know_Edit_0 h8
    refine V_y (Y_fieldAddr Tryd.underlying36 rfl Tryd.sizeOf3 (by decide) rfl) rfl rfl rfl ?_
    refine V_y (Y_load (El.int h25) Tryd.isAgg3 rfl) rfl rfl rfl ?_
    have h26 := El_know_Edit_0 h14
    refine V_y (Y_fieldAddr Tryd.underlying36 rfl Tryd.sizeOf3 (by decide) rfl) rfl rfl rfl ?_
    refine V_y (Y_load (El.int h26) Tryd.isAgg3 rfl) rfl rfl rfl ?_
    refine V_y (Y_eql rfl rfl) rfl rfl rfl ?_
    refine V_y (Y_move rfl) rfl rfl rfl ?_
    rcases Bool.eq_false_or_eq_true (a_.at_ == b.at_) with hc27 | hc27
    · rw [if_pos hc27] at ho17
      refine V_ge rfl rfl rfl hc27 ?_
      have h28 := El_know_Edit_1 h8
      refine V_y (Y_fieldAddr Tryd.underlying36 rfl Tryd.sizeOf3 (by decide) rfl) rfl rfl rfl ?_
      refine V_ge rfl rfl rfl hc27 ?_
      refine V_y (Y_load (El.int h28) Tryd.isAgg3 rfl) rfl rfl rfl ?_
      refine V_ge rfl rfl rfl hc27 ?_
      have h29 := El_know_Edit_1 h14
      refine V_y (Y_fieldAddr Tryd.underlying36 rfl Tryd.sizeOf3 (by decide) rfl) rfl rfl rfl ?_
      refine V_ge rfl rfl rfl hc27 ?_
      refine V_y (Y_load (El.int h29) Tryd.isAgg3 rfl) rfl rfl rfl ?_
      refine V_ge rfl rfl rfl hc27 ?_
      refine V_y (Y_eql rfl rfl) rfl rfl rfl ?_
      refine V_y (Y_pick_te rfl hc27 rfl) rfl rfl rfl ?_
      refine V_y (Y_move rfl) rfl rfl rfl ?_
      rcases Bool.eq_false_or_eq_true (a_.drop == b.drop) with hc30 | hc30
      · rw [if_pos hc30] at ho17
        refine V_ge rfl rfl rfl hc30 ?_
        have h31 := El_know_Edit_2 h8
        refine V_y (Y_fieldAddr Tryd.underlying36 rfl Tryd.sizeOf30 (by decide) rfl) rfl rfl rfl ?_
        refine V_ge rfl rfl rfl hc30 ?_
        obtain ⟨v32, h33, h34⟩ := El.list h31
        refine V_y (Y_load h33 Tryd.isAgg30 rfl) rfl rfl rfl ?_
        refine V_ge rfl rfl rfl hc30 ?_
        have h35 := El_know_Edit_2 h14
        refine V_y (Y_fieldAddr Tryd.underlying36 rfl Tryd.sizeOf30 (by decide) rfl) rfl rfl rfl ?_
        refine V_ge rfl rfl rfl hc30 ?_
        obtain ⟨v36, h37, h38⟩ := El.list h35
        refine V_y (Y_load h37 Tryd.isAgg30 rfl) rfl rfl rfl ?_
        refine V_ge rfl rfl rfl hc30 ?_
        obtain ⟨x39, hx39, ho17⟩ := Option.bind_eq_some_iff.1 ho17
        refine V_call Tryd.call24 rfl rfl rfl rfl (slices_Equal_Lstring_string_c (Dw := Dw) w12 hA a_.add v32 h34 b.add v36 h38 hx39) ?_
        rintro _ w40 ⟨rfl, hk41⟩
        have ht42 := Kp.tr (Dw := Dw) hk41 hA hB
        replace hH := Hp.kp (Dw := Dw) hH hk41
        replace h8 := El.tr (Dw := Dw) h8 ht42
        replace h14 := El.tr (Dw := Dw) h14 ht42
        replace h25 := El.tr (Dw := Dw) h25 ht42
        replace h26 := El.tr (Dw := Dw) h26 ht42
        replace h28 := El.tr (Dw := Dw) h28 ht42
        replace h29 := El.tr (Dw := Dw) h29 ht42
        replace h31 := El.tr (Dw := Dw) h31 ht42
        replace h34 := Sl.tr (Dw := Dw) h34 ht42
        replace h35 := El.tr (Dw := Dw) h35 ht42
        replace h38 := Sl.tr (Dw := Dw) h38 ht42
        replace hK := Tr.trans (Dw := Dw) hK ht42
        replace hr19 := Tr.trans (Dw := Dw) hr19 ht42
        replace hB := Nat.le_trans hB ht42.ex.size
        replace hA := ht42.new
        refine V_y (Y_pick_te rfl hc30 rfl) rfl rfl rfl ?_
        refine V_y (Y_assign rfl) rfl rfl rfl ?_
        obtain rfl := Option.some.inj ho17
        refine V_end (fun a ha43 => ?_)
        exact ⟨A, ha43.sub ⟨rfl, trivial⟩, ⟨hH, hr19⟩⟩
      · rw [if_neg (nt hc30)] at ho17
        refine V_gn rfl rfl rfl hc30 rfl rfl rfl ?_
        refine V_gn rfl rfl rfl hc30 rfl rfl rfl ?_
        refine V_gn rfl rfl rfl hc30 rfl rfl rfl ?_
        refine V_gn rfl rfl rfl hc30 rfl rfl rfl ?_
        refine V_gn rfl rfl rfl hc30 rfl rfl rfl ?_
        refine V_y (Y_pick_fe rfl hc30 rfl) rfl rfl rfl ?_
        refine V_y (Y_assign rfl) rfl rfl rfl ?_
        obtain rfl := Option.some.inj ho17
        refine V_end (fun a ha44 => ?_)
        exact ⟨A, ha44.sub ⟨rfl, trivial⟩, ⟨hH, hr19⟩⟩
    · rw [if_neg (nt hc27)] at ho17
      refine V_gn rfl rfl rfl hc27 rfl rfl rfl ?_
      refine V_gn rfl rfl rfl hc27 rfl rfl rfl ?_
      refine V_gn rfl rfl rfl hc27 rfl rfl rfl ?_
      refine V_gn rfl rfl rfl hc27 rfl rfl rfl ?_
      refine V_gn rfl rfl rfl hc27 rfl rfl rfl ?_
      refine V_y (Y_pick_fe rfl hc27 rfl) rfl rfl rfl ?_
      refine V_y (Y_move rfl) rfl rfl rfl ?_
      rcases Bool.eq_false_or_eq_true (false) with hc45 | hc45
      · rw [if_pos hc45] at ho17
        refine V_ge rfl rfl rfl hc45 ?_
        have h46 := El_know_Edit_2 h8
        refine V_y (Y_fieldAddr Tryd.underlying36 rfl Tryd.sizeOf30 (by decide) rfl) rfl rfl rfl ?_
        refine V_ge rfl rfl rfl hc45 ?_
        obtain ⟨v47, h48, h49⟩ := El.list h46
        refine V_y (Y_load h48 Tryd.isAgg30 rfl) rfl rfl rfl ?_
        refine V_ge rfl rfl rfl hc45 ?_
        have h50 := El_know_Edit_2 h14
        refine V_y (Y_fieldAddr Tryd.underlying36 rfl Tryd.sizeOf30 (by decide) rfl) rfl rfl rfl ?_
        refine V_ge rfl rfl rfl hc45 ?_
        obtain ⟨v51, h52, h53⟩ := El.list h50
        refine V_y (Y_load h52 Tryd.isAgg30 rfl) rfl rfl rfl ?_
        refine V_ge rfl rfl rfl hc45 ?_
        obtain ⟨x54, hx54, ho17⟩ := Option.bind_eq_some_iff.1 ho17
        refine V_call Tryd.call24 rfl rfl rfl rfl (slices_Equal_Lstring_string_c (Dw := Dw) w12 hA a_.add v47 h49 b.add v51 h53 hx54) ?_
        rintro _ w55 ⟨rfl, hk56⟩
        have ht57 := Kp.tr (Dw := Dw) hk56 hA hB
        replace hH := Hp.kp (Dw := Dw) hH hk56
        replace h8 := El.tr (Dw := Dw) h8 ht57
        replace h14 := El.tr (Dw := Dw) h14 ht57
        replace h25 := El.tr (Dw := Dw) h25 ht57
        replace h26 := El.tr (Dw := Dw) h26 ht57
        replace h46 := El.tr (Dw := Dw) h46 ht57
        replace h49 := Sl.tr (Dw := Dw) h49 ht57
        replace h50 := El.tr (Dw := Dw) h50 ht57
        replace h53 := Sl.tr (Dw := Dw) h53 ht57
        replace hK := Tr.trans (Dw := Dw) hK ht57
        replace hr19 := Tr.trans (Dw := Dw) hr19 ht57
        replace hB := Nat.le_trans hB ht57.ex.size
        replace hA := ht57.new
        refine V_y (Y_pick_te rfl hc45 rfl) rfl rfl rfl ?_
        refine V_y (Y_assign rfl) rfl rfl rfl ?_
        obtain rfl := Option.some.inj ho17
        refine V_end (fun a ha58 => ?_)
        exact ⟨A, ha58.sub ⟨rfl, trivial⟩, ⟨hH, hr19⟩⟩
      · rw [if_neg (nt hc45)] at ho17
        refine V_gn rfl rfl rfl hc45 rfl rfl rfl ?_
        refine V_gn rfl rfl rfl hc45 rfl rfl rfl ?_
        refine V_gn rfl rfl rfl hc45 rfl rfl rfl ?_
        refine V_gn rfl rfl rfl hc45 rfl rfl rfl ?_
        refine V_gn rfl rfl rfl hc45 rfl rfl rfl ?_
        refine V_y (Y_pick_fe rfl hc45 rfl) rfl rfl rfl ?_
        refine V_y (Y_assign rfl) rfl rfl rfl ?_
        obtain rfl := Option.some.inj ho17
        refine V_end (fun a ha59 => ?_)
        exact ⟨A, ha59.sub ⟨rfl, trivial⟩, ⟨hH, hr19⟩⟩
  rintro A23 w20 ⟨hH24, hk21⟩ a ha22
  replace hK := Tr.trans (Dw := Dw) hK hk21
  replace hB := Nat.le_trans hB hk21.ex.size
  replace hA := hk21.new
  replace hH : Hp w.heap.size A23 w20 ([]) := hH24
  refine C_at (n := ⟨24, [], none⟩) (fun _ _ => rfl) ?_ ha22
  obtain rfl := Option.some.inj hm
  refine C_ret ?_
  try simp only [↓inBlock_ret, ↓then_ret]
  exact retQ rfl (Res.one Tryd.results23 rfl) ⟨rfl, hK.kp⟩

set_option maxRecDepth 4000 in
set_option maxHeartbeats 4000000 in
theorem portref2_Alike_c (w : World) {A : Nat → Prop} (hA : ∀ b, w.heap.size ≤ b → A b) (a_ : (List know_Edit)) (v_a_ : Value) (h_a_ : Sl A w v_a_ a_) (b : (List know_Edit)) (v_b : Value) (h_b : Sl A w v_b b) {r : Bool} (hm : portref2_Alike a_ b = some r) : Ret Tryd.prog 6 #[.iface 22 v_a_, .iface 22 v_b] w fun v w' => v = .bool r ∧ Kp Dw w w' := by
  unfold portref2_Alike at hm
  refine enter Tryd.func6 rfl Tryd.ntmps6 rfl ?_
  have hA0 := hA
  have hB := Nat.le_refl w.heap.size
  have hK : Tr Dw w.heap.size A w A w := Tr.refl (Dw := Dw) hA
  have hH : Hp w.heap.size A w [] := Hp.nil
  refine C_seq ?_
  refine C_region ?_
  refine V_y (Y_assign rfl) rfl rfl rfl ?_
  refine V_to (fun _ _ => rfl) ?_
  refine C_seq ?_
  refine C_seq ?_
  refine C_region ?_
  refine V_y (Y_move rfl) rfl rfl rfl ?_
  refine V_to (fun _ _ => rfl) ?_
  refine C_block ?_
  refine C_seq ?_
  refine C_region ?_
  refine V_y (Y_asNS Tryd.underlying45 Tryd.zeroValue45 (by decide) rfl) rfl rfl rfl ?_
  refine V_y (Y_extract rfl rfl) rfl rfl rfl ?_
  refine V_y (Y_extract rfl rfl) rfl rfl rfl ?_
  refine V_to (fun _ _ => rfl) ?_
  refine C_cond rfl (fun hc => ?_) (fun hc => ?_)
  · exact absurd hc (by decide)
  · refine C_seq ?_
    refine C_region ?_
    refine V_y (Y_asNL Tryd.underlying57 Tryd.zeroValue57 (by decide) rfl) rfl rfl rfl ?_
    refine V_y (Y_extract rfl rfl) rfl rfl rfl ?_
    refine V_y (Y_extract rfl rfl) rfl rfl rfl ?_
    refine V_to (fun _ _ => rfl) ?_
    refine C_cond rfl (fun hc => ?_) (fun hc => ?_)
    · exact absurd hc (by decide)
    · refine C_seq ?_
      refine C_region ?_
      refine V_y (Y_asIL Tryd.underlying22 rfl) rfl rfl rfl ?_
      refine V_y (Y_extract rfl rfl) rfl rfl rfl ?_
      refine V_y (Y_extract rfl rfl) rfl rfl rfl ?_
      refine V_to (fun _ _ => rfl) ?_
      refine C_cond rfl (fun hc => ?_) (fun hc => ?_)
      · refine C_seq ?_
        refine C_region ?_
        refine V_y (Y_assign rfl) rfl rfl rfl ?_
        refine V_to (fun _ _ => rfl) ?_
        refine C_seq ?_
        refine C_region ?_
        refine V_y (Y_move rfl) rfl rfl rfl ?_
        refine V_y (Y_asIL Tryd.underlying22 rfl) rfl rfl rfl ?_
        refine V_y (Y_move rfl) rfl rfl rfl ?_
        refine V_y (Y_extract rfl rfl) rfl rfl rfl ?_
        refine V_y (Y_extract rfl rfl) rfl rfl rfl ?_
        refine V_y (Y_assign rfl) rfl rfl rfl ?_
        refine V_y (Y_assign rfl) rfl rfl rfl ?_
        refine V_to (fun _ _ => rfl) ?_
        refine C_seq ?_
        obtain ⟨s6, ho5, hm⟩ := Option.bind_eq_some_iff.1 hm
        refine C_cutG (ι := (Nat → Prop)) (fun (A12 : (Nat → Prop)) => [(4, .bool s6)]) (fun (A12 : (Nat → Prop)) => fun w' => Hp w.heap.size A12 w' ([]) ∧ Tr Dw w.heap.size A w A12 w') ?_ ?_
        · have hr7 : Tr Dw w.heap.size A w A w := Tr.refl (Dw := Dw) hA
          refine C_region ?_
          refine V_y (Y_move rfl) rfl rfl rfl ?_
          refine V_y (Y_move rfl) rfl rfl rfl ?_
          rcases Bool.eq_false_or_eq_true (true) with hc14 | hc14
          · rw [if_pos hc14] at ho5
            refine V_ge rfl rfl rfl hc14 ?_
            refine V_y (Y_move rfl) rfl rfl rfl ?_
            refine V_ge rfl rfl rfl hc14 ?_
            refine V_y (Y_move rfl) rfl rfl rfl ?_
            refine V_ge rfl rfl rfl hc14 ?_
            obtain ⟨x17, hx17, ho5⟩ := Option.bind_eq_some_iff.1 ho5
            refine V_call Tryd.call22 rfl rfl rfl rfl (slices_EqualFunc_Lknow_Edit_Lknow_Edit_know_Edit_know_Edit_c (Dw := Dw) w hA a_ v_a_ h_a_ b v_b h_b (fun y30 y31 => portref2_Alike_3 y30 y31) 23 #[] #[] Tryd.call23 (fun w26 A27 ht28 h29 y18 v19 h20 y21 v22 h23 r24 h25 => (portref2_Alike_3_c (Dw := Dw) w26 h29 y18 v19 h20 y21 v22 h23  h25).mono (fun _ _ h => ⟨h.1, h.2⟩)) hx17) ?_
            rintro _ w33 ⟨rfl, hk34⟩
            have ht35 := Kp.tr (Dw := Dw) hk34 hA hB
            replace hH := Hp.kp (Dw := Dw) hH hk34
            replace h_a_ := Sl.tr (Dw := Dw) h_a_ ht35
            replace h_b := Sl.tr (Dw := Dw) h_b ht35
            replace hK := Tr.trans (Dw := Dw) hK ht35
            replace hr7 := Tr.trans (Dw := Dw) hr7 ht35
            replace hB := Nat.le_trans hB ht35.ex.size
            replace hA := ht35.new
            refine V_y (Y_pick_te rfl hc14 rfl) rfl rfl rfl ?_
            refine V_y (Y_assign rfl) rfl rfl rfl ?_
            obtain rfl := Option.some.inj ho5
            refine V_end (fun a ha36 => ?_)
            exact ⟨A, ha36.sub ⟨rfl, trivial⟩, ⟨hH, hr7⟩⟩
          · rw [if_neg (nt hc14)] at ho5
            refine V_gn rfl rfl rfl hc14 rfl rfl rfl ?_
            refine V_gn rfl rfl rfl hc14 rfl rfl rfl ?_
            refine V_gn rfl rfl rfl hc14 rfl rfl rfl ?_
            refine V_y (Y_pick_fe rfl hc14 rfl) rfl rfl rfl ?_
            refine V_y (Y_assign rfl) rfl rfl rfl ?_
            obtain rfl := Option.some.inj ho5
            refine V_end (fun a ha37 => ?_)
            exact ⟨A, ha37.sub ⟨rfl, trivial⟩, ⟨hH, hr7⟩⟩
        rintro A12 w9 ⟨hH13, hk10⟩ a ha11
        replace hK := Tr.trans (Dw := Dw) hK hk10
        replace hB := Nat.le_trans hB hk10.ex.size
        replace hA := hk10.new
        replace hH : Hp w.heap.size A12 w9 ([]) := hH13
        refine C_at (n := ⟨248, [], none⟩) (fun _ _ => rfl) ?_ ha11
        obtain rfl := Option.some.inj hm
        refine C_ret ?_
        try simp only [↓inBlock_ret, ↓then_ret]
        exact retQ rfl (Res.one Tryd.results6 rfl) ⟨rfl, hK.kp⟩
      · exact absurd hc (by decide)

set_option maxRecDepth 4000 in
set_option maxHeartbeats 4000000 in
theorem portlaw2_KnowDiffers_c (w : World) {A : Nat → Prop} (hA : ∀ b, w.heap.size ≤ b → A b) (hT : Mx Tryd.prog 0 A w) (a_ : ByteArray) (b : ByteArray) {r : Bool} (hm : portlaw2_KnowDiffers a_ b = some r) : Ret Tryd.prog 3 #[.string a_, .string b] w fun v w' => v = .bool r ∧ Kp Dw w w' := by
  unfold portlaw2_KnowDiffers at hm
  refine enter Tryd.func3 rfl Tryd.ntmps3 rfl ?_
  have hA0 := hA
  have hB := Nat.le_refl w.heap.size
  have hK : Tr Dw w.heap.size A w A w := Tr.refl (Dw := Dw) hA
  have hH : Hp w.heap.size A w [] := Hp.nil
  refine C_seq ?_
  refine C_region ?_
  refine V_y (Y_assign rfl) rfl rfl rfl ?_
  refine V_to (fun _ _ => rfl) ?_
  refine C_seq ?_
  refine C_region ?_
  refine V_y (Y_move rfl) rfl rfl rfl ?_
  refine V_y (Y_move rfl) rfl rfl rfl ?_
  obtain ⟨x1, hx1, hm⟩ := Option.bind_eq_some_iff.1 hm
  refine V_call Tryd.call4 rfl rfl rfl rfl (know_Differ_c (Dw := Dw) w hB hA (Mx.tr (Dw := Dw) hT hK) a_ b hH hx1) ?_
  rintro _ w4 ⟨v2, A5, rfl, hH6, ht7⟩
  replace hK := Tr.trans (Dw := Dw) hK ht7
  replace hB := Nat.le_trans hB ht7.ex.size
  replace hA := ht7.new
  replace hH : Hp w.heap.size A5 w4 (obS (α := know_Edit) 36 v2 x1.1 :: []) := hH6
  refine V_y (Y_move rfl) rfl rfl rfl ?_
  refine V_y (Y_extract rfl rfl) rfl rfl rfl ?_
  refine V_y (Y_extract rfl rfl) rfl rfl rfl ?_
  refine V_y (Y_assign rfl) rfl rfl rfl ?_
  refine V_y (Y_assign rfl) rfl rfl rfl ?_
  refine V_to (fun _ _ => rfl) ?_
  refine C_seq ?_
  refine C_region ?_
  refine V_y (Y_move rfl) rfl rfl rfl ?_
  refine V_y (Y_move rfl) rfl rfl rfl ?_
  obtain ⟨x8, hx8, hm⟩ := Option.bind_eq_some_iff.1 hm
  refine V_call Tryd.call5 rfl rfl rfl rfl (portref2_DifferOf_c (Dw := Dw) w4 hB hA (Mx.tr (Dw := Dw) hT hK) a_ b hH hx8) ?_
  rintro _ w11 ⟨v9, A12, rfl, hH13, ht14⟩
  replace hK := Tr.trans (Dw := Dw) hK ht14
  replace hB := Nat.le_trans hB ht14.ex.size
  replace hA := ht14.new
  replace hH : Hp w.heap.size A12 w11 (obS (α := know_Edit) 36 v9 x8.1 :: obS (α := know_Edit) 36 v2 x1.1 :: []) := hH13
  refine V_y (Y_move rfl) rfl rfl rfl ?_
  refine V_y (Y_extract rfl rfl) rfl rfl rfl ?_
  refine V_y (Y_extract rfl rfl) rfl rfl rfl ?_
  refine V_y (Y_assign rfl) rfl rfl rfl ?_
  refine V_y (Y_assign rfl) rfl rfl rfl ?_
  refine V_to (fun _ _ => rfl) ?_
  refine C_seq ?_
  obtain ⟨A15, ht16, h17, hH18⟩ := Hp.freeze (Dw := Dw) (α := know_Edit) (v := v2) (l := x1.1) hH (i := 1) rfl hA
  replace hK := Tr.trans (Dw := Dw) hK ht16
  replace hB := Nat.le_trans hB ht16.ex.size
  replace hA := ht16.new
  replace hH : Hp w.heap.size A15 w11 (obS (α := know_Edit) 36 v9 x8.1 :: []) := hH18
  obtain ⟨A20, ht21, h22, hH23⟩ := Hp.freeze (Dw := Dw) (α := know_Edit) (v := v9) (l := x8.1) hH (i := 0) rfl hA
  replace h17 := Sl.tr (Dw := Dw) h17 ht21
  replace hK := Tr.trans (Dw := Dw) hK ht21
  replace hB := Nat.le_trans hB ht21.ex.size
  replace hA := ht21.new
  replace hH : Hp w.heap.size A20 w11 ([]) := hH23
  obtain ⟨s26, ho25, hm⟩ := Option.bind_eq_some_iff.1 hm
  refine C_cutG (ι := (Nat → Prop)) (fun (A31 : (Nat → Prop)) => [(4, .bool s26)]) (fun (A31 : (Nat → Prop)) => fun w' => Hp w.heap.size A31 w' ([]) ∧ Tr Dw w.heap.size A20 w11 A31 w') ?_ ?_
  · have hr27 : Tr Dw w.heap.size A20 w11 A20 w11 := Tr.refl (Dw := Dw) hA
    refine C_region ?_
    refine V_y (Y_move rfl) rfl rfl rfl ?_
    refine V_y (Y_move rfl) rfl rfl rfl ?_
    refine V_y (Y_eql rfl rfl) rfl rfl rfl ?_
    refine V_y (Y_move rfl) rfl rfl rfl ?_
    rcases Bool.eq_false_or_eq_true (x1.2 == x8.2) with hc33 | hc33
    · rw [if_pos hc33] at ho25
      refine V_ge rfl rfl rfl hc33 ?_
      refine V_y (Y_move rfl) rfl rfl rfl ?_
      refine V_ge rfl rfl rfl hc33 ?_
      refine V_y (Y_mkIL Tryd.underlying22 rfl) rfl rfl rfl ?_
      refine V_ge rfl rfl rfl hc33 ?_
      refine V_y (Y_move rfl) rfl rfl rfl ?_
      refine V_ge rfl rfl rfl hc33 ?_
      refine V_y (Y_mkIL Tryd.underlying22 rfl) rfl rfl rfl ?_
      refine V_ge rfl rfl rfl hc33 ?_
      obtain ⟨x34, hx34, ho25⟩ := Option.bind_eq_some_iff.1 ho25
      refine V_call Tryd.call6 rfl rfl rfl rfl (portref2_Alike_c (Dw := Dw) w11 hA x1.1 v2 h17 x8.1 v9 h22 hx34) ?_
      rintro _ w35 ⟨rfl, hk36⟩
      have ht37 := Kp.tr (Dw := Dw) hk36 hA hB
      replace hH := Hp.kp (Dw := Dw) hH hk36
      replace h17 := Sl.tr (Dw := Dw) h17 ht37
      replace h22 := Sl.tr (Dw := Dw) h22 ht37
      replace hK := Tr.trans (Dw := Dw) hK ht37
      replace hr27 := Tr.trans (Dw := Dw) hr27 ht37
      replace hB := Nat.le_trans hB ht37.ex.size
      replace hA := ht37.new
      refine V_y (Y_pick_te rfl hc33 rfl) rfl rfl rfl ?_
      refine V_y (Y_assign rfl) rfl rfl rfl ?_
      obtain rfl := Option.some.inj ho25
      refine V_end (fun a ha38 => ?_)
      exact ⟨A20, ha38.sub ⟨rfl, trivial⟩, ⟨hH, hr27⟩⟩
    · rw [if_neg (nt hc33)] at ho25
      refine V_gn rfl rfl rfl hc33 rfl rfl rfl ?_
      refine V_gn rfl rfl rfl hc33 rfl rfl rfl ?_
      refine V_gn rfl rfl rfl hc33 rfl rfl rfl ?_
      refine V_gn rfl rfl rfl hc33 rfl rfl rfl ?_
      refine V_gn rfl rfl rfl hc33 rfl rfl rfl ?_
      refine V_y (Y_pick_fe rfl hc33 rfl) rfl rfl rfl ?_
      refine V_y (Y_assign rfl) rfl rfl rfl ?_
      obtain rfl := Option.some.inj ho25
      refine V_end (fun a ha39 => ?_)
      exact ⟨A20, ha39.sub ⟨rfl, trivial⟩, ⟨hH, hr27⟩⟩
  rintro A31 w28 ⟨hH32, hk29⟩ a ha30
  replace hK := Tr.trans (Dw := Dw) hK hk29
  replace hB := Nat.le_trans hB hk29.ex.size
  replace hA := hk29.new
  replace hH : Hp w.heap.size A31 w28 ([]) := hH32
  refine C_at (n := ⟨31, [], none⟩) (fun _ _ => rfl) ?_ ha30
  obtain rfl := Option.some.inj hm
  refine C_ret ?_
  try simp only [↓inBlock_ret, ↓then_ret]
  exact retQ rfl (Res.one Tryd.results3 rfl) ⟨rfl, hK.kp⟩

end Go.Proofs.YtdedbofpidgjhaaDoor.W
