/-
  Written by program (gen.py) from the IR of the dump: each function computes its model.
-/
import Derived.Test.YtnkjmfbpkbooeaaGreatDoorClockReadsW1
namespace Go.Proofs.YtnkjmfbpkbooeaaGreatDoor.W
open Go Go.RowKit Go.Pu Go.Gw Go.Proofs Go.Proofs.YtnkjmfbpkbooeaaGreatDoor.M
set_option linter.unusedVariables false
set_option linter.unusedSimpArgs false
variable {Dw : Prop}

set_option maxRecDepth 4000 in
set_option maxHeartbeats 4000000 in
theorem portref2_ReadClockOf_c (w : World) {A : Nat → Prop} (hA : ∀ b, w.heap.size ≤ b → A b) (hT : Fz Tryz_FR A w) (s : ByteArray) {r : (level_Clock × Int)} (hm : portref2_ReadClockOf s = some r) : Ret Tryz.prog 5 #[.string s] w fun v w' => ∃ s0, v = .tuple #[.agg #[.int .i64 r.1.kind, .int .i64 r.1.level, .int .i64 r.1.minutes, .int .i64 r.1.start, .int .i64 r.1.stop, .int .i64 r.1.end_, s0], .int .i64 r.2] ∧ Sl A w' s0 r.1.pieces ∧ Kp False w w' := by
  unfold portref2_ReadClockOf at hm
  refine enter Tryz.func5 rfl Tryz.ntmps5 rfl ?_
  have hA0 := hA
  have hB := Nat.le_refl w.heap.size
  have hK : Tr False w.heap.size A w A w := Tr.refl (Dw := False) hA
  have hH : Hp w.heap.size A w [] := Hp.nil
  refine C_seq ?_
  refine C_region ?_
  refine V_allocH (Dw := False) (B := w.heap.size) hH Tryz.zeroValue24 hB hA rfl ?_
  intro b1 w2 A3 hH4 ht5
  replace hK := Tr.trans (Dw := False) hK ht5
  replace hB := Nat.le_trans hB ht5.ex.size
  replace hA := ht5.new
  replace hH : Hp w.heap.size A3 w2 (obC b1 [.int .i64 0, .int .i64 0, .int .i64 0, .int .i64 0, .int .i64 0, .int .i64 0, .slice none 0 0] 24 :: []) := hH4
  refine V_y (Y_assign rfl) rfl rfl rfl ?_
  refine V_to (fun _ _ => rfl) ?_
  refine C_seq ?_
  refine C_seq ?_
  refine C_region ?_
  refine V_y (Y_move rfl) rfl rfl rfl ?_
  refine V_y (Y_lenStr rfl Tryz.underlying9 rfl) rfl rfl rfl ?_
  refine V_y (Y_gtr rfl rfl) rfl rfl rfl ?_
  refine V_to (fun _ _ => rfl) ?_
  refine C_cond rfl (fun hc6 => ?_) (fun hc6 => ?_)
  · rw [if_pos hc6] at hm
    refine C_seq ?_
    refine C_region ?_
    refine V_y (Y_build Tryz.underlying24 Tryz.zeroValue24 (Tryz_places24 _ Tryz.underlying24) rfl (by with_unfolding_all rfl)) rfl rfl rfl ?_
    refine V_storeC (Dw := False) (off := 0) (ds := [.int .i64 0, .int .i64 0, .int .i64 0, .int .i64 0, .int .i64 0, .int .i64 0, .slice none 0 0]) hH (i := 0) rfl Tryz.sizeOf24 rfl (Nat.le_of_ble_eq_true rfl) (by exact (List.forall_mem_cons.2 ⟨rfl, (List.forall_mem_cons.2 ⟨rfl, (List.forall_mem_cons.2 ⟨rfl, (List.forall_mem_cons.2 ⟨rfl, (List.forall_mem_cons.2 ⟨rfl, (List.forall_mem_cons.2 ⟨rfl, (List.forall_mem_cons.2 ⟨rfl, (fun _ h => nomatch h)⟩)⟩)⟩)⟩)⟩)⟩)⟩)) rfl hB hA rfl rfl ?_
    intro w7 hH8 ht9
    replace hK := Tr.trans (Dw := False) hK ht9
    replace hB := Nat.le_trans hB ht9.ex.size
    replace hA := ht9.new
    replace hH : Hp w.heap.size A3 w7 (obC b1 [.int .i64 0, .int .i64 0, .int .i64 0, .int .i64 0, .int .i64 0, .int .i64 0, .slice none 0 0] 24 :: []) := hH8
    refine V_y (Y_assign rfl) rfl rfl rfl ?_
    refine V_to (fun _ _ => rfl) ?_
    obtain rfl := Option.some.inj hm
    refine C_ret ?_
    try simp only [↓inBlock_ret, ↓then_ret]
    exact retQ rfl (Res.l2 Tryz.results5 (RL.cell rfl (loadVar_agg (Hp.part (off := 0) (n := 7) (ds := [.int .i64 0, .int .i64 0, .int .i64 0, .int .i64 0, .int .i64 0, .int .i64 0, .slice none 0 0]) hH (i := 0) rfl rfl) Tryz.isAgg24 Tryz.sizeOf24)) (RL.tmp rfl)) ⟨.slice none 0 0, rfl, Sl.nil, hK.kp⟩
  · rw [if_neg (nt hc6)] at hm
    refine C_skip_to (fun _ _ => rfl) ?_
    refine C_seq ?_
    refine C_region ?_
    refine V_y (Y_move rfl) rfl rfl rfl ?_
    obtain ⟨x10, hx10, hm⟩ := Option.bind_eq_some_iff.1 hm
    refine V_call Tryz.call7 rfl rfl rfl rfl (strings_CutSuffix_c w2 s (⟨#[10]⟩ : ByteArray) hx10) ?_
    rintro _ _ ⟨rfl, rfl⟩
    refine V_y (Y_move rfl) rfl rfl rfl ?_
    refine V_y (Y_extract rfl rfl) rfl rfl rfl ?_
    refine V_y (Y_extract rfl rfl) rfl rfl rfl ?_
    refine V_y (Y_assign rfl) rfl rfl rfl ?_
    refine V_y (Y_assign rfl) rfl rfl rfl ?_
    refine V_to (fun _ _ => rfl) ?_
    refine C_seq ?_
    refine C_region ?_
    refine V_y (Y_move rfl) rfl rfl rfl ?_
    obtain ⟨x11, hx11, hm⟩ := Option.bind_eq_some_iff.1 hm
    refine V_call Tryz.call11 rfl rfl rfl rfl (portref2_lineNumbers_c w2 hA (Fz.tr (Dw := False) hT hK) x10.1 9 hx11) ?_
    rintro _ w14 ⟨v12, rfl, h13, hk15⟩
    obtain ⟨A16, ht17, hH18⟩ := Hp.addOwnd (Dw := False) hH hB hA hk15 h13
    replace hK := Tr.trans (Dw := False) hK ht17
    replace hB := Nat.le_trans hB ht17.ex.size
    replace hA := ht17.new
    replace hH : Hp w.heap.size A16 w14 (obS (α := Int) 3 v12 x11.2.1 :: obC b1 [.int .i64 0, .int .i64 0, .int .i64 0, .int .i64 0, .int .i64 0, .int .i64 0, .slice none 0 0] 24 :: []) := hH18
    refine V_y (Y_move rfl) rfl rfl rfl ?_
    refine V_y (Y_extract rfl rfl) rfl rfl rfl ?_
    refine V_y (Y_extract rfl rfl) rfl rfl rfl ?_
    refine V_y (Y_extract rfl rfl) rfl rfl rfl ?_
    refine V_y (Y_assign rfl) rfl rfl rfl ?_
    refine V_y (Y_assign rfl) rfl rfl rfl ?_
    refine V_y (Y_assign rfl) rfl rfl rfl ?_
    refine V_to (fun _ _ => rfl) ?_
    refine C_seq ?_
    refine C_seq ?_
    obtain ⟨s20, ho19, hm⟩ := Option.bind_eq_some_iff.1 hm
    refine C_cutG (ι := (Nat → Prop)) (fun (A25 : (Nat → Prop)) => [(2, .pointer (some ⟨b1, 0, none⟩)), (7, v12), (51, .bool s20)]) (fun (A25 : (Nat → Prop)) => fun w' => Hp w.heap.size A25 w' (obS (α := Int) 3 v12 x11.2.1 :: obC b1 [.int .i64 0, .int .i64 0, .int .i64 0, .int .i64 0, .int .i64 0, .int .i64 0, .slice none 0 0] 24 :: []) ∧ Tr False w.heap.size A16 w14 A25 w') ?_ ?_
    · have hr21 : Tr False w.heap.size A16 w14 A16 w14 := Tr.refl (Dw := False) hA
      refine C_region ?_
      refine V_y (Y_move rfl) rfl rfl rfl ?_
      refine V_y (Y_not rfl) rfl rfl rfl ?_
      refine V_y (Y_move rfl) rfl rfl rfl ?_
      rcases Bool.eq_false_or_eq_true (!x10.2) with hc27 | hc27
      · rw [if_pos hc27] at ho19
        refine V_gn rfl rfl rfl hc27 rfl rfl rfl ?_
        refine V_gn rfl rfl rfl hc27 rfl rfl rfl ?_
        refine V_y (Y_pick_te rfl hc27 rfl) rfl rfl rfl ?_
        refine V_y (Y_move rfl) rfl rfl rfl ?_
        rcases Bool.eq_false_or_eq_true (true) with hc28 | hc28
        · rw [if_pos hc28] at ho19
          refine V_gn rfl rfl rfl hc28 rfl rfl rfl ?_
          refine V_gn rfl rfl rfl hc28 rfl rfl rfl ?_
          refine V_y (Y_pick_te rfl hc28 rfl) rfl rfl rfl ?_
          refine V_y (Y_move rfl) rfl rfl rfl ?_
          rcases Bool.eq_false_or_eq_true (true) with hc29 | hc29
          · rw [if_pos hc29] at ho19
            refine V_gn rfl rfl rfl hc29 rfl rfl rfl ?_
            refine V_gn rfl rfl rfl hc29 rfl rfl rfl ?_
            refine V_gn rfl rfl rfl hc29 rfl rfl rfl ?_
            refine V_y (Y_pick_te rfl hc29 rfl) rfl rfl rfl ?_
            refine V_y (Y_move rfl) rfl rfl rfl ?_
            rcases Bool.eq_false_or_eq_true (true) with hc30 | hc30
            · rw [if_pos hc30] at ho19
              refine V_gn rfl rfl rfl hc30 rfl rfl rfl ?_
              refine V_gn rfl rfl rfl hc30 rfl rfl rfl ?_
              refine V_gn rfl rfl rfl hc30 rfl rfl rfl ?_
              refine V_gn rfl rfl rfl hc30 rfl rfl rfl ?_
              refine V_y (Y_pick_te rfl hc30 rfl) rfl rfl rfl ?_
              refine V_y (Y_move rfl) rfl rfl rfl ?_
              rcases Bool.eq_false_or_eq_true (true) with hc31 | hc31
              · rw [if_pos hc31] at ho19
                refine V_gn rfl rfl rfl hc31 rfl rfl rfl ?_
                refine V_gn rfl rfl rfl hc31 rfl rfl rfl ?_
                refine V_y (Y_pick_te rfl hc31 rfl) rfl rfl rfl ?_
                obtain rfl := Option.some.inj ho19
                refine V_end (fun a ha32 => ?_)
                exact ⟨A16, ha32.sub ⟨rfl, rfl, rfl, trivial⟩, ⟨hH, hr21⟩⟩
              · rw [if_neg (nt hc31)] at ho19
                refine V_ge rfl rfl rfl hc31 ?_
                refine V_y (Y_move rfl) rfl rfl rfl ?_
                refine V_ge rfl rfl rfl hc31 ?_
                obtain ⟨x33, hx33, ho19⟩ := Option.bind_eq_some_iff.1 ho19
                refine V_call Tryz.call12 rfl rfl rfl rfl (strings_Contains_c (Dw := False) w14 hA x10.1 (⟨#[10]⟩ : ByteArray) hx33) ?_
                rintro _ w34 ⟨rfl, hk35⟩
                have ht36 := Kp.tr (Dw := False) hk35 hA hB
                replace hH := Hp.kp (Dw := False) hH hk35
                replace hK := Tr.trans (Dw := False) hK ht36
                replace hr21 := Tr.trans (Dw := False) hr21 ht36
                replace hB := Nat.le_trans hB ht36.ex.size
                replace hA := ht36.new
                refine V_y (Y_pick_fe rfl hc31 rfl) rfl rfl rfl ?_
                obtain rfl := Option.some.inj ho19
                refine V_end (fun a ha37 => ?_)
                exact ⟨A16, ha37.sub ⟨rfl, rfl, rfl, trivial⟩, ⟨hH, hr21⟩⟩
            · rw [if_neg (nt hc30)] at ho19
              refine V_ge rfl rfl rfl hc30 ?_
              refine V_y (Y_move rfl) rfl rfl rfl ?_
              refine V_ge rfl rfl rfl hc30 ?_
              refine V_y (Y_lenSl (Hp.any (α := Int) (e := 3) (v := v12) (l := x11.2.1) hH (i := 0) rfl) rfl Tryz.underlying34 rfl) rfl rfl rfl ?_
              refine V_ge rfl rfl rfl hc30 ?_
              refine V_y (Y_rem (by rw [rem, if_neg (by decide)]) rfl rfl) rfl rfl rfl ?_
              refine V_ge rfl rfl rfl hc30 ?_
              refine V_y (Y_neq rfl rfl) rfl rfl rfl ?_
              refine V_y (Y_pick_fe rfl hc30 rfl) rfl rfl rfl ?_
              refine V_y (Y_move rfl) rfl rfl rfl ?_
              rcases Bool.eq_false_or_eq_true ((Int.tmod (x11.2.1.length : Int) 3) != 0) with hc38 | hc38
              · rw [if_pos hc38] at ho19
                refine V_gn rfl rfl rfl hc38 rfl rfl rfl ?_
                refine V_gn rfl rfl rfl hc38 rfl rfl rfl ?_
                refine V_y (Y_pick_te rfl hc38 rfl) rfl rfl rfl ?_
                obtain rfl := Option.some.inj ho19
                refine V_end (fun a ha39 => ?_)
                exact ⟨A16, ha39.sub ⟨rfl, rfl, rfl, trivial⟩, ⟨hH, hr21⟩⟩
              · rw [if_neg (nt hc38)] at ho19
                refine V_ge rfl rfl rfl hc38 ?_
                refine V_y (Y_move rfl) rfl rfl rfl ?_
                refine V_ge rfl rfl rfl hc38 ?_
                obtain ⟨x40, hx40, ho19⟩ := Option.bind_eq_some_iff.1 ho19
                refine V_call Tryz.call12 rfl rfl rfl rfl (strings_Contains_c (Dw := False) w14 hA x10.1 (⟨#[10]⟩ : ByteArray) hx40) ?_
                rintro _ w41 ⟨rfl, hk42⟩
                have ht43 := Kp.tr (Dw := False) hk42 hA hB
                replace hH := Hp.kp (Dw := False) hH hk42
                replace hK := Tr.trans (Dw := False) hK ht43
                replace hr21 := Tr.trans (Dw := False) hr21 ht43
                replace hB := Nat.le_trans hB ht43.ex.size
                replace hA := ht43.new
                refine V_y (Y_pick_fe rfl hc38 rfl) rfl rfl rfl ?_
                obtain rfl := Option.some.inj ho19
                refine V_end (fun a ha44 => ?_)
                exact ⟨A16, ha44.sub ⟨rfl, rfl, rfl, trivial⟩, ⟨hH, hr21⟩⟩
          · rw [if_neg (nt hc29)] at ho19
            refine V_ge rfl rfl rfl hc29 ?_
            refine V_y (Y_move rfl) rfl rfl rfl ?_
            refine V_ge rfl rfl rfl hc29 ?_
            refine V_y (Y_lenSl (Hp.any (α := Int) (e := 3) (v := v12) (l := x11.2.1) hH (i := 0) rfl) rfl Tryz.underlying34 rfl) rfl rfl rfl ?_
            refine V_ge rfl rfl rfl hc29 ?_
            refine V_y (Y_lss rfl rfl) rfl rfl rfl ?_
            refine V_y (Y_pick_fe rfl hc29 rfl) rfl rfl rfl ?_
            refine V_y (Y_move rfl) rfl rfl rfl ?_
            rcases Bool.eq_false_or_eq_true (decide ((x11.2.1.length : Int) < 6)) with hc45 | hc45
            · rw [if_pos hc45] at ho19
              refine V_gn rfl rfl rfl hc45 rfl rfl rfl ?_
              refine V_gn rfl rfl rfl hc45 rfl rfl rfl ?_
              refine V_gn rfl rfl rfl hc45 rfl rfl rfl ?_
              refine V_gn rfl rfl rfl hc45 rfl rfl rfl ?_
              refine V_y (Y_pick_te rfl hc45 rfl) rfl rfl rfl ?_
              refine V_y (Y_move rfl) rfl rfl rfl ?_
              rcases Bool.eq_false_or_eq_true (true) with hc46 | hc46
              · rw [if_pos hc46] at ho19
                refine V_gn rfl rfl rfl hc46 rfl rfl rfl ?_
                refine V_gn rfl rfl rfl hc46 rfl rfl rfl ?_
                refine V_y (Y_pick_te rfl hc46 rfl) rfl rfl rfl ?_
                obtain rfl := Option.some.inj ho19
                refine V_end (fun a ha47 => ?_)
                exact ⟨A16, ha47.sub ⟨rfl, rfl, rfl, trivial⟩, ⟨hH, hr21⟩⟩
              · rw [if_neg (nt hc46)] at ho19
                refine V_ge rfl rfl rfl hc46 ?_
                refine V_y (Y_move rfl) rfl rfl rfl ?_
                refine V_ge rfl rfl rfl hc46 ?_
                obtain ⟨x48, hx48, ho19⟩ := Option.bind_eq_some_iff.1 ho19
                refine V_call Tryz.call12 rfl rfl rfl rfl (strings_Contains_c (Dw := False) w14 hA x10.1 (⟨#[10]⟩ : ByteArray) hx48) ?_
                rintro _ w49 ⟨rfl, hk50⟩
                have ht51 := Kp.tr (Dw := False) hk50 hA hB
                replace hH := Hp.kp (Dw := False) hH hk50
                replace hK := Tr.trans (Dw := False) hK ht51
                replace hr21 := Tr.trans (Dw := False) hr21 ht51
                replace hB := Nat.le_trans hB ht51.ex.size
                replace hA := ht51.new
                refine V_y (Y_pick_fe rfl hc46 rfl) rfl rfl rfl ?_
                obtain rfl := Option.some.inj ho19
                refine V_end (fun a ha52 => ?_)
                exact ⟨A16, ha52.sub ⟨rfl, rfl, rfl, trivial⟩, ⟨hH, hr21⟩⟩
            · rw [if_neg (nt hc45)] at ho19
              refine V_ge rfl rfl rfl hc45 ?_
              refine V_y (Y_move rfl) rfl rfl rfl ?_
              refine V_ge rfl rfl rfl hc45 ?_
              refine V_y (Y_lenSl (Hp.any (α := Int) (e := 3) (v := v12) (l := x11.2.1) hH (i := 0) rfl) rfl Tryz.underlying34 rfl) rfl rfl rfl ?_
              refine V_ge rfl rfl rfl hc45 ?_
              refine V_y (Y_rem (by rw [rem, if_neg (by decide)]) rfl rfl) rfl rfl rfl ?_
              refine V_ge rfl rfl rfl hc45 ?_
              refine V_y (Y_neq rfl rfl) rfl rfl rfl ?_
              refine V_y (Y_pick_fe rfl hc45 rfl) rfl rfl rfl ?_
              refine V_y (Y_move rfl) rfl rfl rfl ?_
              rcases Bool.eq_false_or_eq_true ((Int.tmod (x11.2.1.length : Int) 3) != 0) with hc53 | hc53
              · rw [if_pos hc53] at ho19
                refine V_gn rfl rfl rfl hc53 rfl rfl rfl ?_
                refine V_gn rfl rfl rfl hc53 rfl rfl rfl ?_
                refine V_y (Y_pick_te rfl hc53 rfl) rfl rfl rfl ?_
                obtain rfl := Option.some.inj ho19
                refine V_end (fun a ha54 => ?_)
                exact ⟨A16, ha54.sub ⟨rfl, rfl, rfl, trivial⟩, ⟨hH, hr21⟩⟩
              · rw [if_neg (nt hc53)] at ho19
                refine V_ge rfl rfl rfl hc53 ?_
                refine V_y (Y_move rfl) rfl rfl rfl ?_
                refine V_ge rfl rfl rfl hc53 ?_
                obtain ⟨x55, hx55, ho19⟩ := Option.bind_eq_some_iff.1 ho19
                refine V_call Tryz.call12 rfl rfl rfl rfl (strings_Contains_c (Dw := False) w14 hA x10.1 (⟨#[10]⟩ : ByteArray) hx55) ?_
                rintro _ w56 ⟨rfl, hk57⟩
                have ht58 := Kp.tr (Dw := False) hk57 hA hB
                replace hH := Hp.kp (Dw := False) hH hk57
                replace hK := Tr.trans (Dw := False) hK ht58
                replace hr21 := Tr.trans (Dw := False) hr21 ht58
                replace hB := Nat.le_trans hB ht58.ex.size
                replace hA := ht58.new
                refine V_y (Y_pick_fe rfl hc53 rfl) rfl rfl rfl ?_
                obtain rfl := Option.some.inj ho19
                refine V_end (fun a ha59 => ?_)
                exact ⟨A16, ha59.sub ⟨rfl, rfl, rfl, trivial⟩, ⟨hH, hr21⟩⟩
        · rw [if_neg (nt hc28)] at ho19
          refine V_ge rfl rfl rfl hc28 ?_
          refine V_y (Y_move rfl) rfl rfl rfl ?_
          refine V_ge rfl rfl rfl hc28 ?_
          refine V_y (Y_sneq rfl rfl) rfl rfl rfl ?_
          refine V_y (Y_pick_fe rfl hc28 rfl) rfl rfl rfl ?_
          refine V_y (Y_move rfl) rfl rfl rfl ?_
          rcases Bool.eq_false_or_eq_true (!(strEq x11.1 (⟨#[99, 108, 111, 99, 107]⟩ : ByteArray))) with hc60 | hc60
          · rw [if_pos hc60] at ho19
            refine V_gn rfl rfl rfl hc60 rfl rfl rfl ?_
            refine V_gn rfl rfl rfl hc60 rfl rfl rfl ?_
            refine V_gn rfl rfl rfl hc60 rfl rfl rfl ?_
            refine V_y (Y_pick_te rfl hc60 rfl) rfl rfl rfl ?_
            refine V_y (Y_move rfl) rfl rfl rfl ?_
            rcases Bool.eq_false_or_eq_true (true) with hc61 | hc61
            · rw [if_pos hc61] at ho19
              refine V_gn rfl rfl rfl hc61 rfl rfl rfl ?_
              refine V_gn rfl rfl rfl hc61 rfl rfl rfl ?_
              refine V_gn rfl rfl rfl hc61 rfl rfl rfl ?_
              refine V_gn rfl rfl rfl hc61 rfl rfl rfl ?_
              refine V_y (Y_pick_te rfl hc61 rfl) rfl rfl rfl ?_
              refine V_y (Y_move rfl) rfl rfl rfl ?_
              rcases Bool.eq_false_or_eq_true (true) with hc62 | hc62
              · rw [if_pos hc62] at ho19
                refine V_gn rfl rfl rfl hc62 rfl rfl rfl ?_
                refine V_gn rfl rfl rfl hc62 rfl rfl rfl ?_
                refine V_y (Y_pick_te rfl hc62 rfl) rfl rfl rfl ?_
                obtain rfl := Option.some.inj ho19
                refine V_end (fun a ha63 => ?_)
                exact ⟨A16, ha63.sub ⟨rfl, rfl, rfl, trivial⟩, ⟨hH, hr21⟩⟩
              · rw [if_neg (nt hc62)] at ho19
                refine V_ge rfl rfl rfl hc62 ?_
                refine V_y (Y_move rfl) rfl rfl rfl ?_
                refine V_ge rfl rfl rfl hc62 ?_
                obtain ⟨x64, hx64, ho19⟩ := Option.bind_eq_some_iff.1 ho19
                refine V_call Tryz.call12 rfl rfl rfl rfl (strings_Contains_c (Dw := False) w14 hA x10.1 (⟨#[10]⟩ : ByteArray) hx64) ?_
                rintro _ w65 ⟨rfl, hk66⟩
                have ht67 := Kp.tr (Dw := False) hk66 hA hB
                replace hH := Hp.kp (Dw := False) hH hk66
                replace hK := Tr.trans (Dw := False) hK ht67
                replace hr21 := Tr.trans (Dw := False) hr21 ht67
                replace hB := Nat.le_trans hB ht67.ex.size
                replace hA := ht67.new
                refine V_y (Y_pick_fe rfl hc62 rfl) rfl rfl rfl ?_
                obtain rfl := Option.some.inj ho19
                refine V_end (fun a ha68 => ?_)
                exact ⟨A16, ha68.sub ⟨rfl, rfl, rfl, trivial⟩, ⟨hH, hr21⟩⟩
            · rw [if_neg (nt hc61)] at ho19
              refine V_ge rfl rfl rfl hc61 ?_
              refine V_y (Y_move rfl) rfl rfl rfl ?_
              refine V_ge rfl rfl rfl hc61 ?_
              refine V_y (Y_lenSl (Hp.any (α := Int) (e := 3) (v := v12) (l := x11.2.1) hH (i := 0) rfl) rfl Tryz.underlying34 rfl) rfl rfl rfl ?_
              refine V_ge rfl rfl rfl hc61 ?_
              refine V_y (Y_rem (by rw [rem, if_neg (by decide)]) rfl rfl) rfl rfl rfl ?_
              refine V_ge rfl rfl rfl hc61 ?_
              refine V_y (Y_neq rfl rfl) rfl rfl rfl ?_
              refine V_y (Y_pick_fe rfl hc61 rfl) rfl rfl rfl ?_
              refine V_y (Y_move rfl) rfl rfl rfl ?_
              rcases Bool.eq_false_or_eq_true ((Int.tmod (x11.2.1.length : Int) 3) != 0) with hc69 | hc69
              · rw [if_pos hc69] at ho19
                refine V_gn rfl rfl rfl hc69 rfl rfl rfl ?_
                refine V_gn rfl rfl rfl hc69 rfl rfl rfl ?_
                refine V_y (Y_pick_te rfl hc69 rfl) rfl rfl rfl ?_
                obtain rfl := Option.some.inj ho19
                refine V_end (fun a ha70 => ?_)
                exact ⟨A16, ha70.sub ⟨rfl, rfl, rfl, trivial⟩, ⟨hH, hr21⟩⟩
              · rw [if_neg (nt hc69)] at ho19
                refine V_ge rfl rfl rfl hc69 ?_
                refine V_y (Y_move rfl) rfl rfl rfl ?_
                refine V_ge rfl rfl rfl hc69 ?_
                obtain ⟨x71, hx71, ho19⟩ := Option.bind_eq_some_iff.1 ho19
                refine V_call Tryz.call12 rfl rfl rfl rfl (strings_Contains_c (Dw := False) w14 hA x10.1 (⟨#[10]⟩ : ByteArray) hx71) ?_
                rintro _ w72 ⟨rfl, hk73⟩
                have ht74 := Kp.tr (Dw := False) hk73 hA hB
                replace hH := Hp.kp (Dw := False) hH hk73
                replace hK := Tr.trans (Dw := False) hK ht74
                replace hr21 := Tr.trans (Dw := False) hr21 ht74
                replace hB := Nat.le_trans hB ht74.ex.size
                replace hA := ht74.new
                refine V_y (Y_pick_fe rfl hc69 rfl) rfl rfl rfl ?_
                obtain rfl := Option.some.inj ho19
                refine V_end (fun a ha75 => ?_)
                exact ⟨A16, ha75.sub ⟨rfl, rfl, rfl, trivial⟩, ⟨hH, hr21⟩⟩
          · rw [if_neg (nt hc60)] at ho19
            refine V_ge rfl rfl rfl hc60 ?_
            refine V_y (Y_move rfl) rfl rfl rfl ?_
            refine V_ge rfl rfl rfl hc60 ?_
            refine V_y (Y_lenSl (Hp.any (α := Int) (e := 3) (v := v12) (l := x11.2.1) hH (i := 0) rfl) rfl Tryz.underlying34 rfl) rfl rfl rfl ?_
            refine V_ge rfl rfl rfl hc60 ?_
            refine V_y (Y_lss rfl rfl) rfl rfl rfl ?_
            refine V_y (Y_pick_fe rfl hc60 rfl) rfl rfl rfl ?_
            refine V_y (Y_move rfl) rfl rfl rfl ?_
            rcases Bool.eq_false_or_eq_true (decide ((x11.2.1.length : Int) < 6)) with hc76 | hc76
            · rw [if_pos hc76] at ho19
              refine V_gn rfl rfl rfl hc76 rfl rfl rfl ?_
              refine V_gn rfl rfl rfl hc76 rfl rfl rfl ?_
              refine V_gn rfl rfl rfl hc76 rfl rfl rfl ?_
              refine V_gn rfl rfl rfl hc76 rfl rfl rfl ?_
              refine V_y (Y_pick_te rfl hc76 rfl) rfl rfl rfl ?_
              refine V_y (Y_move rfl) rfl rfl rfl ?_
              rcases Bool.eq_false_or_eq_true (true) with hc77 | hc77
              · rw [if_pos hc77] at ho19
                refine V_gn rfl rfl rfl hc77 rfl rfl rfl ?_
                refine V_gn rfl rfl rfl hc77 rfl rfl rfl ?_
                refine V_y (Y_pick_te rfl hc77 rfl) rfl rfl rfl ?_
                obtain rfl := Option.some.inj ho19
                refine V_end (fun a ha78 => ?_)
                exact ⟨A16, ha78.sub ⟨rfl, rfl, rfl, trivial⟩, ⟨hH, hr21⟩⟩
              · rw [if_neg (nt hc77)] at ho19
                refine V_ge rfl rfl rfl hc77 ?_
                refine V_y (Y_move rfl) rfl rfl rfl ?_
                refine V_ge rfl rfl rfl hc77 ?_
                obtain ⟨x79, hx79, ho19⟩ := Option.bind_eq_some_iff.1 ho19
                refine V_call Tryz.call12 rfl rfl rfl rfl (strings_Contains_c (Dw := False) w14 hA x10.1 (⟨#[10]⟩ : ByteArray) hx79) ?_
                rintro _ w80 ⟨rfl, hk81⟩
                have ht82 := Kp.tr (Dw := False) hk81 hA hB
                replace hH := Hp.kp (Dw := False) hH hk81
                replace hK := Tr.trans (Dw := False) hK ht82
                replace hr21 := Tr.trans (Dw := False) hr21 ht82
                replace hB := Nat.le_trans hB ht82.ex.size
                replace hA := ht82.new
                refine V_y (Y_pick_fe rfl hc77 rfl) rfl rfl rfl ?_
                obtain rfl := Option.some.inj ho19
                refine V_end (fun a ha83 => ?_)
                exact ⟨A16, ha83.sub ⟨rfl, rfl, rfl, trivial⟩, ⟨hH, hr21⟩⟩
            · rw [if_neg (nt hc76)] at ho19
              refine V_ge rfl rfl rfl hc76 ?_
              refine V_y (Y_move rfl) rfl rfl rfl ?_
              refine V_ge rfl rfl rfl hc76 ?_
              refine V_y (Y_lenSl (Hp.any (α := Int) (e := 3) (v := v12) (l := x11.2.1) hH (i := 0) rfl) rfl Tryz.underlying34 rfl) rfl rfl rfl ?_
              refine V_ge rfl rfl rfl hc76 ?_
              refine V_y (Y_rem (by rw [rem, if_neg (by decide)]) rfl rfl) rfl rfl rfl ?_
              refine V_ge rfl rfl rfl hc76 ?_
              refine V_y (Y_neq rfl rfl) rfl rfl rfl ?_
              refine V_y (Y_pick_fe rfl hc76 rfl) rfl rfl rfl ?_
              refine V_y (Y_move rfl) rfl rfl rfl ?_
              rcases Bool.eq_false_or_eq_true ((Int.tmod (x11.2.1.length : Int) 3) != 0) with hc84 | hc84
              · rw [if_pos hc84] at ho19
                refine V_gn rfl rfl rfl hc84 rfl rfl rfl ?_
                refine V_gn rfl rfl rfl hc84 rfl rfl rfl ?_
                refine V_y (Y_pick_te rfl hc84 rfl) rfl rfl rfl ?_
                obtain rfl := Option.some.inj ho19
                refine V_end (fun a ha85 => ?_)
                exact ⟨A16, ha85.sub ⟨rfl, rfl, rfl, trivial⟩, ⟨hH, hr21⟩⟩
              · rw [if_neg (nt hc84)] at ho19
                refine V_ge rfl rfl rfl hc84 ?_
                refine V_y (Y_move rfl) rfl rfl rfl ?_
                refine V_ge rfl rfl rfl hc84 ?_
                obtain ⟨x86, hx86, ho19⟩ := Option.bind_eq_some_iff.1 ho19
                refine V_call Tryz.call12 rfl rfl rfl rfl (strings_Contains_c (Dw := False) w14 hA x10.1 (⟨#[10]⟩ : ByteArray) hx86) ?_
                rintro _ w87 ⟨rfl, hk88⟩
                have ht89 := Kp.tr (Dw := False) hk88 hA hB
                replace hH := Hp.kp (Dw := False) hH hk88
                replace hK := Tr.trans (Dw := False) hK ht89
                replace hr21 := Tr.trans (Dw := False) hr21 ht89
                replace hB := Nat.le_trans hB ht89.ex.size
                replace hA := ht89.new
                refine V_y (Y_pick_fe rfl hc84 rfl) rfl rfl rfl ?_
                obtain rfl := Option.some.inj ho19
                refine V_end (fun a ha90 => ?_)
                exact ⟨A16, ha90.sub ⟨rfl, rfl, rfl, trivial⟩, ⟨hH, hr21⟩⟩
      · rw [if_neg (nt hc27)] at ho19
        refine V_ge rfl rfl rfl hc27 ?_
        refine V_y (Y_move rfl) rfl rfl rfl ?_
        refine V_ge rfl rfl rfl hc27 ?_
        refine V_y (Y_not rfl) rfl rfl rfl ?_
        refine V_y (Y_pick_fe rfl hc27 rfl) rfl rfl rfl ?_
        refine V_y (Y_move rfl) rfl rfl rfl ?_
        rcases Bool.eq_false_or_eq_true (!x11.2.2) with hc91 | hc91
        · rw [if_pos hc91] at ho19
          refine V_gn rfl rfl rfl hc91 rfl rfl rfl ?_
          refine V_gn rfl rfl rfl hc91 rfl rfl rfl ?_
          refine V_y (Y_pick_te rfl hc91 rfl) rfl rfl rfl ?_
          refine V_y (Y_move rfl) rfl rfl rfl ?_
          rcases Bool.eq_false_or_eq_true (true) with hc92 | hc92
          · rw [if_pos hc92] at ho19
            refine V_gn rfl rfl rfl hc92 rfl rfl rfl ?_
            refine V_gn rfl rfl rfl hc92 rfl rfl rfl ?_
            refine V_gn rfl rfl rfl hc92 rfl rfl rfl ?_
            refine V_y (Y_pick_te rfl hc92 rfl) rfl rfl rfl ?_
            refine V_y (Y_move rfl) rfl rfl rfl ?_
            rcases Bool.eq_false_or_eq_true (true) with hc93 | hc93
            · rw [if_pos hc93] at ho19
              refine V_gn rfl rfl rfl hc93 rfl rfl rfl ?_
              refine V_gn rfl rfl rfl hc93 rfl rfl rfl ?_
              refine V_gn rfl rfl rfl hc93 rfl rfl rfl ?_
              refine V_gn rfl rfl rfl hc93 rfl rfl rfl ?_
              refine V_y (Y_pick_te rfl hc93 rfl) rfl rfl rfl ?_
              refine V_y (Y_move rfl) rfl rfl rfl ?_
              rcases Bool.eq_false_or_eq_true (true) with hc94 | hc94
              · rw [if_pos hc94] at ho19
                refine V_gn rfl rfl rfl hc94 rfl rfl rfl ?_
                refine V_gn rfl rfl rfl hc94 rfl rfl rfl ?_
                refine V_y (Y_pick_te rfl hc94 rfl) rfl rfl rfl ?_
                obtain rfl := Option.some.inj ho19
                refine V_end (fun a ha95 => ?_)
                exact ⟨A16, ha95.sub ⟨rfl, rfl, rfl, trivial⟩, ⟨hH, hr21⟩⟩
              · rw [if_neg (nt hc94)] at ho19
                refine V_ge rfl rfl rfl hc94 ?_
                refine V_y (Y_move rfl) rfl rfl rfl ?_
                refine V_ge rfl rfl rfl hc94 ?_
                obtain ⟨x96, hx96, ho19⟩ := Option.bind_eq_some_iff.1 ho19
                refine V_call Tryz.call12 rfl rfl rfl rfl (strings_Contains_c (Dw := False) w14 hA x10.1 (⟨#[10]⟩ : ByteArray) hx96) ?_
                rintro _ w97 ⟨rfl, hk98⟩
                have ht99 := Kp.tr (Dw := False) hk98 hA hB
                replace hH := Hp.kp (Dw := False) hH hk98
                replace hK := Tr.trans (Dw := False) hK ht99
                replace hr21 := Tr.trans (Dw := False) hr21 ht99
                replace hB := Nat.le_trans hB ht99.ex.size
                replace hA := ht99.new
                refine V_y (Y_pick_fe rfl hc94 rfl) rfl rfl rfl ?_
                obtain rfl := Option.some.inj ho19
                refine V_end (fun a ha100 => ?_)
                exact ⟨A16, ha100.sub ⟨rfl, rfl, rfl, trivial⟩, ⟨hH, hr21⟩⟩
            · rw [if_neg (nt hc93)] at ho19
              refine V_ge rfl rfl rfl hc93 ?_
              refine V_y (Y_move rfl) rfl rfl rfl ?_
              refine V_ge rfl rfl rfl hc93 ?_
              refine V_y (Y_lenSl (Hp.any (α := Int) (e := 3) (v := v12) (l := x11.2.1) hH (i := 0) rfl) rfl Tryz.underlying34 rfl) rfl rfl rfl ?_
              refine V_ge rfl rfl rfl hc93 ?_
              refine V_y (Y_rem (by rw [rem, if_neg (by decide)]) rfl rfl) rfl rfl rfl ?_
              refine V_ge rfl rfl rfl hc93 ?_
              refine V_y (Y_neq rfl rfl) rfl rfl rfl ?_
              refine V_y (Y_pick_fe rfl hc93 rfl) rfl rfl rfl ?_
              refine V_y (Y_move rfl) rfl rfl rfl ?_
              rcases Bool.eq_false_or_eq_true ((Int.tmod (x11.2.1.length : Int) 3) != 0) with hc101 | hc101
              · rw [if_pos hc101] at ho19
                refine V_gn rfl rfl rfl hc101 rfl rfl rfl ?_
                refine V_gn rfl rfl rfl hc101 rfl rfl rfl ?_
                refine V_y (Y_pick_te rfl hc101 rfl) rfl rfl rfl ?_
                obtain rfl := Option.some.inj ho19
                refine V_end (fun a ha102 => ?_)
                exact ⟨A16, ha102.sub ⟨rfl, rfl, rfl, trivial⟩, ⟨hH, hr21⟩⟩
              · rw [if_neg (nt hc101)] at ho19
                refine V_ge rfl rfl rfl hc101 ?_
                refine V_y (Y_move rfl) rfl rfl rfl ?_
                refine V_ge rfl rfl rfl hc101 ?_
                obtain ⟨x103, hx103, ho19⟩ := Option.bind_eq_some_iff.1 ho19
                refine V_call Tryz.call12 rfl rfl rfl rfl (strings_Contains_c (Dw := False) w14 hA x10.1 (⟨#[10]⟩ : ByteArray) hx103) ?_
                rintro _ w104 ⟨rfl, hk105⟩
                have ht106 := Kp.tr (Dw := False) hk105 hA hB
                replace hH := Hp.kp (Dw := False) hH hk105
                replace hK := Tr.trans (Dw := False) hK ht106
                replace hr21 := Tr.trans (Dw := False) hr21 ht106
                replace hB := Nat.le_trans hB ht106.ex.size
                replace hA := ht106.new
                refine V_y (Y_pick_fe rfl hc101 rfl) rfl rfl rfl ?_
                obtain rfl := Option.some.inj ho19
                refine V_end (fun a ha107 => ?_)
                exact ⟨A16, ha107.sub ⟨rfl, rfl, rfl, trivial⟩, ⟨hH, hr21⟩⟩
          · rw [if_neg (nt hc92)] at ho19
            refine V_ge rfl rfl rfl hc92 ?_
            refine V_y (Y_move rfl) rfl rfl rfl ?_
            refine V_ge rfl rfl rfl hc92 ?_
            refine V_y (Y_lenSl (Hp.any (α := Int) (e := 3) (v := v12) (l := x11.2.1) hH (i := 0) rfl) rfl Tryz.underlying34 rfl) rfl rfl rfl ?_
            refine V_ge rfl rfl rfl hc92 ?_
            refine V_y (Y_lss rfl rfl) rfl rfl rfl ?_
            refine V_y (Y_pick_fe rfl hc92 rfl) rfl rfl rfl ?_
            refine V_y (Y_move rfl) rfl rfl rfl ?_
            rcases Bool.eq_false_or_eq_true (decide ((x11.2.1.length : Int) < 6)) with hc108 | hc108
            · rw [if_pos hc108] at ho19
              refine V_gn rfl rfl rfl hc108 rfl rfl rfl ?_
              refine V_gn rfl rfl rfl hc108 rfl rfl rfl ?_
              refine V_gn rfl rfl rfl hc108 rfl rfl rfl ?_
              refine V_gn rfl rfl rfl hc108 rfl rfl rfl ?_
              refine V_y (Y_pick_te rfl hc108 rfl) rfl rfl rfl ?_
              refine V_y (Y_move rfl) rfl rfl rfl ?_
              rcases Bool.eq_false_or_eq_true (true) with hc109 | hc109
              · rw [if_pos hc109] at ho19
                refine V_gn rfl rfl rfl hc109 rfl rfl rfl ?_
                refine V_gn rfl rfl rfl hc109 rfl rfl rfl ?_
                refine V_y (Y_pick_te rfl hc109 rfl) rfl rfl rfl ?_
                obtain rfl := Option.some.inj ho19
                refine V_end (fun a ha110 => ?_)
                exact ⟨A16, ha110.sub ⟨rfl, rfl, rfl, trivial⟩, ⟨hH, hr21⟩⟩
              · rw [if_neg (nt hc109)] at ho19
                refine V_ge rfl rfl rfl hc109 ?_
                refine V_y (Y_move rfl) rfl rfl rfl ?_
                refine V_ge rfl rfl rfl hc109 ?_
                obtain ⟨x111, hx111, ho19⟩ := Option.bind_eq_some_iff.1 ho19
                refine V_call Tryz.call12 rfl rfl rfl rfl (strings_Contains_c (Dw := False) w14 hA x10.1 (⟨#[10]⟩ : ByteArray) hx111) ?_
                rintro _ w112 ⟨rfl, hk113⟩
                have ht114 := Kp.tr (Dw := False) hk113 hA hB
                replace hH := Hp.kp (Dw := False) hH hk113
                replace hK := Tr.trans (Dw := False) hK ht114
                replace hr21 := Tr.trans (Dw := False) hr21 ht114
                replace hB := Nat.le_trans hB ht114.ex.size
                replace hA := ht114.new
                refine V_y (Y_pick_fe rfl hc109 rfl) rfl rfl rfl ?_
                obtain rfl := Option.some.inj ho19
                refine V_end (fun a ha115 => ?_)
                exact ⟨A16, ha115.sub ⟨rfl, rfl, rfl, trivial⟩, ⟨hH, hr21⟩⟩
            · rw [if_neg (nt hc108)] at ho19
              refine V_ge rfl rfl rfl hc108 ?_
              refine V_y (Y_move rfl) rfl rfl rfl ?_
              refine V_ge rfl rfl rfl hc108 ?_
              refine V_y (Y_lenSl (Hp.any (α := Int) (e := 3) (v := v12) (l := x11.2.1) hH (i := 0) rfl) rfl Tryz.underlying34 rfl) rfl rfl rfl ?_
              refine V_ge rfl rfl rfl hc108 ?_
              refine V_y (Y_rem (by rw [rem, if_neg (by decide)]) rfl rfl) rfl rfl rfl ?_
              refine V_ge rfl rfl rfl hc108 ?_
              refine V_y (Y_neq rfl rfl) rfl rfl rfl ?_
              refine V_y (Y_pick_fe rfl hc108 rfl) rfl rfl rfl ?_
              refine V_y (Y_move rfl) rfl rfl rfl ?_
              rcases Bool.eq_false_or_eq_true ((Int.tmod (x11.2.1.length : Int) 3) != 0) with hc116 | hc116
              · rw [if_pos hc116] at ho19
                refine V_gn rfl rfl rfl hc116 rfl rfl rfl ?_
                refine V_gn rfl rfl rfl hc116 rfl rfl rfl ?_
                refine V_y (Y_pick_te rfl hc116 rfl) rfl rfl rfl ?_
                obtain rfl := Option.some.inj ho19
                refine V_end (fun a ha117 => ?_)
                exact ⟨A16, ha117.sub ⟨rfl, rfl, rfl, trivial⟩, ⟨hH, hr21⟩⟩
              · rw [if_neg (nt hc116)] at ho19
                refine V_ge rfl rfl rfl hc116 ?_
                refine V_y (Y_move rfl) rfl rfl rfl ?_
                refine V_ge rfl rfl rfl hc116 ?_
                obtain ⟨x118, hx118, ho19⟩ := Option.bind_eq_some_iff.1 ho19
                refine V_call Tryz.call12 rfl rfl rfl rfl (strings_Contains_c (Dw := False) w14 hA x10.1 (⟨#[10]⟩ : ByteArray) hx118) ?_
                rintro _ w119 ⟨rfl, hk120⟩
                have ht121 := Kp.tr (Dw := False) hk120 hA hB
                replace hH := Hp.kp (Dw := False) hH hk120
                replace hK := Tr.trans (Dw := False) hK ht121
                replace hr21 := Tr.trans (Dw := False) hr21 ht121
                replace hB := Nat.le_trans hB ht121.ex.size
                replace hA := ht121.new
                refine V_y (Y_pick_fe rfl hc116 rfl) rfl rfl rfl ?_
                obtain rfl := Option.some.inj ho19
                refine V_end (fun a ha122 => ?_)
                exact ⟨A16, ha122.sub ⟨rfl, rfl, rfl, trivial⟩, ⟨hH, hr21⟩⟩
        · rw [if_neg (nt hc91)] at ho19
          refine V_ge rfl rfl rfl hc91 ?_
          refine V_y (Y_move rfl) rfl rfl rfl ?_
          refine V_ge rfl rfl rfl hc91 ?_
          refine V_y (Y_sneq rfl rfl) rfl rfl rfl ?_
          refine V_y (Y_pick_fe rfl hc91 rfl) rfl rfl rfl ?_
          refine V_y (Y_move rfl) rfl rfl rfl ?_
          rcases Bool.eq_false_or_eq_true (!(strEq x11.1 (⟨#[99, 108, 111, 99, 107]⟩ : ByteArray))) with hc123 | hc123
          · rw [if_pos hc123] at ho19
            refine V_gn rfl rfl rfl hc123 rfl rfl rfl ?_
            refine V_gn rfl rfl rfl hc123 rfl rfl rfl ?_
            refine V_gn rfl rfl rfl hc123 rfl rfl rfl ?_
            refine V_y (Y_pick_te rfl hc123 rfl) rfl rfl rfl ?_
            refine V_y (Y_move rfl) rfl rfl rfl ?_
            rcases Bool.eq_false_or_eq_true (true) with hc124 | hc124
            · rw [if_pos hc124] at ho19
              refine V_gn rfl rfl rfl hc124 rfl rfl rfl ?_
              refine V_gn rfl rfl rfl hc124 rfl rfl rfl ?_
              refine V_gn rfl rfl rfl hc124 rfl rfl rfl ?_
              refine V_gn rfl rfl rfl hc124 rfl rfl rfl ?_
              refine V_y (Y_pick_te rfl hc124 rfl) rfl rfl rfl ?_
              refine V_y (Y_move rfl) rfl rfl rfl ?_
              rcases Bool.eq_false_or_eq_true (true) with hc125 | hc125
              · rw [if_pos hc125] at ho19
                refine V_gn rfl rfl rfl hc125 rfl rfl rfl ?_
                refine V_gn rfl rfl rfl hc125 rfl rfl rfl ?_
                refine V_y (Y_pick_te rfl hc125 rfl) rfl rfl rfl ?_
                obtain rfl := Option.some.inj ho19
                refine V_end (fun a ha126 => ?_)
                exact ⟨A16, ha126.sub ⟨rfl, rfl, rfl, trivial⟩, ⟨hH, hr21⟩⟩
              · rw [if_neg (nt hc125)] at ho19
                refine V_ge rfl rfl rfl hc125 ?_
                refine V_y (Y_move rfl) rfl rfl rfl ?_
                refine V_ge rfl rfl rfl hc125 ?_
                obtain ⟨x127, hx127, ho19⟩ := Option.bind_eq_some_iff.1 ho19
                refine V_call Tryz.call12 rfl rfl rfl rfl (strings_Contains_c (Dw := False) w14 hA x10.1 (⟨#[10]⟩ : ByteArray) hx127) ?_
                rintro _ w128 ⟨rfl, hk129⟩
                have ht130 := Kp.tr (Dw := False) hk129 hA hB
                replace hH := Hp.kp (Dw := False) hH hk129
                replace hK := Tr.trans (Dw := False) hK ht130
                replace hr21 := Tr.trans (Dw := False) hr21 ht130
                replace hB := Nat.le_trans hB ht130.ex.size
                replace hA := ht130.new
                refine V_y (Y_pick_fe rfl hc125 rfl) rfl rfl rfl ?_
                obtain rfl := Option.some.inj ho19
                refine V_end (fun a ha131 => ?_)
                exact ⟨A16, ha131.sub ⟨rfl, rfl, rfl, trivial⟩, ⟨hH, hr21⟩⟩
            · rw [if_neg (nt hc124)] at ho19
              refine V_ge rfl rfl rfl hc124 ?_
              refine V_y (Y_move rfl) rfl rfl rfl ?_
              refine V_ge rfl rfl rfl hc124 ?_
              refine V_y (Y_lenSl (Hp.any (α := Int) (e := 3) (v := v12) (l := x11.2.1) hH (i := 0) rfl) rfl Tryz.underlying34 rfl) rfl rfl rfl ?_
              refine V_ge rfl rfl rfl hc124 ?_
              refine V_y (Y_rem (by rw [rem, if_neg (by decide)]) rfl rfl) rfl rfl rfl ?_
              refine V_ge rfl rfl rfl hc124 ?_
              refine V_y (Y_neq rfl rfl) rfl rfl rfl ?_
              refine V_y (Y_pick_fe rfl hc124 rfl) rfl rfl rfl ?_
              refine V_y (Y_move rfl) rfl rfl rfl ?_
              rcases Bool.eq_false_or_eq_true ((Int.tmod (x11.2.1.length : Int) 3) != 0) with hc132 | hc132
              · rw [if_pos hc132] at ho19
                refine V_gn rfl rfl rfl hc132 rfl rfl rfl ?_
                refine V_gn rfl rfl rfl hc132 rfl rfl rfl ?_
                refine V_y (Y_pick_te rfl hc132 rfl) rfl rfl rfl ?_
                obtain rfl := Option.some.inj ho19
                refine V_end (fun a ha133 => ?_)
                exact ⟨A16, ha133.sub ⟨rfl, rfl, rfl, trivial⟩, ⟨hH, hr21⟩⟩
              · rw [if_neg (nt hc132)] at ho19
                refine V_ge rfl rfl rfl hc132 ?_
                refine V_y (Y_move rfl) rfl rfl rfl ?_
                refine V_ge rfl rfl rfl hc132 ?_
                obtain ⟨x134, hx134, ho19⟩ := Option.bind_eq_some_iff.1 ho19
                refine V_call Tryz.call12 rfl rfl rfl rfl (strings_Contains_c (Dw := False) w14 hA x10.1 (⟨#[10]⟩ : ByteArray) hx134) ?_
                rintro _ w135 ⟨rfl, hk136⟩
                have ht137 := Kp.tr (Dw := False) hk136 hA hB
                replace hH := Hp.kp (Dw := False) hH hk136
                replace hK := Tr.trans (Dw := False) hK ht137
                replace hr21 := Tr.trans (Dw := False) hr21 ht137
                replace hB := Nat.le_trans hB ht137.ex.size
                replace hA := ht137.new
                refine V_y (Y_pick_fe rfl hc132 rfl) rfl rfl rfl ?_
                obtain rfl := Option.some.inj ho19
                refine V_end (fun a ha138 => ?_)
                exact ⟨A16, ha138.sub ⟨rfl, rfl, rfl, trivial⟩, ⟨hH, hr21⟩⟩
          · rw [if_neg (nt hc123)] at ho19
            refine V_ge rfl rfl rfl hc123 ?_
            refine V_y (Y_move rfl) rfl rfl rfl ?_
            refine V_ge rfl rfl rfl hc123 ?_
            refine V_y (Y_lenSl (Hp.any (α := Int) (e := 3) (v := v12) (l := x11.2.1) hH (i := 0) rfl) rfl Tryz.underlying34 rfl) rfl rfl rfl ?_
            refine V_ge rfl rfl rfl hc123 ?_
            refine V_y (Y_lss rfl rfl) rfl rfl rfl ?_
            refine V_y (Y_pick_fe rfl hc123 rfl) rfl rfl rfl ?_
            refine V_y (Y_move rfl) rfl rfl rfl ?_
            rcases Bool.eq_false_or_eq_true (decide ((x11.2.1.length : Int) < 6)) with hc139 | hc139
            · rw [if_pos hc139] at ho19
              refine V_gn rfl rfl rfl hc139 rfl rfl rfl ?_
              refine V_gn rfl rfl rfl hc139 rfl rfl rfl ?_
              refine V_gn rfl rfl rfl hc139 rfl rfl rfl ?_
              refine V_gn rfl rfl rfl hc139 rfl rfl rfl ?_
              refine V_y (Y_pick_te rfl hc139 rfl) rfl rfl rfl ?_
              refine V_y (Y_move rfl) rfl rfl rfl ?_
              rcases Bool.eq_false_or_eq_true (true) with hc140 | hc140
              · rw [if_pos hc140] at ho19
                refine V_gn rfl rfl rfl hc140 rfl rfl rfl ?_
                refine V_gn rfl rfl rfl hc140 rfl rfl rfl ?_
                refine V_y (Y_pick_te rfl hc140 rfl) rfl rfl rfl ?_
                obtain rfl := Option.some.inj ho19
                refine V_end (fun a ha141 => ?_)
                exact ⟨A16, ha141.sub ⟨rfl, rfl, rfl, trivial⟩, ⟨hH, hr21⟩⟩
              · rw [if_neg (nt hc140)] at ho19
                refine V_ge rfl rfl rfl hc140 ?_
                refine V_y (Y_move rfl) rfl rfl rfl ?_
                refine V_ge rfl rfl rfl hc140 ?_
                obtain ⟨x142, hx142, ho19⟩ := Option.bind_eq_some_iff.1 ho19
                refine V_call Tryz.call12 rfl rfl rfl rfl (strings_Contains_c (Dw := False) w14 hA x10.1 (⟨#[10]⟩ : ByteArray) hx142) ?_
                rintro _ w143 ⟨rfl, hk144⟩
                have ht145 := Kp.tr (Dw := False) hk144 hA hB
                replace hH := Hp.kp (Dw := False) hH hk144
                replace hK := Tr.trans (Dw := False) hK ht145
                replace hr21 := Tr.trans (Dw := False) hr21 ht145
                replace hB := Nat.le_trans hB ht145.ex.size
                replace hA := ht145.new
                refine V_y (Y_pick_fe rfl hc140 rfl) rfl rfl rfl ?_
                obtain rfl := Option.some.inj ho19
                refine V_end (fun a ha146 => ?_)
                exact ⟨A16, ha146.sub ⟨rfl, rfl, rfl, trivial⟩, ⟨hH, hr21⟩⟩
            · rw [if_neg (nt hc139)] at ho19
              refine V_ge rfl rfl rfl hc139 ?_
              refine V_y (Y_move rfl) rfl rfl rfl ?_
              refine V_ge rfl rfl rfl hc139 ?_
              refine V_y (Y_lenSl (Hp.any (α := Int) (e := 3) (v := v12) (l := x11.2.1) hH (i := 0) rfl) rfl Tryz.underlying34 rfl) rfl rfl rfl ?_
              refine V_ge rfl rfl rfl hc139 ?_
              refine V_y (Y_rem (by rw [rem, if_neg (by decide)]) rfl rfl) rfl rfl rfl ?_
              refine V_ge rfl rfl rfl hc139 ?_
              refine V_y (Y_neq rfl rfl) rfl rfl rfl ?_
              refine V_y (Y_pick_fe rfl hc139 rfl) rfl rfl rfl ?_
              refine V_y (Y_move rfl) rfl rfl rfl ?_
              rcases Bool.eq_false_or_eq_true ((Int.tmod (x11.2.1.length : Int) 3) != 0) with hc147 | hc147
              · rw [if_pos hc147] at ho19
                refine V_gn rfl rfl rfl hc147 rfl rfl rfl ?_
                refine V_gn rfl rfl rfl hc147 rfl rfl rfl ?_
                refine V_y (Y_pick_te rfl hc147 rfl) rfl rfl rfl ?_
                obtain rfl := Option.some.inj ho19
                refine V_end (fun a ha148 => ?_)
                exact ⟨A16, ha148.sub ⟨rfl, rfl, rfl, trivial⟩, ⟨hH, hr21⟩⟩
              · rw [if_neg (nt hc147)] at ho19
                refine V_ge rfl rfl rfl hc147 ?_
                refine V_y (Y_move rfl) rfl rfl rfl ?_
                refine V_ge rfl rfl rfl hc147 ?_
                obtain ⟨x149, hx149, ho19⟩ := Option.bind_eq_some_iff.1 ho19
                refine V_call Tryz.call12 rfl rfl rfl rfl (strings_Contains_c (Dw := False) w14 hA x10.1 (⟨#[10]⟩ : ByteArray) hx149) ?_
                rintro _ w150 ⟨rfl, hk151⟩
                have ht152 := Kp.tr (Dw := False) hk151 hA hB
                replace hH := Hp.kp (Dw := False) hH hk151
                replace hK := Tr.trans (Dw := False) hK ht152
                replace hr21 := Tr.trans (Dw := False) hr21 ht152
                replace hB := Nat.le_trans hB ht152.ex.size
                replace hA := ht152.new
                refine V_y (Y_pick_fe rfl hc147 rfl) rfl rfl rfl ?_
                obtain rfl := Option.some.inj ho19
                refine V_end (fun a ha153 => ?_)
                exact ⟨A16, ha153.sub ⟨rfl, rfl, rfl, trivial⟩, ⟨hH, hr21⟩⟩
    rintro A25 w22 ⟨hH26, hk23⟩ a ha24
    replace hK := Tr.trans (Dw := False) hK hk23
    replace hB := Nat.le_trans hB hk23.ex.size
    replace hA := hk23.new
    replace hH : Hp w.heap.size A25 w22 (obS (α := Int) 3 v12 x11.2.1 :: obC b1 [.int .i64 0, .int .i64 0, .int .i64 0, .int .i64 0, .int .i64 0, .int .i64 0, .slice none 0 0] 24 :: []) := hH26
    refine C_at (n := ⟨105, [], none⟩) (fun _ _ => rfl) ?_ ha24
    refine C_cond rfl (fun hc154 => ?_) (fun hc154 => ?_)
    · rw [if_pos hc154] at hm
      refine C_seq ?_
      refine C_region ?_
      refine V_y (Y_build Tryz.underlying24 Tryz.zeroValue24 (Tryz_places24 _ Tryz.underlying24) rfl (by with_unfolding_all rfl)) rfl rfl rfl ?_
      refine V_storeC (Dw := False) (off := 0) (ds := [.int .i64 0, .int .i64 0, .int .i64 0, .int .i64 0, .int .i64 0, .int .i64 0, .slice none 0 0]) hH (i := 1) rfl Tryz.sizeOf24 rfl (Nat.le_of_ble_eq_true rfl) (by exact (List.forall_mem_cons.2 ⟨rfl, (List.forall_mem_cons.2 ⟨rfl, (List.forall_mem_cons.2 ⟨rfl, (List.forall_mem_cons.2 ⟨rfl, (List.forall_mem_cons.2 ⟨rfl, (List.forall_mem_cons.2 ⟨rfl, (List.forall_mem_cons.2 ⟨rfl, (fun _ h => nomatch h)⟩)⟩)⟩)⟩)⟩)⟩)⟩)) rfl hB hA rfl rfl ?_
      intro w155 hH156 ht157
      replace hK := Tr.trans (Dw := False) hK ht157
      replace hB := Nat.le_trans hB ht157.ex.size
      replace hA := ht157.new
      replace hH : Hp w.heap.size A25 w155 (obS (α := Int) 3 v12 x11.2.1 :: obC b1 [.int .i64 0, .int .i64 0, .int .i64 0, .int .i64 0, .int .i64 0, .int .i64 0, .slice none 0 0] 24 :: []) := hH156
      refine V_y (Y_assign rfl) rfl rfl rfl ?_
      refine V_to (fun _ _ => rfl) ?_
      obtain rfl := Option.some.inj hm
      refine C_ret ?_
      try simp only [↓inBlock_ret, ↓then_ret]
      exact retQ rfl (Res.l2 Tryz.results5 (RL.cell rfl (loadVar_agg (Hp.part (off := 0) (n := 7) (ds := [.int .i64 0, .int .i64 0, .int .i64 0, .int .i64 0, .int .i64 0, .int .i64 0, .slice none 0 0]) hH (i := 1) rfl rfl) Tryz.isAgg24 Tryz.sizeOf24)) (RL.tmp rfl)) ⟨.slice none 0 0, rfl, Sl.nil, hK.kp⟩
    · rw [if_neg (nt hc154)] at hm
      refine C_skip_to (fun _ _ => rfl) ?_
      refine C_seq ?_
      refine C_region_def (Dw := False) (B := w.heap.size) (k := 19) [(9, 24, .agg #[.int .i64 0, .int .i64 0, .int .i64 0, .int .i64 0, .int .i64 0, .int .i64 0, .slice none 0 0])] [(71, 18)] Tryz_mixed (by kernel_rfl) rfl ⟨⟨_, _, _, rfl, by simp⟩, Tryz.zeroValue24, trivial⟩ ⟨⟨_, _, _, rfl, by decide, by decide⟩, by decide, rfl, Tryz.sizeOf24, trivial⟩ rfl rfl (by decide) hH hB hA ?_
      simp only [List.take]
      refine VQ_y (fun w' hw' => Y_move rfl) rfl rfl rfl ?_
      obtain ⟨x164, hx164, hm⟩ := Option.bind_eq_some_iff.1 hm
      refine VQ_indexAddrH (α := Int) (e := 3) (v := v12) (l := x11.2.1) hH (i := 0) rfl hx164 Tryz.underlying34 Tryz.sizeOf3 rfl rfl rfl ?_
      intro b165 o166 h167 hl168
      refine VQ_y (fun w' hw' => Y_load (El.int (El.kp (Dw := False) h167 hw')) Tryz.isAgg3 rfl) rfl rfl rfl ?_
      refine VQ_y (fun w' hw' => Y_move rfl) rfl rfl rfl ?_
      obtain ⟨x169, hx169, hm⟩ := Option.bind_eq_some_iff.1 hm
      refine VQ_indexAddrH (α := Int) (e := 3) (v := v12) (l := x11.2.1) hH (i := 0) rfl hx169 Tryz.underlying34 Tryz.sizeOf3 rfl rfl rfl ?_
      intro b170 o171 h172 hl173
      refine VQ_y (fun w' hw' => Y_load (El.int (El.kp (Dw := False) h172 hw')) Tryz.isAgg3 rfl) rfl rfl rfl ?_
      refine VQ_y (fun w' hw' => Y_move rfl) rfl rfl rfl ?_
      obtain ⟨x174, hx174, hm⟩ := Option.bind_eq_some_iff.1 hm
      refine VQ_indexAddrH (α := Int) (e := 3) (v := v12) (l := x11.2.1) hH (i := 0) rfl hx174 Tryz.underlying34 Tryz.sizeOf3 rfl rfl rfl ?_
      intro b175 o176 h177 hl178
      refine VQ_y (fun w' hw' => Y_load (El.int (El.kp (Dw := False) h177 hw')) Tryz.isAgg3 rfl) rfl rfl rfl ?_
      refine VQ_y (fun w' hw' => Y_move rfl) rfl rfl rfl ?_
      obtain ⟨x179, hx179, hm⟩ := Option.bind_eq_some_iff.1 hm
      refine VQ_indexAddrH (α := Int) (e := 3) (v := v12) (l := x11.2.1) hH (i := 0) rfl hx179 Tryz.underlying34 Tryz.sizeOf3 rfl rfl rfl ?_
      intro b180 o181 h182 hl183
      refine VQ_y (fun w' hw' => Y_load (El.int (El.kp (Dw := False) h182 hw')) Tryz.isAgg3 rfl) rfl rfl rfl ?_
      refine VQ_y (fun w' hw' => Y_move rfl) rfl rfl rfl ?_
      obtain ⟨x184, hx184, hm⟩ := Option.bind_eq_some_iff.1 hm
      refine VQ_indexAddrH (α := Int) (e := 3) (v := v12) (l := x11.2.1) hH (i := 0) rfl hx184 Tryz.underlying34 Tryz.sizeOf3 rfl rfl rfl ?_
      intro b185 o186 h187 hl188
      refine VQ_y (fun w' hw' => Y_load (El.int (El.kp (Dw := False) h187 hw')) Tryz.isAgg3 rfl) rfl rfl rfl ?_
      refine VQ_y (fun w' hw' => Y_move rfl) rfl rfl rfl ?_
      obtain ⟨x189, hx189, hm⟩ := Option.bind_eq_some_iff.1 hm
      refine VQ_indexAddrH (α := Int) (e := 3) (v := v12) (l := x11.2.1) hH (i := 0) rfl hx189 Tryz.underlying34 Tryz.sizeOf3 rfl rfl rfl ?_
      intro b190 o191 h192 hl193
      refine VQ_y (fun w' hw' => Y_load (El.int (El.kp (Dw := False) h192 hw')) Tryz.isAgg3 rfl) rfl rfl rfl ?_
      refine VQ_y (fun w' hw' => Y_build Tryz.underlying24 Tryz.zeroValue24 (Tryz_places24 _ Tryz.underlying24) rfl (by with_unfolding_all rfl)) rfl rfl rfl ?_
      refine VQ_end fun a ha => ⟨_, [.agg #[.int .i64 x164, .int .i64 x169, .int .i64 x174, .int .i64 x179, .int .i64 x184, .int .i64 x189, .slice none 0 0]], ha, rfl, rfl, ⟨rfl, (by exact (List.forall_mem_cons.2 ⟨rfl, (List.forall_mem_cons.2 ⟨rfl, (List.forall_mem_cons.2 ⟨rfl, (List.forall_mem_cons.2 ⟨rfl, (List.forall_mem_cons.2 ⟨rfl, (List.forall_mem_cons.2 ⟨rfl, (List.forall_mem_cons.2 ⟨rfl, (fun _ h => nomatch h)⟩)⟩)⟩)⟩)⟩)⟩)⟩)), trivial⟩, fun b158 w159 A160 hH161 ht162 a ha163 => ?_⟩
      replace hK := Tr.trans (Dw := False) hK ht162
      replace hB := Nat.le_trans hB ht162.ex.size
      replace hA := ht162.new
      replace hH : Hp w.heap.size A160 w159 (obC (b158 0) [.int .i64 x164, .int .i64 x169, .int .i64 x174, .int .i64 x179, .int .i64 x184, .int .i64 x189, .slice none 0 0] 24 :: obS (α := Int) 3 v12 x11.2.1 :: obC b1 [.int .i64 0, .int .i64 0, .int .i64 0, .int .i64 0, .int .i64 0, .int .i64 0, .slice none 0 0] 24 :: []) := hH161
      refine C_at (n := ⟨105, [], none⟩) (fun _ _ => rfl) ?_ ha163
      refine C_seq ?_
      refine C_seq ?_
      refine C_region ?_
      refine V_y (Y_assign rfl) rfl rfl rfl ?_
      refine V_to (fun _ _ => rfl) ?_
      replace hH : Hp w.heap.size A160 w159 (obS (α := level_Piece) 38 (.slice none 0 0) ([] : (List level_Piece)) :: obC (b158 0) [.int .i64 x164, .int .i64 x169, .int .i64 x174, .int .i64 x179, .int .i64 x184, .int .i64 x189, .slice none 0 0] 24 :: obS (α := Int) 3 v12 x11.2.1 :: obC b1 [.int .i64 0, .int .i64 0, .int .i64 0, .int .i64 0, .int .i64 0, .int .i64 0, .slice none 0 0] 24 :: []) := Hp.addNil (α := level_Piece) (e := 38) hH
      obtain ⟨o194, ho194, hm⟩ := Option.bind_eq_some_iff.1 hm
      refine C_cutG (ι := ((Int × level_Clock) × Value × (Nat → Prop))) (fun ⟨s195, v201, A203⟩ => [(2, .pointer (some ⟨b1, 0, none⟩)), (9, .pointer (some ⟨(b158 0), 0, none⟩))]) (fun ⟨s195, v201, A203⟩ => fun w' => o194 = .fin s195 ∧ Hp w.heap.size A203 w' (obS (α := level_Piece) 38 v201 s195.2.pieces :: obC (b158 0) [.int .i64 s195.2.kind, .int .i64 s195.2.level, .int .i64 s195.2.minutes, .int .i64 s195.2.start, .int .i64 s195.2.stop, .int .i64 s195.2.end_, v201] 24 :: obS (α := Int) 3 v12 x11.2.1 :: obC b1 [.int .i64 0, .int .i64 0, .int .i64 0, .int .i64 0, .int .i64 0, .int .i64 0, .slice none 0 0] 24 :: []) ∧ Tr False w.heap.size A160 w159 A203 w') ?_ ?_
      · refine C_block ?_
        refine C_while ho194 (fun s205 a w' => ∃ i : (Value × (Nat → Prop)), Has ⟨105, [], none⟩ a ([(2, .pointer (some ⟨b1, 0, none⟩)), (7, v12), (9, .pointer (some ⟨(b158 0), 0, none⟩)), (10, .int .i64 s205.1)]) ∧ Hp w.heap.size i.2 w' (obS (α := level_Piece) 38 i.1 s205.2.pieces :: obC (b158 0) [.int .i64 s205.2.kind, .int .i64 s205.2.level, .int .i64 s205.2.minutes, .int .i64 s205.2.start, .int .i64 s205.2.stop, .int .i64 s205.2.end_, i.1] 24 :: obS (α := Int) 3 v12 x11.2.1 :: obC b1 [.int .i64 0, .int .i64 0, .int .i64 0, .int .i64 0, .int .i64 0, .int .i64 0, .slice none 0 0] 24 :: []) ∧ Tr False w.heap.size A160 w159 i.2 w') (fun a ha => ⟨(.slice none 0 0, A160), ha.sub ⟨rfl, rfl, rfl, rfl, trivial⟩, ⟨hH, Tr.refl (Dw := False) hA⟩⟩) ?_
        rintro K s205 a w206 ⟨⟨v207, A209⟩, ha256, hH210, hr196⟩ K217
        refine C_of ?_ ha256
        replace hK := Tr.trans (Dw := False) hK hr196
        replace hB := Nat.le_trans hB hr196.ex.size
        replace hA := hr196.new
        replace hH : Hp w.heap.size A209 w206 (obS (α := level_Piece) 38 v207 s205.2.pieces :: obC (b158 0) [.int .i64 s205.2.kind, .int .i64 s205.2.level, .int .i64 s205.2.minutes, .int .i64 s205.2.start, .int .i64 s205.2.stop, .int .i64 s205.2.end_, v207] 24 :: obS (α := Int) 3 v12 x11.2.1 :: obC b1 [.int .i64 0, .int .i64 0, .int .i64 0, .int .i64 0, .int .i64 0, .int .i64 0, .slice none 0 0] 24 :: []) := hH210
        obtain ⟨x211, h212, h213⟩ := K217
        refine C_seq ?_
        refine C_seq ?_
        refine C_region ?_
        refine V_y (Y_move rfl) rfl rfl rfl ?_
        refine V_y (Y_move rfl) rfl rfl rfl ?_
        refine V_y (Y_lenSl (Hp.any (α := Int) (e := 3) (v := v12) (l := x11.2.1) hH (i := 2) rfl) rfl Tryz.underlying34 rfl) rfl rfl rfl ?_
        refine V_y (Y_lss rfl rfl) rfl rfl rfl ?_
        refine V_to (fun _ _ => rfl) ?_
        refine C_cond rfl (fun hc218 => ?_) (fun hc218 => ?_)
        · rw [if_pos hc218] at h212
          refine C_skip_to (fun _ _ => rfl) ?_
          refine C_seq ?_
          refine C_block ?_
          refine C_region_ch (Dw := False) A209 21 [(1, 0), (0, 1), (1, 2), (1, 3), (0, 4), (0, 5), (1, 6), (1, 7), (1, 8), (0, 9), (0, 10), (1, 11), (1, 12), (1, 13), (0, 14), (0, 15), (1, 16), (2, 17), (4, 18), (1, 19), (4, 20)] Tryz_mixed (by kernel_rfl) (fun w219 hk220 => ?_)
          have ht221 := Kp.tr (Dw := False) hk220 hA hB
          replace hH := Hp.kp (Dw := False) hH hk220
          replace hK := Tr.trans (Dw := False) hK ht221
          replace hr196 := Tr.trans (Dw := False) hr196 ht221
          replace hB := Nat.le_trans hB ht221.ex.size
          replace hA := ht221.new
          refine CH_q2 (Dw := False) rfl ?_
          refine VQ_y (fun w' hw' => Y_fieldAddrC (off2 := 6) Tryz.underlying24 rfl Tryz.sizeOf22 (by decide) rfl rfl) rfl rfl rfl ?_
          refine VQ_CH (Dw := False) ?_
          refine CH_q1 (Dw := False) rfl ?_
          refine VQ_y (fun w' hw' => Y_load ((World.cell?_of_block (hw'.block _ (World.block_lt_of_cell? _ _ (Hp.cell (j := 6) hH (i := 1) rfl rfl)))).trans (Hp.cell (j := 6) hH (i := 1) rfl rfl)) Tryz.isAgg22 rfl) rfl rfl rfl ?_
          refine VQ_CH (Dw := False) ?_
          refine CH_q2 (Dw := False) rfl ?_
          refine VQ_y (fun w' hw' => Y_move rfl) rfl rfl rfl ?_
          refine VQ_CH (Dw := False) ?_
          refine CH_q2 (Dw := False) rfl ?_
          refine VQ_y (fun w' hw' => Y_move rfl) rfl rfl rfl ?_
          refine VQ_CH (Dw := False) ?_
          refine CH_q1 (Dw := False) rfl ?_
          obtain ⟨x222, hx222, h212⟩ := Option.bind_eq_some_iff.1 h212
          refine VQ_indexAddrH (α := Int) (e := 3) (v := v12) (l := x11.2.1) hH (i := 2) rfl hx222 Tryz.underlying34 Tryz.sizeOf3 rfl rfl rfl ?_
          intro b223 o224 h225 hl226
          refine VQ_CH (Dw := False) ?_
          refine CH_q1 (Dw := False) rfl ?_
          refine VQ_y (fun w' hw' => Y_load (El.int (El.kp (Dw := False) h225 hw')) Tryz.isAgg3 rfl) rfl rfl rfl ?_
          refine VQ_CH (Dw := False) ?_
          refine CH_q2 (Dw := False) rfl ?_
          refine VQ_y (fun w' hw' => Y_move rfl) rfl rfl rfl ?_
          refine VQ_CH (Dw := False) ?_
          refine CH_q2 (Dw := False) rfl ?_
          refine VQ_y (fun w' hw' => Y_move rfl) rfl rfl rfl ?_
          refine VQ_CH (Dw := False) ?_
          refine CH_q2 (Dw := False) rfl ?_
          refine VQ_y (fun w' hw' => Y_addI rfl rfl) rfl rfl rfl ?_
          refine VQ_CH (Dw := False) ?_
          refine CH_q1 (Dw := False) rfl ?_
          obtain ⟨x227, hx227, h212⟩ := Option.bind_eq_some_iff.1 h212
          refine VQ_indexAddrH (α := Int) (e := 3) (v := v12) (l := x11.2.1) hH (i := 2) rfl hx227 Tryz.underlying34 Tryz.sizeOf3 rfl rfl rfl ?_
          intro b228 o229 h230 hl231
          refine VQ_CH (Dw := False) ?_
          refine CH_q1 (Dw := False) rfl ?_
          refine VQ_y (fun w' hw' => Y_load (El.int (El.kp (Dw := False) h230 hw')) Tryz.isAgg3 rfl) rfl rfl rfl ?_
          refine VQ_CH (Dw := False) ?_
          refine CH_q2 (Dw := False) rfl ?_
          refine VQ_y (fun w' hw' => Y_move rfl) rfl rfl rfl ?_
          refine VQ_CH (Dw := False) ?_
          refine CH_q2 (Dw := False) rfl ?_
          refine VQ_y (fun w' hw' => Y_move rfl) rfl rfl rfl ?_
          refine VQ_CH (Dw := False) ?_
          refine CH_q2 (Dw := False) rfl ?_
          refine VQ_y (fun w' hw' => Y_addI rfl rfl) rfl rfl rfl ?_
          refine VQ_CH (Dw := False) ?_
          refine CH_q1 (Dw := False) rfl ?_
          obtain ⟨x232, hx232, h212⟩ := Option.bind_eq_some_iff.1 h212
          refine VQ_indexAddrH (α := Int) (e := 3) (v := v12) (l := x11.2.1) hH (i := 2) rfl hx232 Tryz.underlying34 Tryz.sizeOf3 rfl rfl rfl ?_
          intro b233 o234 h235 hl236
          refine VQ_CH (Dw := False) ?_
          refine CH_q1 (Dw := False) rfl ?_
          refine VQ_y (fun w' hw' => Y_load (El.int (El.kp (Dw := False) h235 hw')) Tryz.isAgg3 rfl) rfl rfl rfl ?_
          refine VQ_CH (Dw := False) ?_
          refine CH_q2 (Dw := False) rfl ?_
          refine VQ_y (fun w' hw' => Y_build Tryz.underlying38 Tryz.zeroValue38 (Tryz_places38 _ Tryz.underlying38) rfl (by with_unfolding_all rfl)) rfl rfl rfl ?_
          refine VQ_CH (Dw := False) ?_
          refine CH_l1 (Dw := False) (k := 0) rfl ?_
          refine V_buildSlice (Dw := False) (cells := #[.int .i64 x222, .int .i64 x227, .int .i64 x232]) (l := ([(⟨x222, x227, x232⟩ : level_Piece)] : List level_Piece)) (len := 1) Tryz.underlying22 Tryz.sizeOf38 Tryz.zeroValue38 rfl (by kernel_rfl) (show (1 * 3 : Nat) ≠ 0 by decide) (show (1 * 3 : Nat) ≤ 2 ^ 24 by decide) hA ⟨[.int .i64 x222, .int .i64 x227, .int .i64 x232], _, rfl, ⟨[.int .i64 x222], _, rfl, rfl, ⟨[.int .i64 x227], _, rfl, rfl, rfl⟩⟩, rfl⟩ rfl rfl ?_
          intro v237 w238 hk240 h239
          have ht241 := Kp.tr (Dw := False) hk240 hA hB
          replace hH := Hp.kp (Dw := False) hH hk240
          replace h225 := El.kp (Dw := False) h225 hk240
          replace h230 := El.kp (Dw := False) h230 hk240
          replace h235 := El.kp (Dw := False) h235 hk240
          replace hK := Tr.trans (Dw := False) hK ht241
          replace hr196 := Tr.trans (Dw := False) hr196 ht241
          replace hB := Nat.le_trans hB ht241.ex.size
          replace hA := ht241.new
          refine V_CH (Dw := False) (hk240) ?_
          refine CH_l1 (Dw := False) (k := 2) rfl ?_
          obtain ⟨x242, hx242, h212⟩ := Option.bind_eq_some_iff.1 h212
          refine V_appendH (Dw := False) (e := 38) (v := v207) (l := s205.2.pieces) (ti := Tryz.t38) (bytes := 24) (lim := 5864062014805) hH (i := 0) rfl h239 hx242 Tryz.underlying22 Tryz_info38 rfl rfl rfl rfl (by decide) (by decide) (by decide) hB hA rfl rfl rfl ?_
          intro v243 w244 A245 hH246 ht247
          replace h239 := Sl.tr (Dw := False) h239 ht247
          replace hK := Tr.trans (Dw := False) hK ht247
          replace hr196 := Tr.trans (Dw := False) hr196 ht247
          replace hB := Nat.le_trans hB ht247.ex.size
          replace hA := ht247.new
          replace hH : Hp w.heap.size A245 w244 (obS (α := level_Piece) 38 v243 x242 :: obC (b158 0) [.int .i64 s205.2.kind, .int .i64 s205.2.level, .int .i64 s205.2.minutes, .int .i64 s205.2.start, .int .i64 s205.2.stop, .int .i64 s205.2.end_, v207] 24 :: obS (α := Int) 3 v12 x11.2.1 :: obC b1 [.int .i64 0, .int .i64 0, .int .i64 0, .int .i64 0, .int .i64 0, .int .i64 0, .slice none 0 0] 24 :: []) := hH246
          refine V_CHw (Dw := False) ?_
          refine CH_q2 (Dw := False) rfl ?_
          refine VQ_y (fun w' hw' => Y_fieldAddrC (off2 := 6) Tryz.underlying24 rfl Tryz.sizeOf22 (by decide) rfl rfl) rfl rfl rfl ?_
          refine VQ_CH (Dw := False) ?_
          refine CH_l1 (Dw := False) (k := 2) rfl ?_
          have h253 : (v243).oneCell' = true := by obtain ⟨_, _, e, _⟩ := Hp.form (α := level_Piece) (e := 38) (v := v243) (l := x242) hH (i := 0) rfl; rw [e]; rfl
          refine V_storeC (Dw := False) (off := 6) (ds := [.int .i64 s205.2.kind, .int .i64 s205.2.level, .int .i64 s205.2.minutes, .int .i64 s205.2.start, .int .i64 s205.2.stop, .int .i64 s205.2.end_, v243]) hH (i := 1) rfl Tryz.sizeOf22 (by rw [← Array.length_toList, Value.cells_one h253]; rfl) (Nat.le_of_ble_eq_true rfl) (by intro u hu; rw [Value.cells_one h253] at hu; simp at hu; subst hu; assumption) (by rw [Value.cells_one h253]; rfl) hB hA rfl rfl ?_
          intro w248 hH249 ht250
          replace h239 := Sl.tr (Dw := False) h239 ht250
          replace hK := Tr.trans (Dw := False) hK ht250
          replace hr196 := Tr.trans (Dw := False) hr196 ht250
          replace hB := Nat.le_trans hB ht250.ex.size
          replace hA := ht250.new
          replace hH : Hp w.heap.size A245 w248 (obS (α := level_Piece) 38 v243 x242 :: obC (b158 0) [.int .i64 s205.2.kind, .int .i64 s205.2.level, .int .i64 s205.2.minutes, .int .i64 s205.2.start, .int .i64 s205.2.stop, .int .i64 s205.2.end_, v243] 24 :: obS (α := Int) 3 v12 x11.2.1 :: obC b1 [.int .i64 0, .int .i64 0, .int .i64 0, .int .i64 0, .int .i64 0, .int .i64 0, .slice none 0 0] 24 :: []) := hH249
          refine V_CHw (Dw := False) ?_
          refine CH_tail (Dw := False) ?_
          show V _ _ _ _ [] _ _
          refine V_to (fun _ _ => rfl) ?_
          refine C_region ?_
          refine V_y (Y_move rfl) rfl rfl rfl ?_
          refine V_y (Y_addI rfl rfl) rfl rfl rfl ?_
          refine V_y (Y_assign rfl) rfl rfl rfl ?_
          obtain rfl := Option.some.inj h212
          refine V_end (fun a ha254 => ?_)
          exact ⟨(w64 (s205.1 + 3), (⟨s205.2.kind, s205.2.level, s205.2.minutes, s205.2.start, s205.2.stop, s205.2.end_, x242⟩ : level_Clock)), h213, ⟨(v243, A245), ha254.sub ⟨rfl, rfl, rfl, rfl, trivial⟩, ⟨hH, hr196⟩⟩⟩
        · rw [if_neg (nt hc218)] at h212
          obtain rfl := Option.some.inj h212
          refine C_exit (fun a ha255 => ?_)
          exact ⟨((s205.1, s205.2), v207, A209), ha255.sub ⟨rfl, rfl, trivial⟩, ⟨h213.symm, hH, hr196⟩⟩
      rintro ⟨s195, v201, A203⟩ w198 ⟨rfl, hH204, hk199⟩ a ha200
      rw [Lp.andThen_fin] at hm
      replace hK := Tr.trans (Dw := False) hK hk199
      replace hB := Nat.le_trans hB hk199.ex.size
      replace hA := hk199.new
      replace hH : Hp w.heap.size A203 w198 (obS (α := level_Piece) 38 v201 s195.2.pieces :: obC (b158 0) [.int .i64 s195.2.kind, .int .i64 s195.2.level, .int .i64 s195.2.minutes, .int .i64 s195.2.start, .int .i64 s195.2.stop, .int .i64 s195.2.end_, v201] 24 :: obS (α := Int) 3 v12 x11.2.1 :: obC b1 [.int .i64 0, .int .i64 0, .int .i64 0, .int .i64 0, .int .i64 0, .int .i64 0, .slice none 0 0] 24 :: []) := hH204
      refine C_at (n := ⟨105, [], none⟩) (fun _ _ => rfl) ?_ ha200
      refine C_seq ?_
      refine C_seq ?_
      refine C_region ?_
      refine V_y (Y_loadA (Hp.part (off := 0) (n := 7) (ds := [.int .i64 s195.2.kind, .int .i64 s195.2.level, .int .i64 s195.2.minutes, .int .i64 s195.2.start, .int .i64 s195.2.stop, .int .i64 s195.2.end_, v201]) hH (i := 1) rfl rfl) Tryz.isAgg24 Tryz.sizeOf24 rfl) rfl rfl rfl ?_
      obtain ⟨x257, hx257, hm⟩ := Option.bind_eq_some_iff.1 hm
      refine V_call Tryz.call13 rfl rfl rfl rfl (portref2_ClockFault_c (Dw := False) w198 (A := fun _ => True) (fun _ _ => trivial) s195.2 v201 (Hp.any (α := level_Piece) (e := 38) (v := v201) (l := s195.2.pieces) hH (i := 0) rfl) hx257) ?_
      rintro _ w258 ⟨rfl, hk259⟩
      have ht260 := Kp.tr (Dw := False) hk259 hA hB
      replace hH := Hp.kp (Dw := False) hH hk259
      replace hK := Tr.trans (Dw := False) hK ht260
      replace hB := Nat.le_trans hB ht260.ex.size
      replace hA := ht260.new
      refine V_y (Y_assign rfl) rfl rfl rfl ?_
      refine V_to (fun _ _ => rfl) ?_
      refine C_seq ?_
      refine C_region ?_
      refine V_y (Y_move rfl) rfl rfl rfl ?_
      refine V_y (Y_neq rfl rfl) rfl rfl rfl ?_
      refine V_to (fun _ _ => rfl) ?_
      refine C_cond rfl (fun hc261 => ?_) (fun hc261 => ?_)
      · rw [if_pos hc261] at hm
        refine C_seq ?_
        refine C_region ?_
        refine V_y (Y_build Tryz.underlying24 Tryz.zeroValue24 (Tryz_places24 _ Tryz.underlying24) rfl (by with_unfolding_all rfl)) rfl rfl rfl ?_
        refine V_y (Y_move rfl) rfl rfl rfl ?_
        refine V_storeC (Dw := False) (off := 0) (ds := [.int .i64 0, .int .i64 0, .int .i64 0, .int .i64 0, .int .i64 0, .int .i64 0, .slice none 0 0]) hH (i := 3) rfl Tryz.sizeOf24 rfl (Nat.le_of_ble_eq_true rfl) (by exact (List.forall_mem_cons.2 ⟨rfl, (List.forall_mem_cons.2 ⟨rfl, (List.forall_mem_cons.2 ⟨rfl, (List.forall_mem_cons.2 ⟨rfl, (List.forall_mem_cons.2 ⟨rfl, (List.forall_mem_cons.2 ⟨rfl, (List.forall_mem_cons.2 ⟨rfl, (fun _ h => nomatch h)⟩)⟩)⟩)⟩)⟩)⟩)⟩)) rfl hB hA rfl rfl ?_
        intro w262 hH263 ht264
        replace hK := Tr.trans (Dw := False) hK ht264
        replace hB := Nat.le_trans hB ht264.ex.size
        replace hA := ht264.new
        replace hH : Hp w.heap.size A203 w262 (obS (α := level_Piece) 38 v201 s195.2.pieces :: obC (b158 0) [.int .i64 s195.2.kind, .int .i64 s195.2.level, .int .i64 s195.2.minutes, .int .i64 s195.2.start, .int .i64 s195.2.stop, .int .i64 s195.2.end_, v201] 24 :: obS (α := Int) 3 v12 x11.2.1 :: obC b1 [.int .i64 0, .int .i64 0, .int .i64 0, .int .i64 0, .int .i64 0, .int .i64 0, .slice none 0 0] 24 :: []) := hH263
        refine V_y (Y_assign rfl) rfl rfl rfl ?_
        refine V_to (fun _ _ => rfl) ?_
        obtain rfl := Option.some.inj hm
        refine C_ret ?_
        try simp only [↓inBlock_ret, ↓then_ret]
        exact retQ rfl (Res.l2 Tryz.results5 (RL.cell rfl (loadVar_agg (Hp.part (off := 0) (n := 7) (ds := [.int .i64 0, .int .i64 0, .int .i64 0, .int .i64 0, .int .i64 0, .int .i64 0, .slice none 0 0]) hH (i := 3) rfl rfl) Tryz.isAgg24 Tryz.sizeOf24)) (RL.tmp rfl)) ⟨.slice none 0 0, rfl, Sl.nil, hK.kp⟩
      · rw [if_neg (nt hc261)] at hm
        refine C_skip_to (fun _ _ => rfl) ?_
        refine C_seq ?_
        refine C_region ?_
        refine V_y (Y_loadA (Hp.part (off := 0) (n := 7) (ds := [.int .i64 s195.2.kind, .int .i64 s195.2.level, .int .i64 s195.2.minutes, .int .i64 s195.2.start, .int .i64 s195.2.stop, .int .i64 s195.2.end_, v201]) hH (i := 1) rfl rfl) Tryz.isAgg24 Tryz.sizeOf24 rfl) rfl rfl rfl ?_
        obtain ⟨A265, ht266, h267, hH268⟩ := Hp.freeze (Dw := False) (α := level_Piece) (v := v201) (l := s195.2.pieces) hH (i := 0) rfl hA
        replace hK := Tr.trans (Dw := False) hK ht266
        replace hB := Nat.le_trans hB ht266.ex.size
        replace hA := ht266.new
        replace hH : Hp w.heap.size A265 w258 (obC (b158 0) [.int .i64 s195.2.kind, .int .i64 s195.2.level, .int .i64 s195.2.minutes, .int .i64 s195.2.start, .int .i64 s195.2.stop, .int .i64 s195.2.end_, v201] 24 :: obS (α := Int) 3 v12 x11.2.1 :: obC b1 [.int .i64 0, .int .i64 0, .int .i64 0, .int .i64 0, .int .i64 0, .int .i64 0, .slice none 0 0] 24 :: []) := hH268
        have h275 : (v201).oneCell' = true := by obtain ⟨_, _, e, _⟩ := Sl.form h267; rw [e]; rfl
        refine V_storeC (Dw := False) (off := 0) (ds := [.int .i64 s195.2.kind, .int .i64 s195.2.level, .int .i64 s195.2.minutes, .int .i64 s195.2.start, .int .i64 s195.2.stop, .int .i64 s195.2.end_, v201]) hH (i := 2) rfl Tryz.sizeOf24 rfl (Nat.le_of_ble_eq_true rfl) (by exact (List.forall_mem_cons.2 ⟨rfl, (List.forall_mem_cons.2 ⟨rfl, (List.forall_mem_cons.2 ⟨rfl, (List.forall_mem_cons.2 ⟨rfl, (List.forall_mem_cons.2 ⟨rfl, (List.forall_mem_cons.2 ⟨rfl, (List.forall_mem_cons.2 ⟨h275, (fun _ h => nomatch h)⟩)⟩)⟩)⟩)⟩)⟩)⟩)) rfl hB hA rfl rfl ?_
        intro w270 hH271 ht272
        replace h267 := Sl.tr (Dw := False) h267 ht272
        replace hK := Tr.trans (Dw := False) hK ht272
        replace hB := Nat.le_trans hB ht272.ex.size
        replace hA := ht272.new
        replace hH : Hp w.heap.size A265 w270 (obC (b158 0) [.int .i64 s195.2.kind, .int .i64 s195.2.level, .int .i64 s195.2.minutes, .int .i64 s195.2.start, .int .i64 s195.2.stop, .int .i64 s195.2.end_, v201] 24 :: obS (α := Int) 3 v12 x11.2.1 :: obC b1 [.int .i64 s195.2.kind, .int .i64 s195.2.level, .int .i64 s195.2.minutes, .int .i64 s195.2.start, .int .i64 s195.2.stop, .int .i64 s195.2.end_, v201] 24 :: []) := hH271
        refine V_y (Y_assign rfl) rfl rfl rfl ?_
        refine V_to (fun _ _ => rfl) ?_
        obtain rfl := Option.some.inj hm
        refine C_ret ?_
        try simp only [↓inBlock_ret, ↓then_ret]
        exact retQ rfl (Res.l2 Tryz.results5 (RL.cell rfl (loadVar_agg (Hp.part (off := 0) (n := 7) (ds := [.int .i64 s195.2.kind, .int .i64 s195.2.level, .int .i64 s195.2.minutes, .int .i64 s195.2.start, .int .i64 s195.2.stop, .int .i64 s195.2.end_, v201]) hH (i := 2) rfl rfl) Tryz.isAgg24 Tryz.sizeOf24)) (RL.tmp rfl)) ⟨v201, rfl, (Sl.out (Dw := False) h267 hA0 hK), hK.kp⟩

set_option maxRecDepth 4000 in
set_option maxHeartbeats 4000000 in
theorem slices_Equal_Llevel_Piece_level_Piece_c (w : World) {A : Nat → Prop} (hA : ∀ b, w.heap.size ≤ b → A b) (s1 : (List level_Piece)) (v_s1 : Value) (h_s1 : Sl A w v_s1 s1) (s2 : (List level_Piece)) (v_s2 : Value) (h_s2 : Sl A w v_s2 s2) {r : Bool} (hm : slices_Equal_Llevel_Piece_level_Piece s1 s2 = some r) : Ret Tryz.prog 52 #[v_s1, v_s2] w fun v w' => v = .bool r ∧ Kp Dw w w' := by
  unfold slices_Equal_Llevel_Piece_level_Piece at hm
  refine enter Tryz.func52 rfl Tryz.ntmps52 rfl ?_
  have hA0 := hA
  have hB := Nat.le_refl w.heap.size
  have hK : Tr Dw w.heap.size A w A w := Tr.refl (Dw := Dw) hA
  have hH : Hp w.heap.size A w [] := Hp.nil
  refine C_seq ?_
  refine C_region ?_
  refine V_y (Y_assign rfl) rfl rfl rfl ?_
  refine V_to (fun _ _ => rfl) ?_
  refine C_seq ?_
  refine C_seq ?_
  refine C_region ?_
  refine V_y (Y_move rfl) rfl rfl rfl ?_
  refine V_y (Y_lenSl h_s1 rfl Tryz.underlying22 rfl) rfl rfl rfl ?_
  refine V_y (Y_move rfl) rfl rfl rfl ?_
  refine V_y (Y_lenSl h_s2 rfl Tryz.underlying22 rfl) rfl rfl rfl ?_
  refine V_y (Y_neq rfl rfl) rfl rfl rfl ?_
  refine V_to (fun _ _ => rfl) ?_
  refine C_cond rfl (fun hc5 => ?_) (fun hc5 => ?_)
  · rw [if_pos hc5] at hm
    refine C_seq ?_
    refine C_region ?_
    refine V_y (Y_assign rfl) rfl rfl rfl ?_
    refine V_to (fun _ _ => rfl) ?_
    obtain rfl := Option.some.inj hm
    refine C_ret ?_
    try simp only [↓inBlock_ret, ↓then_ret]
    exact retQ rfl (Res.one Tryz.results52 rfl) ⟨rfl, hK.kp⟩
  · rw [if_neg (nt hc5)] at hm
    refine C_skip_to (fun _ _ => rfl) ?_
    refine C_seq ?_
    refine C_seq ?_
    refine C_region ?_
    refine V_y (Y_move rfl) rfl rfl rfl ?_
    refine V_y (Y_lenSl h_s1 rfl Tryz.underlying22 rfl) rfl rfl rfl ?_
    refine V_y (Y_move rfl) rfl rfl rfl ?_
    refine V_to (fun _ _ => rfl) ?_
    have hn27 := Sl.le h_s1
    obtain ⟨o6, ho6, hm⟩ := Option.bind_eq_some_iff.1 hm
    refine C_cutG (ι := (Unit × (Nat → Prop))) (fun ⟨s7, A13⟩ => []) (fun ⟨s7, A13⟩ => fun w' => o6 = .fin s7 ∧ Hp w.heap.size A13 w' ([]) ∧ Tr Dw w.heap.size A w A13 w') ?_ ?_
    · refine C_block ?_
      refine C_range ho6 (fun k9 _ a w' => ∃ i : (Nat → Prop), Has ⟨26, [], none⟩ a ([(0, v_s1), (1, v_s2), (12, .int .i64 (s1.length : Int)), (13, .int .i64 (k9 : Int))]) ∧ Hp w.heap.size i w' ([]) ∧ Tr Dw w.heap.size A w i w') (fun a ha => ⟨A, ha.sub ⟨rfl, rfl, rfl, rfl, trivial⟩, ⟨hH, Tr.refl (Dw := Dw) hA⟩⟩) ?_
      rintro K k9 _ a w17 ⟨A18, ha45, hH19, hr8⟩ hle23 K26 h25
      refine C_of ?_ ha45
      replace h_s1 := Sl.tr (Dw := Dw) h_s1 hr8
      replace h_s2 := Sl.tr (Dw := Dw) h_s2 hr8
      replace hK := Tr.trans (Dw := Dw) hK hr8
      replace hB := Nat.le_trans hB hr8.ex.size
      replace hA := hr8.new
      replace hH : Hp w.heap.size A18 w17 ([]) := hH19
      refine C_seq (C_region (V_y (Y_lss rfl rfl) rfl rfl rfl (V_to (fun _ _ => rfl) ?_)))
      refine C_seq ?_
      refine C_cond rfl (fun hc28 => ?_) (fun hc28 => ?_)
      · have hlt24 := lt_of_dec hc28
        obtain ⟨x20, h21, h22⟩ := K26 hlt24
        refine C_skip_to (fun _ _ => rfl) ?_
        refine C_seq ?_
        refine C_block ?_
        refine C_seq ?_
        refine C_region ?_
        refine V_y (Y_move rfl) rfl rfl rfl ?_
        refine V_y (Y_assign rfl) rfl rfl rfl ?_
        refine V_to (fun _ _ => rfl) ?_
        refine C_seq ?_
        refine C_region_q (Dw := Dw) Tryz_mixed (by kernel_rfl) ?_
        refine VQ_y (fun w' hw' => Y_move rfl) rfl rfl rfl ?_
        refine VQ_y (fun w' hw' => Y_move rfl) rfl rfl rfl ?_
        obtain ⟨x29, hx29, h21⟩ := Option.bind_eq_some_iff.1 h21
        refine VQ_indexAddr h_s1 hx29 Tryz.underlying22 Tryz.sizeOf38 rfl rfl rfl ?_
        intro b30 o31 h32
        obtain ⟨h33, _⟩ := El_level_Piece h32
        refine VQ_y (fun w' hw' => Y_loadA (At.kp (Dw := Dw) h33 hw' h32.2.1) Tryz.isAgg38 Tryz.sizeOf38 rfl) rfl rfl rfl ?_
        refine VQ_y (fun w' hw' => Y_move rfl) rfl rfl rfl ?_
        refine VQ_y (fun w' hw' => Y_move rfl) rfl rfl rfl ?_
        obtain ⟨x34, hx34, h21⟩ := Option.bind_eq_some_iff.1 h21
        refine VQ_indexAddr h_s2 hx34 Tryz.underlying22 Tryz.sizeOf38 rfl rfl rfl ?_
        intro b35 o36 h37
        obtain ⟨h38, _⟩ := El_level_Piece h37
        refine VQ_y (fun w' hw' => Y_loadA (At.kp (Dw := Dw) h38 hw' h37.2.1) Tryz.isAgg38 Tryz.sizeOf38 rfl) rfl rfl rfl ?_
        refine VQ_y (fun w' hw' => Y_neqA (fun w => Tryz_eqt38_10000 x29.from_ x29.to_ x29.calendar x34.from_ x34.to_ x34.calendar w) Tryz_eqg38 rfl rfl) rfl rfl rfl ?_
        refine VQ_to (fun _ _ => rfl) (fun w39 hk40 => ?_)
        have ht41 := Kp.tr (Dw := Dw) hk40 hA hB
        replace hH := Hp.kp (Dw := Dw) hH hk40
        replace h_s1 := Sl.tr (Dw := Dw) h_s1 ht41
        replace h_s2 := Sl.tr (Dw := Dw) h_s2 ht41
        replace hK := Tr.trans (Dw := Dw) hK ht41
        replace hr8 := Tr.trans (Dw := Dw) hr8 ht41
        replace hB := Nat.le_trans hB ht41.ex.size
        replace hA := ht41.new
        refine C_cond rfl (fun hc42 => ?_) (fun hc42 => ?_)
        · rw [if_pos hc42] at h21
          refine C_seq ?_
          refine C_region ?_
          refine V_y (Y_assign rfl) rfl rfl rfl ?_
          refine V_to (fun _ _ => rfl) ?_
          obtain rfl := Option.some.inj h21
          obtain rfl := (h22 : Lp.rt _ = _)
          rw [Lp.andThen_rt] at hm
          obtain rfl := Option.some.inj hm
          refine C_ret ?_
          try simp only [↓inBlock_ret, ↓then_ret]
          exact retQ rfl (Res.one Tryz.results52 rfl) ⟨rfl, hK.kp⟩
        · rw [if_neg (nt hc42)] at h21
          refine C_skip_to (fun _ _ => rfl) ?_
          refine C_region ?_
          refine V_y (Y_addI rfl rfl) rfl rfl rfl ?_
          refine V_y (Y_move rfl) rfl rfl rfl ?_
          obtain rfl := Option.some.inj h21
          refine V_end (fun a ha43 => ?_)
          exact ⟨(), hlt24, h22, ⟨A18, ha43.sub ⟨rfl, rfl, rfl, (congrArg (fun z => some (Value.int .i64 z)) (w64_succ hlt24 hn27)), trivial⟩, ⟨hH, hr8⟩⟩⟩
      · refine C_exit (fun a ha44 => ?_)
        exact ⟨((), A18), ha44.sub trivial, ⟨(h25 (eq_of_dec hle23 hc28)).symm, hH, hr8⟩⟩
    rintro ⟨s7, A13⟩ w10 ⟨rfl, hH14, hk11⟩ a ha12
    rw [Lp.andThen_fin] at hm
    replace hK := Tr.trans (Dw := Dw) hK hk11
    replace hB := Nat.le_trans hB hk11.ex.size
    replace hA := hk11.new
    replace hH : Hp w.heap.size A13 w10 ([]) := hH14
    refine C_at (n := ⟨26, [], none⟩) (fun _ _ => rfl) ?_ ha12
    refine C_seq ?_
    refine C_region ?_
    refine V_y (Y_assign rfl) rfl rfl rfl ?_
    refine V_to (fun _ _ => rfl) ?_
    obtain rfl := Option.some.inj hm
    refine C_ret ?_
    try simp only [↓inBlock_ret, ↓then_ret]
    exact retQ rfl (Res.one Tryz.results52 rfl) ⟨rfl, hK.kp⟩

end Go.Proofs.YtnkjmfbpkbooeaaGreatDoor.W
