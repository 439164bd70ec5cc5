/-
  Written by program (gen.py) from the IR of the dump: each function computes its model.
-/
import Derived.Test.YtigplgkbilmabaaDoorRouteRoomW1
namespace Go.Proofs.YtigplgkbilmabaaDoor.W
open Go Go.RowKit Go.Pu Go.Gw Go.Proofs Go.Proofs.YtigplgkbilmabaaDoor.M
set_option linter.unusedVariables false
set_option linter.unusedSimpArgs false

set_option maxRecDepth 4000 in
set_option maxHeartbeats 4000000 in
theorem portlaw2_RouteRoom_c (w : World) {A : Nat → Prop} (hA : ∀ b, w.heap.size ≤ b → A b) (people : (List route_Person)) (v_people : Value) (h_people : Sl A w v_people people) (held : (List route_Held)) (v_held : Value) (h_held : Sl A w v_held held) {r : Bool} (hm : portlaw2_RouteRoom people held = some r) : Ret Tryd.prog 3 #[v_people, v_held] w fun v w' => v = .bool r ∧ Kp w w' := by
  unfold portlaw2_RouteRoom at hm
  refine enter Tryd.func3 rfl Tryd.ntmps3 rfl ?_
  have hA0 := hA
  have hB := Nat.le_refl w.heap.size
  have hK : Tr w.heap.size A w A w := Tr.refl hA
  have hH : Hp w.heap.size A w [] := Hp.nil
  refine C_seq ?_
  refine C_region ?_
  refine V_y (Y_assign rfl) rfl rfl rfl ?_
  refine V_to (fun _ _ => rfl) ?_
  refine C_seq ?_
  refine C_region ?_
  refine V_y (Y_move rfl) rfl rfl rfl ?_
  refine V_y (Y_move rfl) rfl rfl rfl ?_
  obtain ⟨x5, hx5, hm⟩ := Option.bind_eq_some_iff.1 hm
  refine V_call Tryd.call5 rfl rfl rfl rfl (route_Room_c w hA people v_people h_people held v_held h_held hx5) ?_
  rintro _ w9 ⟨v6, rfl, h7, hk10⟩
  obtain ⟨A11, ht12, hH13⟩ := Hp.addOwnd hH hB hA hk10 h7
  replace h_people := Sl.tr h_people ht12
  replace h_held := Sl.tr h_held ht12
  replace hK := Tr.trans hK ht12
  replace hB := Nat.le_trans hB ht12.ex.size
  replace hA := ht12.new
  replace hH : Hp w.heap.size A11 w9 (obS (α := Int) 3 v6 x5.1 :: []) := hH13
  refine V_y (Y_move rfl) rfl rfl rfl ?_
  refine V_y (Y_extract rfl rfl) rfl rfl rfl ?_
  refine V_y (Y_extract rfl rfl) rfl rfl rfl ?_
  refine V_y (Y_assign rfl) rfl rfl rfl ?_
  refine V_y (Y_assign rfl) rfl rfl rfl ?_
  refine V_to (fun _ _ => rfl) ?_
  refine C_seq ?_
  refine C_region ?_
  refine V_y (Y_move rfl) rfl rfl rfl ?_
  refine V_y (Y_move rfl) rfl rfl rfl ?_
  obtain ⟨x14, hx14, hm⟩ := Option.bind_eq_some_iff.1 hm
  refine V_call Tryd.call6 rfl rfl rfl rfl (portref2_RoomOf_c w9 hA people v_people h_people held v_held h_held hx14) ?_
  rintro _ w17 ⟨v15, rfl, h16, hk18⟩
  obtain ⟨A19, ht20, hH21⟩ := Hp.addOwnd hH hB hA hk18 h16
  replace h_people := Sl.tr h_people ht20
  replace h_held := Sl.tr h_held ht20
  replace hK := Tr.trans hK ht20
  replace hB := Nat.le_trans hB ht20.ex.size
  replace hA := ht20.new
  replace hH : Hp w.heap.size A19 w17 (obS (α := Int) 3 v15 x14.1 :: obS (α := Int) 3 v6 x5.1 :: []) := hH21
  refine V_y (Y_move rfl) rfl rfl rfl ?_
  refine V_y (Y_extract rfl rfl) rfl rfl rfl ?_
  refine V_y (Y_extract rfl rfl) rfl rfl rfl ?_
  refine V_y (Y_assign rfl) rfl rfl rfl ?_
  refine V_y (Y_assign rfl) rfl rfl rfl ?_
  refine V_to (fun _ _ => rfl) ?_
  refine C_seq ?_
  refine C_region ?_
  refine V_y (Y_move rfl) rfl rfl rfl ?_
  refine V_y (Y_move rfl) rfl rfl rfl ?_
  obtain ⟨x22, hx22, hm⟩ := Option.bind_eq_some_iff.1 hm
  refine V_call Tryd.call7 rfl rfl rfl rfl (route_Spread_c w17 hA people v_people h_people held v_held h_held hx22) ?_
  rintro _ w23 ⟨rfl, hk24⟩
  have ht25 := Kp.tr hk24 hA hB
  replace hH := Hp.kp hH hk24
  replace h_people := Sl.tr h_people ht25
  replace h_held := Sl.tr h_held ht25
  replace hK := Tr.trans hK ht25
  replace hB := Nat.le_trans hB ht25.ex.size
  replace hA := ht25.new
  refine V_y (Y_move rfl) rfl rfl rfl ?_
  refine V_y (Y_extract rfl rfl) rfl rfl rfl ?_
  refine V_y (Y_extract rfl rfl) rfl rfl rfl ?_
  refine V_y (Y_extract rfl rfl) rfl rfl rfl ?_
  refine V_y (Y_assign rfl) rfl rfl rfl ?_
  refine V_y (Y_assign rfl) rfl rfl rfl ?_
  refine V_y (Y_assign rfl) rfl rfl rfl ?_
  refine V_to (fun _ _ => rfl) ?_
  refine C_seq ?_
  refine C_region ?_
  refine V_y (Y_move rfl) rfl rfl rfl ?_
  refine V_y (Y_move rfl) rfl rfl rfl ?_
  obtain ⟨x26, hx26, hm⟩ := Option.bind_eq_some_iff.1 hm
  refine V_call Tryd.call8 rfl rfl rfl rfl (portref2_SpreadOf_c w23 hA people v_people h_people held v_held h_held hx26) ?_
  rintro _ w27 ⟨rfl, hk28⟩
  have ht29 := Kp.tr hk28 hA hB
  replace hH := Hp.kp hH hk28
  replace h_people := Sl.tr h_people ht29
  replace h_held := Sl.tr h_held ht29
  replace hK := Tr.trans hK ht29
  replace hB := Nat.le_trans hB ht29.ex.size
  replace hA := ht29.new
  refine V_y (Y_move rfl) rfl rfl rfl ?_
  refine V_y (Y_extract rfl rfl) rfl rfl rfl ?_
  refine V_y (Y_extract rfl rfl) rfl rfl rfl ?_
  refine V_y (Y_extract rfl rfl) rfl rfl rfl ?_
  refine V_y (Y_assign rfl) rfl rfl rfl ?_
  refine V_y (Y_assign rfl) rfl rfl rfl ?_
  refine V_y (Y_assign rfl) rfl rfl rfl ?_
  refine V_to (fun _ _ => rfl) ?_
  refine C_seq ?_
  obtain ⟨s31, ho30, hm⟩ := Option.bind_eq_some_iff.1 hm
  refine C_cutG (ι := (Nat → Prop)) (fun (A36 : (Nat → Prop)) => [(4, .bool s31)]) (fun (A36 : (Nat → Prop)) => fun w' => Hp w.heap.size A36 w' (obS (α := Int) 3 v15 x14.1 :: obS (α := Int) 3 v6 x5.1 :: []) ∧ Tr w.heap.size A19 w27 A36 w') ?_ ?_
  · have hr32 : Tr w.heap.size A19 w27 A19 w27 := Tr.refl hA
    refine C_region ?_
    refine V_y (Y_move rfl) rfl rfl rfl ?_
    refine V_y (Y_move rfl) rfl rfl rfl ?_
    refine V_y (Y_eql rfl rfl) rfl rfl rfl ?_
    refine V_y (Y_move rfl) rfl rfl rfl ?_
    rcases Bool.eq_false_or_eq_true (x5.2 == x14.2) with hc38 | hc38
    · rw [if_pos hc38] at ho30
      refine V_ge rfl rfl rfl hc38 ?_
      refine V_y (Y_move rfl) rfl rfl rfl ?_
      refine V_ge rfl rfl rfl hc38 ?_
      refine V_y (Y_move rfl) rfl rfl rfl ?_
      refine V_ge rfl rfl rfl hc38 ?_
      refine V_y (Y_eql rfl rfl) rfl rfl rfl ?_
      refine V_y (Y_pick_te rfl hc38 rfl) rfl rfl rfl ?_
      refine V_y (Y_move rfl) rfl rfl rfl ?_
      rcases Bool.eq_false_or_eq_true (x22.2.2 == x26.2.2) with hc39 | hc39
      · rw [if_pos hc39] at ho30
        refine V_ge rfl rfl rfl hc39 ?_
        refine V_y (Y_move rfl) rfl rfl rfl ?_
        refine V_ge rfl rfl rfl hc39 ?_
        refine V_y (Y_move rfl) rfl rfl rfl ?_
        refine V_ge rfl rfl rfl hc39 ?_
        obtain ⟨x40, hx40, ho30⟩ := Option.bind_eq_some_iff.1 ho30
        refine V_call Tryd.call9 rfl rfl rfl rfl (slices_Equal_Lint_int_c w27 (A := fun _ => True) (fun _ _ => trivial) x5.1 v6 (Hp.any (α := Int) (e := 3) (v := v6) (l := x5.1) hH (i := 1) rfl) x14.1 v15 (Hp.any (α := Int) (e := 3) (v := v15) (l := x14.1) hH (i := 0) rfl) hx40) ?_
        rintro _ w41 ⟨rfl, hk42⟩
        have ht43 := Kp.tr hk42 hA hB
        replace hH := Hp.kp hH hk42
        replace h_people := Sl.tr h_people ht43
        replace h_held := Sl.tr h_held ht43
        replace hK := Tr.trans hK ht43
        replace hr32 := Tr.trans hr32 ht43
        replace hB := Nat.le_trans hB ht43.ex.size
        replace hA := ht43.new
        refine V_y (Y_pick_te rfl hc39 rfl) rfl rfl rfl ?_
        refine V_y (Y_move rfl) rfl rfl rfl ?_
        rcases Bool.eq_false_or_eq_true (x40) with hc44 | hc44
        · rw [if_pos hc44] at ho30
          refine V_ge rfl rfl rfl hc44 ?_
          refine V_y (Y_move rfl) rfl rfl rfl ?_
          refine V_ge rfl rfl rfl hc44 ?_
          refine V_y (Y_move rfl) rfl rfl rfl ?_
          refine V_ge rfl rfl rfl hc44 ?_
          refine V_y (Y_eql rfl rfl) rfl rfl rfl ?_
          refine V_y (Y_pick_te rfl hc44 rfl) rfl rfl rfl ?_
          refine V_y (Y_move rfl) rfl rfl rfl ?_
          rcases Bool.eq_false_or_eq_true (x22.1 == x26.1) with hc45 | hc45
          · rw [if_pos hc45] at ho30
            refine V_ge rfl rfl rfl hc45 ?_
            refine V_y (Y_move rfl) rfl rfl rfl ?_
            refine V_ge rfl rfl rfl hc45 ?_
            refine V_y (Y_move rfl) rfl rfl rfl ?_
            refine V_ge rfl rfl rfl hc45 ?_
            refine V_y (Y_eql rfl rfl) rfl rfl rfl ?_
            refine V_y (Y_pick_te rfl hc45 rfl) rfl rfl rfl ?_
            refine V_y (Y_move rfl) rfl rfl rfl ?_
            rcases Bool.eq_false_or_eq_true (x22.2.1 == x26.2.1) with hc46 | hc46
            · rw [if_pos hc46] at ho30
              refine V_ge rfl rfl rfl hc46 ?_
              refine V_y (Y_move rfl) rfl rfl rfl ?_
              refine V_ge rfl rfl rfl hc46 ?_
              refine V_y (Y_move rfl) rfl rfl rfl ?_
              refine V_ge rfl rfl rfl hc46 ?_
              obtain ⟨x47, hx47, ho30⟩ := Option.bind_eq_some_iff.1 ho30
              refine V_call Tryd.call10 rfl rfl rfl rfl (route_CheckHeld_c w41 hA people v_people h_people held v_held h_held hx47) ?_
              rintro _ w48 ⟨rfl, hk49⟩
              have ht50 := Kp.tr hk49 hA hB
              replace hH := Hp.kp hH hk49
              replace h_people := Sl.tr h_people ht50
              replace h_held := Sl.tr h_held ht50
              replace hK := Tr.trans hK ht50
              replace hr32 := Tr.trans hr32 ht50
              replace hB := Nat.le_trans hB ht50.ex.size
              replace hA := ht50.new
              refine V_ge rfl rfl rfl hc46 ?_
              refine V_y (Y_move rfl) rfl rfl rfl ?_
              refine V_ge rfl rfl rfl hc46 ?_
              refine V_y (Y_move rfl) rfl rfl rfl ?_
              refine V_ge rfl rfl rfl hc46 ?_
              obtain ⟨x51, hx51, ho30⟩ := Option.bind_eq_some_iff.1 ho30
              refine V_call Tryd.call11 rfl rfl rfl rfl (portref2_HeldFault_c w48 hA people v_people h_people held v_held h_held hx51) ?_
              rintro _ w52 ⟨rfl, hk53⟩
              have ht54 := Kp.tr hk53 hA hB
              replace hH := Hp.kp hH hk53
              replace h_people := Sl.tr h_people ht54
              replace h_held := Sl.tr h_held ht54
              replace hK := Tr.trans hK ht54
              replace hr32 := Tr.trans hr32 ht54
              replace hB := Nat.le_trans hB ht54.ex.size
              replace hA := ht54.new
              refine V_ge rfl rfl rfl hc46 ?_
              refine V_y (Y_eql rfl rfl) rfl rfl rfl ?_
              refine V_y (Y_pick_te rfl hc46 rfl) rfl rfl rfl ?_
              refine V_y (Y_assign rfl) rfl rfl rfl ?_
              obtain rfl := Option.some.inj ho30
              refine V_end (fun a ha55 => ?_)
              exact ⟨A19, ha55.sub ⟨rfl, trivial⟩, ⟨hH, hr32⟩⟩
            · rw [if_neg (nt hc46)] at ho30
              refine V_gn rfl rfl rfl hc46 rfl rfl rfl ?_
              refine V_gn rfl rfl rfl hc46 rfl rfl rfl ?_
              refine V_gn rfl rfl rfl hc46 rfl rfl rfl ?_
              refine V_gn rfl rfl rfl hc46 rfl rfl rfl ?_
              refine V_gn rfl rfl rfl hc46 rfl rfl rfl ?_
              refine V_gn rfl rfl rfl hc46 rfl rfl rfl ?_
              refine V_gn rfl rfl rfl hc46 rfl rfl rfl ?_
              refine V_y (Y_pick_fe rfl hc46 rfl) rfl rfl rfl ?_
              refine V_y (Y_assign rfl) rfl rfl rfl ?_
              obtain rfl := Option.some.inj ho30
              refine V_end (fun a ha56 => ?_)
              exact ⟨A19, ha56.sub ⟨rfl, trivial⟩, ⟨hH, hr32⟩⟩
          · rw [if_neg (nt hc45)] at ho30
            refine V_gn rfl rfl rfl hc45 rfl rfl rfl ?_
            refine V_gn rfl rfl rfl hc45 rfl rfl rfl ?_
            refine V_gn rfl rfl rfl hc45 rfl rfl rfl ?_
            refine V_y (Y_pick_fe rfl hc45 rfl) rfl rfl rfl ?_
            refine V_y (Y_move rfl) rfl rfl rfl ?_
            rcases Bool.eq_false_or_eq_true (false) with hc57 | hc57
            · rw [if_pos hc57] at ho30
              refine V_ge rfl rfl rfl hc57 ?_
              refine V_y (Y_move rfl) rfl rfl rfl ?_
              refine V_ge rfl rfl rfl hc57 ?_
              refine V_y (Y_move rfl) rfl rfl rfl ?_
              refine V_ge rfl rfl rfl hc57 ?_
              obtain ⟨x58, hx58, ho30⟩ := Option.bind_eq_some_iff.1 ho30
              refine V_call Tryd.call10 rfl rfl rfl rfl (route_CheckHeld_c w41 hA people v_people h_people held v_held h_held hx58) ?_
              rintro _ w59 ⟨rfl, hk60⟩
              have ht61 := Kp.tr hk60 hA hB
              replace hH := Hp.kp hH hk60
              replace h_people := Sl.tr h_people ht61
              replace h_held := Sl.tr h_held ht61
              replace hK := Tr.trans hK ht61
              replace hr32 := Tr.trans hr32 ht61
              replace hB := Nat.le_trans hB ht61.ex.size
              replace hA := ht61.new
              refine V_ge rfl rfl rfl hc57 ?_
              refine V_y (Y_move rfl) rfl rfl rfl ?_
              refine V_ge rfl rfl rfl hc57 ?_
              refine V_y (Y_move rfl) rfl rfl rfl ?_
              refine V_ge rfl rfl rfl hc57 ?_
              obtain ⟨x62, hx62, ho30⟩ := Option.bind_eq_some_iff.1 ho30
              refine V_call Tryd.call11 rfl rfl rfl rfl (portref2_HeldFault_c w59 hA people v_people h_people held v_held h_held hx62) ?_
              rintro _ w63 ⟨rfl, hk64⟩
              have ht65 := Kp.tr hk64 hA hB
              replace hH := Hp.kp hH hk64
              replace h_people := Sl.tr h_people ht65
              replace h_held := Sl.tr h_held ht65
              replace hK := Tr.trans hK ht65
              replace hr32 := Tr.trans hr32 ht65
              replace hB := Nat.le_trans hB ht65.ex.size
              replace hA := ht65.new
              refine V_ge rfl rfl rfl hc57 ?_
              refine V_y (Y_eql rfl rfl) rfl rfl rfl ?_
              refine V_y (Y_pick_te rfl hc57 rfl) rfl rfl rfl ?_
              refine V_y (Y_assign rfl) rfl rfl rfl ?_
              obtain rfl := Option.some.inj ho30
              refine V_end (fun a ha66 => ?_)
              exact ⟨A19, ha66.sub ⟨rfl, trivial⟩, ⟨hH, hr32⟩⟩
            · rw [if_neg (nt hc57)] at ho30
              refine V_gn rfl rfl rfl hc57 rfl rfl rfl ?_
              refine V_gn rfl rfl rfl hc57 rfl rfl rfl ?_
              refine V_gn rfl rfl rfl hc57 rfl rfl rfl ?_
              refine V_gn rfl rfl rfl hc57 rfl rfl rfl ?_
              refine V_gn rfl rfl rfl hc57 rfl rfl rfl ?_
              refine V_gn rfl rfl rfl hc57 rfl rfl rfl ?_
              refine V_gn rfl rfl rfl hc57 rfl rfl rfl ?_
              refine V_y (Y_pick_fe rfl hc57 rfl) rfl rfl rfl ?_
              refine V_y (Y_assign rfl) rfl rfl rfl ?_
              obtain rfl := Option.some.inj ho30
              refine V_end (fun a ha67 => ?_)
              exact ⟨A19, ha67.sub ⟨rfl, trivial⟩, ⟨hH, hr32⟩⟩
        · rw [if_neg (nt hc44)] at ho30
          refine V_gn rfl rfl rfl hc44 rfl rfl rfl ?_
          refine V_gn rfl rfl rfl hc44 rfl rfl rfl ?_
          refine V_gn rfl rfl rfl hc44 rfl rfl rfl ?_
          refine V_y (Y_pick_fe rfl hc44 rfl) rfl rfl rfl ?_
          refine V_y (Y_move rfl) rfl rfl rfl ?_
          rcases Bool.eq_false_or_eq_true (false) with hc68 | hc68
          · rw [if_pos hc68] at ho30
            refine V_ge rfl rfl rfl hc68 ?_
            refine V_y (Y_move rfl) rfl rfl rfl ?_
            refine V_ge rfl rfl rfl hc68 ?_
            refine V_y (Y_move rfl) rfl rfl rfl ?_
            refine V_ge rfl rfl rfl hc68 ?_
            refine V_y (Y_eql rfl rfl) rfl rfl rfl ?_
            refine V_y (Y_pick_te rfl hc68 rfl) rfl rfl rfl ?_
            refine V_y (Y_move rfl) rfl rfl rfl ?_
            rcases Bool.eq_false_or_eq_true (x22.2.1 == x26.2.1) with hc69 | hc69
            · rw [if_pos hc69] at ho30
              refine V_ge rfl rfl rfl hc69 ?_
              refine V_y (Y_move rfl) rfl rfl rfl ?_
              refine V_ge rfl rfl rfl hc69 ?_
              refine V_y (Y_move rfl) rfl rfl rfl ?_
              refine V_ge rfl rfl rfl hc69 ?_
              obtain ⟨x70, hx70, ho30⟩ := Option.bind_eq_some_iff.1 ho30
              refine V_call Tryd.call10 rfl rfl rfl rfl (route_CheckHeld_c w41 hA people v_people h_people held v_held h_held hx70) ?_
              rintro _ w71 ⟨rfl, hk72⟩
              have ht73 := Kp.tr hk72 hA hB
              replace hH := Hp.kp hH hk72
              replace h_people := Sl.tr h_people ht73
              replace h_held := Sl.tr h_held ht73
              replace hK := Tr.trans hK ht73
              replace hr32 := Tr.trans hr32 ht73
              replace hB := Nat.le_trans hB ht73.ex.size
              replace hA := ht73.new
              refine V_ge rfl rfl rfl hc69 ?_
              refine V_y (Y_move rfl) rfl rfl rfl ?_
              refine V_ge rfl rfl rfl hc69 ?_
              refine V_y (Y_move rfl) rfl rfl rfl ?_
              refine V_ge rfl rfl rfl hc69 ?_
              obtain ⟨x74, hx74, ho30⟩ := Option.bind_eq_some_iff.1 ho30
              refine V_call Tryd.call11 rfl rfl rfl rfl (portref2_HeldFault_c w71 hA people v_people h_people held v_held h_held hx74) ?_
              rintro _ w75 ⟨rfl, hk76⟩
              have ht77 := Kp.tr hk76 hA hB
              replace hH := Hp.kp hH hk76
              replace h_people := Sl.tr h_people ht77
              replace h_held := Sl.tr h_held ht77
              replace hK := Tr.trans hK ht77
              replace hr32 := Tr.trans hr32 ht77
              replace hB := Nat.le_trans hB ht77.ex.size
              replace hA := ht77.new
              refine V_ge rfl rfl rfl hc69 ?_
              refine V_y (Y_eql rfl rfl) rfl rfl rfl ?_
              refine V_y (Y_pick_te rfl hc69 rfl) rfl rfl rfl ?_
              refine V_y (Y_assign rfl) rfl rfl rfl ?_
              obtain rfl := Option.some.inj ho30
              refine V_end (fun a ha78 => ?_)
              exact ⟨A19, ha78.sub ⟨rfl, trivial⟩, ⟨hH, hr32⟩⟩
            · rw [if_neg (nt hc69)] at ho30
              refine V_gn rfl rfl rfl hc69 rfl rfl rfl ?_
              refine V_gn rfl rfl rfl hc69 rfl rfl rfl ?_
              refine V_gn rfl rfl rfl hc69 rfl rfl rfl ?_
              refine V_gn rfl rfl rfl hc69 rfl rfl rfl ?_
              refine V_gn rfl rfl rfl hc69 rfl rfl rfl ?_
              refine V_gn rfl rfl rfl hc69 rfl rfl rfl ?_
              refine V_gn rfl rfl rfl hc69 rfl rfl rfl ?_
              refine V_y (Y_pick_fe rfl hc69 rfl) rfl rfl rfl ?_
              refine V_y (Y_assign rfl) rfl rfl rfl ?_
              obtain rfl := Option.some.inj ho30
              refine V_end (fun a ha79 => ?_)
              exact ⟨A19, ha79.sub ⟨rfl, trivial⟩, ⟨hH, hr32⟩⟩
          · rw [if_neg (nt hc68)] at ho30
            refine V_gn rfl rfl rfl hc68 rfl rfl rfl ?_
            refine V_gn rfl rfl rfl hc68 rfl rfl rfl ?_
            refine V_gn rfl rfl rfl hc68 rfl rfl rfl ?_
            refine V_y (Y_pick_fe rfl hc68 rfl) rfl rfl rfl ?_
            refine V_y (Y_move rfl) rfl rfl rfl ?_
            rcases Bool.eq_false_or_eq_true (false) with hc80 | hc80
            · rw [if_pos hc80] at ho30
              refine V_ge rfl rfl rfl hc80 ?_
              refine V_y (Y_move rfl) rfl rfl rfl ?_
              refine V_ge rfl rfl rfl hc80 ?_
              refine V_y (Y_move rfl) rfl rfl rfl ?_
              refine V_ge rfl rfl rfl hc80 ?_
              obtain ⟨x81, hx81, ho30⟩ := Option.bind_eq_some_iff.1 ho30
              refine V_call Tryd.call10 rfl rfl rfl rfl (route_CheckHeld_c w41 hA people v_people h_people held v_held h_held hx81) ?_
              rintro _ w82 ⟨rfl, hk83⟩
              have ht84 := Kp.tr hk83 hA hB
              replace hH := Hp.kp hH hk83
              replace h_people := Sl.tr h_people ht84
              replace h_held := Sl.tr h_held ht84
              replace hK := Tr.trans hK ht84
              replace hr32 := Tr.trans hr32 ht84
              replace hB := Nat.le_trans hB ht84.ex.size
              replace hA := ht84.new
              refine V_ge rfl rfl rfl hc80 ?_
              refine V_y (Y_move rfl) rfl rfl rfl ?_
              refine V_ge rfl rfl rfl hc80 ?_
              refine V_y (Y_move rfl) rfl rfl rfl ?_
              refine V_ge rfl rfl rfl hc80 ?_
              obtain ⟨x85, hx85, ho30⟩ := Option.bind_eq_some_iff.1 ho30
              refine V_call Tryd.call11 rfl rfl rfl rfl (portref2_HeldFault_c w82 hA people v_people h_people held v_held h_held hx85) ?_
              rintro _ w86 ⟨rfl, hk87⟩
              have ht88 := Kp.tr hk87 hA hB
              replace hH := Hp.kp hH hk87
              replace h_people := Sl.tr h_people ht88
              replace h_held := Sl.tr h_held ht88
              replace hK := Tr.trans hK ht88
              replace hr32 := Tr.trans hr32 ht88
              replace hB := Nat.le_trans hB ht88.ex.size
              replace hA := ht88.new
              refine V_ge rfl rfl rfl hc80 ?_
              refine V_y (Y_eql rfl rfl) rfl rfl rfl ?_
              refine V_y (Y_pick_te rfl hc80 rfl) rfl rfl rfl ?_
              refine V_y (Y_assign rfl) rfl rfl rfl ?_
              obtain rfl := Option.some.inj ho30
              refine V_end (fun a ha89 => ?_)
              exact ⟨A19, ha89.sub ⟨rfl, trivial⟩, ⟨hH, hr32⟩⟩
            · rw [if_neg (nt hc80)] at ho30
              refine V_gn rfl rfl rfl hc80 rfl rfl rfl ?_
              refine V_gn rfl rfl rfl hc80 rfl rfl rfl ?_
              refine V_gn rfl rfl rfl hc80 rfl rfl rfl ?_
              refine V_gn rfl rfl rfl hc80 rfl rfl rfl ?_
              refine V_gn rfl rfl rfl hc80 rfl rfl rfl ?_
              refine V_gn rfl rfl rfl hc80 rfl rfl rfl ?_
              refine V_gn rfl rfl rfl hc80 rfl rfl rfl ?_
              refine V_y (Y_pick_fe rfl hc80 rfl) rfl rfl rfl ?_
              refine V_y (Y_assign rfl) rfl rfl rfl ?_
              obtain rfl := Option.some.inj ho30
              refine V_end (fun a ha90 => ?_)
              exact ⟨A19, ha90.sub ⟨rfl, trivial⟩, ⟨hH, hr32⟩⟩
      · rw [if_neg (nt hc39)] at ho30
        refine V_gn rfl rfl rfl hc39 rfl rfl rfl ?_
        refine V_gn rfl rfl rfl hc39 rfl rfl rfl ?_
        refine V_gn rfl rfl rfl hc39 rfl rfl rfl ?_
        refine V_y (Y_pick_fe rfl hc39 rfl) rfl rfl rfl ?_
        refine V_y (Y_move rfl) rfl rfl rfl ?_
        rcases Bool.eq_false_or_eq_true (false) with hc91 | hc91
        · rw [if_pos hc91] at ho30
          refine V_ge rfl rfl rfl hc91 ?_
          refine V_y (Y_move rfl) rfl rfl rfl ?_
          refine V_ge rfl rfl rfl hc91 ?_
          refine V_y (Y_move rfl) rfl rfl rfl ?_
          refine V_ge rfl rfl rfl hc91 ?_
          refine V_y (Y_eql rfl rfl) rfl rfl rfl ?_
          refine V_y (Y_pick_te rfl hc91 rfl) rfl rfl rfl ?_
          refine V_y (Y_move rfl) rfl rfl rfl ?_
          rcases Bool.eq_false_or_eq_true (x22.1 == x26.1) with hc92 | hc92
          · rw [if_pos hc92] at ho30
            refine V_ge rfl rfl rfl hc92 ?_
            refine V_y (Y_move rfl) rfl rfl rfl ?_
            refine V_ge rfl rfl rfl hc92 ?_
            refine V_y (Y_move rfl) rfl rfl rfl ?_
            refine V_ge rfl rfl rfl hc92 ?_
            refine V_y (Y_eql rfl rfl) rfl rfl rfl ?_
            refine V_y (Y_pick_te rfl hc92 rfl) rfl rfl rfl ?_
            refine V_y (Y_move rfl) rfl rfl rfl ?_
            rcases Bool.eq_false_or_eq_true (x22.2.1 == x26.2.1) with hc93 | hc93
            · rw [if_pos hc93] at ho30
              refine V_ge rfl rfl rfl hc93 ?_
              refine V_y (Y_move rfl) rfl rfl rfl ?_
              refine V_ge rfl rfl rfl hc93 ?_
              refine V_y (Y_move rfl) rfl rfl rfl ?_
              refine V_ge rfl rfl rfl hc93 ?_
              obtain ⟨x94, hx94, ho30⟩ := Option.bind_eq_some_iff.1 ho30
              refine V_call Tryd.call10 rfl rfl rfl rfl (route_CheckHeld_c w27 hA people v_people h_people held v_held h_held hx94) ?_
              rintro _ w95 ⟨rfl, hk96⟩
              have ht97 := Kp.tr hk96 hA hB
              replace hH := Hp.kp hH hk96
              replace h_people := Sl.tr h_people ht97
              replace h_held := Sl.tr h_held ht97
              replace hK := Tr.trans hK ht97
              replace hr32 := Tr.trans hr32 ht97
              replace hB := Nat.le_trans hB ht97.ex.size
              replace hA := ht97.new
              refine V_ge rfl rfl rfl hc93 ?_
              refine V_y (Y_move rfl) rfl rfl rfl ?_
              refine V_ge rfl rfl rfl hc93 ?_
              refine V_y (Y_move rfl) rfl rfl rfl ?_
              refine V_ge rfl rfl rfl hc93 ?_
              obtain ⟨x98, hx98, ho30⟩ := Option.bind_eq_some_iff.1 ho30
              refine V_call Tryd.call11 rfl rfl rfl rfl (portref2_HeldFault_c w95 hA people v_people h_people held v_held h_held hx98) ?_
              rintro _ w99 ⟨rfl, hk100⟩
              have ht101 := Kp.tr hk100 hA hB
              replace hH := Hp.kp hH hk100
              replace h_people := Sl.tr h_people ht101
              replace h_held := Sl.tr h_held ht101
              replace hK := Tr.trans hK ht101
              replace hr32 := Tr.trans hr32 ht101
              replace hB := Nat.le_trans hB ht101.ex.size
              replace hA := ht101.new
              refine V_ge rfl rfl rfl hc93 ?_
              refine V_y (Y_eql rfl rfl) rfl rfl rfl ?_
              refine V_y (Y_pick_te rfl hc93 rfl) rfl rfl rfl ?_
              refine V_y (Y_assign rfl) rfl rfl rfl ?_
              obtain rfl := Option.some.inj ho30
              refine V_end (fun a ha102 => ?_)
              exact ⟨A19, ha102.sub ⟨rfl, trivial⟩, ⟨hH, hr32⟩⟩
            · rw [if_neg (nt hc93)] at ho30
              refine V_gn rfl rfl rfl hc93 rfl rfl rfl ?_
              refine V_gn rfl rfl rfl hc93 rfl rfl rfl ?_
              refine V_gn rfl rfl rfl hc93 rfl rfl rfl ?_
              refine V_gn rfl rfl rfl hc93 rfl rfl rfl ?_
              refine V_gn rfl rfl rfl hc93 rfl rfl rfl ?_
              refine V_gn rfl rfl rfl hc93 rfl rfl rfl ?_
              refine V_gn rfl rfl rfl hc93 rfl rfl rfl ?_
              refine V_y (Y_pick_fe rfl hc93 rfl) rfl rfl rfl ?_
              refine V_y (Y_assign rfl) rfl rfl rfl ?_
              obtain rfl := Option.some.inj ho30
              refine V_end (fun a ha103 => ?_)
              exact ⟨A19, ha103.sub ⟨rfl, trivial⟩, ⟨hH, hr32⟩⟩
          · rw [if_neg (nt hc92)] at ho30
            refine V_gn rfl rfl rfl hc92 rfl rfl rfl ?_
            refine V_gn rfl rfl rfl hc92 rfl rfl rfl ?_
            refine V_gn rfl rfl rfl hc92 rfl rfl rfl ?_
            refine V_y (Y_pick_fe rfl hc92 rfl) rfl rfl rfl ?_
            refine V_y (Y_move rfl) rfl rfl rfl ?_
            rcases Bool.eq_false_or_eq_true (false) with hc104 | hc104
            · rw [if_pos hc104] at ho30
              refine V_ge rfl rfl rfl hc104 ?_
              refine V_y (Y_move rfl) rfl rfl rfl ?_
              refine V_ge rfl rfl rfl hc104 ?_
              refine V_y (Y_move rfl) rfl rfl rfl ?_
              refine V_ge rfl rfl rfl hc104 ?_
              obtain ⟨x105, hx105, ho30⟩ := Option.bind_eq_some_iff.1 ho30
              refine V_call Tryd.call10 rfl rfl rfl rfl (route_CheckHeld_c w27 hA people v_people h_people held v_held h_held hx105) ?_
              rintro _ w106 ⟨rfl, hk107⟩
              have ht108 := Kp.tr hk107 hA hB
              replace hH := Hp.kp hH hk107
              replace h_people := Sl.tr h_people ht108
              replace h_held := Sl.tr h_held ht108
              replace hK := Tr.trans hK ht108
              replace hr32 := Tr.trans hr32 ht108
              replace hB := Nat.le_trans hB ht108.ex.size
              replace hA := ht108.new
              refine V_ge rfl rfl rfl hc104 ?_
              refine V_y (Y_move rfl) rfl rfl rfl ?_
              refine V_ge rfl rfl rfl hc104 ?_
              refine V_y (Y_move rfl) rfl rfl rfl ?_
              refine V_ge rfl rfl rfl hc104 ?_
              obtain ⟨x109, hx109, ho30⟩ := Option.bind_eq_some_iff.1 ho30
              refine V_call Tryd.call11 rfl rfl rfl rfl (portref2_HeldFault_c w106 hA people v_people h_people held v_held h_held hx109) ?_
              rintro _ w110 ⟨rfl, hk111⟩
              have ht112 := Kp.tr hk111 hA hB
              replace hH := Hp.kp hH hk111
              replace h_people := Sl.tr h_people ht112
              replace h_held := Sl.tr h_held ht112
              replace hK := Tr.trans hK ht112
              replace hr32 := Tr.trans hr32 ht112
              replace hB := Nat.le_trans hB ht112.ex.size
              replace hA := ht112.new
              refine V_ge rfl rfl rfl hc104 ?_
              refine V_y (Y_eql rfl rfl) rfl rfl rfl ?_
              refine V_y (Y_pick_te rfl hc104 rfl) rfl rfl rfl ?_
              refine V_y (Y_assign rfl) rfl rfl rfl ?_
              obtain rfl := Option.some.inj ho30
              refine V_end (fun a ha113 => ?_)
              exact ⟨A19, ha113.sub ⟨rfl, trivial⟩, ⟨hH, hr32⟩⟩
            · rw [if_neg (nt hc104)] at ho30
              refine V_gn rfl rfl rfl hc104 rfl rfl rfl ?_
              refine V_gn rfl rfl rfl hc104 rfl rfl rfl ?_
              refine V_gn rfl rfl rfl hc104 rfl rfl rfl ?_
              refine V_gn rfl rfl rfl hc104 rfl rfl rfl ?_
              refine V_gn rfl rfl rfl hc104 rfl rfl rfl ?_
              refine V_gn rfl rfl rfl hc104 rfl rfl rfl ?_
              refine V_gn rfl rfl rfl hc104 rfl rfl rfl ?_
              refine V_y (Y_pick_fe rfl hc104 rfl) rfl rfl rfl ?_
              refine V_y (Y_assign rfl) rfl rfl rfl ?_
              obtain rfl := Option.some.inj ho30
              refine V_end (fun a ha114 => ?_)
              exact ⟨A19, ha114.sub ⟨rfl, trivial⟩, ⟨hH, hr32⟩⟩
        · rw [if_neg (nt hc91)] at ho30
          refine V_gn rfl rfl rfl hc91 rfl rfl rfl ?_
          refine V_gn rfl rfl rfl hc91 rfl rfl rfl ?_
          refine V_gn rfl rfl rfl hc91 rfl rfl rfl ?_
          refine V_y (Y_pick_fe rfl hc91 rfl) rfl rfl rfl ?_
          refine V_y (Y_move rfl) rfl rfl rfl ?_
          rcases Bool.eq_false_or_eq_true (false) with hc115 | hc115
          · rw [if_pos hc115] at ho30
            refine V_ge rfl rfl rfl hc115 ?_
            refine V_y (Y_move rfl) rfl rfl rfl ?_
            refine V_ge rfl rfl rfl hc115 ?_
            refine V_y (Y_move rfl) rfl rfl rfl ?_
            refine V_ge rfl rfl rfl hc115 ?_
            refine V_y (Y_eql rfl rfl) rfl rfl rfl ?_
            refine V_y (Y_pick_te rfl hc115 rfl) rfl rfl rfl ?_
            refine V_y (Y_move rfl) rfl rfl rfl ?_
            rcases Bool.eq_false_or_eq_true (x22.2.1 == x26.2.1) with hc116 | hc116
            · rw [if_pos hc116] at ho30
              refine V_ge rfl rfl rfl hc116 ?_
              refine V_y (Y_move rfl) rfl rfl rfl ?_
              refine V_ge rfl rfl rfl hc116 ?_
              refine V_y (Y_move rfl) rfl rfl rfl ?_
              refine V_ge rfl rfl rfl hc116 ?_
              obtain ⟨x117, hx117, ho30⟩ := Option.bind_eq_some_iff.1 ho30
              refine V_call Tryd.call10 rfl rfl rfl rfl (route_CheckHeld_c w27 hA people v_people h_people held v_held h_held hx117) ?_
              rintro _ w118 ⟨rfl, hk119⟩
              have ht120 := Kp.tr hk119 hA hB
              replace hH := Hp.kp hH hk119
              replace h_people := Sl.tr h_people ht120
              replace h_held := Sl.tr h_held ht120
              replace hK := Tr.trans hK ht120
              replace hr32 := Tr.trans hr32 ht120
              replace hB := Nat.le_trans hB ht120.ex.size
              replace hA := ht120.new
              refine V_ge rfl rfl rfl hc116 ?_
              refine V_y (Y_move rfl) rfl rfl rfl ?_
              refine V_ge rfl rfl rfl hc116 ?_
              refine V_y (Y_move rfl) rfl rfl rfl ?_
              refine V_ge rfl rfl rfl hc116 ?_
              obtain ⟨x121, hx121, ho30⟩ := Option.bind_eq_some_iff.1 ho30
              refine V_call Tryd.call11 rfl rfl rfl rfl (portref2_HeldFault_c w118 hA people v_people h_people held v_held h_held hx121) ?_
              rintro _ w122 ⟨rfl, hk123⟩
              have ht124 := Kp.tr hk123 hA hB
              replace hH := Hp.kp hH hk123
              replace h_people := Sl.tr h_people ht124
              replace h_held := Sl.tr h_held ht124
              replace hK := Tr.trans hK ht124
              replace hr32 := Tr.trans hr32 ht124
              replace hB := Nat.le_trans hB ht124.ex.size
              replace hA := ht124.new
              refine V_ge rfl rfl rfl hc116 ?_
              refine V_y (Y_eql rfl rfl) rfl rfl rfl ?_
              refine V_y (Y_pick_te rfl hc116 rfl) rfl rfl rfl ?_
              refine V_y (Y_assign rfl) rfl rfl rfl ?_
              obtain rfl := Option.some.inj ho30
              refine V_end (fun a ha125 => ?_)
              exact ⟨A19, ha125.sub ⟨rfl, trivial⟩, ⟨hH, hr32⟩⟩
            · rw [if_neg (nt hc116)] at ho30
              refine V_gn rfl rfl rfl hc116 rfl rfl rfl ?_
              refine V_gn rfl rfl rfl hc116 rfl rfl rfl ?_
              refine V_gn rfl rfl rfl hc116 rfl rfl rfl ?_
              refine V_gn rfl rfl rfl hc116 rfl rfl rfl ?_
              refine V_gn rfl rfl rfl hc116 rfl rfl rfl ?_
              refine V_gn rfl rfl rfl hc116 rfl rfl rfl ?_
              refine V_gn rfl rfl rfl hc116 rfl rfl rfl ?_
              refine V_y (Y_pick_fe rfl hc116 rfl) rfl rfl rfl ?_
              refine V_y (Y_assign rfl) rfl rfl rfl ?_
              obtain rfl := Option.some.inj ho30
              refine V_end (fun a ha126 => ?_)
              exact ⟨A19, ha126.sub ⟨rfl, trivial⟩, ⟨hH, hr32⟩⟩
          · rw [if_neg (nt hc115)] at ho30
            refine V_gn rfl rfl rfl hc115 rfl rfl rfl ?_
            refine V_gn rfl rfl rfl hc115 rfl rfl rfl ?_
            refine V_gn rfl rfl rfl hc115 rfl rfl rfl ?_
            refine V_y (Y_pick_fe rfl hc115 rfl) rfl rfl rfl ?_
            refine V_y (Y_move rfl) rfl rfl rfl ?_
            rcases Bool.eq_false_or_eq_true (false) with hc127 | hc127
            · rw [if_pos hc127] at ho30
              refine V_ge rfl rfl rfl hc127 ?_
              refine V_y (Y_move rfl) rfl rfl rfl ?_
              refine V_ge rfl rfl rfl hc127 ?_
              refine V_y (Y_move rfl) rfl rfl rfl ?_
              refine V_ge rfl rfl rfl hc127 ?_
              obtain ⟨x128, hx128, ho30⟩ := Option.bind_eq_some_iff.1 ho30
              refine V_call Tryd.call10 rfl rfl rfl rfl (route_CheckHeld_c w27 hA people v_people h_people held v_held h_held hx128) ?_
              rintro _ w129 ⟨rfl, hk130⟩
              have ht131 := Kp.tr hk130 hA hB
              replace hH := Hp.kp hH hk130
              replace h_people := Sl.tr h_people ht131
              replace h_held := Sl.tr h_held ht131
              replace hK := Tr.trans hK ht131
              replace hr32 := Tr.trans hr32 ht131
              replace hB := Nat.le_trans hB ht131.ex.size
              replace hA := ht131.new
              refine V_ge rfl rfl rfl hc127 ?_
              refine V_y (Y_move rfl) rfl rfl rfl ?_
              refine V_ge rfl rfl rfl hc127 ?_
              refine V_y (Y_move rfl) rfl rfl rfl ?_
              refine V_ge rfl rfl rfl hc127 ?_
              obtain ⟨x132, hx132, ho30⟩ := Option.bind_eq_some_iff.1 ho30
              refine V_call Tryd.call11 rfl rfl rfl rfl (portref2_HeldFault_c w129 hA people v_people h_people held v_held h_held hx132) ?_
              rintro _ w133 ⟨rfl, hk134⟩
              have ht135 := Kp.tr hk134 hA hB
              replace hH := Hp.kp hH hk134
              replace h_people := Sl.tr h_people ht135
              replace h_held := Sl.tr h_held ht135
              replace hK := Tr.trans hK ht135
              replace hr32 := Tr.trans hr32 ht135
              replace hB := Nat.le_trans hB ht135.ex.size
              replace hA := ht135.new
              refine V_ge rfl rfl rfl hc127 ?_
              refine V_y (Y_eql rfl rfl) rfl rfl rfl ?_
              refine V_y (Y_pick_te rfl hc127 rfl) rfl rfl rfl ?_
              refine V_y (Y_assign rfl) rfl rfl rfl ?_
              obtain rfl := Option.some.inj ho30
              refine V_end (fun a ha136 => ?_)
              exact ⟨A19, ha136.sub ⟨rfl, trivial⟩, ⟨hH, hr32⟩⟩
            · rw [if_neg (nt hc127)] at ho30
              refine V_gn rfl rfl rfl hc127 rfl rfl rfl ?_
              refine V_gn rfl rfl rfl hc127 rfl rfl rfl ?_
              refine V_gn rfl rfl rfl hc127 rfl rfl rfl ?_
              refine V_gn rfl rfl rfl hc127 rfl rfl rfl ?_
              refine V_gn rfl rfl rfl hc127 rfl rfl rfl ?_
              refine V_gn rfl rfl rfl hc127 rfl rfl rfl ?_
              refine V_gn rfl rfl rfl hc127 rfl rfl rfl ?_
              refine V_y (Y_pick_fe rfl hc127 rfl) rfl rfl rfl ?_
              refine V_y (Y_assign rfl) rfl rfl rfl ?_
              obtain rfl := Option.some.inj ho30
              refine V_end (fun a ha137 => ?_)
              exact ⟨A19, ha137.sub ⟨rfl, trivial⟩, ⟨hH, hr32⟩⟩
    · rw [if_neg (nt hc38)] at ho30
      refine V_gn rfl rfl rfl hc38 rfl rfl rfl ?_
      refine V_gn rfl rfl rfl hc38 rfl rfl rfl ?_
      refine V_gn rfl rfl rfl hc38 rfl rfl rfl ?_
      refine V_y (Y_pick_fe rfl hc38 rfl) rfl rfl rfl ?_
      refine V_y (Y_move rfl) rfl rfl rfl ?_
      rcases Bool.eq_false_or_eq_true (false) with hc138 | hc138
      · rw [if_pos hc138] at ho30
        refine V_ge rfl rfl rfl hc138 ?_
        refine V_y (Y_move rfl) rfl rfl rfl ?_
        refine V_ge rfl rfl rfl hc138 ?_
        refine V_y (Y_move rfl) rfl rfl rfl ?_
        refine V_ge rfl rfl rfl hc138 ?_
        obtain ⟨x139, hx139, ho30⟩ := Option.bind_eq_some_iff.1 ho30
        refine V_call Tryd.call9 rfl rfl rfl rfl (slices_Equal_Lint_int_c w27 (A := fun _ => True) (fun _ _ => trivial) x5.1 v6 (Hp.any (α := Int) (e := 3) (v := v6) (l := x5.1) hH (i := 1) rfl) x14.1 v15 (Hp.any (α := Int) (e := 3) (v := v15) (l := x14.1) hH (i := 0) rfl) hx139) ?_
        rintro _ w140 ⟨rfl, hk141⟩
        have ht142 := Kp.tr hk141 hA hB
        replace hH := Hp.kp hH hk141
        replace h_people := Sl.tr h_people ht142
        replace h_held := Sl.tr h_held ht142
        replace hK := Tr.trans hK ht142
        replace hr32 := Tr.trans hr32 ht142
        replace hB := Nat.le_trans hB ht142.ex.size
        replace hA := ht142.new
        refine V_y (Y_pick_te rfl hc138 rfl) rfl rfl rfl ?_
        refine V_y (Y_move rfl) rfl rfl rfl ?_
        rcases Bool.eq_false_or_eq_true (x139) with hc143 | hc143
        · rw [if_pos hc143] at ho30
          refine V_ge rfl rfl rfl hc143 ?_
          refine V_y (Y_move rfl) rfl rfl rfl ?_
          refine V_ge rfl rfl rfl hc143 ?_
          refine V_y (Y_move rfl) rfl rfl rfl ?_
          refine V_ge rfl rfl rfl hc143 ?_
          refine V_y (Y_eql rfl rfl) rfl rfl rfl ?_
          refine V_y (Y_pick_te rfl hc143 rfl) rfl rfl rfl ?_
          refine V_y (Y_move rfl) rfl rfl rfl ?_
          rcases Bool.eq_false_or_eq_true (x22.1 == x26.1) with hc144 | hc144
          · rw [if_pos hc144] at ho30
            refine V_ge rfl rfl rfl hc144 ?_
            refine V_y (Y_move rfl) rfl rfl rfl ?_
            refine V_ge rfl rfl rfl hc144 ?_
            refine V_y (Y_move rfl) rfl rfl rfl ?_
            refine V_ge rfl rfl rfl hc144 ?_
            refine V_y (Y_eql rfl rfl) rfl rfl rfl ?_
            refine V_y (Y_pick_te rfl hc144 rfl) rfl rfl rfl ?_
            refine V_y (Y_move rfl) rfl rfl rfl ?_
            rcases Bool.eq_false_or_eq_true (x22.2.1 == x26.2.1) with hc145 | hc145
            · rw [if_pos hc145] at ho30
              refine V_ge rfl rfl rfl hc145 ?_
              refine V_y (Y_move rfl) rfl rfl rfl ?_
              refine V_ge rfl rfl rfl hc145 ?_
              refine V_y (Y_move rfl) rfl rfl rfl ?_
              refine V_ge rfl rfl rfl hc145 ?_
              obtain ⟨x146, hx146, ho30⟩ := Option.bind_eq_some_iff.1 ho30
              refine V_call Tryd.call10 rfl rfl rfl rfl (route_CheckHeld_c w140 hA people v_people h_people held v_held h_held hx146) ?_
              rintro _ w147 ⟨rfl, hk148⟩
              have ht149 := Kp.tr hk148 hA hB
              replace hH := Hp.kp hH hk148
              replace h_people := Sl.tr h_people ht149
              replace h_held := Sl.tr h_held ht149
              replace hK := Tr.trans hK ht149
              replace hr32 := Tr.trans hr32 ht149
              replace hB := Nat.le_trans hB ht149.ex.size
              replace hA := ht149.new
              refine V_ge rfl rfl rfl hc145 ?_
              refine V_y (Y_move rfl) rfl rfl rfl ?_
              refine V_ge rfl rfl rfl hc145 ?_
              refine V_y (Y_move rfl) rfl rfl rfl ?_
              refine V_ge rfl rfl rfl hc145 ?_
              obtain ⟨x150, hx150, ho30⟩ := Option.bind_eq_some_iff.1 ho30
              refine V_call Tryd.call11 rfl rfl rfl rfl (portref2_HeldFault_c w147 hA people v_people h_people held v_held h_held hx150) ?_
              rintro _ w151 ⟨rfl, hk152⟩
              have ht153 := Kp.tr hk152 hA hB
              replace hH := Hp.kp hH hk152
              replace h_people := Sl.tr h_people ht153
              replace h_held := Sl.tr h_held ht153
              replace hK := Tr.trans hK ht153
              replace hr32 := Tr.trans hr32 ht153
              replace hB := Nat.le_trans hB ht153.ex.size
              replace hA := ht153.new
              refine V_ge rfl rfl rfl hc145 ?_
              refine V_y (Y_eql rfl rfl) rfl rfl rfl ?_
              refine V_y (Y_pick_te rfl hc145 rfl) rfl rfl rfl ?_
              refine V_y (Y_assign rfl) rfl rfl rfl ?_
              obtain rfl := Option.some.inj ho30
              refine V_end (fun a ha154 => ?_)
              exact ⟨A19, ha154.sub ⟨rfl, trivial⟩, ⟨hH, hr32⟩⟩
            · rw [if_neg (nt hc145)] at ho30
              refine V_gn rfl rfl rfl hc145 rfl rfl rfl ?_
              refine V_gn rfl rfl rfl hc145 rfl rfl rfl ?_
              refine V_gn rfl rfl rfl hc145 rfl rfl rfl ?_
              refine V_gn rfl rfl rfl hc145 rfl rfl rfl ?_
              refine V_gn rfl rfl rfl hc145 rfl rfl rfl ?_
              refine V_gn rfl rfl rfl hc145 rfl rfl rfl ?_
              refine V_gn rfl rfl rfl hc145 rfl rfl rfl ?_
              refine V_y (Y_pick_fe rfl hc145 rfl) rfl rfl rfl ?_
              refine V_y (Y_assign rfl) rfl rfl rfl ?_
              obtain rfl := Option.some.inj ho30
              refine V_end (fun a ha155 => ?_)
              exact ⟨A19, ha155.sub ⟨rfl, trivial⟩, ⟨hH, hr32⟩⟩
          · rw [if_neg (nt hc144)] at ho30
            refine V_gn rfl rfl rfl hc144 rfl rfl rfl ?_
            refine V_gn rfl rfl rfl hc144 rfl rfl rfl ?_
            refine V_gn rfl rfl rfl hc144 rfl rfl rfl ?_
            refine V_y (Y_pick_fe rfl hc144 rfl) rfl rfl rfl ?_
            refine V_y (Y_move rfl) rfl rfl rfl ?_
            rcases Bool.eq_false_or_eq_true (false) with hc156 | hc156
            · rw [if_pos hc156] at ho30
              refine V_ge rfl rfl rfl hc156 ?_
              refine V_y (Y_move rfl) rfl rfl rfl ?_
              refine V_ge rfl rfl rfl hc156 ?_
              refine V_y (Y_move rfl) rfl rfl rfl ?_
              refine V_ge rfl rfl rfl hc156 ?_
              obtain ⟨x157, hx157, ho30⟩ := Option.bind_eq_some_iff.1 ho30
              refine V_call Tryd.call10 rfl rfl rfl rfl (route_CheckHeld_c w140 hA people v_people h_people held v_held h_held hx157) ?_
              rintro _ w158 ⟨rfl, hk159⟩
              have ht160 := Kp.tr hk159 hA hB
              replace hH := Hp.kp hH hk159
              replace h_people := Sl.tr h_people ht160
              replace h_held := Sl.tr h_held ht160
              replace hK := Tr.trans hK ht160
              replace hr32 := Tr.trans hr32 ht160
              replace hB := Nat.le_trans hB ht160.ex.size
              replace hA := ht160.new
              refine V_ge rfl rfl rfl hc156 ?_
              refine V_y (Y_move rfl) rfl rfl rfl ?_
              refine V_ge rfl rfl rfl hc156 ?_
              refine V_y (Y_move rfl) rfl rfl rfl ?_
              refine V_ge rfl rfl rfl hc156 ?_
              obtain ⟨x161, hx161, ho30⟩ := Option.bind_eq_some_iff.1 ho30
              refine V_call Tryd.call11 rfl rfl rfl rfl (portref2_HeldFault_c w158 hA people v_people h_people held v_held h_held hx161) ?_
              rintro _ w162 ⟨rfl, hk163⟩
              have ht164 := Kp.tr hk163 hA hB
              replace hH := Hp.kp hH hk163
              replace h_people := Sl.tr h_people ht164
              replace h_held := Sl.tr h_held ht164
              replace hK := Tr.trans hK ht164
              replace hr32 := Tr.trans hr32 ht164
              replace hB := Nat.le_trans hB ht164.ex.size
              replace hA := ht164.new
              refine V_ge rfl rfl rfl hc156 ?_
              refine V_y (Y_eql rfl rfl) rfl rfl rfl ?_
              refine V_y (Y_pick_te rfl hc156 rfl) rfl rfl rfl ?_
              refine V_y (Y_assign rfl) rfl rfl rfl ?_
              obtain rfl := Option.some.inj ho30
              refine V_end (fun a ha165 => ?_)
              exact ⟨A19, ha165.sub ⟨rfl, trivial⟩, ⟨hH, hr32⟩⟩
            · rw [if_neg (nt hc156)] at ho30
              refine V_gn rfl rfl rfl hc156 rfl rfl rfl ?_
              refine V_gn rfl rfl rfl hc156 rfl rfl rfl ?_
              refine V_gn rfl rfl rfl hc156 rfl rfl rfl ?_
              refine V_gn rfl rfl rfl hc156 rfl rfl rfl ?_
              refine V_gn rfl rfl rfl hc156 rfl rfl rfl ?_
              refine V_gn rfl rfl rfl hc156 rfl rfl rfl ?_
              refine V_gn rfl rfl rfl hc156 rfl rfl rfl ?_
              refine V_y (Y_pick_fe rfl hc156 rfl) rfl rfl rfl ?_
              refine V_y (Y_assign rfl) rfl rfl rfl ?_
              obtain rfl := Option.some.inj ho30
              refine V_end (fun a ha166 => ?_)
              exact ⟨A19, ha166.sub ⟨rfl, trivial⟩, ⟨hH, hr32⟩⟩
        · rw [if_neg (nt hc143)] at ho30
          refine V_gn rfl rfl rfl hc143 rfl rfl rfl ?_
          refine V_gn rfl rfl rfl hc143 rfl rfl rfl ?_
          refine V_gn rfl rfl rfl hc143 rfl rfl rfl ?_
          refine V_y (Y_pick_fe rfl hc143 rfl) rfl rfl rfl ?_
          refine V_y (Y_move rfl) rfl rfl rfl ?_
          rcases Bool.eq_false_or_eq_true (false) with hc167 | hc167
          · rw [if_pos hc167] at ho30
            refine V_ge rfl rfl rfl hc167 ?_
            refine V_y (Y_move rfl) rfl rfl rfl ?_
            refine V_ge rfl rfl rfl hc167 ?_
            refine V_y (Y_move rfl) rfl rfl rfl ?_
            refine V_ge rfl rfl rfl hc167 ?_
            refine V_y (Y_eql rfl rfl) rfl rfl rfl ?_
            refine V_y (Y_pick_te rfl hc167 rfl) rfl rfl rfl ?_
            refine V_y (Y_move rfl) rfl rfl rfl ?_
            rcases Bool.eq_false_or_eq_true (x22.2.1 == x26.2.1) with hc168 | hc168
            · rw [if_pos hc168] at ho30
              refine V_ge rfl rfl rfl hc168 ?_
              refine V_y (Y_move rfl) rfl rfl rfl ?_
              refine V_ge rfl rfl rfl hc168 ?_
              refine V_y (Y_move rfl) rfl rfl rfl ?_
              refine V_ge rfl rfl rfl hc168 ?_
              obtain ⟨x169, hx169, ho30⟩ := Option.bind_eq_some_iff.1 ho30
              refine V_call Tryd.call10 rfl rfl rfl rfl (route_CheckHeld_c w140 hA people v_people h_people held v_held h_held hx169) ?_
              rintro _ w170 ⟨rfl, hk171⟩
              have ht172 := Kp.tr hk171 hA hB
              replace hH := Hp.kp hH hk171
              replace h_people := Sl.tr h_people ht172
              replace h_held := Sl.tr h_held ht172
              replace hK := Tr.trans hK ht172
              replace hr32 := Tr.trans hr32 ht172
              replace hB := Nat.le_trans hB ht172.ex.size
              replace hA := ht172.new
              refine V_ge rfl rfl rfl hc168 ?_
              refine V_y (Y_move rfl) rfl rfl rfl ?_
              refine V_ge rfl rfl rfl hc168 ?_
              refine V_y (Y_move rfl) rfl rfl rfl ?_
              refine V_ge rfl rfl rfl hc168 ?_
              obtain ⟨x173, hx173, ho30⟩ := Option.bind_eq_some_iff.1 ho30
              refine V_call Tryd.call11 rfl rfl rfl rfl (portref2_HeldFault_c w170 hA people v_people h_people held v_held h_held hx173) ?_
              rintro _ w174 ⟨rfl, hk175⟩
              have ht176 := Kp.tr hk175 hA hB
              replace hH := Hp.kp hH hk175
              replace h_people := Sl.tr h_people ht176
              replace h_held := Sl.tr h_held ht176
              replace hK := Tr.trans hK ht176
              replace hr32 := Tr.trans hr32 ht176
              replace hB := Nat.le_trans hB ht176.ex.size
              replace hA := ht176.new
              refine V_ge rfl rfl rfl hc168 ?_
              refine V_y (Y_eql rfl rfl) rfl rfl rfl ?_
              refine V_y (Y_pick_te rfl hc168 rfl) rfl rfl rfl ?_
              refine V_y (Y_assign rfl) rfl rfl rfl ?_
              obtain rfl := Option.some.inj ho30
              refine V_end (fun a ha177 => ?_)
              exact ⟨A19, ha177.sub ⟨rfl, trivial⟩, ⟨hH, hr32⟩⟩
            · rw [if_neg (nt hc168)] at ho30
              refine V_gn rfl rfl rfl hc168 rfl rfl rfl ?_
              refine V_gn rfl rfl rfl hc168 rfl rfl rfl ?_
              refine V_gn rfl rfl rfl hc168 rfl rfl rfl ?_
              refine V_gn rfl rfl rfl hc168 rfl rfl rfl ?_
              refine V_gn rfl rfl rfl hc168 rfl rfl rfl ?_
              refine V_gn rfl rfl rfl hc168 rfl rfl rfl ?_
              refine V_gn rfl rfl rfl hc168 rfl rfl rfl ?_
              refine V_y (Y_pick_fe rfl hc168 rfl) rfl rfl rfl ?_
              refine V_y (Y_assign rfl) rfl rfl rfl ?_
              obtain rfl := Option.some.inj ho30
              refine V_end (fun a ha178 => ?_)
              exact ⟨A19, ha178.sub ⟨rfl, trivial⟩, ⟨hH, hr32⟩⟩
          · rw [if_neg (nt hc167)] at ho30
            refine V_gn rfl rfl rfl hc167 rfl rfl rfl ?_
            refine V_gn rfl rfl rfl hc167 rfl rfl rfl ?_
            refine V_gn rfl rfl rfl hc167 rfl rfl rfl ?_
            refine V_y (Y_pick_fe rfl hc167 rfl) rfl rfl rfl ?_
            refine V_y (Y_move rfl) rfl rfl rfl ?_
            rcases Bool.eq_false_or_eq_true (false) with hc179 | hc179
            · rw [if_pos hc179] at ho30
              refine V_ge rfl rfl rfl hc179 ?_
              refine V_y (Y_move rfl) rfl rfl rfl ?_
              refine V_ge rfl rfl rfl hc179 ?_
              refine V_y (Y_move rfl) rfl rfl rfl ?_
              refine V_ge rfl rfl rfl hc179 ?_
              obtain ⟨x180, hx180, ho30⟩ := Option.bind_eq_some_iff.1 ho30
              refine V_call Tryd.call10 rfl rfl rfl rfl (route_CheckHeld_c w140 hA people v_people h_people held v_held h_held hx180) ?_
              rintro _ w181 ⟨rfl, hk182⟩
              have ht183 := Kp.tr hk182 hA hB
              replace hH := Hp.kp hH hk182
              replace h_people := Sl.tr h_people ht183
              replace h_held := Sl.tr h_held ht183
              replace hK := Tr.trans hK ht183
              replace hr32 := Tr.trans hr32 ht183
              replace hB := Nat.le_trans hB ht183.ex.size
              replace hA := ht183.new
              refine V_ge rfl rfl rfl hc179 ?_
              refine V_y (Y_move rfl) rfl rfl rfl ?_
              refine V_ge rfl rfl rfl hc179 ?_
              refine V_y (Y_move rfl) rfl rfl rfl ?_
              refine V_ge rfl rfl rfl hc179 ?_
              obtain ⟨x184, hx184, ho30⟩ := Option.bind_eq_some_iff.1 ho30
              refine V_call Tryd.call11 rfl rfl rfl rfl (portref2_HeldFault_c w181 hA people v_people h_people held v_held h_held hx184) ?_
              rintro _ w185 ⟨rfl, hk186⟩
              have ht187 := Kp.tr hk186 hA hB
              replace hH := Hp.kp hH hk186
              replace h_people := Sl.tr h_people ht187
              replace h_held := Sl.tr h_held ht187
              replace hK := Tr.trans hK ht187
              replace hr32 := Tr.trans hr32 ht187
              replace hB := Nat.le_trans hB ht187.ex.size
              replace hA := ht187.new
              refine V_ge rfl rfl rfl hc179 ?_
              refine V_y (Y_eql rfl rfl) rfl rfl rfl ?_
              refine V_y (Y_pick_te rfl hc179 rfl) rfl rfl rfl ?_
              refine V_y (Y_assign rfl) rfl rfl rfl ?_
              obtain rfl := Option.some.inj ho30
              refine V_end (fun a ha188 => ?_)
              exact ⟨A19, ha188.sub ⟨rfl, trivial⟩, ⟨hH, hr32⟩⟩
            · rw [if_neg (nt hc179)] at ho30
              refine V_gn rfl rfl rfl hc179 rfl rfl rfl ?_
              refine V_gn rfl rfl rfl hc179 rfl rfl rfl ?_
              refine V_gn rfl rfl rfl hc179 rfl rfl rfl ?_
              refine V_gn rfl rfl rfl hc179 rfl rfl rfl ?_
              refine V_gn rfl rfl rfl hc179 rfl rfl rfl ?_
              refine V_gn rfl rfl rfl hc179 rfl rfl rfl ?_
              refine V_gn rfl rfl rfl hc179 rfl rfl rfl ?_
              refine V_y (Y_pick_fe rfl hc179 rfl) rfl rfl rfl ?_
              refine V_y (Y_assign rfl) rfl rfl rfl ?_
              obtain rfl := Option.some.inj ho30
              refine V_end (fun a ha189 => ?_)
              exact ⟨A19, ha189.sub ⟨rfl, trivial⟩, ⟨hH, hr32⟩⟩
      · rw [if_neg (nt hc138)] at ho30
        refine V_gn rfl rfl rfl hc138 rfl rfl rfl ?_
        refine V_gn rfl rfl rfl hc138 rfl rfl rfl ?_
        refine V_gn rfl rfl rfl hc138 rfl rfl rfl ?_
        refine V_y (Y_pick_fe rfl hc138 rfl) rfl rfl rfl ?_
        refine V_y (Y_move rfl) rfl rfl rfl ?_
        rcases Bool.eq_false_or_eq_true (false) with hc190 | hc190
        · rw [if_pos hc190] at ho30
          refine V_ge rfl rfl rfl hc190 ?_
          refine V_y (Y_move rfl) rfl rfl rfl ?_
          refine V_ge rfl rfl rfl hc190 ?_
          refine V_y (Y_move rfl) rfl rfl rfl ?_
          refine V_ge rfl rfl rfl hc190 ?_
          refine V_y (Y_eql rfl rfl) rfl rfl rfl ?_
          refine V_y (Y_pick_te rfl hc190 rfl) rfl rfl rfl ?_
          refine V_y (Y_move rfl) rfl rfl rfl ?_
          rcases Bool.eq_false_or_eq_true (x22.1 == x26.1) with hc191 | hc191
          · rw [if_pos hc191] at ho30
            refine V_ge rfl rfl rfl hc191 ?_
            refine V_y (Y_move rfl) rfl rfl rfl ?_
            refine V_ge rfl rfl rfl hc191 ?_
            refine V_y (Y_move rfl) rfl rfl rfl ?_
            refine V_ge rfl rfl rfl hc191 ?_
            refine V_y (Y_eql rfl rfl) rfl rfl rfl ?_
            refine V_y (Y_pick_te rfl hc191 rfl) rfl rfl rfl ?_
            refine V_y (Y_move rfl) rfl rfl rfl ?_
            rcases Bool.eq_false_or_eq_true (x22.2.1 == x26.2.1) with hc192 | hc192
            · rw [if_pos hc192] at ho30
              refine V_ge rfl rfl rfl hc192 ?_
              refine V_y (Y_move rfl) rfl rfl rfl ?_
              refine V_ge rfl rfl rfl hc192 ?_
              refine V_y (Y_move rfl) rfl rfl rfl ?_
              refine V_ge rfl rfl rfl hc192 ?_
              obtain ⟨x193, hx193, ho30⟩ := Option.bind_eq_some_iff.1 ho30
              refine V_call Tryd.call10 rfl rfl rfl rfl (route_CheckHeld_c w27 hA people v_people h_people held v_held h_held hx193) ?_
              rintro _ w194 ⟨rfl, hk195⟩
              have ht196 := Kp.tr hk195 hA hB
              replace hH := Hp.kp hH hk195
              replace h_people := Sl.tr h_people ht196
              replace h_held := Sl.tr h_held ht196
              replace hK := Tr.trans hK ht196
              replace hr32 := Tr.trans hr32 ht196
              replace hB := Nat.le_trans hB ht196.ex.size
              replace hA := ht196.new
              refine V_ge rfl rfl rfl hc192 ?_
              refine V_y (Y_move rfl) rfl rfl rfl ?_
              refine V_ge rfl rfl rfl hc192 ?_
              refine V_y (Y_move rfl) rfl rfl rfl ?_
              refine V_ge rfl rfl rfl hc192 ?_
              obtain ⟨x197, hx197, ho30⟩ := Option.bind_eq_some_iff.1 ho30
              refine V_call Tryd.call11 rfl rfl rfl rfl (portref2_HeldFault_c w194 hA people v_people h_people held v_held h_held hx197) ?_
              rintro _ w198 ⟨rfl, hk199⟩
              have ht200 := Kp.tr hk199 hA hB
              replace hH := Hp.kp hH hk199
              replace h_people := Sl.tr h_people ht200
              replace h_held := Sl.tr h_held ht200
              replace hK := Tr.trans hK ht200
              replace hr32 := Tr.trans hr32 ht200
              replace hB := Nat.le_trans hB ht200.ex.size
              replace hA := ht200.new
              refine V_ge rfl rfl rfl hc192 ?_
              refine V_y (Y_eql rfl rfl) rfl rfl rfl ?_
              refine V_y (Y_pick_te rfl hc192 rfl) rfl rfl rfl ?_
              refine V_y (Y_assign rfl) rfl rfl rfl ?_
              obtain rfl := Option.some.inj ho30
              refine V_end (fun a ha201 => ?_)
              exact ⟨A19, ha201.sub ⟨rfl, trivial⟩, ⟨hH, hr32⟩⟩
            · rw [if_neg (nt hc192)] at ho30
              refine V_gn rfl rfl rfl hc192 rfl rfl rfl ?_
              refine V_gn rfl rfl rfl hc192 rfl rfl rfl ?_
              refine V_gn rfl rfl rfl hc192 rfl rfl rfl ?_
              refine V_gn rfl rfl rfl hc192 rfl rfl rfl ?_
              refine V_gn rfl rfl rfl hc192 rfl rfl rfl ?_
              refine V_gn rfl rfl rfl hc192 rfl rfl rfl ?_
              refine V_gn rfl rfl rfl hc192 rfl rfl rfl ?_
              refine V_y (Y_pick_fe rfl hc192 rfl) rfl rfl rfl ?_
              refine V_y (Y_assign rfl) rfl rfl rfl ?_
              obtain rfl := Option.some.inj ho30
              refine V_end (fun a ha202 => ?_)
              exact ⟨A19, ha202.sub ⟨rfl, trivial⟩, ⟨hH, hr32⟩⟩
          · rw [if_neg (nt hc191)] at ho30
            refine V_gn rfl rfl rfl hc191 rfl rfl rfl ?_
            refine V_gn rfl rfl rfl hc191 rfl rfl rfl ?_
            refine V_gn rfl rfl rfl hc191 rfl rfl rfl ?_
            refine V_y (Y_pick_fe rfl hc191 rfl) rfl rfl rfl ?_
            refine V_y (Y_move rfl) rfl rfl rfl ?_
            rcases Bool.eq_false_or_eq_true (false) with hc203 | hc203
            · rw [if_pos hc203] at ho30
              refine V_ge rfl rfl rfl hc203 ?_
              refine V_y (Y_move rfl) rfl rfl rfl ?_
              refine V_ge rfl rfl rfl hc203 ?_
              refine V_y (Y_move rfl) rfl rfl rfl ?_
              refine V_ge rfl rfl rfl hc203 ?_
              obtain ⟨x204, hx204, ho30⟩ := Option.bind_eq_some_iff.1 ho30
              refine V_call Tryd.call10 rfl rfl rfl rfl (route_CheckHeld_c w27 hA people v_people h_people held v_held h_held hx204) ?_
              rintro _ w205 ⟨rfl, hk206⟩
              have ht207 := Kp.tr hk206 hA hB
              replace hH := Hp.kp hH hk206
              replace h_people := Sl.tr h_people ht207
              replace h_held := Sl.tr h_held ht207
              replace hK := Tr.trans hK ht207
              replace hr32 := Tr.trans hr32 ht207
              replace hB := Nat.le_trans hB ht207.ex.size
              replace hA := ht207.new
              refine V_ge rfl rfl rfl hc203 ?_
              refine V_y (Y_move rfl) rfl rfl rfl ?_
              refine V_ge rfl rfl rfl hc203 ?_
              refine V_y (Y_move rfl) rfl rfl rfl ?_
              refine V_ge rfl rfl rfl hc203 ?_
              obtain ⟨x208, hx208, ho30⟩ := Option.bind_eq_some_iff.1 ho30
              refine V_call Tryd.call11 rfl rfl rfl rfl (portref2_HeldFault_c w205 hA people v_people h_people held v_held h_held hx208) ?_
              rintro _ w209 ⟨rfl, hk210⟩
              have ht211 := Kp.tr hk210 hA hB
              replace hH := Hp.kp hH hk210
              replace h_people := Sl.tr h_people ht211
              replace h_held := Sl.tr h_held ht211
              replace hK := Tr.trans hK ht211
              replace hr32 := Tr.trans hr32 ht211
              replace hB := Nat.le_trans hB ht211.ex.size
              replace hA := ht211.new
              refine V_ge rfl rfl rfl hc203 ?_
              refine V_y (Y_eql rfl rfl) rfl rfl rfl ?_
              refine V_y (Y_pick_te rfl hc203 rfl) rfl rfl rfl ?_
              refine V_y (Y_assign rfl) rfl rfl rfl ?_
              obtain rfl := Option.some.inj ho30
              refine V_end (fun a ha212 => ?_)
              exact ⟨A19, ha212.sub ⟨rfl, trivial⟩, ⟨hH, hr32⟩⟩
            · rw [if_neg (nt hc203)] at ho30
              refine V_gn rfl rfl rfl hc203 rfl rfl rfl ?_
              refine V_gn rfl rfl rfl hc203 rfl rfl rfl ?_
              refine V_gn rfl rfl rfl hc203 rfl rfl rfl ?_
              refine V_gn rfl rfl rfl hc203 rfl rfl rfl ?_
              refine V_gn rfl rfl rfl hc203 rfl rfl rfl ?_
              refine V_gn rfl rfl rfl hc203 rfl rfl rfl ?_
              refine V_gn rfl rfl rfl hc203 rfl rfl rfl ?_
              refine V_y (Y_pick_fe rfl hc203 rfl) rfl rfl rfl ?_
              refine V_y (Y_assign rfl) rfl rfl rfl ?_
              obtain rfl := Option.some.inj ho30
              refine V_end (fun a ha213 => ?_)
              exact ⟨A19, ha213.sub ⟨rfl, trivial⟩, ⟨hH, hr32⟩⟩
        · rw [if_neg (nt hc190)] at ho30
          refine V_gn rfl rfl rfl hc190 rfl rfl rfl ?_
          refine V_gn rfl rfl rfl hc190 rfl rfl rfl ?_
          refine V_gn rfl rfl rfl hc190 rfl rfl rfl ?_
          refine V_y (Y_pick_fe rfl hc190 rfl) rfl rfl rfl ?_
          refine V_y (Y_move rfl) rfl rfl rfl ?_
          rcases Bool.eq_false_or_eq_true (false) with hc214 | hc214
          · rw [if_pos hc214] at ho30
            refine V_ge rfl rfl rfl hc214 ?_
            refine V_y (Y_move rfl) rfl rfl rfl ?_
            refine V_ge rfl rfl rfl hc214 ?_
            refine V_y (Y_move rfl) rfl rfl rfl ?_
            refine V_ge rfl rfl rfl hc214 ?_
            refine V_y (Y_eql rfl rfl) rfl rfl rfl ?_
            refine V_y (Y_pick_te rfl hc214 rfl) rfl rfl rfl ?_
            refine V_y (Y_move rfl) rfl rfl rfl ?_
            rcases Bool.eq_false_or_eq_true (x22.2.1 == x26.2.1) with hc215 | hc215
            · rw [if_pos hc215] at ho30
              refine V_ge rfl rfl rfl hc215 ?_
              refine V_y (Y_move rfl) rfl rfl rfl ?_
              refine V_ge rfl rfl rfl hc215 ?_
              refine V_y (Y_move rfl) rfl rfl rfl ?_
              refine V_ge rfl rfl rfl hc215 ?_
              obtain ⟨x216, hx216, ho30⟩ := Option.bind_eq_some_iff.1 ho30
              refine V_call Tryd.call10 rfl rfl rfl rfl (route_CheckHeld_c w27 hA people v_people h_people held v_held h_held hx216) ?_
              rintro _ w217 ⟨rfl, hk218⟩
              have ht219 := Kp.tr hk218 hA hB
              replace hH := Hp.kp hH hk218
              replace h_people := Sl.tr h_people ht219
              replace h_held := Sl.tr h_held ht219
              replace hK := Tr.trans hK ht219
              replace hr32 := Tr.trans hr32 ht219
              replace hB := Nat.le_trans hB ht219.ex.size
              replace hA := ht219.new
              refine V_ge rfl rfl rfl hc215 ?_
              refine V_y (Y_move rfl) rfl rfl rfl ?_
              refine V_ge rfl rfl rfl hc215 ?_
              refine V_y (Y_move rfl) rfl rfl rfl ?_
              refine V_ge rfl rfl rfl hc215 ?_
              obtain ⟨x220, hx220, ho30⟩ := Option.bind_eq_some_iff.1 ho30
              refine V_call Tryd.call11 rfl rfl rfl rfl (portref2_HeldFault_c w217 hA people v_people h_people held v_held h_held hx220) ?_
              rintro _ w221 ⟨rfl, hk222⟩
              have ht223 := Kp.tr hk222 hA hB
              replace hH := Hp.kp hH hk222
              replace h_people := Sl.tr h_people ht223
              replace h_held := Sl.tr h_held ht223
              replace hK := Tr.trans hK ht223
              replace hr32 := Tr.trans hr32 ht223
              replace hB := Nat.le_trans hB ht223.ex.size
              replace hA := ht223.new
              refine V_ge rfl rfl rfl hc215 ?_
              refine V_y (Y_eql rfl rfl) rfl rfl rfl ?_
              refine V_y (Y_pick_te rfl hc215 rfl) rfl rfl rfl ?_
              refine V_y (Y_assign rfl) rfl rfl rfl ?_
              obtain rfl := Option.some.inj ho30
              refine V_end (fun a ha224 => ?_)
              exact ⟨A19, ha224.sub ⟨rfl, trivial⟩, ⟨hH, hr32⟩⟩
            · rw [if_neg (nt hc215)] at ho30
              refine V_gn rfl rfl rfl hc215 rfl rfl rfl ?_
              refine V_gn rfl rfl rfl hc215 rfl rfl rfl ?_
              refine V_gn rfl rfl rfl hc215 rfl rfl rfl ?_
              refine V_gn rfl rfl rfl hc215 rfl rfl rfl ?_
              refine V_gn rfl rfl rfl hc215 rfl rfl rfl ?_
              refine V_gn rfl rfl rfl hc215 rfl rfl rfl ?_
              refine V_gn rfl rfl rfl hc215 rfl rfl rfl ?_
              refine V_y (Y_pick_fe rfl hc215 rfl) rfl rfl rfl ?_
              refine V_y (Y_assign rfl) rfl rfl rfl ?_
              obtain rfl := Option.some.inj ho30
              refine V_end (fun a ha225 => ?_)
              exact ⟨A19, ha225.sub ⟨rfl, trivial⟩, ⟨hH, hr32⟩⟩
          · rw [if_neg (nt hc214)] at ho30
            refine V_gn rfl rfl rfl hc214 rfl rfl rfl ?_
            refine V_gn rfl rfl rfl hc214 rfl rfl rfl ?_
            refine V_gn rfl rfl rfl hc214 rfl rfl rfl ?_
            refine V_y (Y_pick_fe rfl hc214 rfl) rfl rfl rfl ?_
            refine V_y (Y_move rfl) rfl rfl rfl ?_
            rcases Bool.eq_false_or_eq_true (false) with hc226 | hc226
            · rw [if_pos hc226] at ho30
              refine V_ge rfl rfl rfl hc226 ?_
              refine V_y (Y_move rfl) rfl rfl rfl ?_
              refine V_ge rfl rfl rfl hc226 ?_
              refine V_y (Y_move rfl) rfl rfl rfl ?_
              refine V_ge rfl rfl rfl hc226 ?_
              obtain ⟨x227, hx227, ho30⟩ := Option.bind_eq_some_iff.1 ho30
              refine V_call Tryd.call10 rfl rfl rfl rfl (route_CheckHeld_c w27 hA people v_people h_people held v_held h_held hx227) ?_
              rintro _ w228 ⟨rfl, hk229⟩
              have ht230 := Kp.tr hk229 hA hB
              replace hH := Hp.kp hH hk229
              replace h_people := Sl.tr h_people ht230
              replace h_held := Sl.tr h_held ht230
              replace hK := Tr.trans hK ht230
              replace hr32 := Tr.trans hr32 ht230
              replace hB := Nat.le_trans hB ht230.ex.size
              replace hA := ht230.new
              refine V_ge rfl rfl rfl hc226 ?_
              refine V_y (Y_move rfl) rfl rfl rfl ?_
              refine V_ge rfl rfl rfl hc226 ?_
              refine V_y (Y_move rfl) rfl rfl rfl ?_
              refine V_ge rfl rfl rfl hc226 ?_
              obtain ⟨x231, hx231, ho30⟩ := Option.bind_eq_some_iff.1 ho30
              refine V_call Tryd.call11 rfl rfl rfl rfl (portref2_HeldFault_c w228 hA people v_people h_people held v_held h_held hx231) ?_
              rintro _ w232 ⟨rfl, hk233⟩
              have ht234 := Kp.tr hk233 hA hB
              replace hH := Hp.kp hH hk233
              replace h_people := Sl.tr h_people ht234
              replace h_held := Sl.tr h_held ht234
              replace hK := Tr.trans hK ht234
              replace hr32 := Tr.trans hr32 ht234
              replace hB := Nat.le_trans hB ht234.ex.size
              replace hA := ht234.new
              refine V_ge rfl rfl rfl hc226 ?_
              refine V_y (Y_eql rfl rfl) rfl rfl rfl ?_
              refine V_y (Y_pick_te rfl hc226 rfl) rfl rfl rfl ?_
              refine V_y (Y_assign rfl) rfl rfl rfl ?_
              obtain rfl := Option.some.inj ho30
              refine V_end (fun a ha235 => ?_)
              exact ⟨A19, ha235.sub ⟨rfl, trivial⟩, ⟨hH, hr32⟩⟩
            · rw [if_neg (nt hc226)] at ho30
              refine V_gn rfl rfl rfl hc226 rfl rfl rfl ?_
              refine V_gn rfl rfl rfl hc226 rfl rfl rfl ?_
              refine V_gn rfl rfl rfl hc226 rfl rfl rfl ?_
              refine V_gn rfl rfl rfl hc226 rfl rfl rfl ?_
              refine V_gn rfl rfl rfl hc226 rfl rfl rfl ?_
              refine V_gn rfl rfl rfl hc226 rfl rfl rfl ?_
              refine V_gn rfl rfl rfl hc226 rfl rfl rfl ?_
              refine V_y (Y_pick_fe rfl hc226 rfl) rfl rfl rfl ?_
              refine V_y (Y_assign rfl) rfl rfl rfl ?_
              obtain rfl := Option.some.inj ho30
              refine V_end (fun a ha236 => ?_)
              exact ⟨A19, ha236.sub ⟨rfl, trivial⟩, ⟨hH, hr32⟩⟩
  rintro A36 w33 ⟨hH37, hk34⟩ a ha35
  replace hK := Tr.trans hK hk34
  replace hB := Nat.le_trans hB hk34.ex.size
  replace hA := hk34.new
  replace hH : Hp w.heap.size A36 w33 (obS (α := Int) 3 v15 x14.1 :: obS (α := Int) 3 v6 x5.1 :: []) := hH37
  refine C_at (n := ⟨73, [], none⟩) (fun _ _ => rfl) ?_ ha35
  obtain rfl := Option.some.inj hm
  refine C_ret ?_
  try simp only [↓inBlock_ret, ↓then_ret]
  exact retQ rfl (Res.one Tryd.results3 rfl) ⟨rfl, hK.kp⟩

end Go.Proofs.YtigplgkbilmabaaDoor.W
