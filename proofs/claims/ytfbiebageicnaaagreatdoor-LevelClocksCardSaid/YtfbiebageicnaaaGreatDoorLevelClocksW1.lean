import Derived.Test.YtfbiebageicnaaaGreatDoorLevelClocksW0
namespace Go.Proofs.YtfbiebageicnaaaGreatDoor.W
open Go Go.RowKit Go.Pu Go.Gw Go.Proofs Go.Proofs.YtfbiebageicnaaaGreatDoor.M
set_option linter.unusedVariables false
set_option linter.unusedSimpArgs false
variable {Dw : Prop}
set_option maxRecDepth 4000 in
set_option maxHeartbeats 4000000 in
theorem level_keeper_point_1_c (w : World) {A : Nat → Prop} {B : Nat} (hB : B ≤ w.heap.size) (hA : ∀ b, w.heap.size ≤ b → A b) (r_ : level_running) (b_r_ : Nat) (v_r_ : Value) (p1 : level_Point) (b_p1 : Nat) (h_p1 : El A w b_p1 0 p1) (p2 : Bool) (b_p2 : Nat) (h_p2 : El A w b_p2 0 p2) (p3 : Bool) (b_p3 : Nat) (h_p3 : El A w b_p3 0 p3) {L : List Ob} (hH : Hp B A w (obC b_r_ [.int .i64 r_.clock.kind, .int .i64 r_.clock.level, .int .i64 r_.clock.minutes, .int .i64 r_.clock.start, .int .i64 r_.clock.stop, .int .i64 r_.clock.end_, v_r_, .int .i64 r_.target.kind, .int .i64 r_.target.minutes, .int .i64 r_.target.calendar, .bool r_.goes] 51 :: obS (α := level_Piece) 67 v_r_ r_.clock.pieces :: L)) {r : level_running} (hm : level_keeper_point_1 r_ p1 p2 p3 = some r) : Ret Tryz.prog 57 #[.pointer (some ⟨b_r_, 0, none⟩), .pointer (some ⟨b_p1, 0, none⟩), .pointer (some ⟨b_p2, 0, none⟩), .pointer (some ⟨b_p3, 0, none⟩)] w fun v w' => ∃ u1_0, ∃ A1 : Nat → Prop, v = .tuple #[] ∧ Hp B A1 w' (obC b_r_ [.int .i64 r.clock.kind, .int .i64 r.clock.level, .int .i64 r.clock.minutes, .int .i64 r.clock.start, .int .i64 r.clock.stop, .int .i64 r.clock.end_, u1_0, .int .i64 r.target.kind, .int .i64 r.target.minutes, .int .i64 r.target.calendar, .bool r.goes] 51 :: obS (α := level_Piece) 67 u1_0 r.clock.pieces :: L) ∧ Tr Dw B A w A1 w' := by
 unfold level_keeper_point_1 at hm
 refine enter Tryz.func57 rfl Tryz.ntmps57 rfl ?_
 have hK : Tr Dw B A w A w := Tr.refl (Dw := Dw) hA
 obtain ⟨s4, ho3, hm⟩ := Option.bind_eq_some_iff.1 hm
 refine C_cutG (ι := (Value × (Nat → Prop))) (fun ⟨v6, A12⟩ => []) (fun ⟨v6, A12⟩ => fun w' => Hp B A12 w' (obC b_r_ [.int .i64 s4.clock.kind, .int .i64 s4.clock.level, .int .i64 s4.clock.minutes, .int .i64 s4.clock.start, .int .i64 s4.clock.stop, .int .i64 s4.clock.end_, v6, .int .i64 s4.target.kind, .int .i64 s4.target.minutes, .int .i64 s4.target.calendar, .bool s4.goes] 51 :: obS (α := level_Piece) 67 v6 s4.clock.pieces :: L) ∧ Tr Dw B A w A12 w') ?_ ?_
 ·have hr5 : Tr Dw B A w A w := Tr.refl (Dw := Dw) hA
  refine C_block ?_
  refine C_seq ?_
  refine C_region ?_
  have h14 := El_level_Point_1 h_p1
  refine V_y (Y_fieldAddr Tryz.underlying41 rfl Tryz.sizeOf3 (by decide) rfl) rfl rfl rfl ?_
  refine V_y (Y_load (El.int h14) Tryz.isAgg3 rfl) rfl rfl rfl ?_
  refine V_y (Y_eql rfl rfl) rfl rfl rfl ?_
  refine V_y (Y_move rfl) rfl rfl rfl ?_
  refine V_cut 4 (fun _ : Unit => [(0, .pointer (some ⟨b_r_, 0, none⟩)), (1, .pointer (some ⟨b_p1, 0, none⟩)), (2, .pointer (some ⟨b_p2, 0, none⟩)), (3, .pointer (some ⟨b_p3, 0, none⟩)), (13, .bool ((p1.kind == 7) && (p1.status == 6)))]) (fun _ w' => w = w') ?_ ?_
  ·simp only [List.take, List.drop]
   rcases Bool.eq_false_or_eq_true (p1.kind == 7) with hc15 | hc15
   ·refine V_ge rfl rfl rfl hc15 ?_
    have h17 := El_level_Point_3 h_p1
    refine V_y (Y_fieldAddr Tryz.underlying41 rfl Tryz.sizeOf3 (by decide) rfl) rfl rfl rfl ?_
    refine V_ge rfl rfl rfl hc15 ?_
    refine V_y (Y_load (El.int h17) Tryz.isAgg3 rfl) rfl rfl rfl ?_
    refine V_ge rfl rfl rfl hc15 ?_
    refine V_y (Y_eql rfl rfl) rfl rfl rfl ?_
    refine V_y (Y_pick_te rfl hc15 rfl) rfl rfl rfl ?_
    exact V_end fun a ha => ⟨(), ha.sub ⟨rfl, rfl, rfl, rfl, (by rw [hc15]; rfl), trivial⟩, rfl⟩
   ·refine V_gn rfl rfl rfl hc15 rfl rfl rfl ?_
    refine V_gn rfl rfl rfl hc15 rfl rfl rfl ?_
    refine V_gn rfl rfl rfl hc15 rfl rfl rfl ?_
    refine V_y (Y_pick_fe rfl hc15 rfl) rfl rfl rfl ?_
    exact V_end fun a ha => ⟨(), ha.sub ⟨rfl, rfl, rfl, rfl, (by rw [hc15]; rfl), trivial⟩, rfl⟩
  simp only [List.take, List.drop]
  rintro _ _ rfl
  refine V_y (Y_assign rfl) rfl rfl rfl ?_
  refine V_to (fun _ _ => rfl) ?_
  obtain ⟨s19, ho18, ho3⟩ := Option.bind_eq_some_iff.1 ho3
  refine C_cutG (ι := (Value × (Nat → Prop))) (fun ⟨v21, A26⟩ => []) (fun ⟨v21, A26⟩ => fun w' => Hp B A26 w' (obC b_r_ [.int .i64 s19.clock.kind, .int .i64 s19.clock.level, .int .i64 s19.clock.minutes, .int .i64 s19.clock.start, .int .i64 s19.clock.stop, .int .i64 s19.clock.end_, v21, .int .i64 s19.target.kind, .int .i64 s19.target.minutes, .int .i64 s19.target.calendar, .bool s19.goes] 51 :: obS (α := level_Piece) 67 v21 s19.clock.pieces :: L) ∧ Tr Dw B A w A26 w') ?_ ?_
  ·have hr20 : Tr Dw B A w A w := Tr.refl (Dw := Dw) hA
   refine C_cond rfl (fun hc28 => ?_) (fun hc28 => ?_)
   ·rw [if_pos hc28] at ho18
    refine C_region ?_
    refine V_y (Y_move rfl) rfl rfl rfl ?_
    have h29 := El_level_Point_0 h_p1
    refine V_y (Y_fieldAddr Tryz.underlying41 rfl Tryz.sizeOf3 (by decide) rfl) rfl rfl rfl ?_
    refine V_y (Y_load (El.int h29) Tryz.isAgg3 rfl) rfl rfl rfl ?_
    replace hH : Hp B A w (obS (α := level_Piece) 67 v_r_ r_.clock.pieces :: obC b_r_ [.int .i64 r_.clock.kind, .int .i64 r_.clock.level, .int .i64 r_.clock.minutes, .int .i64 r_.clock.start, .int .i64 r_.clock.stop, .int .i64 r_.clock.end_, v_r_, .int .i64 r_.target.kind, .int .i64 r_.target.minutes, .int .i64 r_.target.calendar, .bool r_.goes] 51 :: L) := Hp.front hH (i := 1) rfl
    replace hH : Hp B A w (obC b_r_ [.int .i64 r_.clock.kind, .int .i64 r_.clock.level, .int .i64 r_.clock.minutes, .int .i64 r_.clock.start, .int .i64 r_.clock.stop, .int .i64 r_.clock.end_, v_r_, .int .i64 r_.target.kind, .int .i64 r_.target.minutes, .int .i64 r_.target.calendar, .bool r_.goes] 51 :: obS (α := level_Piece) 67 v_r_ r_.clock.pieces :: L) := Hp.front hH (i := 1) rfl
    obtain ⟨x30, hx30, ho18⟩ := Option.bind_eq_some_iff.1 ho18
    refine V_call Tryz.call58 rfl rfl rfl rfl (level_running_end_c (Dw := Dw) w hB hA r_ b_r_ v_r_ p1.at_ 2 hH hx30) ?_
    rintro _ w33 ⟨v31, A34, rfl, hH35, ht36⟩
    replace hr20 := Tr.trans (Dw := Dw) hr20 ht36
    replace hH : Hp B A34 w33 (obC b_r_ [.int .i64 x30.clock.kind, .int .i64 x30.clock.level, .int .i64 x30.clock.minutes, .int .i64 x30.clock.start, .int .i64 x30.clock.stop, .int .i64 x30.clock.end_, v31, .int .i64 x30.target.kind, .int .i64 x30.target.minutes, .int .i64 x30.target.calendar, .bool x30.goes] 51 :: obS (α := level_Piece) 67 v31 x30.clock.pieces :: L) := hH35
    obtain rfl := Option.some.inj ho18
    refine V_end (fun a ha37 => ?_)
    exact ⟨(v31, A34), ha37.sub trivial, ⟨hH, hr20⟩⟩
   ·rw [if_neg (nt hc28)] at ho18
    refine C_seq ?_
    refine C_seq ?_
    refine C_region ?_
    refine V_y (Y_move rfl) rfl rfl rfl ?_
    refine V_y (Y_nilCheck rfl) rfl rfl rfl ?_
    refine V_y (Y_fieldAddrC (off2 := 0) Tryz.underlying51 rfl Tryz.sizeOf47 (by decide) rfl rfl) rfl rfl rfl ?_
    refine V_y (Y_fieldAddrC (off2 := 0) Tryz.underlying47 rfl Tryz.sizeOf3 (by decide) rfl rfl) rfl rfl rfl ?_
    refine V_y (Y_load (Hp.cell (j := 0) hH (i := 0) rfl rfl) Tryz.isAgg3 rfl) rfl rfl rfl ?_
    refine V_y (Y_eql rfl rfl) rfl rfl rfl ?_
    refine V_y (Y_move rfl) rfl rfl rfl ?_
    refine V_cut 2 (fun _ : Unit => [(0, .pointer (some ⟨b_r_, 0, none⟩)), (1, .pointer (some ⟨b_p1, 0, none⟩)), (3, .pointer (some ⟨b_p3, 0, none⟩)), (27, .bool ((r_.clock.kind == 3) && p2))]) (fun _ w' => w = w') ?_ ?_
    ·simp only [List.take, List.drop]
     rcases Bool.eq_false_or_eq_true (r_.clock.kind == 3) with hc38 | hc38
     ·refine V_ge rfl rfl rfl hc38 ?_
      refine V_y (Y_load (El.bool h_p2) Tryz.isAgg4 rfl) rfl rfl rfl ?_
      refine V_y (Y_pick_te rfl hc38 rfl) rfl rfl rfl ?_
      exact V_end fun a ha => ⟨(), ha.sub ⟨rfl, rfl, rfl, (by rw [hc38]; rfl), trivial⟩, rfl⟩
     ·refine V_gn rfl rfl rfl hc38 rfl rfl rfl ?_
      refine V_y (Y_pick_fe rfl hc38 rfl) rfl rfl rfl ?_
      exact V_end fun a ha => ⟨(), ha.sub ⟨rfl, rfl, rfl, (by rw [hc38]; rfl), trivial⟩, rfl⟩
    simp only [List.take, List.drop]
    rintro _ _ rfl
    refine V_y (Y_assign rfl) rfl rfl rfl ?_
    refine V_to (fun _ _ => rfl) ?_
    obtain ⟨s41, ho40, ho18⟩ := Option.bind_eq_some_iff.1 ho18
    refine C_cutG (ι := Unit) (fun (_ : Unit) => [(0, .pointer (some ⟨b_r_, 0, none⟩)), (1, .pointer (some ⟨b_p1, 0, none⟩)), (18, .bool s41)]) (fun (_ : Unit) => fun w' => w = w') ?_ ?_
    ·refine C_cond rfl (fun hc46 => ?_) (fun hc46 => ?_)
     ·rw [if_pos hc46] at ho40
      obtain rfl := Option.some.inj ho40
      refine C_skip (fun a ha47 => ?_)
      exact ⟨(), ha47.sub ⟨rfl, rfl, rfl, trivial⟩, rfl⟩
     ·rw [if_neg (nt hc46)] at ho40
      refine C_region ?_
      refine V_y (Y_move rfl) rfl rfl rfl ?_
      refine V_y (Y_nilCheck rfl) rfl rfl rfl ?_
      refine V_y (Y_fieldAddrC (off2 := 0) Tryz.underlying51 rfl Tryz.sizeOf47 (by decide) rfl rfl) rfl rfl rfl ?_
      refine V_y (Y_fieldAddrC (off2 := 0) Tryz.underlying47 rfl Tryz.sizeOf3 (by decide) rfl rfl) rfl rfl rfl ?_
      refine V_y (Y_load (Hp.cell (j := 0) hH (i := 0) rfl rfl) Tryz.isAgg3 rfl) rfl rfl rfl ?_
      refine V_y (Y_neq rfl rfl) rfl rfl rfl ?_
      refine V_y (Y_move rfl) rfl rfl rfl ?_
      refine V_cut 2 (fun _ : Unit => [(0, .pointer (some ⟨b_r_, 0, none⟩)), (1, .pointer (some ⟨b_p1, 0, none⟩)), (36, .bool ((r_.clock.kind != 3) && p3))]) (fun _ w' => w = w') ?_ ?_
      ·simp only [List.take, List.drop]
       rcases Bool.eq_false_or_eq_true (r_.clock.kind != 3) with hc48 | hc48
       ·refine V_ge rfl rfl rfl hc48 ?_
        refine V_y (Y_load (El.bool h_p3) Tryz.isAgg4 rfl) rfl rfl rfl ?_
        refine V_y (Y_pick_te rfl hc48 rfl) rfl rfl rfl ?_
        exact V_end fun a ha => ⟨(), ha.sub ⟨rfl, rfl, (by rw [hc48]; rfl), trivial⟩, rfl⟩
       ·refine V_gn rfl rfl rfl hc48 rfl rfl rfl ?_
        refine V_y (Y_pick_fe rfl hc48 rfl) rfl rfl rfl ?_
        exact V_end fun a ha => ⟨(), ha.sub ⟨rfl, rfl, (by rw [hc48]; rfl), trivial⟩, rfl⟩
      simp only [List.take, List.drop]
      rintro _ _ rfl
      refine V_y (Y_assign rfl) rfl rfl rfl ?_
      obtain rfl := Option.some.inj ho40
      refine V_end (fun a ha50 => ?_)
      exact ⟨(), ha50.sub ⟨rfl, rfl, rfl, trivial⟩, rfl⟩
    rintro _ _ rfl a ha45
    refine C_at (n := ⟨41, [], none⟩) (fun _ _ => rfl) ?_ ha45
    obtain ⟨s52, ho51, ho18⟩ := Option.bind_eq_some_iff.1 ho18
    refine C_cutG (ι := (Value × (Nat → Prop))) (fun ⟨v54, A59⟩ => []) (fun ⟨v54, A59⟩ => fun w' => Hp B A59 w' (obC b_r_ [.int .i64 s52.clock.kind, .int .i64 s52.clock.level, .int .i64 s52.clock.minutes, .int .i64 s52.clock.start, .int .i64 s52.clock.stop, .int .i64 s52.clock.end_, v54, .int .i64 s52.target.kind, .int .i64 s52.target.minutes, .int .i64 s52.target.calendar, .bool s52.goes] 51 :: obS (α := level_Piece) 67 v54 s52.clock.pieces :: L) ∧ Tr Dw B A w A59 w') ?_ ?_
    ·have hr53 : Tr Dw B A w A w := Tr.refl (Dw := Dw) hA
     refine C_cond rfl (fun hc61 => ?_) (fun hc61 => ?_)
     ·rw [if_pos hc61] at ho51
      refine C_region ?_
      refine V_y (Y_move rfl) rfl rfl rfl ?_
      have h62 := El_level_Point_0 h_p1
      refine V_y (Y_fieldAddr Tryz.underlying41 rfl Tryz.sizeOf3 (by decide) rfl) rfl rfl rfl ?_
      refine V_y (Y_load (El.int h62) Tryz.isAgg3 rfl) rfl rfl rfl ?_
      replace hH : Hp B A w (obS (α := level_Piece) 67 v_r_ r_.clock.pieces :: obC b_r_ [.int .i64 r_.clock.kind, .int .i64 r_.clock.level, .int .i64 r_.clock.minutes, .int .i64 r_.clock.start, .int .i64 r_.clock.stop, .int .i64 r_.clock.end_, v_r_, .int .i64 r_.target.kind, .int .i64 r_.target.minutes, .int .i64 r_.target.calendar, .bool r_.goes] 51 :: L) := Hp.front hH (i := 1) rfl
      replace hH : Hp B A w (obC b_r_ [.int .i64 r_.clock.kind, .int .i64 r_.clock.level, .int .i64 r_.clock.minutes, .int .i64 r_.clock.start, .int .i64 r_.clock.stop, .int .i64 r_.clock.end_, v_r_, .int .i64 r_.target.kind, .int .i64 r_.target.minutes, .int .i64 r_.target.calendar, .bool r_.goes] 51 :: obS (α := level_Piece) 67 v_r_ r_.clock.pieces :: L) := Hp.front hH (i := 1) rfl
      obtain ⟨x63, hx63, ho51⟩ := Option.bind_eq_some_iff.1 ho51
      refine V_call Tryz.call58 rfl rfl rfl rfl (level_running_end_c (Dw := Dw) w hB hA r_ b_r_ v_r_ p1.at_ 1 hH hx63) ?_
      rintro _ w66 ⟨v64, A67, rfl, hH68, ht69⟩
      replace hr53 := Tr.trans (Dw := Dw) hr53 ht69
      replace hH : Hp B A67 w66 (obC b_r_ [.int .i64 x63.clock.kind, .int .i64 x63.clock.level, .int .i64 x63.clock.minutes, .int .i64 x63.clock.start, .int .i64 x63.clock.stop, .int .i64 x63.clock.end_, v64, .int .i64 x63.target.kind, .int .i64 x63.target.minutes, .int .i64 x63.target.calendar, .bool x63.goes] 51 :: obS (α := level_Piece) 67 v64 x63.clock.pieces :: L) := hH68
      obtain rfl := Option.some.inj ho51
      refine V_end (fun a ha70 => ?_)
      exact ⟨(v64, A67), ha70.sub trivial, ⟨hH, hr53⟩⟩
     ·rw [if_neg (nt hc61)] at ho51
      obtain rfl := Option.some.inj ho51
      refine C_skip (fun a ha71 => ?_)
      exact ⟨(v_r_, A), ha71.sub trivial, ⟨hH, hr53⟩⟩
    rintro ⟨v54, A59⟩ w56 ⟨hH60, hk57⟩ a ha58
    replace hr20 := Tr.trans (Dw := Dw) hr20 hk57
    replace hA := hk57.new
    replace hH : Hp B A59 w56 (obC b_r_ [.int .i64 s52.clock.kind, .int .i64 s52.clock.level, .int .i64 s52.clock.minutes, .int .i64 s52.clock.start, .int .i64 s52.clock.stop, .int .i64 s52.clock.end_, v54, .int .i64 s52.target.kind, .int .i64 s52.target.minutes, .int .i64 s52.target.calendar, .bool s52.goes] 51 :: obS (α := level_Piece) 67 v54 s52.clock.pieces :: L) := hH60
    obtain rfl := Option.some.inj ho18
    exact ⟨(v54, A59), ha58.sub trivial, ⟨hH, hr20⟩⟩
  rintro ⟨v21, A26⟩ w23 ⟨hH27, hk24⟩ a ha25
  replace hr5 := Tr.trans (Dw := Dw) hr5 hk24
  replace hA := hk24.new
  replace hH : Hp B A26 w23 (obC b_r_ [.int .i64 s19.clock.kind, .int .i64 s19.clock.level, .int .i64 s19.clock.minutes, .int .i64 s19.clock.start, .int .i64 s19.clock.stop, .int .i64 s19.clock.end_, v21, .int .i64 s19.target.kind, .int .i64 s19.target.minutes, .int .i64 s19.target.calendar, .bool s19.goes] 51 :: obS (α := level_Piece) 67 v21 s19.clock.pieces :: L) := hH27
  obtain rfl := Option.some.inj ho3
  exact ⟨(v21, A26), ha25.sub trivial, ⟨hH, hr5⟩⟩
 rintro ⟨v6, A12⟩ w9 ⟨hH13, hk10⟩ a ha11
 replace hK := Tr.trans (Dw := Dw) hK hk10
 replace hA := hk10.new
 replace hH : Hp B A12 w9 (obC b_r_ [.int .i64 s4.clock.kind, .int .i64 s4.clock.level, .int .i64 s4.clock.minutes, .int .i64 s4.clock.start, .int .i64 s4.clock.stop, .int .i64 s4.clock.end_, v6, .int .i64 s4.target.kind, .int .i64 s4.target.minutes, .int .i64 s4.target.calendar, .bool s4.goes] 51 :: obS (α := level_Piece) 67 v6 s4.clock.pieces :: L) := hH13
 obtain rfl := Option.some.inj hm
 try simp only [↓inBlock_ret, ↓then_ret]
 exact normQ (retQ rfl (Res.zero Tryz.results57) ⟨v6, A12, rfl, hH, hK⟩ a ha11)
set_option maxRecDepth 4000 in
set_option maxHeartbeats 4000000 in
theorem slices_IndexFunc_Llevel_Level_level_Level_c (w : World) {A : Nat → Prop} (hA : ∀ b, w.heap.size ≤ b → A b) (s : (List level_Level)) (v_s : Value) (h_s : Sl A w v_s s) (f : level_Level → Option Bool) (f_f : FuncId) (f_a f_c : Array Value) (f_call : ∀ (args : Array Value) (w : World), (callFunc f_f args).run Tryz.prog w = .ok (.enter f_f args) w) (f_spec : ∀ (w1 : World) (A1 : Nat → Prop), Tr Dw w.heap.size A w A1 w1 → (∀ b, w1.heap.size ≤ b → A1 b) → ∀ (y0 : level_Level) (v1 : Value) (h2 : Sl A1 w1 v1 y0.tests) (v3 : Value) (h4 : Sl A1 w1 v3 y0.targets) (r : Bool), f y0 = some r → Ret Tryz.prog f_f (f_a ++ #[.agg #[.string y0.name, v1, v3]] ++ f_c) w1 fun v w' => v = .bool r ∧ Kp Dw w1 w') {r : Int} (hm : slices_IndexFunc_Llevel_Level_level_Level s f = some r) : Ret Tryz.prog 69 #[v_s, .func (.func f_f) f_a f_c] w fun v w' => v = .int .i64 r ∧ Kp Dw w w' := by
 unfold slices_IndexFunc_Llevel_Level_level_Level at hm
 refine enter Tryz.func69 rfl Tryz.ntmps69 rfl ?_
 have hA0 := hA
 have hB := Nat.le_refl w.heap.size
 have hK : Tr Dw w.heap.size A w A w := Tr.refl (Dw := Dw) hA
 have hH : Hp w.heap.size A w [] := Hp.nil
 refine C_seq ?_
 refine C_region ?_
 refine V_y (Y_assign rfl) rfl rfl rfl ?_
 refine V_to (fun _ _ => rfl) ?_
 refine C_seq ?_
 refine C_seq ?_
 refine C_region ?_
 refine V_y (Y_move rfl) rfl rfl rfl ?_
 refine V_y (Y_lenSl h_s rfl Tryz.underlying23 rfl) rfl rfl rfl ?_
 refine V_y (Y_move rfl) rfl rfl rfl ?_
 refine V_to (fun _ _ => rfl) ?_
 have hn23 := Sl.le h_s
 obtain ⟨o3, ho3, hm⟩ := Option.bind_eq_some_iff.1 hm
 refine C_cutG (ι := (Unit × (Nat → Prop))) (fun ⟨s4, A10⟩ => []) (fun ⟨s4, A10⟩ => fun w' => o3 = .fin s4 ∧ Hp w.heap.size A10 w' ([]) ∧ Tr Dw w.heap.size A w A10 w') ?_ ?_
 ·refine C_block ?_
  refine C_range ho3 (fun k6 _ a w' => ∃ i : (Nat → Prop), Has ⟨19, [], none⟩ a ([(0, v_s), (1, .func (.func f_f) f_a f_c), (7, .int .i64 (s.length : Int)), (8, .int .i64 (k6 : Int))]) ∧ Hp w.heap.size i w' ([]) ∧ Tr Dw w.heap.size A w i w') (fun a ha => ⟨A, ha.sub ⟨rfl, rfl, rfl, rfl, trivial⟩, ⟨hH, Tr.refl (Dw := Dw) hA⟩⟩) ?_
  rintro K k6 _ a w13 ⟨A14, ha41, hH15, hr5⟩ hle19 K22 h21
  refine C_of ?_ ha41
  replace h_s := Sl.tr (Dw := Dw) h_s hr5
  replace hK := Tr.trans (Dw := Dw) hK hr5
  replace hB := Nat.le_trans hB hr5.ex.size
  replace hA := hr5.new
  replace hH : Hp w.heap.size A14 w13 ([]) := hH15
  refine C_seq (C_region (V_y (Y_lss rfl rfl) rfl rfl rfl (V_to (fun _ _ => rfl) ?_)))
  refine C_seq ?_
  refine C_cond rfl (fun hc24 => ?_) (fun hc24 => ?_)
  ·have hlt20 := lt_of_dec hc24
   obtain ⟨x16, h17, h18⟩ := K22 hlt20
   refine C_skip_to (fun _ _ => rfl) ?_
   refine C_seq ?_
   refine C_block ?_
   refine C_seq ?_
   refine C_region ?_
   refine V_y (Y_move rfl) rfl rfl rfl ?_
   refine V_y (Y_assign rfl) rfl rfl rfl ?_
   refine V_to (fun _ _ => rfl) ?_
   refine C_seq ?_
   refine C_region ?_
   refine V_y (Y_move rfl) rfl rfl rfl ?_
   refine V_y (Y_move rfl) rfl rfl rfl ?_
   refine V_y (Y_move rfl) rfl rfl rfl ?_
   obtain ⟨x25, hx25, h17⟩ := Option.bind_eq_some_iff.1 h17
   refine V_indexAddr h_s hx25 Tryz.underlying23 Tryz.sizeOf147 rfl rfl rfl ?_
   intro b26 o27 h28
   obtain ⟨v29, v31, h33, h30, h32⟩ := El_level_Level h28
   refine V_y (Y_loadA h33 Tryz.isAgg147 Tryz.sizeOf147 rfl) rfl rfl rfl ?_
   obtain ⟨x34, hx34, h17⟩ := Option.bind_eq_some_iff.1 h17
   refine V_call f_call rfl rfl rfl rfl (f_spec w13 _ hK hA x25 v29 h30 v31 h32 _ hx34) ?_
   rintro _ w35 ⟨rfl, hk36⟩
   have ht37 := Kp.tr (Dw := Dw) hk36 hA hB
   replace hH := Hp.kp (Dw := Dw) hH hk36
   replace hK := Tr.trans (Dw := Dw) hK ht37
   replace hr5 := Tr.trans (Dw := Dw) hr5 ht37
   refine V_to (fun _ _ => rfl) ?_
   refine C_cond rfl (fun hc38 => ?_) (fun hc38 => ?_)
   ·rw [if_pos hc38] at h17
    refine C_seq ?_
    refine C_region ?_
    refine V_y (Y_move rfl) rfl rfl rfl ?_
    refine V_y (Y_assign rfl) rfl rfl rfl ?_
    refine V_to (fun _ _ => rfl) ?_
    obtain rfl := Option.some.inj h17
    obtain rfl := (h18 : Lp.rt _ = _)
    rw [Lp.andThen_rt] at hm
    obtain rfl := Option.some.inj hm
    refine C_ret ?_
    try simp only [↓inBlock_ret, ↓then_ret]
    exact retQ rfl (Res.one Tryz.results69 rfl) ⟨rfl, hK.kp⟩
   ·rw [if_neg (nt hc38)] at h17
    refine C_skip_to (fun _ _ => rfl) ?_
    refine C_region ?_
    refine V_y (Y_addI rfl rfl) rfl rfl rfl ?_
    refine V_y (Y_move rfl) rfl rfl rfl ?_
    obtain rfl := Option.some.inj h17
    refine V_end (fun a ha39 => ?_)
    exact ⟨(), hlt20, h18, ⟨A14, ha39.sub ⟨rfl, rfl, rfl, (congrArg (fun z => some (Value.int .i64 z)) (w64_succ hlt20 hn23)), trivial⟩, ⟨hH, hr5⟩⟩⟩
  ·refine C_exit (fun a ha40 => ?_)
   exact ⟨((), A14), ha40.sub trivial, ⟨(h21 (eq_of_dec hle19 hc24)).symm, hH, hr5⟩⟩
 rintro ⟨s4, A10⟩ w7 ⟨rfl, hH11, hk8⟩ a ha9
 rw [Lp.andThen_fin] at hm
 replace hK := Tr.trans (Dw := Dw) hK hk8
 replace hA := hk8.new
 replace hH : Hp w.heap.size A10 w7 ([]) := hH11
 refine C_at (n := ⟨19, [], none⟩) (fun _ _ => rfl) ?_ ha9
 refine C_seq ?_
 refine C_region ?_
 refine V_y (Y_assign rfl) rfl rfl rfl ?_
 refine V_to (fun _ _ => rfl) ?_
 obtain rfl := Option.some.inj hm
 refine C_ret ?_
 try simp only [↓inBlock_ret, ↓then_ret]
 exact retQ rfl (Res.one Tryz.results69 rfl) ⟨rfl, hK.kp⟩
set_option maxRecDepth 4000 in
set_option maxHeartbeats 4000000 in
theorem slices_IndexFunc_Llevel_Test_level_Test_c (w : World) {A : Nat → Prop} (hA : ∀ b, w.heap.size ≤ b → A b) (s : (List level_Test)) (v_s : Value) (h_s : Sl A w v_s s) (f : level_Test → Option Bool) (f_f : FuncId) (f_a f_c : Array Value) (f_call : ∀ (args : Array Value) (w : World), (callFunc f_f args).run Tryz.prog w = .ok (.enter f_f args) w) (f_spec : ∀ (w1 : World) (A1 : Nat → Prop), Tr Dw w.heap.size A w A1 w1 → (∀ b, w1.heap.size ≤ b → A1 b) → ∀ (y0 : level_Test) (r : Bool), f y0 = some r → Ret Tryz.prog f_f (f_a ++ #[.agg #[.int .i64 y0.field, .int .i64 y0.value.kind, .int .i64 y0.value.int, .string y0.value.text]] ++ f_c) w1 fun v w' => v = .bool r ∧ Kp Dw w1 w') {r : Int} (hm : slices_IndexFunc_Llevel_Test_level_Test s f = some r) : Ret Tryz.prog 85 #[v_s, .func (.func f_f) f_a f_c] w fun v w' => v = .int .i64 r ∧ Kp Dw w w' := by
 unfold slices_IndexFunc_Llevel_Test_level_Test at hm
 refine enter Tryz.func85 rfl Tryz.ntmps85 rfl ?_
 have hA0 := hA
 have hB := Nat.le_refl w.heap.size
 have hK : Tr Dw w.heap.size A w A w := Tr.refl (Dw := Dw) hA
 have hH : Hp w.heap.size A w [] := Hp.nil
 refine C_seq ?_
 refine C_region ?_
 refine V_y (Y_assign rfl) rfl rfl rfl ?_
 refine V_to (fun _ _ => rfl) ?_
 refine C_seq ?_
 refine C_seq ?_
 refine C_region ?_
 refine V_y (Y_move rfl) rfl rfl rfl ?_
 refine V_y (Y_lenSl h_s rfl Tryz.underlying144 rfl) rfl rfl rfl ?_
 refine V_y (Y_move rfl) rfl rfl rfl ?_
 refine V_to (fun _ _ => rfl) ?_
 have hn23 := Sl.le h_s
 obtain ⟨o3, ho3, hm⟩ := Option.bind_eq_some_iff.1 hm
 refine C_cutG (ι := (Unit × (Nat → Prop))) (fun ⟨s4, A10⟩ => []) (fun ⟨s4, A10⟩ => fun w' => o3 = .fin s4 ∧ Hp w.heap.size A10 w' ([]) ∧ Tr Dw w.heap.size A w A10 w') ?_ ?_
 ·refine C_block ?_
  refine C_range ho3 (fun k6 _ a w' => ∃ i : (Nat → Prop), Has ⟨19, [], none⟩ a ([(0, v_s), (1, .func (.func f_f) f_a f_c), (7, .int .i64 (s.length : Int)), (8, .int .i64 (k6 : Int))]) ∧ Hp w.heap.size i w' ([]) ∧ Tr Dw w.heap.size A w i w') (fun a ha => ⟨A, ha.sub ⟨rfl, rfl, rfl, rfl, trivial⟩, ⟨hH, Tr.refl (Dw := Dw) hA⟩⟩) ?_
  rintro K k6 _ a w13 ⟨A14, ha37, hH15, hr5⟩ hle19 K22 h21
  refine C_of ?_ ha37
  replace h_s := Sl.tr (Dw := Dw) h_s hr5
  replace hK := Tr.trans (Dw := Dw) hK hr5
  replace hB := Nat.le_trans hB hr5.ex.size
  replace hA := hr5.new
  replace hH : Hp w.heap.size A14 w13 ([]) := hH15
  refine C_seq (C_region (V_y (Y_lss rfl rfl) rfl rfl rfl (V_to (fun _ _ => rfl) ?_)))
  refine C_seq ?_
  refine C_cond rfl (fun hc24 => ?_) (fun hc24 => ?_)
  ·have hlt20 := lt_of_dec hc24
   obtain ⟨x16, h17, h18⟩ := K22 hlt20
   refine C_skip_to (fun _ _ => rfl) ?_
   refine C_seq ?_
   refine C_block ?_
   refine C_seq ?_
   refine C_region ?_
   refine V_y (Y_move rfl) rfl rfl rfl ?_
   refine V_y (Y_assign rfl) rfl rfl rfl ?_
   refine V_to (fun _ _ => rfl) ?_
   refine C_seq ?_
   refine C_region ?_
   refine V_y (Y_move rfl) rfl rfl rfl ?_
   refine V_y (Y_move rfl) rfl rfl rfl ?_
   refine V_y (Y_move rfl) rfl rfl rfl ?_
   obtain ⟨x25, hx25, h17⟩ := Option.bind_eq_some_iff.1 h17
   refine V_indexAddr h_s hx25 Tryz.underlying144 Tryz.sizeOf152 rfl rfl rfl ?_
   intro b26 o27 h28
   obtain ⟨h29, _⟩ := El_level_Test h28
   refine V_y (Y_loadA h29 Tryz.isAgg152 Tryz.sizeOf152 rfl) rfl rfl rfl ?_
   obtain ⟨x30, hx30, h17⟩ := Option.bind_eq_some_iff.1 h17
   refine V_call f_call rfl rfl rfl rfl (f_spec w13 _ hK hA x25 _ hx30) ?_
   rintro _ w31 ⟨rfl, hk32⟩
   have ht33 := Kp.tr (Dw := Dw) hk32 hA hB
   replace hH := Hp.kp (Dw := Dw) hH hk32
   replace hK := Tr.trans (Dw := Dw) hK ht33
   replace hr5 := Tr.trans (Dw := Dw) hr5 ht33
   refine V_to (fun _ _ => rfl) ?_
   refine C_cond rfl (fun hc34 => ?_) (fun hc34 => ?_)
   ·rw [if_pos hc34] at h17
    refine C_seq ?_
    refine C_region ?_
    refine V_y (Y_move rfl) rfl rfl rfl ?_
    refine V_y (Y_assign rfl) rfl rfl rfl ?_
    refine V_to (fun _ _ => rfl) ?_
    obtain rfl := Option.some.inj h17
    obtain rfl := (h18 : Lp.rt _ = _)
    rw [Lp.andThen_rt] at hm
    obtain rfl := Option.some.inj hm
    refine C_ret ?_
    try simp only [↓inBlock_ret, ↓then_ret]
    exact retQ rfl (Res.one Tryz.results85 rfl) ⟨rfl, hK.kp⟩
   ·rw [if_neg (nt hc34)] at h17
    refine C_skip_to (fun _ _ => rfl) ?_
    refine C_region ?_
    refine V_y (Y_addI rfl rfl) rfl rfl rfl ?_
    refine V_y (Y_move rfl) rfl rfl rfl ?_
    obtain rfl := Option.some.inj h17
    refine V_end (fun a ha35 => ?_)
    exact ⟨(), hlt20, h18, ⟨A14, ha35.sub ⟨rfl, rfl, rfl, (congrArg (fun z => some (Value.int .i64 z)) (w64_succ hlt20 hn23)), trivial⟩, ⟨hH, hr5⟩⟩⟩
  ·refine C_exit (fun a ha36 => ?_)
   exact ⟨((), A14), ha36.sub trivial, ⟨(h21 (eq_of_dec hle19 hc24)).symm, hH, hr5⟩⟩
 rintro ⟨s4, A10⟩ w7 ⟨rfl, hH11, hk8⟩ a ha9
 rw [Lp.andThen_fin] at hm
 replace hK := Tr.trans (Dw := Dw) hK hk8
 replace hA := hk8.new
 replace hH : Hp w.heap.size A10 w7 ([]) := hH11
 refine C_at (n := ⟨19, [], none⟩) (fun _ _ => rfl) ?_ ha9
 refine C_seq ?_
 refine C_region ?_
 refine V_y (Y_assign rfl) rfl rfl rfl ?_
 refine V_to (fun _ _ => rfl) ?_
 obtain rfl := Option.some.inj hm
 refine C_ret ?_
 try simp only [↓inBlock_ret, ↓then_ret]
 exact retQ rfl (Res.one Tryz.results85 rfl) ⟨rfl, hK.kp⟩
set_option maxRecDepth 4000 in
set_option maxHeartbeats 4000000 in
theorem slices_ContainsFunc_Llevel_Test_level_Test_c (w : World) {A : Nat → Prop} (hA : ∀ b, w.heap.size ≤ b → A b) (s : (List level_Test)) (v_s : Value) (h_s : Sl A w v_s s) (f : level_Test → Option Bool) (f_f : FuncId) (f_a f_c : Array Value) (f_call : ∀ (args : Array Value) (w : World), (callFunc f_f args).run Tryz.prog w = .ok (.enter f_f args) w) (f_spec : ∀ (w1 : World) (A1 : Nat → Prop), Tr Dw w.heap.size A w A1 w1 → (∀ b, w1.heap.size ≤ b → A1 b) → ∀ (y0 : level_Test) (r : Bool), f y0 = some r → Ret Tryz.prog f_f (f_a ++ #[.agg #[.int .i64 y0.field, .int .i64 y0.value.kind, .int .i64 y0.value.int, .string y0.value.text]] ++ f_c) w1 fun v w' => v = .bool r ∧ Kp Dw w1 w') {r : Bool} (hm : slices_ContainsFunc_Llevel_Test_level_Test s f = some r) : Ret Tryz.prog 71 #[v_s, .func (.func f_f) f_a f_c] w fun v w' => v = .bool r ∧ Kp Dw w w' := by
 unfold slices_ContainsFunc_Llevel_Test_level_Test at hm
 refine enter Tryz.func71 rfl Tryz.ntmps71 rfl ?_
 have hA0 := hA
 have hB := Nat.le_refl w.heap.size
 have hK : Tr Dw w.heap.size A w A w := Tr.refl (Dw := Dw) hA
 have hH : Hp w.heap.size A w [] := Hp.nil
 refine C_seq ?_
 refine C_region ?_
 refine V_y (Y_assign rfl) rfl rfl rfl ?_
 refine V_to (fun _ _ => rfl) ?_
 refine C_seq ?_
 refine C_region ?_
 refine V_y (Y_move rfl) rfl rfl rfl ?_
 refine V_y (Y_move rfl) rfl rfl rfl ?_
 obtain ⟨x3, hx3, hm⟩ := Option.bind_eq_some_iff.1 hm
 refine V_call Tryz.call85 rfl rfl rfl rfl (slices_IndexFunc_Llevel_Test_level_Test_c (Dw := Dw) w hA s v_s h_s f f_f f_a f_c f_call (fun w1 A1 ht => f_spec w1 A1 (Tr.trans (Dw := Dw) hK (Tr.lower (Dw := Dw) ht hB))) hx3) ?_
 rintro _ w4 ⟨rfl, hk5⟩
 have ht6 := Kp.tr (Dw := Dw) hk5 hA hB
 replace hK := Tr.trans (Dw := Dw) hK ht6
 refine V_y (Y_geq rfl rfl) rfl rfl rfl ?_
 refine V_y (Y_assign rfl) rfl rfl rfl ?_
 refine V_to (fun _ _ => rfl) ?_
 obtain rfl := Option.some.inj hm
 refine C_ret ?_
 try simp only [↓inBlock_ret, ↓then_ret]
 exact retQ rfl (Res.one Tryz.results71 rfl) ⟨rfl, hK.kp⟩
set_option maxRecDepth 4000 in
set_option maxHeartbeats 4000000 in
theorem level_Policy_levelOf_1_1_c (w : World) {A : Nat → Prop} (hA : ∀ b, w.heap.size ≤ b → A b) (t : level_Test) (p1 : Int) (b_p1 : Nat) (h_p1 : El A w b_p1 0 p1) (p2 : (List api_Value)) (b_p2 : Nat) (h_p2 : El A w b_p2 0 p2) {r : Bool} (hm : level_Policy_levelOf_1_1 t p1 p2 = some r) : Ret Tryz.prog 76 #[.agg #[.int .i64 t.field, .int .i64 t.value.kind, .int .i64 t.value.int, .string t.value.text], .pointer (some ⟨b_p1, 0, none⟩), .pointer (some ⟨b_p2, 0, none⟩)] w fun v w' => v = .bool r ∧ Kp Dw w w' := by
 unfold level_Policy_levelOf_1_1 at hm
 refine enter Tryz.func76 rfl Tryz.ntmps76 rfl ?_
 have hA0 := hA
 have hB := Nat.le_refl w.heap.size
 have hK : Tr Dw w.heap.size A w A w := Tr.refl (Dw := Dw) hA
 have hH : Hp w.heap.size A w [] := Hp.nil
 refine C_seq ?_
 refine C_region ?_
 refine V_box rfl rfl ?_
 intro b1 w2 h3
 have hk5 := h3.kp (Dw := Dw)
 have h4 : El (α := level_Test) A w2 b1 0 t := h3.el hA ⟨[.int .i64 t.field], _, rfl, rfl, ⟨[.int .i64 t.value.kind], _, rfl, rfl, ⟨[.int .i64 t.value.int], _, rfl, rfl, rfl⟩⟩⟩
 have ht6 := Kp.tr (Dw := Dw) hk5 hA hB
 replace hH := Hp.kp (Dw := Dw) hH hk5
 replace h_p1 := El.tr (Dw := Dw) h_p1 ht6
 replace h_p2 := El.tr (Dw := Dw) h_p2 ht6
 replace hK := Tr.trans (Dw := Dw) hK ht6
 replace hB := Nat.le_trans hB ht6.ex.size
 replace hA := ht6.new
 refine V_y (Y_assign rfl) rfl rfl rfl ?_
 refine V_to (fun _ _ => rfl) ?_
 refine C_seq ?_
 refine C_region ?_
 refine V_y (Y_build Tryz.underlying150 Tryz.zeroValue150 (Tryz_places150 _ Tryz.underlying150) rfl (by with_unfolding_all rfl)) rfl rfl rfl ?_
 refine V_allocH (Dw := Dw) (B := w.heap.size) hH Tryz.zeroValue150 hB hA rfl ?_
 intro b7 w9 A10 hH11 ht12
 replace h_p1 := El.tr (Dw := Dw) h_p1 ht12
 replace h_p2 := El.tr (Dw := Dw) h_p2 ht12
 replace h4 := El.tr (Dw := Dw) h4 ht12
 replace hK := Tr.trans (Dw := Dw) hK ht12
 replace hB := Nat.le_trans hB ht12.ex.size
 replace hA := ht12.new
 replace hH : Hp w.heap.size A10 w9 (obC b7 [.int .i64 0, .int .i64 0, .string ByteArray.empty] 150 :: []) := hH11
 refine V_storeC (Dw := Dw) (off := 0) (ds := [.int .i64 0, .int .i64 0, .string ByteArray.empty]) hH (i := 0) rfl Tryz.sizeOf150 rfl (Nat.le_of_ble_eq_true rfl) (by simp [Value.cells, Value.oneCell']) rfl hB hA rfl rfl ?_
 intro w13 hH14 ht15
 replace h_p1 := El.tr (Dw := Dw) h_p1 ht15
 replace h_p2 := El.tr (Dw := Dw) h_p2 ht15
 replace h4 := El.tr (Dw := Dw) h4 ht15
 replace hK := Tr.trans (Dw := Dw) hK ht15
 replace hB := Nat.le_trans hB ht15.ex.size
 replace hA := ht15.new
 replace hH : Hp w.heap.size A10 w13 (obC b7 [.int .i64 0, .int .i64 0, .string ByteArray.empty] 150 :: []) := hH14
 refine V_to (fun _ _ => rfl) ?_
 refine C_seq ?_
 obtain ⟨s17, ho16, hm⟩ := Option.bind_eq_some_iff.1 hm
 refine C_cutG (ι := (Nat → Prop)) (fun (A22 : (Nat → Prop)) => [(3, .pointer (some ⟨b1, 0, none⟩)), (5, .pointer (some ⟨b7, 0, none⟩))]) (fun (A22 : (Nat → Prop)) => fun w' => Hp w.heap.size A22 w' (obC b7 [.int .i64 s17.kind, .int .i64 s17.int, .string s17.text] 150 :: []) ∧ Tr Dw w.heap.size A10 w13 A22 w') ?_ ?_
 ·have hr18 : Tr Dw w.heap.size A10 w13 A10 w13 := Tr.refl (Dw := Dw) hA
  refine C_block ?_
  refine C_seq ?_
  refine C_region ?_
  have h24 := El_level_Test_0 h4
  refine V_y (Y_fieldAddr Tryz.underlying152 rfl Tryz.sizeOf3 (by decide) rfl) rfl rfl rfl ?_
  refine V_y (Y_load (El.int h24) Tryz.isAgg3 rfl) rfl rfl rfl ?_
  refine V_y (Y_eql rfl rfl) rfl rfl rfl ?_
  refine V_y (Y_assign rfl) rfl rfl rfl ?_
  refine V_to (fun _ _ => rfl) ?_
  obtain ⟨s26, ho25, ho16⟩ := Option.bind_eq_some_iff.1 ho16
  refine C_cutG (ι := (Nat → Prop)) (fun (A31 : (Nat → Prop)) => [(3, .pointer (some ⟨b1, 0, none⟩)), (5, .pointer (some ⟨b7, 0, none⟩))]) (fun (A31 : (Nat → Prop)) => fun w' => Hp w.heap.size A31 w' (obC b7 [.int .i64 s26.kind, .int .i64 s26.int, .string s26.text] 150 :: []) ∧ Tr Dw w.heap.size A10 w13 A31 w') ?_ ?_
  ·have hr27 : Tr Dw w.heap.size A10 w13 A10 w13 := Tr.refl (Dw := Dw) hA
   refine C_cond rfl (fun hc33 => ?_) (fun hc33 => ?_)
   ·rw [if_pos hc33] at ho25
    refine C_region ?_
    refine V_y (Y_load (El.int h_p1) Tryz.isAgg3 rfl) rfl rfl rfl ?_
    refine V_y (Y_build Tryz.underlying150 Tryz.zeroValue150 (Tryz_places150 _ Tryz.underlying150) rfl (by with_unfolding_all rfl)) rfl rfl rfl ?_
    refine V_storeC (Dw := Dw) (off := 0) (ds := [.int .i64 2, .int .i64 p1, .string ByteArray.empty]) hH (i := 0) rfl Tryz.sizeOf150 rfl (Nat.le_of_ble_eq_true rfl) (by simp [Value.cells, Value.oneCell']) rfl hB hA rfl rfl ?_
    intro w34 hH35 ht36
    replace hr27 := Tr.trans (Dw := Dw) hr27 ht36
    replace hH : Hp w.heap.size A10 w34 (obC b7 [.int .i64 2, .int .i64 p1, .string ByteArray.empty] 150 :: []) := hH35
    obtain rfl := Option.some.inj ho25
    refine V_end (fun a ha37 => ?_)
    exact ⟨A10, ha37.sub ⟨rfl, rfl, trivial⟩, ⟨hH, hr27⟩⟩
   ·rw [if_neg (nt hc33)] at ho25
    refine C_seq ?_
    refine C_region ?_
    have h38 := El_level_Test_0 h4
    refine V_y (Y_fieldAddr Tryz.underlying152 rfl Tryz.sizeOf3 (by decide) rfl) rfl rfl rfl ?_
    refine V_y (Y_load (El.int h38) Tryz.isAgg3 rfl) rfl rfl rfl ?_
    obtain ⟨v39, h40, h41⟩ := El.list h_p2
    refine V_y (Y_load h40 Tryz.isAgg39 rfl) rfl rfl rfl ?_
    refine V_y (Y_lenSl h41 rfl Tryz.underlying39 rfl) rfl rfl rfl ?_
    refine V_y (Y_lss rfl rfl) rfl rfl rfl ?_
    refine V_y (Y_assign rfl) rfl rfl rfl ?_
    refine V_to (fun _ _ => rfl) ?_
    obtain ⟨s43, ho42, ho25⟩ := Option.bind_eq_some_iff.1 ho25
    refine C_cutG (ι := (Nat → Prop)) (fun (A48 : (Nat → Prop)) => [(3, .pointer (some ⟨b1, 0, none⟩)), (5, .pointer (some ⟨b7, 0, none⟩))]) (fun (A48 : (Nat → Prop)) => fun w' => Hp w.heap.size A48 w' (obC b7 [.int .i64 s43.kind, .int .i64 s43.int, .string s43.text] 150 :: []) ∧ Tr Dw w.heap.size A10 w13 A48 w') ?_ ?_
    ·have hr44 : Tr Dw w.heap.size A10 w13 A10 w13 := Tr.refl (Dw := Dw) hA
     refine C_cond rfl (fun hc50 => ?_) (fun hc50 => ?_)
     ·rw [if_pos hc50] at ho42
      refine C_region ?_
      obtain ⟨v51, h52, h53⟩ := El.list h_p2
      refine V_y (Y_load h52 Tryz.isAgg39 rfl) rfl rfl rfl ?_
      have h54 := El_level_Test_0 h4
      refine V_y (Y_fieldAddr Tryz.underlying152 rfl Tryz.sizeOf3 (by decide) rfl) rfl rfl rfl ?_
      refine V_y (Y_load (El.int h54) Tryz.isAgg3 rfl) rfl rfl rfl ?_
      obtain ⟨x55, hx55, ho42⟩ := Option.bind_eq_some_iff.1 ho42
      refine V_indexAddr h53 hx55 Tryz.underlying39 Tryz.sizeOf150 rfl rfl rfl ?_
      intro b56 o57 h58
      obtain ⟨h59, _⟩ := El_api_Value h58
      refine V_y (Y_loadA h59 Tryz.isAgg150 Tryz.sizeOf150 rfl) rfl rfl rfl ?_
      refine V_storeC (Dw := Dw) (off := 0) (ds := [.int .i64 x55.kind, .int .i64 x55.int, .string x55.text]) hH (i := 0) rfl Tryz.sizeOf150 rfl (Nat.le_of_ble_eq_true rfl) (by simp [Value.cells, Value.oneCell']) rfl hB hA rfl rfl ?_
      intro w60 hH61 ht62
      replace hr44 := Tr.trans (Dw := Dw) hr44 ht62
      replace hH : Hp w.heap.size A10 w60 (obC b7 [.int .i64 x55.kind, .int .i64 x55.int, .string x55.text] 150 :: []) := hH61
      obtain rfl := Option.some.inj ho42
      refine V_end (fun a ha63 => ?_)
      exact ⟨A10, ha63.sub ⟨rfl, rfl, trivial⟩, ⟨hH, hr44⟩⟩
     ·rw [if_neg (nt hc50)] at ho42
      obtain rfl := Option.some.inj ho42
      refine C_skip (fun a ha64 => ?_)
      exact ⟨A10, ha64.sub ⟨rfl, rfl, trivial⟩, ⟨hH, hr44⟩⟩
    rintro A48 w45 ⟨hH49, hk46⟩ a ha47
    replace hr27 := Tr.trans (Dw := Dw) hr27 hk46
    replace hA := hk46.new
    replace hH : Hp w.heap.size A48 w45 (obC b7 [.int .i64 s43.kind, .int .i64 s43.int, .string s43.text] 150 :: []) := hH49
    obtain rfl := Option.some.inj ho25
    exact ⟨A48, ha47.sub ⟨rfl, rfl, trivial⟩, ⟨hH, hr27⟩⟩
  rintro A31 w28 ⟨hH32, hk29⟩ a ha30
  replace hr18 := Tr.trans (Dw := Dw) hr18 hk29
  replace hA := hk29.new
  replace hH : Hp w.heap.size A31 w28 (obC b7 [.int .i64 s26.kind, .int .i64 s26.int, .string s26.text] 150 :: []) := hH32
  obtain rfl := Option.some.inj ho16
  exact ⟨A31, ha30.sub ⟨rfl, rfl, trivial⟩, ⟨hH, hr18⟩⟩
 rintro A22 w19 ⟨hH23, hk20⟩ a ha21
 replace h4 := El.tr (Dw := Dw) h4 hk20
 replace hK := Tr.trans (Dw := Dw) hK hk20
 replace hA := hk20.new
 replace hH : Hp w.heap.size A22 w19 (obC b7 [.int .i64 s17.kind, .int .i64 s17.int, .string s17.text] 150 :: []) := hH23
 refine C_at (n := ⟨28, [], none⟩) (fun _ _ => rfl) ?_ ha21
 refine C_seq ?_
 refine C_region ?_
 refine V_y (Y_loadA (Hp.part (off := 0) (n := 3) (ds := [.int .i64 s17.kind, .int .i64 s17.int, .string s17.text]) hH (i := 0) rfl rfl) Tryz.isAgg150 Tryz.sizeOf150 rfl) rfl rfl rfl ?_
 have h67 := El_level_Test_1 h4
 refine V_y (Y_fieldAddr Tryz.underlying152 rfl Tryz.sizeOf150 (by decide) rfl) rfl rfl rfl ?_
 obtain ⟨h68, _⟩ := El_api_Value h67
 refine V_y (Y_loadA h68 Tryz.isAgg150 Tryz.sizeOf150 rfl) rfl rfl rfl ?_
 refine V_y (Y_neqA (fun w => Tryz_eqt150_10000 s17.kind s17.int s17.text t.value.kind t.value.int t.value.text w) Tryz_eqg150 rfl rfl) rfl rfl rfl ?_
 refine V_y (Y_assign rfl) rfl rfl rfl ?_
 refine V_to (fun _ _ => rfl) ?_
 obtain rfl := Option.some.inj hm
 refine C_ret ?_
 try simp only [↓inBlock_ret, ↓then_ret]
 exact retQ rfl (Res.one Tryz.results76 rfl) ⟨rfl, hK.kp⟩
set_option maxRecDepth 4000 in
set_option maxHeartbeats 4000000 in
theorem level_Policy_levelOf_1_c (w : World) {A : Nat → Prop} (hA : ∀ b, w.heap.size ≤ b → A b) (l : level_Level) (v_l0 : Value) (h_l0 : Sl A w v_l0 l.tests) (v_l1 : Value) (h_l1 : Sl A w v_l1 l.targets) (p1 : Int) (b_p1 : Nat) (h_p1 : El A w b_p1 0 p1) (p2 : (List api_Value)) (b_p2 : Nat) (h_p2 : El A w b_p2 0 p2) {r : Bool} (hm : level_Policy_levelOf_1 l p1 p2 = some r) : Ret Tryz.prog 75 #[.agg #[.string l.name, v_l0, v_l1], .pointer (some ⟨b_p1, 0, none⟩), .pointer (some ⟨b_p2, 0, none⟩)] w fun v w' => v = .bool r ∧ Kp Dw w w' := by
 unfold level_Policy_levelOf_1 at hm
 refine enter Tryz.func75 rfl Tryz.ntmps75 rfl ?_
 have hA0 := hA
 have hB := Nat.le_refl w.heap.size
 have hK : Tr Dw w.heap.size A w A w := Tr.refl (Dw := Dw) hA
 have hH : Hp w.heap.size A w [] := Hp.nil
 refine C_seq ?_
 refine C_region ?_
 refine V_box rfl rfl ?_
 intro b5 w6 h7
 have hk9 := h7.kp (Dw := Dw)
 have h8 : El (α := level_Level) A w6 b5 0 l := h7.el hA ⟨[.string l.name], _, rfl, rfl, ⟨[v_l0], _, rfl, ⟨_, rfl, h_l0⟩, ⟨_, rfl, h_l1⟩⟩⟩
 have ht10 := Kp.tr (Dw := Dw) hk9 hA hB
 replace h_p1 := El.tr (Dw := Dw) h_p1 ht10
 replace h_p2 := El.tr (Dw := Dw) h_p2 ht10
 replace hK := Tr.trans (Dw := Dw) hK ht10
 replace hB := Nat.le_trans hB ht10.ex.size
 replace hA := ht10.new
 refine V_y (Y_assign rfl) rfl rfl rfl ?_
 refine V_to (fun _ _ => rfl) ?_
 refine C_seq ?_
 refine C_region ?_
 have h11 := El_level_Level_1 h8
 refine V_y (Y_fieldAddr Tryz.underlying147 rfl Tryz.sizeOf144 (by decide) rfl) rfl rfl rfl ?_
 obtain ⟨v12, h13, h14⟩ := El.list h11
 refine V_y (Y_load h13 Tryz.isAgg144 rfl) rfl rfl rfl ?_
 refine V_y (Y_makeFunc rfl rfl) rfl rfl rfl ?_
 obtain ⟨x16, hx16, hm⟩ := Option.bind_eq_some_iff.1 hm
 refine V_call Tryz.call71 rfl rfl rfl rfl (slices_ContainsFunc_Llevel_Test_level_Test_c (Dw := Dw) w6 hA l.tests v12 h14 (fun y24 => level_Policy_levelOf_1_1 y24 p1 p2) 76 #[] #[.pointer (some ⟨b_p1, 0, none⟩), .pointer (some ⟨b_p2, 0, none⟩)] Tryz.call76 (fun w20 A21 ht22 h23 y17 r18 h19 => (level_Policy_levelOf_1_1_c (Dw := Dw) w20 h23 y17 p1 b_p1 (El.tr (Dw := Dw) h_p1 ht22) p2 b_p2 (El.tr (Dw := Dw) h_p2 ht22) h19).mono (fun _ _ h => ⟨h.1, h.2⟩)) hx16) ?_
 rintro _ w25 ⟨rfl, hk26⟩
 have ht27 := Kp.tr (Dw := Dw) hk26 hA hB
 replace hK := Tr.trans (Dw := Dw) hK ht27
 refine V_y (Y_not rfl) rfl rfl rfl ?_
 refine V_y (Y_assign rfl) rfl rfl rfl ?_
 refine V_to (fun _ _ => rfl) ?_
 obtain rfl := Option.some.inj hm
 refine C_ret ?_
 try simp only [↓inBlock_ret, ↓then_ret]
 exact retQ rfl (Res.one Tryz.results75 rfl) ⟨rfl, hK.kp⟩
set_option maxRecDepth 4000 in
set_option maxHeartbeats 4000000 in
theorem level_Policy_levelOf_c (w : World) {A : Nat → Prop} (hA : ∀ b, w.heap.size ≤ b → A b) (p : level_Policy) (v_p0 : Value) (h_p0 : Sl A w v_p0 p.pauses) (v_p1 : Value) (h_p1 : Sl A w v_p1 p.levels) (priority : Int) (values : (List api_Value)) (v_values : Value) (h_values : Sl A w v_values values) {r : Int} (hm : level_Policy_levelOf p priority values = some r) : Ret Tryz.prog 59 #[.agg #[v_p0, v_p1], .int .i64 priority, v_values] w fun v w' => v = .int .i64 r ∧ Kp Dw w w' := by
 unfold level_Policy_levelOf at hm
 refine enter Tryz.func59 rfl Tryz.ntmps59 rfl ?_
 have hA0 := hA
 have hB := Nat.le_refl w.heap.size
 have hK : Tr Dw w.heap.size A w A w := Tr.refl (Dw := Dw) hA
 have hH : Hp w.heap.size A w [] := Hp.nil
 refine C_seq ?_
 refine C_region ?_
 refine V_box rfl rfl ?_
 intro b7 w9 h10
 have hk12 := h10.kp (Dw := Dw)
 have h11 : El (α := level_Policy) A w9 b7 0 p := h10.el hA ⟨[v_p0], _, rfl, ⟨_, rfl, h_p0⟩, ⟨_, rfl, h_p1⟩⟩
 have ht13 := Kp.tr (Dw := Dw) hk12 hA hB
 replace h_values := Sl.tr (Dw := Dw) h_values ht13
 replace hK := Tr.trans (Dw := Dw) hK ht13
 replace hB := Nat.le_trans hB ht13.ex.size
 replace hA := ht13.new
 refine V_box rfl rfl ?_
 intro b14 w15 h16
 have hk18 := h16.kp (Dw := Dw)
 have h17 : El (α := Int) A w15 b14 0 priority := h16.el hA rfl
 have ht19 := Kp.tr (Dw := Dw) hk18 hA hB
 replace h_values := Sl.tr (Dw := Dw) h_values ht19
 replace h11 := El.tr (Dw := Dw) h11 ht19
 replace hK := Tr.trans (Dw := Dw) hK ht19
 replace hB := Nat.le_trans hB ht19.ex.size
 replace hA := ht19.new
 refine V_box rfl rfl ?_
 intro b20 w21 h22
 have h27 : (v_values).oneCell' = true := by obtain ⟨_, _, e, _⟩ := Sl.form h_values; rw [e]; rfl
 have hk24 := h22.kp (Dw := Dw)
 have h23 : El (α := (List api_Value)) A w21 b20 0 values := h22.el hA (by rw [Value.cells_one h27]; exact ⟨_, rfl, h_values⟩)
 have ht28 := Kp.tr (Dw := Dw) hk24 hA hB
 replace h11 := El.tr (Dw := Dw) h11 ht28
 replace h17 := El.tr (Dw := Dw) h17 ht28
 replace hK := Tr.trans (Dw := Dw) hK ht28
 replace hB := Nat.le_trans hB ht28.ex.size
 replace hA := ht28.new
 refine V_y (Y_assign rfl) rfl rfl rfl ?_
 refine V_to (fun _ _ => rfl) ?_
 refine C_seq ?_
 refine C_region ?_
 have h29 := El_level_Policy_1 h11
 refine V_y (Y_fieldAddr Tryz.underlying25 rfl Tryz.sizeOf23 (by decide) rfl) rfl rfl rfl ?_
 obtain ⟨v30, h31, h32⟩ := El.list h29
 refine V_y (Y_load h31 Tryz.isAgg23 rfl) rfl rfl rfl ?_
 refine V_y (Y_makeFunc rfl rfl) rfl rfl rfl ?_
 obtain ⟨x34, hx34, hm⟩ := Option.bind_eq_some_iff.1 hm
 refine V_call Tryz.call69 rfl rfl rfl rfl (slices_IndexFunc_Llevel_Level_level_Level_c (Dw := Dw) w21 hA p.levels v30 h32 (fun y46 => level_Policy_levelOf_1 y46 priority values) 75 #[] #[.pointer (some ⟨b14, 0, none⟩), .pointer (some ⟨b20, 0, none⟩)] Tryz.call75 (fun w42 A43 ht44 h45 y35 v36 h37 v38 h39 r40 h41 => (level_Policy_levelOf_1_c (Dw := Dw) w42 h45 y35 v36 h37 v38 h39 priority b14 (El.tr (Dw := Dw) h17 ht44) values b20 (El.tr (Dw := Dw) h23 ht44) h41).mono (fun _ _ h => ⟨h.1, h.2⟩)) hx34) ?_
 rintro _ w47 ⟨rfl, hk48⟩
 have ht49 := Kp.tr (Dw := Dw) hk48 hA hB
 replace hK := Tr.trans (Dw := Dw) hK ht49
 refine V_y (Y_assign rfl) rfl rfl rfl ?_
 refine V_to (fun _ _ => rfl) ?_
 obtain rfl := Option.some.inj hm
 refine C_ret ?_
 try simp only [↓inBlock_ret, ↓then_ret]
 exact retQ rfl (Res.one Tryz.results59 rfl) ⟨rfl, hK.kp⟩
set_option maxRecDepth 4000 in
set_option maxHeartbeats 4000000 in
theorem level_keeper_target_c (w : World) {A : Nat → Prop} (hA : ∀ b, w.heap.size ≤ b → A b) (k_ : level_keeper) (b_k_ : Nat) (h_k_ : El A w b_k_ 0 k_) (kind : Int) {r : (level_Target × Bool)} (hm : level_keeper_target k_ kind = some r) : Ret Tryz.prog 78 #[.pointer (some ⟨b_k_, 0, none⟩), .int .i64 kind] w fun v w' => v = .tuple #[.agg #[.int .i64 r.1.kind, .int .i64 r.1.minutes, .int .i64 r.1.calendar], .bool r.2] ∧ Kp Dw w w' := by
 unfold level_keeper_target at hm
 refine enter Tryz.func78 rfl Tryz.ntmps78 rfl ?_
 have hA0 := hA
 have hB := Nat.le_refl w.heap.size
 have hK : Tr Dw w.heap.size A w A w := Tr.refl (Dw := Dw) hA
 have hH : Hp w.heap.size A w [] := Hp.nil
 refine C_seq ?_
 refine C_region ?_
 refine V_allocH (Dw := Dw) (B := w.heap.size) hH Tryz.zeroValue49 hB hA rfl ?_
 intro b1 w2 A3 hH4 ht5
 replace h_k_ := El.tr (Dw := Dw) h_k_ ht5
 replace hK := Tr.trans (Dw := Dw) hK ht5
 replace hB := Nat.le_trans hB ht5.ex.size
 replace hA := ht5.new
 replace hH : Hp w.heap.size A3 w2 (obC b1 [.int .i64 0, .int .i64 0, .int .i64 0] 49 :: []) := hH4
 refine V_y (Y_assign rfl) rfl rfl rfl ?_
 refine V_to (fun _ _ => rfl) ?_
 refine C_seq ?_
 refine C_seq ?_
 refine C_region ?_
 refine V_y (Y_move rfl) rfl rfl rfl ?_
 refine V_y (Y_nilCheck rfl) rfl rfl rfl ?_
 have h6 := El_level_keeper_1 h_k_
 refine V_y (Y_fieldAddr Tryz.underlying38 rfl Tryz.sizeOf3 (by decide) rfl) rfl rfl rfl ?_
 refine V_y (Y_load (El.int h6) Tryz.isAgg3 rfl) rfl rfl rfl ?_
 refine V_y (Y_lss rfl rfl) rfl rfl rfl ?_
 refine V_to (fun _ _ => rfl) ?_
 refine C_cond rfl (fun hc7 => ?_) (fun hc7 => ?_)
 ·rw [if_pos hc7] at hm
  refine C_seq ?_
  refine C_region ?_
  refine V_y (Y_build Tryz.underlying49 Tryz.zeroValue49 (Tryz_places49 _ Tryz.underlying49) rfl (by with_unfolding_all rfl)) rfl rfl rfl ?_
  refine V_storeC (Dw := Dw) (off := 0) (ds := [.int .i64 0, .int .i64 0, .int .i64 0]) hH (i := 0) rfl Tryz.sizeOf49 rfl (Nat.le_of_ble_eq_true rfl) (by simp [Value.cells, Value.oneCell']) rfl hB hA rfl rfl ?_
  intro w9 hH10 ht11
  replace hK := Tr.trans (Dw := Dw) hK ht11
  replace hH : Hp w.heap.size A3 w9 (obC b1 [.int .i64 0, .int .i64 0, .int .i64 0] 49 :: []) := hH10
  refine V_y (Y_assign rfl) rfl rfl rfl ?_
  refine V_to (fun _ _ => rfl) ?_
  obtain rfl := Option.some.inj hm
  refine C_ret ?_
  try simp only [↓inBlock_ret, ↓then_ret]
  exact retQ rfl (Res.l2 Tryz.results78 (RL.cell rfl (loadVar_agg (Hp.part (off := 0) (n := 3) (ds := [.int .i64 0, .int .i64 0, .int .i64 0]) hH (i := 0) rfl rfl) Tryz.isAgg49 Tryz.sizeOf49)) (RL.tmp rfl)) ⟨rfl, hK.kp⟩
 ·rw [if_neg (nt hc7)] at hm
  refine C_skip_to (fun _ _ => rfl) ?_
  refine C_seq ?_
  refine C_seq ?_
  refine C_region_q (Dw := Dw) Tryz_mixed (by kernel_rfl) ?_
  refine VQ_y (fun w' hw' => Y_move rfl) rfl rfl rfl ?_
  refine VQ_y (fun w' hw' => Y_nilCheck rfl) rfl rfl rfl ?_
  have h12 := El_level_keeper_0 h_k_
  refine VQ_y (fun w' hw' => Y_fieldAddr Tryz.underlying38 rfl Tryz.sizeOf25 (by decide) rfl) rfl rfl rfl ?_
  have h13 := El_level_Policy_1 h12
  refine VQ_y (fun w' hw' => Y_fieldAddr Tryz.underlying25 rfl Tryz.sizeOf23 (by decide) rfl) rfl rfl rfl ?_
  obtain ⟨v14, h15, h16⟩ := El.list h13
  refine VQ_y (fun w' hw' => Y_load ((World.cell?_of_block (hw'.block _ (World.block_lt_of_cell? _ _ h15))).trans h15) Tryz.isAgg23 rfl) rfl rfl rfl ?_
  refine VQ_y (fun w' hw' => Y_move rfl) rfl rfl rfl ?_
  refine VQ_y (fun w' hw' => Y_nilCheck rfl) rfl rfl rfl ?_
  have h17 := El_level_keeper_1 h_k_
  refine VQ_y (fun w' hw' => Y_fieldAddr Tryz.underlying38 rfl Tryz.sizeOf3 (by decide) rfl) rfl rfl rfl ?_
  refine VQ_y (fun w' hw' => Y_load (El.int (El.kp (Dw := Dw) h17 hw')) Tryz.isAgg3 rfl) rfl rfl rfl ?_
  obtain ⟨x18, hx18, hm⟩ := Option.bind_eq_some_iff.1 hm
  refine VQ_indexAddr h16 hx18 Tryz.underlying23 Tryz.sizeOf147 rfl rfl rfl ?_
  intro b19 o20 h21
  have h22 := El_level_Level_2 h21
  refine VQ_y (fun w' hw' => Y_fieldAddr Tryz.underlying147 rfl Tryz.sizeOf145 (by decide) rfl) rfl rfl rfl ?_
  obtain ⟨v23, h24, h25⟩ := El.list h22
  refine VQ_y (fun w' hw' => Y_load ((World.cell?_of_block (hw'.block _ (World.block_lt_of_cell? _ _ h24))).trans h24) Tryz.isAgg145 rfl) rfl rfl rfl ?_
  refine VQ_y (fun w' hw' => Y_lenSl h25 rfl Tryz.underlying145 rfl) rfl rfl rfl ?_
  refine VQ_y (fun w' hw' => Y_move rfl) rfl rfl rfl ?_
  refine VQ_to (fun _ _ => rfl) (fun w26 hk27 => ?_)
  have ht28 := Kp.tr (Dw := Dw) hk27 hA hB
  replace hH := Hp.kp (Dw := Dw) hH hk27
  replace h25 := Sl.tr (Dw := Dw) h25 ht28
  replace hK := Tr.trans (Dw := Dw) hK ht28
  replace hB := Nat.le_trans hB ht28.ex.size
  replace hA := ht28.new
  have hn49 := Sl.le h25
  obtain ⟨o29, ho29, hm⟩ := Option.bind_eq_some_iff.1 hm
  refine C_cutG (ι := (level_Target × (Nat → Prop))) (fun ⟨s30, A36⟩ => [(4, .pointer (some ⟨b1, 0, none⟩))]) (fun ⟨s30, A36⟩ => fun w' => o29 = .fin s30 ∧ Hp w.heap.size A36 w' (obC b1 [.int .i64 s30.kind, .int .i64 s30.minutes, .int .i64 s30.calendar] 49 :: []) ∧ Tr Dw w.heap.size A3 w26 A36 w') ?_ ?_
  ·refine C_block ?_
   refine C_range ho29 (fun k32 s38 a w' => ∃ i : (Nat → Prop), Has ⟨38, [], none⟩ a ([(1, .int .i64 kind), (4, .pointer (some ⟨b1, 0, none⟩)), (25, v23), (26, .int .i64 (x18.targets.length : Int)), (27, .int .i64 (k32 : Int))]) ∧ Hp w.heap.size i w' (obC b1 [.int .i64 s38.kind, .int .i64 s38.minutes, .int .i64 s38.calendar] 49 :: []) ∧ Tr Dw w.heap.size A3 w26 i w') (fun a ha => ⟨A3, ha.sub ⟨rfl, rfl, rfl, rfl, rfl, trivial⟩, ⟨hH, Tr.refl (Dw := Dw) hA⟩⟩) ?_
   rintro K k32 s38 a w39 ⟨A40, ha72, hH41, hr31⟩ hle45 K48 h47
   refine C_of ?_ ha72
   replace h25 := Sl.tr (Dw := Dw) h25 hr31
   replace hK := Tr.trans (Dw := Dw) hK hr31
   replace hB := Nat.le_trans hB hr31.ex.size
   replace hA := hr31.new
   replace hH : Hp w.heap.size A40 w39 (obC b1 [.int .i64 s38.kind, .int .i64 s38.minutes, .int .i64 s38.calendar] 49 :: []) := hH41
   refine C_seq (C_region (V_y (Y_lss rfl rfl) rfl rfl rfl (V_to (fun _ _ => rfl) ?_)))
   refine C_seq ?_
   refine C_cond rfl (fun hc50 => ?_) (fun hc50 => ?_)
   ·have hlt46 := lt_of_dec hc50
    obtain ⟨x42, h43, h44⟩ := K48 hlt46
    refine C_skip_to (fun _ _ => rfl) ?_
    refine C_seq ?_
    refine C_block ?_
    refine C_seq ?_
    refine C_region ?_
    obtain ⟨x51, hx51, h43⟩ := Option.bind_eq_some_iff.1 h43
    refine V_indexAddr h25 hx51 Tryz.underlying145 Tryz.sizeOf49 rfl rfl rfl ?_
    intro b52 o53 h54
    obtain ⟨h55, _⟩ := El_level_Target h54
    refine V_y (Y_loadA h55 Tryz.isAgg49 Tryz.sizeOf49 rfl) rfl rfl rfl ?_
    refine V_alloc Tryz.zeroValue49 rfl ?_
    intro b56 w57 h58
    refine V_storeNew h58 Tryz.sizeOf49 rfl rfl rfl rfl (by exact (List.forall_mem_cons.2 ⟨rfl, (List.forall_mem_cons.2 ⟨rfl, (List.forall_mem_cons.2 ⟨rfl, (fun _ h => nomatch h)⟩)⟩)⟩)) ?_
    intro w59 h60
    have hk62 := h60.kp (Dw := Dw)
    have h61 : El (α := level_Target) A40 w59 b56 0 x51 := h60.el hA ⟨[.int .i64 x51.kind], _, rfl, rfl, ⟨[.int .i64 x51.minutes], _, rfl, rfl, rfl⟩⟩
    have ht63 := Kp.tr (Dw := Dw) hk62 hA hB
    replace hH := Hp.kp (Dw := Dw) hH hk62
    replace hK := Tr.trans (Dw := Dw) hK ht63
    replace hr31 := Tr.trans (Dw := Dw) hr31 ht63
    replace hB := Nat.le_trans hB ht63.ex.size
    replace hA := ht63.new
    refine V_to (fun _ _ => rfl) ?_
    refine C_seq ?_
    refine C_region ?_
    have h64 := El_level_Target_0 h61
    refine V_y (Y_fieldAddr Tryz.underlying49 rfl Tryz.sizeOf3 (by decide) rfl) rfl rfl rfl ?_
    refine V_y (Y_load (El.int h64) Tryz.isAgg3 rfl) rfl rfl rfl ?_
    refine V_y (Y_move rfl) rfl rfl rfl ?_
    refine V_y (Y_eql rfl rfl) rfl rfl rfl ?_
    refine V_to (fun _ _ => rfl) ?_
    refine C_cond rfl (fun hc65 => ?_) (fun hc65 => ?_)
    ·rw [if_pos hc65] at h43
     refine C_seq ?_
     refine C_region ?_
     obtain ⟨h66, _⟩ := El_level_Target h61
     refine V_y (Y_loadA h66 Tryz.isAgg49 Tryz.sizeOf49 rfl) rfl rfl rfl ?_
     refine V_storeC (Dw := Dw) (off := 0) (ds := [.int .i64 x51.kind, .int .i64 x51.minutes, .int .i64 x51.calendar]) hH (i := 0) rfl Tryz.sizeOf49 rfl (Nat.le_of_ble_eq_true rfl) (by simp [Value.cells, Value.oneCell']) rfl hB hA rfl rfl ?_
     intro w67 hH68 ht69
     replace hK := Tr.trans (Dw := Dw) hK ht69
     replace hH : Hp w.heap.size A40 w67 (obC b1 [.int .i64 x51.kind, .int .i64 x51.minutes, .int .i64 x51.calendar] 49 :: []) := hH68
     refine V_y (Y_assign rfl) rfl rfl rfl ?_
     refine V_to (fun _ _ => rfl) ?_
     obtain rfl := Option.some.inj h43
     obtain rfl := (h44 : Lp.rt _ = _)
     rw [Lp.andThen_rt] at hm
     obtain rfl := Option.some.inj hm
     refine C_ret ?_
     try simp only [↓inBlock_ret, ↓then_ret]
     exact retQ rfl (Res.l2 Tryz.results78 (RL.cell rfl (loadVar_agg (Hp.part (off := 0) (n := 3) (ds := [.int .i64 x51.kind, .int .i64 x51.minutes, .int .i64 x51.calendar]) hH (i := 0) rfl rfl) Tryz.isAgg49 Tryz.sizeOf49)) (RL.tmp rfl)) ⟨rfl, hK.kp⟩
    ·rw [if_neg (nt hc65)] at h43
     refine C_skip_to (fun _ _ => rfl) ?_
     refine C_region ?_
     refine V_y (Y_addI rfl rfl) rfl rfl rfl ?_
     refine V_y (Y_move rfl) rfl rfl rfl ?_
     obtain rfl := Option.some.inj h43
     refine V_end (fun a ha70 => ?_)
     exact ⟨s38, hlt46, h44, ⟨A40, ha70.sub ⟨rfl, rfl, rfl, rfl, (congrArg (fun z => some (Value.int .i64 z)) (w64_succ hlt46 hn49)), trivial⟩, ⟨hH, hr31⟩⟩⟩
   ·refine C_exit (fun a ha71 => ?_)
    exact ⟨(s38, A40), ha71.sub ⟨rfl, trivial⟩, ⟨(h47 (eq_of_dec hle45 hc50)).symm, hH, hr31⟩⟩
  rintro ⟨s30, A36⟩ w33 ⟨rfl, hH37, hk34⟩ a ha35
  rw [Lp.andThen_fin] at hm
  replace hK := Tr.trans (Dw := Dw) hK hk34
  replace hB := Nat.le_trans hB hk34.ex.size
  replace hA := hk34.new
  replace hH : Hp w.heap.size A36 w33 (obC b1 [.int .i64 s30.kind, .int .i64 s30.minutes, .int .i64 s30.calendar] 49 :: []) := hH37
  refine C_at (n := ⟨38, [], none⟩) (fun _ _ => rfl) ?_ ha35
  refine C_seq ?_
  refine C_region ?_
  refine V_y (Y_build Tryz.underlying49 Tryz.zeroValue49 (Tryz_places49 _ Tryz.underlying49) rfl (by with_unfolding_all rfl)) rfl rfl rfl ?_
  refine V_storeC (Dw := Dw) (off := 0) (ds := [.int .i64 0, .int .i64 0, .int .i64 0]) hH (i := 0) rfl Tryz.sizeOf49 rfl (Nat.le_of_ble_eq_true rfl) (by simp [Value.cells, Value.oneCell']) rfl hB hA rfl rfl ?_
  intro w73 hH74 ht75
  replace hK := Tr.trans (Dw := Dw) hK ht75
  replace hH : Hp w.heap.size A36 w73 (obC b1 [.int .i64 0, .int .i64 0, .int .i64 0] 49 :: []) := hH74
  refine V_y (Y_assign rfl) rfl rfl rfl ?_
  refine V_to (fun _ _ => rfl) ?_
  obtain rfl := Option.some.inj hm
  refine C_ret ?_
  try simp only [↓inBlock_ret, ↓then_ret]
  exact retQ rfl (Res.l2 Tryz.results78 (RL.cell rfl (loadVar_agg (Hp.part (off := 0) (n := 3) (ds := [.int .i64 0, .int .i64 0, .int .i64 0]) hH (i := 0) rfl rfl) Tryz.isAgg49 Tryz.sizeOf49)) (RL.tmp rfl)) ⟨rfl, hK.kp⟩
set_option maxRecDepth 4000 in
set_option maxHeartbeats 4000000 in
theorem level_running_on_c (w : World) {A : Nat → Prop} {B : Nat} (hB : B ≤ w.heap.size) (hA : ∀ b, w.heap.size ≤ b → A b) (r_ : level_running) (b_r_ : Nat) (v_r_ : Value) (at_ : Int) {L : List Ob} (hH : Hp B A w (obC b_r_ [.int .i64 r_.clock.kind, .int .i64 r_.clock.level, .int .i64 r_.clock.minutes, .int .i64 r_.clock.start, .int .i64 r_.clock.stop, .int .i64 r_.clock.end_, v_r_, .int .i64 r_.target.kind, .int .i64 r_.target.minutes, .int .i64 r_.target.calendar, .bool r_.goes] 51 :: obS (α := level_Piece) 67 v_r_ r_.clock.pieces :: L)) {r : level_running} (hm : level_running_on r_ at_ = some r) : Ret Tryz.prog 65 #[.pointer (some ⟨b_r_, 0, none⟩), .int .i64 at_] w fun v w' => ∃ u1_0, ∃ A1 : Nat → Prop, v = .tuple #[] ∧ Hp B A1 w' (obC b_r_ [.int .i64 r.clock.kind, .int .i64 r.clock.level, .int .i64 r.clock.minutes, .int .i64 r.clock.start, .int .i64 r.clock.stop, .int .i64 r.clock.end_, u1_0, .int .i64 r.target.kind, .int .i64 r.target.minutes, .int .i64 r.target.calendar, .bool r.goes] 51 :: obS (α := level_Piece) 67 u1_0 r.clock.pieces :: L) ∧ Tr Dw B A w A1 w' := by
 unfold level_running_on at hm
 refine enter Tryz.func65 rfl Tryz.ntmps65 rfl ?_
 have hK : Tr Dw B A w A w := Tr.refl (Dw := Dw) hA
 refine C_seq ?_
 refine C_region_ch (Dw := Dw) A 19 [(1, 0), (1, 1), (1, 2), (1, 3), (1, 4), (0, 5), (1, 6), (1, 7), (1, 8), (1, 9), (1, 10), (0, 11), (1, 12), (2, 13), (4, 14), (1, 15), (1, 16), (1, 17), (4, 18)] Tryz_mixed (by kernel_rfl) (fun w3 hk4 => ?_)
 have ht5 := Kp.tr (Dw := Dw) hk4 hA hB
 replace hH := Hp.kp (Dw := Dw) hH hk4
 replace hK := Tr.trans (Dw := Dw) hK ht5
 replace hB := Nat.le_trans hB ht5.ex.size
 replace hA := ht5.new
 refine CH_q2 (Dw := Dw) rfl ?_
 refine VQ_y (fun w' hw' => Y_move rfl) rfl rfl rfl ?_
 refine VQ_CH (Dw := Dw) ?_
 refine CH_q2 (Dw := Dw) rfl ?_
 refine VQ_y (fun w' hw' => Y_move rfl) rfl rfl rfl ?_
 refine VQ_CH (Dw := Dw) ?_
 refine CH_q2 (Dw := Dw) rfl ?_
 refine VQ_y (fun w' hw' => Y_nilCheck rfl) rfl rfl rfl ?_
 refine VQ_CH (Dw := Dw) ?_
 refine CH_q2 (Dw := Dw) rfl ?_
 refine VQ_y (fun w' hw' => Y_fieldAddrC (off2 := 0) Tryz.underlying51 rfl Tryz.sizeOf47 (by decide) rfl rfl) rfl rfl rfl ?_
 refine VQ_CH (Dw := Dw) ?_
 refine CH_q2 (Dw := Dw) rfl ?_
 refine VQ_y (fun w' hw' => Y_fieldAddrC (off2 := 6) Tryz.underlying47 rfl Tryz.sizeOf45 (by decide) rfl rfl) rfl rfl rfl ?_
 refine VQ_CH (Dw := Dw) ?_
 refine CH_q1 (Dw := Dw) rfl ?_
 refine VQ_y (fun w' hw' => Y_load ((World.cell?_of_block (hw'.block _ (World.block_lt_of_cell? _ _ (Hp.cell (j := 6) hH (i := 0) rfl rfl)))).trans (Hp.cell (j := 6) hH (i := 0) rfl rfl)) Tryz.isAgg45 rfl) rfl rfl rfl ?_
 refine VQ_CH (Dw := Dw) ?_
 refine CH_q2 (Dw := Dw) rfl ?_
 refine VQ_y (fun w' hw' => Y_move rfl) rfl rfl rfl ?_
 refine VQ_CH (Dw := Dw) ?_
 refine CH_q2 (Dw := Dw) rfl ?_
 refine VQ_y (fun w' hw' => Y_move rfl) rfl rfl rfl ?_
 refine VQ_CH (Dw := Dw) ?_
 refine CH_q2 (Dw := Dw) rfl ?_
 refine VQ_y (fun w' hw' => Y_nilCheck rfl) rfl rfl rfl ?_
 refine VQ_CH (Dw := Dw) ?_
 refine CH_q2 (Dw := Dw) rfl ?_
 refine VQ_y (fun w' hw' => Y_fieldAddrC (off2 := 7) Tryz.underlying51 rfl Tryz.sizeOf49 (by decide) rfl rfl) rfl rfl rfl ?_
 refine VQ_CH (Dw := Dw) ?_
 refine CH_q2 (Dw := Dw) rfl ?_
 refine VQ_y (fun w' hw' => Y_fieldAddrC (off2 := 9) Tryz.underlying49 rfl Tryz.sizeOf3 (by decide) rfl rfl) rfl rfl rfl ?_
 refine VQ_CH (Dw := Dw) ?_
 refine CH_q1 (Dw := Dw) rfl ?_
 refine VQ_y (fun w' hw' => Y_load ((World.cell?_of_block (hw'.block _ (World.block_lt_of_cell? _ _ (Hp.cell (j := 9) hH (i := 0) rfl rfl)))).trans (Hp.cell (j := 9) hH (i := 0) rfl rfl)) Tryz.isAgg3 rfl) rfl rfl rfl ?_
 refine VQ_CH (Dw := Dw) ?_
 refine CH_q2 (Dw := Dw) rfl ?_
 refine VQ_y (fun w' hw' => Y_build Tryz.underlying67 Tryz.zeroValue67 (Tryz_places67 _ Tryz.underlying67) rfl (by with_unfolding_all rfl)) rfl rfl rfl ?_
 refine VQ_CH (Dw := Dw) ?_
 refine CH_l1 (Dw := Dw) (k := 0) rfl ?_
 refine V_buildSlice (Dw := Dw) (cells := #[.int .i64 at_, .int .i64 (-1), .int .i64 r_.target.calendar]) (l := ([(⟨at_, (-1), r_.target.calendar⟩ : level_Piece)] : List level_Piece)) (len := 1) Tryz.underlying45 Tryz.sizeOf67 Tryz.zeroValue67 rfl (by generalize ((-1) : Int) = z10; kernel_rfl) (show (1 * 3 : Nat) ≠ 0 by decide) (show (1 * 3 : Nat) ≤ 2 ^ 24 by decide) hA ⟨[.int .i64 at_, .int .i64 (-1), .int .i64 r_.target.calendar], _, rfl, ⟨[.int .i64 at_], _, rfl, rfl, ⟨[.int .i64 (-1)], _, rfl, rfl, rfl⟩⟩, rfl⟩ rfl rfl ?_
 intro v6 w7 hk9 h8
 have ht11 := Kp.tr (Dw := Dw) hk9 hA hB
 replace hH := Hp.kp (Dw := Dw) hH hk9
 replace hK := Tr.trans (Dw := Dw) hK ht11
 replace hB := Nat.le_trans hB ht11.ex.size
 replace hA := ht11.new
 refine V_CH (Dw := Dw) (hk9) ?_
 refine CH_l1 (Dw := Dw) (k := 2) rfl ?_
 obtain ⟨x12, hx12, hm⟩ := Option.bind_eq_some_iff.1 hm
 refine V_appendH (Dw := Dw) (e := 67) (v := v_r_) (l := r_.clock.pieces) (ti := Tryz.t67) (bytes := 24) (lim := 5864062014805) hH (i := 1) rfl h8 hx12 Tryz.underlying45 Tryz_info67 rfl rfl rfl rfl (by decide) (by decide) (by decide) hB hA rfl rfl rfl ?_
 intro v13 w14 A15 hH16 ht17
 replace hK := Tr.trans (Dw := Dw) hK ht17
 replace hB := Nat.le_trans hB ht17.ex.size
 replace hA := ht17.new
 replace hH : Hp B A15 w14 (obC b_r_ [.int .i64 r_.clock.kind, .int .i64 r_.clock.level, .int .i64 r_.clock.minutes, .int .i64 r_.clock.start, .int .i64 r_.clock.stop, .int .i64 r_.clock.end_, v_r_, .int .i64 r_.target.kind, .int .i64 r_.target.minutes, .int .i64 r_.target.calendar, .bool r_.goes] 51 :: obS (α := level_Piece) 67 v13 x12 :: L) := hH16
 refine V_CHw (Dw := Dw) ?_
 refine CH_q2 (Dw := Dw) rfl ?_
 refine VQ_y (fun w' hw' => Y_nilCheck rfl) rfl rfl rfl ?_
 refine VQ_CH (Dw := Dw) ?_
 refine CH_q2 (Dw := Dw) rfl ?_
 refine VQ_y (fun w' hw' => Y_fieldAddrC (off2 := 0) Tryz.underlying51 rfl Tryz.sizeOf47 (by decide) rfl rfl) rfl rfl rfl ?_
 refine VQ_CH (Dw := Dw) ?_
 refine CH_q2 (Dw := Dw) rfl ?_
 refine VQ_y (fun w' hw' => Y_fieldAddrC (off2 := 6) Tryz.underlying47 rfl Tryz.sizeOf45 (by decide) rfl rfl) rfl rfl rfl ?_
 refine VQ_CH (Dw := Dw) ?_
 refine CH_l1 (Dw := Dw) (k := 2) rfl ?_
 have h23 : (v13).oneCell' = true := by obtain ⟨_, _, e, _⟩ := Sl.form (Hp.any (α := level_Piece) (e := 67) (v := v13) (l := x12) hH (i := 1) rfl); rw [e]; rfl
 refine V_storeC (Dw := Dw) (off := 6) (ds := [.int .i64 r_.clock.kind, .int .i64 r_.clock.level, .int .i64 r_.clock.minutes, .int .i64 r_.clock.start, .int .i64 r_.clock.stop, .int .i64 r_.clock.end_, v13, .int .i64 r_.target.kind, .int .i64 r_.target.minutes, .int .i64 r_.target.calendar, .bool r_.goes]) hH (i := 0) rfl Tryz.sizeOf45 (by rw [← Array.length_toList, Value.cells_one h23]; rfl) (Nat.le_of_ble_eq_true rfl) (by intro u hu; rw [Value.cells_one h23] at hu; simp at hu; subst hu; assumption) (by rw [Value.cells_one h23]; rfl) hB hA rfl rfl ?_
 intro w18 hH19 ht20
 replace hK := Tr.trans (Dw := Dw) hK ht20
 replace hB := Nat.le_trans hB ht20.ex.size
 replace hA := ht20.new
 replace hH : Hp B A15 w18 (obC b_r_ [.int .i64 r_.clock.kind, .int .i64 r_.clock.level, .int .i64 r_.clock.minutes, .int .i64 r_.clock.start, .int .i64 r_.clock.stop, .int .i64 r_.clock.end_, v13, .int .i64 r_.target.kind, .int .i64 r_.target.minutes, .int .i64 r_.target.calendar, .bool r_.goes] 51 :: obS (α := level_Piece) 67 v13 x12 :: L) := hH19
 refine V_CHw (Dw := Dw) ?_
 refine CH_tail (Dw := Dw) ?_
 show V _ _ _ _ [] _ _
 refine V_to (fun _ _ => rfl) ?_
 refine C_region ?_
 refine V_y (Y_move rfl) rfl rfl rfl ?_
 refine V_y (Y_nilCheck rfl) rfl rfl rfl ?_
 refine V_y (Y_fieldAddrC (off2 := 10) Tryz.underlying51 rfl Tryz.sizeOf4 (by decide) rfl rfl) rfl rfl rfl ?_
 refine V_storeC (Dw := Dw) (off := 10) (ds := [.int .i64 r_.clock.kind, .int .i64 r_.clock.level, .int .i64 r_.clock.minutes, .int .i64 r_.clock.start, .int .i64 r_.clock.stop, .int .i64 r_.clock.end_, v13, .int .i64 r_.target.kind, .int .i64 r_.target.minutes, .int .i64 r_.target.calendar, .bool true]) hH (i := 0) rfl Tryz.sizeOf4 rfl (Nat.le_of_ble_eq_true rfl) (by simp [Value.cells, Value.oneCell']) rfl hB hA rfl rfl ?_
 intro w24 hH25 ht26
 replace hK := Tr.trans (Dw := Dw) hK ht26
 replace hH : Hp B A15 w24 (obC b_r_ [.int .i64 r_.clock.kind, .int .i64 r_.clock.level, .int .i64 r_.clock.minutes, .int .i64 r_.clock.start, .int .i64 r_.clock.stop, .int .i64 r_.clock.end_, v13, .int .i64 r_.target.kind, .int .i64 r_.target.minutes, .int .i64 r_.target.calendar, .bool true] 51 :: obS (α := level_Piece) 67 v13 x12 :: L) := hH25
 refine V_end (fun a ha27 => ?_)
 obtain rfl := Option.some.inj hm
 try simp only [↓inBlock_ret, ↓then_ret]
 exact normQ (retQ rfl (Res.zero Tryz.results65) ⟨v13, A15, rfl, hH, hK⟩ a ha27)
set_option maxRecDepth 4000 in
set_option maxHeartbeats 4000000 in
theorem level_keeper_choose_1_c (w : World) {A : Nat → Prop} {B : Nat} (hB : B ≤ w.heap.size) (hA : ∀ b, w.heap.size ≤ b → A b) (r_ : level_running) (b_r_ : Nat) (v_r_ : Value) (p1 : level_keeper) (b_p1 c_p1 : Nat) (v_p10 : Value) (h_p10 : Sl A w v_p10 p1.policy.pauses) (v_p11 : Value) (h_p11 : Sl A w v_p11 p1.policy.levels) (v_p12 : Value) (o_p1 : v_p12.oneCell' = true) (k_p1 : Vb A w c_p1 (.pointer (some ⟨b_p1, 0, none⟩))) (p2 : Int) (b_p2 : Nat) (h_p2 : El A w b_p2 0 p2) (p3 : Int) (b_p3 : Nat) (h_p3 : El A w b_p3 0 p3) {L : List Ob} (hH : Hp B A w (obC b_r_ [.int .i64 r_.clock.kind, .int .i64 r_.clock.level, .int .i64 r_.clock.minutes, .int .i64 r_.clock.start, .int .i64 r_.clock.stop, .int .i64 r_.clock.end_, v_r_, .int .i64 r_.target.kind, .int .i64 r_.target.minutes, .int .i64 r_.target.calendar, .bool r_.goes] 51 :: obS (α := level_Piece) 67 v_r_ r_.clock.pieces :: obC b_p1 [v_p10, v_p11, .int .i64 p1.level, v_p12] 38 :: L)) {r : level_running} (hm : level_keeper_choose_1 r_ p1 p2 p3 = some r) : Ret Tryz.prog 77 #[.pointer (some ⟨b_r_, 0, none⟩), .pointer (some ⟨c_p1, 0, none⟩), .pointer (some ⟨b_p2, 0, none⟩), .pointer (some ⟨b_p3, 0, none⟩)] w fun v w' => ∃ u1_0, ∃ A1 : Nat → Prop, v = .tuple #[] ∧ Hp B A1 w' (obC b_r_ [.int .i64 r.clock.kind, .int .i64 r.clock.level, .int .i64 r.clock.minutes, .int .i64 r.clock.start, .int .i64 r.clock.stop, .int .i64 r.clock.end_, u1_0, .int .i64 r.target.kind, .int .i64 r.target.minutes, .int .i64 r.target.calendar, .bool r.goes] 51 :: obS (α := level_Piece) 67 u1_0 r.clock.pieces :: obC b_p1 [v_p10, v_p11, .int .i64 p1.level, v_p12] 38 :: L) ∧ Tr Dw B A w A1 w' := by
 unfold level_keeper_choose_1 at hm
 refine enter Tryz.func77 rfl Tryz.ntmps77 rfl ?_
 have hK : Tr Dw B A w A w := Tr.refl (Dw := Dw) hA
 refine C_seq ?_
 refine C_region_chz (Dw := Dw) A 10 [(0, 0), (1, 1), (1, 2), (1, 3), (1, 4), (0, 5), (2, 6), (1, 7), (1, 8), (1, 9)] [(4, 11), (1, 12)] Tryz_mixed (by kernel_rfl) (fun w9 hk10 => ?_)
 have ht11 := Kp.tr (Dw := Dw) hk10 hA hB
 replace hH := Hp.kp (Dw := Dw) hH hk10
 replace k_p1 := Vb.tr (Dw := Dw) k_p1 ht11
 replace h_p2 := El.tr (Dw := Dw) h_p2 ht11
 replace h_p3 := El.tr (Dw := Dw) h_p3 ht11
 replace h_p10 := Sl.tr (Dw := Dw) h_p10 ht11
 replace h_p11 := Sl.tr (Dw := Dw) h_p11 ht11
 replace hK := Tr.trans (Dw := Dw) hK ht11
 replace hB := Nat.le_trans hB ht11.ex.size
 replace hA := ht11.new
 refine CHZ_q1 (Dw := Dw) rfl ?_
 refine VQ_y (fun w' hw' => Y_load ((Vb.kp (Dw := Dw) k_p1 hw').2.2) Tryz.isAgg35 rfl) rfl rfl rfl ?_
 refine VQ_CHZ (Dw := Dw) ?_
 refine CHZ_q2 (Dw := Dw) rfl ?_
 refine VQ_y (fun w' hw' => Y_move rfl) rfl rfl rfl ?_
 refine VQ_CHZ (Dw := Dw) ?_
 refine CHZ_q2 (Dw := Dw) rfl ?_
 refine VQ_y (fun w' hw' => Y_nilCheck rfl) rfl rfl rfl ?_
 refine VQ_CHZ (Dw := Dw) ?_
 refine CHZ_q2 (Dw := Dw) rfl ?_
 refine VQ_y (fun w' hw' => Y_fieldAddrC (off2 := 0) Tryz.underlying51 rfl Tryz.sizeOf47 (by decide) rfl rfl) rfl rfl rfl ?_
 refine VQ_CHZ (Dw := Dw) ?_
 refine CHZ_q2 (Dw := Dw) rfl ?_
 refine VQ_y (fun w' hw' => Y_fieldAddrC (off2 := 0) Tryz.underlying47 rfl Tryz.sizeOf3 (by decide) rfl rfl) rfl rfl rfl ?_
 refine VQ_CHZ (Dw := Dw) ?_
 refine CHZ_q1 (Dw := Dw) rfl ?_
 refine VQ_y (fun w' hw' => Y_load ((World.cell?_of_block (hw'.block _ (World.block_lt_of_cell? _ _ (Hp.cell (j := 0) hH (i := 0) rfl rfl)))).trans (Hp.cell (j := 0) hH (i := 0) rfl rfl)) Tryz.isAgg3 rfl) rfl rfl rfl ?_
 refine VQ_CHZ (Dw := Dw) ?_
 refine CHZ_l1 (Dw := Dw) (k := 0) [(2, 10), (2, 6), (1, 7), (1, 8), (1, 9), (4, 11), (1, 12)] rfl ?_ rfl ?_
 ·refine CH_l1 (Dw := Dw) (k := 0) rfl ?_
  refine V_allocHk (Dw := Dw) (B := B) hH Tryz.zeroValue49 hB hA rfl ?_
  intro b12 w13 A14 hk17 hH15 ht16
  replace k_p1 := Vb.tr (Dw := Dw) k_p1 ht16
  replace h_p2 := El.tr (Dw := Dw) h_p2 ht16
  replace h_p3 := El.tr (Dw := Dw) h_p3 ht16
  replace h_p10 := Sl.tr (Dw := Dw) h_p10 ht16
  replace h_p11 := Sl.tr (Dw := Dw) h_p11 ht16
  replace hK := Tr.trans (Dw := Dw) hK ht16
  replace hB := Nat.le_trans hB ht16.ex.size
  replace hA := ht16.new
  replace hH : Hp B A14 w13 (obC b12 [.int .i64 0, .int .i64 0, .int .i64 0] 49 :: obC b_r_ [.int .i64 r_.clock.kind, .int .i64 r_.clock.level, .int .i64 r_.clock.minutes, .int .i64 r_.clock.start, .int .i64 r_.clock.stop, .int .i64 r_.clock.end_, v_r_, .int .i64 r_.target.kind, .int .i64 r_.target.minutes, .int .i64 r_.target.calendar, .bool r_.goes] 51 :: obS (α := level_Piece) 67 v_r_ r_.clock.pieces :: obC b_p1 [v_p10, v_p11, .int .i64 p1.level, v_p12] 38 :: L) := hH15
  refine V_CH (Dw := Dw) (hk17) ?_
  refine CH_l1 (Dw := Dw) (k := 0) rfl ?_
  obtain ⟨x18, hx18, hm⟩ := Option.bind_eq_some_iff.1 hm
  refine V_call Tryz.call78 rfl rfl rfl rfl (level_keeper_target_c (Dw := Dw) w13 (A := fun _ => True) (fun _ _ => trivial) p1 b_p1 (Hp.el (α := level_keeper) (x := p1) hH (i := 3) rfl ⟨_, _, _, rfl, o_p1, (Sl.any h_p10), (Sl.any h_p11)⟩) r_.clock.kind hx18) ?_
  rintro _ w19 ⟨rfl, hk20⟩
  have ht21 := Kp.tr (Dw := Dw) hk20 hA hB
  replace hH := Hp.kp (Dw := Dw) hH hk20
  replace k_p1 := Vb.tr (Dw := Dw) k_p1 ht21
  replace h_p2 := El.tr (Dw := Dw) h_p2 ht21
  replace h_p3 := El.tr (Dw := Dw) h_p3 ht21
  replace hK := Tr.trans (Dw := Dw) hK ht21
  replace hB := Nat.le_trans hB ht21.ex.size
  replace hA := ht21.new
  refine V_CH (Dw := Dw) (hk20) ?_
  refine CH_q2 (Dw := Dw) rfl ?_
  refine VQ_y (fun w' hw' => Y_move rfl) rfl rfl rfl ?_
  refine VQ_CH (Dw := Dw) ?_
  refine CH_q2 (Dw := Dw) rfl ?_
  refine VQ_y (fun w' hw' => Y_extract rfl rfl) rfl rfl rfl ?_
  refine VQ_CH (Dw := Dw) ?_
  refine CH_q2 (Dw := Dw) rfl ?_
  refine VQ_y (fun w' hw' => Y_extract rfl rfl) rfl rfl rfl ?_
  refine VQ_CH (Dw := Dw) ?_
  refine CH_l1 (Dw := Dw) (k := 2) rfl ?_
  refine V_storeC (Dw := Dw) (off := 0) (ds := [.int .i64 x18.1.kind, .int .i64 x18.1.minutes, .int .i64 x18.1.calendar]) hH (i := 0) rfl Tryz.sizeOf49 rfl (Nat.le_of_ble_eq_true rfl) (by simp [Value.cells, Value.oneCell']) rfl hB hA rfl rfl ?_
  intro w22 hH23 ht24
  replace k_p1 := Vb.tr (Dw := Dw) k_p1 ht24
  replace h_p2 := El.tr (Dw := Dw) h_p2 ht24
  replace h_p3 := El.tr (Dw := Dw) h_p3 ht24
  replace hK := Tr.trans (Dw := Dw) hK ht24
  replace hB := Nat.le_trans hB ht24.ex.size
  replace hA := ht24.new
  replace hH : Hp B A14 w22 (obC b12 [.int .i64 x18.1.kind, .int .i64 x18.1.minutes, .int .i64 x18.1.calendar] 49 :: obC b_r_ [.int .i64 r_.clock.kind, .int .i64 r_.clock.level, .int .i64 r_.clock.minutes, .int .i64 r_.clock.start, .int .i64 r_.clock.stop, .int .i64 r_.clock.end_, v_r_, .int .i64 r_.target.kind, .int .i64 r_.target.minutes, .int .i64 r_.target.calendar, .bool r_.goes] 51 :: obS (α := level_Piece) 67 v_r_ r_.clock.pieces :: obC b_p1 [v_p10, v_p11, .int .i64 p1.level, v_p12] 38 :: L) := hH23
  obtain ⟨A25, ht26, h27, hH28⟩ := Hp.freezeC (Dw := Dw) (α := level_Target) (x := x18.1) hH (i := 0) rfl hA (by exact ⟨[.int .i64 x18.1.kind], _, rfl, rfl, ⟨[.int .i64 x18.1.minutes], _, rfl, rfl, rfl⟩⟩)
  replace k_p1 := Vb.tr (Dw := Dw) k_p1 ht26
  replace h_p2 := El.tr (Dw := Dw) h_p2 ht26
  replace h_p3 := El.tr (Dw := Dw) h_p3 ht26
  replace hK := Tr.trans (Dw := Dw) hK ht26
  replace hB := Nat.le_trans hB ht26.ex.size
  replace hA := ht26.new
  replace hH : Hp B A25 w22 (obC b_r_ [.int .i64 r_.clock.kind, .int .i64 r_.clock.level, .int .i64 r_.clock.minutes, .int .i64 r_.clock.start, .int .i64 r_.clock.stop, .int .i64 r_.clock.end_, v_r_, .int .i64 r_.target.kind, .int .i64 r_.target.minutes, .int .i64 r_.target.calendar, .bool r_.goes] 51 :: obS (α := level_Piece) 67 v_r_ r_.clock.pieces :: obC b_p1 [v_p10, v_p11, .int .i64 p1.level, v_p12] 38 :: L) := hH28
  refine V_CHw (Dw := Dw) ?_
  refine CH_q2 (Dw := Dw) rfl ?_
  refine VQ_y (fun w' hw' => Y_assign rfl) rfl rfl rfl ?_
  refine VQ_CH (Dw := Dw) ?_
  refine CH_tail (Dw := Dw) ?_
  show V _ _ _ _ [] _ _
  refine V_to (fun _ _ => rfl) ?_
  refine C_seq ?_
  refine C_seq ?_
  refine C_region ?_
  refine V_y (Y_move rfl) rfl rfl rfl ?_
  refine V_y (Y_not rfl) rfl rfl rfl ?_
  refine V_to (fun _ _ => rfl) ?_
  refine C_cond rfl (fun hc29 => ?_) (fun hc29 => ?_)
  ·rw [if_pos hc29] at hm
   refine C_seq ?_
   refine C_region ?_
   refine V_y (Y_move rfl) rfl rfl rfl ?_
   refine V_y (Y_load (El.int h_p2) Tryz.isAgg3 rfl) rfl rfl rfl ?_
   replace hH : Hp B A25 w22 (obS (α := level_Piece) 67 v_r_ r_.clock.pieces :: obC b_r_ [.int .i64 r_.clock.kind, .int .i64 r_.clock.level, .int .i64 r_.clock.minutes, .int .i64 r_.clock.start, .int .i64 r_.clock.stop, .int .i64 r_.clock.end_, v_r_, .int .i64 r_.target.kind, .int .i64 r_.target.minutes, .int .i64 r_.target.calendar, .bool r_.goes] 51 :: obC b_p1 [v_p10, v_p11, .int .i64 p1.level, v_p12] 38 :: L) := Hp.front hH (i := 1) rfl
   replace hH : Hp B A25 w22 (obC b_r_ [.int .i64 r_.clock.kind, .int .i64 r_.clock.level, .int .i64 r_.clock.minutes, .int .i64 r_.clock.start, .int .i64 r_.clock.stop, .int .i64 r_.clock.end_, v_r_, .int .i64 r_.target.kind, .int .i64 r_.target.minutes, .int .i64 r_.target.calendar, .bool r_.goes] 51 :: obS (α := level_Piece) 67 v_r_ r_.clock.pieces :: obC b_p1 [v_p10, v_p11, .int .i64 p1.level, v_p12] 38 :: L) := Hp.front hH (i := 1) rfl
   obtain ⟨x30, hx30, hm⟩ := Option.bind_eq_some_iff.1 hm
   refine V_call Tryz.call58 rfl rfl rfl rfl (level_running_end_c (Dw := Dw) w22 hB hA r_ b_r_ v_r_ p2 2 hH hx30) ?_
   rintro _ w33 ⟨v31, A34, rfl, hH35, ht36⟩
   replace hK := Tr.trans (Dw := Dw) hK ht36
   replace hH : Hp B A34 w33 (obC b_r_ [.int .i64 x30.clock.kind, .int .i64 x30.clock.level, .int .i64 x30.clock.minutes, .int .i64 x30.clock.start, .int .i64 x30.clock.stop, .int .i64 x30.clock.end_, v31, .int .i64 x30.target.kind, .int .i64 x30.target.minutes, .int .i64 x30.target.calendar, .bool x30.goes] 51 :: obS (α := level_Piece) 67 v31 x30.clock.pieces :: obC b_p1 [v_p10, v_p11, .int .i64 p1.level, v_p12] 38 :: L) := hH35
   refine V_to (fun _ _ => rfl) ?_
   obtain rfl := Option.some.inj hm
   refine C_ret ?_
   try simp only [↓inBlock_ret, ↓then_ret]
   exact retQ rfl (Res.zero Tryz.results77) ⟨v31, A34, rfl, hH, hK⟩
  ·rw [if_neg (nt hc29)] at hm
   refine C_skip_to (fun _ _ => rfl) ?_
   refine C_seq ?_
   refine C_region_q (Dw := Dw) Tryz_mixed (by kernel_rfl) ?_
   refine VQ_y (fun w' hw' => Y_move rfl) rfl rfl rfl ?_
   refine VQ_y (fun w' hw' => Y_nilCheck rfl) rfl rfl rfl ?_
   refine VQ_y (fun w' hw' => Y_fieldAddrC (off2 := 10) Tryz.underlying51 rfl Tryz.sizeOf4 (by decide) rfl rfl) rfl rfl rfl ?_
   refine VQ_y (fun w' hw' => Y_load ((World.cell?_of_block (hw'.block _ (World.block_lt_of_cell? _ _ (Hp.cell (j := 10) hH (i := 0) rfl rfl)))).trans (Hp.cell (j := 10) hH (i := 0) rfl rfl)) Tryz.isAgg4 rfl) rfl rfl rfl ?_
   refine VQ_y (fun w' hw' => Y_move rfl) rfl rfl rfl ?_
   refine VQ_cut 7 (fun _ : Unit => [(0, .pointer (some ⟨b_r_, 0, none⟩)), (2, .pointer (some ⟨b_p2, 0, none⟩)), (3, .pointer (some ⟨b_p3, 0, none⟩)), (5, .pointer (some ⟨b12, 0, none⟩)), (34, .bool (r_.goes && (!(x18.1.kind == r_.target.kind && (x18.1.minutes == r_.target.minutes && (x18.1.calendar == r_.target.calendar))))))]) (fun _ => True) ?_ ?_
   ·simp only [List.take, List.drop]
    rcases Bool.eq_false_or_eq_true (r_.goes) with hc37 | hc37
    ·refine VQ_ge rfl rfl rfl hc37 ?_
     obtain ⟨h39, _⟩ := El_level_Target h27
     refine VQ_y (fun w' hw' => Y_loadA (At.kp (Dw := Dw) h39 hw' h27.2.1) Tryz.isAgg49 Tryz.sizeOf49 rfl) rfl rfl rfl ?_
     refine VQ_ge rfl rfl rfl hc37 ?_
     refine VQ_y (fun w' hw' => Y_move rfl) rfl rfl rfl ?_
     refine VQ_ge rfl rfl rfl hc37 ?_
     refine VQ_y (fun w' hw' => Y_nilCheck rfl) rfl rfl rfl ?_
     refine VQ_ge rfl rfl rfl hc37 ?_
     refine VQ_y (fun w' hw' => Y_fieldAddrC (off2 := 7) Tryz.underlying51 rfl Tryz.sizeOf49 (by decide) rfl rfl) rfl rfl rfl ?_
     refine VQ_ge rfl rfl rfl hc37 ?_
     refine VQ_y (fun w' hw' => Y_loadA (At.kp (Dw := Dw) (Hp.part (off := 7) (n := 3) (ds := [.int .i64 r_.target.kind, .int .i64 r_.target.minutes, .int .i64 r_.target.calendar]) hH (i := 0) rfl rfl) hw' (Array.getElem?_eq_some_iff.1 (Hp.cells hH (i := 0) rfl).2.1).1) Tryz.isAgg49 Tryz.sizeOf49 rfl) rfl rfl rfl ?_
     refine VQ_ge rfl rfl rfl hc37 ?_
     refine VQ_y (fun w' hw' => Y_neqA (fun w => Tryz_eqt49_10000 x18.1.kind x18.1.minutes x18.1.calendar r_.target.kind r_.target.minutes r_.target.calendar w) Tryz_eqg49 rfl rfl) rfl rfl rfl ?_
     refine VQ_y (fun _ _ => Y_pick_te rfl hc37 rfl) rfl rfl rfl ?_
     exact VQ_end fun a ha => ⟨(), ha.sub ⟨rfl, rfl, rfl, rfl, (by rw [hc37]; rfl), trivial⟩, trivial⟩
    ·refine VQ_gn rfl rfl rfl hc37 rfl rfl rfl ?_
     refine VQ_gn rfl rfl rfl hc37 rfl rfl rfl ?_
     refine VQ_gn rfl rfl rfl hc37 rfl rfl rfl ?_
     refine VQ_gn rfl rfl rfl hc37 rfl rfl rfl ?_
     refine VQ_gn rfl rfl rfl hc37 rfl rfl rfl ?_
     refine VQ_gn rfl rfl rfl hc37 rfl rfl rfl ?_
     refine VQ_y (fun _ _ => Y_pick_fe rfl hc37 rfl) rfl rfl rfl ?_
     exact VQ_end fun a ha => ⟨(), ha.sub ⟨rfl, rfl, rfl, rfl, (by rw [hc37]; rfl), trivial⟩, trivial⟩
   simp only [List.take, List.drop]
   rintro _ _
   refine VQ_y (fun w' hw' => Y_move rfl) rfl rfl rfl ?_
   refine VQ_cut 9 (fun _ : Unit => [(0, .pointer (some ⟨b_r_, 0, none⟩)), (2, .pointer (some ⟨b_p2, 0, none⟩)), (3, .pointer (some ⟨b_p3, 0, none⟩)), (5, .pointer (some ⟨b12, 0, none⟩)), (44, .bool ((r_.goes && (!(x18.1.kind == r_.target.kind && (x18.1.minutes == r_.target.minutes && (x18.1.calendar == r_.target.calendar))))) && (x18.1.calendar != r_.target.calendar)))]) (fun _ => True) ?_ ?_
   ·simp only [List.take, List.drop]
    rcases Bool.eq_false_or_eq_true ((r_.goes && (!(x18.1.kind == r_.target.kind && (x18.1.minutes == r_.target.minutes && (x18.1.calendar == r_.target.calendar)))))) with hc40 | hc40
    ·refine VQ_ge rfl rfl rfl hc40 ?_
     have h42 := El_level_Target_2 h27
     refine VQ_y (fun w' hw' => Y_fieldAddr Tryz.underlying49 rfl Tryz.sizeOf3 (by decide) rfl) rfl rfl rfl ?_
     refine VQ_ge rfl rfl rfl hc40 ?_
     refine VQ_y (fun w' hw' => Y_load (El.int (El.kp (Dw := Dw) h42 hw')) Tryz.isAgg3 rfl) rfl rfl rfl ?_
     refine VQ_ge rfl rfl rfl hc40 ?_
     refine VQ_y (fun w' hw' => Y_move rfl) rfl rfl rfl ?_
     refine VQ_ge rfl rfl rfl hc40 ?_
     refine VQ_y (fun w' hw' => Y_nilCheck rfl) rfl rfl rfl ?_
     refine VQ_ge rfl rfl rfl hc40 ?_
     refine VQ_y (fun w' hw' => Y_fieldAddrC (off2 := 7) Tryz.underlying51 rfl Tryz.sizeOf49 (by decide) rfl rfl) rfl rfl rfl ?_
     refine VQ_ge rfl rfl rfl hc40 ?_
     refine VQ_y (fun w' hw' => Y_fieldAddrC (off2 := 9) Tryz.underlying49 rfl Tryz.sizeOf3 (by decide) rfl rfl) rfl rfl rfl ?_
     refine VQ_ge rfl rfl rfl hc40 ?_
     refine VQ_y (fun w' hw' => Y_load ((World.cell?_of_block (hw'.block _ (World.block_lt_of_cell? _ _ (Hp.cell (j := 9) hH (i := 0) rfl rfl)))).trans (Hp.cell (j := 9) hH (i := 0) rfl rfl)) Tryz.isAgg3 rfl) rfl rfl rfl ?_
     refine VQ_ge rfl rfl rfl hc40 ?_
     refine VQ_y (fun w' hw' => Y_neq rfl rfl) rfl rfl rfl ?_
     refine VQ_y (fun _ _ => Y_pick_te rfl hc40 rfl) rfl rfl rfl ?_
     exact VQ_end fun a ha => ⟨(), ha.sub ⟨rfl, rfl, rfl, rfl, (by rw [hc40]; rfl), trivial⟩, trivial⟩
    ·refine VQ_gn rfl rfl rfl hc40 rfl rfl rfl ?_
     refine VQ_gn rfl rfl rfl hc40 rfl rfl rfl ?_
     refine VQ_gn rfl rfl rfl hc40 rfl rfl rfl ?_
     refine VQ_gn rfl rfl rfl hc40 rfl rfl rfl ?_
     refine VQ_gn rfl rfl rfl hc40 rfl rfl rfl ?_
     refine VQ_gn rfl rfl rfl hc40 rfl rfl rfl ?_
     refine VQ_gn rfl rfl rfl hc40 rfl rfl rfl ?_
     refine VQ_gn rfl rfl rfl hc40 rfl rfl rfl ?_
     refine VQ_y (fun _ _ => Y_pick_fe rfl hc40 rfl) rfl rfl rfl ?_
     exact VQ_end fun a ha => ⟨(), ha.sub ⟨rfl, rfl, rfl, rfl, (by rw [hc40]; rfl), trivial⟩, trivial⟩
   simp only [List.take, List.drop]
   rintro _ _
   refine VQ_y (fun w' hw' => Y_assign rfl) rfl rfl rfl ?_
   refine VQ_to (fun _ _ => rfl) (fun w43 hk44 => ?_)
   have ht45 := Kp.tr (Dw := Dw) hk44 hA hB
   replace hH := Hp.kp (Dw := Dw) hH hk44
   replace h_p2 := El.tr (Dw := Dw) h_p2 ht45
   replace h_p3 := El.tr (Dw := Dw) h_p3 ht45
   replace h27 := El.tr (Dw := Dw) h27 ht45
   replace hK := Tr.trans (Dw := Dw) hK ht45
   replace hB := Nat.le_trans hB ht45.ex.size
   replace hA := ht45.new
   refine C_seq ?_
   refine C_seq ?_
   refine C_region ?_
   refine V_y (Y_move rfl) rfl rfl rfl ?_
   refine V_to (fun _ _ => rfl) ?_
   obtain ⟨s47, ho46, hm⟩ := Option.bind_eq_some_iff.1 hm
   refine C_cutG (ι := (Value × (Nat → Prop))) (fun ⟨v49, A54⟩ => [(0, .pointer (some ⟨b_r_, 0, none⟩)), (2, .pointer (some ⟨b_p2, 0, none⟩)), (3, .pointer (some ⟨b_p3, 0, none⟩)), (5, .pointer (some ⟨b12, 0, none⟩)), (7, .bool ((r_.goes && (!(x18.1.kind == r_.target.kind && (x18.1.minutes == r_.target.minutes && (x18.1.calendar == r_.target.calendar))))) && (x18.1.calendar != r_.target.calendar)))]) (fun ⟨v49, A54⟩ => fun w' => Hp B A54 w' (obC b_r_ [.int .i64 s47.clock.kind, .int .i64 s47.clock.level, .int .i64 s47.clock.minutes, .int .i64 s47.clock.start, .int .i64 s47.clock.stop, .int .i64 s47.clock.end_, v49, .int .i64 s47.target.kind, .int .i64 s47.target.minutes, .int .i64 s47.target.calendar, .bool s47.goes] 51 :: obS (α := level_Piece) 67 v49 s47.clock.pieces :: obC b_p1 [v_p10, v_p11, .int .i64 p1.level, v_p12] 38 :: L) ∧ Tr Dw B A25 w43 A54 w') ?_ ?_
   ·have hr48 : Tr Dw B A25 w43 A25 w43 := Tr.refl (Dw := Dw) hA
    refine C_cond rfl (fun hc56 => ?_) (fun hc56 => ?_)
    ·rw [if_pos hc56] at ho46
     refine C_region ?_
     refine V_y (Y_move rfl) rfl rfl rfl ?_
     refine V_y (Y_load (El.int h_p2) Tryz.isAgg3 rfl) rfl rfl rfl ?_
     replace hH : Hp B A25 w43 (obS (α := level_Piece) 67 v_r_ r_.clock.pieces :: obC b_r_ [.int .i64 r_.clock.kind, .int .i64 r_.clock.level, .int .i64 r_.clock.minutes, .int .i64 r_.clock.start, .int .i64 r_.clock.stop, .int .i64 r_.clock.end_, v_r_, .int .i64 r_.target.kind, .int .i64 r_.target.minutes, .int .i64 r_.target.calendar, .bool r_.goes] 51 :: obC b_p1 [v_p10, v_p11, .int .i64 p1.level, v_p12] 38 :: L) := Hp.front hH (i := 1) rfl
     replace hH : Hp B A25 w43 (obC b_r_ [.int .i64 r_.clock.kind, .int .i64 r_.clock.level, .int .i64 r_.clock.minutes, .int .i64 r_.clock.start, .int .i64 r_.clock.stop, .int .i64 r_.clock.end_, v_r_, .int .i64 r_.target.kind, .int .i64 r_.target.minutes, .int .i64 r_.target.calendar, .bool r_.goes] 51 :: obS (α := level_Piece) 67 v_r_ r_.clock.pieces :: obC b_p1 [v_p10, v_p11, .int .i64 p1.level, v_p12] 38 :: L) := Hp.front hH (i := 1) rfl
     obtain ⟨x57, hx57, ho46⟩ := Option.bind_eq_some_iff.1 ho46
     refine V_call Tryz.call64 rfl rfl rfl rfl (level_running_cut_c (Dw := Dw) w43 hB hA r_ b_r_ v_r_ p2 hH hx57) ?_
     rintro _ w60 ⟨v58, A61, rfl, hH62, ht63⟩
     replace hr48 := Tr.trans (Dw := Dw) hr48 ht63
     replace hH : Hp B A61 w60 (obC b_r_ [.int .i64 x57.clock.kind, .int .i64 x57.clock.level, .int .i64 x57.clock.minutes, .int .i64 x57.clock.start, .int .i64 x57.clock.stop, .int .i64 x57.clock.end_, v58, .int .i64 x57.target.kind, .int .i64 x57.target.minutes, .int .i64 x57.target.calendar, .bool x57.goes] 51 :: obS (α := level_Piece) 67 v58 x57.clock.pieces :: obC b_p1 [v_p10, v_p11, .int .i64 p1.level, v_p12] 38 :: L) := hH62
     obtain rfl := Option.some.inj ho46
     refine V_end (fun a ha64 => ?_)
     exact ⟨(v58, A61), ha64.sub ⟨rfl, rfl, rfl, rfl, rfl, trivial⟩, ⟨hH, hr48⟩⟩
    ·rw [if_neg (nt hc56)] at ho46
     obtain rfl := Option.some.inj ho46
     refine C_skip (fun a ha65 => ?_)
     exact ⟨(v_r_, A25), ha65.sub ⟨rfl, rfl, rfl, rfl, rfl, trivial⟩, ⟨hH, hr48⟩⟩
   rintro ⟨v49, A54⟩ w51 ⟨hH55, hk52⟩ a ha53
   replace h_p2 := El.tr (Dw := Dw) h_p2 hk52
   replace h_p3 := El.tr (Dw := Dw) h_p3 hk52
   replace h27 := El.tr (Dw := Dw) h27 hk52
   replace hK := Tr.trans (Dw := Dw) hK hk52
   replace hB := Nat.le_trans hB hk52.ex.size
   replace hA := hk52.new
   replace hH : Hp B A54 w51 (obC b_r_ [.int .i64 s47.clock.kind, .int .i64 s47.clock.level, .int .i64 s47.clock.minutes, .int .i64 s47.clock.start, .int .i64 s47.clock.stop, .int .i64 s47.clock.end_, v49, .int .i64 s47.target.kind, .int .i64 s47.target.minutes, .int .i64 s47.target.calendar, .bool s47.goes] 51 :: obS (α := level_Piece) 67 v49 s47.clock.pieces :: obC b_p1 [v_p10, v_p11, .int .i64 p1.level, v_p12] 38 :: L) := hH55
   refine C_at (n := ⟨68, [], none⟩) (fun _ _ => rfl) ?_ ha53
   refine C_seq ?_
   refine C_region_ch (Dw := Dw) A54 18 [(1, 0), (1, 1), (1, 2), (1, 3), (1, 4), (1, 5), (1, 6), (1, 7), (1, 8), (3, 9), (1, 10), (1, 11), (1, 12), (3, 13), (1, 14), (1, 15), (1, 16), (3, 17)] Tryz_mixed (by kernel_rfl) (fun w66 hk67 => ?_)
   have ht68 := Kp.tr (Dw := Dw) hk67 hA hB
   replace hH := Hp.kp (Dw := Dw) hH hk67
   replace h_p2 := El.tr (Dw := Dw) h_p2 ht68
   replace h_p3 := El.tr (Dw := Dw) h_p3 ht68
   replace h27 := El.tr (Dw := Dw) h27 ht68
   replace hK := Tr.trans (Dw := Dw) hK ht68
   replace hB := Nat.le_trans hB ht68.ex.size
   replace hA := ht68.new
   refine CH_q2 (Dw := Dw) rfl ?_
   refine VQ_y (fun w' hw' => Y_move rfl) rfl rfl rfl ?_
   refine VQ_CH (Dw := Dw) ?_
   refine CH_q2 (Dw := Dw) rfl ?_
   refine VQ_y (fun w' hw' => Y_move rfl) rfl rfl rfl ?_
   refine VQ_CH (Dw := Dw) ?_
   refine CH_q2 (Dw := Dw) rfl ?_
   refine VQ_y (fun w' hw' => Y_move rfl) rfl rfl rfl ?_
   refine VQ_CH (Dw := Dw) ?_
   refine CH_q2 (Dw := Dw) rfl ?_
   obtain ⟨h69, _⟩ := El_level_Target h27
   refine VQ_y (fun w' hw' => Y_loadA (At.same h69 (hw'.2 _ h27.2.1 h27.1)) Tryz.isAgg49 Tryz.sizeOf49 rfl) rfl rfl rfl ?_
   refine VQ_CH (Dw := Dw) ?_
   refine CH_q2 (Dw := Dw) rfl ?_
   have h70 := El_level_Target_1 h27
   refine VQ_y (fun w' hw' => Y_fieldAddr Tryz.underlying49 rfl Tryz.sizeOf3 (by decide) rfl) rfl rfl rfl ?_
   refine VQ_CH (Dw := Dw) ?_
   refine CH_q2 (Dw := Dw) rfl ?_
   refine VQ_y (fun w' hw' => Y_load (El.int (El.keep h70 (XA.ex hw'))) Tryz.isAgg3 rfl) rfl rfl rfl ?_
   refine VQ_CH (Dw := Dw) ?_
   refine CH_q2 (Dw := Dw) rfl ?_
   refine VQ_y (fun w' hw' => Y_load (El.int (El.keep h_p3 (XA.ex hw'))) Tryz.isAgg3 rfl) rfl rfl rfl ?_
   refine VQ_CH (Dw := Dw) ?_
   refine CH_q2 (Dw := Dw) rfl ?_
   refine VQ_y (fun w' hw' => Y_nilCheck rfl) rfl rfl rfl ?_
   refine VQ_CH (Dw := Dw) ?_
   refine CH_q2 (Dw := Dw) rfl ?_
   refine VQ_y (fun w' hw' => Y_fieldAddrC (off2 := 7) Tryz.underlying51 rfl Tryz.sizeOf49 (by decide) rfl rfl) rfl rfl rfl ?_
   refine VQ_CH (Dw := Dw) ?_
   refine CH_l1 (Dw := Dw) (k := 1) rfl ?_
   refine V_storeC (Dw := Dw) (off := 7) (ds := [.int .i64 s47.clock.kind, .int .i64 s47.clock.level, .int .i64 s47.clock.minutes, .int .i64 s47.clock.start, .int .i64 s47.clock.stop, .int .i64 s47.clock.end_, v49, .int .i64 x18.1.kind, .int .i64 x18.1.minutes, .int .i64 x18.1.calendar, .bool s47.goes]) hH (i := 0) rfl Tryz.sizeOf49 rfl (Nat.le_of_ble_eq_true rfl) (by simp [Value.cells, Value.oneCell']) rfl hB hA rfl rfl ?_
   intro w71 hH72 ht73
   replace h_p2 := El.tr (Dw := Dw) h_p2 ht73
   replace hK := Tr.trans (Dw := Dw) hK ht73
   replace hB := Nat.le_trans hB ht73.ex.size
   replace hA := ht73.new
   replace hH : Hp B A54 w71 (obC b_r_ [.int .i64 s47.clock.kind, .int .i64 s47.clock.level, .int .i64 s47.clock.minutes, .int .i64 s47.clock.start, .int .i64 s47.clock.stop, .int .i64 s47.clock.end_, v49, .int .i64 x18.1.kind, .int .i64 x18.1.minutes, .int .i64 x18.1.calendar, .bool s47.goes] 51 :: obS (α := level_Piece) 67 v49 s47.clock.pieces :: obC b_p1 [v_p10, v_p11, .int .i64 p1.level, v_p12] 38 :: L) := hH72
   refine V_CHx (Dw := Dw) (XA.tr (Dw := Dw) ht73) ?_
   refine CH_q2 (Dw := Dw) rfl ?_
   refine VQ_y (fun w' hw' => Y_nilCheck rfl) rfl rfl rfl ?_
   refine VQ_CH (Dw := Dw) ?_
   refine CH_q2 (Dw := Dw) rfl ?_
   refine VQ_y (fun w' hw' => Y_fieldAddrC (off2 := 0) Tryz.underlying51 rfl Tryz.sizeOf47 (by decide) rfl rfl) rfl rfl rfl ?_
   refine VQ_CH (Dw := Dw) ?_
   refine CH_q2 (Dw := Dw) rfl ?_
   refine VQ_y (fun w' hw' => Y_fieldAddrC (off2 := 2) Tryz.underlying47 rfl Tryz.sizeOf3 (by decide) rfl rfl) rfl rfl rfl ?_
   refine VQ_CH (Dw := Dw) ?_
   refine CH_l1 (Dw := Dw) (k := 1) rfl ?_
   refine V_storeC (Dw := Dw) (off := 2) (ds := [.int .i64 s47.clock.kind, .int .i64 s47.clock.level, .int .i64 x18.1.minutes, .int .i64 s47.clock.start, .int .i64 s47.clock.stop, .int .i64 s47.clock.end_, v49, .int .i64 x18.1.kind, .int .i64 x18.1.minutes, .int .i64 x18.1.calendar, .bool s47.goes]) hH (i := 0) rfl Tryz.sizeOf3 rfl (Nat.le_of_ble_eq_true rfl) (by simp [Value.cells, Value.oneCell']) rfl hB hA rfl rfl ?_
   intro w74 hH75 ht76
   replace h_p2 := El.tr (Dw := Dw) h_p2 ht76
   replace hK := Tr.trans (Dw := Dw) hK ht76
   replace hB := Nat.le_trans hB ht76.ex.size
   replace hA := ht76.new
   replace hH : Hp B A54 w74 (obC b_r_ [.int .i64 s47.clock.kind, .int .i64 s47.clock.level, .int .i64 x18.1.minutes, .int .i64 s47.clock.start, .int .i64 s47.clock.stop, .int .i64 s47.clock.end_, v49, .int .i64 x18.1.kind, .int .i64 x18.1.minutes, .int .i64 x18.1.calendar, .bool s47.goes] 51 :: obS (α := level_Piece) 67 v49 s47.clock.pieces :: obC b_p1 [v_p10, v_p11, .int .i64 p1.level, v_p12] 38 :: L) := hH75
   refine V_CHx (Dw := Dw) (XA.tr (Dw := Dw) ht76) ?_
   refine CH_q2 (Dw := Dw) rfl ?_
   refine VQ_y (fun w' hw' => Y_nilCheck rfl) rfl rfl rfl ?_
   refine VQ_CH (Dw := Dw) ?_
   refine CH_q2 (Dw := Dw) rfl ?_
   refine VQ_y (fun w' hw' => Y_fieldAddrC (off2 := 0) Tryz.underlying51 rfl Tryz.sizeOf47 (by decide) rfl rfl) rfl rfl rfl ?_
   refine VQ_CH (Dw := Dw) ?_
   refine CH_q2 (Dw := Dw) rfl ?_
   refine VQ_y (fun w' hw' => Y_fieldAddrC (off2 := 1) Tryz.underlying47 rfl Tryz.sizeOf3 (by decide) rfl rfl) rfl rfl rfl ?_
   refine VQ_CH (Dw := Dw) ?_
   refine CH_l1 (Dw := Dw) (k := 1) rfl ?_
   refine V_storeC (Dw := Dw) (off := 1) (ds := [.int .i64 s47.clock.kind, .int .i64 p3, .int .i64 x18.1.minutes, .int .i64 s47.clock.start, .int .i64 s47.clock.stop, .int .i64 s47.clock.end_, v49, .int .i64 x18.1.kind, .int .i64 x18.1.minutes, .int .i64 x18.1.calendar, .bool s47.goes]) hH (i := 0) rfl Tryz.sizeOf3 rfl (Nat.le_of_ble_eq_true rfl) (by simp [Value.cells, Value.oneCell']) rfl hB hA rfl rfl ?_
   intro w77 hH78 ht79
   replace h_p2 := El.tr (Dw := Dw) h_p2 ht79
   replace hK := Tr.trans (Dw := Dw) hK ht79
   replace hB := Nat.le_trans hB ht79.ex.size
   replace hA := ht79.new
   replace hH : Hp B A54 w77 (obC b_r_ [.int .i64 s47.clock.kind, .int .i64 p3, .int .i64 x18.1.minutes, .int .i64 s47.clock.start, .int .i64 s47.clock.stop, .int .i64 s47.clock.end_, v49, .int .i64 x18.1.kind, .int .i64 x18.1.minutes, .int .i64 x18.1.calendar, .bool s47.goes] 51 :: obS (α := level_Piece) 67 v49 s47.clock.pieces :: obC b_p1 [v_p10, v_p11, .int .i64 p1.level, v_p12] 38 :: L) := hH78
   refine V_CHx (Dw := Dw) (XA.tr (Dw := Dw) ht79) ?_
   refine CH_tail (Dw := Dw) ?_
   show V _ _ _ _ [] _ _
   refine V_to (fun _ _ => rfl) ?_
   refine C_seq ?_
   refine C_region ?_
   refine V_y (Y_move rfl) rfl rfl rfl ?_
   refine V_to (fun _ _ => rfl) ?_
   obtain ⟨s81, ho80, hm⟩ := Option.bind_eq_some_iff.1 hm
   refine C_cutG (ι := (Value × (Nat → Prop))) (fun ⟨v83, A88⟩ => []) (fun ⟨v83, A88⟩ => fun w' => Hp B A88 w' (obC b_r_ [.int .i64 s81.clock.kind, .int .i64 s81.clock.level, .int .i64 s81.clock.minutes, .int .i64 s81.clock.start, .int .i64 s81.clock.stop, .int .i64 s81.clock.end_, v83, .int .i64 s81.target.kind, .int .i64 s81.target.minutes, .int .i64 s81.target.calendar, .bool s81.goes] 51 :: obS (α := level_Piece) 67 v83 s81.clock.pieces :: obC b_p1 [v_p10, v_p11, .int .i64 p1.level, v_p12] 38 :: L) ∧ Tr Dw B A54 w77 A88 w') ?_ ?_
   ·have hr82 : Tr Dw B A54 w77 A54 w77 := Tr.refl (Dw := Dw) hA
    refine C_cond rfl (fun hc90 => ?_) (fun hc90 => ?_)
    ·rw [if_pos hc90] at ho80
     refine C_region ?_
     refine V_y (Y_move rfl) rfl rfl rfl ?_
     refine V_y (Y_load (El.int h_p2) Tryz.isAgg3 rfl) rfl rfl rfl ?_
     replace hH : Hp B A54 w77 (obS (α := level_Piece) 67 v49 s47.clock.pieces :: obC b_r_ [.int .i64 s47.clock.kind, .int .i64 p3, .int .i64 x18.1.minutes, .int .i64 s47.clock.start, .int .i64 s47.clock.stop, .int .i64 s47.clock.end_, v49, .int .i64 x18.1.kind, .int .i64 x18.1.minutes, .int .i64 x18.1.calendar, .bool s47.goes] 51 :: obC b_p1 [v_p10, v_p11, .int .i64 p1.level, v_p12] 38 :: L) := Hp.front hH (i := 1) rfl
     replace hH : Hp B A54 w77 (obC b_r_ [.int .i64 s47.clock.kind, .int .i64 p3, .int .i64 x18.1.minutes, .int .i64 s47.clock.start, .int .i64 s47.clock.stop, .int .i64 s47.clock.end_, v49, .int .i64 x18.1.kind, .int .i64 x18.1.minutes, .int .i64 x18.1.calendar, .bool s47.goes] 51 :: obS (α := level_Piece) 67 v49 s47.clock.pieces :: obC b_p1 [v_p10, v_p11, .int .i64 p1.level, v_p12] 38 :: L) := Hp.front hH (i := 1) rfl
     obtain ⟨x91, hx91, ho80⟩ := Option.bind_eq_some_iff.1 ho80
     refine V_call Tryz.call65 rfl rfl rfl rfl (level_running_on_c (Dw := Dw) w77 hB hA (⟨(⟨s47.clock.kind, p3, x18.1.minutes, s47.clock.start, s47.clock.stop, s47.clock.end_, s47.clock.pieces⟩ : level_Clock), x18.1, s47.goes⟩ : level_running) b_r_ v49 p2 hH hx91) ?_
     rintro _ w94 ⟨v92, A95, rfl, hH96, ht97⟩
     replace hr82 := Tr.trans (Dw := Dw) hr82 ht97
     replace hH : Hp B A95 w94 (obC b_r_ [.int .i64 x91.clock.kind, .int .i64 x91.clock.level, .int .i64 x91.clock.minutes, .int .i64 x91.clock.start, .int .i64 x91.clock.stop, .int .i64 x91.clock.end_, v92, .int .i64 x91.target.kind, .int .i64 x91.target.minutes, .int .i64 x91.target.calendar, .bool x91.goes] 51 :: obS (α := level_Piece) 67 v92 x91.clock.pieces :: obC b_p1 [v_p10, v_p11, .int .i64 p1.level, v_p12] 38 :: L) := hH96
     obtain rfl := Option.some.inj ho80
     refine V_end (fun a ha98 => ?_)
     exact ⟨(v92, A95), ha98.sub trivial, ⟨hH, hr82⟩⟩
    ·rw [if_neg (nt hc90)] at ho80
     obtain rfl := Option.some.inj ho80
     refine C_skip (fun a ha99 => ?_)
     exact ⟨(v49, A54), ha99.sub trivial, ⟨hH, hr82⟩⟩
   rintro ⟨v83, A88⟩ w85 ⟨hH89, hk86⟩ a ha87
   replace hK := Tr.trans (Dw := Dw) hK hk86
   replace hA := hk86.new
   replace hH : Hp B A88 w85 (obC b_r_ [.int .i64 s81.clock.kind, .int .i64 s81.clock.level, .int .i64 s81.clock.minutes, .int .i64 s81.clock.start, .int .i64 s81.clock.stop, .int .i64 s81.clock.end_, v83, .int .i64 s81.target.kind, .int .i64 s81.target.minutes, .int .i64 s81.target.calendar, .bool s81.goes] 51 :: obS (α := level_Piece) 67 v83 s81.clock.pieces :: obC b_p1 [v_p10, v_p11, .int .i64 p1.level, v_p12] 38 :: L) := hH89
   obtain rfl := Option.some.inj hm
   try simp only [↓inBlock_ret, ↓then_ret]
   exact normQ (retQ rfl (Res.zero Tryz.results77) ⟨v83, A88, rfl, hH, hK⟩ a ha87)
 obtain ⟨x101, hx101, hm⟩ := Option.bind_eq_some_iff.1 hm
 refine V_call Tryz.call78 rfl rfl rfl rfl (level_keeper_target_c (Dw := Dw) w9 (A := fun _ => True) (fun _ _ => trivial) p1 b_p1 (Hp.el (α := level_keeper) (x := p1) hH (i := 2) rfl ⟨_, _, _, rfl, o_p1, (Sl.any h_p10), (Sl.any h_p11)⟩) r_.clock.kind hx101) ?_
 rintro _ w102 ⟨rfl, hk103⟩
 have ht104 := Kp.tr (Dw := Dw) hk103 hA hB
 replace hH := Hp.kp (Dw := Dw) hH hk103
 replace k_p1 := Vb.tr (Dw := Dw) k_p1 ht104
 replace h_p2 := El.tr (Dw := Dw) h_p2 ht104
 replace h_p3 := El.tr (Dw := Dw) h_p3 ht104
 replace hK := Tr.trans (Dw := Dw) hK ht104
 replace hB := Nat.le_trans hB ht104.ex.size
 replace hA := ht104.new
 refine V_CHZ (Dw := Dw) (hk103) ?_
 refine CHZ_q2 (Dw := Dw) rfl ?_
 refine VQ_y (fun w' hw' => Y_move rfl) rfl rfl rfl ?_
 refine VQ_CHZ (Dw := Dw) ?_
 refine CHZ_q2 (Dw := Dw) rfl ?_
 refine VQ_y (fun w' hw' => Y_extract rfl rfl) rfl rfl rfl ?_
 refine VQ_CHZ (Dw := Dw) ?_
 refine CHZ_q2 (Dw := Dw) rfl ?_
 refine VQ_y (fun w' hw' => Y_extract rfl rfl) rfl rfl rfl ?_
 refine VQ_CHZ (Dw := Dw) ?_
 refine CHZ_nil (Dw := Dw) ?_
 refine CH_l1 (Dw := Dw) (k := 0) rfl ?_
 refine V_allocHk (Dw := Dw) (B := B) hH Tryz.zeroValue49 hB hA rfl ?_
 intro b105 w106 A107 hk110 hH108 ht109
 replace k_p1 := Vb.tr (Dw := Dw) k_p1 ht109
 replace h_p2 := El.tr (Dw := Dw) h_p2 ht109
 replace h_p3 := El.tr (Dw := Dw) h_p3 ht109
 replace hK := Tr.trans (Dw := Dw) hK ht109
 replace hB := Nat.le_trans hB ht109.ex.size
 replace hA := ht109.new
 replace hH : Hp B A107 w106 (obC b105 [.int .i64 0, .int .i64 0, .int .i64 0] 49 :: obC b_r_ [.int .i64 r_.clock.kind, .int .i64 r_.clock.level, .int .i64 r_.clock.minutes, .int .i64 r_.clock.start, .int .i64 r_.clock.stop, .int .i64 r_.clock.end_, v_r_, .int .i64 r_.target.kind, .int .i64 r_.target.minutes, .int .i64 r_.target.calendar, .bool r_.goes] 51 :: obS (α := level_Piece) 67 v_r_ r_.clock.pieces :: obC b_p1 [v_p10, v_p11, .int .i64 p1.level, v_p12] 38 :: L) := hH108
 refine V_CH (Dw := Dw) (hk110) ?_
 refine CH_l1 (Dw := Dw) (k := 2) rfl ?_
 refine V_storeC (Dw := Dw) (off := 0) (ds := [.int .i64 x101.1.kind, .int .i64 x101.1.minutes, .int .i64 x101.1.calendar]) hH (i := 0) rfl Tryz.sizeOf49 rfl (Nat.le_of_ble_eq_true rfl) (by simp [Value.cells, Value.oneCell']) rfl hB hA rfl rfl ?_
 intro w111 hH112 ht113
 replace k_p1 := Vb.tr (Dw := Dw) k_p1 ht113
 replace h_p2 := El.tr (Dw := Dw) h_p2 ht113
 replace h_p3 := El.tr (Dw := Dw) h_p3 ht113
 replace hK := Tr.trans (Dw := Dw) hK ht113
 replace hB := Nat.le_trans hB ht113.ex.size
 replace hA := ht113.new
 replace hH : Hp B A107 w111 (obC b105 [.int .i64 x101.1.kind, .int .i64 x101.1.minutes, .int .i64 x101.1.calendar] 49 :: obC b_r_ [.int .i64 r_.clock.kind, .int .i64 r_.clock.level, .int .i64 r_.clock.minutes, .int .i64 r_.clock.start, .int .i64 r_.clock.stop, .int .i64 r_.clock.end_, v_r_, .int .i64 r_.target.kind, .int .i64 r_.target.minutes, .int .i64 r_.target.calendar, .bool r_.goes] 51 :: obS (α := level_Piece) 67 v_r_ r_.clock.pieces :: obC b_p1 [v_p10, v_p11, .int .i64 p1.level, v_p12] 38 :: L) := hH112
 obtain ⟨A114, ht115, h116, hH117⟩ := Hp.freezeC (Dw := Dw) (α := level_Target) (x := x101.1) hH (i := 0) rfl hA (by exact ⟨[.int .i64 x101.1.kind], _, rfl, rfl, ⟨[.int .i64 x101.1.minutes], _, rfl, rfl, rfl⟩⟩)
 replace k_p1 := Vb.tr (Dw := Dw) k_p1 ht115
 replace h_p2 := El.tr (Dw := Dw) h_p2 ht115
 replace h_p3 := El.tr (Dw := Dw) h_p3 ht115
 replace hK := Tr.trans (Dw := Dw) hK ht115
 replace hB := Nat.le_trans hB ht115.ex.size
 replace hA := ht115.new
 replace hH : Hp B A114 w111 (obC b_r_ [.int .i64 r_.clock.kind, .int .i64 r_.clock.level, .int .i64 r_.clock.minutes, .int .i64 r_.clock.start, .int .i64 r_.clock.stop, .int .i64 r_.clock.end_, v_r_, .int .i64 r_.target.kind, .int .i64 r_.target.minutes, .int .i64 r_.target.calendar, .bool r_.goes] 51 :: obS (α := level_Piece) 67 v_r_ r_.clock.pieces :: obC b_p1 [v_p10, v_p11, .int .i64 p1.level, v_p12] 38 :: L) := hH117
 refine V_CHw (Dw := Dw) ?_
 refine CH_q2 (Dw := Dw) rfl ?_
 refine VQ_y (fun w' hw' => Y_assign rfl) rfl rfl rfl ?_
 refine VQ_CH (Dw := Dw) ?_
 refine CH_tail (Dw := Dw) ?_
 show V _ _ _ _ [] _ _
 refine V_to (fun _ _ => rfl) ?_
 refine C_seq ?_
 refine C_seq ?_
 refine C_region ?_
 refine V_y (Y_move rfl) rfl rfl rfl ?_
 refine V_y (Y_not rfl) rfl rfl rfl ?_
 refine V_to (fun _ _ => rfl) ?_
 refine C_cond rfl (fun hc118 => ?_) (fun hc118 => ?_)
 ·rw [if_pos hc118] at hm
  refine C_seq ?_
  refine C_region ?_
  refine V_y (Y_move rfl) rfl rfl rfl ?_
  refine V_y (Y_load (El.int h_p2) Tryz.isAgg3 rfl) rfl rfl rfl ?_
  replace hH : Hp B A114 w111 (obS (α := level_Piece) 67 v_r_ r_.clock.pieces :: obC b_r_ [.int .i64 r_.clock.kind, .int .i64 r_.clock.level, .int .i64 r_.clock.minutes, .int .i64 r_.clock.start, .int .i64 r_.clock.stop, .int .i64 r_.clock.end_, v_r_, .int .i64 r_.target.kind, .int .i64 r_.target.minutes, .int .i64 r_.target.calendar, .bool r_.goes] 51 :: obC b_p1 [v_p10, v_p11, .int .i64 p1.level, v_p12] 38 :: L) := Hp.front hH (i := 1) rfl
  replace hH : Hp B A114 w111 (obC b_r_ [.int .i64 r_.clock.kind, .int .i64 r_.clock.level, .int .i64 r_.clock.minutes, .int .i64 r_.clock.start, .int .i64 r_.clock.stop, .int .i64 r_.clock.end_, v_r_, .int .i64 r_.target.kind, .int .i64 r_.target.minutes, .int .i64 r_.target.calendar, .bool r_.goes] 51 :: obS (α := level_Piece) 67 v_r_ r_.clock.pieces :: obC b_p1 [v_p10, v_p11, .int .i64 p1.level, v_p12] 38 :: L) := Hp.front hH (i := 1) rfl
  obtain ⟨x119, hx119, hm⟩ := Option.bind_eq_some_iff.1 hm
  refine V_call Tryz.call58 rfl rfl rfl rfl (level_running_end_c (Dw := Dw) w111 hB hA r_ b_r_ v_r_ p2 2 hH hx119) ?_
  rintro _ w122 ⟨v120, A123, rfl, hH124, ht125⟩
  replace hK := Tr.trans (Dw := Dw) hK ht125
  replace hH : Hp B A123 w122 (obC b_r_ [.int .i64 x119.clock.kind, .int .i64 x119.clock.level, .int .i64 x119.clock.minutes, .int .i64 x119.clock.start, .int .i64 x119.clock.stop, .int .i64 x119.clock.end_, v120, .int .i64 x119.target.kind, .int .i64 x119.target.minutes, .int .i64 x119.target.calendar, .bool x119.goes] 51 :: obS (α := level_Piece) 67 v120 x119.clock.pieces :: obC b_p1 [v_p10, v_p11, .int .i64 p1.level, v_p12] 38 :: L) := hH124
  refine V_to (fun _ _ => rfl) ?_
  obtain rfl := Option.some.inj hm
  refine C_ret ?_
  try simp only [↓inBlock_ret, ↓then_ret]
  exact retQ rfl (Res.zero Tryz.results77) ⟨v120, A123, rfl, hH, hK⟩
 ·rw [if_neg (nt hc118)] at hm
  refine C_skip_to (fun _ _ => rfl) ?_
  refine C_seq ?_
  refine C_region_q (Dw := Dw) Tryz_mixed (by kernel_rfl) ?_
  refine VQ_y (fun w' hw' => Y_move rfl) rfl rfl rfl ?_
  refine VQ_y (fun w' hw' => Y_nilCheck rfl) rfl rfl rfl ?_
  refine VQ_y (fun w' hw' => Y_fieldAddrC (off2 := 10) Tryz.underlying51 rfl Tryz.sizeOf4 (by decide) rfl rfl) rfl rfl rfl ?_
  refine VQ_y (fun w' hw' => Y_load ((World.cell?_of_block (hw'.block _ (World.block_lt_of_cell? _ _ (Hp.cell (j := 10) hH (i := 0) rfl rfl)))).trans (Hp.cell (j := 10) hH (i := 0) rfl rfl)) Tryz.isAgg4 rfl) rfl rfl rfl ?_
  refine VQ_y (fun w' hw' => Y_move rfl) rfl rfl rfl ?_
  refine VQ_cut 7 (fun _ : Unit => [(0, .pointer (some ⟨b_r_, 0, none⟩)), (2, .pointer (some ⟨b_p2, 0, none⟩)), (3, .pointer (some ⟨b_p3, 0, none⟩)), (5, .pointer (some ⟨b105, 0, none⟩)), (34, .bool (r_.goes && (!(x101.1.kind == r_.target.kind && (x101.1.minutes == r_.target.minutes && (x101.1.calendar == r_.target.calendar))))))]) (fun _ => True) ?_ ?_
  ·simp only [List.take, List.drop]
   rcases Bool.eq_false_or_eq_true (r_.goes) with hc126 | hc126
   ·refine VQ_ge rfl rfl rfl hc126 ?_
    obtain ⟨h128, _⟩ := El_level_Target h116
    refine VQ_y (fun w' hw' => Y_loadA (At.kp (Dw := Dw) h128 hw' h116.2.1) Tryz.isAgg49 Tryz.sizeOf49 rfl) rfl rfl rfl ?_
    refine VQ_ge rfl rfl rfl hc126 ?_
    refine VQ_y (fun w' hw' => Y_move rfl) rfl rfl rfl ?_
    refine VQ_ge rfl rfl rfl hc126 ?_
    refine VQ_y (fun w' hw' => Y_nilCheck rfl) rfl rfl rfl ?_
    refine VQ_ge rfl rfl rfl hc126 ?_
    refine VQ_y (fun w' hw' => Y_fieldAddrC (off2 := 7) Tryz.underlying51 rfl Tryz.sizeOf49 (by decide) rfl rfl) rfl rfl rfl ?_
    refine VQ_ge rfl rfl rfl hc126 ?_
    refine VQ_y (fun w' hw' => Y_loadA (At.kp (Dw := Dw) (Hp.part (off := 7) (n := 3) (ds := [.int .i64 r_.target.kind, .int .i64 r_.target.minutes, .int .i64 r_.target.calendar]) hH (i := 0) rfl rfl) hw' (Array.getElem?_eq_some_iff.1 (Hp.cells hH (i := 0) rfl).2.1).1) Tryz.isAgg49 Tryz.sizeOf49 rfl) rfl rfl rfl ?_
    refine VQ_ge rfl rfl rfl hc126 ?_
    refine VQ_y (fun w' hw' => Y_neqA (fun w => Tryz_eqt49_10000 x101.1.kind x101.1.minutes x101.1.calendar r_.target.kind r_.target.minutes r_.target.calendar w) Tryz_eqg49 rfl rfl) rfl rfl rfl ?_
    refine VQ_y (fun _ _ => Y_pick_te rfl hc126 rfl) rfl rfl rfl ?_
    exact VQ_end fun a ha => ⟨(), ha.sub ⟨rfl, rfl, rfl, rfl, (by rw [hc126]; rfl), trivial⟩, trivial⟩
   ·refine VQ_gn rfl rfl rfl hc126 rfl rfl rfl ?_
    refine VQ_gn rfl rfl rfl hc126 rfl rfl rfl ?_
    refine VQ_gn rfl rfl rfl hc126 rfl rfl rfl ?_
    refine VQ_gn rfl rfl rfl hc126 rfl rfl rfl ?_
    refine VQ_gn rfl rfl rfl hc126 rfl rfl rfl ?_
    refine VQ_gn rfl rfl rfl hc126 rfl rfl rfl ?_
    refine VQ_y (fun _ _ => Y_pick_fe rfl hc126 rfl) rfl rfl rfl ?_
    exact VQ_end fun a ha => ⟨(), ha.sub ⟨rfl, rfl, rfl, rfl, (by rw [hc126]; rfl), trivial⟩, trivial⟩
  simp only [List.take, List.drop]
  rintro _ _
  refine VQ_y (fun w' hw' => Y_move rfl) rfl rfl rfl ?_
  refine VQ_cut 9 (fun _ : Unit => [(0, .pointer (some ⟨b_r_, 0, none⟩)), (2, .pointer (some ⟨b_p2, 0, none⟩)), (3, .pointer (some ⟨b_p3, 0, none⟩)), (5, .pointer (some ⟨b105, 0, none⟩)), (44, .bool ((r_.goes && (!(x101.1.kind == r_.target.kind && (x101.1.minutes == r_.target.minutes && (x101.1.calendar == r_.target.calendar))))) && (x101.1.calendar != r_.target.calendar)))]) (fun _ => True) ?_ ?_
  ·simp only [List.take, List.drop]
   rcases Bool.eq_false_or_eq_true ((r_.goes && (!(x101.1.kind == r_.target.kind && (x101.1.minutes == r_.target.minutes && (x101.1.calendar == r_.target.calendar)))))) with hc129 | hc129
   ·refine VQ_ge rfl rfl rfl hc129 ?_
    have h131 := El_level_Target_2 h116
    refine VQ_y (fun w' hw' => Y_fieldAddr Tryz.underlying49 rfl Tryz.sizeOf3 (by decide) rfl) rfl rfl rfl ?_
    refine VQ_ge rfl rfl rfl hc129 ?_
    refine VQ_y (fun w' hw' => Y_load (El.int (El.kp (Dw := Dw) h131 hw')) Tryz.isAgg3 rfl) rfl rfl rfl ?_
    refine VQ_ge rfl rfl rfl hc129 ?_
    refine VQ_y (fun w' hw' => Y_move rfl) rfl rfl rfl ?_
    refine VQ_ge rfl rfl rfl hc129 ?_
    refine VQ_y (fun w' hw' => Y_nilCheck rfl) rfl rfl rfl ?_
    refine VQ_ge rfl rfl rfl hc129 ?_
    refine VQ_y (fun w' hw' => Y_fieldAddrC (off2 := 7) Tryz.underlying51 rfl Tryz.sizeOf49 (by decide) rfl rfl) rfl rfl rfl ?_
    refine VQ_ge rfl rfl rfl hc129 ?_
    refine VQ_y (fun w' hw' => Y_fieldAddrC (off2 := 9) Tryz.underlying49 rfl Tryz.sizeOf3 (by decide) rfl rfl) rfl rfl rfl ?_
    refine VQ_ge rfl rfl rfl hc129 ?_
    refine VQ_y (fun w' hw' => Y_load ((World.cell?_of_block (hw'.block _ (World.block_lt_of_cell? _ _ (Hp.cell (j := 9) hH (i := 0) rfl rfl)))).trans (Hp.cell (j := 9) hH (i := 0) rfl rfl)) Tryz.isAgg3 rfl) rfl rfl rfl ?_
    refine VQ_ge rfl rfl rfl hc129 ?_
    refine VQ_y (fun w' hw' => Y_neq rfl rfl) rfl rfl rfl ?_
    refine VQ_y (fun _ _ => Y_pick_te rfl hc129 rfl) rfl rfl rfl ?_
    exact VQ_end fun a ha => ⟨(), ha.sub ⟨rfl, rfl, rfl, rfl, (by rw [hc129]; rfl), trivial⟩, trivial⟩
   ·refine VQ_gn rfl rfl rfl hc129 rfl rfl rfl ?_
    refine VQ_gn rfl rfl rfl hc129 rfl rfl rfl ?_
    refine VQ_gn rfl rfl rfl hc129 rfl rfl rfl ?_
    refine VQ_gn rfl rfl rfl hc129 rfl rfl rfl ?_
    refine VQ_gn rfl rfl rfl hc129 rfl rfl rfl ?_
    refine VQ_gn rfl rfl rfl hc129 rfl rfl rfl ?_
    refine VQ_gn rfl rfl rfl hc129 rfl rfl rfl ?_
    refine VQ_gn rfl rfl rfl hc129 rfl rfl rfl ?_
    refine VQ_y (fun _ _ => Y_pick_fe rfl hc129 rfl) rfl rfl rfl ?_
    exact VQ_end fun a ha => ⟨(), ha.sub ⟨rfl, rfl, rfl, rfl, (by rw [hc129]; rfl), trivial⟩, trivial⟩
  simp only [List.take, List.drop]
  rintro _ _
  refine VQ_y (fun w' hw' => Y_assign rfl) rfl rfl rfl ?_
  refine VQ_to (fun _ _ => rfl) (fun w132 hk133 => ?_)
  have ht134 := Kp.tr (Dw := Dw) hk133 hA hB
  replace hH := Hp.kp (Dw := Dw) hH hk133
  replace h_p2 := El.tr (Dw := Dw) h_p2 ht134
  replace h_p3 := El.tr (Dw := Dw) h_p3 ht134
  replace h116 := El.tr (Dw := Dw) h116 ht134
  replace hK := Tr.trans (Dw := Dw) hK ht134
  replace hB := Nat.le_trans hB ht134.ex.size
  replace hA := ht134.new
  refine C_seq ?_
  refine C_seq ?_
  refine C_region ?_
  refine V_y (Y_move rfl) rfl rfl rfl ?_
  refine V_to (fun _ _ => rfl) ?_
  obtain ⟨s136, ho135, hm⟩ := Option.bind_eq_some_iff.1 hm
  refine C_cutG (ι := (Value × (Nat → Prop))) (fun ⟨v138, A143⟩ => [(0, .pointer (some ⟨b_r_, 0, none⟩)), (2, .pointer (some ⟨b_p2, 0, none⟩)), (3, .pointer (some ⟨b_p3, 0, none⟩)), (5, .pointer (some ⟨b105, 0, none⟩)), (7, .bool ((r_.goes && (!(x101.1.kind == r_.target.kind && (x101.1.minutes == r_.target.minutes && (x101.1.calendar == r_.target.calendar))))) && (x101.1.calendar != r_.target.calendar)))]) (fun ⟨v138, A143⟩ => fun w' => Hp B A143 w' (obC b_r_ [.int .i64 s136.clock.kind, .int .i64 s136.clock.level, .int .i64 s136.clock.minutes, .int .i64 s136.clock.start, .int .i64 s136.clock.stop, .int .i64 s136.clock.end_, v138, .int .i64 s136.target.kind, .int .i64 s136.target.minutes, .int .i64 s136.target.calendar, .bool s136.goes] 51 :: obS (α := level_Piece) 67 v138 s136.clock.pieces :: obC b_p1 [v_p10, v_p11, .int .i64 p1.level, v_p12] 38 :: L) ∧ Tr Dw B A114 w132 A143 w') ?_ ?_
  ·have hr137 : Tr Dw B A114 w132 A114 w132 := Tr.refl (Dw := Dw) hA
   refine C_cond rfl (fun hc145 => ?_) (fun hc145 => ?_)
   ·rw [if_pos hc145] at ho135
    refine C_region ?_
    refine V_y (Y_move rfl) rfl rfl rfl ?_
    refine V_y (Y_load (El.int h_p2) Tryz.isAgg3 rfl) rfl rfl rfl ?_
    replace hH : Hp B A114 w132 (obS (α := level_Piece) 67 v_r_ r_.clock.pieces :: obC b_r_ [.int .i64 r_.clock.kind, .int .i64 r_.clock.level, .int .i64 r_.clock.minutes, .int .i64 r_.clock.start, .int .i64 r_.clock.stop, .int .i64 r_.clock.end_, v_r_, .int .i64 r_.target.kind, .int .i64 r_.target.minutes, .int .i64 r_.target.calendar, .bool r_.goes] 51 :: obC b_p1 [v_p10, v_p11, .int .i64 p1.level, v_p12] 38 :: L) := Hp.front hH (i := 1) rfl
    replace hH : Hp B A114 w132 (obC b_r_ [.int .i64 r_.clock.kind, .int .i64 r_.clock.level, .int .i64 r_.clock.minutes, .int .i64 r_.clock.start, .int .i64 r_.clock.stop, .int .i64 r_.clock.end_, v_r_, .int .i64 r_.target.kind, .int .i64 r_.target.minutes, .int .i64 r_.target.calendar, .bool r_.goes] 51 :: obS (α := level_Piece) 67 v_r_ r_.clock.pieces :: obC b_p1 [v_p10, v_p11, .int .i64 p1.level, v_p12] 38 :: L) := Hp.front hH (i := 1) rfl
    obtain ⟨x146, hx146, ho135⟩ := Option.bind_eq_some_iff.1 ho135
    refine V_call Tryz.call64 rfl rfl rfl rfl (level_running_cut_c (Dw := Dw) w132 hB hA r_ b_r_ v_r_ p2 hH hx146) ?_
    rintro _ w149 ⟨v147, A150, rfl, hH151, ht152⟩
    replace hr137 := Tr.trans (Dw := Dw) hr137 ht152
    replace hH : Hp B A150 w149 (obC b_r_ [.int .i64 x146.clock.kind, .int .i64 x146.clock.level, .int .i64 x146.clock.minutes, .int .i64 x146.clock.start, .int .i64 x146.clock.stop, .int .i64 x146.clock.end_, v147, .int .i64 x146.target.kind, .int .i64 x146.target.minutes, .int .i64 x146.target.calendar, .bool x146.goes] 51 :: obS (α := level_Piece) 67 v147 x146.clock.pieces :: obC b_p1 [v_p10, v_p11, .int .i64 p1.level, v_p12] 38 :: L) := hH151
    obtain rfl := Option.some.inj ho135
    refine V_end (fun a ha153 => ?_)
    exact ⟨(v147, A150), ha153.sub ⟨rfl, rfl, rfl, rfl, rfl, trivial⟩, ⟨hH, hr137⟩⟩
   ·rw [if_neg (nt hc145)] at ho135
    obtain rfl := Option.some.inj ho135
    refine C_skip (fun a ha154 => ?_)
    exact ⟨(v_r_, A114), ha154.sub ⟨rfl, rfl, rfl, rfl, rfl, trivial⟩, ⟨hH, hr137⟩⟩
  rintro ⟨v138, A143⟩ w140 ⟨hH144, hk141⟩ a ha142
  replace h_p2 := El.tr (Dw := Dw) h_p2 hk141
  replace h_p3 := El.tr (Dw := Dw) h_p3 hk141
  replace h116 := El.tr (Dw := Dw) h116 hk141
  replace hK := Tr.trans (Dw := Dw) hK hk141
  replace hB := Nat.le_trans hB hk141.ex.size
  replace hA := hk141.new
  replace hH : Hp B A143 w140 (obC b_r_ [.int .i64 s136.clock.kind, .int .i64 s136.clock.level, .int .i64 s136.clock.minutes, .int .i64 s136.clock.start, .int .i64 s136.clock.stop, .int .i64 s136.clock.end_, v138, .int .i64 s136.target.kind, .int .i64 s136.target.minutes, .int .i64 s136.target.calendar, .bool s136.goes] 51 :: obS (α := level_Piece) 67 v138 s136.clock.pieces :: obC b_p1 [v_p10, v_p11, .int .i64 p1.level, v_p12] 38 :: L) := hH144
  refine C_at (n := ⟨68, [], none⟩) (fun _ _ => rfl) ?_ ha142
  refine C_seq ?_
  refine C_region_ch (Dw := Dw) A143 18 [(1, 0), (1, 1), (1, 2), (1, 3), (1, 4), (1, 5), (1, 6), (1, 7), (1, 8), (3, 9), (1, 10), (1, 11), (1, 12), (3, 13), (1, 14), (1, 15), (1, 16), (3, 17)] Tryz_mixed (by kernel_rfl) (fun w155 hk156 => ?_)
  have ht157 := Kp.tr (Dw := Dw) hk156 hA hB
  replace hH := Hp.kp (Dw := Dw) hH hk156
  replace h_p2 := El.tr (Dw := Dw) h_p2 ht157
  replace h_p3 := El.tr (Dw := Dw) h_p3 ht157
  replace h116 := El.tr (Dw := Dw) h116 ht157
  replace hK := Tr.trans (Dw := Dw) hK ht157
  replace hB := Nat.le_trans hB ht157.ex.size
  replace hA := ht157.new
  refine CH_q2 (Dw := Dw) rfl ?_
  refine VQ_y (fun w' hw' => Y_move rfl) rfl rfl rfl ?_
  refine VQ_CH (Dw := Dw) ?_
  refine CH_q2 (Dw := Dw) rfl ?_
  refine VQ_y (fun w' hw' => Y_move rfl) rfl rfl rfl ?_
  refine VQ_CH (Dw := Dw) ?_
  refine CH_q2 (Dw := Dw) rfl ?_
  refine VQ_y (fun w' hw' => Y_move rfl) rfl rfl rfl ?_
  refine VQ_CH (Dw := Dw) ?_
  refine CH_q2 (Dw := Dw) rfl ?_
  obtain ⟨h158, _⟩ := El_level_Target h116
  refine VQ_y (fun w' hw' => Y_loadA (At.same h158 (hw'.2 _ h116.2.1 h116.1)) Tryz.isAgg49 Tryz.sizeOf49 rfl) rfl rfl rfl ?_
  refine VQ_CH (Dw := Dw) ?_
  refine CH_q2 (Dw := Dw) rfl ?_
  have h159 := El_level_Target_1 h116
  refine VQ_y (fun w' hw' => Y_fieldAddr Tryz.underlying49 rfl Tryz.sizeOf3 (by decide) rfl) rfl rfl rfl ?_
  refine VQ_CH (Dw := Dw) ?_
  refine CH_q2 (Dw := Dw) rfl ?_
  refine VQ_y (fun w' hw' => Y_load (El.int (El.keep h159 (XA.ex hw'))) Tryz.isAgg3 rfl) rfl rfl rfl ?_
  refine VQ_CH (Dw := Dw) ?_
  refine CH_q2 (Dw := Dw) rfl ?_
  refine VQ_y (fun w' hw' => Y_load (El.int (El.keep h_p3 (XA.ex hw'))) Tryz.isAgg3 rfl) rfl rfl rfl ?_
  refine VQ_CH (Dw := Dw) ?_
  refine CH_q2 (Dw := Dw) rfl ?_
  refine VQ_y (fun w' hw' => Y_nilCheck rfl) rfl rfl rfl ?_
  refine VQ_CH (Dw := Dw) ?_
  refine CH_q2 (Dw := Dw) rfl ?_
  refine VQ_y (fun w' hw' => Y_fieldAddrC (off2 := 7) Tryz.underlying51 rfl Tryz.sizeOf49 (by decide) rfl rfl) rfl rfl rfl ?_
  refine VQ_CH (Dw := Dw) ?_
  refine CH_l1 (Dw := Dw) (k := 1) rfl ?_
  refine V_storeC (Dw := Dw) (off := 7) (ds := [.int .i64 s136.clock.kind, .int .i64 s136.clock.level, .int .i64 s136.clock.minutes, .int .i64 s136.clock.start, .int .i64 s136.clock.stop, .int .i64 s136.clock.end_, v138, .int .i64 x101.1.kind, .int .i64 x101.1.minutes, .int .i64 x101.1.calendar, .bool s136.goes]) hH (i := 0) rfl Tryz.sizeOf49 rfl (Nat.le_of_ble_eq_true rfl) (by simp [Value.cells, Value.oneCell']) rfl hB hA rfl rfl ?_
  intro w160 hH161 ht162
  replace h_p2 := El.tr (Dw := Dw) h_p2 ht162
  replace hK := Tr.trans (Dw := Dw) hK ht162
  replace hB := Nat.le_trans hB ht162.ex.size
  replace hA := ht162.new
  replace hH : Hp B A143 w160 (obC b_r_ [.int .i64 s136.clock.kind, .int .i64 s136.clock.level, .int .i64 s136.clock.minutes, .int .i64 s136.clock.start, .int .i64 s136.clock.stop, .int .i64 s136.clock.end_, v138, .int .i64 x101.1.kind, .int .i64 x101.1.minutes, .int .i64 x101.1.calendar, .bool s136.goes] 51 :: obS (α := level_Piece) 67 v138 s136.clock.pieces :: obC b_p1 [v_p10, v_p11, .int .i64 p1.level, v_p12] 38 :: L) := hH161
  refine V_CHx (Dw := Dw) (XA.tr (Dw := Dw) ht162) ?_
  refine CH_q2 (Dw := Dw) rfl ?_
  refine VQ_y (fun w' hw' => Y_nilCheck rfl) rfl rfl rfl ?_
  refine VQ_CH (Dw := Dw) ?_
  refine CH_q2 (Dw := Dw) rfl ?_
  refine VQ_y (fun w' hw' => Y_fieldAddrC (off2 := 0) Tryz.underlying51 rfl Tryz.sizeOf47 (by decide) rfl rfl) rfl rfl rfl ?_
  refine VQ_CH (Dw := Dw) ?_
  refine CH_q2 (Dw := Dw) rfl ?_
  refine VQ_y (fun w' hw' => Y_fieldAddrC (off2 := 2) Tryz.underlying47 rfl Tryz.sizeOf3 (by decide) rfl rfl) rfl rfl rfl ?_
  refine VQ_CH (Dw := Dw) ?_
  refine CH_l1 (Dw := Dw) (k := 1) rfl ?_
  refine V_storeC (Dw := Dw) (off := 2) (ds := [.int .i64 s136.clock.kind, .int .i64 s136.clock.level, .int .i64 x101.1.minutes, .int .i64 s136.clock.start, .int .i64 s136.clock.stop, .int .i64 s136.clock.end_, v138, .int .i64 x101.1.kind, .int .i64 x101.1.minutes, .int .i64 x101.1.calendar, .bool s136.goes]) hH (i := 0) rfl Tryz.sizeOf3 rfl (Nat.le_of_ble_eq_true rfl) (by simp [Value.cells, Value.oneCell']) rfl hB hA rfl rfl ?_
  intro w163 hH164 ht165
  replace h_p2 := El.tr (Dw := Dw) h_p2 ht165
  replace hK := Tr.trans (Dw := Dw) hK ht165
  replace hB := Nat.le_trans hB ht165.ex.size
  replace hA := ht165.new
  replace hH : Hp B A143 w163 (obC b_r_ [.int .i64 s136.clock.kind, .int .i64 s136.clock.level, .int .i64 x101.1.minutes, .int .i64 s136.clock.start, .int .i64 s136.clock.stop, .int .i64 s136.clock.end_, v138, .int .i64 x101.1.kind, .int .i64 x101.1.minutes, .int .i64 x101.1.calendar, .bool s136.goes] 51 :: obS (α := level_Piece) 67 v138 s136.clock.pieces :: obC b_p1 [v_p10, v_p11, .int .i64 p1.level, v_p12] 38 :: L) := hH164
  refine V_CHx (Dw := Dw) (XA.tr (Dw := Dw) ht165) ?_
  refine CH_q2 (Dw := Dw) rfl ?_
  refine VQ_y (fun w' hw' => Y_nilCheck rfl) rfl rfl rfl ?_
  refine VQ_CH (Dw := Dw) ?_
  refine CH_q2 (Dw := Dw) rfl ?_
  refine VQ_y (fun w' hw' => Y_fieldAddrC (off2 := 0) Tryz.underlying51 rfl Tryz.sizeOf47 (by decide) rfl rfl) rfl rfl rfl ?_
  refine VQ_CH (Dw := Dw) ?_
  refine CH_q2 (Dw := Dw) rfl ?_
  refine VQ_y (fun w' hw' => Y_fieldAddrC (off2 := 1) Tryz.underlying47 rfl Tryz.sizeOf3 (by decide) rfl rfl) rfl rfl rfl ?_
  refine VQ_CH (Dw := Dw) ?_
  refine CH_l1 (Dw := Dw) (k := 1) rfl ?_
  refine V_storeC (Dw := Dw) (off := 1) (ds := [.int .i64 s136.clock.kind, .int .i64 p3, .int .i64 x101.1.minutes, .int .i64 s136.clock.start, .int .i64 s136.clock.stop, .int .i64 s136.clock.end_, v138, .int .i64 x101.1.kind, .int .i64 x101.1.minutes, .int .i64 x101.1.calendar, .bool s136.goes]) hH (i := 0) rfl Tryz.sizeOf3 rfl (Nat.le_of_ble_eq_true rfl) (by simp [Value.cells, Value.oneCell']) rfl hB hA rfl rfl ?_
  intro w166 hH167 ht168
  replace h_p2 := El.tr (Dw := Dw) h_p2 ht168
  replace hK := Tr.trans (Dw := Dw) hK ht168
  replace hB := Nat.le_trans hB ht168.ex.size
  replace hA := ht168.new
  replace hH : Hp B A143 w166 (obC b_r_ [.int .i64 s136.clock.kind, .int .i64 p3, .int .i64 x101.1.minutes, .int .i64 s136.clock.start, .int .i64 s136.clock.stop, .int .i64 s136.clock.end_, v138, .int .i64 x101.1.kind, .int .i64 x101.1.minutes, .int .i64 x101.1.calendar, .bool s136.goes] 51 :: obS (α := level_Piece) 67 v138 s136.clock.pieces :: obC b_p1 [v_p10, v_p11, .int .i64 p1.level, v_p12] 38 :: L) := hH167
  refine V_CHx (Dw := Dw) (XA.tr (Dw := Dw) ht168) ?_
  refine CH_tail (Dw := Dw) ?_
  show V _ _ _ _ [] _ _
  refine V_to (fun _ _ => rfl) ?_
  refine C_seq ?_
  refine C_region ?_
  refine V_y (Y_move rfl) rfl rfl rfl ?_
  refine V_to (fun _ _ => rfl) ?_
  obtain ⟨s170, ho169, hm⟩ := Option.bind_eq_some_iff.1 hm
  refine C_cutG (ι := (Value × (Nat → Prop))) (fun ⟨v172, A177⟩ => []) (fun ⟨v172, A177⟩ => fun w' => Hp B A177 w' (obC b_r_ [.int .i64 s170.clock.kind, .int .i64 s170.clock.level, .int .i64 s170.clock.minutes, .int .i64 s170.clock.start, .int .i64 s170.clock.stop, .int .i64 s170.clock.end_, v172, .int .i64 s170.target.kind, .int .i64 s170.target.minutes, .int .i64 s170.target.calendar, .bool s170.goes] 51 :: obS (α := level_Piece) 67 v172 s170.clock.pieces :: obC b_p1 [v_p10, v_p11, .int .i64 p1.level, v_p12] 38 :: L) ∧ Tr Dw B A143 w166 A177 w') ?_ ?_
  ·have hr171 : Tr Dw B A143 w166 A143 w166 := Tr.refl (Dw := Dw) hA
   refine C_cond rfl (fun hc179 => ?_) (fun hc179 => ?_)
   ·rw [if_pos hc179] at ho169
    refine C_region ?_
    refine V_y (Y_move rfl) rfl rfl rfl ?_
    refine V_y (Y_load (El.int h_p2) Tryz.isAgg3 rfl) rfl rfl rfl ?_
    replace hH : Hp B A143 w166 (obS (α := level_Piece) 67 v138 s136.clock.pieces :: obC b_r_ [.int .i64 s136.clock.kind, .int .i64 p3, .int .i64 x101.1.minutes, .int .i64 s136.clock.start, .int .i64 s136.clock.stop, .int .i64 s136.clock.end_, v138, .int .i64 x101.1.kind, .int .i64 x101.1.minutes, .int .i64 x101.1.calendar, .bool s136.goes] 51 :: obC b_p1 [v_p10, v_p11, .int .i64 p1.level, v_p12] 38 :: L) := Hp.front hH (i := 1) rfl
    replace hH : Hp B A143 w166 (obC b_r_ [.int .i64 s136.clock.kind, .int .i64 p3, .int .i64 x101.1.minutes, .int .i64 s136.clock.start, .int .i64 s136.clock.stop, .int .i64 s136.clock.end_, v138, .int .i64 x101.1.kind, .int .i64 x101.1.minutes, .int .i64 x101.1.calendar, .bool s136.goes] 51 :: obS (α := level_Piece) 67 v138 s136.clock.pieces :: obC b_p1 [v_p10, v_p11, .int .i64 p1.level, v_p12] 38 :: L) := Hp.front hH (i := 1) rfl
    obtain ⟨x180, hx180, ho169⟩ := Option.bind_eq_some_iff.1 ho169
    refine V_call Tryz.call65 rfl rfl rfl rfl (level_running_on_c (Dw := Dw) w166 hB hA (⟨(⟨s136.clock.kind, p3, x101.1.minutes, s136.clock.start, s136.clock.stop, s136.clock.end_, s136.clock.pieces⟩ : level_Clock), x101.1, s136.goes⟩ : level_running) b_r_ v138 p2 hH hx180) ?_
    rintro _ w183 ⟨v181, A184, rfl, hH185, ht186⟩
    replace hr171 := Tr.trans (Dw := Dw) hr171 ht186
    replace hH : Hp B A184 w183 (obC b_r_ [.int .i64 x180.clock.kind, .int .i64 x180.clock.level, .int .i64 x180.clock.minutes, .int .i64 x180.clock.start, .int .i64 x180.clock.stop, .int .i64 x180.clock.end_, v181, .int .i64 x180.target.kind, .int .i64 x180.target.minutes, .int .i64 x180.target.calendar, .bool x180.goes] 51 :: obS (α := level_Piece) 67 v181 x180.clock.pieces :: obC b_p1 [v_p10, v_p11, .int .i64 p1.level, v_p12] 38 :: L) := hH185
    obtain rfl := Option.some.inj ho169
    refine V_end (fun a ha187 => ?_)
    exact ⟨(v181, A184), ha187.sub trivial, ⟨hH, hr171⟩⟩
   ·rw [if_neg (nt hc179)] at ho169
    obtain rfl := Option.some.inj ho169
    refine C_skip (fun a ha188 => ?_)
    exact ⟨(v138, A143), ha188.sub trivial, ⟨hH, hr171⟩⟩
  rintro ⟨v172, A177⟩ w174 ⟨hH178, hk175⟩ a ha176
  replace hK := Tr.trans (Dw := Dw) hK hk175
  replace hA := hk175.new
  replace hH : Hp B A177 w174 (obC b_r_ [.int .i64 s170.clock.kind, .int .i64 s170.clock.level, .int .i64 s170.clock.minutes, .int .i64 s170.clock.start, .int .i64 s170.clock.stop, .int .i64 s170.clock.end_, v172, .int .i64 s170.target.kind, .int .i64 s170.target.minutes, .int .i64 s170.target.calendar, .bool s170.goes] 51 :: obS (α := level_Piece) 67 v172 s170.clock.pieces :: obC b_p1 [v_p10, v_p11, .int .i64 p1.level, v_p12] 38 :: L) := hH178
  obtain rfl := Option.some.inj hm
  try simp only [↓inBlock_ret, ↓then_ret]
  exact normQ (retQ rfl (Res.zero Tryz.results77) ⟨v172, A177, rfl, hH, hK⟩ a ha176)
set_option maxRecDepth 4000 in
set_option maxHeartbeats 4000000 in
theorem level_keeper_choose_c (w : World) {A : Nat → Prop} {B : Nat} (hB : B ≤ w.heap.size) (hA : ∀ b, w.heap.size ≤ b → A b) (k_ : level_keeper) (b_k_ : Nat) (v_k_0 : Value) (h_k_0 : Sl A w v_k_0 k_.policy.pauses) (v_k_1 : Value) (h_k_1 : Sl A w v_k_1 k_.policy.levels) (v_k_2 : Value) (at_ : Int) (level : Int) {L : List Ob} (hH : Hp B A w (obC b_k_ [v_k_0, v_k_1, .int .i64 k_.level, v_k_2] 38 :: obPS (ob_level_running) 44 v_k_2 k_.clocks :: L)) {r : level_keeper} (hm : level_keeper_choose k_ at_ level = some r) : Ret Tryz.prog 60 #[.pointer (some ⟨b_k_, 0, none⟩), .int .i64 at_, .int .i64 level] w fun v w' => ∃ u1_0, ∃ u1_1, ∃ u1_2, ∃ A1 : Nat → Prop, v = .tuple #[] ∧ Sl A1 w' u1_0 r.policy.pauses ∧ Sl A1 w' u1_1 r.policy.levels ∧ Hp B A1 w' (obC b_k_ [u1_0, u1_1, .int .i64 r.level, u1_2] 38 :: obPS (ob_level_running) 44 u1_2 r.clocks :: L) ∧ Tr Dw B A w A1 w' := by
 unfold level_keeper_choose at hm
 refine enter Tryz.func60 rfl Tryz.ntmps60 rfl ?_
 have hK : Tr Dw B A w A w := Tr.refl (Dw := Dw) hA
 refine C_seq ?_
 refine C_region ?_
 refine V_box rfl rfl ?_
 intro b7 w9 h10
 have hk11 := h10.kp (Dw := Dw)
 have h12 : Vb A w9 b7 (.pointer (some ⟨b_k_, 0, none⟩)) := h10.vb hA rfl
 have ht13 := Kp.tr (Dw := Dw) hk11 hA hB
 replace hH := Hp.kp (Dw := Dw) hH hk11
 replace h_k_0 := Sl.tr (Dw := Dw) h_k_0 ht13
 replace h_k_1 := Sl.tr (Dw := Dw) h_k_1 ht13
 replace hK := Tr.trans (Dw := Dw) hK ht13
 replace hB := Nat.le_trans hB ht13.ex.size
 replace hA := ht13.new
 refine V_box rfl rfl ?_
 intro b14 w15 h16
 have hk18 := h16.kp (Dw := Dw)
 have h17 : El (α := Int) A w15 b14 0 at_ := h16.el hA rfl
 have ht19 := Kp.tr (Dw := Dw) hk18 hA hB
 replace hH := Hp.kp (Dw := Dw) hH hk18
 replace h12 := Vb.tr (Dw := Dw) h12 ht19
 replace h_k_0 := Sl.tr (Dw := Dw) h_k_0 ht19
 replace h_k_1 := Sl.tr (Dw := Dw) h_k_1 ht19
 replace hK := Tr.trans (Dw := Dw) hK ht19
 replace hB := Nat.le_trans hB ht19.ex.size
 replace hA := ht19.new
 refine V_box rfl rfl ?_
 intro b20 w21 h22
 have hk24 := h22.kp (Dw := Dw)
 have h23 : El (α := Int) A w21 b20 0 level := h22.el hA rfl
 have ht25 := Kp.tr (Dw := Dw) hk24 hA hB
 replace hH := Hp.kp (Dw := Dw) hH hk24
 replace h12 := Vb.tr (Dw := Dw) h12 ht25
 replace h17 := El.tr (Dw := Dw) h17 ht25
 replace h_k_0 := Sl.tr (Dw := Dw) h_k_0 ht25
 replace h_k_1 := Sl.tr (Dw := Dw) h_k_1 ht25
 replace hK := Tr.trans (Dw := Dw) hK ht25
 replace hB := Nat.le_trans hB ht25.ex.size
 replace hA := ht25.new
 refine V_to (fun _ _ => rfl) ?_
 refine C_seq ?_
 refine C_region ?_
 refine V_y (Y_load h12.2.2 Tryz.isAgg35 rfl) rfl rfl rfl ?_
 refine V_y (Y_load (El.int h23) Tryz.isAgg3 rfl) rfl rfl rfl ?_
 refine V_y (Y_nilCheck rfl) rfl rfl rfl ?_
 refine V_y (Y_fieldAddrC (off2 := 2) Tryz.underlying38 rfl Tryz.sizeOf3 (by decide) rfl rfl) rfl rfl rfl ?_
 refine V_storeC (Dw := Dw) (off := 2) (ds := [v_k_0, v_k_1, .int .i64 level, v_k_2]) hH (i := 0) rfl Tryz.sizeOf3 rfl (Nat.le_of_ble_eq_true rfl) (by simp [Value.cells, Value.oneCell']) rfl hB hA rfl rfl ?_
 intro w26 hH27 ht28
 replace h12 := Vb.tr (Dw := Dw) h12 ht28
 replace h17 := El.tr (Dw := Dw) h17 ht28
 replace h23 := El.tr (Dw := Dw) h23 ht28
 replace h_k_0 := Sl.tr (Dw := Dw) h_k_0 ht28
 replace h_k_1 := Sl.tr (Dw := Dw) h_k_1 ht28
 replace hK := Tr.trans (Dw := Dw) hK ht28
 replace hB := Nat.le_trans hB ht28.ex.size
 replace hA := ht28.new
 replace hH : Hp B A w26 (obC b_k_ [v_k_0, v_k_1, .int .i64 level, v_k_2] 38 :: obPS (ob_level_running) 44 v_k_2 k_.clocks :: L) := hH27
 refine V_to (fun _ _ => rfl) ?_
 refine C_region ?_
 refine V_y (Y_load h12.2.2 Tryz.isAgg35 rfl) rfl rfl rfl ?_
 refine V_y (Y_makeFunc rfl rfl) rfl rfl rfl ?_
 replace hH : Hp B A w26 (obPS (ob_level_running) 44 v_k_2 k_.clocks :: obC b_k_ [v_k_0, v_k_1, .int .i64 level, v_k_2] 38 :: L) := Hp.front hH (i := 1) rfl
 replace hH : Hp B A w26 (obC b_k_ [v_k_0, v_k_1, .int .i64 level, v_k_2] 38 :: obPS (ob_level_running) 44 v_k_2 k_.clocks :: L) := Hp.front hH (i := 1) rfl
 obtain ⟨x29, hx29, hm⟩ := Option.bind_eq_some_iff.1 hm
 have hone := (Hp.psOne (f := ob_level_running) (e := 44) (v := v_k_2) (cs := k_.clocks) hH (i := 1) rfl)
 refine V_call Tryz.call56 rfl rfl rfl rfl (level_keeper_each_c (Dw := Dw) w26 hB hA v_k_0 v_k_1 level v_k_2 b_k_ k_.clocks _ 77 #[] #[.pointer (some ⟨b7, 0, none⟩), .pointer (some ⟨b14, 0, none⟩), .pointer (some ⟨b20, 0, none⟩)] Tryz.call77 (fun w1 A1 ht hB1 hA1 b x v M y hH1 hm1 => level_keeper_choose_1_c (Dw := Dw) w1 hB1 hA1 x b v (⟨k_.policy, level, k_.clocks⟩ : level_keeper) b_k_ b7 v_k_0 (Sl.tr (Dw := Dw) h_k_0 ht) v_k_1 (Sl.tr (Dw := Dw) h_k_1 ht) v_k_2 hone (Vb.tr (Dw := Dw) h12 ht) at_ b14 (El.tr (Dw := Dw) h17 ht) level b20 (El.tr (Dw := Dw) h23 ht) hH1 hm1) hH hx29) ?_
 rintro _ w30 ⟨A31, rfl, hH32, ht33⟩
 replace h12 := Vb.tr (Dw := Dw) h12 ht33
 replace h_k_0 := Sl.tr (Dw := Dw) h_k_0 ht33
 replace h_k_1 := Sl.tr (Dw := Dw) h_k_1 ht33
 replace hK := Tr.trans (Dw := Dw) hK ht33
 replace hH : Hp B A31 w30 (obC b_k_ [v_k_0, v_k_1, .int .i64 level, v_k_2] 38 :: obPS (ob_level_running) 44 v_k_2 x29 :: L) := hH32
 refine V_end (fun a ha34 => ?_)
 obtain rfl := Option.some.inj hm
 try simp only [↓inBlock_ret, ↓then_ret]
 exact normQ (retQ rfl (Res.zero Tryz.results60) ⟨v_k_0, v_k_1, v_k_2, A31, rfl, h_k_0, h_k_1, hH, hK⟩ a ha34)
end Go.Proofs.YtfbiebageicnaaaGreatDoor.W
