/-
  Written by program (gen.py) from the IR of the dump: each function computes its model.
-/
import Derived.Test.YtgmenjhmnjhgoaaDoorRouteMatchesW0
namespace Go.Proofs.YtgmenjhmnjhgoaaDoor.W
open Go Go.RowKit Go.Pu Go.Gw Go.Proofs Go.Proofs.YtgmenjhmnjhgoaaDoor.M
set_option linter.unusedVariables false
set_option linter.unusedSimpArgs false
variable {Dw : Prop}

set_option maxRecDepth 4000 in
set_option maxHeartbeats 4000000 in
theorem route_matcher_clearF_c (REC : (route_matcher) → (Int) → ((List Bool)) → Option (Bool × route_matcher × (List Bool))) (REC_c : ∀ (w : World) {A : Nat → Prop} {B : Nat} (hB : B ≤ w.heap.size) (hA : ∀ b, w.heap.size ≤ b → A b) (t : route_matcher) (b_t : Nat) (v_t0 : Value) (h_t0 : Sl A w v_t0 t.people) (v_t1 : Value) (h_t1 : Sl A w v_t1 t.work) (v_t2 : Value) (v_t3 : Value) (v_t4 : Value) (p : Int) (seen : (List Bool)) (v_seen : Value) {L : List Ob} (hH : Hp B A w (obC b_t [v_t0, v_t1, v_t2, v_t3, v_t4] 41 :: obS (α := Int) 3 v_t2 t.at_ :: obS (α := Int) 3 v_t3 t.free :: obS (α := Bool) 4 v_t4 t.fixed :: obS (α := Bool) 4 v_seen seen :: L)) {r : (Bool × route_matcher × (List Bool))} (hm : REC t p seen = some r), Ret Tryd.prog 30 #[.pointer (some ⟨b_t, 0, none⟩), .int .i64 p, v_seen] w fun v w' => ∃ A1 : Nat → Prop, v = .bool r.1 ∧ Sl A1 w' v_t0 r.2.1.people ∧ Sl A1 w' v_t1 r.2.1.work ∧ Hp B A1 w' (obC b_t [v_t0, v_t1, v_t2, v_t3, v_t4] 41 :: obS (α := Int) 3 v_t2 r.2.1.at_ :: obS (α := Int) 3 v_t3 r.2.1.free :: obS (α := Bool) 4 v_t4 r.2.1.fixed :: obS (α := Bool) 4 v_seen r.2.2 :: L) ∧ Tr Dw B A w A1 w') (w : World) {A : Nat → Prop} {B : Nat} (hB : B ≤ w.heap.size) (hA : ∀ b, w.heap.size ≤ b → A b) (t : route_matcher) (b_t : Nat) (v_t0 : Value) (h_t0 : Sl A w v_t0 t.people) (v_t1 : Value) (h_t1 : Sl A w v_t1 t.work) (v_t2 : Value) (v_t3 : Value) (v_t4 : Value) (p : Int) (seen : (List Bool)) (v_seen : Value) {L : List Ob} (hH : Hp B A w (obC b_t [v_t0, v_t1, v_t2, v_t3, v_t4] 41 :: obS (α := Int) 3 v_t2 t.at_ :: obS (α := Int) 3 v_t3 t.free :: obS (α := Bool) 4 v_t4 t.fixed :: obS (α := Bool) 4 v_seen seen :: L)) {r : (Bool × route_matcher × (List Bool))} (hm : route_matcher_clearF REC t p seen = some r) : Ret Tryd.prog 30 #[.pointer (some ⟨b_t, 0, none⟩), .int .i64 p, v_seen] w fun v w' => ∃ A1 : Nat → Prop, v = .bool r.1 ∧ Sl A1 w' v_t0 r.2.1.people ∧ Sl A1 w' v_t1 r.2.1.work ∧ Hp B A1 w' (obC b_t [v_t0, v_t1, v_t2, v_t3, v_t4] 41 :: obS (α := Int) 3 v_t2 r.2.1.at_ :: obS (α := Int) 3 v_t3 r.2.1.free :: obS (α := Bool) 4 v_t4 r.2.1.fixed :: obS (α := Bool) 4 v_seen r.2.2 :: L) ∧ Tr Dw B A w A1 w' := by
  unfold route_matcher_clearF at hm
  refine enter Tryd.func30 rfl Tryd.ntmps30 rfl ?_
  have hK : Tr Dw B A w A w := Tr.refl (Dw := Dw) hA
  refine C_seq ?_
  refine C_region ?_
  refine V_y (Y_assign rfl) rfl rfl rfl ?_
  refine V_to (fun _ _ => rfl) ?_
  refine C_seq ?_
  refine C_seq ?_
  refine C_region ?_
  refine V_y (Y_move rfl) rfl rfl rfl ?_
  refine V_y (Y_nilCheck rfl) rfl rfl rfl ?_
  refine V_y (Y_fieldAddrC (off2 := 3) Tryd.underlying41 rfl Tryd.sizeOf24 (by decide) rfl rfl) rfl rfl rfl ?_
  refine V_y (Y_load (Hp.cell (j := 3) hH (i := 0) rfl rfl) Tryd.isAgg24 rfl) rfl rfl rfl ?_
  refine V_y (Y_move rfl) rfl rfl rfl ?_
  obtain ⟨x11, hx11, hm⟩ := Option.bind_eq_some_iff.1 hm
  refine V_indexAddrH (α := Int) (e := 3) (v := v_t3) (l := t.free) hH (i := 2) rfl hx11 Tryd.underlying24 Tryd.sizeOf3 rfl rfl rfl ?_
  intro b12 o13 h14 hl15
  refine V_y (Y_load (El.int h14) Tryd.isAgg3 rfl) rfl rfl rfl ?_
  refine V_y (Y_gtr rfl rfl) rfl rfl rfl ?_
  refine V_to (fun _ _ => rfl) ?_
  refine C_cond rfl (fun hc16 => ?_) (fun hc16 => ?_)
  · rw [if_pos hc16] at hm
    refine C_seq ?_
    refine C_region ?_
    refine V_y (Y_assign rfl) rfl rfl rfl ?_
    refine V_to (fun _ _ => rfl) ?_
    obtain rfl := Option.some.inj hm
    refine C_ret ?_
    try simp only [↓inBlock_ret, ↓then_ret]
    exact retQ rfl (Res.one Tryd.results30 rfl) ⟨A, rfl, h_t0, h_t1, hH, hK⟩
  · rw [if_neg (nt hc16)] at hm
    refine C_skip_to (fun _ _ => rfl) ?_
    refine C_seq ?_
    refine C_seq ?_
    refine C_region ?_
    refine V_y (Y_move rfl) rfl rfl rfl ?_
    refine V_y (Y_move rfl) rfl rfl rfl ?_
    obtain ⟨x17, hx17, hm⟩ := Option.bind_eq_some_iff.1 hm
    refine V_indexAddrH (α := Bool) (e := 4) (v := v_seen) (l := seen) hH (i := 4) rfl hx17 Tryd.underlying39 Tryd.sizeOf4 rfl rfl rfl ?_
    intro b18 o19 h20 hl21
    refine V_y (Y_load (El.bool h20) Tryd.isAgg4 rfl) rfl rfl rfl ?_
    refine V_to (fun _ _ => rfl) ?_
    refine C_cond rfl (fun hc22 => ?_) (fun hc22 => ?_)
    · rw [if_pos hc22] at hm
      refine C_seq ?_
      refine C_region ?_
      refine V_y (Y_assign rfl) rfl rfl rfl ?_
      refine V_to (fun _ _ => rfl) ?_
      obtain rfl := Option.some.inj hm
      refine C_ret ?_
      try simp only [↓inBlock_ret, ↓then_ret]
      exact retQ rfl (Res.one Tryd.results30 rfl) ⟨A, rfl, h_t0, h_t1, hH, hK⟩
    · rw [if_neg (nt hc22)] at hm
      refine C_skip_to (fun _ _ => rfl) ?_
      refine C_seq ?_
      refine C_region ?_
      refine V_y (Y_move rfl) rfl rfl rfl ?_
      refine V_y (Y_move rfl) rfl rfl rfl ?_
      refine V_indexAddrH (α := Bool) (e := 4) (v := v_seen) (l := seen) hH (i := 4) rfl hx17 Tryd.underlying39 Tryd.sizeOf4 rfl rfl rfl ?_
      intro b23 o24 h25 hl26
      obtain ⟨x27, hx27, hm⟩ := Option.bind_eq_some_iff.1 hm
      refine V_storeH (Dw := Dw) (α := Bool) (e := 4) (v := v_seen) (l := seen) hH (i := 4) rfl hl26 hx27 rfl Tryd.sizeOf4 rfl hB hA rfl rfl ?_
      intro w28 hH29 ht30
      replace h_t0 := Sl.tr (Dw := Dw) h_t0 ht30
      replace h_t1 := Sl.tr (Dw := Dw) h_t1 ht30
      replace hK := Tr.trans (Dw := Dw) hK ht30
      replace hB := Nat.le_trans hB ht30.ex.size
      replace hA := ht30.new
      replace hH : Hp B A w28 (obC b_t [v_t0, v_t1, v_t2, v_t3, v_t4] 41 :: obS (α := Int) 3 v_t2 t.at_ :: obS (α := Int) 3 v_t3 t.free :: obS (α := Bool) 4 v_t4 t.fixed :: obS (α := Bool) 4 v_seen x27 :: L) := hH29
      refine V_to (fun _ _ => rfl) ?_
      refine C_seq ?_
      refine C_seq ?_
      refine C_region ?_
      refine V_y (Y_move rfl) rfl rfl rfl ?_
      refine V_y (Y_nilCheck rfl) rfl rfl rfl ?_
      refine V_y (Y_fieldAddrC (off2 := 2) Tryd.underlying41 rfl Tryd.sizeOf24 (by decide) rfl rfl) rfl rfl rfl ?_
      refine V_y (Y_load (Hp.cell (j := 2) hH (i := 0) rfl rfl) Tryd.isAgg24 rfl) rfl rfl rfl ?_
      refine V_y (Y_lenSl (Hp.any (α := Int) (e := 3) (v := v_t2) (l := t.at_) hH (i := 1) rfl) rfl Tryd.underlying24 rfl) rfl rfl rfl ?_
      refine V_y (Y_move rfl) rfl rfl rfl ?_
      refine V_to (fun _ _ => rfl) ?_
      have hn71 := Hp.le (α := Int) (e := 3) (v := v_t2) (l := t.at_) hH (i := 1) rfl
      obtain ⟨o31, ho31, hm⟩ := Option.bind_eq_some_iff.1 hm
      refine C_cutG (ι := ((route_matcher × (List Bool)) × (Nat → Prop))) (fun ⟨s32, A48⟩ => []) (fun ⟨s32, A48⟩ => fun w' => o31 = .fin s32 ∧ Sl A48 w' v_t0 s32.1.people ∧ Sl A48 w' v_t1 s32.1.work ∧ Hp B A48 w' (obC b_t [v_t0, v_t1, v_t2, v_t3, v_t4] 41 :: obS (α := Int) 3 v_t2 s32.1.at_ :: obS (α := Int) 3 v_t3 s32.1.free :: obS (α := Bool) 4 v_t4 s32.1.fixed :: obS (α := Bool) 4 v_seen s32.2 :: L) ∧ Tr Dw B A w28 A48 w') ?_ ?_
      · refine C_block ?_
        refine C_range ho31 (fun k34 s50 a w' => ∃ i : (Nat → Prop), Has ⟨96, [], none⟩ a ([(0, .pointer (some ⟨b_t, 0, none⟩)), (1, .int .i64 p), (2, v_seen), (28, v_t2), (29, .int .i64 (t.at_.length : Int)), (30, .int .i64 (k34 : Int))]) ∧ Sl i w' v_t0 s50.1.people ∧ Sl i w' v_t1 s50.1.work ∧ Hp B i w' (obC b_t [v_t0, v_t1, v_t2, v_t3, v_t4] 41 :: obS (α := Int) 3 v_t2 s50.1.at_ :: obS (α := Int) 3 v_t3 s50.1.free :: obS (α := Bool) 4 v_t4 s50.1.fixed :: obS (α := Bool) 4 v_seen s50.2 :: L) ∧ Tr Dw B A w28 i w') (fun a ha => ⟨A, ha.sub ⟨rfl, rfl, rfl, rfl, rfl, rfl, trivial⟩, ⟨h_t0, h_t1, hH, Tr.refl (Dw := Dw) hA⟩⟩) ?_
        rintro K k34 s50 a w51 ⟨A62, ha323, h53, h55, hH63, hr33⟩ hle67 K70 h69
        refine C_of ?_ ha323
        replace hK := Tr.trans (Dw := Dw) hK hr33
        replace hB := Nat.le_trans hB hr33.ex.size
        replace hA := hr33.new
        replace hH : Hp B A62 w51 (obC b_t [v_t0, v_t1, v_t2, v_t3, v_t4] 41 :: obS (α := Int) 3 v_t2 s50.1.at_ :: obS (α := Int) 3 v_t3 s50.1.free :: obS (α := Bool) 4 v_t4 s50.1.fixed :: obS (α := Bool) 4 v_seen s50.2 :: L) := hH63
        refine C_seq (C_region (V_y (Y_lss rfl rfl) rfl rfl rfl (V_to (fun _ _ => rfl) ?_)))
        refine C_seq ?_
        refine C_cond rfl (fun hc72 => ?_) (fun hc72 => ?_)
        · have hlt68 := lt_of_dec hc72
          obtain ⟨x64, h65, h66⟩ := K70 hlt68
          refine C_skip_to (fun _ _ => rfl) ?_
          refine C_seq ?_
          obtain ⟨o73, ho73, h65⟩ := Option.bind_eq_some_iff.1 h65
          refine C_cutG (ι := ((route_matcher × (List Bool)) × (Nat → Prop))) (fun ⟨s74, A89⟩ => [(0, .pointer (some ⟨b_t, 0, none⟩)), (1, .int .i64 p), (2, v_seen), (28, v_t2), (29, .int .i64 (t.at_.length : Int)), (30, .int .i64 (k34 : Int))]) (fun ⟨s74, A89⟩ => fun w' => o73 = .fin s74 ∧ Sl A89 w' v_t0 s74.1.people ∧ Sl A89 w' v_t1 s74.1.work ∧ Hp B A89 w' (obC b_t [v_t0, v_t1, v_t2, v_t3, v_t4] 41 :: obS (α := Int) 3 v_t2 s74.1.at_ :: obS (α := Int) 3 v_t3 s74.1.free :: obS (α := Bool) 4 v_t4 s74.1.fixed :: obS (α := Bool) 4 v_seen s74.2 :: L) ∧ Tr Dw B A62 w51 A89 w') ?_ ?_
          · have hr75 : Tr Dw B A62 w51 A62 w51 := Tr.refl (Dw := Dw) hA
            refine C_block ?_
            refine C_seq ?_
            refine C_region ?_
            refine V_y (Y_move rfl) rfl rfl rfl ?_
            obtain ⟨x91, hx91, ho73⟩ := Option.bind_eq_some_iff.1 ho73
            refine V_indexAddrH (α := Int) (e := 3) (v := v_t2) (l := s50.1.at_) hH (i := 1) rfl hx91 Tryd.underlying24 Tryd.sizeOf3 rfl rfl rfl ?_
            intro b92 o93 h94 hl95
            refine V_y (Y_load (El.int h94) Tryd.isAgg3 rfl) rfl rfl rfl ?_
            refine V_y (Y_assign rfl) rfl rfl rfl ?_
            refine V_y (Y_assign rfl) rfl rfl rfl ?_
            refine V_to (fun _ _ => rfl) ?_
            refine C_seq ?_
            refine C_seq ?_
            refine C_region ?_
            refine V_y (Y_move rfl) rfl rfl rfl ?_
            refine V_y (Y_move rfl) rfl rfl rfl ?_
            refine V_y (Y_neq rfl rfl) rfl rfl rfl ?_
            refine V_y (Y_move rfl) rfl rfl rfl ?_
            obtain ⟨s97, hs97, ho73⟩ := Option.bind_eq_some_iff.1 ho73
            refine V_cut 8 (fun _ : Unit => [(0, .pointer (some ⟨b_t, 0, none⟩)), (1, .int .i64 p), (2, v_seen), (7, .int .i64 (k34 : Int)), (28, v_t2), (29, .int .i64 (t.at_.length : Int)), (30, .int .i64 (k34 : Int)), (46, .bool s97)]) (fun _ w' => w51 = w') ?_ ?_
            · simp only [List.take, List.drop]
              rcases Bool.eq_false_or_eq_true (x91 != p) with hc96 | hc96
              · rw [if_pos hc96] at hs97
                refine V_gn rfl rfl rfl hc96 rfl rfl rfl ?_
                refine V_gn rfl rfl rfl hc96 rfl rfl rfl ?_
                refine V_gn rfl rfl rfl hc96 rfl rfl rfl ?_
                refine V_gn rfl rfl rfl hc96 rfl rfl rfl ?_
                refine V_gn rfl rfl rfl hc96 rfl rfl rfl ?_
                refine V_gn rfl rfl rfl hc96 rfl rfl rfl ?_
                refine V_gn rfl rfl rfl hc96 rfl rfl rfl ?_
                refine V_y (Y_pick_te rfl hc96 rfl) rfl rfl rfl ?_
                obtain rfl := Option.some.inj hs97
                exact V_end fun a ha => ⟨(), ha.sub ⟨rfl, rfl, rfl, rfl, rfl, rfl, rfl, rfl, trivial⟩, rfl⟩
              · rw [if_neg (nt hc96)] at hs97
                refine V_ge rfl rfl rfl hc96 ?_
                refine V_y (Y_move rfl) rfl rfl rfl ?_
                refine V_ge rfl rfl rfl hc96 ?_
                refine V_y (Y_nilCheck rfl) rfl rfl rfl ?_
                refine V_ge rfl rfl rfl hc96 ?_
                refine V_y (Y_fieldAddrC (off2 := 4) Tryd.underlying41 rfl Tryd.sizeOf39 (by decide) rfl rfl) rfl rfl rfl ?_
                refine V_ge rfl rfl rfl hc96 ?_
                refine V_y (Y_load (Hp.cell (j := 4) hH (i := 0) rfl rfl) Tryd.isAgg39 rfl) rfl rfl rfl ?_
                refine V_ge rfl rfl rfl hc96 ?_
                refine V_y (Y_move rfl) rfl rfl rfl ?_
                refine V_ge rfl rfl rfl hc96 ?_
                obtain ⟨x98, hx98, hs97⟩ := Option.bind_eq_some_iff.1 hs97
                refine V_indexAddrH (α := Bool) (e := 4) (v := v_t4) (l := s50.1.fixed) hH (i := 3) rfl hx98 Tryd.underlying39 Tryd.sizeOf4 rfl rfl rfl ?_
                intro b99 o100 h101 hl102
                refine V_ge rfl rfl rfl hc96 ?_
                refine V_y (Y_load (El.bool h101) Tryd.isAgg4 rfl) rfl rfl rfl ?_
                refine V_y (Y_pick_fe rfl hc96 rfl) rfl rfl rfl ?_
                obtain rfl := Option.some.inj hs97
                exact V_end fun a ha => ⟨(), ha.sub ⟨rfl, rfl, rfl, rfl, rfl, rfl, rfl, rfl, trivial⟩, rfl⟩
            simp only [List.take, List.drop]
            rintro _ _ rfl
            refine V_to (fun _ _ => rfl) ?_
            refine C_cond rfl (fun hc103 => ?_) (fun hc103 => ?_)
            · rw [if_pos hc103] at ho73
              obtain rfl := Option.some.inj ho73
              refine C_exit (fun a ha104 => ?_)
              exact ⟨((s50.1, s50.2), A62), ha104.sub ⟨rfl, rfl, rfl, rfl, rfl, rfl, trivial⟩, ⟨rfl, h53, h55, hH, hr75⟩⟩
            · rw [if_neg (nt hc103)] at ho73
              refine C_skip_to (fun _ _ => rfl) ?_
              refine C_seq ?_
              refine C_region ?_
              refine V_y (Y_move rfl) rfl rfl rfl ?_
              refine V_y (Y_nilCheck rfl) rfl rfl rfl ?_
              refine V_y (Y_fieldAddrC (off2 := 0) Tryd.underlying41 rfl Tryd.sizeOf22 (by decide) rfl rfl) rfl rfl rfl ?_
              refine V_y (Y_load (Hp.cell (j := 0) hH (i := 0) rfl rfl) Tryd.isAgg22 rfl) rfl rfl rfl ?_
              refine V_y (Y_lenSl h53 rfl Tryd.underlying22 rfl) rfl rfl rfl ?_
              refine V_y (Y_move rfl) rfl rfl rfl ?_
              refine V_to (fun _ _ => rfl) ?_
              have hn145 := Sl.le h53
              obtain ⟨o105, ho105, ho73⟩ := Option.bind_eq_some_iff.1 ho73
              refine C_cutG (ι := ((route_matcher × (List Bool)) × (Nat → Prop))) (fun ⟨s106, A122⟩ => [(0, .pointer (some ⟨b_t, 0, none⟩)), (1, .int .i64 p), (2, v_seen), (28, v_t2), (29, .int .i64 (t.at_.length : Int)), (30, .int .i64 (k34 : Int))]) (fun ⟨s106, A122⟩ => fun w' => o105 = .fin s106 ∧ Sl A122 w' v_t0 s106.1.people ∧ Sl A122 w' v_t1 s106.1.work ∧ Hp B A122 w' (obC b_t [v_t0, v_t1, v_t2, v_t3, v_t4] 41 :: obS (α := Int) 3 v_t2 s106.1.at_ :: obS (α := Int) 3 v_t3 s106.1.free :: obS (α := Bool) 4 v_t4 s106.1.fixed :: obS (α := Bool) 4 v_seen s106.2 :: L) ∧ Tr Dw B A62 w51 A122 w') ?_ ?_
              · refine C_block ?_
                refine C_range ho105 (fun k108 s124 a w' => ∃ i : (Nat → Prop), Has ⟨96, [], none⟩ a ([(0, .pointer (some ⟨b_t, 0, none⟩)), (1, .int .i64 p), (2, v_seen), (7, .int .i64 (k34 : Int)), (28, v_t2), (29, .int .i64 (t.at_.length : Int)), (30, .int .i64 (k34 : Int)), (51, .int .i64 (s50.1.people.length : Int)), (52, .int .i64 (k108 : Int))]) ∧ Sl i w' v_t0 s124.1.people ∧ Sl i w' v_t1 s124.1.work ∧ Hp B i w' (obC b_t [v_t0, v_t1, v_t2, v_t3, v_t4] 41 :: obS (α := Int) 3 v_t2 s124.1.at_ :: obS (α := Int) 3 v_t3 s124.1.free :: obS (α := Bool) 4 v_t4 s124.1.fixed :: obS (α := Bool) 4 v_seen s124.2 :: L) ∧ Tr Dw B A62 w51 i w') (fun a ha => ⟨A62, ha.sub ⟨rfl, rfl, rfl, rfl, rfl, rfl, rfl, rfl, rfl, trivial⟩, ⟨h53, h55, hH, Tr.refl (Dw := Dw) hA⟩⟩) ?_
                rintro K k108 s124 a w125 ⟨A136, ha319, h127, h129, hH137, hr107⟩ hle141 K144 h143
                refine C_of ?_ ha319
                replace hK := Tr.trans (Dw := Dw) hK hr107
                replace hr33 := Tr.trans (Dw := Dw) hr33 hr107
                replace hr75 := Tr.trans (Dw := Dw) hr75 hr107
                replace hB := Nat.le_trans hB hr107.ex.size
                replace hA := hr107.new
                replace hH : Hp B A136 w125 (obC b_t [v_t0, v_t1, v_t2, v_t3, v_t4] 41 :: obS (α := Int) 3 v_t2 s124.1.at_ :: obS (α := Int) 3 v_t3 s124.1.free :: obS (α := Bool) 4 v_t4 s124.1.fixed :: obS (α := Bool) 4 v_seen s124.2 :: L) := hH137
                refine C_seq (C_region (V_y (Y_lss rfl rfl) rfl rfl rfl (V_to (fun _ _ => rfl) ?_)))
                refine C_seq ?_
                refine C_cond rfl (fun hc146 => ?_) (fun hc146 => ?_)
                · have hlt142 := lt_of_dec hc146
                  obtain ⟨x138, h139, h140⟩ := K144 hlt142
                  refine C_skip_to (fun _ _ => rfl) ?_
                  refine C_seq ?_
                  refine C_block ?_
                  refine C_seq ?_
                  refine C_region ?_
                  refine V_y (Y_move rfl) rfl rfl rfl ?_
                  refine V_y (Y_assign rfl) rfl rfl rfl ?_
                  refine V_to (fun _ _ => rfl) ?_
                  refine C_seq ?_
                  refine C_seq ?_
                  obtain ⟨s148, ho147, h139⟩ := Option.bind_eq_some_iff.1 h139
                  refine C_cutG (ι := (Nat → Prop)) (fun (A163 : (Nat → Prop)) => [(0, .pointer (some ⟨b_t, 0, none⟩)), (1, .int .i64 p), (2, v_seen), (7, .int .i64 (k34 : Int)), (9, .int .i64 (k108 : Int)), (28, v_t2), (29, .int .i64 (t.at_.length : Int)), (30, .int .i64 (k34 : Int)), (51, .int .i64 (s50.1.people.length : Int)), (52, .int .i64 (k108 : Int)), (89, .bool s148.1)]) (fun (A163 : (Nat → Prop)) => fun w' => Sl A163 w' v_t0 s148.2.1.people ∧ Sl A163 w' v_t1 s148.2.1.work ∧ Hp B A163 w' (obC b_t [v_t0, v_t1, v_t2, v_t3, v_t4] 41 :: obS (α := Int) 3 v_t2 s148.2.1.at_ :: obS (α := Int) 3 v_t3 s148.2.1.free :: obS (α := Bool) 4 v_t4 s148.2.1.fixed :: obS (α := Bool) 4 v_seen s148.2.2 :: L) ∧ Tr Dw B A136 w125 A163 w') ?_ ?_
                  · have hr149 : Tr Dw B A136 w125 A136 w125 := Tr.refl (Dw := Dw) hA
                    refine C_region_qt (Dw := Dw) 32 Tryd_mixed (by kernel_rfl) ?_
                    simp only [List.take, List.drop]
                    refine VQ_y (fun w' hw' => Y_move rfl) rfl rfl rfl ?_
                    refine VQ_y (fun w' hw' => Y_move rfl) rfl rfl rfl ?_
                    refine VQ_y (fun w' hw' => Y_eql rfl rfl) rfl rfl rfl ?_
                    refine VQ_y (fun w' hw' => Y_move rfl) rfl rfl rfl ?_
                    rcases Bool.eq_false_or_eq_true ((k108 : Int) == p) with hc165 | hc165
                    · rw [if_pos hc165] at ho147
                      refine VQ_gn rfl rfl rfl hc165 rfl rfl rfl ?_
                      refine VQ_gn rfl rfl rfl hc165 rfl rfl rfl ?_
                      refine VQ_gn rfl rfl rfl hc165 rfl rfl rfl ?_
                      refine VQ_gn rfl rfl rfl hc165 rfl rfl rfl ?_
                      refine VQ_y (fun _ _ => Y_pick_te rfl hc165 rfl) rfl rfl rfl ?_
                      refine VQ_y (fun w' hw' => Y_move rfl) rfl rfl rfl ?_
                      rcases Bool.eq_false_or_eq_true (true) with hc166 | hc166
                      · rw [if_pos hc166] at ho147
                        refine VQ_gn rfl rfl rfl hc166 rfl rfl rfl ?_
                        refine VQ_gn rfl rfl rfl hc166 rfl rfl rfl ?_
                        refine VQ_gn rfl rfl rfl hc166 rfl rfl rfl ?_
                        refine VQ_gn rfl rfl rfl hc166 rfl rfl rfl ?_
                        refine VQ_gn rfl rfl rfl hc166 rfl rfl rfl ?_
                        refine VQ_gn rfl rfl rfl hc166 rfl rfl rfl ?_
                        refine VQ_gn rfl rfl rfl hc166 rfl rfl rfl ?_
                        refine VQ_gn rfl rfl rfl hc166 rfl rfl rfl ?_
                        refine VQ_gn rfl rfl rfl hc166 rfl rfl rfl ?_
                        refine VQ_gn rfl rfl rfl hc166 rfl rfl rfl ?_
                        refine VQ_gn rfl rfl rfl hc166 rfl rfl rfl ?_
                        refine VQ_gn rfl rfl rfl hc166 rfl rfl rfl ?_
                        refine VQ_gn rfl rfl rfl hc166 rfl rfl rfl ?_
                        refine VQ_gn rfl rfl rfl hc166 rfl rfl rfl ?_
                        refine VQ_gn rfl rfl rfl hc166 rfl rfl rfl ?_
                        refine VQ_gn rfl rfl rfl hc166 rfl rfl rfl ?_
                        refine VQ_gn rfl rfl rfl hc166 rfl rfl rfl ?_
                        refine VQ_y (fun _ _ => Y_pick_te rfl hc166 rfl) rfl rfl rfl ?_
                        refine VQ_y (fun w' hw' => Y_move rfl) rfl rfl rfl ?_
                        rcases Bool.eq_false_or_eq_true (true) with hc167 | hc167
                        · rw [if_pos hc167] at ho147
                          refine VQ_gn rfl rfl rfl hc167 rfl rfl rfl ?_
                          refine VQ_gn rfl rfl rfl hc167 rfl rfl rfl ?_
                          refine VQ_gn rfl rfl rfl hc167 rfl rfl rfl ?_
                          refine VQ_tail (fun w168 hk169 => ?_)
                          try simp only [List.take, List.drop]
                          have ht170 := Kp.tr (Dw := Dw) hk169 hA hB
                          replace hH := Hp.kp (Dw := Dw) hH hk169
                          replace h127 := Sl.tr (Dw := Dw) h127 ht170
                          replace h129 := Sl.tr (Dw := Dw) h129 ht170
                          replace hK := Tr.trans (Dw := Dw) hK ht170
                          replace hr33 := Tr.trans (Dw := Dw) hr33 ht170
                          replace hr75 := Tr.trans (Dw := Dw) hr75 ht170
                          replace hr107 := Tr.trans (Dw := Dw) hr107 ht170
                          replace hr149 := Tr.trans (Dw := Dw) hr149 ht170
                          replace hB := Nat.le_trans hB ht170.ex.size
                          replace hA := ht170.new
                          refine V_gn rfl rfl rfl hc167 rfl rfl rfl ?_
                          refine V_gn rfl rfl rfl hc167 rfl rfl rfl ?_
                          refine V_y (Y_pick_te rfl hc167 rfl) rfl rfl rfl ?_
                          obtain rfl := Option.some.inj ho147
                          refine V_end (fun a ha171 => ?_)
                          exact ⟨A136, ha171.sub ⟨rfl, rfl, rfl, rfl, rfl, rfl, rfl, rfl, rfl, rfl, rfl, trivial⟩, ⟨h127, h129, hH, hr149⟩⟩
                        · rw [if_neg (nt hc167)] at ho147
                          refine VQ_ge rfl rfl rfl hc167 ?_
                          refine VQ_y (fun w' hw' => Y_move rfl) rfl rfl rfl ?_
                          refine VQ_ge rfl rfl rfl hc167 ?_
                          refine VQ_y (fun w' hw' => Y_move rfl) rfl rfl rfl ?_
                          refine VQ_ge rfl rfl rfl hc167 ?_
                          refine VQ_y (fun w' hw' => Y_move rfl) rfl rfl rfl ?_
                          refine VQ_tail (fun w172 hk173 => ?_)
                          try simp only [List.take, List.drop]
                          have ht174 := Kp.tr (Dw := Dw) hk173 hA hB
                          replace hH := Hp.kp (Dw := Dw) hH hk173
                          replace h127 := Sl.tr (Dw := Dw) h127 ht174
                          replace h129 := Sl.tr (Dw := Dw) h129 ht174
                          replace hK := Tr.trans (Dw := Dw) hK ht174
                          replace hr33 := Tr.trans (Dw := Dw) hr33 ht174
                          replace hr75 := Tr.trans (Dw := Dw) hr75 ht174
                          replace hr107 := Tr.trans (Dw := Dw) hr107 ht174
                          replace hr149 := Tr.trans (Dw := Dw) hr149 ht174
                          replace hB := Nat.le_trans hB ht174.ex.size
                          replace hA := ht174.new
                          refine V_ge rfl rfl rfl hc167 ?_
                          replace hH : Hp B A136 w172 (obS (α := Bool) 4 v_seen s124.2 :: obC b_t [v_t0, v_t1, v_t2, v_t3, v_t4] 41 :: obS (α := Int) 3 v_t2 s124.1.at_ :: obS (α := Int) 3 v_t3 s124.1.free :: obS (α := Bool) 4 v_t4 s124.1.fixed :: L) := Hp.front hH (i := 4) rfl
                          replace hH : Hp B A136 w172 (obS (α := Bool) 4 v_t4 s124.1.fixed :: obS (α := Bool) 4 v_seen s124.2 :: obC b_t [v_t0, v_t1, v_t2, v_t3, v_t4] 41 :: obS (α := Int) 3 v_t2 s124.1.at_ :: obS (α := Int) 3 v_t3 s124.1.free :: L) := Hp.front hH (i := 4) rfl
                          replace hH : Hp B A136 w172 (obS (α := Int) 3 v_t3 s124.1.free :: obS (α := Bool) 4 v_t4 s124.1.fixed :: obS (α := Bool) 4 v_seen s124.2 :: obC b_t [v_t0, v_t1, v_t2, v_t3, v_t4] 41 :: obS (α := Int) 3 v_t2 s124.1.at_ :: L) := Hp.front hH (i := 4) rfl
                          replace hH : Hp B A136 w172 (obS (α := Int) 3 v_t2 s124.1.at_ :: obS (α := Int) 3 v_t3 s124.1.free :: obS (α := Bool) 4 v_t4 s124.1.fixed :: obS (α := Bool) 4 v_seen s124.2 :: obC b_t [v_t0, v_t1, v_t2, v_t3, v_t4] 41 :: L) := Hp.front hH (i := 4) rfl
                          replace hH : Hp B A136 w172 (obC b_t [v_t0, v_t1, v_t2, v_t3, v_t4] 41 :: obS (α := Int) 3 v_t2 s124.1.at_ :: obS (α := Int) 3 v_t3 s124.1.free :: obS (α := Bool) 4 v_t4 s124.1.fixed :: obS (α := Bool) 4 v_seen s124.2 :: L) := Hp.front hH (i := 4) rfl
                          obtain ⟨x175, hx175, ho147⟩ := Option.bind_eq_some_iff.1 ho147
                          refine V_call Tryd.call30 rfl rfl rfl rfl (REC_c w172 hB hA s124.1 b_t v_t0 h127 v_t1 h129 v_t2 v_t3 v_t4 (k108 : Int) s124.2 v_seen hH hx175) ?_
                          rintro _ w186 ⟨A187, rfl, h177, h179, hH188, ht189⟩
                          replace h127 := Sl.tr (Dw := Dw) h127 ht189
                          replace h129 := Sl.tr (Dw := Dw) h129 ht189
                          replace hK := Tr.trans (Dw := Dw) hK ht189
                          replace hr33 := Tr.trans (Dw := Dw) hr33 ht189
                          replace hr75 := Tr.trans (Dw := Dw) hr75 ht189
                          replace hr107 := Tr.trans (Dw := Dw) hr107 ht189
                          replace hr149 := Tr.trans (Dw := Dw) hr149 ht189
                          replace hB := Nat.le_trans hB ht189.ex.size
                          replace hA := ht189.new
                          replace hH : Hp B A187 w186 (obC b_t [v_t0, v_t1, v_t2, v_t3, v_t4] 41 :: obS (α := Int) 3 v_t2 x175.2.1.at_ :: obS (α := Int) 3 v_t3 x175.2.1.free :: obS (α := Bool) 4 v_t4 x175.2.1.fixed :: obS (α := Bool) 4 v_seen x175.2.2 :: L) := hH188
                          refine V_ge rfl rfl rfl hc167 ?_
                          refine V_y (Y_not rfl) rfl rfl rfl ?_
                          refine V_y (Y_pick_fe rfl hc167 rfl) rfl rfl rfl ?_
                          obtain rfl := Option.some.inj ho147
                          refine V_end (fun a ha190 => ?_)
                          exact ⟨A187, ha190.sub ⟨rfl, rfl, rfl, rfl, rfl, rfl, rfl, rfl, rfl, rfl, rfl, trivial⟩, ⟨h177, h179, hH, hr149⟩⟩
                      · rw [if_neg (nt hc166)] at ho147
                        refine VQ_ge rfl rfl rfl hc166 ?_
                        refine VQ_y (fun w' hw' => Y_move rfl) rfl rfl rfl ?_
                        refine VQ_ge rfl rfl rfl hc166 ?_
                        refine VQ_y (fun w' hw' => Y_nilCheck rfl) rfl rfl rfl ?_
                        refine VQ_ge rfl rfl rfl hc166 ?_
                        refine VQ_y (fun w' hw' => Y_fieldAddrC (off2 := 0) Tryd.underlying41 rfl Tryd.sizeOf22 (by decide) rfl rfl) rfl rfl rfl ?_
                        refine VQ_ge rfl rfl rfl hc166 ?_
                        refine VQ_y (fun w' hw' => Y_load ((World.cell?_of_block (hw'.block _ (World.block_lt_of_cell? _ _ (Hp.cell (j := 0) hH (i := 0) rfl rfl)))).trans (Hp.cell (j := 0) hH (i := 0) rfl rfl)) Tryd.isAgg22 rfl) rfl rfl rfl ?_
                        refine VQ_ge rfl rfl rfl hc166 ?_
                        refine VQ_y (fun w' hw' => Y_move rfl) rfl rfl rfl ?_
                        refine VQ_ge rfl rfl rfl hc166 ?_
                        obtain ⟨x191, hx191, ho147⟩ := Option.bind_eq_some_iff.1 ho147
                        refine VQ_indexAddr h127 hx191 Tryd.underlying22 Tryd.sizeOf43 rfl rfl rfl ?_
                        intro b192 o193 h194
                        refine VQ_ge rfl rfl rfl hc166 ?_
                        obtain ⟨v195, h197, h196⟩ := El_route_Person h194
                        refine VQ_y (fun w' hw' => Y_loadA (At.kp (Dw := Dw) h197 hw' h194.2.1) Tryd.isAgg43 Tryd.sizeOf43 rfl) rfl rfl rfl ?_
                        refine VQ_ge rfl rfl rfl hc166 ?_
                        refine VQ_y (fun w' hw' => Y_move rfl) rfl rfl rfl ?_
                        refine VQ_ge rfl rfl rfl hc166 ?_
                        refine VQ_y (fun w' hw' => Y_nilCheck rfl) rfl rfl rfl ?_
                        refine VQ_ge rfl rfl rfl hc166 ?_
                        refine VQ_y (fun w' hw' => Y_fieldAddrC (off2 := 1) Tryd.underlying41 rfl Tryd.sizeOf23 (by decide) rfl rfl) rfl rfl rfl ?_
                        refine VQ_ge rfl rfl rfl hc166 ?_
                        refine VQ_y (fun w' hw' => Y_load ((World.cell?_of_block (hw'.block _ (World.block_lt_of_cell? _ _ (Hp.cell (j := 1) hH (i := 0) rfl rfl)))).trans (Hp.cell (j := 1) hH (i := 0) rfl rfl)) Tryd.isAgg23 rfl) rfl rfl rfl ?_
                        refine VQ_ge rfl rfl rfl hc166 ?_
                        refine VQ_y (fun w' hw' => Y_move rfl) rfl rfl rfl ?_
                        refine VQ_ge rfl rfl rfl hc166 ?_
                        obtain ⟨x198, hx198, ho147⟩ := Option.bind_eq_some_iff.1 ho147
                        refine VQ_indexAddr h129 hx198 Tryd.underlying23 Tryd.sizeOf36 rfl rfl rfl ?_
                        intro b199 o200 h201
                        refine VQ_ge rfl rfl rfl hc166 ?_
                        have h202 := El_route_Work_5 h201
                        refine VQ_y (fun w' hw' => Y_fieldAddr Tryd.underlying36 rfl Tryd.sizeOf34 (by decide) rfl) rfl rfl rfl ?_
                        refine VQ_ge rfl rfl rfl hc166 ?_
                        obtain ⟨v203, h204, h205⟩ := El.list h202
                        refine VQ_y (fun w' hw' => Y_load ((World.cell?_of_block (hw'.block _ (World.block_lt_of_cell? _ _ h204))).trans h204) Tryd.isAgg34 rfl) rfl rfl rfl ?_
                        refine VQ_ge rfl rfl rfl hc166 ?_
                        obtain ⟨x206, hx206, ho147⟩ := Option.bind_eq_some_iff.1 ho147
                        refine VQ_call (.bool x206) Tryd.call28 rfl rfl rfl rfl (fun w' hw' => (route_Person_able_c (Dw := Dw) w' (fun b hb => hA b (Nat.le_trans hw'.size hb)) x191 v195 (Sl.kp (Dw := Dw) h196 hw') x198.needs v203 (Sl.kp (Dw := Dw) h205 hw') hx206).mono (fun _ _ h => ⟨h.1, Kp.trans (Dw := Dw) hw' h.2⟩)) ?_
                        refine VQ_ge rfl rfl rfl hc166 ?_
                        refine VQ_y (fun w' hw' => Y_not rfl) rfl rfl rfl ?_
                        refine VQ_y (fun _ _ => Y_pick_fe rfl hc166 rfl) rfl rfl rfl ?_
                        refine VQ_y (fun w' hw' => Y_move rfl) rfl rfl rfl ?_
                        rcases Bool.eq_false_or_eq_true (!x206) with hc207 | hc207
                        · rw [if_pos hc207] at ho147
                          refine VQ_gn rfl rfl rfl hc207 rfl rfl rfl ?_
                          refine VQ_gn rfl rfl rfl hc207 rfl rfl rfl ?_
                          refine VQ_gn rfl rfl rfl hc207 rfl rfl rfl ?_
                          refine VQ_tail (fun w208 hk209 => ?_)
                          try simp only [List.take, List.drop]
                          have ht210 := Kp.tr (Dw := Dw) hk209 hA hB
                          replace hH := Hp.kp (Dw := Dw) hH hk209
                          replace h127 := Sl.tr (Dw := Dw) h127 ht210
                          replace h194 := El.tr (Dw := Dw) h194 ht210
                          replace h196 := Sl.tr (Dw := Dw) h196 ht210
                          replace h129 := Sl.tr (Dw := Dw) h129 ht210
                          replace h201 := El.tr (Dw := Dw) h201 ht210
                          replace h202 := El.tr (Dw := Dw) h202 ht210
                          replace h205 := Sl.tr (Dw := Dw) h205 ht210
                          replace hK := Tr.trans (Dw := Dw) hK ht210
                          replace hr33 := Tr.trans (Dw := Dw) hr33 ht210
                          replace hr75 := Tr.trans (Dw := Dw) hr75 ht210
                          replace hr107 := Tr.trans (Dw := Dw) hr107 ht210
                          replace hr149 := Tr.trans (Dw := Dw) hr149 ht210
                          replace hB := Nat.le_trans hB ht210.ex.size
                          replace hA := ht210.new
                          refine V_gn rfl rfl rfl hc207 rfl rfl rfl ?_
                          refine V_gn rfl rfl rfl hc207 rfl rfl rfl ?_
                          refine V_y (Y_pick_te rfl hc207 rfl) rfl rfl rfl ?_
                          obtain rfl := Option.some.inj ho147
                          refine V_end (fun a ha211 => ?_)
                          exact ⟨A136, ha211.sub ⟨rfl, rfl, rfl, rfl, rfl, rfl, rfl, rfl, rfl, rfl, rfl, trivial⟩, ⟨h127, h129, hH, hr149⟩⟩
                        · rw [if_neg (nt hc207)] at ho147
                          refine VQ_ge rfl rfl rfl hc207 ?_
                          refine VQ_y (fun w' hw' => Y_move rfl) rfl rfl rfl ?_
                          refine VQ_ge rfl rfl rfl hc207 ?_
                          refine VQ_y (fun w' hw' => Y_move rfl) rfl rfl rfl ?_
                          refine VQ_ge rfl rfl rfl hc207 ?_
                          refine VQ_y (fun w' hw' => Y_move rfl) rfl rfl rfl ?_
                          refine VQ_tail (fun w212 hk213 => ?_)
                          try simp only [List.take, List.drop]
                          have ht214 := Kp.tr (Dw := Dw) hk213 hA hB
                          replace hH := Hp.kp (Dw := Dw) hH hk213
                          replace h127 := Sl.tr (Dw := Dw) h127 ht214
                          replace h194 := El.tr (Dw := Dw) h194 ht214
                          replace h196 := Sl.tr (Dw := Dw) h196 ht214
                          replace h129 := Sl.tr (Dw := Dw) h129 ht214
                          replace h201 := El.tr (Dw := Dw) h201 ht214
                          replace h202 := El.tr (Dw := Dw) h202 ht214
                          replace h205 := Sl.tr (Dw := Dw) h205 ht214
                          replace hK := Tr.trans (Dw := Dw) hK ht214
                          replace hr33 := Tr.trans (Dw := Dw) hr33 ht214
                          replace hr75 := Tr.trans (Dw := Dw) hr75 ht214
                          replace hr107 := Tr.trans (Dw := Dw) hr107 ht214
                          replace hr149 := Tr.trans (Dw := Dw) hr149 ht214
                          replace hB := Nat.le_trans hB ht214.ex.size
                          replace hA := ht214.new
                          refine V_ge rfl rfl rfl hc207 ?_
                          replace hH : Hp B A136 w212 (obS (α := Bool) 4 v_seen s124.2 :: obC b_t [v_t0, v_t1, v_t2, v_t3, v_t4] 41 :: obS (α := Int) 3 v_t2 s124.1.at_ :: obS (α := Int) 3 v_t3 s124.1.free :: obS (α := Bool) 4 v_t4 s124.1.fixed :: L) := Hp.front hH (i := 4) rfl
                          replace hH : Hp B A136 w212 (obS (α := Bool) 4 v_t4 s124.1.fixed :: obS (α := Bool) 4 v_seen s124.2 :: obC b_t [v_t0, v_t1, v_t2, v_t3, v_t4] 41 :: obS (α := Int) 3 v_t2 s124.1.at_ :: obS (α := Int) 3 v_t3 s124.1.free :: L) := Hp.front hH (i := 4) rfl
                          replace hH : Hp B A136 w212 (obS (α := Int) 3 v_t3 s124.1.free :: obS (α := Bool) 4 v_t4 s124.1.fixed :: obS (α := Bool) 4 v_seen s124.2 :: obC b_t [v_t0, v_t1, v_t2, v_t3, v_t4] 41 :: obS (α := Int) 3 v_t2 s124.1.at_ :: L) := Hp.front hH (i := 4) rfl
                          replace hH : Hp B A136 w212 (obS (α := Int) 3 v_t2 s124.1.at_ :: obS (α := Int) 3 v_t3 s124.1.free :: obS (α := Bool) 4 v_t4 s124.1.fixed :: obS (α := Bool) 4 v_seen s124.2 :: obC b_t [v_t0, v_t1, v_t2, v_t3, v_t4] 41 :: L) := Hp.front hH (i := 4) rfl
                          replace hH : Hp B A136 w212 (obC b_t [v_t0, v_t1, v_t2, v_t3, v_t4] 41 :: obS (α := Int) 3 v_t2 s124.1.at_ :: obS (α := Int) 3 v_t3 s124.1.free :: obS (α := Bool) 4 v_t4 s124.1.fixed :: obS (α := Bool) 4 v_seen s124.2 :: L) := Hp.front hH (i := 4) rfl
                          obtain ⟨x215, hx215, ho147⟩ := Option.bind_eq_some_iff.1 ho147
                          refine V_call Tryd.call30 rfl rfl rfl rfl (REC_c w212 hB hA s124.1 b_t v_t0 h127 v_t1 h129 v_t2 v_t3 v_t4 (k108 : Int) s124.2 v_seen hH hx215) ?_
                          rintro _ w226 ⟨A227, rfl, h217, h219, hH228, ht229⟩
                          replace h127 := Sl.tr (Dw := Dw) h127 ht229
                          replace h194 := El.tr (Dw := Dw) h194 ht229
                          replace h196 := Sl.tr (Dw := Dw) h196 ht229
                          replace h129 := Sl.tr (Dw := Dw) h129 ht229
                          replace h201 := El.tr (Dw := Dw) h201 ht229
                          replace h202 := El.tr (Dw := Dw) h202 ht229
                          replace h205 := Sl.tr (Dw := Dw) h205 ht229
                          replace hK := Tr.trans (Dw := Dw) hK ht229
                          replace hr33 := Tr.trans (Dw := Dw) hr33 ht229
                          replace hr75 := Tr.trans (Dw := Dw) hr75 ht229
                          replace hr107 := Tr.trans (Dw := Dw) hr107 ht229
                          replace hr149 := Tr.trans (Dw := Dw) hr149 ht229
                          replace hB := Nat.le_trans hB ht229.ex.size
                          replace hA := ht229.new
                          replace hH : Hp B A227 w226 (obC b_t [v_t0, v_t1, v_t2, v_t3, v_t4] 41 :: obS (α := Int) 3 v_t2 x215.2.1.at_ :: obS (α := Int) 3 v_t3 x215.2.1.free :: obS (α := Bool) 4 v_t4 x215.2.1.fixed :: obS (α := Bool) 4 v_seen x215.2.2 :: L) := hH228
                          refine V_ge rfl rfl rfl hc207 ?_
                          refine V_y (Y_not rfl) rfl rfl rfl ?_
                          refine V_y (Y_pick_fe rfl hc207 rfl) rfl rfl rfl ?_
                          obtain rfl := Option.some.inj ho147
                          refine V_end (fun a ha230 => ?_)
                          exact ⟨A227, ha230.sub ⟨rfl, rfl, rfl, rfl, rfl, rfl, rfl, rfl, rfl, rfl, rfl, trivial⟩, ⟨h217, h219, hH, hr149⟩⟩
                    · rw [if_neg (nt hc165)] at ho147
                      refine VQ_ge rfl rfl rfl hc165 ?_
                      refine VQ_y (fun w' hw' => Y_move rfl) rfl rfl rfl ?_
                      refine VQ_ge rfl rfl rfl hc165 ?_
                      refine VQ_y (fun w' hw' => Y_move rfl) rfl rfl rfl ?_
                      refine VQ_ge rfl rfl rfl hc165 ?_
                      obtain ⟨x231, hx231, ho147⟩ := Option.bind_eq_some_iff.1 ho147
                      refine VQ_indexAddrH (α := Bool) (e := 4) (v := v_seen) (l := s124.2) hH (i := 4) rfl hx231 Tryd.underlying39 Tryd.sizeOf4 rfl rfl rfl ?_
                      intro b232 o233 h234 hl235
                      refine VQ_ge rfl rfl rfl hc165 ?_
                      refine VQ_y (fun w' hw' => Y_load (El.bool (El.kp (Dw := Dw) h234 hw')) Tryd.isAgg4 rfl) rfl rfl rfl ?_
                      refine VQ_y (fun _ _ => Y_pick_fe rfl hc165 rfl) rfl rfl rfl ?_
                      refine VQ_y (fun w' hw' => Y_move rfl) rfl rfl rfl ?_
                      rcases Bool.eq_false_or_eq_true (x231) with hc236 | hc236
                      · rw [if_pos hc236] at ho147
                        refine VQ_gn rfl rfl rfl hc236 rfl rfl rfl ?_
                        refine VQ_gn rfl rfl rfl hc236 rfl rfl rfl ?_
                        refine VQ_gn rfl rfl rfl hc236 rfl rfl rfl ?_
                        refine VQ_gn rfl rfl rfl hc236 rfl rfl rfl ?_
                        refine VQ_gn rfl rfl rfl hc236 rfl rfl rfl ?_
                        refine VQ_gn rfl rfl rfl hc236 rfl rfl rfl ?_
                        refine VQ_gn rfl rfl rfl hc236 rfl rfl rfl ?_
                        refine VQ_gn rfl rfl rfl hc236 rfl rfl rfl ?_
                        refine VQ_gn rfl rfl rfl hc236 rfl rfl rfl ?_
                        refine VQ_gn rfl rfl rfl hc236 rfl rfl rfl ?_
                        refine VQ_gn rfl rfl rfl hc236 rfl rfl rfl ?_
                        refine VQ_gn rfl rfl rfl hc236 rfl rfl rfl ?_
                        refine VQ_gn rfl rfl rfl hc236 rfl rfl rfl ?_
                        refine VQ_gn rfl rfl rfl hc236 rfl rfl rfl ?_
                        refine VQ_gn rfl rfl rfl hc236 rfl rfl rfl ?_
                        refine VQ_gn rfl rfl rfl hc236 rfl rfl rfl ?_
                        refine VQ_gn rfl rfl rfl hc236 rfl rfl rfl ?_
                        refine VQ_y (fun _ _ => Y_pick_te rfl hc236 rfl) rfl rfl rfl ?_
                        refine VQ_y (fun w' hw' => Y_move rfl) rfl rfl rfl ?_
                        rcases Bool.eq_false_or_eq_true (true) with hc237 | hc237
                        · rw [if_pos hc237] at ho147
                          refine VQ_gn rfl rfl rfl hc237 rfl rfl rfl ?_
                          refine VQ_gn rfl rfl rfl hc237 rfl rfl rfl ?_
                          refine VQ_gn rfl rfl rfl hc237 rfl rfl rfl ?_
                          refine VQ_tail (fun w238 hk239 => ?_)
                          try simp only [List.take, List.drop]
                          have ht240 := Kp.tr (Dw := Dw) hk239 hA hB
                          replace hH := Hp.kp (Dw := Dw) hH hk239
                          replace h234 := El.kp (Dw := Dw) h234 hk239
                          replace h127 := Sl.tr (Dw := Dw) h127 ht240
                          replace h129 := Sl.tr (Dw := Dw) h129 ht240
                          replace hK := Tr.trans (Dw := Dw) hK ht240
                          replace hr33 := Tr.trans (Dw := Dw) hr33 ht240
                          replace hr75 := Tr.trans (Dw := Dw) hr75 ht240
                          replace hr107 := Tr.trans (Dw := Dw) hr107 ht240
                          replace hr149 := Tr.trans (Dw := Dw) hr149 ht240
                          replace hB := Nat.le_trans hB ht240.ex.size
                          replace hA := ht240.new
                          refine V_gn rfl rfl rfl hc237 rfl rfl rfl ?_
                          refine V_gn rfl rfl rfl hc237 rfl rfl rfl ?_
                          refine V_y (Y_pick_te rfl hc237 rfl) rfl rfl rfl ?_
                          obtain rfl := Option.some.inj ho147
                          refine V_end (fun a ha241 => ?_)
                          exact ⟨A136, ha241.sub ⟨rfl, rfl, rfl, rfl, rfl, rfl, rfl, rfl, rfl, rfl, rfl, trivial⟩, ⟨h127, h129, hH, hr149⟩⟩
                        · rw [if_neg (nt hc237)] at ho147
                          refine VQ_ge rfl rfl rfl hc237 ?_
                          refine VQ_y (fun w' hw' => Y_move rfl) rfl rfl rfl ?_
                          refine VQ_ge rfl rfl rfl hc237 ?_
                          refine VQ_y (fun w' hw' => Y_move rfl) rfl rfl rfl ?_
                          refine VQ_ge rfl rfl rfl hc237 ?_
                          refine VQ_y (fun w' hw' => Y_move rfl) rfl rfl rfl ?_
                          refine VQ_tail (fun w242 hk243 => ?_)
                          try simp only [List.take, List.drop]
                          have ht244 := Kp.tr (Dw := Dw) hk243 hA hB
                          replace hH := Hp.kp (Dw := Dw) hH hk243
                          replace h234 := El.kp (Dw := Dw) h234 hk243
                          replace h127 := Sl.tr (Dw := Dw) h127 ht244
                          replace h129 := Sl.tr (Dw := Dw) h129 ht244
                          replace hK := Tr.trans (Dw := Dw) hK ht244
                          replace hr33 := Tr.trans (Dw := Dw) hr33 ht244
                          replace hr75 := Tr.trans (Dw := Dw) hr75 ht244
                          replace hr107 := Tr.trans (Dw := Dw) hr107 ht244
                          replace hr149 := Tr.trans (Dw := Dw) hr149 ht244
                          replace hB := Nat.le_trans hB ht244.ex.size
                          replace hA := ht244.new
                          refine V_ge rfl rfl rfl hc237 ?_
                          replace hH : Hp B A136 w242 (obS (α := Bool) 4 v_seen s124.2 :: obC b_t [v_t0, v_t1, v_t2, v_t3, v_t4] 41 :: obS (α := Int) 3 v_t2 s124.1.at_ :: obS (α := Int) 3 v_t3 s124.1.free :: obS (α := Bool) 4 v_t4 s124.1.fixed :: L) := Hp.front hH (i := 4) rfl
                          replace hH : Hp B A136 w242 (obS (α := Bool) 4 v_t4 s124.1.fixed :: obS (α := Bool) 4 v_seen s124.2 :: obC b_t [v_t0, v_t1, v_t2, v_t3, v_t4] 41 :: obS (α := Int) 3 v_t2 s124.1.at_ :: obS (α := Int) 3 v_t3 s124.1.free :: L) := Hp.front hH (i := 4) rfl
                          replace hH : Hp B A136 w242 (obS (α := Int) 3 v_t3 s124.1.free :: obS (α := Bool) 4 v_t4 s124.1.fixed :: obS (α := Bool) 4 v_seen s124.2 :: obC b_t [v_t0, v_t1, v_t2, v_t3, v_t4] 41 :: obS (α := Int) 3 v_t2 s124.1.at_ :: L) := Hp.front hH (i := 4) rfl
                          replace hH : Hp B A136 w242 (obS (α := Int) 3 v_t2 s124.1.at_ :: obS (α := Int) 3 v_t3 s124.1.free :: obS (α := Bool) 4 v_t4 s124.1.fixed :: obS (α := Bool) 4 v_seen s124.2 :: obC b_t [v_t0, v_t1, v_t2, v_t3, v_t4] 41 :: L) := Hp.front hH (i := 4) rfl
                          replace hH : Hp B A136 w242 (obC b_t [v_t0, v_t1, v_t2, v_t3, v_t4] 41 :: obS (α := Int) 3 v_t2 s124.1.at_ :: obS (α := Int) 3 v_t3 s124.1.free :: obS (α := Bool) 4 v_t4 s124.1.fixed :: obS (α := Bool) 4 v_seen s124.2 :: L) := Hp.front hH (i := 4) rfl
                          obtain ⟨x245, hx245, ho147⟩ := Option.bind_eq_some_iff.1 ho147
                          refine V_call Tryd.call30 rfl rfl rfl rfl (REC_c w242 hB hA s124.1 b_t v_t0 h127 v_t1 h129 v_t2 v_t3 v_t4 (k108 : Int) s124.2 v_seen hH hx245) ?_
                          rintro _ w256 ⟨A257, rfl, h247, h249, hH258, ht259⟩
                          replace h127 := Sl.tr (Dw := Dw) h127 ht259
                          replace h129 := Sl.tr (Dw := Dw) h129 ht259
                          replace hK := Tr.trans (Dw := Dw) hK ht259
                          replace hr33 := Tr.trans (Dw := Dw) hr33 ht259
                          replace hr75 := Tr.trans (Dw := Dw) hr75 ht259
                          replace hr107 := Tr.trans (Dw := Dw) hr107 ht259
                          replace hr149 := Tr.trans (Dw := Dw) hr149 ht259
                          replace hB := Nat.le_trans hB ht259.ex.size
                          replace hA := ht259.new
                          replace hH : Hp B A257 w256 (obC b_t [v_t0, v_t1, v_t2, v_t3, v_t4] 41 :: obS (α := Int) 3 v_t2 x245.2.1.at_ :: obS (α := Int) 3 v_t3 x245.2.1.free :: obS (α := Bool) 4 v_t4 x245.2.1.fixed :: obS (α := Bool) 4 v_seen x245.2.2 :: L) := hH258
                          refine V_ge rfl rfl rfl hc237 ?_
                          refine V_y (Y_not rfl) rfl rfl rfl ?_
                          refine V_y (Y_pick_fe rfl hc237 rfl) rfl rfl rfl ?_
                          obtain rfl := Option.some.inj ho147
                          refine V_end (fun a ha260 => ?_)
                          exact ⟨A257, ha260.sub ⟨rfl, rfl, rfl, rfl, rfl, rfl, rfl, rfl, rfl, rfl, rfl, trivial⟩, ⟨h247, h249, hH, hr149⟩⟩
                      · rw [if_neg (nt hc236)] at ho147
                        refine VQ_ge rfl rfl rfl hc236 ?_
                        refine VQ_y (fun w' hw' => Y_move rfl) rfl rfl rfl ?_
                        refine VQ_ge rfl rfl rfl hc236 ?_
                        refine VQ_y (fun w' hw' => Y_nilCheck rfl) rfl rfl rfl ?_
                        refine VQ_ge rfl rfl rfl hc236 ?_
                        refine VQ_y (fun w' hw' => Y_fieldAddrC (off2 := 0) Tryd.underlying41 rfl Tryd.sizeOf22 (by decide) rfl rfl) rfl rfl rfl ?_
                        refine VQ_ge rfl rfl rfl hc236 ?_
                        refine VQ_y (fun w' hw' => Y_load ((World.cell?_of_block (hw'.block _ (World.block_lt_of_cell? _ _ (Hp.cell (j := 0) hH (i := 0) rfl rfl)))).trans (Hp.cell (j := 0) hH (i := 0) rfl rfl)) Tryd.isAgg22 rfl) rfl rfl rfl ?_
                        refine VQ_ge rfl rfl rfl hc236 ?_
                        refine VQ_y (fun w' hw' => Y_move rfl) rfl rfl rfl ?_
                        refine VQ_ge rfl rfl rfl hc236 ?_
                        obtain ⟨x261, hx261, ho147⟩ := Option.bind_eq_some_iff.1 ho147
                        refine VQ_indexAddr h127 hx261 Tryd.underlying22 Tryd.sizeOf43 rfl rfl rfl ?_
                        intro b262 o263 h264
                        refine VQ_ge rfl rfl rfl hc236 ?_
                        obtain ⟨v265, h267, h266⟩ := El_route_Person h264
                        refine VQ_y (fun w' hw' => Y_loadA (At.kp (Dw := Dw) h267 hw' h264.2.1) Tryd.isAgg43 Tryd.sizeOf43 rfl) rfl rfl rfl ?_
                        refine VQ_ge rfl rfl rfl hc236 ?_
                        refine VQ_y (fun w' hw' => Y_move rfl) rfl rfl rfl ?_
                        refine VQ_ge rfl rfl rfl hc236 ?_
                        refine VQ_y (fun w' hw' => Y_nilCheck rfl) rfl rfl rfl ?_
                        refine VQ_ge rfl rfl rfl hc236 ?_
                        refine VQ_y (fun w' hw' => Y_fieldAddrC (off2 := 1) Tryd.underlying41 rfl Tryd.sizeOf23 (by decide) rfl rfl) rfl rfl rfl ?_
                        refine VQ_ge rfl rfl rfl hc236 ?_
                        refine VQ_y (fun w' hw' => Y_load ((World.cell?_of_block (hw'.block _ (World.block_lt_of_cell? _ _ (Hp.cell (j := 1) hH (i := 0) rfl rfl)))).trans (Hp.cell (j := 1) hH (i := 0) rfl rfl)) Tryd.isAgg23 rfl) rfl rfl rfl ?_
                        refine VQ_ge rfl rfl rfl hc236 ?_
                        refine VQ_y (fun w' hw' => Y_move rfl) rfl rfl rfl ?_
                        refine VQ_ge rfl rfl rfl hc236 ?_
                        obtain ⟨x268, hx268, ho147⟩ := Option.bind_eq_some_iff.1 ho147
                        refine VQ_indexAddr h129 hx268 Tryd.underlying23 Tryd.sizeOf36 rfl rfl rfl ?_
                        intro b269 o270 h271
                        refine VQ_ge rfl rfl rfl hc236 ?_
                        have h272 := El_route_Work_5 h271
                        refine VQ_y (fun w' hw' => Y_fieldAddr Tryd.underlying36 rfl Tryd.sizeOf34 (by decide) rfl) rfl rfl rfl ?_
                        refine VQ_ge rfl rfl rfl hc236 ?_
                        obtain ⟨v273, h274, h275⟩ := El.list h272
                        refine VQ_y (fun w' hw' => Y_load ((World.cell?_of_block (hw'.block _ (World.block_lt_of_cell? _ _ h274))).trans h274) Tryd.isAgg34 rfl) rfl rfl rfl ?_
                        refine VQ_ge rfl rfl rfl hc236 ?_
                        obtain ⟨x276, hx276, ho147⟩ := Option.bind_eq_some_iff.1 ho147
                        refine VQ_call (.bool x276) Tryd.call28 rfl rfl rfl rfl (fun w' hw' => (route_Person_able_c (Dw := Dw) w' (fun b hb => hA b (Nat.le_trans hw'.size hb)) x261 v265 (Sl.kp (Dw := Dw) h266 hw') x268.needs v273 (Sl.kp (Dw := Dw) h275 hw') hx276).mono (fun _ _ h => ⟨h.1, Kp.trans (Dw := Dw) hw' h.2⟩)) ?_
                        refine VQ_ge rfl rfl rfl hc236 ?_
                        refine VQ_y (fun w' hw' => Y_not rfl) rfl rfl rfl ?_
                        refine VQ_y (fun _ _ => Y_pick_fe rfl hc236 rfl) rfl rfl rfl ?_
                        refine VQ_y (fun w' hw' => Y_move rfl) rfl rfl rfl ?_
                        rcases Bool.eq_false_or_eq_true (!x276) with hc277 | hc277
                        · rw [if_pos hc277] at ho147
                          refine VQ_gn rfl rfl rfl hc277 rfl rfl rfl ?_
                          refine VQ_gn rfl rfl rfl hc277 rfl rfl rfl ?_
                          refine VQ_gn rfl rfl rfl hc277 rfl rfl rfl ?_
                          refine VQ_tail (fun w278 hk279 => ?_)
                          try simp only [List.take, List.drop]
                          have ht280 := Kp.tr (Dw := Dw) hk279 hA hB
                          replace hH := Hp.kp (Dw := Dw) hH hk279
                          replace h234 := El.kp (Dw := Dw) h234 hk279
                          replace h127 := Sl.tr (Dw := Dw) h127 ht280
                          replace h264 := El.tr (Dw := Dw) h264 ht280
                          replace h266 := Sl.tr (Dw := Dw) h266 ht280
                          replace h129 := Sl.tr (Dw := Dw) h129 ht280
                          replace h271 := El.tr (Dw := Dw) h271 ht280
                          replace h272 := El.tr (Dw := Dw) h272 ht280
                          replace h275 := Sl.tr (Dw := Dw) h275 ht280
                          replace hK := Tr.trans (Dw := Dw) hK ht280
                          replace hr33 := Tr.trans (Dw := Dw) hr33 ht280
                          replace hr75 := Tr.trans (Dw := Dw) hr75 ht280
                          replace hr107 := Tr.trans (Dw := Dw) hr107 ht280
                          replace hr149 := Tr.trans (Dw := Dw) hr149 ht280
                          replace hB := Nat.le_trans hB ht280.ex.size
                          replace hA := ht280.new
                          refine V_gn rfl rfl rfl hc277 rfl rfl rfl ?_
                          refine V_gn rfl rfl rfl hc277 rfl rfl rfl ?_
                          refine V_y (Y_pick_te rfl hc277 rfl) rfl rfl rfl ?_
                          obtain rfl := Option.some.inj ho147
                          refine V_end (fun a ha281 => ?_)
                          exact ⟨A136, ha281.sub ⟨rfl, rfl, rfl, rfl, rfl, rfl, rfl, rfl, rfl, rfl, rfl, trivial⟩, ⟨h127, h129, hH, hr149⟩⟩
                        · rw [if_neg (nt hc277)] at ho147
                          refine VQ_ge rfl rfl rfl hc277 ?_
                          refine VQ_y (fun w' hw' => Y_move rfl) rfl rfl rfl ?_
                          refine VQ_ge rfl rfl rfl hc277 ?_
                          refine VQ_y (fun w' hw' => Y_move rfl) rfl rfl rfl ?_
                          refine VQ_ge rfl rfl rfl hc277 ?_
                          refine VQ_y (fun w' hw' => Y_move rfl) rfl rfl rfl ?_
                          refine VQ_tail (fun w282 hk283 => ?_)
                          try simp only [List.take, List.drop]
                          have ht284 := Kp.tr (Dw := Dw) hk283 hA hB
                          replace hH := Hp.kp (Dw := Dw) hH hk283
                          replace h234 := El.kp (Dw := Dw) h234 hk283
                          replace h127 := Sl.tr (Dw := Dw) h127 ht284
                          replace h264 := El.tr (Dw := Dw) h264 ht284
                          replace h266 := Sl.tr (Dw := Dw) h266 ht284
                          replace h129 := Sl.tr (Dw := Dw) h129 ht284
                          replace h271 := El.tr (Dw := Dw) h271 ht284
                          replace h272 := El.tr (Dw := Dw) h272 ht284
                          replace h275 := Sl.tr (Dw := Dw) h275 ht284
                          replace hK := Tr.trans (Dw := Dw) hK ht284
                          replace hr33 := Tr.trans (Dw := Dw) hr33 ht284
                          replace hr75 := Tr.trans (Dw := Dw) hr75 ht284
                          replace hr107 := Tr.trans (Dw := Dw) hr107 ht284
                          replace hr149 := Tr.trans (Dw := Dw) hr149 ht284
                          replace hB := Nat.le_trans hB ht284.ex.size
                          replace hA := ht284.new
                          refine V_ge rfl rfl rfl hc277 ?_
                          replace hH : Hp B A136 w282 (obS (α := Bool) 4 v_seen s124.2 :: obC b_t [v_t0, v_t1, v_t2, v_t3, v_t4] 41 :: obS (α := Int) 3 v_t2 s124.1.at_ :: obS (α := Int) 3 v_t3 s124.1.free :: obS (α := Bool) 4 v_t4 s124.1.fixed :: L) := Hp.front hH (i := 4) rfl
                          replace hH : Hp B A136 w282 (obS (α := Bool) 4 v_t4 s124.1.fixed :: obS (α := Bool) 4 v_seen s124.2 :: obC b_t [v_t0, v_t1, v_t2, v_t3, v_t4] 41 :: obS (α := Int) 3 v_t2 s124.1.at_ :: obS (α := Int) 3 v_t3 s124.1.free :: L) := Hp.front hH (i := 4) rfl
                          replace hH : Hp B A136 w282 (obS (α := Int) 3 v_t3 s124.1.free :: obS (α := Bool) 4 v_t4 s124.1.fixed :: obS (α := Bool) 4 v_seen s124.2 :: obC b_t [v_t0, v_t1, v_t2, v_t3, v_t4] 41 :: obS (α := Int) 3 v_t2 s124.1.at_ :: L) := Hp.front hH (i := 4) rfl
                          replace hH : Hp B A136 w282 (obS (α := Int) 3 v_t2 s124.1.at_ :: obS (α := Int) 3 v_t3 s124.1.free :: obS (α := Bool) 4 v_t4 s124.1.fixed :: obS (α := Bool) 4 v_seen s124.2 :: obC b_t [v_t0, v_t1, v_t2, v_t3, v_t4] 41 :: L) := Hp.front hH (i := 4) rfl
                          replace hH : Hp B A136 w282 (obC b_t [v_t0, v_t1, v_t2, v_t3, v_t4] 41 :: obS (α := Int) 3 v_t2 s124.1.at_ :: obS (α := Int) 3 v_t3 s124.1.free :: obS (α := Bool) 4 v_t4 s124.1.fixed :: obS (α := Bool) 4 v_seen s124.2 :: L) := Hp.front hH (i := 4) rfl
                          obtain ⟨x285, hx285, ho147⟩ := Option.bind_eq_some_iff.1 ho147
                          refine V_call Tryd.call30 rfl rfl rfl rfl (REC_c w282 hB hA s124.1 b_t v_t0 h127 v_t1 h129 v_t2 v_t3 v_t4 (k108 : Int) s124.2 v_seen hH hx285) ?_
                          rintro _ w296 ⟨A297, rfl, h287, h289, hH298, ht299⟩
                          replace h127 := Sl.tr (Dw := Dw) h127 ht299
                          replace h264 := El.tr (Dw := Dw) h264 ht299
                          replace h266 := Sl.tr (Dw := Dw) h266 ht299
                          replace h129 := Sl.tr (Dw := Dw) h129 ht299
                          replace h271 := El.tr (Dw := Dw) h271 ht299
                          replace h272 := El.tr (Dw := Dw) h272 ht299
                          replace h275 := Sl.tr (Dw := Dw) h275 ht299
                          replace hK := Tr.trans (Dw := Dw) hK ht299
                          replace hr33 := Tr.trans (Dw := Dw) hr33 ht299
                          replace hr75 := Tr.trans (Dw := Dw) hr75 ht299
                          replace hr107 := Tr.trans (Dw := Dw) hr107 ht299
                          replace hr149 := Tr.trans (Dw := Dw) hr149 ht299
                          replace hB := Nat.le_trans hB ht299.ex.size
                          replace hA := ht299.new
                          replace hH : Hp B A297 w296 (obC b_t [v_t0, v_t1, v_t2, v_t3, v_t4] 41 :: obS (α := Int) 3 v_t2 x285.2.1.at_ :: obS (α := Int) 3 v_t3 x285.2.1.free :: obS (α := Bool) 4 v_t4 x285.2.1.fixed :: obS (α := Bool) 4 v_seen x285.2.2 :: L) := hH298
                          refine V_ge rfl rfl rfl hc277 ?_
                          refine V_y (Y_not rfl) rfl rfl rfl ?_
                          refine V_y (Y_pick_fe rfl hc277 rfl) rfl rfl rfl ?_
                          obtain rfl := Option.some.inj ho147
                          refine V_end (fun a ha300 => ?_)
                          exact ⟨A297, ha300.sub ⟨rfl, rfl, rfl, rfl, rfl, rfl, rfl, rfl, rfl, rfl, rfl, trivial⟩, ⟨h287, h289, hH, hr149⟩⟩
                  rintro A163 w160 ⟨h151, h153, hH164, hk161⟩ a ha162
                  replace hK := Tr.trans (Dw := Dw) hK hk161
                  replace hr33 := Tr.trans (Dw := Dw) hr33 hk161
                  replace hr75 := Tr.trans (Dw := Dw) hr75 hk161
                  replace hr107 := Tr.trans (Dw := Dw) hr107 hk161
                  replace hB := Nat.le_trans hB hk161.ex.size
                  replace hA := hk161.new
                  replace hH : Hp B A163 w160 (obC b_t [v_t0, v_t1, v_t2, v_t3, v_t4] 41 :: obS (α := Int) 3 v_t2 s148.2.1.at_ :: obS (α := Int) 3 v_t3 s148.2.1.free :: obS (α := Bool) 4 v_t4 s148.2.1.fixed :: obS (α := Bool) 4 v_seen s148.2.2 :: L) := hH164
                  refine C_at (n := ⟨96, [], none⟩) (fun _ _ => rfl) ?_ ha162
                  refine C_cond rfl (fun hc301 => ?_) (fun hc301 => ?_)
                  · rw [if_pos hc301] at h139
                    refine C_exit_to (fun _ _ => rfl) ?_
                    refine C_region ?_
                    refine V_y (Y_addI rfl rfl) rfl rfl rfl ?_
                    refine V_y (Y_move rfl) rfl rfl rfl ?_
                    obtain rfl := Option.some.inj h139
                    refine V_end (fun a ha302 => ?_)
                    exact ⟨(s148.2.1, s148.2.2), hlt142, h140, ⟨A163, ha302.sub ⟨rfl, rfl, rfl, rfl, rfl, rfl, rfl, rfl, (congrArg (fun z => some (Value.int .i64 z)) (w64_succ hlt142 hn145)), trivial⟩, ⟨h151, h153, hH, hr107⟩⟩⟩
                  · rw [if_neg (nt hc301)] at h139
                    refine C_skip_to (fun _ _ => rfl) ?_
                    refine C_seq ?_
                    refine C_region ?_
                    refine V_y (Y_move rfl) rfl rfl rfl ?_
                    refine V_y (Y_move rfl) rfl rfl rfl ?_
                    refine V_y (Y_move rfl) rfl rfl rfl ?_
                    replace hH : Hp B A163 w160 (obS (α := Bool) 4 v_t4 s148.2.1.fixed :: obC b_t [v_t0, v_t1, v_t2, v_t3, v_t4] 41 :: obS (α := Int) 3 v_t2 s148.2.1.at_ :: obS (α := Int) 3 v_t3 s148.2.1.free :: obS (α := Bool) 4 v_seen s148.2.2 :: L) := Hp.front hH (i := 3) rfl
                    replace hH : Hp B A163 w160 (obS (α := Int) 3 v_t3 s148.2.1.free :: obS (α := Bool) 4 v_t4 s148.2.1.fixed :: obC b_t [v_t0, v_t1, v_t2, v_t3, v_t4] 41 :: obS (α := Int) 3 v_t2 s148.2.1.at_ :: obS (α := Bool) 4 v_seen s148.2.2 :: L) := Hp.front hH (i := 3) rfl
                    replace hH : Hp B A163 w160 (obS (α := Int) 3 v_t2 s148.2.1.at_ :: obS (α := Int) 3 v_t3 s148.2.1.free :: obS (α := Bool) 4 v_t4 s148.2.1.fixed :: obC b_t [v_t0, v_t1, v_t2, v_t3, v_t4] 41 :: obS (α := Bool) 4 v_seen s148.2.2 :: L) := Hp.front hH (i := 3) rfl
                    replace hH : Hp B A163 w160 (obC b_t [v_t0, v_t1, v_t2, v_t3, v_t4] 41 :: obS (α := Int) 3 v_t2 s148.2.1.at_ :: obS (α := Int) 3 v_t3 s148.2.1.free :: obS (α := Bool) 4 v_t4 s148.2.1.fixed :: obS (α := Bool) 4 v_seen s148.2.2 :: L) := Hp.front hH (i := 3) rfl
                    obtain ⟨x303, hx303, h139⟩ := Option.bind_eq_some_iff.1 h139
                    refine V_call Tryd.call29 rfl rfl rfl rfl (route_matcher_move_c (Dw := Dw) w160 hB hA s148.2.1 b_t v_t0 h151 v_t1 h153 v_t2 v_t3 v_t4 (k34 : Int) (k108 : Int) hH hx303) ?_
                    rintro _ w314 ⟨A315, rfl, h305, h307, hH316, ht317⟩
                    replace h151 := Sl.tr (Dw := Dw) h151 ht317
                    replace h153 := Sl.tr (Dw := Dw) h153 ht317
                    replace hK := Tr.trans (Dw := Dw) hK ht317
                    replace hr33 := Tr.trans (Dw := Dw) hr33 ht317
                    replace hr75 := Tr.trans (Dw := Dw) hr75 ht317
                    replace hr107 := Tr.trans (Dw := Dw) hr107 ht317
                    replace hB := Nat.le_trans hB ht317.ex.size
                    replace hA := ht317.new
                    replace hH : Hp B A315 w314 (obC b_t [v_t0, v_t1, v_t2, v_t3, v_t4] 41 :: obS (α := Int) 3 v_t2 x303.at_ :: obS (α := Int) 3 v_t3 x303.free :: obS (α := Bool) 4 v_t4 x303.fixed :: obS (α := Bool) 4 v_seen s148.2.2 :: L) := hH316
                    refine V_to (fun _ _ => rfl) ?_
                    refine C_seq ?_
                    refine C_region ?_
                    refine V_y (Y_assign rfl) rfl rfl rfl ?_
                    refine V_to (fun _ _ => rfl) ?_
                    obtain rfl := Option.some.inj h139
                    obtain rfl := (h140 : Lp.rt _ = _)
                    rw [Lp.andThen_rt] at ho73
                    obtain rfl := Option.some.inj ho73
                    rw [Lp.andThen_rt] at h65
                    obtain rfl := Option.some.inj h65
                    obtain rfl := (h66 : Lp.rt _ = _)
                    rw [Lp.andThen_rt] at hm
                    obtain rfl := Option.some.inj hm
                    refine C_ret ?_
                    try simp only [↓inBlock_ret, ↓then_ret]
                    exact retQ rfl (Res.one Tryd.results30 rfl) ⟨A315, rfl, h305, h307, hH, hK⟩
                · refine C_exit (fun a ha318 => ?_)
                  exact ⟨((s124.1, s124.2), A136), ha318.sub ⟨rfl, rfl, rfl, rfl, rfl, rfl, trivial⟩, ⟨(h143 (eq_of_dec hle141 hc146)).symm, h127, h129, hH, hr107⟩⟩
              rintro ⟨s106, A122⟩ w109 ⟨rfl, h113, h115, hH123, hk110⟩ a ha111
              rw [Lp.andThen_fin] at ho73
              replace hK := Tr.trans (Dw := Dw) hK hk110
              replace hr33 := Tr.trans (Dw := Dw) hr33 hk110
              replace hr75 := Tr.trans (Dw := Dw) hr75 hk110
              replace hB := Nat.le_trans hB hk110.ex.size
              replace hA := hk110.new
              replace hH : Hp B A122 w109 (obC b_t [v_t0, v_t1, v_t2, v_t3, v_t4] 41 :: obS (α := Int) 3 v_t2 s106.1.at_ :: obS (α := Int) 3 v_t3 s106.1.free :: obS (α := Bool) 4 v_t4 s106.1.fixed :: obS (α := Bool) 4 v_seen s106.2 :: L) := hH123
              obtain rfl := Option.some.inj ho73
              exact ⟨((s106.1, s106.2), A122), ha111.sub ⟨rfl, rfl, rfl, rfl, rfl, rfl, trivial⟩, ⟨rfl, h113, h115, hH, hr75⟩⟩
          rintro ⟨s74, A89⟩ w86 ⟨rfl, h77, h79, hH90, hk87⟩ a ha88
          rw [Lp.andThen_fin] at h65
          replace hK := Tr.trans (Dw := Dw) hK hk87
          replace hr33 := Tr.trans (Dw := Dw) hr33 hk87
          replace hB := Nat.le_trans hB hk87.ex.size
          replace hA := hk87.new
          replace hH : Hp B A89 w86 (obC b_t [v_t0, v_t1, v_t2, v_t3, v_t4] 41 :: obS (α := Int) 3 v_t2 s74.1.at_ :: obS (α := Int) 3 v_t3 s74.1.free :: obS (α := Bool) 4 v_t4 s74.1.fixed :: obS (α := Bool) 4 v_seen s74.2 :: L) := hH90
          refine C_at (n := ⟨96, [], none⟩) (fun _ _ => rfl) ?_ ha88
          refine C_region ?_
          refine V_y (Y_addI rfl rfl) rfl rfl rfl ?_
          refine V_y (Y_move rfl) rfl rfl rfl ?_
          obtain rfl := Option.some.inj h65
          refine V_end (fun a ha321 => ?_)
          exact ⟨(s74.1, s74.2), hlt68, h66, ⟨A89, ha321.sub ⟨rfl, rfl, rfl, rfl, rfl, (congrArg (fun z => some (Value.int .i64 z)) (w64_succ hlt68 hn71)), trivial⟩, ⟨h77, h79, hH, hr33⟩⟩⟩
        · refine C_exit (fun a ha322 => ?_)
          exact ⟨((s50.1, s50.2), A62), ha322.sub trivial, ⟨(h69 (eq_of_dec hle67 hc72)).symm, h53, h55, hH, hr33⟩⟩
      rintro ⟨s32, A48⟩ w35 ⟨rfl, h39, h41, hH49, hk36⟩ a ha37
      rw [Lp.andThen_fin] at hm
      replace hK := Tr.trans (Dw := Dw) hK hk36
      replace hB := Nat.le_trans hB hk36.ex.size
      replace hA := hk36.new
      replace hH : Hp B A48 w35 (obC b_t [v_t0, v_t1, v_t2, v_t3, v_t4] 41 :: obS (α := Int) 3 v_t2 s32.1.at_ :: obS (α := Int) 3 v_t3 s32.1.free :: obS (α := Bool) 4 v_t4 s32.1.fixed :: obS (α := Bool) 4 v_seen s32.2 :: L) := hH49
      refine C_at (n := ⟨96, [], none⟩) (fun _ _ => rfl) ?_ ha37
      refine C_seq ?_
      refine C_region ?_
      refine V_y (Y_assign rfl) rfl rfl rfl ?_
      refine V_to (fun _ _ => rfl) ?_
      obtain rfl := Option.some.inj hm
      refine C_ret ?_
      try simp only [↓inBlock_ret, ↓then_ret]
      exact retQ rfl (Res.one Tryd.results30 rfl) ⟨A48, rfl, h39, h41, hH, hK⟩
theorem route_matcher_clearN_c (n : Nat) : ∀ (w : World) {A : Nat → Prop} {B : Nat} (hB : B ≤ w.heap.size) (hA : ∀ b, w.heap.size ≤ b → A b) (t : route_matcher) (b_t : Nat) (v_t0 : Value) (h_t0 : Sl A w v_t0 t.people) (v_t1 : Value) (h_t1 : Sl A w v_t1 t.work) (v_t2 : Value) (v_t3 : Value) (v_t4 : Value) (p : Int) (seen : (List Bool)) (v_seen : Value) {L : List Ob} (hH : Hp B A w (obC b_t [v_t0, v_t1, v_t2, v_t3, v_t4] 41 :: obS (α := Int) 3 v_t2 t.at_ :: obS (α := Int) 3 v_t3 t.free :: obS (α := Bool) 4 v_t4 t.fixed :: obS (α := Bool) 4 v_seen seen :: L)) {r : (Bool × route_matcher × (List Bool))} (hm : route_matcher_clearN n t p seen = some r), Ret Tryd.prog 30 #[.pointer (some ⟨b_t, 0, none⟩), .int .i64 p, v_seen] w fun v w' => ∃ A1 : Nat → Prop, v = .bool r.1 ∧ Sl A1 w' v_t0 r.2.1.people ∧ Sl A1 w' v_t1 r.2.1.work ∧ Hp B A1 w' (obC b_t [v_t0, v_t1, v_t2, v_t3, v_t4] 41 :: obS (α := Int) 3 v_t2 r.2.1.at_ :: obS (α := Int) 3 v_t3 r.2.1.free :: obS (α := Bool) 4 v_t4 r.2.1.fixed :: obS (α := Bool) 4 v_seen r.2.2 :: L) ∧ Tr Dw B A w A1 w' := by
  induction n with
  | zero =>
    intros
    rename_i hm
    exact absurd hm (fun h => by cases (show (none : Option (Bool × route_matcher × (List Bool))) = some _ from h))
  | succ n ih => exact route_matcher_clearF_c (route_matcher_clearN n) ih
theorem route_matcher_clear_c (w : World) {A : Nat → Prop} {B : Nat} (hB : B ≤ w.heap.size) (hA : ∀ b, w.heap.size ≤ b → A b) (t : route_matcher) (b_t : Nat) (v_t0 : Value) (h_t0 : Sl A w v_t0 t.people) (v_t1 : Value) (h_t1 : Sl A w v_t1 t.work) (v_t2 : Value) (v_t3 : Value) (v_t4 : Value) (p : Int) (seen : (List Bool)) (v_seen : Value) {L : List Ob} (hH : Hp B A w (obC b_t [v_t0, v_t1, v_t2, v_t3, v_t4] 41 :: obS (α := Int) 3 v_t2 t.at_ :: obS (α := Int) 3 v_t3 t.free :: obS (α := Bool) 4 v_t4 t.fixed :: obS (α := Bool) 4 v_seen seen :: L)) {r : (Bool × route_matcher × (List Bool))} (hm : route_matcher_clear t p seen = some r) : Ret Tryd.prog 30 #[.pointer (some ⟨b_t, 0, none⟩), .int .i64 p, v_seen] w fun v w' => ∃ A1 : Nat → Prop, v = .bool r.1 ∧ Sl A1 w' v_t0 r.2.1.people ∧ Sl A1 w' v_t1 r.2.1.work ∧ Hp B A1 w' (obC b_t [v_t0, v_t1, v_t2, v_t3, v_t4] 41 :: obS (α := Int) 3 v_t2 r.2.1.at_ :: obS (α := Int) 3 v_t3 r.2.1.free :: obS (α := Bool) 4 v_t4 r.2.1.fixed :: obS (α := Bool) 4 v_seen r.2.2 :: L) ∧ Tr Dw B A w A1 w' := route_matcher_clearN_c _ w hB hA t b_t v_t0 h_t0 v_t1 h_t1 v_t2 v_t3 v_t4 p seen v_seen hH hm


set_option maxRecDepth 4000 in
set_option maxHeartbeats 4000000 in
theorem route_matcher_take_c (w : World) {A : Nat → Prop} {B : Nat} (hB : B ≤ w.heap.size) (hA : ∀ b, w.heap.size ≤ b → A b) (t : route_matcher) (b_t : Nat) (v_t0 : Value) (h_t0 : Sl A w v_t0 t.people) (v_t1 : Value) (h_t1 : Sl A w v_t1 t.work) (v_t2 : Value) (v_t3 : Value) (v_t4 : Value) (k_ : Int) (p : Int) {L : List Ob} (hH : Hp B A w (obC b_t [v_t0, v_t1, v_t2, v_t3, v_t4] 41 :: obS (α := Int) 3 v_t2 t.at_ :: obS (α := Int) 3 v_t3 t.free :: obS (α := Bool) 4 v_t4 t.fixed :: L)) {r : (Bool × route_matcher)} (hm : route_matcher_take t k_ p = some r) : Ret Tryd.prog 13 #[.pointer (some ⟨b_t, 0, none⟩), .int .i64 k_, .int .i64 p] w fun v w' => ∃ A1 : Nat → Prop, v = .bool r.1 ∧ Sl A1 w' v_t0 r.2.people ∧ Sl A1 w' v_t1 r.2.work ∧ Hp B A1 w' (obC b_t [v_t0, v_t1, v_t2, v_t3, v_t4] 41 :: obS (α := Int) 3 v_t2 r.2.at_ :: obS (α := Int) 3 v_t3 r.2.free :: obS (α := Bool) 4 v_t4 r.2.fixed :: L) ∧ Tr Dw B A w A1 w' := by
  unfold route_matcher_take at hm
  refine enter Tryd.func13 rfl Tryd.ntmps13 rfl ?_
  have hK : Tr Dw B A w A w := Tr.refl (Dw := Dw) hA
  refine C_seq ?_
  refine C_region ?_
  refine V_y (Y_assign rfl) rfl rfl rfl ?_
  refine V_to (fun _ _ => rfl) ?_
  refine C_seq ?_
  refine C_seq ?_
  refine C_region_q (Dw := Dw) Tryd_mixed (by kernel_rfl) ?_
  refine VQ_y (fun w' hw' => Y_move rfl) rfl rfl rfl ?_
  refine VQ_y (fun w' hw' => Y_nilCheck rfl) rfl rfl rfl ?_
  refine VQ_y (fun w' hw' => Y_fieldAddrC (off2 := 0) Tryd.underlying41 rfl Tryd.sizeOf22 (by decide) rfl rfl) rfl rfl rfl ?_
  refine VQ_y (fun w' hw' => Y_load ((World.cell?_of_block (hw'.block _ (World.block_lt_of_cell? _ _ (Hp.cell (j := 0) hH (i := 0) rfl rfl)))).trans (Hp.cell (j := 0) hH (i := 0) rfl rfl)) Tryd.isAgg22 rfl) rfl rfl rfl ?_
  refine VQ_y (fun w' hw' => Y_move rfl) rfl rfl rfl ?_
  obtain ⟨x11, hx11, hm⟩ := Option.bind_eq_some_iff.1 hm
  refine VQ_indexAddr h_t0 hx11 Tryd.underlying22 Tryd.sizeOf43 rfl rfl rfl ?_
  intro b12 o13 h14
  obtain ⟨v15, h17, h16⟩ := El_route_Person h14
  refine VQ_y (fun w' hw' => Y_loadA (At.kp (Dw := Dw) h17 hw' h14.2.1) Tryd.isAgg43 Tryd.sizeOf43 rfl) rfl rfl rfl ?_
  refine VQ_y (fun w' hw' => Y_move rfl) rfl rfl rfl ?_
  refine VQ_y (fun w' hw' => Y_nilCheck rfl) rfl rfl rfl ?_
  refine VQ_y (fun w' hw' => Y_fieldAddrC (off2 := 1) Tryd.underlying41 rfl Tryd.sizeOf23 (by decide) rfl rfl) rfl rfl rfl ?_
  refine VQ_y (fun w' hw' => Y_load ((World.cell?_of_block (hw'.block _ (World.block_lt_of_cell? _ _ (Hp.cell (j := 1) hH (i := 0) rfl rfl)))).trans (Hp.cell (j := 1) hH (i := 0) rfl rfl)) Tryd.isAgg23 rfl) rfl rfl rfl ?_
  refine VQ_y (fun w' hw' => Y_move rfl) rfl rfl rfl ?_
  obtain ⟨x18, hx18, hm⟩ := Option.bind_eq_some_iff.1 hm
  refine VQ_indexAddr h_t1 hx18 Tryd.underlying23 Tryd.sizeOf36 rfl rfl rfl ?_
  intro b19 o20 h21
  have h22 := El_route_Work_5 h21
  refine VQ_y (fun w' hw' => Y_fieldAddr Tryd.underlying36 rfl Tryd.sizeOf34 (by decide) rfl) rfl rfl rfl ?_
  obtain ⟨v23, h24, h25⟩ := El.list h22
  refine VQ_y (fun w' hw' => Y_load ((World.cell?_of_block (hw'.block _ (World.block_lt_of_cell? _ _ h24))).trans h24) Tryd.isAgg34 rfl) rfl rfl rfl ?_
  obtain ⟨x26, hx26, hm⟩ := Option.bind_eq_some_iff.1 hm
  refine VQ_call (.bool x26) Tryd.call28 rfl rfl rfl rfl (fun w' hw' => (route_Person_able_c (Dw := Dw) w' (fun b hb => hA b (Nat.le_trans hw'.size hb)) x11 v15 (Sl.kp (Dw := Dw) h16 hw') x18.needs v23 (Sl.kp (Dw := Dw) h25 hw') hx26).mono (fun _ _ h => ⟨h.1, Kp.trans (Dw := Dw) hw' h.2⟩)) ?_
  refine VQ_y (fun w' hw' => Y_not rfl) rfl rfl rfl ?_
  refine VQ_to (fun _ _ => rfl) (fun w27 hk28 => ?_)
  have ht29 := Kp.tr (Dw := Dw) hk28 hA hB
  replace hH := Hp.kp (Dw := Dw) hH hk28
  replace h_t0 := Sl.tr (Dw := Dw) h_t0 ht29
  replace h_t1 := Sl.tr (Dw := Dw) h_t1 ht29
  replace hK := Tr.trans (Dw := Dw) hK ht29
  replace hB := Nat.le_trans hB ht29.ex.size
  replace hA := ht29.new
  refine C_cond rfl (fun hc30 => ?_) (fun hc30 => ?_)
  · rw [if_pos hc30] at hm
    refine C_seq ?_
    refine C_region ?_
    refine V_y (Y_assign rfl) rfl rfl rfl ?_
    refine V_to (fun _ _ => rfl) ?_
    obtain rfl := Option.some.inj hm
    refine C_ret ?_
    try simp only [↓inBlock_ret, ↓then_ret]
    exact retQ rfl (Res.one Tryd.results13 rfl) ⟨A, rfl, h_t0, h_t1, hH, hK⟩
  · rw [if_neg (nt hc30)] at hm
    refine C_skip_to (fun _ _ => rfl) ?_
    refine C_seq ?_
    refine C_region ?_
    refine V_y (Y_move rfl) rfl rfl rfl ?_
    refine V_y (Y_nilCheck rfl) rfl rfl rfl ?_
    refine V_y (Y_fieldAddrC (off2 := 2) Tryd.underlying41 rfl Tryd.sizeOf24 (by decide) rfl rfl) rfl rfl rfl ?_
    refine V_y (Y_load (Hp.cell (j := 2) hH (i := 0) rfl rfl) Tryd.isAgg24 rfl) rfl rfl rfl ?_
    refine V_y (Y_move rfl) rfl rfl rfl ?_
    obtain ⟨x31, hx31, hm⟩ := Option.bind_eq_some_iff.1 hm
    refine V_indexAddrH (α := Int) (e := 3) (v := v_t2) (l := t.at_) hH (i := 1) rfl hx31 Tryd.underlying24 Tryd.sizeOf3 rfl rfl rfl ?_
    intro b32 o33 h34 hl35
    refine V_y (Y_load (El.int h34) Tryd.isAgg3 rfl) rfl rfl rfl ?_
    refine V_y (Y_assign rfl) rfl rfl rfl ?_
    refine V_to (fun _ _ => rfl) ?_
    refine C_seq ?_
    refine C_region ?_
    refine V_y (Y_move rfl) rfl rfl rfl ?_
    refine V_y (Y_move rfl) rfl rfl rfl ?_
    replace hH : Hp B A w27 (obS (α := Bool) 4 v_t4 t.fixed :: obC b_t [v_t0, v_t1, v_t2, v_t3, v_t4] 41 :: obS (α := Int) 3 v_t2 t.at_ :: obS (α := Int) 3 v_t3 t.free :: L) := Hp.front hH (i := 3) rfl
    replace hH : Hp B A w27 (obS (α := Int) 3 v_t3 t.free :: obS (α := Bool) 4 v_t4 t.fixed :: obC b_t [v_t0, v_t1, v_t2, v_t3, v_t4] 41 :: obS (α := Int) 3 v_t2 t.at_ :: L) := Hp.front hH (i := 3) rfl
    replace hH : Hp B A w27 (obS (α := Int) 3 v_t2 t.at_ :: obS (α := Int) 3 v_t3 t.free :: obS (α := Bool) 4 v_t4 t.fixed :: obC b_t [v_t0, v_t1, v_t2, v_t3, v_t4] 41 :: L) := Hp.front hH (i := 3) rfl
    replace hH : Hp B A w27 (obC b_t [v_t0, v_t1, v_t2, v_t3, v_t4] 41 :: obS (α := Int) 3 v_t2 t.at_ :: obS (α := Int) 3 v_t3 t.free :: obS (α := Bool) 4 v_t4 t.fixed :: L) := Hp.front hH (i := 3) rfl
    obtain ⟨x36, hx36, hm⟩ := Option.bind_eq_some_iff.1 hm
    refine V_call Tryd.call29 rfl rfl rfl rfl (route_matcher_move_c (Dw := Dw) w27 hB hA t b_t v_t0 h_t0 v_t1 h_t1 v_t2 v_t3 v_t4 k_ (-1) hH hx36) ?_
    rintro _ w47 ⟨A48, rfl, h38, h40, hH49, ht50⟩
    replace h_t0 := Sl.tr (Dw := Dw) h_t0 ht50
    replace h_t1 := Sl.tr (Dw := Dw) h_t1 ht50
    replace hK := Tr.trans (Dw := Dw) hK ht50
    replace hB := Nat.le_trans hB ht50.ex.size
    replace hA := ht50.new
    replace hH : Hp B A48 w47 (obC b_t [v_t0, v_t1, v_t2, v_t3, v_t4] 41 :: obS (α := Int) 3 v_t2 x36.at_ :: obS (α := Int) 3 v_t3 x36.free :: obS (α := Bool) 4 v_t4 x36.fixed :: L) := hH49
    refine V_to (fun _ _ => rfl) ?_
    refine C_seq ?_
    refine C_seq ?_
    refine C_region ?_
    refine V_y (Y_move rfl) rfl rfl rfl ?_
    refine V_y (Y_move rfl) rfl rfl rfl ?_
    refine V_y (Y_move rfl) rfl rfl rfl ?_
    refine V_y (Y_nilCheck rfl) rfl rfl rfl ?_
    refine V_y (Y_fieldAddrC (off2 := 0) Tryd.underlying41 rfl Tryd.sizeOf22 (by decide) rfl rfl) rfl rfl rfl ?_
    refine V_y (Y_load (Hp.cell (j := 0) hH (i := 0) rfl rfl) Tryd.isAgg22 rfl) rfl rfl rfl ?_
    refine V_y (Y_lenSl h38 rfl Tryd.underlying22 rfl) rfl rfl rfl ?_
    obtain ⟨x51, hx51, hm⟩ := Option.bind_eq_some_iff.1 hm
    refine V_makeH (Dw := Dw) (e := 4) (ti := Tryd.t4) hH hx51 (fun _ _ => rfl) Tryd.underlying39 Tryd_info4 rfl rfl rfl (by decide) (by decide) hB hA rfl rfl rfl ?_
    intro v52 w53 A54 hH55 ht56
    replace h38 := Sl.tr (Dw := Dw) h38 ht56
    replace h40 := Sl.tr (Dw := Dw) h40 ht56
    replace hK := Tr.trans (Dw := Dw) hK ht56
    replace hB := Nat.le_trans hB ht56.ex.size
    replace hA := ht56.new
    replace hH : Hp B A54 w53 (obS (α := Bool) 4 v52 x51 :: obC b_t [v_t0, v_t1, v_t2, v_t3, v_t4] 41 :: obS (α := Int) 3 v_t2 x36.at_ :: obS (α := Int) 3 v_t3 x36.free :: obS (α := Bool) 4 v_t4 x36.fixed :: L) := hH55
    replace hH : Hp B A54 w53 (obS (α := Bool) 4 v_t4 x36.fixed :: obS (α := Bool) 4 v52 x51 :: obC b_t [v_t0, v_t1, v_t2, v_t3, v_t4] 41 :: obS (α := Int) 3 v_t2 x36.at_ :: obS (α := Int) 3 v_t3 x36.free :: L) := Hp.front hH (i := 4) rfl
    replace hH : Hp B A54 w53 (obS (α := Int) 3 v_t3 x36.free :: obS (α := Bool) 4 v_t4 x36.fixed :: obS (α := Bool) 4 v52 x51 :: obC b_t [v_t0, v_t1, v_t2, v_t3, v_t4] 41 :: obS (α := Int) 3 v_t2 x36.at_ :: L) := Hp.front hH (i := 4) rfl
    replace hH : Hp B A54 w53 (obS (α := Int) 3 v_t2 x36.at_ :: obS (α := Int) 3 v_t3 x36.free :: obS (α := Bool) 4 v_t4 x36.fixed :: obS (α := Bool) 4 v52 x51 :: obC b_t [v_t0, v_t1, v_t2, v_t3, v_t4] 41 :: L) := Hp.front hH (i := 4) rfl
    replace hH : Hp B A54 w53 (obC b_t [v_t0, v_t1, v_t2, v_t3, v_t4] 41 :: obS (α := Int) 3 v_t2 x36.at_ :: obS (α := Int) 3 v_t3 x36.free :: obS (α := Bool) 4 v_t4 x36.fixed :: obS (α := Bool) 4 v52 x51 :: L) := Hp.front hH (i := 4) rfl
    obtain ⟨x57, hx57, hm⟩ := Option.bind_eq_some_iff.1 hm
    refine V_call Tryd.call30 rfl rfl rfl rfl (route_matcher_clear_c (Dw := Dw) w53 hB hA x36 b_t v_t0 h38 v_t1 h40 v_t2 v_t3 v_t4 p x51 v52 hH hx57) ?_
    rintro _ w68 ⟨A69, rfl, h59, h61, hH70, ht71⟩
    replace h38 := Sl.tr (Dw := Dw) h38 ht71
    replace h40 := Sl.tr (Dw := Dw) h40 ht71
    replace hK := Tr.trans (Dw := Dw) hK ht71
    replace hB := Nat.le_trans hB ht71.ex.size
    replace hA := ht71.new
    replace hH : Hp B A69 w68 (obC b_t [v_t0, v_t1, v_t2, v_t3, v_t4] 41 :: obS (α := Int) 3 v_t2 x57.2.1.at_ :: obS (α := Int) 3 v_t3 x57.2.1.free :: obS (α := Bool) 4 v_t4 x57.2.1.fixed :: obS (α := Bool) 4 v52 x57.2.2 :: L) := hH70
    refine V_to (fun _ _ => rfl) ?_
    refine C_cond rfl (fun hc72 => ?_) (fun hc72 => ?_)
    · rw [if_pos hc72] at hm
      refine C_seq ?_
      refine C_region ?_
      refine V_y (Y_move rfl) rfl rfl rfl ?_
      refine V_y (Y_move rfl) rfl rfl rfl ?_
      refine V_y (Y_move rfl) rfl rfl rfl ?_
      replace hH : Hp B A69 w68 (obS (α := Bool) 4 v_t4 x57.2.1.fixed :: obC b_t [v_t0, v_t1, v_t2, v_t3, v_t4] 41 :: obS (α := Int) 3 v_t2 x57.2.1.at_ :: obS (α := Int) 3 v_t3 x57.2.1.free :: obS (α := Bool) 4 v52 x57.2.2 :: L) := Hp.front hH (i := 3) rfl
      replace hH : Hp B A69 w68 (obS (α := Int) 3 v_t3 x57.2.1.free :: obS (α := Bool) 4 v_t4 x57.2.1.fixed :: obC b_t [v_t0, v_t1, v_t2, v_t3, v_t4] 41 :: obS (α := Int) 3 v_t2 x57.2.1.at_ :: obS (α := Bool) 4 v52 x57.2.2 :: L) := Hp.front hH (i := 3) rfl
      replace hH : Hp B A69 w68 (obS (α := Int) 3 v_t2 x57.2.1.at_ :: obS (α := Int) 3 v_t3 x57.2.1.free :: obS (α := Bool) 4 v_t4 x57.2.1.fixed :: obC b_t [v_t0, v_t1, v_t2, v_t3, v_t4] 41 :: obS (α := Bool) 4 v52 x57.2.2 :: L) := Hp.front hH (i := 3) rfl
      replace hH : Hp B A69 w68 (obC b_t [v_t0, v_t1, v_t2, v_t3, v_t4] 41 :: obS (α := Int) 3 v_t2 x57.2.1.at_ :: obS (α := Int) 3 v_t3 x57.2.1.free :: obS (α := Bool) 4 v_t4 x57.2.1.fixed :: obS (α := Bool) 4 v52 x57.2.2 :: L) := Hp.front hH (i := 3) rfl
      obtain ⟨x73, hx73, hm⟩ := Option.bind_eq_some_iff.1 hm
      refine V_call Tryd.call29 rfl rfl rfl rfl (route_matcher_move_c (Dw := Dw) w68 hB hA x57.2.1 b_t v_t0 h59 v_t1 h61 v_t2 v_t3 v_t4 k_ p hH hx73) ?_
      rintro _ w84 ⟨A85, rfl, h75, h77, hH86, ht87⟩
      replace h59 := Sl.tr (Dw := Dw) h59 ht87
      replace h61 := Sl.tr (Dw := Dw) h61 ht87
      replace hK := Tr.trans (Dw := Dw) hK ht87
      replace hB := Nat.le_trans hB ht87.ex.size
      replace hA := ht87.new
      replace hH : Hp B A85 w84 (obC b_t [v_t0, v_t1, v_t2, v_t3, v_t4] 41 :: obS (α := Int) 3 v_t2 x73.at_ :: obS (α := Int) 3 v_t3 x73.free :: obS (α := Bool) 4 v_t4 x73.fixed :: obS (α := Bool) 4 v52 x57.2.2 :: L) := hH86
      refine V_to (fun _ _ => rfl) ?_
      refine C_seq ?_
      refine C_region ?_
      refine V_y (Y_assign rfl) rfl rfl rfl ?_
      refine V_to (fun _ _ => rfl) ?_
      obtain rfl := Option.some.inj hm
      replace hH : Hp B A85 w84 (obS (α := Bool) 4 v_t4 x73.fixed :: obC b_t [v_t0, v_t1, v_t2, v_t3, v_t4] 41 :: obS (α := Int) 3 v_t2 x73.at_ :: obS (α := Int) 3 v_t3 x73.free :: obS (α := Bool) 4 v52 x57.2.2 :: L) := Hp.front hH (i := 3) rfl
      replace hH : Hp B A85 w84 (obS (α := Int) 3 v_t3 x73.free :: obS (α := Bool) 4 v_t4 x73.fixed :: obC b_t [v_t0, v_t1, v_t2, v_t3, v_t4] 41 :: obS (α := Int) 3 v_t2 x73.at_ :: obS (α := Bool) 4 v52 x57.2.2 :: L) := Hp.front hH (i := 3) rfl
      replace hH : Hp B A85 w84 (obS (α := Int) 3 v_t2 x73.at_ :: obS (α := Int) 3 v_t3 x73.free :: obS (α := Bool) 4 v_t4 x73.fixed :: obC b_t [v_t0, v_t1, v_t2, v_t3, v_t4] 41 :: obS (α := Bool) 4 v52 x57.2.2 :: L) := Hp.front hH (i := 3) rfl
      replace hH : Hp B A85 w84 (obC b_t [v_t0, v_t1, v_t2, v_t3, v_t4] 41 :: obS (α := Int) 3 v_t2 x73.at_ :: obS (α := Int) 3 v_t3 x73.free :: obS (α := Bool) 4 v_t4 x73.fixed :: obS (α := Bool) 4 v52 x57.2.2 :: L) := Hp.front hH (i := 3) rfl
      replace hH : Hp B A85 w84 (obC b_t [v_t0, v_t1, v_t2, v_t3, v_t4] 41 :: obS (α := Int) 3 v_t2 x73.at_ :: obS (α := Int) 3 v_t3 x73.free :: obS (α := Bool) 4 v_t4 x73.fixed :: L) := Hp.drop hH (i := 4) rfl
      refine C_ret ?_
      try simp only [↓inBlock_ret, ↓then_ret]
      exact retQ rfl (Res.one Tryd.results13 rfl) ⟨A85, rfl, h75, h77, hH, hK⟩
    · rw [if_neg (nt hc72)] at hm
      refine C_skip_to (fun _ _ => rfl) ?_
      refine C_seq ?_
      refine C_region ?_
      refine V_y (Y_move rfl) rfl rfl rfl ?_
      refine V_y (Y_move rfl) rfl rfl rfl ?_
      refine V_y (Y_move rfl) rfl rfl rfl ?_
      replace hH : Hp B A69 w68 (obS (α := Bool) 4 v_t4 x57.2.1.fixed :: obC b_t [v_t0, v_t1, v_t2, v_t3, v_t4] 41 :: obS (α := Int) 3 v_t2 x57.2.1.at_ :: obS (α := Int) 3 v_t3 x57.2.1.free :: obS (α := Bool) 4 v52 x57.2.2 :: L) := Hp.front hH (i := 3) rfl
      replace hH : Hp B A69 w68 (obS (α := Int) 3 v_t3 x57.2.1.free :: obS (α := Bool) 4 v_t4 x57.2.1.fixed :: obC b_t [v_t0, v_t1, v_t2, v_t3, v_t4] 41 :: obS (α := Int) 3 v_t2 x57.2.1.at_ :: obS (α := Bool) 4 v52 x57.2.2 :: L) := Hp.front hH (i := 3) rfl
      replace hH : Hp B A69 w68 (obS (α := Int) 3 v_t2 x57.2.1.at_ :: obS (α := Int) 3 v_t3 x57.2.1.free :: obS (α := Bool) 4 v_t4 x57.2.1.fixed :: obC b_t [v_t0, v_t1, v_t2, v_t3, v_t4] 41 :: obS (α := Bool) 4 v52 x57.2.2 :: L) := Hp.front hH (i := 3) rfl
      replace hH : Hp B A69 w68 (obC b_t [v_t0, v_t1, v_t2, v_t3, v_t4] 41 :: obS (α := Int) 3 v_t2 x57.2.1.at_ :: obS (α := Int) 3 v_t3 x57.2.1.free :: obS (α := Bool) 4 v_t4 x57.2.1.fixed :: obS (α := Bool) 4 v52 x57.2.2 :: L) := Hp.front hH (i := 3) rfl
      obtain ⟨x88, hx88, hm⟩ := Option.bind_eq_some_iff.1 hm
      refine V_call Tryd.call29 rfl rfl rfl rfl (route_matcher_move_c (Dw := Dw) w68 hB hA x57.2.1 b_t v_t0 h59 v_t1 h61 v_t2 v_t3 v_t4 k_ x31 hH hx88) ?_
      rintro _ w99 ⟨A100, rfl, h90, h92, hH101, ht102⟩
      replace h59 := Sl.tr (Dw := Dw) h59 ht102
      replace h61 := Sl.tr (Dw := Dw) h61 ht102
      replace hK := Tr.trans (Dw := Dw) hK ht102
      replace hB := Nat.le_trans hB ht102.ex.size
      replace hA := ht102.new
      replace hH : Hp B A100 w99 (obC b_t [v_t0, v_t1, v_t2, v_t3, v_t4] 41 :: obS (α := Int) 3 v_t2 x88.at_ :: obS (α := Int) 3 v_t3 x88.free :: obS (α := Bool) 4 v_t4 x88.fixed :: obS (α := Bool) 4 v52 x57.2.2 :: L) := hH101
      refine V_to (fun _ _ => rfl) ?_
      refine C_seq ?_
      refine C_region ?_
      refine V_y (Y_assign rfl) rfl rfl rfl ?_
      refine V_to (fun _ _ => rfl) ?_
      obtain rfl := Option.some.inj hm
      replace hH : Hp B A100 w99 (obS (α := Bool) 4 v_t4 x88.fixed :: obC b_t [v_t0, v_t1, v_t2, v_t3, v_t4] 41 :: obS (α := Int) 3 v_t2 x88.at_ :: obS (α := Int) 3 v_t3 x88.free :: obS (α := Bool) 4 v52 x57.2.2 :: L) := Hp.front hH (i := 3) rfl
      replace hH : Hp B A100 w99 (obS (α := Int) 3 v_t3 x88.free :: obS (α := Bool) 4 v_t4 x88.fixed :: obC b_t [v_t0, v_t1, v_t2, v_t3, v_t4] 41 :: obS (α := Int) 3 v_t2 x88.at_ :: obS (α := Bool) 4 v52 x57.2.2 :: L) := Hp.front hH (i := 3) rfl
      replace hH : Hp B A100 w99 (obS (α := Int) 3 v_t2 x88.at_ :: obS (α := Int) 3 v_t3 x88.free :: obS (α := Bool) 4 v_t4 x88.fixed :: obC b_t [v_t0, v_t1, v_t2, v_t3, v_t4] 41 :: obS (α := Bool) 4 v52 x57.2.2 :: L) := Hp.front hH (i := 3) rfl
      replace hH : Hp B A100 w99 (obC b_t [v_t0, v_t1, v_t2, v_t3, v_t4] 41 :: obS (α := Int) 3 v_t2 x88.at_ :: obS (α := Int) 3 v_t3 x88.free :: obS (α := Bool) 4 v_t4 x88.fixed :: obS (α := Bool) 4 v52 x57.2.2 :: L) := Hp.front hH (i := 3) rfl
      replace hH : Hp B A100 w99 (obC b_t [v_t0, v_t1, v_t2, v_t3, v_t4] 41 :: obS (α := Int) 3 v_t2 x88.at_ :: obS (α := Int) 3 v_t3 x88.free :: obS (α := Bool) 4 v_t4 x88.fixed :: L) := Hp.drop hH (i := 4) rfl
      refine C_ret ?_
      try simp only [↓inBlock_ret, ↓then_ret]
      exact retQ rfl (Res.one Tryd.results13 rfl) ⟨A100, rfl, h90, h92, hH, hK⟩

end Go.Proofs.YtgmenjhmnjhgoaaDoor.W
