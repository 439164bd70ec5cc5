/-
  Written by program (gen.py) from the IR of the dump: each function computes its model.
-/
import Derived.Test.YtjmgafmjendnaaaProg
import Derived.Test.YtjmgafmjendnaaaFm
import Derived.Test.YtjmgafmjendnaaaCalZonesM
import Derived.KernelRfl
namespace Go.Proofs.Ytjmgafmjendnaaa.W
open Go Go.RowKit Go.Pu Go.Fw Go.Proofs Go.Proofs.Ytjmgafmjendnaaa.M
set_option linter.unusedVariables false

theorem Try_mixed : Try.prog.follows .mixedOrders = true := by kernel_rfl

instance : GoT cal_Change := GoT.of (β := Int × Int) fun x => (x.at_, x.offset)

theorem El_cal_Change_ {A : Nat → Prop} {w : World} {b off : Nat} {x : cal_Change} (h : El A w b off x) : El (α := Int × Int) A w b off (x.at_, x.offset) := h

theorem El_cal_Change_0 {A : Nat → Prop} {w : World} {b off : Nat} {x : cal_Change} (h : El A w b off x) : El A w b (off + 0) x.at_ := El.fst (El_cal_Change_ h)

theorem El_cal_Change_1 {A : Nat → Prop} {w : World} {b off : Nat} {x : cal_Change} (h : El A w b off x) : El A w b (off + 1) x.offset := El.snd (El_cal_Change_ h)

theorem El_cal_Change {A : Nat → Prop} {w : World} {b off : Nat} {x : cal_Change} (h : El A w b off x) : At w b off [.int .i64 x.at_, .int .i64 x.offset] ∧ True := by
  obtain ⟨h1, h2, cs, h3, h4⟩ := h
  obtain ⟨_, _, rfl, rfl, rfl⟩ := h3
  exact ⟨h4, trivial⟩

instance : GoT cal_Zone := GoT.of (β := Int × (List cal_Change)) fun x => (x.offset, x.changes)

theorem El_cal_Zone_ {A : Nat → Prop} {w : World} {b off : Nat} {x : cal_Zone} (h : El A w b off x) : El (α := Int × (List cal_Change)) A w b off (x.offset, x.changes) := h

theorem El_cal_Zone_0 {A : Nat → Prop} {w : World} {b off : Nat} {x : cal_Zone} (h : El A w b off x) : El A w b (off + 0) x.offset := El.fst (El_cal_Zone_ h)

theorem El_cal_Zone_1 {A : Nat → Prop} {w : World} {b off : Nat} {x : cal_Zone} (h : El A w b off x) : El A w b (off + 1) x.changes := El.snd (El_cal_Zone_ h)

theorem El_cal_Zone {A : Nat → Prop} {w : World} {b off : Nat} {x : cal_Zone} (h : El A w b off x) : ∃ v1, At w b off [.int .i64 x.offset, v1] ∧ Sl A w v1 x.changes := by
  obtain ⟨h1, h2, cs, h3, h4⟩ := h
  obtain ⟨_, _, rfl, rfl, ⟨u1, rfl, g1⟩⟩ := h3
  exact ⟨u1, h4, g1⟩

set_option maxRecDepth 4000 in
theorem portref2_ZoneFault_1_c (w : World)  (n : Int) : Ret Try.prog 55 #[.int .i64 n] w fun v w' => v = .bool (portref2_ZoneFault_1 n) ∧ w = w' := by
  generalize hm : portref2_ZoneFault_1 n = r
  unfold portref2_ZoneFault_1 at hm
  refine enter Try.func55 rfl Try.ntmps55 rfl ?_
  refine C_seq ?_
  refine C_region ?_
  refine V_y (Y_assign rfl) rfl rfl rfl ?_
  refine V_to (fun _ _ => rfl) ?_
  refine C_seq ?_
  refine C_region ?_
  refine V_y (Y_move rfl) rfl rfl rfl ?_
  refine V_y (Y_lss rfl rfl) rfl rfl rfl ?_
  refine V_y (Y_move rfl) rfl rfl rfl ?_
  refine V_cut 3 (fun _ : Unit => [(8, .bool ((decide (n < (-1440))) || (decide ((1440 : Int) < n))))]) (fun _ w' => w = w') ?_ ?_
  · simp only [List.take, List.drop]
    rcases Bool.eq_false_or_eq_true (decide (n < (-1440))) with hc1 | hc1
    · refine V_gn rfl rfl rfl hc1 rfl rfl rfl ?_
      refine V_gn rfl rfl rfl hc1 rfl rfl rfl ?_
      refine V_y (Y_pick_te rfl hc1 rfl) rfl rfl rfl ?_
      exact V_end fun a ha => ⟨(), ha.sub ⟨(by rw [hc1]; rfl), trivial⟩, rfl⟩
    · refine V_ge rfl rfl rfl hc1 ?_
      refine V_y (Y_move rfl) rfl rfl rfl ?_
      refine V_ge rfl rfl rfl hc1 ?_
      refine V_y (Y_gtr rfl rfl) rfl rfl rfl ?_
      refine V_y (Y_pick_fe rfl hc1 rfl) rfl rfl rfl ?_
      exact V_end fun a ha => ⟨(), ha.sub ⟨(by rw [hc1]; rfl), trivial⟩, rfl⟩
  simp only [List.take, List.drop]
  rintro _ _ rfl
  refine V_y (Y_assign rfl) rfl rfl rfl ?_
  refine V_to (fun _ _ => rfl) ?_
  obtain rfl := hm
  refine C_ret fun a ha => ?_
  try simp only [↓inBlock_ret, ↓then_ret]
  exact ret1 ha Try.results55 rfl ⟨rfl, rfl⟩

set_option maxRecDepth 4000 in
theorem portref2_ZoneFault_c (w : World) {A : Nat → Prop} (hA : ∀ b, w.heap.size ≤ b → A b) (z : cal_Zone) (v_z : Value) (h_z : Sl A w v_z z.changes) {r : Int} (hm : portref2_ZoneFault z = some r) : Ret Try.prog 12 #[.agg #[.int .i64 z.offset, v_z]] w fun v w' => v = .int .i64 r ∧ Kp w w' := by
  unfold portref2_ZoneFault at hm
  refine enter Try.func12 rfl Try.ntmps12 rfl ?_
  have hK := Kp.refl w
  refine C_seq ?_
  refine C_region ?_
  refine V_box rfl rfl ?_
  intro b3 w4 h5
  have hk6 := h5.kp
  have h7 : El (α := cal_Zone) A w4 b3 0 z := h5.el hA ⟨[.int .i64 z.offset], _, rfl, rfl, ⟨_, rfl, h_z⟩⟩
  replace h_z := h_z.kp hk6
  replace hK := Kp.trans hK hk6
  replace hA : ∀ b, w4.heap.size ≤ b → A b := fun b hb => hA b (Nat.le_trans hk6.size hb)
  refine V_y (Y_assign rfl) rfl rfl rfl ?_
  refine V_to (fun _ _ => rfl) ?_
  refine C_seq ?_
  refine C_region ?_
  refine V_y (Y_assign rfl) rfl rfl rfl ?_
  refine V_to (fun _ _ => rfl) ?_
  refine C_seq ?_
  refine C_seq ?_
  refine C_region ?_
  refine V_y (Y_move rfl) rfl rfl rfl ?_
  have h8 := El_cal_Zone_0 h7
  refine V_y (Y_fieldAddr Try.underlying24 rfl Try.sizeOf3 (by decide) rfl) rfl rfl rfl ?_
  refine V_y (Y_load (El.int h8) Try.isAgg3 rfl) rfl rfl rfl ?_
  refine V_call Try.call55 rfl rfl rfl rfl (portref2_ZoneFault_1_c w4 z.offset) ?_
  rintro _ _ ⟨rfl, rfl⟩
  refine V_to (fun _ _ => rfl) ?_
  refine C_cond rfl (fun hc9 => ?_) (fun hc9 => ?_)
  · rw [if_pos hc9] at hm
    refine C_seq ?_
    refine C_region ?_
    refine V_y (Y_assign rfl) rfl rfl rfl ?_
    refine V_to (fun _ _ => rfl) ?_
    obtain rfl := Option.some.inj hm
    refine C_ret fun a ha => ?_
    try simp only [↓inBlock_ret, ↓then_ret]
    exact ret1 ha Try.results12 rfl ⟨rfl, hK⟩
  · rw [if_neg (nt hc9)] at hm
    refine C_skip_to (fun _ _ => rfl) ?_
    refine C_seq ?_
    refine C_seq ?_
    refine C_region ?_
    have h10 := El_cal_Zone_1 h7
    refine V_y (Y_fieldAddr Try.underlying24 rfl Try.sizeOf22 (by decide) rfl) rfl rfl rfl ?_
    obtain ⟨v11, h12, h13⟩ := El.list h10
    refine V_y (Y_load h12 Try.isAgg22 rfl) rfl rfl rfl ?_
    refine V_y (Y_lenSl h13 rfl Try.underlying22 rfl) rfl rfl rfl ?_
    refine V_y (Y_gtr rfl rfl) rfl rfl rfl ?_
    refine V_to (fun _ _ => rfl) ?_
    refine C_cond rfl (fun hc18 => ?_) (fun hc18 => ?_)
    · rw [if_pos hc18] at hm
      refine C_seq ?_
      refine C_region ?_
      refine V_y (Y_assign rfl) rfl rfl rfl ?_
      refine V_to (fun _ _ => rfl) ?_
      obtain rfl := Option.some.inj hm
      refine C_ret fun a ha => ?_
      try simp only [↓inBlock_ret, ↓then_ret]
      exact ret1 ha Try.results12 rfl ⟨rfl, hK⟩
    · rw [if_neg (nt hc18)] at hm
      refine C_skip_to (fun _ _ => rfl) ?_
      refine C_seq ?_
      refine C_region ?_
      have h19 := El_cal_Zone_0 h7
      refine V_y (Y_fieldAddr Try.underlying24 rfl Try.sizeOf3 (by decide) rfl) rfl rfl rfl ?_
      refine V_y (Y_load (El.int h19) Try.isAgg3 rfl) rfl rfl rfl ?_
      refine V_y (Y_assign rfl) rfl rfl rfl ?_
      refine V_to (fun _ _ => rfl) ?_
      refine C_seq ?_
      refine C_seq ?_
      refine C_region ?_
      have h20 := El_cal_Zone_1 h7
      refine V_y (Y_fieldAddr Try.underlying24 rfl Try.sizeOf22 (by decide) rfl) rfl rfl rfl ?_
      obtain ⟨v21, h22, h23⟩ := El.list h20
      refine V_y (Y_load h22 Try.isAgg22 rfl) rfl rfl rfl ?_
      refine V_y (Y_lenSl h23 rfl Try.underlying22 rfl) rfl rfl rfl ?_
      refine V_y (Y_move rfl) rfl rfl rfl ?_
      refine V_to (fun _ _ => rfl) ?_
      obtain ⟨o28, ho28, hm⟩ := Option.bind_eq_some_iff.1 hm
      refine C_cutG (ι := Int) (fun (s29 : Int) => []) (fun (s29 : Int) => fun w' => o28 = .fin s29 ∧ Kp w4 w') ?_ ?_
      · refine C_block ?_
        refine C_range ho28 (fun k32 s33 a w' => ∃ i : Unit, Has 63 a ([(1, .pointer (some ⟨b3, 0, none⟩)), (3, .func (.func 55) #[] #[]), (4, .int .i64 s33), (18, v21), (19, .int .i64 (z.changes.length : Int)), (20, .int .i64 (k32 : Int))]) ∧ Kp w4 w') (fun a ha => ⟨(), ha.sub ⟨rfl, rfl, rfl, rfl, rfl, rfl, trivial⟩, Kp.refl _⟩) ?_
        rintro K k32 s33 a w34 ⟨_, ha86, hr31⟩ hle38 K41 h40
        refine C_of ?_ ha86
        replace h7 := h7.kp hr31
        replace h23 := h23.kp hr31
        replace hK := Kp.trans hK hr31
        replace hA : ∀ b, w34.heap.size ≤ b → A b := fun b hb => hA b (Nat.le_trans hr31.size hb)
        refine C_seq (C_region (V_y (Y_lss rfl rfl) rfl rfl rfl (V_to (fun _ _ => rfl) ?_)))
        refine C_seq ?_
        refine C_cond rfl (fun hc42 => ?_) (fun hc42 => ?_)
        · have hlt39 := lt_of_dec hc42
          obtain ⟨x35, h36, h37⟩ := K41 hlt39
          refine C_skip_to (fun _ _ => rfl) ?_
          refine C_seq ?_
          refine C_block ?_
          refine C_seq ?_
          refine C_region ?_
          refine V_y (Y_move rfl) rfl rfl rfl ?_
          obtain ⟨x43, hx43, h36⟩ := Option.bind_eq_some_iff.1 h36
          refine V_indexAddr h23 hx43 Try.underlying22 Try.sizeOf81 rfl rfl rfl ?_
          intro b44 o45 h46
          obtain ⟨h47, _⟩ := El_cal_Change h46
          refine V_y (Y_loadA h47 Try.isAgg81 Try.sizeOf81 rfl) rfl rfl rfl ?_
          refine V_alloc Try.zeroValue81 rfl ?_
          intro b48 w49 h50
          refine V_y (Y_assign rfl) rfl rfl rfl ?_
          refine V_storeNew h50 Try.sizeOf81 rfl rfl rfl rfl (by simp [Value.cells, Value.oneCell']) ?_
          intro w51 h52
          have hk53 := h52.kp
          have h54 : El (α := cal_Change) A w51 b48 0 x43 := h52.el hA ⟨[.int .i64 x43.at_], _, rfl, rfl, rfl⟩
          replace h7 := h7.kp hk53
          replace h23 := h23.kp hk53
          replace h46 := h46.kp hk53
          replace hK := Kp.trans hK hk53
          replace hr31 := Kp.trans hr31 hk53
          replace hA : ∀ b, w51.heap.size ≤ b → A b := fun b hb => hA b (Nat.le_trans hk53.size hb)
          refine V_to (fun _ _ => rfl) ?_
          refine C_seq ?_
          refine C_block ?_
          refine C_seq ?_
          refine C_region ?_
          have h55 := El_cal_Change_0 h54
          refine V_y (Y_fieldAddr Try.underlying81 rfl Try.sizeOf3 (by decide) rfl) rfl rfl rfl ?_
          refine V_y (Y_load (El.int h55) Try.isAgg3 rfl) rfl rfl rfl ?_
          refine V_y (Y_lss rfl rfl) rfl rfl rfl ?_
          refine V_y (Y_move rfl) rfl rfl rfl ?_
          refine V_cut 4 (fun _ : Unit => [(1, .pointer (some ⟨b3, 0, none⟩)), (3, .func (.func 55) #[] #[]), (4, .int .i64 s33), (5, .int .i64 (k32 : Int)), (6, .pointer (some ⟨b48, 0, none⟩)), (18, v21), (19, .int .i64 (z.changes.length : Int)), (20, .int .i64 (k32 : Int)), (33, .bool ((decide (x43.at_ < 1)) || (decide ((3000000 : Int) < x43.at_))))]) (fun _ w' => w51 = w') ?_ ?_
          · simp only [List.take, List.drop]
            rcases Bool.eq_false_or_eq_true (decide (x43.at_ < 1)) with hc56 | hc56
            · refine V_gn rfl rfl rfl hc56 rfl rfl rfl ?_
              refine V_gn rfl rfl rfl hc56 rfl rfl rfl ?_
              refine V_gn rfl rfl rfl hc56 rfl rfl rfl ?_
              refine V_y (Y_pick_te rfl hc56 rfl) rfl rfl rfl ?_
              exact V_end fun a ha => ⟨(), ha.sub ⟨rfl, rfl, rfl, rfl, rfl, rfl, rfl, rfl, (by rw [hc56]; rfl), trivial⟩, rfl⟩
            · refine V_ge rfl rfl rfl hc56 ?_
              have h59 := El_cal_Change_0 h54
              refine V_y (Y_fieldAddr Try.underlying81 rfl Try.sizeOf3 (by decide) rfl) rfl rfl rfl ?_
              refine V_ge rfl rfl rfl hc56 ?_
              refine V_y (Y_load (El.int h59) Try.isAgg3 rfl) rfl rfl rfl ?_
              refine V_ge rfl rfl rfl hc56 ?_
              refine V_y (Y_gtr rfl rfl) rfl rfl rfl ?_
              refine V_y (Y_pick_fe rfl hc56 rfl) rfl rfl rfl ?_
              exact V_end fun a ha => ⟨(), ha.sub ⟨rfl, rfl, rfl, rfl, rfl, rfl, rfl, rfl, (by rw [hc56]; rfl), trivial⟩, rfl⟩
          simp only [List.take, List.drop]
          rintro _ _ rfl
          refine V_y (Y_move rfl) rfl rfl rfl ?_
          obtain ⟨s61, hs61, h36⟩ := Option.bind_eq_some_iff.1 h36
          refine V_cut 5 (fun _ : Unit => [(1, .pointer (some ⟨b3, 0, none⟩)), (3, .func (.func 55) #[] #[]), (4, .int .i64 s33), (5, .int .i64 (k32 : Int)), (6, .pointer (some ⟨b48, 0, none⟩)), (18, v21), (19, .int .i64 (z.changes.length : Int)), (20, .int .i64 (k32 : Int)), (39, .bool s61)]) (fun _ w' => Kp w51 w') ?_ ?_
          · simp only [List.take, List.drop]
            rcases Bool.eq_false_or_eq_true (((decide (x43.at_ < 1)) || (decide ((3000000 : Int) < x43.at_)))) with hc60 | hc60
            · rw [if_pos hc60] at hs61
              have hr62 := Kp.refl w51
              refine V_gn rfl rfl rfl hc60 rfl rfl rfl ?_
              refine V_gn rfl rfl rfl hc60 rfl rfl rfl ?_
              refine V_gn rfl rfl rfl hc60 rfl rfl rfl ?_
              refine V_gn rfl rfl rfl hc60 rfl rfl rfl ?_
              refine V_y (Y_pick_te rfl hc60 rfl) rfl rfl rfl ?_
              obtain rfl := Option.some.inj hs61
              exact V_end fun a ha => ⟨(), ha.sub ⟨rfl, rfl, rfl, rfl, rfl, rfl, rfl, rfl, rfl, trivial⟩, hr62⟩
            · rw [if_neg (nt hc60)] at hs61
              have hr62 := Kp.refl w51
              refine V_ge rfl rfl rfl hc60 ?_
              refine V_y (Y_move rfl) rfl rfl rfl ?_
              refine V_ge rfl rfl rfl hc60 ?_
              have h63 := El_cal_Change_1 h54
              refine V_y (Y_fieldAddr Try.underlying81 rfl Try.sizeOf3 (by decide) rfl) rfl rfl rfl ?_
              refine V_ge rfl rfl rfl hc60 ?_
              refine V_y (Y_load (El.int h63) Try.isAgg3 rfl) rfl rfl rfl ?_
              refine V_ge rfl rfl rfl hc60 ?_
              refine V_call Try.call55 rfl rfl rfl rfl (portref2_ZoneFault_1_c w51 x43.offset) ?_
              rintro _ _ ⟨rfl, rfl⟩
              refine V_y (Y_pick_fe rfl hc60 rfl) rfl rfl rfl ?_
              obtain rfl := Option.some.inj hs61
              exact V_end fun a ha => ⟨(), ha.sub ⟨rfl, rfl, rfl, rfl, rfl, rfl, rfl, rfl, rfl, trivial⟩, hr62⟩
          simp only [List.take, List.drop]
          rintro _ w64 hk65
          replace h7 := h7.kp hk65
          replace h23 := h23.kp hk65
          replace h54 := h54.kp hk65
          replace hK := Kp.trans hK hk65
          replace hr31 := Kp.trans hr31 hk65
          replace hA : ∀ b, w64.heap.size ≤ b → A b := fun b hb => hA b (Nat.le_trans hk65.size hb)
          refine V_y (Y_assign rfl) rfl rfl rfl ?_
          refine V_to (fun _ _ => rfl) ?_
          refine C_cond rfl (fun hc66 => ?_) (fun hc66 => ?_)
          · rw [if_pos hc66] at h36
            refine C_seq ?_
            refine C_region ?_
            refine V_y (Y_assign rfl) rfl rfl rfl ?_
            refine V_to (fun _ _ => rfl) ?_
            obtain rfl := Option.some.inj h36
            obtain rfl := (h37 : Lp.rt _ = _)
            rw [Lp.andThen_rt] at hm
            obtain rfl := Option.some.inj hm
            refine C_ret fun a ha => ?_
            try simp only [↓inBlock_ret, ↓then_ret]
            exact ret1 ha Try.results12 rfl ⟨rfl, hK⟩
          · rw [if_neg (nt hc66)] at h36
            refine C_seq ?_
            refine C_region_q Try_mixed (by kernel_rfl) ?_
            refine VQ_y (fun w' hw' => Y_move rfl) rfl rfl rfl ?_
            refine VQ_y (fun w' hw' => Y_gtr rfl rfl) rfl rfl rfl ?_
            refine VQ_y (fun w' hw' => Y_move rfl) rfl rfl rfl ?_
            obtain ⟨s68, hs68, h36⟩ := Option.bind_eq_some_iff.1 h36
            refine VQ_cut 11 (fun _ : Unit => [(1, .pointer (some ⟨b3, 0, none⟩)), (3, .func (.func 55) #[] #[]), (4, .int .i64 s33), (6, .pointer (some ⟨b48, 0, none⟩)), (18, v21), (19, .int .i64 (z.changes.length : Int)), (20, .int .i64 (k32 : Int)), (54, .bool s68)]) (fun _ => True) ?_ ?_
            · simp only [List.take, List.drop]
              rcases Bool.eq_false_or_eq_true (decide ((0 : Int) < (k32 : Int))) with hc67 | hc67
              · rw [if_pos hc67] at hs68
                refine VQ_ge rfl rfl rfl hc67 ?_
                have h70 := El_cal_Change_0 h54
                refine VQ_y (fun w' hw' => Y_fieldAddr Try.underlying81 rfl Try.sizeOf3 (by decide) rfl) rfl rfl rfl ?_
                refine VQ_ge rfl rfl rfl hc67 ?_
                refine VQ_y (fun w' hw' => Y_load (El.int (El.kp h70 hw')) Try.isAgg3 rfl) rfl rfl rfl ?_
                refine VQ_ge rfl rfl rfl hc67 ?_
                have h71 := El_cal_Zone_1 h7
                refine VQ_y (fun w' hw' => Y_fieldAddr Try.underlying24 rfl Try.sizeOf22 (by decide) rfl) rfl rfl rfl ?_
                refine VQ_ge rfl rfl rfl hc67 ?_
                obtain ⟨v72, h73, h74⟩ := El.list h71
                refine VQ_y (fun w' hw' => Y_load ((World.cell?_of_block (hw'.block _ (World.block_lt_of_cell? _ _ h73))).trans h73) Try.isAgg22 rfl) rfl rfl rfl ?_
                refine VQ_ge rfl rfl rfl hc67 ?_
                refine VQ_y (fun w' hw' => Y_move rfl) rfl rfl rfl ?_
                refine VQ_ge rfl rfl rfl hc67 ?_
                refine VQ_y (fun w' hw' => Y_subI rfl rfl) rfl rfl rfl ?_
                refine VQ_ge rfl rfl rfl hc67 ?_
                obtain ⟨x75, hx75, hs68⟩ := Option.bind_eq_some_iff.1 hs68
                refine VQ_indexAddr h74 hx75 Try.underlying22 Try.sizeOf81 rfl rfl rfl ?_
                intro b76 o77 h78
                refine VQ_ge rfl rfl rfl hc67 ?_
                have h79 := El_cal_Change_0 h78
                refine VQ_y (fun w' hw' => Y_fieldAddr Try.underlying81 rfl Try.sizeOf3 (by decide) rfl) rfl rfl rfl ?_
                refine VQ_ge rfl rfl rfl hc67 ?_
                refine VQ_y (fun w' hw' => Y_load (El.int (El.kp h79 hw')) Try.isAgg3 rfl) rfl rfl rfl ?_
                refine VQ_ge rfl rfl rfl hc67 ?_
                refine VQ_y (fun w' hw' => Y_leq rfl rfl) rfl rfl rfl ?_
                refine VQ_y (fun _ _ => Y_pick_te rfl hc67 rfl) rfl rfl rfl ?_
                obtain rfl := Option.some.inj hs68
                exact VQ_end fun a ha => ⟨(), ha.sub ⟨rfl, rfl, rfl, rfl, rfl, rfl, rfl, rfl, trivial⟩, trivial⟩
              · rw [if_neg (nt hc67)] at hs68
                refine VQ_gn rfl rfl rfl hc67 rfl rfl rfl ?_
                refine VQ_gn rfl rfl rfl hc67 rfl rfl rfl ?_
                refine VQ_gn rfl rfl rfl hc67 rfl rfl rfl ?_
                refine VQ_gn rfl rfl rfl hc67 rfl rfl rfl ?_
                refine VQ_gn rfl rfl rfl hc67 rfl rfl rfl ?_
                refine VQ_gn rfl rfl rfl hc67 rfl rfl rfl ?_
                refine VQ_gn rfl rfl rfl hc67 rfl rfl rfl ?_
                refine VQ_gn rfl rfl rfl hc67 rfl rfl rfl ?_
                refine VQ_gn rfl rfl rfl hc67 rfl rfl rfl ?_
                refine VQ_gn rfl rfl rfl hc67 rfl rfl rfl ?_
                refine VQ_y (fun _ _ => Y_pick_fe rfl hc67 rfl) rfl rfl rfl ?_
                obtain rfl := Option.some.inj hs68
                exact VQ_end fun a ha => ⟨(), ha.sub ⟨rfl, rfl, rfl, rfl, rfl, rfl, rfl, rfl, trivial⟩, trivial⟩
            simp only [List.take, List.drop]
            rintro _ _
            refine VQ_y (fun w' hw' => Y_assign rfl) rfl rfl rfl ?_
            refine VQ_to (fun _ _ => rfl) (fun w80 hk81 => ?_)
            replace h7 := h7.kp hk81
            replace h23 := h23.kp hk81
            replace h54 := h54.kp hk81
            replace hK := Kp.trans hK hk81
            replace hr31 := Kp.trans hr31 hk81
            replace hA : ∀ b, w80.heap.size ≤ b → A b := fun b hb => hA b (Nat.le_trans hk81.size hb)
            refine C_cond rfl (fun hc82 => ?_) (fun hc82 => ?_)
            · rw [if_pos hc82] at h36
              refine C_seq ?_
              refine C_region ?_
              refine V_y (Y_assign rfl) rfl rfl rfl ?_
              refine V_to (fun _ _ => rfl) ?_
              obtain rfl := Option.some.inj h36
              obtain rfl := (h37 : Lp.rt _ = _)
              rw [Lp.andThen_rt] at hm
              obtain rfl := Option.some.inj hm
              refine C_ret fun a ha => ?_
              try simp only [↓inBlock_ret, ↓then_ret]
              exact ret1 ha Try.results12 rfl ⟨rfl, hK⟩
            · rw [if_neg (nt hc82)] at h36
              refine C_seq ?_
              refine C_region ?_
              have h83 := El_cal_Change_1 h54
              refine V_y (Y_fieldAddr Try.underlying81 rfl Try.sizeOf3 (by decide) rfl) rfl rfl rfl ?_
              refine V_y (Y_load (El.int h83) Try.isAgg3 rfl) rfl rfl rfl ?_
              refine V_y (Y_move rfl) rfl rfl rfl ?_
              refine V_y (Y_eql rfl rfl) rfl rfl rfl ?_
              refine V_y (Y_assign rfl) rfl rfl rfl ?_
              refine V_to (fun _ _ => rfl) ?_
              refine C_cond rfl (fun hc84 => ?_) (fun hc84 => ?_)
              · rw [if_pos hc84] at h36
                refine C_seq ?_
                refine C_region ?_
                refine V_y (Y_assign rfl) rfl rfl rfl ?_
                refine V_to (fun _ _ => rfl) ?_
                obtain rfl := Option.some.inj h36
                obtain rfl := (h37 : Lp.rt _ = _)
                rw [Lp.andThen_rt] at hm
                obtain rfl := Option.some.inj hm
                refine C_ret fun a ha => ?_
                try simp only [↓inBlock_ret, ↓then_ret]
                exact ret1 ha Try.results12 rfl ⟨rfl, hK⟩
              · rw [if_neg (nt hc84)] at h36
                refine C_skip_to (fun _ _ => rfl) ?_
                refine C_region ?_
                have h85 := El_cal_Change_1 h54
                refine V_y (Y_fieldAddr Try.underlying81 rfl Try.sizeOf3 (by decide) rfl) rfl rfl rfl ?_
                refine V_y (Y_load (El.int h85) Try.isAgg3 rfl) rfl rfl rfl ?_
                refine V_y (Y_assign rfl) rfl rfl rfl ?_
                refine V_to (fun _ _ => rfl) ?_
                refine C_region ?_
                refine V_y (Y_addI rfl rfl) rfl rfl rfl ?_
                refine V_y (Y_move rfl) rfl rfl rfl ?_
                obtain rfl := Option.some.inj h36
                exact V_end fun a ha => ⟨x43.offset, hlt39, h37, ⟨(), ha.sub ⟨rfl, rfl, rfl, rfl, rfl, (congrArg (fun z => some (Value.int .i64 z)) (w64_succ hlt39 (Sl.le h23))), trivial⟩, hr31⟩⟩
        · exact C_exit fun a ha => ⟨s33, ha.sub trivial, ⟨(h40 (eq_of_dec hle38 hc42)).symm, hr31⟩⟩
      rintro s29 w87 ⟨rfl, hk88⟩ a ha89
      rw [Lp.andThen_fin] at hm
      replace hK := Kp.trans hK hk88
      replace hA : ∀ b, w87.heap.size ≤ b → A b := fun b hb => hA b (Nat.le_trans hk88.size hb)
      refine C_at (fun _ _ => rfl) ?_ ha89
      refine C_seq ?_
      refine C_region ?_
      refine V_y (Y_assign rfl) rfl rfl rfl ?_
      refine V_to (fun _ _ => rfl) ?_
      obtain rfl := Option.some.inj hm
      refine C_ret fun a ha => ?_
      try simp only [↓inBlock_ret, ↓then_ret]
      exact ret1 ha Try.results12 rfl ⟨rfl, hK⟩

set_option maxRecDepth 4000 in
theorem cal_within_c (w : World)  (n : Int) (low : Int) (high : Int) : Ret Try.prog 56 #[.int .i64 n, .int .i64 low, .int .i64 high] w fun v w' => v = .bool (cal_within n low high) ∧ w = w' := by
  generalize hm : cal_within n low high = r
  unfold cal_within at hm
  refine enter Try.func56 rfl Try.ntmps56 rfl ?_
  refine C_seq ?_
  refine C_region ?_
  refine V_y (Y_assign rfl) rfl rfl rfl ?_
  refine V_to (fun _ _ => rfl) ?_
  refine C_seq ?_
  refine C_region ?_
  refine V_y (Y_move rfl) rfl rfl rfl ?_
  refine V_y (Y_move rfl) rfl rfl rfl ?_
  refine V_y (Y_geq rfl rfl) rfl rfl rfl ?_
  refine V_y (Y_move rfl) rfl rfl rfl ?_
  refine V_cut 4 (fun _ : Unit => [(14, .bool ((decide (low ≤ n)) && (decide (n ≤ high))))]) (fun _ w' => w = w') ?_ ?_
  · simp only [List.take, List.drop]
    rcases Bool.eq_false_or_eq_true (decide (low ≤ n)) with hc1 | hc1
    · refine V_ge rfl rfl rfl hc1 ?_
      refine V_y (Y_move rfl) rfl rfl rfl ?_
      refine V_ge rfl rfl rfl hc1 ?_
      refine V_y (Y_move rfl) rfl rfl rfl ?_
      refine V_ge rfl rfl rfl hc1 ?_
      refine V_y (Y_leq rfl rfl) rfl rfl rfl ?_
      refine V_y (Y_pick_te rfl hc1 rfl) rfl rfl rfl ?_
      exact V_end fun a ha => ⟨(), ha.sub ⟨(by rw [hc1]; rfl), trivial⟩, rfl⟩
    · refine V_gn rfl rfl rfl hc1 rfl rfl rfl ?_
      refine V_gn rfl rfl rfl hc1 rfl rfl rfl ?_
      refine V_gn rfl rfl rfl hc1 rfl rfl rfl ?_
      refine V_y (Y_pick_fe rfl hc1 rfl) rfl rfl rfl ?_
      exact V_end fun a ha => ⟨(), ha.sub ⟨(by rw [hc1]; rfl), trivial⟩, rfl⟩
  simp only [List.take, List.drop]
  rintro _ _ rfl
  refine V_y (Y_assign rfl) rfl rfl rfl ?_
  refine V_to (fun _ _ => rfl) ?_
  obtain rfl := hm
  refine C_ret fun a ha => ?_
  try simp only [↓inBlock_ret, ↓then_ret]
  exact ret1 ha Try.results56 rfl ⟨rfl, rfl⟩

set_option maxRecDepth 4000 in
theorem cal_CheckZone_c (w : World) {A : Nat → Prop} (hA : ∀ b, w.heap.size ≤ b → A b) (z : cal_Zone) (v_z : Value) (h_z : Sl A w v_z z.changes) {r : Int} (hm : cal_CheckZone z = some r) : Ret Try.prog 13 #[.agg #[.int .i64 z.offset, v_z]] w fun v w' => v = .int .i64 r ∧ Kp w w' := by
  unfold cal_CheckZone at hm
  refine enter Try.func13 rfl Try.ntmps13 rfl ?_
  have hK := Kp.refl w
  refine C_seq ?_
  refine C_region ?_
  refine V_box rfl rfl ?_
  intro b3 w4 h5
  have hk6 := h5.kp
  have h7 : El (α := cal_Zone) A w4 b3 0 z := h5.el hA ⟨[.int .i64 z.offset], _, rfl, rfl, ⟨_, rfl, h_z⟩⟩
  replace h_z := h_z.kp hk6
  replace hK := Kp.trans hK hk6
  replace hA : ∀ b, w4.heap.size ≤ b → A b := fun b hb => hA b (Nat.le_trans hk6.size hb)
  refine V_y (Y_assign rfl) rfl rfl rfl ?_
  refine V_to (fun _ _ => rfl) ?_
  refine C_seq ?_
  refine C_seq ?_
  refine C_region ?_
  have h8 := El_cal_Zone_0 h7
  refine V_y (Y_fieldAddr Try.underlying24 rfl Try.sizeOf3 (by decide) rfl) rfl rfl rfl ?_
  refine V_y (Y_load (El.int h8) Try.isAgg3 rfl) rfl rfl rfl ?_
  refine V_call Try.call56 rfl rfl rfl rfl (cal_within_c w4 z.offset (-1440) 1440) ?_
  rintro _ _ ⟨rfl, rfl⟩
  refine V_y (Y_not rfl) rfl rfl rfl ?_
  refine V_to (fun _ _ => rfl) ?_
  refine C_cond rfl (fun hc9 => ?_) (fun hc9 => ?_)
  · rw [if_pos hc9] at hm
    refine C_seq ?_
    refine C_region ?_
    refine V_y (Y_assign rfl) rfl rfl rfl ?_
    refine V_to (fun _ _ => rfl) ?_
    obtain rfl := Option.some.inj hm
    refine C_ret fun a ha => ?_
    try simp only [↓inBlock_ret, ↓then_ret]
    exact ret1 ha Try.results13 rfl ⟨rfl, hK⟩
  · rw [if_neg (nt hc9)] at hm
    refine C_skip_to (fun _ _ => rfl) ?_
    refine C_seq ?_
    refine C_seq ?_
    refine C_region ?_
    have h10 := El_cal_Zone_1 h7
    refine V_y (Y_fieldAddr Try.underlying24 rfl Try.sizeOf22 (by decide) rfl) rfl rfl rfl ?_
    obtain ⟨v11, h12, h13⟩ := El.list h10
    refine V_y (Y_load h12 Try.isAgg22 rfl) rfl rfl rfl ?_
    refine V_y (Y_lenSl h13 rfl Try.underlying22 rfl) rfl rfl rfl ?_
    refine V_y (Y_gtr rfl rfl) rfl rfl rfl ?_
    refine V_to (fun _ _ => rfl) ?_
    refine C_cond rfl (fun hc18 => ?_) (fun hc18 => ?_)
    · rw [if_pos hc18] at hm
      refine C_seq ?_
      refine C_region ?_
      refine V_y (Y_assign rfl) rfl rfl rfl ?_
      refine V_to (fun _ _ => rfl) ?_
      obtain rfl := Option.some.inj hm
      refine C_ret fun a ha => ?_
      try simp only [↓inBlock_ret, ↓then_ret]
      exact ret1 ha Try.results13 rfl ⟨rfl, hK⟩
    · rw [if_neg (nt hc18)] at hm
      refine C_skip_to (fun _ _ => rfl) ?_
      refine C_seq ?_
      refine C_region_q Try_mixed (by kernel_rfl) ?_
      have h19 := El_cal_Zone_0 h7
      refine VQ_y (fun w' hw' => Y_fieldAddr Try.underlying24 rfl Try.sizeOf3 (by decide) rfl) rfl rfl rfl ?_
      refine VQ_y (fun w' hw' => Y_load (El.int (El.kp h19 hw')) Try.isAgg3 rfl) rfl rfl rfl ?_
      refine VQ_y (fun w' hw' => Y_assign rfl) rfl rfl rfl ?_
      refine VQ_y (fun w' hw' => Y_assign rfl) rfl rfl rfl ?_
      refine VQ_to (fun _ _ => rfl) (fun w20 hk21 => ?_)
      replace h7 := h7.kp hk21
      replace hK := Kp.trans hK hk21
      replace hA : ∀ b, w20.heap.size ≤ b → A b := fun b hb => hA b (Nat.le_trans hk21.size hb)
      refine C_seq ?_
      refine C_seq ?_
      refine C_region ?_
      have h22 := El_cal_Zone_1 h7
      refine V_y (Y_fieldAddr Try.underlying24 rfl Try.sizeOf22 (by decide) rfl) rfl rfl rfl ?_
      obtain ⟨v23, h24, h25⟩ := El.list h22
      refine V_y (Y_load h24 Try.isAgg22 rfl) rfl rfl rfl ?_
      refine V_y (Y_lenSl h25 rfl Try.underlying22 rfl) rfl rfl rfl ?_
      refine V_y (Y_move rfl) rfl rfl rfl ?_
      refine V_to (fun _ _ => rfl) ?_
      obtain ⟨o30, ho30, hm⟩ := Option.bind_eq_some_iff.1 hm
      refine C_cutG (ι := (Int × Int)) (fun (s31 : (Int × Int)) => []) (fun (s31 : (Int × Int)) => fun w' => o30 = .fin s31 ∧ Kp w20 w') ?_ ?_
      · refine C_block ?_
        refine C_range ho30 (fun k34 s35 a w' => ∃ i : Unit, Has 50 a ([(3, .int .i64 s35.1), (4, .int .i64 s35.2), (18, v23), (19, .int .i64 (z.changes.length : Int)), (20, .int .i64 (k34 : Int))]) ∧ Kp w20 w') (fun a ha => ⟨(), ha.sub ⟨rfl, rfl, rfl, rfl, rfl, trivial⟩, Kp.refl _⟩) ?_
        rintro K k34 s35 a w36 ⟨_, ha71, hr33⟩ hle40 K43 h42
        refine C_of ?_ ha71
        replace h25 := h25.kp hr33
        replace hK := Kp.trans hK hr33
        replace hA : ∀ b, w36.heap.size ≤ b → A b := fun b hb => hA b (Nat.le_trans hr33.size hb)
        refine C_seq (C_region (V_y (Y_lss rfl rfl) rfl rfl rfl (V_to (fun _ _ => rfl) ?_)))
        refine C_seq ?_
        refine C_cond rfl (fun hc44 => ?_) (fun hc44 => ?_)
        · have hlt41 := lt_of_dec hc44
          obtain ⟨x37, h38, h39⟩ := K43 hlt41
          refine C_skip_to (fun _ _ => rfl) ?_
          refine C_seq ?_
          refine C_block ?_
          refine C_seq ?_
          refine C_region ?_
          obtain ⟨x45, hx45, h38⟩ := Option.bind_eq_some_iff.1 h38
          refine V_indexAddr h25 hx45 Try.underlying22 Try.sizeOf81 rfl rfl rfl ?_
          intro b46 o47 h48
          obtain ⟨h49, _⟩ := El_cal_Change h48
          refine V_y (Y_loadA h49 Try.isAgg81 Try.sizeOf81 rfl) rfl rfl rfl ?_
          refine V_alloc Try.zeroValue81 rfl ?_
          intro b50 w51 h52
          refine V_storeNew h52 Try.sizeOf81 rfl rfl rfl rfl (by simp [Value.cells, Value.oneCell']) ?_
          intro w53 h54
          have hk55 := h54.kp
          have h56 : El (α := cal_Change) A w53 b50 0 x45 := h54.el hA ⟨[.int .i64 x45.at_], _, rfl, rfl, rfl⟩
          replace h25 := h25.kp hk55
          replace h48 := h48.kp hk55
          replace hK := Kp.trans hK hk55
          replace hr33 := Kp.trans hr33 hk55
          replace hA : ∀ b, w53.heap.size ≤ b → A b := fun b hb => hA b (Nat.le_trans hk55.size hb)
          refine V_to (fun _ _ => rfl) ?_
          refine C_seq ?_
          refine C_block ?_
          refine C_seq ?_
          refine C_region ?_
          have h57 := El_cal_Change_0 h56
          refine V_y (Y_fieldAddr Try.underlying81 rfl Try.sizeOf3 (by decide) rfl) rfl rfl rfl ?_
          refine V_y (Y_load (El.int h57) Try.isAgg3 rfl) rfl rfl rfl ?_
          refine V_call Try.call56 rfl rfl rfl rfl (cal_within_c w53 x45.at_ 1 3000000) ?_
          rintro _ _ ⟨rfl, rfl⟩
          refine V_y (Y_not rfl) rfl rfl rfl ?_
          refine V_y (Y_move rfl) rfl rfl rfl ?_
          refine V_cut 5 (fun _ : Unit => [(3, .int .i64 s35.1), (4, .int .i64 s35.2), (6, .pointer (some ⟨b50, 0, none⟩)), (18, v23), (19, .int .i64 (z.changes.length : Int)), (20, .int .i64 (k34 : Int)), (34, .bool ((!(cal_within x45.at_ 1 3000000)) || (!(cal_within x45.offset (-1440) 1440))))]) (fun _ w' => w53 = w') ?_ ?_
          · simp only [List.take, List.drop]
            rcases Bool.eq_false_or_eq_true (!(cal_within x45.at_ 1 3000000)) with hc58 | hc58
            · refine V_gn rfl rfl rfl hc58 rfl rfl rfl ?_
              refine V_gn rfl rfl rfl hc58 rfl rfl rfl ?_
              refine V_gn rfl rfl rfl hc58 rfl rfl rfl ?_
              refine V_gn rfl rfl rfl hc58 rfl rfl rfl ?_
              refine V_y (Y_pick_te rfl hc58 rfl) rfl rfl rfl ?_
              exact V_end fun a ha => ⟨(), ha.sub ⟨rfl, rfl, rfl, rfl, rfl, rfl, (by rw [hc58]; rfl), trivial⟩, rfl⟩
            · refine V_ge rfl rfl rfl hc58 ?_
              have h61 := El_cal_Change_1 h56
              refine V_y (Y_fieldAddr Try.underlying81 rfl Try.sizeOf3 (by decide) rfl) rfl rfl rfl ?_
              refine V_ge rfl rfl rfl hc58 ?_
              refine V_y (Y_load (El.int h61) Try.isAgg3 rfl) rfl rfl rfl ?_
              refine V_ge rfl rfl rfl hc58 ?_
              refine V_call Try.call56 rfl rfl rfl rfl (cal_within_c w53 x45.offset (-1440) 1440) ?_
              rintro _ _ ⟨rfl, rfl⟩
              refine V_ge rfl rfl rfl hc58 ?_
              refine V_y (Y_not rfl) rfl rfl rfl ?_
              refine V_y (Y_pick_fe rfl hc58 rfl) rfl rfl rfl ?_
              exact V_end fun a ha => ⟨(), ha.sub ⟨rfl, rfl, rfl, rfl, rfl, rfl, (by rw [hc58]; rfl), trivial⟩, rfl⟩
          simp only [List.take, List.drop]
          rintro _ _ rfl
          refine V_y (Y_assign rfl) rfl rfl rfl ?_
          refine V_to (fun _ _ => rfl) ?_
          refine C_cond rfl (fun hc62 => ?_) (fun hc62 => ?_)
          · rw [if_pos hc62] at h38
            refine C_seq ?_
            refine C_region ?_
            refine V_y (Y_assign rfl) rfl rfl rfl ?_
            refine V_to (fun _ _ => rfl) ?_
            obtain rfl := Option.some.inj h38
            obtain rfl := (h39 : Lp.rt _ = _)
            rw [Lp.andThen_rt] at hm
            obtain rfl := Option.some.inj hm
            refine C_ret fun a ha => ?_
            try simp only [↓inBlock_ret, ↓then_ret]
            exact ret1 ha Try.results13 rfl ⟨rfl, hK⟩
          · rw [if_neg (nt hc62)] at h38
            refine C_seq ?_
            refine C_region ?_
            have h63 := El_cal_Change_0 h56
            refine V_y (Y_fieldAddr Try.underlying81 rfl Try.sizeOf3 (by decide) rfl) rfl rfl rfl ?_
            refine V_y (Y_load (El.int h63) Try.isAgg3 rfl) rfl rfl rfl ?_
            refine V_y (Y_move rfl) rfl rfl rfl ?_
            refine V_y (Y_leq rfl rfl) rfl rfl rfl ?_
            refine V_y (Y_assign rfl) rfl rfl rfl ?_
            refine V_to (fun _ _ => rfl) ?_
            refine C_cond rfl (fun hc64 => ?_) (fun hc64 => ?_)
            · rw [if_pos hc64] at h38
              refine C_seq ?_
              refine C_region ?_
              refine V_y (Y_assign rfl) rfl rfl rfl ?_
              refine V_to (fun _ _ => rfl) ?_
              obtain rfl := Option.some.inj h38
              obtain rfl := (h39 : Lp.rt _ = _)
              rw [Lp.andThen_rt] at hm
              obtain rfl := Option.some.inj hm
              refine C_ret fun a ha => ?_
              try simp only [↓inBlock_ret, ↓then_ret]
              exact ret1 ha Try.results13 rfl ⟨rfl, hK⟩
            · rw [if_neg (nt hc64)] at h38
              refine C_seq ?_
              refine C_region ?_
              have h65 := El_cal_Change_1 h56
              refine V_y (Y_fieldAddr Try.underlying81 rfl Try.sizeOf3 (by decide) rfl) rfl rfl rfl ?_
              refine V_y (Y_load (El.int h65) Try.isAgg3 rfl) rfl rfl rfl ?_
              refine V_y (Y_move rfl) rfl rfl rfl ?_
              refine V_y (Y_eql rfl rfl) rfl rfl rfl ?_
              refine V_y (Y_assign rfl) rfl rfl rfl ?_
              refine V_to (fun _ _ => rfl) ?_
              refine C_cond rfl (fun hc66 => ?_) (fun hc66 => ?_)
              · rw [if_pos hc66] at h38
                refine C_seq ?_
                refine C_region ?_
                refine V_y (Y_assign rfl) rfl rfl rfl ?_
                refine V_to (fun _ _ => rfl) ?_
                obtain rfl := Option.some.inj h38
                obtain rfl := (h39 : Lp.rt _ = _)
                rw [Lp.andThen_rt] at hm
                obtain rfl := Option.some.inj hm
                refine C_ret fun a ha => ?_
                try simp only [↓inBlock_ret, ↓then_ret]
                exact ret1 ha Try.results13 rfl ⟨rfl, hK⟩
              · rw [if_neg (nt hc66)] at h38
                refine C_skip_to (fun _ _ => rfl) ?_
                refine C_region_q Try_mixed (by kernel_rfl) ?_
                have h67 := El_cal_Change_0 h56
                refine VQ_y (fun w' hw' => Y_fieldAddr Try.underlying81 rfl Try.sizeOf3 (by decide) rfl) rfl rfl rfl ?_
                refine VQ_y (fun w' hw' => Y_load (El.int (El.kp h67 hw')) Try.isAgg3 rfl) rfl rfl rfl ?_
                have h68 := El_cal_Change_1 h56
                refine VQ_y (fun w' hw' => Y_fieldAddr Try.underlying81 rfl Try.sizeOf3 (by decide) rfl) rfl rfl rfl ?_
                refine VQ_y (fun w' hw' => Y_load (El.int (El.kp h68 hw')) Try.isAgg3 rfl) rfl rfl rfl ?_
                refine VQ_y (fun w' hw' => Y_assign rfl) rfl rfl rfl ?_
                refine VQ_y (fun w' hw' => Y_assign rfl) rfl rfl rfl ?_
                refine VQ_to (fun _ _ => rfl) (fun w69 hk70 => ?_)
                replace h25 := h25.kp hk70
                replace hK := Kp.trans hK hk70
                replace hr33 := Kp.trans hr33 hk70
                replace hA : ∀ b, w69.heap.size ≤ b → A b := fun b hb => hA b (Nat.le_trans hk70.size hb)
                refine C_region ?_
                refine V_y (Y_addI rfl rfl) rfl rfl rfl ?_
                refine V_y (Y_move rfl) rfl rfl rfl ?_
                obtain rfl := Option.some.inj h38
                exact V_end fun a ha => ⟨(x45.at_, x45.offset), hlt41, h39, ⟨(), ha.sub ⟨rfl, rfl, rfl, rfl, (congrArg (fun z => some (Value.int .i64 z)) (w64_succ hlt41 (Sl.le h25))), trivial⟩, hr33⟩⟩
        · exact C_exit fun a ha => ⟨(s35.1, s35.2), ha.sub trivial, ⟨(h42 (eq_of_dec hle40 hc44)).symm, hr33⟩⟩
      rintro s31 w72 ⟨rfl, hk73⟩ a ha74
      rw [Lp.andThen_fin] at hm
      replace hK := Kp.trans hK hk73
      replace hA : ∀ b, w72.heap.size ≤ b → A b := fun b hb => hA b (Nat.le_trans hk73.size hb)
      refine C_at (fun _ _ => rfl) ?_ ha74
      refine C_seq ?_
      refine C_region ?_
      refine V_y (Y_assign rfl) rfl rfl rfl ?_
      refine V_to (fun _ _ => rfl) ?_
      obtain rfl := Option.some.inj hm
      refine C_ret fun a ha => ?_
      try simp only [↓inBlock_ret, ↓then_ret]
      exact ret1 ha Try.results13 rfl ⟨rfl, hK⟩

set_option maxRecDepth 4000 in
theorem cal_moment_c (w : World)  (m : Int) : Ret Try.prog 58 #[.int .i64 m] w fun v w' => v = .int .i64 (cal_moment m) ∧ w = w' := by
  generalize hm : cal_moment m = r
  unfold cal_moment at hm
  refine enter Try.func58 rfl Try.ntmps58 rfl ?_
  refine C_seq ?_
  refine C_region ?_
  refine V_y (Y_assign rfl) rfl rfl rfl ?_
  refine V_to (fun _ _ => rfl) ?_
  refine C_seq ?_
  refine C_seq ?_
  refine C_region ?_
  refine V_y (Y_move rfl) rfl rfl rfl ?_
  refine V_call Try.call56 rfl rfl rfl rfl (cal_within_c w m 0 3000000) ?_
  rintro _ _ ⟨rfl, rfl⟩
  refine V_y (Y_not rfl) rfl rfl rfl ?_
  refine V_to (fun _ _ => rfl) ?_
  refine C_cond rfl (fun hc1 => ?_) (fun hc1 => ?_)
  · rw [if_pos hc1] at hm
    refine C_seq ?_
    refine C_region ?_
    refine V_y (Y_assign rfl) rfl rfl rfl ?_
    refine V_to (fun _ _ => rfl) ?_
    obtain rfl := hm
    refine C_ret fun a ha => ?_
    try simp only [↓inBlock_ret, ↓then_ret]
    exact ret1 ha Try.results58 rfl ⟨rfl, rfl⟩
  · rw [if_neg (nt hc1)] at hm
    refine C_skip_to (fun _ _ => rfl) ?_
    refine C_seq ?_
    refine C_region ?_
    refine V_y (Y_assign rfl) rfl rfl rfl ?_
    refine V_to (fun _ _ => rfl) ?_
    obtain rfl := hm
    refine C_ret fun a ha => ?_
    try simp only [↓inBlock_ret, ↓then_ret]
    exact ret1 ha Try.results58 rfl ⟨rfl, rfl⟩

set_option maxRecDepth 4000 in
theorem cmp_Or_api_Errno_c (w : World) {A : Nat → Prop}  (vals : (List Int)) (v_vals : Value) (h_vals : Sl A w v_vals vals) {r : Int} (hm : cmp_Or_api_Errno vals = some r) : Ret Try.prog 57 #[v_vals] w fun v w' => v = .int .i64 r ∧ w = w' := by
  unfold cmp_Or_api_Errno at hm
  refine enter Try.func57 rfl Try.ntmps57 rfl ?_
  refine C_seq ?_
  refine C_region ?_
  refine V_y (Y_assign rfl) rfl rfl rfl ?_
  refine V_to (fun _ _ => rfl) ?_
  refine C_seq ?_
  refine C_region ?_
  refine V_y (Y_assign rfl) rfl rfl rfl ?_
  refine V_to (fun _ _ => rfl) ?_
  refine C_seq ?_
  refine C_seq ?_
  refine C_region ?_
  refine V_y (Y_move rfl) rfl rfl rfl ?_
  refine V_y (Y_lenSl h_vals rfl Try.underlying118 rfl) rfl rfl rfl ?_
  refine V_y (Y_move rfl) rfl rfl rfl ?_
  refine V_to (fun _ _ => rfl) ?_
  obtain ⟨o7, ho7, hm⟩ := Option.bind_eq_some_iff.1 hm
  refine C_cutG (ι := Unit) (fun (s8 : Unit) => [(3, .int .i64 0)]) (fun (s8 : Unit) => fun w' => o7 = .fin s8 ∧ w = w') ?_ ?_
  · refine C_block ?_
    refine C_range ho7 (fun k11 _ a w' => ∃ i : Unit, Has 18 a ([(3, .int .i64 0), (6, v_vals), (7, .int .i64 (vals.length : Int)), (8, .int .i64 (k11 : Int))]) ∧ w = w') (fun a ha => ⟨(), ha.sub ⟨rfl, rfl, rfl, rfl, trivial⟩, rfl⟩) ?_
    rintro K k11 _ a _ ⟨_, ha27, rfl⟩ hle17 K20 h19
    refine C_of ?_ ha27
    refine C_seq (C_region (V_y (Y_lss rfl rfl) rfl rfl rfl (V_to (fun _ _ => rfl) ?_)))
    refine C_seq ?_
    refine C_cond rfl (fun hc21 => ?_) (fun hc21 => ?_)
    · have hlt18 := lt_of_dec hc21
      obtain ⟨x14, h15, h16⟩ := K20 hlt18
      refine C_skip_to (fun _ _ => rfl) ?_
      refine C_seq ?_
      refine C_block ?_
      refine C_seq ?_
      refine C_region ?_
      obtain ⟨x22, hx22, h15⟩ := Option.bind_eq_some_iff.1 h15
      refine V_indexAddr h_vals hx22 Try.underlying118 Try.sizeOf25 rfl rfl rfl ?_
      intro b23 o24 h25
      refine V_y (Y_load (El.int h25) Try.isAgg25 rfl) rfl rfl rfl ?_
      refine V_y (Y_assign rfl) rfl rfl rfl ?_
      refine V_to (fun _ _ => rfl) ?_
      refine C_seq ?_
      refine C_region ?_
      refine V_y (Y_move rfl) rfl rfl rfl ?_
      refine V_y (Y_move rfl) rfl rfl rfl ?_
      refine V_y (Y_neq rfl rfl) rfl rfl rfl ?_
      refine V_to (fun _ _ => rfl) ?_
      refine C_cond rfl (fun hc26 => ?_) (fun hc26 => ?_)
      · rw [if_pos hc26] at h15
        refine C_seq ?_
        refine C_region ?_
        refine V_y (Y_move rfl) rfl rfl rfl ?_
        refine V_y (Y_assign rfl) rfl rfl rfl ?_
        refine V_to (fun _ _ => rfl) ?_
        obtain rfl := Option.some.inj h15
        obtain rfl := (h16 : Lp.rt _ = _)
        rw [Lp.andThen_rt] at hm
        obtain rfl := Option.some.inj hm
        refine C_ret fun a ha => ?_
        try simp only [↓inBlock_ret, ↓then_ret]
        exact ret1 ha Try.results57 rfl ⟨rfl, rfl⟩
      · rw [if_neg (nt hc26)] at h15
        refine C_skip_to (fun _ _ => rfl) ?_
        refine C_region ?_
        refine V_y (Y_addI rfl rfl) rfl rfl rfl ?_
        refine V_y (Y_move rfl) rfl rfl rfl ?_
        obtain rfl := Option.some.inj h15
        exact V_end fun a ha => ⟨(), hlt18, h16, ⟨(), ha.sub ⟨rfl, rfl, rfl, (congrArg (fun z => some (Value.int .i64 z)) (w64_succ hlt18 (Sl.le h_vals))), trivial⟩, rfl⟩⟩
    · exact C_exit fun a ha => ⟨(), ha.sub ⟨rfl, trivial⟩, ⟨(h19 (eq_of_dec hle17 hc21)).symm, rfl⟩⟩
  rintro s8 _ ⟨rfl, rfl⟩ a ha30
  rw [Lp.andThen_fin] at hm
  refine C_at (fun _ _ => rfl) ?_ ha30
  refine C_seq ?_
  refine C_region ?_
  refine V_y (Y_move rfl) rfl rfl rfl ?_
  refine V_y (Y_assign rfl) rfl rfl rfl ?_
  refine V_to (fun _ _ => rfl) ?_
  obtain rfl := Option.some.inj hm
  refine C_ret fun a ha => ?_
  try simp only [↓inBlock_ret, ↓then_ret]
  exact ret1 ha Try.results57 rfl ⟨rfl, rfl⟩

set_option maxRecDepth 4000 in
theorem cal_Zone_offsetAt_c (w : World) {A : Nat → Prop} (hA : ∀ b, w.heap.size ≤ b → A b) (z : cal_Zone) (v_z : Value) (h_z : Sl A w v_z z.changes) (m : Int) {r : Int} (hm : cal_Zone_offsetAt z m = some r) : Ret Try.prog 59 #[.agg #[.int .i64 z.offset, v_z], .int .i64 m] w fun v w' => v = .int .i64 r ∧ Kp w w' := by
  unfold cal_Zone_offsetAt at hm
  refine enter Try.func59 rfl Try.ntmps59 rfl ?_
  have hK := Kp.refl w
  refine C_seq ?_
  refine C_region ?_
  refine V_box rfl rfl ?_
  intro b3 w4 h5
  have hk6 := h5.kp
  have h7 : El (α := cal_Zone) A w4 b3 0 z := h5.el hA ⟨[.int .i64 z.offset], _, rfl, rfl, ⟨_, rfl, h_z⟩⟩
  replace h_z := h_z.kp hk6
  replace hK := Kp.trans hK hk6
  replace hA : ∀ b, w4.heap.size ≤ b → A b := fun b hb => hA b (Nat.le_trans hk6.size hb)
  refine V_y (Y_assign rfl) rfl rfl rfl ?_
  refine V_to (fun _ _ => rfl) ?_
  refine C_seq ?_
  refine C_region ?_
  have h8 := El_cal_Zone_0 h7
  refine V_y (Y_fieldAddr Try.underlying24 rfl Try.sizeOf3 (by decide) rfl) rfl rfl rfl ?_
  refine V_y (Y_load (El.int h8) Try.isAgg3 rfl) rfl rfl rfl ?_
  refine V_y (Y_assign rfl) rfl rfl rfl ?_
  refine V_to (fun _ _ => rfl) ?_
  refine C_seq ?_
  refine C_seq ?_
  refine C_region ?_
  have h9 := El_cal_Zone_1 h7
  refine V_y (Y_fieldAddr Try.underlying24 rfl Try.sizeOf22 (by decide) rfl) rfl rfl rfl ?_
  obtain ⟨v10, h11, h12⟩ := El.list h9
  refine V_y (Y_load h11 Try.isAgg22 rfl) rfl rfl rfl ?_
  refine V_y (Y_lenSl h12 rfl Try.underlying22 rfl) rfl rfl rfl ?_
  refine V_y (Y_move rfl) rfl rfl rfl ?_
  refine V_to (fun _ _ => rfl) ?_
  obtain ⟨o17, ho17, hm⟩ := Option.bind_eq_some_iff.1 hm
  refine C_cutG (ι := Int) (fun (s18 : Int) => [(5, .int .i64 s18)]) (fun (s18 : Int) => fun w' => o17 = .fin s18 ∧ Kp w4 w') ?_ ?_
  · refine C_block ?_
    refine C_range ho17 (fun k21 s22 a w' => ∃ i : Unit, Has 25 a ([(1, .int .i64 m), (5, .int .i64 s22), (11, v10), (12, .int .i64 (z.changes.length : Int)), (13, .int .i64 (k21 : Int))]) ∧ Kp w4 w') (fun a ha => ⟨(), ha.sub ⟨rfl, rfl, rfl, rfl, rfl, trivial⟩, Kp.refl _⟩) ?_
    rintro K k21 s22 a w23 ⟨_, ha59, hr20⟩ hle27 K30 h29
    refine C_of ?_ ha59
    replace h12 := h12.kp hr20
    replace hK := Kp.trans hK hr20
    replace hA : ∀ b, w23.heap.size ≤ b → A b := fun b hb => hA b (Nat.le_trans hr20.size hb)
    refine C_seq (C_region (V_y (Y_lss rfl rfl) rfl rfl rfl (V_to (fun _ _ => rfl) ?_)))
    refine C_seq ?_
    refine C_cond rfl (fun hc31 => ?_) (fun hc31 => ?_)
    · have hlt28 := lt_of_dec hc31
      obtain ⟨x24, h25, h26⟩ := K30 hlt28
      refine C_skip_to (fun _ _ => rfl) ?_
      refine C_seq ?_
      obtain ⟨s33, ho32, h25⟩ := Option.bind_eq_some_iff.1 h25
      refine C_cutG (ι := Unit) (fun (_ : Unit) => [(1, .int .i64 m), (5, .int .i64 s33), (11, v10), (12, .int .i64 (z.changes.length : Int)), (13, .int .i64 (k21 : Int))]) (fun (_ : Unit) => fun w' => Kp w23 w') ?_ ?_
      · have hr34 := Kp.refl w23
        refine C_block ?_
        refine C_seq ?_
        refine C_region ?_
        obtain ⟨x35, hx35, ho32⟩ := Option.bind_eq_some_iff.1 ho32
        refine V_indexAddr h12 hx35 Try.underlying22 Try.sizeOf81 rfl rfl rfl ?_
        intro b36 o37 h38
        obtain ⟨h39, _⟩ := El_cal_Change h38
        refine V_y (Y_loadA h39 Try.isAgg81 Try.sizeOf81 rfl) rfl rfl rfl ?_
        refine V_alloc Try.zeroValue81 rfl ?_
        intro b40 w41 h42
        refine V_storeNew h42 Try.sizeOf81 rfl rfl rfl rfl (by simp [Value.cells, Value.oneCell']) ?_
        intro w43 h44
        have hk45 := h44.kp
        have h46 : El (α := cal_Change) A w43 b40 0 x35 := h44.el hA ⟨[.int .i64 x35.at_], _, rfl, rfl, rfl⟩
        replace h12 := h12.kp hk45
        replace h38 := h38.kp hk45
        replace hK := Kp.trans hK hk45
        replace hr20 := Kp.trans hr20 hk45
        replace hr34 := Kp.trans hr34 hk45
        replace hA : ∀ b, w43.heap.size ≤ b → A b := fun b hb => hA b (Nat.le_trans hk45.size hb)
        refine V_to (fun _ _ => rfl) ?_
        refine C_seq ?_
        refine C_region ?_
        have h47 := El_cal_Change_0 h46
        refine V_y (Y_fieldAddr Try.underlying81 rfl Try.sizeOf3 (by decide) rfl) rfl rfl rfl ?_
        refine V_y (Y_load (El.int h47) Try.isAgg3 rfl) rfl rfl rfl ?_
        refine V_y (Y_move rfl) rfl rfl rfl ?_
        refine V_y (Y_leq rfl rfl) rfl rfl rfl ?_
        refine V_to (fun _ _ => rfl) ?_
        obtain ⟨s49, ho48, ho32⟩ := Option.bind_eq_some_iff.1 ho32
        refine C_cutG (ι := Unit) (fun (_ : Unit) => [(1, .int .i64 m), (5, .int .i64 s49), (11, v10), (12, .int .i64 (z.changes.length : Int)), (13, .int .i64 (k21 : Int))]) (fun (_ : Unit) => fun w' => w43 = w') ?_ ?_
        · refine C_cond rfl (fun hc51 => ?_) (fun hc51 => ?_)
          · rw [if_pos hc51] at ho48
            refine C_region ?_
            have h52 := El_cal_Change_1 h46
            refine V_y (Y_fieldAddr Try.underlying81 rfl Try.sizeOf3 (by decide) rfl) rfl rfl rfl ?_
            refine V_y (Y_load (El.int h52) Try.isAgg3 rfl) rfl rfl rfl ?_
            refine V_y (Y_assign rfl) rfl rfl rfl ?_
            obtain rfl := Option.some.inj ho48
            exact V_end fun a ha => ⟨(), ha.sub ⟨rfl, rfl, rfl, rfl, rfl, trivial⟩, rfl⟩
          · rw [if_neg (nt hc51)] at ho48
            obtain rfl := Option.some.inj ho48
            exact C_skip fun a ha => ⟨(), ha.sub ⟨rfl, rfl, rfl, rfl, rfl, trivial⟩, rfl⟩
        rintro _ _ rfl a ha55
        obtain rfl := Option.some.inj ho32
        exact ⟨(), ha55.sub ⟨rfl, rfl, rfl, rfl, rfl, trivial⟩, hr34⟩
      rintro _ w56 hk57 a ha58
      replace h12 := h12.kp hk57
      replace hK := Kp.trans hK hk57
      replace hr20 := Kp.trans hr20 hk57
      replace hA : ∀ b, w56.heap.size ≤ b → A b := fun b hb => hA b (Nat.le_trans hk57.size hb)
      refine C_at (fun _ _ => rfl) ?_ ha58
      refine C_region ?_
      refine V_y (Y_addI rfl rfl) rfl rfl rfl ?_
      refine V_y (Y_move rfl) rfl rfl rfl ?_
      obtain rfl := Option.some.inj h25
      exact V_end fun a ha => ⟨s33, hlt28, h26, ⟨(), ha.sub ⟨rfl, rfl, rfl, rfl, (congrArg (fun z => some (Value.int .i64 z)) (w64_succ hlt28 (Sl.le h12))), trivial⟩, hr20⟩⟩
    · exact C_exit fun a ha => ⟨s22, ha.sub ⟨rfl, trivial⟩, ⟨(h29 (eq_of_dec hle27 hc31)).symm, hr20⟩⟩
  rintro s18 w60 ⟨rfl, hk61⟩ a ha62
  rw [Lp.andThen_fin] at hm
  replace hK := Kp.trans hK hk61
  replace hA : ∀ b, w60.heap.size ≤ b → A b := fun b hb => hA b (Nat.le_trans hk61.size hb)
  refine C_at (fun _ _ => rfl) ?_ ha62
  refine C_seq ?_
  refine C_region ?_
  refine V_y (Y_move rfl) rfl rfl rfl ?_
  refine V_y (Y_assign rfl) rfl rfl rfl ?_
  refine V_to (fun _ _ => rfl) ?_
  obtain rfl := Option.some.inj hm
  refine C_ret fun a ha => ?_
  try simp only [↓inBlock_ret, ↓then_ret]
  exact ret1 ha Try.results59 rfl ⟨rfl, hK⟩

set_option maxRecDepth 4000 in
theorem cal_OffsetAt_c (w : World) {A : Nat → Prop} (hA : ∀ b, w.heap.size ≤ b → A b) (z : cal_Zone) (v_z : Value) (h_z : Sl A w v_z z.changes) (m : Int) {r : (Int × Int)} (hm : cal_OffsetAt z m = some r) : Ret Try.prog 14 #[.agg #[.int .i64 z.offset, v_z], .int .i64 m] w fun v w' => v = .tuple #[.int .i64 r.1, .int .i64 r.2] ∧ Kp w w' := by
  unfold cal_OffsetAt at hm
  refine enter Try.func14 rfl Try.ntmps14 rfl ?_
  have hK := Kp.refl w
  refine C_seq ?_
  refine C_region ?_
  refine V_box rfl rfl ?_
  intro b3 w4 h5
  have hk6 := h5.kp
  have h7 : El (α := cal_Zone) A w4 b3 0 z := h5.el hA ⟨[.int .i64 z.offset], _, rfl, rfl, ⟨_, rfl, h_z⟩⟩
  replace h_z := h_z.kp hk6
  replace hK := Kp.trans hK hk6
  replace hA : ∀ b, w4.heap.size ≤ b → A b := fun b hb => hA b (Nat.le_trans hk6.size hb)
  refine V_y (Y_assign rfl) rfl rfl rfl ?_
  refine V_y (Y_assign rfl) rfl rfl rfl ?_
  refine V_to (fun _ _ => rfl) ?_
  refine C_seq ?_
  refine C_seq ?_
  refine C_region ?_
  obtain ⟨v8, h10, h9⟩ := El_cal_Zone h7
  refine V_y (Y_loadA h10 Try.isAgg24 Try.sizeOf24 rfl) rfl rfl rfl ?_
  obtain ⟨x11, hx11, hm⟩ := Option.bind_eq_some_iff.1 hm
  refine V_call Try.call13 rfl rfl rfl rfl (cal_CheckZone_c w4 hA z v8 h9 hx11) ?_
  rintro _ w12 ⟨rfl, hk13⟩
  replace h7 := h7.kp hk13
  replace h9 := h9.kp hk13
  replace hK := Kp.trans hK hk13
  replace hA : ∀ b, w12.heap.size ≤ b → A b := fun b hb => hA b (Nat.le_trans hk13.size hb)
  refine V_y (Y_move rfl) rfl rfl rfl ?_
  refine V_call Try.call58 rfl rfl rfl rfl (cal_moment_c w12 m) ?_
  rintro _ _ ⟨rfl, rfl⟩
  refine V_buildSlice (l := ([x11, (cal_moment m)] : List Int)) (len := 2) Try.underlying118 Try.sizeOf25 Try.zeroValue25 rfl (by with_unfolding_all rfl) (by decide) (by decide) hA ⟨[.int .i64 x11], _, rfl, rfl, ⟨[.int .i64 (cal_moment m)], _, rfl, rfl, rfl⟩⟩ rfl rfl ?_
  intro v14 w15 hk17 h16
  replace h7 := h7.kp hk17
  replace h9 := h9.kp hk17
  replace hK := Kp.trans hK hk17
  replace hA : ∀ b, w15.heap.size ≤ b → A b := fun b hb => hA b (Nat.le_trans hk17.size hb)
  obtain ⟨x18, hx18, hm⟩ := Option.bind_eq_some_iff.1 hm
  refine V_call Try.call57 rfl rfl rfl rfl (cmp_Or_api_Errno_c w15 ([x11, (cal_moment m)] : List Int) v14 h16 hx18) ?_
  rintro _ _ ⟨rfl, rfl⟩
  refine V_y (Y_assign rfl) rfl rfl rfl ?_
  refine V_to (fun _ _ => rfl) ?_
  refine C_seq ?_
  refine C_region ?_
  refine V_y (Y_move rfl) rfl rfl rfl ?_
  refine V_y (Y_neq rfl rfl) rfl rfl rfl ?_
  refine V_to (fun _ _ => rfl) ?_
  refine C_cond rfl (fun hc19 => ?_) (fun hc19 => ?_)
  · rw [if_pos hc19] at hm
    refine C_seq ?_
    refine C_region ?_
    refine V_y (Y_move rfl) rfl rfl rfl ?_
    refine V_y (Y_assign rfl) rfl rfl rfl ?_
    refine V_y (Y_assign rfl) rfl rfl rfl ?_
    refine V_to (fun _ _ => rfl) ?_
    obtain rfl := Option.some.inj hm
    refine C_ret fun a ha => ?_
    try simp only [↓inBlock_ret, ↓then_ret]
    exact ret2 ha Try.results14 rfl rfl ⟨rfl, hK⟩
  · rw [if_neg (nt hc19)] at hm
    refine C_skip_to (fun _ _ => rfl) ?_
    refine C_seq ?_
    refine C_region ?_
    obtain ⟨v20, h22, h21⟩ := El_cal_Zone h7
    refine V_y (Y_loadA h22 Try.isAgg24 Try.sizeOf24 rfl) rfl rfl rfl ?_
    refine V_y (Y_move rfl) rfl rfl rfl ?_
    obtain ⟨x23, hx23, hm⟩ := Option.bind_eq_some_iff.1 hm
    refine V_call Try.call59 rfl rfl rfl rfl (cal_Zone_offsetAt_c w15 hA z v20 h21 m hx23) ?_
    rintro _ w24 ⟨rfl, hk25⟩
    replace h7 := h7.kp hk25
    replace h21 := h21.kp hk25
    replace hK := Kp.trans hK hk25
    replace hA : ∀ b, w24.heap.size ≤ b → A b := fun b hb => hA b (Nat.le_trans hk25.size hb)
    refine V_y (Y_assign rfl) rfl rfl rfl ?_
    refine V_y (Y_assign rfl) rfl rfl rfl ?_
    refine V_to (fun _ _ => rfl) ?_
    obtain rfl := Option.some.inj hm
    refine C_ret fun a ha => ?_
    try simp only [↓inBlock_ret, ↓then_ret]
    exact ret2 ha Try.results14 rfl rfl ⟨rfl, hK⟩

set_option maxRecDepth 4000 in
theorem cal_floor_c (w : World)  (a_ : Int) (b : Int) {r : Int} (hm : cal_floor a_ b = some r) : Ret Try.prog 60 #[.int .i64 a_, .int .i64 b] w fun v w' => v = .int .i64 r ∧ w = w' := by
  unfold cal_floor at hm
  refine enter Try.func60 rfl Try.ntmps60 rfl ?_
  refine C_seq ?_
  refine C_region ?_
  refine V_y (Y_assign rfl) rfl rfl rfl ?_
  refine V_to (fun _ _ => rfl) ?_
  refine C_seq ?_
  refine C_region ?_
  refine V_y (Y_move rfl) rfl rfl rfl ?_
  refine V_y (Y_move rfl) rfl rfl rfl ?_
  obtain ⟨x1, hx1, hm⟩ := Option.bind_eq_some_iff.1 hm
  refine V_y (Y_quo hx1 rfl rfl) rfl rfl rfl ?_
  refine V_y (Y_assign rfl) rfl rfl rfl ?_
  refine V_to (fun _ _ => rfl) ?_
  refine C_seq ?_
  refine C_seq ?_
  refine C_region ?_
  refine V_y (Y_move rfl) rfl rfl rfl ?_
  refine V_y (Y_move rfl) rfl rfl rfl ?_
  obtain ⟨x2, hx2, hm⟩ := Option.bind_eq_some_iff.1 hm
  refine V_y (Y_rem hx2 rfl rfl) rfl rfl rfl ?_
  refine V_y (Y_lss rfl rfl) rfl rfl rfl ?_
  refine V_to (fun _ _ => rfl) ?_
  obtain ⟨s4, ho3, hm⟩ := Option.bind_eq_some_iff.1 hm
  refine C_cutG (ι := Unit) (fun (_ : Unit) => [(5, .int .i64 s4)]) (fun (_ : Unit) => fun w' => w = w') ?_ ?_
  · refine C_cond rfl (fun hc6 => ?_) (fun hc6 => ?_)
    · rw [if_pos hc6] at ho3
      refine C_region ?_
      refine V_y (Y_move rfl) rfl rfl rfl ?_
      refine V_y (Y_subI rfl rfl) rfl rfl rfl ?_
      refine V_y (Y_assign rfl) rfl rfl rfl ?_
      obtain rfl := Option.some.inj ho3
      exact V_end fun a ha => ⟨(), ha.sub ⟨rfl, trivial⟩, rfl⟩
    · rw [if_neg (nt hc6)] at ho3
      obtain rfl := Option.some.inj ho3
      exact C_skip fun a ha => ⟨(), ha.sub ⟨rfl, trivial⟩, rfl⟩
  rintro _ _ rfl a ha9
  refine C_at (fun _ _ => rfl) ?_ ha9
  refine C_seq ?_
  refine C_region ?_
  refine V_y (Y_move rfl) rfl rfl rfl ?_
  refine V_y (Y_assign rfl) rfl rfl rfl ?_
  refine V_to (fun _ _ => rfl) ?_
  obtain rfl := Option.some.inj hm
  refine C_ret fun a ha => ?_
  try simp only [↓inBlock_ret, ↓then_ret]
  exact ret1 ha Try.results60 rfl ⟨rfl, rfl⟩

set_option maxRecDepth 4000 in
theorem cal_Local_c (w : World) {A : Nat → Prop} (hA : ∀ b, w.heap.size ≤ b → A b) (z : cal_Zone) (v_z : Value) (h_z : Sl A w v_z z.changes) (m : Int) {r : (Int × Int × Int)} (hm : cal_Local z m = some r) : Ret Try.prog 15 #[.agg #[.int .i64 z.offset, v_z], .int .i64 m] w fun v w' => v = .tuple #[.int .i64 r.1, .int .i64 r.2.1, .int .i64 r.2.2] ∧ Kp w w' := by
  unfold cal_Local at hm
  refine enter Try.func15 rfl Try.ntmps15 rfl ?_
  have hK := Kp.refl w
  refine C_seq ?_
  refine C_region ?_
  refine V_box rfl rfl ?_
  intro b3 w4 h5
  have hk6 := h5.kp
  have h7 : El (α := cal_Zone) A w4 b3 0 z := h5.el hA ⟨[.int .i64 z.offset], _, rfl, rfl, ⟨_, rfl, h_z⟩⟩
  replace h_z := h_z.kp hk6
  replace hK := Kp.trans hK hk6
  replace hA : ∀ b, w4.heap.size ≤ b → A b := fun b hb => hA b (Nat.le_trans hk6.size hb)
  refine V_y (Y_assign rfl) rfl rfl rfl ?_
  refine V_y (Y_assign rfl) rfl rfl rfl ?_
  refine V_y (Y_assign rfl) rfl rfl rfl ?_
  refine V_to (fun _ _ => rfl) ?_
  refine C_seq ?_
  refine C_seq ?_
  refine C_region ?_
  obtain ⟨v8, h10, h9⟩ := El_cal_Zone h7
  refine V_y (Y_loadA h10 Try.isAgg24 Try.sizeOf24 rfl) rfl rfl rfl ?_
  obtain ⟨x11, hx11, hm⟩ := Option.bind_eq_some_iff.1 hm
  refine V_call Try.call13 rfl rfl rfl rfl (cal_CheckZone_c w4 hA z v8 h9 hx11) ?_
  rintro _ w12 ⟨rfl, hk13⟩
  replace h7 := h7.kp hk13
  replace h9 := h9.kp hk13
  replace hK := Kp.trans hK hk13
  replace hA : ∀ b, w12.heap.size ≤ b → A b := fun b hb => hA b (Nat.le_trans hk13.size hb)
  refine V_y (Y_move rfl) rfl rfl rfl ?_
  refine V_call Try.call58 rfl rfl rfl rfl (cal_moment_c w12 m) ?_
  rintro _ _ ⟨rfl, rfl⟩
  refine V_buildSlice (l := ([x11, (cal_moment m)] : List Int)) (len := 2) Try.underlying118 Try.sizeOf25 Try.zeroValue25 rfl (by with_unfolding_all rfl) (by decide) (by decide) hA ⟨[.int .i64 x11], _, rfl, rfl, ⟨[.int .i64 (cal_moment m)], _, rfl, rfl, rfl⟩⟩ rfl rfl ?_
  intro v14 w15 hk17 h16
  replace h7 := h7.kp hk17
  replace h9 := h9.kp hk17
  replace hK := Kp.trans hK hk17
  replace hA : ∀ b, w15.heap.size ≤ b → A b := fun b hb => hA b (Nat.le_trans hk17.size hb)
  obtain ⟨x18, hx18, hm⟩ := Option.bind_eq_some_iff.1 hm
  refine V_call Try.call57 rfl rfl rfl rfl (cmp_Or_api_Errno_c w15 ([x11, (cal_moment m)] : List Int) v14 h16 hx18) ?_
  rintro _ _ ⟨rfl, rfl⟩
  refine V_y (Y_assign rfl) rfl rfl rfl ?_
  refine V_to (fun _ _ => rfl) ?_
  refine C_seq ?_
  refine C_region ?_
  refine V_y (Y_move rfl) rfl rfl rfl ?_
  refine V_y (Y_neq rfl rfl) rfl rfl rfl ?_
  refine V_to (fun _ _ => rfl) ?_
  refine C_cond rfl (fun hc19 => ?_) (fun hc19 => ?_)
  · rw [if_pos hc19] at hm
    refine C_seq ?_
    refine C_region ?_
    refine V_y (Y_move rfl) rfl rfl rfl ?_
    refine V_y (Y_assign rfl) rfl rfl rfl ?_
    refine V_y (Y_assign rfl) rfl rfl rfl ?_
    refine V_y (Y_assign rfl) rfl rfl rfl ?_
    refine V_to (fun _ _ => rfl) ?_
    obtain rfl := Option.some.inj hm
    refine C_ret fun a ha => ?_
    try simp only [↓inBlock_ret, ↓then_ret]
    exact ret3 ha Try.results15 rfl rfl rfl ⟨rfl, hK⟩
  · rw [if_neg (nt hc19)] at hm
    refine C_skip_to (fun _ _ => rfl) ?_
    refine C_seq ?_
    refine C_region ?_
    refine V_y (Y_move rfl) rfl rfl rfl ?_
    obtain ⟨v20, h22, h21⟩ := El_cal_Zone h7
    refine V_y (Y_loadA h22 Try.isAgg24 Try.sizeOf24 rfl) rfl rfl rfl ?_
    refine V_y (Y_move rfl) rfl rfl rfl ?_
    obtain ⟨x23, hx23, hm⟩ := Option.bind_eq_some_iff.1 hm
    refine V_call Try.call59 rfl rfl rfl rfl (cal_Zone_offsetAt_c w15 hA z v20 h21 m hx23) ?_
    rintro _ w24 ⟨rfl, hk25⟩
    replace h7 := h7.kp hk25
    replace h21 := h21.kp hk25
    replace hK := Kp.trans hK hk25
    replace hA : ∀ b, w24.heap.size ≤ b → A b := fun b hb => hA b (Nat.le_trans hk25.size hb)
    refine V_y (Y_addI rfl rfl) rfl rfl rfl ?_
    refine V_y (Y_assign rfl) rfl rfl rfl ?_
    refine V_to (fun _ _ => rfl) ?_
    refine C_seq ?_
    refine C_region ?_
    refine V_y (Y_move rfl) rfl rfl rfl ?_
    obtain ⟨x26, hx26, hm⟩ := Option.bind_eq_some_iff.1 hm
    refine V_call Try.call60 rfl rfl rfl rfl (cal_floor_c w24 (w64 (m + x23)) 1440 hx26) ?_
    rintro _ _ ⟨rfl, rfl⟩
    refine V_y (Y_assign rfl) rfl rfl rfl ?_
    refine V_to (fun _ _ => rfl) ?_
    refine C_seq ?_
    refine C_region ?_
    refine V_y (Y_move rfl) rfl rfl rfl ?_
    refine V_y (Y_move rfl) rfl rfl rfl ?_
    refine V_y (Y_move rfl) rfl rfl rfl ?_
    refine V_y (Y_mulI rfl rfl) rfl rfl rfl ?_
    refine V_y (Y_subI rfl rfl) rfl rfl rfl ?_
    refine V_y (Y_assign rfl) rfl rfl rfl ?_
    refine V_y (Y_assign rfl) rfl rfl rfl ?_
    refine V_y (Y_assign rfl) rfl rfl rfl ?_
    refine V_to (fun _ _ => rfl) ?_
    obtain rfl := Option.some.inj hm
    refine C_ret fun a ha => ?_
    try simp only [↓inBlock_ret, ↓then_ret]
    exact ret3 ha Try.results15 rfl rfl rfl ⟨rfl, hK⟩

set_option maxRecDepth 4000 in
theorem portref2_IsMoment_c (w : World)  (m : Int) : Ret Try.prog 16 #[.int .i64 m] w fun v w' => v = .bool (portref2_IsMoment m) ∧ w = w' := by
  generalize hm : portref2_IsMoment m = r
  unfold portref2_IsMoment at hm
  refine enter Try.func16 rfl Try.ntmps16 rfl ?_
  refine C_seq ?_
  refine C_region ?_
  refine V_y (Y_assign rfl) rfl rfl rfl ?_
  refine V_to (fun _ _ => rfl) ?_
  refine C_seq ?_
  refine C_region ?_
  refine V_y (Y_move rfl) rfl rfl rfl ?_
  refine V_y (Y_geq rfl rfl) rfl rfl rfl ?_
  refine V_y (Y_move rfl) rfl rfl rfl ?_
  refine V_cut 3 (fun _ : Unit => [(8, .bool ((decide ((0 : Int) ≤ m)) && (decide (m ≤ 3000000))))]) (fun _ w' => w = w') ?_ ?_
  · simp only [List.take, List.drop]
    rcases Bool.eq_false_or_eq_true (decide ((0 : Int) ≤ m)) with hc1 | hc1
    · refine V_ge rfl rfl rfl hc1 ?_
      refine V_y (Y_move rfl) rfl rfl rfl ?_
      refine V_ge rfl rfl rfl hc1 ?_
      refine V_y (Y_leq rfl rfl) rfl rfl rfl ?_
      refine V_y (Y_pick_te rfl hc1 rfl) rfl rfl rfl ?_
      exact V_end fun a ha => ⟨(), ha.sub ⟨(by rw [hc1]; rfl), trivial⟩, rfl⟩
    · refine V_gn rfl rfl rfl hc1 rfl rfl rfl ?_
      refine V_gn rfl rfl rfl hc1 rfl rfl rfl ?_
      refine V_y (Y_pick_fe rfl hc1 rfl) rfl rfl rfl ?_
      exact V_end fun a ha => ⟨(), ha.sub ⟨(by rw [hc1]; rfl), trivial⟩, rfl⟩
  simp only [List.take, List.drop]
  rintro _ _ rfl
  refine V_y (Y_assign rfl) rfl rfl rfl ?_
  refine V_to (fun _ _ => rfl) ?_
  obtain rfl := hm
  refine C_ret fun a ha => ?_
  try simp only [↓inBlock_ret, ↓then_ret]
  exact ret1 ha Try.results16 rfl ⟨rfl, rfl⟩

set_option maxRecDepth 4000 in
theorem portref2_OffsetIn_c (w : World) {A : Nat → Prop} (hA : ∀ b, w.heap.size ≤ b → A b) (z : cal_Zone) (v_z : Value) (h_z : Sl A w v_z z.changes) (m : Int) {r : Int} (hm : portref2_OffsetIn z m = some r) : Ret Try.prog 18 #[.agg #[.int .i64 z.offset, v_z], .int .i64 m] w fun v w' => v = .int .i64 r ∧ Kp w w' := by
  unfold portref2_OffsetIn at hm
  refine enter Try.func18 rfl Try.ntmps18 rfl ?_
  have hK := Kp.refl w
  refine C_seq ?_
  refine C_region ?_
  refine V_box rfl rfl ?_
  intro b3 w4 h5
  have hk6 := h5.kp
  have h7 : El (α := cal_Zone) A w4 b3 0 z := h5.el hA ⟨[.int .i64 z.offset], _, rfl, rfl, ⟨_, rfl, h_z⟩⟩
  replace h_z := h_z.kp hk6
  replace hK := Kp.trans hK hk6
  replace hA : ∀ b, w4.heap.size ≤ b → A b := fun b hb => hA b (Nat.le_trans hk6.size hb)
  refine V_y (Y_assign rfl) rfl rfl rfl ?_
  refine V_to (fun _ _ => rfl) ?_
  refine C_seq ?_
  refine C_region ?_
  have h8 := El_cal_Zone_0 h7
  refine V_y (Y_fieldAddr Try.underlying24 rfl Try.sizeOf3 (by decide) rfl) rfl rfl rfl ?_
  refine V_y (Y_load (El.int h8) Try.isAgg3 rfl) rfl rfl rfl ?_
  refine V_y (Y_assign rfl) rfl rfl rfl ?_
  refine V_to (fun _ _ => rfl) ?_
  refine C_seq ?_
  refine C_seq ?_
  refine C_region ?_
  have h9 := El_cal_Zone_1 h7
  refine V_y (Y_fieldAddr Try.underlying24 rfl Try.sizeOf22 (by decide) rfl) rfl rfl rfl ?_
  obtain ⟨v10, h11, h12⟩ := El.list h9
  refine V_y (Y_load h11 Try.isAgg22 rfl) rfl rfl rfl ?_
  refine V_y (Y_lenSl h12 rfl Try.underlying22 rfl) rfl rfl rfl ?_
  refine V_y (Y_move rfl) rfl rfl rfl ?_
  refine V_to (fun _ _ => rfl) ?_
  obtain ⟨o17, ho17, hm⟩ := Option.bind_eq_some_iff.1 hm
  refine C_cutG (ι := Int) (fun (s18 : Int) => [(5, .int .i64 s18)]) (fun (s18 : Int) => fun w' => o17 = .fin s18 ∧ Kp w4 w') ?_ ?_
  · refine C_block ?_
    refine C_range ho17 (fun k21 s22 a w' => ∃ i : Unit, Has 25 a ([(1, .int .i64 m), (5, .int .i64 s22), (11, v10), (12, .int .i64 (z.changes.length : Int)), (13, .int .i64 (k21 : Int))]) ∧ Kp w4 w') (fun a ha => ⟨(), ha.sub ⟨rfl, rfl, rfl, rfl, rfl, trivial⟩, Kp.refl _⟩) ?_
    rintro K k21 s22 a w23 ⟨_, ha59, hr20⟩ hle27 K30 h29
    refine C_of ?_ ha59
    replace h12 := h12.kp hr20
    replace hK := Kp.trans hK hr20
    replace hA : ∀ b, w23.heap.size ≤ b → A b := fun b hb => hA b (Nat.le_trans hr20.size hb)
    refine C_seq (C_region (V_y (Y_lss rfl rfl) rfl rfl rfl (V_to (fun _ _ => rfl) ?_)))
    refine C_seq ?_
    refine C_cond rfl (fun hc31 => ?_) (fun hc31 => ?_)
    · have hlt28 := lt_of_dec hc31
      obtain ⟨x24, h25, h26⟩ := K30 hlt28
      refine C_skip_to (fun _ _ => rfl) ?_
      refine C_seq ?_
      obtain ⟨s33, ho32, h25⟩ := Option.bind_eq_some_iff.1 h25
      refine C_cutG (ι := Unit) (fun (_ : Unit) => [(1, .int .i64 m), (5, .int .i64 s33), (11, v10), (12, .int .i64 (z.changes.length : Int)), (13, .int .i64 (k21 : Int))]) (fun (_ : Unit) => fun w' => Kp w23 w') ?_ ?_
      · have hr34 := Kp.refl w23
        refine C_block ?_
        refine C_seq ?_
        refine C_region ?_
        obtain ⟨x35, hx35, ho32⟩ := Option.bind_eq_some_iff.1 ho32
        refine V_indexAddr h12 hx35 Try.underlying22 Try.sizeOf81 rfl rfl rfl ?_
        intro b36 o37 h38
        obtain ⟨h39, _⟩ := El_cal_Change h38
        refine V_y (Y_loadA h39 Try.isAgg81 Try.sizeOf81 rfl) rfl rfl rfl ?_
        refine V_alloc Try.zeroValue81 rfl ?_
        intro b40 w41 h42
        refine V_storeNew h42 Try.sizeOf81 rfl rfl rfl rfl (by simp [Value.cells, Value.oneCell']) ?_
        intro w43 h44
        have hk45 := h44.kp
        have h46 : El (α := cal_Change) A w43 b40 0 x35 := h44.el hA ⟨[.int .i64 x35.at_], _, rfl, rfl, rfl⟩
        replace h12 := h12.kp hk45
        replace h38 := h38.kp hk45
        replace hK := Kp.trans hK hk45
        replace hr20 := Kp.trans hr20 hk45
        replace hr34 := Kp.trans hr34 hk45
        replace hA : ∀ b, w43.heap.size ≤ b → A b := fun b hb => hA b (Nat.le_trans hk45.size hb)
        refine V_to (fun _ _ => rfl) ?_
        refine C_seq ?_
        refine C_region ?_
        have h47 := El_cal_Change_0 h46
        refine V_y (Y_fieldAddr Try.underlying81 rfl Try.sizeOf3 (by decide) rfl) rfl rfl rfl ?_
        refine V_y (Y_load (El.int h47) Try.isAgg3 rfl) rfl rfl rfl ?_
        refine V_y (Y_move rfl) rfl rfl rfl ?_
        refine V_y (Y_leq rfl rfl) rfl rfl rfl ?_
        refine V_to (fun _ _ => rfl) ?_
        obtain ⟨s49, ho48, ho32⟩ := Option.bind_eq_some_iff.1 ho32
        refine C_cutG (ι := Unit) (fun (_ : Unit) => [(1, .int .i64 m), (5, .int .i64 s49), (11, v10), (12, .int .i64 (z.changes.length : Int)), (13, .int .i64 (k21 : Int))]) (fun (_ : Unit) => fun w' => w43 = w') ?_ ?_
        · refine C_cond rfl (fun hc51 => ?_) (fun hc51 => ?_)
          · rw [if_pos hc51] at ho48
            refine C_region ?_
            have h52 := El_cal_Change_1 h46
            refine V_y (Y_fieldAddr Try.underlying81 rfl Try.sizeOf3 (by decide) rfl) rfl rfl rfl ?_
            refine V_y (Y_load (El.int h52) Try.isAgg3 rfl) rfl rfl rfl ?_
            refine V_y (Y_assign rfl) rfl rfl rfl ?_
            obtain rfl := Option.some.inj ho48
            exact V_end fun a ha => ⟨(), ha.sub ⟨rfl, rfl, rfl, rfl, rfl, trivial⟩, rfl⟩
          · rw [if_neg (nt hc51)] at ho48
            obtain rfl := Option.some.inj ho48
            exact C_skip fun a ha => ⟨(), ha.sub ⟨rfl, rfl, rfl, rfl, rfl, trivial⟩, rfl⟩
        rintro _ _ rfl a ha55
        obtain rfl := Option.some.inj ho32
        exact ⟨(), ha55.sub ⟨rfl, rfl, rfl, rfl, rfl, trivial⟩, hr34⟩
      rintro _ w56 hk57 a ha58
      replace h12 := h12.kp hk57
      replace hK := Kp.trans hK hk57
      replace hr20 := Kp.trans hr20 hk57
      replace hA : ∀ b, w56.heap.size ≤ b → A b := fun b hb => hA b (Nat.le_trans hk57.size hb)
      refine C_at (fun _ _ => rfl) ?_ ha58
      refine C_region ?_
      refine V_y (Y_addI rfl rfl) rfl rfl rfl ?_
      refine V_y (Y_move rfl) rfl rfl rfl ?_
      obtain rfl := Option.some.inj h25
      exact V_end fun a ha => ⟨s33, hlt28, h26, ⟨(), ha.sub ⟨rfl, rfl, rfl, rfl, (congrArg (fun z => some (Value.int .i64 z)) (w64_succ hlt28 (Sl.le h12))), trivial⟩, hr20⟩⟩
    · exact C_exit fun a ha => ⟨s22, ha.sub ⟨rfl, trivial⟩, ⟨(h29 (eq_of_dec hle27 hc31)).symm, hr20⟩⟩
  rintro s18 w60 ⟨rfl, hk61⟩ a ha62
  rw [Lp.andThen_fin] at hm
  replace hK := Kp.trans hK hk61
  replace hA : ∀ b, w60.heap.size ≤ b → A b := fun b hb => hA b (Nat.le_trans hk61.size hb)
  refine C_at (fun _ _ => rfl) ?_ ha62
  refine C_seq ?_
  refine C_region ?_
  refine V_y (Y_move rfl) rfl rfl rfl ?_
  refine V_y (Y_assign rfl) rfl rfl rfl ?_
  refine V_to (fun _ _ => rfl) ?_
  obtain rfl := Option.some.inj hm
  refine C_ret fun a ha => ?_
  try simp only [↓inBlock_ret, ↓then_ret]
  exact ret1 ha Try.results18 rfl ⟨rfl, hK⟩

set_option maxRecDepth 4000 in
theorem portref2_floorDiv_c (w : World) {A : Nat → Prop} (hA : ∀ b, w.heap.size ≤ b → A b) (a_ : Int) (b : Int) {r : (Int × Int)} (hm : portref2_floorDiv a_ b = some r) : Ret Try.prog 61 #[.int .i64 a_, .int .i64 b] w fun v w' => v = .tuple #[.int .i64 r.1, .int .i64 r.2] ∧ Kp w w' := by
  unfold portref2_floorDiv at hm
  refine enter Try.func61 rfl Try.ntmps61 rfl ?_
  have hK := Kp.refl w
  refine C_seq ?_
  refine C_region ?_
  refine V_y (Y_assign rfl) rfl rfl rfl ?_
  refine V_y (Y_assign rfl) rfl rfl rfl ?_
  refine V_to (fun _ _ => rfl) ?_
  refine C_seq ?_
  refine C_region_q Try_mixed (by kernel_rfl) ?_
  refine VQ_y (fun w' hw' => Y_move rfl) rfl rfl rfl ?_
  refine VQ_y (fun w' hw' => Y_move rfl) rfl rfl rfl ?_
  obtain ⟨x1, hx1, hm⟩ := Option.bind_eq_some_iff.1 hm
  refine VQ_y (fun w' hw' => Y_quo hx1 rfl rfl) rfl rfl rfl ?_
  refine VQ_y (fun w' hw' => Y_move rfl) rfl rfl rfl ?_
  refine VQ_y (fun w' hw' => Y_move rfl) rfl rfl rfl ?_
  obtain ⟨x2, hx2, hm⟩ := Option.bind_eq_some_iff.1 hm
  refine VQ_y (fun w' hw' => Y_rem hx2 rfl rfl) rfl rfl rfl ?_
  refine VQ_y (fun w' hw' => Y_assign rfl) rfl rfl rfl ?_
  refine VQ_y (fun w' hw' => Y_assign rfl) rfl rfl rfl ?_
  refine VQ_to (fun _ _ => rfl) (fun w3 hk4 => ?_)
  replace hK := Kp.trans hK hk4
  replace hA : ∀ b, w3.heap.size ≤ b → A b := fun b hb => hA b (Nat.le_trans hk4.size hb)
  refine C_seq ?_
  refine C_seq ?_
  refine C_region ?_
  refine V_y (Y_move rfl) rfl rfl rfl ?_
  refine V_y (Y_lss rfl rfl) rfl rfl rfl ?_
  refine V_to (fun _ _ => rfl) ?_
  obtain ⟨s6, ho5, hm⟩ := Option.bind_eq_some_iff.1 hm
  refine C_cutG (ι := Unit) (fun (_ : Unit) => [(6, .int .i64 s6.1), (7, .int .i64 s6.2)]) (fun (_ : Unit) => fun w' => w3 = w') ?_ ?_
  · refine C_cond rfl (fun hc8 => ?_) (fun hc8 => ?_)
    · rw [if_pos hc8] at ho5
      refine C_region ?_
      refine V_y (Y_move rfl) rfl rfl rfl ?_
      refine V_y (Y_subI rfl rfl) rfl rfl rfl ?_
      refine V_y (Y_move rfl) rfl rfl rfl ?_
      refine V_y (Y_move rfl) rfl rfl rfl ?_
      refine V_y (Y_addI rfl rfl) rfl rfl rfl ?_
      refine V_y (Y_assign rfl) rfl rfl rfl ?_
      refine V_y (Y_assign rfl) rfl rfl rfl ?_
      obtain rfl := Option.some.inj ho5
      exact V_end fun a ha => ⟨(), ha.sub ⟨rfl, rfl, trivial⟩, rfl⟩
    · rw [if_neg (nt hc8)] at ho5
      obtain rfl := Option.some.inj ho5
      exact C_skip fun a ha => ⟨(), ha.sub ⟨rfl, rfl, trivial⟩, rfl⟩
  rintro _ _ rfl a ha11
  refine C_at (fun _ _ => rfl) ?_ ha11
  refine C_seq ?_
  refine C_region ?_
  refine V_y (Y_move rfl) rfl rfl rfl ?_
  refine V_y (Y_move rfl) rfl rfl rfl ?_
  refine V_y (Y_assign rfl) rfl rfl rfl ?_
  refine V_y (Y_assign rfl) rfl rfl rfl ?_
  refine V_to (fun _ _ => rfl) ?_
  obtain rfl := Option.some.inj hm
  refine C_ret fun a ha => ?_
  try simp only [↓inBlock_ret, ↓then_ret]
  exact ret2 ha Try.results61 rfl rfl ⟨rfl, hK⟩

set_option maxRecDepth 4000 in
theorem portref2_LocalIn_c (w : World) {A : Nat → Prop} (hA : ∀ b, w.heap.size ≤ b → A b) (z : cal_Zone) (v_z : Value) (h_z : Sl A w v_z z.changes) (m : Int) {r : (Int × Int)} (hm : portref2_LocalIn z m = some r) : Ret Try.prog 17 #[.agg #[.int .i64 z.offset, v_z], .int .i64 m] w fun v w' => v = .tuple #[.int .i64 r.1, .int .i64 r.2] ∧ Kp w w' := by
  unfold portref2_LocalIn at hm
  refine enter Try.func17 rfl Try.ntmps17 rfl ?_
  have hK := Kp.refl w
  refine C_seq ?_
  refine C_region ?_
  refine V_box rfl rfl ?_
  intro b3 w4 h5
  have hk6 := h5.kp
  have h7 : El (α := cal_Zone) A w4 b3 0 z := h5.el hA ⟨[.int .i64 z.offset], _, rfl, rfl, ⟨_, rfl, h_z⟩⟩
  replace h_z := h_z.kp hk6
  replace hK := Kp.trans hK hk6
  replace hA : ∀ b, w4.heap.size ≤ b → A b := fun b hb => hA b (Nat.le_trans hk6.size hb)
  refine V_y (Y_assign rfl) rfl rfl rfl ?_
  refine V_y (Y_assign rfl) rfl rfl rfl ?_
  refine V_to (fun _ _ => rfl) ?_
  refine C_seq ?_
  refine C_region ?_
  refine V_y (Y_move rfl) rfl rfl rfl ?_
  obtain ⟨v8, h10, h9⟩ := El_cal_Zone h7
  refine V_y (Y_loadA h10 Try.isAgg24 Try.sizeOf24 rfl) rfl rfl rfl ?_
  refine V_y (Y_move rfl) rfl rfl rfl ?_
  obtain ⟨x11, hx11, hm⟩ := Option.bind_eq_some_iff.1 hm
  refine V_call Try.call18 rfl rfl rfl rfl (portref2_OffsetIn_c w4 hA z v8 h9 m hx11) ?_
  rintro _ w12 ⟨rfl, hk13⟩
  replace h7 := h7.kp hk13
  replace h9 := h9.kp hk13
  replace hK := Kp.trans hK hk13
  replace hA : ∀ b, w12.heap.size ≤ b → A b := fun b hb => hA b (Nat.le_trans hk13.size hb)
  refine V_y (Y_addI rfl rfl) rfl rfl rfl ?_
  obtain ⟨x14, hx14, hm⟩ := Option.bind_eq_some_iff.1 hm
  refine V_call Try.call61 rfl rfl rfl rfl (portref2_floorDiv_c w12 hA (w64 (m + x11)) 1440 hx14) ?_
  rintro _ w15 ⟨rfl, hk16⟩
  replace h7 := h7.kp hk16
  replace h9 := h9.kp hk16
  replace hK := Kp.trans hK hk16
  replace hA : ∀ b, w15.heap.size ≤ b → A b := fun b hb => hA b (Nat.le_trans hk16.size hb)
  refine V_y (Y_extract rfl rfl) rfl rfl rfl ?_
  refine V_y (Y_extract rfl rfl) rfl rfl rfl ?_
  refine V_y (Y_assign rfl) rfl rfl rfl ?_
  refine V_y (Y_assign rfl) rfl rfl rfl ?_
  refine V_to (fun _ _ => rfl) ?_
  obtain rfl := Option.some.inj hm
  refine C_ret fun a ha => ?_
  try simp only [↓inBlock_ret, ↓then_ret]
  exact ret2 ha Try.results17 rfl rfl ⟨rfl, hK⟩

set_option maxRecDepth 4000 in
theorem portlaw2_CalZones_c (w : World) {A : Nat → Prop} (hA : ∀ b, w.heap.size ≤ b → A b) (z : cal_Zone) (v_z : Value) (h_z : Sl A w v_z z.changes) (m : Int) {r : Bool} (hm : portlaw2_CalZones z m = some r) : Ret Try.prog 3 #[.agg #[.int .i64 z.offset, v_z], .int .i64 m] w fun v w' => v = .bool r ∧ Kp w w' := by
  unfold portlaw2_CalZones at hm
  refine enter Try.func3 rfl Try.ntmps3 rfl ?_
  have hK := Kp.refl w
  refine C_seq ?_
  refine C_region ?_
  refine V_box rfl rfl ?_
  intro b3 w4 h5
  have hk6 := h5.kp
  have h7 : El (α := cal_Zone) A w4 b3 0 z := h5.el hA ⟨[.int .i64 z.offset], _, rfl, rfl, ⟨_, rfl, h_z⟩⟩
  replace h_z := h_z.kp hk6
  replace hK := Kp.trans hK hk6
  replace hA : ∀ b, w4.heap.size ≤ b → A b := fun b hb => hA b (Nat.le_trans hk6.size hb)
  refine V_y (Y_assign rfl) rfl rfl rfl ?_
  refine V_to (fun _ _ => rfl) ?_
  refine C_seq ?_
  refine C_region ?_
  obtain ⟨v8, h10, h9⟩ := El_cal_Zone h7
  refine V_y (Y_loadA h10 Try.isAgg24 Try.sizeOf24 rfl) rfl rfl rfl ?_
  obtain ⟨x11, hx11, hm⟩ := Option.bind_eq_some_iff.1 hm
  refine V_call Try.call12 rfl rfl rfl rfl (portref2_ZoneFault_c w4 hA z v8 h9 hx11) ?_
  rintro _ w12 ⟨rfl, hk13⟩
  replace h7 := h7.kp hk13
  replace h9 := h9.kp hk13
  replace hK := Kp.trans hK hk13
  replace hA : ∀ b, w12.heap.size ≤ b → A b := fun b hb => hA b (Nat.le_trans hk13.size hb)
  refine V_y (Y_assign rfl) rfl rfl rfl ?_
  refine V_to (fun _ _ => rfl) ?_
  refine C_seq ?_
  refine C_seq ?_
  refine C_region ?_
  obtain ⟨v14, h16, h15⟩ := El_cal_Zone h7
  refine V_y (Y_loadA h16 Try.isAgg24 Try.sizeOf24 rfl) rfl rfl rfl ?_
  obtain ⟨x17, hx17, hm⟩ := Option.bind_eq_some_iff.1 hm
  refine V_call Try.call13 rfl rfl rfl rfl (cal_CheckZone_c w12 hA z v14 h15 hx17) ?_
  rintro _ w18 ⟨rfl, hk19⟩
  replace h7 := h7.kp hk19
  replace h15 := h15.kp hk19
  replace hK := Kp.trans hK hk19
  replace hA : ∀ b, w18.heap.size ≤ b → A b := fun b hb => hA b (Nat.le_trans hk19.size hb)
  refine V_y (Y_move rfl) rfl rfl rfl ?_
  refine V_y (Y_neq rfl rfl) rfl rfl rfl ?_
  refine V_to (fun _ _ => rfl) ?_
  refine C_cond rfl (fun hc20 => ?_) (fun hc20 => ?_)
  · rw [if_pos hc20] at hm
    refine C_seq ?_
    refine C_region ?_
    refine V_y (Y_assign rfl) rfl rfl rfl ?_
    refine V_to (fun _ _ => rfl) ?_
    obtain rfl := Option.some.inj hm
    refine C_ret fun a ha => ?_
    try simp only [↓inBlock_ret, ↓then_ret]
    exact ret1 ha Try.results3 rfl ⟨rfl, hK⟩
  · rw [if_neg (nt hc20)] at hm
    refine C_skip_to (fun _ _ => rfl) ?_
    refine C_seq ?_
    refine C_region ?_
    obtain ⟨v21, h23, h22⟩ := El_cal_Zone h7
    refine V_y (Y_loadA h23 Try.isAgg24 Try.sizeOf24 rfl) rfl rfl rfl ?_
    refine V_y (Y_move rfl) rfl rfl rfl ?_
    obtain ⟨x24, hx24, hm⟩ := Option.bind_eq_some_iff.1 hm
    refine V_call Try.call14 rfl rfl rfl rfl (cal_OffsetAt_c w18 hA z v21 h22 m hx24) ?_
    rintro _ w25 ⟨rfl, hk26⟩
    replace h7 := h7.kp hk26
    replace h22 := h22.kp hk26
    replace hK := Kp.trans hK hk26
    replace hA : ∀ b, w25.heap.size ≤ b → A b := fun b hb => hA b (Nat.le_trans hk26.size hb)
    refine V_y (Y_move rfl) rfl rfl rfl ?_
    refine V_y (Y_extract rfl rfl) rfl rfl rfl ?_
    refine V_y (Y_extract rfl rfl) rfl rfl rfl ?_
    refine V_y (Y_assign rfl) rfl rfl rfl ?_
    refine V_y (Y_assign rfl) rfl rfl rfl ?_
    refine V_to (fun _ _ => rfl) ?_
    refine C_seq ?_
    refine C_region ?_
    obtain ⟨v27, h29, h28⟩ := El_cal_Zone h7
    refine V_y (Y_loadA h29 Try.isAgg24 Try.sizeOf24 rfl) rfl rfl rfl ?_
    refine V_y (Y_move rfl) rfl rfl rfl ?_
    obtain ⟨x30, hx30, hm⟩ := Option.bind_eq_some_iff.1 hm
    refine V_call Try.call15 rfl rfl rfl rfl (cal_Local_c w25 hA z v27 h28 m hx30) ?_
    rintro _ w31 ⟨rfl, hk32⟩
    replace h7 := h7.kp hk32
    replace h28 := h28.kp hk32
    replace hK := Kp.trans hK hk32
    replace hA : ∀ b, w31.heap.size ≤ b → A b := fun b hb => hA b (Nat.le_trans hk32.size hb)
    refine V_y (Y_move rfl) rfl rfl rfl ?_
    refine V_y (Y_extract rfl rfl) rfl rfl rfl ?_
    refine V_y (Y_extract rfl rfl) rfl rfl rfl ?_
    refine V_y (Y_extract rfl rfl) rfl rfl rfl ?_
    refine V_y (Y_assign rfl) rfl rfl rfl ?_
    refine V_y (Y_assign rfl) rfl rfl rfl ?_
    refine V_y (Y_assign rfl) rfl rfl rfl ?_
    refine V_to (fun _ _ => rfl) ?_
    refine C_seq ?_
    refine C_seq ?_
    refine C_region ?_
    refine V_y (Y_move rfl) rfl rfl rfl ?_
    refine V_y (Y_eql rfl rfl) rfl rfl rfl ?_
    refine V_y (Y_move rfl) rfl rfl rfl ?_
    refine V_cut 4 (fun _ : Unit => [(1, .int .i64 m), (2, .pointer (some ⟨b3, 0, none⟩)), (5, .int .i64 x11), (6, .int .i64 x24.1), (7, .int .i64 x24.2), (8, .int .i64 x30.1), (9, .int .i64 x30.2.1), (10, .int .i64 x30.2.2), (38, .bool ((x11 == 0) && (!(portref2_IsMoment m))))]) (fun _ w' => w31 = w') ?_ ?_
    · simp only [List.take, List.drop]
      rcases Bool.eq_false_or_eq_true (x11 == 0) with hc33 | hc33
      · refine V_ge rfl rfl rfl hc33 ?_
        refine V_y (Y_move rfl) rfl rfl rfl ?_
        refine V_ge rfl rfl rfl hc33 ?_
        refine V_call Try.call16 rfl rfl rfl rfl (portref2_IsMoment_c w31 m) ?_
        rintro _ _ ⟨rfl, rfl⟩
        refine V_ge rfl rfl rfl hc33 ?_
        refine V_y (Y_not rfl) rfl rfl rfl ?_
        refine V_y (Y_pick_te rfl hc33 rfl) rfl rfl rfl ?_
        exact V_end fun a ha => ⟨(), ha.sub ⟨rfl, rfl, rfl, rfl, rfl, rfl, rfl, rfl, (by rw [hc33]; rfl), trivial⟩, rfl⟩
      · refine V_gn rfl rfl rfl hc33 rfl rfl rfl ?_
        refine V_gn rfl rfl rfl hc33 rfl rfl rfl ?_
        refine V_gn rfl rfl rfl hc33 rfl rfl rfl ?_
        refine V_y (Y_pick_fe rfl hc33 rfl) rfl rfl rfl ?_
        exact V_end fun a ha => ⟨(), ha.sub ⟨rfl, rfl, rfl, rfl, rfl, rfl, rfl, rfl, (by rw [hc33]; rfl), trivial⟩, rfl⟩
    simp only [List.take, List.drop]
    rintro _ _ rfl
    refine V_to (fun _ _ => rfl) ?_
    obtain ⟨s37, ho36, hm⟩ := Option.bind_eq_some_iff.1 hm
    refine C_cutG (ι := Unit) (fun (_ : Unit) => [(1, .int .i64 m), (2, .pointer (some ⟨b3, 0, none⟩)), (5, .int .i64 s37), (6, .int .i64 x24.1), (7, .int .i64 x24.2), (8, .int .i64 x30.1), (9, .int .i64 x30.2.1), (10, .int .i64 x30.2.2)]) (fun (_ : Unit) => fun w' => w31 = w') ?_ ?_
    · refine C_cond rfl (fun hc39 => ?_) (fun hc39 => ?_)
      · rw [if_pos hc39] at ho36
        refine C_region ?_
        refine V_y (Y_assign rfl) rfl rfl rfl ?_
        obtain rfl := Option.some.inj ho36
        exact V_end fun a ha => ⟨(), ha.sub ⟨rfl, rfl, rfl, rfl, rfl, rfl, rfl, rfl, trivial⟩, rfl⟩
      · rw [if_neg (nt hc39)] at ho36
        obtain rfl := Option.some.inj ho36
        exact C_skip fun a ha => ⟨(), ha.sub ⟨rfl, rfl, rfl, rfl, rfl, rfl, rfl, rfl, trivial⟩, rfl⟩
    rintro _ _ rfl a ha42
    refine C_at (fun _ _ => rfl) ?_ ha42
    refine C_seq ?_
    refine C_seq ?_
    refine C_region ?_
    refine V_y (Y_move rfl) rfl rfl rfl ?_
    refine V_y (Y_neq rfl rfl) rfl rfl rfl ?_
    refine V_to (fun _ _ => rfl) ?_
    refine C_cond rfl (fun hc43 => ?_) (fun hc43 => ?_)
    · rw [if_pos hc43] at hm
      refine C_seq ?_
      refine C_region ?_
      refine V_y (Y_move rfl) rfl rfl rfl ?_
      refine V_y (Y_eql rfl rfl) rfl rfl rfl ?_
      refine V_y (Y_move rfl) rfl rfl rfl ?_
      refine V_cut 3 (fun _ : Unit => [(5, .int .i64 s37), (7, .int .i64 x24.2), (9, .int .i64 x30.2.1), (10, .int .i64 x30.2.2), (46, .bool ((x24.1 == 0) && (x30.1 == 0)))]) (fun _ w' => w31 = w') ?_ ?_
      · simp only [List.take, List.drop]
        rcases Bool.eq_false_or_eq_true (x24.1 == 0) with hc44 | hc44
        · refine V_ge rfl rfl rfl hc44 ?_
          refine V_y (Y_move rfl) rfl rfl rfl ?_
          refine V_ge rfl rfl rfl hc44 ?_
          refine V_y (Y_eql rfl rfl) rfl rfl rfl ?_
          refine V_y (Y_pick_te rfl hc44 rfl) rfl rfl rfl ?_
          exact V_end fun a ha => ⟨(), ha.sub ⟨rfl, rfl, rfl, rfl, (by rw [hc44]; rfl), trivial⟩, rfl⟩
        · refine V_gn rfl rfl rfl hc44 rfl rfl rfl ?_
          refine V_gn rfl rfl rfl hc44 rfl rfl rfl ?_
          refine V_y (Y_pick_fe rfl hc44 rfl) rfl rfl rfl ?_
          exact V_end fun a ha => ⟨(), ha.sub ⟨rfl, rfl, rfl, rfl, (by rw [hc44]; rfl), trivial⟩, rfl⟩
      simp only [List.take, List.drop]
      rintro _ _ rfl
      refine V_y (Y_move rfl) rfl rfl rfl ?_
      refine V_cut 3 (fun _ : Unit => [(5, .int .i64 s37), (7, .int .i64 x24.2), (10, .int .i64 x30.2.2), (50, .bool (((x24.1 == 0) && (x30.1 == 0)) && (x30.2.1 == 0)))]) (fun _ w' => w31 = w') ?_ ?_
      · simp only [List.take, List.drop]
        rcases Bool.eq_false_or_eq_true (((x24.1 == 0) && (x30.1 == 0))) with hc47 | hc47
        · refine V_ge rfl rfl rfl hc47 ?_
          refine V_y (Y_move rfl) rfl rfl rfl ?_
          refine V_ge rfl rfl rfl hc47 ?_
          refine V_y (Y_eql rfl rfl) rfl rfl rfl ?_
          refine V_y (Y_pick_te rfl hc47 rfl) rfl rfl rfl ?_
          exact V_end fun a ha => ⟨(), ha.sub ⟨rfl, rfl, rfl, (by rw [hc47]; rfl), trivial⟩, rfl⟩
        · refine V_gn rfl rfl rfl hc47 rfl rfl rfl ?_
          refine V_gn rfl rfl rfl hc47 rfl rfl rfl ?_
          refine V_y (Y_pick_fe rfl hc47 rfl) rfl rfl rfl ?_
          exact V_end fun a ha => ⟨(), ha.sub ⟨rfl, rfl, rfl, (by rw [hc47]; rfl), trivial⟩, rfl⟩
      simp only [List.take, List.drop]
      rintro _ _ rfl
      refine V_y (Y_move rfl) rfl rfl rfl ?_
      refine V_cut 4 (fun _ : Unit => [(5, .int .i64 s37), (10, .int .i64 x30.2.2), (55, .bool ((((x24.1 == 0) && (x30.1 == 0)) && (x30.2.1 == 0)) && (x24.2 == s37)))]) (fun _ w' => w31 = w') ?_ ?_
      · simp only [List.take, List.drop]
        rcases Bool.eq_false_or_eq_true ((((x24.1 == 0) && (x30.1 == 0)) && (x30.2.1 == 0))) with hc50 | hc50
        · refine V_ge rfl rfl rfl hc50 ?_
          refine V_y (Y_move rfl) rfl rfl rfl ?_
          refine V_ge rfl rfl rfl hc50 ?_
          refine V_y (Y_move rfl) rfl rfl rfl ?_
          refine V_ge rfl rfl rfl hc50 ?_
          refine V_y (Y_eql rfl rfl) rfl rfl rfl ?_
          refine V_y (Y_pick_te rfl hc50 rfl) rfl rfl rfl ?_
          exact V_end fun a ha => ⟨(), ha.sub ⟨rfl, rfl, (by rw [hc50]; rfl), trivial⟩, rfl⟩
        · refine V_gn rfl rfl rfl hc50 rfl rfl rfl ?_
          refine V_gn rfl rfl rfl hc50 rfl rfl rfl ?_
          refine V_gn rfl rfl rfl hc50 rfl rfl rfl ?_
          refine V_y (Y_pick_fe rfl hc50 rfl) rfl rfl rfl ?_
          exact V_end fun a ha => ⟨(), ha.sub ⟨rfl, rfl, (by rw [hc50]; rfl), trivial⟩, rfl⟩
      simp only [List.take, List.drop]
      rintro _ _ rfl
      refine V_y (Y_move rfl) rfl rfl rfl ?_
      refine V_cut 4 (fun _ : Unit => [(60, .bool (((((x24.1 == 0) && (x30.1 == 0)) && (x30.2.1 == 0)) && (x24.2 == s37)) && (x30.2.2 == s37)))]) (fun _ w' => w31 = w') ?_ ?_
      · simp only [List.take, List.drop]
        rcases Bool.eq_false_or_eq_true (((((x24.1 == 0) && (x30.1 == 0)) && (x30.2.1 == 0)) && (x24.2 == s37))) with hc53 | hc53
        · refine V_ge rfl rfl rfl hc53 ?_
          refine V_y (Y_move rfl) rfl rfl rfl ?_
          refine V_ge rfl rfl rfl hc53 ?_
          refine V_y (Y_move rfl) rfl rfl rfl ?_
          refine V_ge rfl rfl rfl hc53 ?_
          refine V_y (Y_eql rfl rfl) rfl rfl rfl ?_
          refine V_y (Y_pick_te rfl hc53 rfl) rfl rfl rfl ?_
          exact V_end fun a ha => ⟨(), ha.sub ⟨(by rw [hc53]; rfl), trivial⟩, rfl⟩
        · refine V_gn rfl rfl rfl hc53 rfl rfl rfl ?_
          refine V_gn rfl rfl rfl hc53 rfl rfl rfl ?_
          refine V_gn rfl rfl rfl hc53 rfl rfl rfl ?_
          refine V_y (Y_pick_fe rfl hc53 rfl) rfl rfl rfl ?_
          exact V_end fun a ha => ⟨(), ha.sub ⟨(by rw [hc53]; rfl), trivial⟩, rfl⟩
      simp only [List.take, List.drop]
      rintro _ _ rfl
      refine V_y (Y_assign rfl) rfl rfl rfl ?_
      refine V_to (fun _ _ => rfl) ?_
      obtain rfl := Option.some.inj hm
      refine C_ret fun a ha => ?_
      try simp only [↓inBlock_ret, ↓then_ret]
      exact ret1 ha Try.results3 rfl ⟨rfl, hK⟩
    · rw [if_neg (nt hc43)] at hm
      refine C_skip_to (fun _ _ => rfl) ?_
      refine C_seq ?_
      refine C_region ?_
      obtain ⟨v56, h58, h57⟩ := El_cal_Zone h7
      refine V_y (Y_loadA h58 Try.isAgg24 Try.sizeOf24 rfl) rfl rfl rfl ?_
      refine V_y (Y_move rfl) rfl rfl rfl ?_
      obtain ⟨x59, hx59, hm⟩ := Option.bind_eq_some_iff.1 hm
      refine V_call Try.call17 rfl rfl rfl rfl (portref2_LocalIn_c w31 hA z v56 h57 m hx59) ?_
      rintro _ w60 ⟨rfl, hk61⟩
      replace h7 := h7.kp hk61
      replace h57 := h57.kp hk61
      replace hK := Kp.trans hK hk61
      replace hA : ∀ b, w60.heap.size ≤ b → A b := fun b hb => hA b (Nat.le_trans hk61.size hb)
      refine V_y (Y_move rfl) rfl rfl rfl ?_
      refine V_y (Y_extract rfl rfl) rfl rfl rfl ?_
      refine V_y (Y_extract rfl rfl) rfl rfl rfl ?_
      refine V_y (Y_assign rfl) rfl rfl rfl ?_
      refine V_y (Y_assign rfl) rfl rfl rfl ?_
      refine V_to (fun _ _ => rfl) ?_
      refine C_seq ?_
      refine C_region ?_
      refine V_y (Y_move rfl) rfl rfl rfl ?_
      obtain ⟨v62, h64, h63⟩ := El_cal_Zone h7
      refine V_y (Y_loadA h64 Try.isAgg24 Try.sizeOf24 rfl) rfl rfl rfl ?_
      refine V_y (Y_move rfl) rfl rfl rfl ?_
      obtain ⟨x65, hx65, hm⟩ := Option.bind_eq_some_iff.1 hm
      refine V_call Try.call18 rfl rfl rfl rfl (portref2_OffsetIn_c w60 hA z v62 h63 m hx65) ?_
      rintro _ w66 ⟨rfl, hk67⟩
      replace h7 := h7.kp hk67
      replace h63 := h63.kp hk67
      replace hK := Kp.trans hK hk67
      replace hA : ∀ b, w66.heap.size ≤ b → A b := fun b hb => hA b (Nat.le_trans hk67.size hb)
      refine V_y (Y_eql rfl rfl) rfl rfl rfl ?_
      refine V_y (Y_move rfl) rfl rfl rfl ?_
      refine V_cut 4 (fun _ : Unit => [(7, .int .i64 x24.2), (9, .int .i64 x30.2.1), (10, .int .i64 x30.2.2), (12, .int .i64 x59.2), (76, .bool ((x24.1 == x65) && (x30.1 == x59.1)))]) (fun _ w' => w66 = w') ?_ ?_
      · simp only [List.take, List.drop]
        rcases Bool.eq_false_or_eq_true (x24.1 == x65) with hc68 | hc68
        · refine V_ge rfl rfl rfl hc68 ?_
          refine V_y (Y_move rfl) rfl rfl rfl ?_
          refine V_ge rfl rfl rfl hc68 ?_
          refine V_y (Y_move rfl) rfl rfl rfl ?_
          refine V_ge rfl rfl rfl hc68 ?_
          refine V_y (Y_eql rfl rfl) rfl rfl rfl ?_
          refine V_y (Y_pick_te rfl hc68 rfl) rfl rfl rfl ?_
          exact V_end fun a ha => ⟨(), ha.sub ⟨rfl, rfl, rfl, rfl, (by rw [hc68]; rfl), trivial⟩, rfl⟩
        · refine V_gn rfl rfl rfl hc68 rfl rfl rfl ?_
          refine V_gn rfl rfl rfl hc68 rfl rfl rfl ?_
          refine V_gn rfl rfl rfl hc68 rfl rfl rfl ?_
          refine V_y (Y_pick_fe rfl hc68 rfl) rfl rfl rfl ?_
          exact V_end fun a ha => ⟨(), ha.sub ⟨rfl, rfl, rfl, rfl, (by rw [hc68]; rfl), trivial⟩, rfl⟩
      simp only [List.take, List.drop]
      rintro _ _ rfl
      refine V_y (Y_move rfl) rfl rfl rfl ?_
      refine V_cut 4 (fun _ : Unit => [(7, .int .i64 x24.2), (10, .int .i64 x30.2.2), (81, .bool (((x24.1 == x65) && (x30.1 == x59.1)) && (x30.2.1 == x59.2)))]) (fun _ w' => w66 = w') ?_ ?_
      · simp only [List.take, List.drop]
        rcases Bool.eq_false_or_eq_true (((x24.1 == x65) && (x30.1 == x59.1))) with hc71 | hc71
        · refine V_ge rfl rfl rfl hc71 ?_
          refine V_y (Y_move rfl) rfl rfl rfl ?_
          refine V_ge rfl rfl rfl hc71 ?_
          refine V_y (Y_move rfl) rfl rfl rfl ?_
          refine V_ge rfl rfl rfl hc71 ?_
          refine V_y (Y_eql rfl rfl) rfl rfl rfl ?_
          refine V_y (Y_pick_te rfl hc71 rfl) rfl rfl rfl ?_
          exact V_end fun a ha => ⟨(), ha.sub ⟨rfl, rfl, (by rw [hc71]; rfl), trivial⟩, rfl⟩
        · refine V_gn rfl rfl rfl hc71 rfl rfl rfl ?_
          refine V_gn rfl rfl rfl hc71 rfl rfl rfl ?_
          refine V_gn rfl rfl rfl hc71 rfl rfl rfl ?_
          refine V_y (Y_pick_fe rfl hc71 rfl) rfl rfl rfl ?_
          exact V_end fun a ha => ⟨(), ha.sub ⟨rfl, rfl, (by rw [hc71]; rfl), trivial⟩, rfl⟩
      simp only [List.take, List.drop]
      rintro _ _ rfl
      refine V_y (Y_move rfl) rfl rfl rfl ?_
      refine V_cut 3 (fun _ : Unit => [(10, .int .i64 x30.2.2), (85, .bool ((((x24.1 == x65) && (x30.1 == x59.1)) && (x30.2.1 == x59.2)) && (x24.2 == 0)))]) (fun _ w' => w66 = w') ?_ ?_
      · simp only [List.take, List.drop]
        rcases Bool.eq_false_or_eq_true ((((x24.1 == x65) && (x30.1 == x59.1)) && (x30.2.1 == x59.2))) with hc74 | hc74
        · refine V_ge rfl rfl rfl hc74 ?_
          refine V_y (Y_move rfl) rfl rfl rfl ?_
          refine V_ge rfl rfl rfl hc74 ?_
          refine V_y (Y_eql rfl rfl) rfl rfl rfl ?_
          refine V_y (Y_pick_te rfl hc74 rfl) rfl rfl rfl ?_
          exact V_end fun a ha => ⟨(), ha.sub ⟨rfl, (by rw [hc74]; rfl), trivial⟩, rfl⟩
        · refine V_gn rfl rfl rfl hc74 rfl rfl rfl ?_
          refine V_gn rfl rfl rfl hc74 rfl rfl rfl ?_
          refine V_y (Y_pick_fe rfl hc74 rfl) rfl rfl rfl ?_
          exact V_end fun a ha => ⟨(), ha.sub ⟨rfl, (by rw [hc74]; rfl), trivial⟩, rfl⟩
      simp only [List.take, List.drop]
      rintro _ _ rfl
      refine V_y (Y_move rfl) rfl rfl rfl ?_
      refine V_cut 3 (fun _ : Unit => [(89, .bool (((((x24.1 == x65) && (x30.1 == x59.1)) && (x30.2.1 == x59.2)) && (x24.2 == 0)) && (x30.2.2 == 0)))]) (fun _ w' => w66 = w') ?_ ?_
      · simp only [List.take, List.drop]
        rcases Bool.eq_false_or_eq_true (((((x24.1 == x65) && (x30.1 == x59.1)) && (x30.2.1 == x59.2)) && (x24.2 == 0))) with hc77 | hc77
        · refine V_ge rfl rfl rfl hc77 ?_
          refine V_y (Y_move rfl) rfl rfl rfl ?_
          refine V_ge rfl rfl rfl hc77 ?_
          refine V_y (Y_eql rfl rfl) rfl rfl rfl ?_
          refine V_y (Y_pick_te rfl hc77 rfl) rfl rfl rfl ?_
          exact V_end fun a ha => ⟨(), ha.sub ⟨(by rw [hc77]; rfl), trivial⟩, rfl⟩
        · refine V_gn rfl rfl rfl hc77 rfl rfl rfl ?_
          refine V_gn rfl rfl rfl hc77 rfl rfl rfl ?_
          refine V_y (Y_pick_fe rfl hc77 rfl) rfl rfl rfl ?_
          exact V_end fun a ha => ⟨(), ha.sub ⟨(by rw [hc77]; rfl), trivial⟩, rfl⟩
      simp only [List.take, List.drop]
      rintro _ _ rfl
      refine V_y (Y_assign rfl) rfl rfl rfl ?_
      refine V_to (fun _ _ => rfl) ?_
      obtain rfl := Option.some.inj hm
      refine C_ret fun a ha => ?_
      try simp only [↓inBlock_ret, ↓then_ret]
      exact ret1 ha Try.results3 rfl ⟨rfl, hK⟩

end Go.Proofs.Ytjmgafmjendnaaa.W
