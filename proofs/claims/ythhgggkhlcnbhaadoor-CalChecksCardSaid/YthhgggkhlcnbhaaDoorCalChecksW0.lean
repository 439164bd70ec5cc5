/-
  Written by program (gen.py) from the IR of the dump: each function computes its model.
-/
import Derived.Test.YthhgggkhlcnbhaaDoorProg
import Derived.Test.YthhgggkhlcnbhaaDoorGe
import Derived.Test.YthhgggkhlcnbhaaDoorCalChecksM
import Derived.KernelRfl
import Derived.Shelf.Strings.BuilderK
import Derived.Shelf.Strings.BuilderK
import Derived.Shelf.Strings.BuilderK
import Derived.Shelf.Strings.BuilderK
import Derived.Shelf.Strconv.Itoa3
import Derived.Shelf.Strings.OnBuilder
import Derived.Test.YthhgggkhlcnbhaaDoorGi
import Derived.Test.YthhgggkhlcnbhaaDoorGj
import Derived.Test.YthhgggkhlcnbhaaDoorGl
namespace Go.Proofs.YthhgggkhlcnbhaaDoor.W
open Go Go.RowKit Go.Pu Go.Gw Go.Proofs Go.Proofs.YthhgggkhlcnbhaaDoor.M
set_option linter.unusedVariables false
set_option linter.unusedSimpArgs false

theorem Tryd_info3 : Tryd.prog.info? 3 = some Tryd.t3 := by kernel_rfl
theorem Tryd_info9 : Tryd.prog.info? 9 = some Tryd.t9 := by kernel_rfl
theorem Tryd_info20 : Tryd.prog.info? 20 = some Tryd.t20 := by kernel_rfl
theorem Tryd_mixed : Tryd.prog.follows .mixedOrders = true := by kernel_rfl

instance : GoT AnyV := anyT 9 3
instance : Flat AnyV := anyFlat 9 3
instance : GoT cal_Change := GoT.of (β := Int × Int) fun x => (x.at_, x.offset)

instance : Flat cal_Change := ⟨fun {A w A1 w1 cs x} h => Flat.flat (α := Int × Int) (x := (x.at_, x.offset)) (A := A) (w := w) h⟩

theorem El_cal_Change_ {A : Nat → Prop} {w : World} {b off : Nat} {x : cal_Change} (h : El A w b off x) : El (α := Int × Int) A w b off (x.at_, x.offset) := h

theorem El_cal_Change_0 {A : Nat → Prop} {w : World} {b off : Nat} {x : cal_Change} (h : El A w b off x) : El A w b (off + 0) x.at_ := El.fst (El_cal_Change_ h)

theorem El_cal_Change_1 {A : Nat → Prop} {w : World} {b off : Nat} {x : cal_Change} (h : El A w b off x) : El A w b (off + 1) x.offset := El.snd (El_cal_Change_ h)

theorem El_cal_Change {A : Nat → Prop} {w : World} {b off : Nat} {x : cal_Change} (h : El A w b off x) : At w b off [.int .i64 x.at_, .int .i64 x.offset] ∧ True := by
  obtain ⟨h1, h2, cs, h3, h4⟩ := h
  obtain ⟨_, _, rfl, rfl, rfl⟩ := h3
  exact ⟨h4, trivial⟩

instance : GoT cal_Zone := GoT.of (β := Int × (List cal_Change)) fun x => (x.offset, x.changes)

theorem El_cal_Zone_ {A : Nat → Prop} {w : World} {b off : Nat} {x : cal_Zone} (h : El A w b off x) : El (α := Int × (List cal_Change)) A w b off (x.offset, x.changes) := h

theorem El_cal_Zone_0 {A : Nat → Prop} {w : World} {b off : Nat} {x : cal_Zone} (h : El A w b off x) : El A w b (off + 0) x.offset := El.fst (El_cal_Zone_ h)

theorem El_cal_Zone_1 {A : Nat → Prop} {w : World} {b off : Nat} {x : cal_Zone} (h : El A w b off x) : El A w b (off + 1) x.changes := El.snd (El_cal_Zone_ h)

theorem El_cal_Zone {A : Nat → Prop} {w : World} {b off : Nat} {x : cal_Zone} (h : El A w b off x) : ∃ v1, At w b off [.int .i64 x.offset, v1] ∧ Sl A w v1 x.changes := by
  obtain ⟨h1, h2, cs, h3, h4⟩ := h
  obtain ⟨_, _, rfl, rfl, ⟨u1, rfl, g1⟩⟩ := h3
  exact ⟨u1, h4, g1⟩

instance : GoT cal_Shift := GoT.of (β := Int × Int × Int) fun x => (x.day, x.from_, x.to_)

instance : Flat cal_Shift := ⟨fun {A w A1 w1 cs x} h => Flat.flat (α := Int × Int × Int) (x := (x.day, x.from_, x.to_)) (A := A) (w := w) h⟩

theorem El_cal_Shift_ {A : Nat → Prop} {w : World} {b off : Nat} {x : cal_Shift} (h : El A w b off x) : El (α := Int × Int × Int) A w b off (x.day, x.from_, x.to_) := h

theorem El_cal_Shift_0 {A : Nat → Prop} {w : World} {b off : Nat} {x : cal_Shift} (h : El A w b off x) : El A w b (off + 0) x.day := El.fst (El_cal_Shift_ h)

theorem El_cal_Shift_1 {A : Nat → Prop} {w : World} {b off : Nat} {x : cal_Shift} (h : El A w b off x) : El A w b (off + 1) x.from_ := El.fst (El.snd (El_cal_Shift_ h))

theorem El_cal_Shift_2 {A : Nat → Prop} {w : World} {b off : Nat} {x : cal_Shift} (h : El A w b off x) : El A w b (off + 2) x.to_ := El.snd (El.snd (El_cal_Shift_ h))

theorem El_cal_Shift {A : Nat → Prop} {w : World} {b off : Nat} {x : cal_Shift} (h : El A w b off x) : At w b off [.int .i64 x.day, .int .i64 x.from_, .int .i64 x.to_] ∧ True := by
  obtain ⟨h1, h2, cs, h3, h4⟩ := h
  obtain ⟨_, _, rfl, rfl, ⟨_, _, rfl, rfl, rfl⟩⟩ := h3
  exact ⟨h4, trivial⟩

instance : GoT cal_Special := GoT.of (β := Int × (List cal_Shift)) fun x => (x.day, x.shifts)

theorem El_cal_Special_ {A : Nat → Prop} {w : World} {b off : Nat} {x : cal_Special} (h : El A w b off x) : El (α := Int × (List cal_Shift)) A w b off (x.day, x.shifts) := h

theorem El_cal_Special_0 {A : Nat → Prop} {w : World} {b off : Nat} {x : cal_Special} (h : El A w b off x) : El A w b (off + 0) x.day := El.fst (El_cal_Special_ h)

theorem El_cal_Special_1 {A : Nat → Prop} {w : World} {b off : Nat} {x : cal_Special} (h : El A w b off x) : El A w b (off + 1) x.shifts := El.snd (El_cal_Special_ h)

theorem El_cal_Special {A : Nat → Prop} {w : World} {b off : Nat} {x : cal_Special} (h : El A w b off x) : ∃ v1, At w b off [.int .i64 x.day, v1] ∧ Sl A w v1 x.shifts := by
  obtain ⟨h1, h2, cs, h3, h4⟩ := h
  obtain ⟨_, _, rfl, rfl, ⟨u1, rfl, g1⟩⟩ := h3
  exact ⟨u1, h4, g1⟩

instance : GoT cal_Calendar := GoT.of (β := cal_Zone × (List cal_Shift) × (List cal_Special)) fun x => (x.zone, x.week, x.specials)

theorem El_cal_Calendar_ {A : Nat → Prop} {w : World} {b off : Nat} {x : cal_Calendar} (h : El A w b off x) : El (α := cal_Zone × (List cal_Shift) × (List cal_Special)) A w b off (x.zone, x.week, x.specials) := h

theorem El_cal_Calendar_0 {A : Nat → Prop} {w : World} {b off : Nat} {x : cal_Calendar} (h : El A w b off x) : El A w b (off + 0) x.zone := El.fst (El_cal_Calendar_ h)

theorem El_cal_Calendar_1 {A : Nat → Prop} {w : World} {b off : Nat} {x : cal_Calendar} (h : El A w b off x) : El A w b (off + 2) x.week := El.fst (El.snd (El_cal_Calendar_ h))

theorem El_cal_Calendar_2 {A : Nat → Prop} {w : World} {b off : Nat} {x : cal_Calendar} (h : El A w b off x) : El A w b (off + 3) x.specials := El.snd (El.snd (El_cal_Calendar_ h))

theorem El_cal_Calendar {A : Nat → Prop} {w : World} {b off : Nat} {x : cal_Calendar} (h : El A w b off x) : ∃ v1 v3 v5, At w b off [.int .i64 x.zone.offset, v1, v3, v5] ∧ Sl A w v1 x.zone.changes ∧ Sl A w v3 x.week ∧ Sl A w v5 x.specials := by
  obtain ⟨h1, h2, cs, h3, h4⟩ := h
  obtain ⟨_, _, rfl, ⟨_, _, rfl, rfl, ⟨u1, rfl, g1⟩⟩, ⟨_, _, rfl, ⟨u2, rfl, g2⟩, ⟨u3, rfl, g3⟩⟩⟩ := h3
  exact ⟨u1, u2, u3, h4, g1, g2, g3⟩

set_option maxRecDepth 4000 in
set_option maxHeartbeats 4000000 in
theorem cal_within_c (w : World) (n : Int) (low : Int) (high : Int) : Ret Tryd.prog 26 #[.int .i64 n, .int .i64 low, .int .i64 high] w fun v w' => v = .bool (cal_within n low high) ∧ w = w' := by
  generalize hm : cal_within n low high = r
  unfold cal_within at hm
  refine enter Tryd.func26 rfl Tryd.ntmps26 rfl ?_
  refine C_seq ?_
  refine C_region ?_
  refine V_y (Y_assign rfl) rfl rfl rfl ?_
  refine V_to (fun _ _ => rfl) ?_
  refine C_seq ?_
  refine C_region ?_
  refine V_y (Y_move rfl) rfl rfl rfl ?_
  refine V_y (Y_move rfl) rfl rfl rfl ?_
  refine V_y (Y_geq rfl rfl) rfl rfl rfl ?_
  refine V_y (Y_move rfl) rfl rfl rfl ?_
  refine V_cut 4 (fun _ : Unit => [(14, .bool ((decide (low ≤ n)) && (decide (n ≤ high))))]) (fun _ w' => w = w') ?_ ?_
  · simp only [List.take, List.drop]
    rcases Bool.eq_false_or_eq_true (decide (low ≤ n)) with hc1 | hc1
    · refine V_ge rfl rfl rfl hc1 ?_
      refine V_y (Y_move rfl) rfl rfl rfl ?_
      refine V_ge rfl rfl rfl hc1 ?_
      refine V_y (Y_move rfl) rfl rfl rfl ?_
      refine V_ge rfl rfl rfl hc1 ?_
      refine V_y (Y_leq rfl rfl) rfl rfl rfl ?_
      refine V_y (Y_pick_te rfl hc1 rfl) rfl rfl rfl ?_
      exact V_end fun a ha => ⟨(), ha.sub ⟨(by rw [hc1]; rfl), trivial⟩, rfl⟩
    · refine V_gn rfl rfl rfl hc1 rfl rfl rfl ?_
      refine V_gn rfl rfl rfl hc1 rfl rfl rfl ?_
      refine V_gn rfl rfl rfl hc1 rfl rfl rfl ?_
      refine V_y (Y_pick_fe rfl hc1 rfl) rfl rfl rfl ?_
      exact V_end fun a ha => ⟨(), ha.sub ⟨(by rw [hc1]; rfl), trivial⟩, rfl⟩
  simp only [List.take, List.drop]
  rintro _ _ rfl
  refine V_y (Y_assign rfl) rfl rfl rfl ?_
  refine V_to (fun _ _ => rfl) ?_
  obtain rfl := hm
  refine C_ret ?_
  try simp only [↓inBlock_ret, ↓then_ret]
  exact retQ rfl (Res.one Tryd.results26 rfl) ⟨rfl, rfl⟩

set_option maxRecDepth 4000 in
set_option maxHeartbeats 4000000 in
theorem cal_CheckZone_c (w : World) {A : Nat → Prop} (hA : ∀ b, w.heap.size ≤ b → A b) (z : cal_Zone) (v_z : Value) (h_z : Sl A w v_z z.changes) {r : Int} (hm : cal_CheckZone z = some r) : Ret Tryd.prog 24 #[.agg #[.int .i64 z.offset, v_z]] w fun v w' => v = .int .i64 r ∧ Kp w w' := by
  unfold cal_CheckZone at hm
  refine enter Tryd.func24 rfl Tryd.ntmps24 rfl ?_
  have hA0 := hA
  have hB := Nat.le_refl w.heap.size
  have hK : Tr w.heap.size A w A w := Tr.refl hA
  have hH : Hp w.heap.size A w [] := Hp.nil
  refine C_seq ?_
  refine C_region ?_
  refine V_box rfl rfl ?_
  intro b3 w4 h5
  have hk7 := h5.kp
  have h6 : El (α := cal_Zone) A w4 b3 0 z := h5.el hA ⟨[.int .i64 z.offset], _, rfl, rfl, ⟨_, rfl, h_z⟩⟩
  have ht8 := Kp.tr hk7 hA hB
  replace hH := Hp.kp hH hk7
  replace h_z := Sl.tr h_z ht8
  replace hK := Tr.trans hK ht8
  replace hB := Nat.le_trans hB ht8.ex.size
  replace hA := ht8.new
  refine V_y (Y_assign rfl) rfl rfl rfl ?_
  refine V_to (fun _ _ => rfl) ?_
  refine C_seq ?_
  refine C_seq ?_
  refine C_region ?_
  have h9 := El_cal_Zone_0 h6
  refine V_y (Y_fieldAddr Tryd.underlying24 rfl Tryd.sizeOf3 (by decide) rfl) rfl rfl rfl ?_
  refine V_y (Y_load (El.int h9) Tryd.isAgg3 rfl) rfl rfl rfl ?_
  refine V_call Tryd.call26 rfl rfl rfl rfl (cal_within_c w4 z.offset (-1440) 1440) ?_
  rintro _ _ ⟨rfl, rfl⟩
  refine V_y (Y_not rfl) rfl rfl rfl ?_
  refine V_to (fun _ _ => rfl) ?_
  refine C_cond rfl (fun hc10 => ?_) (fun hc10 => ?_)
  · rw [if_pos hc10] at hm
    refine C_seq ?_
    refine C_region ?_
    refine V_y (Y_assign rfl) rfl rfl rfl ?_
    refine V_to (fun _ _ => rfl) ?_
    obtain rfl := Option.some.inj hm
    refine C_ret ?_
    try simp only [↓inBlock_ret, ↓then_ret]
    exact retQ rfl (Res.one Tryd.results24 rfl) ⟨rfl, hK.kp⟩
  · rw [if_neg (nt hc10)] at hm
    refine C_skip_to (fun _ _ => rfl) ?_
    refine C_seq ?_
    refine C_seq ?_
    refine C_region ?_
    have h11 := El_cal_Zone_1 h6
    refine V_y (Y_fieldAddr Tryd.underlying24 rfl Tryd.sizeOf22 (by decide) rfl) rfl rfl rfl ?_
    obtain ⟨v12, h13, h14⟩ := El.list h11
    refine V_y (Y_load h13 Tryd.isAgg22 rfl) rfl rfl rfl ?_
    refine V_y (Y_lenSl h14 rfl Tryd.underlying22 rfl) rfl rfl rfl ?_
    refine V_y (Y_gtr rfl rfl) rfl rfl rfl ?_
    refine V_to (fun _ _ => rfl) ?_
    refine C_cond rfl (fun hc15 => ?_) (fun hc15 => ?_)
    · rw [if_pos hc15] at hm
      refine C_seq ?_
      refine C_region ?_
      refine V_y (Y_assign rfl) rfl rfl rfl ?_
      refine V_to (fun _ _ => rfl) ?_
      obtain rfl := Option.some.inj hm
      refine C_ret ?_
      try simp only [↓inBlock_ret, ↓then_ret]
      exact retQ rfl (Res.one Tryd.results24 rfl) ⟨rfl, hK.kp⟩
    · rw [if_neg (nt hc15)] at hm
      refine C_skip_to (fun _ _ => rfl) ?_
      refine C_seq ?_
      refine C_region_q Tryd_mixed (by kernel_rfl) ?_
      have h16 := El_cal_Zone_0 h6
      refine VQ_y (fun w' hw' => Y_fieldAddr Tryd.underlying24 rfl Tryd.sizeOf3 (by decide) rfl) rfl rfl rfl ?_
      refine VQ_y (fun w' hw' => Y_load (El.int (El.kp h16 hw')) Tryd.isAgg3 rfl) rfl rfl rfl ?_
      refine VQ_y (fun w' hw' => Y_assign rfl) rfl rfl rfl ?_
      refine VQ_y (fun w' hw' => Y_assign rfl) rfl rfl rfl ?_
      refine VQ_to (fun _ _ => rfl) (fun w17 hk18 => ?_)
      have ht19 := Kp.tr hk18 hA hB
      replace hH := Hp.kp hH hk18
      replace h6 := El.tr h6 ht19
      replace hK := Tr.trans hK ht19
      replace hB := Nat.le_trans hB ht19.ex.size
      replace hA := ht19.new
      refine C_seq ?_
      refine C_seq ?_
      refine C_region ?_
      have h20 := El_cal_Zone_1 h6
      refine V_y (Y_fieldAddr Tryd.underlying24 rfl Tryd.sizeOf22 (by decide) rfl) rfl rfl rfl ?_
      obtain ⟨v21, h22, h23⟩ := El.list h20
      refine V_y (Y_load h22 Tryd.isAgg22 rfl) rfl rfl rfl ?_
      refine V_y (Y_lenSl h23 rfl Tryd.underlying22 rfl) rfl rfl rfl ?_
      refine V_y (Y_move rfl) rfl rfl rfl ?_
      refine V_to (fun _ _ => rfl) ?_
      have hn44 := Sl.le h23
      obtain ⟨o24, ho24, hm⟩ := Option.bind_eq_some_iff.1 hm
      refine C_cutG (ι := ((Int × Int) × (Nat → Prop))) (fun ⟨s25, A31⟩ => []) (fun ⟨s25, A31⟩ => fun w' => o24 = .fin s25 ∧ Hp w.heap.size A31 w' ([]) ∧ Tr w.heap.size A w17 A31 w') ?_ ?_
      · refine C_block ?_
        refine C_range ho24 (fun k27 s33 a w' => ∃ i : (Nat → Prop), Has ⟨50, [], none⟩ a ([(3, .int .i64 s33.1), (4, .int .i64 s33.2), (18, v21), (19, .int .i64 (z.changes.length : Int)), (20, .int .i64 (k27 : Int))]) ∧ Hp w.heap.size i w' ([]) ∧ Tr w.heap.size A w17 i w') (fun a ha => ⟨A, ha.sub ⟨rfl, rfl, rfl, rfl, rfl, trivial⟩, ⟨hH, Tr.refl hA⟩⟩) ?_
        rintro K k27 s33 a w34 ⟨A35, ha75, hH36, hr26⟩ hle40 K43 h42
        refine C_of ?_ ha75
        replace h23 := Sl.tr h23 hr26
        replace hK := Tr.trans hK hr26
        replace hB := Nat.le_trans hB hr26.ex.size
        replace hA := hr26.new
        replace hH : Hp w.heap.size A35 w34 ([]) := hH36
        refine C_seq (C_region (V_y (Y_lss rfl rfl) rfl rfl rfl (V_to (fun _ _ => rfl) ?_)))
        refine C_seq ?_
        refine C_cond rfl (fun hc45 => ?_) (fun hc45 => ?_)
        · have hlt41 := lt_of_dec hc45
          obtain ⟨x37, h38, h39⟩ := K43 hlt41
          refine C_skip_to (fun _ _ => rfl) ?_
          refine C_seq ?_
          refine C_block ?_
          refine C_seq ?_
          refine C_region ?_
          obtain ⟨x46, hx46, h38⟩ := Option.bind_eq_some_iff.1 h38
          refine V_indexAddr h23 hx46 Tryd.underlying22 Tryd.sizeOf55 rfl rfl rfl ?_
          intro b47 o48 h49
          obtain ⟨h50, _⟩ := El_cal_Change h49
          refine V_y (Y_loadA h50 Tryd.isAgg55 Tryd.sizeOf55 rfl) rfl rfl rfl ?_
          refine V_alloc Tryd.zeroValue55 rfl ?_
          intro b51 w52 h53
          refine V_storeNew h53 Tryd.sizeOf55 rfl rfl rfl rfl (by exact (List.forall_mem_cons.2 ⟨rfl, (List.forall_mem_cons.2 ⟨rfl, (fun _ h => nomatch h)⟩)⟩)) ?_
          intro w54 h55
          have hk57 := h55.kp
          have h56 : El (α := cal_Change) A35 w54 b51 0 x46 := h55.el hA ⟨[.int .i64 x46.at_], _, rfl, rfl, rfl⟩
          have ht58 := Kp.tr hk57 hA hB
          replace hH := Hp.kp hH hk57
          replace h23 := Sl.tr h23 ht58
          replace h49 := El.tr h49 ht58
          replace hK := Tr.trans hK ht58
          replace hr26 := Tr.trans hr26 ht58
          replace hB := Nat.le_trans hB ht58.ex.size
          replace hA := ht58.new
          refine V_to (fun _ _ => rfl) ?_
          refine C_seq ?_
          refine C_block ?_
          refine C_seq ?_
          refine C_region ?_
          have h59 := El_cal_Change_0 h56
          refine V_y (Y_fieldAddr Tryd.underlying55 rfl Tryd.sizeOf3 (by decide) rfl) rfl rfl rfl ?_
          refine V_y (Y_load (El.int h59) Tryd.isAgg3 rfl) rfl rfl rfl ?_
          refine V_call Tryd.call26 rfl rfl rfl rfl (cal_within_c w54 x46.at_ 1 3000000) ?_
          rintro _ _ ⟨rfl, rfl⟩
          refine V_y (Y_not rfl) rfl rfl rfl ?_
          refine V_y (Y_move rfl) rfl rfl rfl ?_
          refine V_cut 5 (fun _ : Unit => [(3, .int .i64 s33.1), (4, .int .i64 s33.2), (6, .pointer (some ⟨b51, 0, none⟩)), (18, v21), (19, .int .i64 (z.changes.length : Int)), (20, .int .i64 (k27 : Int)), (34, .bool ((!(cal_within x46.at_ 1 3000000)) || (!(cal_within x46.offset (-1440) 1440))))]) (fun _ w' => w54 = w') ?_ ?_
          · simp only [List.take, List.drop]
            rcases Bool.eq_false_or_eq_true (!(cal_within x46.at_ 1 3000000)) with hc60 | hc60
            · refine V_gn rfl rfl rfl hc60 rfl rfl rfl ?_
              refine V_gn rfl rfl rfl hc60 rfl rfl rfl ?_
              refine V_gn rfl rfl rfl hc60 rfl rfl rfl ?_
              refine V_gn rfl rfl rfl hc60 rfl rfl rfl ?_
              refine V_y (Y_pick_te rfl hc60 rfl) rfl rfl rfl ?_
              exact V_end fun a ha => ⟨(), ha.sub ⟨rfl, rfl, rfl, rfl, rfl, rfl, (by rw [hc60]; rfl), trivial⟩, rfl⟩
            · refine V_ge rfl rfl rfl hc60 ?_
              have h62 := El_cal_Change_1 h56
              refine V_y (Y_fieldAddr Tryd.underlying55 rfl Tryd.sizeOf3 (by decide) rfl) rfl rfl rfl ?_
              refine V_ge rfl rfl rfl hc60 ?_
              refine V_y (Y_load (El.int h62) Tryd.isAgg3 rfl) rfl rfl rfl ?_
              refine V_ge rfl rfl rfl hc60 ?_
              refine V_call Tryd.call26 rfl rfl rfl rfl (cal_within_c w54 x46.offset (-1440) 1440) ?_
              rintro _ _ ⟨rfl, rfl⟩
              refine V_ge rfl rfl rfl hc60 ?_
              refine V_y (Y_not rfl) rfl rfl rfl ?_
              refine V_y (Y_pick_fe rfl hc60 rfl) rfl rfl rfl ?_
              exact V_end fun a ha => ⟨(), ha.sub ⟨rfl, rfl, rfl, rfl, rfl, rfl, (by rw [hc60]; rfl), trivial⟩, rfl⟩
          simp only [List.take, List.drop]
          rintro _ _ rfl
          refine V_y (Y_assign rfl) rfl rfl rfl ?_
          refine V_to (fun _ _ => rfl) ?_
          refine C_cond rfl (fun hc63 => ?_) (fun hc63 => ?_)
          · rw [if_pos hc63] at h38
            refine C_seq ?_
            refine C_region ?_
            refine V_y (Y_assign rfl) rfl rfl rfl ?_
            refine V_to (fun _ _ => rfl) ?_
            obtain rfl := Option.some.inj h38
            obtain rfl := (h39 : Lp.rt _ = _)
            rw [Lp.andThen_rt] at hm
            obtain rfl := Option.some.inj hm
            refine C_ret ?_
            try simp only [↓inBlock_ret, ↓then_ret]
            exact retQ rfl (Res.one Tryd.results24 rfl) ⟨rfl, hK.kp⟩
          · rw [if_neg (nt hc63)] at h38
            refine C_seq ?_
            refine C_region ?_
            have h64 := El_cal_Change_0 h56
            refine V_y (Y_fieldAddr Tryd.underlying55 rfl Tryd.sizeOf3 (by decide) rfl) rfl rfl rfl ?_
            refine V_y (Y_load (El.int h64) Tryd.isAgg3 rfl) rfl rfl rfl ?_
            refine V_y (Y_move rfl) rfl rfl rfl ?_
            refine V_y (Y_leq rfl rfl) rfl rfl rfl ?_
            refine V_y (Y_assign rfl) rfl rfl rfl ?_
            refine V_to (fun _ _ => rfl) ?_
            refine C_cond rfl (fun hc65 => ?_) (fun hc65 => ?_)
            · rw [if_pos hc65] at h38
              refine C_seq ?_
              refine C_region ?_
              refine V_y (Y_assign rfl) rfl rfl rfl ?_
              refine V_to (fun _ _ => rfl) ?_
              obtain rfl := Option.some.inj h38
              obtain rfl := (h39 : Lp.rt _ = _)
              rw [Lp.andThen_rt] at hm
              obtain rfl := Option.some.inj hm
              refine C_ret ?_
              try simp only [↓inBlock_ret, ↓then_ret]
              exact retQ rfl (Res.one Tryd.results24 rfl) ⟨rfl, hK.kp⟩
            · rw [if_neg (nt hc65)] at h38
              refine C_seq ?_
              refine C_region ?_
              have h66 := El_cal_Change_1 h56
              refine V_y (Y_fieldAddr Tryd.underlying55 rfl Tryd.sizeOf3 (by decide) rfl) rfl rfl rfl ?_
              refine V_y (Y_load (El.int h66) Tryd.isAgg3 rfl) rfl rfl rfl ?_
              refine V_y (Y_move rfl) rfl rfl rfl ?_
              refine V_y (Y_eql rfl rfl) rfl rfl rfl ?_
              refine V_y (Y_assign rfl) rfl rfl rfl ?_
              refine V_to (fun _ _ => rfl) ?_
              refine C_cond rfl (fun hc67 => ?_) (fun hc67 => ?_)
              · rw [if_pos hc67] at h38
                refine C_seq ?_
                refine C_region ?_
                refine V_y (Y_assign rfl) rfl rfl rfl ?_
                refine V_to (fun _ _ => rfl) ?_
                obtain rfl := Option.some.inj h38
                obtain rfl := (h39 : Lp.rt _ = _)
                rw [Lp.andThen_rt] at hm
                obtain rfl := Option.some.inj hm
                refine C_ret ?_
                try simp only [↓inBlock_ret, ↓then_ret]
                exact retQ rfl (Res.one Tryd.results24 rfl) ⟨rfl, hK.kp⟩
              · rw [if_neg (nt hc67)] at h38
                refine C_skip_to (fun _ _ => rfl) ?_
                refine C_region_q Tryd_mixed (by kernel_rfl) ?_
                have h68 := El_cal_Change_0 h56
                refine VQ_y (fun w' hw' => Y_fieldAddr Tryd.underlying55 rfl Tryd.sizeOf3 (by decide) rfl) rfl rfl rfl ?_
                refine VQ_y (fun w' hw' => Y_load (El.int (El.kp h68 hw')) Tryd.isAgg3 rfl) rfl rfl rfl ?_
                have h69 := El_cal_Change_1 h56
                refine VQ_y (fun w' hw' => Y_fieldAddr Tryd.underlying55 rfl Tryd.sizeOf3 (by decide) rfl) rfl rfl rfl ?_
                refine VQ_y (fun w' hw' => Y_load (El.int (El.kp h69 hw')) Tryd.isAgg3 rfl) rfl rfl rfl ?_
                refine VQ_y (fun w' hw' => Y_assign rfl) rfl rfl rfl ?_
                refine VQ_y (fun w' hw' => Y_assign rfl) rfl rfl rfl ?_
                refine VQ_to (fun _ _ => rfl) (fun w70 hk71 => ?_)
                have ht72 := Kp.tr hk71 hA hB
                replace hH := Hp.kp hH hk71
                replace h23 := Sl.tr h23 ht72
                replace hK := Tr.trans hK ht72
                replace hr26 := Tr.trans hr26 ht72
                replace hB := Nat.le_trans hB ht72.ex.size
                replace hA := ht72.new
                refine C_region ?_
                refine V_y (Y_addI rfl rfl) rfl rfl rfl ?_
                refine V_y (Y_move rfl) rfl rfl rfl ?_
                obtain rfl := Option.some.inj h38
                refine V_end (fun a ha73 => ?_)
                exact ⟨(x46.at_, x46.offset), hlt41, h39, ⟨A35, ha73.sub ⟨rfl, rfl, rfl, rfl, (congrArg (fun z => some (Value.int .i64 z)) (w64_succ hlt41 hn44)), trivial⟩, ⟨hH, hr26⟩⟩⟩
        · refine C_exit (fun a ha74 => ?_)
          exact ⟨((s33.1, s33.2), A35), ha74.sub trivial, ⟨(h42 (eq_of_dec hle40 hc45)).symm, hH, hr26⟩⟩
      rintro ⟨s25, A31⟩ w28 ⟨rfl, hH32, hk29⟩ a ha30
      rw [Lp.andThen_fin] at hm
      replace hK := Tr.trans hK hk29
      replace hB := Nat.le_trans hB hk29.ex.size
      replace hA := hk29.new
      replace hH : Hp w.heap.size A31 w28 ([]) := hH32
      refine C_at (n := ⟨50, [], none⟩) (fun _ _ => rfl) ?_ ha30
      refine C_seq ?_
      refine C_region ?_
      refine V_y (Y_assign rfl) rfl rfl rfl ?_
      refine V_to (fun _ _ => rfl) ?_
      obtain rfl := Option.some.inj hm
      refine C_ret ?_
      try simp only [↓inBlock_ret, ↓then_ret]
      exact retQ rfl (Res.one Tryd.results24 rfl) ⟨rfl, hK.kp⟩

set_option maxRecDepth 4000 in
set_option maxHeartbeats 4000000 in
theorem cmp_isNaN_int_c (w : World) (x : Int) : Ret Tryd.prog 49 #[.int .i64 x] w fun v w' => v = .bool (cmp_isNaN_int x) ∧ w = w' := by
  generalize hm : cmp_isNaN_int x = r
  unfold cmp_isNaN_int at hm
  refine enter Tryd.func49 rfl Tryd.ntmps49 rfl ?_
  refine C_seq ?_
  refine C_region ?_
  refine V_y (Y_assign rfl) rfl rfl rfl ?_
  refine V_to (fun _ _ => rfl) ?_
  refine C_seq ?_
  refine C_region ?_
  refine V_y (Y_move rfl) rfl rfl rfl ?_
  refine V_y (Y_move rfl) rfl rfl rfl ?_
  refine V_y (Y_neq rfl rfl) rfl rfl rfl ?_
  refine V_y (Y_assign rfl) rfl rfl rfl ?_
  refine V_to (fun _ _ => rfl) ?_
  obtain rfl := hm
  refine C_ret ?_
  try simp only [↓inBlock_ret, ↓then_ret]
  exact retQ rfl (Res.one Tryd.results49 rfl) ⟨rfl, rfl⟩

set_option maxRecDepth 4000 in
set_option maxHeartbeats 4000000 in
theorem cmp_Compare_int_c (w : World) (x : Int) (y : Int) : Ret Tryd.prog 42 #[.int .i64 x, .int .i64 y] w fun v w' => v = .int .i64 (cmp_Compare_int x y) ∧ w = w' := by
  generalize hm : cmp_Compare_int x y = r
  unfold cmp_Compare_int at hm
  refine enter Tryd.func42 rfl Tryd.ntmps42 rfl ?_
  refine C_seq ?_
  refine C_region ?_
  refine V_y (Y_assign rfl) rfl rfl rfl ?_
  refine V_to (fun _ _ => rfl) ?_
  refine C_seq ?_
  refine C_region ?_
  refine V_y (Y_move rfl) rfl rfl rfl ?_
  refine V_call Tryd.call49 rfl rfl rfl rfl (cmp_isNaN_int_c w x) ?_
  rintro _ _ ⟨rfl, rfl⟩
  refine V_y (Y_assign rfl) rfl rfl rfl ?_
  refine V_to (fun _ _ => rfl) ?_
  refine C_seq ?_
  refine C_region ?_
  refine V_y (Y_move rfl) rfl rfl rfl ?_
  refine V_call Tryd.call49 rfl rfl rfl rfl (cmp_isNaN_int_c w y) ?_
  rintro _ _ ⟨rfl, rfl⟩
  refine V_y (Y_assign rfl) rfl rfl rfl ?_
  refine V_to (fun _ _ => rfl) ?_
  refine C_seq ?_
  refine C_seq ?_
  refine C_region ?_
  refine V_y (Y_move rfl) rfl rfl rfl ?_
  refine V_to (fun _ _ => rfl) ?_
  refine C_cond rfl (fun hc1 => ?_) (fun hc1 => ?_)
  · rw [if_pos hc1] at hm
    refine C_seq ?_
    refine C_seq ?_
    refine C_region ?_
    refine V_y (Y_move rfl) rfl rfl rfl ?_
    refine V_to (fun _ _ => rfl) ?_
    refine C_cond rfl (fun hc2 => ?_) (fun hc2 => ?_)
    · rw [if_pos hc2] at hm
      refine C_seq ?_
      refine C_region ?_
      refine V_y (Y_assign rfl) rfl rfl rfl ?_
      refine V_to (fun _ _ => rfl) ?_
      obtain rfl := hm
      refine C_ret ?_
      try simp only [↓inBlock_ret, ↓then_ret]
      exact retQ rfl (Res.one Tryd.results42 rfl) ⟨rfl, rfl⟩
    · rw [if_neg (nt hc2)] at hm
      refine C_skip_to (fun _ _ => rfl) ?_
      refine C_seq ?_
      refine C_region ?_
      refine V_y (Y_assign rfl) rfl rfl rfl ?_
      refine V_to (fun _ _ => rfl) ?_
      obtain rfl := hm
      refine C_ret ?_
      try simp only [↓inBlock_ret, ↓then_ret]
      exact retQ rfl (Res.one Tryd.results42 rfl) ⟨rfl, rfl⟩
  · rw [if_neg (nt hc1)] at hm
    refine C_skip_to (fun _ _ => rfl) ?_
    refine C_seq ?_
    refine C_seq ?_
    refine C_region ?_
    refine V_y (Y_move rfl) rfl rfl rfl ?_
    refine V_to (fun _ _ => rfl) ?_
    refine C_cond rfl (fun hc3 => ?_) (fun hc3 => ?_)
    · rw [if_pos hc3] at hm
      refine C_seq ?_
      refine C_region ?_
      refine V_y (Y_assign rfl) rfl rfl rfl ?_
      refine V_to (fun _ _ => rfl) ?_
      obtain rfl := hm
      refine C_ret ?_
      try simp only [↓inBlock_ret, ↓then_ret]
      exact retQ rfl (Res.one Tryd.results42 rfl) ⟨rfl, rfl⟩
    · rw [if_neg (nt hc3)] at hm
      refine C_skip_to (fun _ _ => rfl) ?_
      refine C_seq ?_
      refine C_seq ?_
      refine C_region ?_
      refine V_y (Y_move rfl) rfl rfl rfl ?_
      refine V_y (Y_move rfl) rfl rfl rfl ?_
      refine V_y (Y_lss rfl rfl) rfl rfl rfl ?_
      refine V_to (fun _ _ => rfl) ?_
      refine C_cond rfl (fun hc4 => ?_) (fun hc4 => ?_)
      · rw [if_pos hc4] at hm
        refine C_seq ?_
        refine C_region ?_
        refine V_y (Y_assign rfl) rfl rfl rfl ?_
        refine V_to (fun _ _ => rfl) ?_
        obtain rfl := hm
        refine C_ret ?_
        try simp only [↓inBlock_ret, ↓then_ret]
        exact retQ rfl (Res.one Tryd.results42 rfl) ⟨rfl, rfl⟩
      · rw [if_neg (nt hc4)] at hm
        refine C_skip_to (fun _ _ => rfl) ?_
        refine C_seq ?_
        refine C_seq ?_
        refine C_region ?_
        refine V_y (Y_move rfl) rfl rfl rfl ?_
        refine V_y (Y_move rfl) rfl rfl rfl ?_
        refine V_y (Y_gtr rfl rfl) rfl rfl rfl ?_
        refine V_to (fun _ _ => rfl) ?_
        refine C_cond rfl (fun hc5 => ?_) (fun hc5 => ?_)
        · rw [if_pos hc5] at hm
          refine C_seq ?_
          refine C_region ?_
          refine V_y (Y_assign rfl) rfl rfl rfl ?_
          refine V_to (fun _ _ => rfl) ?_
          obtain rfl := hm
          refine C_ret ?_
          try simp only [↓inBlock_ret, ↓then_ret]
          exact retQ rfl (Res.one Tryd.results42 rfl) ⟨rfl, rfl⟩
        · rw [if_neg (nt hc5)] at hm
          refine C_skip_to (fun _ _ => rfl) ?_
          refine C_seq ?_
          refine C_region ?_
          refine V_y (Y_assign rfl) rfl rfl rfl ?_
          refine V_to (fun _ _ => rfl) ?_
          obtain rfl := hm
          refine C_ret ?_
          try simp only [↓inBlock_ret, ↓then_ret]
          exact retQ rfl (Res.one Tryd.results42 rfl) ⟨rfl, rfl⟩

set_option maxRecDepth 4000 in
set_option maxHeartbeats 4000000 in
theorem cmp_Or_int_c (w : World) {A : Nat → Prop} (vals : (List Int)) (v_vals : Value) (h_vals : Sl A w v_vals vals) {r : Int} (hm : cmp_Or_int vals = some r) : Ret Tryd.prog 41 #[v_vals] w fun v w' => v = .int .i64 r ∧ w = w' := by
  unfold cmp_Or_int at hm
  refine enter Tryd.func41 rfl Tryd.ntmps41 rfl ?_
  refine C_seq ?_
  refine C_region ?_
  refine V_y (Y_assign rfl) rfl rfl rfl ?_
  refine V_to (fun _ _ => rfl) ?_
  refine C_seq ?_
  refine C_region ?_
  refine V_y (Y_assign rfl) rfl rfl rfl ?_
  refine V_to (fun _ _ => rfl) ?_
  refine C_seq ?_
  refine C_seq ?_
  refine C_region ?_
  refine V_y (Y_move rfl) rfl rfl rfl ?_
  refine V_y (Y_lenSl h_vals rfl Tryd.underlying46 rfl) rfl rfl rfl ?_
  refine V_y (Y_move rfl) rfl rfl rfl ?_
  refine V_to (fun _ _ => rfl) ?_
  have hn19 := Sl.le h_vals
  obtain ⟨o3, ho3, hm⟩ := Option.bind_eq_some_iff.1 hm
  refine C_cutG (ι := Unit) (fun (s4 : Unit) => [(3, .int .i64 0)]) (fun (s4 : Unit) => fun w' => o3 = .fin s4 ∧ w = w') ?_ ?_
  · refine C_block ?_
    refine C_range ho3 (fun k6 _ a w' => ∃ i : Unit, Has ⟨18, [], none⟩ a ([(3, .int .i64 0), (6, v_vals), (7, .int .i64 (vals.length : Int)), (8, .int .i64 (k6 : Int))]) ∧ w = w') (fun a ha => ⟨(), ha.sub ⟨rfl, rfl, rfl, rfl, trivial⟩, rfl⟩) ?_
    rintro K k6 _ a _ ⟨_, ha28, rfl⟩ hle15 K18 h17
    refine C_of ?_ ha28
    refine C_seq (C_region (V_y (Y_lss rfl rfl) rfl rfl rfl (V_to (fun _ _ => rfl) ?_)))
    refine C_seq ?_
    refine C_cond rfl (fun hc20 => ?_) (fun hc20 => ?_)
    · have hlt16 := lt_of_dec hc20
      obtain ⟨x12, h13, h14⟩ := K18 hlt16
      refine C_skip_to (fun _ _ => rfl) ?_
      refine C_seq ?_
      refine C_block ?_
      refine C_seq ?_
      refine C_region ?_
      obtain ⟨x21, hx21, h13⟩ := Option.bind_eq_some_iff.1 h13
      refine V_indexAddr h_vals hx21 Tryd.underlying46 Tryd.sizeOf3 rfl rfl rfl ?_
      intro b22 o23 h24
      refine V_y (Y_load (El.int h24) Tryd.isAgg3 rfl) rfl rfl rfl ?_
      refine V_y (Y_assign rfl) rfl rfl rfl ?_
      refine V_to (fun _ _ => rfl) ?_
      refine C_seq ?_
      refine C_region ?_
      refine V_y (Y_move rfl) rfl rfl rfl ?_
      refine V_y (Y_move rfl) rfl rfl rfl ?_
      refine V_y (Y_neq rfl rfl) rfl rfl rfl ?_
      refine V_to (fun _ _ => rfl) ?_
      refine C_cond rfl (fun hc25 => ?_) (fun hc25 => ?_)
      · rw [if_pos hc25] at h13
        refine C_seq ?_
        refine C_region ?_
        refine V_y (Y_move rfl) rfl rfl rfl ?_
        refine V_y (Y_assign rfl) rfl rfl rfl ?_
        refine V_to (fun _ _ => rfl) ?_
        obtain rfl := Option.some.inj h13
        obtain rfl := (h14 : Lp.rt _ = _)
        rw [Lp.andThen_rt] at hm
        obtain rfl := Option.some.inj hm
        refine C_ret ?_
        try simp only [↓inBlock_ret, ↓then_ret]
        exact retQ rfl (Res.one Tryd.results41 rfl) ⟨rfl, rfl⟩
      · rw [if_neg (nt hc25)] at h13
        refine C_skip_to (fun _ _ => rfl) ?_
        refine C_region ?_
        refine V_y (Y_addI rfl rfl) rfl rfl rfl ?_
        refine V_y (Y_move rfl) rfl rfl rfl ?_
        obtain rfl := Option.some.inj h13
        refine V_end (fun a ha26 => ?_)
        exact ⟨(), hlt16, h14, ⟨(), ha26.sub ⟨rfl, rfl, rfl, (congrArg (fun z => some (Value.int .i64 z)) (w64_succ hlt16 hn19)), trivial⟩, rfl⟩⟩
    · refine C_exit (fun a ha27 => ?_)
      exact ⟨(), ha27.sub ⟨rfl, trivial⟩, ⟨(h17 (eq_of_dec hle15 hc20)).symm, rfl⟩⟩
  rintro s4 _ ⟨rfl, rfl⟩ a ha9
  rw [Lp.andThen_fin] at hm
  refine C_at (n := ⟨18, [], none⟩) (fun _ _ => rfl) ?_ ha9
  refine C_seq ?_
  refine C_region ?_
  refine V_y (Y_move rfl) rfl rfl rfl ?_
  refine V_y (Y_assign rfl) rfl rfl rfl ?_
  refine V_to (fun _ _ => rfl) ?_
  obtain rfl := Option.some.inj hm
  refine C_ret ?_
  try simp only [↓inBlock_ret, ↓then_ret]
  exact retQ rfl (Res.one Tryd.results41 rfl) ⟨rfl, rfl⟩

set_option maxRecDepth 4000 in
set_option maxHeartbeats 4000000 in
theorem cal_after_c (w : World) {A : Nat → Prop} (hA : ∀ b, w.heap.size ≤ b → A b) (a_ : cal_Shift) (b : cal_Shift) {r : Bool} (hm : cal_after a_ b = some r) : Ret Tryd.prog 39 #[.agg #[.int .i64 a_.day, .int .i64 a_.from_, .int .i64 a_.to_], .agg #[.int .i64 b.day, .int .i64 b.from_, .int .i64 b.to_]] w fun v w' => v = .bool r ∧ Kp w w' := by
  unfold cal_after at hm
  refine enter Tryd.func39 rfl Tryd.ntmps39 rfl ?_
  have hA0 := hA
  have hB := Nat.le_refl w.heap.size
  have hK : Tr w.heap.size A w A w := Tr.refl hA
  have hH : Hp w.heap.size A w [] := Hp.nil
  refine C_seq ?_
  refine C_region ?_
  refine V_box rfl rfl ?_
  intro b1 w2 h3
  have hk5 := h3.kp
  have h4 : El (α := cal_Shift) A w2 b1 0 a_ := h3.el hA ⟨[.int .i64 a_.day], _, rfl, rfl, ⟨[.int .i64 a_.from_], _, rfl, rfl, rfl⟩⟩
  have ht6 := Kp.tr hk5 hA hB
  replace hH := Hp.kp hH hk5
  replace hK := Tr.trans hK ht6
  replace hB := Nat.le_trans hB ht6.ex.size
  replace hA := ht6.new
  refine V_box rfl rfl ?_
  intro b7 w9 h10
  have hk12 := h10.kp
  have h11 : El (α := cal_Shift) A w9 b7 0 b := h10.el hA ⟨[.int .i64 b.day], _, rfl, rfl, ⟨[.int .i64 b.from_], _, rfl, rfl, rfl⟩⟩
  have ht13 := Kp.tr hk12 hA hB
  replace hH := Hp.kp hH hk12
  replace h4 := El.tr h4 ht13
  replace hK := Tr.trans hK ht13
  replace hB := Nat.le_trans hB ht13.ex.size
  replace hA := ht13.new
  refine V_y (Y_assign rfl) rfl rfl rfl ?_
  refine V_to (fun _ _ => rfl) ?_
  refine C_seq ?_
  refine C_region_qt 15 Tryd_mixed (by kernel_rfl) ?_
  simp only [List.take, List.drop]
  have h14 := El_cal_Shift_0 h4
  refine VQ_y (fun w' hw' => Y_fieldAddr Tryd.underlying57 rfl Tryd.sizeOf3 (by decide) rfl) rfl rfl rfl ?_
  refine VQ_y (fun w' hw' => Y_load (El.int (El.kp h14 hw')) Tryd.isAgg3 rfl) rfl rfl rfl ?_
  have h15 := El_cal_Shift_0 h11
  refine VQ_y (fun w' hw' => Y_fieldAddr Tryd.underlying57 rfl Tryd.sizeOf3 (by decide) rfl) rfl rfl rfl ?_
  refine VQ_y (fun w' hw' => Y_load (El.int (El.kp h15 hw')) Tryd.isAgg3 rfl) rfl rfl rfl ?_
  refine VQ_call (.int .i64 (cmp_Compare_int a_.day b.day)) Tryd.call42 rfl rfl rfl rfl (fun w' hw' => (cmp_Compare_int_c w' a_.day b.day).mono (fun _ _ h => ⟨h.1, h.2 ▸ hw'⟩)) ?_
  have h16 := El_cal_Shift_1 h4
  refine VQ_y (fun w' hw' => Y_fieldAddr Tryd.underlying57 rfl Tryd.sizeOf3 (by decide) rfl) rfl rfl rfl ?_
  refine VQ_y (fun w' hw' => Y_load (El.int (El.kp h16 hw')) Tryd.isAgg3 rfl) rfl rfl rfl ?_
  have h17 := El_cal_Shift_1 h11
  refine VQ_y (fun w' hw' => Y_fieldAddr Tryd.underlying57 rfl Tryd.sizeOf3 (by decide) rfl) rfl rfl rfl ?_
  refine VQ_y (fun w' hw' => Y_load (El.int (El.kp h17 hw')) Tryd.isAgg3 rfl) rfl rfl rfl ?_
  refine VQ_call (.int .i64 (cmp_Compare_int a_.from_ b.from_)) Tryd.call42 rfl rfl rfl rfl (fun w' hw' => (cmp_Compare_int_c w' a_.from_ b.from_).mono (fun _ _ h => ⟨h.1, h.2 ▸ hw'⟩)) ?_
  have h18 := El_cal_Shift_2 h4
  refine VQ_y (fun w' hw' => Y_fieldAddr Tryd.underlying57 rfl Tryd.sizeOf3 (by decide) rfl) rfl rfl rfl ?_
  refine VQ_y (fun w' hw' => Y_load (El.int (El.kp h18 hw')) Tryd.isAgg3 rfl) rfl rfl rfl ?_
  have h19 := El_cal_Shift_2 h11
  refine VQ_y (fun w' hw' => Y_fieldAddr Tryd.underlying57 rfl Tryd.sizeOf3 (by decide) rfl) rfl rfl rfl ?_
  refine VQ_y (fun w' hw' => Y_load (El.int (El.kp h19 hw')) Tryd.isAgg3 rfl) rfl rfl rfl ?_
  refine VQ_call (.int .i64 (cmp_Compare_int a_.to_ b.to_)) Tryd.call42 rfl rfl rfl rfl (fun w' hw' => (cmp_Compare_int_c w' a_.to_ b.to_).mono (fun _ _ h => ⟨h.1, h.2 ▸ hw'⟩)) ?_
  refine VQ_tail (fun w20 hk21 => ?_)
  try simp only [List.take, List.drop]
  have ht22 := Kp.tr hk21 hA hB
  replace hH := Hp.kp hH hk21
  replace h4 := El.tr h4 ht22
  replace h11 := El.tr h11 ht22
  replace h14 := El.tr h14 ht22
  replace h15 := El.tr h15 ht22
  replace h16 := El.tr h16 ht22
  replace h17 := El.tr h17 ht22
  replace h18 := El.tr h18 ht22
  replace h19 := El.tr h19 ht22
  replace hK := Tr.trans hK ht22
  replace hB := Nat.le_trans hB ht22.ex.size
  replace hA := ht22.new
  refine V_buildSlice (l := ([(cmp_Compare_int a_.day b.day), (cmp_Compare_int a_.from_ b.from_), (cmp_Compare_int a_.to_ b.to_)] : List Int)) (len := 3) Tryd.underlying46 Tryd.sizeOf3 Tryd.zeroValue3 rfl (by with_unfolding_all rfl) (by decide) (by decide) hA ⟨[.int .i64 (cmp_Compare_int a_.day b.day)], _, rfl, rfl, ⟨[.int .i64 (cmp_Compare_int a_.from_ b.from_)], _, rfl, rfl, ⟨[.int .i64 (cmp_Compare_int a_.to_ b.to_)], _, rfl, rfl, rfl⟩⟩⟩ rfl rfl ?_
  intro v23 w24 hk26 h25
  have ht27 := Kp.tr hk26 hA hB
  replace hH := Hp.kp hH hk26
  replace h4 := El.tr h4 ht27
  replace h11 := El.tr h11 ht27
  replace h14 := El.tr h14 ht27
  replace h15 := El.tr h15 ht27
  replace h16 := El.tr h16 ht27
  replace h17 := El.tr h17 ht27
  replace h18 := El.tr h18 ht27
  replace h19 := El.tr h19 ht27
  replace hK := Tr.trans hK ht27
  replace hB := Nat.le_trans hB ht27.ex.size
  replace hA := ht27.new
  obtain ⟨x28, hx28, hm⟩ := Option.bind_eq_some_iff.1 hm
  refine V_call Tryd.call41 rfl rfl rfl rfl (cmp_Or_int_c w24 ([(cmp_Compare_int a_.day b.day), (cmp_Compare_int a_.from_ b.from_), (cmp_Compare_int a_.to_ b.to_)] : List Int) v23 h25 hx28) ?_
  rintro _ _ ⟨rfl, rfl⟩
  refine V_y (Y_gtr rfl rfl) rfl rfl rfl ?_
  refine V_y (Y_assign rfl) rfl rfl rfl ?_
  refine V_to (fun _ _ => rfl) ?_
  obtain rfl := Option.some.inj hm
  refine C_ret ?_
  try simp only [↓inBlock_ret, ↓then_ret]
  exact retQ rfl (Res.one Tryd.results39 rfl) ⟨rfl, hK.kp⟩

set_option maxRecDepth 4000 in
set_option maxHeartbeats 4000000 in
theorem cal_checkShifts_c (w : World) {A : Nat → Prop} (hA : ∀ b, w.heap.size ≤ b → A b) (l : (List cal_Shift)) (v_l : Value) (h_l : Sl A w v_l l) (dated : Bool) {r : Int} (hm : cal_checkShifts l dated = some r) : Ret Tryd.prog 25 #[v_l, .bool dated] w fun v w' => v = .int .i64 r ∧ Kp w w' := by
  unfold cal_checkShifts at hm
  refine enter Tryd.func25 rfl Tryd.ntmps25 rfl ?_
  have hA0 := hA
  have hB := Nat.le_refl w.heap.size
  have hK : Tr w.heap.size A w A w := Tr.refl hA
  have hH : Hp w.heap.size A w [] := Hp.nil
  refine C_seq ?_
  refine C_region ?_
  refine V_y (Y_assign rfl) rfl rfl rfl ?_
  refine V_to (fun _ _ => rfl) ?_
  refine C_seq ?_
  refine C_seq ?_
  refine C_region ?_
  refine V_y (Y_move rfl) rfl rfl rfl ?_
  refine V_y (Y_lenSl h_l rfl Tryd.underlying25 rfl) rfl rfl rfl ?_
  refine V_y (Y_move rfl) rfl rfl rfl ?_
  refine V_to (fun _ _ => rfl) ?_
  have hn23 := Sl.le h_l
  obtain ⟨o3, ho3, hm⟩ := Option.bind_eq_some_iff.1 hm
  refine C_cutG (ι := (Unit × (Nat → Prop))) (fun ⟨s4, A10⟩ => []) (fun ⟨s4, A10⟩ => fun w' => o3 = .fin s4 ∧ Hp w.heap.size A10 w' ([]) ∧ Tr w.heap.size A w A10 w') ?_ ?_
  · refine C_block ?_
    refine C_range ho3 (fun k6 _ a w' => ∃ i : (Nat → Prop), Has ⟨58, [], none⟩ a ([(0, v_l), (1, .bool dated), (7, v_l), (8, .int .i64 (l.length : Int)), (9, .int .i64 (k6 : Int))]) ∧ Hp w.heap.size i w' ([]) ∧ Tr w.heap.size A w i w') (fun a ha => ⟨A, ha.sub ⟨rfl, rfl, rfl, rfl, rfl, trivial⟩, ⟨hH, Tr.refl hA⟩⟩) ?_
    rintro K k6 _ a w13 ⟨A14, ha71, hH15, hr5⟩ hle19 K22 h21
    refine C_of ?_ ha71
    replace h_l := Sl.tr h_l hr5
    replace hK := Tr.trans hK hr5
    replace hB := Nat.le_trans hB hr5.ex.size
    replace hA := hr5.new
    replace hH : Hp w.heap.size A14 w13 ([]) := hH15
    refine C_seq (C_region (V_y (Y_lss rfl rfl) rfl rfl rfl (V_to (fun _ _ => rfl) ?_)))
    refine C_seq ?_
    refine C_cond rfl (fun hc24 => ?_) (fun hc24 => ?_)
    · have hlt20 := lt_of_dec hc24
      obtain ⟨x16, h17, h18⟩ := K22 hlt20
      refine C_skip_to (fun _ _ => rfl) ?_
      refine C_seq ?_
      refine C_block ?_
      refine C_seq ?_
      refine C_region ?_
      refine V_y (Y_move rfl) rfl rfl rfl ?_
      obtain ⟨x25, hx25, h17⟩ := Option.bind_eq_some_iff.1 h17
      refine V_indexAddr h_l hx25 Tryd.underlying25 Tryd.sizeOf57 rfl rfl rfl ?_
      intro b26 o27 h28
      obtain ⟨h29, _⟩ := El_cal_Shift h28
      refine V_y (Y_loadA h29 Tryd.isAgg57 Tryd.sizeOf57 rfl) rfl rfl rfl ?_
      refine V_alloc Tryd.zeroValue57 rfl ?_
      intro b30 w31 h32
      refine V_y (Y_assign rfl) rfl rfl rfl ?_
      refine V_storeNew h32 Tryd.sizeOf57 rfl rfl rfl rfl (by exact (List.forall_mem_cons.2 ⟨rfl, (List.forall_mem_cons.2 ⟨rfl, (List.forall_mem_cons.2 ⟨rfl, (fun _ h => nomatch h)⟩)⟩)⟩)) ?_
      intro w33 h34
      have hk36 := h34.kp
      have h35 : El (α := cal_Shift) A14 w33 b30 0 x25 := h34.el hA ⟨[.int .i64 x25.day], _, rfl, rfl, ⟨[.int .i64 x25.from_], _, rfl, rfl, rfl⟩⟩
      have ht37 := Kp.tr hk36 hA hB
      replace hH := Hp.kp hH hk36
      replace h_l := Sl.tr h_l ht37
      replace h28 := El.tr h28 ht37
      replace hK := Tr.trans hK ht37
      replace hr5 := Tr.trans hr5 ht37
      replace hB := Nat.le_trans hB ht37.ex.size
      replace hA := ht37.new
      refine V_to (fun _ _ => rfl) ?_
      refine C_seq ?_
      refine C_seq ?_
      refine C_region ?_
      refine V_y (Y_move rfl) rfl rfl rfl ?_
      refine V_y (Y_move rfl) rfl rfl rfl ?_
      refine V_cut 4 (fun _ : Unit => [(0, v_l), (1, .bool dated), (5, .int .i64 (k6 : Int)), (6, .pointer (some ⟨b30, 0, none⟩)), (7, v_l), (8, .int .i64 (l.length : Int)), (9, .int .i64 (k6 : Int)), (19, .bool (dated && (x25.day != 0)))]) (fun _ w' => w33 = w') ?_ ?_
      · simp only [List.take, List.drop]
        rcases Bool.eq_false_or_eq_true (dated) with hc38 | hc38
        · refine V_ge rfl rfl rfl hc38 ?_
          have h40 := El_cal_Shift_0 h35
          refine V_y (Y_fieldAddr Tryd.underlying57 rfl Tryd.sizeOf3 (by decide) rfl) rfl rfl rfl ?_
          refine V_ge rfl rfl rfl hc38 ?_
          refine V_y (Y_load (El.int h40) Tryd.isAgg3 rfl) rfl rfl rfl ?_
          refine V_ge rfl rfl rfl hc38 ?_
          refine V_y (Y_neq rfl rfl) rfl rfl rfl ?_
          refine V_y (Y_pick_te rfl hc38 rfl) rfl rfl rfl ?_
          exact V_end fun a ha => ⟨(), ha.sub ⟨rfl, rfl, rfl, rfl, rfl, rfl, rfl, (by rw [hc38]; rfl), trivial⟩, rfl⟩
        · refine V_gn rfl rfl rfl hc38 rfl rfl rfl ?_
          refine V_gn rfl rfl rfl hc38 rfl rfl rfl ?_
          refine V_gn rfl rfl rfl hc38 rfl rfl rfl ?_
          refine V_y (Y_pick_fe rfl hc38 rfl) rfl rfl rfl ?_
          exact V_end fun a ha => ⟨(), ha.sub ⟨rfl, rfl, rfl, rfl, rfl, rfl, rfl, (by rw [hc38]; rfl), trivial⟩, rfl⟩
      simp only [List.take, List.drop]
      rintro _ _ rfl
      refine V_to (fun _ _ => rfl) ?_
      refine C_cond rfl (fun hc41 => ?_) (fun hc41 => ?_)
      · rw [if_pos hc41] at h17
        refine C_seq ?_
        refine C_region ?_
        refine V_y (Y_assign rfl) rfl rfl rfl ?_
        refine V_to (fun _ _ => rfl) ?_
        obtain rfl := Option.some.inj h17
        obtain rfl := (h18 : Lp.rt _ = _)
        rw [Lp.andThen_rt] at hm
        obtain rfl := Option.some.inj hm
        refine C_ret ?_
        try simp only [↓inBlock_ret, ↓then_ret]
        exact retQ rfl (Res.one Tryd.results25 rfl) ⟨rfl, hK.kp⟩
      · rw [if_neg (nt hc41)] at h17
        refine C_skip_to (fun _ _ => rfl) ?_
        refine C_seq ?_
        refine C_seq ?_
        refine C_region ?_
        have h42 := El_cal_Shift_0 h35
        refine V_y (Y_fieldAddr Tryd.underlying57 rfl Tryd.sizeOf3 (by decide) rfl) rfl rfl rfl ?_
        refine V_y (Y_load (El.int h42) Tryd.isAgg3 rfl) rfl rfl rfl ?_
        refine V_call Tryd.call26 rfl rfl rfl rfl (cal_within_c w33 x25.day 0 6) ?_
        rintro _ _ ⟨rfl, rfl⟩
        refine V_y (Y_not rfl) rfl rfl rfl ?_
        refine V_y (Y_move rfl) rfl rfl rfl ?_
        refine V_cut 5 (fun _ : Unit => [(0, v_l), (1, .bool dated), (5, .int .i64 (k6 : Int)), (6, .pointer (some ⟨b30, 0, none⟩)), (7, v_l), (8, .int .i64 (l.length : Int)), (9, .int .i64 (k6 : Int)), (29, .bool ((!(cal_within x25.day 0 6)) || (!(cal_within x25.from_ 0 1439))))]) (fun _ w' => w33 = w') ?_ ?_
        · simp only [List.take, List.drop]
          rcases Bool.eq_false_or_eq_true (!(cal_within x25.day 0 6)) with hc43 | hc43
          · refine V_gn rfl rfl rfl hc43 rfl rfl rfl ?_
            refine V_gn rfl rfl rfl hc43 rfl rfl rfl ?_
            refine V_gn rfl rfl rfl hc43 rfl rfl rfl ?_
            refine V_gn rfl rfl rfl hc43 rfl rfl rfl ?_
            refine V_y (Y_pick_te rfl hc43 rfl) rfl rfl rfl ?_
            exact V_end fun a ha => ⟨(), ha.sub ⟨rfl, rfl, rfl, rfl, rfl, rfl, rfl, (by rw [hc43]; rfl), trivial⟩, rfl⟩
          · refine V_ge rfl rfl rfl hc43 ?_
            have h45 := El_cal_Shift_1 h35
            refine V_y (Y_fieldAddr Tryd.underlying57 rfl Tryd.sizeOf3 (by decide) rfl) rfl rfl rfl ?_
            refine V_ge rfl rfl rfl hc43 ?_
            refine V_y (Y_load (El.int h45) Tryd.isAgg3 rfl) rfl rfl rfl ?_
            refine V_ge rfl rfl rfl hc43 ?_
            refine V_call Tryd.call26 rfl rfl rfl rfl (cal_within_c w33 x25.from_ 0 1439) ?_
            rintro _ _ ⟨rfl, rfl⟩
            refine V_ge rfl rfl rfl hc43 ?_
            refine V_y (Y_not rfl) rfl rfl rfl ?_
            refine V_y (Y_pick_fe rfl hc43 rfl) rfl rfl rfl ?_
            exact V_end fun a ha => ⟨(), ha.sub ⟨rfl, rfl, rfl, rfl, rfl, rfl, rfl, (by rw [hc43]; rfl), trivial⟩, rfl⟩
        simp only [List.take, List.drop]
        rintro _ _ rfl
        refine V_y (Y_move rfl) rfl rfl rfl ?_
        refine V_cut 6 (fun _ : Unit => [(0, v_l), (1, .bool dated), (5, .int .i64 (k6 : Int)), (6, .pointer (some ⟨b30, 0, none⟩)), (7, v_l), (8, .int .i64 (l.length : Int)), (9, .int .i64 (k6 : Int)), (36, .bool (((!(cal_within x25.day 0 6)) || (!(cal_within x25.from_ 0 1439))) || (decide (x25.to_ ≤ x25.from_))))]) (fun _ w' => w33 = w') ?_ ?_
        · simp only [List.take, List.drop]
          rcases Bool.eq_false_or_eq_true (((!(cal_within x25.day 0 6)) || (!(cal_within x25.from_ 0 1439)))) with hc46 | hc46
          · refine V_gn rfl rfl rfl hc46 rfl rfl rfl ?_
            refine V_gn rfl rfl rfl hc46 rfl rfl rfl ?_
            refine V_gn rfl rfl rfl hc46 rfl rfl rfl ?_
            refine V_gn rfl rfl rfl hc46 rfl rfl rfl ?_
            refine V_gn rfl rfl rfl hc46 rfl rfl rfl ?_
            refine V_y (Y_pick_te rfl hc46 rfl) rfl rfl rfl ?_
            exact V_end fun a ha => ⟨(), ha.sub ⟨rfl, rfl, rfl, rfl, rfl, rfl, rfl, (by rw [hc46]; rfl), trivial⟩, rfl⟩
          · refine V_ge rfl rfl rfl hc46 ?_
            have h48 := El_cal_Shift_2 h35
            refine V_y (Y_fieldAddr Tryd.underlying57 rfl Tryd.sizeOf3 (by decide) rfl) rfl rfl rfl ?_
            refine V_ge rfl rfl rfl hc46 ?_
            refine V_y (Y_load (El.int h48) Tryd.isAgg3 rfl) rfl rfl rfl ?_
            refine V_ge rfl rfl rfl hc46 ?_
            have h49 := El_cal_Shift_1 h35
            refine V_y (Y_fieldAddr Tryd.underlying57 rfl Tryd.sizeOf3 (by decide) rfl) rfl rfl rfl ?_
            refine V_ge rfl rfl rfl hc46 ?_
            refine V_y (Y_load (El.int h49) Tryd.isAgg3 rfl) rfl rfl rfl ?_
            refine V_ge rfl rfl rfl hc46 ?_
            refine V_y (Y_leq rfl rfl) rfl rfl rfl ?_
            refine V_y (Y_pick_fe rfl hc46 rfl) rfl rfl rfl ?_
            exact V_end fun a ha => ⟨(), ha.sub ⟨rfl, rfl, rfl, rfl, rfl, rfl, rfl, (by rw [hc46]; rfl), trivial⟩, rfl⟩
        simp only [List.take, List.drop]
        rintro _ _ rfl
        refine V_y (Y_move rfl) rfl rfl rfl ?_
        refine V_cut 7 (fun _ : Unit => [(0, v_l), (1, .bool dated), (5, .int .i64 (k6 : Int)), (6, .pointer (some ⟨b30, 0, none⟩)), (7, v_l), (8, .int .i64 (l.length : Int)), (9, .int .i64 (k6 : Int)), (44, .bool ((((!(cal_within x25.day 0 6)) || (!(cal_within x25.from_ 0 1439))) || (decide (x25.to_ ≤ x25.from_))) || (decide ((w64 (x25.from_ + 1440)) < x25.to_))))]) (fun _ w' => w33 = w') ?_ ?_
        · simp only [List.take, List.drop]
          rcases Bool.eq_false_or_eq_true ((((!(cal_within x25.day 0 6)) || (!(cal_within x25.from_ 0 1439))) || (decide (x25.to_ ≤ x25.from_)))) with hc50 | hc50
          · refine V_gn rfl rfl rfl hc50 rfl rfl rfl ?_
            refine V_gn rfl rfl rfl hc50 rfl rfl rfl ?_
            refine V_gn rfl rfl rfl hc50 rfl rfl rfl ?_
            refine V_gn rfl rfl rfl hc50 rfl rfl rfl ?_
            refine V_gn rfl rfl rfl hc50 rfl rfl rfl ?_
            refine V_gn rfl rfl rfl hc50 rfl rfl rfl ?_
            refine V_y (Y_pick_te rfl hc50 rfl) rfl rfl rfl ?_
            exact V_end fun a ha => ⟨(), ha.sub ⟨rfl, rfl, rfl, rfl, rfl, rfl, rfl, (by rw [hc50]; rfl), trivial⟩, rfl⟩
          · refine V_ge rfl rfl rfl hc50 ?_
            have h52 := El_cal_Shift_2 h35
            refine V_y (Y_fieldAddr Tryd.underlying57 rfl Tryd.sizeOf3 (by decide) rfl) rfl rfl rfl ?_
            refine V_ge rfl rfl rfl hc50 ?_
            refine V_y (Y_load (El.int h52) Tryd.isAgg3 rfl) rfl rfl rfl ?_
            refine V_ge rfl rfl rfl hc50 ?_
            have h53 := El_cal_Shift_1 h35
            refine V_y (Y_fieldAddr Tryd.underlying57 rfl Tryd.sizeOf3 (by decide) rfl) rfl rfl rfl ?_
            refine V_ge rfl rfl rfl hc50 ?_
            refine V_y (Y_load (El.int h53) Tryd.isAgg3 rfl) rfl rfl rfl ?_
            refine V_ge rfl rfl rfl hc50 ?_
            refine V_y (Y_addI rfl rfl) rfl rfl rfl ?_
            refine V_ge rfl rfl rfl hc50 ?_
            refine V_y (Y_gtr rfl rfl) rfl rfl rfl ?_
            refine V_y (Y_pick_fe rfl hc50 rfl) rfl rfl rfl ?_
            exact V_end fun a ha => ⟨(), ha.sub ⟨rfl, rfl, rfl, rfl, rfl, rfl, rfl, (by rw [hc50]; rfl), trivial⟩, rfl⟩
        simp only [List.take, List.drop]
        rintro _ _ rfl
        refine V_to (fun _ _ => rfl) ?_
        refine C_cond rfl (fun hc54 => ?_) (fun hc54 => ?_)
        · rw [if_pos hc54] at h17
          refine C_seq ?_
          refine C_region ?_
          refine V_y (Y_assign rfl) rfl rfl rfl ?_
          refine V_to (fun _ _ => rfl) ?_
          obtain rfl := Option.some.inj h17
          obtain rfl := (h18 : Lp.rt _ = _)
          rw [Lp.andThen_rt] at hm
          obtain rfl := Option.some.inj hm
          refine C_ret ?_
          try simp only [↓inBlock_ret, ↓then_ret]
          exact retQ rfl (Res.one Tryd.results25 rfl) ⟨rfl, hK.kp⟩
        · rw [if_neg (nt hc54)] at h17
          refine C_skip_to (fun _ _ => rfl) ?_
          refine C_seq ?_
          refine C_region_q Tryd_mixed (by kernel_rfl) ?_
          refine VQ_y (fun w' hw' => Y_move rfl) rfl rfl rfl ?_
          refine VQ_y (fun w' hw' => Y_gtr rfl rfl) rfl rfl rfl ?_
          refine VQ_y (fun w' hw' => Y_move rfl) rfl rfl rfl ?_
          obtain ⟨s56, hs56, h17⟩ := Option.bind_eq_some_iff.1 h17
          refine VQ_cut 9 (fun _ : Unit => [(0, v_l), (1, .bool dated), (7, v_l), (8, .int .i64 (l.length : Int)), (9, .int .i64 (k6 : Int)), (56, .bool s56)]) (fun _ => True) ?_ ?_
          · simp only [List.take, List.drop]
            rcases Bool.eq_false_or_eq_true (decide ((0 : Int) < (k6 : Int))) with hc55 | hc55
            · rw [if_pos hc55] at hs56
              refine VQ_ge rfl rfl rfl hc55 ?_
              obtain ⟨h57, _⟩ := El_cal_Shift h35
              refine VQ_y (fun w' hw' => Y_loadA (At.kp h57 hw' h35.2.1) Tryd.isAgg57 Tryd.sizeOf57 rfl) rfl rfl rfl ?_
              refine VQ_ge rfl rfl rfl hc55 ?_
              refine VQ_y (fun w' hw' => Y_move rfl) rfl rfl rfl ?_
              refine VQ_ge rfl rfl rfl hc55 ?_
              refine VQ_y (fun w' hw' => Y_move rfl) rfl rfl rfl ?_
              refine VQ_ge rfl rfl rfl hc55 ?_
              refine VQ_y (fun w' hw' => Y_subI rfl rfl) rfl rfl rfl ?_
              refine VQ_ge rfl rfl rfl hc55 ?_
              obtain ⟨x58, hx58, hs56⟩ := Option.bind_eq_some_iff.1 hs56
              refine VQ_indexAddr h_l hx58 Tryd.underlying25 Tryd.sizeOf57 rfl rfl rfl ?_
              intro b59 o60 h61
              refine VQ_ge rfl rfl rfl hc55 ?_
              obtain ⟨h62, _⟩ := El_cal_Shift h61
              refine VQ_y (fun w' hw' => Y_loadA (At.kp h62 hw' h61.2.1) Tryd.isAgg57 Tryd.sizeOf57 rfl) rfl rfl rfl ?_
              refine VQ_ge rfl rfl rfl hc55 ?_
              obtain ⟨x63, hx63, hs56⟩ := Option.bind_eq_some_iff.1 hs56
              refine VQ_call (.bool x63) Tryd.call39 rfl rfl rfl rfl (fun w' hw' => (cal_after_c w' (fun b hb => hA b (Nat.le_trans hw'.size hb)) x25 x58 hx63).mono (fun _ _ h => ⟨h.1, Kp.trans hw' h.2⟩)) ?_
              refine VQ_ge rfl rfl rfl hc55 ?_
              refine VQ_y (fun w' hw' => Y_not rfl) rfl rfl rfl ?_
              refine VQ_y (fun _ _ => Y_pick_te rfl hc55 rfl) rfl rfl rfl ?_
              obtain rfl := Option.some.inj hs56
              exact VQ_end fun a ha => ⟨(), ha.sub ⟨rfl, rfl, rfl, rfl, rfl, rfl, trivial⟩, trivial⟩
            · rw [if_neg (nt hc55)] at hs56
              refine VQ_gn rfl rfl rfl hc55 rfl rfl rfl ?_
              refine VQ_gn rfl rfl rfl hc55 rfl rfl rfl ?_
              refine VQ_gn rfl rfl rfl hc55 rfl rfl rfl ?_
              refine VQ_gn rfl rfl rfl hc55 rfl rfl rfl ?_
              refine VQ_gn rfl rfl rfl hc55 rfl rfl rfl ?_
              refine VQ_gn rfl rfl rfl hc55 rfl rfl rfl ?_
              refine VQ_gn rfl rfl rfl hc55 rfl rfl rfl ?_
              refine VQ_gn rfl rfl rfl hc55 rfl rfl rfl ?_
              refine VQ_y (fun _ _ => Y_pick_fe rfl hc55 rfl) rfl rfl rfl ?_
              obtain rfl := Option.some.inj hs56
              exact VQ_end fun a ha => ⟨(), ha.sub ⟨rfl, rfl, rfl, rfl, rfl, rfl, trivial⟩, trivial⟩
          simp only [List.take, List.drop]
          rintro _ _
          refine VQ_to (fun _ _ => rfl) (fun w65 hk66 => ?_)
          have ht67 := Kp.tr hk66 hA hB
          replace hH := Hp.kp hH hk66
          replace h_l := Sl.tr h_l ht67
          replace hK := Tr.trans hK ht67
          replace hr5 := Tr.trans hr5 ht67
          replace hB := Nat.le_trans hB ht67.ex.size
          replace hA := ht67.new
          refine C_cond rfl (fun hc68 => ?_) (fun hc68 => ?_)
          · rw [if_pos hc68] at h17
            refine C_seq ?_
            refine C_region ?_
            refine V_y (Y_assign rfl) rfl rfl rfl ?_
            refine V_to (fun _ _ => rfl) ?_
            obtain rfl := Option.some.inj h17
            obtain rfl := (h18 : Lp.rt _ = _)
            rw [Lp.andThen_rt] at hm
            obtain rfl := Option.some.inj hm
            refine C_ret ?_
            try simp only [↓inBlock_ret, ↓then_ret]
            exact retQ rfl (Res.one Tryd.results25 rfl) ⟨rfl, hK.kp⟩
          · rw [if_neg (nt hc68)] at h17
            refine C_skip_to (fun _ _ => rfl) ?_
            refine C_region ?_
            refine V_y (Y_addI rfl rfl) rfl rfl rfl ?_
            refine V_y (Y_move rfl) rfl rfl rfl ?_
            obtain rfl := Option.some.inj h17
            refine V_end (fun a ha69 => ?_)
            exact ⟨(), hlt20, h18, ⟨A14, ha69.sub ⟨rfl, rfl, rfl, rfl, (congrArg (fun z => some (Value.int .i64 z)) (w64_succ hlt20 hn23)), trivial⟩, ⟨hH, hr5⟩⟩⟩
    · refine C_exit (fun a ha70 => ?_)
      exact ⟨((), A14), ha70.sub trivial, ⟨(h21 (eq_of_dec hle19 hc24)).symm, hH, hr5⟩⟩
  rintro ⟨s4, A10⟩ w7 ⟨rfl, hH11, hk8⟩ a ha9
  rw [Lp.andThen_fin] at hm
  replace hK := Tr.trans hK hk8
  replace hB := Nat.le_trans hB hk8.ex.size
  replace hA := hk8.new
  replace hH : Hp w.heap.size A10 w7 ([]) := hH11
  refine C_at (n := ⟨58, [], none⟩) (fun _ _ => rfl) ?_ ha9
  refine C_seq ?_
  refine C_region ?_
  refine V_y (Y_assign rfl) rfl rfl rfl ?_
  refine V_to (fun _ _ => rfl) ?_
  obtain rfl := Option.some.inj hm
  refine C_ret ?_
  try simp only [↓inBlock_ret, ↓then_ret]
  exact retQ rfl (Res.one Tryd.results25 rfl) ⟨rfl, hK.kp⟩

set_option maxRecDepth 4000 in
set_option maxHeartbeats 4000000 in
theorem cal_CheckCalendar_c (w : World) {A : Nat → Prop} (hA : ∀ b, w.heap.size ≤ b → A b) (c : cal_Calendar) (v_c0 : Value) (h_c0 : Sl A w v_c0 c.zone.changes) (v_c1 : Value) (h_c1 : Sl A w v_c1 c.week) (v_c2 : Value) (h_c2 : Sl A w v_c2 c.specials) {r : Int} (hm : cal_CheckCalendar c = some r) : Ret Tryd.prog 7 #[.agg #[.int .i64 c.zone.offset, v_c0, v_c1, v_c2]] w fun v w' => v = .int .i64 r ∧ Kp w w' := by
  unfold cal_CheckCalendar at hm
  refine enter Tryd.func7 rfl Tryd.ntmps7 rfl ?_
  have hA0 := hA
  have hB := Nat.le_refl w.heap.size
  have hK : Tr w.heap.size A w A w := Tr.refl hA
  have hH : Hp w.heap.size A w [] := Hp.nil
  refine C_seq ?_
  refine C_region ?_
  refine V_box rfl rfl ?_
  intro b7 w9 h10
  have hk12 := h10.kp
  have h11 : El (α := cal_Calendar) A w9 b7 0 c := h10.el hA ⟨[.int .i64 c.zone.offset, v_c0], _, rfl, ⟨[.int .i64 c.zone.offset], _, rfl, rfl, ⟨_, rfl, h_c0⟩⟩, ⟨[v_c1], _, rfl, ⟨_, rfl, h_c1⟩, ⟨_, rfl, h_c2⟩⟩⟩
  have ht13 := Kp.tr hk12 hA hB
  replace hH := Hp.kp hH hk12
  replace h_c0 := Sl.tr h_c0 ht13
  replace h_c1 := Sl.tr h_c1 ht13
  replace h_c2 := Sl.tr h_c2 ht13
  replace hK := Tr.trans hK ht13
  replace hB := Nat.le_trans hB ht13.ex.size
  replace hA := ht13.new
  refine V_y (Y_assign rfl) rfl rfl rfl ?_
  refine V_to (fun _ _ => rfl) ?_
  refine C_seq ?_
  refine C_seq ?_
  refine C_region ?_
  have h14 := El_cal_Calendar_0 h11
  refine V_y (Y_fieldAddr Tryd.underlying28 rfl Tryd.sizeOf24 (by decide) rfl) rfl rfl rfl ?_
  obtain ⟨v15, h17, h16⟩ := El_cal_Zone h14
  refine V_y (Y_loadA h17 Tryd.isAgg24 Tryd.sizeOf24 rfl) rfl rfl rfl ?_
  obtain ⟨x18, hx18, hm⟩ := Option.bind_eq_some_iff.1 hm
  refine V_call Tryd.call24 rfl rfl rfl rfl (cal_CheckZone_c w9 hA c.zone v15 h16 hx18) ?_
  rintro _ w19 ⟨rfl, hk20⟩
  have ht21 := Kp.tr hk20 hA hB
  replace hH := Hp.kp hH hk20
  replace h11 := El.tr h11 ht21
  replace h14 := El.tr h14 ht21
  replace h16 := Sl.tr h16 ht21
  replace hK := Tr.trans hK ht21
  replace hB := Nat.le_trans hB ht21.ex.size
  replace hA := ht21.new
  refine V_y (Y_assign rfl) rfl rfl rfl ?_
  refine V_to (fun _ _ => rfl) ?_
  refine C_seq ?_
  refine C_region ?_
  refine V_y (Y_move rfl) rfl rfl rfl ?_
  refine V_y (Y_neq rfl rfl) rfl rfl rfl ?_
  refine V_to (fun _ _ => rfl) ?_
  refine C_cond rfl (fun hc22 => ?_) (fun hc22 => ?_)
  · rw [if_pos hc22] at hm
    refine C_seq ?_
    refine C_region ?_
    refine V_y (Y_move rfl) rfl rfl rfl ?_
    refine V_y (Y_assign rfl) rfl rfl rfl ?_
    refine V_to (fun _ _ => rfl) ?_
    obtain rfl := Option.some.inj hm
    refine C_ret ?_
    try simp only [↓inBlock_ret, ↓then_ret]
    exact retQ rfl (Res.one Tryd.results7 rfl) ⟨rfl, hK.kp⟩
  · rw [if_neg (nt hc22)] at hm
    refine C_skip_to (fun _ _ => rfl) ?_
    refine C_seq ?_
    refine C_seq ?_
    refine C_region ?_
    have h23 := El_cal_Calendar_1 h11
    refine V_y (Y_fieldAddr Tryd.underlying28 rfl Tryd.sizeOf25 (by decide) rfl) rfl rfl rfl ?_
    obtain ⟨v24, h25, h26⟩ := El.list h23
    refine V_y (Y_load h25 Tryd.isAgg25 rfl) rfl rfl rfl ?_
    refine V_y (Y_lenSl h26 rfl Tryd.underlying25 rfl) rfl rfl rfl ?_
    refine V_y (Y_gtr rfl rfl) rfl rfl rfl ?_
    refine V_y (Y_move rfl) rfl rfl rfl ?_
    refine V_cut 5 (fun _ : Unit => [(1, .pointer (some ⟨b7, 0, none⟩)), (23, .bool ((decide ((60 : Int) < (c.week.length : Int))) || (decide ((200 : Int) < (c.specials.length : Int)))))]) (fun _ w' => w19 = w') ?_ ?_
    · simp only [List.take, List.drop]
      rcases Bool.eq_false_or_eq_true (decide ((60 : Int) < (c.week.length : Int))) with hc27 | hc27
      · refine V_gn rfl rfl rfl hc27 rfl rfl rfl ?_
        refine V_gn rfl rfl rfl hc27 rfl rfl rfl ?_
        refine V_gn rfl rfl rfl hc27 rfl rfl rfl ?_
        refine V_gn rfl rfl rfl hc27 rfl rfl rfl ?_
        refine V_y (Y_pick_te rfl hc27 rfl) rfl rfl rfl ?_
        exact V_end fun a ha => ⟨(), ha.sub ⟨rfl, (by rw [hc27]; rfl), trivial⟩, rfl⟩
      · refine V_ge rfl rfl rfl hc27 ?_
        have h29 := El_cal_Calendar_2 h11
        refine V_y (Y_fieldAddr Tryd.underlying28 rfl Tryd.sizeOf26 (by decide) rfl) rfl rfl rfl ?_
        refine V_ge rfl rfl rfl hc27 ?_
        obtain ⟨v30, h31, h32⟩ := El.list h29
        refine V_y (Y_load h31 Tryd.isAgg26 rfl) rfl rfl rfl ?_
        refine V_ge rfl rfl rfl hc27 ?_
        refine V_y (Y_lenSl h32 rfl Tryd.underlying26 rfl) rfl rfl rfl ?_
        refine V_ge rfl rfl rfl hc27 ?_
        refine V_y (Y_gtr rfl rfl) rfl rfl rfl ?_
        refine V_y (Y_pick_fe rfl hc27 rfl) rfl rfl rfl ?_
        exact V_end fun a ha => ⟨(), ha.sub ⟨rfl, (by rw [hc27]; rfl), trivial⟩, rfl⟩
    simp only [List.take, List.drop]
    rintro _ _ rfl
    refine V_to (fun _ _ => rfl) ?_
    refine C_cond rfl (fun hc33 => ?_) (fun hc33 => ?_)
    · rw [if_pos hc33] at hm
      refine C_seq ?_
      refine C_region ?_
      refine V_y (Y_assign rfl) rfl rfl rfl ?_
      refine V_to (fun _ _ => rfl) ?_
      obtain rfl := Option.some.inj hm
      refine C_ret ?_
      try simp only [↓inBlock_ret, ↓then_ret]
      exact retQ rfl (Res.one Tryd.results7 rfl) ⟨rfl, hK.kp⟩
    · rw [if_neg (nt hc33)] at hm
      refine C_skip_to (fun _ _ => rfl) ?_
      refine C_seq ?_
      refine C_seq ?_
      refine C_region ?_
      have h34 := El_cal_Calendar_1 h11
      refine V_y (Y_fieldAddr Tryd.underlying28 rfl Tryd.sizeOf25 (by decide) rfl) rfl rfl rfl ?_
      obtain ⟨v35, h36, h37⟩ := El.list h34
      refine V_y (Y_load h36 Tryd.isAgg25 rfl) rfl rfl rfl ?_
      obtain ⟨x38, hx38, hm⟩ := Option.bind_eq_some_iff.1 hm
      refine V_call Tryd.call25 rfl rfl rfl rfl (cal_checkShifts_c w19 hA c.week v35 h37 false hx38) ?_
      rintro _ w39 ⟨rfl, hk40⟩
      have ht41 := Kp.tr hk40 hA hB
      replace hH := Hp.kp hH hk40
      replace h11 := El.tr h11 ht41
      replace h34 := El.tr h34 ht41
      replace h37 := Sl.tr h37 ht41
      replace hK := Tr.trans hK ht41
      replace hB := Nat.le_trans hB ht41.ex.size
      replace hA := ht41.new
      refine V_y (Y_assign rfl) rfl rfl rfl ?_
      refine V_to (fun _ _ => rfl) ?_
      refine C_seq ?_
      refine C_region ?_
      refine V_y (Y_move rfl) rfl rfl rfl ?_
      refine V_y (Y_neq rfl rfl) rfl rfl rfl ?_
      refine V_to (fun _ _ => rfl) ?_
      refine C_cond rfl (fun hc42 => ?_) (fun hc42 => ?_)
      · rw [if_pos hc42] at hm
        refine C_seq ?_
        refine C_region ?_
        refine V_y (Y_move rfl) rfl rfl rfl ?_
        refine V_y (Y_assign rfl) rfl rfl rfl ?_
        refine V_to (fun _ _ => rfl) ?_
        obtain rfl := Option.some.inj hm
        refine C_ret ?_
        try simp only [↓inBlock_ret, ↓then_ret]
        exact retQ rfl (Res.one Tryd.results7 rfl) ⟨rfl, hK.kp⟩
      · rw [if_neg (nt hc42)] at hm
        refine C_skip_to (fun _ _ => rfl) ?_
        refine C_seq ?_
        refine C_seq ?_
        refine C_region ?_
        have h43 := El_cal_Calendar_2 h11
        refine V_y (Y_fieldAddr Tryd.underlying28 rfl Tryd.sizeOf26 (by decide) rfl) rfl rfl rfl ?_
        obtain ⟨v44, h45, h46⟩ := El.list h43
        refine V_y (Y_load h45 Tryd.isAgg26 rfl) rfl rfl rfl ?_
        refine V_y (Y_lenSl h46 rfl Tryd.underlying26 rfl) rfl rfl rfl ?_
        refine V_y (Y_move rfl) rfl rfl rfl ?_
        refine V_to (fun _ _ => rfl) ?_
        have hn67 := Sl.le h46
        obtain ⟨o47, ho47, hm⟩ := Option.bind_eq_some_iff.1 hm
        refine C_cutG (ι := (Unit × (Nat → Prop))) (fun ⟨s48, A54⟩ => []) (fun ⟨s48, A54⟩ => fun w' => o47 = .fin s48 ∧ Hp w.heap.size A54 w' ([]) ∧ Tr w.heap.size A w39 A54 w') ?_ ?_
        · refine C_block ?_
          refine C_range ho47 (fun k50 _ a w' => ∃ i : (Nat → Prop), Has ⟨70, [], none⟩ a ([(1, .pointer (some ⟨b7, 0, none⟩)), (31, v44), (32, .int .i64 (c.specials.length : Int)), (33, .int .i64 (k50 : Int))]) ∧ Hp w.heap.size i w' ([]) ∧ Tr w.heap.size A w39 i w') (fun a ha => ⟨A, ha.sub ⟨rfl, rfl, rfl, rfl, trivial⟩, ⟨hH, Tr.refl hA⟩⟩) ?_
          rintro K k50 _ a w57 ⟨A58, ha121, hH59, hr49⟩ hle63 K66 h65
          refine C_of ?_ ha121
          replace h11 := El.tr h11 hr49
          replace h46 := Sl.tr h46 hr49
          replace hK := Tr.trans hK hr49
          replace hB := Nat.le_trans hB hr49.ex.size
          replace hA := hr49.new
          replace hH : Hp w.heap.size A58 w57 ([]) := hH59
          refine C_seq (C_region (V_y (Y_lss rfl rfl) rfl rfl rfl (V_to (fun _ _ => rfl) ?_)))
          refine C_seq ?_
          refine C_cond rfl (fun hc68 => ?_) (fun hc68 => ?_)
          · have hlt64 := lt_of_dec hc68
            obtain ⟨x60, h61, h62⟩ := K66 hlt64
            refine C_skip_to (fun _ _ => rfl) ?_
            refine C_seq ?_
            refine C_block ?_
            refine C_seq ?_
            refine C_region ?_
            refine V_y (Y_move rfl) rfl rfl rfl ?_
            obtain ⟨x69, hx69, h61⟩ := Option.bind_eq_some_iff.1 h61
            refine V_indexAddr h46 hx69 Tryd.underlying26 Tryd.sizeOf59 rfl rfl rfl ?_
            intro b70 o71 h72
            obtain ⟨v73, h75, h74⟩ := El_cal_Special h72
            refine V_y (Y_loadA h75 Tryd.isAgg59 Tryd.sizeOf59 rfl) rfl rfl rfl ?_
            refine V_alloc Tryd.zeroValue59 rfl ?_
            intro b76 w77 h78
            refine V_y (Y_assign rfl) rfl rfl rfl ?_
            have h83 : (v73).oneCell' = true := by obtain ⟨_, _, e, _⟩ := Sl.form h74; rw [e]; rfl
            refine V_storeNew h78 Tryd.sizeOf59 rfl rfl rfl rfl (by exact (List.forall_mem_cons.2 ⟨rfl, (List.forall_mem_cons.2 ⟨h83, (fun _ h => nomatch h)⟩)⟩)) ?_
            intro w79 h80
            have hk85 := h80.kp
            have h84 : El (α := cal_Special) A58 w79 b76 0 x69 := h80.el hA ⟨[.int .i64 x69.day], _, rfl, rfl, ⟨_, rfl, h74⟩⟩
            have ht86 := Kp.tr hk85 hA hB
            replace hH := Hp.kp hH hk85
            replace h11 := El.tr h11 ht86
            replace h46 := Sl.tr h46 ht86
            replace h72 := El.tr h72 ht86
            replace h74 := Sl.tr h74 ht86
            replace hK := Tr.trans hK ht86
            replace hr49 := Tr.trans hr49 ht86
            replace hB := Nat.le_trans hB ht86.ex.size
            replace hA := ht86.new
            refine V_to (fun _ _ => rfl) ?_
            refine C_seq ?_
            refine C_block ?_
            refine C_seq ?_
            refine C_region ?_
            have h87 := El_cal_Special_0 h84
            refine V_y (Y_fieldAddr Tryd.underlying59 rfl Tryd.sizeOf3 (by decide) rfl) rfl rfl rfl ?_
            refine V_y (Y_load (El.int h87) Tryd.isAgg3 rfl) rfl rfl rfl ?_
            refine V_call Tryd.call26 rfl rfl rfl rfl (cal_within_c w79 x69.day (-1) 2084) ?_
            rintro _ _ ⟨rfl, rfl⟩
            refine V_y (Y_not rfl) rfl rfl rfl ?_
            refine V_y (Y_assign rfl) rfl rfl rfl ?_
            refine V_to (fun _ _ => rfl) ?_
            refine C_cond rfl (fun hc88 => ?_) (fun hc88 => ?_)
            · rw [if_pos hc88] at h61
              refine C_seq ?_
              refine C_region ?_
              refine V_y (Y_assign rfl) rfl rfl rfl ?_
              refine V_to (fun _ _ => rfl) ?_
              obtain rfl := Option.some.inj h61
              obtain rfl := (h62 : Lp.rt _ = _)
              rw [Lp.andThen_rt] at hm
              obtain rfl := Option.some.inj hm
              refine C_ret ?_
              try simp only [↓inBlock_ret, ↓then_ret]
              exact retQ rfl (Res.one Tryd.results7 rfl) ⟨rfl, hK.kp⟩
            · rw [if_neg (nt hc88)] at h61
              refine C_seq ?_
              refine C_region_q Tryd_mixed (by kernel_rfl) ?_
              refine VQ_y (fun w' hw' => Y_move rfl) rfl rfl rfl ?_
              refine VQ_y (fun w' hw' => Y_gtr rfl rfl) rfl rfl rfl ?_
              refine VQ_y (fun w' hw' => Y_move rfl) rfl rfl rfl ?_
              obtain ⟨s90, hs90, h61⟩ := Option.bind_eq_some_iff.1 h61
              refine VQ_cut 11 (fun _ : Unit => [(1, .pointer (some ⟨b7, 0, none⟩)), (6, .pointer (some ⟨b76, 0, none⟩)), (31, v44), (32, .int .i64 (c.specials.length : Int)), (33, .int .i64 (k50 : Int)), (57, .bool s90)]) (fun _ => True) ?_ ?_
              · simp only [List.take, List.drop]
                rcases Bool.eq_false_or_eq_true (decide ((0 : Int) < (k50 : Int))) with hc89 | hc89
                · rw [if_pos hc89] at hs90
                  refine VQ_ge rfl rfl rfl hc89 ?_
                  have h91 := El_cal_Special_0 h84
                  refine VQ_y (fun w' hw' => Y_fieldAddr Tryd.underlying59 rfl Tryd.sizeOf3 (by decide) rfl) rfl rfl rfl ?_
                  refine VQ_ge rfl rfl rfl hc89 ?_
                  refine VQ_y (fun w' hw' => Y_load (El.int (El.kp h91 hw')) Tryd.isAgg3 rfl) rfl rfl rfl ?_
                  refine VQ_ge rfl rfl rfl hc89 ?_
                  have h92 := El_cal_Calendar_2 h11
                  refine VQ_y (fun w' hw' => Y_fieldAddr Tryd.underlying28 rfl Tryd.sizeOf26 (by decide) rfl) rfl rfl rfl ?_
                  refine VQ_ge rfl rfl rfl hc89 ?_
                  obtain ⟨v93, h94, h95⟩ := El.list h92
                  refine VQ_y (fun w' hw' => Y_load ((World.cell?_of_block (hw'.block _ (World.block_lt_of_cell? _ _ h94))).trans h94) Tryd.isAgg26 rfl) rfl rfl rfl ?_
                  refine VQ_ge rfl rfl rfl hc89 ?_
                  refine VQ_y (fun w' hw' => Y_move rfl) rfl rfl rfl ?_
                  refine VQ_ge rfl rfl rfl hc89 ?_
                  refine VQ_y (fun w' hw' => Y_subI rfl rfl) rfl rfl rfl ?_
                  refine VQ_ge rfl rfl rfl hc89 ?_
                  obtain ⟨x96, hx96, hs90⟩ := Option.bind_eq_some_iff.1 hs90
                  refine VQ_indexAddr h95 hx96 Tryd.underlying26 Tryd.sizeOf59 rfl rfl rfl ?_
                  intro b97 o98 h99
                  refine VQ_ge rfl rfl rfl hc89 ?_
                  have h100 := El_cal_Special_0 h99
                  refine VQ_y (fun w' hw' => Y_fieldAddr Tryd.underlying59 rfl Tryd.sizeOf3 (by decide) rfl) rfl rfl rfl ?_
                  refine VQ_ge rfl rfl rfl hc89 ?_
                  refine VQ_y (fun w' hw' => Y_load (El.int (El.kp h100 hw')) Tryd.isAgg3 rfl) rfl rfl rfl ?_
                  refine VQ_ge rfl rfl rfl hc89 ?_
                  refine VQ_y (fun w' hw' => Y_leq rfl rfl) rfl rfl rfl ?_
                  refine VQ_y (fun _ _ => Y_pick_te rfl hc89 rfl) rfl rfl rfl ?_
                  obtain rfl := Option.some.inj hs90
                  exact VQ_end fun a ha => ⟨(), ha.sub ⟨rfl, rfl, rfl, rfl, rfl, rfl, trivial⟩, trivial⟩
                · rw [if_neg (nt hc89)] at hs90
                  refine VQ_gn rfl rfl rfl hc89 rfl rfl rfl ?_
                  refine VQ_gn rfl rfl rfl hc89 rfl rfl rfl ?_
                  refine VQ_gn rfl rfl rfl hc89 rfl rfl rfl ?_
                  refine VQ_gn rfl rfl rfl hc89 rfl rfl rfl ?_
                  refine VQ_gn rfl rfl rfl hc89 rfl rfl rfl ?_
                  refine VQ_gn rfl rfl rfl hc89 rfl rfl rfl ?_
                  refine VQ_gn rfl rfl rfl hc89 rfl rfl rfl ?_
                  refine VQ_gn rfl rfl rfl hc89 rfl rfl rfl ?_
                  refine VQ_gn rfl rfl rfl hc89 rfl rfl rfl ?_
                  refine VQ_gn rfl rfl rfl hc89 rfl rfl rfl ?_
                  refine VQ_y (fun _ _ => Y_pick_fe rfl hc89 rfl) rfl rfl rfl ?_
                  obtain rfl := Option.some.inj hs90
                  exact VQ_end fun a ha => ⟨(), ha.sub ⟨rfl, rfl, rfl, rfl, rfl, rfl, trivial⟩, trivial⟩
              simp only [List.take, List.drop]
              rintro _ _
              refine VQ_y (fun w' hw' => Y_assign rfl) rfl rfl rfl ?_
              refine VQ_to (fun _ _ => rfl) (fun w101 hk102 => ?_)
              have ht103 := Kp.tr hk102 hA hB
              replace hH := Hp.kp hH hk102
              replace h11 := El.tr h11 ht103
              replace h46 := Sl.tr h46 ht103
              replace h84 := El.tr h84 ht103
              replace hK := Tr.trans hK ht103
              replace hr49 := Tr.trans hr49 ht103
              replace hB := Nat.le_trans hB ht103.ex.size
              replace hA := ht103.new
              refine C_cond rfl (fun hc104 => ?_) (fun hc104 => ?_)
              · rw [if_pos hc104] at h61
                refine C_seq ?_
                refine C_region ?_
                refine V_y (Y_assign rfl) rfl rfl rfl ?_
                refine V_to (fun _ _ => rfl) ?_
                obtain rfl := Option.some.inj h61
                obtain rfl := (h62 : Lp.rt _ = _)
                rw [Lp.andThen_rt] at hm
                obtain rfl := Option.some.inj hm
                refine C_ret ?_
                try simp only [↓inBlock_ret, ↓then_ret]
                exact retQ rfl (Res.one Tryd.results7 rfl) ⟨rfl, hK.kp⟩
              · rw [if_neg (nt hc104)] at h61
                refine C_seq ?_
                refine C_region ?_
                have h105 := El_cal_Special_1 h84
                refine V_y (Y_fieldAddr Tryd.underlying59 rfl Tryd.sizeOf25 (by decide) rfl) rfl rfl rfl ?_
                obtain ⟨v106, h107, h108⟩ := El.list h105
                refine V_y (Y_load h107 Tryd.isAgg25 rfl) rfl rfl rfl ?_
                refine V_y (Y_lenSl h108 rfl Tryd.underlying25 rfl) rfl rfl rfl ?_
                refine V_y (Y_gtr rfl rfl) rfl rfl rfl ?_
                refine V_y (Y_assign rfl) rfl rfl rfl ?_
                refine V_to (fun _ _ => rfl) ?_
                refine C_cond rfl (fun hc109 => ?_) (fun hc109 => ?_)
                · rw [if_pos hc109] at h61
                  refine C_seq ?_
                  refine C_region ?_
                  refine V_y (Y_assign rfl) rfl rfl rfl ?_
                  refine V_to (fun _ _ => rfl) ?_
                  obtain rfl := Option.some.inj h61
                  obtain rfl := (h62 : Lp.rt _ = _)
                  rw [Lp.andThen_rt] at hm
                  obtain rfl := Option.some.inj hm
                  refine C_ret ?_
                  try simp only [↓inBlock_ret, ↓then_ret]
                  exact retQ rfl (Res.one Tryd.results7 rfl) ⟨rfl, hK.kp⟩
                · rw [if_neg (nt hc109)] at h61
                  refine C_skip_to (fun _ _ => rfl) ?_
                  refine C_seq ?_
                  refine C_region ?_
                  have h110 := El_cal_Special_1 h84
                  refine V_y (Y_fieldAddr Tryd.underlying59 rfl Tryd.sizeOf25 (by decide) rfl) rfl rfl rfl ?_
                  obtain ⟨v111, h112, h113⟩ := El.list h110
                  refine V_y (Y_load h112 Tryd.isAgg25 rfl) rfl rfl rfl ?_
                  obtain ⟨x114, hx114, h61⟩ := Option.bind_eq_some_iff.1 h61
                  refine V_call Tryd.call25 rfl rfl rfl rfl (cal_checkShifts_c w101 hA x69.shifts v111 h113 true hx114) ?_
                  rintro _ w115 ⟨rfl, hk116⟩
                  have ht117 := Kp.tr hk116 hA hB
                  replace hH := Hp.kp hH hk116
                  replace h11 := El.tr h11 ht117
                  replace h46 := Sl.tr h46 ht117
                  replace h84 := El.tr h84 ht117
                  replace h110 := El.tr h110 ht117
                  replace h113 := Sl.tr h113 ht117
                  replace hK := Tr.trans hK ht117
                  replace hr49 := Tr.trans hr49 ht117
                  replace hB := Nat.le_trans hB ht117.ex.size
                  replace hA := ht117.new
                  refine V_y (Y_assign rfl) rfl rfl rfl ?_
                  refine V_to (fun _ _ => rfl) ?_
                  refine C_seq ?_
                  refine C_region ?_
                  refine V_y (Y_move rfl) rfl rfl rfl ?_
                  refine V_y (Y_neq rfl rfl) rfl rfl rfl ?_
                  refine V_to (fun _ _ => rfl) ?_
                  refine C_cond rfl (fun hc118 => ?_) (fun hc118 => ?_)
                  · rw [if_pos hc118] at h61
                    refine C_seq ?_
                    refine C_region ?_
                    refine V_y (Y_move rfl) rfl rfl rfl ?_
                    refine V_y (Y_assign rfl) rfl rfl rfl ?_
                    refine V_to (fun _ _ => rfl) ?_
                    obtain rfl := Option.some.inj h61
                    obtain rfl := (h62 : Lp.rt _ = _)
                    rw [Lp.andThen_rt] at hm
                    obtain rfl := Option.some.inj hm
                    refine C_ret ?_
                    try simp only [↓inBlock_ret, ↓then_ret]
                    exact retQ rfl (Res.one Tryd.results7 rfl) ⟨rfl, hK.kp⟩
                  · rw [if_neg (nt hc118)] at h61
                    refine C_skip_to (fun _ _ => rfl) ?_
                    refine C_region ?_
                    refine V_y (Y_addI rfl rfl) rfl rfl rfl ?_
                    refine V_y (Y_move rfl) rfl rfl rfl ?_
                    obtain rfl := Option.some.inj h61
                    refine V_end (fun a ha119 => ?_)
                    exact ⟨(), hlt64, h62, ⟨A58, ha119.sub ⟨rfl, rfl, rfl, (congrArg (fun z => some (Value.int .i64 z)) (w64_succ hlt64 hn67)), trivial⟩, ⟨hH, hr49⟩⟩⟩
          · refine C_exit (fun a ha120 => ?_)
            exact ⟨((), A58), ha120.sub trivial, ⟨(h65 (eq_of_dec hle63 hc68)).symm, hH, hr49⟩⟩
        rintro ⟨s48, A54⟩ w51 ⟨rfl, hH55, hk52⟩ a ha53
        rw [Lp.andThen_fin] at hm
        replace hK := Tr.trans hK hk52
        replace hB := Nat.le_trans hB hk52.ex.size
        replace hA := hk52.new
        replace hH : Hp w.heap.size A54 w51 ([]) := hH55
        refine C_at (n := ⟨70, [], none⟩) (fun _ _ => rfl) ?_ ha53
        refine C_seq ?_
        refine C_region ?_
        refine V_y (Y_assign rfl) rfl rfl rfl ?_
        refine V_to (fun _ _ => rfl) ?_
        obtain rfl := Option.some.inj hm
        refine C_ret ?_
        try simp only [↓inBlock_ret, ↓then_ret]
        exact retQ rfl (Res.one Tryd.results7 rfl) ⟨rfl, hK.kp⟩

def Tryd_strings_Builder_WriteString_lay_ren : Go.Shelf.Ren := ⟨fun | 166 => 18 | 240 => 37 | 276 => 47 | n => n, fun | 0 => 0 | 1 => 1 | 2 => 2 | 3 => 3 | 4 => 4 | 5 => 5 | 6 => 6 | 7 => 7 | 8 => 8 | 9 => 9 | 10 => 10 | 11 => 11 | 12 => 12 | 13 => 13 | 14 => 14 | 15 => 15 | 16 => 16 | 17 => 17 | 18 => 18 | 19 => 19 | 20 => 20 | 21 => 21 | 23 => 92 | 27 => 128 | 28 => 46 | 31 => 70 | 37 => 43 | 40 => 127 | 41 => 114 | 43 => 85 | 46 => 112 | 47 => 113 | 51 => 110 | 52 => 118 | 53 => 94 | 54 => 95 | 55 => 126 | 63 => 117 | 64 => 119 | 67 => 73 | 70 => 42 | 71 => 44 | 72 => 45 | 73 => 86 | 74 => 47 | 75 => 48 | 76 => 49 | 77 => 50 | 78 => 52 | 80 => 61 | 81 => 60 | 83 => 51 | 84 => 91 | 104 => 87 | 105 => 115 | 106 => 116 | 111 => 79 | 114 => 107 | 115 => 101 | 116 => 102 | 117 => 103 | 118 => 104 | 119 => 122 | 122 => 100 | 123 => 105 | 124 => 106 | 127 => 82 | 137 => 123 | 138 => 124 | 139 => 125 | 164 => 89 | 165 => 90 | 166 => 99 | 171 => 93 | 172 => 96 | 173 => 97 | 174 => 98 | 211 => 108 | 212 => 109 | 213 => 111 | 232 => 120 | 233 => 121 | 238 => 129 | 239 => 130 | 240 => 131 | 241 => 132 | 242 => 133 | 243 => 134 | 244 => 135 | 245 => 136 | 246 => 137 | 247 => 138 | 248 => 139 | 249 => 140 | n => n, fun | 1 => 1 | 3 => 4 | 4 => 5 | 17 => 0 | 18 => 2 | 19 => 3 | n => n⟩
theorem Tryd_strings_Builder_WriteString_lay : Go.Proofs.Lays.n166 Tryd.prog Tryd_strings_Builder_WriteString_lay_ren := {
  mixed := by kernel_rfl,
  f166 := Tryd.func18.trans (congrArg some (by kernel_rfl)),
  f240 := Tryd.func37.trans (congrArg some (by kernel_rfl)),
  f276 := Tryd.func47.trans (congrArg some (by kernel_rfl)),
  t0 := Tryd.underlying0,
  a0 := Tryd.isAgg0,
  z0 := Tryd.sizeOf0,
  v0 := Tryd.zeroValue0,
  t3 := Tryd.underlying3,
  a3 := Tryd.isAgg3,
  z3 := Tryd.sizeOf3,
  v3 := Tryd.zeroValue3,
  t4 := Tryd.underlying4,
  a4 := Tryd.isAgg4,
  z4 := Tryd.sizeOf4,
  v4 := Tryd.zeroValue4,
  t9 := Tryd.underlying9,
  a9 := Tryd.isAgg9,
  z9 := Tryd.sizeOf9,
  v9 := Tryd.zeroValue9,
  t20 := Tryd.underlying20,
  a20 := Tryd.isAgg20,
  z20 := Tryd.sizeOf20,
  v20 := Tryd.zeroValue20,
  t37 := Tryd.underlying43,
  a37 := Tryd.isAgg43,
  z37 := Tryd.sizeOf43,
  v37 := Tryd.zeroValue43,
  t70 := Tryd.underlying42,
  a70 := Tryd.isAgg42,
  z70 := Tryd.sizeOf42,
  v70 := Tryd.zeroValue42,
  t72 := Tryd.underlying45,
  a72 := Tryd.isAgg45,
  z72 := Tryd.sizeOf45,
  v72 := Tryd.zeroValue45,
  t75 := Tryd.underlying48,
  a75 := Tryd.isAgg48,
  z75 := Tryd.sizeOf48,
  v75 := Tryd.zeroValue48,
  t164 := Tryd.underlying89,
  a164 := Tryd.isAgg89,
  z164 := Tryd.sizeOf89,
  v164 := Tryd.zeroValue89 }
theorem Tryd_strings_Builder_WriteString_lay_x : Go.Proofs.Builder.Extra Tryd.prog Tryd_strings_Builder_WriteString_lay_ren := {
  sizeBuilder := by kernel_rfl
  liesBuilder := by kernel_rfl
  t5 := Tryd.underlying5
  a5 := Tryd.isAgg5
  z5 := Tryd.sizeOf5
  v5 := Tryd.zeroValue5
  infoByte := by kernel_rfl
  cellsByte := by kernel_rfl
  sizeByte := by kernel_rfl
  neB5 := (by decide : (45 : Nat) ≠ 5) }
theorem strings_Builder_WriteString_c (w : World) {A : Nat → Prop} {B : Nat} (hB : B ≤ w.heap.size) (hA : ∀ b, w.heap.size ≤ b → A b) (b : ByteArray) (b_b : Nat) (s : ByteArray) {L : List Ob} (hH : Hp B A w (obBd 45 5 b_b  b :: L)) {r : Int × Unit × ByteArray} (hm : strings_Builder_WriteString b s = some r) : Ret Tryd.prog 18 #[.pointer (some ⟨b_b, 0, none⟩), .string s] w fun v w' => ∃ A1 : Nat → Prop, v = .tuple #[.int .i64 r.1, .nilIface] ∧ Hp B A1 w' (obBd 45 5 b_b  r.2.2 :: L) ∧ Tr B A w A1 w' := by
  unfold strings_Builder_WriteString at hm
  split at hm
  case isFalse => cases hm
  rename_i h
  obtain rfl := Option.some.inj hm
  exact Hp.bdWrite (ρ := Tryd_strings_Builder_WriteString_lay_ren) s (fun p v xs h1 h2 => bd_write Tryd_strings_Builder_WriteString_lay Tryd_strings_Builder_WriteString_lay_x b_b p v xs s w h1 h2) hB hA hH h

def Tryd_strconv_Itoa_lay_ren : Go.Shelf.Ren := ⟨fun | 129 => 65 | 171 => 19 | 243 => 38 | 246 => 48 | 283 => 52 | 284 => 53 | 285 => 54 | 286 => 55 | 317 => 64 | 318 => 66 | 319 => 67 | 320 => 68 | 337 => 73 | 338 => 74 | n => n, fun | 0 => 0 | 1 => 1 | 2 => 2 | 3 => 3 | 4 => 4 | 5 => 5 | 6 => 6 | 7 => 7 | 8 => 8 | 9 => 9 | 10 => 10 | 11 => 11 | 12 => 12 | 13 => 13 | 14 => 14 | 15 => 15 | 16 => 16 | 17 => 17 | 18 => 18 | 19 => 19 | 20 => 20 | 21 => 21 | 23 => 92 | 27 => 128 | 28 => 46 | 31 => 70 | 37 => 43 | 40 => 127 | 41 => 114 | 43 => 85 | 46 => 112 | 47 => 113 | 51 => 110 | 52 => 118 | 53 => 94 | 54 => 95 | 55 => 126 | 63 => 117 | 64 => 119 | 67 => 73 | 70 => 42 | 71 => 44 | 72 => 45 | 73 => 86 | 74 => 47 | 75 => 48 | 76 => 49 | 77 => 50 | 78 => 52 | 80 => 61 | 81 => 60 | 83 => 51 | 84 => 91 | 104 => 87 | 105 => 115 | 106 => 116 | 111 => 79 | 114 => 107 | 115 => 101 | 116 => 102 | 117 => 103 | 118 => 104 | 119 => 122 | 122 => 100 | 123 => 105 | 124 => 106 | 127 => 82 | 137 => 123 | 138 => 124 | 139 => 125 | 164 => 89 | 165 => 90 | 166 => 99 | 171 => 93 | 172 => 96 | 173 => 97 | 174 => 98 | 211 => 108 | 212 => 109 | 213 => 111 | 232 => 120 | 233 => 121 | 238 => 129 | 239 => 130 | 240 => 131 | 241 => 132 | 242 => 133 | 243 => 134 | 244 => 135 | 245 => 136 | 246 => 137 | 247 => 138 | 248 => 139 | 249 => 140 | n => n, fun | 1 => 1 | 3 => 4 | 4 => 5 | 17 => 0 | 18 => 2 | 19 => 3 | n => n⟩
theorem Tryd_strconv_Itoa_lay0 : Go.Proofs.Lays.n171 Tryd.prog Tryd_strconv_Itoa_lay_ren := {
  mixed := by kernel_rfl,
  f129 := Tryd.func65.trans (congrArg some (by kernel_rfl)),
  f171 := Tryd.func19.trans (congrArg some (by kernel_rfl)),
  f243 := Tryd.func38.trans (congrArg some (by kernel_rfl)),
  f246 := Tryd.func48.trans (congrArg some (by kernel_rfl)),
  f283 := Tryd.func52.trans (congrArg some (by kernel_rfl)),
  f284 := Tryd.func53.trans (congrArg some (by kernel_rfl)),
  f285 := Tryd.func54.trans (congrArg some (by kernel_rfl)),
  f286 := Tryd.func55.trans (congrArg some (by kernel_rfl)),
  f317 := Tryd.func64.trans (congrArg some (by kernel_rfl)),
  f318 := Tryd.func66.trans (congrArg some (by kernel_rfl)),
  f319 := Tryd.func67.trans (congrArg some (by kernel_rfl)),
  f320 := Tryd.func68.trans (congrArg some (by kernel_rfl)),
  f337 := Tryd.func73.trans (congrArg some (by kernel_rfl)),
  f338 := Tryd.func74.trans (congrArg some (by kernel_rfl)),
  t0 := Tryd.underlying0,
  a0 := Tryd.isAgg0,
  z0 := Tryd.sizeOf0,
  v0 := Tryd.zeroValue0,
  t2 := Tryd.underlying2,
  a2 := Tryd.isAgg2,
  z2 := Tryd.sizeOf2,
  v2 := Tryd.zeroValue2,
  t3 := Tryd.underlying3,
  a3 := Tryd.isAgg3,
  z3 := Tryd.sizeOf3,
  v3 := Tryd.zeroValue3,
  t4 := Tryd.underlying4,
  a4 := Tryd.isAgg4,
  z4 := Tryd.sizeOf4,
  v4 := Tryd.zeroValue4,
  t5 := Tryd.underlying5,
  a5 := Tryd.isAgg5,
  z5 := Tryd.sizeOf5,
  v5 := Tryd.zeroValue5,
  t9 := Tryd.underlying9,
  a9 := Tryd.isAgg9,
  z9 := Tryd.sizeOf9,
  v9 := Tryd.zeroValue9,
  t20 := Tryd.underlying20,
  a20 := Tryd.isAgg20,
  z20 := Tryd.sizeOf20,
  v20 := Tryd.zeroValue20,
  t37 := Tryd.underlying43,
  a37 := Tryd.isAgg43,
  z37 := Tryd.sizeOf43,
  v37 := Tryd.zeroValue43,
  t46 := Tryd.underlying112,
  a46 := Tryd.isAgg112,
  z46 := Tryd.sizeOf112,
  v46 := Tryd.zeroValue112,
  t51 := Tryd.underlying110,
  a51 := Tryd.isAgg110,
  z51 := Tryd.sizeOf110,
  v51 := Tryd.zeroValue110,
  t53 := Tryd.underlying94,
  a53 := Tryd.isAgg94,
  z53 := Tryd.sizeOf94,
  v53 := Tryd.zeroValue94,
  t171 := Tryd.underlying93,
  a171 := Tryd.isAgg93,
  z171 := Tryd.sizeOf93,
  v171 := Tryd.zeroValue93,
  t173 := Tryd.underlying97,
  a173 := Tryd.isAgg97,
  z173 := Tryd.sizeOf97,
  v173 := Tryd.zeroValue97,
  t212 := Tryd.underlying109,
  a212 := Tryd.isAgg109,
  z212 := Tryd.sizeOf109,
  v212 := Tryd.zeroValue109,
  t213 := Tryd.underlying111,
  a213 := Tryd.isAgg111,
  z213 := Tryd.sizeOf111,
  t232 := Tryd.underlying120,
  a232 := Tryd.isAgg120,
  z232 := Tryd.sizeOf120,
  v232 := Tryd.zeroValue120,
  t233 := Tryd.underlying121,
  a233 := Tryd.isAgg121,
  z233 := Tryd.sizeOf121,
  v233 := Tryd.zeroValue121,
  g17 := by kernel_rfl,
  g18 := by kernel_rfl,
  g19 := by kernel_rfl }
theorem Tryd_strconv_Itoa_lay : Go.Proofs.LaysM.n171 Tryd.prog Tryd_strconv_Itoa_lay_ren := { Tryd_strconv_Itoa_lay0 with
  i0 := by kernel_rfl,
  i2 := by kernel_rfl,
  i3 := by kernel_rfl,
  i4 := by kernel_rfl,
  i5 := by kernel_rfl,
  i9 := by kernel_rfl,
  i20 := by kernel_rfl,
  i37 := by kernel_rfl,
  i46 := by kernel_rfl,
  i51 := by kernel_rfl,
  i53 := by kernel_rfl,
  i171 := by kernel_rfl,
  i173 := by kernel_rfl,
  i212 := by kernel_rfl,
  i232 := by kernel_rfl,
  i233 := by kernel_rfl,
  m17 := by kernel_rfl,
  m18 := by kernel_rfl,
  m19 := by kernel_rfl }
theorem strconv_Itoa_c (w : World) {A : Nat → Prop} (hA : ∀ b, w.heap.size ≤ b → A b) (hT : Tb Tryd.prog A w) (n : Int) {r : ByteArray} (hm : strconv_Itoa n = some r) : Ret Tryd.prog 19 #[.int .i64 n] w fun v w' => v = .string r ∧ Kp w w' := by
  unfold strconv_Itoa at hm
  split at hm
  case isFalse => cases hm
  rename_i h
  obtain rfl := Option.some.inj hm
  refine Calls.mono (Go.Proofs.Any.strconv_Itoa Tryd_strconv_Itoa_lay n h.1 h.2 w hT.1) ?_
  rintro _ w' ⟨rfl, k, os, rfl⟩
  exact ⟨_, rfl, rfl, Go.Lib.below_grow _ w (Nat.le_refl _) k os⟩

def Tryd_strings_Builder_WriteByte_lay_ren : Go.Shelf.Ren := ⟨fun | 167 => 20 | 240 => 37 | 276 => 47 | n => n, fun | 0 => 0 | 1 => 1 | 2 => 2 | 3 => 3 | 4 => 4 | 5 => 5 | 6 => 6 | 7 => 7 | 8 => 8 | 9 => 9 | 10 => 10 | 11 => 11 | 12 => 12 | 13 => 13 | 14 => 14 | 15 => 15 | 16 => 16 | 17 => 17 | 18 => 18 | 19 => 19 | 20 => 20 | 21 => 21 | 23 => 92 | 27 => 128 | 28 => 46 | 31 => 70 | 37 => 43 | 40 => 127 | 41 => 114 | 43 => 85 | 46 => 112 | 47 => 113 | 51 => 110 | 52 => 118 | 53 => 94 | 54 => 95 | 55 => 126 | 63 => 117 | 64 => 119 | 67 => 73 | 70 => 42 | 71 => 44 | 72 => 45 | 73 => 86 | 74 => 47 | 75 => 48 | 76 => 49 | 77 => 50 | 78 => 52 | 80 => 61 | 81 => 60 | 83 => 51 | 84 => 91 | 104 => 87 | 105 => 115 | 106 => 116 | 111 => 79 | 114 => 107 | 115 => 101 | 116 => 102 | 117 => 103 | 118 => 104 | 119 => 122 | 122 => 100 | 123 => 105 | 124 => 106 | 127 => 82 | 137 => 123 | 138 => 124 | 139 => 125 | 164 => 89 | 165 => 90 | 166 => 99 | 171 => 93 | 172 => 96 | 173 => 97 | 174 => 98 | 211 => 108 | 212 => 109 | 213 => 111 | 232 => 120 | 233 => 121 | 238 => 129 | 239 => 130 | 240 => 131 | 241 => 132 | 242 => 133 | 243 => 134 | 244 => 135 | 245 => 136 | 246 => 137 | 247 => 138 | 248 => 139 | 249 => 140 | n => n, fun | 1 => 1 | 3 => 4 | 4 => 5 | 17 => 0 | 18 => 2 | 19 => 3 | n => n⟩
theorem Tryd_strings_Builder_WriteByte_lay : Go.Proofs.Lays.n167 Tryd.prog Tryd_strings_Builder_WriteByte_lay_ren := {
  mixed := by kernel_rfl,
  f167 := Tryd.func20.trans (congrArg some (by kernel_rfl)),
  f240 := Tryd.func37.trans (congrArg some (by kernel_rfl)),
  f276 := Tryd.func47.trans (congrArg some (by kernel_rfl)),
  t0 := Tryd.underlying0,
  a0 := Tryd.isAgg0,
  z0 := Tryd.sizeOf0,
  v0 := Tryd.zeroValue0,
  t4 := Tryd.underlying4,
  a4 := Tryd.isAgg4,
  z4 := Tryd.sizeOf4,
  v4 := Tryd.zeroValue4,
  t5 := Tryd.underlying5,
  a5 := Tryd.isAgg5,
  z5 := Tryd.sizeOf5,
  v5 := Tryd.zeroValue5,
  t9 := Tryd.underlying9,
  a9 := Tryd.isAgg9,
  z9 := Tryd.sizeOf9,
  v9 := Tryd.zeroValue9,
  t20 := Tryd.underlying20,
  a20 := Tryd.isAgg20,
  z20 := Tryd.sizeOf20,
  v20 := Tryd.zeroValue20,
  t37 := Tryd.underlying43,
  a37 := Tryd.isAgg43,
  z37 := Tryd.sizeOf43,
  v37 := Tryd.zeroValue43,
  t70 := Tryd.underlying42,
  a70 := Tryd.isAgg42,
  z70 := Tryd.sizeOf42,
  v70 := Tryd.zeroValue42,
  t72 := Tryd.underlying45,
  a72 := Tryd.isAgg45,
  z72 := Tryd.sizeOf45,
  v72 := Tryd.zeroValue45,
  t75 := Tryd.underlying48,
  a75 := Tryd.isAgg48,
  z75 := Tryd.sizeOf48,
  v75 := Tryd.zeroValue48,
  t164 := Tryd.underlying89,
  a164 := Tryd.isAgg89,
  z164 := Tryd.sizeOf89,
  v164 := Tryd.zeroValue89 }
theorem Tryd_strings_Builder_WriteByte_lay_x : Go.Proofs.Builder.Extra Tryd.prog Tryd_strings_Builder_WriteByte_lay_ren := {
  sizeBuilder := by kernel_rfl
  liesBuilder := by kernel_rfl
  t5 := Tryd.underlying5
  a5 := Tryd.isAgg5
  z5 := Tryd.sizeOf5
  v5 := Tryd.zeroValue5
  infoByte := by kernel_rfl
  cellsByte := by kernel_rfl
  sizeByte := by kernel_rfl
  neB5 := (by decide : (45 : Nat) ≠ 5) }
theorem strings_Builder_WriteByte_c (w : World) {A : Nat → Prop} {B : Nat} (hB : B ≤ w.heap.size) (hA : ∀ b, w.heap.size ≤ b → A b) (b : ByteArray) (b_b : Nat) (c : UInt8) {L : List Ob} (hH : Hp B A w (obBd 45 5 b_b  b :: L)) {r : Unit × ByteArray} (hm : strings_Builder_WriteByte b c = some r) : Ret Tryd.prog 20 #[.pointer (some ⟨b_b, 0, none⟩), .int .u8 c.toNat] w fun v w' => ∃ A1 : Nat → Prop, v = .nilIface ∧ Hp B A1 w' (obBd 45 5 b_b  r.2 :: L) ∧ Tr B A w A1 w' := by
  unfold strings_Builder_WriteByte at hm
  split at hm
  case isFalse => cases hm
  rename_i h
  obtain rfl := Option.some.inj hm
  exact Hp.bdByte (ρ := Tryd_strings_Builder_WriteByte_lay_ren) c (fun p v xs h1 h2 => bd_byte Tryd_strings_Builder_WriteByte_lay Tryd_strings_Builder_WriteByte_lay_x b_b p v xs c.toNat w h1 h2) hB hA hH h

set_option maxRecDepth 4000 in
set_option maxHeartbeats 4000000 in
theorem cal_CalendarText_1_c (w : World) {A : Nat → Prop} {B : Nat} (hB : B ≤ w.heap.size) (hA : ∀ b, w.heap.size ≤ b → A b) (hT : Tb Tryd.prog A w) (word : ByteArray) (numbers : (List Int)) (v_numbers : Value) (h_numbers : Sl A w v_numbers numbers) (p2 : ByteArray) (b_p2 : Nat) {L : List Ob} (hH : Hp B A w (obBd 45 5 b_p2 p2 :: L)) {r : ByteArray} (hm : cal_CalendarText_1 word numbers p2 = some r) : Ret Tryd.prog 17 #[.string word, v_numbers, .pointer (some ⟨b_p2, 0, none⟩)] w fun v w' => ∃ A1 : Nat → Prop, v = .tuple #[] ∧ Hp B A1 w' (obBd 45 5 b_p2 r :: L) ∧ Tr B A w A1 w' := by
  unfold cal_CalendarText_1 at hm
  refine enter Tryd.func17 rfl Tryd.ntmps17 rfl ?_
  have hK : Tr B A w A w := Tr.refl hA
  refine C_seq ?_
  refine C_region ?_
  refine V_y (Y_move rfl) rfl rfl rfl ?_
  obtain ⟨x3, hx3, hm⟩ := Option.bind_eq_some_iff.1 hm
  refine V_call Tryd.call18 rfl rfl rfl rfl (strings_Builder_WriteString_c w hB hA p2 b_p2 word hH hx3) ?_
  rintro _ w4 ⟨A5, rfl, hH6, ht7⟩
  replace h_numbers := Sl.tr h_numbers ht7
  replace hK := Tr.trans hK ht7
  replace hB := Nat.le_trans hB ht7.ex.size
  replace hA := ht7.new
  replace hH : Hp B A5 w4 (obBd 45 5 b_p2 x3.2.2 :: L) := hH6
  refine V_to (fun _ _ => rfl) ?_
  refine C_seq ?_
  refine C_seq ?_
  refine C_region ?_
  refine V_y (Y_move rfl) rfl rfl rfl ?_
  refine V_y (Y_lenSl h_numbers rfl Tryd.underlying46 rfl) rfl rfl rfl ?_
  refine V_y (Y_move rfl) rfl rfl rfl ?_
  refine V_to (fun _ _ => rfl) ?_
  have hn28 := Sl.le h_numbers
  obtain ⟨o8, ho8, hm⟩ := Option.bind_eq_some_iff.1 hm
  refine C_cutG (ι := (ByteArray × (Nat → Prop))) (fun ⟨s9, A15⟩ => [(2, .pointer (some ⟨b_p2, 0, none⟩))]) (fun ⟨s9, A15⟩ => fun w' => o8 = .fin s9 ∧ Hp B A15 w' (obBd 45 5 b_p2 s9 :: L) ∧ Tr B A5 w4 A15 w') ?_ ?_
  · refine C_block ?_
    refine C_range ho8 (fun k11 s17 a w' => ∃ i : (Nat → Prop), Has ⟨21, [], none⟩ a ([(2, .pointer (some ⟨b_p2, 0, none⟩)), (9, v_numbers), (10, .int .i64 (numbers.length : Int)), (11, .int .i64 (k11 : Int))]) ∧ Hp B i w' (obBd 45 5 b_p2 s17 :: L) ∧ Tr B A5 w4 i w') (fun a ha => ⟨A5, ha.sub ⟨rfl, rfl, rfl, rfl, trivial⟩, ⟨hH, Tr.refl hA⟩⟩) ?_
    rintro K k11 s17 a w18 ⟨A19, ha46, hH20, hr10⟩ hle24 K27 h26
    refine C_of ?_ ha46
    replace h_numbers := Sl.tr h_numbers hr10
    replace hK := Tr.trans hK hr10
    replace hB := Nat.le_trans hB hr10.ex.size
    replace hA := hr10.new
    replace hH : Hp B A19 w18 (obBd 45 5 b_p2 s17 :: L) := hH20
    refine C_seq (C_region (V_y (Y_lss rfl rfl) rfl rfl rfl (V_to (fun _ _ => rfl) ?_)))
    refine C_seq ?_
    refine C_cond rfl (fun hc29 => ?_) (fun hc29 => ?_)
    · have hlt25 := lt_of_dec hc29
      obtain ⟨x21, h22, h23⟩ := K27 hlt25
      refine C_skip_to (fun _ _ => rfl) ?_
      refine C_seq ?_
      refine C_block ?_
      refine C_seq ?_
      refine C_region ?_
      obtain ⟨x30, hx30, h22⟩ := Option.bind_eq_some_iff.1 h22
      refine V_indexAddr h_numbers hx30 Tryd.underlying46 Tryd.sizeOf3 rfl rfl rfl ?_
      intro b31 o32 h33
      refine V_y (Y_load (El.int h33) Tryd.isAgg3 rfl) rfl rfl rfl ?_
      refine V_y (Y_assign rfl) rfl rfl rfl ?_
      refine V_to (fun _ _ => rfl) ?_
      refine C_region ?_
      refine V_y (Y_move rfl) rfl rfl rfl ?_
      obtain ⟨x34, hx34, h22⟩ := Option.bind_eq_some_iff.1 h22
      refine V_call Tryd.call19 rfl rfl rfl rfl (strconv_Itoa_c w18 hA (Tb.tr hT hK) x30 hx34) ?_
      rintro _ w35 ⟨rfl, hk36⟩
      have ht37 := Kp.tr hk36 hA hB
      replace hH := Hp.kp hH hk36
      replace h_numbers := Sl.tr h_numbers ht37
      replace hK := Tr.trans hK ht37
      replace hr10 := Tr.trans hr10 ht37
      replace hB := Nat.le_trans hB ht37.ex.size
      replace hA := ht37.new
      obtain ⟨x38, hx38, h22⟩ := Option.bind_eq_some_iff.1 h22
      refine V_y (Y_sadd hx38 rfl rfl) rfl rfl rfl ?_
      obtain ⟨x39, hx39, h22⟩ := Option.bind_eq_some_iff.1 h22
      refine V_call Tryd.call18 rfl rfl rfl rfl (strings_Builder_WriteString_c w35 hB hA s17 b_p2 x38 hH hx39) ?_
      rintro _ w40 ⟨A41, rfl, hH42, ht43⟩
      replace h_numbers := Sl.tr h_numbers ht43
      replace hK := Tr.trans hK ht43
      replace hr10 := Tr.trans hr10 ht43
      replace hB := Nat.le_trans hB ht43.ex.size
      replace hA := ht43.new
      replace hH : Hp B A41 w40 (obBd 45 5 b_p2 x39.2.2 :: L) := hH42
      refine V_to (fun _ _ => rfl) ?_
      refine C_region ?_
      refine V_y (Y_addI rfl rfl) rfl rfl rfl ?_
      refine V_y (Y_move rfl) rfl rfl rfl ?_
      obtain rfl := Option.some.inj h22
      refine V_end (fun a ha44 => ?_)
      exact ⟨x39.2.2, hlt25, h23, ⟨A41, ha44.sub ⟨rfl, rfl, rfl, (congrArg (fun z => some (Value.int .i64 z)) (w64_succ hlt25 hn28)), trivial⟩, ⟨hH, hr10⟩⟩⟩
    · refine C_exit (fun a ha45 => ?_)
      exact ⟨(s17, A19), ha45.sub ⟨rfl, trivial⟩, ⟨(h26 (eq_of_dec hle24 hc29)).symm, hH, hr10⟩⟩
  rintro ⟨s9, A15⟩ w12 ⟨rfl, hH16, hk13⟩ a ha14
  rw [Lp.andThen_fin] at hm
  replace hK := Tr.trans hK hk13
  replace hB := Nat.le_trans hB hk13.ex.size
  replace hA := hk13.new
  replace hH : Hp B A15 w12 (obBd 45 5 b_p2 s9 :: L) := hH16
  refine C_at (n := ⟨21, [], none⟩) (fun _ _ => rfl) ?_ ha14
  refine C_region ?_
  obtain ⟨x47, hx47, hm⟩ := Option.bind_eq_some_iff.1 hm
  refine V_call Tryd.call20 rfl rfl rfl rfl (strings_Builder_WriteByte_c w12 hB hA s9 b_p2 10 hH hx47) ?_
  rintro _ w48 ⟨A49, rfl, hH50, ht51⟩
  replace hK := Tr.trans hK ht51
  replace hB := Nat.le_trans hB ht51.ex.size
  replace hA := ht51.new
  replace hH : Hp B A49 w48 (obBd 45 5 b_p2 x47.2 :: L) := hH50
  refine V_end (fun a ha52 => ?_)
  obtain rfl := Option.some.inj hm
  try simp only [↓inBlock_ret, ↓then_ret]
  exact normQ (retQ rfl (Res.zero Tryd.results17) ⟨A49, rfl, hH, hK⟩ a ha52)

def Tryd_strings_Builder_Len_lay_ren : Go.Shelf.Ren := ⟨fun | 170 => 21 | n => n, fun | 0 => 0 | 1 => 1 | 2 => 2 | 3 => 3 | 4 => 4 | 5 => 5 | 6 => 6 | 7 => 7 | 8 => 8 | 9 => 9 | 10 => 10 | 11 => 11 | 12 => 12 | 13 => 13 | 14 => 14 | 15 => 15 | 16 => 16 | 17 => 17 | 18 => 18 | 19 => 19 | 20 => 20 | 21 => 21 | 23 => 92 | 27 => 128 | 28 => 46 | 31 => 70 | 37 => 43 | 40 => 127 | 41 => 114 | 43 => 85 | 46 => 112 | 47 => 113 | 51 => 110 | 52 => 118 | 53 => 94 | 54 => 95 | 55 => 126 | 63 => 117 | 64 => 119 | 67 => 73 | 70 => 42 | 71 => 44 | 72 => 45 | 73 => 86 | 74 => 47 | 75 => 48 | 76 => 49 | 77 => 50 | 78 => 52 | 80 => 61 | 81 => 60 | 83 => 51 | 84 => 91 | 104 => 87 | 105 => 115 | 106 => 116 | 111 => 79 | 114 => 107 | 115 => 101 | 116 => 102 | 117 => 103 | 118 => 104 | 119 => 122 | 122 => 100 | 123 => 105 | 124 => 106 | 127 => 82 | 137 => 123 | 138 => 124 | 139 => 125 | 164 => 89 | 165 => 90 | 166 => 99 | 171 => 93 | 172 => 96 | 173 => 97 | 174 => 98 | 211 => 108 | 212 => 109 | 213 => 111 | 232 => 120 | 233 => 121 | 238 => 129 | 239 => 130 | 240 => 131 | 241 => 132 | 242 => 133 | 243 => 134 | 244 => 135 | 245 => 136 | 246 => 137 | 247 => 138 | 248 => 139 | 249 => 140 | n => n, fun | 1 => 1 | 3 => 4 | 4 => 5 | 17 => 0 | 18 => 2 | 19 => 3 | n => n⟩
theorem Tryd_strings_Builder_Len_lay : Go.Proofs.Lays.n170 Tryd.prog Tryd_strings_Builder_Len_lay_ren := {
  mixed := by kernel_rfl,
  f170 := Tryd.func21.trans (congrArg some (by kernel_rfl)),
  t0 := Tryd.underlying0,
  a0 := Tryd.isAgg0,
  z0 := Tryd.sizeOf0,
  v0 := Tryd.zeroValue0,
  t3 := Tryd.underlying3,
  a3 := Tryd.isAgg3,
  z3 := Tryd.sizeOf3,
  v3 := Tryd.zeroValue3,
  t37 := Tryd.underlying43,
  a37 := Tryd.isAgg43,
  z37 := Tryd.sizeOf43,
  v37 := Tryd.zeroValue43,
  t70 := Tryd.underlying42,
  a70 := Tryd.isAgg42,
  z70 := Tryd.sizeOf42,
  v70 := Tryd.zeroValue42,
  t72 := Tryd.underlying45,
  a72 := Tryd.isAgg45,
  z72 := Tryd.sizeOf45,
  v72 := Tryd.zeroValue45 }
theorem Tryd_strings_Builder_Len_lay_x : Go.Proofs.Builder.Extra Tryd.prog Tryd_strings_Builder_Len_lay_ren := {
  sizeBuilder := by kernel_rfl
  liesBuilder := by kernel_rfl
  t5 := Tryd.underlying5
  a5 := Tryd.isAgg5
  z5 := Tryd.sizeOf5
  v5 := Tryd.zeroValue5
  infoByte := by kernel_rfl
  cellsByte := by kernel_rfl
  sizeByte := by kernel_rfl
  neB5 := (by decide : (45 : Nat) ≠ 5) }
theorem strings_Builder_Len_c (w : World) {A : Nat → Prop} {B : Nat} (hB : B ≤ w.heap.size) (hA : ∀ b, w.heap.size ≤ b → A b) (b : ByteArray) (b_b : Nat) {L : List Ob} (hH : Hp B A w (obBd 45 5 b_b  b :: L)) {r : Int} (hm : strings_Builder_Len b = some r) : Ret Tryd.prog 21 #[.pointer (some ⟨b_b, 0, none⟩)] w fun v w' => ∃ A1 : Nat → Prop, v = .int .i64 r ∧ Hp B A1 w' (obBd 45 5 b_b  b :: L) ∧ Tr B A w A1 w' := by
  unfold strings_Builder_Len at hm
  obtain rfl := Option.some.inj hm
  exact Hp.bdLen (ρ := Tryd_strings_Builder_Len_lay_ren) (fun bs h1 => Go.Proofs.Any.Builder_Len_f Tryd_strings_Builder_Len_lay 0 b_b bs w h1) hB hA hH

def Tryd_strings_Builder_String_lay_ren : Go.Shelf.Ren := ⟨fun | 169 => 22 | n => n, fun | 0 => 0 | 1 => 1 | 2 => 2 | 3 => 3 | 4 => 4 | 5 => 5 | 6 => 6 | 7 => 7 | 8 => 8 | 9 => 9 | 10 => 10 | 11 => 11 | 12 => 12 | 13 => 13 | 14 => 14 | 15 => 15 | 16 => 16 | 17 => 17 | 18 => 18 | 19 => 19 | 20 => 20 | 21 => 21 | 23 => 92 | 27 => 128 | 28 => 46 | 31 => 70 | 37 => 43 | 40 => 127 | 41 => 114 | 43 => 85 | 46 => 112 | 47 => 113 | 51 => 110 | 52 => 118 | 53 => 94 | 54 => 95 | 55 => 126 | 63 => 117 | 64 => 119 | 67 => 73 | 70 => 42 | 71 => 44 | 72 => 45 | 73 => 86 | 74 => 47 | 75 => 48 | 76 => 49 | 77 => 50 | 78 => 52 | 80 => 61 | 81 => 60 | 83 => 51 | 84 => 91 | 104 => 87 | 105 => 115 | 106 => 116 | 111 => 79 | 114 => 107 | 115 => 101 | 116 => 102 | 117 => 103 | 118 => 104 | 119 => 122 | 122 => 100 | 123 => 105 | 124 => 106 | 127 => 82 | 137 => 123 | 138 => 124 | 139 => 125 | 164 => 89 | 165 => 90 | 166 => 99 | 171 => 93 | 172 => 96 | 173 => 97 | 174 => 98 | 211 => 108 | 212 => 109 | 213 => 111 | 232 => 120 | 233 => 121 | 238 => 129 | 239 => 130 | 240 => 131 | 241 => 132 | 242 => 133 | 243 => 134 | 244 => 135 | 245 => 136 | 246 => 137 | 247 => 138 | 248 => 139 | 249 => 140 | n => n, fun | 1 => 1 | 3 => 4 | 4 => 5 | 17 => 0 | 18 => 2 | 19 => 3 | n => n⟩
theorem Tryd_strings_Builder_String_lay : Go.Proofs.Lays.n169 Tryd.prog Tryd_strings_Builder_String_lay_ren := {
  mixed := by kernel_rfl,
  f169 := Tryd.func22.trans (congrArg some (by kernel_rfl)),
  t0 := Tryd.underlying0,
  a0 := Tryd.isAgg0,
  z0 := Tryd.sizeOf0,
  v0 := Tryd.zeroValue0,
  t3 := Tryd.underlying3,
  a3 := Tryd.isAgg3,
  z3 := Tryd.sizeOf3,
  v3 := Tryd.zeroValue3,
  t9 := Tryd.underlying9,
  a9 := Tryd.isAgg9,
  z9 := Tryd.sizeOf9,
  v9 := Tryd.zeroValue9,
  t37 := Tryd.underlying43,
  a37 := Tryd.isAgg43,
  z37 := Tryd.sizeOf43,
  v37 := Tryd.zeroValue43,
  t70 := Tryd.underlying42,
  a70 := Tryd.isAgg42,
  z70 := Tryd.sizeOf42,
  v70 := Tryd.zeroValue42,
  t72 := Tryd.underlying45,
  a72 := Tryd.isAgg45,
  z72 := Tryd.sizeOf45,
  v72 := Tryd.zeroValue45,
  t127 := Tryd.underlying82,
  a127 := Tryd.isAgg82,
  z127 := Tryd.sizeOf82,
  v127 := Tryd.zeroValue82 }
theorem Tryd_strings_Builder_String_lay_x : Go.Proofs.Builder.Extra Tryd.prog Tryd_strings_Builder_String_lay_ren := {
  sizeBuilder := by kernel_rfl
  liesBuilder := by kernel_rfl
  t5 := Tryd.underlying5
  a5 := Tryd.isAgg5
  z5 := Tryd.sizeOf5
  v5 := Tryd.zeroValue5
  infoByte := by kernel_rfl
  cellsByte := by kernel_rfl
  sizeByte := by kernel_rfl
  neB5 := (by decide : (45 : Nat) ≠ 5) }
theorem strings_Builder_String_c (w : World) {A : Nat → Prop} {B : Nat} (hB : B ≤ w.heap.size) (hA : ∀ b, w.heap.size ≤ b → A b) (b : ByteArray) (b_b : Nat) {L : List Ob} (hH : Hp B A w (obBd 45 5 b_b  b :: L)) {r : ByteArray} (hm : strings_Builder_String b = some r) : Ret Tryd.prog 22 #[.pointer (some ⟨b_b, 0, none⟩)] w fun v w' => ∃ A1 : Nat → Prop, v = .string r ∧ Hp B A1 w' (obBd 45 5 b_b  b :: L) ∧ Tr B A w A1 w' := by
  unfold strings_Builder_String at hm
  obtain rfl := Option.some.inj hm
  exact Hp.bdString (ρ := Tryd_strings_Builder_String_lay_ren) (fun p v l h1 => bd_string Tryd_strings_Builder_String_lay Tryd_strings_Builder_String_lay_x b_b p v l w h1) hB hA hH

set_option maxRecDepth 4000 in
set_option maxHeartbeats 4000000 in
theorem cal_CalendarText_c (w : World) {A : Nat → Prop} (hA : ∀ b, w.heap.size ≤ b → A b) (hT : Tb Tryd.prog A w) (c : cal_Calendar) (v_c0 : Value) (h_c0 : Sl A w v_c0 c.zone.changes) (v_c1 : Value) (h_c1 : Sl A w v_c1 c.week) (v_c2 : Value) (h_c2 : Sl A w v_c2 c.specials) {r : (ByteArray × Int)} (hm : cal_CalendarText c = some r) : Ret Tryd.prog 5 #[.agg #[.int .i64 c.zone.offset, v_c0, v_c1, v_c2]] w fun v w' => v = .tuple #[.string r.1, .int .i64 r.2] ∧ Kp w w' := by
  unfold cal_CalendarText at hm
  refine enter Tryd.func5 rfl Tryd.ntmps5 rfl ?_
  have hA0 := hA
  have hB := Nat.le_refl w.heap.size
  have hK : Tr w.heap.size A w A w := Tr.refl hA
  have hH : Hp w.heap.size A w [] := Hp.nil
  refine C_seq ?_
  refine C_region ?_
  refine V_box rfl rfl ?_
  intro b7 w9 h10
  have hk12 := h10.kp
  have h11 : El (α := cal_Calendar) A w9 b7 0 c := h10.el hA ⟨[.int .i64 c.zone.offset, v_c0], _, rfl, ⟨[.int .i64 c.zone.offset], _, rfl, rfl, ⟨_, rfl, h_c0⟩⟩, ⟨[v_c1], _, rfl, ⟨_, rfl, h_c1⟩, ⟨_, rfl, h_c2⟩⟩⟩
  have ht13 := Kp.tr hk12 hA hB
  replace hH := Hp.kp hH hk12
  replace h_c0 := Sl.tr h_c0 ht13
  replace h_c1 := Sl.tr h_c1 ht13
  replace h_c2 := Sl.tr h_c2 ht13
  replace hK := Tr.trans hK ht13
  replace hB := Nat.le_trans hB ht13.ex.size
  replace hA := ht13.new
  refine V_y (Y_assign rfl) rfl rfl rfl ?_
  refine V_y (Y_assign rfl) rfl rfl rfl ?_
  refine V_to (fun _ _ => rfl) ?_
  refine C_seq ?_
  refine C_seq ?_
  refine C_region ?_
  obtain ⟨v14, v16, v18, h20, h15, h17, h19⟩ := El_cal_Calendar h11
  refine V_y (Y_loadA h20 Tryd.isAgg28 Tryd.sizeOf28 rfl) rfl rfl rfl ?_
  obtain ⟨x21, hx21, hm⟩ := Option.bind_eq_some_iff.1 hm
  refine V_call Tryd.call7 rfl rfl rfl rfl (cal_CheckCalendar_c w9 hA c v14 h15 v16 h17 v18 h19 hx21) ?_
  rintro _ w22 ⟨rfl, hk23⟩
  have ht24 := Kp.tr hk23 hA hB
  replace hH := Hp.kp hH hk23
  replace h11 := El.tr h11 ht24
  replace h15 := Sl.tr h15 ht24
  replace h17 := Sl.tr h17 ht24
  replace h19 := Sl.tr h19 ht24
  replace hK := Tr.trans hK ht24
  replace hB := Nat.le_trans hB ht24.ex.size
  replace hA := ht24.new
  refine V_y (Y_assign rfl) rfl rfl rfl ?_
  refine V_to (fun _ _ => rfl) ?_
  refine C_seq ?_
  refine C_region ?_
  refine V_y (Y_move rfl) rfl rfl rfl ?_
  refine V_y (Y_neq rfl rfl) rfl rfl rfl ?_
  refine V_to (fun _ _ => rfl) ?_
  refine C_cond rfl (fun hc25 => ?_) (fun hc25 => ?_)
  · rw [if_pos hc25] at hm
    refine C_seq ?_
    refine C_region ?_
    refine V_y (Y_move rfl) rfl rfl rfl ?_
    refine V_y (Y_assign rfl) rfl rfl rfl ?_
    refine V_y (Y_assign rfl) rfl rfl rfl ?_
    refine V_to (fun _ _ => rfl) ?_
    obtain rfl := Option.some.inj hm
    refine C_ret ?_
    try simp only [↓inBlock_ret, ↓then_ret]
    exact retQ rfl (Res.two Tryd.results5 rfl rfl) ⟨rfl, hK.kp⟩
  · rw [if_neg (nt hc25)] at hm
    refine C_skip_to (fun _ _ => rfl) ?_
    refine C_seq ?_
    refine C_region ?_
    refine V_allocH (B := w.heap.size) hH Tryd.zeroValue45 hB hA rfl ?_
    intro b26 w27 A28 hH29 ht30
    replace hH29 := Hp.bdOf (e := 5) hH29
    replace h11 := El.tr h11 ht30
    replace hK := Tr.trans hK ht30
    replace hB := Nat.le_trans hB ht30.ex.size
    replace hA := ht30.new
    replace hH : Hp w.heap.size A28 w27 (obBd 45 5 b26 ByteArray.empty :: []) := hH29
    refine V_to (fun _ _ => rfl) ?_
    refine C_seq ?_
    refine C_region ?_
    refine V_y (Y_makeFunc rfl rfl) rfl rfl rfl ?_
    refine V_y (Y_assign rfl) rfl rfl rfl ?_
    refine V_to (fun _ _ => rfl) ?_
    refine C_seq ?_
    refine C_region ?_
    refine V_y (Y_move rfl) rfl rfl rfl ?_
    have h31 := El_cal_Calendar_0 h11
    refine V_y (Y_fieldAddr Tryd.underlying28 rfl Tryd.sizeOf24 (by decide) rfl) rfl rfl rfl ?_
    have h32 := El_cal_Zone_0 h31
    refine V_y (Y_fieldAddr Tryd.underlying24 rfl Tryd.sizeOf3 (by decide) rfl) rfl rfl rfl ?_
    refine V_y (Y_load (El.int h32) Tryd.isAgg3 rfl) rfl rfl rfl ?_
    refine V_buildSlice (l := ([c.zone.offset] : List Int)) (len := 1) Tryd.underlying46 Tryd.sizeOf3 Tryd.zeroValue3 rfl (by with_unfolding_all rfl) (by decide) (by decide) hA ⟨[.int .i64 c.zone.offset], _, rfl, rfl, rfl⟩ rfl rfl ?_
    intro v33 w34 hk36 h35
    have ht37 := Kp.tr hk36 hA hB
    replace hH := Hp.kp hH hk36
    replace h11 := El.tr h11 ht37
    replace h31 := El.tr h31 ht37
    replace h32 := El.tr h32 ht37
    replace hK := Tr.trans hK ht37
    replace hB := Nat.le_trans hB ht37.ex.size
    replace hA := ht37.new
    obtain ⟨x38, hx38, hm⟩ := Option.bind_eq_some_iff.1 hm
    refine V_call Tryd.call17 rfl rfl rfl rfl (cal_CalendarText_1_c w34 hB hA (Tb.tr hT hK) (⟨#[122, 111, 110, 101]⟩ : ByteArray) ([c.zone.offset] : List Int) v33 h35 ByteArray.empty b26 hH hx38) ?_
    rintro _ w39 ⟨A40, rfl, hH41, ht42⟩
    replace h11 := El.tr h11 ht42
    replace h31 := El.tr h31 ht42
    replace h32 := El.tr h32 ht42
    replace h35 := Sl.tr h35 ht42
    replace hK := Tr.trans hK ht42
    replace hB := Nat.le_trans hB ht42.ex.size
    replace hA := ht42.new
    replace hH : Hp w.heap.size A40 w39 (obBd 45 5 b26 x38 :: []) := hH41
    refine V_to (fun _ _ => rfl) ?_
    refine C_seq ?_
    refine C_seq ?_
    refine C_region ?_
    have h43 := El_cal_Calendar_0 h11
    refine V_y (Y_fieldAddr Tryd.underlying28 rfl Tryd.sizeOf24 (by decide) rfl) rfl rfl rfl ?_
    have h44 := El_cal_Zone_1 h43
    refine V_y (Y_fieldAddr Tryd.underlying24 rfl Tryd.sizeOf22 (by decide) rfl) rfl rfl rfl ?_
    obtain ⟨v45, h46, h47⟩ := El.list h44
    refine V_y (Y_load h46 Tryd.isAgg22 rfl) rfl rfl rfl ?_
    refine V_y (Y_lenSl h47 rfl Tryd.underlying22 rfl) rfl rfl rfl ?_
    refine V_y (Y_move rfl) rfl rfl rfl ?_
    refine V_to (fun _ _ => rfl) ?_
    have hn68 := Sl.le h47
    obtain ⟨o48, ho48, hm⟩ := Option.bind_eq_some_iff.1 hm
    refine C_cutG (ι := (ByteArray × (Nat → Prop))) (fun ⟨s49, A55⟩ => [(1, .pointer (some ⟨b7, 0, none⟩)), (5, .pointer (some ⟨b26, 0, none⟩)), (6, .func (.func 17) #[] #[.pointer (some ⟨b26, 0, none⟩)])]) (fun ⟨s49, A55⟩ => fun w' => o48 = .fin s49 ∧ Hp w.heap.size A55 w' (obBd 45 5 b26 s49 :: []) ∧ Tr w.heap.size A40 w39 A55 w') ?_ ?_
    · refine C_block ?_
      refine C_range ho48 (fun k51 s57 a w' => ∃ i : (Nat → Prop), Has ⟨93, [], none⟩ a ([(1, .pointer (some ⟨b7, 0, none⟩)), (5, .pointer (some ⟨b26, 0, none⟩)), (6, .func (.func 17) #[] #[.pointer (some ⟨b26, 0, none⟩)]), (30, v45), (31, .int .i64 (c.zone.changes.length : Int)), (32, .int .i64 (k51 : Int))]) ∧ Hp w.heap.size i w' (obBd 45 5 b26 s57 :: []) ∧ Tr w.heap.size A40 w39 i w') (fun a ha => ⟨A40, ha.sub ⟨rfl, rfl, rfl, rfl, rfl, rfl, trivial⟩, ⟨hH, Tr.refl hA⟩⟩) ?_
      rintro K k51 s57 a w58 ⟨A59, ha97, hH60, hr50⟩ hle64 K67 h66
      refine C_of ?_ ha97
      replace h11 := El.tr h11 hr50
      replace h47 := Sl.tr h47 hr50
      replace hK := Tr.trans hK hr50
      replace hB := Nat.le_trans hB hr50.ex.size
      replace hA := hr50.new
      replace hH : Hp w.heap.size A59 w58 (obBd 45 5 b26 s57 :: []) := hH60
      refine C_seq (C_region (V_y (Y_lss rfl rfl) rfl rfl rfl (V_to (fun _ _ => rfl) ?_)))
      refine C_seq ?_
      refine C_cond rfl (fun hc69 => ?_) (fun hc69 => ?_)
      · have hlt65 := lt_of_dec hc69
        obtain ⟨x61, h62, h63⟩ := K67 hlt65
        refine C_skip_to (fun _ _ => rfl) ?_
        refine C_seq ?_
        refine C_block ?_
        refine C_seq ?_
        refine C_region ?_
        obtain ⟨x70, hx70, h62⟩ := Option.bind_eq_some_iff.1 h62
        refine V_indexAddr h47 hx70 Tryd.underlying22 Tryd.sizeOf55 rfl rfl rfl ?_
        intro b71 o72 h73
        obtain ⟨h74, _⟩ := El_cal_Change h73
        refine V_y (Y_loadA h74 Tryd.isAgg55 Tryd.sizeOf55 rfl) rfl rfl rfl ?_
        refine V_alloc Tryd.zeroValue55 rfl ?_
        intro b75 w76 h77
        refine V_storeNew h77 Tryd.sizeOf55 rfl rfl rfl rfl (by exact (List.forall_mem_cons.2 ⟨rfl, (List.forall_mem_cons.2 ⟨rfl, (fun _ h => nomatch h)⟩)⟩)) ?_
        intro w78 h79
        have hk81 := h79.kp
        have h80 : El (α := cal_Change) A59 w78 b75 0 x70 := h79.el hA ⟨[.int .i64 x70.at_], _, rfl, rfl, rfl⟩
        have ht82 := Kp.tr hk81 hA hB
        replace hH := Hp.kp hH hk81
        replace h11 := El.tr h11 ht82
        replace h47 := Sl.tr h47 ht82
        replace h73 := El.tr h73 ht82
        replace hK := Tr.trans hK ht82
        replace hr50 := Tr.trans hr50 ht82
        replace hB := Nat.le_trans hB ht82.ex.size
        replace hA := ht82.new
        refine V_to (fun _ _ => rfl) ?_
        refine C_region ?_
        refine V_y (Y_move rfl) rfl rfl rfl ?_
        have h83 := El_cal_Change_0 h80
        refine V_y (Y_fieldAddr Tryd.underlying55 rfl Tryd.sizeOf3 (by decide) rfl) rfl rfl rfl ?_
        refine V_y (Y_load (El.int h83) Tryd.isAgg3 rfl) rfl rfl rfl ?_
        have h84 := El_cal_Change_1 h80
        refine V_y (Y_fieldAddr Tryd.underlying55 rfl Tryd.sizeOf3 (by decide) rfl) rfl rfl rfl ?_
        refine V_y (Y_load (El.int h84) Tryd.isAgg3 rfl) rfl rfl rfl ?_
        refine V_buildSlice (l := ([x70.at_, x70.offset] : List Int)) (len := 2) Tryd.underlying46 Tryd.sizeOf3 Tryd.zeroValue3 rfl (by with_unfolding_all rfl) (by decide) (by decide) hA ⟨[.int .i64 x70.at_], _, rfl, rfl, ⟨[.int .i64 x70.offset], _, rfl, rfl, rfl⟩⟩ rfl rfl ?_
        intro v85 w86 hk88 h87
        have ht89 := Kp.tr hk88 hA hB
        replace hH := Hp.kp hH hk88
        replace h11 := El.tr h11 ht89
        replace h47 := Sl.tr h47 ht89
        replace h80 := El.tr h80 ht89
        replace h83 := El.tr h83 ht89
        replace h84 := El.tr h84 ht89
        replace hK := Tr.trans hK ht89
        replace hr50 := Tr.trans hr50 ht89
        replace hB := Nat.le_trans hB ht89.ex.size
        replace hA := ht89.new
        obtain ⟨x90, hx90, h62⟩ := Option.bind_eq_some_iff.1 h62
        refine V_call Tryd.call17 rfl rfl rfl rfl (cal_CalendarText_1_c w86 hB hA (Tb.tr hT hK) (⟨#[99, 104, 97, 110, 103, 101]⟩ : ByteArray) ([x70.at_, x70.offset] : List Int) v85 h87 s57 b26 hH hx90) ?_
        rintro _ w91 ⟨A92, rfl, hH93, ht94⟩
        replace h11 := El.tr h11 ht94
        replace h47 := Sl.tr h47 ht94
        replace h80 := El.tr h80 ht94
        replace h83 := El.tr h83 ht94
        replace h84 := El.tr h84 ht94
        replace h87 := Sl.tr h87 ht94
        replace hK := Tr.trans hK ht94
        replace hr50 := Tr.trans hr50 ht94
        replace hB := Nat.le_trans hB ht94.ex.size
        replace hA := ht94.new
        replace hH : Hp w.heap.size A92 w91 (obBd 45 5 b26 x90 :: []) := hH93
        refine V_to (fun _ _ => rfl) ?_
        refine C_region ?_
        refine V_y (Y_addI rfl rfl) rfl rfl rfl ?_
        refine V_y (Y_move rfl) rfl rfl rfl ?_
        obtain rfl := Option.some.inj h62
        refine V_end (fun a ha95 => ?_)
        exact ⟨x90, hlt65, h63, ⟨A92, ha95.sub ⟨rfl, rfl, rfl, rfl, rfl, (congrArg (fun z => some (Value.int .i64 z)) (w64_succ hlt65 hn68)), trivial⟩, ⟨hH, hr50⟩⟩⟩
      · refine C_exit (fun a ha96 => ?_)
        exact ⟨(s57, A59), ha96.sub ⟨rfl, rfl, rfl, trivial⟩, ⟨(h66 (eq_of_dec hle64 hc69)).symm, hH, hr50⟩⟩
    rintro ⟨s49, A55⟩ w52 ⟨rfl, hH56, hk53⟩ a ha54
    rw [Lp.andThen_fin] at hm
    replace h11 := El.tr h11 hk53
    replace hK := Tr.trans hK hk53
    replace hB := Nat.le_trans hB hk53.ex.size
    replace hA := hk53.new
    replace hH : Hp w.heap.size A55 w52 (obBd 45 5 b26 s49 :: []) := hH56
    refine C_at (n := ⟨93, [], none⟩) (fun _ _ => rfl) ?_ ha54
    refine C_seq ?_
    refine C_seq ?_
    refine C_region ?_
    have h98 := El_cal_Calendar_1 h11
    refine V_y (Y_fieldAddr Tryd.underlying28 rfl Tryd.sizeOf25 (by decide) rfl) rfl rfl rfl ?_
    obtain ⟨v99, h100, h101⟩ := El.list h98
    refine V_y (Y_load h100 Tryd.isAgg25 rfl) rfl rfl rfl ?_
    refine V_y (Y_lenSl h101 rfl Tryd.underlying25 rfl) rfl rfl rfl ?_
    refine V_y (Y_move rfl) rfl rfl rfl ?_
    refine V_to (fun _ _ => rfl) ?_
    have hn122 := Sl.le h101
    obtain ⟨o102, ho102, hm⟩ := Option.bind_eq_some_iff.1 hm
    refine C_cutG (ι := (ByteArray × (Nat → Prop))) (fun ⟨s103, A109⟩ => [(1, .pointer (some ⟨b7, 0, none⟩)), (5, .pointer (some ⟨b26, 0, none⟩)), (6, .func (.func 17) #[] #[.pointer (some ⟨b26, 0, none⟩)])]) (fun ⟨s103, A109⟩ => fun w' => o102 = .fin s103 ∧ Hp w.heap.size A109 w' (obBd 45 5 b26 s103 :: []) ∧ Tr w.heap.size A55 w52 A109 w') ?_ ?_
    · refine C_block ?_
      refine C_range ho102 (fun k105 s111 a w' => ∃ i : (Nat → Prop), Has ⟨93, [], none⟩ a ([(1, .pointer (some ⟨b7, 0, none⟩)), (5, .pointer (some ⟨b26, 0, none⟩)), (6, .func (.func 17) #[] #[.pointer (some ⟨b26, 0, none⟩)]), (45, v99), (46, .int .i64 (c.week.length : Int)), (47, .int .i64 (k105 : Int))]) ∧ Hp w.heap.size i w' (obBd 45 5 b26 s111 :: []) ∧ Tr w.heap.size A55 w52 i w') (fun a ha => ⟨A55, ha.sub ⟨rfl, rfl, rfl, rfl, rfl, rfl, trivial⟩, ⟨hH, Tr.refl hA⟩⟩) ?_
      rintro K k105 s111 a w112 ⟨A113, ha152, hH114, hr104⟩ hle118 K121 h120
      refine C_of ?_ ha152
      replace h11 := El.tr h11 hr104
      replace h101 := Sl.tr h101 hr104
      replace hK := Tr.trans hK hr104
      replace hB := Nat.le_trans hB hr104.ex.size
      replace hA := hr104.new
      replace hH : Hp w.heap.size A113 w112 (obBd 45 5 b26 s111 :: []) := hH114
      refine C_seq (C_region (V_y (Y_lss rfl rfl) rfl rfl rfl (V_to (fun _ _ => rfl) ?_)))
      refine C_seq ?_
      refine C_cond rfl (fun hc123 => ?_) (fun hc123 => ?_)
      · have hlt119 := lt_of_dec hc123
        obtain ⟨x115, h116, h117⟩ := K121 hlt119
        refine C_skip_to (fun _ _ => rfl) ?_
        refine C_seq ?_
        refine C_block ?_
        refine C_seq ?_
        refine C_region ?_
        obtain ⟨x124, hx124, h116⟩ := Option.bind_eq_some_iff.1 h116
        refine V_indexAddr h101 hx124 Tryd.underlying25 Tryd.sizeOf57 rfl rfl rfl ?_
        intro b125 o126 h127
        obtain ⟨h128, _⟩ := El_cal_Shift h127
        refine V_y (Y_loadA h128 Tryd.isAgg57 Tryd.sizeOf57 rfl) rfl rfl rfl ?_
        refine V_alloc Tryd.zeroValue57 rfl ?_
        intro b129 w130 h131
        refine V_storeNew h131 Tryd.sizeOf57 rfl rfl rfl rfl (by exact (List.forall_mem_cons.2 ⟨rfl, (List.forall_mem_cons.2 ⟨rfl, (List.forall_mem_cons.2 ⟨rfl, (fun _ h => nomatch h)⟩)⟩)⟩)) ?_
        intro w132 h133
        have hk135 := h133.kp
        have h134 : El (α := cal_Shift) A113 w132 b129 0 x124 := h133.el hA ⟨[.int .i64 x124.day], _, rfl, rfl, ⟨[.int .i64 x124.from_], _, rfl, rfl, rfl⟩⟩
        have ht136 := Kp.tr hk135 hA hB
        replace hH := Hp.kp hH hk135
        replace h11 := El.tr h11 ht136
        replace h101 := Sl.tr h101 ht136
        replace h127 := El.tr h127 ht136
        replace hK := Tr.trans hK ht136
        replace hr104 := Tr.trans hr104 ht136
        replace hB := Nat.le_trans hB ht136.ex.size
        replace hA := ht136.new
        refine V_to (fun _ _ => rfl) ?_
        refine C_region ?_
        refine V_y (Y_move rfl) rfl rfl rfl ?_
        have h137 := El_cal_Shift_0 h134
        refine V_y (Y_fieldAddr Tryd.underlying57 rfl Tryd.sizeOf3 (by decide) rfl) rfl rfl rfl ?_
        refine V_y (Y_load (El.int h137) Tryd.isAgg3 rfl) rfl rfl rfl ?_
        have h138 := El_cal_Shift_1 h134
        refine V_y (Y_fieldAddr Tryd.underlying57 rfl Tryd.sizeOf3 (by decide) rfl) rfl rfl rfl ?_
        refine V_y (Y_load (El.int h138) Tryd.isAgg3 rfl) rfl rfl rfl ?_
        have h139 := El_cal_Shift_2 h134
        refine V_y (Y_fieldAddr Tryd.underlying57 rfl Tryd.sizeOf3 (by decide) rfl) rfl rfl rfl ?_
        refine V_y (Y_load (El.int h139) Tryd.isAgg3 rfl) rfl rfl rfl ?_
        refine V_buildSlice (l := ([x124.day, x124.from_, x124.to_] : List Int)) (len := 3) Tryd.underlying46 Tryd.sizeOf3 Tryd.zeroValue3 rfl (by with_unfolding_all rfl) (by decide) (by decide) hA ⟨[.int .i64 x124.day], _, rfl, rfl, ⟨[.int .i64 x124.from_], _, rfl, rfl, ⟨[.int .i64 x124.to_], _, rfl, rfl, rfl⟩⟩⟩ rfl rfl ?_
        intro v140 w141 hk143 h142
        have ht144 := Kp.tr hk143 hA hB
        replace hH := Hp.kp hH hk143
        replace h11 := El.tr h11 ht144
        replace h101 := Sl.tr h101 ht144
        replace h134 := El.tr h134 ht144
        replace h137 := El.tr h137 ht144
        replace h138 := El.tr h138 ht144
        replace h139 := El.tr h139 ht144
        replace hK := Tr.trans hK ht144
        replace hr104 := Tr.trans hr104 ht144
        replace hB := Nat.le_trans hB ht144.ex.size
        replace hA := ht144.new
        obtain ⟨x145, hx145, h116⟩ := Option.bind_eq_some_iff.1 h116
        refine V_call Tryd.call17 rfl rfl rfl rfl (cal_CalendarText_1_c w141 hB hA (Tb.tr hT hK) (⟨#[115, 104, 105, 102, 116]⟩ : ByteArray) ([x124.day, x124.from_, x124.to_] : List Int) v140 h142 s111 b26 hH hx145) ?_
        rintro _ w146 ⟨A147, rfl, hH148, ht149⟩
        replace h11 := El.tr h11 ht149
        replace h101 := Sl.tr h101 ht149
        replace h134 := El.tr h134 ht149
        replace h137 := El.tr h137 ht149
        replace h138 := El.tr h138 ht149
        replace h139 := El.tr h139 ht149
        replace h142 := Sl.tr h142 ht149
        replace hK := Tr.trans hK ht149
        replace hr104 := Tr.trans hr104 ht149
        replace hB := Nat.le_trans hB ht149.ex.size
        replace hA := ht149.new
        replace hH : Hp w.heap.size A147 w146 (obBd 45 5 b26 x145 :: []) := hH148
        refine V_to (fun _ _ => rfl) ?_
        refine C_region ?_
        refine V_y (Y_addI rfl rfl) rfl rfl rfl ?_
        refine V_y (Y_move rfl) rfl rfl rfl ?_
        obtain rfl := Option.some.inj h116
        refine V_end (fun a ha150 => ?_)
        exact ⟨x145, hlt119, h117, ⟨A147, ha150.sub ⟨rfl, rfl, rfl, rfl, rfl, (congrArg (fun z => some (Value.int .i64 z)) (w64_succ hlt119 hn122)), trivial⟩, ⟨hH, hr104⟩⟩⟩
      · refine C_exit (fun a ha151 => ?_)
        exact ⟨(s111, A113), ha151.sub ⟨rfl, rfl, rfl, trivial⟩, ⟨(h120 (eq_of_dec hle118 hc123)).symm, hH, hr104⟩⟩
    rintro ⟨s103, A109⟩ w106 ⟨rfl, hH110, hk107⟩ a ha108
    rw [Lp.andThen_fin] at hm
    replace h11 := El.tr h11 hk107
    replace hK := Tr.trans hK hk107
    replace hB := Nat.le_trans hB hk107.ex.size
    replace hA := hk107.new
    replace hH : Hp w.heap.size A109 w106 (obBd 45 5 b26 s103 :: []) := hH110
    refine C_at (n := ⟨93, [], none⟩) (fun _ _ => rfl) ?_ ha108
    refine C_seq ?_
    refine C_seq ?_
    refine C_region ?_
    have h153 := El_cal_Calendar_2 h11
    refine V_y (Y_fieldAddr Tryd.underlying28 rfl Tryd.sizeOf26 (by decide) rfl) rfl rfl rfl ?_
    obtain ⟨v154, h155, h156⟩ := El.list h153
    refine V_y (Y_load h155 Tryd.isAgg26 rfl) rfl rfl rfl ?_
    refine V_y (Y_lenSl h156 rfl Tryd.underlying26 rfl) rfl rfl rfl ?_
    refine V_y (Y_move rfl) rfl rfl rfl ?_
    refine V_to (fun _ _ => rfl) ?_
    have hn177 := Sl.le h156
    obtain ⟨o157, ho157, hm⟩ := Option.bind_eq_some_iff.1 hm
    refine C_cutG (ι := (ByteArray × (Nat → Prop))) (fun ⟨s158, A164⟩ => [(5, .pointer (some ⟨b26, 0, none⟩))]) (fun ⟨s158, A164⟩ => fun w' => o157 = .fin s158 ∧ Hp w.heap.size A164 w' (obBd 45 5 b26 s158 :: []) ∧ Tr w.heap.size A109 w106 A164 w') ?_ ?_
    · refine C_block ?_
      refine C_range ho157 (fun k160 s166 a w' => ∃ i : (Nat → Prop), Has ⟨93, [], none⟩ a ([(5, .pointer (some ⟨b26, 0, none⟩)), (6, .func (.func 17) #[] #[.pointer (some ⟨b26, 0, none⟩)]), (62, v154), (63, .int .i64 (c.specials.length : Int)), (64, .int .i64 (k160 : Int))]) ∧ Hp w.heap.size i w' (obBd 45 5 b26 s166 :: []) ∧ Tr w.heap.size A109 w106 i w') (fun a ha => ⟨A109, ha.sub ⟨rfl, rfl, rfl, rfl, rfl, trivial⟩, ⟨hH, Tr.refl hA⟩⟩) ?_
      rintro K k160 s166 a w167 ⟨A168, ha276, hH169, hr159⟩ hle173 K176 h175
      refine C_of ?_ ha276
      replace h156 := Sl.tr h156 hr159
      replace hK := Tr.trans hK hr159
      replace hB := Nat.le_trans hB hr159.ex.size
      replace hA := hr159.new
      replace hH : Hp w.heap.size A168 w167 (obBd 45 5 b26 s166 :: []) := hH169
      refine C_seq (C_region (V_y (Y_lss rfl rfl) rfl rfl rfl (V_to (fun _ _ => rfl) ?_)))
      refine C_seq ?_
      refine C_cond rfl (fun hc178 => ?_) (fun hc178 => ?_)
      · have hlt174 := lt_of_dec hc178
        obtain ⟨x170, h171, h172⟩ := K176 hlt174
        refine C_skip_to (fun _ _ => rfl) ?_
        refine C_seq ?_
        refine C_block ?_
        refine C_seq ?_
        refine C_region ?_
        obtain ⟨x179, hx179, h171⟩ := Option.bind_eq_some_iff.1 h171
        refine V_indexAddr h156 hx179 Tryd.underlying26 Tryd.sizeOf59 rfl rfl rfl ?_
        intro b180 o181 h182
        obtain ⟨v183, h185, h184⟩ := El_cal_Special h182
        refine V_y (Y_loadA h185 Tryd.isAgg59 Tryd.sizeOf59 rfl) rfl rfl rfl ?_
        refine V_alloc Tryd.zeroValue59 rfl ?_
        intro b186 w187 h188
        have h193 : (v183).oneCell' = true := by obtain ⟨_, _, e, _⟩ := Sl.form h184; rw [e]; rfl
        refine V_storeNew h188 Tryd.sizeOf59 rfl rfl rfl rfl (by exact (List.forall_mem_cons.2 ⟨rfl, (List.forall_mem_cons.2 ⟨h193, (fun _ h => nomatch h)⟩)⟩)) ?_
        intro w189 h190
        have hk195 := h190.kp
        have h194 : El (α := cal_Special) A168 w189 b186 0 x179 := h190.el hA ⟨[.int .i64 x179.day], _, rfl, rfl, ⟨_, rfl, h184⟩⟩
        have ht196 := Kp.tr hk195 hA hB
        replace hH := Hp.kp hH hk195
        replace h156 := Sl.tr h156 ht196
        replace h182 := El.tr h182 ht196
        replace h184 := Sl.tr h184 ht196
        replace hK := Tr.trans hK ht196
        replace hr159 := Tr.trans hr159 ht196
        replace hB := Nat.le_trans hB ht196.ex.size
        replace hA := ht196.new
        refine V_to (fun _ _ => rfl) ?_
        refine C_seq ?_
        refine C_region ?_
        have h197 := El_cal_Special_0 h194
        refine V_y (Y_fieldAddr Tryd.underlying59 rfl Tryd.sizeOf3 (by decide) rfl) rfl rfl rfl ?_
        refine V_y (Y_load (El.int h197) Tryd.isAgg3 rfl) rfl rfl rfl ?_
        refine V_buildOwnH (l := ([x179.day] : List Int)) (len := 1) hH Tryd.underlying46 Tryd.sizeOf3 Tryd.zeroValue3 rfl (by with_unfolding_all rfl) (by decide) (by decide) hB hA ⟨[.int .i64 x179.day], _, rfl, rfl, rfl⟩ rfl rfl ?_
        intro v198 w199 A202 hH204 ht203
        replace h156 := Sl.tr h156 ht203
        replace h194 := El.tr h194 ht203
        replace h197 := El.tr h197 ht203
        replace hK := Tr.trans hK ht203
        replace hr159 := Tr.trans hr159 ht203
        replace hB := Nat.le_trans hB ht203.ex.size
        replace hA := ht203.new
        replace hH : Hp w.heap.size A202 w199 (obS (α := Int) 3 v198 ([x179.day] : List Int) :: obBd 45 5 b26 s166 :: []) := hH204
        refine V_y (Y_assign rfl) rfl rfl rfl ?_
        refine V_to (fun _ _ => rfl) ?_
        refine C_seq ?_
        refine C_seq ?_
        refine C_region ?_
        have h205 := El_cal_Special_1 h194
        refine V_y (Y_fieldAddr Tryd.underlying59 rfl Tryd.sizeOf25 (by decide) rfl) rfl rfl rfl ?_
        obtain ⟨v206, h207, h208⟩ := El.list h205
        refine V_y (Y_load h207 Tryd.isAgg25 rfl) rfl rfl rfl ?_
        refine V_y (Y_lenSl h208 rfl Tryd.underlying25 rfl) rfl rfl rfl ?_
        refine V_y (Y_move rfl) rfl rfl rfl ?_
        refine V_to (fun _ _ => rfl) ?_
        have hn233 := Sl.le h208
        obtain ⟨o209, ho209, h171⟩ := Option.bind_eq_some_iff.1 h171
        refine C_cutG (ι := ((List Int) × Value × (Nat → Prop))) (fun ⟨s210, v216, A218⟩ => [(5, .pointer (some ⟨b26, 0, none⟩)), (6, .func (.func 17) #[] #[.pointer (some ⟨b26, 0, none⟩)]), (13, v216), (62, v154), (63, .int .i64 (c.specials.length : Int)), (64, .int .i64 (k160 : Int))]) (fun ⟨s210, v216, A218⟩ => fun w' => o209 = .fin s210 ∧ Hp w.heap.size A218 w' (obS (α := Int) 3 v216 s210 :: obBd 45 5 b26 s166 :: []) ∧ Tr w.heap.size A202 w199 A218 w') ?_ ?_
        · refine C_block ?_
          refine C_range ho209 (fun k212 s220 a w' => ∃ i : (Value × (Nat → Prop)), Has ⟨93, [], none⟩ a ([(5, .pointer (some ⟨b26, 0, none⟩)), (6, .func (.func 17) #[] #[.pointer (some ⟨b26, 0, none⟩)]), (13, i.1), (62, v154), (63, .int .i64 (c.specials.length : Int)), (64, .int .i64 (k160 : Int)), (72, v206), (73, .int .i64 (x179.shifts.length : Int)), (74, .int .i64 (k212 : Int))]) ∧ Hp w.heap.size i.2 w' (obS (α := Int) 3 i.1 s220 :: obBd 45 5 b26 s166 :: []) ∧ Tr w.heap.size A202 w199 i.2 w') (fun a ha => ⟨(v198, A202), ha.sub ⟨rfl, rfl, rfl, rfl, rfl, rfl, rfl, rfl, rfl, trivial⟩, ⟨hH, Tr.refl hA⟩⟩) ?_
          rintro K k212 s220 a w221 ⟨⟨v222, A224⟩, ha263, hH225, hr211⟩ hle229 K232 h231
          refine C_of ?_ ha263
          replace h156 := Sl.tr h156 hr211
          replace h208 := Sl.tr h208 hr211
          replace hK := Tr.trans hK hr211
          replace hr159 := Tr.trans hr159 hr211
          replace hB := Nat.le_trans hB hr211.ex.size
          replace hA := hr211.new
          replace hH : Hp w.heap.size A224 w221 (obS (α := Int) 3 v222 s220 :: obBd 45 5 b26 s166 :: []) := hH225
          refine C_seq (C_region (V_y (Y_lss rfl rfl) rfl rfl rfl (V_to (fun _ _ => rfl) ?_)))
          refine C_seq ?_
          refine C_cond rfl (fun hc234 => ?_) (fun hc234 => ?_)
          · have hlt230 := lt_of_dec hc234
            obtain ⟨x226, h227, h228⟩ := K232 hlt230
            refine C_skip_to (fun _ _ => rfl) ?_
            refine C_seq ?_
            refine C_block ?_
            refine C_seq ?_
            refine C_region ?_
            obtain ⟨x235, hx235, h227⟩ := Option.bind_eq_some_iff.1 h227
            refine V_indexAddr h208 hx235 Tryd.underlying25 Tryd.sizeOf57 rfl rfl rfl ?_
            intro b236 o237 h238
            obtain ⟨h239, _⟩ := El_cal_Shift h238
            refine V_y (Y_loadA h239 Tryd.isAgg57 Tryd.sizeOf57 rfl) rfl rfl rfl ?_
            refine V_alloc Tryd.zeroValue57 rfl ?_
            intro b240 w241 h242
            refine V_storeNew h242 Tryd.sizeOf57 rfl rfl rfl rfl (by exact (List.forall_mem_cons.2 ⟨rfl, (List.forall_mem_cons.2 ⟨rfl, (List.forall_mem_cons.2 ⟨rfl, (fun _ h => nomatch h)⟩)⟩)⟩)) ?_
            intro w243 h244
            have hk246 := h244.kp
            have h245 : El (α := cal_Shift) A224 w243 b240 0 x235 := h244.el hA ⟨[.int .i64 x235.day], _, rfl, rfl, ⟨[.int .i64 x235.from_], _, rfl, rfl, rfl⟩⟩
            have ht247 := Kp.tr hk246 hA hB
            replace hH := Hp.kp hH hk246
            replace h156 := Sl.tr h156 ht247
            replace h208 := Sl.tr h208 ht247
            replace h238 := El.tr h238 ht247
            replace hK := Tr.trans hK ht247
            replace hr159 := Tr.trans hr159 ht247
            replace hr211 := Tr.trans hr211 ht247
            replace hB := Nat.le_trans hB ht247.ex.size
            replace hA := ht247.new
            refine V_to (fun _ _ => rfl) ?_
            refine C_region ?_
            refine V_y (Y_move rfl) rfl rfl rfl ?_
            have h248 := El_cal_Shift_1 h245
            refine V_y (Y_fieldAddr Tryd.underlying57 rfl Tryd.sizeOf3 (by decide) rfl) rfl rfl rfl ?_
            refine V_y (Y_load (El.int h248) Tryd.isAgg3 rfl) rfl rfl rfl ?_
            have h249 := El_cal_Shift_2 h245
            refine V_y (Y_fieldAddr Tryd.underlying57 rfl Tryd.sizeOf3 (by decide) rfl) rfl rfl rfl ?_
            refine V_y (Y_load (El.int h249) Tryd.isAgg3 rfl) rfl rfl rfl ?_
            refine V_buildSlice (l := ([x235.from_, x235.to_] : List Int)) (len := 2) Tryd.underlying46 Tryd.sizeOf3 Tryd.zeroValue3 rfl (by with_unfolding_all rfl) (by decide) (by decide) hA ⟨[.int .i64 x235.from_], _, rfl, rfl, ⟨[.int .i64 x235.to_], _, rfl, rfl, rfl⟩⟩ rfl rfl ?_
            intro v250 w251 hk253 h252
            have ht254 := Kp.tr hk253 hA hB
            replace hH := Hp.kp hH hk253
            replace h156 := Sl.tr h156 ht254
            replace h208 := Sl.tr h208 ht254
            replace h245 := El.tr h245 ht254
            replace h248 := El.tr h248 ht254
            replace h249 := El.tr h249 ht254
            replace hK := Tr.trans hK ht254
            replace hr159 := Tr.trans hr159 ht254
            replace hr211 := Tr.trans hr211 ht254
            replace hB := Nat.le_trans hB ht254.ex.size
            replace hA := ht254.new
            obtain ⟨x255, hx255, h227⟩ := Option.bind_eq_some_iff.1 h227
            refine V_appendH (e := 3) (v := v222) (l := s220) (ti := Tryd.t3) (bytes := 8) (lim := 17592186044416) hH (i := 0) rfl h252 hx255 Tryd.underlying46 Tryd_info3 rfl rfl rfl rfl (by decide) (by decide) (by decide) hB hA rfl rfl rfl ?_
            intro v256 w257 A258 hH259 ht260
            replace h156 := Sl.tr h156 ht260
            replace h208 := Sl.tr h208 ht260
            replace h245 := El.tr h245 ht260
            replace h248 := El.tr h248 ht260
            replace h249 := El.tr h249 ht260
            replace h252 := Sl.tr h252 ht260
            replace hK := Tr.trans hK ht260
            replace hr159 := Tr.trans hr159 ht260
            replace hr211 := Tr.trans hr211 ht260
            replace hB := Nat.le_trans hB ht260.ex.size
            replace hA := ht260.new
            replace hH : Hp w.heap.size A258 w257 (obS (α := Int) 3 v256 x255 :: obBd 45 5 b26 s166 :: []) := hH259
            refine V_y (Y_assign rfl) rfl rfl rfl ?_
            refine V_to (fun _ _ => rfl) ?_
            refine C_region ?_
            refine V_y (Y_addI rfl rfl) rfl rfl rfl ?_
            refine V_y (Y_move rfl) rfl rfl rfl ?_
            obtain rfl := Option.some.inj h227
            refine V_end (fun a ha261 => ?_)
            exact ⟨x255, hlt230, h228, ⟨(v256, A258), ha261.sub ⟨rfl, rfl, rfl, rfl, rfl, rfl, rfl, rfl, (congrArg (fun z => some (Value.int .i64 z)) (w64_succ hlt230 hn233)), trivial⟩, ⟨hH, hr211⟩⟩⟩
          · refine C_exit (fun a ha262 => ?_)
            exact ⟨(s220, v222, A224), ha262.sub ⟨rfl, rfl, rfl, rfl, rfl, rfl, trivial⟩, ⟨(h231 (eq_of_dec hle229 hc234)).symm, hH, hr211⟩⟩
        rintro ⟨s210, v216, A218⟩ w213 ⟨rfl, hH219, hk214⟩ a ha215
        rw [Lp.andThen_fin] at h171
        replace h156 := Sl.tr h156 hk214
        replace hK := Tr.trans hK hk214
        replace hr159 := Tr.trans hr159 hk214
        replace hB := Nat.le_trans hB hk214.ex.size
        replace hA := hk214.new
        replace hH : Hp w.heap.size A218 w213 (obS (α := Int) 3 v216 s210 :: obBd 45 5 b26 s166 :: []) := hH219
        refine C_at (n := ⟨93, [], none⟩) (fun _ _ => rfl) ?_ ha215
        refine C_region ?_
        refine V_y (Y_move rfl) rfl rfl rfl ?_
        refine V_y (Y_move rfl) rfl rfl rfl ?_
        obtain ⟨A264, ht265, h266, hH267⟩ := Hp.freeze (α := Int) (v := v216) (l := s210) hH (i := 0) rfl hA
        replace h156 := Sl.tr h156 ht265
        replace hK := Tr.trans hK ht265
        replace hr159 := Tr.trans hr159 ht265
        replace hB := Nat.le_trans hB ht265.ex.size
        replace hA := ht265.new
        replace hH : Hp w.heap.size A264 w213 (obBd 45 5 b26 s166 :: []) := hH267
        obtain ⟨x269, hx269, h171⟩ := Option.bind_eq_some_iff.1 h171
        refine V_call Tryd.call17 rfl rfl rfl rfl (cal_CalendarText_1_c w213 hB hA (Tb.tr hT hK) (⟨#[100, 97, 121]⟩ : ByteArray) s210 v216 h266 s166 b26 hH hx269) ?_
        rintro _ w270 ⟨A271, rfl, hH272, ht273⟩
        replace h156 := Sl.tr h156 ht273
        replace h266 := Sl.tr h266 ht273
        replace hK := Tr.trans hK ht273
        replace hr159 := Tr.trans hr159 ht273
        replace hB := Nat.le_trans hB ht273.ex.size
        replace hA := ht273.new
        replace hH : Hp w.heap.size A271 w270 (obBd 45 5 b26 x269 :: []) := hH272
        refine V_to (fun _ _ => rfl) ?_
        refine C_region ?_
        refine V_y (Y_addI rfl rfl) rfl rfl rfl ?_
        refine V_y (Y_move rfl) rfl rfl rfl ?_
        obtain rfl := Option.some.inj h171
        refine V_end (fun a ha274 => ?_)
        exact ⟨x269, hlt174, h172, ⟨A271, ha274.sub ⟨rfl, rfl, rfl, rfl, (congrArg (fun z => some (Value.int .i64 z)) (w64_succ hlt174 hn177)), trivial⟩, ⟨hH, hr159⟩⟩⟩
      · refine C_exit (fun a ha275 => ?_)
        exact ⟨(s166, A168), ha275.sub ⟨rfl, trivial⟩, ⟨(h175 (eq_of_dec hle173 hc178)).symm, hH, hr159⟩⟩
    rintro ⟨s158, A164⟩ w161 ⟨rfl, hH165, hk162⟩ a ha163
    rw [Lp.andThen_fin] at hm
    replace hK := Tr.trans hK hk162
    replace hB := Nat.le_trans hB hk162.ex.size
    replace hA := hk162.new
    replace hH : Hp w.heap.size A164 w161 (obBd 45 5 b26 s158 :: []) := hH165
    refine C_at (n := ⟨93, [], none⟩) (fun _ _ => rfl) ?_ ha163
    refine C_seq ?_
    refine C_seq ?_
    refine C_region ?_
    obtain ⟨x277, hx277, hm⟩ := Option.bind_eq_some_iff.1 hm
    refine V_call Tryd.call21 rfl rfl rfl rfl (strings_Builder_Len_c w161 hB hA s158 b26 hH hx277) ?_
    rintro _ w278 ⟨A279, rfl, hH280, ht281⟩
    replace hK := Tr.trans hK ht281
    replace hB := Nat.le_trans hB ht281.ex.size
    replace hA := ht281.new
    replace hH : Hp w.heap.size A279 w278 (obBd 45 5 b26 s158 :: []) := hH280
    refine V_y (Y_gtr rfl rfl) rfl rfl rfl ?_
    refine V_to (fun _ _ => rfl) ?_
    refine C_cond rfl (fun hc282 => ?_) (fun hc282 => ?_)
    · rw [if_pos hc282] at hm
      refine C_seq ?_
      refine C_region ?_
      refine V_y (Y_assign rfl) rfl rfl rfl ?_
      refine V_y (Y_assign rfl) rfl rfl rfl ?_
      refine V_to (fun _ _ => rfl) ?_
      obtain rfl := Option.some.inj hm
      refine C_ret ?_
      try simp only [↓inBlock_ret, ↓then_ret]
      exact retQ rfl (Res.two Tryd.results5 rfl rfl) ⟨rfl, hK.kp⟩
    · rw [if_neg (nt hc282)] at hm
      refine C_skip_to (fun _ _ => rfl) ?_
      refine C_seq ?_
      refine C_region ?_
      obtain ⟨x283, hx283, hm⟩ := Option.bind_eq_some_iff.1 hm
      refine V_call Tryd.call22 rfl rfl rfl rfl (strings_Builder_String_c w278 hB hA s158 b26 hH hx283) ?_
      rintro _ w284 ⟨A285, rfl, hH286, ht287⟩
      replace hK := Tr.trans hK ht287
      replace hB := Nat.le_trans hB ht287.ex.size
      replace hA := ht287.new
      replace hH : Hp w.heap.size A285 w284 (obBd 45 5 b26 s158 :: []) := hH286
      refine V_y (Y_assign rfl) rfl rfl rfl ?_
      refine V_y (Y_assign rfl) rfl rfl rfl ?_
      refine V_to (fun _ _ => rfl) ?_
      obtain rfl := Option.some.inj hm
      refine C_ret ?_
      try simp only [↓inBlock_ret, ↓then_ret]
      exact retQ rfl (Res.two Tryd.results5 rfl rfl) ⟨rfl, hK.kp⟩

set_option maxRecDepth 4000 in
set_option maxHeartbeats 4000000 in
theorem portref2_ZoneFault_1_c (w : World) (n : Int) : Ret Tryd.prog 40 #[.int .i64 n] w fun v w' => v = .bool (portref2_ZoneFault_1 n) ∧ w = w' := by
  generalize hm : portref2_ZoneFault_1 n = r
  unfold portref2_ZoneFault_1 at hm
  refine enter Tryd.func40 rfl Tryd.ntmps40 rfl ?_
  refine C_seq ?_
  refine C_region ?_
  refine V_y (Y_assign rfl) rfl rfl rfl ?_
  refine V_to (fun _ _ => rfl) ?_
  refine C_seq ?_
  refine C_region ?_
  refine V_y (Y_move rfl) rfl rfl rfl ?_
  refine V_y (Y_lss rfl rfl) rfl rfl rfl ?_
  refine V_y (Y_move rfl) rfl rfl rfl ?_
  refine V_cut 3 (fun _ : Unit => [(8, .bool ((decide (n < (-1440))) || (decide ((1440 : Int) < n))))]) (fun _ w' => w = w') ?_ ?_
  · simp only [List.take, List.drop]
    rcases Bool.eq_false_or_eq_true (decide (n < (-1440))) with hc1 | hc1
    · refine V_gn rfl rfl rfl hc1 rfl rfl rfl ?_
      refine V_gn rfl rfl rfl hc1 rfl rfl rfl ?_
      refine V_y (Y_pick_te rfl hc1 rfl) rfl rfl rfl ?_
      exact V_end fun a ha => ⟨(), ha.sub ⟨(by rw [hc1]; rfl), trivial⟩, rfl⟩
    · refine V_ge rfl rfl rfl hc1 ?_
      refine V_y (Y_move rfl) rfl rfl rfl ?_
      refine V_ge rfl rfl rfl hc1 ?_
      refine V_y (Y_gtr rfl rfl) rfl rfl rfl ?_
      refine V_y (Y_pick_fe rfl hc1 rfl) rfl rfl rfl ?_
      exact V_end fun a ha => ⟨(), ha.sub ⟨(by rw [hc1]; rfl), trivial⟩, rfl⟩
  simp only [List.take, List.drop]
  rintro _ _ rfl
  refine V_y (Y_assign rfl) rfl rfl rfl ?_
  refine V_to (fun _ _ => rfl) ?_
  obtain rfl := hm
  refine C_ret ?_
  try simp only [↓inBlock_ret, ↓then_ret]
  exact retQ rfl (Res.one Tryd.results40 rfl) ⟨rfl, rfl⟩

end Go.Proofs.YthhgggkhlcnbhaaDoor.W
