/-
  Written by program (gen.py) from the IR of the dump: each function computes its model.
-/
import Derived.Test.YtkdkejikbcdadaaDoorProg
import Derived.Test.YtkdkejikbcdadaaDoorGe
import Derived.Test.YtkdkejikbcdadaaDoorClockChecksM
import Derived.KernelRfl
import Derived.Shelf.Strconv.Itoa3
import Derived.Shelf.Strings.OnBuilder
import Derived.Test.YtkdkejikbcdadaaDoorGi
import Derived.Test.YtkdkejikbcdadaaDoorGj
namespace Go.Proofs.YtkdkejikbcdadaaDoor.W
open Go Go.RowKit Go.Pu Go.Gw Go.Proofs Go.Proofs.YtkdkejikbcdadaaDoor.M
set_option linter.unusedVariables false
set_option linter.unusedSimpArgs false

theorem Tryd_info9 : Tryd.prog.info? 9 = some Tryd.t9 := by kernel_rfl
theorem Tryd_info20 : Tryd.prog.info? 20 = some Tryd.t20 := by kernel_rfl
theorem Tryd_mixed : Tryd.prog.follows .mixedOrders = true := by kernel_rfl

instance : GoT AnyV := anyT 9 3
instance : Flat AnyV := anyFlat 9 3
instance : GoT level_Piece := GoT.of (β := Int × Int × Int) fun x => (x.from_, x.to_, x.calendar)

instance : Flat level_Piece := ⟨fun {A w A1 w1 cs x} h => Flat.flat (α := Int × Int × Int) (x := (x.from_, x.to_, x.calendar)) (A := A) (w := w) h⟩

theorem El_level_Piece_ {A : Nat → Prop} {w : World} {b off : Nat} {x : level_Piece} (h : El A w b off x) : El (α := Int × Int × Int) A w b off (x.from_, x.to_, x.calendar) := h

theorem El_level_Piece_0 {A : Nat → Prop} {w : World} {b off : Nat} {x : level_Piece} (h : El A w b off x) : El A w b (off + 0) x.from_ := El.fst (El_level_Piece_ h)

theorem El_level_Piece_1 {A : Nat → Prop} {w : World} {b off : Nat} {x : level_Piece} (h : El A w b off x) : El A w b (off + 1) x.to_ := El.fst (El.snd (El_level_Piece_ h))

theorem El_level_Piece_2 {A : Nat → Prop} {w : World} {b off : Nat} {x : level_Piece} (h : El A w b off x) : El A w b (off + 2) x.calendar := El.snd (El.snd (El_level_Piece_ h))

theorem El_level_Piece {A : Nat → Prop} {w : World} {b off : Nat} {x : level_Piece} (h : El A w b off x) : At w b off [.int .i64 x.from_, .int .i64 x.to_, .int .i64 x.calendar] ∧ True := by
  obtain ⟨h1, h2, cs, h3, h4⟩ := h
  obtain ⟨_, _, rfl, rfl, ⟨_, _, rfl, rfl, rfl⟩⟩ := h3
  exact ⟨h4, trivial⟩

instance : GoT level_Clock := GoT.of (β := Int × Int × Int × Int × Int × Int × (List level_Piece)) fun x => (x.kind, x.level, x.minutes, x.start, x.stop, x.end_, x.pieces)

theorem El_level_Clock_ {A : Nat → Prop} {w : World} {b off : Nat} {x : level_Clock} (h : El A w b off x) : El (α := Int × Int × Int × Int × Int × Int × (List level_Piece)) A w b off (x.kind, x.level, x.minutes, x.start, x.stop, x.end_, x.pieces) := h

theorem El_level_Clock_0 {A : Nat → Prop} {w : World} {b off : Nat} {x : level_Clock} (h : El A w b off x) : El A w b (off + 0) x.kind := El.fst (El_level_Clock_ h)

theorem El_level_Clock_1 {A : Nat → Prop} {w : World} {b off : Nat} {x : level_Clock} (h : El A w b off x) : El A w b (off + 1) x.level := El.fst (El.snd (El_level_Clock_ h))

theorem El_level_Clock_2 {A : Nat → Prop} {w : World} {b off : Nat} {x : level_Clock} (h : El A w b off x) : El A w b (off + 2) x.minutes := El.fst (El.snd (El.snd (El_level_Clock_ h)))

theorem El_level_Clock_3 {A : Nat → Prop} {w : World} {b off : Nat} {x : level_Clock} (h : El A w b off x) : El A w b (off + 3) x.start := El.fst (El.snd (El.snd (El.snd (El_level_Clock_ h))))

theorem El_level_Clock_4 {A : Nat → Prop} {w : World} {b off : Nat} {x : level_Clock} (h : El A w b off x) : El A w b (off + 4) x.stop := El.fst (El.snd (El.snd (El.snd (El.snd (El_level_Clock_ h)))))

theorem El_level_Clock_5 {A : Nat → Prop} {w : World} {b off : Nat} {x : level_Clock} (h : El A w b off x) : El A w b (off + 5) x.end_ := El.fst (El.snd (El.snd (El.snd (El.snd (El.snd (El_level_Clock_ h))))))

theorem El_level_Clock_6 {A : Nat → Prop} {w : World} {b off : Nat} {x : level_Clock} (h : El A w b off x) : El A w b (off + 6) x.pieces := El.snd (El.snd (El.snd (El.snd (El.snd (El.snd (El_level_Clock_ h))))))

theorem El_level_Clock {A : Nat → Prop} {w : World} {b off : Nat} {x : level_Clock} (h : El A w b off x) : ∃ v1, At w b off [.int .i64 x.kind, .int .i64 x.level, .int .i64 x.minutes, .int .i64 x.start, .int .i64 x.stop, .int .i64 x.end_, v1] ∧ Sl A w v1 x.pieces := by
  obtain ⟨h1, h2, cs, h3, h4⟩ := h
  obtain ⟨_, _, rfl, rfl, ⟨_, _, rfl, rfl, ⟨_, _, rfl, rfl, ⟨_, _, rfl, rfl, ⟨_, _, rfl, rfl, ⟨_, _, rfl, rfl, ⟨u1, rfl, g1⟩⟩⟩⟩⟩⟩⟩ := h3
  exact ⟨u1, h4, g1⟩

set_option maxRecDepth 4000 in
set_option maxHeartbeats 4000000 in
theorem level_within_c (w : World) (n : Int) (low : Int) (high : Int) : Ret Tryd.prog 24 #[.int .i64 n, .int .i64 low, .int .i64 high] w fun v w' => v = .bool (level_within n low high) ∧ w = w' := by
  generalize hm : level_within n low high = r
  unfold level_within at hm
  refine enter Tryd.func24 rfl Tryd.ntmps24 rfl ?_
  refine C_seq ?_
  refine C_region ?_
  refine V_y (Y_assign rfl) rfl rfl rfl ?_
  refine V_to (fun _ _ => rfl) ?_
  refine C_seq ?_
  refine C_region ?_
  refine V_y (Y_move rfl) rfl rfl rfl ?_
  refine V_y (Y_move rfl) rfl rfl rfl ?_
  refine V_y (Y_geq rfl rfl) rfl rfl rfl ?_
  refine V_y (Y_move rfl) rfl rfl rfl ?_
  refine V_cut 4 (fun _ : Unit => [(14, .bool ((decide (low ≤ n)) && (decide (n ≤ high))))]) (fun _ w' => w = w') ?_ ?_
  · simp only [List.take, List.drop]
    rcases Bool.eq_false_or_eq_true (decide (low ≤ n)) with hc1 | hc1
    · refine V_ge rfl rfl rfl hc1 ?_
      refine V_y (Y_move rfl) rfl rfl rfl ?_
      refine V_ge rfl rfl rfl hc1 ?_
      refine V_y (Y_move rfl) rfl rfl rfl ?_
      refine V_ge rfl rfl rfl hc1 ?_
      refine V_y (Y_leq rfl rfl) rfl rfl rfl ?_
      refine V_y (Y_pick_te rfl hc1 rfl) rfl rfl rfl ?_
      exact V_end fun a ha => ⟨(), ha.sub ⟨(by rw [hc1]; rfl), trivial⟩, rfl⟩
    · refine V_gn rfl rfl rfl hc1 rfl rfl rfl ?_
      refine V_gn rfl rfl rfl hc1 rfl rfl rfl ?_
      refine V_gn rfl rfl rfl hc1 rfl rfl rfl ?_
      refine V_y (Y_pick_fe rfl hc1 rfl) rfl rfl rfl ?_
      exact V_end fun a ha => ⟨(), ha.sub ⟨(by rw [hc1]; rfl), trivial⟩, rfl⟩
  simp only [List.take, List.drop]
  rintro _ _ rfl
  refine V_y (Y_assign rfl) rfl rfl rfl ?_
  refine V_to (fun _ _ => rfl) ?_
  obtain rfl := hm
  refine C_ret ?_
  try simp only [↓inBlock_ret, ↓then_ret]
  exact retQ rfl (Res.one Tryd.results24 rfl) ⟨rfl, rfl⟩

set_option maxRecDepth 4000 in
set_option maxHeartbeats 4000000 in
theorem level_CheckClock_c (w : World) {A : Nat → Prop} (hA : ∀ b, w.heap.size ≤ b → A b) (c : level_Clock) (v_c : Value) (h_c : Sl A w v_c c.pieces) {r : Int} (hm : level_CheckClock c = some r) : Ret Tryd.prog 9 #[.agg #[.int .i64 c.kind, .int .i64 c.level, .int .i64 c.minutes, .int .i64 c.start, .int .i64 c.stop, .int .i64 c.end_, v_c]] w fun v w' => v = .int .i64 r ∧ Kp w w' := by
  unfold level_CheckClock at hm
  refine enter Tryd.func9 rfl Tryd.ntmps9 rfl ?_
  have hA0 := hA
  have hB := Nat.le_refl w.heap.size
  have hK : Tr w.heap.size A w A w := Tr.refl hA
  have hH : Hp w.heap.size A w [] := Hp.nil
  refine C_seq ?_
  refine C_region ?_
  refine V_box rfl rfl ?_
  intro b3 w4 h5
  have hk7 := h5.kp
  have h6 : El (α := level_Clock) A w4 b3 0 c := h5.el hA ⟨[.int .i64 c.kind], _, rfl, rfl, ⟨[.int .i64 c.level], _, rfl, rfl, ⟨[.int .i64 c.minutes], _, rfl, rfl, ⟨[.int .i64 c.start], _, rfl, rfl, ⟨[.int .i64 c.stop], _, rfl, rfl, ⟨[.int .i64 c.end_], _, rfl, rfl, ⟨_, rfl, h_c⟩⟩⟩⟩⟩⟩⟩
  have ht8 := Kp.tr hk7 hA hB
  replace hH := Hp.kp hH hk7
  replace h_c := Sl.tr h_c ht8
  replace hK := Tr.trans hK ht8
  replace hB := Nat.le_trans hB ht8.ex.size
  replace hA := ht8.new
  refine V_y (Y_assign rfl) rfl rfl rfl ?_
  refine V_to (fun _ _ => rfl) ?_
  refine C_seq ?_
  refine C_seq ?_
  refine C_region ?_
  have h9 := El_level_Clock_0 h6
  refine V_y (Y_fieldAddr Tryd.underlying31 rfl Tryd.sizeOf3 (by decide) rfl) rfl rfl rfl ?_
  refine V_y (Y_load (El.int h9) Tryd.isAgg3 rfl) rfl rfl rfl ?_
  refine V_call Tryd.call24 rfl rfl rfl rfl (level_within_c w4 c.kind 1 3) ?_
  rintro _ _ ⟨rfl, rfl⟩
  refine V_y (Y_not rfl) rfl rfl rfl ?_
  refine V_y (Y_move rfl) rfl rfl rfl ?_
  refine V_cut 5 (fun _ : Unit => [(1, .pointer (some ⟨b3, 0, none⟩)), (14, .bool ((!(level_within c.kind 1 3)) || (!(level_within c.level 0 19))))]) (fun _ w' => w4 = w') ?_ ?_
  · simp only [List.take, List.drop]
    rcases Bool.eq_false_or_eq_true (!(level_within c.kind 1 3)) with hc10 | hc10
    · refine V_gn rfl rfl rfl hc10 rfl rfl rfl ?_
      refine V_gn rfl rfl rfl hc10 rfl rfl rfl ?_
      refine V_gn rfl rfl rfl hc10 rfl rfl rfl ?_
      refine V_gn rfl rfl rfl hc10 rfl rfl rfl ?_
      refine V_y (Y_pick_te rfl hc10 rfl) rfl rfl rfl ?_
      exact V_end fun a ha => ⟨(), ha.sub ⟨rfl, (by rw [hc10]; rfl), trivial⟩, rfl⟩
    · refine V_ge rfl rfl rfl hc10 ?_
      have h12 := El_level_Clock_1 h6
      refine V_y (Y_fieldAddr Tryd.underlying31 rfl Tryd.sizeOf3 (by decide) rfl) rfl rfl rfl ?_
      refine V_ge rfl rfl rfl hc10 ?_
      refine V_y (Y_load (El.int h12) Tryd.isAgg3 rfl) rfl rfl rfl ?_
      refine V_ge rfl rfl rfl hc10 ?_
      refine V_call Tryd.call24 rfl rfl rfl rfl (level_within_c w4 c.level 0 19) ?_
      rintro _ _ ⟨rfl, rfl⟩
      refine V_ge rfl rfl rfl hc10 ?_
      refine V_y (Y_not rfl) rfl rfl rfl ?_
      refine V_y (Y_pick_fe rfl hc10 rfl) rfl rfl rfl ?_
      exact V_end fun a ha => ⟨(), ha.sub ⟨rfl, (by rw [hc10]; rfl), trivial⟩, rfl⟩
  simp only [List.take, List.drop]
  rintro _ _ rfl
  refine V_y (Y_move rfl) rfl rfl rfl ?_
  refine V_cut 5 (fun _ : Unit => [(1, .pointer (some ⟨b3, 0, none⟩)), (20, .bool (((!(level_within c.kind 1 3)) || (!(level_within c.level 0 19))) || (!(level_within c.minutes 0 100000))))]) (fun _ w' => w4 = w') ?_ ?_
  · simp only [List.take, List.drop]
    rcases Bool.eq_false_or_eq_true (((!(level_within c.kind 1 3)) || (!(level_within c.level 0 19)))) with hc13 | hc13
    · refine V_gn rfl rfl rfl hc13 rfl rfl rfl ?_
      refine V_gn rfl rfl rfl hc13 rfl rfl rfl ?_
      refine V_gn rfl rfl rfl hc13 rfl rfl rfl ?_
      refine V_gn rfl rfl rfl hc13 rfl rfl rfl ?_
      refine V_y (Y_pick_te rfl hc13 rfl) rfl rfl rfl ?_
      exact V_end fun a ha => ⟨(), ha.sub ⟨rfl, (by rw [hc13]; rfl), trivial⟩, rfl⟩
    · refine V_ge rfl rfl rfl hc13 ?_
      have h15 := El_level_Clock_2 h6
      refine V_y (Y_fieldAddr Tryd.underlying31 rfl Tryd.sizeOf3 (by decide) rfl) rfl rfl rfl ?_
      refine V_ge rfl rfl rfl hc13 ?_
      refine V_y (Y_load (El.int h15) Tryd.isAgg3 rfl) rfl rfl rfl ?_
      refine V_ge rfl rfl rfl hc13 ?_
      refine V_call Tryd.call24 rfl rfl rfl rfl (level_within_c w4 c.minutes 0 100000) ?_
      rintro _ _ ⟨rfl, rfl⟩
      refine V_ge rfl rfl rfl hc13 ?_
      refine V_y (Y_not rfl) rfl rfl rfl ?_
      refine V_y (Y_pick_fe rfl hc13 rfl) rfl rfl rfl ?_
      exact V_end fun a ha => ⟨(), ha.sub ⟨rfl, (by rw [hc13]; rfl), trivial⟩, rfl⟩
  simp only [List.take, List.drop]
  rintro _ _ rfl
  refine V_y (Y_move rfl) rfl rfl rfl ?_
  refine V_cut 5 (fun _ : Unit => [(1, .pointer (some ⟨b3, 0, none⟩)), (26, .bool ((((!(level_within c.kind 1 3)) || (!(level_within c.level 0 19))) || (!(level_within c.minutes 0 100000))) || (!(level_within c.start 0 3000000))))]) (fun _ w' => w4 = w') ?_ ?_
  · simp only [List.take, List.drop]
    rcases Bool.eq_false_or_eq_true ((((!(level_within c.kind 1 3)) || (!(level_within c.level 0 19))) || (!(level_within c.minutes 0 100000)))) with hc16 | hc16
    · refine V_gn rfl rfl rfl hc16 rfl rfl rfl ?_
      refine V_gn rfl rfl rfl hc16 rfl rfl rfl ?_
      refine V_gn rfl rfl rfl hc16 rfl rfl rfl ?_
      refine V_gn rfl rfl rfl hc16 rfl rfl rfl ?_
      refine V_y (Y_pick_te rfl hc16 rfl) rfl rfl rfl ?_
      exact V_end fun a ha => ⟨(), ha.sub ⟨rfl, (by rw [hc16]; rfl), trivial⟩, rfl⟩
    · refine V_ge rfl rfl rfl hc16 ?_
      have h18 := El_level_Clock_3 h6
      refine V_y (Y_fieldAddr Tryd.underlying31 rfl Tryd.sizeOf3 (by decide) rfl) rfl rfl rfl ?_
      refine V_ge rfl rfl rfl hc16 ?_
      refine V_y (Y_load (El.int h18) Tryd.isAgg3 rfl) rfl rfl rfl ?_
      refine V_ge rfl rfl rfl hc16 ?_
      refine V_call Tryd.call24 rfl rfl rfl rfl (level_within_c w4 c.start 0 3000000) ?_
      rintro _ _ ⟨rfl, rfl⟩
      refine V_ge rfl rfl rfl hc16 ?_
      refine V_y (Y_not rfl) rfl rfl rfl ?_
      refine V_y (Y_pick_fe rfl hc16 rfl) rfl rfl rfl ?_
      exact V_end fun a ha => ⟨(), ha.sub ⟨rfl, (by rw [hc16]; rfl), trivial⟩, rfl⟩
  simp only [List.take, List.drop]
  rintro _ _ rfl
  refine V_y (Y_move rfl) rfl rfl rfl ?_
  refine V_cut 12 (fun _ : Unit => [(1, .pointer (some ⟨b3, 0, none⟩)), (39, .bool (((((!(level_within c.kind 1 3)) || (!(level_within c.level 0 19))) || (!(level_within c.minutes 0 100000))) || (!(level_within c.start 0 3000000))) || ((c.stop != (-1)) && (!(level_within c.stop c.start 3000000)))))]) (fun _ w' => w4 = w') ?_ ?_
  · simp only [List.take, List.drop]
    rcases Bool.eq_false_or_eq_true (((((!(level_within c.kind 1 3)) || (!(level_within c.level 0 19))) || (!(level_within c.minutes 0 100000))) || (!(level_within c.start 0 3000000)))) with hc19 | hc19
    · refine V_gn rfl rfl rfl hc19 rfl rfl rfl ?_
      refine V_gn rfl rfl rfl hc19 rfl rfl rfl ?_
      refine V_gn rfl rfl rfl hc19 rfl rfl rfl ?_
      refine V_gn rfl rfl rfl hc19 rfl rfl rfl ?_
      refine V_gu rfl rfl rfl rfl rfl ?_
      refine V_gu rfl rfl rfl rfl rfl ?_
      refine V_gu rfl rfl rfl rfl rfl ?_
      refine V_gu rfl rfl rfl rfl rfl ?_
      refine V_gu rfl rfl rfl rfl rfl ?_
      refine V_gu rfl rfl rfl rfl rfl ?_
      refine V_gn rfl rfl rfl hc19 rfl rfl rfl ?_
      refine V_y (Y_pick_te rfl hc19 rfl) rfl rfl rfl ?_
      exact V_end fun a ha => ⟨(), ha.sub ⟨rfl, (by rw [hc19]; rfl), trivial⟩, rfl⟩
    · refine V_ge rfl rfl rfl hc19 ?_
      have h21 := El_level_Clock_4 h6
      refine V_y (Y_fieldAddr Tryd.underlying31 rfl Tryd.sizeOf3 (by decide) rfl) rfl rfl rfl ?_
      refine V_ge rfl rfl rfl hc19 ?_
      refine V_y (Y_load (El.int h21) Tryd.isAgg3 rfl) rfl rfl rfl ?_
      refine V_ge rfl rfl rfl hc19 ?_
      refine V_y (Y_neq rfl rfl) rfl rfl rfl ?_
      refine V_ge rfl rfl rfl hc19 ?_
      refine V_y (Y_move rfl) rfl rfl rfl ?_
      refine V_cut 7 (fun _ : Unit => [(1, .pointer (some ⟨b3, 0, none⟩)), (27, .bool ((((!(level_within c.kind 1 3)) || (!(level_within c.level 0 19))) || (!(level_within c.minutes 0 100000))) || (!(level_within c.start 0 3000000)))), (38, .bool ((c.stop != (-1)) && (!(level_within c.stop c.start 3000000))))]) (fun _ w' => w4 = w') ?_ ?_
      · simp only [List.take, List.drop]
        rcases Bool.eq_false_or_eq_true (c.stop != (-1)) with hc22 | hc22
        · refine V_ge rfl rfl rfl hc22 ?_
          have h24 := El_level_Clock_4 h6
          refine V_y (Y_fieldAddr Tryd.underlying31 rfl Tryd.sizeOf3 (by decide) rfl) rfl rfl rfl ?_
          refine V_ge rfl rfl rfl hc22 ?_
          refine V_y (Y_load (El.int h24) Tryd.isAgg3 rfl) rfl rfl rfl ?_
          refine V_ge rfl rfl rfl hc22 ?_
          have h25 := El_level_Clock_3 h6
          refine V_y (Y_fieldAddr Tryd.underlying31 rfl Tryd.sizeOf3 (by decide) rfl) rfl rfl rfl ?_
          refine V_ge rfl rfl rfl hc22 ?_
          refine V_y (Y_load (El.int h25) Tryd.isAgg3 rfl) rfl rfl rfl ?_
          refine V_ge rfl rfl rfl hc22 ?_
          refine V_call Tryd.call24 rfl rfl rfl rfl (level_within_c w4 c.stop c.start 3000000) ?_
          rintro _ _ ⟨rfl, rfl⟩
          refine V_ge rfl rfl rfl hc22 ?_
          refine V_y (Y_not rfl) rfl rfl rfl ?_
          refine V_ge rfl rfl rfl hc19 ?_
          refine V_y (Y_pick_te rfl hc22 rfl) rfl rfl rfl ?_
          exact V_end fun a ha => ⟨(), ha.sub ⟨rfl, rfl, (by rw [hc22]; rfl), trivial⟩, rfl⟩
        · refine V_gn rfl rfl rfl hc22 rfl rfl rfl ?_
          refine V_gn rfl rfl rfl hc22 rfl rfl rfl ?_
          refine V_gn rfl rfl rfl hc22 rfl rfl rfl ?_
          refine V_gn rfl rfl rfl hc22 rfl rfl rfl ?_
          refine V_gn rfl rfl rfl hc22 rfl rfl rfl ?_
          refine V_gn rfl rfl rfl hc22 rfl rfl rfl ?_
          refine V_ge rfl rfl rfl hc19 ?_
          refine V_y (Y_pick_fe rfl hc22 rfl) rfl rfl rfl ?_
          exact V_end fun a ha => ⟨(), ha.sub ⟨rfl, rfl, (by rw [hc22]; rfl), trivial⟩, rfl⟩
      simp only [List.take, List.drop]
      rintro _ _ rfl
      refine V_y (Y_pick_fe rfl hc19 rfl) rfl rfl rfl ?_
      exact V_end fun a ha => ⟨(), ha.sub ⟨rfl, (by rw [hc19]; rfl), trivial⟩, rfl⟩
  simp only [List.take, List.drop]
  rintro _ _ rfl
  refine V_y (Y_move rfl) rfl rfl rfl ?_
  refine V_cut 5 (fun _ : Unit => [(1, .pointer (some ⟨b3, 0, none⟩)), (45, .bool ((((((!(level_within c.kind 1 3)) || (!(level_within c.level 0 19))) || (!(level_within c.minutes 0 100000))) || (!(level_within c.start 0 3000000))) || ((c.stop != (-1)) && (!(level_within c.stop c.start 3000000)))) || (!(level_within c.end_ 0 2))))]) (fun _ w' => w4 = w') ?_ ?_
  · simp only [List.take, List.drop]
    rcases Bool.eq_false_or_eq_true ((((((!(level_within c.kind 1 3)) || (!(level_within c.level 0 19))) || (!(level_within c.minutes 0 100000))) || (!(level_within c.start 0 3000000))) || ((c.stop != (-1)) && (!(level_within c.stop c.start 3000000))))) with hc26 | hc26
    · refine V_gn rfl rfl rfl hc26 rfl rfl rfl ?_
      refine V_gn rfl rfl rfl hc26 rfl rfl rfl ?_
      refine V_gn rfl rfl rfl hc26 rfl rfl rfl ?_
      refine V_gn rfl rfl rfl hc26 rfl rfl rfl ?_
      refine V_y (Y_pick_te rfl hc26 rfl) rfl rfl rfl ?_
      exact V_end fun a ha => ⟨(), ha.sub ⟨rfl, (by rw [hc26]; rfl), trivial⟩, rfl⟩
    · refine V_ge rfl rfl rfl hc26 ?_
      have h28 := El_level_Clock_5 h6
      refine V_y (Y_fieldAddr Tryd.underlying31 rfl Tryd.sizeOf3 (by decide) rfl) rfl rfl rfl ?_
      refine V_ge rfl rfl rfl hc26 ?_
      refine V_y (Y_load (El.int h28) Tryd.isAgg3 rfl) rfl rfl rfl ?_
      refine V_ge rfl rfl rfl hc26 ?_
      refine V_call Tryd.call24 rfl rfl rfl rfl (level_within_c w4 c.end_ 0 2) ?_
      rintro _ _ ⟨rfl, rfl⟩
      refine V_ge rfl rfl rfl hc26 ?_
      refine V_y (Y_not rfl) rfl rfl rfl ?_
      refine V_y (Y_pick_fe rfl hc26 rfl) rfl rfl rfl ?_
      exact V_end fun a ha => ⟨(), ha.sub ⟨rfl, (by rw [hc26]; rfl), trivial⟩, rfl⟩
  simp only [List.take, List.drop]
  rintro _ _ rfl
  refine V_to (fun _ _ => rfl) ?_
  refine C_cond rfl (fun hc29 => ?_) (fun hc29 => ?_)
  · rw [if_pos hc29] at hm
    refine C_seq ?_
    refine C_region ?_
    refine V_y (Y_assign rfl) rfl rfl rfl ?_
    refine V_to (fun _ _ => rfl) ?_
    obtain rfl := Option.some.inj hm
    refine C_ret ?_
    try simp only [↓inBlock_ret, ↓then_ret]
    exact retQ rfl (Res.one Tryd.results9 rfl) ⟨rfl, hK.kp⟩
  · rw [if_neg (nt hc29)] at hm
    refine C_skip_to (fun _ _ => rfl) ?_
    refine C_seq ?_
    refine C_seq ?_
    refine C_region ?_
    have h30 := El_level_Clock_4 h6
    refine V_y (Y_fieldAddr Tryd.underlying31 rfl Tryd.sizeOf3 (by decide) rfl) rfl rfl rfl ?_
    refine V_y (Y_load (El.int h30) Tryd.isAgg3 rfl) rfl rfl rfl ?_
    refine V_y (Y_eql rfl rfl) rfl rfl rfl ?_
    have h31 := El_level_Clock_5 h6
    refine V_y (Y_fieldAddr Tryd.underlying31 rfl Tryd.sizeOf3 (by decide) rfl) rfl rfl rfl ?_
    refine V_y (Y_load (El.int h31) Tryd.isAgg3 rfl) rfl rfl rfl ?_
    refine V_y (Y_eql rfl rfl) rfl rfl rfl ?_
    refine V_y (Y_bneq Tryd.underlying4 rfl rfl) rfl rfl rfl ?_
    refine V_to (fun _ _ => rfl) ?_
    refine C_cond rfl (fun hc32 => ?_) (fun hc32 => ?_)
    · rw [if_pos hc32] at hm
      refine C_seq ?_
      refine C_region ?_
      refine V_y (Y_assign rfl) rfl rfl rfl ?_
      refine V_to (fun _ _ => rfl) ?_
      obtain rfl := Option.some.inj hm
      refine C_ret ?_
      try simp only [↓inBlock_ret, ↓then_ret]
      exact retQ rfl (Res.one Tryd.results9 rfl) ⟨rfl, hK.kp⟩
    · rw [if_neg (nt hc32)] at hm
      refine C_skip_to (fun _ _ => rfl) ?_
      refine C_seq ?_
      refine C_seq ?_
      refine C_region ?_
      have h33 := El_level_Clock_6 h6
      refine V_y (Y_fieldAddr Tryd.underlying31 rfl Tryd.sizeOf29 (by decide) rfl) rfl rfl rfl ?_
      obtain ⟨v34, h35, h36⟩ := El.list h33
      refine V_y (Y_load h35 Tryd.isAgg29 rfl) rfl rfl rfl ?_
      refine V_y (Y_lenSl h36 rfl Tryd.underlying29 rfl) rfl rfl rfl ?_
      refine V_y (Y_gtr rfl rfl) rfl rfl rfl ?_
      refine V_to (fun _ _ => rfl) ?_
      refine C_cond rfl (fun hc37 => ?_) (fun hc37 => ?_)
      · rw [if_pos hc37] at hm
        refine C_seq ?_
        refine C_region ?_
        refine V_y (Y_assign rfl) rfl rfl rfl ?_
        refine V_to (fun _ _ => rfl) ?_
        obtain rfl := Option.some.inj hm
        refine C_ret ?_
        try simp only [↓inBlock_ret, ↓then_ret]
        exact retQ rfl (Res.one Tryd.results9 rfl) ⟨rfl, hK.kp⟩
      · rw [if_neg (nt hc37)] at hm
        refine C_skip_to (fun _ _ => rfl) ?_
        refine C_seq ?_
        refine C_seq ?_
        refine C_region ?_
        have h38 := El_level_Clock_6 h6
        refine V_y (Y_fieldAddr Tryd.underlying31 rfl Tryd.sizeOf29 (by decide) rfl) rfl rfl rfl ?_
        obtain ⟨v39, h40, h41⟩ := El.list h38
        refine V_y (Y_load h40 Tryd.isAgg29 rfl) rfl rfl rfl ?_
        refine V_y (Y_lenSl h41 rfl Tryd.underlying29 rfl) rfl rfl rfl ?_
        refine V_y (Y_move rfl) rfl rfl rfl ?_
        refine V_to (fun _ _ => rfl) ?_
        have hn62 := Sl.le h41
        obtain ⟨o42, ho42, hm⟩ := Option.bind_eq_some_iff.1 hm
        refine C_cutG (ι := (Unit × (Nat → Prop))) (fun ⟨s43, A49⟩ => []) (fun ⟨s43, A49⟩ => fun w' => o42 = .fin s43 ∧ Hp w.heap.size A49 w' ([]) ∧ Tr w.heap.size A w4 A49 w') ?_ ?_
        · refine C_block ?_
          refine C_range ho42 (fun k45 _ a w' => ∃ i : (Nat → Prop), Has ⟨135, [], none⟩ a ([(1, .pointer (some ⟨b3, 0, none⟩)), (58, v39), (59, .int .i64 (c.pieces.length : Int)), (60, .int .i64 (k45 : Int))]) ∧ Hp w.heap.size i w' ([]) ∧ Tr w.heap.size A w4 i w') (fun a ha => ⟨A, ha.sub ⟨rfl, rfl, rfl, rfl, trivial⟩, ⟨hH, Tr.refl hA⟩⟩) ?_
          rintro K k45 _ a w52 ⟨A53, ha133, hH54, hr44⟩ hle58 K61 h60
          refine C_of ?_ ha133
          replace h6 := El.tr h6 hr44
          replace h41 := Sl.tr h41 hr44
          replace hK := Tr.trans hK hr44
          replace hB := Nat.le_trans hB hr44.ex.size
          replace hA := hr44.new
          replace hH : Hp w.heap.size A53 w52 ([]) := hH54
          refine C_seq (C_region (V_y (Y_lss rfl rfl) rfl rfl rfl (V_to (fun _ _ => rfl) ?_)))
          refine C_seq ?_
          refine C_cond rfl (fun hc63 => ?_) (fun hc63 => ?_)
          · have hlt59 := lt_of_dec hc63
            obtain ⟨x55, h56, h57⟩ := K61 hlt59
            refine C_skip_to (fun _ _ => rfl) ?_
            refine C_seq ?_
            refine C_block ?_
            refine C_seq ?_
            refine C_region ?_
            refine V_y (Y_move rfl) rfl rfl rfl ?_
            obtain ⟨x64, hx64, h56⟩ := Option.bind_eq_some_iff.1 h56
            refine V_indexAddr h41 hx64 Tryd.underlying29 Tryd.sizeOf50 rfl rfl rfl ?_
            intro b65 o66 h67
            obtain ⟨h68, _⟩ := El_level_Piece h67
            refine V_y (Y_loadA h68 Tryd.isAgg50 Tryd.sizeOf50 rfl) rfl rfl rfl ?_
            refine V_alloc Tryd.zeroValue50 rfl ?_
            intro b69 w70 h71
            refine V_y (Y_assign rfl) rfl rfl rfl ?_
            refine V_storeNew h71 Tryd.sizeOf50 rfl rfl rfl rfl (by exact (List.forall_mem_cons.2 ⟨rfl, (List.forall_mem_cons.2 ⟨rfl, (List.forall_mem_cons.2 ⟨rfl, (fun _ h => nomatch h)⟩)⟩)⟩)) ?_
            intro w72 h73
            have hk75 := h73.kp
            have h74 : El (α := level_Piece) A53 w72 b69 0 x64 := h73.el hA ⟨[.int .i64 x64.from_], _, rfl, rfl, ⟨[.int .i64 x64.to_], _, rfl, rfl, rfl⟩⟩
            have ht76 := Kp.tr hk75 hA hB
            replace hH := Hp.kp hH hk75
            replace h6 := El.tr h6 ht76
            replace h41 := Sl.tr h41 ht76
            replace h67 := El.tr h67 ht76
            replace hK := Tr.trans hK ht76
            replace hr44 := Tr.trans hr44 ht76
            replace hB := Nat.le_trans hB ht76.ex.size
            replace hA := ht76.new
            refine V_to (fun _ _ => rfl) ?_
            refine C_block ?_
            refine C_seq ?_
            refine C_region ?_
            have h77 := El_level_Piece_0 h74
            refine V_y (Y_fieldAddr Tryd.underlying50 rfl Tryd.sizeOf3 (by decide) rfl) rfl rfl rfl ?_
            refine V_y (Y_load (El.int h77) Tryd.isAgg3 rfl) rfl rfl rfl ?_
            have h78 := El_level_Clock_3 h6
            refine V_y (Y_fieldAddr Tryd.underlying31 rfl Tryd.sizeOf3 (by decide) rfl) rfl rfl rfl ?_
            refine V_y (Y_load (El.int h78) Tryd.isAgg3 rfl) rfl rfl rfl ?_
            refine V_call Tryd.call24 rfl rfl rfl rfl (level_within_c w72 x64.from_ c.start 3000000) ?_
            rintro _ _ ⟨rfl, rfl⟩
            refine V_y (Y_not rfl) rfl rfl rfl ?_
            refine V_y (Y_move rfl) rfl rfl rfl ?_
            refine V_cut 5 (fun _ : Unit => [(1, .pointer (some ⟨b3, 0, none⟩)), (3, .int .i64 (k45 : Int)), (4, .pointer (some ⟨b69, 0, none⟩)), (58, v39), (59, .int .i64 (c.pieces.length : Int)), (60, .int .i64 (k45 : Int)), (77, .bool ((!(level_within x64.from_ c.start 3000000)) || (!(level_within x64.calendar 0 19))))]) (fun _ w' => w72 = w') ?_ ?_
            · simp only [List.take, List.drop]
              rcases Bool.eq_false_or_eq_true (!(level_within x64.from_ c.start 3000000)) with hc79 | hc79
              · refine V_gn rfl rfl rfl hc79 rfl rfl rfl ?_
                refine V_gn rfl rfl rfl hc79 rfl rfl rfl ?_
                refine V_gn rfl rfl rfl hc79 rfl rfl rfl ?_
                refine V_gn rfl rfl rfl hc79 rfl rfl rfl ?_
                refine V_y (Y_pick_te rfl hc79 rfl) rfl rfl rfl ?_
                exact V_end fun a ha => ⟨(), ha.sub ⟨rfl, rfl, rfl, rfl, rfl, rfl, (by rw [hc79]; rfl), trivial⟩, rfl⟩
              · refine V_ge rfl rfl rfl hc79 ?_
                have h81 := El_level_Piece_2 h74
                refine V_y (Y_fieldAddr Tryd.underlying50 rfl Tryd.sizeOf3 (by decide) rfl) rfl rfl rfl ?_
                refine V_ge rfl rfl rfl hc79 ?_
                refine V_y (Y_load (El.int h81) Tryd.isAgg3 rfl) rfl rfl rfl ?_
                refine V_ge rfl rfl rfl hc79 ?_
                refine V_call Tryd.call24 rfl rfl rfl rfl (level_within_c w72 x64.calendar 0 19) ?_
                rintro _ _ ⟨rfl, rfl⟩
                refine V_ge rfl rfl rfl hc79 ?_
                refine V_y (Y_not rfl) rfl rfl rfl ?_
                refine V_y (Y_pick_fe rfl hc79 rfl) rfl rfl rfl ?_
                exact V_end fun a ha => ⟨(), ha.sub ⟨rfl, rfl, rfl, rfl, rfl, rfl, (by rw [hc79]; rfl), trivial⟩, rfl⟩
            simp only [List.take, List.drop]
            rintro _ _ rfl
            refine V_y (Y_move rfl) rfl rfl rfl ?_
            refine V_cut 13 (fun _ : Unit => [(1, .pointer (some ⟨b3, 0, none⟩)), (3, .int .i64 (k45 : Int)), (4, .pointer (some ⟨b69, 0, none⟩)), (58, v39), (59, .int .i64 (c.pieces.length : Int)), (60, .int .i64 (k45 : Int)), (91, .bool (((!(level_within x64.from_ c.start 3000000)) || (!(level_within x64.calendar 0 19))) || ((x64.to_ != (-1)) && (!(level_within x64.to_ (w64 (x64.from_ + 1)) 3000000)))))]) (fun _ w' => w72 = w') ?_ ?_
            · simp only [List.take, List.drop]
              rcases Bool.eq_false_or_eq_true (((!(level_within x64.from_ c.start 3000000)) || (!(level_within x64.calendar 0 19)))) with hc82 | hc82
              · refine V_gn rfl rfl rfl hc82 rfl rfl rfl ?_
                refine V_gn rfl rfl rfl hc82 rfl rfl rfl ?_
                refine V_gn rfl rfl rfl hc82 rfl rfl rfl ?_
                refine V_gn rfl rfl rfl hc82 rfl rfl rfl ?_
                refine V_gu rfl rfl rfl rfl rfl ?_
                refine V_gu rfl rfl rfl rfl rfl ?_
                refine V_gu rfl rfl rfl rfl rfl ?_
                refine V_gu rfl rfl rfl rfl rfl ?_
                refine V_gu rfl rfl rfl rfl rfl ?_
                refine V_gu rfl rfl rfl rfl rfl ?_
                refine V_gu rfl rfl rfl rfl rfl ?_
                refine V_gn rfl rfl rfl hc82 rfl rfl rfl ?_
                refine V_y (Y_pick_te rfl hc82 rfl) rfl rfl rfl ?_
                exact V_end fun a ha => ⟨(), ha.sub ⟨rfl, rfl, rfl, rfl, rfl, rfl, (by rw [hc82]; rfl), trivial⟩, rfl⟩
              · refine V_ge rfl rfl rfl hc82 ?_
                have h84 := El_level_Piece_1 h74
                refine V_y (Y_fieldAddr Tryd.underlying50 rfl Tryd.sizeOf3 (by decide) rfl) rfl rfl rfl ?_
                refine V_ge rfl rfl rfl hc82 ?_
                refine V_y (Y_load (El.int h84) Tryd.isAgg3 rfl) rfl rfl rfl ?_
                refine V_ge rfl rfl rfl hc82 ?_
                refine V_y (Y_neq rfl rfl) rfl rfl rfl ?_
                refine V_ge rfl rfl rfl hc82 ?_
                refine V_y (Y_move rfl) rfl rfl rfl ?_
                refine V_cut 8 (fun _ : Unit => [(1, .pointer (some ⟨b3, 0, none⟩)), (3, .int .i64 (k45 : Int)), (4, .pointer (some ⟨b69, 0, none⟩)), (58, v39), (59, .int .i64 (c.pieces.length : Int)), (60, .int .i64 (k45 : Int)), (78, .bool ((!(level_within x64.from_ c.start 3000000)) || (!(level_within x64.calendar 0 19)))), (90, .bool ((x64.to_ != (-1)) && (!(level_within x64.to_ (w64 (x64.from_ + 1)) 3000000))))]) (fun _ w' => w72 = w') ?_ ?_
                · simp only [List.take, List.drop]
                  rcases Bool.eq_false_or_eq_true (x64.to_ != (-1)) with hc85 | hc85
                  · refine V_ge rfl rfl rfl hc85 ?_
                    have h87 := El_level_Piece_1 h74
                    refine V_y (Y_fieldAddr Tryd.underlying50 rfl Tryd.sizeOf3 (by decide) rfl) rfl rfl rfl ?_
                    refine V_ge rfl rfl rfl hc85 ?_
                    refine V_y (Y_load (El.int h87) Tryd.isAgg3 rfl) rfl rfl rfl ?_
                    refine V_ge rfl rfl rfl hc85 ?_
                    have h88 := El_level_Piece_0 h74
                    refine V_y (Y_fieldAddr Tryd.underlying50 rfl Tryd.sizeOf3 (by decide) rfl) rfl rfl rfl ?_
                    refine V_ge rfl rfl rfl hc85 ?_
                    refine V_y (Y_load (El.int h88) Tryd.isAgg3 rfl) rfl rfl rfl ?_
                    refine V_ge rfl rfl rfl hc85 ?_
                    refine V_y (Y_addI rfl rfl) rfl rfl rfl ?_
                    refine V_ge rfl rfl rfl hc85 ?_
                    refine V_call Tryd.call24 rfl rfl rfl rfl (level_within_c w72 x64.to_ (w64 (x64.from_ + 1)) 3000000) ?_
                    rintro _ _ ⟨rfl, rfl⟩
                    refine V_ge rfl rfl rfl hc85 ?_
                    refine V_y (Y_not rfl) rfl rfl rfl ?_
                    refine V_ge rfl rfl rfl hc82 ?_
                    refine V_y (Y_pick_te rfl hc85 rfl) rfl rfl rfl ?_
                    exact V_end fun a ha => ⟨(), ha.sub ⟨rfl, rfl, rfl, rfl, rfl, rfl, rfl, (by rw [hc85]; rfl), trivial⟩, rfl⟩
                  · refine V_gn rfl rfl rfl hc85 rfl rfl rfl ?_
                    refine V_gn rfl rfl rfl hc85 rfl rfl rfl ?_
                    refine V_gn rfl rfl rfl hc85 rfl rfl rfl ?_
                    refine V_gn rfl rfl rfl hc85 rfl rfl rfl ?_
                    refine V_gn rfl rfl rfl hc85 rfl rfl rfl ?_
                    refine V_gn rfl rfl rfl hc85 rfl rfl rfl ?_
                    refine V_gn rfl rfl rfl hc85 rfl rfl rfl ?_
                    refine V_ge rfl rfl rfl hc82 ?_
                    refine V_y (Y_pick_fe rfl hc85 rfl) rfl rfl rfl ?_
                    exact V_end fun a ha => ⟨(), ha.sub ⟨rfl, rfl, rfl, rfl, rfl, rfl, rfl, (by rw [hc85]; rfl), trivial⟩, rfl⟩
                simp only [List.take, List.drop]
                rintro _ _ rfl
                refine V_y (Y_pick_fe rfl hc82 rfl) rfl rfl rfl ?_
                exact V_end fun a ha => ⟨(), ha.sub ⟨rfl, rfl, rfl, rfl, rfl, rfl, (by rw [hc82]; rfl), trivial⟩, rfl⟩
            simp only [List.take, List.drop]
            rintro _ _ rfl
            refine V_y (Y_assign rfl) rfl rfl rfl ?_
            refine V_to (fun _ _ => rfl) ?_
            refine C_cond rfl (fun hc89 => ?_) (fun hc89 => ?_)
            · rw [if_pos hc89] at h56
              refine C_seq ?_
              refine C_region ?_
              refine V_y (Y_assign rfl) rfl rfl rfl ?_
              refine V_to (fun _ _ => rfl) ?_
              obtain rfl := Option.some.inj h56
              obtain rfl := (h57 : Lp.rt _ = _)
              rw [Lp.andThen_rt] at hm
              obtain rfl := Option.some.inj hm
              refine C_ret ?_
              try simp only [↓inBlock_ret, ↓then_ret]
              exact retQ rfl (Res.one Tryd.results9 rfl) ⟨rfl, hK.kp⟩
            · rw [if_neg (nt hc89)] at h56
              refine C_seq ?_
              refine C_seq ?_
              refine C_region ?_
              have h90 := El_level_Piece_1 h74
              refine V_y (Y_fieldAddr Tryd.underlying50 rfl Tryd.sizeOf3 (by decide) rfl) rfl rfl rfl ?_
              refine V_y (Y_load (El.int h90) Tryd.isAgg3 rfl) rfl rfl rfl ?_
              refine V_y (Y_eql rfl rfl) rfl rfl rfl ?_
              refine V_y (Y_move rfl) rfl rfl rfl ?_
              refine V_cut 12 (fun _ : Unit => [(1, .pointer (some ⟨b3, 0, none⟩)), (3, .int .i64 (k45 : Int)), (4, .pointer (some ⟨b69, 0, none⟩)), (58, v39), (59, .int .i64 (c.pieces.length : Int)), (60, .int .i64 (k45 : Int)), (108, .bool ((x64.to_ == (-1)) && ((decide ((k45 : Int) < (w64 ((c.pieces.length : Int) - 1)))) || (c.stop != (-1)))))]) (fun _ w' => w72 = w') ?_ ?_
              · simp only [List.take, List.drop]
                rcases Bool.eq_false_or_eq_true (x64.to_ == (-1)) with hc91 | hc91
                · refine V_ge rfl rfl rfl hc91 ?_
                  refine V_y (Y_move rfl) rfl rfl rfl ?_
                  refine V_ge rfl rfl rfl hc91 ?_
                  have h93 := El_level_Clock_6 h6
                  refine V_y (Y_fieldAddr Tryd.underlying31 rfl Tryd.sizeOf29 (by decide) rfl) rfl rfl rfl ?_
                  refine V_ge rfl rfl rfl hc91 ?_
                  obtain ⟨v94, h95, h96⟩ := El.list h93
                  refine V_y (Y_load h95 Tryd.isAgg29 rfl) rfl rfl rfl ?_
                  refine V_ge rfl rfl rfl hc91 ?_
                  refine V_y (Y_lenSl h96 rfl Tryd.underlying29 rfl) rfl rfl rfl ?_
                  refine V_ge rfl rfl rfl hc91 ?_
                  refine V_y (Y_subI rfl rfl) rfl rfl rfl ?_
                  refine V_ge rfl rfl rfl hc91 ?_
                  refine V_y (Y_lss rfl rfl) rfl rfl rfl ?_
                  refine V_ge rfl rfl rfl hc91 ?_
                  refine V_y (Y_move rfl) rfl rfl rfl ?_
                  refine V_cut 4 (fun _ : Unit => [(1, .pointer (some ⟨b3, 0, none⟩)), (3, .int .i64 (k45 : Int)), (4, .pointer (some ⟨b69, 0, none⟩)), (58, v39), (59, .int .i64 (c.pieces.length : Int)), (60, .int .i64 (k45 : Int)), (96, .bool (x64.to_ == (-1))), (107, .bool ((decide ((k45 : Int) < (w64 ((c.pieces.length : Int) - 1)))) || (c.stop != (-1))))]) (fun _ w' => w72 = w') ?_ ?_
                  · simp only [List.take, List.drop]
                    rcases Bool.eq_false_or_eq_true (decide ((k45 : Int) < (w64 ((c.pieces.length : Int) - 1)))) with hc97 | hc97
                    · refine V_gn rfl rfl rfl hc97 rfl rfl rfl ?_
                      refine V_gn rfl rfl rfl hc97 rfl rfl rfl ?_
                      refine V_gn rfl rfl rfl hc97 rfl rfl rfl ?_
                      refine V_ge rfl rfl rfl hc91 ?_
                      refine V_y (Y_pick_te rfl hc97 rfl) rfl rfl rfl ?_
                      exact V_end fun a ha => ⟨(), ha.sub ⟨rfl, rfl, rfl, rfl, rfl, rfl, rfl, (by rw [hc97]; rfl), trivial⟩, rfl⟩
                    · refine V_ge rfl rfl rfl hc97 ?_
                      have h99 := El_level_Clock_4 h6
                      refine V_y (Y_fieldAddr Tryd.underlying31 rfl Tryd.sizeOf3 (by decide) rfl) rfl rfl rfl ?_
                      refine V_ge rfl rfl rfl hc97 ?_
                      refine V_y (Y_load (El.int h99) Tryd.isAgg3 rfl) rfl rfl rfl ?_
                      refine V_ge rfl rfl rfl hc97 ?_
                      refine V_y (Y_neq rfl rfl) rfl rfl rfl ?_
                      refine V_ge rfl rfl rfl hc91 ?_
                      refine V_y (Y_pick_fe rfl hc97 rfl) rfl rfl rfl ?_
                      exact V_end fun a ha => ⟨(), ha.sub ⟨rfl, rfl, rfl, rfl, rfl, rfl, rfl, (by rw [hc97]; rfl), trivial⟩, rfl⟩
                  simp only [List.take, List.drop]
                  rintro _ _ rfl
                  refine V_y (Y_pick_te rfl hc91 rfl) rfl rfl rfl ?_
                  exact V_end fun a ha => ⟨(), ha.sub ⟨rfl, rfl, rfl, rfl, rfl, rfl, (by rw [hc91]; rfl), trivial⟩, rfl⟩
                · refine V_gn rfl rfl rfl hc91 rfl rfl rfl ?_
                  refine V_gn rfl rfl rfl hc91 rfl rfl rfl ?_
                  refine V_gn rfl rfl rfl hc91 rfl rfl rfl ?_
                  refine V_gn rfl rfl rfl hc91 rfl rfl rfl ?_
                  refine V_gn rfl rfl rfl hc91 rfl rfl rfl ?_
                  refine V_gn rfl rfl rfl hc91 rfl rfl rfl ?_
                  refine V_gn rfl rfl rfl hc91 rfl rfl rfl ?_
                  refine V_gu rfl rfl rfl rfl rfl ?_
                  refine V_gu rfl rfl rfl rfl rfl ?_
                  refine V_gu rfl rfl rfl rfl rfl ?_
                  refine V_gn rfl rfl rfl hc91 rfl rfl rfl ?_
                  refine V_y (Y_pick_fe rfl hc91 rfl) rfl rfl rfl ?_
                  exact V_end fun a ha => ⟨(), ha.sub ⟨rfl, rfl, rfl, rfl, rfl, rfl, (by rw [hc91]; rfl), trivial⟩, rfl⟩
              simp only [List.take, List.drop]
              rintro _ _ rfl
              refine V_y (Y_assign rfl) rfl rfl rfl ?_
              refine V_to (fun _ _ => rfl) ?_
              obtain ⟨s101, ho100, h56⟩ := Option.bind_eq_some_iff.1 h56
              refine C_cutG (ι := Unit) (fun (_ : Unit) => [(1, .pointer (some ⟨b3, 0, none⟩)), (3, .int .i64 (k45 : Int)), (4, .pointer (some ⟨b69, 0, none⟩)), (58, v39), (59, .int .i64 (c.pieces.length : Int)), (60, .int .i64 (k45 : Int)), (92, .bool s101)]) (fun (_ : Unit) => fun w' => w72 = w') ?_ ?_
              · refine C_cond rfl (fun hc106 => ?_) (fun hc106 => ?_)
                · rw [if_pos hc106] at ho100
                  obtain rfl := Option.some.inj ho100
                  refine C_skip (fun a ha107 => ?_)
                  exact ⟨(), ha107.sub ⟨rfl, rfl, rfl, rfl, rfl, rfl, rfl, trivial⟩, rfl⟩
                · rw [if_neg (nt hc106)] at ho100
                  refine C_region ?_
                  have h108 := El_level_Clock_4 h6
                  refine V_y (Y_fieldAddr Tryd.underlying31 rfl Tryd.sizeOf3 (by decide) rfl) rfl rfl rfl ?_
                  refine V_y (Y_load (El.int h108) Tryd.isAgg3 rfl) rfl rfl rfl ?_
                  refine V_y (Y_neq rfl rfl) rfl rfl rfl ?_
                  refine V_y (Y_move rfl) rfl rfl rfl ?_
                  refine V_cut 6 (fun _ : Unit => [(1, .pointer (some ⟨b3, 0, none⟩)), (3, .int .i64 (k45 : Int)), (4, .pointer (some ⟨b69, 0, none⟩)), (58, v39), (59, .int .i64 (c.pieces.length : Int)), (60, .int .i64 (k45 : Int)), (118, .bool ((c.stop != (-1)) && (decide (c.stop < x64.to_))))]) (fun _ w' => w72 = w') ?_ ?_
                  · simp only [List.take, List.drop]
                    rcases Bool.eq_false_or_eq_true (c.stop != (-1)) with hc109 | hc109
                    · refine V_ge rfl rfl rfl hc109 ?_
                      have h111 := El_level_Piece_1 h74
                      refine V_y (Y_fieldAddr Tryd.underlying50 rfl Tryd.sizeOf3 (by decide) rfl) rfl rfl rfl ?_
                      refine V_ge rfl rfl rfl hc109 ?_
                      refine V_y (Y_load (El.int h111) Tryd.isAgg3 rfl) rfl rfl rfl ?_
                      refine V_ge rfl rfl rfl hc109 ?_
                      have h112 := El_level_Clock_4 h6
                      refine V_y (Y_fieldAddr Tryd.underlying31 rfl Tryd.sizeOf3 (by decide) rfl) rfl rfl rfl ?_
                      refine V_ge rfl rfl rfl hc109 ?_
                      refine V_y (Y_load (El.int h112) Tryd.isAgg3 rfl) rfl rfl rfl ?_
                      refine V_ge rfl rfl rfl hc109 ?_
                      refine V_y (Y_gtr rfl rfl) rfl rfl rfl ?_
                      refine V_y (Y_pick_te rfl hc109 rfl) rfl rfl rfl ?_
                      exact V_end fun a ha => ⟨(), ha.sub ⟨rfl, rfl, rfl, rfl, rfl, rfl, (by rw [hc109]; rfl), trivial⟩, rfl⟩
                    · refine V_gn rfl rfl rfl hc109 rfl rfl rfl ?_
                      refine V_gn rfl rfl rfl hc109 rfl rfl rfl ?_
                      refine V_gn rfl rfl rfl hc109 rfl rfl rfl ?_
                      refine V_gn rfl rfl rfl hc109 rfl rfl rfl ?_
                      refine V_gn rfl rfl rfl hc109 rfl rfl rfl ?_
                      refine V_y (Y_pick_fe rfl hc109 rfl) rfl rfl rfl ?_
                      exact V_end fun a ha => ⟨(), ha.sub ⟨rfl, rfl, rfl, rfl, rfl, rfl, (by rw [hc109]; rfl), trivial⟩, rfl⟩
                  simp only [List.take, List.drop]
                  rintro _ _ rfl
                  refine V_y (Y_assign rfl) rfl rfl rfl ?_
                  obtain rfl := Option.some.inj ho100
                  refine V_end (fun a ha113 => ?_)
                  exact ⟨(), ha113.sub ⟨rfl, rfl, rfl, rfl, rfl, rfl, rfl, trivial⟩, rfl⟩
              rintro _ _ rfl a ha105
              refine C_at (n := ⟨135, [], none⟩) (fun _ _ => rfl) ?_ ha105
              refine C_cond rfl (fun hc114 => ?_) (fun hc114 => ?_)
              · rw [if_pos hc114] at h56
                refine C_seq ?_
                refine C_region ?_
                refine V_y (Y_assign rfl) rfl rfl rfl ?_
                refine V_to (fun _ _ => rfl) ?_
                obtain rfl := Option.some.inj h56
                obtain rfl := (h57 : Lp.rt _ = _)
                rw [Lp.andThen_rt] at hm
                obtain rfl := Option.some.inj hm
                refine C_ret ?_
                try simp only [↓inBlock_ret, ↓then_ret]
                exact retQ rfl (Res.one Tryd.results9 rfl) ⟨rfl, hK.kp⟩
              · rw [if_neg (nt hc114)] at h56
                refine C_seq ?_
                refine C_region_q Tryd_mixed (by kernel_rfl) ?_
                refine VQ_y (fun w' hw' => Y_move rfl) rfl rfl rfl ?_
                refine VQ_y (fun w' hw' => Y_gtr rfl rfl) rfl rfl rfl ?_
                refine VQ_y (fun w' hw' => Y_move rfl) rfl rfl rfl ?_
                obtain ⟨s116, hs116, h56⟩ := Option.bind_eq_some_iff.1 h56
                refine VQ_cut 11 (fun _ : Unit => [(1, .pointer (some ⟨b3, 0, none⟩)), (58, v39), (59, .int .i64 (c.pieces.length : Int)), (60, .int .i64 (k45 : Int)), (133, .bool s116)]) (fun _ => True) ?_ ?_
                · simp only [List.take, List.drop]
                  rcases Bool.eq_false_or_eq_true (decide ((0 : Int) < (k45 : Int))) with hc115 | hc115
                  · rw [if_pos hc115] at hs116
                    refine VQ_ge rfl rfl rfl hc115 ?_
                    have h117 := El_level_Piece_0 h74
                    refine VQ_y (fun w' hw' => Y_fieldAddr Tryd.underlying50 rfl Tryd.sizeOf3 (by decide) rfl) rfl rfl rfl ?_
                    refine VQ_ge rfl rfl rfl hc115 ?_
                    refine VQ_y (fun w' hw' => Y_load (El.int (El.kp h117 hw')) Tryd.isAgg3 rfl) rfl rfl rfl ?_
                    refine VQ_ge rfl rfl rfl hc115 ?_
                    have h118 := El_level_Clock_6 h6
                    refine VQ_y (fun w' hw' => Y_fieldAddr Tryd.underlying31 rfl Tryd.sizeOf29 (by decide) rfl) rfl rfl rfl ?_
                    refine VQ_ge rfl rfl rfl hc115 ?_
                    obtain ⟨v119, h120, h121⟩ := El.list h118
                    refine VQ_y (fun w' hw' => Y_load ((World.cell?_of_block (hw'.block _ (World.block_lt_of_cell? _ _ h120))).trans h120) Tryd.isAgg29 rfl) rfl rfl rfl ?_
                    refine VQ_ge rfl rfl rfl hc115 ?_
                    refine VQ_y (fun w' hw' => Y_move rfl) rfl rfl rfl ?_
                    refine VQ_ge rfl rfl rfl hc115 ?_
                    refine VQ_y (fun w' hw' => Y_subI rfl rfl) rfl rfl rfl ?_
                    refine VQ_ge rfl rfl rfl hc115 ?_
                    obtain ⟨x122, hx122, hs116⟩ := Option.bind_eq_some_iff.1 hs116
                    refine VQ_indexAddr h121 hx122 Tryd.underlying29 Tryd.sizeOf50 rfl rfl rfl ?_
                    intro b123 o124 h125
                    refine VQ_ge rfl rfl rfl hc115 ?_
                    have h126 := El_level_Piece_1 h125
                    refine VQ_y (fun w' hw' => Y_fieldAddr Tryd.underlying50 rfl Tryd.sizeOf3 (by decide) rfl) rfl rfl rfl ?_
                    refine VQ_ge rfl rfl rfl hc115 ?_
                    refine VQ_y (fun w' hw' => Y_load (El.int (El.kp h126 hw')) Tryd.isAgg3 rfl) rfl rfl rfl ?_
                    refine VQ_ge rfl rfl rfl hc115 ?_
                    refine VQ_y (fun w' hw' => Y_lss rfl rfl) rfl rfl rfl ?_
                    refine VQ_y (fun _ _ => Y_pick_te rfl hc115 rfl) rfl rfl rfl ?_
                    obtain rfl := Option.some.inj hs116
                    exact VQ_end fun a ha => ⟨(), ha.sub ⟨rfl, rfl, rfl, rfl, rfl, trivial⟩, trivial⟩
                  · rw [if_neg (nt hc115)] at hs116
                    refine VQ_gn rfl rfl rfl hc115 rfl rfl rfl ?_
                    refine VQ_gn rfl rfl rfl hc115 rfl rfl rfl ?_
                    refine VQ_gn rfl rfl rfl hc115 rfl rfl rfl ?_
                    refine VQ_gn rfl rfl rfl hc115 rfl rfl rfl ?_
                    refine VQ_gn rfl rfl rfl hc115 rfl rfl rfl ?_
                    refine VQ_gn rfl rfl rfl hc115 rfl rfl rfl ?_
                    refine VQ_gn rfl rfl rfl hc115 rfl rfl rfl ?_
                    refine VQ_gn rfl rfl rfl hc115 rfl rfl rfl ?_
                    refine VQ_gn rfl rfl rfl hc115 rfl rfl rfl ?_
                    refine VQ_gn rfl rfl rfl hc115 rfl rfl rfl ?_
                    refine VQ_y (fun _ _ => Y_pick_fe rfl hc115 rfl) rfl rfl rfl ?_
                    obtain rfl := Option.some.inj hs116
                    exact VQ_end fun a ha => ⟨(), ha.sub ⟨rfl, rfl, rfl, rfl, rfl, trivial⟩, trivial⟩
                simp only [List.take, List.drop]
                rintro _ _
                refine VQ_y (fun w' hw' => Y_assign rfl) rfl rfl rfl ?_
                refine VQ_to (fun _ _ => rfl) (fun w127 hk128 => ?_)
                have ht129 := Kp.tr hk128 hA hB
                replace hH := Hp.kp hH hk128
                replace h6 := El.tr h6 ht129
                replace h41 := Sl.tr h41 ht129
                replace hK := Tr.trans hK ht129
                replace hr44 := Tr.trans hr44 ht129
                replace hB := Nat.le_trans hB ht129.ex.size
                replace hA := ht129.new
                refine C_cond rfl (fun hc130 => ?_) (fun hc130 => ?_)
                · rw [if_pos hc130] at h56
                  refine C_seq ?_
                  refine C_region ?_
                  refine V_y (Y_assign rfl) rfl rfl rfl ?_
                  refine V_to (fun _ _ => rfl) ?_
                  obtain rfl := Option.some.inj h56
                  obtain rfl := (h57 : Lp.rt _ = _)
                  rw [Lp.andThen_rt] at hm
                  obtain rfl := Option.some.inj hm
                  refine C_ret ?_
                  try simp only [↓inBlock_ret, ↓then_ret]
                  exact retQ rfl (Res.one Tryd.results9 rfl) ⟨rfl, hK.kp⟩
                · rw [if_neg (nt hc130)] at h56
                  refine C_skip_to (fun _ _ => rfl) ?_
                  refine C_region ?_
                  refine V_y (Y_addI rfl rfl) rfl rfl rfl ?_
                  refine V_y (Y_move rfl) rfl rfl rfl ?_
                  obtain rfl := Option.some.inj h56
                  refine V_end (fun a ha131 => ?_)
                  exact ⟨(), hlt59, h57, ⟨A53, ha131.sub ⟨rfl, rfl, rfl, (congrArg (fun z => some (Value.int .i64 z)) (w64_succ hlt59 hn62)), trivial⟩, ⟨hH, hr44⟩⟩⟩
          · refine C_exit (fun a ha132 => ?_)
            exact ⟨((), A53), ha132.sub trivial, ⟨(h60 (eq_of_dec hle58 hc63)).symm, hH, hr44⟩⟩
        rintro ⟨s43, A49⟩ w46 ⟨rfl, hH50, hk47⟩ a ha48
        rw [Lp.andThen_fin] at hm
        replace hK := Tr.trans hK hk47
        replace hB := Nat.le_trans hB hk47.ex.size
        replace hA := hk47.new
        replace hH : Hp w.heap.size A49 w46 ([]) := hH50
        refine C_at (n := ⟨135, [], none⟩) (fun _ _ => rfl) ?_ ha48
        refine C_seq ?_
        refine C_region ?_
        refine V_y (Y_assign rfl) rfl rfl rfl ?_
        refine V_to (fun _ _ => rfl) ?_
        obtain rfl := Option.some.inj hm
        refine C_ret ?_
        try simp only [↓inBlock_ret, ↓then_ret]
        exact retQ rfl (Res.one Tryd.results9 rfl) ⟨rfl, hK.kp⟩

def Tryd_strconv_Itoa_lay_ren : Go.Shelf.Ren := ⟨fun | 129 => 50 | 171 => 12 | 243 => 30 | 246 => 40 | 283 => 43 | 284 => 44 | 285 => 45 | 286 => 46 | 317 => 49 | 318 => 51 | 319 => 52 | 320 => 53 | 337 => 54 | 338 => 55 | n => n, fun | 0 => 0 | 1 => 1 | 2 => 2 | 3 => 3 | 4 => 4 | 5 => 5 | 6 => 6 | 7 => 7 | 8 => 8 | 9 => 9 | 10 => 10 | 11 => 11 | 12 => 12 | 13 => 13 | 14 => 14 | 15 => 15 | 16 => 16 | 17 => 17 | 18 => 18 | 19 => 19 | 20 => 20 | 21 => 21 | 28 => 38 | 30 => 45 | 31 => 47 | 37 => 68 | 43 => 58 | 46 => 94 | 47 => 95 | 51 => 92 | 52 => 96 | 53 => 82 | 54 => 83 | 67 => 51 | 70 => 69 | 71 => 70 | 72 => 71 | 73 => 72 | 74 => 73 | 75 => 74 | 76 => 75 | 77 => 76 | 80 => 77 | 81 => 104 | 83 => 37 | 84 => 79 | 111 => 42 | 114 => 57 | 127 => 80 | 164 => 87 | 165 => 88 | 166 => 89 | 171 => 81 | 172 => 84 | 173 => 85 | 174 => 86 | 211 => 90 | 212 => 91 | 213 => 93 | 229 => 43 | 232 => 97 | 233 => 98 | 238 => 99 | 239 => 100 | 240 => 101 | 241 => 102 | 242 => 103 | 243 => 105 | 244 => 106 | 245 => 107 | 246 => 108 | 247 => 109 | 248 => 110 | 249 => 111 | n => n, fun | 1 => 1 | 17 => 0 | 18 => 2 | 19 => 3 | n => n⟩
theorem Tryd_strconv_Itoa_lay0 : Go.Proofs.Lays.n171 Tryd.prog Tryd_strconv_Itoa_lay_ren := {
  mixed := by kernel_rfl,
  f129 := Tryd.func50.trans (congrArg some (by kernel_rfl)),
  f171 := Tryd.func12.trans (congrArg some (by kernel_rfl)),
  f243 := Tryd.func30.trans (congrArg some (by kernel_rfl)),
  f246 := Tryd.func40.trans (congrArg some (by kernel_rfl)),
  f283 := Tryd.func43.trans (congrArg some (by kernel_rfl)),
  f284 := Tryd.func44.trans (congrArg some (by kernel_rfl)),
  f285 := Tryd.func45.trans (congrArg some (by kernel_rfl)),
  f286 := Tryd.func46.trans (congrArg some (by kernel_rfl)),
  f317 := Tryd.func49.trans (congrArg some (by kernel_rfl)),
  f318 := Tryd.func51.trans (congrArg some (by kernel_rfl)),
  f319 := Tryd.func52.trans (congrArg some (by kernel_rfl)),
  f320 := Tryd.func53.trans (congrArg some (by kernel_rfl)),
  f337 := Tryd.func54.trans (congrArg some (by kernel_rfl)),
  f338 := Tryd.func55.trans (congrArg some (by kernel_rfl)),
  t0 := Tryd.underlying0,
  a0 := Tryd.isAgg0,
  z0 := Tryd.sizeOf0,
  v0 := Tryd.zeroValue0,
  t2 := Tryd.underlying2,
  a2 := Tryd.isAgg2,
  z2 := Tryd.sizeOf2,
  v2 := Tryd.zeroValue2,
  t3 := Tryd.underlying3,
  a3 := Tryd.isAgg3,
  z3 := Tryd.sizeOf3,
  v3 := Tryd.zeroValue3,
  t4 := Tryd.underlying4,
  a4 := Tryd.isAgg4,
  z4 := Tryd.sizeOf4,
  v4 := Tryd.zeroValue4,
  t5 := Tryd.underlying5,
  a5 := Tryd.isAgg5,
  z5 := Tryd.sizeOf5,
  v5 := Tryd.zeroValue5,
  t9 := Tryd.underlying9,
  a9 := Tryd.isAgg9,
  z9 := Tryd.sizeOf9,
  v9 := Tryd.zeroValue9,
  t20 := Tryd.underlying20,
  a20 := Tryd.isAgg20,
  z20 := Tryd.sizeOf20,
  v20 := Tryd.zeroValue20,
  t37 := Tryd.underlying68,
  a37 := Tryd.isAgg68,
  z37 := Tryd.sizeOf68,
  v37 := Tryd.zeroValue68,
  t46 := Tryd.underlying94,
  a46 := Tryd.isAgg94,
  z46 := Tryd.sizeOf94,
  v46 := Tryd.zeroValue94,
  t51 := Tryd.underlying92,
  a51 := Tryd.isAgg92,
  z51 := Tryd.sizeOf92,
  v51 := Tryd.zeroValue92,
  t53 := Tryd.underlying82,
  a53 := Tryd.isAgg82,
  z53 := Tryd.sizeOf82,
  v53 := Tryd.zeroValue82,
  t171 := Tryd.underlying81,
  a171 := Tryd.isAgg81,
  z171 := Tryd.sizeOf81,
  v171 := Tryd.zeroValue81,
  t173 := Tryd.underlying85,
  a173 := Tryd.isAgg85,
  z173 := Tryd.sizeOf85,
  v173 := Tryd.zeroValue85,
  t212 := Tryd.underlying91,
  a212 := Tryd.isAgg91,
  z212 := Tryd.sizeOf91,
  v212 := Tryd.zeroValue91,
  t213 := Tryd.underlying93,
  a213 := Tryd.isAgg93,
  z213 := Tryd.sizeOf93,
  t232 := Tryd.underlying97,
  a232 := Tryd.isAgg97,
  z232 := Tryd.sizeOf97,
  v232 := Tryd.zeroValue97,
  t233 := Tryd.underlying98,
  a233 := Tryd.isAgg98,
  z233 := Tryd.sizeOf98,
  v233 := Tryd.zeroValue98,
  g17 := by kernel_rfl,
  g18 := by kernel_rfl,
  g19 := by kernel_rfl }
theorem Tryd_strconv_Itoa_lay : Go.Proofs.LaysM.n171 Tryd.prog Tryd_strconv_Itoa_lay_ren := { Tryd_strconv_Itoa_lay0 with
  i0 := by kernel_rfl,
  i2 := by kernel_rfl,
  i3 := by kernel_rfl,
  i4 := by kernel_rfl,
  i5 := by kernel_rfl,
  i9 := by kernel_rfl,
  i20 := by kernel_rfl,
  i37 := by kernel_rfl,
  i46 := by kernel_rfl,
  i51 := by kernel_rfl,
  i53 := by kernel_rfl,
  i171 := by kernel_rfl,
  i173 := by kernel_rfl,
  i212 := by kernel_rfl,
  i232 := by kernel_rfl,
  i233 := by kernel_rfl,
  m17 := by kernel_rfl,
  m18 := by kernel_rfl,
  m19 := by kernel_rfl }
theorem strconv_Itoa_c (w : World) {A : Nat → Prop} (hA : ∀ b, w.heap.size ≤ b → A b) (hT : Tb Tryd.prog A w) (n : Int) {r : ByteArray} (hm : strconv_Itoa n = some r) : Ret Tryd.prog 12 #[.int .i64 n] w fun v w' => v = .string r ∧ Kp w w' := by
  unfold strconv_Itoa at hm
  split at hm
  case isFalse => cases hm
  rename_i h
  obtain rfl := Option.some.inj hm
  refine Calls.mono (Go.Proofs.Any.strconv_Itoa Tryd_strconv_Itoa_lay n h.1 h.2 w hT.1) ?_
  rintro _ w' ⟨rfl, k, os, rfl⟩
  exact ⟨_, rfl, rfl, Go.Lib.below_grow _ w (Nat.le_refl _) k os⟩

set_option maxRecDepth 4000 in
set_option maxHeartbeats 4000000 in
theorem level_ClockText_1_c (w : World) {A : Nat → Prop} {B : Nat} (hB : B ≤ w.heap.size) (hA : ∀ b, w.heap.size ≤ b → A b) (hT : Tb Tryd.prog A w) (l : (List Int)) (v_l : Value) (h_l : Sl A w v_l l) (p1 : (List ByteArray)) (b_p1 : Nat) (v_p1 : Value) {L : List Ob} (hH : Hp B A w (obC b_p1 [v_p1] 47 :: obS (α := ByteArray) 9 v_p1 p1 :: L)) {r : (List ByteArray)} (hm : level_ClockText_1 l p1 = some r) : Ret Tryd.prog 21 #[v_l, .pointer (some ⟨b_p1, 0, none⟩)] w fun v w' => ∃ u1_0, ∃ A1 : Nat → Prop, v = .tuple #[] ∧ Hp B A1 w' (obC b_p1 [u1_0] 47 :: obS (α := ByteArray) 9 u1_0 r :: L) ∧ Tr B A w A1 w' := by
  unfold level_ClockText_1 at hm
  refine enter Tryd.func21 rfl Tryd.ntmps21 rfl ?_
  have hK : Tr B A w A w := Tr.refl hA
  refine C_seq ?_
  refine C_region ?_
  refine V_y (Y_move rfl) rfl rfl rfl ?_
  refine V_y (Y_lenSl h_l rfl Tryd.underlying38 rfl) rfl rfl rfl ?_
  refine V_y (Y_move rfl) rfl rfl rfl ?_
  refine V_to (fun _ _ => rfl) ?_
  have hn29 := Sl.le h_l
  obtain ⟨o5, ho5, hm⟩ := Option.bind_eq_some_iff.1 hm
  refine C_cutG (ι := ((List ByteArray) × Value × (Nat → Prop))) (fun ⟨s6, v12, A14⟩ => []) (fun ⟨s6, v12, A14⟩ => fun w' => o5 = .fin s6 ∧ Hp B A14 w' (obC b_p1 [v12] 47 :: obS (α := ByteArray) 9 v12 s6 :: L) ∧ Tr B A w A14 w') ?_ ?_
  · refine C_block ?_
    refine C_range ho5 (fun k8 s16 a w' => ∃ i : (Value × (Nat → Prop)), Has ⟨17, [], none⟩ a ([(1, .pointer (some ⟨b_p1, 0, none⟩)), (5, v_l), (6, .int .i64 (l.length : Int)), (7, .int .i64 (k8 : Int))]) ∧ Hp B i.2 w' (obC b_p1 [i.1] 47 :: obS (α := ByteArray) 9 i.1 s16 :: L) ∧ Tr B A w i.2 w') (fun a ha => ⟨(v_p1, A), ha.sub ⟨rfl, rfl, rfl, rfl, trivial⟩, ⟨hH, Tr.refl hA⟩⟩) ?_
    rintro K k8 s16 a w17 ⟨⟨v18, A20⟩, ha61, hH21, hr7⟩ hle25 K28 h27
    refine C_of ?_ ha61
    replace h_l := Sl.tr h_l hr7
    replace hK := Tr.trans hK hr7
    replace hB := Nat.le_trans hB hr7.ex.size
    replace hA := hr7.new
    replace hH : Hp B A20 w17 (obC b_p1 [v18] 47 :: obS (α := ByteArray) 9 v18 s16 :: L) := hH21
    refine C_seq (C_region (V_y (Y_lss rfl rfl) rfl rfl rfl (V_to (fun _ _ => rfl) ?_)))
    refine C_seq ?_
    refine C_cond rfl (fun hc30 => ?_) (fun hc30 => ?_)
    · have hlt26 := lt_of_dec hc30
      obtain ⟨x22, h23, h24⟩ := K28 hlt26
      refine C_skip_to (fun _ _ => rfl) ?_
      refine C_seq ?_
      refine C_block ?_
      refine C_seq ?_
      refine C_region ?_
      obtain ⟨x31, hx31, h23⟩ := Option.bind_eq_some_iff.1 h23
      refine V_indexAddr h_l hx31 Tryd.underlying38 Tryd.sizeOf3 rfl rfl rfl ?_
      intro b32 o33 h34
      refine V_y (Y_load (El.int h34) Tryd.isAgg3 rfl) rfl rfl rfl ?_
      refine V_y (Y_assign rfl) rfl rfl rfl ?_
      refine V_to (fun _ _ => rfl) ?_
      refine C_region_ch A20 6 [(0, 0), (1, 1), (2, 2), (2, 3), (4, 4), (4, 5)] Tryd_mixed (by kernel_rfl) (fun w35 hk36 => ?_)
      have ht37 := Kp.tr hk36 hA hB
      replace hH := Hp.kp hH hk36
      replace h_l := Sl.tr h_l ht37
      replace hK := Tr.trans hK ht37
      replace hr7 := Tr.trans hr7 ht37
      replace hB := Nat.le_trans hB ht37.ex.size
      replace hA := ht37.new
      refine CH_q1 rfl ?_
      refine VQ_y (fun w' hw' => Y_load ((World.cell?_of_block (hw'.block _ (World.block_lt_of_cell? _ _ (Hp.cell (j := 0) hH (i := 0) rfl rfl)))).trans (Hp.cell (j := 0) hH (i := 0) rfl rfl)) Tryd.isAgg47 rfl) rfl rfl rfl ?_
      refine VQ_CH ?_
      refine CH_q2 rfl ?_
      refine VQ_y (fun w' hw' => Y_move rfl) rfl rfl rfl ?_
      refine VQ_CH ?_
      refine CH_l1 (k := 0) rfl ?_
      obtain ⟨x38, hx38, h23⟩ := Option.bind_eq_some_iff.1 h23
      refine V_call Tryd.call12 rfl rfl rfl rfl (strconv_Itoa_c w35 hA (Tb.tr hT hK) x31 hx38) ?_
      rintro _ w39 ⟨rfl, hk40⟩
      have ht41 := Kp.tr hk40 hA hB
      replace hH := Hp.kp hH hk40
      replace h_l := Sl.tr h_l ht41
      replace hK := Tr.trans hK ht41
      replace hr7 := Tr.trans hr7 ht41
      replace hB := Nat.le_trans hB ht41.ex.size
      replace hA := ht41.new
      refine V_CH (hk40) ?_
      refine CH_l1 (k := 0) rfl ?_
      refine V_buildSlice (l := ([x38] : List ByteArray)) (len := 1) Tryd.underlying47 Tryd.sizeOf9 Tryd.zeroValue9 rfl (by with_unfolding_all rfl) (by decide) (by decide) hA ⟨[.string x38], _, rfl, rfl, rfl⟩ rfl rfl ?_
      intro v42 w43 hk45 h44
      have ht46 := Kp.tr hk45 hA hB
      replace hH := Hp.kp hH hk45
      replace h_l := Sl.tr h_l ht46
      replace hK := Tr.trans hK ht46
      replace hr7 := Tr.trans hr7 ht46
      replace hB := Nat.le_trans hB ht46.ex.size
      replace hA := ht46.new
      refine V_CH (hk45) ?_
      refine CH_l1 (k := 2) rfl ?_
      obtain ⟨x47, hx47, h23⟩ := Option.bind_eq_some_iff.1 h23
      refine V_appendH (e := 9) (v := v18) (l := s16) (ti := Tryd.t9) (bytes := 16) (lim := 8796093022208) hH (i := 1) rfl h44 hx47 Tryd.underlying47 Tryd_info9 rfl rfl rfl rfl (by decide) (by decide) (by decide) hB hA rfl rfl rfl ?_
      intro v48 w49 A50 hH51 ht52
      replace h_l := Sl.tr h_l ht52
      replace h44 := Sl.tr h44 ht52
      replace hK := Tr.trans hK ht52
      replace hr7 := Tr.trans hr7 ht52
      replace hB := Nat.le_trans hB ht52.ex.size
      replace hA := ht52.new
      replace hH : Hp B A50 w49 (obC b_p1 [v18] 47 :: obS (α := ByteArray) 9 v48 x47 :: L) := hH51
      refine V_CHw ?_
      refine CH_l1 (k := 2) rfl ?_
      have h58 : (v48).oneCell' = true := by obtain ⟨_, _, e, _⟩ := Hp.form (α := ByteArray) (e := 9) (v := v48) (l := x47) hH (i := 1) rfl; rw [e]; rfl
      refine V_storeC (off := 0) (ds := [v48]) hH (i := 0) rfl Tryd.sizeOf47 (by rw [← Array.length_toList, Value.cells_one h58]; rfl) (Nat.le_of_ble_eq_true rfl) (by intro u hu; rw [Value.cells_one h58] at hu; simp at hu; subst hu; assumption) (by rw [Value.cells_one h58]; rfl) hB hA rfl rfl ?_
      intro w53 hH54 ht55
      replace h_l := Sl.tr h_l ht55
      replace h44 := Sl.tr h44 ht55
      replace hK := Tr.trans hK ht55
      replace hr7 := Tr.trans hr7 ht55
      replace hB := Nat.le_trans hB ht55.ex.size
      replace hA := ht55.new
      replace hH : Hp B A50 w53 (obC b_p1 [v48] 47 :: obS (α := ByteArray) 9 v48 x47 :: L) := hH54
      refine V_CHw ?_
      refine CH_tail ?_
      show V _ _ _ _ [] _ _
      refine V_to (fun _ _ => rfl) ?_
      refine C_region ?_
      refine V_y (Y_addI rfl rfl) rfl rfl rfl ?_
      refine V_y (Y_move rfl) rfl rfl rfl ?_
      obtain rfl := Option.some.inj h23
      refine V_end (fun a ha59 => ?_)
      exact ⟨x47, hlt26, h24, ⟨(v48, A50), ha59.sub ⟨rfl, rfl, rfl, (congrArg (fun z => some (Value.int .i64 z)) (w64_succ hlt26 hn29)), trivial⟩, ⟨hH, hr7⟩⟩⟩
    · refine C_exit (fun a ha60 => ?_)
      exact ⟨(s16, v18, A20), ha60.sub trivial, ⟨(h27 (eq_of_dec hle25 hc30)).symm, hH, hr7⟩⟩
  rintro ⟨s6, v12, A14⟩ w9 ⟨rfl, hH15, hk10⟩ a ha11
  rw [Lp.andThen_fin] at hm
  replace hK := Tr.trans hK hk10
  replace hB := Nat.le_trans hB hk10.ex.size
  replace hA := hk10.new
  replace hH : Hp B A14 w9 (obC b_p1 [v12] 47 :: obS (α := ByteArray) 9 v12 s6 :: L) := hH15
  obtain rfl := Option.some.inj hm
  try simp only [↓inBlock_ret, ↓then_ret]
  exact normQ (retQ rfl (Res.zero Tryd.results21) ⟨v12, A14, rfl, hH, hK⟩ a ha11)

def Tryd_strings_Join_lay_ren : Go.Shelf.Ren := ⟨fun | 156 => 22 | 165 => 36 | 166 => 37 | 169 => 38 | 240 => 41 | 241 => 42 | 276 => 47 | 277 => 48 | n => n, fun | 0 => 0 | 1 => 1 | 2 => 2 | 3 => 3 | 4 => 4 | 5 => 5 | 6 => 6 | 7 => 7 | 8 => 8 | 9 => 9 | 10 => 10 | 11 => 11 | 12 => 12 | 13 => 13 | 14 => 14 | 15 => 15 | 16 => 16 | 17 => 17 | 18 => 18 | 19 => 19 | 20 => 20 | 21 => 21 | 28 => 38 | 30 => 45 | 31 => 47 | 37 => 68 | 43 => 58 | 46 => 94 | 47 => 95 | 51 => 92 | 52 => 96 | 53 => 82 | 54 => 83 | 67 => 51 | 70 => 69 | 71 => 70 | 72 => 71 | 73 => 72 | 74 => 73 | 75 => 74 | 76 => 75 | 77 => 76 | 80 => 77 | 81 => 104 | 83 => 37 | 84 => 79 | 111 => 42 | 114 => 57 | 127 => 80 | 164 => 87 | 165 => 88 | 166 => 89 | 171 => 81 | 172 => 84 | 173 => 85 | 174 => 86 | 211 => 90 | 212 => 91 | 213 => 93 | 229 => 43 | 232 => 97 | 233 => 98 | 238 => 99 | 239 => 100 | 240 => 101 | 241 => 102 | 242 => 103 | 243 => 105 | 244 => 106 | 245 => 107 | 246 => 108 | 247 => 109 | 248 => 110 | 249 => 111 | n => n, fun | 1 => 1 | 17 => 0 | 18 => 2 | 19 => 3 | n => n⟩
theorem Tryd_strings_Join_lay : Go.Proofs.Lays.n156 Tryd.prog Tryd_strings_Join_lay_ren := {
  mixed := by kernel_rfl,
  f156 := Tryd.func22.trans (congrArg some (by kernel_rfl)),
  f165 := Tryd.func36.trans (congrArg some (by kernel_rfl)),
  f166 := Tryd.func37.trans (congrArg some (by kernel_rfl)),
  f169 := Tryd.func38.trans (congrArg some (by kernel_rfl)),
  f240 := Tryd.func41.trans (congrArg some (by kernel_rfl)),
  f241 := Tryd.func42.trans (congrArg some (by kernel_rfl)),
  f276 := Tryd.func47.trans (congrArg some (by kernel_rfl)),
  f277 := Tryd.func48.trans (congrArg some (by kernel_rfl)),
  t0 := Tryd.underlying0,
  a0 := Tryd.isAgg0,
  z0 := Tryd.sizeOf0,
  v0 := Tryd.zeroValue0,
  t3 := Tryd.underlying3,
  a3 := Tryd.isAgg3,
  z3 := Tryd.sizeOf3,
  v3 := Tryd.zeroValue3,
  t4 := Tryd.underlying4,
  a4 := Tryd.isAgg4,
  z4 := Tryd.sizeOf4,
  v4 := Tryd.zeroValue4,
  t9 := Tryd.underlying9,
  a9 := Tryd.isAgg9,
  z9 := Tryd.sizeOf9,
  v9 := Tryd.zeroValue9,
  t20 := Tryd.underlying20,
  a20 := Tryd.isAgg20,
  z20 := Tryd.sizeOf20,
  v20 := Tryd.zeroValue20,
  t31 := Tryd.underlying47,
  a31 := Tryd.isAgg47,
  z31 := Tryd.sizeOf47,
  v31 := Tryd.zeroValue47,
  t37 := Tryd.underlying68,
  a37 := Tryd.isAgg68,
  z37 := Tryd.sizeOf68,
  v37 := Tryd.zeroValue68,
  t70 := Tryd.underlying69,
  a70 := Tryd.isAgg69,
  z70 := Tryd.sizeOf69,
  v70 := Tryd.zeroValue69,
  t72 := Tryd.underlying71,
  a72 := Tryd.isAgg71,
  z72 := Tryd.sizeOf71,
  v72 := Tryd.zeroValue71,
  t75 := Tryd.underlying74,
  a75 := Tryd.isAgg74,
  z75 := Tryd.sizeOf74,
  v75 := Tryd.zeroValue74,
  t76 := Tryd.underlying75,
  a76 := Tryd.isAgg75,
  z76 := Tryd.sizeOf75,
  v76 := Tryd.zeroValue75,
  t127 := Tryd.underlying80,
  a127 := Tryd.isAgg80,
  z127 := Tryd.sizeOf80,
  v127 := Tryd.zeroValue80,
  t164 := Tryd.underlying87,
  a164 := Tryd.isAgg87,
  z164 := Tryd.sizeOf87,
  v164 := Tryd.zeroValue87 }
theorem Tryd_strings_Join_lay_x : Go.Proofs.Builder.Extra Tryd.prog Tryd_strings_Join_lay_ren := {
  sizeBuilder := by kernel_rfl
  liesBuilder := by kernel_rfl
  t5 := Tryd.underlying5
  a5 := Tryd.isAgg5
  z5 := Tryd.sizeOf5
  v5 := Tryd.zeroValue5
  infoByte := by kernel_rfl
  cellsByte := by kernel_rfl
  sizeByte := by kernel_rfl
  neB5 := (by decide : (71 : Nat) ≠ 5) }
theorem strings_Join_c (w : World) {A : Nat → Prop} (hA : ∀ b, w.heap.size ≤ b → A b) (elems : List ByteArray) (v_e : Value) (h_e : Sl A w v_e elems) (sep : ByteArray) {r : ByteArray} (hm : strings_Join elems sep = some r) : Ret Tryd.prog 22 #[v_e, .string sep] w fun v w' => v = .string r ∧ Kp w w' := by
  unfold strings_Join at hm
  split at hm
  case isFalse => cases hm
  rename_i h
  obtain rfl := Option.some.inj hm
  exact join_wrap h_e (fun a c => Go.Proofs.Any.strings_Join_none Tryd_strings_Join_lay Tryd_strings_Join_lay_x a c sep w) (fun bk o c h1 h2 h3 => Go.Proofs.Any.strings_Join Tryd_strings_Join_lay Tryd_strings_Join_lay_x bk o c elems sep w h1 h2 h.1 h3 h.2)

set_option maxRecDepth 4000 in
set_option maxHeartbeats 4000000 in
theorem level_ClockText_c (w : World) {A : Nat → Prop} (hA : ∀ b, w.heap.size ≤ b → A b) (hT : Tb Tryd.prog A w) (c : level_Clock) (v_c : Value) (h_c : Sl A w v_c c.pieces) {r : (ByteArray × Int)} (hm : level_ClockText c = some r) : Ret Tryd.prog 7 #[.agg #[.int .i64 c.kind, .int .i64 c.level, .int .i64 c.minutes, .int .i64 c.start, .int .i64 c.stop, .int .i64 c.end_, v_c]] w fun v w' => v = .tuple #[.string r.1, .int .i64 r.2] ∧ Kp w w' := by
  unfold level_ClockText at hm
  refine enter Tryd.func7 rfl Tryd.ntmps7 rfl ?_
  have hA0 := hA
  have hB := Nat.le_refl w.heap.size
  have hK : Tr w.heap.size A w A w := Tr.refl hA
  have hH : Hp w.heap.size A w [] := Hp.nil
  refine C_seq ?_
  refine C_region ?_
  refine V_box rfl rfl ?_
  intro b3 w4 h5
  have hk7 := h5.kp
  have h6 : El (α := level_Clock) A w4 b3 0 c := h5.el hA ⟨[.int .i64 c.kind], _, rfl, rfl, ⟨[.int .i64 c.level], _, rfl, rfl, ⟨[.int .i64 c.minutes], _, rfl, rfl, ⟨[.int .i64 c.start], _, rfl, rfl, ⟨[.int .i64 c.stop], _, rfl, rfl, ⟨[.int .i64 c.end_], _, rfl, rfl, ⟨_, rfl, h_c⟩⟩⟩⟩⟩⟩⟩
  have ht8 := Kp.tr hk7 hA hB
  replace hH := Hp.kp hH hk7
  replace h_c := Sl.tr h_c ht8
  replace hK := Tr.trans hK ht8
  replace hB := Nat.le_trans hB ht8.ex.size
  replace hA := ht8.new
  refine V_y (Y_assign rfl) rfl rfl rfl ?_
  refine V_y (Y_assign rfl) rfl rfl rfl ?_
  refine V_to (fun _ _ => rfl) ?_
  refine C_seq ?_
  refine C_seq ?_
  refine C_region ?_
  obtain ⟨v9, h11, h10⟩ := El_level_Clock h6
  refine V_y (Y_loadA h11 Tryd.isAgg31 Tryd.sizeOf31 rfl) rfl rfl rfl ?_
  obtain ⟨x12, hx12, hm⟩ := Option.bind_eq_some_iff.1 hm
  refine V_call Tryd.call9 rfl rfl rfl rfl (level_CheckClock_c w4 hA c v9 h10 hx12) ?_
  rintro _ w13 ⟨rfl, hk14⟩
  have ht15 := Kp.tr hk14 hA hB
  replace hH := Hp.kp hH hk14
  replace h6 := El.tr h6 ht15
  replace h10 := Sl.tr h10 ht15
  replace hK := Tr.trans hK ht15
  replace hB := Nat.le_trans hB ht15.ex.size
  replace hA := ht15.new
  refine V_y (Y_assign rfl) rfl rfl rfl ?_
  refine V_to (fun _ _ => rfl) ?_
  refine C_seq ?_
  refine C_region ?_
  refine V_y (Y_move rfl) rfl rfl rfl ?_
  refine V_y (Y_neq rfl rfl) rfl rfl rfl ?_
  refine V_to (fun _ _ => rfl) ?_
  refine C_cond rfl (fun hc16 => ?_) (fun hc16 => ?_)
  · rw [if_pos hc16] at hm
    refine C_seq ?_
    refine C_region ?_
    refine V_y (Y_move rfl) rfl rfl rfl ?_
    refine V_y (Y_assign rfl) rfl rfl rfl ?_
    refine V_y (Y_assign rfl) rfl rfl rfl ?_
    refine V_to (fun _ _ => rfl) ?_
    obtain rfl := Option.some.inj hm
    refine C_ret ?_
    try simp only [↓inBlock_ret, ↓then_ret]
    exact retQ rfl (Res.two Tryd.results7 rfl rfl) ⟨rfl, hK.kp⟩
  · rw [if_neg (nt hc16)] at hm
    refine C_skip_to (fun _ _ => rfl) ?_
    refine C_seq ?_
    refine C_region ?_
    refine V_buildOwnH (l := ([(⟨#[99, 108, 111, 99, 107]⟩ : ByteArray)] : List ByteArray)) (len := 1) hH Tryd.underlying47 Tryd.sizeOf9 Tryd.zeroValue9 rfl (by with_unfolding_all rfl) (by decide) (by decide) hB hA ⟨[.string (⟨#[99, 108, 111, 99, 107]⟩ : ByteArray)], _, rfl, rfl, rfl⟩ rfl rfl ?_
    intro v17 w18 A21 hH23 ht22
    replace h6 := El.tr h6 ht22
    replace hK := Tr.trans hK ht22
    replace hB := Nat.le_trans hB ht22.ex.size
    replace hA := ht22.new
    replace hH : Hp w.heap.size A21 w18 (obS (α := ByteArray) 9 v17 ([(⟨#[99, 108, 111, 99, 107]⟩ : ByteArray)] : List ByteArray) :: []) := hH23
    refine V_allocH (B := w.heap.size) hH Tryd.zeroValue47 hB hA rfl ?_
    intro b24 w25 A26 hH27 ht28
    replace h6 := El.tr h6 ht28
    replace hK := Tr.trans hK ht28
    replace hB := Nat.le_trans hB ht28.ex.size
    replace hA := ht28.new
    replace hH : Hp w.heap.size A26 w25 (obC b24 [.slice none 0 0] 47 :: obS (α := ByteArray) 9 v17 ([(⟨#[99, 108, 111, 99, 107]⟩ : ByteArray)] : List ByteArray) :: []) := hH27
    have h34 : (v17).oneCell' = true := by obtain ⟨_, _, e, _⟩ := Hp.form (α := ByteArray) (e := 9) (v := v17) (l := ([(⟨#[99, 108, 111, 99, 107]⟩ : ByteArray)] : List ByteArray)) hH (i := 1) rfl; rw [e]; rfl
    refine V_storeC (off := 0) (ds := [v17]) hH (i := 0) rfl Tryd.sizeOf47 (by rw [← Array.length_toList, Value.cells_one h34]; rfl) (Nat.le_of_ble_eq_true rfl) (by intro u hu; rw [Value.cells_one h34] at hu; simp at hu; subst hu; assumption) (by rw [Value.cells_one h34]; rfl) hB hA rfl rfl ?_
    intro w29 hH30 ht31
    replace h6 := El.tr h6 ht31
    replace hK := Tr.trans hK ht31
    replace hB := Nat.le_trans hB ht31.ex.size
    replace hA := ht31.new
    replace hH : Hp w.heap.size A26 w29 (obC b24 [v17] 47 :: obS (α := ByteArray) 9 v17 ([(⟨#[99, 108, 111, 99, 107]⟩ : ByteArray)] : List ByteArray) :: []) := hH30
    refine V_to (fun _ _ => rfl) ?_
    refine C_seq ?_
    refine C_region ?_
    refine V_y (Y_makeFunc rfl rfl) rfl rfl rfl ?_
    refine V_y (Y_assign rfl) rfl rfl rfl ?_
    refine V_to (fun _ _ => rfl) ?_
    refine C_seq ?_
    refine C_region ?_
    refine V_y (Y_move rfl) rfl rfl rfl ?_
    have h35 := El_level_Clock_0 h6
    refine V_y (Y_fieldAddr Tryd.underlying31 rfl Tryd.sizeOf3 (by decide) rfl) rfl rfl rfl ?_
    refine V_y (Y_load (El.int h35) Tryd.isAgg3 rfl) rfl rfl rfl ?_
    have h36 := El_level_Clock_1 h6
    refine V_y (Y_fieldAddr Tryd.underlying31 rfl Tryd.sizeOf3 (by decide) rfl) rfl rfl rfl ?_
    refine V_y (Y_load (El.int h36) Tryd.isAgg3 rfl) rfl rfl rfl ?_
    have h37 := El_level_Clock_2 h6
    refine V_y (Y_fieldAddr Tryd.underlying31 rfl Tryd.sizeOf3 (by decide) rfl) rfl rfl rfl ?_
    refine V_y (Y_load (El.int h37) Tryd.isAgg3 rfl) rfl rfl rfl ?_
    have h38 := El_level_Clock_3 h6
    refine V_y (Y_fieldAddr Tryd.underlying31 rfl Tryd.sizeOf3 (by decide) rfl) rfl rfl rfl ?_
    refine V_y (Y_load (El.int h38) Tryd.isAgg3 rfl) rfl rfl rfl ?_
    have h39 := El_level_Clock_4 h6
    refine V_y (Y_fieldAddr Tryd.underlying31 rfl Tryd.sizeOf3 (by decide) rfl) rfl rfl rfl ?_
    refine V_y (Y_load (El.int h39) Tryd.isAgg3 rfl) rfl rfl rfl ?_
    have h40 := El_level_Clock_5 h6
    refine V_y (Y_fieldAddr Tryd.underlying31 rfl Tryd.sizeOf3 (by decide) rfl) rfl rfl rfl ?_
    refine V_y (Y_load (El.int h40) Tryd.isAgg3 rfl) rfl rfl rfl ?_
    refine V_buildSlice (l := ([c.kind, c.level, c.minutes, c.start, c.stop, c.end_] : List Int)) (len := 6) Tryd.underlying38 Tryd.sizeOf3 Tryd.zeroValue3 rfl (by with_unfolding_all rfl) (by decide) (by decide) hA ⟨[.int .i64 c.kind], _, rfl, rfl, ⟨[.int .i64 c.level], _, rfl, rfl, ⟨[.int .i64 c.minutes], _, rfl, rfl, ⟨[.int .i64 c.start], _, rfl, rfl, ⟨[.int .i64 c.stop], _, rfl, rfl, ⟨[.int .i64 c.end_], _, rfl, rfl, rfl⟩⟩⟩⟩⟩⟩ rfl rfl ?_
    intro v41 w42 hk44 h43
    have ht45 := Kp.tr hk44 hA hB
    replace hH := Hp.kp hH hk44
    replace h6 := El.tr h6 ht45
    replace h35 := El.tr h35 ht45
    replace h36 := El.tr h36 ht45
    replace h37 := El.tr h37 ht45
    replace h38 := El.tr h38 ht45
    replace h39 := El.tr h39 ht45
    replace h40 := El.tr h40 ht45
    replace hK := Tr.trans hK ht45
    replace hB := Nat.le_trans hB ht45.ex.size
    replace hA := ht45.new
    replace hH : Hp w.heap.size A26 w42 (obS (α := ByteArray) 9 v17 ([(⟨#[99, 108, 111, 99, 107]⟩ : ByteArray)] : List ByteArray) :: obC b24 [v17] 47 :: []) := Hp.front hH (i := 1) rfl
    replace hH : Hp w.heap.size A26 w42 (obC b24 [v17] 47 :: obS (α := ByteArray) 9 v17 ([(⟨#[99, 108, 111, 99, 107]⟩ : ByteArray)] : List ByteArray) :: []) := Hp.front hH (i := 1) rfl
    obtain ⟨x46, hx46, hm⟩ := Option.bind_eq_some_iff.1 hm
    refine V_call Tryd.call21 rfl rfl rfl rfl (level_ClockText_1_c w42 hB hA (Tb.tr hT hK) ([c.kind, c.level, c.minutes, c.start, c.stop, c.end_] : List Int) v41 h43 ([(⟨#[99, 108, 111, 99, 107]⟩ : ByteArray)] : List ByteArray) b24 v17 hH hx46) ?_
    rintro _ w49 ⟨v47, A50, rfl, hH51, ht52⟩
    replace h6 := El.tr h6 ht52
    replace h35 := El.tr h35 ht52
    replace h36 := El.tr h36 ht52
    replace h37 := El.tr h37 ht52
    replace h38 := El.tr h38 ht52
    replace h39 := El.tr h39 ht52
    replace h40 := El.tr h40 ht52
    replace h43 := Sl.tr h43 ht52
    replace hK := Tr.trans hK ht52
    replace hB := Nat.le_trans hB ht52.ex.size
    replace hA := ht52.new
    replace hH : Hp w.heap.size A50 w49 (obC b24 [v47] 47 :: obS (α := ByteArray) 9 v47 x46 :: []) := hH51
    refine V_to (fun _ _ => rfl) ?_
    refine C_seq ?_
    refine C_seq ?_
    refine C_region ?_
    have h53 := El_level_Clock_6 h6
    refine V_y (Y_fieldAddr Tryd.underlying31 rfl Tryd.sizeOf29 (by decide) rfl) rfl rfl rfl ?_
    obtain ⟨v54, h55, h56⟩ := El.list h53
    refine V_y (Y_load h55 Tryd.isAgg29 rfl) rfl rfl rfl ?_
    refine V_y (Y_lenSl h56 rfl Tryd.underlying29 rfl) rfl rfl rfl ?_
    refine V_y (Y_move rfl) rfl rfl rfl ?_
    refine V_to (fun _ _ => rfl) ?_
    have hn81 := Sl.le h56
    obtain ⟨o57, ho57, hm⟩ := Option.bind_eq_some_iff.1 hm
    refine C_cutG (ι := ((List ByteArray) × Value × (Nat → Prop))) (fun ⟨s58, v64, A66⟩ => [(5, .pointer (some ⟨b24, 0, none⟩))]) (fun ⟨s58, v64, A66⟩ => fun w' => o57 = .fin s58 ∧ Hp w.heap.size A66 w' (obC b24 [v64] 47 :: obS (α := ByteArray) 9 v64 s58 :: []) ∧ Tr w.heap.size A50 w49 A66 w') ?_ ?_
    · refine C_block ?_
      refine C_range ho57 (fun k60 s68 a w' => ∃ i : (Value × (Nat → Prop)), Has ⟨51, [], none⟩ a ([(5, .pointer (some ⟨b24, 0, none⟩)), (6, .func (.func 21) #[] #[.pointer (some ⟨b24, 0, none⟩)]), (32, v54), (33, .int .i64 (c.pieces.length : Int)), (34, .int .i64 (k60 : Int))]) ∧ Hp w.heap.size i.2 w' (obC b24 [i.1] 47 :: obS (α := ByteArray) 9 i.1 s68 :: []) ∧ Tr w.heap.size A50 w49 i.2 w') (fun a ha => ⟨(v47, A50), ha.sub ⟨rfl, rfl, rfl, rfl, rfl, trivial⟩, ⟨hH, Tr.refl hA⟩⟩) ?_
      rintro K k60 s68 a w69 ⟨⟨v70, A72⟩, ha113, hH73, hr59⟩ hle77 K80 h79
      refine C_of ?_ ha113
      replace h56 := Sl.tr h56 hr59
      replace hK := Tr.trans hK hr59
      replace hB := Nat.le_trans hB hr59.ex.size
      replace hA := hr59.new
      replace hH : Hp w.heap.size A72 w69 (obC b24 [v70] 47 :: obS (α := ByteArray) 9 v70 s68 :: []) := hH73
      refine C_seq (C_region (V_y (Y_lss rfl rfl) rfl rfl rfl (V_to (fun _ _ => rfl) ?_)))
      refine C_seq ?_
      refine C_cond rfl (fun hc82 => ?_) (fun hc82 => ?_)
      · have hlt78 := lt_of_dec hc82
        obtain ⟨x74, h75, h76⟩ := K80 hlt78
        refine C_skip_to (fun _ _ => rfl) ?_
        refine C_seq ?_
        refine C_block ?_
        refine C_seq ?_
        refine C_region ?_
        obtain ⟨x83, hx83, h75⟩ := Option.bind_eq_some_iff.1 h75
        refine V_indexAddr h56 hx83 Tryd.underlying29 Tryd.sizeOf50 rfl rfl rfl ?_
        intro b84 o85 h86
        obtain ⟨h87, _⟩ := El_level_Piece h86
        refine V_y (Y_loadA h87 Tryd.isAgg50 Tryd.sizeOf50 rfl) rfl rfl rfl ?_
        refine V_alloc Tryd.zeroValue50 rfl ?_
        intro b88 w89 h90
        refine V_storeNew h90 Tryd.sizeOf50 rfl rfl rfl rfl (by exact (List.forall_mem_cons.2 ⟨rfl, (List.forall_mem_cons.2 ⟨rfl, (List.forall_mem_cons.2 ⟨rfl, (fun _ h => nomatch h)⟩)⟩)⟩)) ?_
        intro w91 h92
        have hk94 := h92.kp
        have h93 : El (α := level_Piece) A72 w91 b88 0 x83 := h92.el hA ⟨[.int .i64 x83.from_], _, rfl, rfl, ⟨[.int .i64 x83.to_], _, rfl, rfl, rfl⟩⟩
        have ht95 := Kp.tr hk94 hA hB
        replace hH := Hp.kp hH hk94
        replace h56 := Sl.tr h56 ht95
        replace h86 := El.tr h86 ht95
        replace hK := Tr.trans hK ht95
        replace hr59 := Tr.trans hr59 ht95
        replace hB := Nat.le_trans hB ht95.ex.size
        replace hA := ht95.new
        refine V_to (fun _ _ => rfl) ?_
        refine C_region ?_
        refine V_y (Y_move rfl) rfl rfl rfl ?_
        have h96 := El_level_Piece_0 h93
        refine V_y (Y_fieldAddr Tryd.underlying50 rfl Tryd.sizeOf3 (by decide) rfl) rfl rfl rfl ?_
        refine V_y (Y_load (El.int h96) Tryd.isAgg3 rfl) rfl rfl rfl ?_
        have h97 := El_level_Piece_1 h93
        refine V_y (Y_fieldAddr Tryd.underlying50 rfl Tryd.sizeOf3 (by decide) rfl) rfl rfl rfl ?_
        refine V_y (Y_load (El.int h97) Tryd.isAgg3 rfl) rfl rfl rfl ?_
        have h98 := El_level_Piece_2 h93
        refine V_y (Y_fieldAddr Tryd.underlying50 rfl Tryd.sizeOf3 (by decide) rfl) rfl rfl rfl ?_
        refine V_y (Y_load (El.int h98) Tryd.isAgg3 rfl) rfl rfl rfl ?_
        refine V_buildSlice (l := ([x83.from_, x83.to_, x83.calendar] : List Int)) (len := 3) Tryd.underlying38 Tryd.sizeOf3 Tryd.zeroValue3 rfl (by with_unfolding_all rfl) (by decide) (by decide) hA ⟨[.int .i64 x83.from_], _, rfl, rfl, ⟨[.int .i64 x83.to_], _, rfl, rfl, ⟨[.int .i64 x83.calendar], _, rfl, rfl, rfl⟩⟩⟩ rfl rfl ?_
        intro v99 w100 hk102 h101
        have ht103 := Kp.tr hk102 hA hB
        replace hH := Hp.kp hH hk102
        replace h56 := Sl.tr h56 ht103
        replace h93 := El.tr h93 ht103
        replace h96 := El.tr h96 ht103
        replace h97 := El.tr h97 ht103
        replace h98 := El.tr h98 ht103
        replace hK := Tr.trans hK ht103
        replace hr59 := Tr.trans hr59 ht103
        replace hB := Nat.le_trans hB ht103.ex.size
        replace hA := ht103.new
        replace hH : Hp w.heap.size A72 w100 (obS (α := ByteArray) 9 v70 s68 :: obC b24 [v70] 47 :: []) := Hp.front hH (i := 1) rfl
        replace hH : Hp w.heap.size A72 w100 (obC b24 [v70] 47 :: obS (α := ByteArray) 9 v70 s68 :: []) := Hp.front hH (i := 1) rfl
        obtain ⟨x104, hx104, h75⟩ := Option.bind_eq_some_iff.1 h75
        refine V_call Tryd.call21 rfl rfl rfl rfl (level_ClockText_1_c w100 hB hA (Tb.tr hT hK) ([x83.from_, x83.to_, x83.calendar] : List Int) v99 h101 s68 b24 v70 hH hx104) ?_
        rintro _ w107 ⟨v105, A108, rfl, hH109, ht110⟩
        replace h56 := Sl.tr h56 ht110
        replace h93 := El.tr h93 ht110
        replace h96 := El.tr h96 ht110
        replace h97 := El.tr h97 ht110
        replace h98 := El.tr h98 ht110
        replace h101 := Sl.tr h101 ht110
        replace hK := Tr.trans hK ht110
        replace hr59 := Tr.trans hr59 ht110
        replace hB := Nat.le_trans hB ht110.ex.size
        replace hA := ht110.new
        replace hH : Hp w.heap.size A108 w107 (obC b24 [v105] 47 :: obS (α := ByteArray) 9 v105 x104 :: []) := hH109
        refine V_to (fun _ _ => rfl) ?_
        refine C_region ?_
        refine V_y (Y_addI rfl rfl) rfl rfl rfl ?_
        refine V_y (Y_move rfl) rfl rfl rfl ?_
        obtain rfl := Option.some.inj h75
        refine V_end (fun a ha111 => ?_)
        exact ⟨x104, hlt78, h76, ⟨(v105, A108), ha111.sub ⟨rfl, rfl, rfl, rfl, (congrArg (fun z => some (Value.int .i64 z)) (w64_succ hlt78 hn81)), trivial⟩, ⟨hH, hr59⟩⟩⟩
      · refine C_exit (fun a ha112 => ?_)
        exact ⟨(s68, v70, A72), ha112.sub ⟨rfl, trivial⟩, ⟨(h79 (eq_of_dec hle77 hc82)).symm, hH, hr59⟩⟩
    rintro ⟨s58, v64, A66⟩ w61 ⟨rfl, hH67, hk62⟩ a ha63
    rw [Lp.andThen_fin] at hm
    replace hK := Tr.trans hK hk62
    replace hB := Nat.le_trans hB hk62.ex.size
    replace hA := hk62.new
    replace hH : Hp w.heap.size A66 w61 (obC b24 [v64] 47 :: obS (α := ByteArray) 9 v64 s58 :: []) := hH67
    refine C_at (n := ⟨51, [], none⟩) (fun _ _ => rfl) ?_ ha63
    refine C_seq ?_
    refine C_region ?_
    refine V_y (Y_load (Hp.cell (j := 0) hH (i := 0) rfl rfl) Tryd.isAgg47 rfl) rfl rfl rfl ?_
    obtain ⟨x114, hx114, hm⟩ := Option.bind_eq_some_iff.1 hm
    refine V_call Tryd.call22 rfl rfl rfl rfl (strings_Join_c w61 (A := fun _ => True) (fun _ _ => trivial) s58 v64 (Hp.any (α := ByteArray) (e := 9) (v := v64) (l := s58) hH (i := 1) rfl) (⟨#[32]⟩ : ByteArray) hx114) ?_
    rintro _ w115 ⟨rfl, hk116⟩
    have ht117 := Kp.tr hk116 hA hB
    replace hH := Hp.kp hH hk116
    replace hK := Tr.trans hK ht117
    replace hB := Nat.le_trans hB ht117.ex.size
    replace hA := ht117.new
    obtain ⟨x118, hx118, hm⟩ := Option.bind_eq_some_iff.1 hm
    refine V_y (Y_sadd hx118 rfl rfl) rfl rfl rfl ?_
    refine V_y (Y_assign rfl) rfl rfl rfl ?_
    refine V_y (Y_assign rfl) rfl rfl rfl ?_
    refine V_to (fun _ _ => rfl) ?_
    obtain rfl := Option.some.inj hm
    refine C_ret ?_
    try simp only [↓inBlock_ret, ↓then_ret]
    exact retQ rfl (Res.two Tryd.results7 rfl rfl) ⟨rfl, hK.kp⟩

set_option maxRecDepth 4000 in
set_option maxHeartbeats 4000000 in
theorem portref2_IsMoment_c (w : World) (m : Int) : Ret Tryd.prog 16 #[.int .i64 m] w fun v w' => v = .bool (portref2_IsMoment m) ∧ w = w' := by
  generalize hm : portref2_IsMoment m = r
  unfold portref2_IsMoment at hm
  refine enter Tryd.func16 rfl Tryd.ntmps16 rfl ?_
  refine C_seq ?_
  refine C_region ?_
  refine V_y (Y_assign rfl) rfl rfl rfl ?_
  refine V_to (fun _ _ => rfl) ?_
  refine C_seq ?_
  refine C_region ?_
  refine V_y (Y_move rfl) rfl rfl rfl ?_
  refine V_y (Y_geq rfl rfl) rfl rfl rfl ?_
  refine V_y (Y_move rfl) rfl rfl rfl ?_
  refine V_cut 3 (fun _ : Unit => [(8, .bool ((decide ((0 : Int) ≤ m)) && (decide (m ≤ 3000000))))]) (fun _ w' => w = w') ?_ ?_
  · simp only [List.take, List.drop]
    rcases Bool.eq_false_or_eq_true (decide ((0 : Int) ≤ m)) with hc1 | hc1
    · refine V_ge rfl rfl rfl hc1 ?_
      refine V_y (Y_move rfl) rfl rfl rfl ?_
      refine V_ge rfl rfl rfl hc1 ?_
      refine V_y (Y_leq rfl rfl) rfl rfl rfl ?_
      refine V_y (Y_pick_te rfl hc1 rfl) rfl rfl rfl ?_
      exact V_end fun a ha => ⟨(), ha.sub ⟨(by rw [hc1]; rfl), trivial⟩, rfl⟩
    · refine V_gn rfl rfl rfl hc1 rfl rfl rfl ?_
      refine V_gn rfl rfl rfl hc1 rfl rfl rfl ?_
      refine V_y (Y_pick_fe rfl hc1 rfl) rfl rfl rfl ?_
      exact V_end fun a ha => ⟨(), ha.sub ⟨(by rw [hc1]; rfl), trivial⟩, rfl⟩
  simp only [List.take, List.drop]
  rintro _ _ rfl
  refine V_y (Y_assign rfl) rfl rfl rfl ?_
  refine V_to (fun _ _ => rfl) ?_
  obtain rfl := hm
  refine C_ret ?_
  try simp only [↓inBlock_ret, ↓then_ret]
  exact retQ rfl (Res.one Tryd.results16 rfl) ⟨rfl, rfl⟩

set_option maxRecDepth 4000 in
set_option maxHeartbeats 4000000 in
theorem portref2_ClockFault_c (w : World) {A : Nat → Prop} (hA : ∀ b, w.heap.size ≤ b → A b) (c : level_Clock) (v_c : Value) (h_c : Sl A w v_c c.pieces) {r : Int} (hm : portref2_ClockFault c = some r) : Ret Tryd.prog 10 #[.agg #[.int .i64 c.kind, .int .i64 c.level, .int .i64 c.minutes, .int .i64 c.start, .int .i64 c.stop, .int .i64 c.end_, v_c]] w fun v w' => v = .int .i64 r ∧ Kp w w' := by
  unfold portref2_ClockFault at hm
  refine enter Tryd.func10 rfl Tryd.ntmps10 rfl ?_
  have hA0 := hA
  have hB := Nat.le_refl w.heap.size
  have hK : Tr w.heap.size A w A w := Tr.refl hA
  have hH : Hp w.heap.size A w [] := Hp.nil
  refine C_seq ?_
  refine C_region ?_
  refine V_box rfl rfl ?_
  intro b3 w4 h5
  have hk7 := h5.kp
  have h6 : El (α := level_Clock) A w4 b3 0 c := h5.el hA ⟨[.int .i64 c.kind], _, rfl, rfl, ⟨[.int .i64 c.level], _, rfl, rfl, ⟨[.int .i64 c.minutes], _, rfl, rfl, ⟨[.int .i64 c.start], _, rfl, rfl, ⟨[.int .i64 c.stop], _, rfl, rfl, ⟨[.int .i64 c.end_], _, rfl, rfl, ⟨_, rfl, h_c⟩⟩⟩⟩⟩⟩⟩
  have ht8 := Kp.tr hk7 hA hB
  replace hH := Hp.kp hH hk7
  replace h_c := Sl.tr h_c ht8
  replace hK := Tr.trans hK ht8
  replace hB := Nat.le_trans hB ht8.ex.size
  replace hA := ht8.new
  refine V_y (Y_assign rfl) rfl rfl rfl ?_
  refine V_to (fun _ _ => rfl) ?_
  refine C_seq ?_
  refine C_seq ?_
  refine C_region ?_
  have h9 := El_level_Clock_0 h6
  refine V_y (Y_fieldAddr Tryd.underlying31 rfl Tryd.sizeOf3 (by decide) rfl) rfl rfl rfl ?_
  refine V_y (Y_load (El.int h9) Tryd.isAgg3 rfl) rfl rfl rfl ?_
  refine V_y (Y_lss rfl rfl) rfl rfl rfl ?_
  refine V_y (Y_move rfl) rfl rfl rfl ?_
  refine V_cut 4 (fun _ : Unit => [(1, .pointer (some ⟨b3, 0, none⟩)), (12, .bool ((decide (c.kind < 1)) || (decide ((3 : Int) < c.kind))))]) (fun _ w' => w4 = w') ?_ ?_
  · simp only [List.take, List.drop]
    rcases Bool.eq_false_or_eq_true (decide (c.kind < 1)) with hc10 | hc10
    · refine V_gn rfl rfl rfl hc10 rfl rfl rfl ?_
      refine V_gn rfl rfl rfl hc10 rfl rfl rfl ?_
      refine V_gn rfl rfl rfl hc10 rfl rfl rfl ?_
      refine V_y (Y_pick_te rfl hc10 rfl) rfl rfl rfl ?_
      exact V_end fun a ha => ⟨(), ha.sub ⟨rfl, (by rw [hc10]; rfl), trivial⟩, rfl⟩
    · refine V_ge rfl rfl rfl hc10 ?_
      have h12 := El_level_Clock_0 h6
      refine V_y (Y_fieldAddr Tryd.underlying31 rfl Tryd.sizeOf3 (by decide) rfl) rfl rfl rfl ?_
      refine V_ge rfl rfl rfl hc10 ?_
      refine V_y (Y_load (El.int h12) Tryd.isAgg3 rfl) rfl rfl rfl ?_
      refine V_ge rfl rfl rfl hc10 ?_
      refine V_y (Y_gtr rfl rfl) rfl rfl rfl ?_
      refine V_y (Y_pick_fe rfl hc10 rfl) rfl rfl rfl ?_
      exact V_end fun a ha => ⟨(), ha.sub ⟨rfl, (by rw [hc10]; rfl), trivial⟩, rfl⟩
  simp only [List.take, List.drop]
  rintro _ _ rfl
  refine V_y (Y_move rfl) rfl rfl rfl ?_
  refine V_cut 4 (fun _ : Unit => [(1, .pointer (some ⟨b3, 0, none⟩)), (17, .bool (((decide (c.kind < 1)) || (decide ((3 : Int) < c.kind))) || (decide (c.level < 0))))]) (fun _ w' => w4 = w') ?_ ?_
  · simp only [List.take, List.drop]
    rcases Bool.eq_false_or_eq_true (((decide (c.kind < 1)) || (decide ((3 : Int) < c.kind)))) with hc13 | hc13
    · refine V_gn rfl rfl rfl hc13 rfl rfl rfl ?_
      refine V_gn rfl rfl rfl hc13 rfl rfl rfl ?_
      refine V_gn rfl rfl rfl hc13 rfl rfl rfl ?_
      refine V_y (Y_pick_te rfl hc13 rfl) rfl rfl rfl ?_
      exact V_end fun a ha => ⟨(), ha.sub ⟨rfl, (by rw [hc13]; rfl), trivial⟩, rfl⟩
    · refine V_ge rfl rfl rfl hc13 ?_
      have h15 := El_level_Clock_1 h6
      refine V_y (Y_fieldAddr Tryd.underlying31 rfl Tryd.sizeOf3 (by decide) rfl) rfl rfl rfl ?_
      refine V_ge rfl rfl rfl hc13 ?_
      refine V_y (Y_load (El.int h15) Tryd.isAgg3 rfl) rfl rfl rfl ?_
      refine V_ge rfl rfl rfl hc13 ?_
      refine V_y (Y_lss rfl rfl) rfl rfl rfl ?_
      refine V_y (Y_pick_fe rfl hc13 rfl) rfl rfl rfl ?_
      exact V_end fun a ha => ⟨(), ha.sub ⟨rfl, (by rw [hc13]; rfl), trivial⟩, rfl⟩
  simp only [List.take, List.drop]
  rintro _ _ rfl
  refine V_y (Y_move rfl) rfl rfl rfl ?_
  refine V_cut 4 (fun _ : Unit => [(1, .pointer (some ⟨b3, 0, none⟩)), (22, .bool ((((decide (c.kind < 1)) || (decide ((3 : Int) < c.kind))) || (decide (c.level < 0))) || (decide ((20 : Int) ≤ c.level))))]) (fun _ w' => w4 = w') ?_ ?_
  · simp only [List.take, List.drop]
    rcases Bool.eq_false_or_eq_true ((((decide (c.kind < 1)) || (decide ((3 : Int) < c.kind))) || (decide (c.level < 0)))) with hc16 | hc16
    · refine V_gn rfl rfl rfl hc16 rfl rfl rfl ?_
      refine V_gn rfl rfl rfl hc16 rfl rfl rfl ?_
      refine V_gn rfl rfl rfl hc16 rfl rfl rfl ?_
      refine V_y (Y_pick_te rfl hc16 rfl) rfl rfl rfl ?_
      exact V_end fun a ha => ⟨(), ha.sub ⟨rfl, (by rw [hc16]; rfl), trivial⟩, rfl⟩
    · refine V_ge rfl rfl rfl hc16 ?_
      have h18 := El_level_Clock_1 h6
      refine V_y (Y_fieldAddr Tryd.underlying31 rfl Tryd.sizeOf3 (by decide) rfl) rfl rfl rfl ?_
      refine V_ge rfl rfl rfl hc16 ?_
      refine V_y (Y_load (El.int h18) Tryd.isAgg3 rfl) rfl rfl rfl ?_
      refine V_ge rfl rfl rfl hc16 ?_
      refine V_y (Y_geq rfl rfl) rfl rfl rfl ?_
      refine V_y (Y_pick_fe rfl hc16 rfl) rfl rfl rfl ?_
      exact V_end fun a ha => ⟨(), ha.sub ⟨rfl, (by rw [hc16]; rfl), trivial⟩, rfl⟩
  simp only [List.take, List.drop]
  rintro _ _ rfl
  refine V_y (Y_move rfl) rfl rfl rfl ?_
  refine V_cut 4 (fun _ : Unit => [(1, .pointer (some ⟨b3, 0, none⟩)), (27, .bool (((((decide (c.kind < 1)) || (decide ((3 : Int) < c.kind))) || (decide (c.level < 0))) || (decide ((20 : Int) ≤ c.level))) || (decide (c.minutes < 0))))]) (fun _ w' => w4 = w') ?_ ?_
  · simp only [List.take, List.drop]
    rcases Bool.eq_false_or_eq_true (((((decide (c.kind < 1)) || (decide ((3 : Int) < c.kind))) || (decide (c.level < 0))) || (decide ((20 : Int) ≤ c.level)))) with hc19 | hc19
    · refine V_gn rfl rfl rfl hc19 rfl rfl rfl ?_
      refine V_gn rfl rfl rfl hc19 rfl rfl rfl ?_
      refine V_gn rfl rfl rfl hc19 rfl rfl rfl ?_
      refine V_y (Y_pick_te rfl hc19 rfl) rfl rfl rfl ?_
      exact V_end fun a ha => ⟨(), ha.sub ⟨rfl, (by rw [hc19]; rfl), trivial⟩, rfl⟩
    · refine V_ge rfl rfl rfl hc19 ?_
      have h21 := El_level_Clock_2 h6
      refine V_y (Y_fieldAddr Tryd.underlying31 rfl Tryd.sizeOf3 (by decide) rfl) rfl rfl rfl ?_
      refine V_ge rfl rfl rfl hc19 ?_
      refine V_y (Y_load (El.int h21) Tryd.isAgg3 rfl) rfl rfl rfl ?_
      refine V_ge rfl rfl rfl hc19 ?_
      refine V_y (Y_lss rfl rfl) rfl rfl rfl ?_
      refine V_y (Y_pick_fe rfl hc19 rfl) rfl rfl rfl ?_
      exact V_end fun a ha => ⟨(), ha.sub ⟨rfl, (by rw [hc19]; rfl), trivial⟩, rfl⟩
  simp only [List.take, List.drop]
  rintro _ _ rfl
  refine V_y (Y_move rfl) rfl rfl rfl ?_
  refine V_cut 4 (fun _ : Unit => [(1, .pointer (some ⟨b3, 0, none⟩)), (32, .bool ((((((decide (c.kind < 1)) || (decide ((3 : Int) < c.kind))) || (decide (c.level < 0))) || (decide ((20 : Int) ≤ c.level))) || (decide (c.minutes < 0))) || (decide ((100000 : Int) < c.minutes))))]) (fun _ w' => w4 = w') ?_ ?_
  · simp only [List.take, List.drop]
    rcases Bool.eq_false_or_eq_true ((((((decide (c.kind < 1)) || (decide ((3 : Int) < c.kind))) || (decide (c.level < 0))) || (decide ((20 : Int) ≤ c.level))) || (decide (c.minutes < 0)))) with hc22 | hc22
    · refine V_gn rfl rfl rfl hc22 rfl rfl rfl ?_
      refine V_gn rfl rfl rfl hc22 rfl rfl rfl ?_
      refine V_gn rfl rfl rfl hc22 rfl rfl rfl ?_
      refine V_y (Y_pick_te rfl hc22 rfl) rfl rfl rfl ?_
      exact V_end fun a ha => ⟨(), ha.sub ⟨rfl, (by rw [hc22]; rfl), trivial⟩, rfl⟩
    · refine V_ge rfl rfl rfl hc22 ?_
      have h24 := El_level_Clock_2 h6
      refine V_y (Y_fieldAddr Tryd.underlying31 rfl Tryd.sizeOf3 (by decide) rfl) rfl rfl rfl ?_
      refine V_ge rfl rfl rfl hc22 ?_
      refine V_y (Y_load (El.int h24) Tryd.isAgg3 rfl) rfl rfl rfl ?_
      refine V_ge rfl rfl rfl hc22 ?_
      refine V_y (Y_gtr rfl rfl) rfl rfl rfl ?_
      refine V_y (Y_pick_fe rfl hc22 rfl) rfl rfl rfl ?_
      exact V_end fun a ha => ⟨(), ha.sub ⟨rfl, (by rw [hc22]; rfl), trivial⟩, rfl⟩
  simp only [List.take, List.drop]
  rintro _ _ rfl
  refine V_y (Y_move rfl) rfl rfl rfl ?_
  refine V_cut 5 (fun _ : Unit => [(1, .pointer (some ⟨b3, 0, none⟩)), (38, .bool (((((((decide (c.kind < 1)) || (decide ((3 : Int) < c.kind))) || (decide (c.level < 0))) || (decide ((20 : Int) ≤ c.level))) || (decide (c.minutes < 0))) || (decide ((100000 : Int) < c.minutes))) || (!(portref2_IsMoment c.start))))]) (fun _ w' => w4 = w') ?_ ?_
  · simp only [List.take, List.drop]
    rcases Bool.eq_false_or_eq_true (((((((decide (c.kind < 1)) || (decide ((3 : Int) < c.kind))) || (decide (c.level < 0))) || (decide ((20 : Int) ≤ c.level))) || (decide (c.minutes < 0))) || (decide ((100000 : Int) < c.minutes)))) with hc25 | hc25
    · refine V_gn rfl rfl rfl hc25 rfl rfl rfl ?_
      refine V_gn rfl rfl rfl hc25 rfl rfl rfl ?_
      refine V_gn rfl rfl rfl hc25 rfl rfl rfl ?_
      refine V_gn rfl rfl rfl hc25 rfl rfl rfl ?_
      refine V_y (Y_pick_te rfl hc25 rfl) rfl rfl rfl ?_
      exact V_end fun a ha => ⟨(), ha.sub ⟨rfl, (by rw [hc25]; rfl), trivial⟩, rfl⟩
    · refine V_ge rfl rfl rfl hc25 ?_
      have h27 := El_level_Clock_3 h6
      refine V_y (Y_fieldAddr Tryd.underlying31 rfl Tryd.sizeOf3 (by decide) rfl) rfl rfl rfl ?_
      refine V_ge rfl rfl rfl hc25 ?_
      refine V_y (Y_load (El.int h27) Tryd.isAgg3 rfl) rfl rfl rfl ?_
      refine V_ge rfl rfl rfl hc25 ?_
      refine V_call Tryd.call16 rfl rfl rfl rfl (portref2_IsMoment_c w4 c.start) ?_
      rintro _ _ ⟨rfl, rfl⟩
      refine V_ge rfl rfl rfl hc25 ?_
      refine V_y (Y_not rfl) rfl rfl rfl ?_
      refine V_y (Y_pick_fe rfl hc25 rfl) rfl rfl rfl ?_
      exact V_end fun a ha => ⟨(), ha.sub ⟨rfl, (by rw [hc25]; rfl), trivial⟩, rfl⟩
  simp only [List.take, List.drop]
  rintro _ _ rfl
  refine V_y (Y_move rfl) rfl rfl rfl ?_
  refine V_cut 17 (fun _ : Unit => [(1, .pointer (some ⟨b3, 0, none⟩)), (56, .bool ((((((((decide (c.kind < 1)) || (decide ((3 : Int) < c.kind))) || (decide (c.level < 0))) || (decide ((20 : Int) ≤ c.level))) || (decide (c.minutes < 0))) || (decide ((100000 : Int) < c.minutes))) || (!(portref2_IsMoment c.start))) || ((c.stop != (-1)) && ((!(portref2_IsMoment c.stop)) || (decide (c.stop < c.start))))))]) (fun _ w' => w4 = w') ?_ ?_
  · simp only [List.take, List.drop]
    rcases Bool.eq_false_or_eq_true ((((((((decide (c.kind < 1)) || (decide ((3 : Int) < c.kind))) || (decide (c.level < 0))) || (decide ((20 : Int) ≤ c.level))) || (decide (c.minutes < 0))) || (decide ((100000 : Int) < c.minutes))) || (!(portref2_IsMoment c.start)))) with hc28 | hc28
    · refine V_gn rfl rfl rfl hc28 rfl rfl rfl ?_
      refine V_gn rfl rfl rfl hc28 rfl rfl rfl ?_
      refine V_gn rfl rfl rfl hc28 rfl rfl rfl ?_
      refine V_gn rfl rfl rfl hc28 rfl rfl rfl ?_
      refine V_gu rfl rfl rfl rfl rfl ?_
      refine V_gu rfl rfl rfl rfl rfl ?_
      refine V_gu rfl rfl rfl rfl rfl ?_
      refine V_gu rfl rfl rfl rfl rfl ?_
      refine V_gu rfl rfl rfl rfl rfl ?_
      refine V_gu rfl rfl rfl rfl rfl ?_
      refine V_gu rfl rfl rfl rfl rfl ?_
      refine V_gu rfl rfl rfl rfl rfl ?_
      refine V_gu rfl rfl rfl rfl rfl ?_
      refine V_gu rfl rfl rfl rfl rfl ?_
      refine V_gu rfl rfl rfl rfl rfl ?_
      refine V_gn rfl rfl rfl hc28 rfl rfl rfl ?_
      refine V_y (Y_pick_te rfl hc28 rfl) rfl rfl rfl ?_
      exact V_end fun a ha => ⟨(), ha.sub ⟨rfl, (by rw [hc28]; rfl), trivial⟩, rfl⟩
    · refine V_ge rfl rfl rfl hc28 ?_
      have h30 := El_level_Clock_4 h6
      refine V_y (Y_fieldAddr Tryd.underlying31 rfl Tryd.sizeOf3 (by decide) rfl) rfl rfl rfl ?_
      refine V_ge rfl rfl rfl hc28 ?_
      refine V_y (Y_load (El.int h30) Tryd.isAgg3 rfl) rfl rfl rfl ?_
      refine V_ge rfl rfl rfl hc28 ?_
      refine V_y (Y_neq rfl rfl) rfl rfl rfl ?_
      refine V_ge rfl rfl rfl hc28 ?_
      refine V_y (Y_move rfl) rfl rfl rfl ?_
      refine V_cut 12 (fun _ : Unit => [(1, .pointer (some ⟨b3, 0, none⟩)), (39, .bool (((((((decide (c.kind < 1)) || (decide ((3 : Int) < c.kind))) || (decide (c.level < 0))) || (decide ((20 : Int) ≤ c.level))) || (decide (c.minutes < 0))) || (decide ((100000 : Int) < c.minutes))) || (!(portref2_IsMoment c.start)))), (55, .bool ((c.stop != (-1)) && ((!(portref2_IsMoment c.stop)) || (decide (c.stop < c.start)))))]) (fun _ w' => w4 = w') ?_ ?_
      · simp only [List.take, List.drop]
        rcases Bool.eq_false_or_eq_true (c.stop != (-1)) with hc31 | hc31
        · refine V_ge rfl rfl rfl hc31 ?_
          have h33 := El_level_Clock_4 h6
          refine V_y (Y_fieldAddr Tryd.underlying31 rfl Tryd.sizeOf3 (by decide) rfl) rfl rfl rfl ?_
          refine V_ge rfl rfl rfl hc31 ?_
          refine V_y (Y_load (El.int h33) Tryd.isAgg3 rfl) rfl rfl rfl ?_
          refine V_ge rfl rfl rfl hc31 ?_
          refine V_call Tryd.call16 rfl rfl rfl rfl (portref2_IsMoment_c w4 c.stop) ?_
          rintro _ _ ⟨rfl, rfl⟩
          refine V_ge rfl rfl rfl hc31 ?_
          refine V_y (Y_not rfl) rfl rfl rfl ?_
          refine V_ge rfl rfl rfl hc31 ?_
          refine V_y (Y_move rfl) rfl rfl rfl ?_
          refine V_cut 6 (fun _ : Unit => [(1, .pointer (some ⟨b3, 0, none⟩)), (39, .bool (((((((decide (c.kind < 1)) || (decide ((3 : Int) < c.kind))) || (decide (c.level < 0))) || (decide ((20 : Int) ≤ c.level))) || (decide (c.minutes < 0))) || (decide ((100000 : Int) < c.minutes))) || (!(portref2_IsMoment c.start)))), (43, .bool (c.stop != (-1))), (54, .bool ((!(portref2_IsMoment c.stop)) || (decide (c.stop < c.start))))]) (fun _ w' => w4 = w') ?_ ?_
          · simp only [List.take, List.drop]
            rcases Bool.eq_false_or_eq_true (!(portref2_IsMoment c.stop)) with hc34 | hc34
            · refine V_gn rfl rfl rfl hc34 rfl rfl rfl ?_
              refine V_gn rfl rfl rfl hc34 rfl rfl rfl ?_
              refine V_gn rfl rfl rfl hc34 rfl rfl rfl ?_
              refine V_gn rfl rfl rfl hc34 rfl rfl rfl ?_
              refine V_gn rfl rfl rfl hc34 rfl rfl rfl ?_
              refine V_ge rfl rfl rfl hc31 ?_
              refine V_y (Y_pick_te rfl hc34 rfl) rfl rfl rfl ?_
              exact V_end fun a ha => ⟨(), ha.sub ⟨rfl, rfl, rfl, (by rw [hc34]; rfl), trivial⟩, rfl⟩
            · refine V_ge rfl rfl rfl hc34 ?_
              have h36 := El_level_Clock_4 h6
              refine V_y (Y_fieldAddr Tryd.underlying31 rfl Tryd.sizeOf3 (by decide) rfl) rfl rfl rfl ?_
              refine V_ge rfl rfl rfl hc34 ?_
              refine V_y (Y_load (El.int h36) Tryd.isAgg3 rfl) rfl rfl rfl ?_
              refine V_ge rfl rfl rfl hc34 ?_
              have h37 := El_level_Clock_3 h6
              refine V_y (Y_fieldAddr Tryd.underlying31 rfl Tryd.sizeOf3 (by decide) rfl) rfl rfl rfl ?_
              refine V_ge rfl rfl rfl hc34 ?_
              refine V_y (Y_load (El.int h37) Tryd.isAgg3 rfl) rfl rfl rfl ?_
              refine V_ge rfl rfl rfl hc34 ?_
              refine V_y (Y_lss rfl rfl) rfl rfl rfl ?_
              refine V_ge rfl rfl rfl hc31 ?_
              refine V_y (Y_pick_fe rfl hc34 rfl) rfl rfl rfl ?_
              exact V_end fun a ha => ⟨(), ha.sub ⟨rfl, rfl, rfl, (by rw [hc34]; rfl), trivial⟩, rfl⟩
          simp only [List.take, List.drop]
          rintro _ _ rfl
          refine V_ge rfl rfl rfl hc28 ?_
          refine V_y (Y_pick_te rfl hc31 rfl) rfl rfl rfl ?_
          exact V_end fun a ha => ⟨(), ha.sub ⟨rfl, rfl, (by rw [hc31]; rfl), trivial⟩, rfl⟩
        · refine V_gn rfl rfl rfl hc31 rfl rfl rfl ?_
          refine V_gn rfl rfl rfl hc31 rfl rfl rfl ?_
          refine V_gn rfl rfl rfl hc31 rfl rfl rfl ?_
          refine V_gn rfl rfl rfl hc31 rfl rfl rfl ?_
          refine V_gn rfl rfl rfl hc31 rfl rfl rfl ?_
          refine V_gu rfl rfl rfl rfl rfl ?_
          refine V_gu rfl rfl rfl rfl rfl ?_
          refine V_gu rfl rfl rfl rfl rfl ?_
          refine V_gu rfl rfl rfl rfl rfl ?_
          refine V_gu rfl rfl rfl rfl rfl ?_
          refine V_gn rfl rfl rfl hc31 rfl rfl rfl ?_
          refine V_ge rfl rfl rfl hc28 ?_
          refine V_y (Y_pick_fe rfl hc31 rfl) rfl rfl rfl ?_
          exact V_end fun a ha => ⟨(), ha.sub ⟨rfl, rfl, (by rw [hc31]; rfl), trivial⟩, rfl⟩
      simp only [List.take, List.drop]
      rintro _ _ rfl
      refine V_y (Y_pick_fe rfl hc28 rfl) rfl rfl rfl ?_
      exact V_end fun a ha => ⟨(), ha.sub ⟨rfl, (by rw [hc28]; rfl), trivial⟩, rfl⟩
  simp only [List.take, List.drop]
  rintro _ _ rfl
  refine V_y (Y_move rfl) rfl rfl rfl ?_
  refine V_cut 4 (fun _ : Unit => [(1, .pointer (some ⟨b3, 0, none⟩)), (61, .bool (((((((((decide (c.kind < 1)) || (decide ((3 : Int) < c.kind))) || (decide (c.level < 0))) || (decide ((20 : Int) ≤ c.level))) || (decide (c.minutes < 0))) || (decide ((100000 : Int) < c.minutes))) || (!(portref2_IsMoment c.start))) || ((c.stop != (-1)) && ((!(portref2_IsMoment c.stop)) || (decide (c.stop < c.start))))) || (decide (c.end_ < 0))))]) (fun _ w' => w4 = w') ?_ ?_
  · simp only [List.take, List.drop]
    rcases Bool.eq_false_or_eq_true (((((((((decide (c.kind < 1)) || (decide ((3 : Int) < c.kind))) || (decide (c.level < 0))) || (decide ((20 : Int) ≤ c.level))) || (decide (c.minutes < 0))) || (decide ((100000 : Int) < c.minutes))) || (!(portref2_IsMoment c.start))) || ((c.stop != (-1)) && ((!(portref2_IsMoment c.stop)) || (decide (c.stop < c.start)))))) with hc38 | hc38
    · refine V_gn rfl rfl rfl hc38 rfl rfl rfl ?_
      refine V_gn rfl rfl rfl hc38 rfl rfl rfl ?_
      refine V_gn rfl rfl rfl hc38 rfl rfl rfl ?_
      refine V_y (Y_pick_te rfl hc38 rfl) rfl rfl rfl ?_
      exact V_end fun a ha => ⟨(), ha.sub ⟨rfl, (by rw [hc38]; rfl), trivial⟩, rfl⟩
    · refine V_ge rfl rfl rfl hc38 ?_
      have h40 := El_level_Clock_5 h6
      refine V_y (Y_fieldAddr Tryd.underlying31 rfl Tryd.sizeOf3 (by decide) rfl) rfl rfl rfl ?_
      refine V_ge rfl rfl rfl hc38 ?_
      refine V_y (Y_load (El.int h40) Tryd.isAgg3 rfl) rfl rfl rfl ?_
      refine V_ge rfl rfl rfl hc38 ?_
      refine V_y (Y_lss rfl rfl) rfl rfl rfl ?_
      refine V_y (Y_pick_fe rfl hc38 rfl) rfl rfl rfl ?_
      exact V_end fun a ha => ⟨(), ha.sub ⟨rfl, (by rw [hc38]; rfl), trivial⟩, rfl⟩
  simp only [List.take, List.drop]
  rintro _ _ rfl
  refine V_y (Y_move rfl) rfl rfl rfl ?_
  refine V_cut 4 (fun _ : Unit => [(1, .pointer (some ⟨b3, 0, none⟩)), (66, .bool ((((((((((decide (c.kind < 1)) || (decide ((3 : Int) < c.kind))) || (decide (c.level < 0))) || (decide ((20 : Int) ≤ c.level))) || (decide (c.minutes < 0))) || (decide ((100000 : Int) < c.minutes))) || (!(portref2_IsMoment c.start))) || ((c.stop != (-1)) && ((!(portref2_IsMoment c.stop)) || (decide (c.stop < c.start))))) || (decide (c.end_ < 0))) || (decide ((2 : Int) < c.end_))))]) (fun _ w' => w4 = w') ?_ ?_
  · simp only [List.take, List.drop]
    rcases Bool.eq_false_or_eq_true ((((((((((decide (c.kind < 1)) || (decide ((3 : Int) < c.kind))) || (decide (c.level < 0))) || (decide ((20 : Int) ≤ c.level))) || (decide (c.minutes < 0))) || (decide ((100000 : Int) < c.minutes))) || (!(portref2_IsMoment c.start))) || ((c.stop != (-1)) && ((!(portref2_IsMoment c.stop)) || (decide (c.stop < c.start))))) || (decide (c.end_ < 0)))) with hc41 | hc41
    · refine V_gn rfl rfl rfl hc41 rfl rfl rfl ?_
      refine V_gn rfl rfl rfl hc41 rfl rfl rfl ?_
      refine V_gn rfl rfl rfl hc41 rfl rfl rfl ?_
      refine V_y (Y_pick_te rfl hc41 rfl) rfl rfl rfl ?_
      exact V_end fun a ha => ⟨(), ha.sub ⟨rfl, (by rw [hc41]; rfl), trivial⟩, rfl⟩
    · refine V_ge rfl rfl rfl hc41 ?_
      have h43 := El_level_Clock_5 h6
      refine V_y (Y_fieldAddr Tryd.underlying31 rfl Tryd.sizeOf3 (by decide) rfl) rfl rfl rfl ?_
      refine V_ge rfl rfl rfl hc41 ?_
      refine V_y (Y_load (El.int h43) Tryd.isAgg3 rfl) rfl rfl rfl ?_
      refine V_ge rfl rfl rfl hc41 ?_
      refine V_y (Y_gtr rfl rfl) rfl rfl rfl ?_
      refine V_y (Y_pick_fe rfl hc41 rfl) rfl rfl rfl ?_
      exact V_end fun a ha => ⟨(), ha.sub ⟨rfl, (by rw [hc41]; rfl), trivial⟩, rfl⟩
  simp only [List.take, List.drop]
  rintro _ _ rfl
  refine V_to (fun _ _ => rfl) ?_
  refine C_cond rfl (fun hc44 => ?_) (fun hc44 => ?_)
  · rw [if_pos hc44] at hm
    refine C_seq ?_
    refine C_region ?_
    refine V_y (Y_assign rfl) rfl rfl rfl ?_
    refine V_to (fun _ _ => rfl) ?_
    obtain rfl := Option.some.inj hm
    refine C_ret ?_
    try simp only [↓inBlock_ret, ↓then_ret]
    exact retQ rfl (Res.one Tryd.results10 rfl) ⟨rfl, hK.kp⟩
  · rw [if_neg (nt hc44)] at hm
    refine C_skip_to (fun _ _ => rfl) ?_
    refine C_seq ?_
    refine C_seq ?_
    refine C_region ?_
    have h45 := El_level_Clock_4 h6
    refine V_y (Y_fieldAddr Tryd.underlying31 rfl Tryd.sizeOf3 (by decide) rfl) rfl rfl rfl ?_
    refine V_y (Y_load (El.int h45) Tryd.isAgg3 rfl) rfl rfl rfl ?_
    refine V_y (Y_eql rfl rfl) rfl rfl rfl ?_
    have h46 := El_level_Clock_5 h6
    refine V_y (Y_fieldAddr Tryd.underlying31 rfl Tryd.sizeOf3 (by decide) rfl) rfl rfl rfl ?_
    refine V_y (Y_load (El.int h46) Tryd.isAgg3 rfl) rfl rfl rfl ?_
    refine V_y (Y_eql rfl rfl) rfl rfl rfl ?_
    refine V_y (Y_bneq Tryd.underlying4 rfl rfl) rfl rfl rfl ?_
    refine V_to (fun _ _ => rfl) ?_
    refine C_cond rfl (fun hc47 => ?_) (fun hc47 => ?_)
    · rw [if_pos hc47] at hm
      refine C_seq ?_
      refine C_region ?_
      refine V_y (Y_assign rfl) rfl rfl rfl ?_
      refine V_to (fun _ _ => rfl) ?_
      obtain rfl := Option.some.inj hm
      refine C_ret ?_
      try simp only [↓inBlock_ret, ↓then_ret]
      exact retQ rfl (Res.one Tryd.results10 rfl) ⟨rfl, hK.kp⟩
    · rw [if_neg (nt hc47)] at hm
      refine C_skip_to (fun _ _ => rfl) ?_
      refine C_seq ?_
      refine C_seq ?_
      refine C_region ?_
      have h48 := El_level_Clock_6 h6
      refine V_y (Y_fieldAddr Tryd.underlying31 rfl Tryd.sizeOf29 (by decide) rfl) rfl rfl rfl ?_
      obtain ⟨v49, h50, h51⟩ := El.list h48
      refine V_y (Y_load h50 Tryd.isAgg29 rfl) rfl rfl rfl ?_
      refine V_y (Y_lenSl h51 rfl Tryd.underlying29 rfl) rfl rfl rfl ?_
      refine V_y (Y_gtr rfl rfl) rfl rfl rfl ?_
      refine V_to (fun _ _ => rfl) ?_
      refine C_cond rfl (fun hc52 => ?_) (fun hc52 => ?_)
      · rw [if_pos hc52] at hm
        refine C_seq ?_
        refine C_region ?_
        refine V_y (Y_assign rfl) rfl rfl rfl ?_
        refine V_to (fun _ _ => rfl) ?_
        obtain rfl := Option.some.inj hm
        refine C_ret ?_
        try simp only [↓inBlock_ret, ↓then_ret]
        exact retQ rfl (Res.one Tryd.results10 rfl) ⟨rfl, hK.kp⟩
      · rw [if_neg (nt hc52)] at hm
        refine C_skip_to (fun _ _ => rfl) ?_
        refine C_seq ?_
        refine C_seq ?_
        refine C_region ?_
        have h53 := El_level_Clock_6 h6
        refine V_y (Y_fieldAddr Tryd.underlying31 rfl Tryd.sizeOf29 (by decide) rfl) rfl rfl rfl ?_
        obtain ⟨v54, h55, h56⟩ := El.list h53
        refine V_y (Y_load h55 Tryd.isAgg29 rfl) rfl rfl rfl ?_
        refine V_y (Y_lenSl h56 rfl Tryd.underlying29 rfl) rfl rfl rfl ?_
        refine V_y (Y_move rfl) rfl rfl rfl ?_
        refine V_to (fun _ _ => rfl) ?_
        have hn77 := Sl.le h56
        obtain ⟨o57, ho57, hm⟩ := Option.bind_eq_some_iff.1 hm
        refine C_cutG (ι := (Unit × (Nat → Prop))) (fun ⟨s58, A64⟩ => []) (fun ⟨s58, A64⟩ => fun w' => o57 = .fin s58 ∧ Hp w.heap.size A64 w' ([]) ∧ Tr w.heap.size A w4 A64 w') ?_ ?_
        · refine C_block ?_
          refine C_range ho57 (fun k60 _ a w' => ∃ i : (Nat → Prop), Has ⟨169, [], none⟩ a ([(1, .pointer (some ⟨b3, 0, none⟩)), (79, v54), (80, .int .i64 (c.pieces.length : Int)), (81, .int .i64 (k60 : Int))]) ∧ Hp w.heap.size i w' ([]) ∧ Tr w.heap.size A w4 i w') (fun a ha => ⟨A, ha.sub ⟨rfl, rfl, rfl, rfl, trivial⟩, ⟨hH, Tr.refl hA⟩⟩) ?_
          rintro K k60 _ a w67 ⟨A68, ha157, hH69, hr59⟩ hle73 K76 h75
          refine C_of ?_ ha157
          replace h6 := El.tr h6 hr59
          replace h56 := Sl.tr h56 hr59
          replace hK := Tr.trans hK hr59
          replace hB := Nat.le_trans hB hr59.ex.size
          replace hA := hr59.new
          replace hH : Hp w.heap.size A68 w67 ([]) := hH69
          refine C_seq (C_region (V_y (Y_lss rfl rfl) rfl rfl rfl (V_to (fun _ _ => rfl) ?_)))
          refine C_seq ?_
          refine C_cond rfl (fun hc78 => ?_) (fun hc78 => ?_)
          · have hlt74 := lt_of_dec hc78
            obtain ⟨x70, h71, h72⟩ := K76 hlt74
            refine C_skip_to (fun _ _ => rfl) ?_
            refine C_seq ?_
            refine C_block ?_
            refine C_seq ?_
            refine C_region ?_
            refine V_y (Y_move rfl) rfl rfl rfl ?_
            obtain ⟨x79, hx79, h71⟩ := Option.bind_eq_some_iff.1 h71
            refine V_indexAddr h56 hx79 Tryd.underlying29 Tryd.sizeOf50 rfl rfl rfl ?_
            intro b80 o81 h82
            obtain ⟨h83, _⟩ := El_level_Piece h82
            refine V_y (Y_loadA h83 Tryd.isAgg50 Tryd.sizeOf50 rfl) rfl rfl rfl ?_
            refine V_alloc Tryd.zeroValue50 rfl ?_
            intro b84 w85 h86
            refine V_y (Y_assign rfl) rfl rfl rfl ?_
            refine V_storeNew h86 Tryd.sizeOf50 rfl rfl rfl rfl (by exact (List.forall_mem_cons.2 ⟨rfl, (List.forall_mem_cons.2 ⟨rfl, (List.forall_mem_cons.2 ⟨rfl, (fun _ h => nomatch h)⟩)⟩)⟩)) ?_
            intro w87 h88
            have hk90 := h88.kp
            have h89 : El (α := level_Piece) A68 w87 b84 0 x79 := h88.el hA ⟨[.int .i64 x79.from_], _, rfl, rfl, ⟨[.int .i64 x79.to_], _, rfl, rfl, rfl⟩⟩
            have ht91 := Kp.tr hk90 hA hB
            replace hH := Hp.kp hH hk90
            replace h6 := El.tr h6 ht91
            replace h56 := Sl.tr h56 ht91
            replace h82 := El.tr h82 ht91
            replace hK := Tr.trans hK ht91
            replace hr59 := Tr.trans hr59 ht91
            replace hB := Nat.le_trans hB ht91.ex.size
            replace hA := ht91.new
            refine V_to (fun _ _ => rfl) ?_
            refine C_block ?_
            refine C_seq ?_
            refine C_region ?_
            have h92 := El_level_Piece_0 h89
            refine V_y (Y_fieldAddr Tryd.underlying50 rfl Tryd.sizeOf3 (by decide) rfl) rfl rfl rfl ?_
            refine V_y (Y_load (El.int h92) Tryd.isAgg3 rfl) rfl rfl rfl ?_
            have h93 := El_level_Clock_3 h6
            refine V_y (Y_fieldAddr Tryd.underlying31 rfl Tryd.sizeOf3 (by decide) rfl) rfl rfl rfl ?_
            refine V_y (Y_load (El.int h93) Tryd.isAgg3 rfl) rfl rfl rfl ?_
            refine V_y (Y_lss rfl rfl) rfl rfl rfl ?_
            refine V_y (Y_move rfl) rfl rfl rfl ?_
            refine V_cut 5 (fun _ : Unit => [(1, .pointer (some ⟨b3, 0, none⟩)), (3, .int .i64 (k60 : Int)), (4, .pointer (some ⟨b84, 0, none⟩)), (79, v54), (80, .int .i64 (c.pieces.length : Int)), (81, .int .i64 (k60 : Int)), (97, .bool ((decide (x79.from_ < c.start)) || (!(portref2_IsMoment x79.from_))))]) (fun _ w' => w87 = w') ?_ ?_
            · simp only [List.take, List.drop]
              rcases Bool.eq_false_or_eq_true (decide (x79.from_ < c.start)) with hc94 | hc94
              · refine V_gn rfl rfl rfl hc94 rfl rfl rfl ?_
                refine V_gn rfl rfl rfl hc94 rfl rfl rfl ?_
                refine V_gn rfl rfl rfl hc94 rfl rfl rfl ?_
                refine V_gn rfl rfl rfl hc94 rfl rfl rfl ?_
                refine V_y (Y_pick_te rfl hc94 rfl) rfl rfl rfl ?_
                exact V_end fun a ha => ⟨(), ha.sub ⟨rfl, rfl, rfl, rfl, rfl, rfl, (by rw [hc94]; rfl), trivial⟩, rfl⟩
              · refine V_ge rfl rfl rfl hc94 ?_
                have h96 := El_level_Piece_0 h89
                refine V_y (Y_fieldAddr Tryd.underlying50 rfl Tryd.sizeOf3 (by decide) rfl) rfl rfl rfl ?_
                refine V_ge rfl rfl rfl hc94 ?_
                refine V_y (Y_load (El.int h96) Tryd.isAgg3 rfl) rfl rfl rfl ?_
                refine V_ge rfl rfl rfl hc94 ?_
                refine V_call Tryd.call16 rfl rfl rfl rfl (portref2_IsMoment_c w87 x79.from_) ?_
                rintro _ _ ⟨rfl, rfl⟩
                refine V_ge rfl rfl rfl hc94 ?_
                refine V_y (Y_not rfl) rfl rfl rfl ?_
                refine V_y (Y_pick_fe rfl hc94 rfl) rfl rfl rfl ?_
                exact V_end fun a ha => ⟨(), ha.sub ⟨rfl, rfl, rfl, rfl, rfl, rfl, (by rw [hc94]; rfl), trivial⟩, rfl⟩
            simp only [List.take, List.drop]
            rintro _ _ rfl
            refine V_y (Y_move rfl) rfl rfl rfl ?_
            refine V_cut 4 (fun _ : Unit => [(1, .pointer (some ⟨b3, 0, none⟩)), (3, .int .i64 (k60 : Int)), (4, .pointer (some ⟨b84, 0, none⟩)), (79, v54), (80, .int .i64 (c.pieces.length : Int)), (81, .int .i64 (k60 : Int)), (102, .bool (((decide (x79.from_ < c.start)) || (!(portref2_IsMoment x79.from_))) || (decide (x79.calendar < 0))))]) (fun _ w' => w87 = w') ?_ ?_
            · simp only [List.take, List.drop]
              rcases Bool.eq_false_or_eq_true (((decide (x79.from_ < c.start)) || (!(portref2_IsMoment x79.from_)))) with hc97 | hc97
              · refine V_gn rfl rfl rfl hc97 rfl rfl rfl ?_
                refine V_gn rfl rfl rfl hc97 rfl rfl rfl ?_
                refine V_gn rfl rfl rfl hc97 rfl rfl rfl ?_
                refine V_y (Y_pick_te rfl hc97 rfl) rfl rfl rfl ?_
                exact V_end fun a ha => ⟨(), ha.sub ⟨rfl, rfl, rfl, rfl, rfl, rfl, (by rw [hc97]; rfl), trivial⟩, rfl⟩
              · refine V_ge rfl rfl rfl hc97 ?_
                have h99 := El_level_Piece_2 h89
                refine V_y (Y_fieldAddr Tryd.underlying50 rfl Tryd.sizeOf3 (by decide) rfl) rfl rfl rfl ?_
                refine V_ge rfl rfl rfl hc97 ?_
                refine V_y (Y_load (El.int h99) Tryd.isAgg3 rfl) rfl rfl rfl ?_
                refine V_ge rfl rfl rfl hc97 ?_
                refine V_y (Y_lss rfl rfl) rfl rfl rfl ?_
                refine V_y (Y_pick_fe rfl hc97 rfl) rfl rfl rfl ?_
                exact V_end fun a ha => ⟨(), ha.sub ⟨rfl, rfl, rfl, rfl, rfl, rfl, (by rw [hc97]; rfl), trivial⟩, rfl⟩
            simp only [List.take, List.drop]
            rintro _ _ rfl
            refine V_y (Y_move rfl) rfl rfl rfl ?_
            refine V_cut 4 (fun _ : Unit => [(1, .pointer (some ⟨b3, 0, none⟩)), (3, .int .i64 (k60 : Int)), (4, .pointer (some ⟨b84, 0, none⟩)), (79, v54), (80, .int .i64 (c.pieces.length : Int)), (81, .int .i64 (k60 : Int)), (107, .bool ((((decide (x79.from_ < c.start)) || (!(portref2_IsMoment x79.from_))) || (decide (x79.calendar < 0))) || (decide ((20 : Int) ≤ x79.calendar))))]) (fun _ w' => w87 = w') ?_ ?_
            · simp only [List.take, List.drop]
              rcases Bool.eq_false_or_eq_true ((((decide (x79.from_ < c.start)) || (!(portref2_IsMoment x79.from_))) || (decide (x79.calendar < 0)))) with hc100 | hc100
              · refine V_gn rfl rfl rfl hc100 rfl rfl rfl ?_
                refine V_gn rfl rfl rfl hc100 rfl rfl rfl ?_
                refine V_gn rfl rfl rfl hc100 rfl rfl rfl ?_
                refine V_y (Y_pick_te rfl hc100 rfl) rfl rfl rfl ?_
                exact V_end fun a ha => ⟨(), ha.sub ⟨rfl, rfl, rfl, rfl, rfl, rfl, (by rw [hc100]; rfl), trivial⟩, rfl⟩
              · refine V_ge rfl rfl rfl hc100 ?_
                have h102 := El_level_Piece_2 h89
                refine V_y (Y_fieldAddr Tryd.underlying50 rfl Tryd.sizeOf3 (by decide) rfl) rfl rfl rfl ?_
                refine V_ge rfl rfl rfl hc100 ?_
                refine V_y (Y_load (El.int h102) Tryd.isAgg3 rfl) rfl rfl rfl ?_
                refine V_ge rfl rfl rfl hc100 ?_
                refine V_y (Y_geq rfl rfl) rfl rfl rfl ?_
                refine V_y (Y_pick_fe rfl hc100 rfl) rfl rfl rfl ?_
                exact V_end fun a ha => ⟨(), ha.sub ⟨rfl, rfl, rfl, rfl, rfl, rfl, (by rw [hc100]; rfl), trivial⟩, rfl⟩
            simp only [List.take, List.drop]
            rintro _ _ rfl
            refine V_y (Y_move rfl) rfl rfl rfl ?_
            refine V_cut 17 (fun _ : Unit => [(1, .pointer (some ⟨b3, 0, none⟩)), (3, .int .i64 (k60 : Int)), (4, .pointer (some ⟨b84, 0, none⟩)), (79, v54), (80, .int .i64 (c.pieces.length : Int)), (81, .int .i64 (k60 : Int)), (125, .bool (((((decide (x79.from_ < c.start)) || (!(portref2_IsMoment x79.from_))) || (decide (x79.calendar < 0))) || (decide ((20 : Int) ≤ x79.calendar))) || ((x79.to_ != (-1)) && ((!(portref2_IsMoment x79.to_)) || (decide (x79.to_ ≤ x79.from_))))))]) (fun _ w' => w87 = w') ?_ ?_
            · simp only [List.take, List.drop]
              rcases Bool.eq_false_or_eq_true (((((decide (x79.from_ < c.start)) || (!(portref2_IsMoment x79.from_))) || (decide (x79.calendar < 0))) || (decide ((20 : Int) ≤ x79.calendar)))) with hc103 | hc103
              · refine V_gn rfl rfl rfl hc103 rfl rfl rfl ?_
                refine V_gn rfl rfl rfl hc103 rfl rfl rfl ?_
                refine V_gn rfl rfl rfl hc103 rfl rfl rfl ?_
                refine V_gn rfl rfl rfl hc103 rfl rfl rfl ?_
                refine V_gu rfl rfl rfl rfl rfl ?_
                refine V_gu rfl rfl rfl rfl rfl ?_
                refine V_gu rfl rfl rfl rfl rfl ?_
                refine V_gu rfl rfl rfl rfl rfl ?_
                refine V_gu rfl rfl rfl rfl rfl ?_
                refine V_gu rfl rfl rfl rfl rfl ?_
                refine V_gu rfl rfl rfl rfl rfl ?_
                refine V_gu rfl rfl rfl rfl rfl ?_
                refine V_gu rfl rfl rfl rfl rfl ?_
                refine V_gu rfl rfl rfl rfl rfl ?_
                refine V_gu rfl rfl rfl rfl rfl ?_
                refine V_gn rfl rfl rfl hc103 rfl rfl rfl ?_
                refine V_y (Y_pick_te rfl hc103 rfl) rfl rfl rfl ?_
                exact V_end fun a ha => ⟨(), ha.sub ⟨rfl, rfl, rfl, rfl, rfl, rfl, (by rw [hc103]; rfl), trivial⟩, rfl⟩
              · refine V_ge rfl rfl rfl hc103 ?_
                have h105 := El_level_Piece_1 h89
                refine V_y (Y_fieldAddr Tryd.underlying50 rfl Tryd.sizeOf3 (by decide) rfl) rfl rfl rfl ?_
                refine V_ge rfl rfl rfl hc103 ?_
                refine V_y (Y_load (El.int h105) Tryd.isAgg3 rfl) rfl rfl rfl ?_
                refine V_ge rfl rfl rfl hc103 ?_
                refine V_y (Y_neq rfl rfl) rfl rfl rfl ?_
                refine V_ge rfl rfl rfl hc103 ?_
                refine V_y (Y_move rfl) rfl rfl rfl ?_
                refine V_cut 12 (fun _ : Unit => [(1, .pointer (some ⟨b3, 0, none⟩)), (3, .int .i64 (k60 : Int)), (4, .pointer (some ⟨b84, 0, none⟩)), (79, v54), (80, .int .i64 (c.pieces.length : Int)), (81, .int .i64 (k60 : Int)), (108, .bool ((((decide (x79.from_ < c.start)) || (!(portref2_IsMoment x79.from_))) || (decide (x79.calendar < 0))) || (decide ((20 : Int) ≤ x79.calendar)))), (124, .bool ((x79.to_ != (-1)) && ((!(portref2_IsMoment x79.to_)) || (decide (x79.to_ ≤ x79.from_)))))]) (fun _ w' => w87 = w') ?_ ?_
                · simp only [List.take, List.drop]
                  rcases Bool.eq_false_or_eq_true (x79.to_ != (-1)) with hc106 | hc106
                  · refine V_ge rfl rfl rfl hc106 ?_
                    have h108 := El_level_Piece_1 h89
                    refine V_y (Y_fieldAddr Tryd.underlying50 rfl Tryd.sizeOf3 (by decide) rfl) rfl rfl rfl ?_
                    refine V_ge rfl rfl rfl hc106 ?_
                    refine V_y (Y_load (El.int h108) Tryd.isAgg3 rfl) rfl rfl rfl ?_
                    refine V_ge rfl rfl rfl hc106 ?_
                    refine V_call Tryd.call16 rfl rfl rfl rfl (portref2_IsMoment_c w87 x79.to_) ?_
                    rintro _ _ ⟨rfl, rfl⟩
                    refine V_ge rfl rfl rfl hc106 ?_
                    refine V_y (Y_not rfl) rfl rfl rfl ?_
                    refine V_ge rfl rfl rfl hc106 ?_
                    refine V_y (Y_move rfl) rfl rfl rfl ?_
                    refine V_cut 6 (fun _ : Unit => [(1, .pointer (some ⟨b3, 0, none⟩)), (3, .int .i64 (k60 : Int)), (4, .pointer (some ⟨b84, 0, none⟩)), (79, v54), (80, .int .i64 (c.pieces.length : Int)), (81, .int .i64 (k60 : Int)), (108, .bool ((((decide (x79.from_ < c.start)) || (!(portref2_IsMoment x79.from_))) || (decide (x79.calendar < 0))) || (decide ((20 : Int) ≤ x79.calendar)))), (112, .bool (x79.to_ != (-1))), (123, .bool ((!(portref2_IsMoment x79.to_)) || (decide (x79.to_ ≤ x79.from_))))]) (fun _ w' => w87 = w') ?_ ?_
                    · simp only [List.take, List.drop]
                      rcases Bool.eq_false_or_eq_true (!(portref2_IsMoment x79.to_)) with hc109 | hc109
                      · refine V_gn rfl rfl rfl hc109 rfl rfl rfl ?_
                        refine V_gn rfl rfl rfl hc109 rfl rfl rfl ?_
                        refine V_gn rfl rfl rfl hc109 rfl rfl rfl ?_
                        refine V_gn rfl rfl rfl hc109 rfl rfl rfl ?_
                        refine V_gn rfl rfl rfl hc109 rfl rfl rfl ?_
                        refine V_ge rfl rfl rfl hc106 ?_
                        refine V_y (Y_pick_te rfl hc109 rfl) rfl rfl rfl ?_
                        exact V_end fun a ha => ⟨(), ha.sub ⟨rfl, rfl, rfl, rfl, rfl, rfl, rfl, rfl, (by rw [hc109]; rfl), trivial⟩, rfl⟩
                      · refine V_ge rfl rfl rfl hc109 ?_
                        have h111 := El_level_Piece_1 h89
                        refine V_y (Y_fieldAddr Tryd.underlying50 rfl Tryd.sizeOf3 (by decide) rfl) rfl rfl rfl ?_
                        refine V_ge rfl rfl rfl hc109 ?_
                        refine V_y (Y_load (El.int h111) Tryd.isAgg3 rfl) rfl rfl rfl ?_
                        refine V_ge rfl rfl rfl hc109 ?_
                        have h112 := El_level_Piece_0 h89
                        refine V_y (Y_fieldAddr Tryd.underlying50 rfl Tryd.sizeOf3 (by decide) rfl) rfl rfl rfl ?_
                        refine V_ge rfl rfl rfl hc109 ?_
                        refine V_y (Y_load (El.int h112) Tryd.isAgg3 rfl) rfl rfl rfl ?_
                        refine V_ge rfl rfl rfl hc109 ?_
                        refine V_y (Y_leq rfl rfl) rfl rfl rfl ?_
                        refine V_ge rfl rfl rfl hc106 ?_
                        refine V_y (Y_pick_fe rfl hc109 rfl) rfl rfl rfl ?_
                        exact V_end fun a ha => ⟨(), ha.sub ⟨rfl, rfl, rfl, rfl, rfl, rfl, rfl, rfl, (by rw [hc109]; rfl), trivial⟩, rfl⟩
                    simp only [List.take, List.drop]
                    rintro _ _ rfl
                    refine V_ge rfl rfl rfl hc103 ?_
                    refine V_y (Y_pick_te rfl hc106 rfl) rfl rfl rfl ?_
                    exact V_end fun a ha => ⟨(), ha.sub ⟨rfl, rfl, rfl, rfl, rfl, rfl, rfl, (by rw [hc106]; rfl), trivial⟩, rfl⟩
                  · refine V_gn rfl rfl rfl hc106 rfl rfl rfl ?_
                    refine V_gn rfl rfl rfl hc106 rfl rfl rfl ?_
                    refine V_gn rfl rfl rfl hc106 rfl rfl rfl ?_
                    refine V_gn rfl rfl rfl hc106 rfl rfl rfl ?_
                    refine V_gn rfl rfl rfl hc106 rfl rfl rfl ?_
                    refine V_gu rfl rfl rfl rfl rfl ?_
                    refine V_gu rfl rfl rfl rfl rfl ?_
                    refine V_gu rfl rfl rfl rfl rfl ?_
                    refine V_gu rfl rfl rfl rfl rfl ?_
                    refine V_gu rfl rfl rfl rfl rfl ?_
                    refine V_gn rfl rfl rfl hc106 rfl rfl rfl ?_
                    refine V_ge rfl rfl rfl hc103 ?_
                    refine V_y (Y_pick_fe rfl hc106 rfl) rfl rfl rfl ?_
                    exact V_end fun a ha => ⟨(), ha.sub ⟨rfl, rfl, rfl, rfl, rfl, rfl, rfl, (by rw [hc106]; rfl), trivial⟩, rfl⟩
                simp only [List.take, List.drop]
                rintro _ _ rfl
                refine V_y (Y_pick_fe rfl hc103 rfl) rfl rfl rfl ?_
                exact V_end fun a ha => ⟨(), ha.sub ⟨rfl, rfl, rfl, rfl, rfl, rfl, (by rw [hc103]; rfl), trivial⟩, rfl⟩
            simp only [List.take, List.drop]
            rintro _ _ rfl
            refine V_y (Y_assign rfl) rfl rfl rfl ?_
            refine V_to (fun _ _ => rfl) ?_
            refine C_cond rfl (fun hc113 => ?_) (fun hc113 => ?_)
            · rw [if_pos hc113] at h71
              refine C_seq ?_
              refine C_region ?_
              refine V_y (Y_assign rfl) rfl rfl rfl ?_
              refine V_to (fun _ _ => rfl) ?_
              obtain rfl := Option.some.inj h71
              obtain rfl := (h72 : Lp.rt _ = _)
              rw [Lp.andThen_rt] at hm
              obtain rfl := Option.some.inj hm
              refine C_ret ?_
              try simp only [↓inBlock_ret, ↓then_ret]
              exact retQ rfl (Res.one Tryd.results10 rfl) ⟨rfl, hK.kp⟩
            · rw [if_neg (nt hc113)] at h71
              refine C_seq ?_
              refine C_seq ?_
              refine C_region ?_
              have h114 := El_level_Piece_1 h89
              refine V_y (Y_fieldAddr Tryd.underlying50 rfl Tryd.sizeOf3 (by decide) rfl) rfl rfl rfl ?_
              refine V_y (Y_load (El.int h114) Tryd.isAgg3 rfl) rfl rfl rfl ?_
              refine V_y (Y_eql rfl rfl) rfl rfl rfl ?_
              refine V_y (Y_move rfl) rfl rfl rfl ?_
              refine V_cut 12 (fun _ : Unit => [(1, .pointer (some ⟨b3, 0, none⟩)), (3, .int .i64 (k60 : Int)), (4, .pointer (some ⟨b84, 0, none⟩)), (79, v54), (80, .int .i64 (c.pieces.length : Int)), (81, .int .i64 (k60 : Int)), (142, .bool ((x79.to_ == (-1)) && ((decide ((k60 : Int) < (w64 ((c.pieces.length : Int) - 1)))) || (c.stop != (-1)))))]) (fun _ w' => w87 = w') ?_ ?_
              · simp only [List.take, List.drop]
                rcases Bool.eq_false_or_eq_true (x79.to_ == (-1)) with hc115 | hc115
                · refine V_ge rfl rfl rfl hc115 ?_
                  refine V_y (Y_move rfl) rfl rfl rfl ?_
                  refine V_ge rfl rfl rfl hc115 ?_
                  have h117 := El_level_Clock_6 h6
                  refine V_y (Y_fieldAddr Tryd.underlying31 rfl Tryd.sizeOf29 (by decide) rfl) rfl rfl rfl ?_
                  refine V_ge rfl rfl rfl hc115 ?_
                  obtain ⟨v118, h119, h120⟩ := El.list h117
                  refine V_y (Y_load h119 Tryd.isAgg29 rfl) rfl rfl rfl ?_
                  refine V_ge rfl rfl rfl hc115 ?_
                  refine V_y (Y_lenSl h120 rfl Tryd.underlying29 rfl) rfl rfl rfl ?_
                  refine V_ge rfl rfl rfl hc115 ?_
                  refine V_y (Y_subI rfl rfl) rfl rfl rfl ?_
                  refine V_ge rfl rfl rfl hc115 ?_
                  refine V_y (Y_lss rfl rfl) rfl rfl rfl ?_
                  refine V_ge rfl rfl rfl hc115 ?_
                  refine V_y (Y_move rfl) rfl rfl rfl ?_
                  refine V_cut 4 (fun _ : Unit => [(1, .pointer (some ⟨b3, 0, none⟩)), (3, .int .i64 (k60 : Int)), (4, .pointer (some ⟨b84, 0, none⟩)), (79, v54), (80, .int .i64 (c.pieces.length : Int)), (81, .int .i64 (k60 : Int)), (130, .bool (x79.to_ == (-1))), (141, .bool ((decide ((k60 : Int) < (w64 ((c.pieces.length : Int) - 1)))) || (c.stop != (-1))))]) (fun _ w' => w87 = w') ?_ ?_
                  · simp only [List.take, List.drop]
                    rcases Bool.eq_false_or_eq_true (decide ((k60 : Int) < (w64 ((c.pieces.length : Int) - 1)))) with hc121 | hc121
                    · refine V_gn rfl rfl rfl hc121 rfl rfl rfl ?_
                      refine V_gn rfl rfl rfl hc121 rfl rfl rfl ?_
                      refine V_gn rfl rfl rfl hc121 rfl rfl rfl ?_
                      refine V_ge rfl rfl rfl hc115 ?_
                      refine V_y (Y_pick_te rfl hc121 rfl) rfl rfl rfl ?_
                      exact V_end fun a ha => ⟨(), ha.sub ⟨rfl, rfl, rfl, rfl, rfl, rfl, rfl, (by rw [hc121]; rfl), trivial⟩, rfl⟩
                    · refine V_ge rfl rfl rfl hc121 ?_
                      have h123 := El_level_Clock_4 h6
                      refine V_y (Y_fieldAddr Tryd.underlying31 rfl Tryd.sizeOf3 (by decide) rfl) rfl rfl rfl ?_
                      refine V_ge rfl rfl rfl hc121 ?_
                      refine V_y (Y_load (El.int h123) Tryd.isAgg3 rfl) rfl rfl rfl ?_
                      refine V_ge rfl rfl rfl hc121 ?_
                      refine V_y (Y_neq rfl rfl) rfl rfl rfl ?_
                      refine V_ge rfl rfl rfl hc115 ?_
                      refine V_y (Y_pick_fe rfl hc121 rfl) rfl rfl rfl ?_
                      exact V_end fun a ha => ⟨(), ha.sub ⟨rfl, rfl, rfl, rfl, rfl, rfl, rfl, (by rw [hc121]; rfl), trivial⟩, rfl⟩
                  simp only [List.take, List.drop]
                  rintro _ _ rfl
                  refine V_y (Y_pick_te rfl hc115 rfl) rfl rfl rfl ?_
                  exact V_end fun a ha => ⟨(), ha.sub ⟨rfl, rfl, rfl, rfl, rfl, rfl, (by rw [hc115]; rfl), trivial⟩, rfl⟩
                · refine V_gn rfl rfl rfl hc115 rfl rfl rfl ?_
                  refine V_gn rfl rfl rfl hc115 rfl rfl rfl ?_
                  refine V_gn rfl rfl rfl hc115 rfl rfl rfl ?_
                  refine V_gn rfl rfl rfl hc115 rfl rfl rfl ?_
                  refine V_gn rfl rfl rfl hc115 rfl rfl rfl ?_
                  refine V_gn rfl rfl rfl hc115 rfl rfl rfl ?_
                  refine V_gn rfl rfl rfl hc115 rfl rfl rfl ?_
                  refine V_gu rfl rfl rfl rfl rfl ?_
                  refine V_gu rfl rfl rfl rfl rfl ?_
                  refine V_gu rfl rfl rfl rfl rfl ?_
                  refine V_gn rfl rfl rfl hc115 rfl rfl rfl ?_
                  refine V_y (Y_pick_fe rfl hc115 rfl) rfl rfl rfl ?_
                  exact V_end fun a ha => ⟨(), ha.sub ⟨rfl, rfl, rfl, rfl, rfl, rfl, (by rw [hc115]; rfl), trivial⟩, rfl⟩
              simp only [List.take, List.drop]
              rintro _ _ rfl
              refine V_y (Y_assign rfl) rfl rfl rfl ?_
              refine V_to (fun _ _ => rfl) ?_
              obtain ⟨s125, ho124, h71⟩ := Option.bind_eq_some_iff.1 h71
              refine C_cutG (ι := Unit) (fun (_ : Unit) => [(1, .pointer (some ⟨b3, 0, none⟩)), (3, .int .i64 (k60 : Int)), (4, .pointer (some ⟨b84, 0, none⟩)), (79, v54), (80, .int .i64 (c.pieces.length : Int)), (81, .int .i64 (k60 : Int)), (126, .bool s125)]) (fun (_ : Unit) => fun w' => w87 = w') ?_ ?_
              · refine C_cond rfl (fun hc130 => ?_) (fun hc130 => ?_)
                · rw [if_pos hc130] at ho124
                  obtain rfl := Option.some.inj ho124
                  refine C_skip (fun a ha131 => ?_)
                  exact ⟨(), ha131.sub ⟨rfl, rfl, rfl, rfl, rfl, rfl, rfl, trivial⟩, rfl⟩
                · rw [if_neg (nt hc130)] at ho124
                  refine C_region ?_
                  have h132 := El_level_Clock_4 h6
                  refine V_y (Y_fieldAddr Tryd.underlying31 rfl Tryd.sizeOf3 (by decide) rfl) rfl rfl rfl ?_
                  refine V_y (Y_load (El.int h132) Tryd.isAgg3 rfl) rfl rfl rfl ?_
                  refine V_y (Y_neq rfl rfl) rfl rfl rfl ?_
                  refine V_y (Y_move rfl) rfl rfl rfl ?_
                  refine V_cut 6 (fun _ : Unit => [(1, .pointer (some ⟨b3, 0, none⟩)), (3, .int .i64 (k60 : Int)), (4, .pointer (some ⟨b84, 0, none⟩)), (79, v54), (80, .int .i64 (c.pieces.length : Int)), (81, .int .i64 (k60 : Int)), (152, .bool ((c.stop != (-1)) && (decide (c.stop < x79.to_))))]) (fun _ w' => w87 = w') ?_ ?_
                  · simp only [List.take, List.drop]
                    rcases Bool.eq_false_or_eq_true (c.stop != (-1)) with hc133 | hc133
                    · refine V_ge rfl rfl rfl hc133 ?_
                      have h135 := El_level_Piece_1 h89
                      refine V_y (Y_fieldAddr Tryd.underlying50 rfl Tryd.sizeOf3 (by decide) rfl) rfl rfl rfl ?_
                      refine V_ge rfl rfl rfl hc133 ?_
                      refine V_y (Y_load (El.int h135) Tryd.isAgg3 rfl) rfl rfl rfl ?_
                      refine V_ge rfl rfl rfl hc133 ?_
                      have h136 := El_level_Clock_4 h6
                      refine V_y (Y_fieldAddr Tryd.underlying31 rfl Tryd.sizeOf3 (by decide) rfl) rfl rfl rfl ?_
                      refine V_ge rfl rfl rfl hc133 ?_
                      refine V_y (Y_load (El.int h136) Tryd.isAgg3 rfl) rfl rfl rfl ?_
                      refine V_ge rfl rfl rfl hc133 ?_
                      refine V_y (Y_gtr rfl rfl) rfl rfl rfl ?_
                      refine V_y (Y_pick_te rfl hc133 rfl) rfl rfl rfl ?_
                      exact V_end fun a ha => ⟨(), ha.sub ⟨rfl, rfl, rfl, rfl, rfl, rfl, (by rw [hc133]; rfl), trivial⟩, rfl⟩
                    · refine V_gn rfl rfl rfl hc133 rfl rfl rfl ?_
                      refine V_gn rfl rfl rfl hc133 rfl rfl rfl ?_
                      refine V_gn rfl rfl rfl hc133 rfl rfl rfl ?_
                      refine V_gn rfl rfl rfl hc133 rfl rfl rfl ?_
                      refine V_gn rfl rfl rfl hc133 rfl rfl rfl ?_
                      refine V_y (Y_pick_fe rfl hc133 rfl) rfl rfl rfl ?_
                      exact V_end fun a ha => ⟨(), ha.sub ⟨rfl, rfl, rfl, rfl, rfl, rfl, (by rw [hc133]; rfl), trivial⟩, rfl⟩
                  simp only [List.take, List.drop]
                  rintro _ _ rfl
                  refine V_y (Y_assign rfl) rfl rfl rfl ?_
                  obtain rfl := Option.some.inj ho124
                  refine V_end (fun a ha137 => ?_)
                  exact ⟨(), ha137.sub ⟨rfl, rfl, rfl, rfl, rfl, rfl, rfl, trivial⟩, rfl⟩
              rintro _ _ rfl a ha129
              refine C_at (n := ⟨169, [], none⟩) (fun _ _ => rfl) ?_ ha129
              refine C_cond rfl (fun hc138 => ?_) (fun hc138 => ?_)
              · rw [if_pos hc138] at h71
                refine C_seq ?_
                refine C_region ?_
                refine V_y (Y_assign rfl) rfl rfl rfl ?_
                refine V_to (fun _ _ => rfl) ?_
                obtain rfl := Option.some.inj h71
                obtain rfl := (h72 : Lp.rt _ = _)
                rw [Lp.andThen_rt] at hm
                obtain rfl := Option.some.inj hm
                refine C_ret ?_
                try simp only [↓inBlock_ret, ↓then_ret]
                exact retQ rfl (Res.one Tryd.results10 rfl) ⟨rfl, hK.kp⟩
              · rw [if_neg (nt hc138)] at h71
                refine C_seq ?_
                refine C_region_q Tryd_mixed (by kernel_rfl) ?_
                refine VQ_y (fun w' hw' => Y_move rfl) rfl rfl rfl ?_
                refine VQ_y (fun w' hw' => Y_gtr rfl rfl) rfl rfl rfl ?_
                refine VQ_y (fun w' hw' => Y_move rfl) rfl rfl rfl ?_
                obtain ⟨s140, hs140, h71⟩ := Option.bind_eq_some_iff.1 h71
                refine VQ_cut 11 (fun _ : Unit => [(1, .pointer (some ⟨b3, 0, none⟩)), (79, v54), (80, .int .i64 (c.pieces.length : Int)), (81, .int .i64 (k60 : Int)), (167, .bool s140)]) (fun _ => True) ?_ ?_
                · simp only [List.take, List.drop]
                  rcases Bool.eq_false_or_eq_true (decide ((0 : Int) < (k60 : Int))) with hc139 | hc139
                  · rw [if_pos hc139] at hs140
                    refine VQ_ge rfl rfl rfl hc139 ?_
                    have h141 := El_level_Piece_0 h89
                    refine VQ_y (fun w' hw' => Y_fieldAddr Tryd.underlying50 rfl Tryd.sizeOf3 (by decide) rfl) rfl rfl rfl ?_
                    refine VQ_ge rfl rfl rfl hc139 ?_
                    refine VQ_y (fun w' hw' => Y_load (El.int (El.kp h141 hw')) Tryd.isAgg3 rfl) rfl rfl rfl ?_
                    refine VQ_ge rfl rfl rfl hc139 ?_
                    have h142 := El_level_Clock_6 h6
                    refine VQ_y (fun w' hw' => Y_fieldAddr Tryd.underlying31 rfl Tryd.sizeOf29 (by decide) rfl) rfl rfl rfl ?_
                    refine VQ_ge rfl rfl rfl hc139 ?_
                    obtain ⟨v143, h144, h145⟩ := El.list h142
                    refine VQ_y (fun w' hw' => Y_load ((World.cell?_of_block (hw'.block _ (World.block_lt_of_cell? _ _ h144))).trans h144) Tryd.isAgg29 rfl) rfl rfl rfl ?_
                    refine VQ_ge rfl rfl rfl hc139 ?_
                    refine VQ_y (fun w' hw' => Y_move rfl) rfl rfl rfl ?_
                    refine VQ_ge rfl rfl rfl hc139 ?_
                    refine VQ_y (fun w' hw' => Y_subI rfl rfl) rfl rfl rfl ?_
                    refine VQ_ge rfl rfl rfl hc139 ?_
                    obtain ⟨x146, hx146, hs140⟩ := Option.bind_eq_some_iff.1 hs140
                    refine VQ_indexAddr h145 hx146 Tryd.underlying29 Tryd.sizeOf50 rfl rfl rfl ?_
                    intro b147 o148 h149
                    refine VQ_ge rfl rfl rfl hc139 ?_
                    have h150 := El_level_Piece_1 h149
                    refine VQ_y (fun w' hw' => Y_fieldAddr Tryd.underlying50 rfl Tryd.sizeOf3 (by decide) rfl) rfl rfl rfl ?_
                    refine VQ_ge rfl rfl rfl hc139 ?_
                    refine VQ_y (fun w' hw' => Y_load (El.int (El.kp h150 hw')) Tryd.isAgg3 rfl) rfl rfl rfl ?_
                    refine VQ_ge rfl rfl rfl hc139 ?_
                    refine VQ_y (fun w' hw' => Y_lss rfl rfl) rfl rfl rfl ?_
                    refine VQ_y (fun _ _ => Y_pick_te rfl hc139 rfl) rfl rfl rfl ?_
                    obtain rfl := Option.some.inj hs140
                    exact VQ_end fun a ha => ⟨(), ha.sub ⟨rfl, rfl, rfl, rfl, rfl, trivial⟩, trivial⟩
                  · rw [if_neg (nt hc139)] at hs140
                    refine VQ_gn rfl rfl rfl hc139 rfl rfl rfl ?_
                    refine VQ_gn rfl rfl rfl hc139 rfl rfl rfl ?_
                    refine VQ_gn rfl rfl rfl hc139 rfl rfl rfl ?_
                    refine VQ_gn rfl rfl rfl hc139 rfl rfl rfl ?_
                    refine VQ_gn rfl rfl rfl hc139 rfl rfl rfl ?_
                    refine VQ_gn rfl rfl rfl hc139 rfl rfl rfl ?_
                    refine VQ_gn rfl rfl rfl hc139 rfl rfl rfl ?_
                    refine VQ_gn rfl rfl rfl hc139 rfl rfl rfl ?_
                    refine VQ_gn rfl rfl rfl hc139 rfl rfl rfl ?_
                    refine VQ_gn rfl rfl rfl hc139 rfl rfl rfl ?_
                    refine VQ_y (fun _ _ => Y_pick_fe rfl hc139 rfl) rfl rfl rfl ?_
                    obtain rfl := Option.some.inj hs140
                    exact VQ_end fun a ha => ⟨(), ha.sub ⟨rfl, rfl, rfl, rfl, rfl, trivial⟩, trivial⟩
                simp only [List.take, List.drop]
                rintro _ _
                refine VQ_y (fun w' hw' => Y_assign rfl) rfl rfl rfl ?_
                refine VQ_to (fun _ _ => rfl) (fun w151 hk152 => ?_)
                have ht153 := Kp.tr hk152 hA hB
                replace hH := Hp.kp hH hk152
                replace h6 := El.tr h6 ht153
                replace h56 := Sl.tr h56 ht153
                replace hK := Tr.trans hK ht153
                replace hr59 := Tr.trans hr59 ht153
                replace hB := Nat.le_trans hB ht153.ex.size
                replace hA := ht153.new
                refine C_cond rfl (fun hc154 => ?_) (fun hc154 => ?_)
                · rw [if_pos hc154] at h71
                  refine C_seq ?_
                  refine C_region ?_
                  refine V_y (Y_assign rfl) rfl rfl rfl ?_
                  refine V_to (fun _ _ => rfl) ?_
                  obtain rfl := Option.some.inj h71
                  obtain rfl := (h72 : Lp.rt _ = _)
                  rw [Lp.andThen_rt] at hm
                  obtain rfl := Option.some.inj hm
                  refine C_ret ?_
                  try simp only [↓inBlock_ret, ↓then_ret]
                  exact retQ rfl (Res.one Tryd.results10 rfl) ⟨rfl, hK.kp⟩
                · rw [if_neg (nt hc154)] at h71
                  refine C_skip_to (fun _ _ => rfl) ?_
                  refine C_region ?_
                  refine V_y (Y_addI rfl rfl) rfl rfl rfl ?_
                  refine V_y (Y_move rfl) rfl rfl rfl ?_
                  obtain rfl := Option.some.inj h71
                  refine V_end (fun a ha155 => ?_)
                  exact ⟨(), hlt74, h72, ⟨A68, ha155.sub ⟨rfl, rfl, rfl, (congrArg (fun z => some (Value.int .i64 z)) (w64_succ hlt74 hn77)), trivial⟩, ⟨hH, hr59⟩⟩⟩
          · refine C_exit (fun a ha156 => ?_)
            exact ⟨((), A68), ha156.sub trivial, ⟨(h75 (eq_of_dec hle73 hc78)).symm, hH, hr59⟩⟩
        rintro ⟨s58, A64⟩ w61 ⟨rfl, hH65, hk62⟩ a ha63
        rw [Lp.andThen_fin] at hm
        replace hK := Tr.trans hK hk62
        replace hB := Nat.le_trans hB hk62.ex.size
        replace hA := hk62.new
        replace hH : Hp w.heap.size A64 w61 ([]) := hH65
        refine C_at (n := ⟨169, [], none⟩) (fun _ _ => rfl) ?_ ha63
        refine C_seq ?_
        refine C_region ?_
        refine V_y (Y_assign rfl) rfl rfl rfl ?_
        refine V_to (fun _ _ => rfl) ?_
        obtain rfl := Option.some.inj hm
        refine C_ret ?_
        try simp only [↓inBlock_ret, ↓then_ret]
        exact retQ rfl (Res.one Tryd.results10 rfl) ⟨rfl, hK.kp⟩

end Go.Proofs.YtkdkejikbcdadaaDoor.W
