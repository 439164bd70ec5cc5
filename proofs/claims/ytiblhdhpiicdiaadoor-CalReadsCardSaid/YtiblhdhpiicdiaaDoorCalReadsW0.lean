/-
  Written by program (gen.py) from the IR of the dump: each function computes its model.
-/
import Derived.Test.YtiblhdhpiicdiaaDoorProg
import Derived.Test.YtiblhdhpiicdiaaDoorGe
import Derived.Test.YtiblhdhpiicdiaaDoorCalReadsM
import Derived.KernelRfl
import Derived.Shelf.Strings.Search2
import Derived.Shelf.Strconv.AtoiAll
import Derived.Lib.AtoiErrMem
import Derived.Shelf.Strconv.Itoa3
import Derived.Shelf.Strings.SlTrimAscii
import Derived.Test.YtiblhdhpiicdiaaDoorGi
import Derived.Test.YtiblhdhpiicdiaaDoorGg
import Derived.Test.YtiblhdhpiicdiaaDoorHi
namespace Go.Proofs.YtiblhdhpiicdiaaDoor.W
open Go Go.RowKit Go.Pu Go.Gw Go.Proofs Go.Proofs.YtiblhdhpiicdiaaDoor.M
set_option linter.unusedVariables false
set_option linter.unusedSimpArgs false
variable {Dw : Prop}

def Tryd_FR : (Nat → Prop) → World → Prop := fun A w => Tb Tryd.prog A w ∧ Er Tryd.prog 1 A w ∧ Er Tryd.prog 2 A w
instance : Keeps Tryd_FR := ⟨fun h hh hs => ⟨Keeps.to (R := Tb Tryd.prog) ((h).1) hh hs, Keeps.to (R := Er Tryd.prog 1) ((h).2.1) hh hs, Keeps.to (R := Er Tryd.prog 2) ((h).2.2) hh hs⟩⟩
theorem Tryd_info3 : Tryd.prog.info? 3 = some Tryd.t3 := by kernel_rfl
theorem Tryd_info53 : Tryd.prog.info? 53 = some Tryd.t53 := by kernel_rfl
theorem Tryd_places53 : ∀ fs, Tryd.prog.underlying 53 = some (.struct fs) → ∀ w : World, (Array.mapM (fun (f : Field) => do pure (f.offset, ← Go.sizeOf f.type)) fs).run Tryd.prog w = .ok #[(0, 1), (1, 1), (2, 1)] w := by
  intro fs h w
  rw [Tryd.underlying53] at h
  cases h
  kernel_rfl
theorem Tryd_mixed : Tryd.prog.follows .mixedOrders = true := by kernel_rfl

instance : GoT cal_Change := GoT.of (β := Int × Int) fun x => (x.at_, x.offset)

instance : Flat cal_Change := ⟨fun {A w A1 w1 cs x} h => Flat.flat (α := Int × Int) (x := (x.at_, x.offset)) (A := A) (w := w) h⟩

theorem El_cal_Change_ {A : Nat → Prop} {w : World} {b off : Nat} {x : cal_Change} (h : El A w b off x) : El (α := Int × Int) A w b off (x.at_, x.offset) := h

theorem El_cal_Change_0 {A : Nat → Prop} {w : World} {b off : Nat} {x : cal_Change} (h : El A w b off x) : El A w b (off + 0) x.at_ := El.fst (El_cal_Change_ h)

theorem El_cal_Change_1 {A : Nat → Prop} {w : World} {b off : Nat} {x : cal_Change} (h : El A w b off x) : El A w b (off + 1) x.offset := El.snd (El_cal_Change_ h)

theorem El_cal_Change {A : Nat → Prop} {w : World} {b off : Nat} {x : cal_Change} (h : El A w b off x) : At w b off [.int .i64 x.at_, .int .i64 x.offset] ∧ True := by
  obtain ⟨h1, h2, cs, h3, h4⟩ := h
  obtain ⟨_, _, rfl, rfl, rfl⟩ := h3
  exact ⟨h4, trivial⟩

instance : GoT cal_Zone := GoT.of (β := Int × (List cal_Change)) fun x => (x.offset, x.changes)

theorem El_cal_Zone_ {A : Nat → Prop} {w : World} {b off : Nat} {x : cal_Zone} (h : El A w b off x) : El (α := Int × (List cal_Change)) A w b off (x.offset, x.changes) := h

theorem El_cal_Zone_0 {A : Nat → Prop} {w : World} {b off : Nat} {x : cal_Zone} (h : El A w b off x) : El A w b (off + 0) x.offset := El.fst (El_cal_Zone_ h)

theorem El_cal_Zone_1 {A : Nat → Prop} {w : World} {b off : Nat} {x : cal_Zone} (h : El A w b off x) : El A w b (off + 1) x.changes := El.snd (El_cal_Zone_ h)

theorem El_cal_Zone {A : Nat → Prop} {w : World} {b off : Nat} {x : cal_Zone} (h : El A w b off x) : ∃ v1, At w b off [.int .i64 x.offset, v1] ∧ Sl A w v1 x.changes := by
  obtain ⟨h1, h2, cs, h3, h4⟩ := h
  obtain ⟨_, _, rfl, rfl, ⟨u1, rfl, g1⟩⟩ := h3
  exact ⟨u1, h4, g1⟩

instance : GoT cal_part := GoT.of (β := Int × Int × Int) fun x => (x.from_, x.to_, x.offset)

instance : Flat cal_part := ⟨fun {A w A1 w1 cs x} h => Flat.flat (α := Int × Int × Int) (x := (x.from_, x.to_, x.offset)) (A := A) (w := w) h⟩

theorem El_cal_part_ {A : Nat → Prop} {w : World} {b off : Nat} {x : cal_part} (h : El A w b off x) : El (α := Int × Int × Int) A w b off (x.from_, x.to_, x.offset) := h

theorem El_cal_part_0 {A : Nat → Prop} {w : World} {b off : Nat} {x : cal_part} (h : El A w b off x) : El A w b (off + 0) x.from_ := El.fst (El_cal_part_ h)

theorem El_cal_part_1 {A : Nat → Prop} {w : World} {b off : Nat} {x : cal_part} (h : El A w b off x) : El A w b (off + 1) x.to_ := El.fst (El.snd (El_cal_part_ h))

theorem El_cal_part_2 {A : Nat → Prop} {w : World} {b off : Nat} {x : cal_part} (h : El A w b off x) : El A w b (off + 2) x.offset := El.snd (El.snd (El_cal_part_ h))

theorem El_cal_part {A : Nat → Prop} {w : World} {b off : Nat} {x : cal_part} (h : El A w b off x) : At w b off [.int .i64 x.from_, .int .i64 x.to_, .int .i64 x.offset] ∧ True := by
  obtain ⟨h1, h2, cs, h3, h4⟩ := h
  obtain ⟨_, _, rfl, rfl, ⟨_, _, rfl, rfl, rfl⟩⟩ := h3
  exact ⟨h4, trivial⟩

set_option maxRecDepth 4000 in
set_option maxHeartbeats 4000000 in
theorem cal_within_c (w : World) (n : Int) (low : Int) (high : Int) : Ret Tryd.prog 17 #[.int .i64 n, .int .i64 low, .int .i64 high] w fun v w' => v = .bool (cal_within n low high) ∧ w = w' := by
  generalize hm : cal_within n low high = r
  unfold cal_within at hm
  refine enter Tryd.func17 rfl Tryd.ntmps17 rfl ?_
  refine C_seq ?_
  refine C_region ?_
  refine V_y (Y_assign rfl) rfl rfl rfl ?_
  refine V_to (fun _ _ => rfl) ?_
  refine C_seq ?_
  refine C_region ?_
  refine V_y (Y_move rfl) rfl rfl rfl ?_
  refine V_y (Y_move rfl) rfl rfl rfl ?_
  refine V_y (Y_geq rfl rfl) rfl rfl rfl ?_
  refine V_y (Y_move rfl) rfl rfl rfl ?_
  refine V_cut 4 (fun _ : Unit => [(14, .bool ((decide (low ≤ n)) && (decide (n ≤ high))))]) (fun _ w' => w = w') ?_ ?_
  · simp only [List.take, List.drop]
    rcases Bool.eq_false_or_eq_true (decide (low ≤ n)) with hc1 | hc1
    · refine V_ge rfl rfl rfl hc1 ?_
      refine V_y (Y_move rfl) rfl rfl rfl ?_
      refine V_ge rfl rfl rfl hc1 ?_
      refine V_y (Y_move rfl) rfl rfl rfl ?_
      refine V_ge rfl rfl rfl hc1 ?_
      refine V_y (Y_leq rfl rfl) rfl rfl rfl ?_
      refine V_y (Y_pick_te rfl hc1 rfl) rfl rfl rfl ?_
      exact V_end fun a ha => ⟨(), ha.sub ⟨(by rw [hc1]; rfl), trivial⟩, rfl⟩
    · refine V_gn rfl rfl rfl hc1 rfl rfl rfl ?_
      refine V_gn rfl rfl rfl hc1 rfl rfl rfl ?_
      refine V_gn rfl rfl rfl hc1 rfl rfl rfl ?_
      refine V_y (Y_pick_fe rfl hc1 rfl) rfl rfl rfl ?_
      exact V_end fun a ha => ⟨(), ha.sub ⟨(by rw [hc1]; rfl), trivial⟩, rfl⟩
  simp only [List.take, List.drop]
  rintro _ _ rfl
  refine V_y (Y_assign rfl) rfl rfl rfl ?_
  refine V_to (fun _ _ => rfl) ?_
  obtain rfl := hm
  refine C_ret ?_
  try simp only [↓inBlock_ret, ↓then_ret]
  exact retQ rfl (Res.one Tryd.results17 rfl) ⟨rfl, rfl⟩

set_option maxRecDepth 4000 in
set_option maxHeartbeats 4000000 in
theorem cal_CheckZone_c (w : World) {A : Nat → Prop} (hA : ∀ b, w.heap.size ≤ b → A b) (z : cal_Zone) (v_z : Value) (h_z : Sl A w v_z z.changes) {r : Int} (hm : cal_CheckZone z = some r) : Ret Tryd.prog 6 #[.agg #[.int .i64 z.offset, v_z]] w fun v w' => v = .int .i64 r ∧ Kp Dw w w' := by
  unfold cal_CheckZone at hm
  refine enter Tryd.func6 rfl Tryd.ntmps6 rfl ?_
  have hA0 := hA
  have hB := Nat.le_refl w.heap.size
  have hK : Tr Dw w.heap.size A w A w := Tr.refl (Dw := Dw) hA
  have hH : Hp w.heap.size A w [] := Hp.nil
  refine C_seq ?_
  refine C_region ?_
  refine V_box rfl rfl ?_
  intro b3 w4 h5
  have hk7 := h5.kp (Dw := Dw)
  have h6 : El (α := cal_Zone) A w4 b3 0 z := h5.el hA ⟨[.int .i64 z.offset], _, rfl, rfl, ⟨_, rfl, h_z⟩⟩
  have ht8 := Kp.tr (Dw := Dw) hk7 hA hB
  replace hH := Hp.kp (Dw := Dw) hH hk7
  replace h_z := Sl.tr (Dw := Dw) h_z ht8
  replace hK := Tr.trans (Dw := Dw) hK ht8
  replace hB := Nat.le_trans hB ht8.ex.size
  replace hA := ht8.new
  refine V_y (Y_assign rfl) rfl rfl rfl ?_
  refine V_to (fun _ _ => rfl) ?_
  refine C_seq ?_
  refine C_seq ?_
  refine C_region ?_
  have h9 := El_cal_Zone_0 h6
  refine V_y (Y_fieldAddr Tryd.underlying24 rfl Tryd.sizeOf3 (by decide) rfl) rfl rfl rfl ?_
  refine V_y (Y_load (El.int h9) Tryd.isAgg3 rfl) rfl rfl rfl ?_
  refine V_call Tryd.call17 rfl rfl rfl rfl (cal_within_c w4 z.offset (-1440) 1440) ?_
  rintro _ _ ⟨rfl, rfl⟩
  refine V_y (Y_not rfl) rfl rfl rfl ?_
  refine V_to (fun _ _ => rfl) ?_
  refine C_cond rfl (fun hc10 => ?_) (fun hc10 => ?_)
  · rw [if_pos hc10] at hm
    refine C_seq ?_
    refine C_region ?_
    refine V_y (Y_assign rfl) rfl rfl rfl ?_
    refine V_to (fun _ _ => rfl) ?_
    obtain rfl := Option.some.inj hm
    refine C_ret ?_
    try simp only [↓inBlock_ret, ↓then_ret]
    exact retQ rfl (Res.one Tryd.results6 rfl) ⟨rfl, hK.kp⟩
  · rw [if_neg (nt hc10)] at hm
    refine C_skip_to (fun _ _ => rfl) ?_
    refine C_seq ?_
    refine C_seq ?_
    refine C_region ?_
    have h11 := El_cal_Zone_1 h6
    refine V_y (Y_fieldAddr Tryd.underlying24 rfl Tryd.sizeOf22 (by decide) rfl) rfl rfl rfl ?_
    obtain ⟨v12, h13, h14⟩ := El.list h11
    refine V_y (Y_load h13 Tryd.isAgg22 rfl) rfl rfl rfl ?_
    refine V_y (Y_lenSl h14 rfl Tryd.underlying22 rfl) rfl rfl rfl ?_
    refine V_y (Y_gtr rfl rfl) rfl rfl rfl ?_
    refine V_to (fun _ _ => rfl) ?_
    refine C_cond rfl (fun hc15 => ?_) (fun hc15 => ?_)
    · rw [if_pos hc15] at hm
      refine C_seq ?_
      refine C_region ?_
      refine V_y (Y_assign rfl) rfl rfl rfl ?_
      refine V_to (fun _ _ => rfl) ?_
      obtain rfl := Option.some.inj hm
      refine C_ret ?_
      try simp only [↓inBlock_ret, ↓then_ret]
      exact retQ rfl (Res.one Tryd.results6 rfl) ⟨rfl, hK.kp⟩
    · rw [if_neg (nt hc15)] at hm
      refine C_skip_to (fun _ _ => rfl) ?_
      refine C_seq ?_
      refine C_region_q (Dw := Dw) Tryd_mixed (by kernel_rfl) ?_
      have h16 := El_cal_Zone_0 h6
      refine VQ_y (fun w' hw' => Y_fieldAddr Tryd.underlying24 rfl Tryd.sizeOf3 (by decide) rfl) rfl rfl rfl ?_
      refine VQ_y (fun w' hw' => Y_load (El.int (El.kp (Dw := Dw) h16 hw')) Tryd.isAgg3 rfl) rfl rfl rfl ?_
      refine VQ_y (fun w' hw' => Y_assign rfl) rfl rfl rfl ?_
      refine VQ_y (fun w' hw' => Y_assign rfl) rfl rfl rfl ?_
      refine VQ_to (fun _ _ => rfl) (fun w17 hk18 => ?_)
      have ht19 := Kp.tr (Dw := Dw) hk18 hA hB
      replace hH := Hp.kp (Dw := Dw) hH hk18
      replace h6 := El.tr (Dw := Dw) h6 ht19
      replace hK := Tr.trans (Dw := Dw) hK ht19
      replace hB := Nat.le_trans hB ht19.ex.size
      replace hA := ht19.new
      refine C_seq ?_
      refine C_seq ?_
      refine C_region ?_
      have h20 := El_cal_Zone_1 h6
      refine V_y (Y_fieldAddr Tryd.underlying24 rfl Tryd.sizeOf22 (by decide) rfl) rfl rfl rfl ?_
      obtain ⟨v21, h22, h23⟩ := El.list h20
      refine V_y (Y_load h22 Tryd.isAgg22 rfl) rfl rfl rfl ?_
      refine V_y (Y_lenSl h23 rfl Tryd.underlying22 rfl) rfl rfl rfl ?_
      refine V_y (Y_move rfl) rfl rfl rfl ?_
      refine V_to (fun _ _ => rfl) ?_
      have hn44 := Sl.le h23
      obtain ⟨o24, ho24, hm⟩ := Option.bind_eq_some_iff.1 hm
      refine C_cutG (ι := ((Int × Int) × (Nat → Prop))) (fun ⟨s25, A31⟩ => []) (fun ⟨s25, A31⟩ => fun w' => o24 = .fin s25 ∧ Hp w.heap.size A31 w' ([]) ∧ Tr Dw w.heap.size A w17 A31 w') ?_ ?_
      · refine C_block ?_
        refine C_range ho24 (fun k27 s33 a w' => ∃ i : (Nat → Prop), Has ⟨50, [], none⟩ a ([(3, .int .i64 s33.1), (4, .int .i64 s33.2), (18, v21), (19, .int .i64 (z.changes.length : Int)), (20, .int .i64 (k27 : Int))]) ∧ Hp w.heap.size i w' ([]) ∧ Tr Dw w.heap.size A w17 i w') (fun a ha => ⟨A, ha.sub ⟨rfl, rfl, rfl, rfl, rfl, trivial⟩, ⟨hH, Tr.refl (Dw := Dw) hA⟩⟩) ?_
        rintro K k27 s33 a w34 ⟨A35, ha75, hH36, hr26⟩ hle40 K43 h42
        refine C_of ?_ ha75
        replace h23 := Sl.tr (Dw := Dw) h23 hr26
        replace hK := Tr.trans (Dw := Dw) hK hr26
        replace hB := Nat.le_trans hB hr26.ex.size
        replace hA := hr26.new
        replace hH : Hp w.heap.size A35 w34 ([]) := hH36
        refine C_seq (C_region (V_y (Y_lss rfl rfl) rfl rfl rfl (V_to (fun _ _ => rfl) ?_)))
        refine C_seq ?_
        refine C_cond rfl (fun hc45 => ?_) (fun hc45 => ?_)
        · have hlt41 := lt_of_dec hc45
          obtain ⟨x37, h38, h39⟩ := K43 hlt41
          refine C_skip_to (fun _ _ => rfl) ?_
          refine C_seq ?_
          refine C_block ?_
          refine C_seq ?_
          refine C_region ?_
          obtain ⟨x46, hx46, h38⟩ := Option.bind_eq_some_iff.1 h38
          refine V_indexAddr h23 hx46 Tryd.underlying22 Tryd.sizeOf46 rfl rfl rfl ?_
          intro b47 o48 h49
          obtain ⟨h50, _⟩ := El_cal_Change h49
          refine V_y (Y_loadA h50 Tryd.isAgg46 Tryd.sizeOf46 rfl) rfl rfl rfl ?_
          refine V_alloc Tryd.zeroValue46 rfl ?_
          intro b51 w52 h53
          refine V_storeNew h53 Tryd.sizeOf46 rfl rfl rfl rfl (by exact (List.forall_mem_cons.2 ⟨rfl, (List.forall_mem_cons.2 ⟨rfl, (fun _ h => nomatch h)⟩)⟩)) ?_
          intro w54 h55
          have hk57 := h55.kp (Dw := Dw)
          have h56 : El (α := cal_Change) A35 w54 b51 0 x46 := h55.el hA ⟨[.int .i64 x46.at_], _, rfl, rfl, rfl⟩
          have ht58 := Kp.tr (Dw := Dw) hk57 hA hB
          replace hH := Hp.kp (Dw := Dw) hH hk57
          replace h23 := Sl.tr (Dw := Dw) h23 ht58
          replace h49 := El.tr (Dw := Dw) h49 ht58
          replace hK := Tr.trans (Dw := Dw) hK ht58
          replace hr26 := Tr.trans (Dw := Dw) hr26 ht58
          replace hB := Nat.le_trans hB ht58.ex.size
          replace hA := ht58.new
          refine V_to (fun _ _ => rfl) ?_
          refine C_seq ?_
          refine C_block ?_
          refine C_seq ?_
          refine C_region ?_
          have h59 := El_cal_Change_0 h56
          refine V_y (Y_fieldAddr Tryd.underlying46 rfl Tryd.sizeOf3 (by decide) rfl) rfl rfl rfl ?_
          refine V_y (Y_load (El.int h59) Tryd.isAgg3 rfl) rfl rfl rfl ?_
          refine V_call Tryd.call17 rfl rfl rfl rfl (cal_within_c w54 x46.at_ 1 3000000) ?_
          rintro _ _ ⟨rfl, rfl⟩
          refine V_y (Y_not rfl) rfl rfl rfl ?_
          refine V_y (Y_move rfl) rfl rfl rfl ?_
          refine V_cut 5 (fun _ : Unit => [(3, .int .i64 s33.1), (4, .int .i64 s33.2), (6, .pointer (some ⟨b51, 0, none⟩)), (18, v21), (19, .int .i64 (z.changes.length : Int)), (20, .int .i64 (k27 : Int)), (34, .bool ((!(cal_within x46.at_ 1 3000000)) || (!(cal_within x46.offset (-1440) 1440))))]) (fun _ w' => w54 = w') ?_ ?_
          · simp only [List.take, List.drop]
            rcases Bool.eq_false_or_eq_true (!(cal_within x46.at_ 1 3000000)) with hc60 | hc60
            · refine V_gn rfl rfl rfl hc60 rfl rfl rfl ?_
              refine V_gn rfl rfl rfl hc60 rfl rfl rfl ?_
              refine V_gn rfl rfl rfl hc60 rfl rfl rfl ?_
              refine V_gn rfl rfl rfl hc60 rfl rfl rfl ?_
              refine V_y (Y_pick_te rfl hc60 rfl) rfl rfl rfl ?_
              exact V_end fun a ha => ⟨(), ha.sub ⟨rfl, rfl, rfl, rfl, rfl, rfl, (by rw [hc60]; rfl), trivial⟩, rfl⟩
            · refine V_ge rfl rfl rfl hc60 ?_
              have h62 := El_cal_Change_1 h56
              refine V_y (Y_fieldAddr Tryd.underlying46 rfl Tryd.sizeOf3 (by decide) rfl) rfl rfl rfl ?_
              refine V_ge rfl rfl rfl hc60 ?_
              refine V_y (Y_load (El.int h62) Tryd.isAgg3 rfl) rfl rfl rfl ?_
              refine V_ge rfl rfl rfl hc60 ?_
              refine V_call Tryd.call17 rfl rfl rfl rfl (cal_within_c w54 x46.offset (-1440) 1440) ?_
              rintro _ _ ⟨rfl, rfl⟩
              refine V_ge rfl rfl rfl hc60 ?_
              refine V_y (Y_not rfl) rfl rfl rfl ?_
              refine V_y (Y_pick_fe rfl hc60 rfl) rfl rfl rfl ?_
              exact V_end fun a ha => ⟨(), ha.sub ⟨rfl, rfl, rfl, rfl, rfl, rfl, (by rw [hc60]; rfl), trivial⟩, rfl⟩
          simp only [List.take, List.drop]
          rintro _ _ rfl
          refine V_y (Y_assign rfl) rfl rfl rfl ?_
          refine V_to (fun _ _ => rfl) ?_
          refine C_cond rfl (fun hc63 => ?_) (fun hc63 => ?_)
          · rw [if_pos hc63] at h38
            refine C_seq ?_
            refine C_region ?_
            refine V_y (Y_assign rfl) rfl rfl rfl ?_
            refine V_to (fun _ _ => rfl) ?_
            obtain rfl := Option.some.inj h38
            obtain rfl := (h39 : Lp.rt _ = _)
            rw [Lp.andThen_rt] at hm
            obtain rfl := Option.some.inj hm
            refine C_ret ?_
            try simp only [↓inBlock_ret, ↓then_ret]
            exact retQ rfl (Res.one Tryd.results6 rfl) ⟨rfl, hK.kp⟩
          · rw [if_neg (nt hc63)] at h38
            refine C_seq ?_
            refine C_region ?_
            have h64 := El_cal_Change_0 h56
            refine V_y (Y_fieldAddr Tryd.underlying46 rfl Tryd.sizeOf3 (by decide) rfl) rfl rfl rfl ?_
            refine V_y (Y_load (El.int h64) Tryd.isAgg3 rfl) rfl rfl rfl ?_
            refine V_y (Y_move rfl) rfl rfl rfl ?_
            refine V_y (Y_leq rfl rfl) rfl rfl rfl ?_
            refine V_y (Y_assign rfl) rfl rfl rfl ?_
            refine V_to (fun _ _ => rfl) ?_
            refine C_cond rfl (fun hc65 => ?_) (fun hc65 => ?_)
            · rw [if_pos hc65] at h38
              refine C_seq ?_
              refine C_region ?_
              refine V_y (Y_assign rfl) rfl rfl rfl ?_
              refine V_to (fun _ _ => rfl) ?_
              obtain rfl := Option.some.inj h38
              obtain rfl := (h39 : Lp.rt _ = _)
              rw [Lp.andThen_rt] at hm
              obtain rfl := Option.some.inj hm
              refine C_ret ?_
              try simp only [↓inBlock_ret, ↓then_ret]
              exact retQ rfl (Res.one Tryd.results6 rfl) ⟨rfl, hK.kp⟩
            · rw [if_neg (nt hc65)] at h38
              refine C_seq ?_
              refine C_region ?_
              have h66 := El_cal_Change_1 h56
              refine V_y (Y_fieldAddr Tryd.underlying46 rfl Tryd.sizeOf3 (by decide) rfl) rfl rfl rfl ?_
              refine V_y (Y_load (El.int h66) Tryd.isAgg3 rfl) rfl rfl rfl ?_
              refine V_y (Y_move rfl) rfl rfl rfl ?_
              refine V_y (Y_eql rfl rfl) rfl rfl rfl ?_
              refine V_y (Y_assign rfl) rfl rfl rfl ?_
              refine V_to (fun _ _ => rfl) ?_
              refine C_cond rfl (fun hc67 => ?_) (fun hc67 => ?_)
              · rw [if_pos hc67] at h38
                refine C_seq ?_
                refine C_region ?_
                refine V_y (Y_assign rfl) rfl rfl rfl ?_
                refine V_to (fun _ _ => rfl) ?_
                obtain rfl := Option.some.inj h38
                obtain rfl := (h39 : Lp.rt _ = _)
                rw [Lp.andThen_rt] at hm
                obtain rfl := Option.some.inj hm
                refine C_ret ?_
                try simp only [↓inBlock_ret, ↓then_ret]
                exact retQ rfl (Res.one Tryd.results6 rfl) ⟨rfl, hK.kp⟩
              · rw [if_neg (nt hc67)] at h38
                refine C_skip_to (fun _ _ => rfl) ?_
                refine C_region_q (Dw := Dw) Tryd_mixed (by kernel_rfl) ?_
                have h68 := El_cal_Change_0 h56
                refine VQ_y (fun w' hw' => Y_fieldAddr Tryd.underlying46 rfl Tryd.sizeOf3 (by decide) rfl) rfl rfl rfl ?_
                refine VQ_y (fun w' hw' => Y_load (El.int (El.kp (Dw := Dw) h68 hw')) Tryd.isAgg3 rfl) rfl rfl rfl ?_
                have h69 := El_cal_Change_1 h56
                refine VQ_y (fun w' hw' => Y_fieldAddr Tryd.underlying46 rfl Tryd.sizeOf3 (by decide) rfl) rfl rfl rfl ?_
                refine VQ_y (fun w' hw' => Y_load (El.int (El.kp (Dw := Dw) h69 hw')) Tryd.isAgg3 rfl) rfl rfl rfl ?_
                refine VQ_y (fun w' hw' => Y_assign rfl) rfl rfl rfl ?_
                refine VQ_y (fun w' hw' => Y_assign rfl) rfl rfl rfl ?_
                refine VQ_to (fun _ _ => rfl) (fun w70 hk71 => ?_)
                have ht72 := Kp.tr (Dw := Dw) hk71 hA hB
                replace hH := Hp.kp (Dw := Dw) hH hk71
                replace h23 := Sl.tr (Dw := Dw) h23 ht72
                replace hK := Tr.trans (Dw := Dw) hK ht72
                replace hr26 := Tr.trans (Dw := Dw) hr26 ht72
                replace hB := Nat.le_trans hB ht72.ex.size
                replace hA := ht72.new
                refine C_region ?_
                refine V_y (Y_addI rfl rfl) rfl rfl rfl ?_
                refine V_y (Y_move rfl) rfl rfl rfl ?_
                obtain rfl := Option.some.inj h38
                refine V_end (fun a ha73 => ?_)
                exact ⟨(x46.at_, x46.offset), hlt41, h39, ⟨A35, ha73.sub ⟨rfl, rfl, rfl, rfl, (congrArg (fun z => some (Value.int .i64 z)) (w64_succ hlt41 hn44)), trivial⟩, ⟨hH, hr26⟩⟩⟩
        · refine C_exit (fun a ha74 => ?_)
          exact ⟨((s33.1, s33.2), A35), ha74.sub trivial, ⟨(h42 (eq_of_dec hle40 hc45)).symm, hH, hr26⟩⟩
      rintro ⟨s25, A31⟩ w28 ⟨rfl, hH32, hk29⟩ a ha30
      rw [Lp.andThen_fin] at hm
      replace hK := Tr.trans (Dw := Dw) hK hk29
      replace hB := Nat.le_trans hB hk29.ex.size
      replace hA := hk29.new
      replace hH : Hp w.heap.size A31 w28 ([]) := hH32
      refine C_at (n := ⟨50, [], none⟩) (fun _ _ => rfl) ?_ ha30
      refine C_seq ?_
      refine C_region ?_
      refine V_y (Y_assign rfl) rfl rfl rfl ?_
      refine V_to (fun _ _ => rfl) ?_
      obtain rfl := Option.some.inj hm
      refine C_ret ?_
      try simp only [↓inBlock_ret, ↓then_ret]
      exact retQ rfl (Res.one Tryd.results6 rfl) ⟨rfl, hK.kp⟩

def Tryd_internal_stringslite_Index_lay_ren : Go.Shelf.Ren := ⟨fun | 217 => 47 | 219 => 35 | 224 => 49 | 225 => 48 | 266 => 59 | 267 => 50 | 314 => 60 | n => n, fun | 0 => 0 | 1 => 1 | 2 => 2 | 3 => 3 | 4 => 4 | 5 => 5 | 6 => 6 | 7 => 7 | 8 => 8 | 9 => 9 | 10 => 10 | 11 => 11 | 12 => 12 | 13 => 13 | 14 => 14 | 15 => 15 | 16 => 16 | 17 => 17 | 18 => 18 | 19 => 19 | 20 => 20 | 21 => 21 | 22 => 81 | 23 => 37 | 27 => 64 | 28 => 34 | 37 => 71 | 40 => 102 | 41 => 66 | 46 => 79 | 47 => 112 | 51 => 90 | 52 => 113 | 53 => 83 | 54 => 94 | 55 => 77 | 59 => 30 | 60 => 31 | 63 => 69 | 64 => 82 | 69 => 86 | 74 => 38 | 75 => 39 | 76 => 40 | 77 => 41 | 80 => 116 | 81 => 122 | 83 => 47 | 84 => 80 | 85 => 72 | 86 => 73 | 104 => 104 | 105 => 67 | 106 => 68 | 108 => 89 | 111 => 54 | 114 => 78 | 115 => 56 | 116 => 57 | 117 => 58 | 118 => 59 | 119 => 98 | 122 => 55 | 123 => 60 | 124 => 61 | 127 => 105 | 128 => 62 | 131 => 32 | 137 => 99 | 138 => 100 | 139 => 101 | 143 => 106 | 144 => 107 | 145 => 108 | 146 => 91 | 151 => 92 | 164 => 130 | 167 => 70 | 168 => 74 | 169 => 75 | 170 => 76 | 171 => 93 | 172 => 95 | 173 => 96 | 174 => 97 | 175 => 84 | 176 => 85 | 209 => 87 | 210 => 88 | 211 => 109 | 212 => 110 | 213 => 111 | 214 => 103 | 232 => 114 | 233 => 115 | 238 => 117 | 239 => 118 | 240 => 119 | 241 => 120 | 242 => 121 | 243 => 123 | 244 => 124 | 245 => 125 | 246 => 126 | 247 => 127 | 248 => 128 | 249 => 129 | n => n, fun | 1 => 0 | 3 => 3 | 4 => 4 | 15 => 1 | 16 => 2 | 17 => 5 | 18 => 6 | 19 => 7 | n => n⟩
theorem Tryd_internal_stringslite_Index_lay : Go.Proofs.Lays.n219 Tryd.prog Tryd_internal_stringslite_Index_lay_ren := {
  mixed := by kernel_rfl,
  f217 := Tryd.func47.trans (congrArg some (by kernel_rfl)),
  f219 := Tryd.func35.trans (congrArg some (by kernel_rfl)),
  f224 := Tryd.func49.trans (congrArg some (by kernel_rfl)),
  f225 := Tryd.func48.trans (congrArg some (by kernel_rfl)),
  f266 := Tryd.func59.trans (congrArg some (by kernel_rfl)),
  f267 := Tryd.func50.trans (congrArg some (by kernel_rfl)),
  f314 := Tryd.func60.trans (congrArg some (by kernel_rfl)),
  t3 := Tryd.underlying3,
  a3 := Tryd.isAgg3,
  z3 := Tryd.sizeOf3,
  v3 := Tryd.zeroValue3,
  t4 := Tryd.underlying4,
  a4 := Tryd.isAgg4,
  z4 := Tryd.sizeOf4,
  v4 := Tryd.zeroValue4,
  t5 := Tryd.underlying5,
  a5 := Tryd.isAgg5,
  z5 := Tryd.sizeOf5,
  v5 := Tryd.zeroValue5,
  t9 := Tryd.underlying9,
  a9 := Tryd.isAgg9,
  z9 := Tryd.sizeOf9,
  v9 := Tryd.zeroValue9,
  t46 := Tryd.underlying79,
  a46 := Tryd.isAgg79,
  z46 := Tryd.sizeOf79,
  v46 := Tryd.zeroValue79,
  t51 := Tryd.underlying90,
  a51 := Tryd.isAgg90,
  z51 := Tryd.sizeOf90,
  v51 := Tryd.zeroValue90,
  t146 := Tryd.underlying91,
  a146 := Tryd.isAgg91,
  z146 := Tryd.sizeOf91,
  v146 := Tryd.zeroValue91,
  g1 := by kernel_rfl }
theorem internal_stringslite_Index_c (w : World) {A : Nat → Prop} (hA : ∀ b, w.heap.size ≤ b → A b) (s : ByteArray) (substr : ByteArray) {r : Int} (hm : internal_stringslite_Index s substr = some r) : Ret Tryd.prog 35 #[.string s, .string substr] w fun v w' => v = .int .i64 r ∧ Kp Dw w w' := by
  unfold internal_stringslite_Index at hm
  split at hm
  · rename_i c hc
    obtain rfl := Option.some.inj hm
    obtain rfl : substr = ⟨#[c]⟩ := by apply ByteArray.ext; apply Array.toList_inj.1; simpa using hc
    refine Calls.mono (Go.Proofs.Any.stringslite_Index_one Tryd_internal_stringslite_Index_lay s c w) ?_
    rintro _ w' ⟨rfl, rfl⟩
    exact ⟨_, rfl, rfl, Kp.refl (Dw := Dw) _⟩
  · cases hm

set_option maxRecDepth 4000 in
set_option maxHeartbeats 4000000 in
theorem internal_stringslite_Cut_c (w : World) {A : Nat → Prop} (hA : ∀ b, w.heap.size ≤ b → A b) (s : ByteArray) (sep : ByteArray) {r : (ByteArray × ByteArray × Bool)} (hm : internal_stringslite_Cut s sep = some r) : Ret Tryd.prog 18 #[.string s, .string sep] w fun v w' => v = .tuple #[.string r.1, .string r.2.1, .bool r.2.2] ∧ Kp Dw w w' := by
  unfold internal_stringslite_Cut at hm
  refine enter Tryd.func18 rfl Tryd.ntmps18 rfl ?_
  have hA0 := hA
  have hB := Nat.le_refl w.heap.size
  have hK : Tr Dw w.heap.size A w A w := Tr.refl (Dw := Dw) hA
  have hH : Hp w.heap.size A w [] := Hp.nil
  refine C_seq ?_
  refine C_region ?_
  refine V_y (Y_assign rfl) rfl rfl rfl ?_
  refine V_y (Y_assign rfl) rfl rfl rfl ?_
  refine V_y (Y_assign rfl) rfl rfl rfl ?_
  refine V_to (fun _ _ => rfl) ?_
  refine C_seq ?_
  refine C_seq ?_
  refine C_region ?_
  refine V_y (Y_move rfl) rfl rfl rfl ?_
  refine V_y (Y_move rfl) rfl rfl rfl ?_
  obtain ⟨x1, hx1, hm⟩ := Option.bind_eq_some_iff.1 hm
  refine V_call Tryd.call35 rfl rfl rfl rfl (internal_stringslite_Index_c (Dw := Dw) w hA s sep hx1) ?_
  rintro _ w2 ⟨rfl, hk3⟩
  have ht4 := Kp.tr (Dw := Dw) hk3 hA hB
  replace hH := Hp.kp (Dw := Dw) hH hk3
  replace hK := Tr.trans (Dw := Dw) hK ht4
  replace hB := Nat.le_trans hB ht4.ex.size
  replace hA := ht4.new
  refine V_y (Y_assign rfl) rfl rfl rfl ?_
  refine V_to (fun _ _ => rfl) ?_
  refine C_seq ?_
  refine C_region ?_
  refine V_y (Y_move rfl) rfl rfl rfl ?_
  refine V_y (Y_geq rfl rfl) rfl rfl rfl ?_
  refine V_to (fun _ _ => rfl) ?_
  refine C_cond rfl (fun hc5 => ?_) (fun hc5 => ?_)
  · rw [if_pos hc5] at hm
    refine C_seq ?_
    refine C_region_q (Dw := Dw) Tryd_mixed (by kernel_rfl) ?_
    refine VQ_y (fun w' hw' => Y_move rfl) rfl rfl rfl ?_
    refine VQ_y (fun w' hw' => Y_move rfl) rfl rfl rfl ?_
    obtain ⟨x6, hx6, hm⟩ := Option.bind_eq_some_iff.1 hm
    refine VQ_y (fun w' hw' => Y_sliceSH hx6 Tryd.underlying9 rfl rfl) rfl rfl rfl ?_
    refine VQ_y (fun w' hw' => Y_move rfl) rfl rfl rfl ?_
    refine VQ_y (fun w' hw' => Y_move rfl) rfl rfl rfl ?_
    refine VQ_y (fun w' hw' => Y_move rfl) rfl rfl rfl ?_
    refine VQ_y (fun w' hw' => Y_lenStr rfl Tryd.underlying9 rfl) rfl rfl rfl ?_
    refine VQ_y (fun w' hw' => Y_addI rfl rfl) rfl rfl rfl ?_
    obtain ⟨x7, hx7, hm⟩ := Option.bind_eq_some_iff.1 hm
    refine VQ_y (fun w' hw' => Y_sliceSL hx7 Tryd.underlying9 rfl rfl) rfl rfl rfl ?_
    refine VQ_y (fun w' hw' => Y_assign rfl) rfl rfl rfl ?_
    refine VQ_y (fun w' hw' => Y_assign rfl) rfl rfl rfl ?_
    refine VQ_y (fun w' hw' => Y_assign rfl) rfl rfl rfl ?_
    refine VQ_to (fun _ _ => rfl) (fun w9 hk10 => ?_)
    have ht11 := Kp.tr (Dw := Dw) hk10 hA hB
    replace hH := Hp.kp (Dw := Dw) hH hk10
    replace hK := Tr.trans (Dw := Dw) hK ht11
    replace hB := Nat.le_trans hB ht11.ex.size
    replace hA := ht11.new
    obtain rfl := Option.some.inj hm
    refine C_ret ?_
    try simp only [↓inBlock_ret, ↓then_ret]
    exact retQ rfl (Res.three Tryd.results18 rfl rfl rfl) ⟨rfl, hK.kp⟩
  · rw [if_neg (nt hc5)] at hm
    refine C_skip_to (fun _ _ => rfl) ?_
    refine C_seq ?_
    refine C_region ?_
    refine V_y (Y_move rfl) rfl rfl rfl ?_
    refine V_y (Y_assign rfl) rfl rfl rfl ?_
    refine V_y (Y_assign rfl) rfl rfl rfl ?_
    refine V_y (Y_assign rfl) rfl rfl rfl ?_
    refine V_to (fun _ _ => rfl) ?_
    obtain rfl := Option.some.inj hm
    refine C_ret ?_
    try simp only [↓inBlock_ret, ↓then_ret]
    exact retQ rfl (Res.three Tryd.results18 rfl rfl rfl) ⟨rfl, hK.kp⟩

set_option maxRecDepth 4000 in
set_option maxHeartbeats 4000000 in
theorem strings_Cut_c (w : World) {A : Nat → Prop} (hA : ∀ b, w.heap.size ≤ b → A b) (s : ByteArray) (sep : ByteArray) {r : (ByteArray × ByteArray × Bool)} (hm : strings_Cut s sep = some r) : Ret Tryd.prog 7 #[.string s, .string sep] w fun v w' => v = .tuple #[.string r.1, .string r.2.1, .bool r.2.2] ∧ Kp Dw w w' := by
  unfold strings_Cut at hm
  refine enter Tryd.func7 rfl Tryd.ntmps7 rfl ?_
  have hA0 := hA
  have hB := Nat.le_refl w.heap.size
  have hK : Tr Dw w.heap.size A w A w := Tr.refl (Dw := Dw) hA
  have hH : Hp w.heap.size A w [] := Hp.nil
  refine C_seq ?_
  refine C_region ?_
  refine V_y (Y_assign rfl) rfl rfl rfl ?_
  refine V_y (Y_assign rfl) rfl rfl rfl ?_
  refine V_y (Y_assign rfl) rfl rfl rfl ?_
  refine V_to (fun _ _ => rfl) ?_
  refine C_seq ?_
  refine C_region ?_
  refine V_y (Y_move rfl) rfl rfl rfl ?_
  refine V_y (Y_move rfl) rfl rfl rfl ?_
  obtain ⟨x1, hx1, hm⟩ := Option.bind_eq_some_iff.1 hm
  refine V_call Tryd.call18 rfl rfl rfl rfl (internal_stringslite_Cut_c (Dw := Dw) w hA s sep hx1) ?_
  rintro _ w2 ⟨rfl, hk3⟩
  have ht4 := Kp.tr (Dw := Dw) hk3 hA hB
  replace hH := Hp.kp (Dw := Dw) hH hk3
  replace hK := Tr.trans (Dw := Dw) hK ht4
  replace hB := Nat.le_trans hB ht4.ex.size
  replace hA := ht4.new
  refine V_y (Y_extract rfl rfl) rfl rfl rfl ?_
  refine V_y (Y_extract rfl rfl) rfl rfl rfl ?_
  refine V_y (Y_extract rfl rfl) rfl rfl rfl ?_
  refine V_y (Y_assign rfl) rfl rfl rfl ?_
  refine V_y (Y_assign rfl) rfl rfl rfl ?_
  refine V_y (Y_assign rfl) rfl rfl rfl ?_
  refine V_to (fun _ _ => rfl) ?_
  obtain rfl := Option.some.inj hm
  refine C_ret ?_
  try simp only [↓inBlock_ret, ↓then_ret]
  exact retQ rfl (Res.three Tryd.results7 rfl rfl rfl) ⟨rfl, hK.kp⟩

def Tryd_strconv_Atoi_lay_ren : Go.Shelf.Ren := ⟨fun | 129 => 70 | 171 => 19 | 172 => 14 | 205 => 58 | 243 => 36 | 244 => 32 | 245 => 33 | 246 => 51 | 247 => 42 | 279 => 43 | 280 => 44 | 281 => 45 | 282 => 46 | 283 => 61 | 284 => 62 | 285 => 63 | 286 => 64 | 287 => 56 | 316 => 57 | 317 => 69 | 318 => 71 | 319 => 72 | 320 => 73 | 321 => 67 | 322 => 68 | 337 => 74 | 338 => 75 | n => n, fun | 0 => 0 | 1 => 1 | 2 => 2 | 3 => 3 | 4 => 4 | 5 => 5 | 6 => 6 | 7 => 7 | 8 => 8 | 9 => 9 | 10 => 10 | 11 => 11 | 12 => 12 | 13 => 13 | 14 => 14 | 15 => 15 | 16 => 16 | 17 => 17 | 18 => 18 | 19 => 19 | 20 => 20 | 21 => 21 | 22 => 81 | 23 => 37 | 27 => 64 | 28 => 34 | 37 => 71 | 40 => 102 | 41 => 66 | 46 => 79 | 47 => 112 | 51 => 90 | 52 => 113 | 53 => 83 | 54 => 94 | 55 => 77 | 59 => 30 | 60 => 31 | 63 => 69 | 64 => 82 | 69 => 86 | 74 => 38 | 75 => 39 | 76 => 40 | 77 => 41 | 80 => 116 | 81 => 122 | 83 => 47 | 84 => 80 | 85 => 72 | 86 => 73 | 104 => 104 | 105 => 67 | 106 => 68 | 108 => 89 | 111 => 54 | 114 => 78 | 115 => 56 | 116 => 57 | 117 => 58 | 118 => 59 | 119 => 98 | 122 => 55 | 123 => 60 | 124 => 61 | 127 => 105 | 128 => 62 | 131 => 32 | 137 => 99 | 138 => 100 | 139 => 101 | 143 => 106 | 144 => 107 | 145 => 108 | 146 => 91 | 151 => 92 | 164 => 130 | 167 => 70 | 168 => 74 | 169 => 75 | 170 => 76 | 171 => 93 | 172 => 95 | 173 => 96 | 174 => 97 | 175 => 84 | 176 => 85 | 209 => 87 | 210 => 88 | 211 => 109 | 212 => 110 | 213 => 111 | 214 => 103 | 232 => 114 | 233 => 115 | 238 => 117 | 239 => 118 | 240 => 119 | 241 => 120 | 242 => 121 | 243 => 123 | 244 => 124 | 245 => 125 | 246 => 126 | 247 => 127 | 248 => 128 | 249 => 129 | n => n, fun | 1 => 0 | 3 => 3 | 4 => 4 | 15 => 1 | 16 => 2 | 17 => 5 | 18 => 6 | 19 => 7 | n => n⟩
theorem Tryd_strconv_Atoi_laym0 : Go.Proofs.Lays.n172 Tryd.prog Tryd_strconv_Atoi_lay_ren := {
  mixed := by kernel_rfl,
  f129 := Tryd.func70.trans (congrArg some (by kernel_rfl)),
  f171 := Tryd.func19.trans (congrArg some (by kernel_rfl)),
  f172 := Tryd.func14.trans (congrArg some (by kernel_rfl)),
  f205 := Tryd.func58.trans (congrArg some (by kernel_rfl)),
  f243 := Tryd.func36.trans (congrArg some (by kernel_rfl)),
  f244 := Tryd.func32.trans (congrArg some (by kernel_rfl)),
  f245 := Tryd.func33.trans (congrArg some (by kernel_rfl)),
  f246 := Tryd.func51.trans (congrArg some (by kernel_rfl)),
  f247 := Tryd.func42.trans (congrArg some (by kernel_rfl)),
  f279 := Tryd.func43.trans (congrArg some (by kernel_rfl)),
  f280 := Tryd.func44.trans (congrArg some (by kernel_rfl)),
  f281 := Tryd.func45.trans (congrArg some (by kernel_rfl)),
  f282 := Tryd.func46.trans (congrArg some (by kernel_rfl)),
  f283 := Tryd.func61.trans (congrArg some (by kernel_rfl)),
  f284 := Tryd.func62.trans (congrArg some (by kernel_rfl)),
  f285 := Tryd.func63.trans (congrArg some (by kernel_rfl)),
  f286 := Tryd.func64.trans (congrArg some (by kernel_rfl)),
  f287 := Tryd.func56.trans (congrArg some (by kernel_rfl)),
  f316 := Tryd.func57.trans (congrArg some (by kernel_rfl)),
  f317 := Tryd.func69.trans (congrArg some (by kernel_rfl)),
  f318 := Tryd.func71.trans (congrArg some (by kernel_rfl)),
  f319 := Tryd.func72.trans (congrArg some (by kernel_rfl)),
  f320 := Tryd.func73.trans (congrArg some (by kernel_rfl)),
  f321 := Tryd.func67.trans (congrArg some (by kernel_rfl)),
  f322 := Tryd.func68.trans (congrArg some (by kernel_rfl)),
  f337 := Tryd.func74.trans (congrArg some (by kernel_rfl)),
  f338 := Tryd.func75.trans (congrArg some (by kernel_rfl)),
  t0 := Tryd.underlying0,
  a0 := Tryd.isAgg0,
  z0 := Tryd.sizeOf0,
  v0 := Tryd.zeroValue0,
  t2 := Tryd.underlying2,
  a2 := Tryd.isAgg2,
  z2 := Tryd.sizeOf2,
  v2 := Tryd.zeroValue2,
  t3 := Tryd.underlying3,
  a3 := Tryd.isAgg3,
  z3 := Tryd.sizeOf3,
  v3 := Tryd.zeroValue3,
  t4 := Tryd.underlying4,
  a4 := Tryd.isAgg4,
  z4 := Tryd.sizeOf4,
  v4 := Tryd.zeroValue4,
  t5 := Tryd.underlying5,
  a5 := Tryd.isAgg5,
  z5 := Tryd.sizeOf5,
  v5 := Tryd.zeroValue5,
  t9 := Tryd.underlying9,
  a9 := Tryd.isAgg9,
  z9 := Tryd.sizeOf9,
  v9 := Tryd.zeroValue9,
  t20 := Tryd.underlying20,
  a20 := Tryd.isAgg20,
  z20 := Tryd.sizeOf20,
  v20 := Tryd.zeroValue20,
  t21 := Tryd.underlying21,
  a21 := Tryd.isAgg21,
  z21 := Tryd.sizeOf21,
  v21 := Tryd.zeroValue21,
  t37 := Tryd.underlying71,
  a37 := Tryd.isAgg71,
  z37 := Tryd.sizeOf71,
  v37 := Tryd.zeroValue71,
  t46 := Tryd.underlying79,
  a46 := Tryd.isAgg79,
  z46 := Tryd.sizeOf79,
  v46 := Tryd.zeroValue79,
  t51 := Tryd.underlying90,
  a51 := Tryd.isAgg90,
  z51 := Tryd.sizeOf90,
  v51 := Tryd.zeroValue90,
  t53 := Tryd.underlying83,
  a53 := Tryd.isAgg83,
  z53 := Tryd.sizeOf83,
  v53 := Tryd.zeroValue83,
  t75 := Tryd.underlying39,
  a75 := Tryd.isAgg39,
  z75 := Tryd.sizeOf39,
  v75 := Tryd.zeroValue39,
  t76 := Tryd.underlying40,
  a76 := Tryd.isAgg40,
  z76 := Tryd.sizeOf40,
  v76 := Tryd.zeroValue40,
  t85 := Tryd.underlying72,
  a85 := Tryd.isAgg72,
  z85 := Tryd.sizeOf72,
  v85 := Tryd.zeroValue72,
  t127 := Tryd.underlying105,
  a127 := Tryd.isAgg105,
  z127 := Tryd.sizeOf105,
  v127 := Tryd.zeroValue105,
  t143 := Tryd.underlying106,
  a143 := Tryd.isAgg106,
  z143 := Tryd.sizeOf106,
  v143 := Tryd.zeroValue106,
  t145 := Tryd.underlying108,
  a145 := Tryd.isAgg108,
  z145 := Tryd.sizeOf108,
  v145 := Tryd.zeroValue108,
  t167 := Tryd.underlying70,
  a167 := Tryd.isAgg70,
  z167 := Tryd.sizeOf70,
  v167 := Tryd.zeroValue70,
  t168 := Tryd.underlying74,
  a168 := Tryd.isAgg74,
  z168 := Tryd.sizeOf74,
  v168 := Tryd.zeroValue74,
  t171 := Tryd.underlying93,
  a171 := Tryd.isAgg93,
  z171 := Tryd.sizeOf93,
  v171 := Tryd.zeroValue93,
  t173 := Tryd.underlying96,
  a173 := Tryd.isAgg96,
  z173 := Tryd.sizeOf96,
  v173 := Tryd.zeroValue96,
  t175 := Tryd.underlying84,
  a175 := Tryd.isAgg84,
  z175 := Tryd.sizeOf84,
  v175 := Tryd.zeroValue84,
  t210 := Tryd.underlying88,
  a210 := Tryd.isAgg88,
  z210 := Tryd.sizeOf88,
  v210 := Tryd.zeroValue88,
  t212 := Tryd.underlying110,
  a212 := Tryd.isAgg110,
  z212 := Tryd.sizeOf110,
  v212 := Tryd.zeroValue110,
  t213 := Tryd.underlying111,
  a213 := Tryd.isAgg111,
  z213 := Tryd.sizeOf111,
  t232 := Tryd.underlying114,
  a232 := Tryd.isAgg114,
  z232 := Tryd.sizeOf114,
  v232 := Tryd.zeroValue114,
  t233 := Tryd.underlying115,
  a233 := Tryd.isAgg115,
  z233 := Tryd.sizeOf115,
  v233 := Tryd.zeroValue115,
  g15 := by kernel_rfl,
  g16 := by kernel_rfl,
  g17 := by kernel_rfl,
  g18 := by kernel_rfl,
  g19 := by kernel_rfl }
theorem Tryd_strconv_Atoi_laym : Go.Proofs.LaysM.n172 Tryd.prog Tryd_strconv_Atoi_lay_ren := { Tryd_strconv_Atoi_laym0 with
  t80 := Tryd.underlying116,
  a80 := Tryd.isAgg116,
  z80 := Tryd.sizeOf116,
  v80 := Tryd.zeroValue116,
  i0 := by kernel_rfl,
  i2 := by kernel_rfl,
  i3 := by kernel_rfl,
  i4 := by kernel_rfl,
  i5 := by kernel_rfl,
  i9 := by kernel_rfl,
  i20 := by kernel_rfl,
  i21 := by kernel_rfl,
  i37 := by kernel_rfl,
  i46 := by kernel_rfl,
  i51 := by kernel_rfl,
  i53 := by kernel_rfl,
  i75 := by kernel_rfl,
  i76 := by kernel_rfl,
  i80 := by kernel_rfl,
  i85 := by kernel_rfl,
  i127 := by kernel_rfl,
  i143 := by kernel_rfl,
  i145 := by kernel_rfl,
  i167 := by kernel_rfl,
  i168 := by kernel_rfl,
  i171 := by kernel_rfl,
  i173 := by kernel_rfl,
  i175 := by kernel_rfl,
  i210 := by kernel_rfl,
  i212 := by kernel_rfl,
  i232 := by kernel_rfl,
  i233 := by kernel_rfl,
  m15 := by kernel_rfl,
  m16 := by kernel_rfl,
  m17 := by kernel_rfl,
  m18 := by kernel_rfl,
  m19 := by kernel_rfl }
theorem Tryd_strconv_Atoi_lay : Go.Proofs.LaysC.n172 Tryd.prog Tryd_strconv_Atoi_lay_ren := { Tryd_strconv_Atoi_laym with
  c0 := by kernel_rfl,
  c2 := by kernel_rfl,
  c3 := by kernel_rfl,
  c4 := by kernel_rfl,
  c5 := by kernel_rfl,
  c9 := by kernel_rfl,
  c20 := by kernel_rfl,
  c21 := by kernel_rfl,
  c37 := by kernel_rfl,
  c46 := by kernel_rfl,
  c51 := by kernel_rfl,
  c53 := by kernel_rfl,
  c75 := by kernel_rfl,
  c76 := by kernel_rfl,
  c80 := by kernel_rfl,
  c85 := by kernel_rfl,
  c127 := by kernel_rfl,
  c143 := by kernel_rfl,
  c145 := by kernel_rfl,
  c167 := by kernel_rfl,
  c168 := by kernel_rfl,
  c171 := by kernel_rfl,
  c173 := by kernel_rfl,
  c175 := by kernel_rfl,
  c210 := by kernel_rfl,
  c212 := by kernel_rfl,
  c213 := by kernel_rfl,
  c232 := by kernel_rfl,
  c233 := by kernel_rfl }
theorem strconv_Atoi_c (w : World) {A : Nat → Prop} (hA : ∀ b, w.heap.size ≤ b → A b) (hT : Er Tryd.prog 1 A w ∧ Er Tryd.prog 2 A w) (s : ByteArray) {r : Int × Bool} (hm : strconv_Atoi s = some r) : Ret Tryd.prog 14 #[.string s] w fun v w' => ∃ ev, v = .tuple #[.int .i64 r.1, ev] ∧ ErV ev r.2 ∧ Kp False w w' := by
  unfold strconv_Atoi at hm
  split at hm
  case isFalse => cases hm
  rename_i hs
  obtain rfl := Option.some.inj hm
  obtain ⟨⟨⟨t1, p1, hc1⟩, _, _⟩, ⟨t2, p2, hc2⟩, _, _⟩ := hT
  rcases h : Go.Lib.atoiAll s.data.toList with v | _ | _
  · refine Calls.mono (Go.Proofs.Any.strconv_Atoi_ok Tryd_strconv_Atoi_lay s (by omega) v h w) ?_
    rintro _ w' ⟨rfl, hk⟩
    refine ⟨_, rfl, _, rfl, rfl, ?_⟩
    rcases hk with rfl | ⟨t, rfl⟩
    · exact Kp.refl (Dw := False) _
    · exact .of (Go.Lib.bytesWorld_below w _ t)
  · refine Calls.mono (Go.Proofs.Any.strconv_Atoi_syntax Tryd_strconv_Atoi_lay s hs h (.iface t1 p1) w hc1 (.inr ⟨t1, p1, rfl⟩)) ?_
    rintro _ w' ⟨N, rfl, _, _, hb⟩
    exact ⟨_, rfl, _, rfl, ⟨_, _, rfl⟩, .of hb⟩
  · refine Calls.mono (Go.Proofs.Any.strconv_Atoi_range Tryd_strconv_Atoi_lay s hs h (.iface t2 p2) w hc2 (.inr ⟨t2, p2, rfl⟩)) ?_
    rintro _ w' ⟨N, rfl, _, _, hb⟩
    exact ⟨_, rfl, _, rfl, ⟨_, _, rfl⟩, .of hb⟩

def Tryd_strconv_Itoa_lay_ren : Go.Shelf.Ren := ⟨fun | 129 => 70 | 171 => 19 | 243 => 36 | 246 => 51 | 283 => 61 | 284 => 62 | 285 => 63 | 286 => 64 | 317 => 69 | 318 => 71 | 319 => 72 | 320 => 73 | 337 => 74 | 338 => 75 | n => n, fun | 0 => 0 | 1 => 1 | 2 => 2 | 3 => 3 | 4 => 4 | 5 => 5 | 6 => 6 | 7 => 7 | 8 => 8 | 9 => 9 | 10 => 10 | 11 => 11 | 12 => 12 | 13 => 13 | 14 => 14 | 15 => 15 | 16 => 16 | 17 => 17 | 18 => 18 | 19 => 19 | 20 => 20 | 21 => 21 | 22 => 81 | 23 => 37 | 27 => 64 | 28 => 34 | 37 => 71 | 40 => 102 | 41 => 66 | 46 => 79 | 47 => 112 | 51 => 90 | 52 => 113 | 53 => 83 | 54 => 94 | 55 => 77 | 59 => 30 | 60 => 31 | 63 => 69 | 64 => 82 | 69 => 86 | 74 => 38 | 75 => 39 | 76 => 40 | 77 => 41 | 80 => 116 | 81 => 122 | 83 => 47 | 84 => 80 | 85 => 72 | 86 => 73 | 104 => 104 | 105 => 67 | 106 => 68 | 108 => 89 | 111 => 54 | 114 => 78 | 115 => 56 | 116 => 57 | 117 => 58 | 118 => 59 | 119 => 98 | 122 => 55 | 123 => 60 | 124 => 61 | 127 => 105 | 128 => 62 | 131 => 32 | 137 => 99 | 138 => 100 | 139 => 101 | 143 => 106 | 144 => 107 | 145 => 108 | 146 => 91 | 151 => 92 | 164 => 130 | 167 => 70 | 168 => 74 | 169 => 75 | 170 => 76 | 171 => 93 | 172 => 95 | 173 => 96 | 174 => 97 | 175 => 84 | 176 => 85 | 209 => 87 | 210 => 88 | 211 => 109 | 212 => 110 | 213 => 111 | 214 => 103 | 232 => 114 | 233 => 115 | 238 => 117 | 239 => 118 | 240 => 119 | 241 => 120 | 242 => 121 | 243 => 123 | 244 => 124 | 245 => 125 | 246 => 126 | 247 => 127 | 248 => 128 | 249 => 129 | n => n, fun | 1 => 0 | 3 => 3 | 4 => 4 | 15 => 1 | 16 => 2 | 17 => 5 | 18 => 6 | 19 => 7 | n => n⟩
theorem Tryd_strconv_Itoa_lay0 : Go.Proofs.Lays.n171 Tryd.prog Tryd_strconv_Itoa_lay_ren := {
  mixed := by kernel_rfl,
  f129 := Tryd.func70.trans (congrArg some (by kernel_rfl)),
  f171 := Tryd.func19.trans (congrArg some (by kernel_rfl)),
  f243 := Tryd.func36.trans (congrArg some (by kernel_rfl)),
  f246 := Tryd.func51.trans (congrArg some (by kernel_rfl)),
  f283 := Tryd.func61.trans (congrArg some (by kernel_rfl)),
  f284 := Tryd.func62.trans (congrArg some (by kernel_rfl)),
  f285 := Tryd.func63.trans (congrArg some (by kernel_rfl)),
  f286 := Tryd.func64.trans (congrArg some (by kernel_rfl)),
  f317 := Tryd.func69.trans (congrArg some (by kernel_rfl)),
  f318 := Tryd.func71.trans (congrArg some (by kernel_rfl)),
  f319 := Tryd.func72.trans (congrArg some (by kernel_rfl)),
  f320 := Tryd.func73.trans (congrArg some (by kernel_rfl)),
  f337 := Tryd.func74.trans (congrArg some (by kernel_rfl)),
  f338 := Tryd.func75.trans (congrArg some (by kernel_rfl)),
  t0 := Tryd.underlying0,
  a0 := Tryd.isAgg0,
  z0 := Tryd.sizeOf0,
  v0 := Tryd.zeroValue0,
  t2 := Tryd.underlying2,
  a2 := Tryd.isAgg2,
  z2 := Tryd.sizeOf2,
  v2 := Tryd.zeroValue2,
  t3 := Tryd.underlying3,
  a3 := Tryd.isAgg3,
  z3 := Tryd.sizeOf3,
  v3 := Tryd.zeroValue3,
  t4 := Tryd.underlying4,
  a4 := Tryd.isAgg4,
  z4 := Tryd.sizeOf4,
  v4 := Tryd.zeroValue4,
  t5 := Tryd.underlying5,
  a5 := Tryd.isAgg5,
  z5 := Tryd.sizeOf5,
  v5 := Tryd.zeroValue5,
  t9 := Tryd.underlying9,
  a9 := Tryd.isAgg9,
  z9 := Tryd.sizeOf9,
  v9 := Tryd.zeroValue9,
  t20 := Tryd.underlying20,
  a20 := Tryd.isAgg20,
  z20 := Tryd.sizeOf20,
  v20 := Tryd.zeroValue20,
  t37 := Tryd.underlying71,
  a37 := Tryd.isAgg71,
  z37 := Tryd.sizeOf71,
  v37 := Tryd.zeroValue71,
  t46 := Tryd.underlying79,
  a46 := Tryd.isAgg79,
  z46 := Tryd.sizeOf79,
  v46 := Tryd.zeroValue79,
  t51 := Tryd.underlying90,
  a51 := Tryd.isAgg90,
  z51 := Tryd.sizeOf90,
  v51 := Tryd.zeroValue90,
  t53 := Tryd.underlying83,
  a53 := Tryd.isAgg83,
  z53 := Tryd.sizeOf83,
  v53 := Tryd.zeroValue83,
  t171 := Tryd.underlying93,
  a171 := Tryd.isAgg93,
  z171 := Tryd.sizeOf93,
  v171 := Tryd.zeroValue93,
  t173 := Tryd.underlying96,
  a173 := Tryd.isAgg96,
  z173 := Tryd.sizeOf96,
  v173 := Tryd.zeroValue96,
  t212 := Tryd.underlying110,
  a212 := Tryd.isAgg110,
  z212 := Tryd.sizeOf110,
  v212 := Tryd.zeroValue110,
  t213 := Tryd.underlying111,
  a213 := Tryd.isAgg111,
  z213 := Tryd.sizeOf111,
  t232 := Tryd.underlying114,
  a232 := Tryd.isAgg114,
  z232 := Tryd.sizeOf114,
  v232 := Tryd.zeroValue114,
  t233 := Tryd.underlying115,
  a233 := Tryd.isAgg115,
  z233 := Tryd.sizeOf115,
  v233 := Tryd.zeroValue115,
  g17 := by kernel_rfl,
  g18 := by kernel_rfl,
  g19 := by kernel_rfl }
theorem Tryd_strconv_Itoa_lay : Go.Proofs.LaysM.n171 Tryd.prog Tryd_strconv_Itoa_lay_ren := { Tryd_strconv_Itoa_lay0 with
  i0 := by kernel_rfl,
  i2 := by kernel_rfl,
  i3 := by kernel_rfl,
  i4 := by kernel_rfl,
  i5 := by kernel_rfl,
  i9 := by kernel_rfl,
  i20 := by kernel_rfl,
  i37 := by kernel_rfl,
  i46 := by kernel_rfl,
  i51 := by kernel_rfl,
  i53 := by kernel_rfl,
  i171 := by kernel_rfl,
  i173 := by kernel_rfl,
  i212 := by kernel_rfl,
  i232 := by kernel_rfl,
  i233 := by kernel_rfl,
  m17 := by kernel_rfl,
  m18 := by kernel_rfl,
  m19 := by kernel_rfl }
theorem strconv_Itoa_c (w : World) {A : Nat → Prop} (hA : ∀ b, w.heap.size ≤ b → A b) (hT : Tb Tryd.prog A w) (n : Int) {r : ByteArray} (hm : strconv_Itoa n = some r) : Ret Tryd.prog 19 #[.int .i64 n] w fun v w' => v = .string r ∧ Kp False w w' := by
  unfold strconv_Itoa at hm
  split at hm
  case isFalse => cases hm
  rename_i h
  obtain rfl := Option.some.inj hm
  refine Calls.mono (Go.Proofs.Any.strconv_Itoa Tryd_strconv_Itoa_lay n h.1 h.2 w hT.1) ?_
  rintro _ w' ⟨rfl, k, os, rfl⟩
  exact ⟨_, rfl, rfl, .of (Go.Lib.below_grow _ w (Nat.le_refl _) k os)⟩

set_option maxRecDepth 4000 in
set_option maxHeartbeats 4000000 in
theorem internal_stringslite_HasPrefix_c (w : World) (s : ByteArray) (prefix_ : ByteArray) {r : Bool} (hm : internal_stringslite_HasPrefix s prefix_ = some r) : Ret Tryd.prog 52 #[.string s, .string prefix_] w fun v w' => v = .bool r ∧ w = w' := by
  unfold internal_stringslite_HasPrefix at hm
  refine enter Tryd.func52 rfl Tryd.ntmps52 rfl ?_
  refine C_seq ?_
  refine C_region ?_
  refine V_y (Y_assign rfl) rfl rfl rfl ?_
  refine V_to (fun _ _ => rfl) ?_
  refine C_seq ?_
  refine C_region ?_
  refine V_y (Y_move rfl) rfl rfl rfl ?_
  refine V_y (Y_lenStr rfl Tryd.underlying9 rfl) rfl rfl rfl ?_
  refine V_y (Y_move rfl) rfl rfl rfl ?_
  refine V_y (Y_lenStr rfl Tryd.underlying9 rfl) rfl rfl rfl ?_
  refine V_y (Y_geq rfl rfl) rfl rfl rfl ?_
  refine V_y (Y_move rfl) rfl rfl rfl ?_
  obtain ⟨s2, hs2, hm⟩ := Option.bind_eq_some_iff.1 hm
  refine V_cut 7 (fun _ : Unit => [(17, .bool s2)]) (fun _ w' => w = w') ?_ ?_
  · simp only [List.take, List.drop]
    rcases Bool.eq_false_or_eq_true (decide ((prefix_.size : Int) ≤ (s.size : Int))) with hc1 | hc1
    · rw [if_pos hc1] at hs2
      refine V_ge rfl rfl rfl hc1 ?_
      refine V_y (Y_move rfl) rfl rfl rfl ?_
      refine V_ge rfl rfl rfl hc1 ?_
      refine V_y (Y_move rfl) rfl rfl rfl ?_
      refine V_ge rfl rfl rfl hc1 ?_
      refine V_y (Y_lenStr rfl Tryd.underlying9 rfl) rfl rfl rfl ?_
      refine V_ge rfl rfl rfl hc1 ?_
      obtain ⟨x3, hx3, hs2⟩ := Option.bind_eq_some_iff.1 hs2
      refine V_y (Y_sliceSH hx3 Tryd.underlying9 rfl rfl) rfl rfl rfl ?_
      refine V_ge rfl rfl rfl hc1 ?_
      refine V_y (Y_move rfl) rfl rfl rfl ?_
      refine V_ge rfl rfl rfl hc1 ?_
      refine V_y (Y_seql rfl rfl) rfl rfl rfl ?_
      refine V_y (Y_pick_te rfl hc1 rfl) rfl rfl rfl ?_
      obtain rfl := Option.some.inj hs2
      exact V_end fun a ha => ⟨(), ha.sub ⟨rfl, trivial⟩, rfl⟩
    · rw [if_neg (nt hc1)] at hs2
      refine V_gn rfl rfl rfl hc1 rfl rfl rfl ?_
      refine V_gn rfl rfl rfl hc1 rfl rfl rfl ?_
      refine V_gn rfl rfl rfl hc1 rfl rfl rfl ?_
      refine V_gn rfl rfl rfl hc1 rfl rfl rfl ?_
      refine V_gn rfl rfl rfl hc1 rfl rfl rfl ?_
      refine V_gn rfl rfl rfl hc1 rfl rfl rfl ?_
      refine V_y (Y_pick_fe rfl hc1 rfl) rfl rfl rfl ?_
      obtain rfl := Option.some.inj hs2
      exact V_end fun a ha => ⟨(), ha.sub ⟨rfl, trivial⟩, rfl⟩
  simp only [List.take, List.drop]
  rintro _ _ rfl
  refine V_y (Y_assign rfl) rfl rfl rfl ?_
  refine V_to (fun _ _ => rfl) ?_
  obtain rfl := Option.some.inj hm
  refine C_ret ?_
  try simp only [↓inBlock_ret, ↓then_ret]
  exact retQ rfl (Res.one Tryd.results52 rfl) ⟨rfl, rfl⟩

set_option maxRecDepth 4000 in
set_option maxHeartbeats 4000000 in
theorem internal_stringslite_TrimPrefix_c (w : World) (s : ByteArray) (prefix_ : ByteArray) {r : ByteArray} (hm : internal_stringslite_TrimPrefix s prefix_ = some r) : Ret Tryd.prog 37 #[.string s, .string prefix_] w fun v w' => v = .string r ∧ w = w' := by
  unfold internal_stringslite_TrimPrefix at hm
  refine enter Tryd.func37 rfl Tryd.ntmps37 rfl ?_
  refine C_seq ?_
  refine C_region ?_
  refine V_y (Y_assign rfl) rfl rfl rfl ?_
  refine V_to (fun _ _ => rfl) ?_
  refine C_seq ?_
  refine C_seq ?_
  refine C_region ?_
  refine V_y (Y_move rfl) rfl rfl rfl ?_
  refine V_y (Y_move rfl) rfl rfl rfl ?_
  obtain ⟨x1, hx1, hm⟩ := Option.bind_eq_some_iff.1 hm
  refine V_call Tryd.call52 rfl rfl rfl rfl (internal_stringslite_HasPrefix_c w s prefix_ hx1) ?_
  rintro _ _ ⟨rfl, rfl⟩
  refine V_to (fun _ _ => rfl) ?_
  refine C_cond rfl (fun hc2 => ?_) (fun hc2 => ?_)
  · rw [if_pos hc2] at hm
    refine C_seq ?_
    refine C_region ?_
    refine V_y (Y_move rfl) rfl rfl rfl ?_
    refine V_y (Y_move rfl) rfl rfl rfl ?_
    refine V_y (Y_lenStr rfl Tryd.underlying9 rfl) rfl rfl rfl ?_
    obtain ⟨x3, hx3, hm⟩ := Option.bind_eq_some_iff.1 hm
    refine V_y (Y_sliceSL hx3 Tryd.underlying9 rfl rfl) rfl rfl rfl ?_
    refine V_y (Y_assign rfl) rfl rfl rfl ?_
    refine V_to (fun _ _ => rfl) ?_
    obtain rfl := Option.some.inj hm
    refine C_ret ?_
    try simp only [↓inBlock_ret, ↓then_ret]
    exact retQ rfl (Res.one Tryd.results37 rfl) ⟨rfl, rfl⟩
  · rw [if_neg (nt hc2)] at hm
    refine C_skip_to (fun _ _ => rfl) ?_
    refine C_seq ?_
    refine C_region ?_
    refine V_y (Y_move rfl) rfl rfl rfl ?_
    refine V_y (Y_assign rfl) rfl rfl rfl ?_
    refine V_to (fun _ _ => rfl) ?_
    obtain rfl := Option.some.inj hm
    refine C_ret ?_
    try simp only [↓inBlock_ret, ↓then_ret]
    exact retQ rfl (Res.one Tryd.results37 rfl) ⟨rfl, rfl⟩

set_option maxRecDepth 4000 in
set_option maxHeartbeats 4000000 in
theorem strings_TrimPrefix_c (w : World) (s : ByteArray) (prefix_ : ByteArray) {r : ByteArray} (hm : strings_TrimPrefix s prefix_ = some r) : Ret Tryd.prog 20 #[.string s, .string prefix_] w fun v w' => v = .string r ∧ w = w' := by
  unfold strings_TrimPrefix at hm
  refine enter Tryd.func20 rfl Tryd.ntmps20 rfl ?_
  refine C_seq ?_
  refine C_region ?_
  refine V_y (Y_assign rfl) rfl rfl rfl ?_
  refine V_to (fun _ _ => rfl) ?_
  refine C_seq ?_
  refine C_region ?_
  refine V_y (Y_move rfl) rfl rfl rfl ?_
  refine V_y (Y_move rfl) rfl rfl rfl ?_
  obtain ⟨x1, hx1, hm⟩ := Option.bind_eq_some_iff.1 hm
  refine V_call Tryd.call37 rfl rfl rfl rfl (internal_stringslite_TrimPrefix_c w s prefix_ hx1) ?_
  rintro _ _ ⟨rfl, rfl⟩
  refine V_y (Y_assign rfl) rfl rfl rfl ?_
  refine V_to (fun _ _ => rfl) ?_
  obtain rfl := Option.some.inj hm
  refine C_ret ?_
  try simp only [↓inBlock_ret, ↓then_ret]
  exact retQ rfl (Res.one Tryd.results20 rfl) ⟨rfl, rfl⟩

set_option maxRecDepth 4000 in
set_option maxHeartbeats 4000000 in
theorem cal_number_c (w : World) {A : Nat → Prop} (hA : ∀ b, w.heap.size ≤ b → A b) (hT : Fz Tryd_FR A w) (s : ByteArray) (digits : Int) {r : (Int × Bool)} (hm : cal_number s digits = some r) : Ret Tryd.prog 8 #[.string s, .int .i64 digits] w fun v w' => v = .tuple #[.int .i64 r.1, .bool r.2] ∧ Kp False w w' := by
  unfold cal_number at hm
  refine enter Tryd.func8 rfl Tryd.ntmps8 rfl ?_
  have hA0 := hA
  have hB := Nat.le_refl w.heap.size
  have hK : Tr False w.heap.size A w A w := Tr.refl (Dw := False) hA
  have hH : Hp w.heap.size A w [] := Hp.nil
  refine C_seq ?_
  refine C_region ?_
  refine V_y (Y_assign rfl) rfl rfl rfl ?_
  refine V_y (Y_assign rfl) rfl rfl rfl ?_
  refine V_to (fun _ _ => rfl) ?_
  refine C_seq ?_
  refine C_region ?_
  refine V_y (Y_move rfl) rfl rfl rfl ?_
  obtain ⟨x1, hx1, hm⟩ := Option.bind_eq_some_iff.1 hm
  refine V_call Tryd.call14 rfl rfl rfl rfl (strconv_Atoi_c w hA ⟨((Fz.tr (Dw := False) hT hK)).2.1, ((Fz.tr (Dw := False) hT hK)).2.2⟩ s hx1) ?_
  rintro _ w4 ⟨v2, rfl, h3, hk5⟩
  have ht6 := Kp.tr (Dw := False) hk5 hA hB
  replace hH := Hp.kp (Dw := False) hH hk5
  replace hK := Tr.trans (Dw := False) hK ht6
  replace hB := Nat.le_trans hB ht6.ex.size
  replace hA := ht6.new
  refine V_y (Y_move rfl) rfl rfl rfl ?_
  refine V_y (Y_extract rfl rfl) rfl rfl rfl ?_
  refine V_y (Y_extract rfl rfl) rfl rfl rfl ?_
  refine V_y (Y_assign rfl) rfl rfl rfl ?_
  refine V_y (Y_assign rfl) rfl rfl rfl ?_
  refine V_to (fun _ _ => rfl) ?_
  refine C_seq ?_
  refine C_seq ?_
  obtain ⟨s8, ho7, hm⟩ := Option.bind_eq_some_iff.1 hm
  refine C_cutG (ι := (Nat → Prop)) (fun (A13 : (Nat → Prop)) => [(6, .int .i64 x1.1), (27, .bool s8)]) (fun (A13 : (Nat → Prop)) => fun w' => Hp w.heap.size A13 w' ([]) ∧ Tr False w.heap.size A w4 A13 w') ?_ ?_
  · have hr9 : Tr False w.heap.size A w4 A w4 := Tr.refl (Dw := False) hA
    refine C_region ?_
    refine V_y (Y_move rfl) rfl rfl rfl ?_
    refine V_y (Y_neqER h3 Tryd.underlying39 rfl) rfl rfl rfl ?_
    refine V_y (Y_move rfl) rfl rfl rfl ?_
    rcases Bool.eq_false_or_eq_true (x1.2) with hc15 | hc15
    · rw [if_pos hc15] at ho7
      refine V_gn rfl rfl rfl hc15 rfl rfl rfl ?_
      refine V_gn rfl rfl rfl hc15 rfl rfl rfl ?_
      refine V_gn rfl rfl rfl hc15 rfl rfl rfl ?_
      refine V_gn rfl rfl rfl hc15 rfl rfl rfl ?_
      refine V_y (Y_pick_te rfl hc15 rfl) rfl rfl rfl ?_
      refine V_y (Y_move rfl) rfl rfl rfl ?_
      rcases Bool.eq_false_or_eq_true (true) with hc16 | hc16
      · rw [if_pos hc16] at ho7
        refine V_gn rfl rfl rfl hc16 rfl rfl rfl ?_
        refine V_gn rfl rfl rfl hc16 rfl rfl rfl ?_
        refine V_gn rfl rfl rfl hc16 rfl rfl rfl ?_
        refine V_gn rfl rfl rfl hc16 rfl rfl rfl ?_
        refine V_gn rfl rfl rfl hc16 rfl rfl rfl ?_
        refine V_y (Y_pick_te rfl hc16 rfl) rfl rfl rfl ?_
        obtain rfl := Option.some.inj ho7
        refine V_end (fun a ha17 => ?_)
        exact ⟨A, ha17.sub ⟨rfl, rfl, trivial⟩, ⟨hH, hr9⟩⟩
      · rw [if_neg (nt hc16)] at ho7
        refine V_ge rfl rfl rfl hc16 ?_
        refine V_y (Y_move rfl) rfl rfl rfl ?_
        refine V_ge rfl rfl rfl hc16 ?_
        obtain ⟨x18, hx18, ho7⟩ := Option.bind_eq_some_iff.1 ho7
        refine V_call Tryd.call20 rfl rfl rfl rfl (strings_TrimPrefix_c w4 s (⟨#[45]⟩ : ByteArray) hx18) ?_
        rintro _ _ ⟨rfl, rfl⟩
        refine V_ge rfl rfl rfl hc16 ?_
        refine V_y (Y_lenStr rfl Tryd.underlying9 rfl) rfl rfl rfl ?_
        refine V_ge rfl rfl rfl hc16 ?_
        refine V_y (Y_move rfl) rfl rfl rfl ?_
        refine V_ge rfl rfl rfl hc16 ?_
        refine V_y (Y_gtr rfl rfl) rfl rfl rfl ?_
        refine V_y (Y_pick_fe rfl hc16 rfl) rfl rfl rfl ?_
        obtain rfl := Option.some.inj ho7
        refine V_end (fun a ha19 => ?_)
        exact ⟨A, ha19.sub ⟨rfl, rfl, trivial⟩, ⟨hH, hr9⟩⟩
    · rw [if_neg (nt hc15)] at ho7
      refine V_ge rfl rfl rfl hc15 ?_
      refine V_y (Y_move rfl) rfl rfl rfl ?_
      refine V_ge rfl rfl rfl hc15 ?_
      obtain ⟨x20, hx20, ho7⟩ := Option.bind_eq_some_iff.1 ho7
      refine V_call Tryd.call19 rfl rfl rfl rfl (strconv_Itoa_c w4 hA ((Fz.tr (Dw := False) hT hK)).1 x1.1 hx20) ?_
      rintro _ w21 ⟨rfl, hk22⟩
      have ht23 := Kp.tr (Dw := False) hk22 hA hB
      replace hH := Hp.kp (Dw := False) hH hk22
      replace hK := Tr.trans (Dw := False) hK ht23
      replace hr9 := Tr.trans (Dw := False) hr9 ht23
      replace hB := Nat.le_trans hB ht23.ex.size
      replace hA := ht23.new
      refine V_ge rfl rfl rfl hc15 ?_
      refine V_y (Y_move rfl) rfl rfl rfl ?_
      refine V_ge rfl rfl rfl hc15 ?_
      refine V_y (Y_sneq rfl rfl) rfl rfl rfl ?_
      refine V_y (Y_pick_fe rfl hc15 rfl) rfl rfl rfl ?_
      refine V_y (Y_move rfl) rfl rfl rfl ?_
      rcases Bool.eq_false_or_eq_true (!(strEq x20 s)) with hc24 | hc24
      · rw [if_pos hc24] at ho7
        refine V_gn rfl rfl rfl hc24 rfl rfl rfl ?_
        refine V_gn rfl rfl rfl hc24 rfl rfl rfl ?_
        refine V_gn rfl rfl rfl hc24 rfl rfl rfl ?_
        refine V_gn rfl rfl rfl hc24 rfl rfl rfl ?_
        refine V_gn rfl rfl rfl hc24 rfl rfl rfl ?_
        refine V_y (Y_pick_te rfl hc24 rfl) rfl rfl rfl ?_
        obtain rfl := Option.some.inj ho7
        refine V_end (fun a ha25 => ?_)
        exact ⟨A, ha25.sub ⟨rfl, rfl, trivial⟩, ⟨hH, hr9⟩⟩
      · rw [if_neg (nt hc24)] at ho7
        refine V_ge rfl rfl rfl hc24 ?_
        refine V_y (Y_move rfl) rfl rfl rfl ?_
        refine V_ge rfl rfl rfl hc24 ?_
        obtain ⟨x26, hx26, ho7⟩ := Option.bind_eq_some_iff.1 ho7
        refine V_call Tryd.call20 rfl rfl rfl rfl (strings_TrimPrefix_c w21 s (⟨#[45]⟩ : ByteArray) hx26) ?_
        rintro _ _ ⟨rfl, rfl⟩
        refine V_ge rfl rfl rfl hc24 ?_
        refine V_y (Y_lenStr rfl Tryd.underlying9 rfl) rfl rfl rfl ?_
        refine V_ge rfl rfl rfl hc24 ?_
        refine V_y (Y_move rfl) rfl rfl rfl ?_
        refine V_ge rfl rfl rfl hc24 ?_
        refine V_y (Y_gtr rfl rfl) rfl rfl rfl ?_
        refine V_y (Y_pick_fe rfl hc24 rfl) rfl rfl rfl ?_
        obtain rfl := Option.some.inj ho7
        refine V_end (fun a ha27 => ?_)
        exact ⟨A, ha27.sub ⟨rfl, rfl, trivial⟩, ⟨hH, hr9⟩⟩
  rintro A13 w10 ⟨hH14, hk11⟩ a ha12
  replace hK := Tr.trans (Dw := False) hK hk11
  replace hB := Nat.le_trans hB hk11.ex.size
  replace hA := hk11.new
  replace hH : Hp w.heap.size A13 w10 ([]) := hH14
  refine C_at (n := ⟨29, [], none⟩) (fun _ _ => rfl) ?_ ha12
  refine C_cond rfl (fun hc28 => ?_) (fun hc28 => ?_)
  · rw [if_pos hc28] at hm
    refine C_seq ?_
    refine C_region ?_
    refine V_y (Y_assign rfl) rfl rfl rfl ?_
    refine V_y (Y_assign rfl) rfl rfl rfl ?_
    refine V_to (fun _ _ => rfl) ?_
    obtain rfl := Option.some.inj hm
    refine C_ret ?_
    try simp only [↓inBlock_ret, ↓then_ret]
    exact retQ rfl (Res.two Tryd.results8 rfl rfl) ⟨rfl, hK.kp⟩
  · rw [if_neg (nt hc28)] at hm
    refine C_skip_to (fun _ _ => rfl) ?_
    refine C_seq ?_
    refine C_region ?_
    refine V_y (Y_move rfl) rfl rfl rfl ?_
    refine V_y (Y_assign rfl) rfl rfl rfl ?_
    refine V_y (Y_assign rfl) rfl rfl rfl ?_
    refine V_to (fun _ _ => rfl) ?_
    obtain rfl := Option.some.inj hm
    refine C_ret ?_
    try simp only [↓inBlock_ret, ↓then_ret]
    exact retQ rfl (Res.two Tryd.results8 rfl rfl) ⟨rfl, hK.kp⟩

set_option maxRecDepth 4000 in
set_option maxHeartbeats 4000000 in
theorem cal_twoDigits_c (w : World) {A : Nat → Prop} (hA : ∀ b, w.heap.size ≤ b → A b) (hT : Fz Tryd_FR A w) (s : ByteArray) (most : Int) {r : (Int × Bool)} (hm : cal_twoDigits s most = some r) : Ret Tryd.prog 9 #[.string s, .int .i64 most] w fun v w' => v = .tuple #[.int .i64 r.1, .bool r.2] ∧ Kp False w w' := by
  unfold cal_twoDigits at hm
  refine enter Tryd.func9 rfl Tryd.ntmps9 rfl ?_
  have hA0 := hA
  have hB := Nat.le_refl w.heap.size
  have hK : Tr False w.heap.size A w A w := Tr.refl (Dw := False) hA
  have hH : Hp w.heap.size A w [] := Hp.nil
  refine C_seq ?_
  refine C_region ?_
  refine V_y (Y_assign rfl) rfl rfl rfl ?_
  refine V_y (Y_assign rfl) rfl rfl rfl ?_
  refine V_to (fun _ _ => rfl) ?_
  refine C_seq ?_
  refine C_region ?_
  refine V_y (Y_move rfl) rfl rfl rfl ?_
  obtain ⟨x1, hx1, hm⟩ := Option.bind_eq_some_iff.1 hm
  refine V_y (Y_sadd hx1 rfl rfl) rfl rfl rfl ?_
  obtain ⟨x2, hx2, hm⟩ := Option.bind_eq_some_iff.1 hm
  refine V_call Tryd.call8 rfl rfl rfl rfl (cal_number_c w hA (Fz.tr (Dw := False) hT hK) x1 3 hx2) ?_
  rintro _ w3 ⟨rfl, hk4⟩
  have ht5 := Kp.tr (Dw := False) hk4 hA hB
  replace hH := Hp.kp (Dw := False) hH hk4
  replace hK := Tr.trans (Dw := False) hK ht5
  replace hB := Nat.le_trans hB ht5.ex.size
  replace hA := ht5.new
  refine V_y (Y_move rfl) rfl rfl rfl ?_
  refine V_y (Y_extract rfl rfl) rfl rfl rfl ?_
  refine V_y (Y_extract rfl rfl) rfl rfl rfl ?_
  refine V_y (Y_assign rfl) rfl rfl rfl ?_
  refine V_y (Y_assign rfl) rfl rfl rfl ?_
  refine V_to (fun _ _ => rfl) ?_
  refine C_seq ?_
  refine C_region ?_
  refine V_y (Y_move rfl) rfl rfl rfl ?_
  refine V_y (Y_subI rfl rfl) rfl rfl rfl ?_
  refine V_y (Y_move rfl) rfl rfl rfl ?_
  refine V_y (Y_move rfl) rfl rfl rfl ?_
  refine V_cut 4 (fun _ : Unit => [(1, .int .i64 most), (6, .int .i64 x2.1), (15, .int .i64 (w64 (x2.1 - 100))), (21, .bool (x2.2 && ((s.size : Int) == 2)))]) (fun _ w' => w3 = w') ?_ ?_
  · simp only [List.take, List.drop]
    rcases Bool.eq_false_or_eq_true (x2.2) with hc6 | hc6
    · refine V_ge rfl rfl rfl hc6 ?_
      refine V_y (Y_move rfl) rfl rfl rfl ?_
      refine V_ge rfl rfl rfl hc6 ?_
      refine V_y (Y_lenStr rfl Tryd.underlying9 rfl) rfl rfl rfl ?_
      refine V_ge rfl rfl rfl hc6 ?_
      refine V_y (Y_eql rfl rfl) rfl rfl rfl ?_
      refine V_y (Y_pick_te rfl hc6 rfl) rfl rfl rfl ?_
      exact V_end fun a ha => ⟨(), ha.sub ⟨rfl, rfl, rfl, (by rw [hc6]; rfl), trivial⟩, rfl⟩
    · refine V_gn rfl rfl rfl hc6 rfl rfl rfl ?_
      refine V_gn rfl rfl rfl hc6 rfl rfl rfl ?_
      refine V_gn rfl rfl rfl hc6 rfl rfl rfl ?_
      refine V_y (Y_pick_fe rfl hc6 rfl) rfl rfl rfl ?_
      exact V_end fun a ha => ⟨(), ha.sub ⟨rfl, rfl, rfl, (by rw [hc6]; rfl), trivial⟩, rfl⟩
  simp only [List.take, List.drop]
  rintro _ _ rfl
  refine V_y (Y_move rfl) rfl rfl rfl ?_
  refine V_cut 5 (fun _ : Unit => [(15, .int .i64 (w64 (x2.1 - 100))), (27, .bool ((x2.2 && ((s.size : Int) == 2)) && (decide ((w64 (x2.1 - 100)) ≤ most))))]) (fun _ w' => w3 = w') ?_ ?_
  · simp only [List.take, List.drop]
    rcases Bool.eq_false_or_eq_true ((x2.2 && ((s.size : Int) == 2))) with hc8 | hc8
    · refine V_ge rfl rfl rfl hc8 ?_
      refine V_y (Y_move rfl) rfl rfl rfl ?_
      refine V_ge rfl rfl rfl hc8 ?_
      refine V_y (Y_subI rfl rfl) rfl rfl rfl ?_
      refine V_ge rfl rfl rfl hc8 ?_
      refine V_y (Y_move rfl) rfl rfl rfl ?_
      refine V_ge rfl rfl rfl hc8 ?_
      refine V_y (Y_leq rfl rfl) rfl rfl rfl ?_
      refine V_y (Y_pick_te rfl hc8 rfl) rfl rfl rfl ?_
      exact V_end fun a ha => ⟨(), ha.sub ⟨rfl, (by rw [hc8]; rfl), trivial⟩, rfl⟩
    · refine V_gn rfl rfl rfl hc8 rfl rfl rfl ?_
      refine V_gn rfl rfl rfl hc8 rfl rfl rfl ?_
      refine V_gn rfl rfl rfl hc8 rfl rfl rfl ?_
      refine V_gn rfl rfl rfl hc8 rfl rfl rfl ?_
      refine V_y (Y_pick_fe rfl hc8 rfl) rfl rfl rfl ?_
      exact V_end fun a ha => ⟨(), ha.sub ⟨rfl, (by rw [hc8]; rfl), trivial⟩, rfl⟩
  simp only [List.take, List.drop]
  rintro _ _ rfl
  refine V_y (Y_assign rfl) rfl rfl rfl ?_
  refine V_y (Y_assign rfl) rfl rfl rfl ?_
  refine V_to (fun _ _ => rfl) ?_
  obtain rfl := Option.some.inj hm
  refine C_ret ?_
  try simp only [↓inBlock_ret, ↓then_ret]
  exact retQ rfl (Res.two Tryd.results9 rfl rfl) ⟨rfl, hK.kp⟩

set_option maxRecDepth 4000 in
set_option maxHeartbeats 4000000 in
theorem cal_localTime_c (w : World) (day : Int) (minute : Int) : Ret Tryd.prog 22 #[.int .i64 day, .int .i64 minute] w fun v w' => v = .int .i64 (cal_localTime day minute) ∧ w = w' := by
  generalize hm : cal_localTime day minute = r
  unfold cal_localTime at hm
  refine enter Tryd.func22 rfl Tryd.ntmps22 rfl ?_
  refine C_seq ?_
  refine C_region ?_
  refine V_y (Y_assign rfl) rfl rfl rfl ?_
  refine V_to (fun _ _ => rfl) ?_
  refine C_seq ?_
  refine C_seq ?_
  refine C_region ?_
  refine V_y (Y_move rfl) rfl rfl rfl ?_
  refine V_call Tryd.call17 rfl rfl rfl rfl (cal_within_c w day (-1) 2084) ?_
  rintro _ _ ⟨rfl, rfl⟩
  refine V_y (Y_not rfl) rfl rfl rfl ?_
  refine V_y (Y_move rfl) rfl rfl rfl ?_
  refine V_cut 4 (fun _ : Unit => [(12, .bool ((!(cal_within day (-1) 2084)) || (!(cal_within minute 0 1439))))]) (fun _ w' => w = w') ?_ ?_
  · simp only [List.take, List.drop]
    rcases Bool.eq_false_or_eq_true (!(cal_within day (-1) 2084)) with hc1 | hc1
    · refine V_gn rfl rfl rfl hc1 rfl rfl rfl ?_
      refine V_gn rfl rfl rfl hc1 rfl rfl rfl ?_
      refine V_gn rfl rfl rfl hc1 rfl rfl rfl ?_
      refine V_y (Y_pick_te rfl hc1 rfl) rfl rfl rfl ?_
      exact V_end fun a ha => ⟨(), ha.sub ⟨(by rw [hc1]; rfl), trivial⟩, rfl⟩
    · refine V_ge rfl rfl rfl hc1 ?_
      refine V_y (Y_move rfl) rfl rfl rfl ?_
      refine V_ge rfl rfl rfl hc1 ?_
      refine V_call Tryd.call17 rfl rfl rfl rfl (cal_within_c w minute 0 1439) ?_
      rintro _ _ ⟨rfl, rfl⟩
      refine V_ge rfl rfl rfl hc1 ?_
      refine V_y (Y_not rfl) rfl rfl rfl ?_
      refine V_y (Y_pick_fe rfl hc1 rfl) rfl rfl rfl ?_
      exact V_end fun a ha => ⟨(), ha.sub ⟨(by rw [hc1]; rfl), trivial⟩, rfl⟩
  simp only [List.take, List.drop]
  rintro _ _ rfl
  refine V_to (fun _ _ => rfl) ?_
  refine C_cond rfl (fun hc3 => ?_) (fun hc3 => ?_)
  · rw [if_pos hc3] at hm
    refine C_seq ?_
    refine C_region ?_
    refine V_y (Y_assign rfl) rfl rfl rfl ?_
    refine V_to (fun _ _ => rfl) ?_
    obtain rfl := hm
    refine C_ret ?_
    try simp only [↓inBlock_ret, ↓then_ret]
    exact retQ rfl (Res.one Tryd.results22 rfl) ⟨rfl, rfl⟩
  · rw [if_neg (nt hc3)] at hm
    refine C_skip_to (fun _ _ => rfl) ?_
    refine C_seq ?_
    refine C_region ?_
    refine V_y (Y_assign rfl) rfl rfl rfl ?_
    refine V_to (fun _ _ => rfl) ?_
    obtain rfl := hm
    refine C_ret ?_
    try simp only [↓inBlock_ret, ↓then_ret]
    exact retQ rfl (Res.one Tryd.results22 rfl) ⟨rfl, rfl⟩

set_option maxRecDepth 4000 in
set_option maxHeartbeats 4000000 in
theorem cmp_Or_api_Errno_c (w : World) {A : Nat → Prop} (vals : (List Int)) (v_vals : Value) (h_vals : Sl A w v_vals vals) {r : Int} (hm : cmp_Or_api_Errno vals = some r) : Ret Tryd.prog 21 #[v_vals] w fun v w' => v = .int .i64 r ∧ w = w' := by
  unfold cmp_Or_api_Errno at hm
  refine enter Tryd.func21 rfl Tryd.ntmps21 rfl ?_
  refine C_seq ?_
  refine C_region ?_
  refine V_y (Y_assign rfl) rfl rfl rfl ?_
  refine V_to (fun _ _ => rfl) ?_
  refine C_seq ?_
  refine C_region ?_
  refine V_y (Y_assign rfl) rfl rfl rfl ?_
  refine V_to (fun _ _ => rfl) ?_
  refine C_seq ?_
  refine C_seq ?_
  refine C_region ?_
  refine V_y (Y_move rfl) rfl rfl rfl ?_
  refine V_y (Y_lenSl h_vals rfl Tryd.underlying65 rfl) rfl rfl rfl ?_
  refine V_y (Y_move rfl) rfl rfl rfl ?_
  refine V_to (fun _ _ => rfl) ?_
  have hn19 := Sl.le h_vals
  obtain ⟨o3, ho3, hm⟩ := Option.bind_eq_some_iff.1 hm
  refine C_cutG (ι := Unit) (fun (s4 : Unit) => [(3, .int .i64 0)]) (fun (s4 : Unit) => fun w' => o3 = .fin s4 ∧ w = w') ?_ ?_
  · refine C_block ?_
    refine C_range ho3 (fun k6 _ a w' => ∃ i : Unit, Has ⟨18, [], none⟩ a ([(3, .int .i64 0), (6, v_vals), (7, .int .i64 (vals.length : Int)), (8, .int .i64 (k6 : Int))]) ∧ w = w') (fun a ha => ⟨(), ha.sub ⟨rfl, rfl, rfl, rfl, trivial⟩, rfl⟩) ?_
    rintro K k6 _ a _ ⟨_, ha28, rfl⟩ hle15 K18 h17
    refine C_of ?_ ha28
    refine C_seq (C_region (V_y (Y_lss rfl rfl) rfl rfl rfl (V_to (fun _ _ => rfl) ?_)))
    refine C_seq ?_
    refine C_cond rfl (fun hc20 => ?_) (fun hc20 => ?_)
    · have hlt16 := lt_of_dec hc20
      obtain ⟨x12, h13, h14⟩ := K18 hlt16
      refine C_skip_to (fun _ _ => rfl) ?_
      refine C_seq ?_
      refine C_block ?_
      refine C_seq ?_
      refine C_region ?_
      obtain ⟨x21, hx21, h13⟩ := Option.bind_eq_some_iff.1 h13
      refine V_indexAddr h_vals hx21 Tryd.underlying65 Tryd.sizeOf25 rfl rfl rfl ?_
      intro b22 o23 h24
      refine V_y (Y_load (El.int h24) Tryd.isAgg25 rfl) rfl rfl rfl ?_
      refine V_y (Y_assign rfl) rfl rfl rfl ?_
      refine V_to (fun _ _ => rfl) ?_
      refine C_seq ?_
      refine C_region ?_
      refine V_y (Y_move rfl) rfl rfl rfl ?_
      refine V_y (Y_move rfl) rfl rfl rfl ?_
      refine V_y (Y_neq rfl rfl) rfl rfl rfl ?_
      refine V_to (fun _ _ => rfl) ?_
      refine C_cond rfl (fun hc25 => ?_) (fun hc25 => ?_)
      · rw [if_pos hc25] at h13
        refine C_seq ?_
        refine C_region ?_
        refine V_y (Y_move rfl) rfl rfl rfl ?_
        refine V_y (Y_assign rfl) rfl rfl rfl ?_
        refine V_to (fun _ _ => rfl) ?_
        obtain rfl := Option.some.inj h13
        obtain rfl := (h14 : Lp.rt _ = _)
        rw [Lp.andThen_rt] at hm
        obtain rfl := Option.some.inj hm
        refine C_ret ?_
        try simp only [↓inBlock_ret, ↓then_ret]
        exact retQ rfl (Res.one Tryd.results21 rfl) ⟨rfl, rfl⟩
      · rw [if_neg (nt hc25)] at h13
        refine C_skip_to (fun _ _ => rfl) ?_
        refine C_region ?_
        refine V_y (Y_addI rfl rfl) rfl rfl rfl ?_
        refine V_y (Y_move rfl) rfl rfl rfl ?_
        obtain rfl := Option.some.inj h13
        refine V_end (fun a ha26 => ?_)
        exact ⟨(), hlt16, h14, ⟨(), ha26.sub ⟨rfl, rfl, rfl, (congrArg (fun z => some (Value.int .i64 z)) (w64_succ hlt16 hn19)), trivial⟩, rfl⟩⟩
    · refine C_exit (fun a ha27 => ?_)
      exact ⟨(), ha27.sub ⟨rfl, trivial⟩, ⟨(h17 (eq_of_dec hle15 hc20)).symm, rfl⟩⟩
  rintro s4 _ ⟨rfl, rfl⟩ a ha9
  rw [Lp.andThen_fin] at hm
  refine C_at (n := ⟨18, [], none⟩) (fun _ _ => rfl) ?_ ha9
  refine C_seq ?_
  refine C_region ?_
  refine V_y (Y_move rfl) rfl rfl rfl ?_
  refine V_y (Y_assign rfl) rfl rfl rfl ?_
  refine V_to (fun _ _ => rfl) ?_
  obtain rfl := Option.some.inj hm
  refine C_ret ?_
  try simp only [↓inBlock_ret, ↓then_ret]
  exact retQ rfl (Res.one Tryd.results21 rfl) ⟨rfl, rfl⟩

set_option maxRecDepth 4000 in
set_option maxHeartbeats 4000000 in
theorem cal_Zone_parts_c (w : World) {A : Nat → Prop} (hA : ∀ b, w.heap.size ≤ b → A b) (z : cal_Zone) (v_z : Value) (h_z : Sl A w v_z z.changes) {r : (List cal_part)} (hm : cal_Zone_parts z = some r) : Ret Tryd.prog 23 #[.agg #[.int .i64 z.offset, v_z]] w fun v w' => ∃ s0, v = s0 ∧ Ownd 53 w w' s0 r ∧ Kp Dw w w' := by
  unfold cal_Zone_parts at hm
  refine enter Tryd.func23 rfl Tryd.ntmps23 rfl ?_
  have hA0 := hA
  have hB := Nat.le_refl w.heap.size
  have hK : Tr Dw w.heap.size A w A w := Tr.refl (Dw := Dw) hA
  have hH : Hp w.heap.size A w [] := Hp.nil
  refine C_seq ?_
  refine C_region ?_
  refine V_box rfl rfl ?_
  intro b3 w4 h5
  have hk7 := h5.kp (Dw := Dw)
  have h6 : El (α := cal_Zone) A w4 b3 0 z := h5.el hA ⟨[.int .i64 z.offset], _, rfl, rfl, ⟨_, rfl, h_z⟩⟩
  have ht8 := Kp.tr (Dw := Dw) hk7 hA hB
  replace hH := Hp.kp (Dw := Dw) hH hk7
  replace h_z := Sl.tr (Dw := Dw) h_z ht8
  replace hK := Tr.trans (Dw := Dw) hK ht8
  replace hB := Nat.le_trans hB ht8.ex.size
  replace hA := ht8.new
  refine V_y (Y_assign rfl) rfl rfl rfl ?_
  refine V_to (fun _ _ => rfl) ?_
  refine C_seq ?_
  refine C_region ?_
  have h9 := El_cal_Zone_0 h6
  refine V_y (Y_fieldAddr Tryd.underlying24 rfl Tryd.sizeOf3 (by decide) rfl) rfl rfl rfl ?_
  refine V_y (Y_load (El.int h9) Tryd.isAgg3 rfl) rfl rfl rfl ?_
  refine V_y (Y_build Tryd.underlying53 Tryd.zeroValue53 (Tryd_places53 _ Tryd.underlying53) rfl (by with_unfolding_all rfl)) rfl rfl rfl ?_
  refine V_buildOwnH (Dw := Dw) (cells := #[.int .i64 0, .int .i64 3000001, .int .i64 z.offset]) (l := ([(⟨0, 3000001, z.offset⟩ : cal_part)] : List cal_part)) (len := 1) hH Tryd.underlying50 Tryd.sizeOf53 Tryd.zeroValue53 rfl (by kernel_rfl) (show (1 * 3 : Nat) ≠ 0 by decide) (show (1 * 3 : Nat) ≤ 2 ^ 24 by decide) hB hA ⟨[.int .i64 0, .int .i64 3000001, .int .i64 z.offset], _, rfl, ⟨[.int .i64 0], _, rfl, rfl, ⟨[.int .i64 3000001], _, rfl, rfl, rfl⟩⟩, rfl⟩ rfl rfl ?_
  intro v10 w11 A14 hH16 ht15
  replace h6 := El.tr (Dw := Dw) h6 ht15
  replace h9 := El.tr (Dw := Dw) h9 ht15
  replace hK := Tr.trans (Dw := Dw) hK ht15
  replace hB := Nat.le_trans hB ht15.ex.size
  replace hA := ht15.new
  replace hH : Hp w.heap.size A14 w11 (obS (α := cal_part) 53 v10 ([(⟨0, 3000001, z.offset⟩ : cal_part)] : List cal_part) :: []) := hH16
  refine V_y (Y_assign rfl) rfl rfl rfl ?_
  refine V_to (fun _ _ => rfl) ?_
  refine C_seq ?_
  refine C_seq ?_
  refine C_region ?_
  have h17 := El_cal_Zone_1 h6
  refine V_y (Y_fieldAddr Tryd.underlying24 rfl Tryd.sizeOf22 (by decide) rfl) rfl rfl rfl ?_
  obtain ⟨v18, h19, h20⟩ := El.list h17
  refine V_y (Y_load h19 Tryd.isAgg22 rfl) rfl rfl rfl ?_
  refine V_y (Y_lenSl h20 rfl Tryd.underlying22 rfl) rfl rfl rfl ?_
  refine V_y (Y_move rfl) rfl rfl rfl ?_
  refine V_to (fun _ _ => rfl) ?_
  have hn45 := Sl.le h20
  obtain ⟨o21, ho21, hm⟩ := Option.bind_eq_some_iff.1 hm
  refine C_cutG (ι := ((List cal_part) × Value × (Nat → Prop))) (fun ⟨s22, v28, A30⟩ => [(3, v28)]) (fun ⟨s22, v28, A30⟩ => fun w' => o21 = .fin s22 ∧ Hp w.heap.size A30 w' (obS (α := cal_part) 53 v28 s22 :: []) ∧ Tr Dw w.heap.size A14 w11 A30 w') ?_ ?_
  · refine C_block ?_
    refine C_range ho21 (fun k24 s32 a w' => ∃ i : (Value × (Nat → Prop)), Has ⟨35, [], none⟩ a ([(3, i.1), (11, v18), (12, .int .i64 (z.changes.length : Int)), (13, .int .i64 (k24 : Int))]) ∧ Hp w.heap.size i.2 w' (obS (α := cal_part) 53 i.1 s32 :: []) ∧ Tr Dw w.heap.size A14 w11 i.2 w') (fun a ha => ⟨(v10, A14), ha.sub ⟨rfl, rfl, rfl, rfl, trivial⟩, ⟨hH, Tr.refl (Dw := Dw) hA⟩⟩) ?_
    rintro K k24 s32 a w33 ⟨⟨v34, A36⟩, ha86, hH37, hr23⟩ hle41 K44 h43
    refine C_of ?_ ha86
    replace h20 := Sl.tr (Dw := Dw) h20 hr23
    replace hK := Tr.trans (Dw := Dw) hK hr23
    replace hB := Nat.le_trans hB hr23.ex.size
    replace hA := hr23.new
    replace hH : Hp w.heap.size A36 w33 (obS (α := cal_part) 53 v34 s32 :: []) := hH37
    refine C_seq (C_region (V_y (Y_lss rfl rfl) rfl rfl rfl (V_to (fun _ _ => rfl) ?_)))
    refine C_seq ?_
    refine C_cond rfl (fun hc46 => ?_) (fun hc46 => ?_)
    · have hlt42 := lt_of_dec hc46
      obtain ⟨x38, h39, h40⟩ := K44 hlt42
      refine C_skip_to (fun _ _ => rfl) ?_
      refine C_seq ?_
      refine C_block ?_
      refine C_seq ?_
      refine C_region ?_
      obtain ⟨x47, hx47, h39⟩ := Option.bind_eq_some_iff.1 h39
      refine V_indexAddr h20 hx47 Tryd.underlying22 Tryd.sizeOf46 rfl rfl rfl ?_
      intro b48 o49 h50
      obtain ⟨h51, _⟩ := El_cal_Change h50
      refine V_y (Y_loadA h51 Tryd.isAgg46 Tryd.sizeOf46 rfl) rfl rfl rfl ?_
      refine V_alloc Tryd.zeroValue46 rfl ?_
      intro b52 w53 h54
      refine V_storeNew h54 Tryd.sizeOf46 rfl rfl rfl rfl (by exact (List.forall_mem_cons.2 ⟨rfl, (List.forall_mem_cons.2 ⟨rfl, (fun _ h => nomatch h)⟩)⟩)) ?_
      intro w55 h56
      have hk58 := h56.kp (Dw := Dw)
      have h57 : El (α := cal_Change) A36 w55 b52 0 x47 := h56.el hA ⟨[.int .i64 x47.at_], _, rfl, rfl, rfl⟩
      have ht59 := Kp.tr (Dw := Dw) hk58 hA hB
      replace hH := Hp.kp (Dw := Dw) hH hk58
      replace h20 := Sl.tr (Dw := Dw) h20 ht59
      replace h50 := El.tr (Dw := Dw) h50 ht59
      replace hK := Tr.trans (Dw := Dw) hK ht59
      replace hr23 := Tr.trans (Dw := Dw) hr23 ht59
      replace hB := Nat.le_trans hB ht59.ex.size
      replace hA := ht59.new
      refine V_to (fun _ _ => rfl) ?_
      refine C_seq ?_
      refine C_region ?_
      refine V_y (Y_move rfl) rfl rfl rfl ?_
      refine V_y (Y_move rfl) rfl rfl rfl ?_
      refine V_y (Y_lenSl (Hp.any (α := cal_part) (e := 53) (v := v34) (l := s32) hH (i := 0) rfl) rfl Tryd.underlying50 rfl) rfl rfl rfl ?_
      refine V_y (Y_subI rfl rfl) rfl rfl rfl ?_
      have h60 := El_cal_Change_0 h57
      refine V_y (Y_fieldAddr Tryd.underlying46 rfl Tryd.sizeOf3 (by decide) rfl) rfl rfl rfl ?_
      refine V_y (Y_load (El.int h60) Tryd.isAgg3 rfl) rfl rfl rfl ?_
      obtain ⟨x61, hx61, h39⟩ := Option.bind_eq_some_iff.1 h39
      refine V_indexAddrH (α := cal_part) (e := 53) (v := v34) (l := s32) hH (i := 0) rfl hx61 Tryd.underlying50 Tryd.sizeOf53 rfl rfl rfl ?_
      intro b62 o63 h64 hl65
      have h66 := El_cal_part_1 h64
      refine V_y (Y_fieldAddr Tryd.underlying53 rfl Tryd.sizeOf3 (by decide) rfl) rfl rfl rfl ?_
      obtain ⟨x67, hx67, h39⟩ := Option.bind_eq_some_iff.1 h39
      refine V_storeFH (Dw := Dw) (α := cal_part) (e := 53) (v := v34) (l := s32) (foff := 1) hH (i := 0) rfl hl65 hx61 hx67 (fun _ h => by obtain ⟨_, _, rfl, rfl, ⟨_, _, rfl, rfl, rfl⟩⟩ := h; exact ⟨[_], _, rfl, rfl, ⟨[_], _, rfl, rfl, rfl⟩⟩) Tryd.sizeOf3 rfl (by simp [Value.cells, Value.oneCell']) (by decide) hB hA (congrArg (fun z => some (Value.pointer (some ⟨_, z, none⟩))) (by simp [Nat.add_assoc])) rfl ?_
      intro w68 hH69 ht70
      replace h20 := Sl.tr (Dw := Dw) h20 ht70
      replace h57 := El.tr (Dw := Dw) h57 ht70
      replace h60 := El.tr (Dw := Dw) h60 ht70
      replace hK := Tr.trans (Dw := Dw) hK ht70
      replace hr23 := Tr.trans (Dw := Dw) hr23 ht70
      replace hB := Nat.le_trans hB ht70.ex.size
      replace hA := ht70.new
      replace hH : Hp w.heap.size A36 w68 (obS (α := cal_part) 53 v34 x67 :: []) := hH69
      refine V_to (fun _ _ => rfl) ?_
      refine C_region ?_
      refine V_y (Y_move rfl) rfl rfl rfl ?_
      have h71 := El_cal_Change_0 h57
      refine V_y (Y_fieldAddr Tryd.underlying46 rfl Tryd.sizeOf3 (by decide) rfl) rfl rfl rfl ?_
      refine V_y (Y_load (El.int h71) Tryd.isAgg3 rfl) rfl rfl rfl ?_
      have h72 := El_cal_Change_1 h57
      refine V_y (Y_fieldAddr Tryd.underlying46 rfl Tryd.sizeOf3 (by decide) rfl) rfl rfl rfl ?_
      refine V_y (Y_load (El.int h72) Tryd.isAgg3 rfl) rfl rfl rfl ?_
      refine V_y (Y_build Tryd.underlying53 Tryd.zeroValue53 (Tryd_places53 _ Tryd.underlying53) rfl (by with_unfolding_all rfl)) rfl rfl rfl ?_
      refine V_buildSlice (Dw := Dw) (cells := #[.int .i64 x47.at_, .int .i64 3000001, .int .i64 x47.offset]) (l := ([(⟨x47.at_, 3000001, x47.offset⟩ : cal_part)] : List cal_part)) (len := 1) Tryd.underlying50 Tryd.sizeOf53 Tryd.zeroValue53 rfl (by kernel_rfl) (show (1 * 3 : Nat) ≠ 0 by decide) (show (1 * 3 : Nat) ≤ 2 ^ 24 by decide) hA ⟨[.int .i64 x47.at_, .int .i64 3000001, .int .i64 x47.offset], _, rfl, ⟨[.int .i64 x47.at_], _, rfl, rfl, ⟨[.int .i64 3000001], _, rfl, rfl, rfl⟩⟩, rfl⟩ rfl rfl ?_
      intro v73 w74 hk76 h75
      have ht77 := Kp.tr (Dw := Dw) hk76 hA hB
      replace hH := Hp.kp (Dw := Dw) hH hk76
      replace h20 := Sl.tr (Dw := Dw) h20 ht77
      replace h57 := El.tr (Dw := Dw) h57 ht77
      replace h71 := El.tr (Dw := Dw) h71 ht77
      replace h72 := El.tr (Dw := Dw) h72 ht77
      replace hK := Tr.trans (Dw := Dw) hK ht77
      replace hr23 := Tr.trans (Dw := Dw) hr23 ht77
      replace hB := Nat.le_trans hB ht77.ex.size
      replace hA := ht77.new
      obtain ⟨x78, hx78, h39⟩ := Option.bind_eq_some_iff.1 h39
      refine V_appendH (Dw := Dw) (e := 53) (v := v34) (l := x67) (ti := Tryd.t53) (bytes := 24) (lim := 5864062014805) hH (i := 0) rfl h75 hx78 Tryd.underlying50 Tryd_info53 rfl rfl rfl rfl (by decide) (by decide) (by decide) hB hA rfl rfl rfl ?_
      intro v79 w80 A81 hH82 ht83
      replace h20 := Sl.tr (Dw := Dw) h20 ht83
      replace h57 := El.tr (Dw := Dw) h57 ht83
      replace h71 := El.tr (Dw := Dw) h71 ht83
      replace h72 := El.tr (Dw := Dw) h72 ht83
      replace h75 := Sl.tr (Dw := Dw) h75 ht83
      replace hK := Tr.trans (Dw := Dw) hK ht83
      replace hr23 := Tr.trans (Dw := Dw) hr23 ht83
      replace hB := Nat.le_trans hB ht83.ex.size
      replace hA := ht83.new
      replace hH : Hp w.heap.size A81 w80 (obS (α := cal_part) 53 v79 x78 :: []) := hH82
      refine V_y (Y_assign rfl) rfl rfl rfl ?_
      refine V_to (fun _ _ => rfl) ?_
      refine C_region ?_
      refine V_y (Y_addI rfl rfl) rfl rfl rfl ?_
      refine V_y (Y_move rfl) rfl rfl rfl ?_
      obtain rfl := Option.some.inj h39
      refine V_end (fun a ha84 => ?_)
      exact ⟨x78, hlt42, h40, ⟨(v79, A81), ha84.sub ⟨rfl, rfl, rfl, (congrArg (fun z => some (Value.int .i64 z)) (w64_succ hlt42 hn45)), trivial⟩, ⟨hH, hr23⟩⟩⟩
    · refine C_exit (fun a ha85 => ?_)
      exact ⟨(s32, v34, A36), ha85.sub ⟨rfl, trivial⟩, ⟨(h43 (eq_of_dec hle41 hc46)).symm, hH, hr23⟩⟩
  rintro ⟨s22, v28, A30⟩ w25 ⟨rfl, hH31, hk26⟩ a ha27
  rw [Lp.andThen_fin] at hm
  replace hK := Tr.trans (Dw := Dw) hK hk26
  replace hB := Nat.le_trans hB hk26.ex.size
  replace hA := hk26.new
  replace hH : Hp w.heap.size A30 w25 (obS (α := cal_part) 53 v28 s22 :: []) := hH31
  refine C_at (n := ⟨35, [], none⟩) (fun _ _ => rfl) ?_ ha27
  refine C_seq ?_
  refine C_region ?_
  refine V_y (Y_move rfl) rfl rfl rfl ?_
  refine V_y (Y_assign rfl) rfl rfl rfl ?_
  refine V_to (fun _ _ => rfl) ?_
  obtain rfl := Option.some.inj hm
  refine C_ret ?_
  try simp only [↓inBlock_ret, ↓then_ret]
  exact retQ rfl (Res.one Tryd.results23 rfl) ⟨v28, rfl, (Hp.ownd hH (i := 0) rfl), hK.kp⟩

set_option maxRecDepth 4000 in
set_option maxHeartbeats 4000000 in
theorem cal_Shown_c (w : World) {A : Nat → Prop} (hA : ∀ b, w.heap.size ≤ b → A b) (z : cal_Zone) (v_z : Value) (h_z : Sl A w v_z z.changes) (day : Int) (minute : Int) {r : ((List Int) × Int)} (hm : cal_Shown z day minute = some r) : Ret Tryd.prog 10 #[.agg #[.int .i64 z.offset, v_z], .int .i64 day, .int .i64 minute] w fun v w' => ∃ s0, v = .tuple #[s0, .int .i64 r.2] ∧ Ownd 3 w w' s0 r.1 ∧ Kp Dw w w' := by
  unfold cal_Shown at hm
  refine enter Tryd.func10 rfl Tryd.ntmps10 rfl ?_
  have hA0 := hA
  have hB := Nat.le_refl w.heap.size
  have hK : Tr Dw w.heap.size A w A w := Tr.refl (Dw := Dw) hA
  have hH : Hp w.heap.size A w [] := Hp.nil
  refine C_seq ?_
  refine C_region ?_
  refine V_box rfl rfl ?_
  intro b3 w4 h5
  have hk7 := h5.kp (Dw := Dw)
  have h6 : El (α := cal_Zone) A w4 b3 0 z := h5.el hA ⟨[.int .i64 z.offset], _, rfl, rfl, ⟨_, rfl, h_z⟩⟩
  have ht8 := Kp.tr (Dw := Dw) hk7 hA hB
  replace hH := Hp.kp (Dw := Dw) hH hk7
  replace h_z := Sl.tr (Dw := Dw) h_z ht8
  replace hK := Tr.trans (Dw := Dw) hK ht8
  replace hB := Nat.le_trans hB ht8.ex.size
  replace hA := ht8.new
  refine V_y (Y_assign rfl) rfl rfl rfl ?_
  refine V_y (Y_assign rfl) rfl rfl rfl ?_
  refine V_to (fun _ _ => rfl) ?_
  refine C_seq ?_
  refine C_seq ?_
  refine C_region ?_
  obtain ⟨v9, h11, h10⟩ := El_cal_Zone h6
  refine V_y (Y_loadA h11 Tryd.isAgg24 Tryd.sizeOf24 rfl) rfl rfl rfl ?_
  obtain ⟨x12, hx12, hm⟩ := Option.bind_eq_some_iff.1 hm
  refine V_call Tryd.call6 rfl rfl rfl rfl (cal_CheckZone_c (Dw := Dw) w4 hA z v9 h10 hx12) ?_
  rintro _ w13 ⟨rfl, hk14⟩
  have ht15 := Kp.tr (Dw := Dw) hk14 hA hB
  replace hH := Hp.kp (Dw := Dw) hH hk14
  replace h6 := El.tr (Dw := Dw) h6 ht15
  replace h10 := Sl.tr (Dw := Dw) h10 ht15
  replace hK := Tr.trans (Dw := Dw) hK ht15
  replace hB := Nat.le_trans hB ht15.ex.size
  replace hA := ht15.new
  refine V_y (Y_move rfl) rfl rfl rfl ?_
  refine V_y (Y_move rfl) rfl rfl rfl ?_
  refine V_call Tryd.call22 rfl rfl rfl rfl (cal_localTime_c w13 day minute) ?_
  rintro _ _ ⟨rfl, rfl⟩
  refine V_buildSlice (Dw := Dw) (cells := #[.int .i64 x12, .int .i64 (cal_localTime day minute)]) (l := ([x12, (cal_localTime day minute)] : List Int)) (len := 2) Tryd.underlying65 Tryd.sizeOf25 Tryd.zeroValue25 rfl (by generalize ((cal_localTime day minute) : Int) = z20; kernel_rfl) (show (2 * 1 : Nat) ≠ 0 by decide) (show (2 * 1 : Nat) ≤ 2 ^ 24 by decide) hA ⟨[.int .i64 x12], _, rfl, rfl, ⟨[.int .i64 (cal_localTime day minute)], _, rfl, rfl, rfl⟩⟩ rfl rfl ?_
  intro v16 w17 hk19 h18
  have ht21 := Kp.tr (Dw := Dw) hk19 hA hB
  replace hH := Hp.kp (Dw := Dw) hH hk19
  replace h6 := El.tr (Dw := Dw) h6 ht21
  replace h10 := Sl.tr (Dw := Dw) h10 ht21
  replace hK := Tr.trans (Dw := Dw) hK ht21
  replace hB := Nat.le_trans hB ht21.ex.size
  replace hA := ht21.new
  obtain ⟨x22, hx22, hm⟩ := Option.bind_eq_some_iff.1 hm
  refine V_call Tryd.call21 rfl rfl rfl rfl (cmp_Or_api_Errno_c w17 ([x12, (cal_localTime day minute)] : List Int) v16 h18 hx22) ?_
  rintro _ _ ⟨rfl, rfl⟩
  refine V_y (Y_assign rfl) rfl rfl rfl ?_
  refine V_to (fun _ _ => rfl) ?_
  refine C_seq ?_
  refine C_region ?_
  refine V_y (Y_move rfl) rfl rfl rfl ?_
  refine V_y (Y_neq rfl rfl) rfl rfl rfl ?_
  refine V_to (fun _ _ => rfl) ?_
  refine C_cond rfl (fun hc23 => ?_) (fun hc23 => ?_)
  · rw [if_pos hc23] at hm
    refine C_seq ?_
    refine C_region ?_
    refine V_y (Y_move rfl) rfl rfl rfl ?_
    refine V_y (Y_assign rfl) rfl rfl rfl ?_
    refine V_y (Y_assign rfl) rfl rfl rfl ?_
    refine V_to (fun _ _ => rfl) ?_
    obtain rfl := Option.some.inj hm
    replace hH : Hp w.heap.size A w17 (obS (α := Int) 3 (.slice none 0 0) ([] : (List Int)) :: []) := Hp.addNil (α := Int) (e := 3) hH
    refine C_ret ?_
    try simp only [↓inBlock_ret, ↓then_ret]
    exact retQ rfl (Res.two Tryd.results10 rfl rfl) ⟨.slice none 0 0, rfl, (Hp.ownd hH (i := 0) rfl), hK.kp⟩
  · rw [if_neg (nt hc23)] at hm
    refine C_skip_to (fun _ _ => rfl) ?_
    refine C_seq ?_
    refine C_region ?_
    refine V_y (Y_assign rfl) rfl rfl rfl ?_
    refine V_to (fun _ _ => rfl) ?_
    refine C_seq ?_
    refine C_seq ?_
    refine C_region ?_
    obtain ⟨v24, h26, h25⟩ := El_cal_Zone h6
    refine V_y (Y_loadA h26 Tryd.isAgg24 Tryd.sizeOf24 rfl) rfl rfl rfl ?_
    obtain ⟨x27, hx27, hm⟩ := Option.bind_eq_some_iff.1 hm
    refine V_call Tryd.call23 rfl rfl rfl rfl (cal_Zone_parts_c (Dw := Dw) w17 hA z v24 h25 hx27) ?_
    rintro v28 w30 ⟨_, rfl, h29, hk31⟩
    obtain ⟨A32, ht33, hH34⟩ := Hp.addOwnd (Dw := Dw) hH hB hA hk31 h29
    replace h6 := El.tr (Dw := Dw) h6 ht33
    replace h25 := Sl.tr (Dw := Dw) h25 ht33
    replace hK := Tr.trans (Dw := Dw) hK ht33
    replace hB := Nat.le_trans hB ht33.ex.size
    replace hA := ht33.new
    replace hH : Hp w.heap.size A32 w30 (obS (α := cal_part) 53 v28 x27 :: []) := hH34
    refine V_y (Y_lenSl (Hp.any (α := cal_part) (e := 53) (v := v28) (l := x27) hH (i := 0) rfl) rfl Tryd.underlying50 rfl) rfl rfl rfl ?_
    refine V_y (Y_move rfl) rfl rfl rfl ?_
    refine V_to (fun _ _ => rfl) ?_
    replace hH : Hp w.heap.size A32 w30 (obS (α := Int) 3 (.slice none 0 0) ([] : (List Int)) :: obS (α := cal_part) 53 v28 x27 :: []) := Hp.addNil (α := Int) (e := 3) hH
    have hn59 := Hp.le (α := cal_part) (e := 53) (v := v28) (l := x27) hH (i := 1) rfl
    obtain ⟨o35, ho35, hm⟩ := Option.bind_eq_some_iff.1 hm
    refine C_cutG (ι := ((List Int) × Value × (Nat → Prop))) (fun ⟨s36, v42, A44⟩ => [(9, v42)]) (fun ⟨s36, v42, A44⟩ => fun w' => o35 = .fin s36 ∧ Hp w.heap.size A44 w' (obS (α := Int) 3 v42 s36 :: obS (α := cal_part) 53 v28 x27 :: []) ∧ Tr Dw w.heap.size A32 w30 A44 w') ?_ ?_
    · refine C_block ?_
      refine C_range ho35 (fun k38 s46 a w' => ∃ i : (Value × (Nat → Prop)), Has ⟨53, [], none⟩ a ([(1, .int .i64 day), (2, .int .i64 minute), (9, i.1), (24, v28), (25, .int .i64 (x27.length : Int)), (26, .int .i64 (k38 : Int))]) ∧ Hp w.heap.size i.2 w' (obS (α := Int) 3 i.1 s46 :: obS (α := cal_part) 53 v28 x27 :: []) ∧ Tr Dw w.heap.size A32 w30 i.2 w') (fun a ha => ⟨(.slice none 0 0, A32), ha.sub ⟨rfl, rfl, rfl, rfl, rfl, rfl, trivial⟩, ⟨hH, Tr.refl (Dw := Dw) hA⟩⟩) ?_
      rintro K k38 s46 a w47 ⟨⟨v48, A50⟩, ha118, hH51, hr37⟩ hle55 K58 h57
      refine C_of ?_ ha118
      replace hK := Tr.trans (Dw := Dw) hK hr37
      replace hB := Nat.le_trans hB hr37.ex.size
      replace hA := hr37.new
      replace hH : Hp w.heap.size A50 w47 (obS (α := Int) 3 v48 s46 :: obS (α := cal_part) 53 v28 x27 :: []) := hH51
      refine C_seq (C_region (V_y (Y_lss rfl rfl) rfl rfl rfl (V_to (fun _ _ => rfl) ?_)))
      refine C_seq ?_
      refine C_cond rfl (fun hc60 => ?_) (fun hc60 => ?_)
      · have hlt56 := lt_of_dec hc60
        obtain ⟨x52, h53, h54⟩ := K58 hlt56
        refine C_skip_to (fun _ _ => rfl) ?_
        refine C_seq ?_
        obtain ⟨s62, ho61, h53⟩ := Option.bind_eq_some_iff.1 h53
        refine C_cutG (ι := (Value × (Nat → Prop))) (fun ⟨v64, A69⟩ => [(1, .int .i64 day), (2, .int .i64 minute), (9, v64), (24, v28), (25, .int .i64 (x27.length : Int)), (26, .int .i64 (k38 : Int))]) (fun ⟨v64, A69⟩ => fun w' => Hp w.heap.size A69 w' (obS (α := Int) 3 v64 s62 :: obS (α := cal_part) 53 v28 x27 :: []) ∧ Tr Dw w.heap.size A50 w47 A69 w') ?_ ?_
        · have hr63 : Tr Dw w.heap.size A50 w47 A50 w47 := Tr.refl (Dw := Dw) hA
          refine C_block ?_
          refine C_seq ?_
          refine C_region ?_
          obtain ⟨x71, hx71, ho61⟩ := Option.bind_eq_some_iff.1 ho61
          refine V_indexAddrH (α := cal_part) (e := 53) (v := v28) (l := x27) hH (i := 1) rfl hx71 Tryd.underlying50 Tryd.sizeOf53 rfl rfl rfl ?_
          intro b72 o73 h74 hl75
          obtain ⟨h76, _⟩ := El_cal_part h74
          refine V_y (Y_loadA h76 Tryd.isAgg53 Tryd.sizeOf53 rfl) rfl rfl rfl ?_
          refine V_alloc Tryd.zeroValue53 rfl ?_
          intro b77 w78 h79
          refine V_storeNew h79 Tryd.sizeOf53 rfl rfl rfl rfl (by exact (List.forall_mem_cons.2 ⟨rfl, (List.forall_mem_cons.2 ⟨rfl, (List.forall_mem_cons.2 ⟨rfl, (fun _ h => nomatch h)⟩)⟩)⟩)) ?_
          intro w80 h81
          have hk83 := h81.kp (Dw := Dw)
          have h82 : El (α := cal_part) A50 w80 b77 0 x71 := h81.el hA ⟨[.int .i64 x71.from_], _, rfl, rfl, ⟨[.int .i64 x71.to_], _, rfl, rfl, rfl⟩⟩
          have ht84 := Kp.tr (Dw := Dw) hk83 hA hB
          replace hH := Hp.kp (Dw := Dw) hH hk83
          replace h74 := El.kp (Dw := Dw) h74 hk83
          replace hK := Tr.trans (Dw := Dw) hK ht84
          replace hr37 := Tr.trans (Dw := Dw) hr37 ht84
          replace hr63 := Tr.trans (Dw := Dw) hr63 ht84
          replace hB := Nat.le_trans hB ht84.ex.size
          replace hA := ht84.new
          refine V_to (fun _ _ => rfl) ?_
          refine C_seq ?_
          refine C_region ?_
          refine V_y (Y_move rfl) rfl rfl rfl ?_
          refine V_y (Y_mulI rfl rfl) rfl rfl rfl ?_
          refine V_y (Y_move rfl) rfl rfl rfl ?_
          refine V_y (Y_addI rfl rfl) rfl rfl rfl ?_
          have h85 := El_cal_part_2 h82
          refine V_y (Y_fieldAddr Tryd.underlying53 rfl Tryd.sizeOf3 (by decide) rfl) rfl rfl rfl ?_
          refine V_y (Y_load (El.int h85) Tryd.isAgg3 rfl) rfl rfl rfl ?_
          refine V_y (Y_subI rfl rfl) rfl rfl rfl ?_
          refine V_y (Y_assign rfl) rfl rfl rfl ?_
          refine V_to (fun _ _ => rfl) ?_
          refine C_seq ?_
          refine C_region ?_
          refine V_y (Y_move rfl) rfl rfl rfl ?_
          have h86 := El_cal_part_0 h82
          refine V_y (Y_fieldAddr Tryd.underlying53 rfl Tryd.sizeOf3 (by decide) rfl) rfl rfl rfl ?_
          refine V_y (Y_load (El.int h86) Tryd.isAgg3 rfl) rfl rfl rfl ?_
          refine V_y (Y_geq rfl rfl) rfl rfl rfl ?_
          refine V_y (Y_move rfl) rfl rfl rfl ?_
          refine V_cut 5 (fun _ : Unit => [(1, .int .i64 day), (2, .int .i64 minute), (9, v48), (12, .int .i64 (w64 ((w64 ((w64 (day * 1440)) + minute)) - x71.offset))), (24, v28), (25, .int .i64 (x27.length : Int)), (26, .int .i64 (k38 : Int)), (46, .bool ((decide (x71.from_ ≤ (w64 ((w64 ((w64 (day * 1440)) + minute)) - x71.offset)))) && (decide ((w64 ((w64 ((w64 (day * 1440)) + minute)) - x71.offset)) < x71.to_))))]) (fun _ w' => w80 = w') ?_ ?_
          · simp only [List.take, List.drop]
            rcases Bool.eq_false_or_eq_true (decide (x71.from_ ≤ (w64 ((w64 ((w64 (day * 1440)) + minute)) - x71.offset)))) with hc87 | hc87
            · refine V_ge rfl rfl rfl hc87 ?_
              refine V_y (Y_move rfl) rfl rfl rfl ?_
              refine V_ge rfl rfl rfl hc87 ?_
              have h89 := El_cal_part_1 h82
              refine V_y (Y_fieldAddr Tryd.underlying53 rfl Tryd.sizeOf3 (by decide) rfl) rfl rfl rfl ?_
              refine V_ge rfl rfl rfl hc87 ?_
              refine V_y (Y_load (El.int h89) Tryd.isAgg3 rfl) rfl rfl rfl ?_
              refine V_ge rfl rfl rfl hc87 ?_
              refine V_y (Y_lss rfl rfl) rfl rfl rfl ?_
              refine V_y (Y_pick_te rfl hc87 rfl) rfl rfl rfl ?_
              exact V_end fun a ha => ⟨(), ha.sub ⟨rfl, rfl, rfl, rfl, rfl, rfl, rfl, (by rw [hc87]; rfl), trivial⟩, rfl⟩
            · refine V_gn rfl rfl rfl hc87 rfl rfl rfl ?_
              refine V_gn rfl rfl rfl hc87 rfl rfl rfl ?_
              refine V_gn rfl rfl rfl hc87 rfl rfl rfl ?_
              refine V_gn rfl rfl rfl hc87 rfl rfl rfl ?_
              refine V_y (Y_pick_fe rfl hc87 rfl) rfl rfl rfl ?_
              exact V_end fun a ha => ⟨(), ha.sub ⟨rfl, rfl, rfl, rfl, rfl, rfl, rfl, (by rw [hc87]; rfl), trivial⟩, rfl⟩
          simp only [List.take, List.drop]
          rintro _ _ rfl
          refine V_to (fun _ _ => rfl) ?_
          obtain ⟨s91, ho90, ho61⟩ := Option.bind_eq_some_iff.1 ho61
          refine C_cutG (ι := (Value × (Nat → Prop))) (fun ⟨v93, A98⟩ => [(1, .int .i64 day), (2, .int .i64 minute), (9, v93), (24, v28), (25, .int .i64 (x27.length : Int)), (26, .int .i64 (k38 : Int))]) (fun ⟨v93, A98⟩ => fun w' => Hp w.heap.size A98 w' (obS (α := Int) 3 v93 s91 :: obS (α := cal_part) 53 v28 x27 :: []) ∧ Tr Dw w.heap.size A50 w80 A98 w') ?_ ?_
          · have hr92 : Tr Dw w.heap.size A50 w80 A50 w80 := Tr.refl (Dw := Dw) hA
            refine C_cond rfl (fun hc100 => ?_) (fun hc100 => ?_)
            · rw [if_pos hc100] at ho90
              refine C_region ?_
              refine V_y (Y_move rfl) rfl rfl rfl ?_
              refine V_y (Y_move rfl) rfl rfl rfl ?_
              refine V_buildSlice (Dw := Dw) (cells := #[.int .i64 (w64 ((w64 ((w64 (day * 1440)) + minute)) - x71.offset))]) (l := ([w64 ((w64 ((w64 (day * 1440)) + minute)) - x71.offset)] : List Int)) (len := 1) Tryd.underlying34 Tryd.sizeOf3 Tryd.zeroValue3 rfl (by generalize (w64 ((w64 ((w64 (day * 1440)) + minute)) - x71.offset) : Int) = z105; kernel_rfl) (show (1 * 1 : Nat) ≠ 0 by decide) (show (1 * 1 : Nat) ≤ 2 ^ 24 by decide) hA ⟨[.int .i64 (w64 ((w64 ((w64 (day * 1440)) + minute)) - x71.offset))], _, rfl, rfl, rfl⟩ rfl rfl ?_
              intro v101 w102 hk104 h103
              have ht106 := Kp.tr (Dw := Dw) hk104 hA hB
              replace hH := Hp.kp (Dw := Dw) hH hk104
              replace hK := Tr.trans (Dw := Dw) hK ht106
              replace hr37 := Tr.trans (Dw := Dw) hr37 ht106
              replace hr63 := Tr.trans (Dw := Dw) hr63 ht106
              replace hr92 := Tr.trans (Dw := Dw) hr92 ht106
              replace hB := Nat.le_trans hB ht106.ex.size
              replace hA := ht106.new
              obtain ⟨x107, hx107, ho90⟩ := Option.bind_eq_some_iff.1 ho90
              refine V_appendH (Dw := Dw) (e := 3) (v := v48) (l := s46) (ti := Tryd.t3) (bytes := 8) (lim := 17592186044416) hH (i := 0) rfl h103 hx107 Tryd.underlying34 Tryd_info3 rfl rfl rfl rfl (by decide) (by decide) (by decide) hB hA rfl rfl rfl ?_
              intro v108 w109 A110 hH111 ht112
              replace h103 := Sl.tr (Dw := Dw) h103 ht112
              replace hK := Tr.trans (Dw := Dw) hK ht112
              replace hr37 := Tr.trans (Dw := Dw) hr37 ht112
              replace hr63 := Tr.trans (Dw := Dw) hr63 ht112
              replace hr92 := Tr.trans (Dw := Dw) hr92 ht112
              replace hB := Nat.le_trans hB ht112.ex.size
              replace hA := ht112.new
              replace hH : Hp w.heap.size A110 w109 (obS (α := Int) 3 v108 x107 :: obS (α := cal_part) 53 v28 x27 :: []) := hH111
              refine V_y (Y_assign rfl) rfl rfl rfl ?_
              obtain rfl := Option.some.inj ho90
              refine V_end (fun a ha113 => ?_)
              exact ⟨(v108, A110), ha113.sub ⟨rfl, rfl, rfl, rfl, rfl, rfl, trivial⟩, ⟨hH, hr92⟩⟩
            · rw [if_neg (nt hc100)] at ho90
              obtain rfl := Option.some.inj ho90
              refine C_skip (fun a ha114 => ?_)
              exact ⟨(v48, A50), ha114.sub ⟨rfl, rfl, rfl, rfl, rfl, rfl, trivial⟩, ⟨hH, hr92⟩⟩
          rintro ⟨v93, A98⟩ w95 ⟨hH99, hk96⟩ a ha97
          replace hK := Tr.trans (Dw := Dw) hK hk96
          replace hr37 := Tr.trans (Dw := Dw) hr37 hk96
          replace hr63 := Tr.trans (Dw := Dw) hr63 hk96
          replace hB := Nat.le_trans hB hk96.ex.size
          replace hA := hk96.new
          replace hH : Hp w.heap.size A98 w95 (obS (α := Int) 3 v93 s91 :: obS (α := cal_part) 53 v28 x27 :: []) := hH99
          obtain rfl := Option.some.inj ho61
          exact ⟨(v93, A98), ha97.sub ⟨rfl, rfl, rfl, rfl, rfl, rfl, trivial⟩, ⟨hH, hr63⟩⟩
        rintro ⟨v64, A69⟩ w66 ⟨hH70, hk67⟩ a ha68
        replace hK := Tr.trans (Dw := Dw) hK hk67
        replace hr37 := Tr.trans (Dw := Dw) hr37 hk67
        replace hB := Nat.le_trans hB hk67.ex.size
        replace hA := hk67.new
        replace hH : Hp w.heap.size A69 w66 (obS (α := Int) 3 v64 s62 :: obS (α := cal_part) 53 v28 x27 :: []) := hH70
        refine C_at (n := ⟨53, [], none⟩) (fun _ _ => rfl) ?_ ha68
        refine C_region ?_
        refine V_y (Y_addI rfl rfl) rfl rfl rfl ?_
        refine V_y (Y_move rfl) rfl rfl rfl ?_
        obtain rfl := Option.some.inj h53
        refine V_end (fun a ha116 => ?_)
        exact ⟨s62, hlt56, h54, ⟨(v64, A69), ha116.sub ⟨rfl, rfl, rfl, rfl, rfl, (congrArg (fun z => some (Value.int .i64 z)) (w64_succ hlt56 hn59)), trivial⟩, ⟨hH, hr37⟩⟩⟩
      · refine C_exit (fun a ha117 => ?_)
        exact ⟨(s46, v48, A50), ha117.sub ⟨rfl, trivial⟩, ⟨(h57 (eq_of_dec hle55 hc60)).symm, hH, hr37⟩⟩
    rintro ⟨s36, v42, A44⟩ w39 ⟨rfl, hH45, hk40⟩ a ha41
    rw [Lp.andThen_fin] at hm
    replace hK := Tr.trans (Dw := Dw) hK hk40
    replace hB := Nat.le_trans hB hk40.ex.size
    replace hA := hk40.new
    replace hH : Hp w.heap.size A44 w39 (obS (α := Int) 3 v42 s36 :: obS (α := cal_part) 53 v28 x27 :: []) := hH45
    refine C_at (n := ⟨53, [], none⟩) (fun _ _ => rfl) ?_ ha41
    refine C_seq ?_
    refine C_region ?_
    refine V_y (Y_move rfl) rfl rfl rfl ?_
    refine V_y (Y_assign rfl) rfl rfl rfl ?_
    refine V_y (Y_assign rfl) rfl rfl rfl ?_
    refine V_to (fun _ _ => rfl) ?_
    obtain rfl := Option.some.inj hm
    refine C_ret ?_
    try simp only [↓inBlock_ret, ↓then_ret]
    exact retQ rfl (Res.two Tryd.results10 rfl rfl) ⟨v42, rfl, (Hp.ownd hH (i := 0) rfl), hK.kp⟩

set_option maxRecDepth 4000 in
set_option maxHeartbeats 4000000 in
theorem cal_ReadMoment_c (w : World) {A : Nat → Prop} (hA : ∀ b, w.heap.size ≤ b → A b) (hT : Fz Tryd_FR A w) (z : cal_Zone) (v_z : Value) (h_z : Sl A w v_z z.changes) (s : ByteArray) {r : (Int × Int)} (hm : cal_ReadMoment z s = some r) : Ret Tryd.prog 4 #[.agg #[.int .i64 z.offset, v_z], .string s] w fun v w' => v = .tuple #[.int .i64 r.1, .int .i64 r.2] ∧ Kp False w w' := by
  unfold cal_ReadMoment at hm
  refine enter Tryd.func4 rfl Tryd.ntmps4 rfl ?_
  have hA0 := hA
  have hB := Nat.le_refl w.heap.size
  have hK : Tr False w.heap.size A w A w := Tr.refl (Dw := False) hA
  have hH : Hp w.heap.size A w [] := Hp.nil
  refine C_seq ?_
  refine C_region ?_
  refine V_box rfl rfl ?_
  intro b3 w4 h5
  have hk7 := h5.kp (Dw := False)
  have h6 : El (α := cal_Zone) A w4 b3 0 z := h5.el hA ⟨[.int .i64 z.offset], _, rfl, rfl, ⟨_, rfl, h_z⟩⟩
  have ht8 := Kp.tr (Dw := False) hk7 hA hB
  replace hH := Hp.kp (Dw := False) hH hk7
  replace h_z := Sl.tr (Dw := False) h_z ht8
  replace hK := Tr.trans (Dw := False) hK ht8
  replace hB := Nat.le_trans hB ht8.ex.size
  replace hA := ht8.new
  refine V_y (Y_assign rfl) rfl rfl rfl ?_
  refine V_y (Y_assign rfl) rfl rfl rfl ?_
  refine V_to (fun _ _ => rfl) ?_
  refine C_seq ?_
  refine C_seq ?_
  refine C_region ?_
  obtain ⟨v9, h11, h10⟩ := El_cal_Zone h6
  refine V_y (Y_loadA h11 Tryd.isAgg24 Tryd.sizeOf24 rfl) rfl rfl rfl ?_
  obtain ⟨x12, hx12, hm⟩ := Option.bind_eq_some_iff.1 hm
  refine V_call Tryd.call6 rfl rfl rfl rfl (cal_CheckZone_c (Dw := False) w4 hA z v9 h10 hx12) ?_
  rintro _ w13 ⟨rfl, hk14⟩
  have ht15 := Kp.tr (Dw := False) hk14 hA hB
  replace hH := Hp.kp (Dw := False) hH hk14
  replace h6 := El.tr (Dw := False) h6 ht15
  replace h10 := Sl.tr (Dw := False) h10 ht15
  replace hK := Tr.trans (Dw := False) hK ht15
  replace hB := Nat.le_trans hB ht15.ex.size
  replace hA := ht15.new
  refine V_y (Y_assign rfl) rfl rfl rfl ?_
  refine V_to (fun _ _ => rfl) ?_
  refine C_seq ?_
  refine C_region ?_
  refine V_y (Y_move rfl) rfl rfl rfl ?_
  refine V_y (Y_neq rfl rfl) rfl rfl rfl ?_
  refine V_to (fun _ _ => rfl) ?_
  refine C_cond rfl (fun hc16 => ?_) (fun hc16 => ?_)
  · rw [if_pos hc16] at hm
    refine C_seq ?_
    refine C_region ?_
    refine V_y (Y_move rfl) rfl rfl rfl ?_
    refine V_y (Y_assign rfl) rfl rfl rfl ?_
    refine V_y (Y_assign rfl) rfl rfl rfl ?_
    refine V_to (fun _ _ => rfl) ?_
    obtain rfl := Option.some.inj hm
    refine C_ret ?_
    try simp only [↓inBlock_ret, ↓then_ret]
    exact retQ rfl (Res.two Tryd.results4 rfl rfl) ⟨rfl, hK.kp⟩
  · rw [if_neg (nt hc16)] at hm
    refine C_skip_to (fun _ _ => rfl) ?_
    refine C_seq ?_
    refine C_region ?_
    refine V_y (Y_move rfl) rfl rfl rfl ?_
    obtain ⟨x17, hx17, hm⟩ := Option.bind_eq_some_iff.1 hm
    refine V_call Tryd.call7 rfl rfl rfl rfl (strings_Cut_c (Dw := False) w13 hA s (⟨#[47]⟩ : ByteArray) hx17) ?_
    rintro _ w18 ⟨rfl, hk19⟩
    have ht20 := Kp.tr (Dw := False) hk19 hA hB
    replace hH := Hp.kp (Dw := False) hH hk19
    replace h6 := El.tr (Dw := False) h6 ht20
    replace hK := Tr.trans (Dw := False) hK ht20
    replace hB := Nat.le_trans hB ht20.ex.size
    replace hA := ht20.new
    refine V_y (Y_move rfl) rfl rfl rfl ?_
    refine V_y (Y_extract rfl rfl) rfl rfl rfl ?_
    refine V_y (Y_extract rfl rfl) rfl rfl rfl ?_
    refine V_y (Y_extract rfl rfl) rfl rfl rfl ?_
    refine V_y (Y_assign rfl) rfl rfl rfl ?_
    refine V_y (Y_assign rfl) rfl rfl rfl ?_
    refine V_y (Y_assign rfl) rfl rfl rfl ?_
    refine V_to (fun _ _ => rfl) ?_
    refine C_seq ?_
    refine C_region ?_
    refine V_y (Y_move rfl) rfl rfl rfl ?_
    obtain ⟨x21, hx21, hm⟩ := Option.bind_eq_some_iff.1 hm
    refine V_call Tryd.call7 rfl rfl rfl rfl (strings_Cut_c (Dw := False) w18 hA x17.1 (⟨#[46]⟩ : ByteArray) hx21) ?_
    rintro _ w22 ⟨rfl, hk23⟩
    have ht24 := Kp.tr (Dw := False) hk23 hA hB
    replace hH := Hp.kp (Dw := False) hH hk23
    replace h6 := El.tr (Dw := False) h6 ht24
    replace hK := Tr.trans (Dw := False) hK ht24
    replace hB := Nat.le_trans hB ht24.ex.size
    replace hA := ht24.new
    refine V_y (Y_move rfl) rfl rfl rfl ?_
    refine V_y (Y_extract rfl rfl) rfl rfl rfl ?_
    refine V_y (Y_extract rfl rfl) rfl rfl rfl ?_
    refine V_y (Y_extract rfl rfl) rfl rfl rfl ?_
    refine V_y (Y_assign rfl) rfl rfl rfl ?_
    refine V_y (Y_assign rfl) rfl rfl rfl ?_
    refine V_y (Y_assign rfl) rfl rfl rfl ?_
    refine V_to (fun _ _ => rfl) ?_
    refine C_seq ?_
    refine C_region ?_
    refine V_y (Y_move rfl) rfl rfl rfl ?_
    obtain ⟨x25, hx25, hm⟩ := Option.bind_eq_some_iff.1 hm
    refine V_call Tryd.call7 rfl rfl rfl rfl (strings_Cut_c (Dw := False) w22 hA x21.2.1 (⟨#[58]⟩ : ByteArray) hx25) ?_
    rintro _ w26 ⟨rfl, hk27⟩
    have ht28 := Kp.tr (Dw := False) hk27 hA hB
    replace hH := Hp.kp (Dw := False) hH hk27
    replace h6 := El.tr (Dw := False) h6 ht28
    replace hK := Tr.trans (Dw := False) hK ht28
    replace hB := Nat.le_trans hB ht28.ex.size
    replace hA := ht28.new
    refine V_y (Y_move rfl) rfl rfl rfl ?_
    refine V_y (Y_extract rfl rfl) rfl rfl rfl ?_
    refine V_y (Y_extract rfl rfl) rfl rfl rfl ?_
    refine V_y (Y_extract rfl rfl) rfl rfl rfl ?_
    refine V_y (Y_assign rfl) rfl rfl rfl ?_
    refine V_y (Y_assign rfl) rfl rfl rfl ?_
    refine V_y (Y_assign rfl) rfl rfl rfl ?_
    refine V_to (fun _ _ => rfl) ?_
    refine C_seq ?_
    refine C_region ?_
    refine V_y (Y_move rfl) rfl rfl rfl ?_
    obtain ⟨x29, hx29, hm⟩ := Option.bind_eq_some_iff.1 hm
    refine V_call Tryd.call8 rfl rfl rfl rfl (cal_number_c w26 hA (Fz.tr (Dw := False) hT hK) x21.1 4 hx29) ?_
    rintro _ w30 ⟨rfl, hk31⟩
    have ht32 := Kp.tr (Dw := False) hk31 hA hB
    replace hH := Hp.kp (Dw := False) hH hk31
    replace h6 := El.tr (Dw := False) h6 ht32
    replace hK := Tr.trans (Dw := False) hK ht32
    replace hB := Nat.le_trans hB ht32.ex.size
    replace hA := ht32.new
    refine V_y (Y_move rfl) rfl rfl rfl ?_
    refine V_y (Y_extract rfl rfl) rfl rfl rfl ?_
    refine V_y (Y_extract rfl rfl) rfl rfl rfl ?_
    refine V_y (Y_assign rfl) rfl rfl rfl ?_
    refine V_y (Y_assign rfl) rfl rfl rfl ?_
    refine V_to (fun _ _ => rfl) ?_
    refine C_seq ?_
    refine C_region ?_
    refine V_y (Y_move rfl) rfl rfl rfl ?_
    obtain ⟨x33, hx33, hm⟩ := Option.bind_eq_some_iff.1 hm
    refine V_call Tryd.call9 rfl rfl rfl rfl (cal_twoDigits_c w30 hA (Fz.tr (Dw := False) hT hK) x25.1 23 hx33) ?_
    rintro _ w34 ⟨rfl, hk35⟩
    have ht36 := Kp.tr (Dw := False) hk35 hA hB
    replace hH := Hp.kp (Dw := False) hH hk35
    replace h6 := El.tr (Dw := False) h6 ht36
    replace hK := Tr.trans (Dw := False) hK ht36
    replace hB := Nat.le_trans hB ht36.ex.size
    replace hA := ht36.new
    refine V_y (Y_move rfl) rfl rfl rfl ?_
    refine V_y (Y_extract rfl rfl) rfl rfl rfl ?_
    refine V_y (Y_extract rfl rfl) rfl rfl rfl ?_
    refine V_y (Y_assign rfl) rfl rfl rfl ?_
    refine V_y (Y_assign rfl) rfl rfl rfl ?_
    refine V_to (fun _ _ => rfl) ?_
    refine C_seq ?_
    refine C_region ?_
    refine V_y (Y_move rfl) rfl rfl rfl ?_
    obtain ⟨x37, hx37, hm⟩ := Option.bind_eq_some_iff.1 hm
    refine V_call Tryd.call9 rfl rfl rfl rfl (cal_twoDigits_c w34 hA (Fz.tr (Dw := False) hT hK) x25.2.1 59 hx37) ?_
    rintro _ w38 ⟨rfl, hk39⟩
    have ht40 := Kp.tr (Dw := False) hk39 hA hB
    replace hH := Hp.kp (Dw := False) hH hk39
    replace h6 := El.tr (Dw := False) h6 ht40
    replace hK := Tr.trans (Dw := False) hK ht40
    replace hB := Nat.le_trans hB ht40.ex.size
    replace hA := ht40.new
    refine V_y (Y_move rfl) rfl rfl rfl ?_
    refine V_y (Y_extract rfl rfl) rfl rfl rfl ?_
    refine V_y (Y_extract rfl rfl) rfl rfl rfl ?_
    refine V_y (Y_assign rfl) rfl rfl rfl ?_
    refine V_y (Y_assign rfl) rfl rfl rfl ?_
    refine V_to (fun _ _ => rfl) ?_
    refine C_seq ?_
    refine C_region ?_
    refine V_y (Y_assign rfl) rfl rfl rfl ?_
    refine V_y (Y_assign rfl) rfl rfl rfl ?_
    refine V_to (fun _ _ => rfl) ?_
    refine C_seq ?_
    refine C_seq ?_
    refine C_region ?_
    refine V_y (Y_move rfl) rfl rfl rfl ?_
    refine V_to (fun _ _ => rfl) ?_
    obtain ⟨s42, ho41, hm⟩ := Option.bind_eq_some_iff.1 hm
    refine C_cutG (ι := (Nat → Prop)) (fun (A47 : (Nat → Prop)) => [(2, .pointer (some ⟨b3, 0, none⟩)), (11, .bool x21.2.2), (14, .bool x25.2.2), (15, .int .i64 x29.1), (16, .bool x29.2), (17, .int .i64 x33.1), (18, .bool x33.2), (19, .int .i64 x37.1), (20, .bool x37.2), (21, .int .i64 s42.1), (22, .bool s42.2)]) (fun (A47 : (Nat → Prop)) => fun w' => Hp w.heap.size A47 w' ([]) ∧ Tr False w.heap.size A w38 A47 w') ?_ ?_
    · have hr43 : Tr False w.heap.size A w38 A w38 := Tr.refl (Dw := False) hA
      refine C_cond rfl (fun hc49 => ?_) (fun hc49 => ?_)
      · rw [if_pos hc49] at ho41
        refine C_seq ?_
        refine C_region ?_
        refine V_y (Y_move rfl) rfl rfl rfl ?_
        obtain ⟨x50, hx50, ho41⟩ := Option.bind_eq_some_iff.1 ho41
        refine V_call Tryd.call8 rfl rfl rfl rfl (cal_number_c w38 hA (Fz.tr (Dw := False) hT hK) x17.2.1 2 hx50) ?_
        rintro _ w51 ⟨rfl, hk52⟩
        have ht53 := Kp.tr (Dw := False) hk52 hA hB
        replace hH := Hp.kp (Dw := False) hH hk52
        replace h6 := El.tr (Dw := False) h6 ht53
        replace hK := Tr.trans (Dw := False) hK ht53
        replace hr43 := Tr.trans (Dw := False) hr43 ht53
        replace hB := Nat.le_trans hB ht53.ex.size
        replace hA := ht53.new
        refine V_y (Y_move rfl) rfl rfl rfl ?_
        refine V_y (Y_extract rfl rfl) rfl rfl rfl ?_
        refine V_y (Y_extract rfl rfl) rfl rfl rfl ?_
        refine V_y (Y_assign rfl) rfl rfl rfl ?_
        refine V_y (Y_assign rfl) rfl rfl rfl ?_
        refine V_to (fun _ _ => rfl) ?_
        refine C_region ?_
        refine V_y (Y_move rfl) rfl rfl rfl ?_
        refine V_y (Y_move rfl) rfl rfl rfl ?_
        refine V_cut 3 (fun _ : Unit => [(2, .pointer (some ⟨b3, 0, none⟩)), (11, .bool x21.2.2), (14, .bool x25.2.2), (15, .int .i64 x29.1), (16, .bool x29.2), (17, .int .i64 x33.1), (18, .bool x33.2), (19, .int .i64 x37.1), (20, .bool x37.2), (21, .int .i64 x50.1), (73, .bool (x50.2 && (decide ((2 : Int) ≤ x50.1))))]) (fun _ w' => w51 = w') ?_ ?_
        · simp only [List.take, List.drop]
          rcases Bool.eq_false_or_eq_true (x50.2) with hc54 | hc54
          · refine V_ge rfl rfl rfl hc54 ?_
            refine V_y (Y_move rfl) rfl rfl rfl ?_
            refine V_ge rfl rfl rfl hc54 ?_
            refine V_y (Y_geq rfl rfl) rfl rfl rfl ?_
            refine V_y (Y_pick_te rfl hc54 rfl) rfl rfl rfl ?_
            exact V_end fun a ha => ⟨(), ha.sub ⟨rfl, rfl, rfl, rfl, rfl, rfl, rfl, rfl, rfl, rfl, (by rw [hc54]; rfl), trivial⟩, rfl⟩
          · refine V_gn rfl rfl rfl hc54 rfl rfl rfl ?_
            refine V_gn rfl rfl rfl hc54 rfl rfl rfl ?_
            refine V_y (Y_pick_fe rfl hc54 rfl) rfl rfl rfl ?_
            exact V_end fun a ha => ⟨(), ha.sub ⟨rfl, rfl, rfl, rfl, rfl, rfl, rfl, rfl, rfl, rfl, (by rw [hc54]; rfl), trivial⟩, rfl⟩
        simp only [List.take, List.drop]
        rintro _ _ rfl
        refine V_y (Y_assign rfl) rfl rfl rfl ?_
        obtain rfl := Option.some.inj ho41
        refine V_end (fun a ha56 => ?_)
        exact ⟨A, ha56.sub ⟨rfl, rfl, rfl, rfl, rfl, rfl, rfl, rfl, rfl, rfl, rfl, trivial⟩, ⟨hH, hr43⟩⟩
      · rw [if_neg (nt hc49)] at ho41
        obtain rfl := Option.some.inj ho41
        refine C_skip (fun a ha57 => ?_)
        exact ⟨A, ha57.sub ⟨rfl, rfl, rfl, rfl, rfl, rfl, rfl, rfl, rfl, rfl, rfl, trivial⟩, ⟨hH, hr43⟩⟩
    rintro A47 w44 ⟨hH48, hk45⟩ a ha46
    replace h6 := El.tr (Dw := False) h6 hk45
    replace hK := Tr.trans (Dw := False) hK hk45
    replace hB := Nat.le_trans hB hk45.ex.size
    replace hA := hk45.new
    replace hH : Hp w.heap.size A47 w44 ([]) := hH48
    refine C_at (n := ⟨119, [], none⟩) (fun _ _ => rfl) ?_ ha46
    refine C_seq ?_
    refine C_seq ?_
    refine C_region ?_
    refine V_y (Y_move rfl) rfl rfl rfl ?_
    refine V_y (Y_not rfl) rfl rfl rfl ?_
    refine V_y (Y_move rfl) rfl rfl rfl ?_
    refine V_cut 3 (fun _ : Unit => [(2, .pointer (some ⟨b3, 0, none⟩)), (15, .int .i64 x29.1), (16, .bool x29.2), (17, .int .i64 x33.1), (18, .bool x33.2), (19, .int .i64 x37.1), (20, .bool x37.2), (21, .int .i64 s42.1), (22, .bool s42.2), (79, .bool ((!x21.2.2) || (!x25.2.2)))]) (fun _ w' => w44 = w') ?_ ?_
    · simp only [List.take, List.drop]
      rcases Bool.eq_false_or_eq_true (!x21.2.2) with hc58 | hc58
      · refine V_gn rfl rfl rfl hc58 rfl rfl rfl ?_
        refine V_gn rfl rfl rfl hc58 rfl rfl rfl ?_
        refine V_y (Y_pick_te rfl hc58 rfl) rfl rfl rfl ?_
        exact V_end fun a ha => ⟨(), ha.sub ⟨rfl, rfl, rfl, rfl, rfl, rfl, rfl, rfl, rfl, (by rw [hc58]; rfl), trivial⟩, rfl⟩
      · refine V_ge rfl rfl rfl hc58 ?_
        refine V_y (Y_move rfl) rfl rfl rfl ?_
        refine V_ge rfl rfl rfl hc58 ?_
        refine V_y (Y_not rfl) rfl rfl rfl ?_
        refine V_y (Y_pick_fe rfl hc58 rfl) rfl rfl rfl ?_
        exact V_end fun a ha => ⟨(), ha.sub ⟨rfl, rfl, rfl, rfl, rfl, rfl, rfl, rfl, rfl, (by rw [hc58]; rfl), trivial⟩, rfl⟩
    simp only [List.take, List.drop]
    rintro _ _ rfl
    refine V_y (Y_move rfl) rfl rfl rfl ?_
    refine V_cut 3 (fun _ : Unit => [(2, .pointer (some ⟨b3, 0, none⟩)), (15, .int .i64 x29.1), (17, .int .i64 x33.1), (18, .bool x33.2), (19, .int .i64 x37.1), (20, .bool x37.2), (21, .int .i64 s42.1), (22, .bool s42.2), (83, .bool (((!x21.2.2) || (!x25.2.2)) || (!x29.2)))]) (fun _ w' => w44 = w') ?_ ?_
    · simp only [List.take, List.drop]
      rcases Bool.eq_false_or_eq_true (((!x21.2.2) || (!x25.2.2))) with hc60 | hc60
      · refine V_gn rfl rfl rfl hc60 rfl rfl rfl ?_
        refine V_gn rfl rfl rfl hc60 rfl rfl rfl ?_
        refine V_y (Y_pick_te rfl hc60 rfl) rfl rfl rfl ?_
        exact V_end fun a ha => ⟨(), ha.sub ⟨rfl, rfl, rfl, rfl, rfl, rfl, rfl, rfl, (by rw [hc60]; rfl), trivial⟩, rfl⟩
      · refine V_ge rfl rfl rfl hc60 ?_
        refine V_y (Y_move rfl) rfl rfl rfl ?_
        refine V_ge rfl rfl rfl hc60 ?_
        refine V_y (Y_not rfl) rfl rfl rfl ?_
        refine V_y (Y_pick_fe rfl hc60 rfl) rfl rfl rfl ?_
        exact V_end fun a ha => ⟨(), ha.sub ⟨rfl, rfl, rfl, rfl, rfl, rfl, rfl, rfl, (by rw [hc60]; rfl), trivial⟩, rfl⟩
    simp only [List.take, List.drop]
    rintro _ _ rfl
    refine V_y (Y_move rfl) rfl rfl rfl ?_
    refine V_cut 3 (fun _ : Unit => [(2, .pointer (some ⟨b3, 0, none⟩)), (15, .int .i64 x29.1), (17, .int .i64 x33.1), (19, .int .i64 x37.1), (20, .bool x37.2), (21, .int .i64 s42.1), (22, .bool s42.2), (87, .bool ((((!x21.2.2) || (!x25.2.2)) || (!x29.2)) || (!x33.2)))]) (fun _ w' => w44 = w') ?_ ?_
    · simp only [List.take, List.drop]
      rcases Bool.eq_false_or_eq_true ((((!x21.2.2) || (!x25.2.2)) || (!x29.2))) with hc62 | hc62
      · refine V_gn rfl rfl rfl hc62 rfl rfl rfl ?_
        refine V_gn rfl rfl rfl hc62 rfl rfl rfl ?_
        refine V_y (Y_pick_te rfl hc62 rfl) rfl rfl rfl ?_
        exact V_end fun a ha => ⟨(), ha.sub ⟨rfl, rfl, rfl, rfl, rfl, rfl, rfl, (by rw [hc62]; rfl), trivial⟩, rfl⟩
      · refine V_ge rfl rfl rfl hc62 ?_
        refine V_y (Y_move rfl) rfl rfl rfl ?_
        refine V_ge rfl rfl rfl hc62 ?_
        refine V_y (Y_not rfl) rfl rfl rfl ?_
        refine V_y (Y_pick_fe rfl hc62 rfl) rfl rfl rfl ?_
        exact V_end fun a ha => ⟨(), ha.sub ⟨rfl, rfl, rfl, rfl, rfl, rfl, rfl, (by rw [hc62]; rfl), trivial⟩, rfl⟩
    simp only [List.take, List.drop]
    rintro _ _ rfl
    refine V_y (Y_move rfl) rfl rfl rfl ?_
    refine V_cut 3 (fun _ : Unit => [(2, .pointer (some ⟨b3, 0, none⟩)), (15, .int .i64 x29.1), (17, .int .i64 x33.1), (19, .int .i64 x37.1), (21, .int .i64 s42.1), (22, .bool s42.2), (91, .bool (((((!x21.2.2) || (!x25.2.2)) || (!x29.2)) || (!x33.2)) || (!x37.2)))]) (fun _ w' => w44 = w') ?_ ?_
    · simp only [List.take, List.drop]
      rcases Bool.eq_false_or_eq_true (((((!x21.2.2) || (!x25.2.2)) || (!x29.2)) || (!x33.2))) with hc64 | hc64
      · refine V_gn rfl rfl rfl hc64 rfl rfl rfl ?_
        refine V_gn rfl rfl rfl hc64 rfl rfl rfl ?_
        refine V_y (Y_pick_te rfl hc64 rfl) rfl rfl rfl ?_
        exact V_end fun a ha => ⟨(), ha.sub ⟨rfl, rfl, rfl, rfl, rfl, rfl, (by rw [hc64]; rfl), trivial⟩, rfl⟩
      · refine V_ge rfl rfl rfl hc64 ?_
        refine V_y (Y_move rfl) rfl rfl rfl ?_
        refine V_ge rfl rfl rfl hc64 ?_
        refine V_y (Y_not rfl) rfl rfl rfl ?_
        refine V_y (Y_pick_fe rfl hc64 rfl) rfl rfl rfl ?_
        exact V_end fun a ha => ⟨(), ha.sub ⟨rfl, rfl, rfl, rfl, rfl, rfl, (by rw [hc64]; rfl), trivial⟩, rfl⟩
    simp only [List.take, List.drop]
    rintro _ _ rfl
    refine V_y (Y_move rfl) rfl rfl rfl ?_
    refine V_cut 3 (fun _ : Unit => [(2, .pointer (some ⟨b3, 0, none⟩)), (15, .int .i64 x29.1), (17, .int .i64 x33.1), (19, .int .i64 x37.1), (21, .int .i64 s42.1), (95, .bool ((((((!x21.2.2) || (!x25.2.2)) || (!x29.2)) || (!x33.2)) || (!x37.2)) || (!s42.2)))]) (fun _ w' => w44 = w') ?_ ?_
    · simp only [List.take, List.drop]
      rcases Bool.eq_false_or_eq_true ((((((!x21.2.2) || (!x25.2.2)) || (!x29.2)) || (!x33.2)) || (!x37.2))) with hc66 | hc66
      · refine V_gn rfl rfl rfl hc66 rfl rfl rfl ?_
        refine V_gn rfl rfl rfl hc66 rfl rfl rfl ?_
        refine V_y (Y_pick_te rfl hc66 rfl) rfl rfl rfl ?_
        exact V_end fun a ha => ⟨(), ha.sub ⟨rfl, rfl, rfl, rfl, rfl, (by rw [hc66]; rfl), trivial⟩, rfl⟩
      · refine V_ge rfl rfl rfl hc66 ?_
        refine V_y (Y_move rfl) rfl rfl rfl ?_
        refine V_ge rfl rfl rfl hc66 ?_
        refine V_y (Y_not rfl) rfl rfl rfl ?_
        refine V_y (Y_pick_fe rfl hc66 rfl) rfl rfl rfl ?_
        exact V_end fun a ha => ⟨(), ha.sub ⟨rfl, rfl, rfl, rfl, rfl, (by rw [hc66]; rfl), trivial⟩, rfl⟩
    simp only [List.take, List.drop]
    rintro _ _ rfl
    refine V_to (fun _ _ => rfl) ?_
    refine C_cond rfl (fun hc68 => ?_) (fun hc68 => ?_)
    · rw [if_pos hc68] at hm
      refine C_seq ?_
      refine C_region ?_
      refine V_y (Y_assign rfl) rfl rfl rfl ?_
      refine V_y (Y_assign rfl) rfl rfl rfl ?_
      refine V_to (fun _ _ => rfl) ?_
      obtain rfl := Option.some.inj hm
      refine C_ret ?_
      try simp only [↓inBlock_ret, ↓then_ret]
      exact retQ rfl (Res.two Tryd.results4 rfl rfl) ⟨rfl, hK.kp⟩
    · rw [if_neg (nt hc68)] at hm
      refine C_skip_to (fun _ _ => rfl) ?_
      refine C_seq ?_
      refine C_region ?_
      obtain ⟨v69, h71, h70⟩ := El_cal_Zone h6
      refine V_y (Y_loadA h71 Tryd.isAgg24 Tryd.sizeOf24 rfl) rfl rfl rfl ?_
      refine V_y (Y_move rfl) rfl rfl rfl ?_
      refine V_y (Y_move rfl) rfl rfl rfl ?_
      refine V_y (Y_mulI rfl rfl) rfl rfl rfl ?_
      refine V_y (Y_move rfl) rfl rfl rfl ?_
      refine V_y (Y_addI rfl rfl) rfl rfl rfl ?_
      obtain ⟨x72, hx72, hm⟩ := Option.bind_eq_some_iff.1 hm
      refine V_call Tryd.call10 rfl rfl rfl rfl (cal_Shown_c (Dw := False) w44 hA z v69 h70 x29.1 (w64 ((w64 (60 * x33.1)) + x37.1)) hx72) ?_
      rintro _ w75 ⟨v73, rfl, h74, hk76⟩
      obtain ⟨A77, ht78, hH79⟩ := Hp.addOwnd (Dw := False) hH hB hA hk76 h74
      replace h6 := El.tr (Dw := False) h6 ht78
      replace h70 := Sl.tr (Dw := False) h70 ht78
      replace hK := Tr.trans (Dw := False) hK ht78
      replace hB := Nat.le_trans hB ht78.ex.size
      replace hA := ht78.new
      replace hH : Hp w.heap.size A77 w75 (obS (α := Int) 3 v73 x72.1 :: []) := hH79
      refine V_y (Y_move rfl) rfl rfl rfl ?_
      refine V_y (Y_extract rfl rfl) rfl rfl rfl ?_
      refine V_y (Y_extract rfl rfl) rfl rfl rfl ?_
      refine V_y (Y_assign rfl) rfl rfl rfl ?_
      refine V_y (Y_assign rfl) rfl rfl rfl ?_
      refine V_to (fun _ _ => rfl) ?_
      refine C_seq ?_
      refine C_seq ?_
      refine C_region ?_
      refine V_y (Y_move rfl) rfl rfl rfl ?_
      refine V_y (Y_neq rfl rfl) rfl rfl rfl ?_
      refine V_y (Y_move rfl) rfl rfl rfl ?_
      refine V_cut 5 (fun _ : Unit => [(21, .int .i64 s42.1), (23, v73), (113, .bool ((x72.2 != 0) || (decide ((x72.1.length : Int) < s42.1))))]) (fun _ w' => w75 = w') ?_ ?_
      · simp only [List.take, List.drop]
        rcases Bool.eq_false_or_eq_true (x72.2 != 0) with hc80 | hc80
        · refine V_gn rfl rfl rfl hc80 rfl rfl rfl ?_
          refine V_gn rfl rfl rfl hc80 rfl rfl rfl ?_
          refine V_gn rfl rfl rfl hc80 rfl rfl rfl ?_
          refine V_gn rfl rfl rfl hc80 rfl rfl rfl ?_
          refine V_y (Y_pick_te rfl hc80 rfl) rfl rfl rfl ?_
          exact V_end fun a ha => ⟨(), ha.sub ⟨rfl, rfl, (by rw [hc80]; rfl), trivial⟩, rfl⟩
        · refine V_ge rfl rfl rfl hc80 ?_
          refine V_y (Y_move rfl) rfl rfl rfl ?_
          refine V_ge rfl rfl rfl hc80 ?_
          refine V_y (Y_lenSl (Hp.any (α := Int) (e := 3) (v := v73) (l := x72.1) hH (i := 0) rfl) rfl Tryd.underlying34 rfl) rfl rfl rfl ?_
          refine V_ge rfl rfl rfl hc80 ?_
          refine V_y (Y_move rfl) rfl rfl rfl ?_
          refine V_ge rfl rfl rfl hc80 ?_
          refine V_y (Y_lss rfl rfl) rfl rfl rfl ?_
          refine V_y (Y_pick_fe rfl hc80 rfl) rfl rfl rfl ?_
          exact V_end fun a ha => ⟨(), ha.sub ⟨rfl, rfl, (by rw [hc80]; rfl), trivial⟩, rfl⟩
      simp only [List.take, List.drop]
      rintro _ _ rfl
      refine V_to (fun _ _ => rfl) ?_
      refine C_cond rfl (fun hc82 => ?_) (fun hc82 => ?_)
      · rw [if_pos hc82] at hm
        refine C_seq ?_
        refine C_region ?_
        refine V_y (Y_assign rfl) rfl rfl rfl ?_
        refine V_y (Y_assign rfl) rfl rfl rfl ?_
        refine V_to (fun _ _ => rfl) ?_
        obtain rfl := Option.some.inj hm
        refine C_ret ?_
        try simp only [↓inBlock_ret, ↓then_ret]
        exact retQ rfl (Res.two Tryd.results4 rfl rfl) ⟨rfl, hK.kp⟩
      · rw [if_neg (nt hc82)] at hm
        refine C_skip_to (fun _ _ => rfl) ?_
        refine C_seq ?_
        refine C_region ?_
        refine V_y (Y_move rfl) rfl rfl rfl ?_
        refine V_y (Y_move rfl) rfl rfl rfl ?_
        refine V_y (Y_subI rfl rfl) rfl rfl rfl ?_
        obtain ⟨x83, hx83, hm⟩ := Option.bind_eq_some_iff.1 hm
        refine V_indexAddrH (α := Int) (e := 3) (v := v73) (l := x72.1) hH (i := 0) rfl hx83 Tryd.underlying34 Tryd.sizeOf3 rfl rfl rfl ?_
        intro b84 o85 h86 hl87
        refine V_y (Y_load (El.int h86) Tryd.isAgg3 rfl) rfl rfl rfl ?_
        refine V_y (Y_assign rfl) rfl rfl rfl ?_
        refine V_y (Y_assign rfl) rfl rfl rfl ?_
        refine V_to (fun _ _ => rfl) ?_
        obtain rfl := Option.some.inj hm
        refine C_ret ?_
        try simp only [↓inBlock_ret, ↓then_ret]
        exact retQ rfl (Res.two Tryd.results4 rfl rfl) ⟨rfl, hK.kp⟩

set_option maxRecDepth 4000 in
set_option maxHeartbeats 4000000 in
theorem portref2_ZoneFault_1_c (w : World) (n : Int) : Ret Tryd.prog 24 #[.int .i64 n] w fun v w' => v = .bool (portref2_ZoneFault_1 n) ∧ w = w' := by
  generalize hm : portref2_ZoneFault_1 n = r
  unfold portref2_ZoneFault_1 at hm
  refine enter Tryd.func24 rfl Tryd.ntmps24 rfl ?_
  refine C_seq ?_
  refine C_region ?_
  refine V_y (Y_assign rfl) rfl rfl rfl ?_
  refine V_to (fun _ _ => rfl) ?_
  refine C_seq ?_
  refine C_region ?_
  refine V_y (Y_move rfl) rfl rfl rfl ?_
  refine V_y (Y_lss rfl rfl) rfl rfl rfl ?_
  refine V_y (Y_move rfl) rfl rfl rfl ?_
  refine V_cut 3 (fun _ : Unit => [(8, .bool ((decide (n < (-1440))) || (decide ((1440 : Int) < n))))]) (fun _ w' => w = w') ?_ ?_
  · simp only [List.take, List.drop]
    rcases Bool.eq_false_or_eq_true (decide (n < (-1440))) with hc1 | hc1
    · refine V_gn rfl rfl rfl hc1 rfl rfl rfl ?_
      refine V_gn rfl rfl rfl hc1 rfl rfl rfl ?_
      refine V_y (Y_pick_te rfl hc1 rfl) rfl rfl rfl ?_
      exact V_end fun a ha => ⟨(), ha.sub ⟨(by rw [hc1]; rfl), trivial⟩, rfl⟩
    · refine V_ge rfl rfl rfl hc1 ?_
      refine V_y (Y_move rfl) rfl rfl rfl ?_
      refine V_ge rfl rfl rfl hc1 ?_
      refine V_y (Y_gtr rfl rfl) rfl rfl rfl ?_
      refine V_y (Y_pick_fe rfl hc1 rfl) rfl rfl rfl ?_
      exact V_end fun a ha => ⟨(), ha.sub ⟨(by rw [hc1]; rfl), trivial⟩, rfl⟩
  simp only [List.take, List.drop]
  rintro _ _ rfl
  refine V_y (Y_assign rfl) rfl rfl rfl ?_
  refine V_to (fun _ _ => rfl) ?_
  obtain rfl := hm
  refine C_ret ?_
  try simp only [↓inBlock_ret, ↓then_ret]
  exact retQ rfl (Res.one Tryd.results24 rfl) ⟨rfl, rfl⟩

set_option maxRecDepth 4000 in
set_option maxHeartbeats 4000000 in
theorem portref2_ZoneFault_c (w : World) {A : Nat → Prop} (hA : ∀ b, w.heap.size ≤ b → A b) (z : cal_Zone) (v_z : Value) (h_z : Sl A w v_z z.changes) {r : Int} (hm : portref2_ZoneFault z = some r) : Ret Tryd.prog 11 #[.agg #[.int .i64 z.offset, v_z]] w fun v w' => v = .int .i64 r ∧ Kp Dw w w' := by
  unfold portref2_ZoneFault at hm
  refine enter Tryd.func11 rfl Tryd.ntmps11 rfl ?_
  have hA0 := hA
  have hB := Nat.le_refl w.heap.size
  have hK : Tr Dw w.heap.size A w A w := Tr.refl (Dw := Dw) hA
  have hH : Hp w.heap.size A w [] := Hp.nil
  refine C_seq ?_
  refine C_region ?_
  refine V_box rfl rfl ?_
  intro b3 w4 h5
  have hk7 := h5.kp (Dw := Dw)
  have h6 : El (α := cal_Zone) A w4 b3 0 z := h5.el hA ⟨[.int .i64 z.offset], _, rfl, rfl, ⟨_, rfl, h_z⟩⟩
  have ht8 := Kp.tr (Dw := Dw) hk7 hA hB
  replace hH := Hp.kp (Dw := Dw) hH hk7
  replace h_z := Sl.tr (Dw := Dw) h_z ht8
  replace hK := Tr.trans (Dw := Dw) hK ht8
  replace hB := Nat.le_trans hB ht8.ex.size
  replace hA := ht8.new
  refine V_y (Y_assign rfl) rfl rfl rfl ?_
  refine V_to (fun _ _ => rfl) ?_
  refine C_seq ?_
  refine C_region ?_
  refine V_y (Y_assign rfl) rfl rfl rfl ?_
  refine V_to (fun _ _ => rfl) ?_
  refine C_seq ?_
  refine C_seq ?_
  refine C_region ?_
  refine V_y (Y_move rfl) rfl rfl rfl ?_
  have h9 := El_cal_Zone_0 h6
  refine V_y (Y_fieldAddr Tryd.underlying24 rfl Tryd.sizeOf3 (by decide) rfl) rfl rfl rfl ?_
  refine V_y (Y_load (El.int h9) Tryd.isAgg3 rfl) rfl rfl rfl ?_
  refine V_call Tryd.call24 rfl rfl rfl rfl (portref2_ZoneFault_1_c w4 z.offset) ?_
  rintro _ _ ⟨rfl, rfl⟩
  refine V_to (fun _ _ => rfl) ?_
  refine C_cond rfl (fun hc10 => ?_) (fun hc10 => ?_)
  · rw [if_pos hc10] at hm
    refine C_seq ?_
    refine C_region ?_
    refine V_y (Y_assign rfl) rfl rfl rfl ?_
    refine V_to (fun _ _ => rfl) ?_
    obtain rfl := Option.some.inj hm
    refine C_ret ?_
    try simp only [↓inBlock_ret, ↓then_ret]
    exact retQ rfl (Res.one Tryd.results11 rfl) ⟨rfl, hK.kp⟩
  · rw [if_neg (nt hc10)] at hm
    refine C_skip_to (fun _ _ => rfl) ?_
    refine C_seq ?_
    refine C_seq ?_
    refine C_region ?_
    have h11 := El_cal_Zone_1 h6
    refine V_y (Y_fieldAddr Tryd.underlying24 rfl Tryd.sizeOf22 (by decide) rfl) rfl rfl rfl ?_
    obtain ⟨v12, h13, h14⟩ := El.list h11
    refine V_y (Y_load h13 Tryd.isAgg22 rfl) rfl rfl rfl ?_
    refine V_y (Y_lenSl h14 rfl Tryd.underlying22 rfl) rfl rfl rfl ?_
    refine V_y (Y_gtr rfl rfl) rfl rfl rfl ?_
    refine V_to (fun _ _ => rfl) ?_
    refine C_cond rfl (fun hc15 => ?_) (fun hc15 => ?_)
    · rw [if_pos hc15] at hm
      refine C_seq ?_
      refine C_region ?_
      refine V_y (Y_assign rfl) rfl rfl rfl ?_
      refine V_to (fun _ _ => rfl) ?_
      obtain rfl := Option.some.inj hm
      refine C_ret ?_
      try simp only [↓inBlock_ret, ↓then_ret]
      exact retQ rfl (Res.one Tryd.results11 rfl) ⟨rfl, hK.kp⟩
    · rw [if_neg (nt hc15)] at hm
      refine C_skip_to (fun _ _ => rfl) ?_
      refine C_seq ?_
      refine C_region ?_
      have h16 := El_cal_Zone_0 h6
      refine V_y (Y_fieldAddr Tryd.underlying24 rfl Tryd.sizeOf3 (by decide) rfl) rfl rfl rfl ?_
      refine V_y (Y_load (El.int h16) Tryd.isAgg3 rfl) rfl rfl rfl ?_
      refine V_y (Y_assign rfl) rfl rfl rfl ?_
      refine V_to (fun _ _ => rfl) ?_
      refine C_seq ?_
      refine C_seq ?_
      refine C_region ?_
      have h17 := El_cal_Zone_1 h6
      refine V_y (Y_fieldAddr Tryd.underlying24 rfl Tryd.sizeOf22 (by decide) rfl) rfl rfl rfl ?_
      obtain ⟨v18, h19, h20⟩ := El.list h17
      refine V_y (Y_load h19 Tryd.isAgg22 rfl) rfl rfl rfl ?_
      refine V_y (Y_lenSl h20 rfl Tryd.underlying22 rfl) rfl rfl rfl ?_
      refine V_y (Y_move rfl) rfl rfl rfl ?_
      refine V_to (fun _ _ => rfl) ?_
      have hn41 := Sl.le h20
      obtain ⟨o21, ho21, hm⟩ := Option.bind_eq_some_iff.1 hm
      refine C_cutG (ι := (Int × (Nat → Prop))) (fun ⟨s22, A28⟩ => []) (fun ⟨s22, A28⟩ => fun w' => o21 = .fin s22 ∧ Hp w.heap.size A28 w' ([]) ∧ Tr Dw w.heap.size A w4 A28 w') ?_ ?_
      · refine C_block ?_
        refine C_range ho21 (fun k24 s30 a w' => ∃ i : (Nat → Prop), Has ⟨63, [], none⟩ a ([(1, .pointer (some ⟨b3, 0, none⟩)), (3, .func (.func 24) #[] #[]), (4, .int .i64 s30), (18, v18), (19, .int .i64 (z.changes.length : Int)), (20, .int .i64 (k24 : Int))]) ∧ Hp w.heap.size i w' ([]) ∧ Tr Dw w.heap.size A w4 i w') (fun a ha => ⟨A, ha.sub ⟨rfl, rfl, rfl, rfl, rfl, rfl, trivial⟩, ⟨hH, Tr.refl (Dw := Dw) hA⟩⟩) ?_
        rintro K k24 s30 a w31 ⟨A32, ha97, hH33, hr23⟩ hle37 K40 h39
        refine C_of ?_ ha97
        replace h6 := El.tr (Dw := Dw) h6 hr23
        replace h20 := Sl.tr (Dw := Dw) h20 hr23
        replace hK := Tr.trans (Dw := Dw) hK hr23
        replace hB := Nat.le_trans hB hr23.ex.size
        replace hA := hr23.new
        replace hH : Hp w.heap.size A32 w31 ([]) := hH33
        refine C_seq (C_region (V_y (Y_lss rfl rfl) rfl rfl rfl (V_to (fun _ _ => rfl) ?_)))
        refine C_seq ?_
        refine C_cond rfl (fun hc42 => ?_) (fun hc42 => ?_)
        · have hlt38 := lt_of_dec hc42
          obtain ⟨x34, h35, h36⟩ := K40 hlt38
          refine C_skip_to (fun _ _ => rfl) ?_
          refine C_seq ?_
          refine C_block ?_
          refine C_seq ?_
          refine C_region ?_
          refine V_y (Y_move rfl) rfl rfl rfl ?_
          obtain ⟨x43, hx43, h35⟩ := Option.bind_eq_some_iff.1 h35
          refine V_indexAddr h20 hx43 Tryd.underlying22 Tryd.sizeOf46 rfl rfl rfl ?_
          intro b44 o45 h46
          obtain ⟨h47, _⟩ := El_cal_Change h46
          refine V_y (Y_loadA h47 Tryd.isAgg46 Tryd.sizeOf46 rfl) rfl rfl rfl ?_
          refine V_alloc Tryd.zeroValue46 rfl ?_
          intro b48 w49 h50
          refine V_y (Y_assign rfl) rfl rfl rfl ?_
          refine V_storeNew h50 Tryd.sizeOf46 rfl rfl rfl rfl (by exact (List.forall_mem_cons.2 ⟨rfl, (List.forall_mem_cons.2 ⟨rfl, (fun _ h => nomatch h)⟩)⟩)) ?_
          intro w51 h52
          have hk54 := h52.kp (Dw := Dw)
          have h53 : El (α := cal_Change) A32 w51 b48 0 x43 := h52.el hA ⟨[.int .i64 x43.at_], _, rfl, rfl, rfl⟩
          have ht55 := Kp.tr (Dw := Dw) hk54 hA hB
          replace hH := Hp.kp (Dw := Dw) hH hk54
          replace h6 := El.tr (Dw := Dw) h6 ht55
          replace h20 := Sl.tr (Dw := Dw) h20 ht55
          replace h46 := El.tr (Dw := Dw) h46 ht55
          replace hK := Tr.trans (Dw := Dw) hK ht55
          replace hr23 := Tr.trans (Dw := Dw) hr23 ht55
          replace hB := Nat.le_trans hB ht55.ex.size
          replace hA := ht55.new
          refine V_to (fun _ _ => rfl) ?_
          refine C_seq ?_
          refine C_block ?_
          refine C_seq ?_
          obtain ⟨s57, ho56, h35⟩ := Option.bind_eq_some_iff.1 h35
          refine C_cutG (ι := (Nat → Prop)) (fun (A62 : (Nat → Prop)) => [(1, .pointer (some ⟨b3, 0, none⟩)), (3, .func (.func 24) #[] #[]), (4, .int .i64 s30), (5, .int .i64 (k24 : Int)), (6, .pointer (some ⟨b48, 0, none⟩)), (18, v18), (19, .int .i64 (z.changes.length : Int)), (20, .int .i64 (k24 : Int)), (25, .bool s57)]) (fun (A62 : (Nat → Prop)) => fun w' => Hp w.heap.size A62 w' ([]) ∧ Tr Dw w.heap.size A32 w51 A62 w') ?_ ?_
          · have hr58 : Tr Dw w.heap.size A32 w51 A32 w51 := Tr.refl (Dw := Dw) hA
            refine C_region ?_
            have h64 := El_cal_Change_0 h53
            refine V_y (Y_fieldAddr Tryd.underlying46 rfl Tryd.sizeOf3 (by decide) rfl) rfl rfl rfl ?_
            refine V_y (Y_load (El.int h64) Tryd.isAgg3 rfl) rfl rfl rfl ?_
            refine V_y (Y_lss rfl rfl) rfl rfl rfl ?_
            refine V_y (Y_move rfl) rfl rfl rfl ?_
            rcases Bool.eq_false_or_eq_true (decide (x43.at_ < 1)) with hc65 | hc65
            · rw [if_pos hc65] at ho56
              refine V_gn rfl rfl rfl hc65 rfl rfl rfl ?_
              refine V_gn rfl rfl rfl hc65 rfl rfl rfl ?_
              refine V_gn rfl rfl rfl hc65 rfl rfl rfl ?_
              refine V_y (Y_pick_te rfl hc65 rfl) rfl rfl rfl ?_
              refine V_y (Y_move rfl) rfl rfl rfl ?_
              rcases Bool.eq_false_or_eq_true (true) with hc66 | hc66
              · rw [if_pos hc66] at ho56
                refine V_gn rfl rfl rfl hc66 rfl rfl rfl ?_
                refine V_gn rfl rfl rfl hc66 rfl rfl rfl ?_
                refine V_gn rfl rfl rfl hc66 rfl rfl rfl ?_
                refine V_gn rfl rfl rfl hc66 rfl rfl rfl ?_
                refine V_y (Y_pick_te rfl hc66 rfl) rfl rfl rfl ?_
                refine V_y (Y_assign rfl) rfl rfl rfl ?_
                obtain rfl := Option.some.inj ho56
                refine V_end (fun a ha67 => ?_)
                exact ⟨A32, ha67.sub ⟨rfl, rfl, rfl, rfl, rfl, rfl, rfl, rfl, rfl, trivial⟩, ⟨hH, hr58⟩⟩
              · rw [if_neg (nt hc66)] at ho56
                refine V_ge rfl rfl rfl hc66 ?_
                refine V_y (Y_move rfl) rfl rfl rfl ?_
                refine V_ge rfl rfl rfl hc66 ?_
                have h68 := El_cal_Change_1 h53
                refine V_y (Y_fieldAddr Tryd.underlying46 rfl Tryd.sizeOf3 (by decide) rfl) rfl rfl rfl ?_
                refine V_ge rfl rfl rfl hc66 ?_
                refine V_y (Y_load (El.int h68) Tryd.isAgg3 rfl) rfl rfl rfl ?_
                refine V_ge rfl rfl rfl hc66 ?_
                refine V_call Tryd.call24 rfl rfl rfl rfl (portref2_ZoneFault_1_c w51 x43.offset) ?_
                rintro _ _ ⟨rfl, rfl⟩
                refine V_y (Y_pick_fe rfl hc66 rfl) rfl rfl rfl ?_
                refine V_y (Y_assign rfl) rfl rfl rfl ?_
                obtain rfl := Option.some.inj ho56
                refine V_end (fun a ha69 => ?_)
                exact ⟨A32, ha69.sub ⟨rfl, rfl, rfl, rfl, rfl, rfl, rfl, rfl, rfl, trivial⟩, ⟨hH, hr58⟩⟩
            · rw [if_neg (nt hc65)] at ho56
              refine V_ge rfl rfl rfl hc65 ?_
              have h70 := El_cal_Change_0 h53
              refine V_y (Y_fieldAddr Tryd.underlying46 rfl Tryd.sizeOf3 (by decide) rfl) rfl rfl rfl ?_
              refine V_ge rfl rfl rfl hc65 ?_
              refine V_y (Y_load (El.int h70) Tryd.isAgg3 rfl) rfl rfl rfl ?_
              refine V_ge rfl rfl rfl hc65 ?_
              refine V_y (Y_gtr rfl rfl) rfl rfl rfl ?_
              refine V_y (Y_pick_fe rfl hc65 rfl) rfl rfl rfl ?_
              refine V_y (Y_move rfl) rfl rfl rfl ?_
              rcases Bool.eq_false_or_eq_true (decide ((3000000 : Int) < x43.at_)) with hc71 | hc71
              · rw [if_pos hc71] at ho56
                refine V_gn rfl rfl rfl hc71 rfl rfl rfl ?_
                refine V_gn rfl rfl rfl hc71 rfl rfl rfl ?_
                refine V_gn rfl rfl rfl hc71 rfl rfl rfl ?_
                refine V_gn rfl rfl rfl hc71 rfl rfl rfl ?_
                refine V_y (Y_pick_te rfl hc71 rfl) rfl rfl rfl ?_
                refine V_y (Y_assign rfl) rfl rfl rfl ?_
                obtain rfl := Option.some.inj ho56
                refine V_end (fun a ha72 => ?_)
                exact ⟨A32, ha72.sub ⟨rfl, rfl, rfl, rfl, rfl, rfl, rfl, rfl, rfl, trivial⟩, ⟨hH, hr58⟩⟩
              · rw [if_neg (nt hc71)] at ho56
                refine V_ge rfl rfl rfl hc71 ?_
                refine V_y (Y_move rfl) rfl rfl rfl ?_
                refine V_ge rfl rfl rfl hc71 ?_
                have h73 := El_cal_Change_1 h53
                refine V_y (Y_fieldAddr Tryd.underlying46 rfl Tryd.sizeOf3 (by decide) rfl) rfl rfl rfl ?_
                refine V_ge rfl rfl rfl hc71 ?_
                refine V_y (Y_load (El.int h73) Tryd.isAgg3 rfl) rfl rfl rfl ?_
                refine V_ge rfl rfl rfl hc71 ?_
                refine V_call Tryd.call24 rfl rfl rfl rfl (portref2_ZoneFault_1_c w51 x43.offset) ?_
                rintro _ _ ⟨rfl, rfl⟩
                refine V_y (Y_pick_fe rfl hc71 rfl) rfl rfl rfl ?_
                refine V_y (Y_assign rfl) rfl rfl rfl ?_
                obtain rfl := Option.some.inj ho56
                refine V_end (fun a ha74 => ?_)
                exact ⟨A32, ha74.sub ⟨rfl, rfl, rfl, rfl, rfl, rfl, rfl, rfl, rfl, trivial⟩, ⟨hH, hr58⟩⟩
          rintro A62 w59 ⟨hH63, hk60⟩ a ha61
          replace h6 := El.tr (Dw := Dw) h6 hk60
          replace h20 := Sl.tr (Dw := Dw) h20 hk60
          replace h53 := El.tr (Dw := Dw) h53 hk60
          replace hK := Tr.trans (Dw := Dw) hK hk60
          replace hr23 := Tr.trans (Dw := Dw) hr23 hk60
          replace hB := Nat.le_trans hB hk60.ex.size
          replace hA := hk60.new
          replace hH : Hp w.heap.size A62 w59 ([]) := hH63
          refine C_at (n := ⟨63, [], none⟩) (fun _ _ => rfl) ?_ ha61
          refine C_cond rfl (fun hc75 => ?_) (fun hc75 => ?_)
          · rw [if_pos hc75] at h35
            refine C_seq ?_
            refine C_region ?_
            refine V_y (Y_assign rfl) rfl rfl rfl ?_
            refine V_to (fun _ _ => rfl) ?_
            obtain rfl := Option.some.inj h35
            obtain rfl := (h36 : Lp.rt _ = _)
            rw [Lp.andThen_rt] at hm
            obtain rfl := Option.some.inj hm
            refine C_ret ?_
            try simp only [↓inBlock_ret, ↓then_ret]
            exact retQ rfl (Res.one Tryd.results11 rfl) ⟨rfl, hK.kp⟩
          · rw [if_neg (nt hc75)] at h35
            refine C_seq ?_
            refine C_region_q (Dw := Dw) Tryd_mixed (by kernel_rfl) ?_
            refine VQ_y (fun w' hw' => Y_move rfl) rfl rfl rfl ?_
            refine VQ_y (fun w' hw' => Y_gtr rfl rfl) rfl rfl rfl ?_
            refine VQ_y (fun w' hw' => Y_move rfl) rfl rfl rfl ?_
            obtain ⟨s77, hs77, h35⟩ := Option.bind_eq_some_iff.1 h35
            refine VQ_cut 11 (fun _ : Unit => [(1, .pointer (some ⟨b3, 0, none⟩)), (3, .func (.func 24) #[] #[]), (4, .int .i64 s30), (6, .pointer (some ⟨b48, 0, none⟩)), (18, v18), (19, .int .i64 (z.changes.length : Int)), (20, .int .i64 (k24 : Int)), (54, .bool s77)]) (fun _ => True) ?_ ?_
            · simp only [List.take, List.drop]
              rcases Bool.eq_false_or_eq_true (decide ((0 : Int) < (k24 : Int))) with hc76 | hc76
              · rw [if_pos hc76] at hs77
                refine VQ_ge rfl rfl rfl hc76 ?_
                have h78 := El_cal_Change_0 h53
                refine VQ_y (fun w' hw' => Y_fieldAddr Tryd.underlying46 rfl Tryd.sizeOf3 (by decide) rfl) rfl rfl rfl ?_
                refine VQ_ge rfl rfl rfl hc76 ?_
                refine VQ_y (fun w' hw' => Y_load (El.int (El.kp (Dw := Dw) h78 hw')) Tryd.isAgg3 rfl) rfl rfl rfl ?_
                refine VQ_ge rfl rfl rfl hc76 ?_
                have h79 := El_cal_Zone_1 h6
                refine VQ_y (fun w' hw' => Y_fieldAddr Tryd.underlying24 rfl Tryd.sizeOf22 (by decide) rfl) rfl rfl rfl ?_
                refine VQ_ge rfl rfl rfl hc76 ?_
                obtain ⟨v80, h81, h82⟩ := El.list h79
                refine VQ_y (fun w' hw' => Y_load ((World.cell?_of_block (hw'.block _ (World.block_lt_of_cell? _ _ h81))).trans h81) Tryd.isAgg22 rfl) rfl rfl rfl ?_
                refine VQ_ge rfl rfl rfl hc76 ?_
                refine VQ_y (fun w' hw' => Y_move rfl) rfl rfl rfl ?_
                refine VQ_ge rfl rfl rfl hc76 ?_
                refine VQ_y (fun w' hw' => Y_subI rfl rfl) rfl rfl rfl ?_
                refine VQ_ge rfl rfl rfl hc76 ?_
                obtain ⟨x83, hx83, hs77⟩ := Option.bind_eq_some_iff.1 hs77
                refine VQ_indexAddr h82 hx83 Tryd.underlying22 Tryd.sizeOf46 rfl rfl rfl ?_
                intro b84 o85 h86
                refine VQ_ge rfl rfl rfl hc76 ?_
                have h87 := El_cal_Change_0 h86
                refine VQ_y (fun w' hw' => Y_fieldAddr Tryd.underlying46 rfl Tryd.sizeOf3 (by decide) rfl) rfl rfl rfl ?_
                refine VQ_ge rfl rfl rfl hc76 ?_
                refine VQ_y (fun w' hw' => Y_load (El.int (El.kp (Dw := Dw) h87 hw')) Tryd.isAgg3 rfl) rfl rfl rfl ?_
                refine VQ_ge rfl rfl rfl hc76 ?_
                refine VQ_y (fun w' hw' => Y_leq rfl rfl) rfl rfl rfl ?_
                refine VQ_y (fun _ _ => Y_pick_te rfl hc76 rfl) rfl rfl rfl ?_
                obtain rfl := Option.some.inj hs77
                exact VQ_end fun a ha => ⟨(), ha.sub ⟨rfl, rfl, rfl, rfl, rfl, rfl, rfl, rfl, trivial⟩, trivial⟩
              · rw [if_neg (nt hc76)] at hs77
                refine VQ_gn rfl rfl rfl hc76 rfl rfl rfl ?_
                refine VQ_gn rfl rfl rfl hc76 rfl rfl rfl ?_
                refine VQ_gn rfl rfl rfl hc76 rfl rfl rfl ?_
                refine VQ_gn rfl rfl rfl hc76 rfl rfl rfl ?_
                refine VQ_gn rfl rfl rfl hc76 rfl rfl rfl ?_
                refine VQ_gn rfl rfl rfl hc76 rfl rfl rfl ?_
                refine VQ_gn rfl rfl rfl hc76 rfl rfl rfl ?_
                refine VQ_gn rfl rfl rfl hc76 rfl rfl rfl ?_
                refine VQ_gn rfl rfl rfl hc76 rfl rfl rfl ?_
                refine VQ_gn rfl rfl rfl hc76 rfl rfl rfl ?_
                refine VQ_y (fun _ _ => Y_pick_fe rfl hc76 rfl) rfl rfl rfl ?_
                obtain rfl := Option.some.inj hs77
                exact VQ_end fun a ha => ⟨(), ha.sub ⟨rfl, rfl, rfl, rfl, rfl, rfl, rfl, rfl, trivial⟩, trivial⟩
            simp only [List.take, List.drop]
            rintro _ _
            refine VQ_y (fun w' hw' => Y_assign rfl) rfl rfl rfl ?_
            refine VQ_to (fun _ _ => rfl) (fun w88 hk89 => ?_)
            have ht90 := Kp.tr (Dw := Dw) hk89 hA hB
            replace hH := Hp.kp (Dw := Dw) hH hk89
            replace h6 := El.tr (Dw := Dw) h6 ht90
            replace h20 := Sl.tr (Dw := Dw) h20 ht90
            replace h53 := El.tr (Dw := Dw) h53 ht90
            replace hK := Tr.trans (Dw := Dw) hK ht90
            replace hr23 := Tr.trans (Dw := Dw) hr23 ht90
            replace hB := Nat.le_trans hB ht90.ex.size
            replace hA := ht90.new
            refine C_cond rfl (fun hc91 => ?_) (fun hc91 => ?_)
            · rw [if_pos hc91] at h35
              refine C_seq ?_
              refine C_region ?_
              refine V_y (Y_assign rfl) rfl rfl rfl ?_
              refine V_to (fun _ _ => rfl) ?_
              obtain rfl := Option.some.inj h35
              obtain rfl := (h36 : Lp.rt _ = _)
              rw [Lp.andThen_rt] at hm
              obtain rfl := Option.some.inj hm
              refine C_ret ?_
              try simp only [↓inBlock_ret, ↓then_ret]
              exact retQ rfl (Res.one Tryd.results11 rfl) ⟨rfl, hK.kp⟩
            · rw [if_neg (nt hc91)] at h35
              refine C_seq ?_
              refine C_region ?_
              have h92 := El_cal_Change_1 h53
              refine V_y (Y_fieldAddr Tryd.underlying46 rfl Tryd.sizeOf3 (by decide) rfl) rfl rfl rfl ?_
              refine V_y (Y_load (El.int h92) Tryd.isAgg3 rfl) rfl rfl rfl ?_
              refine V_y (Y_move rfl) rfl rfl rfl ?_
              refine V_y (Y_eql rfl rfl) rfl rfl rfl ?_
              refine V_y (Y_assign rfl) rfl rfl rfl ?_
              refine V_to (fun _ _ => rfl) ?_
              refine C_cond rfl (fun hc93 => ?_) (fun hc93 => ?_)
              · rw [if_pos hc93] at h35
                refine C_seq ?_
                refine C_region ?_
                refine V_y (Y_assign rfl) rfl rfl rfl ?_
                refine V_to (fun _ _ => rfl) ?_
                obtain rfl := Option.some.inj h35
                obtain rfl := (h36 : Lp.rt _ = _)
                rw [Lp.andThen_rt] at hm
                obtain rfl := Option.some.inj hm
                refine C_ret ?_
                try simp only [↓inBlock_ret, ↓then_ret]
                exact retQ rfl (Res.one Tryd.results11 rfl) ⟨rfl, hK.kp⟩
              · rw [if_neg (nt hc93)] at h35
                refine C_skip_to (fun _ _ => rfl) ?_
                refine C_region ?_
                have h94 := El_cal_Change_1 h53
                refine V_y (Y_fieldAddr Tryd.underlying46 rfl Tryd.sizeOf3 (by decide) rfl) rfl rfl rfl ?_
                refine V_y (Y_load (El.int h94) Tryd.isAgg3 rfl) rfl rfl rfl ?_
                refine V_y (Y_assign rfl) rfl rfl rfl ?_
                refine V_to (fun _ _ => rfl) ?_
                refine C_region ?_
                refine V_y (Y_addI rfl rfl) rfl rfl rfl ?_
                refine V_y (Y_move rfl) rfl rfl rfl ?_
                obtain rfl := Option.some.inj h35
                refine V_end (fun a ha95 => ?_)
                exact ⟨x43.offset, hlt38, h36, ⟨A62, ha95.sub ⟨rfl, rfl, rfl, rfl, rfl, (congrArg (fun z => some (Value.int .i64 z)) (w64_succ hlt38 hn41)), trivial⟩, ⟨hH, hr23⟩⟩⟩
        · refine C_exit (fun a ha96 => ?_)
          exact ⟨(s30, A32), ha96.sub trivial, ⟨(h39 (eq_of_dec hle37 hc42)).symm, hH, hr23⟩⟩
      rintro ⟨s22, A28⟩ w25 ⟨rfl, hH29, hk26⟩ a ha27
      rw [Lp.andThen_fin] at hm
      replace hK := Tr.trans (Dw := Dw) hK hk26
      replace hB := Nat.le_trans hB hk26.ex.size
      replace hA := hk26.new
      replace hH : Hp w.heap.size A28 w25 ([]) := hH29
      refine C_at (n := ⟨63, [], none⟩) (fun _ _ => rfl) ?_ ha27
      refine C_seq ?_
      refine C_region ?_
      refine V_y (Y_assign rfl) rfl rfl rfl ?_
      refine V_to (fun _ _ => rfl) ?_
      obtain rfl := Option.some.inj hm
      refine C_ret ?_
      try simp only [↓inBlock_ret, ↓then_ret]
      exact retQ rfl (Res.one Tryd.results11 rfl) ⟨rfl, hK.kp⟩

def Tryd_strings_Trim_lay_ren : Go.Shelf.Ren := ⟨fun | 119 => 66 | 120 => 55 | 137 => 65 | 151 => 40 | 152 => 54 | 160 => 13 | 197 => 39 | 217 => 47 | 224 => 49 | 225 => 48 | 227 => 27 | 228 => 38 | 231 => 25 | 232 => 26 | 233 => 28 | 234 => 29 | 235 => 30 | 236 => 31 | 260 => 53 | 266 => 59 | 271 => 41 | n => n, fun | 0 => 0 | 1 => 1 | 2 => 2 | 3 => 3 | 4 => 4 | 5 => 5 | 6 => 6 | 7 => 7 | 8 => 8 | 9 => 9 | 10 => 10 | 11 => 11 | 12 => 12 | 13 => 13 | 14 => 14 | 15 => 15 | 16 => 16 | 17 => 17 | 18 => 18 | 19 => 19 | 20 => 20 | 21 => 21 | 22 => 81 | 23 => 37 | 27 => 64 | 28 => 34 | 37 => 71 | 40 => 102 | 41 => 66 | 46 => 79 | 47 => 112 | 51 => 90 | 52 => 113 | 53 => 83 | 54 => 94 | 55 => 77 | 59 => 30 | 60 => 31 | 63 => 69 | 64 => 82 | 69 => 86 | 74 => 38 | 75 => 39 | 76 => 40 | 77 => 41 | 80 => 116 | 81 => 122 | 83 => 47 | 84 => 80 | 85 => 72 | 86 => 73 | 104 => 104 | 105 => 67 | 106 => 68 | 108 => 89 | 111 => 54 | 114 => 78 | 115 => 56 | 116 => 57 | 117 => 58 | 118 => 59 | 119 => 98 | 122 => 55 | 123 => 60 | 124 => 61 | 127 => 105 | 128 => 62 | 131 => 32 | 137 => 99 | 138 => 100 | 139 => 101 | 143 => 106 | 144 => 107 | 145 => 108 | 146 => 91 | 151 => 92 | 164 => 130 | 167 => 70 | 168 => 74 | 169 => 75 | 170 => 76 | 171 => 93 | 172 => 95 | 173 => 96 | 174 => 97 | 175 => 84 | 176 => 85 | 209 => 87 | 210 => 88 | 211 => 109 | 212 => 110 | 213 => 111 | 214 => 103 | 232 => 114 | 233 => 115 | 238 => 117 | 239 => 118 | 240 => 119 | 241 => 120 | 242 => 121 | 243 => 123 | 244 => 124 | 245 => 125 | 246 => 126 | 247 => 127 | 248 => 128 | 249 => 129 | n => n, fun | 1 => 0 | 3 => 3 | 4 => 4 | 15 => 1 | 16 => 2 | 17 => 5 | 18 => 6 | 19 => 7 | n => n⟩
theorem Tryd_strings_Trim_lay : Go.Proofs.Lays.n160 Tryd.prog Tryd_strings_Trim_lay_ren := {
  mixed := by kernel_rfl,
  f119 := Tryd.func66.trans (congrArg some (by kernel_rfl)),
  f120 := Tryd.func55.trans (congrArg some (by kernel_rfl)),
  f137 := Tryd.func65.trans (congrArg some (by kernel_rfl)),
  f151 := Tryd.func40.trans (congrArg some (by kernel_rfl)),
  f152 := Tryd.func54.trans (congrArg some (by kernel_rfl)),
  f160 := Tryd.func13.trans (congrArg some (by kernel_rfl)),
  f197 := Tryd.func39.trans (congrArg some (by kernel_rfl)),
  f217 := Tryd.func47.trans (congrArg some (by kernel_rfl)),
  f224 := Tryd.func49.trans (congrArg some (by kernel_rfl)),
  f225 := Tryd.func48.trans (congrArg some (by kernel_rfl)),
  f227 := Tryd.func27.trans (congrArg some (by kernel_rfl)),
  f228 := Tryd.func38.trans (congrArg some (by kernel_rfl)),
  f231 := Tryd.func25.trans (congrArg some (by kernel_rfl)),
  f232 := Tryd.func26.trans (congrArg some (by kernel_rfl)),
  f233 := Tryd.func28.trans (congrArg some (by kernel_rfl)),
  f234 := Tryd.func29.trans (congrArg some (by kernel_rfl)),
  f235 := Tryd.func30.trans (congrArg some (by kernel_rfl)),
  f236 := Tryd.func31.trans (congrArg some (by kernel_rfl)),
  f260 := Tryd.func53.trans (congrArg some (by kernel_rfl)),
  f266 := Tryd.func59.trans (congrArg some (by kernel_rfl)),
  f271 := Tryd.func41.trans (congrArg some (by kernel_rfl)),
  t0 := Tryd.underlying0,
  a0 := Tryd.isAgg0,
  z0 := Tryd.sizeOf0,
  v0 := Tryd.zeroValue0,
  t3 := Tryd.underlying3,
  a3 := Tryd.isAgg3,
  z3 := Tryd.sizeOf3,
  v3 := Tryd.zeroValue3,
  t4 := Tryd.underlying4,
  a4 := Tryd.isAgg4,
  z4 := Tryd.sizeOf4,
  v4 := Tryd.zeroValue4,
  t5 := Tryd.underlying5,
  a5 := Tryd.isAgg5,
  z5 := Tryd.sizeOf5,
  v5 := Tryd.zeroValue5,
  t9 := Tryd.underlying9,
  a9 := Tryd.isAgg9,
  z9 := Tryd.sizeOf9,
  v9 := Tryd.zeroValue9,
  t21 := Tryd.underlying21,
  a21 := Tryd.isAgg21,
  z21 := Tryd.sizeOf21,
  v21 := Tryd.zeroValue21,
  t46 := Tryd.underlying79,
  a46 := Tryd.isAgg79,
  z46 := Tryd.sizeOf79,
  v46 := Tryd.zeroValue79,
  t105 := Tryd.underlying67,
  a105 := Tryd.isAgg67,
  z105 := Tryd.sizeOf67,
  v105 := Tryd.zeroValue67,
  t116 := Tryd.underlying57,
  a116 := Tryd.isAgg57,
  z116 := Tryd.sizeOf57,
  t117 := Tryd.underlying58,
  a117 := Tryd.isAgg58,
  z117 := Tryd.sizeOf58,
  v117 := Tryd.zeroValue58,
  t119 := Tryd.underlying98,
  a119 := Tryd.isAgg98,
  z119 := Tryd.sizeOf98,
  t124 := Tryd.underlying61,
  a124 := Tryd.isAgg61,
  z124 := Tryd.sizeOf61,
  v124 := Tryd.zeroValue61,
  t138 := Tryd.underlying100,
  a138 := Tryd.isAgg100,
  z138 := Tryd.sizeOf100,
  v138 := Tryd.zeroValue100,
  t139 := Tryd.underlying101,
  a139 := Tryd.isAgg101,
  z139 := Tryd.sizeOf101,
  v139 := Tryd.zeroValue101,
  g3 := by kernel_rfl,
  g4 := by kernel_rfl }
theorem strings_Trim_c (w : World) {A : Nat → Prop} (hA : ∀ b, w.heap.size ≤ b → A b) (s : ByteArray) (cutset : ByteArray) {r : ByteArray} (hm : strings_Trim s cutset = some r) : Ret Tryd.prog 13 #[.string s, .string cutset] w fun v w' => v = .string r ∧ Kp False w w' := by
  unfold strings_Trim at hm
  split at hm
  case isFalse => cases hm
  rename_i h
  obtain rfl := Option.some.inj hm
  refine Calls.mono (Go.Proofs.Any.strings_Trim_laid Tryd_strings_Trim_lay (by kernel_rfl) s cutset w h.1 h.2.1 (Go.Proofs.ascii_of_all h.2.2)) ?_
  rintro _ w' ⟨rfl, hk⟩
  exact ⟨_, rfl, rfl, .of hk⟩

end Go.Proofs.YtiblhdhpiicdiaaDoor.W
