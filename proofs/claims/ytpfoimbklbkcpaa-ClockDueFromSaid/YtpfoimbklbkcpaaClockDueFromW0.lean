/-
  Written by program (gen.py) from the IR of the dump: each function computes its model.
-/
import Derived.Test.YtpfoimbklbkcpaaProg
import Derived.Test.YtpfoimbklbkcpaaGe
import Derived.Test.YtpfoimbklbkcpaaClockDueFromM
import Derived.KernelRfl
namespace Go.Proofs.Ytpfoimbklbkcpaa.W
open Go Go.RowKit Go.Pu Go.Gw Go.Proofs Go.Proofs.Ytpfoimbklbkcpaa.M
set_option linter.unusedVariables false

theorem Try_info79 : Try.prog.info? 79 = some Try.t79 := by kernel_rfl
theorem Try_info110 : Try.prog.info? 110 = some Try.t110 := by kernel_rfl
theorem Try_info139 : Try.prog.info? 139 = some Try.t139 := by kernel_rfl
theorem Try_places35 : ∀ fs, Try.prog.underlying 35 = some (.struct fs) → ∀ w : World, (Array.mapM (fun (f : Field) => do pure (f.offset, ← Go.sizeOf f.type)) fs).run Try.prog w = .ok #[(0, 1), (1, 1), (2, 1), (3, 1), (4, 1), (5, 1), (6, 1)] w := by
  intro fs h w
  rw [Try.underlying35] at h
  cases h
  kernel_rfl
theorem Try_places48 : ∀ fs, Try.prog.underlying 48 = some (.struct fs) → ∀ w : World, (Array.mapM (fun (f : Field) => do pure (f.offset, ← Go.sizeOf f.type)) fs).run Try.prog w = .ok #[(0, 1), (1, 1)] w := by
  intro fs h w
  rw [Try.underlying48] at h
  cases h
  kernel_rfl
theorem Try_places64 : ∀ fs, Try.prog.underlying 64 = some (.struct fs) → ∀ w : World, (Array.mapM (fun (f : Field) => do pure (f.offset, ← Go.sizeOf f.type)) fs).run Try.prog w = .ok #[(0, 1), (1, 1), (2, 1)] w := by
  intro fs h w
  rw [Try.underlying64] at h
  cases h
  kernel_rfl
theorem Try_places82 : ∀ fs, Try.prog.underlying 82 = some (.struct fs) → ∀ w : World, (Array.mapM (fun (f : Field) => do pure (f.offset, ← Go.sizeOf f.type)) fs).run Try.prog w = .ok #[(0, 1)] w := by
  intro fs h w
  rw [Try.underlying82] at h
  cases h
  kernel_rfl
theorem Try_places107 : ∀ fs, Try.prog.underlying 107 = some (.struct fs) → ∀ w : World, (Array.mapM (fun (f : Field) => do pure (f.offset, ← Go.sizeOf f.type)) fs).run Try.prog w = .ok #[(0, 4), (4, 1)] w := by
  intro fs h w
  rw [Try.underlying107] at h
  cases h
  kernel_rfl
theorem Try_places110 : ∀ fs, Try.prog.underlying 110 = some (.struct fs) → ∀ w : World, (Array.mapM (fun (f : Field) => do pure (f.offset, ← Go.sizeOf f.type)) fs).run Try.prog w = .ok #[(0, 1), (1, 1), (2, 1)] w := by
  intro fs h w
  rw [Try.underlying110] at h
  cases h
  kernel_rfl
theorem Try_places139 : ∀ fs, Try.prog.underlying 139 = some (.struct fs) → ∀ w : World, (Array.mapM (fun (f : Field) => do pure (f.offset, ← Go.sizeOf f.type)) fs).run Try.prog w = .ok #[(0, 1), (1, 1), (2, 1)] w := by
  intro fs h w
  rw [Try.underlying139] at h
  cases h
  kernel_rfl
theorem Try_mixed : Try.prog.follows .mixedOrders = true := by kernel_rfl

instance : GoT cal_Change := GoT.of (β := Int × Int) fun x => (x.at_, x.offset)

instance : Flat cal_Change := ⟨fun {A w A1 w1 cs x} h => Flat.flat (α := Int × Int) (x := (x.at_, x.offset)) (A := A) (w := w) h⟩

theorem El_cal_Change_ {A : Nat → Prop} {w : World} {b off : Nat} {x : cal_Change} (h : El A w b off x) : El (α := Int × Int) A w b off (x.at_, x.offset) := h

theorem El_cal_Change_0 {A : Nat → Prop} {w : World} {b off : Nat} {x : cal_Change} (h : El A w b off x) : El A w b (off + 0) x.at_ := El.fst (El_cal_Change_ h)

theorem El_cal_Change_1 {A : Nat → Prop} {w : World} {b off : Nat} {x : cal_Change} (h : El A w b off x) : El A w b (off + 1) x.offset := El.snd (El_cal_Change_ h)

theorem El_cal_Change {A : Nat → Prop} {w : World} {b off : Nat} {x : cal_Change} (h : El A w b off x) : At w b off [.int .i64 x.at_, .int .i64 x.offset] ∧ True := by
  obtain ⟨h1, h2, cs, h3, h4⟩ := h
  obtain ⟨_, _, rfl, rfl, rfl⟩ := h3
  exact ⟨h4, trivial⟩

instance : GoT cal_Zone := GoT.of (β := Int × (List cal_Change)) fun x => (x.offset, x.changes)

theorem El_cal_Zone_ {A : Nat → Prop} {w : World} {b off : Nat} {x : cal_Zone} (h : El A w b off x) : El (α := Int × (List cal_Change)) A w b off (x.offset, x.changes) := h

theorem El_cal_Zone_0 {A : Nat → Prop} {w : World} {b off : Nat} {x : cal_Zone} (h : El A w b off x) : El A w b (off + 0) x.offset := El.fst (El_cal_Zone_ h)

theorem El_cal_Zone_1 {A : Nat → Prop} {w : World} {b off : Nat} {x : cal_Zone} (h : El A w b off x) : El A w b (off + 1) x.changes := El.snd (El_cal_Zone_ h)

theorem El_cal_Zone {A : Nat → Prop} {w : World} {b off : Nat} {x : cal_Zone} (h : El A w b off x) : ∃ v1, At w b off [.int .i64 x.offset, v1] ∧ Sl A w v1 x.changes := by
  obtain ⟨h1, h2, cs, h3, h4⟩ := h
  obtain ⟨_, _, rfl, rfl, ⟨u1, rfl, g1⟩⟩ := h3
  exact ⟨u1, h4, g1⟩

instance : GoT cal_Shift := GoT.of (β := Int × Int × Int) fun x => (x.day, x.from_, x.to_)

instance : Flat cal_Shift := ⟨fun {A w A1 w1 cs x} h => Flat.flat (α := Int × Int × Int) (x := (x.day, x.from_, x.to_)) (A := A) (w := w) h⟩

theorem El_cal_Shift_ {A : Nat → Prop} {w : World} {b off : Nat} {x : cal_Shift} (h : El A w b off x) : El (α := Int × Int × Int) A w b off (x.day, x.from_, x.to_) := h

theorem El_cal_Shift_0 {A : Nat → Prop} {w : World} {b off : Nat} {x : cal_Shift} (h : El A w b off x) : El A w b (off + 0) x.day := El.fst (El_cal_Shift_ h)

theorem El_cal_Shift_1 {A : Nat → Prop} {w : World} {b off : Nat} {x : cal_Shift} (h : El A w b off x) : El A w b (off + 1) x.from_ := El.fst (El.snd (El_cal_Shift_ h))

theorem El_cal_Shift_2 {A : Nat → Prop} {w : World} {b off : Nat} {x : cal_Shift} (h : El A w b off x) : El A w b (off + 2) x.to_ := El.snd (El.snd (El_cal_Shift_ h))

theorem El_cal_Shift {A : Nat → Prop} {w : World} {b off : Nat} {x : cal_Shift} (h : El A w b off x) : At w b off [.int .i64 x.day, .int .i64 x.from_, .int .i64 x.to_] ∧ True := by
  obtain ⟨h1, h2, cs, h3, h4⟩ := h
  obtain ⟨_, _, rfl, rfl, ⟨_, _, rfl, rfl, rfl⟩⟩ := h3
  exact ⟨h4, trivial⟩

instance : GoT cal_Special := GoT.of (β := Int × (List cal_Shift)) fun x => (x.day, x.shifts)

theorem El_cal_Special_ {A : Nat → Prop} {w : World} {b off : Nat} {x : cal_Special} (h : El A w b off x) : El (α := Int × (List cal_Shift)) A w b off (x.day, x.shifts) := h

theorem El_cal_Special_0 {A : Nat → Prop} {w : World} {b off : Nat} {x : cal_Special} (h : El A w b off x) : El A w b (off + 0) x.day := El.fst (El_cal_Special_ h)

theorem El_cal_Special_1 {A : Nat → Prop} {w : World} {b off : Nat} {x : cal_Special} (h : El A w b off x) : El A w b (off + 1) x.shifts := El.snd (El_cal_Special_ h)

theorem El_cal_Special {A : Nat → Prop} {w : World} {b off : Nat} {x : cal_Special} (h : El A w b off x) : ∃ v1, At w b off [.int .i64 x.day, v1] ∧ Sl A w v1 x.shifts := by
  obtain ⟨h1, h2, cs, h3, h4⟩ := h
  obtain ⟨_, _, rfl, rfl, ⟨u1, rfl, g1⟩⟩ := h3
  exact ⟨u1, h4, g1⟩

instance : GoT cal_Calendar := GoT.of (β := cal_Zone × (List cal_Shift) × (List cal_Special)) fun x => (x.zone, x.week, x.specials)

theorem El_cal_Calendar_ {A : Nat → Prop} {w : World} {b off : Nat} {x : cal_Calendar} (h : El A w b off x) : El (α := cal_Zone × (List cal_Shift) × (List cal_Special)) A w b off (x.zone, x.week, x.specials) := h

theorem El_cal_Calendar_0 {A : Nat → Prop} {w : World} {b off : Nat} {x : cal_Calendar} (h : El A w b off x) : El A w b (off + 0) x.zone := El.fst (El_cal_Calendar_ h)

theorem El_cal_Calendar_1 {A : Nat → Prop} {w : World} {b off : Nat} {x : cal_Calendar} (h : El A w b off x) : El A w b (off + 2) x.week := El.fst (El.snd (El_cal_Calendar_ h))

theorem El_cal_Calendar_2 {A : Nat → Prop} {w : World} {b off : Nat} {x : cal_Calendar} (h : El A w b off x) : El A w b (off + 3) x.specials := El.snd (El.snd (El_cal_Calendar_ h))

theorem El_cal_Calendar {A : Nat → Prop} {w : World} {b off : Nat} {x : cal_Calendar} (h : El A w b off x) : ∃ v1 v3 v5, At w b off [.int .i64 x.zone.offset, v1, v3, v5] ∧ Sl A w v1 x.zone.changes ∧ Sl A w v3 x.week ∧ Sl A w v5 x.specials := by
  obtain ⟨h1, h2, cs, h3, h4⟩ := h
  obtain ⟨_, _, rfl, ⟨_, _, rfl, rfl, ⟨u1, rfl, g1⟩⟩, ⟨_, _, rfl, ⟨u2, rfl, g2⟩, ⟨u3, rfl, g3⟩⟩⟩ := h3
  exact ⟨u1, u2, u3, h4, g1, g2, g3⟩

theorem Rep_cal_Calendar {A : Nat → Prop} {w : World} {cs : List Value} {x : cal_Calendar} (h : GoT.rep A w cs x) : ∃ v1 v3 v5, cs = [.int .i64 x.zone.offset, v1, v3, v5] ∧ Sl A w v1 x.zone.changes ∧ Sl A w v3 x.week ∧ Sl A w v5 x.specials := by
  obtain ⟨_, _, rfl, ⟨_, _, rfl, rfl, ⟨u1, rfl, g1⟩⟩, ⟨_, _, rfl, ⟨u2, rfl, g2⟩, ⟨u3, rfl, g3⟩⟩⟩ := h
  exact ⟨u1, u2, u3, rfl, g1, g2, g3⟩

instance : GoT level_Piece := GoT.of (β := Int × Int × Int) fun x => (x.from_, x.to_, x.calendar)

instance : Flat level_Piece := ⟨fun {A w A1 w1 cs x} h => Flat.flat (α := Int × Int × Int) (x := (x.from_, x.to_, x.calendar)) (A := A) (w := w) h⟩

theorem El_level_Piece_ {A : Nat → Prop} {w : World} {b off : Nat} {x : level_Piece} (h : El A w b off x) : El (α := Int × Int × Int) A w b off (x.from_, x.to_, x.calendar) := h

theorem El_level_Piece_0 {A : Nat → Prop} {w : World} {b off : Nat} {x : level_Piece} (h : El A w b off x) : El A w b (off + 0) x.from_ := El.fst (El_level_Piece_ h)

theorem El_level_Piece_1 {A : Nat → Prop} {w : World} {b off : Nat} {x : level_Piece} (h : El A w b off x) : El A w b (off + 1) x.to_ := El.fst (El.snd (El_level_Piece_ h))

theorem El_level_Piece_2 {A : Nat → Prop} {w : World} {b off : Nat} {x : level_Piece} (h : El A w b off x) : El A w b (off + 2) x.calendar := El.snd (El.snd (El_level_Piece_ h))

theorem El_level_Piece {A : Nat → Prop} {w : World} {b off : Nat} {x : level_Piece} (h : El A w b off x) : At w b off [.int .i64 x.from_, .int .i64 x.to_, .int .i64 x.calendar] ∧ True := by
  obtain ⟨h1, h2, cs, h3, h4⟩ := h
  obtain ⟨_, _, rfl, rfl, ⟨_, _, rfl, rfl, rfl⟩⟩ := h3
  exact ⟨h4, trivial⟩

instance : GoT level_Clock := GoT.of (β := Int × Int × Int × Int × Int × Int × (List level_Piece)) fun x => (x.kind, x.level, x.minutes, x.start, x.stop, x.end_, x.pieces)

theorem El_level_Clock_ {A : Nat → Prop} {w : World} {b off : Nat} {x : level_Clock} (h : El A w b off x) : El (α := Int × Int × Int × Int × Int × Int × (List level_Piece)) A w b off (x.kind, x.level, x.minutes, x.start, x.stop, x.end_, x.pieces) := h

theorem El_level_Clock_0 {A : Nat → Prop} {w : World} {b off : Nat} {x : level_Clock} (h : El A w b off x) : El A w b (off + 0) x.kind := El.fst (El_level_Clock_ h)

theorem El_level_Clock_1 {A : Nat → Prop} {w : World} {b off : Nat} {x : level_Clock} (h : El A w b off x) : El A w b (off + 1) x.level := El.fst (El.snd (El_level_Clock_ h))

theorem El_level_Clock_2 {A : Nat → Prop} {w : World} {b off : Nat} {x : level_Clock} (h : El A w b off x) : El A w b (off + 2) x.minutes := El.fst (El.snd (El.snd (El_level_Clock_ h)))

theorem El_level_Clock_3 {A : Nat → Prop} {w : World} {b off : Nat} {x : level_Clock} (h : El A w b off x) : El A w b (off + 3) x.start := El.fst (El.snd (El.snd (El.snd (El_level_Clock_ h))))

theorem El_level_Clock_4 {A : Nat → Prop} {w : World} {b off : Nat} {x : level_Clock} (h : El A w b off x) : El A w b (off + 4) x.stop := El.fst (El.snd (El.snd (El.snd (El.snd (El_level_Clock_ h)))))

theorem El_level_Clock_5 {A : Nat → Prop} {w : World} {b off : Nat} {x : level_Clock} (h : El A w b off x) : El A w b (off + 5) x.end_ := El.fst (El.snd (El.snd (El.snd (El.snd (El.snd (El_level_Clock_ h))))))

theorem El_level_Clock_6 {A : Nat → Prop} {w : World} {b off : Nat} {x : level_Clock} (h : El A w b off x) : El A w b (off + 6) x.pieces := El.snd (El.snd (El.snd (El.snd (El.snd (El.snd (El_level_Clock_ h))))))

theorem El_level_Clock {A : Nat → Prop} {w : World} {b off : Nat} {x : level_Clock} (h : El A w b off x) : ∃ v1, At w b off [.int .i64 x.kind, .int .i64 x.level, .int .i64 x.minutes, .int .i64 x.start, .int .i64 x.stop, .int .i64 x.end_, v1] ∧ Sl A w v1 x.pieces := by
  obtain ⟨h1, h2, cs, h3, h4⟩ := h
  obtain ⟨_, _, rfl, rfl, ⟨_, _, rfl, rfl, ⟨_, _, rfl, rfl, ⟨_, _, rfl, rfl, ⟨_, _, rfl, rfl, ⟨_, _, rfl, rfl, ⟨u1, rfl, g1⟩⟩⟩⟩⟩⟩⟩ := h3
  exact ⟨u1, h4, g1⟩

instance : GoT cal_Span := GoT.of (β := Int × Int) fun x => (x.from_, x.to_)

instance : Flat cal_Span := ⟨fun {A w A1 w1 cs x} h => Flat.flat (α := Int × Int) (x := (x.from_, x.to_)) (A := A) (w := w) h⟩

theorem El_cal_Span_ {A : Nat → Prop} {w : World} {b off : Nat} {x : cal_Span} (h : El A w b off x) : El (α := Int × Int) A w b off (x.from_, x.to_) := h

theorem El_cal_Span_0 {A : Nat → Prop} {w : World} {b off : Nat} {x : cal_Span} (h : El A w b off x) : El A w b (off + 0) x.from_ := El.fst (El_cal_Span_ h)

theorem El_cal_Span_1 {A : Nat → Prop} {w : World} {b off : Nat} {x : cal_Span} (h : El A w b off x) : El A w b (off + 1) x.to_ := El.snd (El_cal_Span_ h)

theorem El_cal_Span {A : Nat → Prop} {w : World} {b off : Nat} {x : cal_Span} (h : El A w b off x) : At w b off [.int .i64 x.from_, .int .i64 x.to_] ∧ True := by
  obtain ⟨h1, h2, cs, h3, h4⟩ := h
  obtain ⟨_, _, rfl, rfl, rfl⟩ := h3
  exact ⟨h4, trivial⟩

instance : GoT cal_part := GoT.of (β := Int × Int × Int) fun x => (x.from_, x.to_, x.offset)

instance : Flat cal_part := ⟨fun {A w A1 w1 cs x} h => Flat.flat (α := Int × Int × Int) (x := (x.from_, x.to_, x.offset)) (A := A) (w := w) h⟩

theorem El_cal_part_ {A : Nat → Prop} {w : World} {b off : Nat} {x : cal_part} (h : El A w b off x) : El (α := Int × Int × Int) A w b off (x.from_, x.to_, x.offset) := h

theorem El_cal_part_0 {A : Nat → Prop} {w : World} {b off : Nat} {x : cal_part} (h : El A w b off x) : El A w b (off + 0) x.from_ := El.fst (El_cal_part_ h)

theorem El_cal_part_1 {A : Nat → Prop} {w : World} {b off : Nat} {x : cal_part} (h : El A w b off x) : El A w b (off + 1) x.to_ := El.fst (El.snd (El_cal_part_ h))

theorem El_cal_part_2 {A : Nat → Prop} {w : World} {b off : Nat} {x : cal_part} (h : El A w b off x) : El A w b (off + 2) x.offset := El.snd (El.snd (El_cal_part_ h))

theorem El_cal_part {A : Nat → Prop} {w : World} {b off : Nat} {x : cal_part} (h : El A w b off x) : At w b off [.int .i64 x.from_, .int .i64 x.to_, .int .i64 x.offset] ∧ True := by
  obtain ⟨h1, h2, cs, h3, h4⟩ := h
  obtain ⟨_, _, rfl, rfl, ⟨_, _, rfl, rfl, rfl⟩⟩ := h3
  exact ⟨h4, trivial⟩

instance : GoT portref2_meter := GoT.of (β := (List cal_Calendar)) fun x => (x.clocks)

theorem El_portref2_meter_ {A : Nat → Prop} {w : World} {b off : Nat} {x : portref2_meter} (h : El A w b off x) : El (α := (List cal_Calendar)) A w b off (x.clocks) := h

theorem El_portref2_meter_0 {A : Nat → Prop} {w : World} {b off : Nat} {x : portref2_meter} (h : El A w b off x) : El A w b (off + 0) x.clocks := (El_portref2_meter_ h)

theorem El_portref2_meter {A : Nat → Prop} {w : World} {b off : Nat} {x : portref2_meter} (h : El A w b off x) : ∃ v1, At w b off [v1] ∧ Sl A w v1 x.clocks := by
  obtain ⟨h1, h2, cs, h3, h4⟩ := h
  obtain ⟨u1, rfl, g1⟩ := h3
  exact ⟨u1, h4, g1⟩

set_option maxRecDepth 4000 in
set_option maxHeartbeats 4000000 in
theorem cal_within_c (w : World) (n : Int) (low : Int) (high : Int) : Ret Try.prog 60 #[.int .i64 n, .int .i64 low, .int .i64 high] w fun v w' => v = .bool (cal_within n low high) ∧ w = w' := by
  generalize hm : cal_within n low high = r
  unfold cal_within at hm
  refine enter Try.func60 rfl Try.ntmps60 rfl ?_
  refine C_seq ?_
  refine C_region ?_
  refine V_y (Y_assign rfl) rfl rfl rfl ?_
  refine V_to (fun _ _ => rfl) ?_
  refine C_seq ?_
  refine C_region ?_
  refine V_y (Y_move rfl) rfl rfl rfl ?_
  refine V_y (Y_move rfl) rfl rfl rfl ?_
  refine V_y (Y_geq rfl rfl) rfl rfl rfl ?_
  refine V_y (Y_move rfl) rfl rfl rfl ?_
  refine V_cut 4 (fun _ : Unit => [(14, .bool ((decide (low ≤ n)) && (decide (n ≤ high))))]) (fun _ w' => w = w') ?_ ?_
  · simp only [List.take, List.drop]
    rcases Bool.eq_false_or_eq_true (decide (low ≤ n)) with hc1 | hc1
    · refine V_ge rfl rfl rfl hc1 ?_
      refine V_y (Y_move rfl) rfl rfl rfl ?_
      refine V_ge rfl rfl rfl hc1 ?_
      refine V_y (Y_move rfl) rfl rfl rfl ?_
      refine V_ge rfl rfl rfl hc1 ?_
      refine V_y (Y_leq rfl rfl) rfl rfl rfl ?_
      refine V_y (Y_pick_te rfl hc1 rfl) rfl rfl rfl ?_
      exact V_end fun a ha => ⟨(), ha.sub ⟨(by rw [hc1]; rfl), trivial⟩, rfl⟩
    · refine V_gn rfl rfl rfl hc1 rfl rfl rfl ?_
      refine V_gn rfl rfl rfl hc1 rfl rfl rfl ?_
      refine V_gn rfl rfl rfl hc1 rfl rfl rfl ?_
      refine V_y (Y_pick_fe rfl hc1 rfl) rfl rfl rfl ?_
      exact V_end fun a ha => ⟨(), ha.sub ⟨(by rw [hc1]; rfl), trivial⟩, rfl⟩
  simp only [List.take, List.drop]
  rintro _ _ rfl
  refine V_y (Y_assign rfl) rfl rfl rfl ?_
  refine V_to (fun _ _ => rfl) ?_
  obtain rfl := hm
  refine C_ret ?_
  try simp only [↓inBlock_ret, ↓then_ret]
  exact retQ rfl (Res.one Try.results60 rfl) ⟨rfl, rfl⟩

set_option maxRecDepth 4000 in
set_option maxHeartbeats 4000000 in
theorem cal_CheckZone_c (w : World) {A : Nat → Prop} (hA : ∀ b, w.heap.size ≤ b → A b) (z : cal_Zone) (v_z : Value) (h_z : Sl A w v_z z.changes) {r : Int} (hm : cal_CheckZone z = some r) : Ret Try.prog 58 #[.agg #[.int .i64 z.offset, v_z]] w fun v w' => v = .int .i64 r ∧ Kp w w' := by
  unfold cal_CheckZone at hm
  refine enter Try.func58 rfl Try.ntmps58 rfl ?_
  have hA0 := hA
  have hB := Nat.le_refl w.heap.size
  have hK : Tr w.heap.size A w A w := Tr.refl hA
  have hH : Hp w.heap.size A w [] := Hp.nil
  refine C_seq ?_
  refine C_region ?_
  refine V_box rfl rfl ?_
  intro b3 w4 h5
  have hk7 := h5.kp
  have h6 : El (α := cal_Zone) A w4 b3 0 z := h5.el hA ⟨[.int .i64 z.offset], _, rfl, rfl, ⟨_, rfl, h_z⟩⟩
  have ht8 := Kp.tr hk7 hA hB
  replace hH := Hp.kp hH hk7
  replace h_z := Sl.tr h_z ht8
  replace hK := Tr.trans hK ht8
  replace hB := Nat.le_trans hB ht8.ex.size
  replace hA := ht8.new
  refine V_y (Y_assign rfl) rfl rfl rfl ?_
  refine V_to (fun _ _ => rfl) ?_
  refine C_seq ?_
  refine C_seq ?_
  refine C_region ?_
  have h9 := El_cal_Zone_0 h6
  refine V_y (Y_fieldAddr Try.underlying24 rfl Try.sizeOf3 (by decide) rfl) rfl rfl rfl ?_
  refine V_y (Y_load (El.int h9) Try.isAgg3 rfl) rfl rfl rfl ?_
  refine V_call Try.call60 rfl rfl rfl rfl (cal_within_c w4 z.offset (-1440) 1440) ?_
  rintro _ _ ⟨rfl, rfl⟩
  refine V_y (Y_not rfl) rfl rfl rfl ?_
  refine V_to (fun _ _ => rfl) ?_
  refine C_cond rfl (fun hc10 => ?_) (fun hc10 => ?_)
  · rw [if_pos hc10] at hm
    refine C_seq ?_
    refine C_region ?_
    refine V_y (Y_assign rfl) rfl rfl rfl ?_
    refine V_to (fun _ _ => rfl) ?_
    obtain rfl := Option.some.inj hm
    refine C_ret ?_
    try simp only [↓inBlock_ret, ↓then_ret]
    exact retQ rfl (Res.one Try.results58 rfl) ⟨rfl, hK.kp⟩
  · rw [if_neg (nt hc10)] at hm
    refine C_skip_to (fun _ _ => rfl) ?_
    refine C_seq ?_
    refine C_seq ?_
    refine C_region ?_
    have h11 := El_cal_Zone_1 h6
    refine V_y (Y_fieldAddr Try.underlying24 rfl Try.sizeOf22 (by decide) rfl) rfl rfl rfl ?_
    obtain ⟨v12, h13, h14⟩ := El.list h11
    refine V_y (Y_load h13 Try.isAgg22 rfl) rfl rfl rfl ?_
    refine V_y (Y_lenSl h14 rfl Try.underlying22 rfl) rfl rfl rfl ?_
    refine V_y (Y_gtr rfl rfl) rfl rfl rfl ?_
    refine V_to (fun _ _ => rfl) ?_
    refine C_cond rfl (fun hc15 => ?_) (fun hc15 => ?_)
    · rw [if_pos hc15] at hm
      refine C_seq ?_
      refine C_region ?_
      refine V_y (Y_assign rfl) rfl rfl rfl ?_
      refine V_to (fun _ _ => rfl) ?_
      obtain rfl := Option.some.inj hm
      refine C_ret ?_
      try simp only [↓inBlock_ret, ↓then_ret]
      exact retQ rfl (Res.one Try.results58 rfl) ⟨rfl, hK.kp⟩
    · rw [if_neg (nt hc15)] at hm
      refine C_skip_to (fun _ _ => rfl) ?_
      refine C_seq ?_
      refine C_region_q Try_mixed (by kernel_rfl) ?_
      have h16 := El_cal_Zone_0 h6
      refine VQ_y (fun w' hw' => Y_fieldAddr Try.underlying24 rfl Try.sizeOf3 (by decide) rfl) rfl rfl rfl ?_
      refine VQ_y (fun w' hw' => Y_load (El.int (El.kp h16 hw')) Try.isAgg3 rfl) rfl rfl rfl ?_
      refine VQ_y (fun w' hw' => Y_assign rfl) rfl rfl rfl ?_
      refine VQ_y (fun w' hw' => Y_assign rfl) rfl rfl rfl ?_
      refine VQ_to (fun _ _ => rfl) (fun w17 hk18 => ?_)
      have ht19 := Kp.tr hk18 hA hB
      replace hH := Hp.kp hH hk18
      replace h6 := El.tr h6 ht19
      replace hK := Tr.trans hK ht19
      replace hB := Nat.le_trans hB ht19.ex.size
      replace hA := ht19.new
      refine C_seq ?_
      refine C_seq ?_
      refine C_region ?_
      have h20 := El_cal_Zone_1 h6
      refine V_y (Y_fieldAddr Try.underlying24 rfl Try.sizeOf22 (by decide) rfl) rfl rfl rfl ?_
      obtain ⟨v21, h22, h23⟩ := El.list h20
      refine V_y (Y_load h22 Try.isAgg22 rfl) rfl rfl rfl ?_
      refine V_y (Y_lenSl h23 rfl Try.underlying22 rfl) rfl rfl rfl ?_
      refine V_y (Y_move rfl) rfl rfl rfl ?_
      refine V_to (fun _ _ => rfl) ?_
      have hn44 := Sl.le h23
      obtain ⟨o24, ho24, hm⟩ := Option.bind_eq_some_iff.1 hm
      refine C_cutG (ι := ((Int × Int) × (Nat → Prop))) (fun ⟨s25, A31⟩ => []) (fun ⟨s25, A31⟩ => fun w' => o24 = .fin s25 ∧ Hp w.heap.size A31 w' ([]) ∧ Tr w.heap.size A w17 A31 w') ?_ ?_
      · refine C_block ?_
        refine C_range ho24 (fun k27 s33 a w' => ∃ i : (Nat → Prop), Has ⟨50, [], none⟩ a ([(3, .int .i64 s33.1), (4, .int .i64 s33.2), (18, v21), (19, .int .i64 (z.changes.length : Int)), (20, .int .i64 (k27 : Int))]) ∧ Hp w.heap.size i w' ([]) ∧ Tr w.heap.size A w17 i w') (fun a ha => ⟨A, ha.sub ⟨rfl, rfl, rfl, rfl, rfl, trivial⟩, ⟨hH, Tr.refl hA⟩⟩) ?_
        rintro K k27 s33 a w34 ⟨A35, ha75, hH36, hr26⟩ hle40 K43 h42
        refine C_of ?_ ha75
        replace h23 := Sl.tr h23 hr26
        replace hK := Tr.trans hK hr26
        replace hB := Nat.le_trans hB hr26.ex.size
        replace hA := hr26.new
        replace hH : Hp w.heap.size A35 w34 ([]) := hH36
        refine C_seq (C_region (V_y (Y_lss rfl rfl) rfl rfl rfl (V_to (fun _ _ => rfl) ?_)))
        refine C_seq ?_
        refine C_cond rfl (fun hc45 => ?_) (fun hc45 => ?_)
        · have hlt41 := lt_of_dec hc45
          obtain ⟨x37, h38, h39⟩ := K43 hlt41
          refine C_skip_to (fun _ _ => rfl) ?_
          refine C_seq ?_
          refine C_block ?_
          refine C_seq ?_
          refine C_region ?_
          obtain ⟨x46, hx46, h38⟩ := Option.bind_eq_some_iff.1 h38
          refine V_indexAddr h23 hx46 Try.underlying22 Try.sizeOf116 rfl rfl rfl ?_
          intro b47 o48 h49
          obtain ⟨h50, _⟩ := El_cal_Change h49
          refine V_y (Y_loadA h50 Try.isAgg116 Try.sizeOf116 rfl) rfl rfl rfl ?_
          refine V_alloc Try.zeroValue116 rfl ?_
          intro b51 w52 h53
          refine V_storeNew h53 Try.sizeOf116 rfl rfl rfl rfl (by exact (List.forall_mem_cons.2 ⟨rfl, (List.forall_mem_cons.2 ⟨rfl, (fun _ h => nomatch h)⟩)⟩)) ?_
          intro w54 h55
          have hk57 := h55.kp
          have h56 : El (α := cal_Change) A35 w54 b51 0 x46 := h55.el hA ⟨[.int .i64 x46.at_], _, rfl, rfl, rfl⟩
          have ht58 := Kp.tr hk57 hA hB
          replace hH := Hp.kp hH hk57
          replace h23 := Sl.tr h23 ht58
          replace h49 := El.tr h49 ht58
          replace hK := Tr.trans hK ht58
          replace hr26 := Tr.trans hr26 ht58
          replace hB := Nat.le_trans hB ht58.ex.size
          replace hA := ht58.new
          refine V_to (fun _ _ => rfl) ?_
          refine C_seq ?_
          refine C_block ?_
          refine C_seq ?_
          refine C_region ?_
          have h59 := El_cal_Change_0 h56
          refine V_y (Y_fieldAddr Try.underlying116 rfl Try.sizeOf3 (by decide) rfl) rfl rfl rfl ?_
          refine V_y (Y_load (El.int h59) Try.isAgg3 rfl) rfl rfl rfl ?_
          refine V_call Try.call60 rfl rfl rfl rfl (cal_within_c w54 x46.at_ 1 3000000) ?_
          rintro _ _ ⟨rfl, rfl⟩
          refine V_y (Y_not rfl) rfl rfl rfl ?_
          refine V_y (Y_move rfl) rfl rfl rfl ?_
          refine V_cut 5 (fun _ : Unit => [(3, .int .i64 s33.1), (4, .int .i64 s33.2), (6, .pointer (some ⟨b51, 0, none⟩)), (18, v21), (19, .int .i64 (z.changes.length : Int)), (20, .int .i64 (k27 : Int)), (34, .bool ((!(cal_within x46.at_ 1 3000000)) || (!(cal_within x46.offset (-1440) 1440))))]) (fun _ w' => w54 = w') ?_ ?_
          · simp only [List.take, List.drop]
            rcases Bool.eq_false_or_eq_true (!(cal_within x46.at_ 1 3000000)) with hc60 | hc60
            · refine V_gn rfl rfl rfl hc60 rfl rfl rfl ?_
              refine V_gn rfl rfl rfl hc60 rfl rfl rfl ?_
              refine V_gn rfl rfl rfl hc60 rfl rfl rfl ?_
              refine V_gn rfl rfl rfl hc60 rfl rfl rfl ?_
              refine V_y (Y_pick_te rfl hc60 rfl) rfl rfl rfl ?_
              exact V_end fun a ha => ⟨(), ha.sub ⟨rfl, rfl, rfl, rfl, rfl, rfl, (by rw [hc60]; rfl), trivial⟩, rfl⟩
            · refine V_ge rfl rfl rfl hc60 ?_
              have h62 := El_cal_Change_1 h56
              refine V_y (Y_fieldAddr Try.underlying116 rfl Try.sizeOf3 (by decide) rfl) rfl rfl rfl ?_
              refine V_ge rfl rfl rfl hc60 ?_
              refine V_y (Y_load (El.int h62) Try.isAgg3 rfl) rfl rfl rfl ?_
              refine V_ge rfl rfl rfl hc60 ?_
              refine V_call Try.call60 rfl rfl rfl rfl (cal_within_c w54 x46.offset (-1440) 1440) ?_
              rintro _ _ ⟨rfl, rfl⟩
              refine V_ge rfl rfl rfl hc60 ?_
              refine V_y (Y_not rfl) rfl rfl rfl ?_
              refine V_y (Y_pick_fe rfl hc60 rfl) rfl rfl rfl ?_
              exact V_end fun a ha => ⟨(), ha.sub ⟨rfl, rfl, rfl, rfl, rfl, rfl, (by rw [hc60]; rfl), trivial⟩, rfl⟩
          simp only [List.take, List.drop]
          rintro _ _ rfl
          refine V_y (Y_assign rfl) rfl rfl rfl ?_
          refine V_to (fun _ _ => rfl) ?_
          refine C_cond rfl (fun hc63 => ?_) (fun hc63 => ?_)
          · rw [if_pos hc63] at h38
            refine C_seq ?_
            refine C_region ?_
            refine V_y (Y_assign rfl) rfl rfl rfl ?_
            refine V_to (fun _ _ => rfl) ?_
            obtain rfl := Option.some.inj h38
            obtain rfl := (h39 : Lp.rt _ = _)
            rw [Lp.andThen_rt] at hm
            obtain rfl := Option.some.inj hm
            refine C_ret ?_
            try simp only [↓inBlock_ret, ↓then_ret]
            exact retQ rfl (Res.one Try.results58 rfl) ⟨rfl, hK.kp⟩
          · rw [if_neg (nt hc63)] at h38
            refine C_seq ?_
            refine C_region ?_
            have h64 := El_cal_Change_0 h56
            refine V_y (Y_fieldAddr Try.underlying116 rfl Try.sizeOf3 (by decide) rfl) rfl rfl rfl ?_
            refine V_y (Y_load (El.int h64) Try.isAgg3 rfl) rfl rfl rfl ?_
            refine V_y (Y_move rfl) rfl rfl rfl ?_
            refine V_y (Y_leq rfl rfl) rfl rfl rfl ?_
            refine V_y (Y_assign rfl) rfl rfl rfl ?_
            refine V_to (fun _ _ => rfl) ?_
            refine C_cond rfl (fun hc65 => ?_) (fun hc65 => ?_)
            · rw [if_pos hc65] at h38
              refine C_seq ?_
              refine C_region ?_
              refine V_y (Y_assign rfl) rfl rfl rfl ?_
              refine V_to (fun _ _ => rfl) ?_
              obtain rfl := Option.some.inj h38
              obtain rfl := (h39 : Lp.rt _ = _)
              rw [Lp.andThen_rt] at hm
              obtain rfl := Option.some.inj hm
              refine C_ret ?_
              try simp only [↓inBlock_ret, ↓then_ret]
              exact retQ rfl (Res.one Try.results58 rfl) ⟨rfl, hK.kp⟩
            · rw [if_neg (nt hc65)] at h38
              refine C_seq ?_
              refine C_region ?_
              have h66 := El_cal_Change_1 h56
              refine V_y (Y_fieldAddr Try.underlying116 rfl Try.sizeOf3 (by decide) rfl) rfl rfl rfl ?_
              refine V_y (Y_load (El.int h66) Try.isAgg3 rfl) rfl rfl rfl ?_
              refine V_y (Y_move rfl) rfl rfl rfl ?_
              refine V_y (Y_eql rfl rfl) rfl rfl rfl ?_
              refine V_y (Y_assign rfl) rfl rfl rfl ?_
              refine V_to (fun _ _ => rfl) ?_
              refine C_cond rfl (fun hc67 => ?_) (fun hc67 => ?_)
              · rw [if_pos hc67] at h38
                refine C_seq ?_
                refine C_region ?_
                refine V_y (Y_assign rfl) rfl rfl rfl ?_
                refine V_to (fun _ _ => rfl) ?_
                obtain rfl := Option.some.inj h38
                obtain rfl := (h39 : Lp.rt _ = _)
                rw [Lp.andThen_rt] at hm
                obtain rfl := Option.some.inj hm
                refine C_ret ?_
                try simp only [↓inBlock_ret, ↓then_ret]
                exact retQ rfl (Res.one Try.results58 rfl) ⟨rfl, hK.kp⟩
              · rw [if_neg (nt hc67)] at h38
                refine C_skip_to (fun _ _ => rfl) ?_
                refine C_region_q Try_mixed (by kernel_rfl) ?_
                have h68 := El_cal_Change_0 h56
                refine VQ_y (fun w' hw' => Y_fieldAddr Try.underlying116 rfl Try.sizeOf3 (by decide) rfl) rfl rfl rfl ?_
                refine VQ_y (fun w' hw' => Y_load (El.int (El.kp h68 hw')) Try.isAgg3 rfl) rfl rfl rfl ?_
                have h69 := El_cal_Change_1 h56
                refine VQ_y (fun w' hw' => Y_fieldAddr Try.underlying116 rfl Try.sizeOf3 (by decide) rfl) rfl rfl rfl ?_
                refine VQ_y (fun w' hw' => Y_load (El.int (El.kp h69 hw')) Try.isAgg3 rfl) rfl rfl rfl ?_
                refine VQ_y (fun w' hw' => Y_assign rfl) rfl rfl rfl ?_
                refine VQ_y (fun w' hw' => Y_assign rfl) rfl rfl rfl ?_
                refine VQ_to (fun _ _ => rfl) (fun w70 hk71 => ?_)
                have ht72 := Kp.tr hk71 hA hB
                replace hH := Hp.kp hH hk71
                replace h23 := Sl.tr h23 ht72
                replace hK := Tr.trans hK ht72
                replace hr26 := Tr.trans hr26 ht72
                replace hB := Nat.le_trans hB ht72.ex.size
                replace hA := ht72.new
                refine C_region ?_
                refine V_y (Y_addI rfl rfl) rfl rfl rfl ?_
                refine V_y (Y_move rfl) rfl rfl rfl ?_
                obtain rfl := Option.some.inj h38
                refine V_end (fun a ha73 => ?_)
                exact ⟨(x46.at_, x46.offset), hlt41, h39, ⟨A35, ha73.sub ⟨rfl, rfl, rfl, rfl, (congrArg (fun z => some (Value.int .i64 z)) (w64_succ hlt41 hn44)), trivial⟩, ⟨hH, hr26⟩⟩⟩
        · refine C_exit (fun a ha74 => ?_)
          exact ⟨((s33.1, s33.2), A35), ha74.sub trivial, ⟨(h42 (eq_of_dec hle40 hc45)).symm, hH, hr26⟩⟩
      rintro ⟨s25, A31⟩ w28 ⟨rfl, hH32, hk29⟩ a ha30
      rw [Lp.andThen_fin] at hm
      replace hK := Tr.trans hK hk29
      replace hB := Nat.le_trans hB hk29.ex.size
      replace hA := hk29.new
      replace hH : Hp w.heap.size A31 w28 ([]) := hH32
      refine C_at (n := ⟨50, [], none⟩) (fun _ _ => rfl) ?_ ha30
      refine C_seq ?_
      refine C_region ?_
      refine V_y (Y_assign rfl) rfl rfl rfl ?_
      refine V_to (fun _ _ => rfl) ?_
      obtain rfl := Option.some.inj hm
      refine C_ret ?_
      try simp only [↓inBlock_ret, ↓then_ret]
      exact retQ rfl (Res.one Try.results58 rfl) ⟨rfl, hK.kp⟩

set_option maxRecDepth 4000 in
set_option maxHeartbeats 4000000 in
theorem cmp_isNaN_int_c (w : World) (x : Int) : Ret Try.prog 81 #[.int .i64 x] w fun v w' => v = .bool (cmp_isNaN_int x) ∧ w = w' := by
  generalize hm : cmp_isNaN_int x = r
  unfold cmp_isNaN_int at hm
  refine enter Try.func81 rfl Try.ntmps81 rfl ?_
  refine C_seq ?_
  refine C_region ?_
  refine V_y (Y_assign rfl) rfl rfl rfl ?_
  refine V_to (fun _ _ => rfl) ?_
  refine C_seq ?_
  refine C_region ?_
  refine V_y (Y_move rfl) rfl rfl rfl ?_
  refine V_y (Y_move rfl) rfl rfl rfl ?_
  refine V_y (Y_neq rfl rfl) rfl rfl rfl ?_
  refine V_y (Y_assign rfl) rfl rfl rfl ?_
  refine V_to (fun _ _ => rfl) ?_
  obtain rfl := hm
  refine C_ret ?_
  try simp only [↓inBlock_ret, ↓then_ret]
  exact retQ rfl (Res.one Try.results81 rfl) ⟨rfl, rfl⟩

set_option maxRecDepth 4000 in
set_option maxHeartbeats 4000000 in
theorem cmp_Compare_int_c (w : World) (x : Int) (y : Int) : Ret Try.prog 54 #[.int .i64 x, .int .i64 y] w fun v w' => v = .int .i64 (cmp_Compare_int x y) ∧ w = w' := by
  generalize hm : cmp_Compare_int x y = r
  unfold cmp_Compare_int at hm
  refine enter Try.func54 rfl Try.ntmps54 rfl ?_
  refine C_seq ?_
  refine C_region ?_
  refine V_y (Y_assign rfl) rfl rfl rfl ?_
  refine V_to (fun _ _ => rfl) ?_
  refine C_seq ?_
  refine C_region ?_
  refine V_y (Y_move rfl) rfl rfl rfl ?_
  refine V_call Try.call81 rfl rfl rfl rfl (cmp_isNaN_int_c w x) ?_
  rintro _ _ ⟨rfl, rfl⟩
  refine V_y (Y_assign rfl) rfl rfl rfl ?_
  refine V_to (fun _ _ => rfl) ?_
  refine C_seq ?_
  refine C_region ?_
  refine V_y (Y_move rfl) rfl rfl rfl ?_
  refine V_call Try.call81 rfl rfl rfl rfl (cmp_isNaN_int_c w y) ?_
  rintro _ _ ⟨rfl, rfl⟩
  refine V_y (Y_assign rfl) rfl rfl rfl ?_
  refine V_to (fun _ _ => rfl) ?_
  refine C_seq ?_
  refine C_seq ?_
  refine C_region ?_
  refine V_y (Y_move rfl) rfl rfl rfl ?_
  refine V_to (fun _ _ => rfl) ?_
  refine C_cond rfl (fun hc1 => ?_) (fun hc1 => ?_)
  · rw [if_pos hc1] at hm
    refine C_seq ?_
    refine C_seq ?_
    refine C_region ?_
    refine V_y (Y_move rfl) rfl rfl rfl ?_
    refine V_to (fun _ _ => rfl) ?_
    refine C_cond rfl (fun hc2 => ?_) (fun hc2 => ?_)
    · rw [if_pos hc2] at hm
      refine C_seq ?_
      refine C_region ?_
      refine V_y (Y_assign rfl) rfl rfl rfl ?_
      refine V_to (fun _ _ => rfl) ?_
      obtain rfl := hm
      refine C_ret ?_
      try simp only [↓inBlock_ret, ↓then_ret]
      exact retQ rfl (Res.one Try.results54 rfl) ⟨rfl, rfl⟩
    · rw [if_neg (nt hc2)] at hm
      refine C_skip_to (fun _ _ => rfl) ?_
      refine C_seq ?_
      refine C_region ?_
      refine V_y (Y_assign rfl) rfl rfl rfl ?_
      refine V_to (fun _ _ => rfl) ?_
      obtain rfl := hm
      refine C_ret ?_
      try simp only [↓inBlock_ret, ↓then_ret]
      exact retQ rfl (Res.one Try.results54 rfl) ⟨rfl, rfl⟩
  · rw [if_neg (nt hc1)] at hm
    refine C_skip_to (fun _ _ => rfl) ?_
    refine C_seq ?_
    refine C_seq ?_
    refine C_region ?_
    refine V_y (Y_move rfl) rfl rfl rfl ?_
    refine V_to (fun _ _ => rfl) ?_
    refine C_cond rfl (fun hc3 => ?_) (fun hc3 => ?_)
    · rw [if_pos hc3] at hm
      refine C_seq ?_
      refine C_region ?_
      refine V_y (Y_assign rfl) rfl rfl rfl ?_
      refine V_to (fun _ _ => rfl) ?_
      obtain rfl := hm
      refine C_ret ?_
      try simp only [↓inBlock_ret, ↓then_ret]
      exact retQ rfl (Res.one Try.results54 rfl) ⟨rfl, rfl⟩
    · rw [if_neg (nt hc3)] at hm
      refine C_skip_to (fun _ _ => rfl) ?_
      refine C_seq ?_
      refine C_seq ?_
      refine C_region ?_
      refine V_y (Y_move rfl) rfl rfl rfl ?_
      refine V_y (Y_move rfl) rfl rfl rfl ?_
      refine V_y (Y_lss rfl rfl) rfl rfl rfl ?_
      refine V_to (fun _ _ => rfl) ?_
      refine C_cond rfl (fun hc4 => ?_) (fun hc4 => ?_)
      · rw [if_pos hc4] at hm
        refine C_seq ?_
        refine C_region ?_
        refine V_y (Y_assign rfl) rfl rfl rfl ?_
        refine V_to (fun _ _ => rfl) ?_
        obtain rfl := hm
        refine C_ret ?_
        try simp only [↓inBlock_ret, ↓then_ret]
        exact retQ rfl (Res.one Try.results54 rfl) ⟨rfl, rfl⟩
      · rw [if_neg (nt hc4)] at hm
        refine C_skip_to (fun _ _ => rfl) ?_
        refine C_seq ?_
        refine C_seq ?_
        refine C_region ?_
        refine V_y (Y_move rfl) rfl rfl rfl ?_
        refine V_y (Y_move rfl) rfl rfl rfl ?_
        refine V_y (Y_gtr rfl rfl) rfl rfl rfl ?_
        refine V_to (fun _ _ => rfl) ?_
        refine C_cond rfl (fun hc5 => ?_) (fun hc5 => ?_)
        · rw [if_pos hc5] at hm
          refine C_seq ?_
          refine C_region ?_
          refine V_y (Y_assign rfl) rfl rfl rfl ?_
          refine V_to (fun _ _ => rfl) ?_
          obtain rfl := hm
          refine C_ret ?_
          try simp only [↓inBlock_ret, ↓then_ret]
          exact retQ rfl (Res.one Try.results54 rfl) ⟨rfl, rfl⟩
        · rw [if_neg (nt hc5)] at hm
          refine C_skip_to (fun _ _ => rfl) ?_
          refine C_seq ?_
          refine C_region ?_
          refine V_y (Y_assign rfl) rfl rfl rfl ?_
          refine V_to (fun _ _ => rfl) ?_
          obtain rfl := hm
          refine C_ret ?_
          try simp only [↓inBlock_ret, ↓then_ret]
          exact retQ rfl (Res.one Try.results54 rfl) ⟨rfl, rfl⟩

set_option maxRecDepth 4000 in
set_option maxHeartbeats 4000000 in
theorem cmp_Or_int_c (w : World) {A : Nat → Prop} (vals : (List Int)) (v_vals : Value) (h_vals : Sl A w v_vals vals) {r : Int} (hm : cmp_Or_int vals = some r) : Ret Try.prog 53 #[v_vals] w fun v w' => v = .int .i64 r ∧ w = w' := by
  unfold cmp_Or_int at hm
  refine enter Try.func53 rfl Try.ntmps53 rfl ?_
  refine C_seq ?_
  refine C_region ?_
  refine V_y (Y_assign rfl) rfl rfl rfl ?_
  refine V_to (fun _ _ => rfl) ?_
  refine C_seq ?_
  refine C_region ?_
  refine V_y (Y_assign rfl) rfl rfl rfl ?_
  refine V_to (fun _ _ => rfl) ?_
  refine C_seq ?_
  refine C_seq ?_
  refine C_region ?_
  refine V_y (Y_move rfl) rfl rfl rfl ?_
  refine V_y (Y_lenSl h_vals rfl Try.underlying51 rfl) rfl rfl rfl ?_
  refine V_y (Y_move rfl) rfl rfl rfl ?_
  refine V_to (fun _ _ => rfl) ?_
  have hn19 := Sl.le h_vals
  obtain ⟨o3, ho3, hm⟩ := Option.bind_eq_some_iff.1 hm
  refine C_cutG (ι := Unit) (fun (s4 : Unit) => [(3, .int .i64 0)]) (fun (s4 : Unit) => fun w' => o3 = .fin s4 ∧ w = w') ?_ ?_
  · refine C_block ?_
    refine C_range ho3 (fun k6 _ a w' => ∃ i : Unit, Has ⟨18, [], none⟩ a ([(3, .int .i64 0), (6, v_vals), (7, .int .i64 (vals.length : Int)), (8, .int .i64 (k6 : Int))]) ∧ w = w') (fun a ha => ⟨(), ha.sub ⟨rfl, rfl, rfl, rfl, trivial⟩, rfl⟩) ?_
    rintro K k6 _ a _ ⟨_, ha28, rfl⟩ hle15 K18 h17
    refine C_of ?_ ha28
    refine C_seq (C_region (V_y (Y_lss rfl rfl) rfl rfl rfl (V_to (fun _ _ => rfl) ?_)))
    refine C_seq ?_
    refine C_cond rfl (fun hc20 => ?_) (fun hc20 => ?_)
    · have hlt16 := lt_of_dec hc20
      obtain ⟨x12, h13, h14⟩ := K18 hlt16
      refine C_skip_to (fun _ _ => rfl) ?_
      refine C_seq ?_
      refine C_block ?_
      refine C_seq ?_
      refine C_region ?_
      obtain ⟨x21, hx21, h13⟩ := Option.bind_eq_some_iff.1 h13
      refine V_indexAddr h_vals hx21 Try.underlying51 Try.sizeOf3 rfl rfl rfl ?_
      intro b22 o23 h24
      refine V_y (Y_load (El.int h24) Try.isAgg3 rfl) rfl rfl rfl ?_
      refine V_y (Y_assign rfl) rfl rfl rfl ?_
      refine V_to (fun _ _ => rfl) ?_
      refine C_seq ?_
      refine C_region ?_
      refine V_y (Y_move rfl) rfl rfl rfl ?_
      refine V_y (Y_move rfl) rfl rfl rfl ?_
      refine V_y (Y_neq rfl rfl) rfl rfl rfl ?_
      refine V_to (fun _ _ => rfl) ?_
      refine C_cond rfl (fun hc25 => ?_) (fun hc25 => ?_)
      · rw [if_pos hc25] at h13
        refine C_seq ?_
        refine C_region ?_
        refine V_y (Y_move rfl) rfl rfl rfl ?_
        refine V_y (Y_assign rfl) rfl rfl rfl ?_
        refine V_to (fun _ _ => rfl) ?_
        obtain rfl := Option.some.inj h13
        obtain rfl := (h14 : Lp.rt _ = _)
        rw [Lp.andThen_rt] at hm
        obtain rfl := Option.some.inj hm
        refine C_ret ?_
        try simp only [↓inBlock_ret, ↓then_ret]
        exact retQ rfl (Res.one Try.results53 rfl) ⟨rfl, rfl⟩
      · rw [if_neg (nt hc25)] at h13
        refine C_skip_to (fun _ _ => rfl) ?_
        refine C_region ?_
        refine V_y (Y_addI rfl rfl) rfl rfl rfl ?_
        refine V_y (Y_move rfl) rfl rfl rfl ?_
        obtain rfl := Option.some.inj h13
        refine V_end (fun a ha26 => ?_)
        exact ⟨(), hlt16, h14, ⟨(), ha26.sub ⟨rfl, rfl, rfl, (congrArg (fun z => some (Value.int .i64 z)) (w64_succ hlt16 hn19)), trivial⟩, rfl⟩⟩
    · refine C_exit (fun a ha27 => ?_)
      exact ⟨(), ha27.sub ⟨rfl, trivial⟩, ⟨(h17 (eq_of_dec hle15 hc20)).symm, rfl⟩⟩
  rintro s4 _ ⟨rfl, rfl⟩ a ha9
  rw [Lp.andThen_fin] at hm
  refine C_at (n := ⟨18, [], none⟩) (fun _ _ => rfl) ?_ ha9
  refine C_seq ?_
  refine C_region ?_
  refine V_y (Y_move rfl) rfl rfl rfl ?_
  refine V_y (Y_assign rfl) rfl rfl rfl ?_
  refine V_to (fun _ _ => rfl) ?_
  obtain rfl := Option.some.inj hm
  refine C_ret ?_
  try simp only [↓inBlock_ret, ↓then_ret]
  exact retQ rfl (Res.one Try.results53 rfl) ⟨rfl, rfl⟩

set_option maxRecDepth 4000 in
set_option maxHeartbeats 4000000 in
theorem cal_after_c (w : World) {A : Nat → Prop} (hA : ∀ b, w.heap.size ≤ b → A b) (a_ : cal_Shift) (b : cal_Shift) {r : Bool} (hm : cal_after a_ b = some r) : Ret Try.prog 83 #[.agg #[.int .i64 a_.day, .int .i64 a_.from_, .int .i64 a_.to_], .agg #[.int .i64 b.day, .int .i64 b.from_, .int .i64 b.to_]] w fun v w' => v = .bool r ∧ Kp w w' := by
  unfold cal_after at hm
  refine enter Try.func83 rfl Try.ntmps83 rfl ?_
  have hA0 := hA
  have hB := Nat.le_refl w.heap.size
  have hK : Tr w.heap.size A w A w := Tr.refl hA
  have hH : Hp w.heap.size A w [] := Hp.nil
  refine C_seq ?_
  refine C_region ?_
  refine V_box rfl rfl ?_
  intro b1 w2 h3
  have hk5 := h3.kp
  have h4 : El (α := cal_Shift) A w2 b1 0 a_ := h3.el hA ⟨[.int .i64 a_.day], _, rfl, rfl, ⟨[.int .i64 a_.from_], _, rfl, rfl, rfl⟩⟩
  have ht6 := Kp.tr hk5 hA hB
  replace hH := Hp.kp hH hk5
  replace hK := Tr.trans hK ht6
  replace hB := Nat.le_trans hB ht6.ex.size
  replace hA := ht6.new
  refine V_box rfl rfl ?_
  intro b7 w9 h10
  have hk12 := h10.kp
  have h11 : El (α := cal_Shift) A w9 b7 0 b := h10.el hA ⟨[.int .i64 b.day], _, rfl, rfl, ⟨[.int .i64 b.from_], _, rfl, rfl, rfl⟩⟩
  have ht13 := Kp.tr hk12 hA hB
  replace hH := Hp.kp hH hk12
  replace h4 := El.tr h4 ht13
  replace hK := Tr.trans hK ht13
  replace hB := Nat.le_trans hB ht13.ex.size
  replace hA := ht13.new
  refine V_y (Y_assign rfl) rfl rfl rfl ?_
  refine V_to (fun _ _ => rfl) ?_
  refine C_seq ?_
  refine C_region_qt 15 Try_mixed (by kernel_rfl) ?_
  simp only [List.take, List.drop]
  have h14 := El_cal_Shift_0 h4
  refine VQ_y (fun w' hw' => Y_fieldAddr Try.underlying110 rfl Try.sizeOf3 (by decide) rfl) rfl rfl rfl ?_
  refine VQ_y (fun w' hw' => Y_load (El.int (El.kp h14 hw')) Try.isAgg3 rfl) rfl rfl rfl ?_
  have h15 := El_cal_Shift_0 h11
  refine VQ_y (fun w' hw' => Y_fieldAddr Try.underlying110 rfl Try.sizeOf3 (by decide) rfl) rfl rfl rfl ?_
  refine VQ_y (fun w' hw' => Y_load (El.int (El.kp h15 hw')) Try.isAgg3 rfl) rfl rfl rfl ?_
  refine VQ_call (.int .i64 (cmp_Compare_int a_.day b.day)) Try.call54 rfl rfl rfl rfl (fun w' hw' => (cmp_Compare_int_c w' a_.day b.day).mono (fun _ _ h => ⟨h.1, h.2 ▸ hw'⟩)) ?_
  have h16 := El_cal_Shift_1 h4
  refine VQ_y (fun w' hw' => Y_fieldAddr Try.underlying110 rfl Try.sizeOf3 (by decide) rfl) rfl rfl rfl ?_
  refine VQ_y (fun w' hw' => Y_load (El.int (El.kp h16 hw')) Try.isAgg3 rfl) rfl rfl rfl ?_
  have h17 := El_cal_Shift_1 h11
  refine VQ_y (fun w' hw' => Y_fieldAddr Try.underlying110 rfl Try.sizeOf3 (by decide) rfl) rfl rfl rfl ?_
  refine VQ_y (fun w' hw' => Y_load (El.int (El.kp h17 hw')) Try.isAgg3 rfl) rfl rfl rfl ?_
  refine VQ_call (.int .i64 (cmp_Compare_int a_.from_ b.from_)) Try.call54 rfl rfl rfl rfl (fun w' hw' => (cmp_Compare_int_c w' a_.from_ b.from_).mono (fun _ _ h => ⟨h.1, h.2 ▸ hw'⟩)) ?_
  have h18 := El_cal_Shift_2 h4
  refine VQ_y (fun w' hw' => Y_fieldAddr Try.underlying110 rfl Try.sizeOf3 (by decide) rfl) rfl rfl rfl ?_
  refine VQ_y (fun w' hw' => Y_load (El.int (El.kp h18 hw')) Try.isAgg3 rfl) rfl rfl rfl ?_
  have h19 := El_cal_Shift_2 h11
  refine VQ_y (fun w' hw' => Y_fieldAddr Try.underlying110 rfl Try.sizeOf3 (by decide) rfl) rfl rfl rfl ?_
  refine VQ_y (fun w' hw' => Y_load (El.int (El.kp h19 hw')) Try.isAgg3 rfl) rfl rfl rfl ?_
  refine VQ_call (.int .i64 (cmp_Compare_int a_.to_ b.to_)) Try.call54 rfl rfl rfl rfl (fun w' hw' => (cmp_Compare_int_c w' a_.to_ b.to_).mono (fun _ _ h => ⟨h.1, h.2 ▸ hw'⟩)) ?_
  refine VQ_tail (fun w20 hk21 => ?_)
  try simp only [List.take, List.drop]
  have ht22 := Kp.tr hk21 hA hB
  replace hH := Hp.kp hH hk21
  replace h4 := El.tr h4 ht22
  replace h11 := El.tr h11 ht22
  replace h14 := El.tr h14 ht22
  replace h15 := El.tr h15 ht22
  replace h16 := El.tr h16 ht22
  replace h17 := El.tr h17 ht22
  replace h18 := El.tr h18 ht22
  replace h19 := El.tr h19 ht22
  replace hK := Tr.trans hK ht22
  replace hB := Nat.le_trans hB ht22.ex.size
  replace hA := ht22.new
  refine V_buildSlice (l := ([(cmp_Compare_int a_.day b.day), (cmp_Compare_int a_.from_ b.from_), (cmp_Compare_int a_.to_ b.to_)] : List Int)) (len := 3) Try.underlying51 Try.sizeOf3 Try.zeroValue3 rfl (by with_unfolding_all rfl) (by decide) (by decide) hA ⟨[.int .i64 (cmp_Compare_int a_.day b.day)], _, rfl, rfl, ⟨[.int .i64 (cmp_Compare_int a_.from_ b.from_)], _, rfl, rfl, ⟨[.int .i64 (cmp_Compare_int a_.to_ b.to_)], _, rfl, rfl, rfl⟩⟩⟩ rfl rfl ?_
  intro v23 w24 hk26 h25
  have ht27 := Kp.tr hk26 hA hB
  replace hH := Hp.kp hH hk26
  replace h4 := El.tr h4 ht27
  replace h11 := El.tr h11 ht27
  replace h14 := El.tr h14 ht27
  replace h15 := El.tr h15 ht27
  replace h16 := El.tr h16 ht27
  replace h17 := El.tr h17 ht27
  replace h18 := El.tr h18 ht27
  replace h19 := El.tr h19 ht27
  replace hK := Tr.trans hK ht27
  replace hB := Nat.le_trans hB ht27.ex.size
  replace hA := ht27.new
  obtain ⟨x28, hx28, hm⟩ := Option.bind_eq_some_iff.1 hm
  refine V_call Try.call53 rfl rfl rfl rfl (cmp_Or_int_c w24 ([(cmp_Compare_int a_.day b.day), (cmp_Compare_int a_.from_ b.from_), (cmp_Compare_int a_.to_ b.to_)] : List Int) v23 h25 hx28) ?_
  rintro _ _ ⟨rfl, rfl⟩
  refine V_y (Y_gtr rfl rfl) rfl rfl rfl ?_
  refine V_y (Y_assign rfl) rfl rfl rfl ?_
  refine V_to (fun _ _ => rfl) ?_
  obtain rfl := Option.some.inj hm
  refine C_ret ?_
  try simp only [↓inBlock_ret, ↓then_ret]
  exact retQ rfl (Res.one Try.results83 rfl) ⟨rfl, hK.kp⟩

set_option maxRecDepth 4000 in
set_option maxHeartbeats 4000000 in
theorem cal_checkShifts_c (w : World) {A : Nat → Prop} (hA : ∀ b, w.heap.size ≤ b → A b) (l : (List cal_Shift)) (v_l : Value) (h_l : Sl A w v_l l) (dated : Bool) {r : Int} (hm : cal_checkShifts l dated = some r) : Ret Try.prog 59 #[v_l, .bool dated] w fun v w' => v = .int .i64 r ∧ Kp w w' := by
  unfold cal_checkShifts at hm
  refine enter Try.func59 rfl Try.ntmps59 rfl ?_
  have hA0 := hA
  have hB := Nat.le_refl w.heap.size
  have hK : Tr w.heap.size A w A w := Tr.refl hA
  have hH : Hp w.heap.size A w [] := Hp.nil
  refine C_seq ?_
  refine C_region ?_
  refine V_y (Y_assign rfl) rfl rfl rfl ?_
  refine V_to (fun _ _ => rfl) ?_
  refine C_seq ?_
  refine C_seq ?_
  refine C_region ?_
  refine V_y (Y_move rfl) rfl rfl rfl ?_
  refine V_y (Y_lenSl h_l rfl Try.underlying25 rfl) rfl rfl rfl ?_
  refine V_y (Y_move rfl) rfl rfl rfl ?_
  refine V_to (fun _ _ => rfl) ?_
  have hn23 := Sl.le h_l
  obtain ⟨o3, ho3, hm⟩ := Option.bind_eq_some_iff.1 hm
  refine C_cutG (ι := (Unit × (Nat → Prop))) (fun ⟨s4, A10⟩ => []) (fun ⟨s4, A10⟩ => fun w' => o3 = .fin s4 ∧ Hp w.heap.size A10 w' ([]) ∧ Tr w.heap.size A w A10 w') ?_ ?_
  · refine C_block ?_
    refine C_range ho3 (fun k6 _ a w' => ∃ i : (Nat → Prop), Has ⟨58, [], none⟩ a ([(0, v_l), (1, .bool dated), (7, v_l), (8, .int .i64 (l.length : Int)), (9, .int .i64 (k6 : Int))]) ∧ Hp w.heap.size i w' ([]) ∧ Tr w.heap.size A w i w') (fun a ha => ⟨A, ha.sub ⟨rfl, rfl, rfl, rfl, rfl, trivial⟩, ⟨hH, Tr.refl hA⟩⟩) ?_
    rintro K k6 _ a w13 ⟨A14, ha71, hH15, hr5⟩ hle19 K22 h21
    refine C_of ?_ ha71
    replace h_l := Sl.tr h_l hr5
    replace hK := Tr.trans hK hr5
    replace hB := Nat.le_trans hB hr5.ex.size
    replace hA := hr5.new
    replace hH : Hp w.heap.size A14 w13 ([]) := hH15
    refine C_seq (C_region (V_y (Y_lss rfl rfl) rfl rfl rfl (V_to (fun _ _ => rfl) ?_)))
    refine C_seq ?_
    refine C_cond rfl (fun hc24 => ?_) (fun hc24 => ?_)
    · have hlt20 := lt_of_dec hc24
      obtain ⟨x16, h17, h18⟩ := K22 hlt20
      refine C_skip_to (fun _ _ => rfl) ?_
      refine C_seq ?_
      refine C_block ?_
      refine C_seq ?_
      refine C_region ?_
      refine V_y (Y_move rfl) rfl rfl rfl ?_
      obtain ⟨x25, hx25, h17⟩ := Option.bind_eq_some_iff.1 h17
      refine V_indexAddr h_l hx25 Try.underlying25 Try.sizeOf110 rfl rfl rfl ?_
      intro b26 o27 h28
      obtain ⟨h29, _⟩ := El_cal_Shift h28
      refine V_y (Y_loadA h29 Try.isAgg110 Try.sizeOf110 rfl) rfl rfl rfl ?_
      refine V_alloc Try.zeroValue110 rfl ?_
      intro b30 w31 h32
      refine V_y (Y_assign rfl) rfl rfl rfl ?_
      refine V_storeNew h32 Try.sizeOf110 rfl rfl rfl rfl (by exact (List.forall_mem_cons.2 ⟨rfl, (List.forall_mem_cons.2 ⟨rfl, (List.forall_mem_cons.2 ⟨rfl, (fun _ h => nomatch h)⟩)⟩)⟩)) ?_
      intro w33 h34
      have hk36 := h34.kp
      have h35 : El (α := cal_Shift) A14 w33 b30 0 x25 := h34.el hA ⟨[.int .i64 x25.day], _, rfl, rfl, ⟨[.int .i64 x25.from_], _, rfl, rfl, rfl⟩⟩
      have ht37 := Kp.tr hk36 hA hB
      replace hH := Hp.kp hH hk36
      replace h_l := Sl.tr h_l ht37
      replace h28 := El.tr h28 ht37
      replace hK := Tr.trans hK ht37
      replace hr5 := Tr.trans hr5 ht37
      replace hB := Nat.le_trans hB ht37.ex.size
      replace hA := ht37.new
      refine V_to (fun _ _ => rfl) ?_
      refine C_seq ?_
      refine C_seq ?_
      refine C_region ?_
      refine V_y (Y_move rfl) rfl rfl rfl ?_
      refine V_y (Y_move rfl) rfl rfl rfl ?_
      refine V_cut 4 (fun _ : Unit => [(0, v_l), (1, .bool dated), (5, .int .i64 (k6 : Int)), (6, .pointer (some ⟨b30, 0, none⟩)), (7, v_l), (8, .int .i64 (l.length : Int)), (9, .int .i64 (k6 : Int)), (19, .bool (dated && (x25.day != 0)))]) (fun _ w' => w33 = w') ?_ ?_
      · simp only [List.take, List.drop]
        rcases Bool.eq_false_or_eq_true (dated) with hc38 | hc38
        · refine V_ge rfl rfl rfl hc38 ?_
          have h40 := El_cal_Shift_0 h35
          refine V_y (Y_fieldAddr Try.underlying110 rfl Try.sizeOf3 (by decide) rfl) rfl rfl rfl ?_
          refine V_ge rfl rfl rfl hc38 ?_
          refine V_y (Y_load (El.int h40) Try.isAgg3 rfl) rfl rfl rfl ?_
          refine V_ge rfl rfl rfl hc38 ?_
          refine V_y (Y_neq rfl rfl) rfl rfl rfl ?_
          refine V_y (Y_pick_te rfl hc38 rfl) rfl rfl rfl ?_
          exact V_end fun a ha => ⟨(), ha.sub ⟨rfl, rfl, rfl, rfl, rfl, rfl, rfl, (by rw [hc38]; rfl), trivial⟩, rfl⟩
        · refine V_gn rfl rfl rfl hc38 rfl rfl rfl ?_
          refine V_gn rfl rfl rfl hc38 rfl rfl rfl ?_
          refine V_gn rfl rfl rfl hc38 rfl rfl rfl ?_
          refine V_y (Y_pick_fe rfl hc38 rfl) rfl rfl rfl ?_
          exact V_end fun a ha => ⟨(), ha.sub ⟨rfl, rfl, rfl, rfl, rfl, rfl, rfl, (by rw [hc38]; rfl), trivial⟩, rfl⟩
      simp only [List.take, List.drop]
      rintro _ _ rfl
      refine V_to (fun _ _ => rfl) ?_
      refine C_cond rfl (fun hc41 => ?_) (fun hc41 => ?_)
      · rw [if_pos hc41] at h17
        refine C_seq ?_
        refine C_region ?_
        refine V_y (Y_assign rfl) rfl rfl rfl ?_
        refine V_to (fun _ _ => rfl) ?_
        obtain rfl := Option.some.inj h17
        obtain rfl := (h18 : Lp.rt _ = _)
        rw [Lp.andThen_rt] at hm
        obtain rfl := Option.some.inj hm
        refine C_ret ?_
        try simp only [↓inBlock_ret, ↓then_ret]
        exact retQ rfl (Res.one Try.results59 rfl) ⟨rfl, hK.kp⟩
      · rw [if_neg (nt hc41)] at h17
        refine C_skip_to (fun _ _ => rfl) ?_
        refine C_seq ?_
        refine C_seq ?_
        refine C_region ?_
        have h42 := El_cal_Shift_0 h35
        refine V_y (Y_fieldAddr Try.underlying110 rfl Try.sizeOf3 (by decide) rfl) rfl rfl rfl ?_
        refine V_y (Y_load (El.int h42) Try.isAgg3 rfl) rfl rfl rfl ?_
        refine V_call Try.call60 rfl rfl rfl rfl (cal_within_c w33 x25.day 0 6) ?_
        rintro _ _ ⟨rfl, rfl⟩
        refine V_y (Y_not rfl) rfl rfl rfl ?_
        refine V_y (Y_move rfl) rfl rfl rfl ?_
        refine V_cut 5 (fun _ : Unit => [(0, v_l), (1, .bool dated), (5, .int .i64 (k6 : Int)), (6, .pointer (some ⟨b30, 0, none⟩)), (7, v_l), (8, .int .i64 (l.length : Int)), (9, .int .i64 (k6 : Int)), (29, .bool ((!(cal_within x25.day 0 6)) || (!(cal_within x25.from_ 0 1439))))]) (fun _ w' => w33 = w') ?_ ?_
        · simp only [List.take, List.drop]
          rcases Bool.eq_false_or_eq_true (!(cal_within x25.day 0 6)) with hc43 | hc43
          · refine V_gn rfl rfl rfl hc43 rfl rfl rfl ?_
            refine V_gn rfl rfl rfl hc43 rfl rfl rfl ?_
            refine V_gn rfl rfl rfl hc43 rfl rfl rfl ?_
            refine V_gn rfl rfl rfl hc43 rfl rfl rfl ?_
            refine V_y (Y_pick_te rfl hc43 rfl) rfl rfl rfl ?_
            exact V_end fun a ha => ⟨(), ha.sub ⟨rfl, rfl, rfl, rfl, rfl, rfl, rfl, (by rw [hc43]; rfl), trivial⟩, rfl⟩
          · refine V_ge rfl rfl rfl hc43 ?_
            have h45 := El_cal_Shift_1 h35
            refine V_y (Y_fieldAddr Try.underlying110 rfl Try.sizeOf3 (by decide) rfl) rfl rfl rfl ?_
            refine V_ge rfl rfl rfl hc43 ?_
            refine V_y (Y_load (El.int h45) Try.isAgg3 rfl) rfl rfl rfl ?_
            refine V_ge rfl rfl rfl hc43 ?_
            refine V_call Try.call60 rfl rfl rfl rfl (cal_within_c w33 x25.from_ 0 1439) ?_
            rintro _ _ ⟨rfl, rfl⟩
            refine V_ge rfl rfl rfl hc43 ?_
            refine V_y (Y_not rfl) rfl rfl rfl ?_
            refine V_y (Y_pick_fe rfl hc43 rfl) rfl rfl rfl ?_
            exact V_end fun a ha => ⟨(), ha.sub ⟨rfl, rfl, rfl, rfl, rfl, rfl, rfl, (by rw [hc43]; rfl), trivial⟩, rfl⟩
        simp only [List.take, List.drop]
        rintro _ _ rfl
        refine V_y (Y_move rfl) rfl rfl rfl ?_
        refine V_cut 6 (fun _ : Unit => [(0, v_l), (1, .bool dated), (5, .int .i64 (k6 : Int)), (6, .pointer (some ⟨b30, 0, none⟩)), (7, v_l), (8, .int .i64 (l.length : Int)), (9, .int .i64 (k6 : Int)), (36, .bool (((!(cal_within x25.day 0 6)) || (!(cal_within x25.from_ 0 1439))) || (decide (x25.to_ ≤ x25.from_))))]) (fun _ w' => w33 = w') ?_ ?_
        · simp only [List.take, List.drop]
          rcases Bool.eq_false_or_eq_true (((!(cal_within x25.day 0 6)) || (!(cal_within x25.from_ 0 1439)))) with hc46 | hc46
          · refine V_gn rfl rfl rfl hc46 rfl rfl rfl ?_
            refine V_gn rfl rfl rfl hc46 rfl rfl rfl ?_
            refine V_gn rfl rfl rfl hc46 rfl rfl rfl ?_
            refine V_gn rfl rfl rfl hc46 rfl rfl rfl ?_
            refine V_gn rfl rfl rfl hc46 rfl rfl rfl ?_
            refine V_y (Y_pick_te rfl hc46 rfl) rfl rfl rfl ?_
            exact V_end fun a ha => ⟨(), ha.sub ⟨rfl, rfl, rfl, rfl, rfl, rfl, rfl, (by rw [hc46]; rfl), trivial⟩, rfl⟩
          · refine V_ge rfl rfl rfl hc46 ?_
            have h48 := El_cal_Shift_2 h35
            refine V_y (Y_fieldAddr Try.underlying110 rfl Try.sizeOf3 (by decide) rfl) rfl rfl rfl ?_
            refine V_ge rfl rfl rfl hc46 ?_
            refine V_y (Y_load (El.int h48) Try.isAgg3 rfl) rfl rfl rfl ?_
            refine V_ge rfl rfl rfl hc46 ?_
            have h49 := El_cal_Shift_1 h35
            refine V_y (Y_fieldAddr Try.underlying110 rfl Try.sizeOf3 (by decide) rfl) rfl rfl rfl ?_
            refine V_ge rfl rfl rfl hc46 ?_
            refine V_y (Y_load (El.int h49) Try.isAgg3 rfl) rfl rfl rfl ?_
            refine V_ge rfl rfl rfl hc46 ?_
            refine V_y (Y_leq rfl rfl) rfl rfl rfl ?_
            refine V_y (Y_pick_fe rfl hc46 rfl) rfl rfl rfl ?_
            exact V_end fun a ha => ⟨(), ha.sub ⟨rfl, rfl, rfl, rfl, rfl, rfl, rfl, (by rw [hc46]; rfl), trivial⟩, rfl⟩
        simp only [List.take, List.drop]
        rintro _ _ rfl
        refine V_y (Y_move rfl) rfl rfl rfl ?_
        refine V_cut 7 (fun _ : Unit => [(0, v_l), (1, .bool dated), (5, .int .i64 (k6 : Int)), (6, .pointer (some ⟨b30, 0, none⟩)), (7, v_l), (8, .int .i64 (l.length : Int)), (9, .int .i64 (k6 : Int)), (44, .bool ((((!(cal_within x25.day 0 6)) || (!(cal_within x25.from_ 0 1439))) || (decide (x25.to_ ≤ x25.from_))) || (decide ((w64 (x25.from_ + 1440)) < x25.to_))))]) (fun _ w' => w33 = w') ?_ ?_
        · simp only [List.take, List.drop]
          rcases Bool.eq_false_or_eq_true ((((!(cal_within x25.day 0 6)) || (!(cal_within x25.from_ 0 1439))) || (decide (x25.to_ ≤ x25.from_)))) with hc50 | hc50
          · refine V_gn rfl rfl rfl hc50 rfl rfl rfl ?_
            refine V_gn rfl rfl rfl hc50 rfl rfl rfl ?_
            refine V_gn rfl rfl rfl hc50 rfl rfl rfl ?_
            refine V_gn rfl rfl rfl hc50 rfl rfl rfl ?_
            refine V_gn rfl rfl rfl hc50 rfl rfl rfl ?_
            refine V_gn rfl rfl rfl hc50 rfl rfl rfl ?_
            refine V_y (Y_pick_te rfl hc50 rfl) rfl rfl rfl ?_
            exact V_end fun a ha => ⟨(), ha.sub ⟨rfl, rfl, rfl, rfl, rfl, rfl, rfl, (by rw [hc50]; rfl), trivial⟩, rfl⟩
          · refine V_ge rfl rfl rfl hc50 ?_
            have h52 := El_cal_Shift_2 h35
            refine V_y (Y_fieldAddr Try.underlying110 rfl Try.sizeOf3 (by decide) rfl) rfl rfl rfl ?_
            refine V_ge rfl rfl rfl hc50 ?_
            refine V_y (Y_load (El.int h52) Try.isAgg3 rfl) rfl rfl rfl ?_
            refine V_ge rfl rfl rfl hc50 ?_
            have h53 := El_cal_Shift_1 h35
            refine V_y (Y_fieldAddr Try.underlying110 rfl Try.sizeOf3 (by decide) rfl) rfl rfl rfl ?_
            refine V_ge rfl rfl rfl hc50 ?_
            refine V_y (Y_load (El.int h53) Try.isAgg3 rfl) rfl rfl rfl ?_
            refine V_ge rfl rfl rfl hc50 ?_
            refine V_y (Y_addI rfl rfl) rfl rfl rfl ?_
            refine V_ge rfl rfl rfl hc50 ?_
            refine V_y (Y_gtr rfl rfl) rfl rfl rfl ?_
            refine V_y (Y_pick_fe rfl hc50 rfl) rfl rfl rfl ?_
            exact V_end fun a ha => ⟨(), ha.sub ⟨rfl, rfl, rfl, rfl, rfl, rfl, rfl, (by rw [hc50]; rfl), trivial⟩, rfl⟩
        simp only [List.take, List.drop]
        rintro _ _ rfl
        refine V_to (fun _ _ => rfl) ?_
        refine C_cond rfl (fun hc54 => ?_) (fun hc54 => ?_)
        · rw [if_pos hc54] at h17
          refine C_seq ?_
          refine C_region ?_
          refine V_y (Y_assign rfl) rfl rfl rfl ?_
          refine V_to (fun _ _ => rfl) ?_
          obtain rfl := Option.some.inj h17
          obtain rfl := (h18 : Lp.rt _ = _)
          rw [Lp.andThen_rt] at hm
          obtain rfl := Option.some.inj hm
          refine C_ret ?_
          try simp only [↓inBlock_ret, ↓then_ret]
          exact retQ rfl (Res.one Try.results59 rfl) ⟨rfl, hK.kp⟩
        · rw [if_neg (nt hc54)] at h17
          refine C_skip_to (fun _ _ => rfl) ?_
          refine C_seq ?_
          refine C_region_q Try_mixed (by kernel_rfl) ?_
          refine VQ_y (fun w' hw' => Y_move rfl) rfl rfl rfl ?_
          refine VQ_y (fun w' hw' => Y_gtr rfl rfl) rfl rfl rfl ?_
          refine VQ_y (fun w' hw' => Y_move rfl) rfl rfl rfl ?_
          obtain ⟨s56, hs56, h17⟩ := Option.bind_eq_some_iff.1 h17
          refine VQ_cut 9 (fun _ : Unit => [(0, v_l), (1, .bool dated), (7, v_l), (8, .int .i64 (l.length : Int)), (9, .int .i64 (k6 : Int)), (56, .bool s56)]) (fun _ => True) ?_ ?_
          · simp only [List.take, List.drop]
            rcases Bool.eq_false_or_eq_true (decide ((0 : Int) < (k6 : Int))) with hc55 | hc55
            · rw [if_pos hc55] at hs56
              refine VQ_ge rfl rfl rfl hc55 ?_
              obtain ⟨h57, _⟩ := El_cal_Shift h35
              refine VQ_y (fun w' hw' => Y_loadA (At.kp h57 hw' h35.2.1) Try.isAgg110 Try.sizeOf110 rfl) rfl rfl rfl ?_
              refine VQ_ge rfl rfl rfl hc55 ?_
              refine VQ_y (fun w' hw' => Y_move rfl) rfl rfl rfl ?_
              refine VQ_ge rfl rfl rfl hc55 ?_
              refine VQ_y (fun w' hw' => Y_move rfl) rfl rfl rfl ?_
              refine VQ_ge rfl rfl rfl hc55 ?_
              refine VQ_y (fun w' hw' => Y_subI rfl rfl) rfl rfl rfl ?_
              refine VQ_ge rfl rfl rfl hc55 ?_
              obtain ⟨x58, hx58, hs56⟩ := Option.bind_eq_some_iff.1 hs56
              refine VQ_indexAddr h_l hx58 Try.underlying25 Try.sizeOf110 rfl rfl rfl ?_
              intro b59 o60 h61
              refine VQ_ge rfl rfl rfl hc55 ?_
              obtain ⟨h62, _⟩ := El_cal_Shift h61
              refine VQ_y (fun w' hw' => Y_loadA (At.kp h62 hw' h61.2.1) Try.isAgg110 Try.sizeOf110 rfl) rfl rfl rfl ?_
              refine VQ_ge rfl rfl rfl hc55 ?_
              obtain ⟨x63, hx63, hs56⟩ := Option.bind_eq_some_iff.1 hs56
              refine VQ_call (.bool x63) Try.call83 rfl rfl rfl rfl (fun w' hw' => (cal_after_c w' (fun b hb => hA b (Nat.le_trans hw'.size hb)) x25 x58 hx63).mono (fun _ _ h => ⟨h.1, Kp.trans hw' h.2⟩)) ?_
              refine VQ_ge rfl rfl rfl hc55 ?_
              refine VQ_y (fun w' hw' => Y_not rfl) rfl rfl rfl ?_
              refine VQ_y (fun _ _ => Y_pick_te rfl hc55 rfl) rfl rfl rfl ?_
              obtain rfl := Option.some.inj hs56
              exact VQ_end fun a ha => ⟨(), ha.sub ⟨rfl, rfl, rfl, rfl, rfl, rfl, trivial⟩, trivial⟩
            · rw [if_neg (nt hc55)] at hs56
              refine VQ_gn rfl rfl rfl hc55 rfl rfl rfl ?_
              refine VQ_gn rfl rfl rfl hc55 rfl rfl rfl ?_
              refine VQ_gn rfl rfl rfl hc55 rfl rfl rfl ?_
              refine VQ_gn rfl rfl rfl hc55 rfl rfl rfl ?_
              refine VQ_gn rfl rfl rfl hc55 rfl rfl rfl ?_
              refine VQ_gn rfl rfl rfl hc55 rfl rfl rfl ?_
              refine VQ_gn rfl rfl rfl hc55 rfl rfl rfl ?_
              refine VQ_gn rfl rfl rfl hc55 rfl rfl rfl ?_
              refine VQ_y (fun _ _ => Y_pick_fe rfl hc55 rfl) rfl rfl rfl ?_
              obtain rfl := Option.some.inj hs56
              exact VQ_end fun a ha => ⟨(), ha.sub ⟨rfl, rfl, rfl, rfl, rfl, rfl, trivial⟩, trivial⟩
          simp only [List.take, List.drop]
          rintro _ _
          refine VQ_to (fun _ _ => rfl) (fun w65 hk66 => ?_)
          have ht67 := Kp.tr hk66 hA hB
          replace hH := Hp.kp hH hk66
          replace h_l := Sl.tr h_l ht67
          replace hK := Tr.trans hK ht67
          replace hr5 := Tr.trans hr5 ht67
          replace hB := Nat.le_trans hB ht67.ex.size
          replace hA := ht67.new
          refine C_cond rfl (fun hc68 => ?_) (fun hc68 => ?_)
          · rw [if_pos hc68] at h17
            refine C_seq ?_
            refine C_region ?_
            refine V_y (Y_assign rfl) rfl rfl rfl ?_
            refine V_to (fun _ _ => rfl) ?_
            obtain rfl := Option.some.inj h17
            obtain rfl := (h18 : Lp.rt _ = _)
            rw [Lp.andThen_rt] at hm
            obtain rfl := Option.some.inj hm
            refine C_ret ?_
            try simp only [↓inBlock_ret, ↓then_ret]
            exact retQ rfl (Res.one Try.results59 rfl) ⟨rfl, hK.kp⟩
          · rw [if_neg (nt hc68)] at h17
            refine C_skip_to (fun _ _ => rfl) ?_
            refine C_region ?_
            refine V_y (Y_addI rfl rfl) rfl rfl rfl ?_
            refine V_y (Y_move rfl) rfl rfl rfl ?_
            obtain rfl := Option.some.inj h17
            refine V_end (fun a ha69 => ?_)
            exact ⟨(), hlt20, h18, ⟨A14, ha69.sub ⟨rfl, rfl, rfl, rfl, (congrArg (fun z => some (Value.int .i64 z)) (w64_succ hlt20 hn23)), trivial⟩, ⟨hH, hr5⟩⟩⟩
    · refine C_exit (fun a ha70 => ?_)
      exact ⟨((), A14), ha70.sub trivial, ⟨(h21 (eq_of_dec hle19 hc24)).symm, hH, hr5⟩⟩
  rintro ⟨s4, A10⟩ w7 ⟨rfl, hH11, hk8⟩ a ha9
  rw [Lp.andThen_fin] at hm
  replace hK := Tr.trans hK hk8
  replace hB := Nat.le_trans hB hk8.ex.size
  replace hA := hk8.new
  replace hH : Hp w.heap.size A10 w7 ([]) := hH11
  refine C_at (n := ⟨58, [], none⟩) (fun _ _ => rfl) ?_ ha9
  refine C_seq ?_
  refine C_region ?_
  refine V_y (Y_assign rfl) rfl rfl rfl ?_
  refine V_to (fun _ _ => rfl) ?_
  obtain rfl := Option.some.inj hm
  refine C_ret ?_
  try simp only [↓inBlock_ret, ↓then_ret]
  exact retQ rfl (Res.one Try.results59 rfl) ⟨rfl, hK.kp⟩

set_option maxRecDepth 4000 in
set_option maxHeartbeats 4000000 in
theorem cal_CheckCalendar_c (w : World) {A : Nat → Prop} (hA : ∀ b, w.heap.size ≤ b → A b) (c : cal_Calendar) (v_c0 : Value) (h_c0 : Sl A w v_c0 c.zone.changes) (v_c1 : Value) (h_c1 : Sl A w v_c1 c.week) (v_c2 : Value) (h_c2 : Sl A w v_c2 c.specials) {r : Int} (hm : cal_CheckCalendar c = some r) : Ret Try.prog 29 #[.agg #[.int .i64 c.zone.offset, v_c0, v_c1, v_c2]] w fun v w' => v = .int .i64 r ∧ Kp w w' := by
  unfold cal_CheckCalendar at hm
  refine enter Try.func29 rfl Try.ntmps29 rfl ?_
  have hA0 := hA
  have hB := Nat.le_refl w.heap.size
  have hK : Tr w.heap.size A w A w := Tr.refl hA
  have hH : Hp w.heap.size A w [] := Hp.nil
  refine C_seq ?_
  refine C_region ?_
  refine V_box rfl rfl ?_
  intro b7 w9 h10
  have hk12 := h10.kp
  have h11 : El (α := cal_Calendar) A w9 b7 0 c := h10.el hA ⟨[.int .i64 c.zone.offset, v_c0], _, rfl, ⟨[.int .i64 c.zone.offset], _, rfl, rfl, ⟨_, rfl, h_c0⟩⟩, ⟨[v_c1], _, rfl, ⟨_, rfl, h_c1⟩, ⟨_, rfl, h_c2⟩⟩⟩
  have ht13 := Kp.tr hk12 hA hB
  replace hH := Hp.kp hH hk12
  replace h_c0 := Sl.tr h_c0 ht13
  replace h_c1 := Sl.tr h_c1 ht13
  replace h_c2 := Sl.tr h_c2 ht13
  replace hK := Tr.trans hK ht13
  replace hB := Nat.le_trans hB ht13.ex.size
  replace hA := ht13.new
  refine V_y (Y_assign rfl) rfl rfl rfl ?_
  refine V_to (fun _ _ => rfl) ?_
  refine C_seq ?_
  refine C_seq ?_
  refine C_region ?_
  have h14 := El_cal_Calendar_0 h11
  refine V_y (Y_fieldAddr Try.underlying28 rfl Try.sizeOf24 (by decide) rfl) rfl rfl rfl ?_
  obtain ⟨v15, h17, h16⟩ := El_cal_Zone h14
  refine V_y (Y_loadA h17 Try.isAgg24 Try.sizeOf24 rfl) rfl rfl rfl ?_
  obtain ⟨x18, hx18, hm⟩ := Option.bind_eq_some_iff.1 hm
  refine V_call Try.call58 rfl rfl rfl rfl (cal_CheckZone_c w9 hA c.zone v15 h16 hx18) ?_
  rintro _ w19 ⟨rfl, hk20⟩
  have ht21 := Kp.tr hk20 hA hB
  replace hH := Hp.kp hH hk20
  replace h11 := El.tr h11 ht21
  replace h14 := El.tr h14 ht21
  replace h16 := Sl.tr h16 ht21
  replace hK := Tr.trans hK ht21
  replace hB := Nat.le_trans hB ht21.ex.size
  replace hA := ht21.new
  refine V_y (Y_assign rfl) rfl rfl rfl ?_
  refine V_to (fun _ _ => rfl) ?_
  refine C_seq ?_
  refine C_region ?_
  refine V_y (Y_move rfl) rfl rfl rfl ?_
  refine V_y (Y_neq rfl rfl) rfl rfl rfl ?_
  refine V_to (fun _ _ => rfl) ?_
  refine C_cond rfl (fun hc22 => ?_) (fun hc22 => ?_)
  · rw [if_pos hc22] at hm
    refine C_seq ?_
    refine C_region ?_
    refine V_y (Y_move rfl) rfl rfl rfl ?_
    refine V_y (Y_assign rfl) rfl rfl rfl ?_
    refine V_to (fun _ _ => rfl) ?_
    obtain rfl := Option.some.inj hm
    refine C_ret ?_
    try simp only [↓inBlock_ret, ↓then_ret]
    exact retQ rfl (Res.one Try.results29 rfl) ⟨rfl, hK.kp⟩
  · rw [if_neg (nt hc22)] at hm
    refine C_skip_to (fun _ _ => rfl) ?_
    refine C_seq ?_
    refine C_seq ?_
    refine C_region ?_
    have h23 := El_cal_Calendar_1 h11
    refine V_y (Y_fieldAddr Try.underlying28 rfl Try.sizeOf25 (by decide) rfl) rfl rfl rfl ?_
    obtain ⟨v24, h25, h26⟩ := El.list h23
    refine V_y (Y_load h25 Try.isAgg25 rfl) rfl rfl rfl ?_
    refine V_y (Y_lenSl h26 rfl Try.underlying25 rfl) rfl rfl rfl ?_
    refine V_y (Y_gtr rfl rfl) rfl rfl rfl ?_
    refine V_y (Y_move rfl) rfl rfl rfl ?_
    refine V_cut 5 (fun _ : Unit => [(1, .pointer (some ⟨b7, 0, none⟩)), (23, .bool ((decide ((60 : Int) < (c.week.length : Int))) || (decide ((200 : Int) < (c.specials.length : Int)))))]) (fun _ w' => w19 = w') ?_ ?_
    · simp only [List.take, List.drop]
      rcases Bool.eq_false_or_eq_true (decide ((60 : Int) < (c.week.length : Int))) with hc27 | hc27
      · refine V_gn rfl rfl rfl hc27 rfl rfl rfl ?_
        refine V_gn rfl rfl rfl hc27 rfl rfl rfl ?_
        refine V_gn rfl rfl rfl hc27 rfl rfl rfl ?_
        refine V_gn rfl rfl rfl hc27 rfl rfl rfl ?_
        refine V_y (Y_pick_te rfl hc27 rfl) rfl rfl rfl ?_
        exact V_end fun a ha => ⟨(), ha.sub ⟨rfl, (by rw [hc27]; rfl), trivial⟩, rfl⟩
      · refine V_ge rfl rfl rfl hc27 ?_
        have h29 := El_cal_Calendar_2 h11
        refine V_y (Y_fieldAddr Try.underlying28 rfl Try.sizeOf26 (by decide) rfl) rfl rfl rfl ?_
        refine V_ge rfl rfl rfl hc27 ?_
        obtain ⟨v30, h31, h32⟩ := El.list h29
        refine V_y (Y_load h31 Try.isAgg26 rfl) rfl rfl rfl ?_
        refine V_ge rfl rfl rfl hc27 ?_
        refine V_y (Y_lenSl h32 rfl Try.underlying26 rfl) rfl rfl rfl ?_
        refine V_ge rfl rfl rfl hc27 ?_
        refine V_y (Y_gtr rfl rfl) rfl rfl rfl ?_
        refine V_y (Y_pick_fe rfl hc27 rfl) rfl rfl rfl ?_
        exact V_end fun a ha => ⟨(), ha.sub ⟨rfl, (by rw [hc27]; rfl), trivial⟩, rfl⟩
    simp only [List.take, List.drop]
    rintro _ _ rfl
    refine V_to (fun _ _ => rfl) ?_
    refine C_cond rfl (fun hc33 => ?_) (fun hc33 => ?_)
    · rw [if_pos hc33] at hm
      refine C_seq ?_
      refine C_region ?_
      refine V_y (Y_assign rfl) rfl rfl rfl ?_
      refine V_to (fun _ _ => rfl) ?_
      obtain rfl := Option.some.inj hm
      refine C_ret ?_
      try simp only [↓inBlock_ret, ↓then_ret]
      exact retQ rfl (Res.one Try.results29 rfl) ⟨rfl, hK.kp⟩
    · rw [if_neg (nt hc33)] at hm
      refine C_skip_to (fun _ _ => rfl) ?_
      refine C_seq ?_
      refine C_seq ?_
      refine C_region ?_
      have h34 := El_cal_Calendar_1 h11
      refine V_y (Y_fieldAddr Try.underlying28 rfl Try.sizeOf25 (by decide) rfl) rfl rfl rfl ?_
      obtain ⟨v35, h36, h37⟩ := El.list h34
      refine V_y (Y_load h36 Try.isAgg25 rfl) rfl rfl rfl ?_
      obtain ⟨x38, hx38, hm⟩ := Option.bind_eq_some_iff.1 hm
      refine V_call Try.call59 rfl rfl rfl rfl (cal_checkShifts_c w19 hA c.week v35 h37 false hx38) ?_
      rintro _ w39 ⟨rfl, hk40⟩
      have ht41 := Kp.tr hk40 hA hB
      replace hH := Hp.kp hH hk40
      replace h11 := El.tr h11 ht41
      replace h34 := El.tr h34 ht41
      replace h37 := Sl.tr h37 ht41
      replace hK := Tr.trans hK ht41
      replace hB := Nat.le_trans hB ht41.ex.size
      replace hA := ht41.new
      refine V_y (Y_assign rfl) rfl rfl rfl ?_
      refine V_to (fun _ _ => rfl) ?_
      refine C_seq ?_
      refine C_region ?_
      refine V_y (Y_move rfl) rfl rfl rfl ?_
      refine V_y (Y_neq rfl rfl) rfl rfl rfl ?_
      refine V_to (fun _ _ => rfl) ?_
      refine C_cond rfl (fun hc42 => ?_) (fun hc42 => ?_)
      · rw [if_pos hc42] at hm
        refine C_seq ?_
        refine C_region ?_
        refine V_y (Y_move rfl) rfl rfl rfl ?_
        refine V_y (Y_assign rfl) rfl rfl rfl ?_
        refine V_to (fun _ _ => rfl) ?_
        obtain rfl := Option.some.inj hm
        refine C_ret ?_
        try simp only [↓inBlock_ret, ↓then_ret]
        exact retQ rfl (Res.one Try.results29 rfl) ⟨rfl, hK.kp⟩
      · rw [if_neg (nt hc42)] at hm
        refine C_skip_to (fun _ _ => rfl) ?_
        refine C_seq ?_
        refine C_seq ?_
        refine C_region ?_
        have h43 := El_cal_Calendar_2 h11
        refine V_y (Y_fieldAddr Try.underlying28 rfl Try.sizeOf26 (by decide) rfl) rfl rfl rfl ?_
        obtain ⟨v44, h45, h46⟩ := El.list h43
        refine V_y (Y_load h45 Try.isAgg26 rfl) rfl rfl rfl ?_
        refine V_y (Y_lenSl h46 rfl Try.underlying26 rfl) rfl rfl rfl ?_
        refine V_y (Y_move rfl) rfl rfl rfl ?_
        refine V_to (fun _ _ => rfl) ?_
        have hn67 := Sl.le h46
        obtain ⟨o47, ho47, hm⟩ := Option.bind_eq_some_iff.1 hm
        refine C_cutG (ι := (Unit × (Nat → Prop))) (fun ⟨s48, A54⟩ => []) (fun ⟨s48, A54⟩ => fun w' => o47 = .fin s48 ∧ Hp w.heap.size A54 w' ([]) ∧ Tr w.heap.size A w39 A54 w') ?_ ?_
        · refine C_block ?_
          refine C_range ho47 (fun k50 _ a w' => ∃ i : (Nat → Prop), Has ⟨70, [], none⟩ a ([(1, .pointer (some ⟨b7, 0, none⟩)), (31, v44), (32, .int .i64 (c.specials.length : Int)), (33, .int .i64 (k50 : Int))]) ∧ Hp w.heap.size i w' ([]) ∧ Tr w.heap.size A w39 i w') (fun a ha => ⟨A, ha.sub ⟨rfl, rfl, rfl, rfl, trivial⟩, ⟨hH, Tr.refl hA⟩⟩) ?_
          rintro K k50 _ a w57 ⟨A58, ha121, hH59, hr49⟩ hle63 K66 h65
          refine C_of ?_ ha121
          replace h11 := El.tr h11 hr49
          replace h46 := Sl.tr h46 hr49
          replace hK := Tr.trans hK hr49
          replace hB := Nat.le_trans hB hr49.ex.size
          replace hA := hr49.new
          replace hH : Hp w.heap.size A58 w57 ([]) := hH59
          refine C_seq (C_region (V_y (Y_lss rfl rfl) rfl rfl rfl (V_to (fun _ _ => rfl) ?_)))
          refine C_seq ?_
          refine C_cond rfl (fun hc68 => ?_) (fun hc68 => ?_)
          · have hlt64 := lt_of_dec hc68
            obtain ⟨x60, h61, h62⟩ := K66 hlt64
            refine C_skip_to (fun _ _ => rfl) ?_
            refine C_seq ?_
            refine C_block ?_
            refine C_seq ?_
            refine C_region ?_
            refine V_y (Y_move rfl) rfl rfl rfl ?_
            obtain ⟨x69, hx69, h61⟩ := Option.bind_eq_some_iff.1 h61
            refine V_indexAddr h46 hx69 Try.underlying26 Try.sizeOf92 rfl rfl rfl ?_
            intro b70 o71 h72
            obtain ⟨v73, h75, h74⟩ := El_cal_Special h72
            refine V_y (Y_loadA h75 Try.isAgg92 Try.sizeOf92 rfl) rfl rfl rfl ?_
            refine V_alloc Try.zeroValue92 rfl ?_
            intro b76 w77 h78
            refine V_y (Y_assign rfl) rfl rfl rfl ?_
            have h83 : (v73).oneCell' = true := by obtain ⟨_, _, e, _⟩ := Sl.form h74; rw [e]; rfl
            refine V_storeNew h78 Try.sizeOf92 rfl rfl rfl rfl (by exact (List.forall_mem_cons.2 ⟨rfl, (List.forall_mem_cons.2 ⟨h83, (fun _ h => nomatch h)⟩)⟩)) ?_
            intro w79 h80
            have hk85 := h80.kp
            have h84 : El (α := cal_Special) A58 w79 b76 0 x69 := h80.el hA ⟨[.int .i64 x69.day], _, rfl, rfl, ⟨_, rfl, h74⟩⟩
            have ht86 := Kp.tr hk85 hA hB
            replace hH := Hp.kp hH hk85
            replace h11 := El.tr h11 ht86
            replace h46 := Sl.tr h46 ht86
            replace h72 := El.tr h72 ht86
            replace h74 := Sl.tr h74 ht86
            replace hK := Tr.trans hK ht86
            replace hr49 := Tr.trans hr49 ht86
            replace hB := Nat.le_trans hB ht86.ex.size
            replace hA := ht86.new
            refine V_to (fun _ _ => rfl) ?_
            refine C_seq ?_
            refine C_block ?_
            refine C_seq ?_
            refine C_region ?_
            have h87 := El_cal_Special_0 h84
            refine V_y (Y_fieldAddr Try.underlying92 rfl Try.sizeOf3 (by decide) rfl) rfl rfl rfl ?_
            refine V_y (Y_load (El.int h87) Try.isAgg3 rfl) rfl rfl rfl ?_
            refine V_call Try.call60 rfl rfl rfl rfl (cal_within_c w79 x69.day (-1) 2084) ?_
            rintro _ _ ⟨rfl, rfl⟩
            refine V_y (Y_not rfl) rfl rfl rfl ?_
            refine V_y (Y_assign rfl) rfl rfl rfl ?_
            refine V_to (fun _ _ => rfl) ?_
            refine C_cond rfl (fun hc88 => ?_) (fun hc88 => ?_)
            · rw [if_pos hc88] at h61
              refine C_seq ?_
              refine C_region ?_
              refine V_y (Y_assign rfl) rfl rfl rfl ?_
              refine V_to (fun _ _ => rfl) ?_
              obtain rfl := Option.some.inj h61
              obtain rfl := (h62 : Lp.rt _ = _)
              rw [Lp.andThen_rt] at hm
              obtain rfl := Option.some.inj hm
              refine C_ret ?_
              try simp only [↓inBlock_ret, ↓then_ret]
              exact retQ rfl (Res.one Try.results29 rfl) ⟨rfl, hK.kp⟩
            · rw [if_neg (nt hc88)] at h61
              refine C_seq ?_
              refine C_region_q Try_mixed (by kernel_rfl) ?_
              refine VQ_y (fun w' hw' => Y_move rfl) rfl rfl rfl ?_
              refine VQ_y (fun w' hw' => Y_gtr rfl rfl) rfl rfl rfl ?_
              refine VQ_y (fun w' hw' => Y_move rfl) rfl rfl rfl ?_
              obtain ⟨s90, hs90, h61⟩ := Option.bind_eq_some_iff.1 h61
              refine VQ_cut 11 (fun _ : Unit => [(1, .pointer (some ⟨b7, 0, none⟩)), (6, .pointer (some ⟨b76, 0, none⟩)), (31, v44), (32, .int .i64 (c.specials.length : Int)), (33, .int .i64 (k50 : Int)), (57, .bool s90)]) (fun _ => True) ?_ ?_
              · simp only [List.take, List.drop]
                rcases Bool.eq_false_or_eq_true (decide ((0 : Int) < (k50 : Int))) with hc89 | hc89
                · rw [if_pos hc89] at hs90
                  refine VQ_ge rfl rfl rfl hc89 ?_
                  have h91 := El_cal_Special_0 h84
                  refine VQ_y (fun w' hw' => Y_fieldAddr Try.underlying92 rfl Try.sizeOf3 (by decide) rfl) rfl rfl rfl ?_
                  refine VQ_ge rfl rfl rfl hc89 ?_
                  refine VQ_y (fun w' hw' => Y_load (El.int (El.kp h91 hw')) Try.isAgg3 rfl) rfl rfl rfl ?_
                  refine VQ_ge rfl rfl rfl hc89 ?_
                  have h92 := El_cal_Calendar_2 h11
                  refine VQ_y (fun w' hw' => Y_fieldAddr Try.underlying28 rfl Try.sizeOf26 (by decide) rfl) rfl rfl rfl ?_
                  refine VQ_ge rfl rfl rfl hc89 ?_
                  obtain ⟨v93, h94, h95⟩ := El.list h92
                  refine VQ_y (fun w' hw' => Y_load ((World.cell?_of_block (hw'.block _ (World.block_lt_of_cell? _ _ h94))).trans h94) Try.isAgg26 rfl) rfl rfl rfl ?_
                  refine VQ_ge rfl rfl rfl hc89 ?_
                  refine VQ_y (fun w' hw' => Y_move rfl) rfl rfl rfl ?_
                  refine VQ_ge rfl rfl rfl hc89 ?_
                  refine VQ_y (fun w' hw' => Y_subI rfl rfl) rfl rfl rfl ?_
                  refine VQ_ge rfl rfl rfl hc89 ?_
                  obtain ⟨x96, hx96, hs90⟩ := Option.bind_eq_some_iff.1 hs90
                  refine VQ_indexAddr h95 hx96 Try.underlying26 Try.sizeOf92 rfl rfl rfl ?_
                  intro b97 o98 h99
                  refine VQ_ge rfl rfl rfl hc89 ?_
                  have h100 := El_cal_Special_0 h99
                  refine VQ_y (fun w' hw' => Y_fieldAddr Try.underlying92 rfl Try.sizeOf3 (by decide) rfl) rfl rfl rfl ?_
                  refine VQ_ge rfl rfl rfl hc89 ?_
                  refine VQ_y (fun w' hw' => Y_load (El.int (El.kp h100 hw')) Try.isAgg3 rfl) rfl rfl rfl ?_
                  refine VQ_ge rfl rfl rfl hc89 ?_
                  refine VQ_y (fun w' hw' => Y_leq rfl rfl) rfl rfl rfl ?_
                  refine VQ_y (fun _ _ => Y_pick_te rfl hc89 rfl) rfl rfl rfl ?_
                  obtain rfl := Option.some.inj hs90
                  exact VQ_end fun a ha => ⟨(), ha.sub ⟨rfl, rfl, rfl, rfl, rfl, rfl, trivial⟩, trivial⟩
                · rw [if_neg (nt hc89)] at hs90
                  refine VQ_gn rfl rfl rfl hc89 rfl rfl rfl ?_
                  refine VQ_gn rfl rfl rfl hc89 rfl rfl rfl ?_
                  refine VQ_gn rfl rfl rfl hc89 rfl rfl rfl ?_
                  refine VQ_gn rfl rfl rfl hc89 rfl rfl rfl ?_
                  refine VQ_gn rfl rfl rfl hc89 rfl rfl rfl ?_
                  refine VQ_gn rfl rfl rfl hc89 rfl rfl rfl ?_
                  refine VQ_gn rfl rfl rfl hc89 rfl rfl rfl ?_
                  refine VQ_gn rfl rfl rfl hc89 rfl rfl rfl ?_
                  refine VQ_gn rfl rfl rfl hc89 rfl rfl rfl ?_
                  refine VQ_gn rfl rfl rfl hc89 rfl rfl rfl ?_
                  refine VQ_y (fun _ _ => Y_pick_fe rfl hc89 rfl) rfl rfl rfl ?_
                  obtain rfl := Option.some.inj hs90
                  exact VQ_end fun a ha => ⟨(), ha.sub ⟨rfl, rfl, rfl, rfl, rfl, rfl, trivial⟩, trivial⟩
              simp only [List.take, List.drop]
              rintro _ _
              refine VQ_y (fun w' hw' => Y_assign rfl) rfl rfl rfl ?_
              refine VQ_to (fun _ _ => rfl) (fun w101 hk102 => ?_)
              have ht103 := Kp.tr hk102 hA hB
              replace hH := Hp.kp hH hk102
              replace h11 := El.tr h11 ht103
              replace h46 := Sl.tr h46 ht103
              replace h84 := El.tr h84 ht103
              replace hK := Tr.trans hK ht103
              replace hr49 := Tr.trans hr49 ht103
              replace hB := Nat.le_trans hB ht103.ex.size
              replace hA := ht103.new
              refine C_cond rfl (fun hc104 => ?_) (fun hc104 => ?_)
              · rw [if_pos hc104] at h61
                refine C_seq ?_
                refine C_region ?_
                refine V_y (Y_assign rfl) rfl rfl rfl ?_
                refine V_to (fun _ _ => rfl) ?_
                obtain rfl := Option.some.inj h61
                obtain rfl := (h62 : Lp.rt _ = _)
                rw [Lp.andThen_rt] at hm
                obtain rfl := Option.some.inj hm
                refine C_ret ?_
                try simp only [↓inBlock_ret, ↓then_ret]
                exact retQ rfl (Res.one Try.results29 rfl) ⟨rfl, hK.kp⟩
              · rw [if_neg (nt hc104)] at h61
                refine C_seq ?_
                refine C_region ?_
                have h105 := El_cal_Special_1 h84
                refine V_y (Y_fieldAddr Try.underlying92 rfl Try.sizeOf25 (by decide) rfl) rfl rfl rfl ?_
                obtain ⟨v106, h107, h108⟩ := El.list h105
                refine V_y (Y_load h107 Try.isAgg25 rfl) rfl rfl rfl ?_
                refine V_y (Y_lenSl h108 rfl Try.underlying25 rfl) rfl rfl rfl ?_
                refine V_y (Y_gtr rfl rfl) rfl rfl rfl ?_
                refine V_y (Y_assign rfl) rfl rfl rfl ?_
                refine V_to (fun _ _ => rfl) ?_
                refine C_cond rfl (fun hc109 => ?_) (fun hc109 => ?_)
                · rw [if_pos hc109] at h61
                  refine C_seq ?_
                  refine C_region ?_
                  refine V_y (Y_assign rfl) rfl rfl rfl ?_
                  refine V_to (fun _ _ => rfl) ?_
                  obtain rfl := Option.some.inj h61
                  obtain rfl := (h62 : Lp.rt _ = _)
                  rw [Lp.andThen_rt] at hm
                  obtain rfl := Option.some.inj hm
                  refine C_ret ?_
                  try simp only [↓inBlock_ret, ↓then_ret]
                  exact retQ rfl (Res.one Try.results29 rfl) ⟨rfl, hK.kp⟩
                · rw [if_neg (nt hc109)] at h61
                  refine C_skip_to (fun _ _ => rfl) ?_
                  refine C_seq ?_
                  refine C_region ?_
                  have h110 := El_cal_Special_1 h84
                  refine V_y (Y_fieldAddr Try.underlying92 rfl Try.sizeOf25 (by decide) rfl) rfl rfl rfl ?_
                  obtain ⟨v111, h112, h113⟩ := El.list h110
                  refine V_y (Y_load h112 Try.isAgg25 rfl) rfl rfl rfl ?_
                  obtain ⟨x114, hx114, h61⟩ := Option.bind_eq_some_iff.1 h61
                  refine V_call Try.call59 rfl rfl rfl rfl (cal_checkShifts_c w101 hA x69.shifts v111 h113 true hx114) ?_
                  rintro _ w115 ⟨rfl, hk116⟩
                  have ht117 := Kp.tr hk116 hA hB
                  replace hH := Hp.kp hH hk116
                  replace h11 := El.tr h11 ht117
                  replace h46 := Sl.tr h46 ht117
                  replace h84 := El.tr h84 ht117
                  replace h110 := El.tr h110 ht117
                  replace h113 := Sl.tr h113 ht117
                  replace hK := Tr.trans hK ht117
                  replace hr49 := Tr.trans hr49 ht117
                  replace hB := Nat.le_trans hB ht117.ex.size
                  replace hA := ht117.new
                  refine V_y (Y_assign rfl) rfl rfl rfl ?_
                  refine V_to (fun _ _ => rfl) ?_
                  refine C_seq ?_
                  refine C_region ?_
                  refine V_y (Y_move rfl) rfl rfl rfl ?_
                  refine V_y (Y_neq rfl rfl) rfl rfl rfl ?_
                  refine V_to (fun _ _ => rfl) ?_
                  refine C_cond rfl (fun hc118 => ?_) (fun hc118 => ?_)
                  · rw [if_pos hc118] at h61
                    refine C_seq ?_
                    refine C_region ?_
                    refine V_y (Y_move rfl) rfl rfl rfl ?_
                    refine V_y (Y_assign rfl) rfl rfl rfl ?_
                    refine V_to (fun _ _ => rfl) ?_
                    obtain rfl := Option.some.inj h61
                    obtain rfl := (h62 : Lp.rt _ = _)
                    rw [Lp.andThen_rt] at hm
                    obtain rfl := Option.some.inj hm
                    refine C_ret ?_
                    try simp only [↓inBlock_ret, ↓then_ret]
                    exact retQ rfl (Res.one Try.results29 rfl) ⟨rfl, hK.kp⟩
                  · rw [if_neg (nt hc118)] at h61
                    refine C_skip_to (fun _ _ => rfl) ?_
                    refine C_region ?_
                    refine V_y (Y_addI rfl rfl) rfl rfl rfl ?_
                    refine V_y (Y_move rfl) rfl rfl rfl ?_
                    obtain rfl := Option.some.inj h61
                    refine V_end (fun a ha119 => ?_)
                    exact ⟨(), hlt64, h62, ⟨A58, ha119.sub ⟨rfl, rfl, rfl, (congrArg (fun z => some (Value.int .i64 z)) (w64_succ hlt64 hn67)), trivial⟩, ⟨hH, hr49⟩⟩⟩
          · refine C_exit (fun a ha120 => ?_)
            exact ⟨((), A58), ha120.sub trivial, ⟨(h65 (eq_of_dec hle63 hc68)).symm, hH, hr49⟩⟩
        rintro ⟨s48, A54⟩ w51 ⟨rfl, hH55, hk52⟩ a ha53
        rw [Lp.andThen_fin] at hm
        replace hK := Tr.trans hK hk52
        replace hB := Nat.le_trans hB hk52.ex.size
        replace hA := hk52.new
        replace hH : Hp w.heap.size A54 w51 ([]) := hH55
        refine C_at (n := ⟨70, [], none⟩) (fun _ _ => rfl) ?_ ha53
        refine C_seq ?_
        refine C_region ?_
        refine V_y (Y_assign rfl) rfl rfl rfl ?_
        refine V_to (fun _ _ => rfl) ?_
        obtain rfl := Option.some.inj hm
        refine C_ret ?_
        try simp only [↓inBlock_ret, ↓then_ret]
        exact retQ rfl (Res.one Try.results29 rfl) ⟨rfl, hK.kp⟩

set_option maxRecDepth 4000 in
set_option maxHeartbeats 4000000 in
theorem level_within_c (w : World) (n : Int) (low : Int) (high : Int) : Ret Try.prog 30 #[.int .i64 n, .int .i64 low, .int .i64 high] w fun v w' => v = .bool (level_within n low high) ∧ w = w' := by
  generalize hm : level_within n low high = r
  unfold level_within at hm
  refine enter Try.func30 rfl Try.ntmps30 rfl ?_
  refine C_seq ?_
  refine C_region ?_
  refine V_y (Y_assign rfl) rfl rfl rfl ?_
  refine V_to (fun _ _ => rfl) ?_
  refine C_seq ?_
  refine C_region ?_
  refine V_y (Y_move rfl) rfl rfl rfl ?_
  refine V_y (Y_move rfl) rfl rfl rfl ?_
  refine V_y (Y_geq rfl rfl) rfl rfl rfl ?_
  refine V_y (Y_move rfl) rfl rfl rfl ?_
  refine V_cut 4 (fun _ : Unit => [(14, .bool ((decide (low ≤ n)) && (decide (n ≤ high))))]) (fun _ w' => w = w') ?_ ?_
  · simp only [List.take, List.drop]
    rcases Bool.eq_false_or_eq_true (decide (low ≤ n)) with hc1 | hc1
    · refine V_ge rfl rfl rfl hc1 ?_
      refine V_y (Y_move rfl) rfl rfl rfl ?_
      refine V_ge rfl rfl rfl hc1 ?_
      refine V_y (Y_move rfl) rfl rfl rfl ?_
      refine V_ge rfl rfl rfl hc1 ?_
      refine V_y (Y_leq rfl rfl) rfl rfl rfl ?_
      refine V_y (Y_pick_te rfl hc1 rfl) rfl rfl rfl ?_
      exact V_end fun a ha => ⟨(), ha.sub ⟨(by rw [hc1]; rfl), trivial⟩, rfl⟩
    · refine V_gn rfl rfl rfl hc1 rfl rfl rfl ?_
      refine V_gn rfl rfl rfl hc1 rfl rfl rfl ?_
      refine V_gn rfl rfl rfl hc1 rfl rfl rfl ?_
      refine V_y (Y_pick_fe rfl hc1 rfl) rfl rfl rfl ?_
      exact V_end fun a ha => ⟨(), ha.sub ⟨(by rw [hc1]; rfl), trivial⟩, rfl⟩
  simp only [List.take, List.drop]
  rintro _ _ rfl
  refine V_y (Y_assign rfl) rfl rfl rfl ?_
  refine V_to (fun _ _ => rfl) ?_
  obtain rfl := hm
  refine C_ret ?_
  try simp only [↓inBlock_ret, ↓then_ret]
  exact retQ rfl (Res.one Try.results30 rfl) ⟨rfl, rfl⟩

set_option maxRecDepth 4000 in
set_option maxHeartbeats 4000000 in
theorem cal_stretch_c (w : World) (from_ : Int) (to_ : Int) : Ret Try.prog 74 #[.int .i64 from_, .int .i64 to_] w fun v w' => v = .int .i64 (cal_stretch from_ to_) ∧ w = w' := by
  generalize hm : cal_stretch from_ to_ = r
  unfold cal_stretch at hm
  refine enter Try.func74 rfl Try.ntmps74 rfl ?_
  refine C_seq ?_
  refine C_region ?_
  refine V_y (Y_assign rfl) rfl rfl rfl ?_
  refine V_to (fun _ _ => rfl) ?_
  refine C_seq ?_
  refine C_block ?_
  refine C_seq ?_
  refine C_region ?_
  refine V_y (Y_move rfl) rfl rfl rfl ?_
  refine V_call Try.call60 rfl rfl rfl rfl (cal_within_c w from_ 0 3000000) ?_
  rintro _ _ ⟨rfl, rfl⟩
  refine V_y (Y_not rfl) rfl rfl rfl ?_
  refine V_y (Y_move rfl) rfl rfl rfl ?_
  refine V_cut 4 (fun _ : Unit => [(0, .int .i64 from_), (1, .int .i64 to_), (13, .bool ((!(cal_within from_ 0 3000000)) || (!(cal_within to_ 0 3000001))))]) (fun _ w' => w = w') ?_ ?_
  · simp only [List.take, List.drop]
    rcases Bool.eq_false_or_eq_true (!(cal_within from_ 0 3000000)) with hc1 | hc1
    · refine V_gn rfl rfl rfl hc1 rfl rfl rfl ?_
      refine V_gn rfl rfl rfl hc1 rfl rfl rfl ?_
      refine V_gn rfl rfl rfl hc1 rfl rfl rfl ?_
      refine V_y (Y_pick_te rfl hc1 rfl) rfl rfl rfl ?_
      exact V_end fun a ha => ⟨(), ha.sub ⟨rfl, rfl, (by rw [hc1]; rfl), trivial⟩, rfl⟩
    · refine V_ge rfl rfl rfl hc1 ?_
      refine V_y (Y_move rfl) rfl rfl rfl ?_
      refine V_ge rfl rfl rfl hc1 ?_
      refine V_call Try.call60 rfl rfl rfl rfl (cal_within_c w to_ 0 3000001) ?_
      rintro _ _ ⟨rfl, rfl⟩
      refine V_ge rfl rfl rfl hc1 ?_
      refine V_y (Y_not rfl) rfl rfl rfl ?_
      refine V_y (Y_pick_fe rfl hc1 rfl) rfl rfl rfl ?_
      exact V_end fun a ha => ⟨(), ha.sub ⟨rfl, rfl, (by rw [hc1]; rfl), trivial⟩, rfl⟩
  simp only [List.take, List.drop]
  rintro _ _ rfl
  refine V_y (Y_assign rfl) rfl rfl rfl ?_
  refine V_to (fun _ _ => rfl) ?_
  refine C_cond rfl (fun hc3 => ?_) (fun hc3 => ?_)
  · rw [if_pos hc3] at hm
    refine C_seq ?_
    refine C_region ?_
    refine V_y (Y_assign rfl) rfl rfl rfl ?_
    refine V_to (fun _ _ => rfl) ?_
    obtain rfl := hm
    refine C_ret ?_
    try simp only [↓inBlock_ret, ↓then_ret]
    exact retQ rfl (Res.one Try.results74 rfl) ⟨rfl, rfl⟩
  · rw [if_neg (nt hc3)] at hm
    refine C_seq ?_
    refine C_region ?_
    refine V_y (Y_move rfl) rfl rfl rfl ?_
    refine V_y (Y_move rfl) rfl rfl rfl ?_
    refine V_y (Y_gtr rfl rfl) rfl rfl rfl ?_
    refine V_y (Y_assign rfl) rfl rfl rfl ?_
    refine V_to (fun _ _ => rfl) ?_
    refine C_cond rfl (fun hc4 => ?_) (fun hc4 => ?_)
    · rw [if_pos hc4] at hm
      refine C_seq ?_
      refine C_region ?_
      refine V_y (Y_assign rfl) rfl rfl rfl ?_
      refine V_to (fun _ _ => rfl) ?_
      obtain rfl := hm
      refine C_ret ?_
      try simp only [↓inBlock_ret, ↓then_ret]
      exact retQ rfl (Res.one Try.results74 rfl) ⟨rfl, rfl⟩
    · rw [if_neg (nt hc4)] at hm
      refine C_skip_to (fun _ _ => rfl) ?_
      refine C_seq ?_
      refine C_region ?_
      refine V_y (Y_assign rfl) rfl rfl rfl ?_
      refine V_to (fun _ _ => rfl) ?_
      obtain rfl := hm
      refine C_ret ?_
      try simp only [↓inBlock_ret, ↓then_ret]
      exact retQ rfl (Res.one Try.results74 rfl) ⟨rfl, rfl⟩

set_option maxRecDepth 4000 in
set_option maxHeartbeats 4000000 in
theorem cmp_Or_api_Errno_c (w : World) {A : Nat → Prop} (vals : (List Int)) (v_vals : Value) (h_vals : Sl A w v_vals vals) {r : Int} (hm : cmp_Or_api_Errno vals = some r) : Ret Try.prog 36 #[v_vals] w fun v w' => v = .int .i64 r ∧ w = w' := by
  unfold cmp_Or_api_Errno at hm
  refine enter Try.func36 rfl Try.ntmps36 rfl ?_
  refine C_seq ?_
  refine C_region ?_
  refine V_y (Y_assign rfl) rfl rfl rfl ?_
  refine V_to (fun _ _ => rfl) ?_
  refine C_seq ?_
  refine C_region ?_
  refine V_y (Y_assign rfl) rfl rfl rfl ?_
  refine V_to (fun _ _ => rfl) ?_
  refine C_seq ?_
  refine C_seq ?_
  refine C_region ?_
  refine V_y (Y_move rfl) rfl rfl rfl ?_
  refine V_y (Y_lenSl h_vals rfl Try.underlying94 rfl) rfl rfl rfl ?_
  refine V_y (Y_move rfl) rfl rfl rfl ?_
  refine V_to (fun _ _ => rfl) ?_
  have hn19 := Sl.le h_vals
  obtain ⟨o3, ho3, hm⟩ := Option.bind_eq_some_iff.1 hm
  refine C_cutG (ι := Unit) (fun (s4 : Unit) => [(3, .int .i64 0)]) (fun (s4 : Unit) => fun w' => o3 = .fin s4 ∧ w = w') ?_ ?_
  · refine C_block ?_
    refine C_range ho3 (fun k6 _ a w' => ∃ i : Unit, Has ⟨18, [], none⟩ a ([(3, .int .i64 0), (6, v_vals), (7, .int .i64 (vals.length : Int)), (8, .int .i64 (k6 : Int))]) ∧ w = w') (fun a ha => ⟨(), ha.sub ⟨rfl, rfl, rfl, rfl, trivial⟩, rfl⟩) ?_
    rintro K k6 _ a _ ⟨_, ha28, rfl⟩ hle15 K18 h17
    refine C_of ?_ ha28
    refine C_seq (C_region (V_y (Y_lss rfl rfl) rfl rfl rfl (V_to (fun _ _ => rfl) ?_)))
    refine C_seq ?_
    refine C_cond rfl (fun hc20 => ?_) (fun hc20 => ?_)
    · have hlt16 := lt_of_dec hc20
      obtain ⟨x12, h13, h14⟩ := K18 hlt16
      refine C_skip_to (fun _ _ => rfl) ?_
      refine C_seq ?_
      refine C_block ?_
      refine C_seq ?_
      refine C_region ?_
      obtain ⟨x21, hx21, h13⟩ := Option.bind_eq_some_iff.1 h13
      refine V_indexAddr h_vals hx21 Try.underlying94 Try.sizeOf29 rfl rfl rfl ?_
      intro b22 o23 h24
      refine V_y (Y_load (El.int h24) Try.isAgg29 rfl) rfl rfl rfl ?_
      refine V_y (Y_assign rfl) rfl rfl rfl ?_
      refine V_to (fun _ _ => rfl) ?_
      refine C_seq ?_
      refine C_region ?_
      refine V_y (Y_move rfl) rfl rfl rfl ?_
      refine V_y (Y_move rfl) rfl rfl rfl ?_
      refine V_y (Y_neq rfl rfl) rfl rfl rfl ?_
      refine V_to (fun _ _ => rfl) ?_
      refine C_cond rfl (fun hc25 => ?_) (fun hc25 => ?_)
      · rw [if_pos hc25] at h13
        refine C_seq ?_
        refine C_region ?_
        refine V_y (Y_move rfl) rfl rfl rfl ?_
        refine V_y (Y_assign rfl) rfl rfl rfl ?_
        refine V_to (fun _ _ => rfl) ?_
        obtain rfl := Option.some.inj h13
        obtain rfl := (h14 : Lp.rt _ = _)
        rw [Lp.andThen_rt] at hm
        obtain rfl := Option.some.inj hm
        refine C_ret ?_
        try simp only [↓inBlock_ret, ↓then_ret]
        exact retQ rfl (Res.one Try.results36 rfl) ⟨rfl, rfl⟩
      · rw [if_neg (nt hc25)] at h13
        refine C_skip_to (fun _ _ => rfl) ?_
        refine C_region ?_
        refine V_y (Y_addI rfl rfl) rfl rfl rfl ?_
        refine V_y (Y_move rfl) rfl rfl rfl ?_
        obtain rfl := Option.some.inj h13
        refine V_end (fun a ha26 => ?_)
        exact ⟨(), hlt16, h14, ⟨(), ha26.sub ⟨rfl, rfl, rfl, (congrArg (fun z => some (Value.int .i64 z)) (w64_succ hlt16 hn19)), trivial⟩, rfl⟩⟩
    · refine C_exit (fun a ha27 => ?_)
      exact ⟨(), ha27.sub ⟨rfl, trivial⟩, ⟨(h17 (eq_of_dec hle15 hc20)).symm, rfl⟩⟩
  rintro s4 _ ⟨rfl, rfl⟩ a ha9
  rw [Lp.andThen_fin] at hm
  refine C_at (n := ⟨18, [], none⟩) (fun _ _ => rfl) ?_ ha9
  refine C_seq ?_
  refine C_region ?_
  refine V_y (Y_move rfl) rfl rfl rfl ?_
  refine V_y (Y_assign rfl) rfl rfl rfl ?_
  refine V_to (fun _ _ => rfl) ?_
  obtain rfl := Option.some.inj hm
  refine C_ret ?_
  try simp only [↓inBlock_ret, ↓then_ret]
  exact retQ rfl (Res.one Try.results36 rfl) ⟨rfl, rfl⟩

set_option maxRecDepth 4000 in
set_option maxHeartbeats 4000000 in
theorem cal_Calendar_open_c (w : World) {A : Nat → Prop} (hA : ∀ b, w.heap.size ≤ b → A b) (c : cal_Calendar) (v_c0 : Value) (h_c0 : Sl A w v_c0 c.zone.changes) (v_c1 : Value) (h_c1 : Sl A w v_c1 c.week) (v_c2 : Value) (h_c2 : Sl A w v_c2 c.specials) (from_ : Int) (to_ : Int) {r : (cal_Calendar × Int × Int)} (hm : cal_Calendar_open c from_ to_ = some r) : Ret Try.prog 75 #[.agg #[.int .i64 c.zone.offset, v_c0, v_c1, v_c2], .int .i64 from_, .int .i64 to_] w fun v w' => ∃ c0 c1 c2, v = .func (.func 87) #[] #[.pointer (some ⟨c0, 0, none⟩), .pointer (some ⟨c1, 0, none⟩), .pointer (some ⟨c2, 0, none⟩)] ∧ El A w' c0 0 r.1 ∧ El A w' c1 0 r.2.1 ∧ El A w' c2 0 r.2.2 ∧ Kp w w' := by
  unfold cal_Calendar_open at hm
  refine enter Try.func75 rfl Try.ntmps75 rfl ?_
  have hA0 := hA
  have hB := Nat.le_refl w.heap.size
  have hK : Tr w.heap.size A w A w := Tr.refl hA
  have hH : Hp w.heap.size A w [] := Hp.nil
  refine C_seq ?_
  refine C_region ?_
  refine V_box rfl rfl ?_
  intro b7 w9 h10
  have hk12 := h10.kp
  have h11 : El (α := cal_Calendar) A w9 b7 0 c := h10.el hA ⟨[.int .i64 c.zone.offset, v_c0], _, rfl, ⟨[.int .i64 c.zone.offset], _, rfl, rfl, ⟨_, rfl, h_c0⟩⟩, ⟨[v_c1], _, rfl, ⟨_, rfl, h_c1⟩, ⟨_, rfl, h_c2⟩⟩⟩
  have ht13 := Kp.tr hk12 hA hB
  replace hH := Hp.kp hH hk12
  replace h_c0 := Sl.tr h_c0 ht13
  replace h_c1 := Sl.tr h_c1 ht13
  replace h_c2 := Sl.tr h_c2 ht13
  replace hK := Tr.trans hK ht13
  replace hB := Nat.le_trans hB ht13.ex.size
  replace hA := ht13.new
  refine V_box rfl rfl ?_
  intro b14 w15 h16
  have hk18 := h16.kp
  have h17 : El (α := Int) A w15 b14 0 from_ := h16.el hA rfl
  have ht19 := Kp.tr hk18 hA hB
  replace hH := Hp.kp hH hk18
  replace h_c0 := Sl.tr h_c0 ht19
  replace h_c1 := Sl.tr h_c1 ht19
  replace h_c2 := Sl.tr h_c2 ht19
  replace h11 := El.tr h11 ht19
  replace hK := Tr.trans hK ht19
  replace hB := Nat.le_trans hB ht19.ex.size
  replace hA := ht19.new
  refine V_box rfl rfl ?_
  intro b20 w21 h22
  have hk24 := h22.kp
  have h23 : El (α := Int) A w21 b20 0 to_ := h22.el hA rfl
  have ht25 := Kp.tr hk24 hA hB
  replace hH := Hp.kp hH hk24
  replace h_c0 := Sl.tr h_c0 ht25
  replace h_c1 := Sl.tr h_c1 ht25
  replace h_c2 := Sl.tr h_c2 ht25
  replace h11 := El.tr h11 ht25
  replace h17 := El.tr h17 ht25
  replace hK := Tr.trans hK ht25
  replace hB := Nat.le_trans hB ht25.ex.size
  replace hA := ht25.new
  refine V_y (Y_assign rfl) rfl rfl rfl ?_
  refine V_to (fun _ _ => rfl) ?_
  refine C_seq ?_
  refine C_region ?_
  refine V_y (Y_makeFunc rfl rfl) rfl rfl rfl ?_
  refine V_y (Y_assign rfl) rfl rfl rfl ?_
  refine V_to (fun _ _ => rfl) ?_
  obtain rfl := Option.some.inj hm
  refine C_ret ?_
  try simp only [↓inBlock_ret, ↓then_ret]
  exact retQ rfl (Res.one Try.results75 rfl) ⟨b7, b14, b20, rfl, (El.out h11 hA0 hK), (El.out h17 hA0 hK), (El.out h23 hA0 hK), hK.kp⟩

set_option maxRecDepth 4000 in
set_option maxHeartbeats 4000000 in
theorem cal_Calendar_shifts_c (w : World) {A : Nat → Prop} (hA : ∀ b, w.heap.size ≤ b → A b) (c : cal_Calendar) (v_c0 : Value) (h_c0 : Sl A w v_c0 c.zone.changes) (v_c1 : Value) (h_c1 : Sl A w v_c1 c.week) (v_c2 : Value) (h_c2 : Sl A w v_c2 c.specials) (from_ : Int) (to_ : Int) {r : (cal_Calendar × Int × Int)} (hm : cal_Calendar_shifts c from_ to_ = some r) : Ret Try.prog 88 #[.agg #[.int .i64 c.zone.offset, v_c0, v_c1, v_c2], .int .i64 from_, .int .i64 to_] w fun v w' => ∃ c0 c1 c2, v = .func (.func 105) #[] #[.pointer (some ⟨c0, 0, none⟩), .pointer (some ⟨c1, 0, none⟩), .pointer (some ⟨c2, 0, none⟩)] ∧ El A w' c0 0 r.1 ∧ El A w' c1 0 r.2.1 ∧ El A w' c2 0 r.2.2 ∧ Kp w w' := by
  unfold cal_Calendar_shifts at hm
  refine enter Try.func88 rfl Try.ntmps88 rfl ?_
  have hA0 := hA
  have hB := Nat.le_refl w.heap.size
  have hK : Tr w.heap.size A w A w := Tr.refl hA
  have hH : Hp w.heap.size A w [] := Hp.nil
  refine C_seq ?_
  refine C_region ?_
  refine V_box rfl rfl ?_
  intro b7 w9 h10
  have hk12 := h10.kp
  have h11 : El (α := cal_Calendar) A w9 b7 0 c := h10.el hA ⟨[.int .i64 c.zone.offset, v_c0], _, rfl, ⟨[.int .i64 c.zone.offset], _, rfl, rfl, ⟨_, rfl, h_c0⟩⟩, ⟨[v_c1], _, rfl, ⟨_, rfl, h_c1⟩, ⟨_, rfl, h_c2⟩⟩⟩
  have ht13 := Kp.tr hk12 hA hB
  replace hH := Hp.kp hH hk12
  replace h_c0 := Sl.tr h_c0 ht13
  replace h_c1 := Sl.tr h_c1 ht13
  replace h_c2 := Sl.tr h_c2 ht13
  replace hK := Tr.trans hK ht13
  replace hB := Nat.le_trans hB ht13.ex.size
  replace hA := ht13.new
  refine V_box rfl rfl ?_
  intro b14 w15 h16
  have hk18 := h16.kp
  have h17 : El (α := Int) A w15 b14 0 from_ := h16.el hA rfl
  have ht19 := Kp.tr hk18 hA hB
  replace hH := Hp.kp hH hk18
  replace h_c0 := Sl.tr h_c0 ht19
  replace h_c1 := Sl.tr h_c1 ht19
  replace h_c2 := Sl.tr h_c2 ht19
  replace h11 := El.tr h11 ht19
  replace hK := Tr.trans hK ht19
  replace hB := Nat.le_trans hB ht19.ex.size
  replace hA := ht19.new
  refine V_box rfl rfl ?_
  intro b20 w21 h22
  have hk24 := h22.kp
  have h23 : El (α := Int) A w21 b20 0 to_ := h22.el hA rfl
  have ht25 := Kp.tr hk24 hA hB
  replace hH := Hp.kp hH hk24
  replace h_c0 := Sl.tr h_c0 ht25
  replace h_c1 := Sl.tr h_c1 ht25
  replace h_c2 := Sl.tr h_c2 ht25
  replace h11 := El.tr h11 ht25
  replace h17 := El.tr h17 ht25
  replace hK := Tr.trans hK ht25
  replace hB := Nat.le_trans hB ht25.ex.size
  replace hA := ht25.new
  refine V_y (Y_assign rfl) rfl rfl rfl ?_
  refine V_to (fun _ _ => rfl) ?_
  refine C_seq ?_
  refine C_region ?_
  refine V_y (Y_makeFunc rfl rfl) rfl rfl rfl ?_
  refine V_y (Y_assign rfl) rfl rfl rfl ?_
  refine V_to (fun _ _ => rfl) ?_
  obtain rfl := Option.some.inj hm
  refine C_ret ?_
  try simp only [↓inBlock_ret, ↓then_ret]
  exact retQ rfl (Res.one Try.results88 rfl) ⟨b7, b14, b20, rfl, (El.out h11 hA0 hK), (El.out h17 hA0 hK), (El.out h23 hA0 hK), hK.kp⟩

set_option maxRecDepth 4000 in
set_option maxHeartbeats 4000000 in
theorem cal_Zone_parts_c (w : World) {A : Nat → Prop} (hA : ∀ b, w.heap.size ≤ b → A b) (z : cal_Zone) (v_z : Value) (h_z : Sl A w v_z z.changes) {r : (List cal_part)} (hm : cal_Zone_parts z = some r) : Ret Try.prog 106 #[.agg #[.int .i64 z.offset, v_z]] w fun v w' => ∃ s0, v = s0 ∧ Ownd 139 w w' s0 r ∧ Kp w w' := by
  unfold cal_Zone_parts at hm
  refine enter Try.func106 rfl Try.ntmps106 rfl ?_
  have hA0 := hA
  have hB := Nat.le_refl w.heap.size
  have hK : Tr w.heap.size A w A w := Tr.refl hA
  have hH : Hp w.heap.size A w [] := Hp.nil
  refine C_seq ?_
  refine C_region ?_
  refine V_box rfl rfl ?_
  intro b3 w4 h5
  have hk7 := h5.kp
  have h6 : El (α := cal_Zone) A w4 b3 0 z := h5.el hA ⟨[.int .i64 z.offset], _, rfl, rfl, ⟨_, rfl, h_z⟩⟩
  have ht8 := Kp.tr hk7 hA hB
  replace hH := Hp.kp hH hk7
  replace h_z := Sl.tr h_z ht8
  replace hK := Tr.trans hK ht8
  replace hB := Nat.le_trans hB ht8.ex.size
  replace hA := ht8.new
  refine V_y (Y_assign rfl) rfl rfl rfl ?_
  refine V_to (fun _ _ => rfl) ?_
  refine C_seq ?_
  refine C_region ?_
  have h9 := El_cal_Zone_0 h6
  refine V_y (Y_fieldAddr Try.underlying24 rfl Try.sizeOf3 (by decide) rfl) rfl rfl rfl ?_
  refine V_y (Y_load (El.int h9) Try.isAgg3 rfl) rfl rfl rfl ?_
  refine V_y (Y_build Try.underlying139 Try.zeroValue139 (Try_places139 _ Try.underlying139) rfl (by with_unfolding_all rfl)) rfl rfl rfl ?_
  refine V_buildOwnH (l := ([(⟨0, 3000001, z.offset⟩ : cal_part)] : List cal_part)) (len := 1) hH Try.underlying136 Try.sizeOf139 Try.zeroValue139 rfl (by with_unfolding_all rfl) (by decide) (by decide) hB hA ⟨[.int .i64 0, .int .i64 3000001, .int .i64 z.offset], _, rfl, ⟨[.int .i64 0], _, rfl, rfl, ⟨[.int .i64 3000001], _, rfl, rfl, rfl⟩⟩, rfl⟩ rfl rfl ?_
  intro v10 w11 A14 hH16 ht15
  replace h6 := El.tr h6 ht15
  replace h9 := El.tr h9 ht15
  replace hK := Tr.trans hK ht15
  replace hB := Nat.le_trans hB ht15.ex.size
  replace hA := ht15.new
  replace hH : Hp w.heap.size A14 w11 (obS (α := cal_part) 139 v10 ([(⟨0, 3000001, z.offset⟩ : cal_part)] : List cal_part) :: []) := hH16
  refine V_y (Y_assign rfl) rfl rfl rfl ?_
  refine V_to (fun _ _ => rfl) ?_
  refine C_seq ?_
  refine C_seq ?_
  refine C_region ?_
  have h17 := El_cal_Zone_1 h6
  refine V_y (Y_fieldAddr Try.underlying24 rfl Try.sizeOf22 (by decide) rfl) rfl rfl rfl ?_
  obtain ⟨v18, h19, h20⟩ := El.list h17
  refine V_y (Y_load h19 Try.isAgg22 rfl) rfl rfl rfl ?_
  refine V_y (Y_lenSl h20 rfl Try.underlying22 rfl) rfl rfl rfl ?_
  refine V_y (Y_move rfl) rfl rfl rfl ?_
  refine V_to (fun _ _ => rfl) ?_
  have hn45 := Sl.le h20
  obtain ⟨o21, ho21, hm⟩ := Option.bind_eq_some_iff.1 hm
  refine C_cutG (ι := ((List cal_part) × Value × (Nat → Prop))) (fun ⟨s22, v28, A30⟩ => [(3, v28)]) (fun ⟨s22, v28, A30⟩ => fun w' => o21 = .fin s22 ∧ Hp w.heap.size A30 w' (obS (α := cal_part) 139 v28 s22 :: []) ∧ Tr w.heap.size A14 w11 A30 w') ?_ ?_
  · refine C_block ?_
    refine C_range ho21 (fun k24 s32 a w' => ∃ i : (Value × (Nat → Prop)), Has ⟨35, [], none⟩ a ([(3, i.1), (11, v18), (12, .int .i64 (z.changes.length : Int)), (13, .int .i64 (k24 : Int))]) ∧ Hp w.heap.size i.2 w' (obS (α := cal_part) 139 i.1 s32 :: []) ∧ Tr w.heap.size A14 w11 i.2 w') (fun a ha => ⟨(v10, A14), ha.sub ⟨rfl, rfl, rfl, rfl, trivial⟩, ⟨hH, Tr.refl hA⟩⟩) ?_
    rintro K k24 s32 a w33 ⟨⟨v34, A36⟩, ha86, hH37, hr23⟩ hle41 K44 h43
    refine C_of ?_ ha86
    replace h20 := Sl.tr h20 hr23
    replace hK := Tr.trans hK hr23
    replace hB := Nat.le_trans hB hr23.ex.size
    replace hA := hr23.new
    replace hH : Hp w.heap.size A36 w33 (obS (α := cal_part) 139 v34 s32 :: []) := hH37
    refine C_seq (C_region (V_y (Y_lss rfl rfl) rfl rfl rfl (V_to (fun _ _ => rfl) ?_)))
    refine C_seq ?_
    refine C_cond rfl (fun hc46 => ?_) (fun hc46 => ?_)
    · have hlt42 := lt_of_dec hc46
      obtain ⟨x38, h39, h40⟩ := K44 hlt42
      refine C_skip_to (fun _ _ => rfl) ?_
      refine C_seq ?_
      refine C_block ?_
      refine C_seq ?_
      refine C_region ?_
      obtain ⟨x47, hx47, h39⟩ := Option.bind_eq_some_iff.1 h39
      refine V_indexAddr h20 hx47 Try.underlying22 Try.sizeOf116 rfl rfl rfl ?_
      intro b48 o49 h50
      obtain ⟨h51, _⟩ := El_cal_Change h50
      refine V_y (Y_loadA h51 Try.isAgg116 Try.sizeOf116 rfl) rfl rfl rfl ?_
      refine V_alloc Try.zeroValue116 rfl ?_
      intro b52 w53 h54
      refine V_storeNew h54 Try.sizeOf116 rfl rfl rfl rfl (by exact (List.forall_mem_cons.2 ⟨rfl, (List.forall_mem_cons.2 ⟨rfl, (fun _ h => nomatch h)⟩)⟩)) ?_
      intro w55 h56
      have hk58 := h56.kp
      have h57 : El (α := cal_Change) A36 w55 b52 0 x47 := h56.el hA ⟨[.int .i64 x47.at_], _, rfl, rfl, rfl⟩
      have ht59 := Kp.tr hk58 hA hB
      replace hH := Hp.kp hH hk58
      replace h20 := Sl.tr h20 ht59
      replace h50 := El.tr h50 ht59
      replace hK := Tr.trans hK ht59
      replace hr23 := Tr.trans hr23 ht59
      replace hB := Nat.le_trans hB ht59.ex.size
      replace hA := ht59.new
      refine V_to (fun _ _ => rfl) ?_
      refine C_seq ?_
      refine C_region ?_
      refine V_y (Y_move rfl) rfl rfl rfl ?_
      refine V_y (Y_move rfl) rfl rfl rfl ?_
      refine V_y (Y_lenSl (Hp.any (α := cal_part) (e := 139) (v := v34) (l := s32) hH (i := 0) rfl) rfl Try.underlying136 rfl) rfl rfl rfl ?_
      refine V_y (Y_subI rfl rfl) rfl rfl rfl ?_
      have h60 := El_cal_Change_0 h57
      refine V_y (Y_fieldAddr Try.underlying116 rfl Try.sizeOf3 (by decide) rfl) rfl rfl rfl ?_
      refine V_y (Y_load (El.int h60) Try.isAgg3 rfl) rfl rfl rfl ?_
      obtain ⟨x61, hx61, h39⟩ := Option.bind_eq_some_iff.1 h39
      refine V_indexAddrH (α := cal_part) (e := 139) (v := v34) (l := s32) hH (i := 0) rfl hx61 Try.underlying136 Try.sizeOf139 rfl rfl rfl ?_
      intro b62 o63 h64 hl65
      have h66 := El_cal_part_1 h64
      refine V_y (Y_fieldAddr Try.underlying139 rfl Try.sizeOf3 (by decide) rfl) rfl rfl rfl ?_
      obtain ⟨x67, hx67, h39⟩ := Option.bind_eq_some_iff.1 h39
      refine V_storeFH (α := cal_part) (e := 139) (v := v34) (l := s32) (foff := 1) hH (i := 0) rfl hl65 hx61 hx67 (fun _ h => by obtain ⟨c0, d0, rfl, rfl, ⟨c1, d1, rfl, rfl, rfl⟩⟩ := h; exact ⟨[_], _, rfl, rfl, ⟨[_], _, rfl, rfl, rfl⟩⟩) Try.sizeOf3 rfl (by simp [Value.cells, Value.oneCell']) (by decide) hB hA (congrArg (fun z => some (Value.pointer (some ⟨_, z, none⟩))) (by simp [Nat.add_assoc])) rfl ?_
      intro w68 hH69 ht70
      replace h20 := Sl.tr h20 ht70
      replace h57 := El.tr h57 ht70
      replace h60 := El.tr h60 ht70
      replace hK := Tr.trans hK ht70
      replace hr23 := Tr.trans hr23 ht70
      replace hB := Nat.le_trans hB ht70.ex.size
      replace hA := ht70.new
      replace hH : Hp w.heap.size A36 w68 (obS (α := cal_part) 139 v34 x67 :: []) := hH69
      refine V_to (fun _ _ => rfl) ?_
      refine C_region ?_
      refine V_y (Y_move rfl) rfl rfl rfl ?_
      have h71 := El_cal_Change_0 h57
      refine V_y (Y_fieldAddr Try.underlying116 rfl Try.sizeOf3 (by decide) rfl) rfl rfl rfl ?_
      refine V_y (Y_load (El.int h71) Try.isAgg3 rfl) rfl rfl rfl ?_
      have h72 := El_cal_Change_1 h57
      refine V_y (Y_fieldAddr Try.underlying116 rfl Try.sizeOf3 (by decide) rfl) rfl rfl rfl ?_
      refine V_y (Y_load (El.int h72) Try.isAgg3 rfl) rfl rfl rfl ?_
      refine V_y (Y_build Try.underlying139 Try.zeroValue139 (Try_places139 _ Try.underlying139) rfl (by with_unfolding_all rfl)) rfl rfl rfl ?_
      refine V_buildSlice (l := ([(⟨x47.at_, 3000001, x47.offset⟩ : cal_part)] : List cal_part)) (len := 1) Try.underlying136 Try.sizeOf139 Try.zeroValue139 rfl (by with_unfolding_all rfl) (by decide) (by decide) hA ⟨[.int .i64 x47.at_, .int .i64 3000001, .int .i64 x47.offset], _, rfl, ⟨[.int .i64 x47.at_], _, rfl, rfl, ⟨[.int .i64 3000001], _, rfl, rfl, rfl⟩⟩, rfl⟩ rfl rfl ?_
      intro v73 w74 hk76 h75
      have ht77 := Kp.tr hk76 hA hB
      replace hH := Hp.kp hH hk76
      replace h20 := Sl.tr h20 ht77
      replace h57 := El.tr h57 ht77
      replace h71 := El.tr h71 ht77
      replace h72 := El.tr h72 ht77
      replace hK := Tr.trans hK ht77
      replace hr23 := Tr.trans hr23 ht77
      replace hB := Nat.le_trans hB ht77.ex.size
      replace hA := ht77.new
      obtain ⟨x78, hx78, h39⟩ := Option.bind_eq_some_iff.1 h39
      refine V_appendH (e := 139) (v := v34) (l := x67) (ti := Try.t139) (bytes := 24) (lim := 5864062014805) hH (i := 0) rfl h75 hx78 Try.underlying136 Try_info139 rfl rfl rfl rfl (by decide) (by decide) (by decide) hB hA rfl rfl rfl ?_
      intro v79 w80 A81 hH82 ht83
      replace h20 := Sl.tr h20 ht83
      replace h57 := El.tr h57 ht83
      replace h71 := El.tr h71 ht83
      replace h72 := El.tr h72 ht83
      replace h75 := Sl.tr h75 ht83
      replace hK := Tr.trans hK ht83
      replace hr23 := Tr.trans hr23 ht83
      replace hB := Nat.le_trans hB ht83.ex.size
      replace hA := ht83.new
      replace hH : Hp w.heap.size A81 w80 (obS (α := cal_part) 139 v79 x78 :: []) := hH82
      refine V_y (Y_assign rfl) rfl rfl rfl ?_
      refine V_to (fun _ _ => rfl) ?_
      refine C_region ?_
      refine V_y (Y_addI rfl rfl) rfl rfl rfl ?_
      refine V_y (Y_move rfl) rfl rfl rfl ?_
      obtain rfl := Option.some.inj h39
      refine V_end (fun a ha84 => ?_)
      exact ⟨x78, hlt42, h40, ⟨(v79, A81), ha84.sub ⟨rfl, rfl, rfl, (congrArg (fun z => some (Value.int .i64 z)) (w64_succ hlt42 hn45)), trivial⟩, ⟨hH, hr23⟩⟩⟩
    · refine C_exit (fun a ha85 => ?_)
      exact ⟨(s32, v34, A36), ha85.sub ⟨rfl, trivial⟩, ⟨(h43 (eq_of_dec hle41 hc46)).symm, hH, hr23⟩⟩
  rintro ⟨s22, v28, A30⟩ w25 ⟨rfl, hH31, hk26⟩ a ha27
  rw [Lp.andThen_fin] at hm
  replace hK := Tr.trans hK hk26
  replace hB := Nat.le_trans hB hk26.ex.size
  replace hA := hk26.new
  replace hH : Hp w.heap.size A30 w25 (obS (α := cal_part) 139 v28 s22 :: []) := hH31
  refine C_at (n := ⟨35, [], none⟩) (fun _ _ => rfl) ?_ ha27
  refine C_seq ?_
  refine C_region ?_
  refine V_y (Y_move rfl) rfl rfl rfl ?_
  refine V_y (Y_assign rfl) rfl rfl rfl ?_
  refine V_to (fun _ _ => rfl) ?_
  obtain rfl := Option.some.inj hm
  refine C_ret ?_
  try simp only [↓inBlock_ret, ↓then_ret]
  exact retQ rfl (Res.one Try.results106 rfl) ⟨v28, rfl, (Hp.ownd hH (i := 0) rfl), hK.kp⟩

set_option maxRecDepth 4000 in
set_option maxHeartbeats 4000000 in
theorem cal_floor_c (w : World) (a_ : Int) (b : Int) {r : Int} (hm : cal_floor a_ b = some r) : Ret Try.prog 109 #[.int .i64 a_, .int .i64 b] w fun v w' => v = .int .i64 r ∧ w = w' := by
  unfold cal_floor at hm
  refine enter Try.func109 rfl Try.ntmps109 rfl ?_
  refine C_seq ?_
  refine C_region ?_
  refine V_y (Y_assign rfl) rfl rfl rfl ?_
  refine V_to (fun _ _ => rfl) ?_
  refine C_seq ?_
  refine C_region ?_
  refine V_y (Y_move rfl) rfl rfl rfl ?_
  refine V_y (Y_move rfl) rfl rfl rfl ?_
  obtain ⟨x1, hx1, hm⟩ := Option.bind_eq_some_iff.1 hm
  refine V_y (Y_quo hx1 rfl rfl) rfl rfl rfl ?_
  refine V_y (Y_assign rfl) rfl rfl rfl ?_
  refine V_to (fun _ _ => rfl) ?_
  refine C_seq ?_
  refine C_seq ?_
  refine C_region ?_
  refine V_y (Y_move rfl) rfl rfl rfl ?_
  refine V_y (Y_move rfl) rfl rfl rfl ?_
  obtain ⟨x2, hx2, hm⟩ := Option.bind_eq_some_iff.1 hm
  refine V_y (Y_rem hx2 rfl rfl) rfl rfl rfl ?_
  refine V_y (Y_lss rfl rfl) rfl rfl rfl ?_
  refine V_to (fun _ _ => rfl) ?_
  obtain ⟨s4, ho3, hm⟩ := Option.bind_eq_some_iff.1 hm
  refine C_cutG (ι := Unit) (fun (_ : Unit) => [(5, .int .i64 s4)]) (fun (_ : Unit) => fun w' => w = w') ?_ ?_
  · refine C_cond rfl (fun hc9 => ?_) (fun hc9 => ?_)
    · rw [if_pos hc9] at ho3
      refine C_region ?_
      refine V_y (Y_move rfl) rfl rfl rfl ?_
      refine V_y (Y_subI rfl rfl) rfl rfl rfl ?_
      refine V_y (Y_assign rfl) rfl rfl rfl ?_
      obtain rfl := Option.some.inj ho3
      refine V_end (fun a ha10 => ?_)
      exact ⟨(), ha10.sub ⟨rfl, trivial⟩, rfl⟩
    · rw [if_neg (nt hc9)] at ho3
      obtain rfl := Option.some.inj ho3
      refine C_skip (fun a ha11 => ?_)
      exact ⟨(), ha11.sub ⟨rfl, trivial⟩, rfl⟩
  rintro _ _ rfl a ha8
  refine C_at (n := ⟨16, [], none⟩) (fun _ _ => rfl) ?_ ha8
  refine C_seq ?_
  refine C_region ?_
  refine V_y (Y_move rfl) rfl rfl rfl ?_
  refine V_y (Y_assign rfl) rfl rfl rfl ?_
  refine V_to (fun _ _ => rfl) ?_
  obtain rfl := Option.some.inj hm
  refine C_ret ?_
  try simp only [↓inBlock_ret, ↓then_ret]
  exact retQ rfl (Res.one Try.results109 rfl) ⟨rfl, rfl⟩

set_option maxRecDepth 4000 in
set_option maxHeartbeats 4000000 in
theorem slices_BinarySearchFunc_Lcal_Special_cal_Special_int_c (w : World) {A : Nat → Prop} (hA : ∀ b, w.heap.size ≤ b → A b) (x : (List cal_Special)) (v_x : Value) (h_x : Sl A w v_x x) (target : Int) (cmp : cal_Special → Int → Option Int) (cmp_f : FuncId) (cmp_a cmp_c : Array Value) (cmp_call : ∀ (args : Array Value) (w : World), (callFunc cmp_f args).run Try.prog w = .ok (.enter cmp_f args) w) (cmp_spec : ∀ (w1 : World) (A1 : Nat → Prop), Tr w.heap.size A w A1 w1 → (∀ b, w1.heap.size ≤ b → A1 b) → ∀ (y0 : cal_Special) (v1 : Value) (h2 : Sl A1 w1 v1 y0.shifts) (y1 : Int) (r : Int), cmp y0 y1 = some r → Ret Try.prog cmp_f (cmp_a ++ #[.agg #[.int .i64 y0.day, v1], .int .i64 y1] ++ cmp_c) w1 fun v w' => v = .int .i64 r ∧ Kp w1 w') {r : (Int × Bool)} (hm : slices_BinarySearchFunc_Lcal_Special_cal_Special_int x target cmp = some r) : Ret Try.prog 116 #[v_x, .int .i64 target, .func (.func cmp_f) cmp_a cmp_c] w fun v w' => v = .tuple #[.int .i64 r.1, .bool r.2] ∧ Kp w w' := by
  unfold slices_BinarySearchFunc_Lcal_Special_cal_Special_int at hm
  refine enter Try.func116 rfl Try.ntmps116 rfl ?_
  have hA0 := hA
  have hB := Nat.le_refl w.heap.size
  have hK : Tr w.heap.size A w A w := Tr.refl hA
  have hH : Hp w.heap.size A w [] := Hp.nil
  refine C_seq ?_
  refine C_region ?_
  refine V_y (Y_assign rfl) rfl rfl rfl ?_
  refine V_y (Y_assign rfl) rfl rfl rfl ?_
  refine V_to (fun _ _ => rfl) ?_
  refine C_seq ?_
  refine C_region ?_
  refine V_y (Y_move rfl) rfl rfl rfl ?_
  refine V_y (Y_lenSl h_x rfl Try.underlying26 rfl) rfl rfl rfl ?_
  refine V_y (Y_assign rfl) rfl rfl rfl ?_
  refine V_to (fun _ _ => rfl) ?_
  refine C_seq ?_
  refine C_region ?_
  refine V_y (Y_move rfl) rfl rfl rfl ?_
  refine V_y (Y_assign rfl) rfl rfl rfl ?_
  refine V_y (Y_assign rfl) rfl rfl rfl ?_
  refine V_to (fun _ _ => rfl) ?_
  refine C_seq ?_
  obtain ⟨o3, ho3, hm⟩ := Option.bind_eq_some_iff.1 hm
  refine C_cutG (ι := ((Int × Int) × (Nat → Prop))) (fun ⟨s4, A10⟩ => [(0, v_x), (1, .int .i64 target), (2, .func (.func cmp_f) cmp_a cmp_c), (8, .int .i64 (x.length : Int)), (9, .int .i64 s4.1)]) (fun ⟨s4, A10⟩ => fun w' => o3 = .fin s4 ∧ Hp w.heap.size A10 w' ([]) ∧ Tr w.heap.size A w A10 w') ?_ ?_
  · refine C_block ?_
    refine C_while ho3 (fun s12 a w' => ∃ i : (Nat → Prop), Has ⟨49, [], none⟩ a ([(0, v_x), (1, .int .i64 target), (2, .func (.func cmp_f) cmp_a cmp_c), (8, .int .i64 (x.length : Int)), (9, .int .i64 s12.1), (10, .int .i64 s12.2)]) ∧ Hp w.heap.size i w' ([]) ∧ Tr w.heap.size A w i w') (fun a ha => ⟨A, ha.sub ⟨rfl, rfl, rfl, rfl, rfl, rfl, trivial⟩, ⟨hH, Tr.refl hA⟩⟩) ?_
    rintro K s12 a w13 ⟨A14, ha56, hH15, hr5⟩ K22
    refine C_of ?_ ha56
    replace h_x := Sl.tr h_x hr5
    replace hK := Tr.trans hK hr5
    replace hB := Nat.le_trans hB hr5.ex.size
    replace hA := hr5.new
    replace hH : Hp w.heap.size A14 w13 ([]) := hH15
    obtain ⟨x16, h17, h18⟩ := K22
    refine C_seq ?_
    refine C_seq ?_
    refine C_region ?_
    refine V_y (Y_move rfl) rfl rfl rfl ?_
    refine V_y (Y_move rfl) rfl rfl rfl ?_
    refine V_y (Y_lss rfl rfl) rfl rfl rfl ?_
    refine V_to (fun _ _ => rfl) ?_
    refine C_cond rfl (fun hc23 => ?_) (fun hc23 => ?_)
    · rw [if_pos hc23] at h17
      refine C_skip_to (fun _ _ => rfl) ?_
      obtain ⟨s25, ho24, h17⟩ := Option.bind_eq_some_iff.1 h17
      refine C_cutG (ι := (Nat → Prop)) (fun (A30 : (Nat → Prop)) => [(0, v_x), (1, .int .i64 target), (2, .func (.func cmp_f) cmp_a cmp_c), (8, .int .i64 (x.length : Int)), (9, .int .i64 s25.1), (10, .int .i64 s25.2)]) (fun (A30 : (Nat → Prop)) => fun w' => Hp w.heap.size A30 w' ([]) ∧ Tr w.heap.size A14 w13 A30 w') ?_ ?_
      · have hr26 : Tr w.heap.size A14 w13 A14 w13 := Tr.refl hA
        refine C_block ?_
        refine C_seq ?_
        refine C_region ?_
        refine V_y (Y_move rfl) rfl rfl rfl ?_
        refine V_y (Y_move rfl) rfl rfl rfl ?_
        refine V_y (Y_addI rfl rfl) rfl rfl rfl ?_
        refine V_y (Y_convI Try.underlying3 Try.underlying113 rfl) rfl rfl rfl ?_
        obtain ⟨x32, hx32, ho24⟩ := Option.bind_eq_some_iff.1 ho24
        refine V_y (Y_shr hx32 rfl rfl) rfl rfl rfl ?_
        refine V_y (Y_convI Try.underlying113 Try.underlying3 rfl) rfl rfl rfl ?_
        refine V_y (Y_assign rfl) rfl rfl rfl ?_
        refine V_to (fun _ _ => rfl) ?_
        refine C_seq ?_
        refine C_region ?_
        refine V_y (Y_move rfl) rfl rfl rfl ?_
        refine V_y (Y_move rfl) rfl rfl rfl ?_
        refine V_y (Y_move rfl) rfl rfl rfl ?_
        obtain ⟨x33, hx33, ho24⟩ := Option.bind_eq_some_iff.1 ho24
        refine V_indexAddr h_x hx33 Try.underlying26 Try.sizeOf92 rfl rfl rfl ?_
        intro b34 o35 h36
        obtain ⟨v37, h39, h38⟩ := El_cal_Special h36
        refine V_y (Y_loadA h39 Try.isAgg92 Try.sizeOf92 rfl) rfl rfl rfl ?_
        refine V_y (Y_move rfl) rfl rfl rfl ?_
        obtain ⟨x40, hx40, ho24⟩ := Option.bind_eq_some_iff.1 ho24
        refine V_call cmp_call rfl rfl rfl rfl (cmp_spec w13 _ hK hA x33 v37 h38 target _ hx40) ?_
        rintro _ w41 ⟨rfl, hk42⟩
        have ht43 := Kp.tr hk42 hA hB
        replace hH := Hp.kp hH hk42
        replace h_x := Sl.tr h_x ht43
        replace h36 := El.tr h36 ht43
        replace h38 := Sl.tr h38 ht43
        replace hK := Tr.trans hK ht43
        replace hr5 := Tr.trans hr5 ht43
        replace hr26 := Tr.trans hr26 ht43
        replace hB := Nat.le_trans hB ht43.ex.size
        replace hA := ht43.new
        refine V_y (Y_lss rfl rfl) rfl rfl rfl ?_
        refine V_to (fun _ _ => rfl) ?_
        obtain ⟨s45, ho44, ho24⟩ := Option.bind_eq_some_iff.1 ho24
        refine C_cutG (ι := Unit) (fun (_ : Unit) => [(0, v_x), (1, .int .i64 target), (2, .func (.func cmp_f) cmp_a cmp_c), (8, .int .i64 (x.length : Int)), (9, .int .i64 s45.1), (10, .int .i64 s45.2)]) (fun (_ : Unit) => fun w' => w41 = w') ?_ ?_
        · refine C_cond rfl (fun hc50 => ?_) (fun hc50 => ?_)
          · rw [if_pos hc50] at ho44
            refine C_region ?_
            refine V_y (Y_move rfl) rfl rfl rfl ?_
            refine V_y (Y_addI rfl rfl) rfl rfl rfl ?_
            refine V_y (Y_assign rfl) rfl rfl rfl ?_
            obtain rfl := Option.some.inj ho44
            refine V_end (fun a ha51 => ?_)
            exact ⟨(), ha51.sub ⟨rfl, rfl, rfl, rfl, rfl, rfl, trivial⟩, rfl⟩
          · rw [if_neg (nt hc50)] at ho44
            refine C_region ?_
            refine V_y (Y_move rfl) rfl rfl rfl ?_
            refine V_y (Y_assign rfl) rfl rfl rfl ?_
            obtain rfl := Option.some.inj ho44
            refine V_end (fun a ha52 => ?_)
            exact ⟨(), ha52.sub ⟨rfl, rfl, rfl, rfl, rfl, rfl, trivial⟩, rfl⟩
        rintro _ _ rfl a ha49
        obtain rfl := Option.some.inj ho24
        exact ⟨A14, ha49.sub ⟨rfl, rfl, rfl, rfl, rfl, rfl, trivial⟩, ⟨hH, hr26⟩⟩
      rintro A30 w27 ⟨hH31, hk28⟩ a ha29
      replace h_x := Sl.tr h_x hk28
      replace hK := Tr.trans hK hk28
      replace hr5 := Tr.trans hr5 hk28
      replace hB := Nat.le_trans hB hk28.ex.size
      replace hA := hk28.new
      replace hH : Hp w.heap.size A30 w27 ([]) := hH31
      obtain rfl := Option.some.inj h17
      exact ⟨(s25.1, s25.2), h18, ⟨A30, ha29.sub ⟨rfl, rfl, rfl, rfl, rfl, rfl, trivial⟩, ⟨hH, hr5⟩⟩⟩
    · rw [if_neg (nt hc23)] at h17
      obtain rfl := Option.some.inj h17
      refine C_exit (fun a ha55 => ?_)
      exact ⟨((s12.1, s12.2), A14), ha55.sub ⟨rfl, rfl, rfl, rfl, rfl, trivial⟩, ⟨h18.symm, hH, hr5⟩⟩
  rintro ⟨s4, A10⟩ w7 ⟨rfl, hH11, hk8⟩ a ha9
  rw [Lp.andThen_fin] at hm
  replace h_x := Sl.tr h_x hk8
  replace hK := Tr.trans hK hk8
  replace hB := Nat.le_trans hB hk8.ex.size
  replace hA := hk8.new
  replace hH : Hp w.heap.size A10 w7 ([]) := hH11
  refine C_at (n := ⟨49, [], none⟩) (fun _ _ => rfl) ?_ ha9
  refine C_seq ?_
  obtain ⟨s58, ho57, hm⟩ := Option.bind_eq_some_iff.1 hm
  refine C_cutG (ι := (Nat → Prop)) (fun (A63 : (Nat → Prop)) => [(6, .int .i64 s58.1), (7, .bool s58.2)]) (fun (A63 : (Nat → Prop)) => fun w' => Hp w.heap.size A63 w' ([]) ∧ Tr w.heap.size A10 w7 A63 w') ?_ ?_
  · have hr59 : Tr w.heap.size A10 w7 A10 w7 := Tr.refl hA
    refine C_region ?_
    refine V_y (Y_move rfl) rfl rfl rfl ?_
    refine V_y (Y_move rfl) rfl rfl rfl ?_
    refine V_y (Y_move rfl) rfl rfl rfl ?_
    refine V_y (Y_lss rfl rfl) rfl rfl rfl ?_
    refine V_y (Y_move rfl) rfl rfl rfl ?_
    rcases Bool.eq_false_or_eq_true (decide (s4.1 < (x.length : Int))) with hc65 | hc65
    · rw [if_pos hc65] at ho57
      refine V_ge rfl rfl rfl hc65 ?_
      refine V_y (Y_move rfl) rfl rfl rfl ?_
      refine V_ge rfl rfl rfl hc65 ?_
      refine V_y (Y_move rfl) rfl rfl rfl ?_
      refine V_ge rfl rfl rfl hc65 ?_
      refine V_y (Y_move rfl) rfl rfl rfl ?_
      refine V_ge rfl rfl rfl hc65 ?_
      obtain ⟨x66, hx66, ho57⟩ := Option.bind_eq_some_iff.1 ho57
      refine V_indexAddr h_x hx66 Try.underlying26 Try.sizeOf92 rfl rfl rfl ?_
      intro b67 o68 h69
      refine V_ge rfl rfl rfl hc65 ?_
      obtain ⟨v70, h72, h71⟩ := El_cal_Special h69
      refine V_y (Y_loadA h72 Try.isAgg92 Try.sizeOf92 rfl) rfl rfl rfl ?_
      refine V_ge rfl rfl rfl hc65 ?_
      refine V_y (Y_move rfl) rfl rfl rfl ?_
      refine V_ge rfl rfl rfl hc65 ?_
      obtain ⟨x73, hx73, ho57⟩ := Option.bind_eq_some_iff.1 ho57
      refine V_call cmp_call rfl rfl rfl rfl (cmp_spec w7 _ hK hA x66 v70 h71 target _ hx73) ?_
      rintro _ w74 ⟨rfl, hk75⟩
      have ht76 := Kp.tr hk75 hA hB
      replace hH := Hp.kp hH hk75
      replace h_x := Sl.tr h_x ht76
      replace h69 := El.tr h69 ht76
      replace h71 := Sl.tr h71 ht76
      replace hK := Tr.trans hK ht76
      replace hr59 := Tr.trans hr59 ht76
      replace hB := Nat.le_trans hB ht76.ex.size
      replace hA := ht76.new
      refine V_ge rfl rfl rfl hc65 ?_
      refine V_y (Y_eql rfl rfl) rfl rfl rfl ?_
      refine V_y (Y_pick_te rfl hc65 rfl) rfl rfl rfl ?_
      refine V_y (Y_assign rfl) rfl rfl rfl ?_
      refine V_y (Y_assign rfl) rfl rfl rfl ?_
      obtain rfl := Option.some.inj ho57
      refine V_end (fun a ha77 => ?_)
      exact ⟨A10, ha77.sub ⟨rfl, rfl, trivial⟩, ⟨hH, hr59⟩⟩
    · rw [if_neg (nt hc65)] at ho57
      refine V_gn rfl rfl rfl hc65 rfl rfl rfl ?_
      refine V_gn rfl rfl rfl hc65 rfl rfl rfl ?_
      refine V_gn rfl rfl rfl hc65 rfl rfl rfl ?_
      refine V_gn rfl rfl rfl hc65 rfl rfl rfl ?_
      refine V_gn rfl rfl rfl hc65 rfl rfl rfl ?_
      refine V_gn rfl rfl rfl hc65 rfl rfl rfl ?_
      refine V_gn rfl rfl rfl hc65 rfl rfl rfl ?_
      refine V_gn rfl rfl rfl hc65 rfl rfl rfl ?_
      refine V_y (Y_pick_fe rfl hc65 rfl) rfl rfl rfl ?_
      refine V_y (Y_assign rfl) rfl rfl rfl ?_
      refine V_y (Y_assign rfl) rfl rfl rfl ?_
      obtain rfl := Option.some.inj ho57
      refine V_end (fun a ha78 => ?_)
      exact ⟨A10, ha78.sub ⟨rfl, rfl, trivial⟩, ⟨hH, hr59⟩⟩
  rintro A63 w60 ⟨hH64, hk61⟩ a ha62
  replace hK := Tr.trans hK hk61
  replace hB := Nat.le_trans hB hk61.ex.size
  replace hA := hk61.new
  replace hH : Hp w.heap.size A63 w60 ([]) := hH64
  refine C_at (n := ⟨49, [], none⟩) (fun _ _ => rfl) ?_ ha62
  obtain rfl := Option.some.inj hm
  refine C_ret ?_
  try simp only [↓inBlock_ret, ↓then_ret]
  exact retQ rfl (Res.two Try.results116 rfl rfl) ⟨rfl, hK.kp⟩

set_option maxRecDepth 4000 in
set_option maxHeartbeats 4000000 in
theorem cal_Calendar_shiftsOf_1_c (w : World) {A : Nat → Prop} (hA : ∀ b, w.heap.size ≤ b → A b) (s : cal_Special) (v_s : Value) (h_s : Sl A w v_s s.shifts) (d : Int) {r : Int} (hm : cal_Calendar_shiftsOf_1 s d = some r) : Ret Try.prog 117 #[.agg #[.int .i64 s.day, v_s], .int .i64 d] w fun v w' => v = .int .i64 r ∧ Kp w w' := by
  unfold cal_Calendar_shiftsOf_1 at hm
  refine enter Try.func117 rfl Try.ntmps117 rfl ?_
  have hA0 := hA
  have hB := Nat.le_refl w.heap.size
  have hK : Tr w.heap.size A w A w := Tr.refl hA
  have hH : Hp w.heap.size A w [] := Hp.nil
  refine C_seq ?_
  refine C_region ?_
  refine V_box rfl rfl ?_
  intro b3 w4 h5
  have hk7 := h5.kp
  have h6 : El (α := cal_Special) A w4 b3 0 s := h5.el hA ⟨[.int .i64 s.day], _, rfl, rfl, ⟨_, rfl, h_s⟩⟩
  have ht8 := Kp.tr hk7 hA hB
  replace hH := Hp.kp hH hk7
  replace h_s := Sl.tr h_s ht8
  replace hK := Tr.trans hK ht8
  replace hB := Nat.le_trans hB ht8.ex.size
  replace hA := ht8.new
  refine V_y (Y_assign rfl) rfl rfl rfl ?_
  refine V_to (fun _ _ => rfl) ?_
  refine C_seq ?_
  refine C_region ?_
  have h9 := El_cal_Special_0 h6
  refine V_y (Y_fieldAddr Try.underlying92 rfl Try.sizeOf3 (by decide) rfl) rfl rfl rfl ?_
  refine V_y (Y_load (El.int h9) Try.isAgg3 rfl) rfl rfl rfl ?_
  refine V_y (Y_move rfl) rfl rfl rfl ?_
  refine V_call Try.call54 rfl rfl rfl rfl (cmp_Compare_int_c w4 s.day d) ?_
  rintro _ _ ⟨rfl, rfl⟩
  refine V_y (Y_assign rfl) rfl rfl rfl ?_
  refine V_to (fun _ _ => rfl) ?_
  obtain rfl := Option.some.inj hm
  refine C_ret ?_
  try simp only [↓inBlock_ret, ↓then_ret]
  exact retQ rfl (Res.one Try.results117 rfl) ⟨rfl, hK.kp⟩

set_option maxRecDepth 4000 in
set_option maxHeartbeats 4000000 in
theorem slices_Clone_Lcal_Shift_cal_Shift_c (w : World) {A : Nat → Prop} (hA : ∀ b, w.heap.size ≤ b → A b) (s : (List cal_Shift)) (v_s : Value) (h_s : Sl A w v_s s) {r : (List cal_Shift)} (hm : slices_Clone_Lcal_Shift_cal_Shift s = some r) : Ret Try.prog 118 #[v_s] w fun v w' => ∃ s0, v = s0 ∧ Ownd 110 w w' s0 r ∧ Kp w w' := by
  unfold slices_Clone_Lcal_Shift_cal_Shift at hm
  refine enter Try.func118 rfl Try.ntmps118 rfl ?_
  have hA0 := hA
  have hB := Nat.le_refl w.heap.size
  have hK : Tr w.heap.size A w A w := Tr.refl hA
  have hH : Hp w.heap.size A w [] := Hp.nil
  rcases Sl.split h_s with ⟨rfl, rfl⟩ | ⟨a0, n0, c0, rfl⟩
  · replace hm : some ([] : (List cal_Shift)) = some r := by simpa [appendL] using hm
    refine C_seq ?_
    refine C_region ?_
    refine V_y (Y_assign rfl) rfl rfl rfl ?_
    refine V_to (fun _ _ => rfl) ?_
    refine C_seq ?_
    refine C_seq ?_
    refine C_region ?_
    refine V_y (Y_move rfl) rfl rfl rfl ?_
    refine V_y (Y_eqlNilT rfl rfl Try.underlying25) rfl rfl rfl ?_
    refine V_to (fun _ _ => rfl) ?_
    refine C_cond rfl (fun hc => ?_) (fun hc => ?_)
    · refine C_seq ?_
      refine C_region ?_
      refine V_y (Y_assign rfl) rfl rfl rfl ?_
      refine V_to (fun _ _ => rfl) ?_
      obtain rfl := Option.some.inj hm
      replace hH : Hp w.heap.size A w (obS (α := cal_Shift) 110 (.slice none 0 0) ([] : (List cal_Shift)) :: []) := Hp.addNil (α := cal_Shift) (e := 110) hH
      refine C_ret ?_
      try simp only [↓inBlock_ret, ↓then_ret]
      exact retQ rfl (Res.one Try.results118 rfl) ⟨.slice none 0 0, rfl, (Hp.ownd hH (i := 0) rfl), hK.kp⟩
    · exact absurd hc (by decide)
  · refine C_seq ?_
    refine C_region ?_
    refine V_y (Y_assign rfl) rfl rfl rfl ?_
    refine V_to (fun _ _ => rfl) ?_
    refine C_seq ?_
    refine C_seq ?_
    refine C_region ?_
    refine V_y (Y_move rfl) rfl rfl rfl ?_
    refine V_y (Y_eqlNilF rfl rfl Try.underlying25) rfl rfl rfl ?_
    refine V_to (fun _ _ => rfl) ?_
    refine C_cond rfl (fun hc => ?_) (fun hc => ?_)
    · exact absurd hc (by decide)
    · refine C_skip_to (fun _ _ => rfl) ?_
      refine C_seq ?_
      refine C_region ?_
      refine V_buildOwn0H (α := cal_Shift) hH Try.underlying25 Try.sizeOf110 hB hA rfl ?_
      intro v3 w4 A5 hH6 ht7
      replace h_s := Sl.tr h_s ht7
      replace hK := Tr.trans hK ht7
      replace hB := Nat.le_trans hB ht7.ex.size
      replace hA := ht7.new
      replace hH : Hp w.heap.size A5 w4 (obS (α := cal_Shift) 110 v3 ([] : List cal_Shift) :: []) := hH6
      refine V_y (Y_move rfl) rfl rfl rfl ?_
      obtain ⟨x8, hx8, hm⟩ := Option.bind_eq_some_iff.1 hm
      refine V_appendH (e := 110) (v := v3) (l := ([] : List cal_Shift)) (ti := Try.t110) (bytes := 24) (lim := 5864062014805) hH (i := 0) rfl h_s hx8 Try.underlying25 Try_info110 rfl rfl rfl rfl (by decide) (by decide) (by decide) hB hA rfl rfl rfl ?_
      intro v9 w10 A11 hH12 ht13
      replace h_s := Sl.tr h_s ht13
      replace hK := Tr.trans hK ht13
      replace hB := Nat.le_trans hB ht13.ex.size
      replace hA := ht13.new
      replace hH : Hp w.heap.size A11 w10 (obS (α := cal_Shift) 110 v9 x8 :: []) := hH12
      refine V_y (Y_assign rfl) rfl rfl rfl ?_
      refine V_to (fun _ _ => rfl) ?_
      obtain rfl := Option.some.inj hm
      refine C_ret ?_
      try simp only [↓inBlock_ret, ↓then_ret]
      exact retQ rfl (Res.one Try.results118 rfl) ⟨v9, rfl, (Hp.ownd hH (i := 0) rfl), hK.kp⟩

set_option maxRecDepth 4000 in
set_option maxHeartbeats 4000000 in
theorem cal_Calendar_shiftsOf_c (w : World) {A : Nat → Prop} (hA : ∀ b, w.heap.size ≤ b → A b) (c : cal_Calendar) (v_c0 : Value) (h_c0 : Sl A w v_c0 c.zone.changes) (v_c1 : Value) (h_c1 : Sl A w v_c1 c.week) (v_c2 : Value) (h_c2 : Sl A w v_c2 c.specials) (day : Int) {r : (List cal_Shift)} (hm : cal_Calendar_shiftsOf c day = some r) : Ret Try.prog 108 #[.agg #[.int .i64 c.zone.offset, v_c0, v_c1, v_c2], .int .i64 day] w fun v w' => ∃ s0, v = s0 ∧ Ownd 110 w w' s0 r ∧ Kp w w' := by
  unfold cal_Calendar_shiftsOf at hm
  refine enter Try.func108 rfl Try.ntmps108 rfl ?_
  have hA0 := hA
  have hB := Nat.le_refl w.heap.size
  have hK : Tr w.heap.size A w A w := Tr.refl hA
  have hH : Hp w.heap.size A w [] := Hp.nil
  refine C_seq ?_
  refine C_region ?_
  refine V_box rfl rfl ?_
  intro b7 w9 h10
  have hk12 := h10.kp
  have h11 : El (α := cal_Calendar) A w9 b7 0 c := h10.el hA ⟨[.int .i64 c.zone.offset, v_c0], _, rfl, ⟨[.int .i64 c.zone.offset], _, rfl, rfl, ⟨_, rfl, h_c0⟩⟩, ⟨[v_c1], _, rfl, ⟨_, rfl, h_c1⟩, ⟨_, rfl, h_c2⟩⟩⟩
  have ht13 := Kp.tr hk12 hA hB
  replace hH := Hp.kp hH hk12
  replace h_c0 := Sl.tr h_c0 ht13
  replace h_c1 := Sl.tr h_c1 ht13
  replace h_c2 := Sl.tr h_c2 ht13
  replace hK := Tr.trans hK ht13
  replace hB := Nat.le_trans hB ht13.ex.size
  replace hA := ht13.new
  refine V_y (Y_assign rfl) rfl rfl rfl ?_
  refine V_to (fun _ _ => rfl) ?_
  refine C_seq ?_
  refine C_region ?_
  have h14 := El_cal_Calendar_2 h11
  refine V_y (Y_fieldAddr Try.underlying28 rfl Try.sizeOf26 (by decide) rfl) rfl rfl rfl ?_
  obtain ⟨v15, h16, h17⟩ := El.list h14
  refine V_y (Y_load h16 Try.isAgg26 rfl) rfl rfl rfl ?_
  refine V_y (Y_move rfl) rfl rfl rfl ?_
  obtain ⟨x20, hx20, hm⟩ := Option.bind_eq_some_iff.1 hm
  refine V_call Try.call116 rfl rfl rfl rfl (slices_BinarySearchFunc_Lcal_Special_cal_Special_int_c w9 hA c.specials v15 h17 day (fun y31 y32 => cal_Calendar_shiftsOf_1 y31 y32) 117 #[] #[] Try.call117 (fun w27 A28 ht29 h30 y21 v22 h23 y24 r25 h26 => (cal_Calendar_shiftsOf_1_c w27 h30 y21 v22 h23 y24  h26).mono (fun _ _ h => ⟨h.1, h.2⟩)) hx20) ?_
  rintro _ w33 ⟨rfl, hk34⟩
  have ht35 := Kp.tr hk34 hA hB
  replace hH := Hp.kp hH hk34
  replace h11 := El.tr h11 ht35
  replace h14 := El.tr h14 ht35
  replace h17 := Sl.tr h17 ht35
  replace hK := Tr.trans hK ht35
  replace hB := Nat.le_trans hB ht35.ex.size
  replace hA := ht35.new
  refine V_y (Y_move rfl) rfl rfl rfl ?_
  refine V_y (Y_extract rfl rfl) rfl rfl rfl ?_
  refine V_y (Y_extract rfl rfl) rfl rfl rfl ?_
  refine V_y (Y_assign rfl) rfl rfl rfl ?_
  refine V_y (Y_assign rfl) rfl rfl rfl ?_
  refine V_to (fun _ _ => rfl) ?_
  refine C_seq ?_
  refine C_seq ?_
  refine C_region ?_
  refine V_y (Y_move rfl) rfl rfl rfl ?_
  refine V_to (fun _ _ => rfl) ?_
  refine C_cond rfl (fun hc36 => ?_) (fun hc36 => ?_)
  · rw [if_pos hc36] at hm
    refine C_seq ?_
    refine C_region ?_
    have h37 := El_cal_Calendar_2 h11
    refine V_y (Y_fieldAddr Try.underlying28 rfl Try.sizeOf26 (by decide) rfl) rfl rfl rfl ?_
    obtain ⟨v38, h39, h40⟩ := El.list h37
    refine V_y (Y_load h39 Try.isAgg26 rfl) rfl rfl rfl ?_
    refine V_y (Y_move rfl) rfl rfl rfl ?_
    obtain ⟨x41, hx41, hm⟩ := Option.bind_eq_some_iff.1 hm
    refine V_indexAddr h40 hx41 Try.underlying26 Try.sizeOf92 rfl rfl rfl ?_
    intro b42 o43 h44
    have h45 := El_cal_Special_1 h44
    refine V_y (Y_fieldAddr Try.underlying92 rfl Try.sizeOf25 (by decide) rfl) rfl rfl rfl ?_
    obtain ⟨v46, h47, h48⟩ := El.list h45
    refine V_y (Y_load h47 Try.isAgg25 rfl) rfl rfl rfl ?_
    obtain ⟨x49, hx49, hm⟩ := Option.bind_eq_some_iff.1 hm
    refine V_call Try.call118 rfl rfl rfl rfl (slices_Clone_Lcal_Shift_cal_Shift_c w33 hA x41.shifts v46 h48 hx49) ?_
    rintro v50 w52 ⟨_, rfl, h51, hk53⟩
    obtain ⟨A54, ht55, hH56⟩ := Hp.addOwnd hH hB hA hk53 h51
    replace h11 := El.tr h11 ht55
    replace h37 := El.tr h37 ht55
    replace h40 := Sl.tr h40 ht55
    replace h44 := El.tr h44 ht55
    replace h45 := El.tr h45 ht55
    replace h48 := Sl.tr h48 ht55
    replace hK := Tr.trans hK ht55
    replace hB := Nat.le_trans hB ht55.ex.size
    replace hA := ht55.new
    replace hH : Hp w.heap.size A54 w52 (obS (α := cal_Shift) 110 v50 x49 :: []) := hH56
    refine V_y (Y_assign rfl) rfl rfl rfl ?_
    refine V_to (fun _ _ => rfl) ?_
    obtain rfl := Option.some.inj hm
    refine C_ret ?_
    try simp only [↓inBlock_ret, ↓then_ret]
    exact retQ rfl (Res.one Try.results108 rfl) ⟨v50, rfl, (Hp.ownd hH (i := 0) rfl), hK.kp⟩
  · rw [if_neg (nt hc36)] at hm
    refine C_skip_to (fun _ _ => rfl) ?_
    refine C_seq ?_
    refine C_region ?_
    refine V_y (Y_assign rfl) rfl rfl rfl ?_
    refine V_to (fun _ _ => rfl) ?_
    refine C_seq ?_
    refine C_seq ?_
    refine C_region ?_
    have h57 := El_cal_Calendar_1 h11
    refine V_y (Y_fieldAddr Try.underlying28 rfl Try.sizeOf25 (by decide) rfl) rfl rfl rfl ?_
    obtain ⟨v58, h59, h60⟩ := El.list h57
    refine V_y (Y_load h59 Try.isAgg25 rfl) rfl rfl rfl ?_
    refine V_y (Y_lenSl h60 rfl Try.underlying25 rfl) rfl rfl rfl ?_
    refine V_y (Y_move rfl) rfl rfl rfl ?_
    refine V_to (fun _ _ => rfl) ?_
    replace hH : Hp w.heap.size A w33 (obS (α := cal_Shift) 110 (.slice none 0 0) ([] : (List cal_Shift)) :: []) := Hp.addNil (α := cal_Shift) (e := 110) hH
    have hn85 := Sl.le h60
    obtain ⟨o61, ho61, hm⟩ := Option.bind_eq_some_iff.1 hm
    refine C_cutG (ι := ((List cal_Shift) × Value × (Nat → Prop))) (fun ⟨s62, v68, A70⟩ => [(7, v68)]) (fun ⟨s62, v68, A70⟩ => fun w' => o61 = .fin s62 ∧ Hp w.heap.size A70 w' (obS (α := cal_Shift) 110 v68 s62 :: []) ∧ Tr w.heap.size A w33 A70 w') ?_ ?_
    · refine C_block ?_
      refine C_range ho61 (fun k64 s72 a w' => ∃ i : (Value × (Nat → Prop)), Has ⟨50, [], none⟩ a ([(1, .int .i64 day), (7, i.1), (26, v58), (27, .int .i64 (c.week.length : Int)), (28, .int .i64 (k64 : Int))]) ∧ Hp w.heap.size i.2 w' (obS (α := cal_Shift) 110 i.1 s72 :: []) ∧ Tr w.heap.size A w33 i.2 w') (fun a ha => ⟨(.slice none 0 0, A), ha.sub ⟨rfl, rfl, rfl, rfl, rfl, trivial⟩, ⟨hH, Tr.refl hA⟩⟩) ?_
      rintro K k64 s72 a w73 ⟨⟨v74, A76⟩, ha144, hH77, hr63⟩ hle81 K84 h83
      refine C_of ?_ ha144
      replace h60 := Sl.tr h60 hr63
      replace hK := Tr.trans hK hr63
      replace hB := Nat.le_trans hB hr63.ex.size
      replace hA := hr63.new
      replace hH : Hp w.heap.size A76 w73 (obS (α := cal_Shift) 110 v74 s72 :: []) := hH77
      refine C_seq (C_region (V_y (Y_lss rfl rfl) rfl rfl rfl (V_to (fun _ _ => rfl) ?_)))
      refine C_seq ?_
      refine C_cond rfl (fun hc86 => ?_) (fun hc86 => ?_)
      · have hlt82 := lt_of_dec hc86
        obtain ⟨x78, h79, h80⟩ := K84 hlt82
        refine C_skip_to (fun _ _ => rfl) ?_
        refine C_seq ?_
        obtain ⟨s88, ho87, h79⟩ := Option.bind_eq_some_iff.1 h79
        refine C_cutG (ι := (Value × (Nat → Prop))) (fun ⟨v90, A95⟩ => [(1, .int .i64 day), (7, v90), (26, v58), (27, .int .i64 (c.week.length : Int)), (28, .int .i64 (k64 : Int))]) (fun ⟨v90, A95⟩ => fun w' => Hp w.heap.size A95 w' (obS (α := cal_Shift) 110 v90 s88 :: []) ∧ Tr w.heap.size A76 w73 A95 w') ?_ ?_
        · have hr89 : Tr w.heap.size A76 w73 A76 w73 := Tr.refl hA
          refine C_block ?_
          refine C_seq ?_
          refine C_region ?_
          obtain ⟨x97, hx97, ho87⟩ := Option.bind_eq_some_iff.1 ho87
          refine V_indexAddr h60 hx97 Try.underlying25 Try.sizeOf110 rfl rfl rfl ?_
          intro b98 o99 h100
          obtain ⟨h101, _⟩ := El_cal_Shift h100
          refine V_y (Y_loadA h101 Try.isAgg110 Try.sizeOf110 rfl) rfl rfl rfl ?_
          refine V_alloc Try.zeroValue110 rfl ?_
          intro b102 w103 h104
          refine V_storeNew h104 Try.sizeOf110 rfl rfl rfl rfl (by exact (List.forall_mem_cons.2 ⟨rfl, (List.forall_mem_cons.2 ⟨rfl, (List.forall_mem_cons.2 ⟨rfl, (fun _ h => nomatch h)⟩)⟩)⟩)) ?_
          intro w105 h106
          have hk108 := h106.kp
          have h107 : El (α := cal_Shift) A76 w105 b102 0 x97 := h106.el hA ⟨[.int .i64 x97.day], _, rfl, rfl, ⟨[.int .i64 x97.from_], _, rfl, rfl, rfl⟩⟩
          have ht109 := Kp.tr hk108 hA hB
          replace hH := Hp.kp hH hk108
          replace h60 := Sl.tr h60 ht109
          replace h100 := El.tr h100 ht109
          replace hK := Tr.trans hK ht109
          replace hr63 := Tr.trans hr63 ht109
          replace hr89 := Tr.trans hr89 ht109
          replace hB := Nat.le_trans hB ht109.ex.size
          replace hA := ht109.new
          refine V_to (fun _ _ => rfl) ?_
          refine C_seq ?_
          refine C_region_q Try_mixed (by kernel_rfl) ?_
          have h110 := El_cal_Shift_0 h107
          refine VQ_y (fun w' hw' => Y_fieldAddr Try.underlying110 rfl Try.sizeOf3 (by decide) rfl) rfl rfl rfl ?_
          refine VQ_y (fun w' hw' => Y_load (El.int (El.kp h110 hw')) Try.isAgg3 rfl) rfl rfl rfl ?_
          refine VQ_y (fun w' hw' => Y_move rfl) rfl rfl rfl ?_
          refine VQ_y (fun w' hw' => Y_move rfl) rfl rfl rfl ?_
          obtain ⟨x111, hx111, ho87⟩ := Option.bind_eq_some_iff.1 ho87
          refine VQ_call (.int .i64 x111) Try.call109 rfl rfl rfl rfl (fun w' hw' => (cal_floor_c w' day 7 hx111).mono (fun _ _ h => ⟨h.1, h.2 ▸ hw'⟩)) ?_
          refine VQ_y (fun w' hw' => Y_mulI rfl rfl) rfl rfl rfl ?_
          refine VQ_y (fun w' hw' => Y_subI rfl rfl) rfl rfl rfl ?_
          refine VQ_y (fun w' hw' => Y_eql rfl rfl) rfl rfl rfl ?_
          refine VQ_to (fun _ _ => rfl) (fun w112 hk113 => ?_)
          have ht114 := Kp.tr hk113 hA hB
          replace hH := Hp.kp hH hk113
          replace h60 := Sl.tr h60 ht114
          replace h107 := El.tr h107 ht114
          replace hK := Tr.trans hK ht114
          replace hr63 := Tr.trans hr63 ht114
          replace hr89 := Tr.trans hr89 ht114
          replace hB := Nat.le_trans hB ht114.ex.size
          replace hA := ht114.new
          obtain ⟨s116, ho115, ho87⟩ := Option.bind_eq_some_iff.1 ho87
          refine C_cutG (ι := (Value × (Nat → Prop))) (fun ⟨v118, A123⟩ => [(1, .int .i64 day), (7, v118), (26, v58), (27, .int .i64 (c.week.length : Int)), (28, .int .i64 (k64 : Int))]) (fun ⟨v118, A123⟩ => fun w' => Hp w.heap.size A123 w' (obS (α := cal_Shift) 110 v118 s116 :: []) ∧ Tr w.heap.size A76 w112 A123 w') ?_ ?_
          · have hr117 : Tr w.heap.size A76 w112 A76 w112 := Tr.refl hA
            refine C_cond rfl (fun hc125 => ?_) (fun hc125 => ?_)
            · rw [if_pos hc125] at ho115
              refine C_region ?_
              refine V_y (Y_move rfl) rfl rfl rfl ?_
              have h126 := El_cal_Shift_1 h107
              refine V_y (Y_fieldAddr Try.underlying110 rfl Try.sizeOf3 (by decide) rfl) rfl rfl rfl ?_
              refine V_y (Y_load (El.int h126) Try.isAgg3 rfl) rfl rfl rfl ?_
              have h127 := El_cal_Shift_2 h107
              refine V_y (Y_fieldAddr Try.underlying110 rfl Try.sizeOf3 (by decide) rfl) rfl rfl rfl ?_
              refine V_y (Y_load (El.int h127) Try.isAgg3 rfl) rfl rfl rfl ?_
              refine V_y (Y_build Try.underlying110 Try.zeroValue110 (Try_places110 _ Try.underlying110) rfl (by with_unfolding_all rfl)) rfl rfl rfl ?_
              refine V_buildSlice (l := ([(⟨0, x97.from_, x97.to_⟩ : cal_Shift)] : List cal_Shift)) (len := 1) Try.underlying25 Try.sizeOf110 Try.zeroValue110 rfl (by with_unfolding_all rfl) (by decide) (by decide) hA ⟨[.int .i64 0, .int .i64 x97.from_, .int .i64 x97.to_], _, rfl, ⟨[.int .i64 0], _, rfl, rfl, ⟨[.int .i64 x97.from_], _, rfl, rfl, rfl⟩⟩, rfl⟩ rfl rfl ?_
              intro v128 w129 hk131 h130
              have ht132 := Kp.tr hk131 hA hB
              replace hH := Hp.kp hH hk131
              replace h60 := Sl.tr h60 ht132
              replace h107 := El.tr h107 ht132
              replace h126 := El.tr h126 ht132
              replace h127 := El.tr h127 ht132
              replace hK := Tr.trans hK ht132
              replace hr63 := Tr.trans hr63 ht132
              replace hr89 := Tr.trans hr89 ht132
              replace hr117 := Tr.trans hr117 ht132
              replace hB := Nat.le_trans hB ht132.ex.size
              replace hA := ht132.new
              obtain ⟨x133, hx133, ho115⟩ := Option.bind_eq_some_iff.1 ho115
              refine V_appendH (e := 110) (v := v74) (l := s72) (ti := Try.t110) (bytes := 24) (lim := 5864062014805) hH (i := 0) rfl h130 hx133 Try.underlying25 Try_info110 rfl rfl rfl rfl (by decide) (by decide) (by decide) hB hA rfl rfl rfl ?_
              intro v134 w135 A136 hH137 ht138
              replace h60 := Sl.tr h60 ht138
              replace h107 := El.tr h107 ht138
              replace h126 := El.tr h126 ht138
              replace h127 := El.tr h127 ht138
              replace h130 := Sl.tr h130 ht138
              replace hK := Tr.trans hK ht138
              replace hr63 := Tr.trans hr63 ht138
              replace hr89 := Tr.trans hr89 ht138
              replace hr117 := Tr.trans hr117 ht138
              replace hB := Nat.le_trans hB ht138.ex.size
              replace hA := ht138.new
              replace hH : Hp w.heap.size A136 w135 (obS (α := cal_Shift) 110 v134 x133 :: []) := hH137
              refine V_y (Y_assign rfl) rfl rfl rfl ?_
              obtain rfl := Option.some.inj ho115
              refine V_end (fun a ha139 => ?_)
              exact ⟨(v134, A136), ha139.sub ⟨rfl, rfl, rfl, rfl, rfl, trivial⟩, ⟨hH, hr117⟩⟩
            · rw [if_neg (nt hc125)] at ho115
              obtain rfl := Option.some.inj ho115
              refine C_skip (fun a ha140 => ?_)
              exact ⟨(v74, A76), ha140.sub ⟨rfl, rfl, rfl, rfl, rfl, trivial⟩, ⟨hH, hr117⟩⟩
          rintro ⟨v118, A123⟩ w120 ⟨hH124, hk121⟩ a ha122
          replace h60 := Sl.tr h60 hk121
          replace hK := Tr.trans hK hk121
          replace hr63 := Tr.trans hr63 hk121
          replace hr89 := Tr.trans hr89 hk121
          replace hB := Nat.le_trans hB hk121.ex.size
          replace hA := hk121.new
          replace hH : Hp w.heap.size A123 w120 (obS (α := cal_Shift) 110 v118 s116 :: []) := hH124
          obtain rfl := Option.some.inj ho87
          exact ⟨(v118, A123), ha122.sub ⟨rfl, rfl, rfl, rfl, rfl, trivial⟩, ⟨hH, hr89⟩⟩
        rintro ⟨v90, A95⟩ w92 ⟨hH96, hk93⟩ a ha94
        replace h60 := Sl.tr h60 hk93
        replace hK := Tr.trans hK hk93
        replace hr63 := Tr.trans hr63 hk93
        replace hB := Nat.le_trans hB hk93.ex.size
        replace hA := hk93.new
        replace hH : Hp w.heap.size A95 w92 (obS (α := cal_Shift) 110 v90 s88 :: []) := hH96
        refine C_at (n := ⟨50, [], none⟩) (fun _ _ => rfl) ?_ ha94
        refine C_region ?_
        refine V_y (Y_addI rfl rfl) rfl rfl rfl ?_
        refine V_y (Y_move rfl) rfl rfl rfl ?_
        obtain rfl := Option.some.inj h79
        refine V_end (fun a ha142 => ?_)
        exact ⟨s88, hlt82, h80, ⟨(v90, A95), ha142.sub ⟨rfl, rfl, rfl, rfl, (congrArg (fun z => some (Value.int .i64 z)) (w64_succ hlt82 hn85)), trivial⟩, ⟨hH, hr63⟩⟩⟩
      · refine C_exit (fun a ha143 => ?_)
        exact ⟨(s72, v74, A76), ha143.sub ⟨rfl, trivial⟩, ⟨(h83 (eq_of_dec hle81 hc86)).symm, hH, hr63⟩⟩
    rintro ⟨s62, v68, A70⟩ w65 ⟨rfl, hH71, hk66⟩ a ha67
    rw [Lp.andThen_fin] at hm
    replace hK := Tr.trans hK hk66
    replace hB := Nat.le_trans hB hk66.ex.size
    replace hA := hk66.new
    replace hH : Hp w.heap.size A70 w65 (obS (α := cal_Shift) 110 v68 s62 :: []) := hH71
    refine C_at (n := ⟨50, [], none⟩) (fun _ _ => rfl) ?_ ha67
    refine C_seq ?_
    refine C_region ?_
    refine V_y (Y_move rfl) rfl rfl rfl ?_
    refine V_y (Y_assign rfl) rfl rfl rfl ?_
    refine V_to (fun _ _ => rfl) ?_
    obtain rfl := Option.some.inj hm
    refine C_ret ?_
    try simp only [↓inBlock_ret, ↓then_ret]
    exact retQ rfl (Res.one Try.results108 rfl) ⟨v68, rfl, (Hp.ownd hH (i := 0) rfl), hK.kp⟩

set_option maxRecDepth 4000 in
set_option maxHeartbeats 4000000 in
theorem cal_Calendar_shifts_1_1_c (w : World) {A : Nat → Prop} {B : Nat} (hB : B ≤ w.heap.size) (hA : ∀ b, w.heap.size ≤ b → A b) (day : Int) (p1 : cal_Calendar) (b_p1 : Nat) (h_p1 : El A w b_p1 0 p1) (p2 : cal_part) (b_p2 : Nat) (h_p2 : El A w b_p2 0 p2) (p3 : Int) (b_p3 : Nat) (h_p3 : El A w b_p3 0 p3) (p4 : Int) (b_p4 : Nat) (h_p4 : El A w b_p4 0 p4) {p5_S : Type} (p5 : cal_Span → p5_S → Option (Bool × p5_S)) (p5_Y : p5_S → Ob) (p5_v : Value) (p5_one : p5_v.cells.toList = [p5_v]) (p5_s : p5_S) (p5_spec : ∀ (w2 : World) (A2 : Nat → Prop) (L2 : List Ob) (x : cal_Span) (z : p5_S) (b : Bool) (z2 : p5_S), B ≤ w2.heap.size → (∀ b, w2.heap.size ≤ b → A2 b) → Tr B A w A2 w2 → Hp B A2 w2 (p5_Y z :: L2) → p5 x z = some (b, z2) → CallV Try.prog p5_v [.agg #[.int .i64 x.from_, .int .i64 x.to_]] w2 fun v w3 => v = .bool b ∧ ∃ A3, Tr B A2 w2 A3 w3 ∧ Hp B A3 w3 (p5_Y z2 :: L2)) (b_p5 : Nat) (h_p5 : Vb A w b_p5 p5_v) {L : List Ob} (hH : Hp B A w (p5_Y p5_s :: L)) {r : (Bool × p5_S)} (hm : cal_Calendar_shifts_1_1 day p1 p2 p3 p4 p5 p5_s = some r) : Ret Try.prog 107 #[.int .i64 day, .pointer (some ⟨b_p1, 0, none⟩), .pointer (some ⟨b_p2, 0, none⟩), .pointer (some ⟨b_p3, 0, none⟩), .pointer (some ⟨b_p4, 0, none⟩), .pointer (some ⟨b_p5, 0, none⟩)] w fun v w' => ∃ A1 : Nat → Prop, v = .bool r.1 ∧ Hp B A1 w' (p5_Y r.2 :: L) ∧ Tr B A w A1 w' := by
  unfold cal_Calendar_shifts_1_1 at hm
  refine enter Try.func107 rfl Try.ntmps107 rfl ?_
  have hK : Tr B A w A w := Tr.refl hA
  refine C_seq ?_
  refine C_region ?_
  refine V_y (Y_assign rfl) rfl rfl rfl ?_
  refine V_to (fun _ _ => rfl) ?_
  refine C_seq ?_
  refine C_seq ?_
  refine C_region ?_
  obtain ⟨v1, v3, v5, h7, h2, h4, h6⟩ := El_cal_Calendar h_p1
  refine V_y (Y_loadA h7 Try.isAgg28 Try.sizeOf28 rfl) rfl rfl rfl ?_
  refine V_y (Y_move rfl) rfl rfl rfl ?_
  obtain ⟨x8, hx8, hm⟩ := Option.bind_eq_some_iff.1 hm
  refine V_call Try.call108 rfl rfl rfl rfl (cal_Calendar_shiftsOf_c w hA p1 v1 h2 v3 h4 v5 h6 day hx8) ?_
  rintro v9 w11 ⟨_, rfl, h10, hk12⟩
  obtain ⟨A13, ht14, hH15⟩ := Hp.addOwnd hH hB hA hk12 h10
  replace h_p1 := El.tr h_p1 ht14
  replace h_p2 := El.tr h_p2 ht14
  replace h_p3 := El.tr h_p3 ht14
  replace h_p4 := El.tr h_p4 ht14
  replace h_p5 := Vb.tr h_p5 ht14
  replace h2 := Sl.tr h2 ht14
  replace h4 := Sl.tr h4 ht14
  replace h6 := Sl.tr h6 ht14
  replace hK := Tr.trans hK ht14
  replace hB := Nat.le_trans hB ht14.ex.size
  replace hA := ht14.new
  replace hH : Hp B A13 w11 (obS (α := cal_Shift) 110 v9 x8 :: p5_Y p5_s :: L) := hH15
  refine V_y (Y_lenSl (Hp.any (α := cal_Shift) (e := 110) (v := v9) (l := x8) hH (i := 0) rfl) rfl Try.underlying25 rfl) rfl rfl rfl ?_
  refine V_y (Y_move rfl) rfl rfl rfl ?_
  refine V_to (fun _ _ => rfl) ?_
  have hn36 := Hp.le (α := cal_Shift) (e := 110) (v := v9) (l := x8) hH (i := 0) rfl
  obtain ⟨o16, ho16, hm⟩ := Option.bind_eq_some_iff.1 hm
  refine C_cutG (ι := (p5_S × (Nat → Prop))) (fun ⟨s17, A23⟩ => []) (fun ⟨s17, A23⟩ => fun w' => o16 = .fin s17 ∧ Hp B A23 w' (obS (α := cal_Shift) 110 v9 x8 :: p5_Y s17 :: L) ∧ Tr B A13 w11 A23 w') ?_ ?_
  · refine C_block ?_
    refine C_range ho16 (fun k19 s25 a w' => ∃ i : (Nat → Prop), Has ⟨50, [], none⟩ a ([(0, .int .i64 day), (2, .pointer (some ⟨b_p2, 0, none⟩)), (3, .pointer (some ⟨b_p3, 0, none⟩)), (4, .pointer (some ⟨b_p4, 0, none⟩)), (5, .pointer (some ⟨b_p5, 0, none⟩)), (14, v9), (15, .int .i64 (x8.length : Int)), (16, .int .i64 (k19 : Int))]) ∧ Hp B i w' (obS (α := cal_Shift) 110 v9 x8 :: p5_Y s25 :: L) ∧ Tr B A13 w11 i w') (fun a ha => ⟨A13, ha.sub ⟨rfl, rfl, rfl, rfl, rfl, rfl, rfl, rfl, trivial⟩, ⟨hH, Tr.refl hA⟩⟩) ?_
    rintro K k19 s25 a w26 ⟨A27, ha85, hH28, hr18⟩ hle32 K35 h34
    refine C_of ?_ ha85
    replace h_p2 := El.tr h_p2 hr18
    replace h_p3 := El.tr h_p3 hr18
    replace h_p4 := El.tr h_p4 hr18
    replace h_p5 := Vb.tr h_p5 hr18
    replace hK := Tr.trans hK hr18
    replace hB := Nat.le_trans hB hr18.ex.size
    replace hA := hr18.new
    replace hH : Hp B A27 w26 (obS (α := cal_Shift) 110 v9 x8 :: p5_Y s25 :: L) := hH28
    refine C_seq (C_region (V_y (Y_lss rfl rfl) rfl rfl rfl (V_to (fun _ _ => rfl) ?_)))
    refine C_seq ?_
    refine C_cond rfl (fun hc37 => ?_) (fun hc37 => ?_)
    · have hlt33 := lt_of_dec hc37
      obtain ⟨x29, h30, h31⟩ := K35 hlt33
      refine C_skip_to (fun _ _ => rfl) ?_
      refine C_seq ?_
      refine C_block ?_
      refine C_seq ?_
      refine C_region ?_
      obtain ⟨x38, hx38, h30⟩ := Option.bind_eq_some_iff.1 h30
      refine V_indexAddrH (α := cal_Shift) (e := 110) (v := v9) (l := x8) hH (i := 0) rfl hx38 Try.underlying25 Try.sizeOf110 rfl rfl rfl ?_
      intro b39 o40 h41 hl42
      obtain ⟨h43, _⟩ := El_cal_Shift h41
      refine V_y (Y_loadA h43 Try.isAgg110 Try.sizeOf110 rfl) rfl rfl rfl ?_
      refine V_alloc Try.zeroValue110 rfl ?_
      intro b44 w45 h46
      refine V_storeNew h46 Try.sizeOf110 rfl rfl rfl rfl (by exact (List.forall_mem_cons.2 ⟨rfl, (List.forall_mem_cons.2 ⟨rfl, (List.forall_mem_cons.2 ⟨rfl, (fun _ h => nomatch h)⟩)⟩)⟩)) ?_
      intro w47 h48
      have hk50 := h48.kp
      have h49 : El (α := cal_Shift) A27 w47 b44 0 x38 := h48.el hA ⟨[.int .i64 x38.day], _, rfl, rfl, ⟨[.int .i64 x38.from_], _, rfl, rfl, rfl⟩⟩
      have ht51 := Kp.tr hk50 hA hB
      replace hH := Hp.kp hH hk50
      replace h_p2 := El.tr h_p2 ht51
      replace h_p3 := El.tr h_p3 ht51
      replace h_p4 := El.tr h_p4 ht51
      replace h_p5 := Vb.tr h_p5 ht51
      replace h41 := El.kp h41 hk50
      replace hK := Tr.trans hK ht51
      replace hr18 := Tr.trans hr18 ht51
      replace hB := Nat.le_trans hB ht51.ex.size
      replace hA := ht51.new
      refine V_to (fun _ _ => rfl) ?_
      refine C_seq ?_
      refine C_region ?_
      refine V_y (Y_move rfl) rfl rfl rfl ?_
      refine V_y (Y_mulI rfl rfl) rfl rfl rfl ?_
      have h52 := El_cal_part_2 h_p2
      refine V_y (Y_fieldAddr Try.underlying139 rfl Try.sizeOf3 (by decide) rfl) rfl rfl rfl ?_
      refine V_y (Y_load (El.int h52) Try.isAgg3 rfl) rfl rfl rfl ?_
      refine V_y (Y_subI rfl rfl) rfl rfl rfl ?_
      refine V_y (Y_assign rfl) rfl rfl rfl ?_
      refine V_to (fun _ _ => rfl) ?_
      refine C_seq ?_
      refine C_region ?_
      refine V_y (Y_load (El.int h_p3) Try.isAgg3 rfl) rfl rfl rfl ?_
      refine V_y (Y_move rfl) rfl rfl rfl ?_
      have h53 := El_cal_Shift_1 h49
      refine V_y (Y_fieldAddr Try.underlying110 rfl Try.sizeOf3 (by decide) rfl) rfl rfl rfl ?_
      refine V_y (Y_load (El.int h53) Try.isAgg3 rfl) rfl rfl rfl ?_
      refine V_y (Y_addI rfl rfl) rfl rfl rfl ?_
      refine V_y (Y_max2 rfl rfl) rfl rfl rfl ?_
      refine V_y (Y_load (El.int h_p4) Try.isAgg3 rfl) rfl rfl rfl ?_
      refine V_y (Y_move rfl) rfl rfl rfl ?_
      have h54 := El_cal_Shift_2 h49
      refine V_y (Y_fieldAddr Try.underlying110 rfl Try.sizeOf3 (by decide) rfl) rfl rfl rfl ?_
      refine V_y (Y_load (El.int h54) Try.isAgg3 rfl) rfl rfl rfl ?_
      refine V_y (Y_addI rfl rfl) rfl rfl rfl ?_
      refine V_y (Y_min2 rfl rfl) rfl rfl rfl ?_
      refine V_y (Y_build Try.underlying48 Try.zeroValue48 (Try_places48 _ Try.underlying48) rfl (by with_unfolding_all rfl)) rfl rfl rfl ?_
      refine V_alloc Try.zeroValue48 rfl ?_
      intro b55 w56 h57
      refine V_storeNew h57 Try.sizeOf48 rfl rfl rfl rfl (by exact (List.forall_mem_cons.2 ⟨rfl, (List.forall_mem_cons.2 ⟨rfl, (fun _ h => nomatch h)⟩)⟩)) ?_
      intro w58 h59
      have hk61 := h59.kp
      have h60 : El (α := cal_Span) A27 w58 b55 0 (⟨(if p3 < w64 ((w64 ((w64 (day * 1440)) - p2.offset)) + x38.from_) then w64 ((w64 ((w64 (day * 1440)) - p2.offset)) + x38.from_) else p3), (if w64 ((w64 ((w64 (day * 1440)) - p2.offset)) + x38.to_) < p4 then w64 ((w64 ((w64 (day * 1440)) - p2.offset)) + x38.to_) else p4)⟩ : cal_Span) := h59.el hA ⟨[.int .i64 (if p3 < w64 ((w64 ((w64 (day * 1440)) - p2.offset)) + x38.from_) then w64 ((w64 ((w64 (day * 1440)) - p2.offset)) + x38.from_) else p3)], _, rfl, rfl, rfl⟩
      have ht62 := Kp.tr hk61 hA hB
      replace hH := Hp.kp hH hk61
      replace h_p2 := El.tr h_p2 ht62
      replace h_p3 := El.tr h_p3 ht62
      replace h_p4 := El.tr h_p4 ht62
      replace h_p5 := Vb.tr h_p5 ht62
      replace h49 := El.tr h49 ht62
      replace h53 := El.tr h53 ht62
      replace h54 := El.tr h54 ht62
      replace hK := Tr.trans hK ht62
      replace hr18 := Tr.trans hr18 ht62
      replace hB := Nat.le_trans hB ht62.ex.size
      replace hA := ht62.new
      refine V_to (fun _ _ => rfl) ?_
      refine C_seq ?_
      obtain ⟨s64, ho63, h30⟩ := Option.bind_eq_some_iff.1 h30
      refine C_cutG (ι := (Nat → Prop)) (fun (A69 : (Nat → Prop)) => [(0, .int .i64 day), (2, .pointer (some ⟨b_p2, 0, none⟩)), (3, .pointer (some ⟨b_p3, 0, none⟩)), (4, .pointer (some ⟨b_p4, 0, none⟩)), (5, .pointer (some ⟨b_p5, 0, none⟩)), (14, v9), (15, .int .i64 (x8.length : Int)), (16, .int .i64 (k19 : Int)), (48, .bool s64.1)]) (fun (A69 : (Nat → Prop)) => fun w' => Hp B A69 w' (obS (α := cal_Shift) 110 v9 x8 :: p5_Y s64.2 :: L) ∧ Tr B A27 w58 A69 w') ?_ ?_
      · have hr65 : Tr B A27 w58 A27 w58 := Tr.refl hA
        refine C_region ?_
        have h71 := El_cal_Span_0 h60
        refine V_y (Y_fieldAddr Try.underlying48 rfl Try.sizeOf3 (by decide) rfl) rfl rfl rfl ?_
        refine V_y (Y_load (El.int h71) Try.isAgg3 rfl) rfl rfl rfl ?_
        have h72 := El_cal_Span_1 h60
        refine V_y (Y_fieldAddr Try.underlying48 rfl Try.sizeOf3 (by decide) rfl) rfl rfl rfl ?_
        refine V_y (Y_load (El.int h72) Try.isAgg3 rfl) rfl rfl rfl ?_
        refine V_y (Y_lss rfl rfl) rfl rfl rfl ?_
        refine V_y (Y_move rfl) rfl rfl rfl ?_
        rcases Bool.eq_false_or_eq_true (decide (((⟨(if p3 < w64 ((w64 ((w64 (day * 1440)) - p2.offset)) + x38.from_) then w64 ((w64 ((w64 (day * 1440)) - p2.offset)) + x38.from_) else p3), (if w64 ((w64 ((w64 (day * 1440)) - p2.offset)) + x38.to_) < p4 then w64 ((w64 ((w64 (day * 1440)) - p2.offset)) + x38.to_) else p4)⟩ : cal_Span).from_) < ((⟨(if p3 < w64 ((w64 ((w64 (day * 1440)) - p2.offset)) + x38.from_) then w64 ((w64 ((w64 (day * 1440)) - p2.offset)) + x38.from_) else p3), (if w64 ((w64 ((w64 (day * 1440)) - p2.offset)) + x38.to_) < p4 then w64 ((w64 ((w64 (day * 1440)) - p2.offset)) + x38.to_) else p4)⟩ : cal_Span).to_))) with hc73 | hc73
        · rw [if_pos hc73] at ho63
          refine V_ge rfl rfl rfl hc73 ?_
          refine V_y (Y_load h_p5.2.2 Try.isAgg119 rfl) rfl rfl rfl ?_
          refine V_ge rfl rfl rfl hc73 ?_
          obtain ⟨h74, _⟩ := El_cal_Span h60
          refine V_y (Y_loadA h74 Try.isAgg48 Try.sizeOf48 rfl) rfl rfl rfl ?_
          refine V_ge rfl rfl rfl hc73 ?_
          obtain ⟨x75, hx75, ho63⟩ := Option.bind_eq_some_iff.1 ho63
          replace hH : Hp B A27 w58 (p5_Y s25 :: obS (α := cal_Shift) 110 v9 x8 :: L) := Hp.front hH (i := 1) rfl
          refine V_callV rfl rfl rfl (p5_spec w58 _ _ (⟨(if p3 < w64 ((w64 ((w64 (day * 1440)) - p2.offset)) + x38.from_) then w64 ((w64 ((w64 (day * 1440)) - p2.offset)) + x38.from_) else p3), (if w64 ((w64 ((w64 (day * 1440)) - p2.offset)) + x38.to_) < p4 then w64 ((w64 ((w64 (day * 1440)) - p2.offset)) + x38.to_) else p4)⟩ : cal_Span) _ x75.1 x75.2 hB hA hK hH hx75) ?_
          rintro _ w76 ⟨rfl, A77, ht79, hH78⟩
          replace h_p2 := El.tr h_p2 ht79
          replace h_p3 := El.tr h_p3 ht79
          replace h_p4 := El.tr h_p4 ht79
          replace h_p5 := Vb.tr h_p5 ht79
          replace h60 := El.tr h60 ht79
          replace h71 := El.tr h71 ht79
          replace h72 := El.tr h72 ht79
          replace hK := Tr.trans hK ht79
          replace hr18 := Tr.trans hr18 ht79
          replace hr65 := Tr.trans hr65 ht79
          replace hB := Nat.le_trans hB ht79.ex.size
          replace hA := ht79.new
          replace hH : Hp B A77 w76 (p5_Y x75.2 :: obS (α := cal_Shift) 110 v9 x8 :: L) := hH78
          refine V_ge rfl rfl rfl hc73 ?_
          refine V_y (Y_not rfl) rfl rfl rfl ?_
          refine V_y (Y_pick_te rfl hc73 rfl) rfl rfl rfl ?_
          obtain rfl := Option.some.inj ho63
          refine V_end (fun a ha80 => ?_)
          replace hH : Hp B A77 w76 (obS (α := cal_Shift) 110 v9 x8 :: p5_Y x75.2 :: L) := Hp.front hH (i := 1) rfl
          exact ⟨A77, ha80.sub ⟨rfl, rfl, rfl, rfl, rfl, rfl, rfl, rfl, rfl, trivial⟩, ⟨hH, hr65⟩⟩
        · rw [if_neg (nt hc73)] at ho63
          refine V_gn rfl rfl rfl hc73 rfl rfl rfl ?_
          refine V_gn rfl rfl rfl hc73 rfl rfl rfl ?_
          refine V_gn rfl rfl rfl hc73 rfl rfl rfl ?_
          refine V_gn rfl rfl rfl hc73 rfl rfl rfl ?_
          refine V_y (Y_pick_fe rfl hc73 rfl) rfl rfl rfl ?_
          obtain rfl := Option.some.inj ho63
          refine V_end (fun a ha81 => ?_)
          exact ⟨A27, ha81.sub ⟨rfl, rfl, rfl, rfl, rfl, rfl, rfl, rfl, rfl, trivial⟩, ⟨hH, hr65⟩⟩
      rintro A69 w66 ⟨hH70, hk67⟩ a ha68
      replace h_p2 := El.tr h_p2 hk67
      replace h_p3 := El.tr h_p3 hk67
      replace h_p4 := El.tr h_p4 hk67
      replace h_p5 := Vb.tr h_p5 hk67
      replace hK := Tr.trans hK hk67
      replace hr18 := Tr.trans hr18 hk67
      replace hB := Nat.le_trans hB hk67.ex.size
      replace hA := hk67.new
      replace hH : Hp B A69 w66 (obS (α := cal_Shift) 110 v9 x8 :: p5_Y s64.2 :: L) := hH70
      refine C_at (n := ⟨50, [], none⟩) (fun _ _ => rfl) ?_ ha68
      refine C_cond rfl (fun hc82 => ?_) (fun hc82 => ?_)
      · rw [if_pos hc82] at h30
        refine C_seq ?_
        refine C_region ?_
        refine V_y (Y_assign rfl) rfl rfl rfl ?_
        refine V_to (fun _ _ => rfl) ?_
        obtain rfl := Option.some.inj h30
        obtain rfl := (h31 : Lp.rt _ = _)
        rw [Lp.andThen_rt] at hm
        obtain rfl := Option.some.inj hm
        replace hH : Hp B A69 w66 (p5_Y s64.2 :: obS (α := cal_Shift) 110 v9 x8 :: L) := Hp.front hH (i := 1) rfl
        replace hH : Hp B A69 w66 (p5_Y s64.2 :: L) := Hp.drop hH (i := 1) rfl
        refine C_ret ?_
        try simp only [↓inBlock_ret, ↓then_ret]
        exact retQ rfl (Res.one Try.results107 rfl) ⟨A69, rfl, hH, hK⟩
      · rw [if_neg (nt hc82)] at h30
        refine C_skip_to (fun _ _ => rfl) ?_
        refine C_region ?_
        refine V_y (Y_addI rfl rfl) rfl rfl rfl ?_
        refine V_y (Y_move rfl) rfl rfl rfl ?_
        obtain rfl := Option.some.inj h30
        refine V_end (fun a ha83 => ?_)
        exact ⟨s64.2, hlt33, h31, ⟨A69, ha83.sub ⟨rfl, rfl, rfl, rfl, rfl, rfl, rfl, (congrArg (fun z => some (Value.int .i64 z)) (w64_succ hlt33 hn36)), trivial⟩, ⟨hH, hr18⟩⟩⟩
    · refine C_exit (fun a ha84 => ?_)
      exact ⟨(s25, A27), ha84.sub trivial, ⟨(h34 (eq_of_dec hle32 hc37)).symm, hH, hr18⟩⟩
  rintro ⟨s17, A23⟩ w20 ⟨rfl, hH24, hk21⟩ a ha22
  rw [Lp.andThen_fin] at hm
  replace hK := Tr.trans hK hk21
  replace hB := Nat.le_trans hB hk21.ex.size
  replace hA := hk21.new
  replace hH : Hp B A23 w20 (obS (α := cal_Shift) 110 v9 x8 :: p5_Y s17 :: L) := hH24
  refine C_at (n := ⟨50, [], none⟩) (fun _ _ => rfl) ?_ ha22
  refine C_seq ?_
  refine C_region ?_
  refine V_y (Y_assign rfl) rfl rfl rfl ?_
  refine V_to (fun _ _ => rfl) ?_
  obtain rfl := Option.some.inj hm
  replace hH : Hp B A23 w20 (p5_Y s17 :: obS (α := cal_Shift) 110 v9 x8 :: L) := Hp.front hH (i := 1) rfl
  replace hH : Hp B A23 w20 (p5_Y s17 :: L) := Hp.drop hH (i := 1) rfl
  refine C_ret ?_
  try simp only [↓inBlock_ret, ↓then_ret]
  exact retQ rfl (Res.one Try.results107 rfl) ⟨A23, rfl, hH, hK⟩

end Go.Proofs.Ytpfoimbklbkcpaa.W
