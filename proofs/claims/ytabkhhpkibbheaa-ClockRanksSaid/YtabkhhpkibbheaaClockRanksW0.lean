import Derived.Test.YtabkhhpkibbheaaProg
import Derived.Test.YtabkhhpkibbheaaGe
import Derived.Test.YtabkhhpkibbheaaClockRanksM
import Derived.KernelRfl
import Derived.Test.YtabkhhpkibbheaaHk
import Derived.Test.YtabkhhpkibbheaaHe
namespace Go.Proofs.Ytabkhhpkibbheaa.W
open Go Go.RowKit Go.Pu Go.Gw Go.Proofs Go.Proofs.Ytabkhhpkibbheaa.M
set_option linter.unusedVariables false
set_option linter.unusedSimpArgs false
variable {Dw : Prop}
theorem Try_info3 : Try.prog.info? 3 = some Try.t3 := by kernel_rfl
theorem Try_info76 : Try.prog.info? 76 = some Try.t76 := by kernel_rfl
theorem Try_info106 : Try.prog.info? 106 = some Try.t106 := by kernel_rfl
theorem Try_info122 : Try.prog.info? 122 = some Try.t122 := by kernel_rfl
theorem Try_places75 : ∀ fs, Try.prog.underlying 75 = some (.struct fs) → ∀ w : World, (Array.mapM (fun (f : Field) => do pure (f.offset, ← Go.sizeOf f.type)) fs).run Try.prog w = .ok #[(0, 1)] w := by
 intro fs h w
 rw [Try.underlying75] at h
 cases h
 kernel_rfl
theorem Try_places88 : ∀ fs, Try.prog.underlying 88 = some (.struct fs) → ∀ w : World, (Array.mapM (fun (f : Field) => do pure (f.offset, ← Go.sizeOf f.type)) fs).run Try.prog w = .ok #[(0, 1), (1, 1)] w := by
 intro fs h w
 rw [Try.underlying88] at h
 cases h
 kernel_rfl
theorem Try_places102 : ∀ fs, Try.prog.underlying 102 = some (.struct fs) → ∀ w : World, (Array.mapM (fun (f : Field) => do pure (f.offset, ← Go.sizeOf f.type)) fs).run Try.prog w = .ok #[(0, 4), (4, 1)] w := by
 intro fs h w
 rw [Try.underlying102] at h
 cases h
 kernel_rfl
theorem Try_places106 : ∀ fs, Try.prog.underlying 106 = some (.struct fs) → ∀ w : World, (Array.mapM (fun (f : Field) => do pure (f.offset, ← Go.sizeOf f.type)) fs).run Try.prog w = .ok #[(0, 1), (1, 1), (2, 1)] w := by
 intro fs h w
 rw [Try.underlying106] at h
 cases h
 kernel_rfl
theorem Try_places122 : ∀ fs, Try.prog.underlying 122 = some (.struct fs) → ∀ w : World, (Array.mapM (fun (f : Field) => do pure (f.offset, ← Go.sizeOf f.type)) fs).run Try.prog w = .ok #[(0, 1), (1, 1), (2, 1)] w := by
 intro fs h w
 rw [Try.underlying122] at h
 cases h
 kernel_rfl
theorem Try_mixed : Try.prog.follows .mixedOrders = true := by kernel_rfl
instance : GoT cal_Change := GoT.of (β := Int × Int) fun x => (x.at_, x.offset)
instance : Flat cal_Change := ⟨fun {A w A1 w1 cs x} h => Flat.flat (α := Int × Int) (x := (x.at_, x.offset)) (A := A) (w := w) h⟩
theorem El_cal_Change_ {A : Nat → Prop} {w : World} {b off : Nat} {x : cal_Change} (h : El A w b off x) : El (α := Int × Int) A w b off (x.at_, x.offset) := h
theorem El_cal_Change_0 {A : Nat → Prop} {w : World} {b off : Nat} {x : cal_Change} (h : El A w b off x) : El A w b (off + 0) x.at_ := El.fst (El_cal_Change_ h)
theorem El_cal_Change_1 {A : Nat → Prop} {w : World} {b off : Nat} {x : cal_Change} (h : El A w b off x) : El A w b (off + 1) x.offset := El.snd (El_cal_Change_ h)
theorem El_cal_Change {A : Nat → Prop} {w : World} {b off : Nat} {x : cal_Change} (h : El A w b off x) : At w b off [.int .i64 x.at_, .int .i64 x.offset] ∧ True := by
 obtain ⟨h1, h2, cs, h3, h4⟩ := h
 obtain ⟨_, _, rfl, rfl, rfl⟩ := h3
 exact ⟨h4, trivial⟩
instance : GoT cal_Zone := GoT.of (β := Int × (List cal_Change)) fun x => (x.offset, x.changes)
theorem El_cal_Zone_ {A : Nat → Prop} {w : World} {b off : Nat} {x : cal_Zone} (h : El A w b off x) : El (α := Int × (List cal_Change)) A w b off (x.offset, x.changes) := h
theorem El_cal_Zone_0 {A : Nat → Prop} {w : World} {b off : Nat} {x : cal_Zone} (h : El A w b off x) : El A w b (off + 0) x.offset := El.fst (El_cal_Zone_ h)
theorem El_cal_Zone_1 {A : Nat → Prop} {w : World} {b off : Nat} {x : cal_Zone} (h : El A w b off x) : El A w b (off + 1) x.changes := El.snd (El_cal_Zone_ h)
theorem El_cal_Zone {A : Nat → Prop} {w : World} {b off : Nat} {x : cal_Zone} (h : El A w b off x) : ∃ v1, At w b off [.int .i64 x.offset, v1] ∧ Sl A w v1 x.changes := by
 obtain ⟨h1, h2, cs, h3, h4⟩ := h
 obtain ⟨_, _, rfl, rfl, ⟨u1, rfl, g1⟩⟩ := h3
 exact ⟨u1, h4, g1⟩
instance : GoT cal_Shift := GoT.of (β := Int × Int × Int) fun x => (x.day, x.from_, x.to_)
instance : Flat cal_Shift := ⟨fun {A w A1 w1 cs x} h => Flat.flat (α := Int × Int × Int) (x := (x.day, x.from_, x.to_)) (A := A) (w := w) h⟩
theorem El_cal_Shift_ {A : Nat → Prop} {w : World} {b off : Nat} {x : cal_Shift} (h : El A w b off x) : El (α := Int × Int × Int) A w b off (x.day, x.from_, x.to_) := h
theorem El_cal_Shift_0 {A : Nat → Prop} {w : World} {b off : Nat} {x : cal_Shift} (h : El A w b off x) : El A w b (off + 0) x.day := El.fst (El_cal_Shift_ h)
theorem El_cal_Shift_1 {A : Nat → Prop} {w : World} {b off : Nat} {x : cal_Shift} (h : El A w b off x) : El A w b (off + 1) x.from_ := El.fst (El.snd (El_cal_Shift_ h))
theorem El_cal_Shift_2 {A : Nat → Prop} {w : World} {b off : Nat} {x : cal_Shift} (h : El A w b off x) : El A w b (off + 2) x.to_ := El.snd (El.snd (El_cal_Shift_ h))
theorem El_cal_Shift {A : Nat → Prop} {w : World} {b off : Nat} {x : cal_Shift} (h : El A w b off x) : At w b off [.int .i64 x.day, .int .i64 x.from_, .int .i64 x.to_] ∧ True := by
 obtain ⟨h1, h2, cs, h3, h4⟩ := h
 obtain ⟨_, _, rfl, rfl, ⟨_, _, rfl, rfl, rfl⟩⟩ := h3
 exact ⟨h4, trivial⟩
instance : GoT cal_Special := GoT.of (β := Int × (List cal_Shift)) fun x => (x.day, x.shifts)
theorem El_cal_Special_ {A : Nat → Prop} {w : World} {b off : Nat} {x : cal_Special} (h : El A w b off x) : El (α := Int × (List cal_Shift)) A w b off (x.day, x.shifts) := h
theorem El_cal_Special_0 {A : Nat → Prop} {w : World} {b off : Nat} {x : cal_Special} (h : El A w b off x) : El A w b (off + 0) x.day := El.fst (El_cal_Special_ h)
theorem El_cal_Special_1 {A : Nat → Prop} {w : World} {b off : Nat} {x : cal_Special} (h : El A w b off x) : El A w b (off + 1) x.shifts := El.snd (El_cal_Special_ h)
theorem El_cal_Special {A : Nat → Prop} {w : World} {b off : Nat} {x : cal_Special} (h : El A w b off x) : ∃ v1, At w b off [.int .i64 x.day, v1] ∧ Sl A w v1 x.shifts := by
 obtain ⟨h1, h2, cs, h3, h4⟩ := h
 obtain ⟨_, _, rfl, rfl, ⟨u1, rfl, g1⟩⟩ := h3
 exact ⟨u1, h4, g1⟩
instance : GoT cal_Calendar := GoT.of (β := cal_Zone × (List cal_Shift) × (List cal_Special)) fun x => (x.zone, x.week, x.specials)
theorem El_cal_Calendar_ {A : Nat → Prop} {w : World} {b off : Nat} {x : cal_Calendar} (h : El A w b off x) : El (α := cal_Zone × (List cal_Shift) × (List cal_Special)) A w b off (x.zone, x.week, x.specials) := h
theorem El_cal_Calendar_0 {A : Nat → Prop} {w : World} {b off : Nat} {x : cal_Calendar} (h : El A w b off x) : El A w b (off + 0) x.zone := El.fst (El_cal_Calendar_ h)
theorem El_cal_Calendar_1 {A : Nat → Prop} {w : World} {b off : Nat} {x : cal_Calendar} (h : El A w b off x) : El A w b (off + 2) x.week := El.fst (El.snd (El_cal_Calendar_ h))
theorem El_cal_Calendar_2 {A : Nat → Prop} {w : World} {b off : Nat} {x : cal_Calendar} (h : El A w b off x) : El A w b (off + 3) x.specials := El.snd (El.snd (El_cal_Calendar_ h))
theorem El_cal_Calendar {A : Nat → Prop} {w : World} {b off : Nat} {x : cal_Calendar} (h : El A w b off x) : ∃ v1 v3 v5, At w b off [.int .i64 x.zone.offset, v1, v3, v5] ∧ Sl A w v1 x.zone.changes ∧ Sl A w v3 x.week ∧ Sl A w v5 x.specials := by
 obtain ⟨h1, h2, cs, h3, h4⟩ := h
 obtain ⟨_, _, rfl, ⟨_, _, rfl, rfl, ⟨u1, rfl, g1⟩⟩, ⟨_, _, rfl, ⟨u2, rfl, g2⟩, ⟨u3, rfl, g3⟩⟩⟩ := h3
 exact ⟨u1, u2, u3, h4, g1, g2, g3⟩
theorem Rep_cal_Calendar {A : Nat → Prop} {w : World} {cs : List Value} {x : cal_Calendar} (h : GoT.rep A w cs x) : ∃ v1 v3 v5, cs = [.int .i64 x.zone.offset, v1, v3, v5] ∧ Sl A w v1 x.zone.changes ∧ Sl A w v3 x.week ∧ Sl A w v5 x.specials := by
 obtain ⟨_, _, rfl, ⟨_, _, rfl, rfl, ⟨u1, rfl, g1⟩⟩, ⟨_, _, rfl, ⟨u2, rfl, g2⟩, ⟨u3, rfl, g3⟩⟩⟩ := h
 exact ⟨u1, u2, u3, rfl, g1, g2, g3⟩
instance : GoT portref2_meter := GoT.of (β := (List cal_Calendar)) fun x => (x.clocks)
instance : GoT level_Piece := GoT.of (β := Int × Int × Int) fun x => (x.from_, x.to_, x.calendar)
instance : Flat level_Piece := ⟨fun {A w A1 w1 cs x} h => Flat.flat (α := Int × Int × Int) (x := (x.from_, x.to_, x.calendar)) (A := A) (w := w) h⟩
theorem El_level_Piece_ {A : Nat → Prop} {w : World} {b off : Nat} {x : level_Piece} (h : El A w b off x) : El (α := Int × Int × Int) A w b off (x.from_, x.to_, x.calendar) := h
theorem El_level_Piece_0 {A : Nat → Prop} {w : World} {b off : Nat} {x : level_Piece} (h : El A w b off x) : El A w b (off + 0) x.from_ := El.fst (El_level_Piece_ h)
theorem El_level_Piece_1 {A : Nat → Prop} {w : World} {b off : Nat} {x : level_Piece} (h : El A w b off x) : El A w b (off + 1) x.to_ := El.fst (El.snd (El_level_Piece_ h))
theorem El_level_Piece_2 {A : Nat → Prop} {w : World} {b off : Nat} {x : level_Piece} (h : El A w b off x) : El A w b (off + 2) x.calendar := El.snd (El.snd (El_level_Piece_ h))
theorem El_level_Piece {A : Nat → Prop} {w : World} {b off : Nat} {x : level_Piece} (h : El A w b off x) : At w b off [.int .i64 x.from_, .int .i64 x.to_, .int .i64 x.calendar] ∧ True := by
 obtain ⟨h1, h2, cs, h3, h4⟩ := h
 obtain ⟨_, _, rfl, rfl, ⟨_, _, rfl, rfl, rfl⟩⟩ := h3
 exact ⟨h4, trivial⟩
instance : GoT level_Clock := GoT.of (β := Int × Int × Int × Int × Int × Int × (List level_Piece)) fun x => (x.kind, x.level, x.minutes, x.start, x.stop, x.end_, x.pieces)
theorem El_level_Clock_ {A : Nat → Prop} {w : World} {b off : Nat} {x : level_Clock} (h : El A w b off x) : El (α := Int × Int × Int × Int × Int × Int × (List level_Piece)) A w b off (x.kind, x.level, x.minutes, x.start, x.stop, x.end_, x.pieces) := h
theorem El_level_Clock_0 {A : Nat → Prop} {w : World} {b off : Nat} {x : level_Clock} (h : El A w b off x) : El A w b (off + 0) x.kind := El.fst (El_level_Clock_ h)
theorem El_level_Clock_1 {A : Nat → Prop} {w : World} {b off : Nat} {x : level_Clock} (h : El A w b off x) : El A w b (off + 1) x.level := El.fst (El.snd (El_level_Clock_ h))
theorem El_level_Clock_2 {A : Nat → Prop} {w : World} {b off : Nat} {x : level_Clock} (h : El A w b off x) : El A w b (off + 2) x.minutes := El.fst (El.snd (El.snd (El_level_Clock_ h)))
theorem El_level_Clock_3 {A : Nat → Prop} {w : World} {b off : Nat} {x : level_Clock} (h : El A w b off x) : El A w b (off + 3) x.start := El.fst (El.snd (El.snd (El.snd (El_level_Clock_ h))))
theorem El_level_Clock_4 {A : Nat → Prop} {w : World} {b off : Nat} {x : level_Clock} (h : El A w b off x) : El A w b (off + 4) x.stop := El.fst (El.snd (El.snd (El.snd (El.snd (El_level_Clock_ h)))))
theorem El_level_Clock_5 {A : Nat → Prop} {w : World} {b off : Nat} {x : level_Clock} (h : El A w b off x) : El A w b (off + 5) x.end_ := El.fst (El.snd (El.snd (El.snd (El.snd (El.snd (El_level_Clock_ h))))))
theorem El_level_Clock_6 {A : Nat → Prop} {w : World} {b off : Nat} {x : level_Clock} (h : El A w b off x) : El A w b (off + 6) x.pieces := El.snd (El.snd (El.snd (El.snd (El.snd (El.snd (El_level_Clock_ h))))))
theorem El_level_Clock {A : Nat → Prop} {w : World} {b off : Nat} {x : level_Clock} (h : El A w b off x) : ∃ v1, At w b off [.int .i64 x.kind, .int .i64 x.level, .int .i64 x.minutes, .int .i64 x.start, .int .i64 x.stop, .int .i64 x.end_, v1] ∧ Sl A w v1 x.pieces := by
 obtain ⟨h1, h2, cs, h3, h4⟩ := h
 obtain ⟨_, _, rfl, rfl, ⟨_, _, rfl, rfl, ⟨_, _, rfl, rfl, ⟨_, _, rfl, rfl, ⟨_, _, rfl, rfl, ⟨_, _, rfl, rfl, ⟨u1, rfl, g1⟩⟩⟩⟩⟩⟩⟩ := h3
 exact ⟨u1, h4, g1⟩
instance : GoT cal_Span := GoT.of (β := Int × Int) fun x => (x.from_, x.to_)
instance : Flat cal_Span := ⟨fun {A w A1 w1 cs x} h => Flat.flat (α := Int × Int) (x := (x.from_, x.to_)) (A := A) (w := w) h⟩
theorem El_cal_Span_ {A : Nat → Prop} {w : World} {b off : Nat} {x : cal_Span} (h : El A w b off x) : El (α := Int × Int) A w b off (x.from_, x.to_) := h
theorem El_cal_Span_0 {A : Nat → Prop} {w : World} {b off : Nat} {x : cal_Span} (h : El A w b off x) : El A w b (off + 0) x.from_ := El.fst (El_cal_Span_ h)
theorem El_cal_Span_1 {A : Nat → Prop} {w : World} {b off : Nat} {x : cal_Span} (h : El A w b off x) : El A w b (off + 1) x.to_ := El.snd (El_cal_Span_ h)
theorem El_cal_Span {A : Nat → Prop} {w : World} {b off : Nat} {x : cal_Span} (h : El A w b off x) : At w b off [.int .i64 x.from_, .int .i64 x.to_] ∧ True := by
 obtain ⟨h1, h2, cs, h3, h4⟩ := h
 obtain ⟨_, _, rfl, rfl, rfl⟩ := h3
 exact ⟨h4, trivial⟩
instance : GoT cal_part := GoT.of (β := Int × Int × Int) fun x => (x.from_, x.to_, x.offset)
instance : Flat cal_part := ⟨fun {A w A1 w1 cs x} h => Flat.flat (α := Int × Int × Int) (x := (x.from_, x.to_, x.offset)) (A := A) (w := w) h⟩
theorem El_cal_part_ {A : Nat → Prop} {w : World} {b off : Nat} {x : cal_part} (h : El A w b off x) : El (α := Int × Int × Int) A w b off (x.from_, x.to_, x.offset) := h
theorem El_cal_part_0 {A : Nat → Prop} {w : World} {b off : Nat} {x : cal_part} (h : El A w b off x) : El A w b (off + 0) x.from_ := El.fst (El_cal_part_ h)
theorem El_cal_part_1 {A : Nat → Prop} {w : World} {b off : Nat} {x : cal_part} (h : El A w b off x) : El A w b (off + 1) x.to_ := El.fst (El.snd (El_cal_part_ h))
theorem El_cal_part_2 {A : Nat → Prop} {w : World} {b off : Nat} {x : cal_part} (h : El A w b off x) : El A w b (off + 2) x.offset := El.snd (El.snd (El_cal_part_ h))
theorem El_cal_part {A : Nat → Prop} {w : World} {b off : Nat} {x : cal_part} (h : El A w b off x) : At w b off [.int .i64 x.from_, .int .i64 x.to_, .int .i64 x.offset] ∧ True := by
 obtain ⟨h1, h2, cs, h3, h4⟩ := h
 obtain ⟨_, _, rfl, rfl, ⟨_, _, rfl, rfl, rfl⟩⟩ := h3
 exact ⟨h4, trivial⟩
set_option maxRecDepth 4000 in
set_option maxHeartbeats 4000000 in
theorem level_within_c (w : World) (n : Int) (low : Int) (high : Int) : Ret Try.prog 32 #[.int .i64 n, .int .i64 low, .int .i64 high] w fun v w' => v = .bool (level_within n low high) ∧ w = w' := by
 generalize hm : level_within n low high = r
 unfold level_within at hm
 refine enter Try.func32 rfl Try.ntmps32 rfl ?_
 refine C_seq ?_
 refine C_region ?_
 refine V_y (Y_assign rfl) rfl rfl rfl ?_
 refine V_to (fun _ _ => rfl) ?_
 refine C_seq ?_
 refine C_region ?_
 refine V_y (Y_move rfl) rfl rfl rfl ?_
 refine V_y (Y_move rfl) rfl rfl rfl ?_
 refine V_y (Y_geq rfl rfl) rfl rfl rfl ?_
 refine V_y (Y_move rfl) rfl rfl rfl ?_
 refine V_cut 4 (fun _ : Unit => [(14, .bool ((decide (low ≤ n)) && (decide (n ≤ high))))]) (fun _ w' => w = w') ?_ ?_
 ·simp only [List.take, List.drop]
  rcases Bool.eq_false_or_eq_true (decide (low ≤ n)) with hc1 | hc1
  ·refine V_ge rfl rfl rfl hc1 ?_
   refine V_y (Y_move rfl) rfl rfl rfl ?_
   refine V_ge rfl rfl rfl hc1 ?_
   refine V_y (Y_move rfl) rfl rfl rfl ?_
   refine V_ge rfl rfl rfl hc1 ?_
   refine V_y (Y_leq rfl rfl) rfl rfl rfl ?_
   refine V_y (Y_pick_te rfl hc1 rfl) rfl rfl rfl ?_
   exact V_end fun a ha => ⟨(), ha.sub ⟨(by rw [hc1]; rfl), trivial⟩, rfl⟩
  ·refine V_gn rfl rfl rfl hc1 rfl rfl rfl ?_
   refine V_gn rfl rfl rfl hc1 rfl rfl rfl ?_
   refine V_gn rfl rfl rfl hc1 rfl rfl rfl ?_
   refine V_y (Y_pick_fe rfl hc1 rfl) rfl rfl rfl ?_
   exact V_end fun a ha => ⟨(), ha.sub ⟨(by rw [hc1]; rfl), trivial⟩, rfl⟩
 simp only [List.take, List.drop]
 rintro _ _ rfl
 refine V_y (Y_assign rfl) rfl rfl rfl ?_
 refine V_to (fun _ _ => rfl) ?_
 obtain rfl := hm
 refine C_ret ?_
 try simp only [↓inBlock_ret, ↓then_ret]
 exact retQ rfl (Res.one Try.results32 rfl) ⟨rfl, rfl⟩
set_option maxRecDepth 4000 in
set_option maxHeartbeats 4000000 in
theorem level_CheckClock_c (w : World) {A : Nat → Prop} (hA : ∀ b, w.heap.size ≤ b → A b) (c : level_Clock) (v_c : Value) (h_c : Sl A w v_c c.pieces) {r : Int} (hm : level_CheckClock c = some r) : Ret Try.prog 28 #[.agg #[.int .i64 c.kind, .int .i64 c.level, .int .i64 c.minutes, .int .i64 c.start, .int .i64 c.stop, .int .i64 c.end_, v_c]] w fun v w' => v = .int .i64 r ∧ Kp Dw w w' := by
 unfold level_CheckClock at hm
 refine enter Try.func28 rfl Try.ntmps28 rfl ?_
 have hA0 := hA
 have hB := Nat.le_refl w.heap.size
 have hK : Tr Dw w.heap.size A w A w := Tr.refl (Dw := Dw) hA
 have hH : Hp w.heap.size A w [] := Hp.nil
 refine C_seq ?_
 refine C_region ?_
 refine V_box rfl rfl ?_
 intro b3 w4 h5
 have hk7 := h5.kp (Dw := Dw)
 have h6 : El (α := level_Clock) A w4 b3 0 c := h5.el hA ⟨[.int .i64 c.kind], _, rfl, rfl, ⟨[.int .i64 c.level], _, rfl, rfl, ⟨[.int .i64 c.minutes], _, rfl, rfl, ⟨[.int .i64 c.start], _, rfl, rfl, ⟨[.int .i64 c.stop], _, rfl, rfl, ⟨[.int .i64 c.end_], _, rfl, rfl, ⟨_, rfl, h_c⟩⟩⟩⟩⟩⟩⟩
 have ht8 := Kp.tr (Dw := Dw) hk7 hA hB
 replace hH := Hp.kp (Dw := Dw) hH hk7
 replace hK := Tr.trans (Dw := Dw) hK ht8
 replace hB := Nat.le_trans hB ht8.ex.size
 replace hA := ht8.new
 refine V_y (Y_assign rfl) rfl rfl rfl ?_
 refine V_to (fun _ _ => rfl) ?_
 refine C_seq ?_
 refine C_seq ?_
 refine C_region ?_
 have h9 := El_level_Clock_0 h6
 refine V_y (Y_fieldAddr Try.underlying37 rfl Try.sizeOf3 (by decide) rfl) rfl rfl rfl ?_
 refine V_y (Y_load (El.int h9) Try.isAgg3 rfl) rfl rfl rfl ?_
 refine V_call Try.call32 rfl rfl rfl rfl (level_within_c w4 c.kind 1 3) ?_
 rintro _ _ ⟨rfl, rfl⟩
 refine V_y (Y_not rfl) rfl rfl rfl ?_
 refine V_y (Y_move rfl) rfl rfl rfl ?_
 refine V_cut 5 (fun _ : Unit => [(1, .pointer (some ⟨b3, 0, none⟩)), (14, .bool ((!(level_within c.kind 1 3)) || (!(level_within c.level 0 19))))]) (fun _ w' => w4 = w') ?_ ?_
 ·simp only [List.take, List.drop]
  rcases Bool.eq_false_or_eq_true (!(level_within c.kind 1 3)) with hc10 | hc10
  ·refine V_gn rfl rfl rfl hc10 rfl rfl rfl ?_
   refine V_gn rfl rfl rfl hc10 rfl rfl rfl ?_
   refine V_gn rfl rfl rfl hc10 rfl rfl rfl ?_
   refine V_gn rfl rfl rfl hc10 rfl rfl rfl ?_
   refine V_y (Y_pick_te rfl hc10 rfl) rfl rfl rfl ?_
   exact V_end fun a ha => ⟨(), ha.sub ⟨rfl, (by rw [hc10]; rfl), trivial⟩, rfl⟩
  ·refine V_ge rfl rfl rfl hc10 ?_
   have h12 := El_level_Clock_1 h6
   refine V_y (Y_fieldAddr Try.underlying37 rfl Try.sizeOf3 (by decide) rfl) rfl rfl rfl ?_
   refine V_ge rfl rfl rfl hc10 ?_
   refine V_y (Y_load (El.int h12) Try.isAgg3 rfl) rfl rfl rfl ?_
   refine V_ge rfl rfl rfl hc10 ?_
   refine V_call Try.call32 rfl rfl rfl rfl (level_within_c w4 c.level 0 19) ?_
   rintro _ _ ⟨rfl, rfl⟩
   refine V_ge rfl rfl rfl hc10 ?_
   refine V_y (Y_not rfl) rfl rfl rfl ?_
   refine V_y (Y_pick_fe rfl hc10 rfl) rfl rfl rfl ?_
   exact V_end fun a ha => ⟨(), ha.sub ⟨rfl, (by rw [hc10]; rfl), trivial⟩, rfl⟩
 simp only [List.take, List.drop]
 rintro _ _ rfl
 refine V_y (Y_move rfl) rfl rfl rfl ?_
 refine V_cut 5 (fun _ : Unit => [(1, .pointer (some ⟨b3, 0, none⟩)), (20, .bool (((!(level_within c.kind 1 3)) || (!(level_within c.level 0 19))) || (!(level_within c.minutes 0 100000))))]) (fun _ w' => w4 = w') ?_ ?_
 ·simp only [List.take, List.drop]
  rcases Bool.eq_false_or_eq_true (((!(level_within c.kind 1 3)) || (!(level_within c.level 0 19)))) with hc13 | hc13
  ·refine V_gn rfl rfl rfl hc13 rfl rfl rfl ?_
   refine V_gn rfl rfl rfl hc13 rfl rfl rfl ?_
   refine V_gn rfl rfl rfl hc13 rfl rfl rfl ?_
   refine V_gn rfl rfl rfl hc13 rfl rfl rfl ?_
   refine V_y (Y_pick_te rfl hc13 rfl) rfl rfl rfl ?_
   exact V_end fun a ha => ⟨(), ha.sub ⟨rfl, (by rw [hc13]; rfl), trivial⟩, rfl⟩
  ·refine V_ge rfl rfl rfl hc13 ?_
   have h15 := El_level_Clock_2 h6
   refine V_y (Y_fieldAddr Try.underlying37 rfl Try.sizeOf3 (by decide) rfl) rfl rfl rfl ?_
   refine V_ge rfl rfl rfl hc13 ?_
   refine V_y (Y_load (El.int h15) Try.isAgg3 rfl) rfl rfl rfl ?_
   refine V_ge rfl rfl rfl hc13 ?_
   refine V_call Try.call32 rfl rfl rfl rfl (level_within_c w4 c.minutes 0 100000) ?_
   rintro _ _ ⟨rfl, rfl⟩
   refine V_ge rfl rfl rfl hc13 ?_
   refine V_y (Y_not rfl) rfl rfl rfl ?_
   refine V_y (Y_pick_fe rfl hc13 rfl) rfl rfl rfl ?_
   exact V_end fun a ha => ⟨(), ha.sub ⟨rfl, (by rw [hc13]; rfl), trivial⟩, rfl⟩
 simp only [List.take, List.drop]
 rintro _ _ rfl
 refine V_y (Y_move rfl) rfl rfl rfl ?_
 refine V_cut 5 (fun _ : Unit => [(1, .pointer (some ⟨b3, 0, none⟩)), (26, .bool ((((!(level_within c.kind 1 3)) || (!(level_within c.level 0 19))) || (!(level_within c.minutes 0 100000))) || (!(level_within c.start 0 3000000))))]) (fun _ w' => w4 = w') ?_ ?_
 ·simp only [List.take, List.drop]
  rcases Bool.eq_false_or_eq_true ((((!(level_within c.kind 1 3)) || (!(level_within c.level 0 19))) || (!(level_within c.minutes 0 100000)))) with hc16 | hc16
  ·refine V_gn rfl rfl rfl hc16 rfl rfl rfl ?_
   refine V_gn rfl rfl rfl hc16 rfl rfl rfl ?_
   refine V_gn rfl rfl rfl hc16 rfl rfl rfl ?_
   refine V_gn rfl rfl rfl hc16 rfl rfl rfl ?_
   refine V_y (Y_pick_te rfl hc16 rfl) rfl rfl rfl ?_
   exact V_end fun a ha => ⟨(), ha.sub ⟨rfl, (by rw [hc16]; rfl), trivial⟩, rfl⟩
  ·refine V_ge rfl rfl rfl hc16 ?_
   have h18 := El_level_Clock_3 h6
   refine V_y (Y_fieldAddr Try.underlying37 rfl Try.sizeOf3 (by decide) rfl) rfl rfl rfl ?_
   refine V_ge rfl rfl rfl hc16 ?_
   refine V_y (Y_load (El.int h18) Try.isAgg3 rfl) rfl rfl rfl ?_
   refine V_ge rfl rfl rfl hc16 ?_
   refine V_call Try.call32 rfl rfl rfl rfl (level_within_c w4 c.start 0 3000000) ?_
   rintro _ _ ⟨rfl, rfl⟩
   refine V_ge rfl rfl rfl hc16 ?_
   refine V_y (Y_not rfl) rfl rfl rfl ?_
   refine V_y (Y_pick_fe rfl hc16 rfl) rfl rfl rfl ?_
   exact V_end fun a ha => ⟨(), ha.sub ⟨rfl, (by rw [hc16]; rfl), trivial⟩, rfl⟩
 simp only [List.take, List.drop]
 rintro _ _ rfl
 refine V_y (Y_move rfl) rfl rfl rfl ?_
 refine V_cut 12 (fun _ : Unit => [(1, .pointer (some ⟨b3, 0, none⟩)), (39, .bool (((((!(level_within c.kind 1 3)) || (!(level_within c.level 0 19))) || (!(level_within c.minutes 0 100000))) || (!(level_within c.start 0 3000000))) || ((c.stop != (-1)) && (!(level_within c.stop c.start 3000000)))))]) (fun _ w' => w4 = w') ?_ ?_
 ·simp only [List.take, List.drop]
  rcases Bool.eq_false_or_eq_true (((((!(level_within c.kind 1 3)) || (!(level_within c.level 0 19))) || (!(level_within c.minutes 0 100000))) || (!(level_within c.start 0 3000000)))) with hc19 | hc19
  ·refine V_gn rfl rfl rfl hc19 rfl rfl rfl ?_
   refine V_gn rfl rfl rfl hc19 rfl rfl rfl ?_
   refine V_gn rfl rfl rfl hc19 rfl rfl rfl ?_
   refine V_gn rfl rfl rfl hc19 rfl rfl rfl ?_
   refine V_gu rfl rfl rfl rfl rfl ?_
   refine V_gu rfl rfl rfl rfl rfl ?_
   refine V_gu rfl rfl rfl rfl rfl ?_
   refine V_gu rfl rfl rfl rfl rfl ?_
   refine V_gu rfl rfl rfl rfl rfl ?_
   refine V_gu rfl rfl rfl rfl rfl ?_
   refine V_gn rfl rfl rfl hc19 rfl rfl rfl ?_
   refine V_y (Y_pick_te rfl hc19 rfl) rfl rfl rfl ?_
   exact V_end fun a ha => ⟨(), ha.sub ⟨rfl, (by rw [hc19]; rfl), trivial⟩, rfl⟩
  ·refine V_ge rfl rfl rfl hc19 ?_
   have h21 := El_level_Clock_4 h6
   refine V_y (Y_fieldAddr Try.underlying37 rfl Try.sizeOf3 (by decide) rfl) rfl rfl rfl ?_
   refine V_ge rfl rfl rfl hc19 ?_
   refine V_y (Y_load (El.int h21) Try.isAgg3 rfl) rfl rfl rfl ?_
   refine V_ge rfl rfl rfl hc19 ?_
   refine V_y (Y_neq rfl rfl) rfl rfl rfl ?_
   refine V_ge rfl rfl rfl hc19 ?_
   refine V_y (Y_move rfl) rfl rfl rfl ?_
   refine V_cut 7 (fun _ : Unit => [(1, .pointer (some ⟨b3, 0, none⟩)), (27, .bool ((((!(level_within c.kind 1 3)) || (!(level_within c.level 0 19))) || (!(level_within c.minutes 0 100000))) || (!(level_within c.start 0 3000000)))), (38, .bool ((c.stop != (-1)) && (!(level_within c.stop c.start 3000000))))]) (fun _ w' => w4 = w') ?_ ?_
   ·simp only [List.take, List.drop]
    rcases Bool.eq_false_or_eq_true (c.stop != (-1)) with hc22 | hc22
    ·refine V_ge rfl rfl rfl hc22 ?_
     have h24 := El_level_Clock_4 h6
     refine V_y (Y_fieldAddr Try.underlying37 rfl Try.sizeOf3 (by decide) rfl) rfl rfl rfl ?_
     refine V_ge rfl rfl rfl hc22 ?_
     refine V_y (Y_load (El.int h24) Try.isAgg3 rfl) rfl rfl rfl ?_
     refine V_ge rfl rfl rfl hc22 ?_
     have h25 := El_level_Clock_3 h6
     refine V_y (Y_fieldAddr Try.underlying37 rfl Try.sizeOf3 (by decide) rfl) rfl rfl rfl ?_
     refine V_ge rfl rfl rfl hc22 ?_
     refine V_y (Y_load (El.int h25) Try.isAgg3 rfl) rfl rfl rfl ?_
     refine V_ge rfl rfl rfl hc22 ?_
     refine V_call Try.call32 rfl rfl rfl rfl (level_within_c w4 c.stop c.start 3000000) ?_
     rintro _ _ ⟨rfl, rfl⟩
     refine V_ge rfl rfl rfl hc22 ?_
     refine V_y (Y_not rfl) rfl rfl rfl ?_
     refine V_ge rfl rfl rfl hc19 ?_
     refine V_y (Y_pick_te rfl hc22 rfl) rfl rfl rfl ?_
     exact V_end fun a ha => ⟨(), ha.sub ⟨rfl, rfl, (by rw [hc22]; rfl), trivial⟩, rfl⟩
    ·refine V_gn rfl rfl rfl hc22 rfl rfl rfl ?_
     refine V_gn rfl rfl rfl hc22 rfl rfl rfl ?_
     refine V_gn rfl rfl rfl hc22 rfl rfl rfl ?_
     refine V_gn rfl rfl rfl hc22 rfl rfl rfl ?_
     refine V_gn rfl rfl rfl hc22 rfl rfl rfl ?_
     refine V_gn rfl rfl rfl hc22 rfl rfl rfl ?_
     refine V_ge rfl rfl rfl hc19 ?_
     refine V_y (Y_pick_fe rfl hc22 rfl) rfl rfl rfl ?_
     exact V_end fun a ha => ⟨(), ha.sub ⟨rfl, rfl, (by rw [hc22]; rfl), trivial⟩, rfl⟩
   simp only [List.take, List.drop]
   rintro _ _ rfl
   refine V_y (Y_pick_fe rfl hc19 rfl) rfl rfl rfl ?_
   exact V_end fun a ha => ⟨(), ha.sub ⟨rfl, (by rw [hc19]; rfl), trivial⟩, rfl⟩
 simp only [List.take, List.drop]
 rintro _ _ rfl
 refine V_y (Y_move rfl) rfl rfl rfl ?_
 refine V_cut 5 (fun _ : Unit => [(1, .pointer (some ⟨b3, 0, none⟩)), (45, .bool ((((((!(level_within c.kind 1 3)) || (!(level_within c.level 0 19))) || (!(level_within c.minutes 0 100000))) || (!(level_within c.start 0 3000000))) || ((c.stop != (-1)) && (!(level_within c.stop c.start 3000000)))) || (!(level_within c.end_ 0 2))))]) (fun _ w' => w4 = w') ?_ ?_
 ·simp only [List.take, List.drop]
  rcases Bool.eq_false_or_eq_true ((((((!(level_within c.kind 1 3)) || (!(level_within c.level 0 19))) || (!(level_within c.minutes 0 100000))) || (!(level_within c.start 0 3000000))) || ((c.stop != (-1)) && (!(level_within c.stop c.start 3000000))))) with hc26 | hc26
  ·refine V_gn rfl rfl rfl hc26 rfl rfl rfl ?_
   refine V_gn rfl rfl rfl hc26 rfl rfl rfl ?_
   refine V_gn rfl rfl rfl hc26 rfl rfl rfl ?_
   refine V_gn rfl rfl rfl hc26 rfl rfl rfl ?_
   refine V_y (Y_pick_te rfl hc26 rfl) rfl rfl rfl ?_
   exact V_end fun a ha => ⟨(), ha.sub ⟨rfl, (by rw [hc26]; rfl), trivial⟩, rfl⟩
  ·refine V_ge rfl rfl rfl hc26 ?_
   have h28 := El_level_Clock_5 h6
   refine V_y (Y_fieldAddr Try.underlying37 rfl Try.sizeOf3 (by decide) rfl) rfl rfl rfl ?_
   refine V_ge rfl rfl rfl hc26 ?_
   refine V_y (Y_load (El.int h28) Try.isAgg3 rfl) rfl rfl rfl ?_
   refine V_ge rfl rfl rfl hc26 ?_
   refine V_call Try.call32 rfl rfl rfl rfl (level_within_c w4 c.end_ 0 2) ?_
   rintro _ _ ⟨rfl, rfl⟩
   refine V_ge rfl rfl rfl hc26 ?_
   refine V_y (Y_not rfl) rfl rfl rfl ?_
   refine V_y (Y_pick_fe rfl hc26 rfl) rfl rfl rfl ?_
   exact V_end fun a ha => ⟨(), ha.sub ⟨rfl, (by rw [hc26]; rfl), trivial⟩, rfl⟩
 simp only [List.take, List.drop]
 rintro _ _ rfl
 refine V_to (fun _ _ => rfl) ?_
 refine C_cond rfl (fun hc29 => ?_) (fun hc29 => ?_)
 ·rw [if_pos hc29] at hm
  refine C_seq ?_
  refine C_region ?_
  refine V_y (Y_assign rfl) rfl rfl rfl ?_
  refine V_to (fun _ _ => rfl) ?_
  obtain rfl := Option.some.inj hm
  refine C_ret ?_
  try simp only [↓inBlock_ret, ↓then_ret]
  exact retQ rfl (Res.one Try.results28 rfl) ⟨rfl, hK.kp⟩
 ·rw [if_neg (nt hc29)] at hm
  refine C_skip_to (fun _ _ => rfl) ?_
  refine C_seq ?_
  refine C_seq ?_
  refine C_region ?_
  have h30 := El_level_Clock_4 h6
  refine V_y (Y_fieldAddr Try.underlying37 rfl Try.sizeOf3 (by decide) rfl) rfl rfl rfl ?_
  refine V_y (Y_load (El.int h30) Try.isAgg3 rfl) rfl rfl rfl ?_
  refine V_y (Y_eql rfl rfl) rfl rfl rfl ?_
  have h31 := El_level_Clock_5 h6
  refine V_y (Y_fieldAddr Try.underlying37 rfl Try.sizeOf3 (by decide) rfl) rfl rfl rfl ?_
  refine V_y (Y_load (El.int h31) Try.isAgg3 rfl) rfl rfl rfl ?_
  refine V_y (Y_eql rfl rfl) rfl rfl rfl ?_
  refine V_y (Y_bneq Try.underlying4 rfl rfl) rfl rfl rfl ?_
  refine V_to (fun _ _ => rfl) ?_
  refine C_cond rfl (fun hc32 => ?_) (fun hc32 => ?_)
  ·rw [if_pos hc32] at hm
   refine C_seq ?_
   refine C_region ?_
   refine V_y (Y_assign rfl) rfl rfl rfl ?_
   refine V_to (fun _ _ => rfl) ?_
   obtain rfl := Option.some.inj hm
   refine C_ret ?_
   try simp only [↓inBlock_ret, ↓then_ret]
   exact retQ rfl (Res.one Try.results28 rfl) ⟨rfl, hK.kp⟩
  ·rw [if_neg (nt hc32)] at hm
   refine C_skip_to (fun _ _ => rfl) ?_
   refine C_seq ?_
   refine C_seq ?_
   refine C_region ?_
   have h33 := El_level_Clock_6 h6
   refine V_y (Y_fieldAddr Try.underlying37 rfl Try.sizeOf35 (by decide) rfl) rfl rfl rfl ?_
   obtain ⟨v34, h35, h36⟩ := El.list h33
   refine V_y (Y_load h35 Try.isAgg35 rfl) rfl rfl rfl ?_
   refine V_y (Y_lenSl h36 rfl Try.underlying35 rfl) rfl rfl rfl ?_
   refine V_y (Y_gtr rfl rfl) rfl rfl rfl ?_
   refine V_to (fun _ _ => rfl) ?_
   refine C_cond rfl (fun hc37 => ?_) (fun hc37 => ?_)
   ·rw [if_pos hc37] at hm
    refine C_seq ?_
    refine C_region ?_
    refine V_y (Y_assign rfl) rfl rfl rfl ?_
    refine V_to (fun _ _ => rfl) ?_
    obtain rfl := Option.some.inj hm
    refine C_ret ?_
    try simp only [↓inBlock_ret, ↓then_ret]
    exact retQ rfl (Res.one Try.results28 rfl) ⟨rfl, hK.kp⟩
   ·rw [if_neg (nt hc37)] at hm
    refine C_skip_to (fun _ _ => rfl) ?_
    refine C_seq ?_
    refine C_seq ?_
    refine C_region ?_
    have h38 := El_level_Clock_6 h6
    refine V_y (Y_fieldAddr Try.underlying37 rfl Try.sizeOf35 (by decide) rfl) rfl rfl rfl ?_
    obtain ⟨v39, h40, h41⟩ := El.list h38
    refine V_y (Y_load h40 Try.isAgg35 rfl) rfl rfl rfl ?_
    refine V_y (Y_lenSl h41 rfl Try.underlying35 rfl) rfl rfl rfl ?_
    refine V_y (Y_move rfl) rfl rfl rfl ?_
    refine V_to (fun _ _ => rfl) ?_
    have hn62 := Sl.le h41
    obtain ⟨o42, ho42, hm⟩ := Option.bind_eq_some_iff.1 hm
    refine C_cutG (ι := (Unit × (Nat → Prop))) (fun ⟨s43, A49⟩ => []) (fun ⟨s43, A49⟩ => fun w' => o42 = .fin s43 ∧ Hp w.heap.size A49 w' ([]) ∧ Tr Dw w.heap.size A w4 A49 w') ?_ ?_
    ·refine C_block ?_
     refine C_range ho42 (fun k45 _ a w' => ∃ i : (Nat → Prop), Has ⟨135, [], none⟩ a ([(1, .pointer (some ⟨b3, 0, none⟩)), (58, v39), (59, .int .i64 (c.pieces.length : Int)), (60, .int .i64 (k45 : Int))]) ∧ Hp w.heap.size i w' ([]) ∧ Tr Dw w.heap.size A w4 i w') (fun a ha => ⟨A, ha.sub ⟨rfl, rfl, rfl, rfl, trivial⟩, ⟨hH, Tr.refl (Dw := Dw) hA⟩⟩) ?_
     rintro K k45 _ a w52 ⟨A53, ha133, hH54, hr44⟩ hle58 K61 h60
     refine C_of ?_ ha133
     replace h6 := El.tr (Dw := Dw) h6 hr44
     replace h41 := Sl.tr (Dw := Dw) h41 hr44
     replace hK := Tr.trans (Dw := Dw) hK hr44
     replace hB := Nat.le_trans hB hr44.ex.size
     replace hA := hr44.new
     replace hH : Hp w.heap.size A53 w52 ([]) := hH54
     refine C_seq (C_region (V_y (Y_lss rfl rfl) rfl rfl rfl (V_to (fun _ _ => rfl) ?_)))
     refine C_seq ?_
     refine C_cond rfl (fun hc63 => ?_) (fun hc63 => ?_)
     ·have hlt59 := lt_of_dec hc63
      obtain ⟨x55, h56, h57⟩ := K61 hlt59
      refine C_skip_to (fun _ _ => rfl) ?_
      refine C_seq ?_
      refine C_block ?_
      refine C_seq ?_
      refine C_region ?_
      refine V_y (Y_move rfl) rfl rfl rfl ?_
      obtain ⟨x64, hx64, h56⟩ := Option.bind_eq_some_iff.1 h56
      refine V_indexAddr h41 hx64 Try.underlying35 Try.sizeOf62 rfl rfl rfl ?_
      intro b65 o66 h67
      obtain ⟨h68, _⟩ := El_level_Piece h67
      refine V_y (Y_loadA h68 Try.isAgg62 Try.sizeOf62 rfl) rfl rfl rfl ?_
      refine V_alloc Try.zeroValue62 rfl ?_
      intro b69 w70 h71
      refine V_y (Y_assign rfl) rfl rfl rfl ?_
      refine V_storeNew h71 Try.sizeOf62 rfl rfl rfl rfl (by exact (List.forall_mem_cons.2 ⟨rfl, (List.forall_mem_cons.2 ⟨rfl, (List.forall_mem_cons.2 ⟨rfl, (fun _ h => nomatch h)⟩)⟩)⟩)) ?_
      intro w72 h73
      have hk75 := h73.kp (Dw := Dw)
      have h74 : El (α := level_Piece) A53 w72 b69 0 x64 := h73.el hA ⟨[.int .i64 x64.from_], _, rfl, rfl, ⟨[.int .i64 x64.to_], _, rfl, rfl, rfl⟩⟩
      have ht76 := Kp.tr (Dw := Dw) hk75 hA hB
      replace hH := Hp.kp (Dw := Dw) hH hk75
      replace h6 := El.tr (Dw := Dw) h6 ht76
      replace hK := Tr.trans (Dw := Dw) hK ht76
      replace hr44 := Tr.trans (Dw := Dw) hr44 ht76
      replace hB := Nat.le_trans hB ht76.ex.size
      replace hA := ht76.new
      refine V_to (fun _ _ => rfl) ?_
      refine C_block ?_
      refine C_seq ?_
      refine C_region ?_
      have h77 := El_level_Piece_0 h74
      refine V_y (Y_fieldAddr Try.underlying62 rfl Try.sizeOf3 (by decide) rfl) rfl rfl rfl ?_
      refine V_y (Y_load (El.int h77) Try.isAgg3 rfl) rfl rfl rfl ?_
      have h78 := El_level_Clock_3 h6
      refine V_y (Y_fieldAddr Try.underlying37 rfl Try.sizeOf3 (by decide) rfl) rfl rfl rfl ?_
      refine V_y (Y_load (El.int h78) Try.isAgg3 rfl) rfl rfl rfl ?_
      refine V_call Try.call32 rfl rfl rfl rfl (level_within_c w72 x64.from_ c.start 3000000) ?_
      rintro _ _ ⟨rfl, rfl⟩
      refine V_y (Y_not rfl) rfl rfl rfl ?_
      refine V_y (Y_move rfl) rfl rfl rfl ?_
      refine V_cut 5 (fun _ : Unit => [(1, .pointer (some ⟨b3, 0, none⟩)), (3, .int .i64 (k45 : Int)), (4, .pointer (some ⟨b69, 0, none⟩)), (58, v39), (59, .int .i64 (c.pieces.length : Int)), (60, .int .i64 (k45 : Int)), (77, .bool ((!(level_within x64.from_ c.start 3000000)) || (!(level_within x64.calendar 0 19))))]) (fun _ w' => w72 = w') ?_ ?_
      ·simp only [List.take, List.drop]
       rcases Bool.eq_false_or_eq_true (!(level_within x64.from_ c.start 3000000)) with hc79 | hc79
       ·refine V_gn rfl rfl rfl hc79 rfl rfl rfl ?_
        refine V_gn rfl rfl rfl hc79 rfl rfl rfl ?_
        refine V_gn rfl rfl rfl hc79 rfl rfl rfl ?_
        refine V_gn rfl rfl rfl hc79 rfl rfl rfl ?_
        refine V_y (Y_pick_te rfl hc79 rfl) rfl rfl rfl ?_
        exact V_end fun a ha => ⟨(), ha.sub ⟨rfl, rfl, rfl, rfl, rfl, rfl, (by rw [hc79]; rfl), trivial⟩, rfl⟩
       ·refine V_ge rfl rfl rfl hc79 ?_
        have h81 := El_level_Piece_2 h74
        refine V_y (Y_fieldAddr Try.underlying62 rfl Try.sizeOf3 (by decide) rfl) rfl rfl rfl ?_
        refine V_ge rfl rfl rfl hc79 ?_
        refine V_y (Y_load (El.int h81) Try.isAgg3 rfl) rfl rfl rfl ?_
        refine V_ge rfl rfl rfl hc79 ?_
        refine V_call Try.call32 rfl rfl rfl rfl (level_within_c w72 x64.calendar 0 19) ?_
        rintro _ _ ⟨rfl, rfl⟩
        refine V_ge rfl rfl rfl hc79 ?_
        refine V_y (Y_not rfl) rfl rfl rfl ?_
        refine V_y (Y_pick_fe rfl hc79 rfl) rfl rfl rfl ?_
        exact V_end fun a ha => ⟨(), ha.sub ⟨rfl, rfl, rfl, rfl, rfl, rfl, (by rw [hc79]; rfl), trivial⟩, rfl⟩
      simp only [List.take, List.drop]
      rintro _ _ rfl
      refine V_y (Y_move rfl) rfl rfl rfl ?_
      refine V_cut 13 (fun _ : Unit => [(1, .pointer (some ⟨b3, 0, none⟩)), (3, .int .i64 (k45 : Int)), (4, .pointer (some ⟨b69, 0, none⟩)), (58, v39), (59, .int .i64 (c.pieces.length : Int)), (60, .int .i64 (k45 : Int)), (91, .bool (((!(level_within x64.from_ c.start 3000000)) || (!(level_within x64.calendar 0 19))) || ((x64.to_ != (-1)) && (!(level_within x64.to_ (w64 (x64.from_ + 1)) 3000000)))))]) (fun _ w' => w72 = w') ?_ ?_
      ·simp only [List.take, List.drop]
       rcases Bool.eq_false_or_eq_true (((!(level_within x64.from_ c.start 3000000)) || (!(level_within x64.calendar 0 19)))) with hc82 | hc82
       ·refine V_gn rfl rfl rfl hc82 rfl rfl rfl ?_
        refine V_gn rfl rfl rfl hc82 rfl rfl rfl ?_
        refine V_gn rfl rfl rfl hc82 rfl rfl rfl ?_
        refine V_gn rfl rfl rfl hc82 rfl rfl rfl ?_
        refine V_gu rfl rfl rfl rfl rfl ?_
        refine V_gu rfl rfl rfl rfl rfl ?_
        refine V_gu rfl rfl rfl rfl rfl ?_
        refine V_gu rfl rfl rfl rfl rfl ?_
        refine V_gu rfl rfl rfl rfl rfl ?_
        refine V_gu rfl rfl rfl rfl rfl ?_
        refine V_gu rfl rfl rfl rfl rfl ?_
        refine V_gn rfl rfl rfl hc82 rfl rfl rfl ?_
        refine V_y (Y_pick_te rfl hc82 rfl) rfl rfl rfl ?_
        exact V_end fun a ha => ⟨(), ha.sub ⟨rfl, rfl, rfl, rfl, rfl, rfl, (by rw [hc82]; rfl), trivial⟩, rfl⟩
       ·refine V_ge rfl rfl rfl hc82 ?_
        have h84 := El_level_Piece_1 h74
        refine V_y (Y_fieldAddr Try.underlying62 rfl Try.sizeOf3 (by decide) rfl) rfl rfl rfl ?_
        refine V_ge rfl rfl rfl hc82 ?_
        refine V_y (Y_load (El.int h84) Try.isAgg3 rfl) rfl rfl rfl ?_
        refine V_ge rfl rfl rfl hc82 ?_
        refine V_y (Y_neq rfl rfl) rfl rfl rfl ?_
        refine V_ge rfl rfl rfl hc82 ?_
        refine V_y (Y_move rfl) rfl rfl rfl ?_
        refine V_cut 8 (fun _ : Unit => [(1, .pointer (some ⟨b3, 0, none⟩)), (3, .int .i64 (k45 : Int)), (4, .pointer (some ⟨b69, 0, none⟩)), (58, v39), (59, .int .i64 (c.pieces.length : Int)), (60, .int .i64 (k45 : Int)), (78, .bool ((!(level_within x64.from_ c.start 3000000)) || (!(level_within x64.calendar 0 19)))), (90, .bool ((x64.to_ != (-1)) && (!(level_within x64.to_ (w64 (x64.from_ + 1)) 3000000))))]) (fun _ w' => w72 = w') ?_ ?_
        ·simp only [List.take, List.drop]
         rcases Bool.eq_false_or_eq_true (x64.to_ != (-1)) with hc85 | hc85
         ·refine V_ge rfl rfl rfl hc85 ?_
          have h87 := El_level_Piece_1 h74
          refine V_y (Y_fieldAddr Try.underlying62 rfl Try.sizeOf3 (by decide) rfl) rfl rfl rfl ?_
          refine V_ge rfl rfl rfl hc85 ?_
          refine V_y (Y_load (El.int h87) Try.isAgg3 rfl) rfl rfl rfl ?_
          refine V_ge rfl rfl rfl hc85 ?_
          have h88 := El_level_Piece_0 h74
          refine V_y (Y_fieldAddr Try.underlying62 rfl Try.sizeOf3 (by decide) rfl) rfl rfl rfl ?_
          refine V_ge rfl rfl rfl hc85 ?_
          refine V_y (Y_load (El.int h88) Try.isAgg3 rfl) rfl rfl rfl ?_
          refine V_ge rfl rfl rfl hc85 ?_
          refine V_y (Y_addI rfl rfl) rfl rfl rfl ?_
          refine V_ge rfl rfl rfl hc85 ?_
          refine V_call Try.call32 rfl rfl rfl rfl (level_within_c w72 x64.to_ (w64 (x64.from_ + 1)) 3000000) ?_
          rintro _ _ ⟨rfl, rfl⟩
          refine V_ge rfl rfl rfl hc85 ?_
          refine V_y (Y_not rfl) rfl rfl rfl ?_
          refine V_ge rfl rfl rfl hc82 ?_
          refine V_y (Y_pick_te rfl hc85 rfl) rfl rfl rfl ?_
          exact V_end fun a ha => ⟨(), ha.sub ⟨rfl, rfl, rfl, rfl, rfl, rfl, rfl, (by rw [hc85]; rfl), trivial⟩, rfl⟩
         ·refine V_gn rfl rfl rfl hc85 rfl rfl rfl ?_
          refine V_gn rfl rfl rfl hc85 rfl rfl rfl ?_
          refine V_gn rfl rfl rfl hc85 rfl rfl rfl ?_
          refine V_gn rfl rfl rfl hc85 rfl rfl rfl ?_
          refine V_gn rfl rfl rfl hc85 rfl rfl rfl ?_
          refine V_gn rfl rfl rfl hc85 rfl rfl rfl ?_
          refine V_gn rfl rfl rfl hc85 rfl rfl rfl ?_
          refine V_ge rfl rfl rfl hc82 ?_
          refine V_y (Y_pick_fe rfl hc85 rfl) rfl rfl rfl ?_
          exact V_end fun a ha => ⟨(), ha.sub ⟨rfl, rfl, rfl, rfl, rfl, rfl, rfl, (by rw [hc85]; rfl), trivial⟩, rfl⟩
        simp only [List.take, List.drop]
        rintro _ _ rfl
        refine V_y (Y_pick_fe rfl hc82 rfl) rfl rfl rfl ?_
        exact V_end fun a ha => ⟨(), ha.sub ⟨rfl, rfl, rfl, rfl, rfl, rfl, (by rw [hc82]; rfl), trivial⟩, rfl⟩
      simp only [List.take, List.drop]
      rintro _ _ rfl
      refine V_y (Y_assign rfl) rfl rfl rfl ?_
      refine V_to (fun _ _ => rfl) ?_
      refine C_cond rfl (fun hc89 => ?_) (fun hc89 => ?_)
      ·rw [if_pos hc89] at h56
       refine C_seq ?_
       refine C_region ?_
       refine V_y (Y_assign rfl) rfl rfl rfl ?_
       refine V_to (fun _ _ => rfl) ?_
       obtain rfl := Option.some.inj h56
       obtain rfl := (h57 : Lp.rt _ = _)
       rw [Lp.andThen_rt] at hm
       obtain rfl := Option.some.inj hm
       refine C_ret ?_
       try simp only [↓inBlock_ret, ↓then_ret]
       exact retQ rfl (Res.one Try.results28 rfl) ⟨rfl, hK.kp⟩
      ·rw [if_neg (nt hc89)] at h56
       refine C_seq ?_
       refine C_seq ?_
       refine C_region ?_
       have h90 := El_level_Piece_1 h74
       refine V_y (Y_fieldAddr Try.underlying62 rfl Try.sizeOf3 (by decide) rfl) rfl rfl rfl ?_
       refine V_y (Y_load (El.int h90) Try.isAgg3 rfl) rfl rfl rfl ?_
       refine V_y (Y_eql rfl rfl) rfl rfl rfl ?_
       refine V_y (Y_move rfl) rfl rfl rfl ?_
       refine V_cut 12 (fun _ : Unit => [(1, .pointer (some ⟨b3, 0, none⟩)), (3, .int .i64 (k45 : Int)), (4, .pointer (some ⟨b69, 0, none⟩)), (58, v39), (59, .int .i64 (c.pieces.length : Int)), (60, .int .i64 (k45 : Int)), (108, .bool ((x64.to_ == (-1)) && ((decide ((k45 : Int) < (w64 ((c.pieces.length : Int) - 1)))) || (c.stop != (-1)))))]) (fun _ w' => w72 = w') ?_ ?_
       ·simp only [List.take, List.drop]
        rcases Bool.eq_false_or_eq_true (x64.to_ == (-1)) with hc91 | hc91
        ·refine V_ge rfl rfl rfl hc91 ?_
         refine V_y (Y_move rfl) rfl rfl rfl ?_
         refine V_ge rfl rfl rfl hc91 ?_
         have h93 := El_level_Clock_6 h6
         refine V_y (Y_fieldAddr Try.underlying37 rfl Try.sizeOf35 (by decide) rfl) rfl rfl rfl ?_
         refine V_ge rfl rfl rfl hc91 ?_
         obtain ⟨v94, h95, h96⟩ := El.list h93
         refine V_y (Y_load h95 Try.isAgg35 rfl) rfl rfl rfl ?_
         refine V_ge rfl rfl rfl hc91 ?_
         refine V_y (Y_lenSl h96 rfl Try.underlying35 rfl) rfl rfl rfl ?_
         refine V_ge rfl rfl rfl hc91 ?_
         refine V_y (Y_subI rfl rfl) rfl rfl rfl ?_
         refine V_ge rfl rfl rfl hc91 ?_
         refine V_y (Y_lss rfl rfl) rfl rfl rfl ?_
         refine V_ge rfl rfl rfl hc91 ?_
         refine V_y (Y_move rfl) rfl rfl rfl ?_
         refine V_cut 4 (fun _ : Unit => [(1, .pointer (some ⟨b3, 0, none⟩)), (3, .int .i64 (k45 : Int)), (4, .pointer (some ⟨b69, 0, none⟩)), (58, v39), (59, .int .i64 (c.pieces.length : Int)), (60, .int .i64 (k45 : Int)), (96, .bool (x64.to_ == (-1))), (107, .bool ((decide ((k45 : Int) < (w64 ((c.pieces.length : Int) - 1)))) || (c.stop != (-1))))]) (fun _ w' => w72 = w') ?_ ?_
         ·simp only [List.take, List.drop]
          rcases Bool.eq_false_or_eq_true (decide ((k45 : Int) < (w64 ((c.pieces.length : Int) - 1)))) with hc97 | hc97
          ·refine V_gn rfl rfl rfl hc97 rfl rfl rfl ?_
           refine V_gn rfl rfl rfl hc97 rfl rfl rfl ?_
           refine V_gn rfl rfl rfl hc97 rfl rfl rfl ?_
           refine V_ge rfl rfl rfl hc91 ?_
           refine V_y (Y_pick_te rfl hc97 rfl) rfl rfl rfl ?_
           exact V_end fun a ha => ⟨(), ha.sub ⟨rfl, rfl, rfl, rfl, rfl, rfl, rfl, (by rw [hc97]; rfl), trivial⟩, rfl⟩
          ·refine V_ge rfl rfl rfl hc97 ?_
           have h99 := El_level_Clock_4 h6
           refine V_y (Y_fieldAddr Try.underlying37 rfl Try.sizeOf3 (by decide) rfl) rfl rfl rfl ?_
           refine V_ge rfl rfl rfl hc97 ?_
           refine V_y (Y_load (El.int h99) Try.isAgg3 rfl) rfl rfl rfl ?_
           refine V_ge rfl rfl rfl hc97 ?_
           refine V_y (Y_neq rfl rfl) rfl rfl rfl ?_
           refine V_ge rfl rfl rfl hc91 ?_
           refine V_y (Y_pick_fe rfl hc97 rfl) rfl rfl rfl ?_
           exact V_end fun a ha => ⟨(), ha.sub ⟨rfl, rfl, rfl, rfl, rfl, rfl, rfl, (by rw [hc97]; rfl), trivial⟩, rfl⟩
         simp only [List.take, List.drop]
         rintro _ _ rfl
         refine V_y (Y_pick_te rfl hc91 rfl) rfl rfl rfl ?_
         exact V_end fun a ha => ⟨(), ha.sub ⟨rfl, rfl, rfl, rfl, rfl, rfl, (by rw [hc91]; rfl), trivial⟩, rfl⟩
        ·refine V_gn rfl rfl rfl hc91 rfl rfl rfl ?_
         refine V_gn rfl rfl rfl hc91 rfl rfl rfl ?_
         refine V_gn rfl rfl rfl hc91 rfl rfl rfl ?_
         refine V_gn rfl rfl rfl hc91 rfl rfl rfl ?_
         refine V_gn rfl rfl rfl hc91 rfl rfl rfl ?_
         refine V_gn rfl rfl rfl hc91 rfl rfl rfl ?_
         refine V_gn rfl rfl rfl hc91 rfl rfl rfl ?_
         refine V_gu rfl rfl rfl rfl rfl ?_
         refine V_gu rfl rfl rfl rfl rfl ?_
         refine V_gu rfl rfl rfl rfl rfl ?_
         refine V_gn rfl rfl rfl hc91 rfl rfl rfl ?_
         refine V_y (Y_pick_fe rfl hc91 rfl) rfl rfl rfl ?_
         exact V_end fun a ha => ⟨(), ha.sub ⟨rfl, rfl, rfl, rfl, rfl, rfl, (by rw [hc91]; rfl), trivial⟩, rfl⟩
       simp only [List.take, List.drop]
       rintro _ _ rfl
       refine V_y (Y_assign rfl) rfl rfl rfl ?_
       refine V_to (fun _ _ => rfl) ?_
       obtain ⟨s101, ho100, h56⟩ := Option.bind_eq_some_iff.1 h56
       refine C_cutG (ι := Unit) (fun (_ : Unit) => [(1, .pointer (some ⟨b3, 0, none⟩)), (3, .int .i64 (k45 : Int)), (4, .pointer (some ⟨b69, 0, none⟩)), (58, v39), (59, .int .i64 (c.pieces.length : Int)), (60, .int .i64 (k45 : Int)), (92, .bool s101)]) (fun (_ : Unit) => fun w' => w72 = w') ?_ ?_
       ·refine C_cond rfl (fun hc106 => ?_) (fun hc106 => ?_)
        ·rw [if_pos hc106] at ho100
         obtain rfl := Option.some.inj ho100
         refine C_skip (fun a ha107 => ?_)
         exact ⟨(), ha107.sub ⟨rfl, rfl, rfl, rfl, rfl, rfl, rfl, trivial⟩, rfl⟩
        ·rw [if_neg (nt hc106)] at ho100
         refine C_region ?_
         have h108 := El_level_Clock_4 h6
         refine V_y (Y_fieldAddr Try.underlying37 rfl Try.sizeOf3 (by decide) rfl) rfl rfl rfl ?_
         refine V_y (Y_load (El.int h108) Try.isAgg3 rfl) rfl rfl rfl ?_
         refine V_y (Y_neq rfl rfl) rfl rfl rfl ?_
         refine V_y (Y_move rfl) rfl rfl rfl ?_
         refine V_cut 6 (fun _ : Unit => [(1, .pointer (some ⟨b3, 0, none⟩)), (3, .int .i64 (k45 : Int)), (4, .pointer (some ⟨b69, 0, none⟩)), (58, v39), (59, .int .i64 (c.pieces.length : Int)), (60, .int .i64 (k45 : Int)), (118, .bool ((c.stop != (-1)) && (decide (c.stop < x64.to_))))]) (fun _ w' => w72 = w') ?_ ?_
         ·simp only [List.take, List.drop]
          rcases Bool.eq_false_or_eq_true (c.stop != (-1)) with hc109 | hc109
          ·refine V_ge rfl rfl rfl hc109 ?_
           have h111 := El_level_Piece_1 h74
           refine V_y (Y_fieldAddr Try.underlying62 rfl Try.sizeOf3 (by decide) rfl) rfl rfl rfl ?_
           refine V_ge rfl rfl rfl hc109 ?_
           refine V_y (Y_load (El.int h111) Try.isAgg3 rfl) rfl rfl rfl ?_
           refine V_ge rfl rfl rfl hc109 ?_
           have h112 := El_level_Clock_4 h6
           refine V_y (Y_fieldAddr Try.underlying37 rfl Try.sizeOf3 (by decide) rfl) rfl rfl rfl ?_
           refine V_ge rfl rfl rfl hc109 ?_
           refine V_y (Y_load (El.int h112) Try.isAgg3 rfl) rfl rfl rfl ?_
           refine V_ge rfl rfl rfl hc109 ?_
           refine V_y (Y_gtr rfl rfl) rfl rfl rfl ?_
           refine V_y (Y_pick_te rfl hc109 rfl) rfl rfl rfl ?_
           exact V_end fun a ha => ⟨(), ha.sub ⟨rfl, rfl, rfl, rfl, rfl, rfl, (by rw [hc109]; rfl), trivial⟩, rfl⟩
          ·refine V_gn rfl rfl rfl hc109 rfl rfl rfl ?_
           refine V_gn rfl rfl rfl hc109 rfl rfl rfl ?_
           refine V_gn rfl rfl rfl hc109 rfl rfl rfl ?_
           refine V_gn rfl rfl rfl hc109 rfl rfl rfl ?_
           refine V_gn rfl rfl rfl hc109 rfl rfl rfl ?_
           refine V_y (Y_pick_fe rfl hc109 rfl) rfl rfl rfl ?_
           exact V_end fun a ha => ⟨(), ha.sub ⟨rfl, rfl, rfl, rfl, rfl, rfl, (by rw [hc109]; rfl), trivial⟩, rfl⟩
         simp only [List.take, List.drop]
         rintro _ _ rfl
         refine V_y (Y_assign rfl) rfl rfl rfl ?_
         obtain rfl := Option.some.inj ho100
         refine V_end (fun a ha113 => ?_)
         exact ⟨(), ha113.sub ⟨rfl, rfl, rfl, rfl, rfl, rfl, rfl, trivial⟩, rfl⟩
       rintro _ _ rfl a ha105
       refine C_at (n := ⟨135, [], none⟩) (fun _ _ => rfl) ?_ ha105
       refine C_cond rfl (fun hc114 => ?_) (fun hc114 => ?_)
       ·rw [if_pos hc114] at h56
        refine C_seq ?_
        refine C_region ?_
        refine V_y (Y_assign rfl) rfl rfl rfl ?_
        refine V_to (fun _ _ => rfl) ?_
        obtain rfl := Option.some.inj h56
        obtain rfl := (h57 : Lp.rt _ = _)
        rw [Lp.andThen_rt] at hm
        obtain rfl := Option.some.inj hm
        refine C_ret ?_
        try simp only [↓inBlock_ret, ↓then_ret]
        exact retQ rfl (Res.one Try.results28 rfl) ⟨rfl, hK.kp⟩
       ·rw [if_neg (nt hc114)] at h56
        refine C_seq ?_
        refine C_region_q (Dw := Dw) Try_mixed (by kernel_rfl) ?_
        refine VQ_y (fun w' hw' => Y_move rfl) rfl rfl rfl ?_
        refine VQ_y (fun w' hw' => Y_gtr rfl rfl) rfl rfl rfl ?_
        refine VQ_y (fun w' hw' => Y_move rfl) rfl rfl rfl ?_
        obtain ⟨s116, hs116, h56⟩ := Option.bind_eq_some_iff.1 h56
        refine VQ_cut 11 (fun _ : Unit => [(1, .pointer (some ⟨b3, 0, none⟩)), (58, v39), (59, .int .i64 (c.pieces.length : Int)), (60, .int .i64 (k45 : Int)), (133, .bool s116)]) (fun _ => True) ?_ ?_
        ·simp only [List.take, List.drop]
         rcases Bool.eq_false_or_eq_true (decide ((0 : Int) < (k45 : Int))) with hc115 | hc115
         ·rw [if_pos hc115] at hs116
          refine VQ_ge rfl rfl rfl hc115 ?_
          have h117 := El_level_Piece_0 h74
          refine VQ_y (fun w' hw' => Y_fieldAddr Try.underlying62 rfl Try.sizeOf3 (by decide) rfl) rfl rfl rfl ?_
          refine VQ_ge rfl rfl rfl hc115 ?_
          refine VQ_y (fun w' hw' => Y_load (El.int (El.kp (Dw := Dw) h117 hw')) Try.isAgg3 rfl) rfl rfl rfl ?_
          refine VQ_ge rfl rfl rfl hc115 ?_
          have h118 := El_level_Clock_6 h6
          refine VQ_y (fun w' hw' => Y_fieldAddr Try.underlying37 rfl Try.sizeOf35 (by decide) rfl) rfl rfl rfl ?_
          refine VQ_ge rfl rfl rfl hc115 ?_
          obtain ⟨v119, h120, h121⟩ := El.list h118
          refine VQ_y (fun w' hw' => Y_load ((World.cell?_of_block (hw'.block _ (World.block_lt_of_cell? _ _ h120))).trans h120) Try.isAgg35 rfl) rfl rfl rfl ?_
          refine VQ_ge rfl rfl rfl hc115 ?_
          refine VQ_y (fun w' hw' => Y_move rfl) rfl rfl rfl ?_
          refine VQ_ge rfl rfl rfl hc115 ?_
          refine VQ_y (fun w' hw' => Y_subI rfl rfl) rfl rfl rfl ?_
          refine VQ_ge rfl rfl rfl hc115 ?_
          obtain ⟨x122, hx122, hs116⟩ := Option.bind_eq_some_iff.1 hs116
          refine VQ_indexAddr h121 hx122 Try.underlying35 Try.sizeOf62 rfl rfl rfl ?_
          intro b123 o124 h125
          refine VQ_ge rfl rfl rfl hc115 ?_
          have h126 := El_level_Piece_1 h125
          refine VQ_y (fun w' hw' => Y_fieldAddr Try.underlying62 rfl Try.sizeOf3 (by decide) rfl) rfl rfl rfl ?_
          refine VQ_ge rfl rfl rfl hc115 ?_
          refine VQ_y (fun w' hw' => Y_load (El.int (El.kp (Dw := Dw) h126 hw')) Try.isAgg3 rfl) rfl rfl rfl ?_
          refine VQ_ge rfl rfl rfl hc115 ?_
          refine VQ_y (fun w' hw' => Y_lss rfl rfl) rfl rfl rfl ?_
          refine VQ_y (fun _ _ => Y_pick_te rfl hc115 rfl) rfl rfl rfl ?_
          obtain rfl := Option.some.inj hs116
          exact VQ_end fun a ha => ⟨(), ha.sub ⟨rfl, rfl, rfl, rfl, rfl, trivial⟩, trivial⟩
         ·rw [if_neg (nt hc115)] at hs116
          refine VQ_gn rfl rfl rfl hc115 rfl rfl rfl ?_
          refine VQ_gn rfl rfl rfl hc115 rfl rfl rfl ?_
          refine VQ_gn rfl rfl rfl hc115 rfl rfl rfl ?_
          refine VQ_gn rfl rfl rfl hc115 rfl rfl rfl ?_
          refine VQ_gn rfl rfl rfl hc115 rfl rfl rfl ?_
          refine VQ_gn rfl rfl rfl hc115 rfl rfl rfl ?_
          refine VQ_gn rfl rfl rfl hc115 rfl rfl rfl ?_
          refine VQ_gn rfl rfl rfl hc115 rfl rfl rfl ?_
          refine VQ_gn rfl rfl rfl hc115 rfl rfl rfl ?_
          refine VQ_gn rfl rfl rfl hc115 rfl rfl rfl ?_
          refine VQ_y (fun _ _ => Y_pick_fe rfl hc115 rfl) rfl rfl rfl ?_
          obtain rfl := Option.some.inj hs116
          exact VQ_end fun a ha => ⟨(), ha.sub ⟨rfl, rfl, rfl, rfl, rfl, trivial⟩, trivial⟩
        simp only [List.take, List.drop]
        rintro _ _
        refine VQ_y (fun w' hw' => Y_assign rfl) rfl rfl rfl ?_
        refine VQ_to (fun _ _ => rfl) (fun w127 hk128 => ?_)
        have ht129 := Kp.tr (Dw := Dw) hk128 hA hB
        replace hH := Hp.kp (Dw := Dw) hH hk128
        replace hK := Tr.trans (Dw := Dw) hK ht129
        replace hr44 := Tr.trans (Dw := Dw) hr44 ht129
        refine C_cond rfl (fun hc130 => ?_) (fun hc130 => ?_)
        ·rw [if_pos hc130] at h56
         refine C_seq ?_
         refine C_region ?_
         refine V_y (Y_assign rfl) rfl rfl rfl ?_
         refine V_to (fun _ _ => rfl) ?_
         obtain rfl := Option.some.inj h56
         obtain rfl := (h57 : Lp.rt _ = _)
         rw [Lp.andThen_rt] at hm
         obtain rfl := Option.some.inj hm
         refine C_ret ?_
         try simp only [↓inBlock_ret, ↓then_ret]
         exact retQ rfl (Res.one Try.results28 rfl) ⟨rfl, hK.kp⟩
        ·rw [if_neg (nt hc130)] at h56
         refine C_skip_to (fun _ _ => rfl) ?_
         refine C_region ?_
         refine V_y (Y_addI rfl rfl) rfl rfl rfl ?_
         refine V_y (Y_move rfl) rfl rfl rfl ?_
         obtain rfl := Option.some.inj h56
         refine V_end (fun a ha131 => ?_)
         exact ⟨(), hlt59, h57, ⟨A53, ha131.sub ⟨rfl, rfl, rfl, (congrArg (fun z => some (Value.int .i64 z)) (w64_succ hlt59 hn62)), trivial⟩, ⟨hH, hr44⟩⟩⟩
     ·refine C_exit (fun a ha132 => ?_)
      exact ⟨((), A53), ha132.sub trivial, ⟨(h60 (eq_of_dec hle58 hc63)).symm, hH, hr44⟩⟩
    rintro ⟨s43, A49⟩ w46 ⟨rfl, hH50, hk47⟩ a ha48
    rw [Lp.andThen_fin] at hm
    replace hK := Tr.trans (Dw := Dw) hK hk47
    replace hA := hk47.new
    replace hH : Hp w.heap.size A49 w46 ([]) := hH50
    refine C_at (n := ⟨135, [], none⟩) (fun _ _ => rfl) ?_ ha48
    refine C_seq ?_
    refine C_region ?_
    refine V_y (Y_assign rfl) rfl rfl rfl ?_
    refine V_to (fun _ _ => rfl) ?_
    obtain rfl := Option.some.inj hm
    refine C_ret ?_
    try simp only [↓inBlock_ret, ↓then_ret]
    exact retQ rfl (Res.one Try.results28 rfl) ⟨rfl, hK.kp⟩
set_option maxRecDepth 4000 in
set_option maxHeartbeats 4000000 in
theorem cal_within_c (w : World) (n : Int) (low : Int) (high : Int) : Ret Try.prog 47 #[.int .i64 n, .int .i64 low, .int .i64 high] w fun v w' => v = .bool (cal_within n low high) ∧ w = w' := by
 generalize hm : cal_within n low high = r
 unfold cal_within at hm
 refine enter Try.func47 rfl Try.ntmps47 rfl ?_
 refine C_seq ?_
 refine C_region ?_
 refine V_y (Y_assign rfl) rfl rfl rfl ?_
 refine V_to (fun _ _ => rfl) ?_
 refine C_seq ?_
 refine C_region ?_
 refine V_y (Y_move rfl) rfl rfl rfl ?_
 refine V_y (Y_move rfl) rfl rfl rfl ?_
 refine V_y (Y_geq rfl rfl) rfl rfl rfl ?_
 refine V_y (Y_move rfl) rfl rfl rfl ?_
 refine V_cut 4 (fun _ : Unit => [(14, .bool ((decide (low ≤ n)) && (decide (n ≤ high))))]) (fun _ w' => w = w') ?_ ?_
 ·simp only [List.take, List.drop]
  rcases Bool.eq_false_or_eq_true (decide (low ≤ n)) with hc1 | hc1
  ·refine V_ge rfl rfl rfl hc1 ?_
   refine V_y (Y_move rfl) rfl rfl rfl ?_
   refine V_ge rfl rfl rfl hc1 ?_
   refine V_y (Y_move rfl) rfl rfl rfl ?_
   refine V_ge rfl rfl rfl hc1 ?_
   refine V_y (Y_leq rfl rfl) rfl rfl rfl ?_
   refine V_y (Y_pick_te rfl hc1 rfl) rfl rfl rfl ?_
   exact V_end fun a ha => ⟨(), ha.sub ⟨(by rw [hc1]; rfl), trivial⟩, rfl⟩
  ·refine V_gn rfl rfl rfl hc1 rfl rfl rfl ?_
   refine V_gn rfl rfl rfl hc1 rfl rfl rfl ?_
   refine V_gn rfl rfl rfl hc1 rfl rfl rfl ?_
   refine V_y (Y_pick_fe rfl hc1 rfl) rfl rfl rfl ?_
   exact V_end fun a ha => ⟨(), ha.sub ⟨(by rw [hc1]; rfl), trivial⟩, rfl⟩
 simp only [List.take, List.drop]
 rintro _ _ rfl
 refine V_y (Y_assign rfl) rfl rfl rfl ?_
 refine V_to (fun _ _ => rfl) ?_
 obtain rfl := hm
 refine C_ret ?_
 try simp only [↓inBlock_ret, ↓then_ret]
 exact retQ rfl (Res.one Try.results47 rfl) ⟨rfl, rfl⟩
set_option maxRecDepth 4000 in
set_option maxHeartbeats 4000000 in
theorem cal_CheckZone_c (w : World) {A : Nat → Prop} (hA : ∀ b, w.heap.size ≤ b → A b) (z : cal_Zone) (v_z : Value) (h_z : Sl A w v_z z.changes) {r : Int} (hm : cal_CheckZone z = some r) : Ret Try.prog 45 #[.agg #[.int .i64 z.offset, v_z]] w fun v w' => v = .int .i64 r ∧ Kp Dw w w' := by
 unfold cal_CheckZone at hm
 refine enter Try.func45 rfl Try.ntmps45 rfl ?_
 have hA0 := hA
 have hB := Nat.le_refl w.heap.size
 have hK : Tr Dw w.heap.size A w A w := Tr.refl (Dw := Dw) hA
 have hH : Hp w.heap.size A w [] := Hp.nil
 refine C_seq ?_
 refine C_region ?_
 refine V_box rfl rfl ?_
 intro b3 w4 h5
 have hk7 := h5.kp (Dw := Dw)
 have h6 : El (α := cal_Zone) A w4 b3 0 z := h5.el hA ⟨[.int .i64 z.offset], _, rfl, rfl, ⟨_, rfl, h_z⟩⟩
 have ht8 := Kp.tr (Dw := Dw) hk7 hA hB
 replace hH := Hp.kp (Dw := Dw) hH hk7
 replace hK := Tr.trans (Dw := Dw) hK ht8
 replace hB := Nat.le_trans hB ht8.ex.size
 replace hA := ht8.new
 refine V_y (Y_assign rfl) rfl rfl rfl ?_
 refine V_to (fun _ _ => rfl) ?_
 refine C_seq ?_
 refine C_seq ?_
 refine C_region ?_
 have h9 := El_cal_Zone_0 h6
 refine V_y (Y_fieldAddr Try.underlying54 rfl Try.sizeOf3 (by decide) rfl) rfl rfl rfl ?_
 refine V_y (Y_load (El.int h9) Try.isAgg3 rfl) rfl rfl rfl ?_
 refine V_call Try.call47 rfl rfl rfl rfl (cal_within_c w4 z.offset (-1440) 1440) ?_
 rintro _ _ ⟨rfl, rfl⟩
 refine V_y (Y_not rfl) rfl rfl rfl ?_
 refine V_to (fun _ _ => rfl) ?_
 refine C_cond rfl (fun hc10 => ?_) (fun hc10 => ?_)
 ·rw [if_pos hc10] at hm
  refine C_seq ?_
  refine C_region ?_
  refine V_y (Y_assign rfl) rfl rfl rfl ?_
  refine V_to (fun _ _ => rfl) ?_
  obtain rfl := Option.some.inj hm
  refine C_ret ?_
  try simp only [↓inBlock_ret, ↓then_ret]
  exact retQ rfl (Res.one Try.results45 rfl) ⟨rfl, hK.kp⟩
 ·rw [if_neg (nt hc10)] at hm
  refine C_skip_to (fun _ _ => rfl) ?_
  refine C_seq ?_
  refine C_seq ?_
  refine C_region ?_
  have h11 := El_cal_Zone_1 h6
  refine V_y (Y_fieldAddr Try.underlying54 rfl Try.sizeOf52 (by decide) rfl) rfl rfl rfl ?_
  obtain ⟨v12, h13, h14⟩ := El.list h11
  refine V_y (Y_load h13 Try.isAgg52 rfl) rfl rfl rfl ?_
  refine V_y (Y_lenSl h14 rfl Try.underlying52 rfl) rfl rfl rfl ?_
  refine V_y (Y_gtr rfl rfl) rfl rfl rfl ?_
  refine V_to (fun _ _ => rfl) ?_
  refine C_cond rfl (fun hc15 => ?_) (fun hc15 => ?_)
  ·rw [if_pos hc15] at hm
   refine C_seq ?_
   refine C_region ?_
   refine V_y (Y_assign rfl) rfl rfl rfl ?_
   refine V_to (fun _ _ => rfl) ?_
   obtain rfl := Option.some.inj hm
   refine C_ret ?_
   try simp only [↓inBlock_ret, ↓then_ret]
   exact retQ rfl (Res.one Try.results45 rfl) ⟨rfl, hK.kp⟩
  ·rw [if_neg (nt hc15)] at hm
   refine C_skip_to (fun _ _ => rfl) ?_
   refine C_seq ?_
   refine C_region_q (Dw := Dw) Try_mixed (by kernel_rfl) ?_
   have h16 := El_cal_Zone_0 h6
   refine VQ_y (fun w' hw' => Y_fieldAddr Try.underlying54 rfl Try.sizeOf3 (by decide) rfl) rfl rfl rfl ?_
   refine VQ_y (fun w' hw' => Y_load (El.int (El.kp (Dw := Dw) h16 hw')) Try.isAgg3 rfl) rfl rfl rfl ?_
   refine VQ_y (fun w' hw' => Y_assign rfl) rfl rfl rfl ?_
   refine VQ_y (fun w' hw' => Y_assign rfl) rfl rfl rfl ?_
   refine VQ_to (fun _ _ => rfl) (fun w17 hk18 => ?_)
   have ht19 := Kp.tr (Dw := Dw) hk18 hA hB
   replace hH := Hp.kp (Dw := Dw) hH hk18
   replace h6 := El.tr (Dw := Dw) h6 ht19
   replace hK := Tr.trans (Dw := Dw) hK ht19
   replace hB := Nat.le_trans hB ht19.ex.size
   replace hA := ht19.new
   refine C_seq ?_
   refine C_seq ?_
   refine C_region ?_
   have h20 := El_cal_Zone_1 h6
   refine V_y (Y_fieldAddr Try.underlying54 rfl Try.sizeOf52 (by decide) rfl) rfl rfl rfl ?_
   obtain ⟨v21, h22, h23⟩ := El.list h20
   refine V_y (Y_load h22 Try.isAgg52 rfl) rfl rfl rfl ?_
   refine V_y (Y_lenSl h23 rfl Try.underlying52 rfl) rfl rfl rfl ?_
   refine V_y (Y_move rfl) rfl rfl rfl ?_
   refine V_to (fun _ _ => rfl) ?_
   have hn44 := Sl.le h23
   obtain ⟨o24, ho24, hm⟩ := Option.bind_eq_some_iff.1 hm
   refine C_cutG (ι := ((Int × Int) × (Nat → Prop))) (fun ⟨s25, A31⟩ => []) (fun ⟨s25, A31⟩ => fun w' => o24 = .fin s25 ∧ Hp w.heap.size A31 w' ([]) ∧ Tr Dw w.heap.size A w17 A31 w') ?_ ?_
   ·refine C_block ?_
    refine C_range ho24 (fun k27 s33 a w' => ∃ i : (Nat → Prop), Has ⟨50, [], none⟩ a ([(3, .int .i64 s33.1), (4, .int .i64 s33.2), (18, v21), (19, .int .i64 (z.changes.length : Int)), (20, .int .i64 (k27 : Int))]) ∧ Hp w.heap.size i w' ([]) ∧ Tr Dw w.heap.size A w17 i w') (fun a ha => ⟨A, ha.sub ⟨rfl, rfl, rfl, rfl, rfl, trivial⟩, ⟨hH, Tr.refl (Dw := Dw) hA⟩⟩) ?_
    rintro K k27 s33 a w34 ⟨A35, ha75, hH36, hr26⟩ hle40 K43 h42
    refine C_of ?_ ha75
    replace h23 := Sl.tr (Dw := Dw) h23 hr26
    replace hK := Tr.trans (Dw := Dw) hK hr26
    replace hB := Nat.le_trans hB hr26.ex.size
    replace hA := hr26.new
    replace hH : Hp w.heap.size A35 w34 ([]) := hH36
    refine C_seq (C_region (V_y (Y_lss rfl rfl) rfl rfl rfl (V_to (fun _ _ => rfl) ?_)))
    refine C_seq ?_
    refine C_cond rfl (fun hc45 => ?_) (fun hc45 => ?_)
    ·have hlt41 := lt_of_dec hc45
     obtain ⟨x37, h38, h39⟩ := K43 hlt41
     refine C_skip_to (fun _ _ => rfl) ?_
     refine C_seq ?_
     refine C_block ?_
     refine C_seq ?_
     refine C_region ?_
     obtain ⟨x46, hx46, h38⟩ := Option.bind_eq_some_iff.1 h38
     refine V_indexAddr h23 hx46 Try.underlying52 Try.sizeOf104 rfl rfl rfl ?_
     intro b47 o48 h49
     obtain ⟨h50, _⟩ := El_cal_Change h49
     refine V_y (Y_loadA h50 Try.isAgg104 Try.sizeOf104 rfl) rfl rfl rfl ?_
     refine V_alloc Try.zeroValue104 rfl ?_
     intro b51 w52 h53
     refine V_storeNew h53 Try.sizeOf104 rfl rfl rfl rfl (by exact (List.forall_mem_cons.2 ⟨rfl, (List.forall_mem_cons.2 ⟨rfl, (fun _ h => nomatch h)⟩)⟩)) ?_
     intro w54 h55
     have hk57 := h55.kp (Dw := Dw)
     have h56 : El (α := cal_Change) A35 w54 b51 0 x46 := h55.el hA ⟨[.int .i64 x46.at_], _, rfl, rfl, rfl⟩
     have ht58 := Kp.tr (Dw := Dw) hk57 hA hB
     replace hH := Hp.kp (Dw := Dw) hH hk57
     replace hK := Tr.trans (Dw := Dw) hK ht58
     replace hr26 := Tr.trans (Dw := Dw) hr26 ht58
     replace hB := Nat.le_trans hB ht58.ex.size
     replace hA := ht58.new
     refine V_to (fun _ _ => rfl) ?_
     refine C_seq ?_
     refine C_block ?_
     refine C_seq ?_
     refine C_region ?_
     have h59 := El_cal_Change_0 h56
     refine V_y (Y_fieldAddr Try.underlying104 rfl Try.sizeOf3 (by decide) rfl) rfl rfl rfl ?_
     refine V_y (Y_load (El.int h59) Try.isAgg3 rfl) rfl rfl rfl ?_
     refine V_call Try.call47 rfl rfl rfl rfl (cal_within_c w54 x46.at_ 1 3000000) ?_
     rintro _ _ ⟨rfl, rfl⟩
     refine V_y (Y_not rfl) rfl rfl rfl ?_
     refine V_y (Y_move rfl) rfl rfl rfl ?_
     refine V_cut 5 (fun _ : Unit => [(3, .int .i64 s33.1), (4, .int .i64 s33.2), (6, .pointer (some ⟨b51, 0, none⟩)), (18, v21), (19, .int .i64 (z.changes.length : Int)), (20, .int .i64 (k27 : Int)), (34, .bool ((!(cal_within x46.at_ 1 3000000)) || (!(cal_within x46.offset (-1440) 1440))))]) (fun _ w' => w54 = w') ?_ ?_
     ·simp only [List.take, List.drop]
      rcases Bool.eq_false_or_eq_true (!(cal_within x46.at_ 1 3000000)) with hc60 | hc60
      ·refine V_gn rfl rfl rfl hc60 rfl rfl rfl ?_
       refine V_gn rfl rfl rfl hc60 rfl rfl rfl ?_
       refine V_gn rfl rfl rfl hc60 rfl rfl rfl ?_
       refine V_gn rfl rfl rfl hc60 rfl rfl rfl ?_
       refine V_y (Y_pick_te rfl hc60 rfl) rfl rfl rfl ?_
       exact V_end fun a ha => ⟨(), ha.sub ⟨rfl, rfl, rfl, rfl, rfl, rfl, (by rw [hc60]; rfl), trivial⟩, rfl⟩
      ·refine V_ge rfl rfl rfl hc60 ?_
       have h62 := El_cal_Change_1 h56
       refine V_y (Y_fieldAddr Try.underlying104 rfl Try.sizeOf3 (by decide) rfl) rfl rfl rfl ?_
       refine V_ge rfl rfl rfl hc60 ?_
       refine V_y (Y_load (El.int h62) Try.isAgg3 rfl) rfl rfl rfl ?_
       refine V_ge rfl rfl rfl hc60 ?_
       refine V_call Try.call47 rfl rfl rfl rfl (cal_within_c w54 x46.offset (-1440) 1440) ?_
       rintro _ _ ⟨rfl, rfl⟩
       refine V_ge rfl rfl rfl hc60 ?_
       refine V_y (Y_not rfl) rfl rfl rfl ?_
       refine V_y (Y_pick_fe rfl hc60 rfl) rfl rfl rfl ?_
       exact V_end fun a ha => ⟨(), ha.sub ⟨rfl, rfl, rfl, rfl, rfl, rfl, (by rw [hc60]; rfl), trivial⟩, rfl⟩
     simp only [List.take, List.drop]
     rintro _ _ rfl
     refine V_y (Y_assign rfl) rfl rfl rfl ?_
     refine V_to (fun _ _ => rfl) ?_
     refine C_cond rfl (fun hc63 => ?_) (fun hc63 => ?_)
     ·rw [if_pos hc63] at h38
      refine C_seq ?_
      refine C_region ?_
      refine V_y (Y_assign rfl) rfl rfl rfl ?_
      refine V_to (fun _ _ => rfl) ?_
      obtain rfl := Option.some.inj h38
      obtain rfl := (h39 : Lp.rt _ = _)
      rw [Lp.andThen_rt] at hm
      obtain rfl := Option.some.inj hm
      refine C_ret ?_
      try simp only [↓inBlock_ret, ↓then_ret]
      exact retQ rfl (Res.one Try.results45 rfl) ⟨rfl, hK.kp⟩
     ·rw [if_neg (nt hc63)] at h38
      refine C_seq ?_
      refine C_region ?_
      have h64 := El_cal_Change_0 h56
      refine V_y (Y_fieldAddr Try.underlying104 rfl Try.sizeOf3 (by decide) rfl) rfl rfl rfl ?_
      refine V_y (Y_load (El.int h64) Try.isAgg3 rfl) rfl rfl rfl ?_
      refine V_y (Y_move rfl) rfl rfl rfl ?_
      refine V_y (Y_leq rfl rfl) rfl rfl rfl ?_
      refine V_y (Y_assign rfl) rfl rfl rfl ?_
      refine V_to (fun _ _ => rfl) ?_
      refine C_cond rfl (fun hc65 => ?_) (fun hc65 => ?_)
      ·rw [if_pos hc65] at h38
       refine C_seq ?_
       refine C_region ?_
       refine V_y (Y_assign rfl) rfl rfl rfl ?_
       refine V_to (fun _ _ => rfl) ?_
       obtain rfl := Option.some.inj h38
       obtain rfl := (h39 : Lp.rt _ = _)
       rw [Lp.andThen_rt] at hm
       obtain rfl := Option.some.inj hm
       refine C_ret ?_
       try simp only [↓inBlock_ret, ↓then_ret]
       exact retQ rfl (Res.one Try.results45 rfl) ⟨rfl, hK.kp⟩
      ·rw [if_neg (nt hc65)] at h38
       refine C_seq ?_
       refine C_region ?_
       have h66 := El_cal_Change_1 h56
       refine V_y (Y_fieldAddr Try.underlying104 rfl Try.sizeOf3 (by decide) rfl) rfl rfl rfl ?_
       refine V_y (Y_load (El.int h66) Try.isAgg3 rfl) rfl rfl rfl ?_
       refine V_y (Y_move rfl) rfl rfl rfl ?_
       refine V_y (Y_eql rfl rfl) rfl rfl rfl ?_
       refine V_y (Y_assign rfl) rfl rfl rfl ?_
       refine V_to (fun _ _ => rfl) ?_
       refine C_cond rfl (fun hc67 => ?_) (fun hc67 => ?_)
       ·rw [if_pos hc67] at h38
        refine C_seq ?_
        refine C_region ?_
        refine V_y (Y_assign rfl) rfl rfl rfl ?_
        refine V_to (fun _ _ => rfl) ?_
        obtain rfl := Option.some.inj h38
        obtain rfl := (h39 : Lp.rt _ = _)
        rw [Lp.andThen_rt] at hm
        obtain rfl := Option.some.inj hm
        refine C_ret ?_
        try simp only [↓inBlock_ret, ↓then_ret]
        exact retQ rfl (Res.one Try.results45 rfl) ⟨rfl, hK.kp⟩
       ·rw [if_neg (nt hc67)] at h38
        refine C_skip_to (fun _ _ => rfl) ?_
        refine C_region_q (Dw := Dw) Try_mixed (by kernel_rfl) ?_
        have h68 := El_cal_Change_0 h56
        refine VQ_y (fun w' hw' => Y_fieldAddr Try.underlying104 rfl Try.sizeOf3 (by decide) rfl) rfl rfl rfl ?_
        refine VQ_y (fun w' hw' => Y_load (El.int (El.kp (Dw := Dw) h68 hw')) Try.isAgg3 rfl) rfl rfl rfl ?_
        have h69 := El_cal_Change_1 h56
        refine VQ_y (fun w' hw' => Y_fieldAddr Try.underlying104 rfl Try.sizeOf3 (by decide) rfl) rfl rfl rfl ?_
        refine VQ_y (fun w' hw' => Y_load (El.int (El.kp (Dw := Dw) h69 hw')) Try.isAgg3 rfl) rfl rfl rfl ?_
        refine VQ_y (fun w' hw' => Y_assign rfl) rfl rfl rfl ?_
        refine VQ_y (fun w' hw' => Y_assign rfl) rfl rfl rfl ?_
        refine VQ_to (fun _ _ => rfl) (fun w70 hk71 => ?_)
        have ht72 := Kp.tr (Dw := Dw) hk71 hA hB
        replace hH := Hp.kp (Dw := Dw) hH hk71
        replace hr26 := Tr.trans (Dw := Dw) hr26 ht72
        refine C_region ?_
        refine V_y (Y_addI rfl rfl) rfl rfl rfl ?_
        refine V_y (Y_move rfl) rfl rfl rfl ?_
        obtain rfl := Option.some.inj h38
        refine V_end (fun a ha73 => ?_)
        exact ⟨(x46.at_, x46.offset), hlt41, h39, ⟨A35, ha73.sub ⟨rfl, rfl, rfl, rfl, (congrArg (fun z => some (Value.int .i64 z)) (w64_succ hlt41 hn44)), trivial⟩, ⟨hH, hr26⟩⟩⟩
    ·refine C_exit (fun a ha74 => ?_)
     exact ⟨((s33.1, s33.2), A35), ha74.sub trivial, ⟨(h42 (eq_of_dec hle40 hc45)).symm, hH, hr26⟩⟩
   rintro ⟨s25, A31⟩ w28 ⟨rfl, hH32, hk29⟩ a ha30
   rw [Lp.andThen_fin] at hm
   replace hK := Tr.trans (Dw := Dw) hK hk29
   replace hA := hk29.new
   replace hH : Hp w.heap.size A31 w28 ([]) := hH32
   refine C_at (n := ⟨50, [], none⟩) (fun _ _ => rfl) ?_ ha30
   refine C_seq ?_
   refine C_region ?_
   refine V_y (Y_assign rfl) rfl rfl rfl ?_
   refine V_to (fun _ _ => rfl) ?_
   obtain rfl := Option.some.inj hm
   refine C_ret ?_
   try simp only [↓inBlock_ret, ↓then_ret]
   exact retQ rfl (Res.one Try.results45 rfl) ⟨rfl, hK.kp⟩
set_option maxRecDepth 4000 in
set_option maxHeartbeats 4000000 in
theorem cmp_isNaN_int_c (w : World) (x : Int) : Ret Try.prog 37 #[.int .i64 x] w fun v w' => v = .bool (cmp_isNaN_int x) ∧ w = w' := by
 generalize hm : cmp_isNaN_int x = r
 unfold cmp_isNaN_int at hm
 refine enter Try.func37 rfl Try.ntmps37 rfl ?_
 refine C_seq ?_
 refine C_region ?_
 refine V_y (Y_assign rfl) rfl rfl rfl ?_
 refine V_to (fun _ _ => rfl) ?_
 refine C_seq ?_
 refine C_region ?_
 refine V_y (Y_move rfl) rfl rfl rfl ?_
 refine V_y (Y_move rfl) rfl rfl rfl ?_
 refine V_y (Y_neq rfl rfl) rfl rfl rfl ?_
 refine V_y (Y_assign rfl) rfl rfl rfl ?_
 refine V_to (fun _ _ => rfl) ?_
 obtain rfl := hm
 refine C_ret ?_
 try simp only [↓inBlock_ret, ↓then_ret]
 exact retQ rfl (Res.one Try.results37 rfl) ⟨rfl, rfl⟩
set_option maxRecDepth 4000 in
set_option maxHeartbeats 4000000 in
theorem cmp_Compare_int_c (w : World) (x : Int) (y : Int) : Ret Try.prog 18 #[.int .i64 x, .int .i64 y] w fun v w' => v = .int .i64 (cmp_Compare_int x y) ∧ w = w' := by
 generalize hm : cmp_Compare_int x y = r
 unfold cmp_Compare_int at hm
 refine enter Try.func18 rfl Try.ntmps18 rfl ?_
 refine C_seq ?_
 refine C_region ?_
 refine V_y (Y_assign rfl) rfl rfl rfl ?_
 refine V_to (fun _ _ => rfl) ?_
 refine C_seq ?_
 refine C_region ?_
 refine V_y (Y_move rfl) rfl rfl rfl ?_
 refine V_call Try.call37 rfl rfl rfl rfl (cmp_isNaN_int_c w x) ?_
 rintro _ _ ⟨rfl, rfl⟩
 refine V_y (Y_assign rfl) rfl rfl rfl ?_
 refine V_to (fun _ _ => rfl) ?_
 refine C_seq ?_
 refine C_region ?_
 refine V_y (Y_move rfl) rfl rfl rfl ?_
 refine V_call Try.call37 rfl rfl rfl rfl (cmp_isNaN_int_c w y) ?_
 rintro _ _ ⟨rfl, rfl⟩
 refine V_y (Y_assign rfl) rfl rfl rfl ?_
 refine V_to (fun _ _ => rfl) ?_
 refine C_seq ?_
 refine C_seq ?_
 refine C_region ?_
 refine V_y (Y_move rfl) rfl rfl rfl ?_
 refine V_to (fun _ _ => rfl) ?_
 refine C_cond rfl (fun hc1 => ?_) (fun hc1 => ?_)
 ·rw [if_pos hc1] at hm
  refine C_seq ?_
  refine C_seq ?_
  refine C_region ?_
  refine V_y (Y_move rfl) rfl rfl rfl ?_
  refine V_to (fun _ _ => rfl) ?_
  refine C_cond rfl (fun hc2 => ?_) (fun hc2 => ?_)
  ·rw [if_pos hc2] at hm
   refine C_seq ?_
   refine C_region ?_
   refine V_y (Y_assign rfl) rfl rfl rfl ?_
   refine V_to (fun _ _ => rfl) ?_
   obtain rfl := hm
   refine C_ret ?_
   try simp only [↓inBlock_ret, ↓then_ret]
   exact retQ rfl (Res.one Try.results18 rfl) ⟨rfl, rfl⟩
  ·rw [if_neg (nt hc2)] at hm
   refine C_skip_to (fun _ _ => rfl) ?_
   refine C_seq ?_
   refine C_region ?_
   refine V_y (Y_assign rfl) rfl rfl rfl ?_
   refine V_to (fun _ _ => rfl) ?_
   obtain rfl := hm
   refine C_ret ?_
   try simp only [↓inBlock_ret, ↓then_ret]
   exact retQ rfl (Res.one Try.results18 rfl) ⟨rfl, rfl⟩
 ·rw [if_neg (nt hc1)] at hm
  refine C_skip_to (fun _ _ => rfl) ?_
  refine C_seq ?_
  refine C_seq ?_
  refine C_region ?_
  refine V_y (Y_move rfl) rfl rfl rfl ?_
  refine V_to (fun _ _ => rfl) ?_
  refine C_cond rfl (fun hc3 => ?_) (fun hc3 => ?_)
  ·rw [if_pos hc3] at hm
   refine C_seq ?_
   refine C_region ?_
   refine V_y (Y_assign rfl) rfl rfl rfl ?_
   refine V_to (fun _ _ => rfl) ?_
   obtain rfl := hm
   refine C_ret ?_
   try simp only [↓inBlock_ret, ↓then_ret]
   exact retQ rfl (Res.one Try.results18 rfl) ⟨rfl, rfl⟩
  ·rw [if_neg (nt hc3)] at hm
   refine C_skip_to (fun _ _ => rfl) ?_
   refine C_seq ?_
   refine C_seq ?_
   refine C_region ?_
   refine V_y (Y_move rfl) rfl rfl rfl ?_
   refine V_y (Y_move rfl) rfl rfl rfl ?_
   refine V_y (Y_lss rfl rfl) rfl rfl rfl ?_
   refine V_to (fun _ _ => rfl) ?_
   refine C_cond rfl (fun hc4 => ?_) (fun hc4 => ?_)
   ·rw [if_pos hc4] at hm
    refine C_seq ?_
    refine C_region ?_
    refine V_y (Y_assign rfl) rfl rfl rfl ?_
    refine V_to (fun _ _ => rfl) ?_
    obtain rfl := hm
    refine C_ret ?_
    try simp only [↓inBlock_ret, ↓then_ret]
    exact retQ rfl (Res.one Try.results18 rfl) ⟨rfl, rfl⟩
   ·rw [if_neg (nt hc4)] at hm
    refine C_skip_to (fun _ _ => rfl) ?_
    refine C_seq ?_
    refine C_seq ?_
    refine C_region ?_
    refine V_y (Y_move rfl) rfl rfl rfl ?_
    refine V_y (Y_move rfl) rfl rfl rfl ?_
    refine V_y (Y_gtr rfl rfl) rfl rfl rfl ?_
    refine V_to (fun _ _ => rfl) ?_
    refine C_cond rfl (fun hc5 => ?_) (fun hc5 => ?_)
    ·rw [if_pos hc5] at hm
     refine C_seq ?_
     refine C_region ?_
     refine V_y (Y_assign rfl) rfl rfl rfl ?_
     refine V_to (fun _ _ => rfl) ?_
     obtain rfl := hm
     refine C_ret ?_
     try simp only [↓inBlock_ret, ↓then_ret]
     exact retQ rfl (Res.one Try.results18 rfl) ⟨rfl, rfl⟩
    ·rw [if_neg (nt hc5)] at hm
     refine C_skip_to (fun _ _ => rfl) ?_
     refine C_seq ?_
     refine C_region ?_
     refine V_y (Y_assign rfl) rfl rfl rfl ?_
     refine V_to (fun _ _ => rfl) ?_
     obtain rfl := hm
     refine C_ret ?_
     try simp only [↓inBlock_ret, ↓then_ret]
     exact retQ rfl (Res.one Try.results18 rfl) ⟨rfl, rfl⟩
set_option maxRecDepth 4000 in
set_option maxHeartbeats 4000000 in
theorem cmp_Or_int_c (w : World) {A : Nat → Prop} (vals : (List Int)) (v_vals : Value) (h_vals : Sl A w v_vals vals) {r : Int} (hm : cmp_Or_int vals = some r) : Ret Try.prog 17 #[v_vals] w fun v w' => v = .int .i64 r ∧ w = w' := by
 unfold cmp_Or_int at hm
 refine enter Try.func17 rfl Try.ntmps17 rfl ?_
 refine C_seq ?_
 refine C_region ?_
 refine V_y (Y_assign rfl) rfl rfl rfl ?_
 refine V_to (fun _ _ => rfl) ?_
 refine C_seq ?_
 refine C_region ?_
 refine V_y (Y_assign rfl) rfl rfl rfl ?_
 refine V_to (fun _ _ => rfl) ?_
 refine C_seq ?_
 refine C_seq ?_
 refine C_region ?_
 refine V_y (Y_move rfl) rfl rfl rfl ?_
 refine V_y (Y_lenSl h_vals rfl Try.underlying27 rfl) rfl rfl rfl ?_
 refine V_y (Y_move rfl) rfl rfl rfl ?_
 refine V_to (fun _ _ => rfl) ?_
 have hn19 := Sl.le h_vals
 obtain ⟨o3, ho3, hm⟩ := Option.bind_eq_some_iff.1 hm
 refine C_cutG (ι := Unit) (fun (s4 : Unit) => [(3, .int .i64 0)]) (fun (s4 : Unit) => fun w' => o3 = .fin s4 ∧ w = w') ?_ ?_
 ·refine C_block ?_
  refine C_range ho3 (fun k6 _ a w' => ∃ i : Unit, Has ⟨18, [], none⟩ a ([(3, .int .i64 0), (6, v_vals), (7, .int .i64 (vals.length : Int)), (8, .int .i64 (k6 : Int))]) ∧ w = w') (fun a ha => ⟨(), ha.sub ⟨rfl, rfl, rfl, rfl, trivial⟩, rfl⟩) ?_
  rintro K k6 _ a _ ⟨_, ha28, rfl⟩ hle15 K18 h17
  refine C_of ?_ ha28
  refine C_seq (C_region (V_y (Y_lss rfl rfl) rfl rfl rfl (V_to (fun _ _ => rfl) ?_)))
  refine C_seq ?_
  refine C_cond rfl (fun hc20 => ?_) (fun hc20 => ?_)
  ·have hlt16 := lt_of_dec hc20
   obtain ⟨x12, h13, h14⟩ := K18 hlt16
   refine C_skip_to (fun _ _ => rfl) ?_
   refine C_seq ?_
   refine C_block ?_
   refine C_seq ?_
   refine C_region ?_
   obtain ⟨x21, hx21, h13⟩ := Option.bind_eq_some_iff.1 h13
   refine V_indexAddr h_vals hx21 Try.underlying27 Try.sizeOf3 rfl rfl rfl ?_
   intro b22 o23 h24
   refine V_y (Y_load (El.int h24) Try.isAgg3 rfl) rfl rfl rfl ?_
   refine V_y (Y_assign rfl) rfl rfl rfl ?_
   refine V_to (fun _ _ => rfl) ?_
   refine C_seq ?_
   refine C_region ?_
   refine V_y (Y_move rfl) rfl rfl rfl ?_
   refine V_y (Y_move rfl) rfl rfl rfl ?_
   refine V_y (Y_neq rfl rfl) rfl rfl rfl ?_
   refine V_to (fun _ _ => rfl) ?_
   refine C_cond rfl (fun hc25 => ?_) (fun hc25 => ?_)
   ·rw [if_pos hc25] at h13
    refine C_seq ?_
    refine C_region ?_
    refine V_y (Y_move rfl) rfl rfl rfl ?_
    refine V_y (Y_assign rfl) rfl rfl rfl ?_
    refine V_to (fun _ _ => rfl) ?_
    obtain rfl := Option.some.inj h13
    obtain rfl := (h14 : Lp.rt _ = _)
    rw [Lp.andThen_rt] at hm
    obtain rfl := Option.some.inj hm
    refine C_ret ?_
    try simp only [↓inBlock_ret, ↓then_ret]
    exact retQ rfl (Res.one Try.results17 rfl) ⟨rfl, rfl⟩
   ·rw [if_neg (nt hc25)] at h13
    refine C_skip_to (fun _ _ => rfl) ?_
    refine C_region ?_
    refine V_y (Y_addI rfl rfl) rfl rfl rfl ?_
    refine V_y (Y_move rfl) rfl rfl rfl ?_
    obtain rfl := Option.some.inj h13
    refine V_end (fun a ha26 => ?_)
    exact ⟨(), hlt16, h14, ⟨(), ha26.sub ⟨rfl, rfl, rfl, (congrArg (fun z => some (Value.int .i64 z)) (w64_succ hlt16 hn19)), trivial⟩, rfl⟩⟩
  ·refine C_exit (fun a ha27 => ?_)
   exact ⟨(), ha27.sub ⟨rfl, trivial⟩, ⟨(h17 (eq_of_dec hle15 hc20)).symm, rfl⟩⟩
 rintro s4 _ ⟨rfl, rfl⟩ a ha9
 rw [Lp.andThen_fin] at hm
 refine C_at (n := ⟨18, [], none⟩) (fun _ _ => rfl) ?_ ha9
 refine C_seq ?_
 refine C_region ?_
 refine V_y (Y_move rfl) rfl rfl rfl ?_
 refine V_y (Y_assign rfl) rfl rfl rfl ?_
 refine V_to (fun _ _ => rfl) ?_
 obtain rfl := Option.some.inj hm
 refine C_ret ?_
 try simp only [↓inBlock_ret, ↓then_ret]
 exact retQ rfl (Res.one Try.results17 rfl) ⟨rfl, rfl⟩
set_option maxRecDepth 4000 in
set_option maxHeartbeats 4000000 in
theorem cal_after_c (w : World) {A : Nat → Prop} (hA : ∀ b, w.heap.size ≤ b → A b) (a_ : cal_Shift) (b : cal_Shift) {r : Bool} (hm : cal_after a_ b = some r) : Ret Try.prog 65 #[.agg #[.int .i64 a_.day, .int .i64 a_.from_, .int .i64 a_.to_], .agg #[.int .i64 b.day, .int .i64 b.from_, .int .i64 b.to_]] w fun v w' => v = .bool r ∧ Kp Dw w w' := by
 unfold cal_after at hm
 refine enter Try.func65 rfl Try.ntmps65 rfl ?_
 have hA0 := hA
 have hB := Nat.le_refl w.heap.size
 have hK : Tr Dw w.heap.size A w A w := Tr.refl (Dw := Dw) hA
 have hH : Hp w.heap.size A w [] := Hp.nil
 refine C_seq ?_
 refine C_region ?_
 refine V_box rfl rfl ?_
 intro b1 w2 h3
 have hk5 := h3.kp (Dw := Dw)
 have h4 : El (α := cal_Shift) A w2 b1 0 a_ := h3.el hA ⟨[.int .i64 a_.day], _, rfl, rfl, ⟨[.int .i64 a_.from_], _, rfl, rfl, rfl⟩⟩
 have ht6 := Kp.tr (Dw := Dw) hk5 hA hB
 replace hK := Tr.trans (Dw := Dw) hK ht6
 replace hB := Nat.le_trans hB ht6.ex.size
 replace hA := ht6.new
 refine V_box rfl rfl ?_
 intro b7 w9 h10
 have hk12 := h10.kp (Dw := Dw)
 have h11 : El (α := cal_Shift) A w9 b7 0 b := h10.el hA ⟨[.int .i64 b.day], _, rfl, rfl, ⟨[.int .i64 b.from_], _, rfl, rfl, rfl⟩⟩
 have ht13 := Kp.tr (Dw := Dw) hk12 hA hB
 replace h4 := El.tr (Dw := Dw) h4 ht13
 replace hK := Tr.trans (Dw := Dw) hK ht13
 replace hB := Nat.le_trans hB ht13.ex.size
 replace hA := ht13.new
 refine V_y (Y_assign rfl) rfl rfl rfl ?_
 refine V_to (fun _ _ => rfl) ?_
 refine C_seq ?_
 refine C_region_qt (Dw := Dw) 15 Try_mixed (by kernel_rfl) ?_
 simp only [List.take, List.drop]
 have h14 := El_cal_Shift_0 h4
 refine VQ_y (fun w' hw' => Y_fieldAddr Try.underlying106 rfl Try.sizeOf3 (by decide) rfl) rfl rfl rfl ?_
 refine VQ_y (fun w' hw' => Y_load (El.int (El.kp (Dw := Dw) h14 hw')) Try.isAgg3 rfl) rfl rfl rfl ?_
 have h15 := El_cal_Shift_0 h11
 refine VQ_y (fun w' hw' => Y_fieldAddr Try.underlying106 rfl Try.sizeOf3 (by decide) rfl) rfl rfl rfl ?_
 refine VQ_y (fun w' hw' => Y_load (El.int (El.kp (Dw := Dw) h15 hw')) Try.isAgg3 rfl) rfl rfl rfl ?_
 refine VQ_call (.int .i64 (cmp_Compare_int a_.day b.day)) Try.call18 rfl rfl rfl rfl (fun w' hw' => (cmp_Compare_int_c w' a_.day b.day).mono (fun _ _ h => ⟨h.1, h.2 ▸ hw'⟩)) ?_
 have h16 := El_cal_Shift_1 h4
 refine VQ_y (fun w' hw' => Y_fieldAddr Try.underlying106 rfl Try.sizeOf3 (by decide) rfl) rfl rfl rfl ?_
 refine VQ_y (fun w' hw' => Y_load (El.int (El.kp (Dw := Dw) h16 hw')) Try.isAgg3 rfl) rfl rfl rfl ?_
 have h17 := El_cal_Shift_1 h11
 refine VQ_y (fun w' hw' => Y_fieldAddr Try.underlying106 rfl Try.sizeOf3 (by decide) rfl) rfl rfl rfl ?_
 refine VQ_y (fun w' hw' => Y_load (El.int (El.kp (Dw := Dw) h17 hw')) Try.isAgg3 rfl) rfl rfl rfl ?_
 refine VQ_call (.int .i64 (cmp_Compare_int a_.from_ b.from_)) Try.call18 rfl rfl rfl rfl (fun w' hw' => (cmp_Compare_int_c w' a_.from_ b.from_).mono (fun _ _ h => ⟨h.1, h.2 ▸ hw'⟩)) ?_
 have h18 := El_cal_Shift_2 h4
 refine VQ_y (fun w' hw' => Y_fieldAddr Try.underlying106 rfl Try.sizeOf3 (by decide) rfl) rfl rfl rfl ?_
 refine VQ_y (fun w' hw' => Y_load (El.int (El.kp (Dw := Dw) h18 hw')) Try.isAgg3 rfl) rfl rfl rfl ?_
 have h19 := El_cal_Shift_2 h11
 refine VQ_y (fun w' hw' => Y_fieldAddr Try.underlying106 rfl Try.sizeOf3 (by decide) rfl) rfl rfl rfl ?_
 refine VQ_y (fun w' hw' => Y_load (El.int (El.kp (Dw := Dw) h19 hw')) Try.isAgg3 rfl) rfl rfl rfl ?_
 refine VQ_call (.int .i64 (cmp_Compare_int a_.to_ b.to_)) Try.call18 rfl rfl rfl rfl (fun w' hw' => (cmp_Compare_int_c w' a_.to_ b.to_).mono (fun _ _ h => ⟨h.1, h.2 ▸ hw'⟩)) ?_
 refine VQ_tail (fun w20 hk21 => ?_)
 try simp only [List.take, List.drop]
 have ht22 := Kp.tr (Dw := Dw) hk21 hA hB
 replace hK := Tr.trans (Dw := Dw) hK ht22
 replace hB := Nat.le_trans hB ht22.ex.size
 replace hA := ht22.new
 refine V_buildSlice (Dw := Dw) (cells := #[.int .i64 (cmp_Compare_int a_.day b.day), .int .i64 (cmp_Compare_int a_.from_ b.from_), .int .i64 (cmp_Compare_int a_.to_ b.to_)]) (l := ([(cmp_Compare_int a_.day b.day), (cmp_Compare_int a_.from_ b.from_), (cmp_Compare_int a_.to_ b.to_)] : List Int)) (len := 3) Try.underlying27 Try.sizeOf3 Try.zeroValue3 rfl (by generalize ((cmp_Compare_int a_.from_ b.from_) : Int) = z27; generalize ((cmp_Compare_int a_.day b.day) : Int) = z28; generalize ((cmp_Compare_int a_.to_ b.to_) : Int) = z29; kernel_rfl) (show (3 * 1 : Nat) ≠ 0 by decide) (show (3 * 1 : Nat) ≤ 2 ^ 24 by decide) hA ⟨[.int .i64 (cmp_Compare_int a_.day b.day)], _, rfl, rfl, ⟨[.int .i64 (cmp_Compare_int a_.from_ b.from_)], _, rfl, rfl, ⟨[.int .i64 (cmp_Compare_int a_.to_ b.to_)], _, rfl, rfl, rfl⟩⟩⟩ rfl rfl ?_
 intro v23 w24 hk26 h25
 have ht30 := Kp.tr (Dw := Dw) hk26 hA hB
 replace hK := Tr.trans (Dw := Dw) hK ht30
 obtain ⟨x31, hx31, hm⟩ := Option.bind_eq_some_iff.1 hm
 refine V_call Try.call17 rfl rfl rfl rfl (cmp_Or_int_c w24 ([(cmp_Compare_int a_.day b.day), (cmp_Compare_int a_.from_ b.from_), (cmp_Compare_int a_.to_ b.to_)] : List Int) v23 h25 hx31) ?_
 rintro _ _ ⟨rfl, rfl⟩
 refine V_y (Y_gtr rfl rfl) rfl rfl rfl ?_
 refine V_y (Y_assign rfl) rfl rfl rfl ?_
 refine V_to (fun _ _ => rfl) ?_
 obtain rfl := Option.some.inj hm
 refine C_ret ?_
 try simp only [↓inBlock_ret, ↓then_ret]
 exact retQ rfl (Res.one Try.results65 rfl) ⟨rfl, hK.kp⟩
set_option maxRecDepth 4000 in
set_option maxHeartbeats 4000000 in
theorem cal_checkShifts_c (w : World) {A : Nat → Prop} (hA : ∀ b, w.heap.size ≤ b → A b) (l : (List cal_Shift)) (v_l : Value) (h_l : Sl A w v_l l) (dated : Bool) {r : Int} (hm : cal_checkShifts l dated = some r) : Ret Try.prog 46 #[v_l, .bool dated] w fun v w' => v = .int .i64 r ∧ Kp Dw w w' := by
 unfold cal_checkShifts at hm
 refine enter Try.func46 rfl Try.ntmps46 rfl ?_
 have hA0 := hA
 have hB := Nat.le_refl w.heap.size
 have hK : Tr Dw w.heap.size A w A w := Tr.refl (Dw := Dw) hA
 have hH : Hp w.heap.size A w [] := Hp.nil
 refine C_seq ?_
 refine C_region ?_
 refine V_y (Y_assign rfl) rfl rfl rfl ?_
 refine V_to (fun _ _ => rfl) ?_
 refine C_seq ?_
 refine C_seq ?_
 refine C_region ?_
 refine V_y (Y_move rfl) rfl rfl rfl ?_
 refine V_y (Y_lenSl h_l rfl Try.underlying55 rfl) rfl rfl rfl ?_
 refine V_y (Y_move rfl) rfl rfl rfl ?_
 refine V_to (fun _ _ => rfl) ?_
 have hn23 := Sl.le h_l
 obtain ⟨o3, ho3, hm⟩ := Option.bind_eq_some_iff.1 hm
 refine C_cutG (ι := (Unit × (Nat → Prop))) (fun ⟨s4, A10⟩ => []) (fun ⟨s4, A10⟩ => fun w' => o3 = .fin s4 ∧ Hp w.heap.size A10 w' ([]) ∧ Tr Dw w.heap.size A w A10 w') ?_ ?_
 ·refine C_block ?_
  refine C_range ho3 (fun k6 _ a w' => ∃ i : (Nat → Prop), Has ⟨58, [], none⟩ a ([(0, v_l), (1, .bool dated), (7, v_l), (8, .int .i64 (l.length : Int)), (9, .int .i64 (k6 : Int))]) ∧ Hp w.heap.size i w' ([]) ∧ Tr Dw w.heap.size A w i w') (fun a ha => ⟨A, ha.sub ⟨rfl, rfl, rfl, rfl, rfl, trivial⟩, ⟨hH, Tr.refl (Dw := Dw) hA⟩⟩) ?_
  rintro K k6 _ a w13 ⟨A14, ha71, hH15, hr5⟩ hle19 K22 h21
  refine C_of ?_ ha71
  replace h_l := Sl.tr (Dw := Dw) h_l hr5
  replace hK := Tr.trans (Dw := Dw) hK hr5
  replace hB := Nat.le_trans hB hr5.ex.size
  replace hA := hr5.new
  replace hH : Hp w.heap.size A14 w13 ([]) := hH15
  refine C_seq (C_region (V_y (Y_lss rfl rfl) rfl rfl rfl (V_to (fun _ _ => rfl) ?_)))
  refine C_seq ?_
  refine C_cond rfl (fun hc24 => ?_) (fun hc24 => ?_)
  ·have hlt20 := lt_of_dec hc24
   obtain ⟨x16, h17, h18⟩ := K22 hlt20
   refine C_skip_to (fun _ _ => rfl) ?_
   refine C_seq ?_
   refine C_block ?_
   refine C_seq ?_
   refine C_region ?_
   refine V_y (Y_move rfl) rfl rfl rfl ?_
   obtain ⟨x25, hx25, h17⟩ := Option.bind_eq_some_iff.1 h17
   refine V_indexAddr h_l hx25 Try.underlying55 Try.sizeOf106 rfl rfl rfl ?_
   intro b26 o27 h28
   obtain ⟨h29, _⟩ := El_cal_Shift h28
   refine V_y (Y_loadA h29 Try.isAgg106 Try.sizeOf106 rfl) rfl rfl rfl ?_
   refine V_alloc Try.zeroValue106 rfl ?_
   intro b30 w31 h32
   refine V_y (Y_assign rfl) rfl rfl rfl ?_
   refine V_storeNew h32 Try.sizeOf106 rfl rfl rfl rfl (by exact (List.forall_mem_cons.2 ⟨rfl, (List.forall_mem_cons.2 ⟨rfl, (List.forall_mem_cons.2 ⟨rfl, (fun _ h => nomatch h)⟩)⟩)⟩)) ?_
   intro w33 h34
   have hk36 := h34.kp (Dw := Dw)
   have h35 : El (α := cal_Shift) A14 w33 b30 0 x25 := h34.el hA ⟨[.int .i64 x25.day], _, rfl, rfl, ⟨[.int .i64 x25.from_], _, rfl, rfl, rfl⟩⟩
   have ht37 := Kp.tr (Dw := Dw) hk36 hA hB
   replace hH := Hp.kp (Dw := Dw) hH hk36
   replace h_l := Sl.tr (Dw := Dw) h_l ht37
   replace hK := Tr.trans (Dw := Dw) hK ht37
   replace hr5 := Tr.trans (Dw := Dw) hr5 ht37
   replace hB := Nat.le_trans hB ht37.ex.size
   replace hA := ht37.new
   refine V_to (fun _ _ => rfl) ?_
   refine C_seq ?_
   refine C_seq ?_
   refine C_region ?_
   refine V_y (Y_move rfl) rfl rfl rfl ?_
   refine V_y (Y_move rfl) rfl rfl rfl ?_
   refine V_cut 4 (fun _ : Unit => [(0, v_l), (1, .bool dated), (5, .int .i64 (k6 : Int)), (6, .pointer (some ⟨b30, 0, none⟩)), (7, v_l), (8, .int .i64 (l.length : Int)), (9, .int .i64 (k6 : Int)), (19, .bool (dated && (x25.day != 0)))]) (fun _ w' => w33 = w') ?_ ?_
   ·simp only [List.take, List.drop]
    rcases Bool.eq_false_or_eq_true (dated) with hc38 | hc38
    ·refine V_ge rfl rfl rfl hc38 ?_
     have h40 := El_cal_Shift_0 h35
     refine V_y (Y_fieldAddr Try.underlying106 rfl Try.sizeOf3 (by decide) rfl) rfl rfl rfl ?_
     refine V_ge rfl rfl rfl hc38 ?_
     refine V_y (Y_load (El.int h40) Try.isAgg3 rfl) rfl rfl rfl ?_
     refine V_ge rfl rfl rfl hc38 ?_
     refine V_y (Y_neq rfl rfl) rfl rfl rfl ?_
     refine V_y (Y_pick_te rfl hc38 rfl) rfl rfl rfl ?_
     exact V_end fun a ha => ⟨(), ha.sub ⟨rfl, rfl, rfl, rfl, rfl, rfl, rfl, (by rw [hc38]; rfl), trivial⟩, rfl⟩
    ·refine V_gn rfl rfl rfl hc38 rfl rfl rfl ?_
     refine V_gn rfl rfl rfl hc38 rfl rfl rfl ?_
     refine V_gn rfl rfl rfl hc38 rfl rfl rfl ?_
     refine V_y (Y_pick_fe rfl hc38 rfl) rfl rfl rfl ?_
     exact V_end fun a ha => ⟨(), ha.sub ⟨rfl, rfl, rfl, rfl, rfl, rfl, rfl, (by rw [hc38]; rfl), trivial⟩, rfl⟩
   simp only [List.take, List.drop]
   rintro _ _ rfl
   refine V_to (fun _ _ => rfl) ?_
   refine C_cond rfl (fun hc41 => ?_) (fun hc41 => ?_)
   ·rw [if_pos hc41] at h17
    refine C_seq ?_
    refine C_region ?_
    refine V_y (Y_assign rfl) rfl rfl rfl ?_
    refine V_to (fun _ _ => rfl) ?_
    obtain rfl := Option.some.inj h17
    obtain rfl := (h18 : Lp.rt _ = _)
    rw [Lp.andThen_rt] at hm
    obtain rfl := Option.some.inj hm
    refine C_ret ?_
    try simp only [↓inBlock_ret, ↓then_ret]
    exact retQ rfl (Res.one Try.results46 rfl) ⟨rfl, hK.kp⟩
   ·rw [if_neg (nt hc41)] at h17
    refine C_skip_to (fun _ _ => rfl) ?_
    refine C_seq ?_
    refine C_seq ?_
    refine C_region ?_
    have h42 := El_cal_Shift_0 h35
    refine V_y (Y_fieldAddr Try.underlying106 rfl Try.sizeOf3 (by decide) rfl) rfl rfl rfl ?_
    refine V_y (Y_load (El.int h42) Try.isAgg3 rfl) rfl rfl rfl ?_
    refine V_call Try.call47 rfl rfl rfl rfl (cal_within_c w33 x25.day 0 6) ?_
    rintro _ _ ⟨rfl, rfl⟩
    refine V_y (Y_not rfl) rfl rfl rfl ?_
    refine V_y (Y_move rfl) rfl rfl rfl ?_
    refine V_cut 5 (fun _ : Unit => [(0, v_l), (1, .bool dated), (5, .int .i64 (k6 : Int)), (6, .pointer (some ⟨b30, 0, none⟩)), (7, v_l), (8, .int .i64 (l.length : Int)), (9, .int .i64 (k6 : Int)), (29, .bool ((!(cal_within x25.day 0 6)) || (!(cal_within x25.from_ 0 1439))))]) (fun _ w' => w33 = w') ?_ ?_
    ·simp only [List.take, List.drop]
     rcases Bool.eq_false_or_eq_true (!(cal_within x25.day 0 6)) with hc43 | hc43
     ·refine V_gn rfl rfl rfl hc43 rfl rfl rfl ?_
      refine V_gn rfl rfl rfl hc43 rfl rfl rfl ?_
      refine V_gn rfl rfl rfl hc43 rfl rfl rfl ?_
      refine V_gn rfl rfl rfl hc43 rfl rfl rfl ?_
      refine V_y (Y_pick_te rfl hc43 rfl) rfl rfl rfl ?_
      exact V_end fun a ha => ⟨(), ha.sub ⟨rfl, rfl, rfl, rfl, rfl, rfl, rfl, (by rw [hc43]; rfl), trivial⟩, rfl⟩
     ·refine V_ge rfl rfl rfl hc43 ?_
      have h45 := El_cal_Shift_1 h35
      refine V_y (Y_fieldAddr Try.underlying106 rfl Try.sizeOf3 (by decide) rfl) rfl rfl rfl ?_
      refine V_ge rfl rfl rfl hc43 ?_
      refine V_y (Y_load (El.int h45) Try.isAgg3 rfl) rfl rfl rfl ?_
      refine V_ge rfl rfl rfl hc43 ?_
      refine V_call Try.call47 rfl rfl rfl rfl (cal_within_c w33 x25.from_ 0 1439) ?_
      rintro _ _ ⟨rfl, rfl⟩
      refine V_ge rfl rfl rfl hc43 ?_
      refine V_y (Y_not rfl) rfl rfl rfl ?_
      refine V_y (Y_pick_fe rfl hc43 rfl) rfl rfl rfl ?_
      exact V_end fun a ha => ⟨(), ha.sub ⟨rfl, rfl, rfl, rfl, rfl, rfl, rfl, (by rw [hc43]; rfl), trivial⟩, rfl⟩
    simp only [List.take, List.drop]
    rintro _ _ rfl
    refine V_y (Y_move rfl) rfl rfl rfl ?_
    refine V_cut 6 (fun _ : Unit => [(0, v_l), (1, .bool dated), (5, .int .i64 (k6 : Int)), (6, .pointer (some ⟨b30, 0, none⟩)), (7, v_l), (8, .int .i64 (l.length : Int)), (9, .int .i64 (k6 : Int)), (36, .bool (((!(cal_within x25.day 0 6)) || (!(cal_within x25.from_ 0 1439))) || (decide (x25.to_ ≤ x25.from_))))]) (fun _ w' => w33 = w') ?_ ?_
    ·simp only [List.take, List.drop]
     rcases Bool.eq_false_or_eq_true (((!(cal_within x25.day 0 6)) || (!(cal_within x25.from_ 0 1439)))) with hc46 | hc46
     ·refine V_gn rfl rfl rfl hc46 rfl rfl rfl ?_
      refine V_gn rfl rfl rfl hc46 rfl rfl rfl ?_
      refine V_gn rfl rfl rfl hc46 rfl rfl rfl ?_
      refine V_gn rfl rfl rfl hc46 rfl rfl rfl ?_
      refine V_gn rfl rfl rfl hc46 rfl rfl rfl ?_
      refine V_y (Y_pick_te rfl hc46 rfl) rfl rfl rfl ?_
      exact V_end fun a ha => ⟨(), ha.sub ⟨rfl, rfl, rfl, rfl, rfl, rfl, rfl, (by rw [hc46]; rfl), trivial⟩, rfl⟩
     ·refine V_ge rfl rfl rfl hc46 ?_
      have h48 := El_cal_Shift_2 h35
      refine V_y (Y_fieldAddr Try.underlying106 rfl Try.sizeOf3 (by decide) rfl) rfl rfl rfl ?_
      refine V_ge rfl rfl rfl hc46 ?_
      refine V_y (Y_load (El.int h48) Try.isAgg3 rfl) rfl rfl rfl ?_
      refine V_ge rfl rfl rfl hc46 ?_
      have h49 := El_cal_Shift_1 h35
      refine V_y (Y_fieldAddr Try.underlying106 rfl Try.sizeOf3 (by decide) rfl) rfl rfl rfl ?_
      refine V_ge rfl rfl rfl hc46 ?_
      refine V_y (Y_load (El.int h49) Try.isAgg3 rfl) rfl rfl rfl ?_
      refine V_ge rfl rfl rfl hc46 ?_
      refine V_y (Y_leq rfl rfl) rfl rfl rfl ?_
      refine V_y (Y_pick_fe rfl hc46 rfl) rfl rfl rfl ?_
      exact V_end fun a ha => ⟨(), ha.sub ⟨rfl, rfl, rfl, rfl, rfl, rfl, rfl, (by rw [hc46]; rfl), trivial⟩, rfl⟩
    simp only [List.take, List.drop]
    rintro _ _ rfl
    refine V_y (Y_move rfl) rfl rfl rfl ?_
    refine V_cut 7 (fun _ : Unit => [(0, v_l), (1, .bool dated), (5, .int .i64 (k6 : Int)), (6, .pointer (some ⟨b30, 0, none⟩)), (7, v_l), (8, .int .i64 (l.length : Int)), (9, .int .i64 (k6 : Int)), (44, .bool ((((!(cal_within x25.day 0 6)) || (!(cal_within x25.from_ 0 1439))) || (decide (x25.to_ ≤ x25.from_))) || (decide ((w64 (x25.from_ + 1440)) < x25.to_))))]) (fun _ w' => w33 = w') ?_ ?_
    ·simp only [List.take, List.drop]
     rcases Bool.eq_false_or_eq_true ((((!(cal_within x25.day 0 6)) || (!(cal_within x25.from_ 0 1439))) || (decide (x25.to_ ≤ x25.from_)))) with hc50 | hc50
     ·refine V_gn rfl rfl rfl hc50 rfl rfl rfl ?_
      refine V_gn rfl rfl rfl hc50 rfl rfl rfl ?_
      refine V_gn rfl rfl rfl hc50 rfl rfl rfl ?_
      refine V_gn rfl rfl rfl hc50 rfl rfl rfl ?_
      refine V_gn rfl rfl rfl hc50 rfl rfl rfl ?_
      refine V_gn rfl rfl rfl hc50 rfl rfl rfl ?_
      refine V_y (Y_pick_te rfl hc50 rfl) rfl rfl rfl ?_
      exact V_end fun a ha => ⟨(), ha.sub ⟨rfl, rfl, rfl, rfl, rfl, rfl, rfl, (by rw [hc50]; rfl), trivial⟩, rfl⟩
     ·refine V_ge rfl rfl rfl hc50 ?_
      have h52 := El_cal_Shift_2 h35
      refine V_y (Y_fieldAddr Try.underlying106 rfl Try.sizeOf3 (by decide) rfl) rfl rfl rfl ?_
      refine V_ge rfl rfl rfl hc50 ?_
      refine V_y (Y_load (El.int h52) Try.isAgg3 rfl) rfl rfl rfl ?_
      refine V_ge rfl rfl rfl hc50 ?_
      have h53 := El_cal_Shift_1 h35
      refine V_y (Y_fieldAddr Try.underlying106 rfl Try.sizeOf3 (by decide) rfl) rfl rfl rfl ?_
      refine V_ge rfl rfl rfl hc50 ?_
      refine V_y (Y_load (El.int h53) Try.isAgg3 rfl) rfl rfl rfl ?_
      refine V_ge rfl rfl rfl hc50 ?_
      refine V_y (Y_addI rfl rfl) rfl rfl rfl ?_
      refine V_ge rfl rfl rfl hc50 ?_
      refine V_y (Y_gtr rfl rfl) rfl rfl rfl ?_
      refine V_y (Y_pick_fe rfl hc50 rfl) rfl rfl rfl ?_
      exact V_end fun a ha => ⟨(), ha.sub ⟨rfl, rfl, rfl, rfl, rfl, rfl, rfl, (by rw [hc50]; rfl), trivial⟩, rfl⟩
    simp only [List.take, List.drop]
    rintro _ _ rfl
    refine V_to (fun _ _ => rfl) ?_
    refine C_cond rfl (fun hc54 => ?_) (fun hc54 => ?_)
    ·rw [if_pos hc54] at h17
     refine C_seq ?_
     refine C_region ?_
     refine V_y (Y_assign rfl) rfl rfl rfl ?_
     refine V_to (fun _ _ => rfl) ?_
     obtain rfl := Option.some.inj h17
     obtain rfl := (h18 : Lp.rt _ = _)
     rw [Lp.andThen_rt] at hm
     obtain rfl := Option.some.inj hm
     refine C_ret ?_
     try simp only [↓inBlock_ret, ↓then_ret]
     exact retQ rfl (Res.one Try.results46 rfl) ⟨rfl, hK.kp⟩
    ·rw [if_neg (nt hc54)] at h17
     refine C_skip_to (fun _ _ => rfl) ?_
     refine C_seq ?_
     refine C_region_q (Dw := Dw) Try_mixed (by kernel_rfl) ?_
     refine VQ_y (fun w' hw' => Y_move rfl) rfl rfl rfl ?_
     refine VQ_y (fun w' hw' => Y_gtr rfl rfl) rfl rfl rfl ?_
     refine VQ_y (fun w' hw' => Y_move rfl) rfl rfl rfl ?_
     obtain ⟨s56, hs56, h17⟩ := Option.bind_eq_some_iff.1 h17
     refine VQ_cut 9 (fun _ : Unit => [(0, v_l), (1, .bool dated), (7, v_l), (8, .int .i64 (l.length : Int)), (9, .int .i64 (k6 : Int)), (56, .bool s56)]) (fun _ => True) ?_ ?_
     ·simp only [List.take, List.drop]
      rcases Bool.eq_false_or_eq_true (decide ((0 : Int) < (k6 : Int))) with hc55 | hc55
      ·rw [if_pos hc55] at hs56
       refine VQ_ge rfl rfl rfl hc55 ?_
       obtain ⟨h57, _⟩ := El_cal_Shift h35
       refine VQ_y (fun w' hw' => Y_loadA (At.kp (Dw := Dw) h57 hw' h35.2.1) Try.isAgg106 Try.sizeOf106 rfl) rfl rfl rfl ?_
       refine VQ_ge rfl rfl rfl hc55 ?_
       refine VQ_y (fun w' hw' => Y_move rfl) rfl rfl rfl ?_
       refine VQ_ge rfl rfl rfl hc55 ?_
       refine VQ_y (fun w' hw' => Y_move rfl) rfl rfl rfl ?_
       refine VQ_ge rfl rfl rfl hc55 ?_
       refine VQ_y (fun w' hw' => Y_subI rfl rfl) rfl rfl rfl ?_
       refine VQ_ge rfl rfl rfl hc55 ?_
       obtain ⟨x58, hx58, hs56⟩ := Option.bind_eq_some_iff.1 hs56
       refine VQ_indexAddr h_l hx58 Try.underlying55 Try.sizeOf106 rfl rfl rfl ?_
       intro b59 o60 h61
       refine VQ_ge rfl rfl rfl hc55 ?_
       obtain ⟨h62, _⟩ := El_cal_Shift h61
       refine VQ_y (fun w' hw' => Y_loadA (At.kp (Dw := Dw) h62 hw' h61.2.1) Try.isAgg106 Try.sizeOf106 rfl) rfl rfl rfl ?_
       refine VQ_ge rfl rfl rfl hc55 ?_
       obtain ⟨x63, hx63, hs56⟩ := Option.bind_eq_some_iff.1 hs56
       refine VQ_call (.bool x63) Try.call65 rfl rfl rfl rfl (fun w' hw' => (cal_after_c (Dw := Dw) w' (fun b hb => hA b (Nat.le_trans hw'.size hb)) x25 x58 hx63).mono (fun _ _ h => ⟨h.1, Kp.trans (Dw := Dw) hw' h.2⟩)) ?_
       refine VQ_ge rfl rfl rfl hc55 ?_
       refine VQ_y (fun w' hw' => Y_not rfl) rfl rfl rfl ?_
       refine VQ_y (fun _ _ => Y_pick_te rfl hc55 rfl) rfl rfl rfl ?_
       obtain rfl := Option.some.inj hs56
       exact VQ_end fun a ha => ⟨(), ha.sub ⟨rfl, rfl, rfl, rfl, rfl, rfl, trivial⟩, trivial⟩
      ·rw [if_neg (nt hc55)] at hs56
       refine VQ_gn rfl rfl rfl hc55 rfl rfl rfl ?_
       refine VQ_gn rfl rfl rfl hc55 rfl rfl rfl ?_
       refine VQ_gn rfl rfl rfl hc55 rfl rfl rfl ?_
       refine VQ_gn rfl rfl rfl hc55 rfl rfl rfl ?_
       refine VQ_gn rfl rfl rfl hc55 rfl rfl rfl ?_
       refine VQ_gn rfl rfl rfl hc55 rfl rfl rfl ?_
       refine VQ_gn rfl rfl rfl hc55 rfl rfl rfl ?_
       refine VQ_gn rfl rfl rfl hc55 rfl rfl rfl ?_
       refine VQ_y (fun _ _ => Y_pick_fe rfl hc55 rfl) rfl rfl rfl ?_
       obtain rfl := Option.some.inj hs56
       exact VQ_end fun a ha => ⟨(), ha.sub ⟨rfl, rfl, rfl, rfl, rfl, rfl, trivial⟩, trivial⟩
     simp only [List.take, List.drop]
     rintro _ _
     refine VQ_to (fun _ _ => rfl) (fun w65 hk66 => ?_)
     have ht67 := Kp.tr (Dw := Dw) hk66 hA hB
     replace hH := Hp.kp (Dw := Dw) hH hk66
     replace hK := Tr.trans (Dw := Dw) hK ht67
     replace hr5 := Tr.trans (Dw := Dw) hr5 ht67
     refine C_cond rfl (fun hc68 => ?_) (fun hc68 => ?_)
     ·rw [if_pos hc68] at h17
      refine C_seq ?_
      refine C_region ?_
      refine V_y (Y_assign rfl) rfl rfl rfl ?_
      refine V_to (fun _ _ => rfl) ?_
      obtain rfl := Option.some.inj h17
      obtain rfl := (h18 : Lp.rt _ = _)
      rw [Lp.andThen_rt] at hm
      obtain rfl := Option.some.inj hm
      refine C_ret ?_
      try simp only [↓inBlock_ret, ↓then_ret]
      exact retQ rfl (Res.one Try.results46 rfl) ⟨rfl, hK.kp⟩
     ·rw [if_neg (nt hc68)] at h17
      refine C_skip_to (fun _ _ => rfl) ?_
      refine C_region ?_
      refine V_y (Y_addI rfl rfl) rfl rfl rfl ?_
      refine V_y (Y_move rfl) rfl rfl rfl ?_
      obtain rfl := Option.some.inj h17
      refine V_end (fun a ha69 => ?_)
      exact ⟨(), hlt20, h18, ⟨A14, ha69.sub ⟨rfl, rfl, rfl, rfl, (congrArg (fun z => some (Value.int .i64 z)) (w64_succ hlt20 hn23)), trivial⟩, ⟨hH, hr5⟩⟩⟩
  ·refine C_exit (fun a ha70 => ?_)
   exact ⟨((), A14), ha70.sub trivial, ⟨(h21 (eq_of_dec hle19 hc24)).symm, hH, hr5⟩⟩
 rintro ⟨s4, A10⟩ w7 ⟨rfl, hH11, hk8⟩ a ha9
 rw [Lp.andThen_fin] at hm
 replace hK := Tr.trans (Dw := Dw) hK hk8
 replace hA := hk8.new
 replace hH : Hp w.heap.size A10 w7 ([]) := hH11
 refine C_at (n := ⟨58, [], none⟩) (fun _ _ => rfl) ?_ ha9
 refine C_seq ?_
 refine C_region ?_
 refine V_y (Y_assign rfl) rfl rfl rfl ?_
 refine V_to (fun _ _ => rfl) ?_
 obtain rfl := Option.some.inj hm
 refine C_ret ?_
 try simp only [↓inBlock_ret, ↓then_ret]
 exact retQ rfl (Res.one Try.results46 rfl) ⟨rfl, hK.kp⟩
set_option maxRecDepth 4000 in
set_option maxHeartbeats 4000000 in
theorem cal_CheckCalendar_c (w : World) {A : Nat → Prop} (hA : ∀ b, w.heap.size ≤ b → A b) (c : cal_Calendar) (v_c0 : Value) (h_c0 : Sl A w v_c0 c.zone.changes) (v_c1 : Value) (h_c1 : Sl A w v_c1 c.week) (v_c2 : Value) (h_c2 : Sl A w v_c2 c.specials) {r : Int} (hm : cal_CheckCalendar c = some r) : Ret Try.prog 29 #[.agg #[.int .i64 c.zone.offset, v_c0, v_c1, v_c2]] w fun v w' => v = .int .i64 r ∧ Kp Dw w w' := by
 unfold cal_CheckCalendar at hm
 refine enter Try.func29 rfl Try.ntmps29 rfl ?_
 have hA0 := hA
 have hB := Nat.le_refl w.heap.size
 have hK : Tr Dw w.heap.size A w A w := Tr.refl (Dw := Dw) hA
 have hH : Hp w.heap.size A w [] := Hp.nil
 refine C_seq ?_
 refine C_region ?_
 refine V_box rfl rfl ?_
 intro b7 w9 h10
 have hk12 := h10.kp (Dw := Dw)
 have h11 : El (α := cal_Calendar) A w9 b7 0 c := h10.el hA ⟨[.int .i64 c.zone.offset, v_c0], _, rfl, ⟨[.int .i64 c.zone.offset], _, rfl, rfl, ⟨_, rfl, h_c0⟩⟩, ⟨[v_c1], _, rfl, ⟨_, rfl, h_c1⟩, ⟨_, rfl, h_c2⟩⟩⟩
 have ht13 := Kp.tr (Dw := Dw) hk12 hA hB
 replace hH := Hp.kp (Dw := Dw) hH hk12
 replace hK := Tr.trans (Dw := Dw) hK ht13
 replace hB := Nat.le_trans hB ht13.ex.size
 replace hA := ht13.new
 refine V_y (Y_assign rfl) rfl rfl rfl ?_
 refine V_to (fun _ _ => rfl) ?_
 refine C_seq ?_
 refine C_seq ?_
 refine C_region ?_
 have h14 := El_cal_Calendar_0 h11
 refine V_y (Y_fieldAddr Try.underlying58 rfl Try.sizeOf54 (by decide) rfl) rfl rfl rfl ?_
 obtain ⟨v15, h17, h16⟩ := El_cal_Zone h14
 refine V_y (Y_loadA h17 Try.isAgg54 Try.sizeOf54 rfl) rfl rfl rfl ?_
 obtain ⟨x18, hx18, hm⟩ := Option.bind_eq_some_iff.1 hm
 refine V_call Try.call45 rfl rfl rfl rfl (cal_CheckZone_c (Dw := Dw) w9 hA c.zone v15 h16 hx18) ?_
 rintro _ w19 ⟨rfl, hk20⟩
 have ht21 := Kp.tr (Dw := Dw) hk20 hA hB
 replace hH := Hp.kp (Dw := Dw) hH hk20
 replace h11 := El.tr (Dw := Dw) h11 ht21
 replace hK := Tr.trans (Dw := Dw) hK ht21
 replace hB := Nat.le_trans hB ht21.ex.size
 replace hA := ht21.new
 refine V_y (Y_assign rfl) rfl rfl rfl ?_
 refine V_to (fun _ _ => rfl) ?_
 refine C_seq ?_
 refine C_region ?_
 refine V_y (Y_move rfl) rfl rfl rfl ?_
 refine V_y (Y_neq rfl rfl) rfl rfl rfl ?_
 refine V_to (fun _ _ => rfl) ?_
 refine C_cond rfl (fun hc22 => ?_) (fun hc22 => ?_)
 ·rw [if_pos hc22] at hm
  refine C_seq ?_
  refine C_region ?_
  refine V_y (Y_move rfl) rfl rfl rfl ?_
  refine V_y (Y_assign rfl) rfl rfl rfl ?_
  refine V_to (fun _ _ => rfl) ?_
  obtain rfl := Option.some.inj hm
  refine C_ret ?_
  try simp only [↓inBlock_ret, ↓then_ret]
  exact retQ rfl (Res.one Try.results29 rfl) ⟨rfl, hK.kp⟩
 ·rw [if_neg (nt hc22)] at hm
  refine C_skip_to (fun _ _ => rfl) ?_
  refine C_seq ?_
  refine C_seq ?_
  refine C_region ?_
  have h23 := El_cal_Calendar_1 h11
  refine V_y (Y_fieldAddr Try.underlying58 rfl Try.sizeOf55 (by decide) rfl) rfl rfl rfl ?_
  obtain ⟨v24, h25, h26⟩ := El.list h23
  refine V_y (Y_load h25 Try.isAgg55 rfl) rfl rfl rfl ?_
  refine V_y (Y_lenSl h26 rfl Try.underlying55 rfl) rfl rfl rfl ?_
  refine V_y (Y_gtr rfl rfl) rfl rfl rfl ?_
  refine V_y (Y_move rfl) rfl rfl rfl ?_
  refine V_cut 5 (fun _ : Unit => [(1, .pointer (some ⟨b7, 0, none⟩)), (23, .bool ((decide ((60 : Int) < (c.week.length : Int))) || (decide ((200 : Int) < (c.specials.length : Int)))))]) (fun _ w' => w19 = w') ?_ ?_
  ·simp only [List.take, List.drop]
   rcases Bool.eq_false_or_eq_true (decide ((60 : Int) < (c.week.length : Int))) with hc27 | hc27
   ·refine V_gn rfl rfl rfl hc27 rfl rfl rfl ?_
    refine V_gn rfl rfl rfl hc27 rfl rfl rfl ?_
    refine V_gn rfl rfl rfl hc27 rfl rfl rfl ?_
    refine V_gn rfl rfl rfl hc27 rfl rfl rfl ?_
    refine V_y (Y_pick_te rfl hc27 rfl) rfl rfl rfl ?_
    exact V_end fun a ha => ⟨(), ha.sub ⟨rfl, (by rw [hc27]; rfl), trivial⟩, rfl⟩
   ·refine V_ge rfl rfl rfl hc27 ?_
    have h29 := El_cal_Calendar_2 h11
    refine V_y (Y_fieldAddr Try.underlying58 rfl Try.sizeOf56 (by decide) rfl) rfl rfl rfl ?_
    refine V_ge rfl rfl rfl hc27 ?_
    obtain ⟨v30, h31, h32⟩ := El.list h29
    refine V_y (Y_load h31 Try.isAgg56 rfl) rfl rfl rfl ?_
    refine V_ge rfl rfl rfl hc27 ?_
    refine V_y (Y_lenSl h32 rfl Try.underlying56 rfl) rfl rfl rfl ?_
    refine V_ge rfl rfl rfl hc27 ?_
    refine V_y (Y_gtr rfl rfl) rfl rfl rfl ?_
    refine V_y (Y_pick_fe rfl hc27 rfl) rfl rfl rfl ?_
    exact V_end fun a ha => ⟨(), ha.sub ⟨rfl, (by rw [hc27]; rfl), trivial⟩, rfl⟩
  simp only [List.take, List.drop]
  rintro _ _ rfl
  refine V_to (fun _ _ => rfl) ?_
  refine C_cond rfl (fun hc33 => ?_) (fun hc33 => ?_)
  ·rw [if_pos hc33] at hm
   refine C_seq ?_
   refine C_region ?_
   refine V_y (Y_assign rfl) rfl rfl rfl ?_
   refine V_to (fun _ _ => rfl) ?_
   obtain rfl := Option.some.inj hm
   refine C_ret ?_
   try simp only [↓inBlock_ret, ↓then_ret]
   exact retQ rfl (Res.one Try.results29 rfl) ⟨rfl, hK.kp⟩
  ·rw [if_neg (nt hc33)] at hm
   refine C_skip_to (fun _ _ => rfl) ?_
   refine C_seq ?_
   refine C_seq ?_
   refine C_region ?_
   have h34 := El_cal_Calendar_1 h11
   refine V_y (Y_fieldAddr Try.underlying58 rfl Try.sizeOf55 (by decide) rfl) rfl rfl rfl ?_
   obtain ⟨v35, h36, h37⟩ := El.list h34
   refine V_y (Y_load h36 Try.isAgg55 rfl) rfl rfl rfl ?_
   obtain ⟨x38, hx38, hm⟩ := Option.bind_eq_some_iff.1 hm
   refine V_call Try.call46 rfl rfl rfl rfl (cal_checkShifts_c (Dw := Dw) w19 hA c.week v35 h37 false hx38) ?_
   rintro _ w39 ⟨rfl, hk40⟩
   have ht41 := Kp.tr (Dw := Dw) hk40 hA hB
   replace hH := Hp.kp (Dw := Dw) hH hk40
   replace h11 := El.tr (Dw := Dw) h11 ht41
   replace hK := Tr.trans (Dw := Dw) hK ht41
   replace hB := Nat.le_trans hB ht41.ex.size
   replace hA := ht41.new
   refine V_y (Y_assign rfl) rfl rfl rfl ?_
   refine V_to (fun _ _ => rfl) ?_
   refine C_seq ?_
   refine C_region ?_
   refine V_y (Y_move rfl) rfl rfl rfl ?_
   refine V_y (Y_neq rfl rfl) rfl rfl rfl ?_
   refine V_to (fun _ _ => rfl) ?_
   refine C_cond rfl (fun hc42 => ?_) (fun hc42 => ?_)
   ·rw [if_pos hc42] at hm
    refine C_seq ?_
    refine C_region ?_
    refine V_y (Y_move rfl) rfl rfl rfl ?_
    refine V_y (Y_assign rfl) rfl rfl rfl ?_
    refine V_to (fun _ _ => rfl) ?_
    obtain rfl := Option.some.inj hm
    refine C_ret ?_
    try simp only [↓inBlock_ret, ↓then_ret]
    exact retQ rfl (Res.one Try.results29 rfl) ⟨rfl, hK.kp⟩
   ·rw [if_neg (nt hc42)] at hm
    refine C_skip_to (fun _ _ => rfl) ?_
    refine C_seq ?_
    refine C_seq ?_
    refine C_region ?_
    have h43 := El_cal_Calendar_2 h11
    refine V_y (Y_fieldAddr Try.underlying58 rfl Try.sizeOf56 (by decide) rfl) rfl rfl rfl ?_
    obtain ⟨v44, h45, h46⟩ := El.list h43
    refine V_y (Y_load h45 Try.isAgg56 rfl) rfl rfl rfl ?_
    refine V_y (Y_lenSl h46 rfl Try.underlying56 rfl) rfl rfl rfl ?_
    refine V_y (Y_move rfl) rfl rfl rfl ?_
    refine V_to (fun _ _ => rfl) ?_
    have hn67 := Sl.le h46
    obtain ⟨o47, ho47, hm⟩ := Option.bind_eq_some_iff.1 hm
    refine C_cutG (ι := (Unit × (Nat → Prop))) (fun ⟨s48, A54⟩ => []) (fun ⟨s48, A54⟩ => fun w' => o47 = .fin s48 ∧ Hp w.heap.size A54 w' ([]) ∧ Tr Dw w.heap.size A w39 A54 w') ?_ ?_
    ·refine C_block ?_
     refine C_range ho47 (fun k50 _ a w' => ∃ i : (Nat → Prop), Has ⟨70, [], none⟩ a ([(1, .pointer (some ⟨b7, 0, none⟩)), (31, v44), (32, .int .i64 (c.specials.length : Int)), (33, .int .i64 (k50 : Int))]) ∧ Hp w.heap.size i w' ([]) ∧ Tr Dw w.heap.size A w39 i w') (fun a ha => ⟨A, ha.sub ⟨rfl, rfl, rfl, rfl, trivial⟩, ⟨hH, Tr.refl (Dw := Dw) hA⟩⟩) ?_
     rintro K k50 _ a w57 ⟨A58, ha121, hH59, hr49⟩ hle63 K66 h65
     refine C_of ?_ ha121
     replace h11 := El.tr (Dw := Dw) h11 hr49
     replace h46 := Sl.tr (Dw := Dw) h46 hr49
     replace hK := Tr.trans (Dw := Dw) hK hr49
     replace hB := Nat.le_trans hB hr49.ex.size
     replace hA := hr49.new
     replace hH : Hp w.heap.size A58 w57 ([]) := hH59
     refine C_seq (C_region (V_y (Y_lss rfl rfl) rfl rfl rfl (V_to (fun _ _ => rfl) ?_)))
     refine C_seq ?_
     refine C_cond rfl (fun hc68 => ?_) (fun hc68 => ?_)
     ·have hlt64 := lt_of_dec hc68
      obtain ⟨x60, h61, h62⟩ := K66 hlt64
      refine C_skip_to (fun _ _ => rfl) ?_
      refine C_seq ?_
      refine C_block ?_
      refine C_seq ?_
      refine C_region ?_
      refine V_y (Y_move rfl) rfl rfl rfl ?_
      obtain ⟨x69, hx69, h61⟩ := Option.bind_eq_some_iff.1 h61
      refine V_indexAddr h46 hx69 Try.underlying56 Try.sizeOf82 rfl rfl rfl ?_
      intro b70 o71 h72
      obtain ⟨v73, h75, h74⟩ := El_cal_Special h72
      refine V_y (Y_loadA h75 Try.isAgg82 Try.sizeOf82 rfl) rfl rfl rfl ?_
      refine V_alloc Try.zeroValue82 rfl ?_
      intro b76 w77 h78
      refine V_y (Y_assign rfl) rfl rfl rfl ?_
      have h83 : (v73).oneCell' = true := by obtain ⟨_, _, e, _⟩ := Sl.form h74; rw [e]; rfl
      refine V_storeNew h78 Try.sizeOf82 rfl rfl rfl rfl (by exact (List.forall_mem_cons.2 ⟨rfl, (List.forall_mem_cons.2 ⟨h83, (fun _ h => nomatch h)⟩)⟩)) ?_
      intro w79 h80
      have hk85 := h80.kp (Dw := Dw)
      have h84 : El (α := cal_Special) A58 w79 b76 0 x69 := h80.el hA ⟨[.int .i64 x69.day], _, rfl, rfl, ⟨_, rfl, h74⟩⟩
      have ht86 := Kp.tr (Dw := Dw) hk85 hA hB
      replace hH := Hp.kp (Dw := Dw) hH hk85
      replace h11 := El.tr (Dw := Dw) h11 ht86
      replace hK := Tr.trans (Dw := Dw) hK ht86
      replace hr49 := Tr.trans (Dw := Dw) hr49 ht86
      replace hB := Nat.le_trans hB ht86.ex.size
      replace hA := ht86.new
      refine V_to (fun _ _ => rfl) ?_
      refine C_seq ?_
      refine C_block ?_
      refine C_seq ?_
      refine C_region ?_
      have h87 := El_cal_Special_0 h84
      refine V_y (Y_fieldAddr Try.underlying82 rfl Try.sizeOf3 (by decide) rfl) rfl rfl rfl ?_
      refine V_y (Y_load (El.int h87) Try.isAgg3 rfl) rfl rfl rfl ?_
      refine V_call Try.call47 rfl rfl rfl rfl (cal_within_c w79 x69.day (-1) 2084) ?_
      rintro _ _ ⟨rfl, rfl⟩
      refine V_y (Y_not rfl) rfl rfl rfl ?_
      refine V_y (Y_assign rfl) rfl rfl rfl ?_
      refine V_to (fun _ _ => rfl) ?_
      refine C_cond rfl (fun hc88 => ?_) (fun hc88 => ?_)
      ·rw [if_pos hc88] at h61
       refine C_seq ?_
       refine C_region ?_
       refine V_y (Y_assign rfl) rfl rfl rfl ?_
       refine V_to (fun _ _ => rfl) ?_
       obtain rfl := Option.some.inj h61
       obtain rfl := (h62 : Lp.rt _ = _)
       rw [Lp.andThen_rt] at hm
       obtain rfl := Option.some.inj hm
       refine C_ret ?_
       try simp only [↓inBlock_ret, ↓then_ret]
       exact retQ rfl (Res.one Try.results29 rfl) ⟨rfl, hK.kp⟩
      ·rw [if_neg (nt hc88)] at h61
       refine C_seq ?_
       refine C_region_q (Dw := Dw) Try_mixed (by kernel_rfl) ?_
       refine VQ_y (fun w' hw' => Y_move rfl) rfl rfl rfl ?_
       refine VQ_y (fun w' hw' => Y_gtr rfl rfl) rfl rfl rfl ?_
       refine VQ_y (fun w' hw' => Y_move rfl) rfl rfl rfl ?_
       obtain ⟨s90, hs90, h61⟩ := Option.bind_eq_some_iff.1 h61
       refine VQ_cut 11 (fun _ : Unit => [(1, .pointer (some ⟨b7, 0, none⟩)), (6, .pointer (some ⟨b76, 0, none⟩)), (31, v44), (32, .int .i64 (c.specials.length : Int)), (33, .int .i64 (k50 : Int)), (57, .bool s90)]) (fun _ => True) ?_ ?_
       ·simp only [List.take, List.drop]
        rcases Bool.eq_false_or_eq_true (decide ((0 : Int) < (k50 : Int))) with hc89 | hc89
        ·rw [if_pos hc89] at hs90
         refine VQ_ge rfl rfl rfl hc89 ?_
         have h91 := El_cal_Special_0 h84
         refine VQ_y (fun w' hw' => Y_fieldAddr Try.underlying82 rfl Try.sizeOf3 (by decide) rfl) rfl rfl rfl ?_
         refine VQ_ge rfl rfl rfl hc89 ?_
         refine VQ_y (fun w' hw' => Y_load (El.int (El.kp (Dw := Dw) h91 hw')) Try.isAgg3 rfl) rfl rfl rfl ?_
         refine VQ_ge rfl rfl rfl hc89 ?_
         have h92 := El_cal_Calendar_2 h11
         refine VQ_y (fun w' hw' => Y_fieldAddr Try.underlying58 rfl Try.sizeOf56 (by decide) rfl) rfl rfl rfl ?_
         refine VQ_ge rfl rfl rfl hc89 ?_
         obtain ⟨v93, h94, h95⟩ := El.list h92
         refine VQ_y (fun w' hw' => Y_load ((World.cell?_of_block (hw'.block _ (World.block_lt_of_cell? _ _ h94))).trans h94) Try.isAgg56 rfl) rfl rfl rfl ?_
         refine VQ_ge rfl rfl rfl hc89 ?_
         refine VQ_y (fun w' hw' => Y_move rfl) rfl rfl rfl ?_
         refine VQ_ge rfl rfl rfl hc89 ?_
         refine VQ_y (fun w' hw' => Y_subI rfl rfl) rfl rfl rfl ?_
         refine VQ_ge rfl rfl rfl hc89 ?_
         obtain ⟨x96, hx96, hs90⟩ := Option.bind_eq_some_iff.1 hs90
         refine VQ_indexAddr h95 hx96 Try.underlying56 Try.sizeOf82 rfl rfl rfl ?_
         intro b97 o98 h99
         refine VQ_ge rfl rfl rfl hc89 ?_
         have h100 := El_cal_Special_0 h99
         refine VQ_y (fun w' hw' => Y_fieldAddr Try.underlying82 rfl Try.sizeOf3 (by decide) rfl) rfl rfl rfl ?_
         refine VQ_ge rfl rfl rfl hc89 ?_
         refine VQ_y (fun w' hw' => Y_load (El.int (El.kp (Dw := Dw) h100 hw')) Try.isAgg3 rfl) rfl rfl rfl ?_
         refine VQ_ge rfl rfl rfl hc89 ?_
         refine VQ_y (fun w' hw' => Y_leq rfl rfl) rfl rfl rfl ?_
         refine VQ_y (fun _ _ => Y_pick_te rfl hc89 rfl) rfl rfl rfl ?_
         obtain rfl := Option.some.inj hs90
         exact VQ_end fun a ha => ⟨(), ha.sub ⟨rfl, rfl, rfl, rfl, rfl, rfl, trivial⟩, trivial⟩
        ·rw [if_neg (nt hc89)] at hs90
         refine VQ_gn rfl rfl rfl hc89 rfl rfl rfl ?_
         refine VQ_gn rfl rfl rfl hc89 rfl rfl rfl ?_
         refine VQ_gn rfl rfl rfl hc89 rfl rfl rfl ?_
         refine VQ_gn rfl rfl rfl hc89 rfl rfl rfl ?_
         refine VQ_gn rfl rfl rfl hc89 rfl rfl rfl ?_
         refine VQ_gn rfl rfl rfl hc89 rfl rfl rfl ?_
         refine VQ_gn rfl rfl rfl hc89 rfl rfl rfl ?_
         refine VQ_gn rfl rfl rfl hc89 rfl rfl rfl ?_
         refine VQ_gn rfl rfl rfl hc89 rfl rfl rfl ?_
         refine VQ_gn rfl rfl rfl hc89 rfl rfl rfl ?_
         refine VQ_y (fun _ _ => Y_pick_fe rfl hc89 rfl) rfl rfl rfl ?_
         obtain rfl := Option.some.inj hs90
         exact VQ_end fun a ha => ⟨(), ha.sub ⟨rfl, rfl, rfl, rfl, rfl, rfl, trivial⟩, trivial⟩
       simp only [List.take, List.drop]
       rintro _ _
       refine VQ_y (fun w' hw' => Y_assign rfl) rfl rfl rfl ?_
       refine VQ_to (fun _ _ => rfl) (fun w101 hk102 => ?_)
       have ht103 := Kp.tr (Dw := Dw) hk102 hA hB
       replace hH := Hp.kp (Dw := Dw) hH hk102
       replace h84 := El.tr (Dw := Dw) h84 ht103
       replace hK := Tr.trans (Dw := Dw) hK ht103
       replace hr49 := Tr.trans (Dw := Dw) hr49 ht103
       replace hB := Nat.le_trans hB ht103.ex.size
       replace hA := ht103.new
       refine C_cond rfl (fun hc104 => ?_) (fun hc104 => ?_)
       ·rw [if_pos hc104] at h61
        refine C_seq ?_
        refine C_region ?_
        refine V_y (Y_assign rfl) rfl rfl rfl ?_
        refine V_to (fun _ _ => rfl) ?_
        obtain rfl := Option.some.inj h61
        obtain rfl := (h62 : Lp.rt _ = _)
        rw [Lp.andThen_rt] at hm
        obtain rfl := Option.some.inj hm
        refine C_ret ?_
        try simp only [↓inBlock_ret, ↓then_ret]
        exact retQ rfl (Res.one Try.results29 rfl) ⟨rfl, hK.kp⟩
       ·rw [if_neg (nt hc104)] at h61
        refine C_seq ?_
        refine C_region ?_
        have h105 := El_cal_Special_1 h84
        refine V_y (Y_fieldAddr Try.underlying82 rfl Try.sizeOf55 (by decide) rfl) rfl rfl rfl ?_
        obtain ⟨v106, h107, h108⟩ := El.list h105
        refine V_y (Y_load h107 Try.isAgg55 rfl) rfl rfl rfl ?_
        refine V_y (Y_lenSl h108 rfl Try.underlying55 rfl) rfl rfl rfl ?_
        refine V_y (Y_gtr rfl rfl) rfl rfl rfl ?_
        refine V_y (Y_assign rfl) rfl rfl rfl ?_
        refine V_to (fun _ _ => rfl) ?_
        refine C_cond rfl (fun hc109 => ?_) (fun hc109 => ?_)
        ·rw [if_pos hc109] at h61
         refine C_seq ?_
         refine C_region ?_
         refine V_y (Y_assign rfl) rfl rfl rfl ?_
         refine V_to (fun _ _ => rfl) ?_
         obtain rfl := Option.some.inj h61
         obtain rfl := (h62 : Lp.rt _ = _)
         rw [Lp.andThen_rt] at hm
         obtain rfl := Option.some.inj hm
         refine C_ret ?_
         try simp only [↓inBlock_ret, ↓then_ret]
         exact retQ rfl (Res.one Try.results29 rfl) ⟨rfl, hK.kp⟩
        ·rw [if_neg (nt hc109)] at h61
         refine C_skip_to (fun _ _ => rfl) ?_
         refine C_seq ?_
         refine C_region ?_
         have h110 := El_cal_Special_1 h84
         refine V_y (Y_fieldAddr Try.underlying82 rfl Try.sizeOf55 (by decide) rfl) rfl rfl rfl ?_
         obtain ⟨v111, h112, h113⟩ := El.list h110
         refine V_y (Y_load h112 Try.isAgg55 rfl) rfl rfl rfl ?_
         obtain ⟨x114, hx114, h61⟩ := Option.bind_eq_some_iff.1 h61
         refine V_call Try.call46 rfl rfl rfl rfl (cal_checkShifts_c (Dw := Dw) w101 hA x69.shifts v111 h113 true hx114) ?_
         rintro _ w115 ⟨rfl, hk116⟩
         have ht117 := Kp.tr (Dw := Dw) hk116 hA hB
         replace hH := Hp.kp (Dw := Dw) hH hk116
         replace hK := Tr.trans (Dw := Dw) hK ht117
         replace hr49 := Tr.trans (Dw := Dw) hr49 ht117
         refine V_y (Y_assign rfl) rfl rfl rfl ?_
         refine V_to (fun _ _ => rfl) ?_
         refine C_seq ?_
         refine C_region ?_
         refine V_y (Y_move rfl) rfl rfl rfl ?_
         refine V_y (Y_neq rfl rfl) rfl rfl rfl ?_
         refine V_to (fun _ _ => rfl) ?_
         refine C_cond rfl (fun hc118 => ?_) (fun hc118 => ?_)
         ·rw [if_pos hc118] at h61
          refine C_seq ?_
          refine C_region ?_
          refine V_y (Y_move rfl) rfl rfl rfl ?_
          refine V_y (Y_assign rfl) rfl rfl rfl ?_
          refine V_to (fun _ _ => rfl) ?_
          obtain rfl := Option.some.inj h61
          obtain rfl := (h62 : Lp.rt _ = _)
          rw [Lp.andThen_rt] at hm
          obtain rfl := Option.some.inj hm
          refine C_ret ?_
          try simp only [↓inBlock_ret, ↓then_ret]
          exact retQ rfl (Res.one Try.results29 rfl) ⟨rfl, hK.kp⟩
         ·rw [if_neg (nt hc118)] at h61
          refine C_skip_to (fun _ _ => rfl) ?_
          refine C_region ?_
          refine V_y (Y_addI rfl rfl) rfl rfl rfl ?_
          refine V_y (Y_move rfl) rfl rfl rfl ?_
          obtain rfl := Option.some.inj h61
          refine V_end (fun a ha119 => ?_)
          exact ⟨(), hlt64, h62, ⟨A58, ha119.sub ⟨rfl, rfl, rfl, (congrArg (fun z => some (Value.int .i64 z)) (w64_succ hlt64 hn67)), trivial⟩, ⟨hH, hr49⟩⟩⟩
     ·refine C_exit (fun a ha120 => ?_)
      exact ⟨((), A58), ha120.sub trivial, ⟨(h65 (eq_of_dec hle63 hc68)).symm, hH, hr49⟩⟩
    rintro ⟨s48, A54⟩ w51 ⟨rfl, hH55, hk52⟩ a ha53
    rw [Lp.andThen_fin] at hm
    replace hK := Tr.trans (Dw := Dw) hK hk52
    replace hA := hk52.new
    replace hH : Hp w.heap.size A54 w51 ([]) := hH55
    refine C_at (n := ⟨70, [], none⟩) (fun _ _ => rfl) ?_ ha53
    refine C_seq ?_
    refine C_region ?_
    refine V_y (Y_assign rfl) rfl rfl rfl ?_
    refine V_to (fun _ _ => rfl) ?_
    obtain rfl := Option.some.inj hm
    refine C_ret ?_
    try simp only [↓inBlock_ret, ↓then_ret]
    exact retQ rfl (Res.one Try.results29 rfl) ⟨rfl, hK.kp⟩
set_option maxRecDepth 4000 in
set_option maxHeartbeats 4000000 in
theorem slices_IndexFunc_Llevel_Piece_level_Piece_c (w : World) {A : Nat → Prop} (hA : ∀ b, w.heap.size ≤ b → A b) (s : (List level_Piece)) (v_s : Value) (h_s : Sl A w v_s s) (f : level_Piece → Option Bool) (f_f : FuncId) (f_a f_c : Array Value) (f_call : ∀ (args : Array Value) (w : World), (callFunc f_f args).run Try.prog w = .ok (.enter f_f args) w) (f_spec : ∀ (w1 : World) (A1 : Nat → Prop), Tr Dw w.heap.size A w A1 w1 → (∀ b, w1.heap.size ≤ b → A1 b) → ∀ (y0 : level_Piece) (r : Bool), f y0 = some r → Ret Try.prog f_f (f_a ++ #[.agg #[.int .i64 y0.from_, .int .i64 y0.to_, .int .i64 y0.calendar]] ++ f_c) w1 fun v w' => v = .bool r ∧ Kp Dw w1 w') {r : Int} (hm : slices_IndexFunc_Llevel_Piece_level_Piece s f = some r) : Ret Try.prog 48 #[v_s, .func (.func f_f) f_a f_c] w fun v w' => v = .int .i64 r ∧ Kp Dw w w' := by
 unfold slices_IndexFunc_Llevel_Piece_level_Piece at hm
 refine enter Try.func48 rfl Try.ntmps48 rfl ?_
 have hA0 := hA
 have hB := Nat.le_refl w.heap.size
 have hK : Tr Dw w.heap.size A w A w := Tr.refl (Dw := Dw) hA
 have hH : Hp w.heap.size A w [] := Hp.nil
 refine C_seq ?_
 refine C_region ?_
 refine V_y (Y_assign rfl) rfl rfl rfl ?_
 refine V_to (fun _ _ => rfl) ?_
 refine C_seq ?_
 refine C_seq ?_
 refine C_region ?_
 refine V_y (Y_move rfl) rfl rfl rfl ?_
 refine V_y (Y_lenSl h_s rfl Try.underlying35 rfl) rfl rfl rfl ?_
 refine V_y (Y_move rfl) rfl rfl rfl ?_
 refine V_to (fun _ _ => rfl) ?_
 have hn23 := Sl.le h_s
 obtain ⟨o3, ho3, hm⟩ := Option.bind_eq_some_iff.1 hm
 refine C_cutG (ι := (Unit × (Nat → Prop))) (fun ⟨s4, A10⟩ => []) (fun ⟨s4, A10⟩ => fun w' => o3 = .fin s4 ∧ Hp w.heap.size A10 w' ([]) ∧ Tr Dw w.heap.size A w A10 w') ?_ ?_
 ·refine C_block ?_
  refine C_range ho3 (fun k6 _ a w' => ∃ i : (Nat → Prop), Has ⟨19, [], none⟩ a ([(0, v_s), (1, .func (.func f_f) f_a f_c), (7, .int .i64 (s.length : Int)), (8, .int .i64 (k6 : Int))]) ∧ Hp w.heap.size i w' ([]) ∧ Tr Dw w.heap.size A w i w') (fun a ha => ⟨A, ha.sub ⟨rfl, rfl, rfl, rfl, trivial⟩, ⟨hH, Tr.refl (Dw := Dw) hA⟩⟩) ?_
  rintro K k6 _ a w13 ⟨A14, ha37, hH15, hr5⟩ hle19 K22 h21
  refine C_of ?_ ha37
  replace h_s := Sl.tr (Dw := Dw) h_s hr5
  replace hK := Tr.trans (Dw := Dw) hK hr5
  replace hB := Nat.le_trans hB hr5.ex.size
  replace hA := hr5.new
  replace hH : Hp w.heap.size A14 w13 ([]) := hH15
  refine C_seq (C_region (V_y (Y_lss rfl rfl) rfl rfl rfl (V_to (fun _ _ => rfl) ?_)))
  refine C_seq ?_
  refine C_cond rfl (fun hc24 => ?_) (fun hc24 => ?_)
  ·have hlt20 := lt_of_dec hc24
   obtain ⟨x16, h17, h18⟩ := K22 hlt20
   refine C_skip_to (fun _ _ => rfl) ?_
   refine C_seq ?_
   refine C_block ?_
   refine C_seq ?_
   refine C_region ?_
   refine V_y (Y_move rfl) rfl rfl rfl ?_
   refine V_y (Y_assign rfl) rfl rfl rfl ?_
   refine V_to (fun _ _ => rfl) ?_
   refine C_seq ?_
   refine C_region ?_
   refine V_y (Y_move rfl) rfl rfl rfl ?_
   refine V_y (Y_move rfl) rfl rfl rfl ?_
   refine V_y (Y_move rfl) rfl rfl rfl ?_
   obtain ⟨x25, hx25, h17⟩ := Option.bind_eq_some_iff.1 h17
   refine V_indexAddr h_s hx25 Try.underlying35 Try.sizeOf62 rfl rfl rfl ?_
   intro b26 o27 h28
   obtain ⟨h29, _⟩ := El_level_Piece h28
   refine V_y (Y_loadA h29 Try.isAgg62 Try.sizeOf62 rfl) rfl rfl rfl ?_
   obtain ⟨x30, hx30, h17⟩ := Option.bind_eq_some_iff.1 h17
   refine V_call f_call rfl rfl rfl rfl (f_spec w13 _ hK hA x25 _ hx30) ?_
   rintro _ w31 ⟨rfl, hk32⟩
   have ht33 := Kp.tr (Dw := Dw) hk32 hA hB
   replace hH := Hp.kp (Dw := Dw) hH hk32
   replace hK := Tr.trans (Dw := Dw) hK ht33
   replace hr5 := Tr.trans (Dw := Dw) hr5 ht33
   refine V_to (fun _ _ => rfl) ?_
   refine C_cond rfl (fun hc34 => ?_) (fun hc34 => ?_)
   ·rw [if_pos hc34] at h17
    refine C_seq ?_
    refine C_region ?_
    refine V_y (Y_move rfl) rfl rfl rfl ?_
    refine V_y (Y_assign rfl) rfl rfl rfl ?_
    refine V_to (fun _ _ => rfl) ?_
    obtain rfl := Option.some.inj h17
    obtain rfl := (h18 : Lp.rt _ = _)
    rw [Lp.andThen_rt] at hm
    obtain rfl := Option.some.inj hm
    refine C_ret ?_
    try simp only [↓inBlock_ret, ↓then_ret]
    exact retQ rfl (Res.one Try.results48 rfl) ⟨rfl, hK.kp⟩
   ·rw [if_neg (nt hc34)] at h17
    refine C_skip_to (fun _ _ => rfl) ?_
    refine C_region ?_
    refine V_y (Y_addI rfl rfl) rfl rfl rfl ?_
    refine V_y (Y_move rfl) rfl rfl rfl ?_
    obtain rfl := Option.some.inj h17
    refine V_end (fun a ha35 => ?_)
    exact ⟨(), hlt20, h18, ⟨A14, ha35.sub ⟨rfl, rfl, rfl, (congrArg (fun z => some (Value.int .i64 z)) (w64_succ hlt20 hn23)), trivial⟩, ⟨hH, hr5⟩⟩⟩
  ·refine C_exit (fun a ha36 => ?_)
   exact ⟨((), A14), ha36.sub trivial, ⟨(h21 (eq_of_dec hle19 hc24)).symm, hH, hr5⟩⟩
 rintro ⟨s4, A10⟩ w7 ⟨rfl, hH11, hk8⟩ a ha9
 rw [Lp.andThen_fin] at hm
 replace hK := Tr.trans (Dw := Dw) hK hk8
 replace hA := hk8.new
 replace hH : Hp w.heap.size A10 w7 ([]) := hH11
 refine C_at (n := ⟨19, [], none⟩) (fun _ _ => rfl) ?_ ha9
 refine C_seq ?_
 refine C_region ?_
 refine V_y (Y_assign rfl) rfl rfl rfl ?_
 refine V_to (fun _ _ => rfl) ?_
 obtain rfl := Option.some.inj hm
 refine C_ret ?_
 try simp only [↓inBlock_ret, ↓then_ret]
 exact retQ rfl (Res.one Try.results48 rfl) ⟨rfl, hK.kp⟩
set_option maxRecDepth 4000 in
set_option maxHeartbeats 4000000 in
theorem slices_ContainsFunc_Llevel_Piece_level_Piece_c (w : World) {A : Nat → Prop} (hA : ∀ b, w.heap.size ≤ b → A b) (s : (List level_Piece)) (v_s : Value) (h_s : Sl A w v_s s) (f : level_Piece → Option Bool) (f_f : FuncId) (f_a f_c : Array Value) (f_call : ∀ (args : Array Value) (w : World), (callFunc f_f args).run Try.prog w = .ok (.enter f_f args) w) (f_spec : ∀ (w1 : World) (A1 : Nat → Prop), Tr Dw w.heap.size A w A1 w1 → (∀ b, w1.heap.size ≤ b → A1 b) → ∀ (y0 : level_Piece) (r : Bool), f y0 = some r → Ret Try.prog f_f (f_a ++ #[.agg #[.int .i64 y0.from_, .int .i64 y0.to_, .int .i64 y0.calendar]] ++ f_c) w1 fun v w' => v = .bool r ∧ Kp Dw w1 w') {r : Bool} (hm : slices_ContainsFunc_Llevel_Piece_level_Piece s f = some r) : Ret Try.prog 30 #[v_s, .func (.func f_f) f_a f_c] w fun v w' => v = .bool r ∧ Kp Dw w w' := by
 unfold slices_ContainsFunc_Llevel_Piece_level_Piece at hm
 refine enter Try.func30 rfl Try.ntmps30 rfl ?_
 have hA0 := hA
 have hB := Nat.le_refl w.heap.size
 have hK : Tr Dw w.heap.size A w A w := Tr.refl (Dw := Dw) hA
 have hH : Hp w.heap.size A w [] := Hp.nil
 refine C_seq ?_
 refine C_region ?_
 refine V_y (Y_assign rfl) rfl rfl rfl ?_
 refine V_to (fun _ _ => rfl) ?_
 refine C_seq ?_
 refine C_region ?_
 refine V_y (Y_move rfl) rfl rfl rfl ?_
 refine V_y (Y_move rfl) rfl rfl rfl ?_
 obtain ⟨x3, hx3, hm⟩ := Option.bind_eq_some_iff.1 hm
 refine V_call Try.call48 rfl rfl rfl rfl (slices_IndexFunc_Llevel_Piece_level_Piece_c (Dw := Dw) w hA s v_s h_s f f_f f_a f_c f_call (fun w1 A1 ht => f_spec w1 A1 (Tr.trans (Dw := Dw) hK (Tr.lower (Dw := Dw) ht hB))) hx3) ?_
 rintro _ w4 ⟨rfl, hk5⟩
 have ht6 := Kp.tr (Dw := Dw) hk5 hA hB
 replace hK := Tr.trans (Dw := Dw) hK ht6
 refine V_y (Y_geq rfl rfl) rfl rfl rfl ?_
 refine V_y (Y_assign rfl) rfl rfl rfl ?_
 refine V_to (fun _ _ => rfl) ?_
 obtain rfl := Option.some.inj hm
 refine C_ret ?_
 try simp only [↓inBlock_ret, ↓then_ret]
 exact retQ rfl (Res.one Try.results30 rfl) ⟨rfl, hK.kp⟩
set_option maxRecDepth 4000 in
set_option maxHeartbeats 4000000 in
theorem level_check_1_c (w : World) {A : Nat → Prop} (hA : ∀ b, w.heap.size ≤ b → A b) (p : level_Piece) (p1 : (List cal_Calendar)) (b_p1 : Nat) (h_p1 : El A w b_p1 0 p1) {r : Bool} (hm : level_check_1 p p1 = some r) : Ret Try.prog 31 #[.agg #[.int .i64 p.from_, .int .i64 p.to_, .int .i64 p.calendar], .pointer (some ⟨b_p1, 0, none⟩)] w fun v w' => v = .bool r ∧ Kp Dw w w' := by
 unfold level_check_1 at hm
 refine enter Try.func31 rfl Try.ntmps31 rfl ?_
 have hA0 := hA
 have hB := Nat.le_refl w.heap.size
 have hK : Tr Dw w.heap.size A w A w := Tr.refl (Dw := Dw) hA
 have hH : Hp w.heap.size A w [] := Hp.nil
 refine C_seq ?_
 refine C_region ?_
 refine V_box rfl rfl ?_
 intro b1 w2 h3
 have hk5 := h3.kp (Dw := Dw)
 have h4 : El (α := level_Piece) A w2 b1 0 p := h3.el hA ⟨[.int .i64 p.from_], _, rfl, rfl, ⟨[.int .i64 p.to_], _, rfl, rfl, rfl⟩⟩
 have ht6 := Kp.tr (Dw := Dw) hk5 hA hB
 replace h_p1 := El.tr (Dw := Dw) h_p1 ht6
 replace hK := Tr.trans (Dw := Dw) hK ht6
 refine V_y (Y_assign rfl) rfl rfl rfl ?_
 refine V_to (fun _ _ => rfl) ?_
 refine C_seq ?_
 refine C_region ?_
 have h7 := El_level_Piece_2 h4
 refine V_y (Y_fieldAddr Try.underlying62 rfl Try.sizeOf3 (by decide) rfl) rfl rfl rfl ?_
 refine V_y (Y_load (El.int h7) Try.isAgg3 rfl) rfl rfl rfl ?_
 obtain ⟨v8, h9, h10⟩ := El.list h_p1
 refine V_y (Y_load h9 Try.isAgg23 rfl) rfl rfl rfl ?_
 refine V_y (Y_lenSl h10 rfl Try.underlying23 rfl) rfl rfl rfl ?_
 refine V_y (Y_geq rfl rfl) rfl rfl rfl ?_
 refine V_y (Y_assign rfl) rfl rfl rfl ?_
 refine V_to (fun _ _ => rfl) ?_
 obtain rfl := Option.some.inj hm
 refine C_ret ?_
 try simp only [↓inBlock_ret, ↓then_ret]
 exact retQ rfl (Res.one Try.results31 rfl) ⟨rfl, hK.kp⟩
end Go.Proofs.Ytabkhhpkibbheaa.W
