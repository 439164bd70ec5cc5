/-
  Written by program (gen.py) from the IR of the dump: each function computes its model.
-/
import Derived.Test.YtehofjchjogbkaaDoorProg
import Derived.Test.YtehofjchjogbkaaDoorGe
import Derived.Test.YtehofjchjogbkaaDoorRouteDutyM
import Derived.KernelRfl
import Derived.Test.YtehofjchjogbkaaDoorHn
import Derived.Shelf.Strings.SlTrimAscii
import Derived.Test.YtehofjchjogbkaaDoorHa
namespace Go.Proofs.YtehofjchjogbkaaDoor.W
open Go Go.RowKit Go.Pu Go.Gw Go.Proofs Go.Proofs.YtehofjchjogbkaaDoor.M
set_option linter.unusedVariables false
set_option linter.unusedSimpArgs false
variable {Dw : Prop}

theorem Tryd_info3 : Tryd.prog.info? 3 = some Tryd.t3 := by kernel_rfl
theorem Tryd_info71 : Tryd.prog.info? 71 = some Tryd.t71 := by kernel_rfl
theorem Tryd_info89 : Tryd.prog.info? 89 = some Tryd.t89 := by kernel_rfl
theorem Tryd_info99 : Tryd.prog.info? 99 = some Tryd.t99 := by kernel_rfl
theorem Tryd_places65 : ∀ fs, Tryd.prog.underlying 65 = some (.struct fs) → ∀ w : World, (Array.mapM (fun (f : Field) => do pure (f.offset, ← Go.sizeOf f.type)) fs).run Tryd.prog w = .ok #[(0, 1)] w := by
  intro fs h w
  rw [Tryd.underlying65] at h
  cases h
  kernel_rfl
theorem Tryd_places70 : ∀ fs, Tryd.prog.underlying 70 = some (.struct fs) → ∀ w : World, (Array.mapM (fun (f : Field) => do pure (f.offset, ← Go.sizeOf f.type)) fs).run Tryd.prog w = .ok #[(0, 1), (1, 1), (2, 1)] w := by
  intro fs h w
  rw [Tryd.underlying70] at h
  cases h
  kernel_rfl
theorem Tryd_places80 : ∀ fs, Tryd.prog.underlying 80 = some (.struct fs) → ∀ w : World, (Array.mapM (fun (f : Field) => do pure (f.offset, ← Go.sizeOf f.type)) fs).run Tryd.prog w = .ok #[(0, 1), (1, 1)] w := by
  intro fs h w
  rw [Tryd.underlying80] at h
  cases h
  kernel_rfl
theorem Tryd_places86 : ∀ fs, Tryd.prog.underlying 86 = some (.struct fs) → ∀ w : World, (Array.mapM (fun (f : Field) => do pure (f.offset, ← Go.sizeOf f.type)) fs).run Tryd.prog w = .ok #[(0, 4), (4, 1)] w := by
  intro fs h w
  rw [Tryd.underlying86] at h
  cases h
  kernel_rfl
theorem Tryd_places89 : ∀ fs, Tryd.prog.underlying 89 = some (.struct fs) → ∀ w : World, (Array.mapM (fun (f : Field) => do pure (f.offset, ← Go.sizeOf f.type)) fs).run Tryd.prog w = .ok #[(0, 1), (1, 1), (2, 1)] w := by
  intro fs h w
  rw [Tryd.underlying89] at h
  cases h
  kernel_rfl
theorem Tryd_places99 : ∀ fs, Tryd.prog.underlying 99 = some (.struct fs) → ∀ w : World, (Array.mapM (fun (f : Field) => do pure (f.offset, ← Go.sizeOf f.type)) fs).run Tryd.prog w = .ok #[(0, 1), (1, 1), (2, 1)] w := by
  intro fs h w
  rw [Tryd.underlying99] at h
  cases h
  kernel_rfl
theorem Tryd_mixed : Tryd.prog.follows .mixedOrders = true := by kernel_rfl

instance : GoT route_Skill := GoT.of (β := ByteArray × Int) fun x => (x.name, x.rank)

instance : Flat route_Skill := ⟨fun {A w A1 w1 cs x} h => Flat.flat (α := ByteArray × Int) (x := (x.name, x.rank)) (A := A) (w := w) h⟩

theorem El_route_Skill_ {A : Nat → Prop} {w : World} {b off : Nat} {x : route_Skill} (h : El A w b off x) : El (α := ByteArray × Int) A w b off (x.name, x.rank) := h

theorem El_route_Skill_0 {A : Nat → Prop} {w : World} {b off : Nat} {x : route_Skill} (h : El A w b off x) : El A w b (off + 0) x.name := El.fst (El_route_Skill_ h)

theorem El_route_Skill_1 {A : Nat → Prop} {w : World} {b off : Nat} {x : route_Skill} (h : El A w b off x) : El A w b (off + 1) x.rank := El.snd (El_route_Skill_ h)

theorem El_route_Skill {A : Nat → Prop} {w : World} {b off : Nat} {x : route_Skill} (h : El A w b off x) : At w b off [.string x.name, .int .i64 x.rank] ∧ True := by
  obtain ⟨h1, h2, cs, h3, h4⟩ := h
  obtain ⟨_, _, rfl, rfl, rfl⟩ := h3
  exact ⟨h4, trivial⟩

instance : GoT route_Person := GoT.of (β := Int × Int × Int × (List route_Skill)) fun x => (x.no, x.capacity, x.calendar, x.skills)

theorem El_route_Person_ {A : Nat → Prop} {w : World} {b off : Nat} {x : route_Person} (h : El A w b off x) : El (α := Int × Int × Int × (List route_Skill)) A w b off (x.no, x.capacity, x.calendar, x.skills) := h

theorem El_route_Person_0 {A : Nat → Prop} {w : World} {b off : Nat} {x : route_Person} (h : El A w b off x) : El A w b (off + 0) x.no := El.fst (El_route_Person_ h)

theorem El_route_Person_1 {A : Nat → Prop} {w : World} {b off : Nat} {x : route_Person} (h : El A w b off x) : El A w b (off + 1) x.capacity := El.fst (El.snd (El_route_Person_ h))

theorem El_route_Person_2 {A : Nat → Prop} {w : World} {b off : Nat} {x : route_Person} (h : El A w b off x) : El A w b (off + 2) x.calendar := El.fst (El.snd (El.snd (El_route_Person_ h)))

theorem El_route_Person_3 {A : Nat → Prop} {w : World} {b off : Nat} {x : route_Person} (h : El A w b off x) : El A w b (off + 3) x.skills := El.snd (El.snd (El.snd (El_route_Person_ h)))

theorem El_route_Person {A : Nat → Prop} {w : World} {b off : Nat} {x : route_Person} (h : El A w b off x) : ∃ v1, At w b off [.int .i64 x.no, .int .i64 x.capacity, .int .i64 x.calendar, v1] ∧ Sl A w v1 x.skills := by
  obtain ⟨h1, h2, cs, h3, h4⟩ := h
  obtain ⟨_, _, rfl, rfl, ⟨_, _, rfl, rfl, ⟨_, _, rfl, rfl, ⟨u1, rfl, g1⟩⟩⟩⟩ := h3
  exact ⟨u1, h4, g1⟩

instance : GoT cal_Change := GoT.of (β := Int × Int) fun x => (x.at_, x.offset)

instance : Flat cal_Change := ⟨fun {A w A1 w1 cs x} h => Flat.flat (α := Int × Int) (x := (x.at_, x.offset)) (A := A) (w := w) h⟩

theorem El_cal_Change_ {A : Nat → Prop} {w : World} {b off : Nat} {x : cal_Change} (h : El A w b off x) : El (α := Int × Int) A w b off (x.at_, x.offset) := h

theorem El_cal_Change_0 {A : Nat → Prop} {w : World} {b off : Nat} {x : cal_Change} (h : El A w b off x) : El A w b (off + 0) x.at_ := El.fst (El_cal_Change_ h)

theorem El_cal_Change_1 {A : Nat → Prop} {w : World} {b off : Nat} {x : cal_Change} (h : El A w b off x) : El A w b (off + 1) x.offset := El.snd (El_cal_Change_ h)

theorem El_cal_Change {A : Nat → Prop} {w : World} {b off : Nat} {x : cal_Change} (h : El A w b off x) : At w b off [.int .i64 x.at_, .int .i64 x.offset] ∧ True := by
  obtain ⟨h1, h2, cs, h3, h4⟩ := h
  obtain ⟨_, _, rfl, rfl, rfl⟩ := h3
  exact ⟨h4, trivial⟩

instance : GoT cal_Zone := GoT.of (β := Int × (List cal_Change)) fun x => (x.offset, x.changes)

theorem El_cal_Zone_ {A : Nat → Prop} {w : World} {b off : Nat} {x : cal_Zone} (h : El A w b off x) : El (α := Int × (List cal_Change)) A w b off (x.offset, x.changes) := h

theorem El_cal_Zone_0 {A : Nat → Prop} {w : World} {b off : Nat} {x : cal_Zone} (h : El A w b off x) : El A w b (off + 0) x.offset := El.fst (El_cal_Zone_ h)

theorem El_cal_Zone_1 {A : Nat → Prop} {w : World} {b off : Nat} {x : cal_Zone} (h : El A w b off x) : El A w b (off + 1) x.changes := El.snd (El_cal_Zone_ h)

theorem El_cal_Zone {A : Nat → Prop} {w : World} {b off : Nat} {x : cal_Zone} (h : El A w b off x) : ∃ v1, At w b off [.int .i64 x.offset, v1] ∧ Sl A w v1 x.changes := by
  obtain ⟨h1, h2, cs, h3, h4⟩ := h
  obtain ⟨_, _, rfl, rfl, ⟨u1, rfl, g1⟩⟩ := h3
  exact ⟨u1, h4, g1⟩

instance : GoT cal_Shift := GoT.of (β := Int × Int × Int) fun x => (x.day, x.from_, x.to_)

instance : Flat cal_Shift := ⟨fun {A w A1 w1 cs x} h => Flat.flat (α := Int × Int × Int) (x := (x.day, x.from_, x.to_)) (A := A) (w := w) h⟩

theorem El_cal_Shift_ {A : Nat → Prop} {w : World} {b off : Nat} {x : cal_Shift} (h : El A w b off x) : El (α := Int × Int × Int) A w b off (x.day, x.from_, x.to_) := h

theorem El_cal_Shift_0 {A : Nat → Prop} {w : World} {b off : Nat} {x : cal_Shift} (h : El A w b off x) : El A w b (off + 0) x.day := El.fst (El_cal_Shift_ h)

theorem El_cal_Shift_1 {A : Nat → Prop} {w : World} {b off : Nat} {x : cal_Shift} (h : El A w b off x) : El A w b (off + 1) x.from_ := El.fst (El.snd (El_cal_Shift_ h))

theorem El_cal_Shift_2 {A : Nat → Prop} {w : World} {b off : Nat} {x : cal_Shift} (h : El A w b off x) : El A w b (off + 2) x.to_ := El.snd (El.snd (El_cal_Shift_ h))

theorem El_cal_Shift {A : Nat → Prop} {w : World} {b off : Nat} {x : cal_Shift} (h : El A w b off x) : At w b off [.int .i64 x.day, .int .i64 x.from_, .int .i64 x.to_] ∧ True := by
  obtain ⟨h1, h2, cs, h3, h4⟩ := h
  obtain ⟨_, _, rfl, rfl, ⟨_, _, rfl, rfl, rfl⟩⟩ := h3
  exact ⟨h4, trivial⟩

instance : GoT cal_Special := GoT.of (β := Int × (List cal_Shift)) fun x => (x.day, x.shifts)

theorem El_cal_Special_ {A : Nat → Prop} {w : World} {b off : Nat} {x : cal_Special} (h : El A w b off x) : El (α := Int × (List cal_Shift)) A w b off (x.day, x.shifts) := h

theorem El_cal_Special_0 {A : Nat → Prop} {w : World} {b off : Nat} {x : cal_Special} (h : El A w b off x) : El A w b (off + 0) x.day := El.fst (El_cal_Special_ h)

theorem El_cal_Special_1 {A : Nat → Prop} {w : World} {b off : Nat} {x : cal_Special} (h : El A w b off x) : El A w b (off + 1) x.shifts := El.snd (El_cal_Special_ h)

theorem El_cal_Special {A : Nat → Prop} {w : World} {b off : Nat} {x : cal_Special} (h : El A w b off x) : ∃ v1, At w b off [.int .i64 x.day, v1] ∧ Sl A w v1 x.shifts := by
  obtain ⟨h1, h2, cs, h3, h4⟩ := h
  obtain ⟨_, _, rfl, rfl, ⟨u1, rfl, g1⟩⟩ := h3
  exact ⟨u1, h4, g1⟩

instance : GoT cal_Calendar := GoT.of (β := cal_Zone × (List cal_Shift) × (List cal_Special)) fun x => (x.zone, x.week, x.specials)

theorem El_cal_Calendar_ {A : Nat → Prop} {w : World} {b off : Nat} {x : cal_Calendar} (h : El A w b off x) : El (α := cal_Zone × (List cal_Shift) × (List cal_Special)) A w b off (x.zone, x.week, x.specials) := h

theorem El_cal_Calendar_0 {A : Nat → Prop} {w : World} {b off : Nat} {x : cal_Calendar} (h : El A w b off x) : El A w b (off + 0) x.zone := El.fst (El_cal_Calendar_ h)

theorem El_cal_Calendar_1 {A : Nat → Prop} {w : World} {b off : Nat} {x : cal_Calendar} (h : El A w b off x) : El A w b (off + 2) x.week := El.fst (El.snd (El_cal_Calendar_ h))

theorem El_cal_Calendar_2 {A : Nat → Prop} {w : World} {b off : Nat} {x : cal_Calendar} (h : El A w b off x) : El A w b (off + 3) x.specials := El.snd (El.snd (El_cal_Calendar_ h))

theorem El_cal_Calendar {A : Nat → Prop} {w : World} {b off : Nat} {x : cal_Calendar} (h : El A w b off x) : ∃ v1 v3 v5, At w b off [.int .i64 x.zone.offset, v1, v3, v5] ∧ Sl A w v1 x.zone.changes ∧ Sl A w v3 x.week ∧ Sl A w v5 x.specials := by
  obtain ⟨h1, h2, cs, h3, h4⟩ := h
  obtain ⟨_, _, rfl, ⟨_, _, rfl, rfl, ⟨u1, rfl, g1⟩⟩, ⟨_, _, rfl, ⟨u2, rfl, g2⟩, ⟨u3, rfl, g3⟩⟩⟩ := h3
  exact ⟨u1, u2, u3, h4, g1, g2, g3⟩

theorem Rep_cal_Calendar {A : Nat → Prop} {w : World} {cs : List Value} {x : cal_Calendar} (h : GoT.rep A w cs x) : ∃ v1 v3 v5, cs = [.int .i64 x.zone.offset, v1, v3, v5] ∧ Sl A w v1 x.zone.changes ∧ Sl A w v3 x.week ∧ Sl A w v5 x.specials := by
  obtain ⟨_, _, rfl, ⟨_, _, rfl, rfl, ⟨u1, rfl, g1⟩⟩, ⟨_, _, rfl, ⟨u2, rfl, g2⟩, ⟨u3, rfl, g3⟩⟩⟩ := h
  exact ⟨u1, u2, u3, rfl, g1, g2, g3⟩

instance : GoT portref2_duty := GoT.of (β := (List route_Person) × (List cal_Calendar) × (List (Int × Bool))) fun x => (x.people, x.clocks, x.away)

theorem El_portref2_duty_ {A : Nat → Prop} {w : World} {b off : Nat} {x : portref2_duty} (h : El A w b off x) : El (α := (List route_Person) × (List cal_Calendar) × (List (Int × Bool))) A w b off (x.people, x.clocks, x.away) := h

theorem El_portref2_duty_0 {A : Nat → Prop} {w : World} {b off : Nat} {x : portref2_duty} (h : El A w b off x) : El A w b (off + 0) x.people := El.fst (El_portref2_duty_ h)

theorem El_portref2_duty_1 {A : Nat → Prop} {w : World} {b off : Nat} {x : portref2_duty} (h : El A w b off x) : El A w b (off + 1) x.clocks := El.fst (El.snd (El_portref2_duty_ h))

theorem El_portref2_duty_2 {A : Nat → Prop} {w : World} {b off : Nat} {x : portref2_duty} (h : El A w b off x) : El A w b (off + 2) x.away := El.snd (El.snd (El_portref2_duty_ h))

instance : GoT cal_Span := GoT.of (β := Int × Int) fun x => (x.from_, x.to_)

instance : Flat cal_Span := ⟨fun {A w A1 w1 cs x} h => Flat.flat (α := Int × Int) (x := (x.from_, x.to_)) (A := A) (w := w) h⟩

theorem El_cal_Span_ {A : Nat → Prop} {w : World} {b off : Nat} {x : cal_Span} (h : El A w b off x) : El (α := Int × Int) A w b off (x.from_, x.to_) := h

theorem El_cal_Span_0 {A : Nat → Prop} {w : World} {b off : Nat} {x : cal_Span} (h : El A w b off x) : El A w b (off + 0) x.from_ := El.fst (El_cal_Span_ h)

theorem El_cal_Span_1 {A : Nat → Prop} {w : World} {b off : Nat} {x : cal_Span} (h : El A w b off x) : El A w b (off + 1) x.to_ := El.snd (El_cal_Span_ h)

theorem El_cal_Span {A : Nat → Prop} {w : World} {b off : Nat} {x : cal_Span} (h : El A w b off x) : At w b off [.int .i64 x.from_, .int .i64 x.to_] ∧ True := by
  obtain ⟨h1, h2, cs, h3, h4⟩ := h
  obtain ⟨_, _, rfl, rfl, rfl⟩ := h3
  exact ⟨h4, trivial⟩

instance : GoT cal_part := GoT.of (β := Int × Int × Int) fun x => (x.from_, x.to_, x.offset)

instance : Flat cal_part := ⟨fun {A w A1 w1 cs x} h => Flat.flat (α := Int × Int × Int) (x := (x.from_, x.to_, x.offset)) (A := A) (w := w) h⟩

theorem El_cal_part_ {A : Nat → Prop} {w : World} {b off : Nat} {x : cal_part} (h : El A w b off x) : El (α := Int × Int × Int) A w b off (x.from_, x.to_, x.offset) := h

theorem El_cal_part_0 {A : Nat → Prop} {w : World} {b off : Nat} {x : cal_part} (h : El A w b off x) : El A w b (off + 0) x.from_ := El.fst (El_cal_part_ h)

theorem El_cal_part_1 {A : Nat → Prop} {w : World} {b off : Nat} {x : cal_part} (h : El A w b off x) : El A w b (off + 1) x.to_ := El.fst (El.snd (El_cal_part_ h))

theorem El_cal_part_2 {A : Nat → Prop} {w : World} {b off : Nat} {x : cal_part} (h : El A w b off x) : El A w b (off + 2) x.offset := El.snd (El.snd (El_cal_part_ h))

theorem El_cal_part {A : Nat → Prop} {w : World} {b off : Nat} {x : cal_part} (h : El A w b off x) : At w b off [.int .i64 x.from_, .int .i64 x.to_, .int .i64 x.offset] ∧ True := by
  obtain ⟨h1, h2, cs, h3, h4⟩ := h
  obtain ⟨_, _, rfl, rfl, ⟨_, _, rfl, rfl, rfl⟩⟩ := h3
  exact ⟨h4, trivial⟩

instance : GoT portref2_meter := GoT.of (β := (List cal_Calendar)) fun x => (x.clocks)

theorem El_portref2_meter_ {A : Nat → Prop} {w : World} {b off : Nat} {x : portref2_meter} (h : El A w b off x) : El (α := (List cal_Calendar)) A w b off (x.clocks) := h

theorem El_portref2_meter_0 {A : Nat → Prop} {w : World} {b off : Nat} {x : portref2_meter} (h : El A w b off x) : El A w b (off + 0) x.clocks := (El_portref2_meter_ h)

theorem El_portref2_meter {A : Nat → Prop} {w : World} {b off : Nat} {x : portref2_meter} (h : El A w b off x) : ∃ v1, At w b off [v1] ∧ Sl A w v1 x.clocks := by
  obtain ⟨h1, h2, cs, h3, h4⟩ := h
  obtain ⟨u1, rfl, g1⟩ := h3
  exact ⟨u1, h4, g1⟩

set_option maxRecDepth 4000 in
set_option maxHeartbeats 4000000 in
theorem route_within_c (w : World) (n : Int) (low : Int) (high : Int) : Ret Tryd.prog 23 #[.int .i64 n, .int .i64 low, .int .i64 high] w fun v w' => v = .bool (route_within n low high) ∧ w = w' := by
  generalize hm : route_within n low high = r
  unfold route_within at hm
  refine enter Tryd.func23 rfl Tryd.ntmps23 rfl ?_
  refine C_seq ?_
  refine C_region ?_
  refine V_y (Y_assign rfl) rfl rfl rfl ?_
  refine V_to (fun _ _ => rfl) ?_
  refine C_seq ?_
  refine C_region ?_
  refine V_y (Y_move rfl) rfl rfl rfl ?_
  refine V_y (Y_move rfl) rfl rfl rfl ?_
  refine V_y (Y_geq rfl rfl) rfl rfl rfl ?_
  refine V_y (Y_move rfl) rfl rfl rfl ?_
  refine V_cut 4 (fun _ : Unit => [(14, .bool ((decide (low ≤ n)) && (decide (n ≤ high))))]) (fun _ w' => w = w') ?_ ?_
  · simp only [List.take, List.drop]
    rcases Bool.eq_false_or_eq_true (decide (low ≤ n)) with hc1 | hc1
    · refine V_ge rfl rfl rfl hc1 ?_
      refine V_y (Y_move rfl) rfl rfl rfl ?_
      refine V_ge rfl rfl rfl hc1 ?_
      refine V_y (Y_move rfl) rfl rfl rfl ?_
      refine V_ge rfl rfl rfl hc1 ?_
      refine V_y (Y_leq rfl rfl) rfl rfl rfl ?_
      refine V_y (Y_pick_te rfl hc1 rfl) rfl rfl rfl ?_
      exact V_end fun a ha => ⟨(), ha.sub ⟨(by rw [hc1]; rfl), trivial⟩, rfl⟩
    · refine V_gn rfl rfl rfl hc1 rfl rfl rfl ?_
      refine V_gn rfl rfl rfl hc1 rfl rfl rfl ?_
      refine V_gn rfl rfl rfl hc1 rfl rfl rfl ?_
      refine V_y (Y_pick_fe rfl hc1 rfl) rfl rfl rfl ?_
      exact V_end fun a ha => ⟨(), ha.sub ⟨(by rw [hc1]; rfl), trivial⟩, rfl⟩
  simp only [List.take, List.drop]
  rintro _ _ rfl
  refine V_y (Y_assign rfl) rfl rfl rfl ?_
  refine V_to (fun _ _ => rfl) ?_
  obtain rfl := hm
  refine C_ret ?_
  try simp only [↓inBlock_ret, ↓then_ret]
  exact retQ rfl (Res.one Tryd.results23 rfl) ⟨rfl, rfl⟩

set_option maxRecDepth 4000 in
set_option maxHeartbeats 4000000 in
theorem route_name_c (w : World) (s : ByteArray) {r : Bool} (hm : route_name s = some r) : Ret Tryd.prog 45 #[.string s] w fun v w' => v = .bool r ∧ w = w' := by
  unfold route_name at hm
  refine enter Tryd.func45 rfl Tryd.ntmps45 rfl ?_
  refine C_seq ?_
  refine C_region ?_
  refine V_y (Y_assign rfl) rfl rfl rfl ?_
  refine V_to (fun _ _ => rfl) ?_
  refine C_seq ?_
  refine C_seq ?_
  refine C_region ?_
  refine V_y (Y_move rfl) rfl rfl rfl ?_
  refine V_y (Y_lenStr rfl Tryd.underlying9 rfl) rfl rfl rfl ?_
  refine V_y (Y_move rfl) rfl rfl rfl ?_
  refine V_to (fun _ _ => rfl) ?_
  obtain ⟨o1, ho1, hm⟩ := Option.bind_eq_some_iff.1 hm
  refine C_cutG (ι := Int) (fun (s2 : Int) => [(0, .string s)]) (fun (s2 : Int) => fun w' => o1 = .fin s2 ∧ w = w') ?_ ?_
  · refine C_block ?_
    refine C_while ho1 (fun s8 a w' => ∃ i : Unit, Has ⟨41, [], none⟩ a ([(0, .string s), (6, .int .i64 (s.size : Int)), (7, .int .i64 s8)]) ∧ w = w') (fun a ha => ⟨(), ha.sub ⟨rfl, rfl, rfl, trivial⟩, rfl⟩) ?_
    rintro K s8 a _ ⟨_, ha30, rfl⟩ K16
    refine C_of ?_ ha30
    obtain ⟨x10, h11, h12⟩ := K16
    refine C_seq ?_
    refine C_region ?_
    refine V_y (Y_lss rfl rfl) rfl rfl rfl ?_
    refine V_to (fun _ _ => rfl) ?_
    refine C_seq ?_
    refine C_cond rfl (fun hc17 => ?_) (fun hc17 => ?_)
    · rw [if_pos hc17] at h11
      refine C_skip_to (fun _ _ => rfl) ?_
      refine C_seq ?_
      refine C_block ?_
      refine C_seq ?_
      refine C_region ?_
      refine V_y (Y_move rfl) rfl rfl rfl ?_
      refine V_y (Y_assign rfl) rfl rfl rfl ?_
      refine V_to (fun _ _ => rfl) ?_
      refine C_seq ?_
      refine C_region ?_
      refine V_y (Y_move rfl) rfl rfl rfl ?_
      refine V_y (Y_move rfl) rfl rfl rfl ?_
      obtain ⟨x18, hx18, h11⟩ := Option.bind_eq_some_iff.1 h11
      refine V_y (Y_indexS hx18 Tryd.underlying9 rfl rfl) rfl rfl rfl ?_
      refine V_y (Y_assign rfl) rfl rfl rfl ?_
      refine V_to (fun _ _ => rfl) ?_
      refine C_seq ?_
      refine C_region ?_
      refine V_y (Y_move rfl) rfl rfl rfl ?_
      refine V_y (Y_geq rfl rfl) rfl rfl rfl ?_
      refine V_y (Y_move rfl) rfl rfl rfl ?_
      refine V_cut 3 (fun _ : Unit => [(0, .string s), (4, .int .u8 (x18.toNat : Int)), (6, .int .i64 (s.size : Int)), (7, .int .i64 s8), (18, .bool ((decide ((97 : Int) ≤ (x18.toNat : Int))) && (decide ((x18.toNat : Int) ≤ 122))))]) (fun _ w' => w = w') ?_ ?_
      · simp only [List.take, List.drop]
        rcases Bool.eq_false_or_eq_true (decide ((97 : Int) ≤ (x18.toNat : Int))) with hc19 | hc19
        · refine V_ge rfl rfl rfl hc19 ?_
          refine V_y (Y_move rfl) rfl rfl rfl ?_
          refine V_ge rfl rfl rfl hc19 ?_
          refine V_y (Y_leq rfl rfl) rfl rfl rfl ?_
          refine V_y (Y_pick_te rfl hc19 rfl) rfl rfl rfl ?_
          exact V_end fun a ha => ⟨(), ha.sub ⟨rfl, rfl, rfl, rfl, (by rw [hc19]; rfl), trivial⟩, rfl⟩
        · refine V_gn rfl rfl rfl hc19 rfl rfl rfl ?_
          refine V_gn rfl rfl rfl hc19 rfl rfl rfl ?_
          refine V_y (Y_pick_fe rfl hc19 rfl) rfl rfl rfl ?_
          exact V_end fun a ha => ⟨(), ha.sub ⟨rfl, rfl, rfl, rfl, (by rw [hc19]; rfl), trivial⟩, rfl⟩
      simp only [List.take, List.drop]
      rintro _ _ rfl
      refine V_y (Y_not rfl) rfl rfl rfl ?_
      refine V_y (Y_move rfl) rfl rfl rfl ?_
      refine V_cut 8 (fun _ : Unit => [(0, .string s), (4, .int .u8 (x18.toNat : Int)), (6, .int .i64 (s.size : Int)), (7, .int .i64 s8), (28, .bool ((!((decide ((97 : Int) ≤ (x18.toNat : Int))) && (decide ((x18.toNat : Int) ≤ 122)))) && (!((decide ((48 : Int) ≤ (x18.toNat : Int))) && (decide ((x18.toNat : Int) ≤ 57))))))]) (fun _ w' => w = w') ?_ ?_
      · simp only [List.take, List.drop]
        rcases Bool.eq_false_or_eq_true (!((decide ((97 : Int) ≤ (x18.toNat : Int))) && (decide ((x18.toNat : Int) ≤ 122)))) with hc21 | hc21
        · refine V_ge rfl rfl rfl hc21 ?_
          refine V_y (Y_move rfl) rfl rfl rfl ?_
          refine V_ge rfl rfl rfl hc21 ?_
          refine V_y (Y_geq rfl rfl) rfl rfl rfl ?_
          refine V_ge rfl rfl rfl hc21 ?_
          refine V_y (Y_move rfl) rfl rfl rfl ?_
          refine V_cut 3 (fun _ : Unit => [(0, .string s), (4, .int .u8 (x18.toNat : Int)), (6, .int .i64 (s.size : Int)), (7, .int .i64 s8), (20, .bool (!((decide ((97 : Int) ≤ (x18.toNat : Int))) && (decide ((x18.toNat : Int) ≤ 122))))), (26, .bool ((decide ((48 : Int) ≤ (x18.toNat : Int))) && (decide ((x18.toNat : Int) ≤ 57))))]) (fun _ w' => w = w') ?_ ?_
          · simp only [List.take, List.drop]
            rcases Bool.eq_false_or_eq_true (decide ((48 : Int) ≤ (x18.toNat : Int))) with hc23 | hc23
            · refine V_ge rfl rfl rfl hc23 ?_
              refine V_y (Y_move rfl) rfl rfl rfl ?_
              refine V_ge rfl rfl rfl hc23 ?_
              refine V_y (Y_leq rfl rfl) rfl rfl rfl ?_
              refine V_ge rfl rfl rfl hc21 ?_
              refine V_y (Y_pick_te rfl hc23 rfl) rfl rfl rfl ?_
              exact V_end fun a ha => ⟨(), ha.sub ⟨rfl, rfl, rfl, rfl, rfl, (by rw [hc23]; rfl), trivial⟩, rfl⟩
            · refine V_gn rfl rfl rfl hc23 rfl rfl rfl ?_
              refine V_gn rfl rfl rfl hc23 rfl rfl rfl ?_
              refine V_ge rfl rfl rfl hc21 ?_
              refine V_y (Y_pick_fe rfl hc23 rfl) rfl rfl rfl ?_
              exact V_end fun a ha => ⟨(), ha.sub ⟨rfl, rfl, rfl, rfl, rfl, (by rw [hc23]; rfl), trivial⟩, rfl⟩
          simp only [List.take, List.drop]
          rintro _ _ rfl
          refine V_ge rfl rfl rfl hc21 ?_
          refine V_y (Y_not rfl) rfl rfl rfl ?_
          refine V_y (Y_pick_te rfl hc21 rfl) rfl rfl rfl ?_
          exact V_end fun a ha => ⟨(), ha.sub ⟨rfl, rfl, rfl, rfl, (by rw [hc21]; rfl), trivial⟩, rfl⟩
        · refine V_gn rfl rfl rfl hc21 rfl rfl rfl ?_
          refine V_gn rfl rfl rfl hc21 rfl rfl rfl ?_
          refine V_gn rfl rfl rfl hc21 rfl rfl rfl ?_
          refine V_gu rfl rfl rfl rfl rfl ?_
          refine V_gu rfl rfl rfl rfl rfl ?_
          refine V_gn rfl rfl rfl hc21 rfl rfl rfl ?_
          refine V_gn rfl rfl rfl hc21 rfl rfl rfl ?_
          refine V_y (Y_pick_fe rfl hc21 rfl) rfl rfl rfl ?_
          exact V_end fun a ha => ⟨(), ha.sub ⟨rfl, rfl, rfl, rfl, (by rw [hc21]; rfl), trivial⟩, rfl⟩
      simp only [List.take, List.drop]
      rintro _ _ rfl
      refine V_y (Y_move rfl) rfl rfl rfl ?_
      refine V_cut 3 (fun _ : Unit => [(0, .string s), (6, .int .i64 (s.size : Int)), (7, .int .i64 s8), (32, .bool (((!((decide ((97 : Int) ≤ (x18.toNat : Int))) && (decide ((x18.toNat : Int) ≤ 122)))) && (!((decide ((48 : Int) ≤ (x18.toNat : Int))) && (decide ((x18.toNat : Int) ≤ 57))))) && ((x18.toNat : Int) != 95)))]) (fun _ w' => w = w') ?_ ?_
      · simp only [List.take, List.drop]
        rcases Bool.eq_false_or_eq_true (((!((decide ((97 : Int) ≤ (x18.toNat : Int))) && (decide ((x18.toNat : Int) ≤ 122)))) && (!((decide ((48 : Int) ≤ (x18.toNat : Int))) && (decide ((x18.toNat : Int) ≤ 57)))))) with hc25 | hc25
        · refine V_ge rfl rfl rfl hc25 ?_
          refine V_y (Y_move rfl) rfl rfl rfl ?_
          refine V_ge rfl rfl rfl hc25 ?_
          refine V_y (Y_neq rfl rfl) rfl rfl rfl ?_
          refine V_y (Y_pick_te rfl hc25 rfl) rfl rfl rfl ?_
          exact V_end fun a ha => ⟨(), ha.sub ⟨rfl, rfl, rfl, (by rw [hc25]; rfl), trivial⟩, rfl⟩
        · refine V_gn rfl rfl rfl hc25 rfl rfl rfl ?_
          refine V_gn rfl rfl rfl hc25 rfl rfl rfl ?_
          refine V_y (Y_pick_fe rfl hc25 rfl) rfl rfl rfl ?_
          exact V_end fun a ha => ⟨(), ha.sub ⟨rfl, rfl, rfl, (by rw [hc25]; rfl), trivial⟩, rfl⟩
      simp only [List.take, List.drop]
      rintro _ _ rfl
      refine V_to (fun _ _ => rfl) ?_
      refine C_cond rfl (fun hc27 => ?_) (fun hc27 => ?_)
      · rw [if_pos hc27] at h11
        refine C_seq ?_
        refine C_region ?_
        refine V_y (Y_assign rfl) rfl rfl rfl ?_
        refine V_to (fun _ _ => rfl) ?_
        obtain rfl := Option.some.inj h11
        obtain rfl := (h12 : Lp.rt _ = _)
        rw [Lp.andThen_rt] at hm
        obtain rfl := Option.some.inj hm
        refine C_ret ?_
        try simp only [↓inBlock_ret, ↓then_ret]
        exact retQ rfl (Res.one Tryd.results45 rfl) ⟨rfl, rfl⟩
      · rw [if_neg (nt hc27)] at h11
        refine C_skip_to (fun _ _ => rfl) ?_
        refine C_region ?_
        refine V_y (Y_addI rfl rfl) rfl rfl rfl ?_
        refine V_y (Y_move rfl) rfl rfl rfl ?_
        obtain rfl := Option.some.inj h11
        refine V_end (fun a ha28 => ?_)
        exact ⟨w64 (s8 + 1), h12, ⟨(), ha28.sub ⟨rfl, rfl, rfl, trivial⟩, rfl⟩⟩
    · rw [if_neg (nt hc17)] at h11
      obtain rfl := Option.some.inj h11
      refine C_exit (fun a ha29 => ?_)
      exact ⟨s8, ha29.sub ⟨rfl, trivial⟩, ⟨h12.symm, rfl⟩⟩
  rintro s2 _ ⟨rfl, rfl⟩ a ha7
  rw [Lp.andThen_fin] at hm
  refine C_at (n := ⟨41, [], none⟩) (fun _ _ => rfl) ?_ ha7
  refine C_seq ?_
  refine C_region ?_
  refine V_y (Y_move rfl) rfl rfl rfl ?_
  refine V_y (Y_sneq rfl rfl) rfl rfl rfl ?_
  refine V_y (Y_move rfl) rfl rfl rfl ?_
  refine V_cut 4 (fun _ : Unit => [(40, .bool ((!(strEq s (⟨#[]⟩ : ByteArray))) && (decide ((s.size : Int) ≤ 20))))]) (fun _ w' => w = w') ?_ ?_
  · simp only [List.take, List.drop]
    rcases Bool.eq_false_or_eq_true (!(strEq s (⟨#[]⟩ : ByteArray))) with hc31 | hc31
    · refine V_ge rfl rfl rfl hc31 ?_
      refine V_y (Y_move rfl) rfl rfl rfl ?_
      refine V_ge rfl rfl rfl hc31 ?_
      refine V_y (Y_lenStr rfl Tryd.underlying9 rfl) rfl rfl rfl ?_
      refine V_ge rfl rfl rfl hc31 ?_
      refine V_y (Y_leq rfl rfl) rfl rfl rfl ?_
      refine V_y (Y_pick_te rfl hc31 rfl) rfl rfl rfl ?_
      exact V_end fun a ha => ⟨(), ha.sub ⟨(by rw [hc31]; rfl), trivial⟩, rfl⟩
    · refine V_gn rfl rfl rfl hc31 rfl rfl rfl ?_
      refine V_gn rfl rfl rfl hc31 rfl rfl rfl ?_
      refine V_gn rfl rfl rfl hc31 rfl rfl rfl ?_
      refine V_y (Y_pick_fe rfl hc31 rfl) rfl rfl rfl ?_
      exact V_end fun a ha => ⟨(), ha.sub ⟨(by rw [hc31]; rfl), trivial⟩, rfl⟩
  simp only [List.take, List.drop]
  rintro _ _ rfl
  refine V_y (Y_assign rfl) rfl rfl rfl ?_
  refine V_to (fun _ _ => rfl) ?_
  obtain rfl := Option.some.inj hm
  refine C_ret ?_
  try simp only [↓inBlock_ret, ↓then_ret]
  exact retQ rfl (Res.one Tryd.results45 rfl) ⟨rfl, rfl⟩

set_option maxRecDepth 4000 in
set_option maxHeartbeats 4000000 in
theorem route_checkSkills_c (w : World) {A : Nat → Prop} (hA : ∀ b, w.heap.size ≤ b → A b) (l : (List route_Skill)) (v_l : Value) (h_l : Sl A w v_l l) {r : Int} (hm : route_checkSkills l = some r) : Ret Tryd.prog 34 #[v_l] w fun v w' => v = .int .i64 r ∧ Kp Dw w w' := by
  unfold route_checkSkills at hm
  refine enter Tryd.func34 rfl Tryd.ntmps34 rfl ?_
  have hA0 := hA
  have hB := Nat.le_refl w.heap.size
  have hK : Tr Dw w.heap.size A w A w := Tr.refl (Dw := Dw) hA
  have hH : Hp w.heap.size A w [] := Hp.nil
  refine C_seq ?_
  refine C_region ?_
  refine V_y (Y_assign rfl) rfl rfl rfl ?_
  refine V_to (fun _ _ => rfl) ?_
  refine C_seq ?_
  refine C_seq ?_
  refine C_region ?_
  refine V_y (Y_move rfl) rfl rfl rfl ?_
  refine V_y (Y_lenSl h_l rfl Tryd.underlying35 rfl) rfl rfl rfl ?_
  refine V_y (Y_gtr rfl rfl) rfl rfl rfl ?_
  refine V_to (fun _ _ => rfl) ?_
  refine C_cond rfl (fun hc3 => ?_) (fun hc3 => ?_)
  · rw [if_pos hc3] at hm
    refine C_seq ?_
    refine C_region ?_
    refine V_y (Y_assign rfl) rfl rfl rfl ?_
    refine V_to (fun _ _ => rfl) ?_
    obtain rfl := Option.some.inj hm
    refine C_ret ?_
    try simp only [↓inBlock_ret, ↓then_ret]
    exact retQ rfl (Res.one Tryd.results34 rfl) ⟨rfl, hK.kp⟩
  · rw [if_neg (nt hc3)] at hm
    refine C_skip_to (fun _ _ => rfl) ?_
    refine C_seq ?_
    refine C_seq ?_
    refine C_region ?_
    refine V_y (Y_move rfl) rfl rfl rfl ?_
    refine V_y (Y_lenSl h_l rfl Tryd.underlying35 rfl) rfl rfl rfl ?_
    refine V_y (Y_move rfl) rfl rfl rfl ?_
    refine V_to (fun _ _ => rfl) ?_
    have hn25 := Sl.le h_l
    obtain ⟨o4, ho4, hm⟩ := Option.bind_eq_some_iff.1 hm
    refine C_cutG (ι := (Unit × (Nat → Prop))) (fun ⟨s5, A12⟩ => []) (fun ⟨s5, A12⟩ => fun w' => o4 = .fin s5 ∧ Hp w.heap.size A12 w' ([]) ∧ Tr Dw w.heap.size A w A12 w') ?_ ?_
    · refine C_block ?_
      refine C_range ho4 (fun k7 _ a w' => ∃ i : (Nat → Prop), Has ⟨40, [], none⟩ a ([(0, v_l), (8, v_l), (9, .int .i64 (l.length : Int)), (10, .int .i64 (k7 : Int))]) ∧ Hp w.heap.size i w' ([]) ∧ Tr Dw w.heap.size A w i w') (fun a ha => ⟨A, ha.sub ⟨rfl, rfl, rfl, rfl, trivial⟩, ⟨hH, Tr.refl (Dw := Dw) hA⟩⟩) ?_
      rintro K k7 _ a w15 ⟨A16, ha59, hH17, hr6⟩ hle21 K24 h23
      refine C_of ?_ ha59
      replace h_l := Sl.tr (Dw := Dw) h_l hr6
      replace hK := Tr.trans (Dw := Dw) hK hr6
      replace hB := Nat.le_trans hB hr6.ex.size
      replace hA := hr6.new
      replace hH : Hp w.heap.size A16 w15 ([]) := hH17
      refine C_seq (C_region (V_y (Y_lss rfl rfl) rfl rfl rfl (V_to (fun _ _ => rfl) ?_)))
      refine C_seq ?_
      refine C_cond rfl (fun hc26 => ?_) (fun hc26 => ?_)
      · have hlt22 := lt_of_dec hc26
        obtain ⟨x18, h19, h20⟩ := K24 hlt22
        refine C_skip_to (fun _ _ => rfl) ?_
        refine C_seq ?_
        refine C_block ?_
        refine C_seq ?_
        refine C_region ?_
        refine V_y (Y_move rfl) rfl rfl rfl ?_
        obtain ⟨x27, hx27, h19⟩ := Option.bind_eq_some_iff.1 h19
        refine V_indexAddr h_l hx27 Tryd.underlying35 Tryd.sizeOf91 rfl rfl rfl ?_
        intro b28 o29 h30
        obtain ⟨h31, _⟩ := El_route_Skill h30
        refine V_y (Y_loadA h31 Tryd.isAgg91 Tryd.sizeOf91 rfl) rfl rfl rfl ?_
        refine V_alloc Tryd.zeroValue91 rfl ?_
        intro b32 w33 h34
        refine V_y (Y_assign rfl) rfl rfl rfl ?_
        refine V_storeNew h34 Tryd.sizeOf91 rfl rfl rfl rfl (by exact (List.forall_mem_cons.2 ⟨rfl, (List.forall_mem_cons.2 ⟨rfl, (fun _ h => nomatch h)⟩)⟩)) ?_
        intro w35 h36
        have hk38 := h36.kp (Dw := Dw)
        have h37 : El (α := route_Skill) A16 w35 b32 0 x27 := h36.el hA ⟨[.string x27.name], _, rfl, rfl, rfl⟩
        have ht39 := Kp.tr (Dw := Dw) hk38 hA hB
        replace hH := Hp.kp (Dw := Dw) hH hk38
        replace h_l := Sl.tr (Dw := Dw) h_l ht39
        replace h30 := El.tr (Dw := Dw) h30 ht39
        replace hK := Tr.trans (Dw := Dw) hK ht39
        replace hr6 := Tr.trans (Dw := Dw) hr6 ht39
        replace hB := Nat.le_trans hB ht39.ex.size
        replace hA := ht39.new
        refine V_to (fun _ _ => rfl) ?_
        refine C_block ?_
        refine C_seq ?_
        refine C_region ?_
        have h40 := El_route_Skill_0 h37
        refine V_y (Y_fieldAddr Tryd.underlying91 rfl Tryd.sizeOf9 (by decide) rfl) rfl rfl rfl ?_
        refine V_y (Y_load (El.str h40) Tryd.isAgg9 rfl) rfl rfl rfl ?_
        obtain ⟨x41, hx41, h19⟩ := Option.bind_eq_some_iff.1 h19
        refine V_call Tryd.call45 rfl rfl rfl rfl (route_name_c w35 x27.name hx41) ?_
        rintro _ _ ⟨rfl, rfl⟩
        refine V_y (Y_not rfl) rfl rfl rfl ?_
        refine V_y (Y_assign rfl) rfl rfl rfl ?_
        refine V_to (fun _ _ => rfl) ?_
        refine C_cond rfl (fun hc42 => ?_) (fun hc42 => ?_)
        · rw [if_pos hc42] at h19
          refine C_seq ?_
          refine C_region ?_
          refine V_y (Y_assign rfl) rfl rfl rfl ?_
          refine V_to (fun _ _ => rfl) ?_
          obtain rfl := Option.some.inj h19
          obtain rfl := (h20 : Lp.rt _ = _)
          rw [Lp.andThen_rt] at hm
          obtain rfl := Option.some.inj hm
          refine C_ret ?_
          try simp only [↓inBlock_ret, ↓then_ret]
          exact retQ rfl (Res.one Tryd.results34 rfl) ⟨rfl, hK.kp⟩
        · rw [if_neg (nt hc42)] at h19
          refine C_seq ?_
          refine C_region_q (Dw := Dw) Tryd_mixed (by kernel_rfl) ?_
          refine VQ_y (fun w' hw' => Y_move rfl) rfl rfl rfl ?_
          refine VQ_y (fun w' hw' => Y_gtr rfl rfl) rfl rfl rfl ?_
          refine VQ_y (fun w' hw' => Y_move rfl) rfl rfl rfl ?_
          obtain ⟨s44, hs44, h19⟩ := Option.bind_eq_some_iff.1 h19
          refine VQ_cut 10 (fun _ : Unit => [(0, v_l), (4, .pointer (some ⟨b32, 0, none⟩)), (8, v_l), (9, .int .i64 (l.length : Int)), (10, .int .i64 (k7 : Int)), (33, .bool s44)]) (fun _ => True) ?_ ?_
          · simp only [List.take, List.drop]
            rcases Bool.eq_false_or_eq_true (decide ((0 : Int) < (k7 : Int))) with hc43 | hc43
            · rw [if_pos hc43] at hs44
              refine VQ_ge rfl rfl rfl hc43 ?_
              have h45 := El_route_Skill_0 h37
              refine VQ_y (fun w' hw' => Y_fieldAddr Tryd.underlying91 rfl Tryd.sizeOf9 (by decide) rfl) rfl rfl rfl ?_
              refine VQ_ge rfl rfl rfl hc43 ?_
              refine VQ_y (fun w' hw' => Y_load (El.str (El.kp (Dw := Dw) h45 hw')) Tryd.isAgg9 rfl) rfl rfl rfl ?_
              refine VQ_ge rfl rfl rfl hc43 ?_
              refine VQ_y (fun w' hw' => Y_move rfl) rfl rfl rfl ?_
              refine VQ_ge rfl rfl rfl hc43 ?_
              refine VQ_y (fun w' hw' => Y_move rfl) rfl rfl rfl ?_
              refine VQ_ge rfl rfl rfl hc43 ?_
              refine VQ_y (fun w' hw' => Y_subI rfl rfl) rfl rfl rfl ?_
              refine VQ_ge rfl rfl rfl hc43 ?_
              obtain ⟨x46, hx46, hs44⟩ := Option.bind_eq_some_iff.1 hs44
              refine VQ_indexAddr h_l hx46 Tryd.underlying35 Tryd.sizeOf91 rfl rfl rfl ?_
              intro b47 o48 h49
              refine VQ_ge rfl rfl rfl hc43 ?_
              have h50 := El_route_Skill_0 h49
              refine VQ_y (fun w' hw' => Y_fieldAddr Tryd.underlying91 rfl Tryd.sizeOf9 (by decide) rfl) rfl rfl rfl ?_
              refine VQ_ge rfl rfl rfl hc43 ?_
              refine VQ_y (fun w' hw' => Y_load (El.str (El.kp (Dw := Dw) h50 hw')) Tryd.isAgg9 rfl) rfl rfl rfl ?_
              refine VQ_ge rfl rfl rfl hc43 ?_
              refine VQ_y (fun w' hw' => Y_sleq rfl rfl) rfl rfl rfl ?_
              refine VQ_y (fun _ _ => Y_pick_te rfl hc43 rfl) rfl rfl rfl ?_
              obtain rfl := Option.some.inj hs44
              exact VQ_end fun a ha => ⟨(), ha.sub ⟨rfl, rfl, rfl, rfl, rfl, rfl, trivial⟩, trivial⟩
            · rw [if_neg (nt hc43)] at hs44
              refine VQ_gn rfl rfl rfl hc43 rfl rfl rfl ?_
              refine VQ_gn rfl rfl rfl hc43 rfl rfl rfl ?_
              refine VQ_gn rfl rfl rfl hc43 rfl rfl rfl ?_
              refine VQ_gn rfl rfl rfl hc43 rfl rfl rfl ?_
              refine VQ_gn rfl rfl rfl hc43 rfl rfl rfl ?_
              refine VQ_gn rfl rfl rfl hc43 rfl rfl rfl ?_
              refine VQ_gn rfl rfl rfl hc43 rfl rfl rfl ?_
              refine VQ_gn rfl rfl rfl hc43 rfl rfl rfl ?_
              refine VQ_gn rfl rfl rfl hc43 rfl rfl rfl ?_
              refine VQ_y (fun _ _ => Y_pick_fe rfl hc43 rfl) rfl rfl rfl ?_
              obtain rfl := Option.some.inj hs44
              exact VQ_end fun a ha => ⟨(), ha.sub ⟨rfl, rfl, rfl, rfl, rfl, rfl, trivial⟩, trivial⟩
          simp only [List.take, List.drop]
          rintro _ _
          refine VQ_y (fun w' hw' => Y_assign rfl) rfl rfl rfl ?_
          refine VQ_to (fun _ _ => rfl) (fun w51 hk52 => ?_)
          have ht53 := Kp.tr (Dw := Dw) hk52 hA hB
          replace hH := Hp.kp (Dw := Dw) hH hk52
          replace h_l := Sl.tr (Dw := Dw) h_l ht53
          replace h37 := El.tr (Dw := Dw) h37 ht53
          replace hK := Tr.trans (Dw := Dw) hK ht53
          replace hr6 := Tr.trans (Dw := Dw) hr6 ht53
          replace hB := Nat.le_trans hB ht53.ex.size
          replace hA := ht53.new
          refine C_cond rfl (fun hc54 => ?_) (fun hc54 => ?_)
          · rw [if_pos hc54] at h19
            refine C_seq ?_
            refine C_region ?_
            refine V_y (Y_assign rfl) rfl rfl rfl ?_
            refine V_to (fun _ _ => rfl) ?_
            obtain rfl := Option.some.inj h19
            obtain rfl := (h20 : Lp.rt _ = _)
            rw [Lp.andThen_rt] at hm
            obtain rfl := Option.some.inj hm
            refine C_ret ?_
            try simp only [↓inBlock_ret, ↓then_ret]
            exact retQ rfl (Res.one Tryd.results34 rfl) ⟨rfl, hK.kp⟩
          · rw [if_neg (nt hc54)] at h19
            refine C_seq ?_
            refine C_region ?_
            have h55 := El_route_Skill_1 h37
            refine V_y (Y_fieldAddr Tryd.underlying91 rfl Tryd.sizeOf3 (by decide) rfl) rfl rfl rfl ?_
            refine V_y (Y_load (El.int h55) Tryd.isAgg3 rfl) rfl rfl rfl ?_
            refine V_call Tryd.call23 rfl rfl rfl rfl (route_within_c w51 x27.rank 1 9) ?_
            rintro _ _ ⟨rfl, rfl⟩
            refine V_y (Y_not rfl) rfl rfl rfl ?_
            refine V_y (Y_assign rfl) rfl rfl rfl ?_
            refine V_to (fun _ _ => rfl) ?_
            refine C_cond rfl (fun hc56 => ?_) (fun hc56 => ?_)
            · rw [if_pos hc56] at h19
              refine C_seq ?_
              refine C_region ?_
              refine V_y (Y_assign rfl) rfl rfl rfl ?_
              refine V_to (fun _ _ => rfl) ?_
              obtain rfl := Option.some.inj h19
              obtain rfl := (h20 : Lp.rt _ = _)
              rw [Lp.andThen_rt] at hm
              obtain rfl := Option.some.inj hm
              refine C_ret ?_
              try simp only [↓inBlock_ret, ↓then_ret]
              exact retQ rfl (Res.one Tryd.results34 rfl) ⟨rfl, hK.kp⟩
            · rw [if_neg (nt hc56)] at h19
              refine C_skip_to (fun _ _ => rfl) ?_
              refine C_region ?_
              refine V_y (Y_addI rfl rfl) rfl rfl rfl ?_
              refine V_y (Y_move rfl) rfl rfl rfl ?_
              obtain rfl := Option.some.inj h19
              refine V_end (fun a ha57 => ?_)
              exact ⟨(), hlt22, h20, ⟨A16, ha57.sub ⟨rfl, rfl, rfl, (congrArg (fun z => some (Value.int .i64 z)) (w64_succ hlt22 hn25)), trivial⟩, ⟨hH, hr6⟩⟩⟩
      · refine C_exit (fun a ha58 => ?_)
        exact ⟨((), A16), ha58.sub trivial, ⟨(h23 (eq_of_dec hle21 hc26)).symm, hH, hr6⟩⟩
    rintro ⟨s5, A12⟩ w9 ⟨rfl, hH13, hk10⟩ a ha11
    rw [Lp.andThen_fin] at hm
    replace hK := Tr.trans (Dw := Dw) hK hk10
    replace hB := Nat.le_trans hB hk10.ex.size
    replace hA := hk10.new
    replace hH : Hp w.heap.size A12 w9 ([]) := hH13
    refine C_at (n := ⟨40, [], none⟩) (fun _ _ => rfl) ?_ ha11
    refine C_seq ?_
    refine C_region ?_
    refine V_y (Y_assign rfl) rfl rfl rfl ?_
    refine V_to (fun _ _ => rfl) ?_
    obtain rfl := Option.some.inj hm
    refine C_ret ?_
    try simp only [↓inBlock_ret, ↓then_ret]
    exact retQ rfl (Res.one Tryd.results34 rfl) ⟨rfl, hK.kp⟩

set_option maxRecDepth 4000 in
set_option maxHeartbeats 4000000 in
theorem route_CheckPeople_c (w : World) {A : Nat → Prop} (hA : ∀ b, w.heap.size ≤ b → A b) (l : (List route_Person)) (v_l : Value) (h_l : Sl A w v_l l) {r : Int} (hm : route_CheckPeople l = some r) : Ret Tryd.prog 21 #[v_l] w fun v w' => v = .int .i64 r ∧ Kp Dw w w' := by
  unfold route_CheckPeople at hm
  refine enter Tryd.func21 rfl Tryd.ntmps21 rfl ?_
  have hA0 := hA
  have hB := Nat.le_refl w.heap.size
  have hK : Tr Dw w.heap.size A w A w := Tr.refl (Dw := Dw) hA
  have hH : Hp w.heap.size A w [] := Hp.nil
  refine C_seq ?_
  refine C_region ?_
  refine V_y (Y_assign rfl) rfl rfl rfl ?_
  refine V_to (fun _ _ => rfl) ?_
  refine C_seq ?_
  refine C_seq ?_
  refine C_region ?_
  refine V_y (Y_move rfl) rfl rfl rfl ?_
  refine V_y (Y_lenSl h_l rfl Tryd.underlying22 rfl) rfl rfl rfl ?_
  refine V_y (Y_gtr rfl rfl) rfl rfl rfl ?_
  refine V_to (fun _ _ => rfl) ?_
  refine C_cond rfl (fun hc3 => ?_) (fun hc3 => ?_)
  · rw [if_pos hc3] at hm
    refine C_seq ?_
    refine C_region ?_
    refine V_y (Y_assign rfl) rfl rfl rfl ?_
    refine V_to (fun _ _ => rfl) ?_
    obtain rfl := Option.some.inj hm
    refine C_ret ?_
    try simp only [↓inBlock_ret, ↓then_ret]
    exact retQ rfl (Res.one Tryd.results21 rfl) ⟨rfl, hK.kp⟩
  · rw [if_neg (nt hc3)] at hm
    refine C_skip_to (fun _ _ => rfl) ?_
    refine C_seq ?_
    refine C_seq ?_
    refine C_region ?_
    refine V_y (Y_move rfl) rfl rfl rfl ?_
    refine V_y (Y_lenSl h_l rfl Tryd.underlying22 rfl) rfl rfl rfl ?_
    refine V_y (Y_move rfl) rfl rfl rfl ?_
    refine V_to (fun _ _ => rfl) ?_
    have hn25 := Sl.le h_l
    obtain ⟨o4, ho4, hm⟩ := Option.bind_eq_some_iff.1 hm
    refine C_cutG (ι := (Unit × (Nat → Prop))) (fun ⟨s5, A12⟩ => []) (fun ⟨s5, A12⟩ => fun w' => o4 = .fin s5 ∧ Hp w.heap.size A12 w' ([]) ∧ Tr Dw w.heap.size A w A12 w') ?_ ?_
    · refine C_block ?_
      refine C_range ho4 (fun k7 _ a w' => ∃ i : (Nat → Prop), Has ⟨53, [], none⟩ a ([(0, v_l), (9, v_l), (10, .int .i64 (l.length : Int)), (11, .int .i64 (k7 : Int))]) ∧ Hp w.heap.size i w' ([]) ∧ Tr Dw w.heap.size A w i w') (fun a ha => ⟨A, ha.sub ⟨rfl, rfl, rfl, rfl, trivial⟩, ⟨hH, Tr.refl (Dw := Dw) hA⟩⟩) ?_
      rintro K k7 _ a w15 ⟨A16, ha75, hH17, hr6⟩ hle21 K24 h23
      refine C_of ?_ ha75
      replace h_l := Sl.tr (Dw := Dw) h_l hr6
      replace hK := Tr.trans (Dw := Dw) hK hr6
      replace hB := Nat.le_trans hB hr6.ex.size
      replace hA := hr6.new
      replace hH : Hp w.heap.size A16 w15 ([]) := hH17
      refine C_seq (C_region (V_y (Y_lss rfl rfl) rfl rfl rfl (V_to (fun _ _ => rfl) ?_)))
      refine C_seq ?_
      refine C_cond rfl (fun hc26 => ?_) (fun hc26 => ?_)
      · have hlt22 := lt_of_dec hc26
        obtain ⟨x18, h19, h20⟩ := K24 hlt22
        refine C_skip_to (fun _ _ => rfl) ?_
        refine C_seq ?_
        refine C_block ?_
        refine C_seq ?_
        refine C_region ?_
        refine V_y (Y_move rfl) rfl rfl rfl ?_
        obtain ⟨x27, hx27, h19⟩ := Option.bind_eq_some_iff.1 h19
        refine V_indexAddr h_l hx27 Tryd.underlying22 Tryd.sizeOf37 rfl rfl rfl ?_
        intro b28 o29 h30
        obtain ⟨v31, h33, h32⟩ := El_route_Person h30
        refine V_y (Y_loadA h33 Tryd.isAgg37 Tryd.sizeOf37 rfl) rfl rfl rfl ?_
        refine V_alloc Tryd.zeroValue37 rfl ?_
        intro b34 w35 h36
        refine V_y (Y_assign rfl) rfl rfl rfl ?_
        have h41 : (v31).oneCell' = true := by obtain ⟨_, _, e, _⟩ := Sl.form h32; rw [e]; rfl
        refine V_storeNew h36 Tryd.sizeOf37 rfl rfl rfl rfl (by exact (List.forall_mem_cons.2 ⟨rfl, (List.forall_mem_cons.2 ⟨rfl, (List.forall_mem_cons.2 ⟨rfl, (List.forall_mem_cons.2 ⟨h41, (fun _ h => nomatch h)⟩)⟩)⟩)⟩)) ?_
        intro w37 h38
        have hk43 := h38.kp (Dw := Dw)
        have h42 : El (α := route_Person) A16 w37 b34 0 x27 := h38.el hA ⟨[.int .i64 x27.no], _, rfl, rfl, ⟨[.int .i64 x27.capacity], _, rfl, rfl, ⟨[.int .i64 x27.calendar], _, rfl, rfl, ⟨_, rfl, h32⟩⟩⟩⟩
        have ht44 := Kp.tr (Dw := Dw) hk43 hA hB
        replace hH := Hp.kp (Dw := Dw) hH hk43
        replace h_l := Sl.tr (Dw := Dw) h_l ht44
        replace h30 := El.tr (Dw := Dw) h30 ht44
        replace h32 := Sl.tr (Dw := Dw) h32 ht44
        replace hK := Tr.trans (Dw := Dw) hK ht44
        replace hr6 := Tr.trans (Dw := Dw) hr6 ht44
        replace hB := Nat.le_trans hB ht44.ex.size
        replace hA := ht44.new
        refine V_to (fun _ _ => rfl) ?_
        refine C_seq ?_
        refine C_block ?_
        refine C_seq ?_
        refine C_region ?_
        have h45 := El_route_Person_0 h42
        refine V_y (Y_fieldAddr Tryd.underlying37 rfl Tryd.sizeOf3 (by decide) rfl) rfl rfl rfl ?_
        refine V_y (Y_load (El.int h45) Tryd.isAgg3 rfl) rfl rfl rfl ?_
        refine V_call Tryd.call23 rfl rfl rfl rfl (route_within_c w37 x27.no 1 40) ?_
        rintro _ _ ⟨rfl, rfl⟩
        refine V_y (Y_not rfl) rfl rfl rfl ?_
        refine V_y (Y_assign rfl) rfl rfl rfl ?_
        refine V_to (fun _ _ => rfl) ?_
        refine C_cond rfl (fun hc46 => ?_) (fun hc46 => ?_)
        · rw [if_pos hc46] at h19
          refine C_seq ?_
          refine C_region ?_
          refine V_y (Y_assign rfl) rfl rfl rfl ?_
          refine V_to (fun _ _ => rfl) ?_
          obtain rfl := Option.some.inj h19
          obtain rfl := (h20 : Lp.rt _ = _)
          rw [Lp.andThen_rt] at hm
          obtain rfl := Option.some.inj hm
          refine C_ret ?_
          try simp only [↓inBlock_ret, ↓then_ret]
          exact retQ rfl (Res.one Tryd.results21 rfl) ⟨rfl, hK.kp⟩
        · rw [if_neg (nt hc46)] at h19
          refine C_seq ?_
          refine C_region_q (Dw := Dw) Tryd_mixed (by kernel_rfl) ?_
          refine VQ_y (fun w' hw' => Y_move rfl) rfl rfl rfl ?_
          refine VQ_y (fun w' hw' => Y_gtr rfl rfl) rfl rfl rfl ?_
          refine VQ_y (fun w' hw' => Y_move rfl) rfl rfl rfl ?_
          obtain ⟨s48, hs48, h19⟩ := Option.bind_eq_some_iff.1 h19
          refine VQ_cut 10 (fun _ : Unit => [(0, v_l), (4, .pointer (some ⟨b34, 0, none⟩)), (9, v_l), (10, .int .i64 (l.length : Int)), (11, .int .i64 (k7 : Int)), (34, .bool s48)]) (fun _ => True) ?_ ?_
          · simp only [List.take, List.drop]
            rcases Bool.eq_false_or_eq_true (decide ((0 : Int) < (k7 : Int))) with hc47 | hc47
            · rw [if_pos hc47] at hs48
              refine VQ_ge rfl rfl rfl hc47 ?_
              have h49 := El_route_Person_0 h42
              refine VQ_y (fun w' hw' => Y_fieldAddr Tryd.underlying37 rfl Tryd.sizeOf3 (by decide) rfl) rfl rfl rfl ?_
              refine VQ_ge rfl rfl rfl hc47 ?_
              refine VQ_y (fun w' hw' => Y_load (El.int (El.kp (Dw := Dw) h49 hw')) Tryd.isAgg3 rfl) rfl rfl rfl ?_
              refine VQ_ge rfl rfl rfl hc47 ?_
              refine VQ_y (fun w' hw' => Y_move rfl) rfl rfl rfl ?_
              refine VQ_ge rfl rfl rfl hc47 ?_
              refine VQ_y (fun w' hw' => Y_move rfl) rfl rfl rfl ?_
              refine VQ_ge rfl rfl rfl hc47 ?_
              refine VQ_y (fun w' hw' => Y_subI rfl rfl) rfl rfl rfl ?_
              refine VQ_ge rfl rfl rfl hc47 ?_
              obtain ⟨x50, hx50, hs48⟩ := Option.bind_eq_some_iff.1 hs48
              refine VQ_indexAddr h_l hx50 Tryd.underlying22 Tryd.sizeOf37 rfl rfl rfl ?_
              intro b51 o52 h53
              refine VQ_ge rfl rfl rfl hc47 ?_
              have h54 := El_route_Person_0 h53
              refine VQ_y (fun w' hw' => Y_fieldAddr Tryd.underlying37 rfl Tryd.sizeOf3 (by decide) rfl) rfl rfl rfl ?_
              refine VQ_ge rfl rfl rfl hc47 ?_
              refine VQ_y (fun w' hw' => Y_load (El.int (El.kp (Dw := Dw) h54 hw')) Tryd.isAgg3 rfl) rfl rfl rfl ?_
              refine VQ_ge rfl rfl rfl hc47 ?_
              refine VQ_y (fun w' hw' => Y_leq rfl rfl) rfl rfl rfl ?_
              refine VQ_y (fun _ _ => Y_pick_te rfl hc47 rfl) rfl rfl rfl ?_
              obtain rfl := Option.some.inj hs48
              exact VQ_end fun a ha => ⟨(), ha.sub ⟨rfl, rfl, rfl, rfl, rfl, rfl, trivial⟩, trivial⟩
            · rw [if_neg (nt hc47)] at hs48
              refine VQ_gn rfl rfl rfl hc47 rfl rfl rfl ?_
              refine VQ_gn rfl rfl rfl hc47 rfl rfl rfl ?_
              refine VQ_gn rfl rfl rfl hc47 rfl rfl rfl ?_
              refine VQ_gn rfl rfl rfl hc47 rfl rfl rfl ?_
              refine VQ_gn rfl rfl rfl hc47 rfl rfl rfl ?_
              refine VQ_gn rfl rfl rfl hc47 rfl rfl rfl ?_
              refine VQ_gn rfl rfl rfl hc47 rfl rfl rfl ?_
              refine VQ_gn rfl rfl rfl hc47 rfl rfl rfl ?_
              refine VQ_gn rfl rfl rfl hc47 rfl rfl rfl ?_
              refine VQ_y (fun _ _ => Y_pick_fe rfl hc47 rfl) rfl rfl rfl ?_
              obtain rfl := Option.some.inj hs48
              exact VQ_end fun a ha => ⟨(), ha.sub ⟨rfl, rfl, rfl, rfl, rfl, rfl, trivial⟩, trivial⟩
          simp only [List.take, List.drop]
          rintro _ _
          refine VQ_y (fun w' hw' => Y_assign rfl) rfl rfl rfl ?_
          refine VQ_to (fun _ _ => rfl) (fun w55 hk56 => ?_)
          have ht57 := Kp.tr (Dw := Dw) hk56 hA hB
          replace hH := Hp.kp (Dw := Dw) hH hk56
          replace h_l := Sl.tr (Dw := Dw) h_l ht57
          replace h42 := El.tr (Dw := Dw) h42 ht57
          replace hK := Tr.trans (Dw := Dw) hK ht57
          replace hr6 := Tr.trans (Dw := Dw) hr6 ht57
          replace hB := Nat.le_trans hB ht57.ex.size
          replace hA := ht57.new
          refine C_cond rfl (fun hc58 => ?_) (fun hc58 => ?_)
          · rw [if_pos hc58] at h19
            refine C_seq ?_
            refine C_region ?_
            refine V_y (Y_assign rfl) rfl rfl rfl ?_
            refine V_to (fun _ _ => rfl) ?_
            obtain rfl := Option.some.inj h19
            obtain rfl := (h20 : Lp.rt _ = _)
            rw [Lp.andThen_rt] at hm
            obtain rfl := Option.some.inj hm
            refine C_ret ?_
            try simp only [↓inBlock_ret, ↓then_ret]
            exact retQ rfl (Res.one Tryd.results21 rfl) ⟨rfl, hK.kp⟩
          · rw [if_neg (nt hc58)] at h19
            refine C_seq ?_
            refine C_region ?_
            have h59 := El_route_Person_1 h42
            refine V_y (Y_fieldAddr Tryd.underlying37 rfl Tryd.sizeOf3 (by decide) rfl) rfl rfl rfl ?_
            refine V_y (Y_load (El.int h59) Tryd.isAgg3 rfl) rfl rfl rfl ?_
            refine V_call Tryd.call23 rfl rfl rfl rfl (route_within_c w55 x27.capacity 0 100) ?_
            rintro _ _ ⟨rfl, rfl⟩
            refine V_y (Y_not rfl) rfl rfl rfl ?_
            refine V_y (Y_move rfl) rfl rfl rfl ?_
            refine V_cut 5 (fun _ : Unit => [(0, v_l), (4, .pointer (some ⟨b34, 0, none⟩)), (9, v_l), (10, .int .i64 (l.length : Int)), (11, .int .i64 (k7 : Int)), (45, .bool ((!(route_within x27.capacity 0 100)) || (!(route_within x27.calendar 0 19))))]) (fun _ w' => w55 = w') ?_ ?_
            · simp only [List.take, List.drop]
              rcases Bool.eq_false_or_eq_true (!(route_within x27.capacity 0 100)) with hc60 | hc60
              · refine V_gn rfl rfl rfl hc60 rfl rfl rfl ?_
                refine V_gn rfl rfl rfl hc60 rfl rfl rfl ?_
                refine V_gn rfl rfl rfl hc60 rfl rfl rfl ?_
                refine V_gn rfl rfl rfl hc60 rfl rfl rfl ?_
                refine V_y (Y_pick_te rfl hc60 rfl) rfl rfl rfl ?_
                exact V_end fun a ha => ⟨(), ha.sub ⟨rfl, rfl, rfl, rfl, rfl, (by rw [hc60]; rfl), trivial⟩, rfl⟩
              · refine V_ge rfl rfl rfl hc60 ?_
                have h62 := El_route_Person_2 h42
                refine V_y (Y_fieldAddr Tryd.underlying37 rfl Tryd.sizeOf3 (by decide) rfl) rfl rfl rfl ?_
                refine V_ge rfl rfl rfl hc60 ?_
                refine V_y (Y_load (El.int h62) Tryd.isAgg3 rfl) rfl rfl rfl ?_
                refine V_ge rfl rfl rfl hc60 ?_
                refine V_call Tryd.call23 rfl rfl rfl rfl (route_within_c w55 x27.calendar 0 19) ?_
                rintro _ _ ⟨rfl, rfl⟩
                refine V_ge rfl rfl rfl hc60 ?_
                refine V_y (Y_not rfl) rfl rfl rfl ?_
                refine V_y (Y_pick_fe rfl hc60 rfl) rfl rfl rfl ?_
                exact V_end fun a ha => ⟨(), ha.sub ⟨rfl, rfl, rfl, rfl, rfl, (by rw [hc60]; rfl), trivial⟩, rfl⟩
            simp only [List.take, List.drop]
            rintro _ _ rfl
            refine V_y (Y_assign rfl) rfl rfl rfl ?_
            refine V_to (fun _ _ => rfl) ?_
            refine C_cond rfl (fun hc63 => ?_) (fun hc63 => ?_)
            · rw [if_pos hc63] at h19
              refine C_seq ?_
              refine C_region ?_
              refine V_y (Y_assign rfl) rfl rfl rfl ?_
              refine V_to (fun _ _ => rfl) ?_
              obtain rfl := Option.some.inj h19
              obtain rfl := (h20 : Lp.rt _ = _)
              rw [Lp.andThen_rt] at hm
              obtain rfl := Option.some.inj hm
              refine C_ret ?_
              try simp only [↓inBlock_ret, ↓then_ret]
              exact retQ rfl (Res.one Tryd.results21 rfl) ⟨rfl, hK.kp⟩
            · rw [if_neg (nt hc63)] at h19
              refine C_skip_to (fun _ _ => rfl) ?_
              refine C_seq ?_
              refine C_region ?_
              have h64 := El_route_Person_3 h42
              refine V_y (Y_fieldAddr Tryd.underlying37 rfl Tryd.sizeOf35 (by decide) rfl) rfl rfl rfl ?_
              obtain ⟨v65, h66, h67⟩ := El.list h64
              refine V_y (Y_load h66 Tryd.isAgg35 rfl) rfl rfl rfl ?_
              obtain ⟨x68, hx68, h19⟩ := Option.bind_eq_some_iff.1 h19
              refine V_call Tryd.call34 rfl rfl rfl rfl (route_checkSkills_c (Dw := Dw) w55 hA x27.skills v65 h67 hx68) ?_
              rintro _ w69 ⟨rfl, hk70⟩
              have ht71 := Kp.tr (Dw := Dw) hk70 hA hB
              replace hH := Hp.kp (Dw := Dw) hH hk70
              replace h_l := Sl.tr (Dw := Dw) h_l ht71
              replace h42 := El.tr (Dw := Dw) h42 ht71
              replace h64 := El.tr (Dw := Dw) h64 ht71
              replace h67 := Sl.tr (Dw := Dw) h67 ht71
              replace hK := Tr.trans (Dw := Dw) hK ht71
              replace hr6 := Tr.trans (Dw := Dw) hr6 ht71
              replace hB := Nat.le_trans hB ht71.ex.size
              replace hA := ht71.new
              refine V_y (Y_assign rfl) rfl rfl rfl ?_
              refine V_to (fun _ _ => rfl) ?_
              refine C_seq ?_
              refine C_region ?_
              refine V_y (Y_move rfl) rfl rfl rfl ?_
              refine V_y (Y_neq rfl rfl) rfl rfl rfl ?_
              refine V_to (fun _ _ => rfl) ?_
              refine C_cond rfl (fun hc72 => ?_) (fun hc72 => ?_)
              · rw [if_pos hc72] at h19
                refine C_seq ?_
                refine C_region ?_
                refine V_y (Y_move rfl) rfl rfl rfl ?_
                refine V_y (Y_assign rfl) rfl rfl rfl ?_
                refine V_to (fun _ _ => rfl) ?_
                obtain rfl := Option.some.inj h19
                obtain rfl := (h20 : Lp.rt _ = _)
                rw [Lp.andThen_rt] at hm
                obtain rfl := Option.some.inj hm
                refine C_ret ?_
                try simp only [↓inBlock_ret, ↓then_ret]
                exact retQ rfl (Res.one Tryd.results21 rfl) ⟨rfl, hK.kp⟩
              · rw [if_neg (nt hc72)] at h19
                refine C_skip_to (fun _ _ => rfl) ?_
                refine C_region ?_
                refine V_y (Y_addI rfl rfl) rfl rfl rfl ?_
                refine V_y (Y_move rfl) rfl rfl rfl ?_
                obtain rfl := Option.some.inj h19
                refine V_end (fun a ha73 => ?_)
                exact ⟨(), hlt22, h20, ⟨A16, ha73.sub ⟨rfl, rfl, rfl, (congrArg (fun z => some (Value.int .i64 z)) (w64_succ hlt22 hn25)), trivial⟩, ⟨hH, hr6⟩⟩⟩
      · refine C_exit (fun a ha74 => ?_)
        exact ⟨((), A16), ha74.sub trivial, ⟨(h23 (eq_of_dec hle21 hc26)).symm, hH, hr6⟩⟩
    rintro ⟨s5, A12⟩ w9 ⟨rfl, hH13, hk10⟩ a ha11
    rw [Lp.andThen_fin] at hm
    replace hK := Tr.trans (Dw := Dw) hK hk10
    replace hB := Nat.le_trans hB hk10.ex.size
    replace hA := hk10.new
    replace hH : Hp w.heap.size A12 w9 ([]) := hH13
    refine C_at (n := ⟨53, [], none⟩) (fun _ _ => rfl) ?_ ha11
    refine C_seq ?_
    refine C_region ?_
    refine V_y (Y_assign rfl) rfl rfl rfl ?_
    refine V_to (fun _ _ => rfl) ?_
    obtain rfl := Option.some.inj hm
    refine C_ret ?_
    try simp only [↓inBlock_ret, ↓then_ret]
    exact retQ rfl (Res.one Tryd.results21 rfl) ⟨rfl, hK.kp⟩

set_option maxRecDepth 4000 in
set_option maxHeartbeats 4000000 in
theorem cal_within_c (w : World) (n : Int) (low : Int) (high : Int) : Ret Tryd.prog 37 #[.int .i64 n, .int .i64 low, .int .i64 high] w fun v w' => v = .bool (cal_within n low high) ∧ w = w' := by
  generalize hm : cal_within n low high = r
  unfold cal_within at hm
  refine enter Tryd.func37 rfl Tryd.ntmps37 rfl ?_
  refine C_seq ?_
  refine C_region ?_
  refine V_y (Y_assign rfl) rfl rfl rfl ?_
  refine V_to (fun _ _ => rfl) ?_
  refine C_seq ?_
  refine C_region ?_
  refine V_y (Y_move rfl) rfl rfl rfl ?_
  refine V_y (Y_move rfl) rfl rfl rfl ?_
  refine V_y (Y_geq rfl rfl) rfl rfl rfl ?_
  refine V_y (Y_move rfl) rfl rfl rfl ?_
  refine V_cut 4 (fun _ : Unit => [(14, .bool ((decide (low ≤ n)) && (decide (n ≤ high))))]) (fun _ w' => w = w') ?_ ?_
  · simp only [List.take, List.drop]
    rcases Bool.eq_false_or_eq_true (decide (low ≤ n)) with hc1 | hc1
    · refine V_ge rfl rfl rfl hc1 ?_
      refine V_y (Y_move rfl) rfl rfl rfl ?_
      refine V_ge rfl rfl rfl hc1 ?_
      refine V_y (Y_move rfl) rfl rfl rfl ?_
      refine V_ge rfl rfl rfl hc1 ?_
      refine V_y (Y_leq rfl rfl) rfl rfl rfl ?_
      refine V_y (Y_pick_te rfl hc1 rfl) rfl rfl rfl ?_
      exact V_end fun a ha => ⟨(), ha.sub ⟨(by rw [hc1]; rfl), trivial⟩, rfl⟩
    · refine V_gn rfl rfl rfl hc1 rfl rfl rfl ?_
      refine V_gn rfl rfl rfl hc1 rfl rfl rfl ?_
      refine V_gn rfl rfl rfl hc1 rfl rfl rfl ?_
      refine V_y (Y_pick_fe rfl hc1 rfl) rfl rfl rfl ?_
      exact V_end fun a ha => ⟨(), ha.sub ⟨(by rw [hc1]; rfl), trivial⟩, rfl⟩
  simp only [List.take, List.drop]
  rintro _ _ rfl
  refine V_y (Y_assign rfl) rfl rfl rfl ?_
  refine V_to (fun _ _ => rfl) ?_
  obtain rfl := hm
  refine C_ret ?_
  try simp only [↓inBlock_ret, ↓then_ret]
  exact retQ rfl (Res.one Tryd.results37 rfl) ⟨rfl, rfl⟩

set_option maxRecDepth 4000 in
set_option maxHeartbeats 4000000 in
theorem cal_CheckZone_c (w : World) {A : Nat → Prop} (hA : ∀ b, w.heap.size ≤ b → A b) (z : cal_Zone) (v_z : Value) (h_z : Sl A w v_z z.changes) {r : Int} (hm : cal_CheckZone z = some r) : Ret Tryd.prog 35 #[.agg #[.int .i64 z.offset, v_z]] w fun v w' => v = .int .i64 r ∧ Kp Dw w w' := by
  unfold cal_CheckZone at hm
  refine enter Tryd.func35 rfl Tryd.ntmps35 rfl ?_
  have hA0 := hA
  have hB := Nat.le_refl w.heap.size
  have hK : Tr Dw w.heap.size A w A w := Tr.refl (Dw := Dw) hA
  have hH : Hp w.heap.size A w [] := Hp.nil
  refine C_seq ?_
  refine C_region ?_
  refine V_box rfl rfl ?_
  intro b3 w4 h5
  have hk7 := h5.kp (Dw := Dw)
  have h6 : El (α := cal_Zone) A w4 b3 0 z := h5.el hA ⟨[.int .i64 z.offset], _, rfl, rfl, ⟨_, rfl, h_z⟩⟩
  have ht8 := Kp.tr (Dw := Dw) hk7 hA hB
  replace hH := Hp.kp (Dw := Dw) hH hk7
  replace h_z := Sl.tr (Dw := Dw) h_z ht8
  replace hK := Tr.trans (Dw := Dw) hK ht8
  replace hB := Nat.le_trans hB ht8.ex.size
  replace hA := ht8.new
  refine V_y (Y_assign rfl) rfl rfl rfl ?_
  refine V_to (fun _ _ => rfl) ?_
  refine C_seq ?_
  refine C_seq ?_
  refine C_region ?_
  have h9 := El_cal_Zone_0 h6
  refine V_y (Y_fieldAddr Tryd.underlying42 rfl Tryd.sizeOf3 (by decide) rfl) rfl rfl rfl ?_
  refine V_y (Y_load (El.int h9) Tryd.isAgg3 rfl) rfl rfl rfl ?_
  refine V_call Tryd.call37 rfl rfl rfl rfl (cal_within_c w4 z.offset (-1440) 1440) ?_
  rintro _ _ ⟨rfl, rfl⟩
  refine V_y (Y_not rfl) rfl rfl rfl ?_
  refine V_to (fun _ _ => rfl) ?_
  refine C_cond rfl (fun hc10 => ?_) (fun hc10 => ?_)
  · rw [if_pos hc10] at hm
    refine C_seq ?_
    refine C_region ?_
    refine V_y (Y_assign rfl) rfl rfl rfl ?_
    refine V_to (fun _ _ => rfl) ?_
    obtain rfl := Option.some.inj hm
    refine C_ret ?_
    try simp only [↓inBlock_ret, ↓then_ret]
    exact retQ rfl (Res.one Tryd.results35 rfl) ⟨rfl, hK.kp⟩
  · rw [if_neg (nt hc10)] at hm
    refine C_skip_to (fun _ _ => rfl) ?_
    refine C_seq ?_
    refine C_seq ?_
    refine C_region ?_
    have h11 := El_cal_Zone_1 h6
    refine V_y (Y_fieldAddr Tryd.underlying42 rfl Tryd.sizeOf40 (by decide) rfl) rfl rfl rfl ?_
    obtain ⟨v12, h13, h14⟩ := El.list h11
    refine V_y (Y_load h13 Tryd.isAgg40 rfl) rfl rfl rfl ?_
    refine V_y (Y_lenSl h14 rfl Tryd.underlying40 rfl) rfl rfl rfl ?_
    refine V_y (Y_gtr rfl rfl) rfl rfl rfl ?_
    refine V_to (fun _ _ => rfl) ?_
    refine C_cond rfl (fun hc15 => ?_) (fun hc15 => ?_)
    · rw [if_pos hc15] at hm
      refine C_seq ?_
      refine C_region ?_
      refine V_y (Y_assign rfl) rfl rfl rfl ?_
      refine V_to (fun _ _ => rfl) ?_
      obtain rfl := Option.some.inj hm
      refine C_ret ?_
      try simp only [↓inBlock_ret, ↓then_ret]
      exact retQ rfl (Res.one Tryd.results35 rfl) ⟨rfl, hK.kp⟩
    · rw [if_neg (nt hc15)] at hm
      refine C_skip_to (fun _ _ => rfl) ?_
      refine C_seq ?_
      refine C_region_q (Dw := Dw) Tryd_mixed (by kernel_rfl) ?_
      have h16 := El_cal_Zone_0 h6
      refine VQ_y (fun w' hw' => Y_fieldAddr Tryd.underlying42 rfl Tryd.sizeOf3 (by decide) rfl) rfl rfl rfl ?_
      refine VQ_y (fun w' hw' => Y_load (El.int (El.kp (Dw := Dw) h16 hw')) Tryd.isAgg3 rfl) rfl rfl rfl ?_
      refine VQ_y (fun w' hw' => Y_assign rfl) rfl rfl rfl ?_
      refine VQ_y (fun w' hw' => Y_assign rfl) rfl rfl rfl ?_
      refine VQ_to (fun _ _ => rfl) (fun w17 hk18 => ?_)
      have ht19 := Kp.tr (Dw := Dw) hk18 hA hB
      replace hH := Hp.kp (Dw := Dw) hH hk18
      replace h6 := El.tr (Dw := Dw) h6 ht19
      replace hK := Tr.trans (Dw := Dw) hK ht19
      replace hB := Nat.le_trans hB ht19.ex.size
      replace hA := ht19.new
      refine C_seq ?_
      refine C_seq ?_
      refine C_region ?_
      have h20 := El_cal_Zone_1 h6
      refine V_y (Y_fieldAddr Tryd.underlying42 rfl Tryd.sizeOf40 (by decide) rfl) rfl rfl rfl ?_
      obtain ⟨v21, h22, h23⟩ := El.list h20
      refine V_y (Y_load h22 Tryd.isAgg40 rfl) rfl rfl rfl ?_
      refine V_y (Y_lenSl h23 rfl Tryd.underlying40 rfl) rfl rfl rfl ?_
      refine V_y (Y_move rfl) rfl rfl rfl ?_
      refine V_to (fun _ _ => rfl) ?_
      have hn44 := Sl.le h23
      obtain ⟨o24, ho24, hm⟩ := Option.bind_eq_some_iff.1 hm
      refine C_cutG (ι := ((Int × Int) × (Nat → Prop))) (fun ⟨s25, A31⟩ => []) (fun ⟨s25, A31⟩ => fun w' => o24 = .fin s25 ∧ Hp w.heap.size A31 w' ([]) ∧ Tr Dw w.heap.size A w17 A31 w') ?_ ?_
      · refine C_block ?_
        refine C_range ho24 (fun k27 s33 a w' => ∃ i : (Nat → Prop), Has ⟨50, [], none⟩ a ([(3, .int .i64 s33.1), (4, .int .i64 s33.2), (18, v21), (19, .int .i64 (z.changes.length : Int)), (20, .int .i64 (k27 : Int))]) ∧ Hp w.heap.size i w' ([]) ∧ Tr Dw w.heap.size A w17 i w') (fun a ha => ⟨A, ha.sub ⟨rfl, rfl, rfl, rfl, rfl, trivial⟩, ⟨hH, Tr.refl (Dw := Dw) hA⟩⟩) ?_
        rintro K k27 s33 a w34 ⟨A35, ha75, hH36, hr26⟩ hle40 K43 h42
        refine C_of ?_ ha75
        replace h23 := Sl.tr (Dw := Dw) h23 hr26
        replace hK := Tr.trans (Dw := Dw) hK hr26
        replace hB := Nat.le_trans hB hr26.ex.size
        replace hA := hr26.new
        replace hH : Hp w.heap.size A35 w34 ([]) := hH36
        refine C_seq (C_region (V_y (Y_lss rfl rfl) rfl rfl rfl (V_to (fun _ _ => rfl) ?_)))
        refine C_seq ?_
        refine C_cond rfl (fun hc45 => ?_) (fun hc45 => ?_)
        · have hlt41 := lt_of_dec hc45
          obtain ⟨x37, h38, h39⟩ := K43 hlt41
          refine C_skip_to (fun _ _ => rfl) ?_
          refine C_seq ?_
          refine C_block ?_
          refine C_seq ?_
          refine C_region ?_
          obtain ⟨x46, hx46, h38⟩ := Option.bind_eq_some_iff.1 h38
          refine V_indexAddr h23 hx46 Tryd.underlying40 Tryd.sizeOf94 rfl rfl rfl ?_
          intro b47 o48 h49
          obtain ⟨h50, _⟩ := El_cal_Change h49
          refine V_y (Y_loadA h50 Tryd.isAgg94 Tryd.sizeOf94 rfl) rfl rfl rfl ?_
          refine V_alloc Tryd.zeroValue94 rfl ?_
          intro b51 w52 h53
          refine V_storeNew h53 Tryd.sizeOf94 rfl rfl rfl rfl (by exact (List.forall_mem_cons.2 ⟨rfl, (List.forall_mem_cons.2 ⟨rfl, (fun _ h => nomatch h)⟩)⟩)) ?_
          intro w54 h55
          have hk57 := h55.kp (Dw := Dw)
          have h56 : El (α := cal_Change) A35 w54 b51 0 x46 := h55.el hA ⟨[.int .i64 x46.at_], _, rfl, rfl, rfl⟩
          have ht58 := Kp.tr (Dw := Dw) hk57 hA hB
          replace hH := Hp.kp (Dw := Dw) hH hk57
          replace h23 := Sl.tr (Dw := Dw) h23 ht58
          replace h49 := El.tr (Dw := Dw) h49 ht58
          replace hK := Tr.trans (Dw := Dw) hK ht58
          replace hr26 := Tr.trans (Dw := Dw) hr26 ht58
          replace hB := Nat.le_trans hB ht58.ex.size
          replace hA := ht58.new
          refine V_to (fun _ _ => rfl) ?_
          refine C_seq ?_
          refine C_block ?_
          refine C_seq ?_
          refine C_region ?_
          have h59 := El_cal_Change_0 h56
          refine V_y (Y_fieldAddr Tryd.underlying94 rfl Tryd.sizeOf3 (by decide) rfl) rfl rfl rfl ?_
          refine V_y (Y_load (El.int h59) Tryd.isAgg3 rfl) rfl rfl rfl ?_
          refine V_call Tryd.call37 rfl rfl rfl rfl (cal_within_c w54 x46.at_ 1 3000000) ?_
          rintro _ _ ⟨rfl, rfl⟩
          refine V_y (Y_not rfl) rfl rfl rfl ?_
          refine V_y (Y_move rfl) rfl rfl rfl ?_
          refine V_cut 5 (fun _ : Unit => [(3, .int .i64 s33.1), (4, .int .i64 s33.2), (6, .pointer (some ⟨b51, 0, none⟩)), (18, v21), (19, .int .i64 (z.changes.length : Int)), (20, .int .i64 (k27 : Int)), (34, .bool ((!(cal_within x46.at_ 1 3000000)) || (!(cal_within x46.offset (-1440) 1440))))]) (fun _ w' => w54 = w') ?_ ?_
          · simp only [List.take, List.drop]
            rcases Bool.eq_false_or_eq_true (!(cal_within x46.at_ 1 3000000)) with hc60 | hc60
            · refine V_gn rfl rfl rfl hc60 rfl rfl rfl ?_
              refine V_gn rfl rfl rfl hc60 rfl rfl rfl ?_
              refine V_gn rfl rfl rfl hc60 rfl rfl rfl ?_
              refine V_gn rfl rfl rfl hc60 rfl rfl rfl ?_
              refine V_y (Y_pick_te rfl hc60 rfl) rfl rfl rfl ?_
              exact V_end fun a ha => ⟨(), ha.sub ⟨rfl, rfl, rfl, rfl, rfl, rfl, (by rw [hc60]; rfl), trivial⟩, rfl⟩
            · refine V_ge rfl rfl rfl hc60 ?_
              have h62 := El_cal_Change_1 h56
              refine V_y (Y_fieldAddr Tryd.underlying94 rfl Tryd.sizeOf3 (by decide) rfl) rfl rfl rfl ?_
              refine V_ge rfl rfl rfl hc60 ?_
              refine V_y (Y_load (El.int h62) Tryd.isAgg3 rfl) rfl rfl rfl ?_
              refine V_ge rfl rfl rfl hc60 ?_
              refine V_call Tryd.call37 rfl rfl rfl rfl (cal_within_c w54 x46.offset (-1440) 1440) ?_
              rintro _ _ ⟨rfl, rfl⟩
              refine V_ge rfl rfl rfl hc60 ?_
              refine V_y (Y_not rfl) rfl rfl rfl ?_
              refine V_y (Y_pick_fe rfl hc60 rfl) rfl rfl rfl ?_
              exact V_end fun a ha => ⟨(), ha.sub ⟨rfl, rfl, rfl, rfl, rfl, rfl, (by rw [hc60]; rfl), trivial⟩, rfl⟩
          simp only [List.take, List.drop]
          rintro _ _ rfl
          refine V_y (Y_assign rfl) rfl rfl rfl ?_
          refine V_to (fun _ _ => rfl) ?_
          refine C_cond rfl (fun hc63 => ?_) (fun hc63 => ?_)
          · rw [if_pos hc63] at h38
            refine C_seq ?_
            refine C_region ?_
            refine V_y (Y_assign rfl) rfl rfl rfl ?_
            refine V_to (fun _ _ => rfl) ?_
            obtain rfl := Option.some.inj h38
            obtain rfl := (h39 : Lp.rt _ = _)
            rw [Lp.andThen_rt] at hm
            obtain rfl := Option.some.inj hm
            refine C_ret ?_
            try simp only [↓inBlock_ret, ↓then_ret]
            exact retQ rfl (Res.one Tryd.results35 rfl) ⟨rfl, hK.kp⟩
          · rw [if_neg (nt hc63)] at h38
            refine C_seq ?_
            refine C_region ?_
            have h64 := El_cal_Change_0 h56
            refine V_y (Y_fieldAddr Tryd.underlying94 rfl Tryd.sizeOf3 (by decide) rfl) rfl rfl rfl ?_
            refine V_y (Y_load (El.int h64) Tryd.isAgg3 rfl) rfl rfl rfl ?_
            refine V_y (Y_move rfl) rfl rfl rfl ?_
            refine V_y (Y_leq rfl rfl) rfl rfl rfl ?_
            refine V_y (Y_assign rfl) rfl rfl rfl ?_
            refine V_to (fun _ _ => rfl) ?_
            refine C_cond rfl (fun hc65 => ?_) (fun hc65 => ?_)
            · rw [if_pos hc65] at h38
              refine C_seq ?_
              refine C_region ?_
              refine V_y (Y_assign rfl) rfl rfl rfl ?_
              refine V_to (fun _ _ => rfl) ?_
              obtain rfl := Option.some.inj h38
              obtain rfl := (h39 : Lp.rt _ = _)
              rw [Lp.andThen_rt] at hm
              obtain rfl := Option.some.inj hm
              refine C_ret ?_
              try simp only [↓inBlock_ret, ↓then_ret]
              exact retQ rfl (Res.one Tryd.results35 rfl) ⟨rfl, hK.kp⟩
            · rw [if_neg (nt hc65)] at h38
              refine C_seq ?_
              refine C_region ?_
              have h66 := El_cal_Change_1 h56
              refine V_y (Y_fieldAddr Tryd.underlying94 rfl Tryd.sizeOf3 (by decide) rfl) rfl rfl rfl ?_
              refine V_y (Y_load (El.int h66) Tryd.isAgg3 rfl) rfl rfl rfl ?_
              refine V_y (Y_move rfl) rfl rfl rfl ?_
              refine V_y (Y_eql rfl rfl) rfl rfl rfl ?_
              refine V_y (Y_assign rfl) rfl rfl rfl ?_
              refine V_to (fun _ _ => rfl) ?_
              refine C_cond rfl (fun hc67 => ?_) (fun hc67 => ?_)
              · rw [if_pos hc67] at h38
                refine C_seq ?_
                refine C_region ?_
                refine V_y (Y_assign rfl) rfl rfl rfl ?_
                refine V_to (fun _ _ => rfl) ?_
                obtain rfl := Option.some.inj h38
                obtain rfl := (h39 : Lp.rt _ = _)
                rw [Lp.andThen_rt] at hm
                obtain rfl := Option.some.inj hm
                refine C_ret ?_
                try simp only [↓inBlock_ret, ↓then_ret]
                exact retQ rfl (Res.one Tryd.results35 rfl) ⟨rfl, hK.kp⟩
              · rw [if_neg (nt hc67)] at h38
                refine C_skip_to (fun _ _ => rfl) ?_
                refine C_region_q (Dw := Dw) Tryd_mixed (by kernel_rfl) ?_
                have h68 := El_cal_Change_0 h56
                refine VQ_y (fun w' hw' => Y_fieldAddr Tryd.underlying94 rfl Tryd.sizeOf3 (by decide) rfl) rfl rfl rfl ?_
                refine VQ_y (fun w' hw' => Y_load (El.int (El.kp (Dw := Dw) h68 hw')) Tryd.isAgg3 rfl) rfl rfl rfl ?_
                have h69 := El_cal_Change_1 h56
                refine VQ_y (fun w' hw' => Y_fieldAddr Tryd.underlying94 rfl Tryd.sizeOf3 (by decide) rfl) rfl rfl rfl ?_
                refine VQ_y (fun w' hw' => Y_load (El.int (El.kp (Dw := Dw) h69 hw')) Tryd.isAgg3 rfl) rfl rfl rfl ?_
                refine VQ_y (fun w' hw' => Y_assign rfl) rfl rfl rfl ?_
                refine VQ_y (fun w' hw' => Y_assign rfl) rfl rfl rfl ?_
                refine VQ_to (fun _ _ => rfl) (fun w70 hk71 => ?_)
                have ht72 := Kp.tr (Dw := Dw) hk71 hA hB
                replace hH := Hp.kp (Dw := Dw) hH hk71
                replace h23 := Sl.tr (Dw := Dw) h23 ht72
                replace hK := Tr.trans (Dw := Dw) hK ht72
                replace hr26 := Tr.trans (Dw := Dw) hr26 ht72
                replace hB := Nat.le_trans hB ht72.ex.size
                replace hA := ht72.new
                refine C_region ?_
                refine V_y (Y_addI rfl rfl) rfl rfl rfl ?_
                refine V_y (Y_move rfl) rfl rfl rfl ?_
                obtain rfl := Option.some.inj h38
                refine V_end (fun a ha73 => ?_)
                exact ⟨(x46.at_, x46.offset), hlt41, h39, ⟨A35, ha73.sub ⟨rfl, rfl, rfl, rfl, (congrArg (fun z => some (Value.int .i64 z)) (w64_succ hlt41 hn44)), trivial⟩, ⟨hH, hr26⟩⟩⟩
        · refine C_exit (fun a ha74 => ?_)
          exact ⟨((s33.1, s33.2), A35), ha74.sub trivial, ⟨(h42 (eq_of_dec hle40 hc45)).symm, hH, hr26⟩⟩
      rintro ⟨s25, A31⟩ w28 ⟨rfl, hH32, hk29⟩ a ha30
      rw [Lp.andThen_fin] at hm
      replace hK := Tr.trans (Dw := Dw) hK hk29
      replace hB := Nat.le_trans hB hk29.ex.size
      replace hA := hk29.new
      replace hH : Hp w.heap.size A31 w28 ([]) := hH32
      refine C_at (n := ⟨50, [], none⟩) (fun _ _ => rfl) ?_ ha30
      refine C_seq ?_
      refine C_region ?_
      refine V_y (Y_assign rfl) rfl rfl rfl ?_
      refine V_to (fun _ _ => rfl) ?_
      obtain rfl := Option.some.inj hm
      refine C_ret ?_
      try simp only [↓inBlock_ret, ↓then_ret]
      exact retQ rfl (Res.one Tryd.results35 rfl) ⟨rfl, hK.kp⟩

set_option maxRecDepth 4000 in
set_option maxHeartbeats 4000000 in
theorem cmp_isNaN_int_c (w : World) (x : Int) : Ret Tryd.prog 65 #[.int .i64 x] w fun v w' => v = .bool (cmp_isNaN_int x) ∧ w = w' := by
  generalize hm : cmp_isNaN_int x = r
  unfold cmp_isNaN_int at hm
  refine enter Tryd.func65 rfl Tryd.ntmps65 rfl ?_
  refine C_seq ?_
  refine C_region ?_
  refine V_y (Y_assign rfl) rfl rfl rfl ?_
  refine V_to (fun _ _ => rfl) ?_
  refine C_seq ?_
  refine C_region ?_
  refine V_y (Y_move rfl) rfl rfl rfl ?_
  refine V_y (Y_move rfl) rfl rfl rfl ?_
  refine V_y (Y_neq rfl rfl) rfl rfl rfl ?_
  refine V_y (Y_assign rfl) rfl rfl rfl ?_
  refine V_to (fun _ _ => rfl) ?_
  obtain rfl := hm
  refine C_ret ?_
  try simp only [↓inBlock_ret, ↓then_ret]
  exact retQ rfl (Res.one Tryd.results65 rfl) ⟨rfl, rfl⟩

set_option maxRecDepth 4000 in
set_option maxHeartbeats 4000000 in
theorem cmp_Compare_int_c (w : World) (x : Int) (y : Int) : Ret Tryd.prog 59 #[.int .i64 x, .int .i64 y] w fun v w' => v = .int .i64 (cmp_Compare_int x y) ∧ w = w' := by
  generalize hm : cmp_Compare_int x y = r
  unfold cmp_Compare_int at hm
  refine enter Tryd.func59 rfl Tryd.ntmps59 rfl ?_
  refine C_seq ?_
  refine C_region ?_
  refine V_y (Y_assign rfl) rfl rfl rfl ?_
  refine V_to (fun _ _ => rfl) ?_
  refine C_seq ?_
  refine C_region ?_
  refine V_y (Y_move rfl) rfl rfl rfl ?_
  refine V_call Tryd.call65 rfl rfl rfl rfl (cmp_isNaN_int_c w x) ?_
  rintro _ _ ⟨rfl, rfl⟩
  refine V_y (Y_assign rfl) rfl rfl rfl ?_
  refine V_to (fun _ _ => rfl) ?_
  refine C_seq ?_
  refine C_region ?_
  refine V_y (Y_move rfl) rfl rfl rfl ?_
  refine V_call Tryd.call65 rfl rfl rfl rfl (cmp_isNaN_int_c w y) ?_
  rintro _ _ ⟨rfl, rfl⟩
  refine V_y (Y_assign rfl) rfl rfl rfl ?_
  refine V_to (fun _ _ => rfl) ?_
  refine C_seq ?_
  refine C_seq ?_
  refine C_region ?_
  refine V_y (Y_move rfl) rfl rfl rfl ?_
  refine V_to (fun _ _ => rfl) ?_
  refine C_cond rfl (fun hc1 => ?_) (fun hc1 => ?_)
  · rw [if_pos hc1] at hm
    refine C_seq ?_
    refine C_seq ?_
    refine C_region ?_
    refine V_y (Y_move rfl) rfl rfl rfl ?_
    refine V_to (fun _ _ => rfl) ?_
    refine C_cond rfl (fun hc2 => ?_) (fun hc2 => ?_)
    · rw [if_pos hc2] at hm
      refine C_seq ?_
      refine C_region ?_
      refine V_y (Y_assign rfl) rfl rfl rfl ?_
      refine V_to (fun _ _ => rfl) ?_
      obtain rfl := hm
      refine C_ret ?_
      try simp only [↓inBlock_ret, ↓then_ret]
      exact retQ rfl (Res.one Tryd.results59 rfl) ⟨rfl, rfl⟩
    · rw [if_neg (nt hc2)] at hm
      refine C_skip_to (fun _ _ => rfl) ?_
      refine C_seq ?_
      refine C_region ?_
      refine V_y (Y_assign rfl) rfl rfl rfl ?_
      refine V_to (fun _ _ => rfl) ?_
      obtain rfl := hm
      refine C_ret ?_
      try simp only [↓inBlock_ret, ↓then_ret]
      exact retQ rfl (Res.one Tryd.results59 rfl) ⟨rfl, rfl⟩
  · rw [if_neg (nt hc1)] at hm
    refine C_skip_to (fun _ _ => rfl) ?_
    refine C_seq ?_
    refine C_seq ?_
    refine C_region ?_
    refine V_y (Y_move rfl) rfl rfl rfl ?_
    refine V_to (fun _ _ => rfl) ?_
    refine C_cond rfl (fun hc3 => ?_) (fun hc3 => ?_)
    · rw [if_pos hc3] at hm
      refine C_seq ?_
      refine C_region ?_
      refine V_y (Y_assign rfl) rfl rfl rfl ?_
      refine V_to (fun _ _ => rfl) ?_
      obtain rfl := hm
      refine C_ret ?_
      try simp only [↓inBlock_ret, ↓then_ret]
      exact retQ rfl (Res.one Tryd.results59 rfl) ⟨rfl, rfl⟩
    · rw [if_neg (nt hc3)] at hm
      refine C_skip_to (fun _ _ => rfl) ?_
      refine C_seq ?_
      refine C_seq ?_
      refine C_region ?_
      refine V_y (Y_move rfl) rfl rfl rfl ?_
      refine V_y (Y_move rfl) rfl rfl rfl ?_
      refine V_y (Y_lss rfl rfl) rfl rfl rfl ?_
      refine V_to (fun _ _ => rfl) ?_
      refine C_cond rfl (fun hc4 => ?_) (fun hc4 => ?_)
      · rw [if_pos hc4] at hm
        refine C_seq ?_
        refine C_region ?_
        refine V_y (Y_assign rfl) rfl rfl rfl ?_
        refine V_to (fun _ _ => rfl) ?_
        obtain rfl := hm
        refine C_ret ?_
        try simp only [↓inBlock_ret, ↓then_ret]
        exact retQ rfl (Res.one Tryd.results59 rfl) ⟨rfl, rfl⟩
      · rw [if_neg (nt hc4)] at hm
        refine C_skip_to (fun _ _ => rfl) ?_
        refine C_seq ?_
        refine C_seq ?_
        refine C_region ?_
        refine V_y (Y_move rfl) rfl rfl rfl ?_
        refine V_y (Y_move rfl) rfl rfl rfl ?_
        refine V_y (Y_gtr rfl rfl) rfl rfl rfl ?_
        refine V_to (fun _ _ => rfl) ?_
        refine C_cond rfl (fun hc5 => ?_) (fun hc5 => ?_)
        · rw [if_pos hc5] at hm
          refine C_seq ?_
          refine C_region ?_
          refine V_y (Y_assign rfl) rfl rfl rfl ?_
          refine V_to (fun _ _ => rfl) ?_
          obtain rfl := hm
          refine C_ret ?_
          try simp only [↓inBlock_ret, ↓then_ret]
          exact retQ rfl (Res.one Tryd.results59 rfl) ⟨rfl, rfl⟩
        · rw [if_neg (nt hc5)] at hm
          refine C_skip_to (fun _ _ => rfl) ?_
          refine C_seq ?_
          refine C_region ?_
          refine V_y (Y_assign rfl) rfl rfl rfl ?_
          refine V_to (fun _ _ => rfl) ?_
          obtain rfl := hm
          refine C_ret ?_
          try simp only [↓inBlock_ret, ↓then_ret]
          exact retQ rfl (Res.one Tryd.results59 rfl) ⟨rfl, rfl⟩

set_option maxRecDepth 4000 in
set_option maxHeartbeats 4000000 in
theorem cmp_Or_int_c (w : World) {A : Nat → Prop} (vals : (List Int)) (v_vals : Value) (h_vals : Sl A w v_vals vals) {r : Int} (hm : cmp_Or_int vals = some r) : Ret Tryd.prog 58 #[v_vals] w fun v w' => v = .int .i64 r ∧ w = w' := by
  unfold cmp_Or_int at hm
  refine enter Tryd.func58 rfl Tryd.ntmps58 rfl ?_
  refine C_seq ?_
  refine C_region ?_
  refine V_y (Y_assign rfl) rfl rfl rfl ?_
  refine V_to (fun _ _ => rfl) ?_
  refine C_seq ?_
  refine C_region ?_
  refine V_y (Y_assign rfl) rfl rfl rfl ?_
  refine V_to (fun _ _ => rfl) ?_
  refine C_seq ?_
  refine C_seq ?_
  refine C_region ?_
  refine V_y (Y_move rfl) rfl rfl rfl ?_
  refine V_y (Y_lenSl h_vals rfl Tryd.underlying24 rfl) rfl rfl rfl ?_
  refine V_y (Y_move rfl) rfl rfl rfl ?_
  refine V_to (fun _ _ => rfl) ?_
  have hn19 := Sl.le h_vals
  obtain ⟨o3, ho3, hm⟩ := Option.bind_eq_some_iff.1 hm
  refine C_cutG (ι := Unit) (fun (s4 : Unit) => [(3, .int .i64 0)]) (fun (s4 : Unit) => fun w' => o3 = .fin s4 ∧ w = w') ?_ ?_
  · refine C_block ?_
    refine C_range ho3 (fun k6 _ a w' => ∃ i : Unit, Has ⟨18, [], none⟩ a ([(3, .int .i64 0), (6, v_vals), (7, .int .i64 (vals.length : Int)), (8, .int .i64 (k6 : Int))]) ∧ w = w') (fun a ha => ⟨(), ha.sub ⟨rfl, rfl, rfl, rfl, trivial⟩, rfl⟩) ?_
    rintro K k6 _ a _ ⟨_, ha28, rfl⟩ hle15 K18 h17
    refine C_of ?_ ha28
    refine C_seq (C_region (V_y (Y_lss rfl rfl) rfl rfl rfl (V_to (fun _ _ => rfl) ?_)))
    refine C_seq ?_
    refine C_cond rfl (fun hc20 => ?_) (fun hc20 => ?_)
    · have hlt16 := lt_of_dec hc20
      obtain ⟨x12, h13, h14⟩ := K18 hlt16
      refine C_skip_to (fun _ _ => rfl) ?_
      refine C_seq ?_
      refine C_block ?_
      refine C_seq ?_
      refine C_region ?_
      obtain ⟨x21, hx21, h13⟩ := Option.bind_eq_some_iff.1 h13
      refine V_indexAddr h_vals hx21 Tryd.underlying24 Tryd.sizeOf3 rfl rfl rfl ?_
      intro b22 o23 h24
      refine V_y (Y_load (El.int h24) Tryd.isAgg3 rfl) rfl rfl rfl ?_
      refine V_y (Y_assign rfl) rfl rfl rfl ?_
      refine V_to (fun _ _ => rfl) ?_
      refine C_seq ?_
      refine C_region ?_
      refine V_y (Y_move rfl) rfl rfl rfl ?_
      refine V_y (Y_move rfl) rfl rfl rfl ?_
      refine V_y (Y_neq rfl rfl) rfl rfl rfl ?_
      refine V_to (fun _ _ => rfl) ?_
      refine C_cond rfl (fun hc25 => ?_) (fun hc25 => ?_)
      · rw [if_pos hc25] at h13
        refine C_seq ?_
        refine C_region ?_
        refine V_y (Y_move rfl) rfl rfl rfl ?_
        refine V_y (Y_assign rfl) rfl rfl rfl ?_
        refine V_to (fun _ _ => rfl) ?_
        obtain rfl := Option.some.inj h13
        obtain rfl := (h14 : Lp.rt _ = _)
        rw [Lp.andThen_rt] at hm
        obtain rfl := Option.some.inj hm
        refine C_ret ?_
        try simp only [↓inBlock_ret, ↓then_ret]
        exact retQ rfl (Res.one Tryd.results58 rfl) ⟨rfl, rfl⟩
      · rw [if_neg (nt hc25)] at h13
        refine C_skip_to (fun _ _ => rfl) ?_
        refine C_region ?_
        refine V_y (Y_addI rfl rfl) rfl rfl rfl ?_
        refine V_y (Y_move rfl) rfl rfl rfl ?_
        obtain rfl := Option.some.inj h13
        refine V_end (fun a ha26 => ?_)
        exact ⟨(), hlt16, h14, ⟨(), ha26.sub ⟨rfl, rfl, rfl, (congrArg (fun z => some (Value.int .i64 z)) (w64_succ hlt16 hn19)), trivial⟩, rfl⟩⟩
    · refine C_exit (fun a ha27 => ?_)
      exact ⟨(), ha27.sub ⟨rfl, trivial⟩, ⟨(h17 (eq_of_dec hle15 hc20)).symm, rfl⟩⟩
  rintro s4 _ ⟨rfl, rfl⟩ a ha9
  rw [Lp.andThen_fin] at hm
  refine C_at (n := ⟨18, [], none⟩) (fun _ _ => rfl) ?_ ha9
  refine C_seq ?_
  refine C_region ?_
  refine V_y (Y_move rfl) rfl rfl rfl ?_
  refine V_y (Y_assign rfl) rfl rfl rfl ?_
  refine V_to (fun _ _ => rfl) ?_
  obtain rfl := Option.some.inj hm
  refine C_ret ?_
  try simp only [↓inBlock_ret, ↓then_ret]
  exact retQ rfl (Res.one Tryd.results58 rfl) ⟨rfl, rfl⟩

set_option maxRecDepth 4000 in
set_option maxHeartbeats 4000000 in
theorem cal_after_c (w : World) {A : Nat → Prop} (hA : ∀ b, w.heap.size ≤ b → A b) (a_ : cal_Shift) (b : cal_Shift) {r : Bool} (hm : cal_after a_ b = some r) : Ret Tryd.prog 46 #[.agg #[.int .i64 a_.day, .int .i64 a_.from_, .int .i64 a_.to_], .agg #[.int .i64 b.day, .int .i64 b.from_, .int .i64 b.to_]] w fun v w' => v = .bool r ∧ Kp Dw w w' := by
  unfold cal_after at hm
  refine enter Tryd.func46 rfl Tryd.ntmps46 rfl ?_
  have hA0 := hA
  have hB := Nat.le_refl w.heap.size
  have hK : Tr Dw w.heap.size A w A w := Tr.refl (Dw := Dw) hA
  have hH : Hp w.heap.size A w [] := Hp.nil
  refine C_seq ?_
  refine C_region ?_
  refine V_box rfl rfl ?_
  intro b1 w2 h3
  have hk5 := h3.kp (Dw := Dw)
  have h4 : El (α := cal_Shift) A w2 b1 0 a_ := h3.el hA ⟨[.int .i64 a_.day], _, rfl, rfl, ⟨[.int .i64 a_.from_], _, rfl, rfl, rfl⟩⟩
  have ht6 := Kp.tr (Dw := Dw) hk5 hA hB
  replace hH := Hp.kp (Dw := Dw) hH hk5
  replace hK := Tr.trans (Dw := Dw) hK ht6
  replace hB := Nat.le_trans hB ht6.ex.size
  replace hA := ht6.new
  refine V_box rfl rfl ?_
  intro b7 w9 h10
  have hk12 := h10.kp (Dw := Dw)
  have h11 : El (α := cal_Shift) A w9 b7 0 b := h10.el hA ⟨[.int .i64 b.day], _, rfl, rfl, ⟨[.int .i64 b.from_], _, rfl, rfl, rfl⟩⟩
  have ht13 := Kp.tr (Dw := Dw) hk12 hA hB
  replace hH := Hp.kp (Dw := Dw) hH hk12
  replace h4 := El.tr (Dw := Dw) h4 ht13
  replace hK := Tr.trans (Dw := Dw) hK ht13
  replace hB := Nat.le_trans hB ht13.ex.size
  replace hA := ht13.new
  refine V_y (Y_assign rfl) rfl rfl rfl ?_
  refine V_to (fun _ _ => rfl) ?_
  refine C_seq ?_
  refine C_region_qt (Dw := Dw) 15 Tryd_mixed (by kernel_rfl) ?_
  simp only [List.take, List.drop]
  have h14 := El_cal_Shift_0 h4
  refine VQ_y (fun w' hw' => Y_fieldAddr Tryd.underlying89 rfl Tryd.sizeOf3 (by decide) rfl) rfl rfl rfl ?_
  refine VQ_y (fun w' hw' => Y_load (El.int (El.kp (Dw := Dw) h14 hw')) Tryd.isAgg3 rfl) rfl rfl rfl ?_
  have h15 := El_cal_Shift_0 h11
  refine VQ_y (fun w' hw' => Y_fieldAddr Tryd.underlying89 rfl Tryd.sizeOf3 (by decide) rfl) rfl rfl rfl ?_
  refine VQ_y (fun w' hw' => Y_load (El.int (El.kp (Dw := Dw) h15 hw')) Tryd.isAgg3 rfl) rfl rfl rfl ?_
  refine VQ_call (.int .i64 (cmp_Compare_int a_.day b.day)) Tryd.call59 rfl rfl rfl rfl (fun w' hw' => (cmp_Compare_int_c w' a_.day b.day).mono (fun _ _ h => ⟨h.1, h.2 ▸ hw'⟩)) ?_
  have h16 := El_cal_Shift_1 h4
  refine VQ_y (fun w' hw' => Y_fieldAddr Tryd.underlying89 rfl Tryd.sizeOf3 (by decide) rfl) rfl rfl rfl ?_
  refine VQ_y (fun w' hw' => Y_load (El.int (El.kp (Dw := Dw) h16 hw')) Tryd.isAgg3 rfl) rfl rfl rfl ?_
  have h17 := El_cal_Shift_1 h11
  refine VQ_y (fun w' hw' => Y_fieldAddr Tryd.underlying89 rfl Tryd.sizeOf3 (by decide) rfl) rfl rfl rfl ?_
  refine VQ_y (fun w' hw' => Y_load (El.int (El.kp (Dw := Dw) h17 hw')) Tryd.isAgg3 rfl) rfl rfl rfl ?_
  refine VQ_call (.int .i64 (cmp_Compare_int a_.from_ b.from_)) Tryd.call59 rfl rfl rfl rfl (fun w' hw' => (cmp_Compare_int_c w' a_.from_ b.from_).mono (fun _ _ h => ⟨h.1, h.2 ▸ hw'⟩)) ?_
  have h18 := El_cal_Shift_2 h4
  refine VQ_y (fun w' hw' => Y_fieldAddr Tryd.underlying89 rfl Tryd.sizeOf3 (by decide) rfl) rfl rfl rfl ?_
  refine VQ_y (fun w' hw' => Y_load (El.int (El.kp (Dw := Dw) h18 hw')) Tryd.isAgg3 rfl) rfl rfl rfl ?_
  have h19 := El_cal_Shift_2 h11
  refine VQ_y (fun w' hw' => Y_fieldAddr Tryd.underlying89 rfl Tryd.sizeOf3 (by decide) rfl) rfl rfl rfl ?_
  refine VQ_y (fun w' hw' => Y_load (El.int (El.kp (Dw := Dw) h19 hw')) Tryd.isAgg3 rfl) rfl rfl rfl ?_
  refine VQ_call (.int .i64 (cmp_Compare_int a_.to_ b.to_)) Tryd.call59 rfl rfl rfl rfl (fun w' hw' => (cmp_Compare_int_c w' a_.to_ b.to_).mono (fun _ _ h => ⟨h.1, h.2 ▸ hw'⟩)) ?_
  refine VQ_tail (fun w20 hk21 => ?_)
  try simp only [List.take, List.drop]
  have ht22 := Kp.tr (Dw := Dw) hk21 hA hB
  replace hH := Hp.kp (Dw := Dw) hH hk21
  replace h4 := El.tr (Dw := Dw) h4 ht22
  replace h11 := El.tr (Dw := Dw) h11 ht22
  replace h14 := El.tr (Dw := Dw) h14 ht22
  replace h15 := El.tr (Dw := Dw) h15 ht22
  replace h16 := El.tr (Dw := Dw) h16 ht22
  replace h17 := El.tr (Dw := Dw) h17 ht22
  replace h18 := El.tr (Dw := Dw) h18 ht22
  replace h19 := El.tr (Dw := Dw) h19 ht22
  replace hK := Tr.trans (Dw := Dw) hK ht22
  replace hB := Nat.le_trans hB ht22.ex.size
  replace hA := ht22.new
  refine V_buildSlice (Dw := Dw) (cells := #[.int .i64 (cmp_Compare_int a_.day b.day), .int .i64 (cmp_Compare_int a_.from_ b.from_), .int .i64 (cmp_Compare_int a_.to_ b.to_)]) (l := ([(cmp_Compare_int a_.day b.day), (cmp_Compare_int a_.from_ b.from_), (cmp_Compare_int a_.to_ b.to_)] : List Int)) (len := 3) Tryd.underlying24 Tryd.sizeOf3 Tryd.zeroValue3 rfl (by generalize ((cmp_Compare_int a_.from_ b.from_) : Int) = z27; generalize ((cmp_Compare_int a_.day b.day) : Int) = z28; generalize ((cmp_Compare_int a_.to_ b.to_) : Int) = z29; kernel_rfl) (show (3 * 1 : Nat) ≠ 0 by decide) (show (3 * 1 : Nat) ≤ 2 ^ 24 by decide) hA ⟨[.int .i64 (cmp_Compare_int a_.day b.day)], _, rfl, rfl, ⟨[.int .i64 (cmp_Compare_int a_.from_ b.from_)], _, rfl, rfl, ⟨[.int .i64 (cmp_Compare_int a_.to_ b.to_)], _, rfl, rfl, rfl⟩⟩⟩ rfl rfl ?_
  intro v23 w24 hk26 h25
  have ht30 := Kp.tr (Dw := Dw) hk26 hA hB
  replace hH := Hp.kp (Dw := Dw) hH hk26
  replace h4 := El.tr (Dw := Dw) h4 ht30
  replace h11 := El.tr (Dw := Dw) h11 ht30
  replace h14 := El.tr (Dw := Dw) h14 ht30
  replace h15 := El.tr (Dw := Dw) h15 ht30
  replace h16 := El.tr (Dw := Dw) h16 ht30
  replace h17 := El.tr (Dw := Dw) h17 ht30
  replace h18 := El.tr (Dw := Dw) h18 ht30
  replace h19 := El.tr (Dw := Dw) h19 ht30
  replace hK := Tr.trans (Dw := Dw) hK ht30
  replace hB := Nat.le_trans hB ht30.ex.size
  replace hA := ht30.new
  obtain ⟨x31, hx31, hm⟩ := Option.bind_eq_some_iff.1 hm
  refine V_call Tryd.call58 rfl rfl rfl rfl (cmp_Or_int_c w24 ([(cmp_Compare_int a_.day b.day), (cmp_Compare_int a_.from_ b.from_), (cmp_Compare_int a_.to_ b.to_)] : List Int) v23 h25 hx31) ?_
  rintro _ _ ⟨rfl, rfl⟩
  refine V_y (Y_gtr rfl rfl) rfl rfl rfl ?_
  refine V_y (Y_assign rfl) rfl rfl rfl ?_
  refine V_to (fun _ _ => rfl) ?_
  obtain rfl := Option.some.inj hm
  refine C_ret ?_
  try simp only [↓inBlock_ret, ↓then_ret]
  exact retQ rfl (Res.one Tryd.results46 rfl) ⟨rfl, hK.kp⟩

set_option maxRecDepth 4000 in
set_option maxHeartbeats 4000000 in
theorem cal_checkShifts_c (w : World) {A : Nat → Prop} (hA : ∀ b, w.heap.size ≤ b → A b) (l : (List cal_Shift)) (v_l : Value) (h_l : Sl A w v_l l) (dated : Bool) {r : Int} (hm : cal_checkShifts l dated = some r) : Ret Tryd.prog 36 #[v_l, .bool dated] w fun v w' => v = .int .i64 r ∧ Kp Dw w w' := by
  unfold cal_checkShifts at hm
  refine enter Tryd.func36 rfl Tryd.ntmps36 rfl ?_
  have hA0 := hA
  have hB := Nat.le_refl w.heap.size
  have hK : Tr Dw w.heap.size A w A w := Tr.refl (Dw := Dw) hA
  have hH : Hp w.heap.size A w [] := Hp.nil
  refine C_seq ?_
  refine C_region ?_
  refine V_y (Y_assign rfl) rfl rfl rfl ?_
  refine V_to (fun _ _ => rfl) ?_
  refine C_seq ?_
  refine C_seq ?_
  refine C_region ?_
  refine V_y (Y_move rfl) rfl rfl rfl ?_
  refine V_y (Y_lenSl h_l rfl Tryd.underlying43 rfl) rfl rfl rfl ?_
  refine V_y (Y_move rfl) rfl rfl rfl ?_
  refine V_to (fun _ _ => rfl) ?_
  have hn23 := Sl.le h_l
  obtain ⟨o3, ho3, hm⟩ := Option.bind_eq_some_iff.1 hm
  refine C_cutG (ι := (Unit × (Nat → Prop))) (fun ⟨s4, A10⟩ => []) (fun ⟨s4, A10⟩ => fun w' => o3 = .fin s4 ∧ Hp w.heap.size A10 w' ([]) ∧ Tr Dw w.heap.size A w A10 w') ?_ ?_
  · refine C_block ?_
    refine C_range ho3 (fun k6 _ a w' => ∃ i : (Nat → Prop), Has ⟨58, [], none⟩ a ([(0, v_l), (1, .bool dated), (7, v_l), (8, .int .i64 (l.length : Int)), (9, .int .i64 (k6 : Int))]) ∧ Hp w.heap.size i w' ([]) ∧ Tr Dw w.heap.size A w i w') (fun a ha => ⟨A, ha.sub ⟨rfl, rfl, rfl, rfl, rfl, trivial⟩, ⟨hH, Tr.refl (Dw := Dw) hA⟩⟩) ?_
    rintro K k6 _ a w13 ⟨A14, ha71, hH15, hr5⟩ hle19 K22 h21
    refine C_of ?_ ha71
    replace h_l := Sl.tr (Dw := Dw) h_l hr5
    replace hK := Tr.trans (Dw := Dw) hK hr5
    replace hB := Nat.le_trans hB hr5.ex.size
    replace hA := hr5.new
    replace hH : Hp w.heap.size A14 w13 ([]) := hH15
    refine C_seq (C_region (V_y (Y_lss rfl rfl) rfl rfl rfl (V_to (fun _ _ => rfl) ?_)))
    refine C_seq ?_
    refine C_cond rfl (fun hc24 => ?_) (fun hc24 => ?_)
    · have hlt20 := lt_of_dec hc24
      obtain ⟨x16, h17, h18⟩ := K22 hlt20
      refine C_skip_to (fun _ _ => rfl) ?_
      refine C_seq ?_
      refine C_block ?_
      refine C_seq ?_
      refine C_region ?_
      refine V_y (Y_move rfl) rfl rfl rfl ?_
      obtain ⟨x25, hx25, h17⟩ := Option.bind_eq_some_iff.1 h17
      refine V_indexAddr h_l hx25 Tryd.underlying43 Tryd.sizeOf89 rfl rfl rfl ?_
      intro b26 o27 h28
      obtain ⟨h29, _⟩ := El_cal_Shift h28
      refine V_y (Y_loadA h29 Tryd.isAgg89 Tryd.sizeOf89 rfl) rfl rfl rfl ?_
      refine V_alloc Tryd.zeroValue89 rfl ?_
      intro b30 w31 h32
      refine V_y (Y_assign rfl) rfl rfl rfl ?_
      refine V_storeNew h32 Tryd.sizeOf89 rfl rfl rfl rfl (by exact (List.forall_mem_cons.2 ⟨rfl, (List.forall_mem_cons.2 ⟨rfl, (List.forall_mem_cons.2 ⟨rfl, (fun _ h => nomatch h)⟩)⟩)⟩)) ?_
      intro w33 h34
      have hk36 := h34.kp (Dw := Dw)
      have h35 : El (α := cal_Shift) A14 w33 b30 0 x25 := h34.el hA ⟨[.int .i64 x25.day], _, rfl, rfl, ⟨[.int .i64 x25.from_], _, rfl, rfl, rfl⟩⟩
      have ht37 := Kp.tr (Dw := Dw) hk36 hA hB
      replace hH := Hp.kp (Dw := Dw) hH hk36
      replace h_l := Sl.tr (Dw := Dw) h_l ht37
      replace h28 := El.tr (Dw := Dw) h28 ht37
      replace hK := Tr.trans (Dw := Dw) hK ht37
      replace hr5 := Tr.trans (Dw := Dw) hr5 ht37
      replace hB := Nat.le_trans hB ht37.ex.size
      replace hA := ht37.new
      refine V_to (fun _ _ => rfl) ?_
      refine C_seq ?_
      refine C_seq ?_
      refine C_region ?_
      refine V_y (Y_move rfl) rfl rfl rfl ?_
      refine V_y (Y_move rfl) rfl rfl rfl ?_
      refine V_cut 4 (fun _ : Unit => [(0, v_l), (1, .bool dated), (5, .int .i64 (k6 : Int)), (6, .pointer (some ⟨b30, 0, none⟩)), (7, v_l), (8, .int .i64 (l.length : Int)), (9, .int .i64 (k6 : Int)), (19, .bool (dated && (x25.day != 0)))]) (fun _ w' => w33 = w') ?_ ?_
      · simp only [List.take, List.drop]
        rcases Bool.eq_false_or_eq_true (dated) with hc38 | hc38
        · refine V_ge rfl rfl rfl hc38 ?_
          have h40 := El_cal_Shift_0 h35
          refine V_y (Y_fieldAddr Tryd.underlying89 rfl Tryd.sizeOf3 (by decide) rfl) rfl rfl rfl ?_
          refine V_ge rfl rfl rfl hc38 ?_
          refine V_y (Y_load (El.int h40) Tryd.isAgg3 rfl) rfl rfl rfl ?_
          refine V_ge rfl rfl rfl hc38 ?_
          refine V_y (Y_neq rfl rfl) rfl rfl rfl ?_
          refine V_y (Y_pick_te rfl hc38 rfl) rfl rfl rfl ?_
          exact V_end fun a ha => ⟨(), ha.sub ⟨rfl, rfl, rfl, rfl, rfl, rfl, rfl, (by rw [hc38]; rfl), trivial⟩, rfl⟩
        · refine V_gn rfl rfl rfl hc38 rfl rfl rfl ?_
          refine V_gn rfl rfl rfl hc38 rfl rfl rfl ?_
          refine V_gn rfl rfl rfl hc38 rfl rfl rfl ?_
          refine V_y (Y_pick_fe rfl hc38 rfl) rfl rfl rfl ?_
          exact V_end fun a ha => ⟨(), ha.sub ⟨rfl, rfl, rfl, rfl, rfl, rfl, rfl, (by rw [hc38]; rfl), trivial⟩, rfl⟩
      simp only [List.take, List.drop]
      rintro _ _ rfl
      refine V_to (fun _ _ => rfl) ?_
      refine C_cond rfl (fun hc41 => ?_) (fun hc41 => ?_)
      · rw [if_pos hc41] at h17
        refine C_seq ?_
        refine C_region ?_
        refine V_y (Y_assign rfl) rfl rfl rfl ?_
        refine V_to (fun _ _ => rfl) ?_
        obtain rfl := Option.some.inj h17
        obtain rfl := (h18 : Lp.rt _ = _)
        rw [Lp.andThen_rt] at hm
        obtain rfl := Option.some.inj hm
        refine C_ret ?_
        try simp only [↓inBlock_ret, ↓then_ret]
        exact retQ rfl (Res.one Tryd.results36 rfl) ⟨rfl, hK.kp⟩
      · rw [if_neg (nt hc41)] at h17
        refine C_skip_to (fun _ _ => rfl) ?_
        refine C_seq ?_
        refine C_seq ?_
        refine C_region ?_
        have h42 := El_cal_Shift_0 h35
        refine V_y (Y_fieldAddr Tryd.underlying89 rfl Tryd.sizeOf3 (by decide) rfl) rfl rfl rfl ?_
        refine V_y (Y_load (El.int h42) Tryd.isAgg3 rfl) rfl rfl rfl ?_
        refine V_call Tryd.call37 rfl rfl rfl rfl (cal_within_c w33 x25.day 0 6) ?_
        rintro _ _ ⟨rfl, rfl⟩
        refine V_y (Y_not rfl) rfl rfl rfl ?_
        refine V_y (Y_move rfl) rfl rfl rfl ?_
        refine V_cut 5 (fun _ : Unit => [(0, v_l), (1, .bool dated), (5, .int .i64 (k6 : Int)), (6, .pointer (some ⟨b30, 0, none⟩)), (7, v_l), (8, .int .i64 (l.length : Int)), (9, .int .i64 (k6 : Int)), (29, .bool ((!(cal_within x25.day 0 6)) || (!(cal_within x25.from_ 0 1439))))]) (fun _ w' => w33 = w') ?_ ?_
        · simp only [List.take, List.drop]
          rcases Bool.eq_false_or_eq_true (!(cal_within x25.day 0 6)) with hc43 | hc43
          · refine V_gn rfl rfl rfl hc43 rfl rfl rfl ?_
            refine V_gn rfl rfl rfl hc43 rfl rfl rfl ?_
            refine V_gn rfl rfl rfl hc43 rfl rfl rfl ?_
            refine V_gn rfl rfl rfl hc43 rfl rfl rfl ?_
            refine V_y (Y_pick_te rfl hc43 rfl) rfl rfl rfl ?_
            exact V_end fun a ha => ⟨(), ha.sub ⟨rfl, rfl, rfl, rfl, rfl, rfl, rfl, (by rw [hc43]; rfl), trivial⟩, rfl⟩
          · refine V_ge rfl rfl rfl hc43 ?_
            have h45 := El_cal_Shift_1 h35
            refine V_y (Y_fieldAddr Tryd.underlying89 rfl Tryd.sizeOf3 (by decide) rfl) rfl rfl rfl ?_
            refine V_ge rfl rfl rfl hc43 ?_
            refine V_y (Y_load (El.int h45) Tryd.isAgg3 rfl) rfl rfl rfl ?_
            refine V_ge rfl rfl rfl hc43 ?_
            refine V_call Tryd.call37 rfl rfl rfl rfl (cal_within_c w33 x25.from_ 0 1439) ?_
            rintro _ _ ⟨rfl, rfl⟩
            refine V_ge rfl rfl rfl hc43 ?_
            refine V_y (Y_not rfl) rfl rfl rfl ?_
            refine V_y (Y_pick_fe rfl hc43 rfl) rfl rfl rfl ?_
            exact V_end fun a ha => ⟨(), ha.sub ⟨rfl, rfl, rfl, rfl, rfl, rfl, rfl, (by rw [hc43]; rfl), trivial⟩, rfl⟩
        simp only [List.take, List.drop]
        rintro _ _ rfl
        refine V_y (Y_move rfl) rfl rfl rfl ?_
        refine V_cut 6 (fun _ : Unit => [(0, v_l), (1, .bool dated), (5, .int .i64 (k6 : Int)), (6, .pointer (some ⟨b30, 0, none⟩)), (7, v_l), (8, .int .i64 (l.length : Int)), (9, .int .i64 (k6 : Int)), (36, .bool (((!(cal_within x25.day 0 6)) || (!(cal_within x25.from_ 0 1439))) || (decide (x25.to_ ≤ x25.from_))))]) (fun _ w' => w33 = w') ?_ ?_
        · simp only [List.take, List.drop]
          rcases Bool.eq_false_or_eq_true (((!(cal_within x25.day 0 6)) || (!(cal_within x25.from_ 0 1439)))) with hc46 | hc46
          · refine V_gn rfl rfl rfl hc46 rfl rfl rfl ?_
            refine V_gn rfl rfl rfl hc46 rfl rfl rfl ?_
            refine V_gn rfl rfl rfl hc46 rfl rfl rfl ?_
            refine V_gn rfl rfl rfl hc46 rfl rfl rfl ?_
            refine V_gn rfl rfl rfl hc46 rfl rfl rfl ?_
            refine V_y (Y_pick_te rfl hc46 rfl) rfl rfl rfl ?_
            exact V_end fun a ha => ⟨(), ha.sub ⟨rfl, rfl, rfl, rfl, rfl, rfl, rfl, (by rw [hc46]; rfl), trivial⟩, rfl⟩
          · refine V_ge rfl rfl rfl hc46 ?_
            have h48 := El_cal_Shift_2 h35
            refine V_y (Y_fieldAddr Tryd.underlying89 rfl Tryd.sizeOf3 (by decide) rfl) rfl rfl rfl ?_
            refine V_ge rfl rfl rfl hc46 ?_
            refine V_y (Y_load (El.int h48) Tryd.isAgg3 rfl) rfl rfl rfl ?_
            refine V_ge rfl rfl rfl hc46 ?_
            have h49 := El_cal_Shift_1 h35
            refine V_y (Y_fieldAddr Tryd.underlying89 rfl Tryd.sizeOf3 (by decide) rfl) rfl rfl rfl ?_
            refine V_ge rfl rfl rfl hc46 ?_
            refine V_y (Y_load (El.int h49) Tryd.isAgg3 rfl) rfl rfl rfl ?_
            refine V_ge rfl rfl rfl hc46 ?_
            refine V_y (Y_leq rfl rfl) rfl rfl rfl ?_
            refine V_y (Y_pick_fe rfl hc46 rfl) rfl rfl rfl ?_
            exact V_end fun a ha => ⟨(), ha.sub ⟨rfl, rfl, rfl, rfl, rfl, rfl, rfl, (by rw [hc46]; rfl), trivial⟩, rfl⟩
        simp only [List.take, List.drop]
        rintro _ _ rfl
        refine V_y (Y_move rfl) rfl rfl rfl ?_
        refine V_cut 7 (fun _ : Unit => [(0, v_l), (1, .bool dated), (5, .int .i64 (k6 : Int)), (6, .pointer (some ⟨b30, 0, none⟩)), (7, v_l), (8, .int .i64 (l.length : Int)), (9, .int .i64 (k6 : Int)), (44, .bool ((((!(cal_within x25.day 0 6)) || (!(cal_within x25.from_ 0 1439))) || (decide (x25.to_ ≤ x25.from_))) || (decide ((w64 (x25.from_ + 1440)) < x25.to_))))]) (fun _ w' => w33 = w') ?_ ?_
        · simp only [List.take, List.drop]
          rcases Bool.eq_false_or_eq_true ((((!(cal_within x25.day 0 6)) || (!(cal_within x25.from_ 0 1439))) || (decide (x25.to_ ≤ x25.from_)))) with hc50 | hc50
          · refine V_gn rfl rfl rfl hc50 rfl rfl rfl ?_
            refine V_gn rfl rfl rfl hc50 rfl rfl rfl ?_
            refine V_gn rfl rfl rfl hc50 rfl rfl rfl ?_
            refine V_gn rfl rfl rfl hc50 rfl rfl rfl ?_
            refine V_gn rfl rfl rfl hc50 rfl rfl rfl ?_
            refine V_gn rfl rfl rfl hc50 rfl rfl rfl ?_
            refine V_y (Y_pick_te rfl hc50 rfl) rfl rfl rfl ?_
            exact V_end fun a ha => ⟨(), ha.sub ⟨rfl, rfl, rfl, rfl, rfl, rfl, rfl, (by rw [hc50]; rfl), trivial⟩, rfl⟩
          · refine V_ge rfl rfl rfl hc50 ?_
            have h52 := El_cal_Shift_2 h35
            refine V_y (Y_fieldAddr Tryd.underlying89 rfl Tryd.sizeOf3 (by decide) rfl) rfl rfl rfl ?_
            refine V_ge rfl rfl rfl hc50 ?_
            refine V_y (Y_load (El.int h52) Tryd.isAgg3 rfl) rfl rfl rfl ?_
            refine V_ge rfl rfl rfl hc50 ?_
            have h53 := El_cal_Shift_1 h35
            refine V_y (Y_fieldAddr Tryd.underlying89 rfl Tryd.sizeOf3 (by decide) rfl) rfl rfl rfl ?_
            refine V_ge rfl rfl rfl hc50 ?_
            refine V_y (Y_load (El.int h53) Tryd.isAgg3 rfl) rfl rfl rfl ?_
            refine V_ge rfl rfl rfl hc50 ?_
            refine V_y (Y_addI rfl rfl) rfl rfl rfl ?_
            refine V_ge rfl rfl rfl hc50 ?_
            refine V_y (Y_gtr rfl rfl) rfl rfl rfl ?_
            refine V_y (Y_pick_fe rfl hc50 rfl) rfl rfl rfl ?_
            exact V_end fun a ha => ⟨(), ha.sub ⟨rfl, rfl, rfl, rfl, rfl, rfl, rfl, (by rw [hc50]; rfl), trivial⟩, rfl⟩
        simp only [List.take, List.drop]
        rintro _ _ rfl
        refine V_to (fun _ _ => rfl) ?_
        refine C_cond rfl (fun hc54 => ?_) (fun hc54 => ?_)
        · rw [if_pos hc54] at h17
          refine C_seq ?_
          refine C_region ?_
          refine V_y (Y_assign rfl) rfl rfl rfl ?_
          refine V_to (fun _ _ => rfl) ?_
          obtain rfl := Option.some.inj h17
          obtain rfl := (h18 : Lp.rt _ = _)
          rw [Lp.andThen_rt] at hm
          obtain rfl := Option.some.inj hm
          refine C_ret ?_
          try simp only [↓inBlock_ret, ↓then_ret]
          exact retQ rfl (Res.one Tryd.results36 rfl) ⟨rfl, hK.kp⟩
        · rw [if_neg (nt hc54)] at h17
          refine C_skip_to (fun _ _ => rfl) ?_
          refine C_seq ?_
          refine C_region_q (Dw := Dw) Tryd_mixed (by kernel_rfl) ?_
          refine VQ_y (fun w' hw' => Y_move rfl) rfl rfl rfl ?_
          refine VQ_y (fun w' hw' => Y_gtr rfl rfl) rfl rfl rfl ?_
          refine VQ_y (fun w' hw' => Y_move rfl) rfl rfl rfl ?_
          obtain ⟨s56, hs56, h17⟩ := Option.bind_eq_some_iff.1 h17
          refine VQ_cut 9 (fun _ : Unit => [(0, v_l), (1, .bool dated), (7, v_l), (8, .int .i64 (l.length : Int)), (9, .int .i64 (k6 : Int)), (56, .bool s56)]) (fun _ => True) ?_ ?_
          · simp only [List.take, List.drop]
            rcases Bool.eq_false_or_eq_true (decide ((0 : Int) < (k6 : Int))) with hc55 | hc55
            · rw [if_pos hc55] at hs56
              refine VQ_ge rfl rfl rfl hc55 ?_
              obtain ⟨h57, _⟩ := El_cal_Shift h35
              refine VQ_y (fun w' hw' => Y_loadA (At.kp (Dw := Dw) h57 hw' h35.2.1) Tryd.isAgg89 Tryd.sizeOf89 rfl) rfl rfl rfl ?_
              refine VQ_ge rfl rfl rfl hc55 ?_
              refine VQ_y (fun w' hw' => Y_move rfl) rfl rfl rfl ?_
              refine VQ_ge rfl rfl rfl hc55 ?_
              refine VQ_y (fun w' hw' => Y_move rfl) rfl rfl rfl ?_
              refine VQ_ge rfl rfl rfl hc55 ?_
              refine VQ_y (fun w' hw' => Y_subI rfl rfl) rfl rfl rfl ?_
              refine VQ_ge rfl rfl rfl hc55 ?_
              obtain ⟨x58, hx58, hs56⟩ := Option.bind_eq_some_iff.1 hs56
              refine VQ_indexAddr h_l hx58 Tryd.underlying43 Tryd.sizeOf89 rfl rfl rfl ?_
              intro b59 o60 h61
              refine VQ_ge rfl rfl rfl hc55 ?_
              obtain ⟨h62, _⟩ := El_cal_Shift h61
              refine VQ_y (fun w' hw' => Y_loadA (At.kp (Dw := Dw) h62 hw' h61.2.1) Tryd.isAgg89 Tryd.sizeOf89 rfl) rfl rfl rfl ?_
              refine VQ_ge rfl rfl rfl hc55 ?_
              obtain ⟨x63, hx63, hs56⟩ := Option.bind_eq_some_iff.1 hs56
              refine VQ_call (.bool x63) Tryd.call46 rfl rfl rfl rfl (fun w' hw' => (cal_after_c (Dw := Dw) w' (fun b hb => hA b (Nat.le_trans hw'.size hb)) x25 x58 hx63).mono (fun _ _ h => ⟨h.1, Kp.trans (Dw := Dw) hw' h.2⟩)) ?_
              refine VQ_ge rfl rfl rfl hc55 ?_
              refine VQ_y (fun w' hw' => Y_not rfl) rfl rfl rfl ?_
              refine VQ_y (fun _ _ => Y_pick_te rfl hc55 rfl) rfl rfl rfl ?_
              obtain rfl := Option.some.inj hs56
              exact VQ_end fun a ha => ⟨(), ha.sub ⟨rfl, rfl, rfl, rfl, rfl, rfl, trivial⟩, trivial⟩
            · rw [if_neg (nt hc55)] at hs56
              refine VQ_gn rfl rfl rfl hc55 rfl rfl rfl ?_
              refine VQ_gn rfl rfl rfl hc55 rfl rfl rfl ?_
              refine VQ_gn rfl rfl rfl hc55 rfl rfl rfl ?_
              refine VQ_gn rfl rfl rfl hc55 rfl rfl rfl ?_
              refine VQ_gn rfl rfl rfl hc55 rfl rfl rfl ?_
              refine VQ_gn rfl rfl rfl hc55 rfl rfl rfl ?_
              refine VQ_gn rfl rfl rfl hc55 rfl rfl rfl ?_
              refine VQ_gn rfl rfl rfl hc55 rfl rfl rfl ?_
              refine VQ_y (fun _ _ => Y_pick_fe rfl hc55 rfl) rfl rfl rfl ?_
              obtain rfl := Option.some.inj hs56
              exact VQ_end fun a ha => ⟨(), ha.sub ⟨rfl, rfl, rfl, rfl, rfl, rfl, trivial⟩, trivial⟩
          simp only [List.take, List.drop]
          rintro _ _
          refine VQ_to (fun _ _ => rfl) (fun w65 hk66 => ?_)
          have ht67 := Kp.tr (Dw := Dw) hk66 hA hB
          replace hH := Hp.kp (Dw := Dw) hH hk66
          replace h_l := Sl.tr (Dw := Dw) h_l ht67
          replace hK := Tr.trans (Dw := Dw) hK ht67
          replace hr5 := Tr.trans (Dw := Dw) hr5 ht67
          replace hB := Nat.le_trans hB ht67.ex.size
          replace hA := ht67.new
          refine C_cond rfl (fun hc68 => ?_) (fun hc68 => ?_)
          · rw [if_pos hc68] at h17
            refine C_seq ?_
            refine C_region ?_
            refine V_y (Y_assign rfl) rfl rfl rfl ?_
            refine V_to (fun _ _ => rfl) ?_
            obtain rfl := Option.some.inj h17
            obtain rfl := (h18 : Lp.rt _ = _)
            rw [Lp.andThen_rt] at hm
            obtain rfl := Option.some.inj hm
            refine C_ret ?_
            try simp only [↓inBlock_ret, ↓then_ret]
            exact retQ rfl (Res.one Tryd.results36 rfl) ⟨rfl, hK.kp⟩
          · rw [if_neg (nt hc68)] at h17
            refine C_skip_to (fun _ _ => rfl) ?_
            refine C_region ?_
            refine V_y (Y_addI rfl rfl) rfl rfl rfl ?_
            refine V_y (Y_move rfl) rfl rfl rfl ?_
            obtain rfl := Option.some.inj h17
            refine V_end (fun a ha69 => ?_)
            exact ⟨(), hlt20, h18, ⟨A14, ha69.sub ⟨rfl, rfl, rfl, rfl, (congrArg (fun z => some (Value.int .i64 z)) (w64_succ hlt20 hn23)), trivial⟩, ⟨hH, hr5⟩⟩⟩
    · refine C_exit (fun a ha70 => ?_)
      exact ⟨((), A14), ha70.sub trivial, ⟨(h21 (eq_of_dec hle19 hc24)).symm, hH, hr5⟩⟩
  rintro ⟨s4, A10⟩ w7 ⟨rfl, hH11, hk8⟩ a ha9
  rw [Lp.andThen_fin] at hm
  replace hK := Tr.trans (Dw := Dw) hK hk8
  replace hB := Nat.le_trans hB hk8.ex.size
  replace hA := hk8.new
  replace hH : Hp w.heap.size A10 w7 ([]) := hH11
  refine C_at (n := ⟨58, [], none⟩) (fun _ _ => rfl) ?_ ha9
  refine C_seq ?_
  refine C_region ?_
  refine V_y (Y_assign rfl) rfl rfl rfl ?_
  refine V_to (fun _ _ => rfl) ?_
  obtain rfl := Option.some.inj hm
  refine C_ret ?_
  try simp only [↓inBlock_ret, ↓then_ret]
  exact retQ rfl (Res.one Tryd.results36 rfl) ⟨rfl, hK.kp⟩

set_option maxRecDepth 4000 in
set_option maxHeartbeats 4000000 in
theorem cal_CheckCalendar_c (w : World) {A : Nat → Prop} (hA : ∀ b, w.heap.size ≤ b → A b) (c : cal_Calendar) (v_c0 : Value) (h_c0 : Sl A w v_c0 c.zone.changes) (v_c1 : Value) (h_c1 : Sl A w v_c1 c.week) (v_c2 : Value) (h_c2 : Sl A w v_c2 c.specials) {r : Int} (hm : cal_CheckCalendar c = some r) : Ret Tryd.prog 22 #[.agg #[.int .i64 c.zone.offset, v_c0, v_c1, v_c2]] w fun v w' => v = .int .i64 r ∧ Kp Dw w w' := by
  unfold cal_CheckCalendar at hm
  refine enter Tryd.func22 rfl Tryd.ntmps22 rfl ?_
  have hA0 := hA
  have hB := Nat.le_refl w.heap.size
  have hK : Tr Dw w.heap.size A w A w := Tr.refl (Dw := Dw) hA
  have hH : Hp w.heap.size A w [] := Hp.nil
  refine C_seq ?_
  refine C_region ?_
  refine V_box rfl rfl ?_
  intro b7 w9 h10
  have hk12 := h10.kp (Dw := Dw)
  have h11 : El (α := cal_Calendar) A w9 b7 0 c := h10.el hA ⟨[.int .i64 c.zone.offset, v_c0], _, rfl, ⟨[.int .i64 c.zone.offset], _, rfl, rfl, ⟨_, rfl, h_c0⟩⟩, ⟨[v_c1], _, rfl, ⟨_, rfl, h_c1⟩, ⟨_, rfl, h_c2⟩⟩⟩
  have ht13 := Kp.tr (Dw := Dw) hk12 hA hB
  replace hH := Hp.kp (Dw := Dw) hH hk12
  replace h_c0 := Sl.tr (Dw := Dw) h_c0 ht13
  replace h_c1 := Sl.tr (Dw := Dw) h_c1 ht13
  replace h_c2 := Sl.tr (Dw := Dw) h_c2 ht13
  replace hK := Tr.trans (Dw := Dw) hK ht13
  replace hB := Nat.le_trans hB ht13.ex.size
  replace hA := ht13.new
  refine V_y (Y_assign rfl) rfl rfl rfl ?_
  refine V_to (fun _ _ => rfl) ?_
  refine C_seq ?_
  refine C_seq ?_
  refine C_region ?_
  have h14 := El_cal_Calendar_0 h11
  refine V_y (Y_fieldAddr Tryd.underlying46 rfl Tryd.sizeOf42 (by decide) rfl) rfl rfl rfl ?_
  obtain ⟨v15, h17, h16⟩ := El_cal_Zone h14
  refine V_y (Y_loadA h17 Tryd.isAgg42 Tryd.sizeOf42 rfl) rfl rfl rfl ?_
  obtain ⟨x18, hx18, hm⟩ := Option.bind_eq_some_iff.1 hm
  refine V_call Tryd.call35 rfl rfl rfl rfl (cal_CheckZone_c (Dw := Dw) w9 hA c.zone v15 h16 hx18) ?_
  rintro _ w19 ⟨rfl, hk20⟩
  have ht21 := Kp.tr (Dw := Dw) hk20 hA hB
  replace hH := Hp.kp (Dw := Dw) hH hk20
  replace h11 := El.tr (Dw := Dw) h11 ht21
  replace h14 := El.tr (Dw := Dw) h14 ht21
  replace h16 := Sl.tr (Dw := Dw) h16 ht21
  replace hK := Tr.trans (Dw := Dw) hK ht21
  replace hB := Nat.le_trans hB ht21.ex.size
  replace hA := ht21.new
  refine V_y (Y_assign rfl) rfl rfl rfl ?_
  refine V_to (fun _ _ => rfl) ?_
  refine C_seq ?_
  refine C_region ?_
  refine V_y (Y_move rfl) rfl rfl rfl ?_
  refine V_y (Y_neq rfl rfl) rfl rfl rfl ?_
  refine V_to (fun _ _ => rfl) ?_
  refine C_cond rfl (fun hc22 => ?_) (fun hc22 => ?_)
  · rw [if_pos hc22] at hm
    refine C_seq ?_
    refine C_region ?_
    refine V_y (Y_move rfl) rfl rfl rfl ?_
    refine V_y (Y_assign rfl) rfl rfl rfl ?_
    refine V_to (fun _ _ => rfl) ?_
    obtain rfl := Option.some.inj hm
    refine C_ret ?_
    try simp only [↓inBlock_ret, ↓then_ret]
    exact retQ rfl (Res.one Tryd.results22 rfl) ⟨rfl, hK.kp⟩
  · rw [if_neg (nt hc22)] at hm
    refine C_skip_to (fun _ _ => rfl) ?_
    refine C_seq ?_
    refine C_seq ?_
    refine C_region ?_
    have h23 := El_cal_Calendar_1 h11
    refine V_y (Y_fieldAddr Tryd.underlying46 rfl Tryd.sizeOf43 (by decide) rfl) rfl rfl rfl ?_
    obtain ⟨v24, h25, h26⟩ := El.list h23
    refine V_y (Y_load h25 Tryd.isAgg43 rfl) rfl rfl rfl ?_
    refine V_y (Y_lenSl h26 rfl Tryd.underlying43 rfl) rfl rfl rfl ?_
    refine V_y (Y_gtr rfl rfl) rfl rfl rfl ?_
    refine V_y (Y_move rfl) rfl rfl rfl ?_
    refine V_cut 5 (fun _ : Unit => [(1, .pointer (some ⟨b7, 0, none⟩)), (23, .bool ((decide ((60 : Int) < (c.week.length : Int))) || (decide ((200 : Int) < (c.specials.length : Int)))))]) (fun _ w' => w19 = w') ?_ ?_
    · simp only [List.take, List.drop]
      rcases Bool.eq_false_or_eq_true (decide ((60 : Int) < (c.week.length : Int))) with hc27 | hc27
      · refine V_gn rfl rfl rfl hc27 rfl rfl rfl ?_
        refine V_gn rfl rfl rfl hc27 rfl rfl rfl ?_
        refine V_gn rfl rfl rfl hc27 rfl rfl rfl ?_
        refine V_gn rfl rfl rfl hc27 rfl rfl rfl ?_
        refine V_y (Y_pick_te rfl hc27 rfl) rfl rfl rfl ?_
        exact V_end fun a ha => ⟨(), ha.sub ⟨rfl, (by rw [hc27]; rfl), trivial⟩, rfl⟩
      · refine V_ge rfl rfl rfl hc27 ?_
        have h29 := El_cal_Calendar_2 h11
        refine V_y (Y_fieldAddr Tryd.underlying46 rfl Tryd.sizeOf44 (by decide) rfl) rfl rfl rfl ?_
        refine V_ge rfl rfl rfl hc27 ?_
        obtain ⟨v30, h31, h32⟩ := El.list h29
        refine V_y (Y_load h31 Tryd.isAgg44 rfl) rfl rfl rfl ?_
        refine V_ge rfl rfl rfl hc27 ?_
        refine V_y (Y_lenSl h32 rfl Tryd.underlying44 rfl) rfl rfl rfl ?_
        refine V_ge rfl rfl rfl hc27 ?_
        refine V_y (Y_gtr rfl rfl) rfl rfl rfl ?_
        refine V_y (Y_pick_fe rfl hc27 rfl) rfl rfl rfl ?_
        exact V_end fun a ha => ⟨(), ha.sub ⟨rfl, (by rw [hc27]; rfl), trivial⟩, rfl⟩
    simp only [List.take, List.drop]
    rintro _ _ rfl
    refine V_to (fun _ _ => rfl) ?_
    refine C_cond rfl (fun hc33 => ?_) (fun hc33 => ?_)
    · rw [if_pos hc33] at hm
      refine C_seq ?_
      refine C_region ?_
      refine V_y (Y_assign rfl) rfl rfl rfl ?_
      refine V_to (fun _ _ => rfl) ?_
      obtain rfl := Option.some.inj hm
      refine C_ret ?_
      try simp only [↓inBlock_ret, ↓then_ret]
      exact retQ rfl (Res.one Tryd.results22 rfl) ⟨rfl, hK.kp⟩
    · rw [if_neg (nt hc33)] at hm
      refine C_skip_to (fun _ _ => rfl) ?_
      refine C_seq ?_
      refine C_seq ?_
      refine C_region ?_
      have h34 := El_cal_Calendar_1 h11
      refine V_y (Y_fieldAddr Tryd.underlying46 rfl Tryd.sizeOf43 (by decide) rfl) rfl rfl rfl ?_
      obtain ⟨v35, h36, h37⟩ := El.list h34
      refine V_y (Y_load h36 Tryd.isAgg43 rfl) rfl rfl rfl ?_
      obtain ⟨x38, hx38, hm⟩ := Option.bind_eq_some_iff.1 hm
      refine V_call Tryd.call36 rfl rfl rfl rfl (cal_checkShifts_c (Dw := Dw) w19 hA c.week v35 h37 false hx38) ?_
      rintro _ w39 ⟨rfl, hk40⟩
      have ht41 := Kp.tr (Dw := Dw) hk40 hA hB
      replace hH := Hp.kp (Dw := Dw) hH hk40
      replace h11 := El.tr (Dw := Dw) h11 ht41
      replace h34 := El.tr (Dw := Dw) h34 ht41
      replace h37 := Sl.tr (Dw := Dw) h37 ht41
      replace hK := Tr.trans (Dw := Dw) hK ht41
      replace hB := Nat.le_trans hB ht41.ex.size
      replace hA := ht41.new
      refine V_y (Y_assign rfl) rfl rfl rfl ?_
      refine V_to (fun _ _ => rfl) ?_
      refine C_seq ?_
      refine C_region ?_
      refine V_y (Y_move rfl) rfl rfl rfl ?_
      refine V_y (Y_neq rfl rfl) rfl rfl rfl ?_
      refine V_to (fun _ _ => rfl) ?_
      refine C_cond rfl (fun hc42 => ?_) (fun hc42 => ?_)
      · rw [if_pos hc42] at hm
        refine C_seq ?_
        refine C_region ?_
        refine V_y (Y_move rfl) rfl rfl rfl ?_
        refine V_y (Y_assign rfl) rfl rfl rfl ?_
        refine V_to (fun _ _ => rfl) ?_
        obtain rfl := Option.some.inj hm
        refine C_ret ?_
        try simp only [↓inBlock_ret, ↓then_ret]
        exact retQ rfl (Res.one Tryd.results22 rfl) ⟨rfl, hK.kp⟩
      · rw [if_neg (nt hc42)] at hm
        refine C_skip_to (fun _ _ => rfl) ?_
        refine C_seq ?_
        refine C_seq ?_
        refine C_region ?_
        have h43 := El_cal_Calendar_2 h11
        refine V_y (Y_fieldAddr Tryd.underlying46 rfl Tryd.sizeOf44 (by decide) rfl) rfl rfl rfl ?_
        obtain ⟨v44, h45, h46⟩ := El.list h43
        refine V_y (Y_load h45 Tryd.isAgg44 rfl) rfl rfl rfl ?_
        refine V_y (Y_lenSl h46 rfl Tryd.underlying44 rfl) rfl rfl rfl ?_
        refine V_y (Y_move rfl) rfl rfl rfl ?_
        refine V_to (fun _ _ => rfl) ?_
        have hn67 := Sl.le h46
        obtain ⟨o47, ho47, hm⟩ := Option.bind_eq_some_iff.1 hm
        refine C_cutG (ι := (Unit × (Nat → Prop))) (fun ⟨s48, A54⟩ => []) (fun ⟨s48, A54⟩ => fun w' => o47 = .fin s48 ∧ Hp w.heap.size A54 w' ([]) ∧ Tr Dw w.heap.size A w39 A54 w') ?_ ?_
        · refine C_block ?_
          refine C_range ho47 (fun k50 _ a w' => ∃ i : (Nat → Prop), Has ⟨70, [], none⟩ a ([(1, .pointer (some ⟨b7, 0, none⟩)), (31, v44), (32, .int .i64 (c.specials.length : Int)), (33, .int .i64 (k50 : Int))]) ∧ Hp w.heap.size i w' ([]) ∧ Tr Dw w.heap.size A w39 i w') (fun a ha => ⟨A, ha.sub ⟨rfl, rfl, rfl, rfl, trivial⟩, ⟨hH, Tr.refl (Dw := Dw) hA⟩⟩) ?_
          rintro K k50 _ a w57 ⟨A58, ha121, hH59, hr49⟩ hle63 K66 h65
          refine C_of ?_ ha121
          replace h11 := El.tr (Dw := Dw) h11 hr49
          replace h46 := Sl.tr (Dw := Dw) h46 hr49
          replace hK := Tr.trans (Dw := Dw) hK hr49
          replace hB := Nat.le_trans hB hr49.ex.size
          replace hA := hr49.new
          replace hH : Hp w.heap.size A58 w57 ([]) := hH59
          refine C_seq (C_region (V_y (Y_lss rfl rfl) rfl rfl rfl (V_to (fun _ _ => rfl) ?_)))
          refine C_seq ?_
          refine C_cond rfl (fun hc68 => ?_) (fun hc68 => ?_)
          · have hlt64 := lt_of_dec hc68
            obtain ⟨x60, h61, h62⟩ := K66 hlt64
            refine C_skip_to (fun _ _ => rfl) ?_
            refine C_seq ?_
            refine C_block ?_
            refine C_seq ?_
            refine C_region ?_
            refine V_y (Y_move rfl) rfl rfl rfl ?_
            obtain ⟨x69, hx69, h61⟩ := Option.bind_eq_some_iff.1 h61
            refine V_indexAddr h46 hx69 Tryd.underlying44 Tryd.sizeOf77 rfl rfl rfl ?_
            intro b70 o71 h72
            obtain ⟨v73, h75, h74⟩ := El_cal_Special h72
            refine V_y (Y_loadA h75 Tryd.isAgg77 Tryd.sizeOf77 rfl) rfl rfl rfl ?_
            refine V_alloc Tryd.zeroValue77 rfl ?_
            intro b76 w77 h78
            refine V_y (Y_assign rfl) rfl rfl rfl ?_
            have h83 : (v73).oneCell' = true := by obtain ⟨_, _, e, _⟩ := Sl.form h74; rw [e]; rfl
            refine V_storeNew h78 Tryd.sizeOf77 rfl rfl rfl rfl (by exact (List.forall_mem_cons.2 ⟨rfl, (List.forall_mem_cons.2 ⟨h83, (fun _ h => nomatch h)⟩)⟩)) ?_
            intro w79 h80
            have hk85 := h80.kp (Dw := Dw)
            have h84 : El (α := cal_Special) A58 w79 b76 0 x69 := h80.el hA ⟨[.int .i64 x69.day], _, rfl, rfl, ⟨_, rfl, h74⟩⟩
            have ht86 := Kp.tr (Dw := Dw) hk85 hA hB
            replace hH := Hp.kp (Dw := Dw) hH hk85
            replace h11 := El.tr (Dw := Dw) h11 ht86
            replace h46 := Sl.tr (Dw := Dw) h46 ht86
            replace h72 := El.tr (Dw := Dw) h72 ht86
            replace h74 := Sl.tr (Dw := Dw) h74 ht86
            replace hK := Tr.trans (Dw := Dw) hK ht86
            replace hr49 := Tr.trans (Dw := Dw) hr49 ht86
            replace hB := Nat.le_trans hB ht86.ex.size
            replace hA := ht86.new
            refine V_to (fun _ _ => rfl) ?_
            refine C_seq ?_
            refine C_block ?_
            refine C_seq ?_
            refine C_region ?_
            have h87 := El_cal_Special_0 h84
            refine V_y (Y_fieldAddr Tryd.underlying77 rfl Tryd.sizeOf3 (by decide) rfl) rfl rfl rfl ?_
            refine V_y (Y_load (El.int h87) Tryd.isAgg3 rfl) rfl rfl rfl ?_
            refine V_call Tryd.call37 rfl rfl rfl rfl (cal_within_c w79 x69.day (-1) 2084) ?_
            rintro _ _ ⟨rfl, rfl⟩
            refine V_y (Y_not rfl) rfl rfl rfl ?_
            refine V_y (Y_assign rfl) rfl rfl rfl ?_
            refine V_to (fun _ _ => rfl) ?_
            refine C_cond rfl (fun hc88 => ?_) (fun hc88 => ?_)
            · rw [if_pos hc88] at h61
              refine C_seq ?_
              refine C_region ?_
              refine V_y (Y_assign rfl) rfl rfl rfl ?_
              refine V_to (fun _ _ => rfl) ?_
              obtain rfl := Option.some.inj h61
              obtain rfl := (h62 : Lp.rt _ = _)
              rw [Lp.andThen_rt] at hm
              obtain rfl := Option.some.inj hm
              refine C_ret ?_
              try simp only [↓inBlock_ret, ↓then_ret]
              exact retQ rfl (Res.one Tryd.results22 rfl) ⟨rfl, hK.kp⟩
            · rw [if_neg (nt hc88)] at h61
              refine C_seq ?_
              refine C_region_q (Dw := Dw) Tryd_mixed (by kernel_rfl) ?_
              refine VQ_y (fun w' hw' => Y_move rfl) rfl rfl rfl ?_
              refine VQ_y (fun w' hw' => Y_gtr rfl rfl) rfl rfl rfl ?_
              refine VQ_y (fun w' hw' => Y_move rfl) rfl rfl rfl ?_
              obtain ⟨s90, hs90, h61⟩ := Option.bind_eq_some_iff.1 h61
              refine VQ_cut 11 (fun _ : Unit => [(1, .pointer (some ⟨b7, 0, none⟩)), (6, .pointer (some ⟨b76, 0, none⟩)), (31, v44), (32, .int .i64 (c.specials.length : Int)), (33, .int .i64 (k50 : Int)), (57, .bool s90)]) (fun _ => True) ?_ ?_
              · simp only [List.take, List.drop]
                rcases Bool.eq_false_or_eq_true (decide ((0 : Int) < (k50 : Int))) with hc89 | hc89
                · rw [if_pos hc89] at hs90
                  refine VQ_ge rfl rfl rfl hc89 ?_
                  have h91 := El_cal_Special_0 h84
                  refine VQ_y (fun w' hw' => Y_fieldAddr Tryd.underlying77 rfl Tryd.sizeOf3 (by decide) rfl) rfl rfl rfl ?_
                  refine VQ_ge rfl rfl rfl hc89 ?_
                  refine VQ_y (fun w' hw' => Y_load (El.int (El.kp (Dw := Dw) h91 hw')) Tryd.isAgg3 rfl) rfl rfl rfl ?_
                  refine VQ_ge rfl rfl rfl hc89 ?_
                  have h92 := El_cal_Calendar_2 h11
                  refine VQ_y (fun w' hw' => Y_fieldAddr Tryd.underlying46 rfl Tryd.sizeOf44 (by decide) rfl) rfl rfl rfl ?_
                  refine VQ_ge rfl rfl rfl hc89 ?_
                  obtain ⟨v93, h94, h95⟩ := El.list h92
                  refine VQ_y (fun w' hw' => Y_load ((World.cell?_of_block (hw'.block _ (World.block_lt_of_cell? _ _ h94))).trans h94) Tryd.isAgg44 rfl) rfl rfl rfl ?_
                  refine VQ_ge rfl rfl rfl hc89 ?_
                  refine VQ_y (fun w' hw' => Y_move rfl) rfl rfl rfl ?_
                  refine VQ_ge rfl rfl rfl hc89 ?_
                  refine VQ_y (fun w' hw' => Y_subI rfl rfl) rfl rfl rfl ?_
                  refine VQ_ge rfl rfl rfl hc89 ?_
                  obtain ⟨x96, hx96, hs90⟩ := Option.bind_eq_some_iff.1 hs90
                  refine VQ_indexAddr h95 hx96 Tryd.underlying44 Tryd.sizeOf77 rfl rfl rfl ?_
                  intro b97 o98 h99
                  refine VQ_ge rfl rfl rfl hc89 ?_
                  have h100 := El_cal_Special_0 h99
                  refine VQ_y (fun w' hw' => Y_fieldAddr Tryd.underlying77 rfl Tryd.sizeOf3 (by decide) rfl) rfl rfl rfl ?_
                  refine VQ_ge rfl rfl rfl hc89 ?_
                  refine VQ_y (fun w' hw' => Y_load (El.int (El.kp (Dw := Dw) h100 hw')) Tryd.isAgg3 rfl) rfl rfl rfl ?_
                  refine VQ_ge rfl rfl rfl hc89 ?_
                  refine VQ_y (fun w' hw' => Y_leq rfl rfl) rfl rfl rfl ?_
                  refine VQ_y (fun _ _ => Y_pick_te rfl hc89 rfl) rfl rfl rfl ?_
                  obtain rfl := Option.some.inj hs90
                  exact VQ_end fun a ha => ⟨(), ha.sub ⟨rfl, rfl, rfl, rfl, rfl, rfl, trivial⟩, trivial⟩
                · rw [if_neg (nt hc89)] at hs90
                  refine VQ_gn rfl rfl rfl hc89 rfl rfl rfl ?_
                  refine VQ_gn rfl rfl rfl hc89 rfl rfl rfl ?_
                  refine VQ_gn rfl rfl rfl hc89 rfl rfl rfl ?_
                  refine VQ_gn rfl rfl rfl hc89 rfl rfl rfl ?_
                  refine VQ_gn rfl rfl rfl hc89 rfl rfl rfl ?_
                  refine VQ_gn rfl rfl rfl hc89 rfl rfl rfl ?_
                  refine VQ_gn rfl rfl rfl hc89 rfl rfl rfl ?_
                  refine VQ_gn rfl rfl rfl hc89 rfl rfl rfl ?_
                  refine VQ_gn rfl rfl rfl hc89 rfl rfl rfl ?_
                  refine VQ_gn rfl rfl rfl hc89 rfl rfl rfl ?_
                  refine VQ_y (fun _ _ => Y_pick_fe rfl hc89 rfl) rfl rfl rfl ?_
                  obtain rfl := Option.some.inj hs90
                  exact VQ_end fun a ha => ⟨(), ha.sub ⟨rfl, rfl, rfl, rfl, rfl, rfl, trivial⟩, trivial⟩
              simp only [List.take, List.drop]
              rintro _ _
              refine VQ_y (fun w' hw' => Y_assign rfl) rfl rfl rfl ?_
              refine VQ_to (fun _ _ => rfl) (fun w101 hk102 => ?_)
              have ht103 := Kp.tr (Dw := Dw) hk102 hA hB
              replace hH := Hp.kp (Dw := Dw) hH hk102
              replace h11 := El.tr (Dw := Dw) h11 ht103
              replace h46 := Sl.tr (Dw := Dw) h46 ht103
              replace h84 := El.tr (Dw := Dw) h84 ht103
              replace hK := Tr.trans (Dw := Dw) hK ht103
              replace hr49 := Tr.trans (Dw := Dw) hr49 ht103
              replace hB := Nat.le_trans hB ht103.ex.size
              replace hA := ht103.new
              refine C_cond rfl (fun hc104 => ?_) (fun hc104 => ?_)
              · rw [if_pos hc104] at h61
                refine C_seq ?_
                refine C_region ?_
                refine V_y (Y_assign rfl) rfl rfl rfl ?_
                refine V_to (fun _ _ => rfl) ?_
                obtain rfl := Option.some.inj h61
                obtain rfl := (h62 : Lp.rt _ = _)
                rw [Lp.andThen_rt] at hm
                obtain rfl := Option.some.inj hm
                refine C_ret ?_
                try simp only [↓inBlock_ret, ↓then_ret]
                exact retQ rfl (Res.one Tryd.results22 rfl) ⟨rfl, hK.kp⟩
              · rw [if_neg (nt hc104)] at h61
                refine C_seq ?_
                refine C_region ?_
                have h105 := El_cal_Special_1 h84
                refine V_y (Y_fieldAddr Tryd.underlying77 rfl Tryd.sizeOf43 (by decide) rfl) rfl rfl rfl ?_
                obtain ⟨v106, h107, h108⟩ := El.list h105
                refine V_y (Y_load h107 Tryd.isAgg43 rfl) rfl rfl rfl ?_
                refine V_y (Y_lenSl h108 rfl Tryd.underlying43 rfl) rfl rfl rfl ?_
                refine V_y (Y_gtr rfl rfl) rfl rfl rfl ?_
                refine V_y (Y_assign rfl) rfl rfl rfl ?_
                refine V_to (fun _ _ => rfl) ?_
                refine C_cond rfl (fun hc109 => ?_) (fun hc109 => ?_)
                · rw [if_pos hc109] at h61
                  refine C_seq ?_
                  refine C_region ?_
                  refine V_y (Y_assign rfl) rfl rfl rfl ?_
                  refine V_to (fun _ _ => rfl) ?_
                  obtain rfl := Option.some.inj h61
                  obtain rfl := (h62 : Lp.rt _ = _)
                  rw [Lp.andThen_rt] at hm
                  obtain rfl := Option.some.inj hm
                  refine C_ret ?_
                  try simp only [↓inBlock_ret, ↓then_ret]
                  exact retQ rfl (Res.one Tryd.results22 rfl) ⟨rfl, hK.kp⟩
                · rw [if_neg (nt hc109)] at h61
                  refine C_skip_to (fun _ _ => rfl) ?_
                  refine C_seq ?_
                  refine C_region ?_
                  have h110 := El_cal_Special_1 h84
                  refine V_y (Y_fieldAddr Tryd.underlying77 rfl Tryd.sizeOf43 (by decide) rfl) rfl rfl rfl ?_
                  obtain ⟨v111, h112, h113⟩ := El.list h110
                  refine V_y (Y_load h112 Tryd.isAgg43 rfl) rfl rfl rfl ?_
                  obtain ⟨x114, hx114, h61⟩ := Option.bind_eq_some_iff.1 h61
                  refine V_call Tryd.call36 rfl rfl rfl rfl (cal_checkShifts_c (Dw := Dw) w101 hA x69.shifts v111 h113 true hx114) ?_
                  rintro _ w115 ⟨rfl, hk116⟩
                  have ht117 := Kp.tr (Dw := Dw) hk116 hA hB
                  replace hH := Hp.kp (Dw := Dw) hH hk116
                  replace h11 := El.tr (Dw := Dw) h11 ht117
                  replace h46 := Sl.tr (Dw := Dw) h46 ht117
                  replace h84 := El.tr (Dw := Dw) h84 ht117
                  replace h110 := El.tr (Dw := Dw) h110 ht117
                  replace h113 := Sl.tr (Dw := Dw) h113 ht117
                  replace hK := Tr.trans (Dw := Dw) hK ht117
                  replace hr49 := Tr.trans (Dw := Dw) hr49 ht117
                  replace hB := Nat.le_trans hB ht117.ex.size
                  replace hA := ht117.new
                  refine V_y (Y_assign rfl) rfl rfl rfl ?_
                  refine V_to (fun _ _ => rfl) ?_
                  refine C_seq ?_
                  refine C_region ?_
                  refine V_y (Y_move rfl) rfl rfl rfl ?_
                  refine V_y (Y_neq rfl rfl) rfl rfl rfl ?_
                  refine V_to (fun _ _ => rfl) ?_
                  refine C_cond rfl (fun hc118 => ?_) (fun hc118 => ?_)
                  · rw [if_pos hc118] at h61
                    refine C_seq ?_
                    refine C_region ?_
                    refine V_y (Y_move rfl) rfl rfl rfl ?_
                    refine V_y (Y_assign rfl) rfl rfl rfl ?_
                    refine V_to (fun _ _ => rfl) ?_
                    obtain rfl := Option.some.inj h61
                    obtain rfl := (h62 : Lp.rt _ = _)
                    rw [Lp.andThen_rt] at hm
                    obtain rfl := Option.some.inj hm
                    refine C_ret ?_
                    try simp only [↓inBlock_ret, ↓then_ret]
                    exact retQ rfl (Res.one Tryd.results22 rfl) ⟨rfl, hK.kp⟩
                  · rw [if_neg (nt hc118)] at h61
                    refine C_skip_to (fun _ _ => rfl) ?_
                    refine C_region ?_
                    refine V_y (Y_addI rfl rfl) rfl rfl rfl ?_
                    refine V_y (Y_move rfl) rfl rfl rfl ?_
                    obtain rfl := Option.some.inj h61
                    refine V_end (fun a ha119 => ?_)
                    exact ⟨(), hlt64, h62, ⟨A58, ha119.sub ⟨rfl, rfl, rfl, (congrArg (fun z => some (Value.int .i64 z)) (w64_succ hlt64 hn67)), trivial⟩, ⟨hH, hr49⟩⟩⟩
          · refine C_exit (fun a ha120 => ?_)
            exact ⟨((), A58), ha120.sub trivial, ⟨(h65 (eq_of_dec hle63 hc68)).symm, hH, hr49⟩⟩
        rintro ⟨s48, A54⟩ w51 ⟨rfl, hH55, hk52⟩ a ha53
        rw [Lp.andThen_fin] at hm
        replace hK := Tr.trans (Dw := Dw) hK hk52
        replace hB := Nat.le_trans hB hk52.ex.size
        replace hA := hk52.new
        replace hH : Hp w.heap.size A54 w51 ([]) := hH55
        refine C_at (n := ⟨70, [], none⟩) (fun _ _ => rfl) ?_ ha53
        refine C_seq ?_
        refine C_region ?_
        refine V_y (Y_assign rfl) rfl rfl rfl ?_
        refine V_to (fun _ _ => rfl) ?_
        obtain rfl := Option.some.inj hm
        refine C_ret ?_
        try simp only [↓inBlock_ret, ↓then_ret]
        exact retQ rfl (Res.one Tryd.results22 rfl) ⟨rfl, hK.kp⟩

set_option maxRecDepth 4000 in
set_option maxHeartbeats 4000000 in
theorem route_checkCals_c (w : World) {A : Nat → Prop} (hA : ∀ b, w.heap.size ≤ b → A b) (people : (List route_Person)) (v_people : Value) (h_people : Sl A w v_people people) (cals : (List cal_Calendar)) (v_cals : Value) (h_cals : Sl A w v_cals cals) {r : Int} (hm : route_checkCals people cals = some r) : Ret Tryd.prog 10 #[v_people, v_cals] w fun v w' => v = .int .i64 r ∧ Kp Dw w w' := by
  unfold route_checkCals at hm
  refine enter Tryd.func10 rfl Tryd.ntmps10 rfl ?_
  have hA0 := hA
  have hB := Nat.le_refl w.heap.size
  have hK : Tr Dw w.heap.size A w A w := Tr.refl (Dw := Dw) hA
  have hH : Hp w.heap.size A w [] := Hp.nil
  refine C_seq ?_
  refine C_region ?_
  refine V_y (Y_assign rfl) rfl rfl rfl ?_
  refine V_to (fun _ _ => rfl) ?_
  refine C_seq ?_
  refine C_seq ?_
  refine C_region ?_
  refine V_y (Y_move rfl) rfl rfl rfl ?_
  obtain ⟨x5, hx5, hm⟩ := Option.bind_eq_some_iff.1 hm
  refine V_call Tryd.call21 rfl rfl rfl rfl (route_CheckPeople_c (Dw := Dw) w hA people v_people h_people hx5) ?_
  rintro _ w6 ⟨rfl, hk7⟩
  have ht8 := Kp.tr (Dw := Dw) hk7 hA hB
  replace hH := Hp.kp (Dw := Dw) hH hk7
  replace h_people := Sl.tr (Dw := Dw) h_people ht8
  replace h_cals := Sl.tr (Dw := Dw) h_cals ht8
  replace hK := Tr.trans (Dw := Dw) hK ht8
  replace hB := Nat.le_trans hB ht8.ex.size
  replace hA := ht8.new
  refine V_y (Y_assign rfl) rfl rfl rfl ?_
  refine V_to (fun _ _ => rfl) ?_
  refine C_seq ?_
  refine C_region ?_
  refine V_y (Y_move rfl) rfl rfl rfl ?_
  refine V_y (Y_neq rfl rfl) rfl rfl rfl ?_
  refine V_to (fun _ _ => rfl) ?_
  refine C_cond rfl (fun hc9 => ?_) (fun hc9 => ?_)
  · rw [if_pos hc9] at hm
    refine C_seq ?_
    refine C_region ?_
    refine V_y (Y_move rfl) rfl rfl rfl ?_
    refine V_y (Y_assign rfl) rfl rfl rfl ?_
    refine V_to (fun _ _ => rfl) ?_
    obtain rfl := Option.some.inj hm
    refine C_ret ?_
    try simp only [↓inBlock_ret, ↓then_ret]
    exact retQ rfl (Res.one Tryd.results10 rfl) ⟨rfl, hK.kp⟩
  · rw [if_neg (nt hc9)] at hm
    refine C_skip_to (fun _ _ => rfl) ?_
    refine C_seq ?_
    refine C_seq ?_
    refine C_region ?_
    refine V_y (Y_move rfl) rfl rfl rfl ?_
    refine V_y (Y_lenSl h_cals rfl Tryd.underlying23 rfl) rfl rfl rfl ?_
    refine V_y (Y_gtr rfl rfl) rfl rfl rfl ?_
    refine V_to (fun _ _ => rfl) ?_
    refine C_cond rfl (fun hc10 => ?_) (fun hc10 => ?_)
    · rw [if_pos hc10] at hm
      refine C_seq ?_
      refine C_region ?_
      refine V_y (Y_assign rfl) rfl rfl rfl ?_
      refine V_to (fun _ _ => rfl) ?_
      obtain rfl := Option.some.inj hm
      refine C_ret ?_
      try simp only [↓inBlock_ret, ↓then_ret]
      exact retQ rfl (Res.one Tryd.results10 rfl) ⟨rfl, hK.kp⟩
    · rw [if_neg (nt hc10)] at hm
      refine C_skip_to (fun _ _ => rfl) ?_
      refine C_seq ?_
      refine C_seq ?_
      refine C_region ?_
      refine V_y (Y_move rfl) rfl rfl rfl ?_
      refine V_y (Y_lenSl h_cals rfl Tryd.underlying23 rfl) rfl rfl rfl ?_
      refine V_y (Y_move rfl) rfl rfl rfl ?_
      refine V_to (fun _ _ => rfl) ?_
      have hn31 := Sl.le h_cals
      obtain ⟨o11, ho11, hm⟩ := Option.bind_eq_some_iff.1 hm
      refine C_cutG (ι := (Unit × (Nat → Prop))) (fun ⟨s12, A18⟩ => [(0, v_people), (1, v_cals)]) (fun ⟨s12, A18⟩ => fun w' => o11 = .fin s12 ∧ Hp w.heap.size A18 w' ([]) ∧ Tr Dw w.heap.size A w6 A18 w') ?_ ?_
      · refine C_block ?_
        refine C_range ho11 (fun k14 _ a w' => ∃ i : (Nat → Prop), Has ⟨43, [], none⟩ a ([(0, v_people), (1, v_cals), (19, v_cals), (20, .int .i64 (cals.length : Int)), (21, .int .i64 (k14 : Int))]) ∧ Hp w.heap.size i w' ([]) ∧ Tr Dw w.heap.size A w6 i w') (fun a ha => ⟨A, ha.sub ⟨rfl, rfl, rfl, rfl, rfl, trivial⟩, ⟨hH, Tr.refl (Dw := Dw) hA⟩⟩) ?_
        rintro K k14 _ a w21 ⟨A22, ha75, hH23, hr13⟩ hle27 K30 h29
        refine C_of ?_ ha75
        replace h_people := Sl.tr (Dw := Dw) h_people hr13
        replace h_cals := Sl.tr (Dw := Dw) h_cals hr13
        replace hK := Tr.trans (Dw := Dw) hK hr13
        replace hB := Nat.le_trans hB hr13.ex.size
        replace hA := hr13.new
        replace hH : Hp w.heap.size A22 w21 ([]) := hH23
        refine C_seq (C_region (V_y (Y_lss rfl rfl) rfl rfl rfl (V_to (fun _ _ => rfl) ?_)))
        refine C_seq ?_
        refine C_cond rfl (fun hc32 => ?_) (fun hc32 => ?_)
        · have hlt28 := lt_of_dec hc32
          obtain ⟨x24, h25, h26⟩ := K30 hlt28
          refine C_skip_to (fun _ _ => rfl) ?_
          refine C_seq ?_
          refine C_block ?_
          refine C_seq ?_
          refine C_region ?_
          obtain ⟨x33, hx33, h25⟩ := Option.bind_eq_some_iff.1 h25
          refine V_indexAddr h_cals hx33 Tryd.underlying23 Tryd.sizeOf46 rfl rfl rfl ?_
          intro b34 o35 h36
          obtain ⟨v37, v39, v41, h43, h38, h40, h42⟩ := El_cal_Calendar h36
          refine V_y (Y_loadA h43 Tryd.isAgg46 Tryd.sizeOf46 rfl) rfl rfl rfl ?_
          refine V_alloc Tryd.zeroValue46 rfl ?_
          intro b44 w45 h46
          have h51 : (v37).oneCell' = true := by obtain ⟨_, _, e, _⟩ := Sl.form h38; rw [e]; rfl
          have h54 : (v39).oneCell' = true := by obtain ⟨_, _, e, _⟩ := Sl.form h40; rw [e]; rfl
          have h57 : (v41).oneCell' = true := by obtain ⟨_, _, e, _⟩ := Sl.form h42; rw [e]; rfl
          refine V_storeNew h46 Tryd.sizeOf46 rfl rfl rfl rfl (by exact (List.forall_mem_cons.2 ⟨rfl, (List.forall_mem_cons.2 ⟨h51, (List.forall_mem_cons.2 ⟨h54, (List.forall_mem_cons.2 ⟨h57, (fun _ h => nomatch h)⟩)⟩)⟩)⟩)) ?_
          intro w47 h48
          have hk59 := h48.kp (Dw := Dw)
          have h58 : El (α := cal_Calendar) A22 w47 b44 0 x33 := h48.el hA ⟨[.int .i64 x33.zone.offset, v37], _, rfl, ⟨[.int .i64 x33.zone.offset], _, rfl, rfl, ⟨_, rfl, h38⟩⟩, ⟨[v39], _, rfl, ⟨_, rfl, h40⟩, ⟨_, rfl, h42⟩⟩⟩
          have ht60 := Kp.tr (Dw := Dw) hk59 hA hB
          replace hH := Hp.kp (Dw := Dw) hH hk59
          replace h_people := Sl.tr (Dw := Dw) h_people ht60
          replace h_cals := Sl.tr (Dw := Dw) h_cals ht60
          replace h36 := El.tr (Dw := Dw) h36 ht60
          replace h38 := Sl.tr (Dw := Dw) h38 ht60
          replace h40 := Sl.tr (Dw := Dw) h40 ht60
          replace h42 := Sl.tr (Dw := Dw) h42 ht60
          replace hK := Tr.trans (Dw := Dw) hK ht60
          replace hr13 := Tr.trans (Dw := Dw) hr13 ht60
          replace hB := Nat.le_trans hB ht60.ex.size
          replace hA := ht60.new
          refine V_to (fun _ _ => rfl) ?_
          refine C_seq ?_
          refine C_region ?_
          obtain ⟨v61, v63, v65, h67, h62, h64, h66⟩ := El_cal_Calendar h58
          refine V_y (Y_loadA h67 Tryd.isAgg46 Tryd.sizeOf46 rfl) rfl rfl rfl ?_
          obtain ⟨x68, hx68, h25⟩ := Option.bind_eq_some_iff.1 h25
          refine V_call Tryd.call22 rfl rfl rfl rfl (cal_CheckCalendar_c (Dw := Dw) w47 hA x33 v61 h62 v63 h64 v65 h66 hx68) ?_
          rintro _ w69 ⟨rfl, hk70⟩
          have ht71 := Kp.tr (Dw := Dw) hk70 hA hB
          replace hH := Hp.kp (Dw := Dw) hH hk70
          replace h_people := Sl.tr (Dw := Dw) h_people ht71
          replace h_cals := Sl.tr (Dw := Dw) h_cals ht71
          replace h58 := El.tr (Dw := Dw) h58 ht71
          replace h62 := Sl.tr (Dw := Dw) h62 ht71
          replace h64 := Sl.tr (Dw := Dw) h64 ht71
          replace h66 := Sl.tr (Dw := Dw) h66 ht71
          replace hK := Tr.trans (Dw := Dw) hK ht71
          replace hr13 := Tr.trans (Dw := Dw) hr13 ht71
          replace hB := Nat.le_trans hB ht71.ex.size
          replace hA := ht71.new
          refine V_y (Y_assign rfl) rfl rfl rfl ?_
          refine V_to (fun _ _ => rfl) ?_
          refine C_seq ?_
          refine C_region ?_
          refine V_y (Y_move rfl) rfl rfl rfl ?_
          refine V_y (Y_neq rfl rfl) rfl rfl rfl ?_
          refine V_to (fun _ _ => rfl) ?_
          refine C_cond rfl (fun hc72 => ?_) (fun hc72 => ?_)
          · rw [if_pos hc72] at h25
            refine C_seq ?_
            refine C_region ?_
            refine V_y (Y_move rfl) rfl rfl rfl ?_
            refine V_y (Y_assign rfl) rfl rfl rfl ?_
            refine V_to (fun _ _ => rfl) ?_
            obtain rfl := Option.some.inj h25
            obtain rfl := (h26 : Lp.rt _ = _)
            rw [Lp.andThen_rt] at hm
            obtain rfl := Option.some.inj hm
            refine C_ret ?_
            try simp only [↓inBlock_ret, ↓then_ret]
            exact retQ rfl (Res.one Tryd.results10 rfl) ⟨rfl, hK.kp⟩
          · rw [if_neg (nt hc72)] at h25
            refine C_skip_to (fun _ _ => rfl) ?_
            refine C_region ?_
            refine V_y (Y_addI rfl rfl) rfl rfl rfl ?_
            refine V_y (Y_move rfl) rfl rfl rfl ?_
            obtain rfl := Option.some.inj h25
            refine V_end (fun a ha73 => ?_)
            exact ⟨(), hlt28, h26, ⟨A22, ha73.sub ⟨rfl, rfl, rfl, rfl, (congrArg (fun z => some (Value.int .i64 z)) (w64_succ hlt28 hn31)), trivial⟩, ⟨hH, hr13⟩⟩⟩
        · refine C_exit (fun a ha74 => ?_)
          exact ⟨((), A22), ha74.sub ⟨rfl, rfl, trivial⟩, ⟨(h29 (eq_of_dec hle27 hc32)).symm, hH, hr13⟩⟩
      rintro ⟨s12, A18⟩ w15 ⟨rfl, hH19, hk16⟩ a ha17
      rw [Lp.andThen_fin] at hm
      replace h_people := Sl.tr (Dw := Dw) h_people hk16
      replace h_cals := Sl.tr (Dw := Dw) h_cals hk16
      replace hK := Tr.trans (Dw := Dw) hK hk16
      replace hB := Nat.le_trans hB hk16.ex.size
      replace hA := hk16.new
      replace hH : Hp w.heap.size A18 w15 ([]) := hH19
      refine C_at (n := ⟨43, [], none⟩) (fun _ _ => rfl) ?_ ha17
      refine C_seq ?_
      refine C_seq ?_
      refine C_region ?_
      refine V_y (Y_move rfl) rfl rfl rfl ?_
      refine V_y (Y_lenSl h_people rfl Tryd.underlying22 rfl) rfl rfl rfl ?_
      refine V_y (Y_move rfl) rfl rfl rfl ?_
      refine V_to (fun _ _ => rfl) ?_
      have hn96 := Sl.le h_people
      obtain ⟨o76, ho76, hm⟩ := Option.bind_eq_some_iff.1 hm
      refine C_cutG (ι := (Unit × (Nat → Prop))) (fun ⟨s77, A83⟩ => []) (fun ⟨s77, A83⟩ => fun w' => o76 = .fin s77 ∧ Hp w.heap.size A83 w' ([]) ∧ Tr Dw w.heap.size A18 w15 A83 w') ?_ ?_
      · refine C_block ?_
        refine C_range ho76 (fun k79 _ a w' => ∃ i : (Nat → Prop), Has ⟨43, [], none⟩ a ([(1, v_cals), (31, v_people), (32, .int .i64 (people.length : Int)), (33, .int .i64 (k79 : Int))]) ∧ Hp w.heap.size i w' ([]) ∧ Tr Dw w.heap.size A18 w15 i w') (fun a ha => ⟨A18, ha.sub ⟨rfl, rfl, rfl, rfl, trivial⟩, ⟨hH, Tr.refl (Dw := Dw) hA⟩⟩) ?_
        rintro K k79 _ a w86 ⟨A87, ha120, hH88, hr78⟩ hle92 K95 h94
        refine C_of ?_ ha120
        replace h_cals := Sl.tr (Dw := Dw) h_cals hr78
        replace h_people := Sl.tr (Dw := Dw) h_people hr78
        replace hK := Tr.trans (Dw := Dw) hK hr78
        replace hB := Nat.le_trans hB hr78.ex.size
        replace hA := hr78.new
        replace hH : Hp w.heap.size A87 w86 ([]) := hH88
        refine C_seq (C_region (V_y (Y_lss rfl rfl) rfl rfl rfl (V_to (fun _ _ => rfl) ?_)))
        refine C_seq ?_
        refine C_cond rfl (fun hc97 => ?_) (fun hc97 => ?_)
        · have hlt93 := lt_of_dec hc97
          obtain ⟨x89, h90, h91⟩ := K95 hlt93
          refine C_skip_to (fun _ _ => rfl) ?_
          refine C_seq ?_
          refine C_block ?_
          refine C_seq ?_
          refine C_region ?_
          obtain ⟨x98, hx98, h90⟩ := Option.bind_eq_some_iff.1 h90
          refine V_indexAddr h_people hx98 Tryd.underlying22 Tryd.sizeOf37 rfl rfl rfl ?_
          intro b99 o100 h101
          obtain ⟨v102, h104, h103⟩ := El_route_Person h101
          refine V_y (Y_loadA h104 Tryd.isAgg37 Tryd.sizeOf37 rfl) rfl rfl rfl ?_
          refine V_alloc Tryd.zeroValue37 rfl ?_
          intro b105 w106 h107
          have h112 : (v102).oneCell' = true := by obtain ⟨_, _, e, _⟩ := Sl.form h103; rw [e]; rfl
          refine V_storeNew h107 Tryd.sizeOf37 rfl rfl rfl rfl (by exact (List.forall_mem_cons.2 ⟨rfl, (List.forall_mem_cons.2 ⟨rfl, (List.forall_mem_cons.2 ⟨rfl, (List.forall_mem_cons.2 ⟨h112, (fun _ h => nomatch h)⟩)⟩)⟩)⟩)) ?_
          intro w108 h109
          have hk114 := h109.kp (Dw := Dw)
          have h113 : El (α := route_Person) A87 w108 b105 0 x98 := h109.el hA ⟨[.int .i64 x98.no], _, rfl, rfl, ⟨[.int .i64 x98.capacity], _, rfl, rfl, ⟨[.int .i64 x98.calendar], _, rfl, rfl, ⟨_, rfl, h103⟩⟩⟩⟩
          have ht115 := Kp.tr (Dw := Dw) hk114 hA hB
          replace hH := Hp.kp (Dw := Dw) hH hk114
          replace h_cals := Sl.tr (Dw := Dw) h_cals ht115
          replace h_people := Sl.tr (Dw := Dw) h_people ht115
          replace h101 := El.tr (Dw := Dw) h101 ht115
          replace h103 := Sl.tr (Dw := Dw) h103 ht115
          replace hK := Tr.trans (Dw := Dw) hK ht115
          replace hr78 := Tr.trans (Dw := Dw) hr78 ht115
          replace hB := Nat.le_trans hB ht115.ex.size
          replace hA := ht115.new
          refine V_to (fun _ _ => rfl) ?_
          refine C_seq ?_
          refine C_region ?_
          have h116 := El_route_Person_2 h113
          refine V_y (Y_fieldAddr Tryd.underlying37 rfl Tryd.sizeOf3 (by decide) rfl) rfl rfl rfl ?_
          refine V_y (Y_load (El.int h116) Tryd.isAgg3 rfl) rfl rfl rfl ?_
          refine V_y (Y_move rfl) rfl rfl rfl ?_
          refine V_y (Y_lenSl h_cals rfl Tryd.underlying23 rfl) rfl rfl rfl ?_
          refine V_y (Y_geq rfl rfl) rfl rfl rfl ?_
          refine V_to (fun _ _ => rfl) ?_
          refine C_cond rfl (fun hc117 => ?_) (fun hc117 => ?_)
          · rw [if_pos hc117] at h90
            refine C_seq ?_
            refine C_region ?_
            refine V_y (Y_assign rfl) rfl rfl rfl ?_
            refine V_to (fun _ _ => rfl) ?_
            obtain rfl := Option.some.inj h90
            obtain rfl := (h91 : Lp.rt _ = _)
            rw [Lp.andThen_rt] at hm
            obtain rfl := Option.some.inj hm
            refine C_ret ?_
            try simp only [↓inBlock_ret, ↓then_ret]
            exact retQ rfl (Res.one Tryd.results10 rfl) ⟨rfl, hK.kp⟩
          · rw [if_neg (nt hc117)] at h90
            refine C_skip_to (fun _ _ => rfl) ?_
            refine C_region ?_
            refine V_y (Y_addI rfl rfl) rfl rfl rfl ?_
            refine V_y (Y_move rfl) rfl rfl rfl ?_
            obtain rfl := Option.some.inj h90
            refine V_end (fun a ha118 => ?_)
            exact ⟨(), hlt93, h91, ⟨A87, ha118.sub ⟨rfl, rfl, rfl, (congrArg (fun z => some (Value.int .i64 z)) (w64_succ hlt93 hn96)), trivial⟩, ⟨hH, hr78⟩⟩⟩
        · refine C_exit (fun a ha119 => ?_)
          exact ⟨((), A87), ha119.sub trivial, ⟨(h94 (eq_of_dec hle92 hc97)).symm, hH, hr78⟩⟩
      rintro ⟨s77, A83⟩ w80 ⟨rfl, hH84, hk81⟩ a ha82
      rw [Lp.andThen_fin] at hm
      replace hK := Tr.trans (Dw := Dw) hK hk81
      replace hB := Nat.le_trans hB hk81.ex.size
      replace hA := hk81.new
      replace hH : Hp w.heap.size A83 w80 ([]) := hH84
      refine C_at (n := ⟨43, [], none⟩) (fun _ _ => rfl) ?_ ha82
      refine C_seq ?_
      refine C_region ?_
      refine V_y (Y_assign rfl) rfl rfl rfl ?_
      refine V_to (fun _ _ => rfl) ?_
      obtain rfl := Option.some.inj hm
      refine C_ret ?_
      try simp only [↓inBlock_ret, ↓then_ret]
      exact retQ rfl (Res.one Tryd.results10 rfl) ⟨rfl, hK.kp⟩

set_option maxRecDepth 4000 in
set_option maxHeartbeats 4000000 in
theorem route_moment_c (w : World) (m : Int) : Ret Tryd.prog 11 #[.int .i64 m] w fun v w' => v = .int .i64 (route_moment m) ∧ w = w' := by
  generalize hm : route_moment m = r
  unfold route_moment at hm
  refine enter Tryd.func11 rfl Tryd.ntmps11 rfl ?_
  refine C_seq ?_
  refine C_region ?_
  refine V_y (Y_assign rfl) rfl rfl rfl ?_
  refine V_to (fun _ _ => rfl) ?_
  refine C_seq ?_
  refine C_seq ?_
  refine C_region ?_
  refine V_y (Y_move rfl) rfl rfl rfl ?_
  refine V_call Tryd.call23 rfl rfl rfl rfl (route_within_c w m 0 3000000) ?_
  rintro _ _ ⟨rfl, rfl⟩
  refine V_y (Y_not rfl) rfl rfl rfl ?_
  refine V_to (fun _ _ => rfl) ?_
  refine C_cond rfl (fun hc1 => ?_) (fun hc1 => ?_)
  · rw [if_pos hc1] at hm
    refine C_seq ?_
    refine C_region ?_
    refine V_y (Y_assign rfl) rfl rfl rfl ?_
    refine V_to (fun _ _ => rfl) ?_
    obtain rfl := hm
    refine C_ret ?_
    try simp only [↓inBlock_ret, ↓then_ret]
    exact retQ rfl (Res.one Tryd.results11 rfl) ⟨rfl, rfl⟩
  · rw [if_neg (nt hc1)] at hm
    refine C_skip_to (fun _ _ => rfl) ?_
    refine C_seq ?_
    refine C_region ?_
    refine V_y (Y_assign rfl) rfl rfl rfl ?_
    refine V_to (fun _ _ => rfl) ?_
    obtain rfl := hm
    refine C_ret ?_
    try simp only [↓inBlock_ret, ↓then_ret]
    exact retQ rfl (Res.one Tryd.results11 rfl) ⟨rfl, rfl⟩

set_option maxRecDepth 4000 in
set_option maxHeartbeats 4000000 in
theorem cmp_Or_api_Errno_c (w : World) {A : Nat → Prop} (vals : (List Int)) (v_vals : Value) (h_vals : Sl A w v_vals vals) {r : Int} (hm : cmp_Or_api_Errno vals = some r) : Ret Tryd.prog 9 #[v_vals] w fun v w' => v = .int .i64 r ∧ w = w' := by
  unfold cmp_Or_api_Errno at hm
  refine enter Tryd.func9 rfl Tryd.ntmps9 rfl ?_
  refine C_seq ?_
  refine C_region ?_
  refine V_y (Y_assign rfl) rfl rfl rfl ?_
  refine V_to (fun _ _ => rfl) ?_
  refine C_seq ?_
  refine C_region ?_
  refine V_y (Y_assign rfl) rfl rfl rfl ?_
  refine V_to (fun _ _ => rfl) ?_
  refine C_seq ?_
  refine C_seq ?_
  refine C_region ?_
  refine V_y (Y_move rfl) rfl rfl rfl ?_
  refine V_y (Y_lenSl h_vals rfl Tryd.underlying55 rfl) rfl rfl rfl ?_
  refine V_y (Y_move rfl) rfl rfl rfl ?_
  refine V_to (fun _ _ => rfl) ?_
  have hn19 := Sl.le h_vals
  obtain ⟨o3, ho3, hm⟩ := Option.bind_eq_some_iff.1 hm
  refine C_cutG (ι := Unit) (fun (s4 : Unit) => [(3, .int .i64 0)]) (fun (s4 : Unit) => fun w' => o3 = .fin s4 ∧ w = w') ?_ ?_
  · refine C_block ?_
    refine C_range ho3 (fun k6 _ a w' => ∃ i : Unit, Has ⟨18, [], none⟩ a ([(3, .int .i64 0), (6, v_vals), (7, .int .i64 (vals.length : Int)), (8, .int .i64 (k6 : Int))]) ∧ w = w') (fun a ha => ⟨(), ha.sub ⟨rfl, rfl, rfl, rfl, trivial⟩, rfl⟩) ?_
    rintro K k6 _ a _ ⟨_, ha28, rfl⟩ hle15 K18 h17
    refine C_of ?_ ha28
    refine C_seq (C_region (V_y (Y_lss rfl rfl) rfl rfl rfl (V_to (fun _ _ => rfl) ?_)))
    refine C_seq ?_
    refine C_cond rfl (fun hc20 => ?_) (fun hc20 => ?_)
    · have hlt16 := lt_of_dec hc20
      obtain ⟨x12, h13, h14⟩ := K18 hlt16
      refine C_skip_to (fun _ _ => rfl) ?_
      refine C_seq ?_
      refine C_block ?_
      refine C_seq ?_
      refine C_region ?_
      obtain ⟨x21, hx21, h13⟩ := Option.bind_eq_some_iff.1 h13
      refine V_indexAddr h_vals hx21 Tryd.underlying55 Tryd.sizeOf25 rfl rfl rfl ?_
      intro b22 o23 h24
      refine V_y (Y_load (El.int h24) Tryd.isAgg25 rfl) rfl rfl rfl ?_
      refine V_y (Y_assign rfl) rfl rfl rfl ?_
      refine V_to (fun _ _ => rfl) ?_
      refine C_seq ?_
      refine C_region ?_
      refine V_y (Y_move rfl) rfl rfl rfl ?_
      refine V_y (Y_move rfl) rfl rfl rfl ?_
      refine V_y (Y_neq rfl rfl) rfl rfl rfl ?_
      refine V_to (fun _ _ => rfl) ?_
      refine C_cond rfl (fun hc25 => ?_) (fun hc25 => ?_)
      · rw [if_pos hc25] at h13
        refine C_seq ?_
        refine C_region ?_
        refine V_y (Y_move rfl) rfl rfl rfl ?_
        refine V_y (Y_assign rfl) rfl rfl rfl ?_
        refine V_to (fun _ _ => rfl) ?_
        obtain rfl := Option.some.inj h13
        obtain rfl := (h14 : Lp.rt _ = _)
        rw [Lp.andThen_rt] at hm
        obtain rfl := Option.some.inj hm
        refine C_ret ?_
        try simp only [↓inBlock_ret, ↓then_ret]
        exact retQ rfl (Res.one Tryd.results9 rfl) ⟨rfl, rfl⟩
      · rw [if_neg (nt hc25)] at h13
        refine C_skip_to (fun _ _ => rfl) ?_
        refine C_region ?_
        refine V_y (Y_addI rfl rfl) rfl rfl rfl ?_
        refine V_y (Y_move rfl) rfl rfl rfl ?_
        obtain rfl := Option.some.inj h13
        refine V_end (fun a ha26 => ?_)
        exact ⟨(), hlt16, h14, ⟨(), ha26.sub ⟨rfl, rfl, rfl, (congrArg (fun z => some (Value.int .i64 z)) (w64_succ hlt16 hn19)), trivial⟩, rfl⟩⟩
    · refine C_exit (fun a ha27 => ?_)
      exact ⟨(), ha27.sub ⟨rfl, trivial⟩, ⟨(h17 (eq_of_dec hle15 hc20)).symm, rfl⟩⟩
  rintro s4 _ ⟨rfl, rfl⟩ a ha9
  rw [Lp.andThen_fin] at hm
  refine C_at (n := ⟨18, [], none⟩) (fun _ _ => rfl) ?_ ha9
  refine C_seq ?_
  refine C_region ?_
  refine V_y (Y_move rfl) rfl rfl rfl ?_
  refine V_y (Y_assign rfl) rfl rfl rfl ?_
  refine V_to (fun _ _ => rfl) ?_
  obtain rfl := Option.some.inj hm
  refine C_ret ?_
  try simp only [↓inBlock_ret, ↓then_ret]
  exact retQ rfl (Res.one Tryd.results9 rfl) ⟨rfl, rfl⟩

set_option maxRecDepth 4000 in
set_option maxHeartbeats 4000000 in
theorem cal_moment_c (w : World) (m : Int) : Ret Tryd.prog 24 #[.int .i64 m] w fun v w' => v = .int .i64 (cal_moment m) ∧ w = w' := by
  generalize hm : cal_moment m = r
  unfold cal_moment at hm
  refine enter Tryd.func24 rfl Tryd.ntmps24 rfl ?_
  refine C_seq ?_
  refine C_region ?_
  refine V_y (Y_assign rfl) rfl rfl rfl ?_
  refine V_to (fun _ _ => rfl) ?_
  refine C_seq ?_
  refine C_seq ?_
  refine C_region ?_
  refine V_y (Y_move rfl) rfl rfl rfl ?_
  refine V_call Tryd.call37 rfl rfl rfl rfl (cal_within_c w m 0 3000000) ?_
  rintro _ _ ⟨rfl, rfl⟩
  refine V_y (Y_not rfl) rfl rfl rfl ?_
  refine V_to (fun _ _ => rfl) ?_
  refine C_cond rfl (fun hc1 => ?_) (fun hc1 => ?_)
  · rw [if_pos hc1] at hm
    refine C_seq ?_
    refine C_region ?_
    refine V_y (Y_assign rfl) rfl rfl rfl ?_
    refine V_to (fun _ _ => rfl) ?_
    obtain rfl := hm
    refine C_ret ?_
    try simp only [↓inBlock_ret, ↓then_ret]
    exact retQ rfl (Res.one Tryd.results24 rfl) ⟨rfl, rfl⟩
  · rw [if_neg (nt hc1)] at hm
    refine C_skip_to (fun _ _ => rfl) ?_
    refine C_seq ?_
    refine C_region ?_
    refine V_y (Y_assign rfl) rfl rfl rfl ?_
    refine V_to (fun _ _ => rfl) ?_
    obtain rfl := hm
    refine C_ret ?_
    try simp only [↓inBlock_ret, ↓then_ret]
    exact retQ rfl (Res.one Tryd.results24 rfl) ⟨rfl, rfl⟩

set_option maxRecDepth 4000 in
set_option maxHeartbeats 4000000 in
theorem cal_Calendar_open_c (w : World) {A : Nat → Prop} (hA : ∀ b, w.heap.size ≤ b → A b) (c : cal_Calendar) (v_c0 : Value) (h_c0 : Sl A w v_c0 c.zone.changes) (v_c1 : Value) (h_c1 : Sl A w v_c1 c.week) (v_c2 : Value) (h_c2 : Sl A w v_c2 c.specials) (from_ : Int) (to_ : Int) {r : (cal_Calendar × Int × Int)} (hm : cal_Calendar_open c from_ to_ = some r) : Ret Tryd.prog 25 #[.agg #[.int .i64 c.zone.offset, v_c0, v_c1, v_c2], .int .i64 from_, .int .i64 to_] w fun v w' => ∃ c0 c1 c2, v = .func (.func 38) #[] #[.pointer (some ⟨c0, 0, none⟩), .pointer (some ⟨c1, 0, none⟩), .pointer (some ⟨c2, 0, none⟩)] ∧ El A w' c0 0 r.1 ∧ El A w' c1 0 r.2.1 ∧ El A w' c2 0 r.2.2 ∧ Kp Dw w w' := by
  unfold cal_Calendar_open at hm
  refine enter Tryd.func25 rfl Tryd.ntmps25 rfl ?_
  have hA0 := hA
  have hB := Nat.le_refl w.heap.size
  have hK : Tr Dw w.heap.size A w A w := Tr.refl (Dw := Dw) hA
  have hH : Hp w.heap.size A w [] := Hp.nil
  refine C_seq ?_
  refine C_region ?_
  refine V_box rfl rfl ?_
  intro b7 w9 h10
  have hk12 := h10.kp (Dw := Dw)
  have h11 : El (α := cal_Calendar) A w9 b7 0 c := h10.el hA ⟨[.int .i64 c.zone.offset, v_c0], _, rfl, ⟨[.int .i64 c.zone.offset], _, rfl, rfl, ⟨_, rfl, h_c0⟩⟩, ⟨[v_c1], _, rfl, ⟨_, rfl, h_c1⟩, ⟨_, rfl, h_c2⟩⟩⟩
  have ht13 := Kp.tr (Dw := Dw) hk12 hA hB
  replace hH := Hp.kp (Dw := Dw) hH hk12
  replace h_c0 := Sl.tr (Dw := Dw) h_c0 ht13
  replace h_c1 := Sl.tr (Dw := Dw) h_c1 ht13
  replace h_c2 := Sl.tr (Dw := Dw) h_c2 ht13
  replace hK := Tr.trans (Dw := Dw) hK ht13
  replace hB := Nat.le_trans hB ht13.ex.size
  replace hA := ht13.new
  refine V_box rfl rfl ?_
  intro b14 w15 h16
  have hk18 := h16.kp (Dw := Dw)
  have h17 : El (α := Int) A w15 b14 0 from_ := h16.el hA rfl
  have ht19 := Kp.tr (Dw := Dw) hk18 hA hB
  replace hH := Hp.kp (Dw := Dw) hH hk18
  replace h_c0 := Sl.tr (Dw := Dw) h_c0 ht19
  replace h_c1 := Sl.tr (Dw := Dw) h_c1 ht19
  replace h_c2 := Sl.tr (Dw := Dw) h_c2 ht19
  replace h11 := El.tr (Dw := Dw) h11 ht19
  replace hK := Tr.trans (Dw := Dw) hK ht19
  replace hB := Nat.le_trans hB ht19.ex.size
  replace hA := ht19.new
  refine V_box rfl rfl ?_
  intro b20 w21 h22
  have hk24 := h22.kp (Dw := Dw)
  have h23 : El (α := Int) A w21 b20 0 to_ := h22.el hA rfl
  have ht25 := Kp.tr (Dw := Dw) hk24 hA hB
  replace hH := Hp.kp (Dw := Dw) hH hk24
  replace h_c0 := Sl.tr (Dw := Dw) h_c0 ht25
  replace h_c1 := Sl.tr (Dw := Dw) h_c1 ht25
  replace h_c2 := Sl.tr (Dw := Dw) h_c2 ht25
  replace h11 := El.tr (Dw := Dw) h11 ht25
  replace h17 := El.tr (Dw := Dw) h17 ht25
  replace hK := Tr.trans (Dw := Dw) hK ht25
  replace hB := Nat.le_trans hB ht25.ex.size
  replace hA := ht25.new
  refine V_y (Y_assign rfl) rfl rfl rfl ?_
  refine V_to (fun _ _ => rfl) ?_
  refine C_seq ?_
  refine C_region ?_
  refine V_y (Y_makeFunc rfl rfl) rfl rfl rfl ?_
  refine V_y (Y_assign rfl) rfl rfl rfl ?_
  refine V_to (fun _ _ => rfl) ?_
  obtain rfl := Option.some.inj hm
  refine C_ret ?_
  try simp only [↓inBlock_ret, ↓then_ret]
  exact retQ rfl (Res.one Tryd.results25 rfl) ⟨b7, b14, b20, rfl, (El.out (Dw := Dw) h11 hA0 hK), (El.out (Dw := Dw) h17 hA0 hK), (El.out (Dw := Dw) h23 hA0 hK), hK.kp⟩

set_option maxRecDepth 4000 in
set_option maxHeartbeats 4000000 in
theorem cal_Calendar_shifts_c (w : World) {A : Nat → Prop} (hA : ∀ b, w.heap.size ≤ b → A b) (c : cal_Calendar) (v_c0 : Value) (h_c0 : Sl A w v_c0 c.zone.changes) (v_c1 : Value) (h_c1 : Sl A w v_c1 c.week) (v_c2 : Value) (h_c2 : Sl A w v_c2 c.specials) (from_ : Int) (to_ : Int) {r : (cal_Calendar × Int × Int)} (hm : cal_Calendar_shifts c from_ to_ = some r) : Ret Tryd.prog 39 #[.agg #[.int .i64 c.zone.offset, v_c0, v_c1, v_c2], .int .i64 from_, .int .i64 to_] w fun v w' => ∃ c0 c1 c2, v = .func (.func 47) #[] #[.pointer (some ⟨c0, 0, none⟩), .pointer (some ⟨c1, 0, none⟩), .pointer (some ⟨c2, 0, none⟩)] ∧ El A w' c0 0 r.1 ∧ El A w' c1 0 r.2.1 ∧ El A w' c2 0 r.2.2 ∧ Kp Dw w w' := by
  unfold cal_Calendar_shifts at hm
  refine enter Tryd.func39 rfl Tryd.ntmps39 rfl ?_
  have hA0 := hA
  have hB := Nat.le_refl w.heap.size
  have hK : Tr Dw w.heap.size A w A w := Tr.refl (Dw := Dw) hA
  have hH : Hp w.heap.size A w [] := Hp.nil
  refine C_seq ?_
  refine C_region ?_
  refine V_box rfl rfl ?_
  intro b7 w9 h10
  have hk12 := h10.kp (Dw := Dw)
  have h11 : El (α := cal_Calendar) A w9 b7 0 c := h10.el hA ⟨[.int .i64 c.zone.offset, v_c0], _, rfl, ⟨[.int .i64 c.zone.offset], _, rfl, rfl, ⟨_, rfl, h_c0⟩⟩, ⟨[v_c1], _, rfl, ⟨_, rfl, h_c1⟩, ⟨_, rfl, h_c2⟩⟩⟩
  have ht13 := Kp.tr (Dw := Dw) hk12 hA hB
  replace hH := Hp.kp (Dw := Dw) hH hk12
  replace h_c0 := Sl.tr (Dw := Dw) h_c0 ht13
  replace h_c1 := Sl.tr (Dw := Dw) h_c1 ht13
  replace h_c2 := Sl.tr (Dw := Dw) h_c2 ht13
  replace hK := Tr.trans (Dw := Dw) hK ht13
  replace hB := Nat.le_trans hB ht13.ex.size
  replace hA := ht13.new
  refine V_box rfl rfl ?_
  intro b14 w15 h16
  have hk18 := h16.kp (Dw := Dw)
  have h17 : El (α := Int) A w15 b14 0 from_ := h16.el hA rfl
  have ht19 := Kp.tr (Dw := Dw) hk18 hA hB
  replace hH := Hp.kp (Dw := Dw) hH hk18
  replace h_c0 := Sl.tr (Dw := Dw) h_c0 ht19
  replace h_c1 := Sl.tr (Dw := Dw) h_c1 ht19
  replace h_c2 := Sl.tr (Dw := Dw) h_c2 ht19
  replace h11 := El.tr (Dw := Dw) h11 ht19
  replace hK := Tr.trans (Dw := Dw) hK ht19
  replace hB := Nat.le_trans hB ht19.ex.size
  replace hA := ht19.new
  refine V_box rfl rfl ?_
  intro b20 w21 h22
  have hk24 := h22.kp (Dw := Dw)
  have h23 : El (α := Int) A w21 b20 0 to_ := h22.el hA rfl
  have ht25 := Kp.tr (Dw := Dw) hk24 hA hB
  replace hH := Hp.kp (Dw := Dw) hH hk24
  replace h_c0 := Sl.tr (Dw := Dw) h_c0 ht25
  replace h_c1 := Sl.tr (Dw := Dw) h_c1 ht25
  replace h_c2 := Sl.tr (Dw := Dw) h_c2 ht25
  replace h11 := El.tr (Dw := Dw) h11 ht25
  replace h17 := El.tr (Dw := Dw) h17 ht25
  replace hK := Tr.trans (Dw := Dw) hK ht25
  replace hB := Nat.le_trans hB ht25.ex.size
  replace hA := ht25.new
  refine V_y (Y_assign rfl) rfl rfl rfl ?_
  refine V_to (fun _ _ => rfl) ?_
  refine C_seq ?_
  refine C_region ?_
  refine V_y (Y_makeFunc rfl rfl) rfl rfl rfl ?_
  refine V_y (Y_assign rfl) rfl rfl rfl ?_
  refine V_to (fun _ _ => rfl) ?_
  obtain rfl := Option.some.inj hm
  refine C_ret ?_
  try simp only [↓inBlock_ret, ↓then_ret]
  exact retQ rfl (Res.one Tryd.results39 rfl) ⟨b7, b14, b20, rfl, (El.out (Dw := Dw) h11 hA0 hK), (El.out (Dw := Dw) h17 hA0 hK), (El.out (Dw := Dw) h23 hA0 hK), hK.kp⟩

end Go.Proofs.YtehofjchjogbkaaDoor.W
