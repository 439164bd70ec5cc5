import Derived.Test.YtfbnaobiondblaaGreatDoorProg
import Derived.Test.YtfbnaobiondblaaGreatDoorGe
import Derived.Test.YtfbnaobiondblaaGreatDoorRouteAssignsM
import Derived.KernelRfl
import Derived.Test.YtfbnaobiondblaaGreatDoorSq
import Derived.Test.YtfbnaobiondblaaGreatDoorHw
import Derived.Test.YtfbnaobiondblaaGreatDoorHx
import Derived.Test.YtfbnaobiondblaaGreatDoorHs
import Derived.Shelf.Strings.SlTrimAscii
import Derived.Test.YtfbnaobiondblaaGreatDoorHa
import Derived.Test.YtfbnaobiondblaaGreatDoorGp
import Derived.Test.YtfbnaobiondblaaGreatDoorHd
import Derived.Test.YtfbnaobiondblaaGreatDoorGv
import Derived.Test.YtfbnaobiondblaaGreatDoorHe
namespace Go.Proofs.YtfbnaobiondblaaGreatDoor.W
open Go Go.RowKit Go.Pu Go.Gw Go.Proofs Go.Proofs.YtfbnaobiondblaaGreatDoor.M
set_option linter.unusedVariables false
set_option linter.unusedSimpArgs false
variable {Dw : Prop}
set_option maxHeartbeats 4000000
set_option maxRecDepth 4000
open Tryz
variable {A : Nat → Prop} {w : World} {b off : Nat}
theorem Tryz_info3 : Tryz.prog.info? 3 = some Tryz.t3 := by kernel_rfl
theorem Tryz_info4 : Tryz.prog.info? 4 = some Tryz.t4 := by kernel_rfl
theorem Tryz_info32 : Tryz.prog.info? 32 = some Tryz.t32 := by kernel_rfl
theorem Tryz_info43 : Tryz.prog.info? 43 = some Tryz.t43 := by kernel_rfl
theorem Tryz_info75 : Tryz.prog.info? 75 = some Tryz.t75 := by kernel_rfl
theorem Tryz_info127 : Tryz.prog.info? 127 = some Tryz.t127 := by kernel_rfl
theorem Tryz_info225 : Tryz.prog.info? 225 = some Tryz.t225 := by kernel_rfl
theorem Tryz_info281 : Tryz.prog.info? 281 = some Tryz.t281 := by kernel_rfl
theorem Tryz_places32 : ∀ fs, Tryz.prog.underlying 32 = some (.struct fs) → ∀ w : World, (Array.mapM (fun (f : Field) => do pure (f.offset, ← Go.sizeOf f.type)) fs).run Tryz.prog w = .ok #[(0, 1), (1, 1), (2, 1), (3, 1)] w := by
  intro fs h w
  rw [Tryz.underlying32] at h
  cases h
  kernel_rfl
theorem Tryz_places49 : ∀ fs, Tryz.prog.underlying 49 = some (.struct fs) → ∀ w : World, (Array.mapM (fun (f : Field) => do pure (f.offset, ← Go.sizeOf f.type)) fs).run Tryz.prog w = .ok #[(0, 1), (1, 1), (2, 1), (3, 1)] w := by
  intro fs h w
  rw [Tryz.underlying49] at h
  cases h
  kernel_rfl
theorem Tryz_places75 : ∀ fs, Tryz.prog.underlying 75 = some (.struct fs) → ∀ w : World, (Array.mapM (fun (f : Field) => do pure (f.offset, ← Go.sizeOf f.type)) fs).run Tryz.prog w = .ok #[(0, 1), (1, 1), (2, 1)] w := by
  intro fs h w
  rw [Tryz.underlying75] at h
  cases h
  kernel_rfl
theorem Tryz_places181 : ∀ fs, Tryz.prog.underlying 181 = some (.struct fs) → ∀ w : World, (Array.mapM (fun (f : Field) => do pure (f.offset, ← Go.sizeOf f.type)) fs).run Tryz.prog w = .ok #[(0, 1), (1, 1), (2, 1), (3, 1)] w := by
  intro fs h w
  rw [Tryz.underlying181] at h
  cases h
  kernel_rfl
theorem Tryz_places194 : ∀ fs, Tryz.prog.underlying 194 = some (.struct fs) → ∀ w : World, (Array.mapM (fun (f : Field) => do pure (f.offset, ← Go.sizeOf f.type)) fs).run Tryz.prog w = .ok #[(0, 1)] w := by
  intro fs h w
  rw [Tryz.underlying194] at h
  cases h
  kernel_rfl
theorem Tryz_places199 : ∀ fs, Tryz.prog.underlying 199 = some (.struct fs) → ∀ w : World, (Array.mapM (fun (f : Field) => do pure (f.offset, ← Go.sizeOf f.type)) fs).run Tryz.prog w = .ok #[(0, 1), (1, 1), (2, 1)] w := by
  intro fs h w
  rw [Tryz.underlying199] at h
  cases h
  kernel_rfl
theorem Tryz_places249 : ∀ fs, Tryz.prog.underlying 249 = some (.struct fs) → ∀ w : World, (Array.mapM (fun (f : Field) => do pure (f.offset, ← Go.sizeOf f.type)) fs).run Tryz.prog w = .ok #[(0, 4), (4, 1)] w := by
  intro fs h w
  rw [Tryz.underlying249] at h
  cases h
  kernel_rfl
theorem Tryz_places255 : ∀ fs, Tryz.prog.underlying 255 = some (.struct fs) → ∀ w : World, (Array.mapM (fun (f : Field) => do pure (f.offset, ← Go.sizeOf f.type)) fs).run Tryz.prog w = .ok #[(0, 1), (1, 1)] w := by
  intro fs h w
  rw [Tryz.underlying255] at h
  cases h
  kernel_rfl
theorem Tryz_places281 : ∀ fs, Tryz.prog.underlying 281 = some (.struct fs) → ∀ w : World, (Array.mapM (fun (f : Field) => do pure (f.offset, ← Go.sizeOf f.type)) fs).run Tryz.prog w = .ok #[(0, 1), (1, 1), (2, 1)] w := by
  intro fs h w
  rw [Tryz.underlying281] at h
  cases h
  kernel_rfl
set_option maxHeartbeats 2000000 in
theorem Tryz_eqt32_10000 (a0 : Int) (a1 : Int) (a2 : Int) (a3 : Int) (b0 : Int) (b1 : Int) (b2 : Int) (b3 : Int) (w : World) : (Op.equalIn 10000 32 (.agg #[.int .i64 a0, .int .i64 a1, .int .i64 a2, .int .i64 a3]) (.agg #[.int .i64 b0, .int .i64 b1, .int .i64 b2, .int .i64 b3])).run Tryz.prog w = .ok (a0 == b0 && (a1 == b1 && (a2 == b2 && (a3 == b3)))) w := by
  refine (run_equalIn_struct w 9999 32 _ _ (by kernel_rfl) (by kernel_rfl)).trans ?_
  rw [show Tryz.prog.fieldsOf 32 = _ from by unfold Program.fieldsOf; rw [Tryz.underlying32]]
  cases h0 : (a0 == b0) <;> cases h1 : (a1 == b1) <;> cases h2 : (a2 == b2) <;> cases h3 : (a3 == b3) <;> simp_all [Op.eqFields, part, strEq, Tryz.isAgg3, run_equalIn_int _ _ _ _ _ _ _ Tryz.underlying3]
theorem Tryz_eqg32 : Tryz.prog.eqGuardType Tryz.prog.depth 32 = false := by kernel_rfl
theorem Tryz_eqt127_10000 (a0 : ByteArray) (a1 : Int) (b0 : ByteArray) (b1 : Int) (w : World) : (Op.equalIn 10000 127 (.agg #[.string a0, .int .i64 a1]) (.agg #[.string b0, .int .i64 b1])).run Tryz.prog w = .ok (strEq a0 b0 && (a1 == b1)) w := by
  refine (run_equalIn_struct w 9999 127 _ _ (by kernel_rfl) (by kernel_rfl)).trans ?_
  rw [show Tryz.prog.fieldsOf 127 = _ from by unfold Program.fieldsOf; rw [Tryz.underlying127]]
  cases h0 : (strEq a0 b0) <;> cases h1 : (a1 == b1) <;> simp_all [Op.eqFields, part, strEq, Tryz.isAgg3, Tryz.isAgg9, run_equalIn_int _ _ _ _ _ _ _ Tryz.underlying3, run_equalIn_string _ _ _ _ _ Tryz.underlying9]
theorem Tryz_eqg127 : Tryz.prog.eqGuardType Tryz.prog.depth 127 = false := by kernel_rfl
theorem Tryz_mixed : Tryz.prog.follows .mixedOrders = true := by kernel_rfl
instance : GoT route_Skill := GoT.of (β := ByteArray × Int) fun x => (x.name, x.rank)
instance : Flat route_Skill := ⟨fun {A w A1 w1 cs x} h => Flat.flat (α := ByteArray × Int) (x := (x.name, x.rank)) (A := A) (w := w) h⟩
theorem El_route_Skill_ {A : Nat → Prop} {w : World} {b off : Nat} {x : route_Skill} (h : El A w b off x) : El (α := ByteArray × Int) A w b off (x.name, x.rank) := h
theorem El_route_Skill_0 {A : Nat → Prop} {w : World} {b off : Nat} {x : route_Skill} (h : El A w b off x) : El A w b (off + 0) x.name := El.fst (El_route_Skill_ h)
theorem El_route_Skill_1 {A : Nat → Prop} {w : World} {b off : Nat} {x : route_Skill} (h : El A w b off x) : El A w b (off + 1) x.rank := El.snd (El_route_Skill_ h)
theorem El_route_Skill {A : Nat → Prop} {w : World} {b off : Nat} {x : route_Skill} (h : El A w b off x) : At w b off [.string x.name, .int .i64 x.rank] ∧ True := by
  obtain ⟨h1, h2, cs, h3, h4⟩ := h
  obtain ⟨_, _, rfl, rfl, rfl⟩ := h3
  exact ⟨h4, trivial⟩
instance : GoT route_Person := GoT.of (β := Int × Int × Int × (List route_Skill)) fun x => (x.no, x.capacity, x.calendar, x.skills)
theorem El_route_Person_ {A : Nat → Prop} {w : World} {b off : Nat} {x : route_Person} (h : El A w b off x) : El (α := Int × Int × Int × (List route_Skill)) A w b off (x.no, x.capacity, x.calendar, x.skills) := h
theorem El_route_Person_0 {A : Nat → Prop} {w : World} {b off : Nat} {x : route_Person} (h : El A w b off x) : El A w b (off + 0) x.no := El.fst (El_route_Person_ h)
theorem El_route_Person_1 {A : Nat → Prop} {w : World} {b off : Nat} {x : route_Person} (h : El A w b off x) : El A w b (off + 1) x.capacity := El.fst (El.snd (El_route_Person_ h))
theorem El_route_Person_2 {A : Nat → Prop} {w : World} {b off : Nat} {x : route_Person} (h : El A w b off x) : El A w b (off + 2) x.calendar := El.fst (El.snd (El.snd (El_route_Person_ h)))
theorem El_route_Person_3 {A : Nat → Prop} {w : World} {b off : Nat} {x : route_Person} (h : El A w b off x) : El A w b (off + 3) x.skills := El.snd (El.snd (El.snd (El_route_Person_ h)))
theorem El_route_Person {A : Nat → Prop} {w : World} {b off : Nat} {x : route_Person} (h : El A w b off x) : ∃ v1, At w b off [.int .i64 x.no, .int .i64 x.capacity, .int .i64 x.calendar, v1] ∧ Sl A w v1 x.skills := by
  obtain ⟨h1, h2, cs, h3, h4⟩ := h
  obtain ⟨_, _, rfl, rfl, ⟨_, _, rfl, rfl, ⟨_, _, rfl, rfl, ⟨u1, rfl, g1⟩⟩⟩⟩ := h3
  exact ⟨u1, h4, g1⟩
instance : GoT cal_Change := GoT.of (β := Int × Int) fun x => (x.at_, x.offset)
instance : Flat cal_Change := ⟨fun {A w A1 w1 cs x} h => Flat.flat (α := Int × Int) (x := (x.at_, x.offset)) (A := A) (w := w) h⟩
theorem El_cal_Change_ {A : Nat → Prop} {w : World} {b off : Nat} {x : cal_Change} (h : El A w b off x) : El (α := Int × Int) A w b off (x.at_, x.offset) := h
theorem El_cal_Change_0 {A : Nat → Prop} {w : World} {b off : Nat} {x : cal_Change} (h : El A w b off x) : El A w b (off + 0) x.at_ := El.fst (El_cal_Change_ h)
theorem El_cal_Change_1 {A : Nat → Prop} {w : World} {b off : Nat} {x : cal_Change} (h : El A w b off x) : El A w b (off + 1) x.offset := El.snd (El_cal_Change_ h)
theorem El_cal_Change {A : Nat → Prop} {w : World} {b off : Nat} {x : cal_Change} (h : El A w b off x) : At w b off [.int .i64 x.at_, .int .i64 x.offset] ∧ True := by
  obtain ⟨h1, h2, cs, h3, h4⟩ := h
  obtain ⟨_, _, rfl, rfl, rfl⟩ := h3
  exact ⟨h4, trivial⟩
instance : GoT cal_Zone := GoT.of (β := Int × (List cal_Change)) fun x => (x.offset, x.changes)
theorem El_cal_Zone_ {A : Nat → Prop} {w : World} {b off : Nat} {x : cal_Zone} (h : El A w b off x) : El (α := Int × (List cal_Change)) A w b off (x.offset, x.changes) := h
theorem El_cal_Zone_0 {A : Nat → Prop} {w : World} {b off : Nat} {x : cal_Zone} (h : El A w b off x) : El A w b (off + 0) x.offset := El.fst (El_cal_Zone_ h)
theorem El_cal_Zone_1 {A : Nat → Prop} {w : World} {b off : Nat} {x : cal_Zone} (h : El A w b off x) : El A w b (off + 1) x.changes := El.snd (El_cal_Zone_ h)
theorem El_cal_Zone {A : Nat → Prop} {w : World} {b off : Nat} {x : cal_Zone} (h : El A w b off x) : ∃ v1, At w b off [.int .i64 x.offset, v1] ∧ Sl A w v1 x.changes := by
  obtain ⟨h1, h2, cs, h3, h4⟩ := h
  obtain ⟨_, _, rfl, rfl, ⟨u1, rfl, g1⟩⟩ := h3
  exact ⟨u1, h4, g1⟩
instance : GoT cal_Shift := GoT.of (β := Int × Int × Int) fun x => (x.day, x.from_, x.to_)
instance : Flat cal_Shift := ⟨fun {A w A1 w1 cs x} h => Flat.flat (α := Int × Int × Int) (x := (x.day, x.from_, x.to_)) (A := A) (w := w) h⟩
theorem El_cal_Shift_ {A : Nat → Prop} {w : World} {b off : Nat} {x : cal_Shift} (h : El A w b off x) : El (α := Int × Int × Int) A w b off (x.day, x.from_, x.to_) := h
theorem El_cal_Shift_0 {A : Nat → Prop} {w : World} {b off : Nat} {x : cal_Shift} (h : El A w b off x) : El A w b (off + 0) x.day := El.fst (El_cal_Shift_ h)
theorem El_cal_Shift_1 {A : Nat → Prop} {w : World} {b off : Nat} {x : cal_Shift} (h : El A w b off x) : El A w b (off + 1) x.from_ := El.fst (El.snd (El_cal_Shift_ h))
theorem El_cal_Shift_2 {A : Nat → Prop} {w : World} {b off : Nat} {x : cal_Shift} (h : El A w b off x) : El A w b (off + 2) x.to_ := El.snd (El.snd (El_cal_Shift_ h))
theorem El_cal_Shift {A : Nat → Prop} {w : World} {b off : Nat} {x : cal_Shift} (h : El A w b off x) : At w b off [.int .i64 x.day, .int .i64 x.from_, .int .i64 x.to_] ∧ True := by
  obtain ⟨h1, h2, cs, h3, h4⟩ := h
  obtain ⟨_, _, rfl, rfl, ⟨_, _, rfl, rfl, rfl⟩⟩ := h3
  exact ⟨h4, trivial⟩
instance : GoT cal_Special := GoT.of (β := Int × (List cal_Shift)) fun x => (x.day, x.shifts)
theorem El_cal_Special_ {A : Nat → Prop} {w : World} {b off : Nat} {x : cal_Special} (h : El A w b off x) : El (α := Int × (List cal_Shift)) A w b off (x.day, x.shifts) := h
theorem El_cal_Special_0 {A : Nat → Prop} {w : World} {b off : Nat} {x : cal_Special} (h : El A w b off x) : El A w b (off + 0) x.day := El.fst (El_cal_Special_ h)
theorem El_cal_Special_1 {A : Nat → Prop} {w : World} {b off : Nat} {x : cal_Special} (h : El A w b off x) : El A w b (off + 1) x.shifts := El.snd (El_cal_Special_ h)
theorem El_cal_Special {A : Nat → Prop} {w : World} {b off : Nat} {x : cal_Special} (h : El A w b off x) : ∃ v1, At w b off [.int .i64 x.day, v1] ∧ Sl A w v1 x.shifts := by
  obtain ⟨h1, h2, cs, h3, h4⟩ := h
  obtain ⟨_, _, rfl, rfl, ⟨u1, rfl, g1⟩⟩ := h3
  exact ⟨u1, h4, g1⟩
instance : GoT cal_Calendar := GoT.of (β := cal_Zone × (List cal_Shift) × (List cal_Special)) fun x => (x.zone, x.week, x.specials)
theorem El_cal_Calendar_ {A : Nat → Prop} {w : World} {b off : Nat} {x : cal_Calendar} (h : El A w b off x) : El (α := cal_Zone × (List cal_Shift) × (List cal_Special)) A w b off (x.zone, x.week, x.specials) := h
theorem El_cal_Calendar_0 {A : Nat → Prop} {w : World} {b off : Nat} {x : cal_Calendar} (h : El A w b off x) : El A w b (off + 0) x.zone := El.fst (El_cal_Calendar_ h)
theorem El_cal_Calendar_1 {A : Nat → Prop} {w : World} {b off : Nat} {x : cal_Calendar} (h : El A w b off x) : El A w b (off + 2) x.week := El.fst (El.snd (El_cal_Calendar_ h))
theorem El_cal_Calendar_2 {A : Nat → Prop} {w : World} {b off : Nat} {x : cal_Calendar} (h : El A w b off x) : El A w b (off + 3) x.specials := El.snd (El.snd (El_cal_Calendar_ h))
theorem El_cal_Calendar {A : Nat → Prop} {w : World} {b off : Nat} {x : cal_Calendar} (h : El A w b off x) : ∃ v1 v3 v5, At w b off [.int .i64 x.zone.offset, v1, v3, v5] ∧ Sl A w v1 x.zone.changes ∧ Sl A w v3 x.week ∧ Sl A w v5 x.specials := by
  obtain ⟨h1, h2, cs, h3, h4⟩ := h
  obtain ⟨_, _, rfl, ⟨_, _, rfl, rfl, ⟨u1, rfl, g1⟩⟩, ⟨_, _, rfl, ⟨u2, rfl, g2⟩, ⟨u3, rfl, g3⟩⟩⟩ := h3
  exact ⟨u1, u2, u3, h4, g1, g2, g3⟩
theorem Rep_cal_Calendar {A : Nat → Prop} {w : World} {cs : List Value} {x : cal_Calendar} (h : GoT.rep A w cs x) : ∃ v1 v3 v5, cs = [.int .i64 x.zone.offset, v1, v3, v5] ∧ Sl A w v1 x.zone.changes ∧ Sl A w v3 x.week ∧ Sl A w v5 x.specials := by
  obtain ⟨_, _, rfl, ⟨_, _, rfl, rfl, ⟨u1, rfl, g1⟩⟩, ⟨_, _, rfl, ⟨u2, rfl, g2⟩, ⟨u3, rfl, g3⟩⟩⟩ := h
  exact ⟨u1, u2, u3, rfl, g1, g2, g3⟩
instance : GoT route_Step := GoT.of (β := Int × Int × Bool) fun x => (x.after, x.lower, x.any)
instance : Flat route_Step := ⟨fun {A w A1 w1 cs x} h => Flat.flat (α := Int × Int × Bool) (x := (x.after, x.lower, x.any)) (A := A) (w := w) h⟩
theorem El_route_Step_ {A : Nat → Prop} {w : World} {b off : Nat} {x : route_Step} (h : El A w b off x) : El (α := Int × Int × Bool) A w b off (x.after, x.lower, x.any) := h
theorem El_route_Step_0 {A : Nat → Prop} {w : World} {b off : Nat} {x : route_Step} (h : El A w b off x) : El A w b (off + 0) x.after := El.fst (El_route_Step_ h)
theorem El_route_Step_1 {A : Nat → Prop} {w : World} {b off : Nat} {x : route_Step} (h : El A w b off x) : El A w b (off + 1) x.lower := El.fst (El.snd (El_route_Step_ h))
theorem El_route_Step_2 {A : Nat → Prop} {w : World} {b off : Nat} {x : route_Step} (h : El A w b off x) : El A w b (off + 2) x.any := El.snd (El.snd (El_route_Step_ h))
theorem El_route_Step {A : Nat → Prop} {w : World} {b off : Nat} {x : route_Step} (h : El A w b off x) : At w b off [.int .i64 x.after, .int .i64 x.lower, .bool x.any] ∧ True := by
  obtain ⟨h1, h2, cs, h3, h4⟩ := h
  obtain ⟨_, _, rfl, rfl, ⟨_, _, rfl, rfl, rfl⟩⟩ := h3
  exact ⟨h4, trivial⟩
instance : GoT route_assigner := GoT.of (β := (List route_Person) × (List cal_Calendar) × (List route_Step) × (List Bool)) fun x => (x.people, x.cals, x.steps, x.away)
theorem El_route_assigner_ {A : Nat → Prop} {w : World} {b off : Nat} {x : route_assigner} (h : El A w b off x) : El (α := (List route_Person) × (List cal_Calendar) × (List route_Step) × (List Bool)) A w b off (x.people, x.cals, x.steps, x.away) := h
theorem El_route_assigner_0 {A : Nat → Prop} {w : World} {b off : Nat} {x : route_assigner} (h : El A w b off x) : El A w b (off + 0) x.people := El.fst (El_route_assigner_ h)
theorem El_route_assigner_1 {A : Nat → Prop} {w : World} {b off : Nat} {x : route_assigner} (h : El A w b off x) : El A w b (off + 1) x.cals := El.fst (El.snd (El_route_assigner_ h))
theorem El_route_assigner_2 {A : Nat → Prop} {w : World} {b off : Nat} {x : route_assigner} (h : El A w b off x) : El A w b (off + 2) x.steps := El.fst (El.snd (El.snd (El_route_assigner_ h)))
theorem El_route_assigner_3 {A : Nat → Prop} {w : World} {b off : Nat} {x : route_assigner} (h : El A w b off x) : El A w b (off + 3) x.away := El.snd (El.snd (El.snd (El_route_assigner_ h)))
instance : GoT route_desk := GoT.of (β := (List route_Person) × (List Bool) × (List Int) × (List Int)) fun x => (x.people, x.duty, x.weights, x.latest)
theorem El_route_desk_ {A : Nat → Prop} {w : World} {b off : Nat} {x : route_desk} (h : El A w b off x) : El (α := (List route_Person) × (List Bool) × (List Int) × (List Int)) A w b off (x.people, x.duty, x.weights, x.latest) := h
theorem El_route_desk_0 {A : Nat → Prop} {w : World} {b off : Nat} {x : route_desk} (h : El A w b off x) : El A w b (off + 0) x.people := El.fst (El_route_desk_ h)
theorem El_route_desk_1 {A : Nat → Prop} {w : World} {b off : Nat} {x : route_desk} (h : El A w b off x) : El A w b (off + 1) x.duty := El.fst (El.snd (El_route_desk_ h))
theorem El_route_desk_2 {A : Nat → Prop} {w : World} {b off : Nat} {x : route_desk} (h : El A w b off x) : El A w b (off + 2) x.weights := El.fst (El.snd (El.snd (El_route_desk_ h)))
theorem El_route_desk_3 {A : Nat → Prop} {w : World} {b off : Nat} {x : route_desk} (h : El A w b off x) : El A w b (off + 3) x.latest := El.snd (El.snd (El.snd (El_route_desk_ h)))
instance : GoT portref2_duty := GoT.of (β := (List route_Person) × (List cal_Calendar) × (List (Int × Bool))) fun x => (x.people, x.clocks, x.away)
instance : GoT route_Held := GoT.of (β := Int × Int × Int × Int) fun x => (x.ticket, x.person, x.weight, x.since)
instance : Flat route_Held := ⟨fun {A w A1 w1 cs x} h => Flat.flat (α := Int × Int × Int × Int) (x := (x.ticket, x.person, x.weight, x.since)) (A := A) (w := w) h⟩
theorem El_route_Held_ {A : Nat → Prop} {w : World} {b off : Nat} {x : route_Held} (h : El A w b off x) : El (α := Int × Int × Int × Int) A w b off (x.ticket, x.person, x.weight, x.since) := h
theorem El_route_Held_0 {A : Nat → Prop} {w : World} {b off : Nat} {x : route_Held} (h : El A w b off x) : El A w b (off + 0) x.ticket := El.fst (El_route_Held_ h)
theorem El_route_Held_1 {A : Nat → Prop} {w : World} {b off : Nat} {x : route_Held} (h : El A w b off x) : El A w b (off + 1) x.person := El.fst (El.snd (El_route_Held_ h))
theorem El_route_Held_2 {A : Nat → Prop} {w : World} {b off : Nat} {x : route_Held} (h : El A w b off x) : El A w b (off + 2) x.weight := El.fst (El.snd (El.snd (El_route_Held_ h)))
theorem El_route_Held_3 {A : Nat → Prop} {w : World} {b off : Nat} {x : route_Held} (h : El A w b off x) : El A w b (off + 3) x.since := El.snd (El.snd (El.snd (El_route_Held_ h)))
theorem El_route_Held {A : Nat → Prop} {w : World} {b off : Nat} {x : route_Held} (h : El A w b off x) : At w b off [.int .i64 x.ticket, .int .i64 x.person, .int .i64 x.weight, .int .i64 x.since] ∧ True := by
  obtain ⟨h1, h2, cs, h3, h4⟩ := h
  obtain ⟨_, _, rfl, rfl, ⟨_, _, rfl, rfl, ⟨_, _, rfl, rfl, rfl⟩⟩⟩ := h3
  exact ⟨h4, trivial⟩
theorem Rep_route_Held {A : Nat → Prop} {w : World} {cs : List Value} {x : route_Held} (h : GoT.rep A w cs x) : cs = [.int .i64 x.ticket, .int .i64 x.person, .int .i64 x.weight, .int .i64 x.since] ∧ True := by
  obtain ⟨_, _, rfl, rfl, ⟨_, _, rfl, rfl, ⟨_, _, rfl, rfl, rfl⟩⟩⟩ := h
  exact ⟨rfl, trivial⟩
instance : GoT route_Work := GoT.of (β := Int × Int × Int × Int × Int × (List route_Skill)) fun x => (x.ticket, x.weight, x.urgency, x.since, x.former, x.needs)
theorem El_route_Work_ {A : Nat → Prop} {w : World} {b off : Nat} {x : route_Work} (h : El A w b off x) : El (α := Int × Int × Int × Int × Int × (List route_Skill)) A w b off (x.ticket, x.weight, x.urgency, x.since, x.former, x.needs) := h
theorem El_route_Work_0 {A : Nat → Prop} {w : World} {b off : Nat} {x : route_Work} (h : El A w b off x) : El A w b (off + 0) x.ticket := El.fst (El_route_Work_ h)
theorem El_route_Work_1 {A : Nat → Prop} {w : World} {b off : Nat} {x : route_Work} (h : El A w b off x) : El A w b (off + 1) x.weight := El.fst (El.snd (El_route_Work_ h))
theorem El_route_Work_2 {A : Nat → Prop} {w : World} {b off : Nat} {x : route_Work} (h : El A w b off x) : El A w b (off + 2) x.urgency := El.fst (El.snd (El.snd (El_route_Work_ h)))
theorem El_route_Work_3 {A : Nat → Prop} {w : World} {b off : Nat} {x : route_Work} (h : El A w b off x) : El A w b (off + 3) x.since := El.fst (El.snd (El.snd (El.snd (El_route_Work_ h))))
theorem El_route_Work_4 {A : Nat → Prop} {w : World} {b off : Nat} {x : route_Work} (h : El A w b off x) : El A w b (off + 4) x.former := El.fst (El.snd (El.snd (El.snd (El.snd (El_route_Work_ h)))))
theorem El_route_Work_5 {A : Nat → Prop} {w : World} {b off : Nat} {x : route_Work} (h : El A w b off x) : El A w b (off + 5) x.needs := El.snd (El.snd (El.snd (El.snd (El.snd (El_route_Work_ h)))))
theorem El_route_Work {A : Nat → Prop} {w : World} {b off : Nat} {x : route_Work} (h : El A w b off x) : ∃ v1, At w b off [.int .i64 x.ticket, .int .i64 x.weight, .int .i64 x.urgency, .int .i64 x.since, .int .i64 x.former, v1] ∧ Sl A w v1 x.needs := by
  obtain ⟨h1, h2, cs, h3, h4⟩ := h
  obtain ⟨_, _, rfl, rfl, ⟨_, _, rfl, rfl, ⟨_, _, rfl, rfl, ⟨_, _, rfl, rfl, ⟨_, _, rfl, rfl, ⟨u1, rfl, g1⟩⟩⟩⟩⟩⟩ := h3
  exact ⟨u1, h4, g1⟩
instance : GoT cal_Span := GoT.of (β := Int × Int) fun x => (x.from_, x.to_)
instance : Flat cal_Span := ⟨fun {A w A1 w1 cs x} h => Flat.flat (α := Int × Int) (x := (x.from_, x.to_)) (A := A) (w := w) h⟩
theorem El_cal_Span_ {A : Nat → Prop} {w : World} {b off : Nat} {x : cal_Span} (h : El A w b off x) : El (α := Int × Int) A w b off (x.from_, x.to_) := h
theorem El_cal_Span_0 {A : Nat → Prop} {w : World} {b off : Nat} {x : cal_Span} (h : El A w b off x) : El A w b (off + 0) x.from_ := El.fst (El_cal_Span_ h)
theorem El_cal_Span_1 {A : Nat → Prop} {w : World} {b off : Nat} {x : cal_Span} (h : El A w b off x) : El A w b (off + 1) x.to_ := El.snd (El_cal_Span_ h)
theorem El_cal_Span {A : Nat → Prop} {w : World} {b off : Nat} {x : cal_Span} (h : El A w b off x) : At w b off [.int .i64 x.from_, .int .i64 x.to_] ∧ True := by
  obtain ⟨h1, h2, cs, h3, h4⟩ := h
  obtain ⟨_, _, rfl, rfl, rfl⟩ := h3
  exact ⟨h4, trivial⟩
instance : GoT cal_part := GoT.of (β := Int × Int × Int) fun x => (x.from_, x.to_, x.offset)
instance : Flat cal_part := ⟨fun {A w A1 w1 cs x} h => Flat.flat (α := Int × Int × Int) (x := (x.from_, x.to_, x.offset)) (A := A) (w := w) h⟩
theorem El_cal_part_ {A : Nat → Prop} {w : World} {b off : Nat} {x : cal_part} (h : El A w b off x) : El (α := Int × Int × Int) A w b off (x.from_, x.to_, x.offset) := h
theorem El_cal_part_0 {A : Nat → Prop} {w : World} {b off : Nat} {x : cal_part} (h : El A w b off x) : El A w b (off + 0) x.from_ := El.fst (El_cal_part_ h)
theorem El_cal_part_1 {A : Nat → Prop} {w : World} {b off : Nat} {x : cal_part} (h : El A w b off x) : El A w b (off + 1) x.to_ := El.fst (El.snd (El_cal_part_ h))
theorem El_cal_part_2 {A : Nat → Prop} {w : World} {b off : Nat} {x : cal_part} (h : El A w b off x) : El A w b (off + 2) x.offset := El.snd (El.snd (El_cal_part_ h))
theorem El_cal_part {A : Nat → Prop} {w : World} {b off : Nat} {x : cal_part} (h : El A w b off x) : At w b off [.int .i64 x.from_, .int .i64 x.to_, .int .i64 x.offset] ∧ True := by
  obtain ⟨h1, h2, cs, h3, h4⟩ := h
  obtain ⟨_, _, rfl, rfl, ⟨_, _, rfl, rfl, rfl⟩⟩ := h3
  exact ⟨h4, trivial⟩
instance : GoT portref2_meter := GoT.of (β := (List cal_Calendar)) fun x => (x.clocks)
abbrev o_281 (v : Value) (l : List cal_part) : Ob := obS (α := cal_part) 281 v l
abbrev o_75 (v : Value) (l : List cal_Shift) : Ob := obS (α := cal_Shift) 75 v l
abbrev o_127 (v : Value) (l : List route_Skill) : Ob := obS (α := route_Skill) 127 v l
abbrev o_43 (v : Value) (l : List route_Work) : Ob := obS (α := route_Work) 43 v l
abbrev o_4 (v : Value) (l : List Bool) : Ob := obS (α := Bool) 4 v l
abbrev o_32 (v : Value) (l : List route_Held) : Ob := obS (α := route_Held) 32 v l
abbrev o_3 (v : Value) (l : List Int) : Ob := obS (α := Int) 3 v l
theorem route_within_c (w : World) (n : Int) (low : Int) (high : Int) : Ret prog 62 #[Ii n, Ii low, Ii high] w fun v w' => v = .bool (route_within n low high) ∧ w = w' := by
 generalize hm : route_within n low high = r
 unfold route_within at hm
 refine enter func62 rfl ntmps62 rfl ?_
 refine Sr (As (To ?_))
 refine Sr (Mm (Mm (Vy (Y_geq rfl rfl) (Mm ?_))))
 refine V_cut 4 (fun _ : Unit => [(14, .bool ((decide (low ≤ n)) && (decide (n ≤ high))))]) (fun _ w' => w = w') ?_ ?_
 ·simp only [List.take, List.drop]
  rcases Be (decide (low ≤ n)) with hc1 | hc1
  ·refine Gf hc1 (Mm (Gf hc1 (Mm (Gf hc1 (Vy (Y_leq rfl rfl) (Vy (Y_pick_te rfl hc1 rfl) ?_))))))
   exact V_end fun a ha => ⟨(), ha.sub ⟨(by rw [hc1]; rfl), trivial⟩, rfl⟩
  refine Gm hc1 (Gm hc1 (Gm hc1 (Vy (Y_pick_fe rfl hc1 rfl) ?_)))
  exact V_end fun a ha => ⟨(), ha.sub ⟨(by rw [hc1]; rfl), trivial⟩, rfl⟩
 simp only [List.take, List.drop]
 rintro _ _ rfl
 refine As (To ?_)
 obtain rfl := hm
 refine Rt (Res.one results62 rfl) ?_
 exact ⟨rfl, rfl⟩
theorem route_name_c (w : World) (s : ByteArray) {r : Bool} (hm : route_name s = some r) : Ret prog 100 #[.string s] w fun v w' => v = .bool r ∧ w = w' := by
 unfold route_name at hm
 refine enter func100 rfl ntmps100 rfl ?_
 refine Sr (As (To ?_))
 refine C_seq (Sr (Mm (Vy (Y_lenStr rfl underlying9 rfl) (Mm (To ?_)))))
 obtain ⟨o1, ho1, hm⟩ := Bs hm
 refine C_cutG (ι := Int) (fun (s2 : Int) => [(0, .string s)]) (fun (s2 : Int) => fun w' => o1 = .fin s2 ∧ w = w') ?_ ?_
 ·refine C_block ?_
  refine C_while ho1 (fun s8 a w' => ∃ i : Unit, Has ⟨41, [], none⟩ a ([(0, .string s), (6, Ii (s.size : Int)), (7, Ii s8)]) ∧ w = w') (fun a ha => ⟨(), ha.sb, rfl⟩) ?_
  rintro K s8 a _ ⟨_, ha30, rfl⟩ K16
  refine C_of ?_ ha30
  obtain ⟨x10, h11, h12⟩ := K16
  refine Sr (Vy (Y_lss rfl rfl) (To ?_))
  refine C_seq ?_
  refine Cc (fun hc17 => ?_) fun hc17 => ?_
  ·rw [if_pos hc17] at h11
   refine Sk ?_
   refine C_seq (C_block (Sr (Mm (As (To ?_)))))
   refine Sr (Mm (Mm ?_))
   obtain ⟨x18, hx18, h11⟩ := Bs h11
   refine Vy (Y_indexS hx18 underlying9 rfl rfl) (As (To ?_))
   refine Sr (Mm (Vy (Y_geq rfl rfl) (Mm ?_)))
   refine V_cut 3 (fun _ : Unit => [(0, .string s), (4, .int .u8 (x18.toNat : Int)), (6, Ii (s.size : Int)), (7, Ii s8), (18, .bool ((decide ((97 : Int) ≤ (x18.toNat : Int))) && (decide ((x18.toNat : Int) ≤ 122))))]) (fun _ w' => w = w') ?_ ?_
   ·simp only [List.take, List.drop]
    rcases Be (decide ((97 : Int) ≤ (x18.toNat : Int))) with hc19 | hc19
    ·refine Gf hc19 (Mm (Gf hc19 (Vy (Y_leq rfl rfl) (Vy (Y_pick_te rfl hc19 rfl) ?_))))
     exact V_end fun a ha => ⟨(), ha.sub ⟨rfl, rfl, rfl, rfl, (by rw [hc19]; rfl), trivial⟩, rfl⟩
    refine Gm hc19 (Gm hc19 (Vy (Y_pick_fe rfl hc19 rfl) ?_))
    exact V_end fun a ha => ⟨(), ha.sub ⟨rfl, rfl, rfl, rfl, (by rw [hc19]; rfl), trivial⟩, rfl⟩
   simp only [List.take, List.drop]
   rintro _ _ rfl
   refine Vy (Y_not rfl) (Mm ?_)
   refine V_cut 8 (fun _ : Unit => [(0, .string s), (4, .int .u8 (x18.toNat : Int)), (6, Ii (s.size : Int)), (7, Ii s8), (28, .bool ((!((decide ((97 : Int) ≤ (x18.toNat : Int))) && (decide ((x18.toNat : Int) ≤ 122)))) && (!((decide ((48 : Int) ≤ (x18.toNat : Int))) && (decide ((x18.toNat : Int) ≤ 57))))))]) (fun _ w' => w = w') ?_ ?_
   ·simp only [List.take, List.drop]
    rcases Be (!((decide ((97 : Int) ≤ (x18.toNat : Int))) && (decide ((x18.toNat : Int) ≤ 122)))) with hc21 | hc21
    ·refine Gf hc21 (Mm (Gf hc21 (Vy (Y_geq rfl rfl) (Gf hc21 (Mm ?_)))))
     refine V_cut 3 (fun _ : Unit => [(0, .string s), (4, .int .u8 (x18.toNat : Int)), (6, Ii (s.size : Int)), (7, Ii s8), (20, .bool (!((decide ((97 : Int) ≤ (x18.toNat : Int))) && (decide ((x18.toNat : Int) ≤ 122))))), (26, .bool ((decide ((48 : Int) ≤ (x18.toNat : Int))) && (decide ((x18.toNat : Int) ≤ 57))))]) (fun _ w' => w = w') ?_ ?_
     ·simp only [List.take, List.drop]
      rcases Be (decide ((48 : Int) ≤ (x18.toNat : Int))) with hc23 | hc23
      ·refine Gf hc23 (Mm (Gf hc23 (Vy (Y_leq rfl rfl) (Gf hc21 (Vy (Y_pick_te rfl hc23 rfl) ?_)))))
       exact V_end fun a ha => ⟨(), ha.sub ⟨rfl, rfl, rfl, rfl, rfl, (by rw [hc23]; rfl), trivial⟩, rfl⟩
      refine Gm hc23 (Gm hc23 (Gf hc21 (Vy (Y_pick_fe rfl hc23 rfl) ?_)))
      exact V_end fun a ha => ⟨(), ha.sub ⟨rfl, rfl, rfl, rfl, rfl, (by rw [hc23]; rfl), trivial⟩, rfl⟩
     simp only [List.take, List.drop]
     rintro _ _ rfl
     refine Gf hc21 (Vy (Y_not rfl) (Vy (Y_pick_te rfl hc21 rfl) ?_))
     exact V_end fun a ha => ⟨(), ha.sub ⟨rfl, rfl, rfl, rfl, (by rw [hc21]; rfl), trivial⟩, rfl⟩
    refine Gm hc21 (Gm hc21 (Gm hc21 ?_))
    refine V_gu rfl rfl rfl rfl rfl ?_
    refine V_gu rfl rfl rfl rfl rfl ?_
    refine Gm hc21 (Gm hc21 (Vy (Y_pick_fe rfl hc21 rfl) ?_))
    exact V_end fun a ha => ⟨(), ha.sub ⟨rfl, rfl, rfl, rfl, (by rw [hc21]; rfl), trivial⟩, rfl⟩
   simp only [List.take, List.drop]
   rintro _ _ rfl
   refine Mm ?_
   refine V_cut 3 (fun _ : Unit => [(0, .string s), (6, Ii (s.size : Int)), (7, Ii s8), (32, .bool (((!((decide ((97 : Int) ≤ (x18.toNat : Int))) && (decide ((x18.toNat : Int) ≤ 122)))) && (!((decide ((48 : Int) ≤ (x18.toNat : Int))) && (decide ((x18.toNat : Int) ≤ 57))))) && ((x18.toNat : Int) != 95)))]) (fun _ w' => w = w') ?_ ?_
   ·simp only [List.take, List.drop]
    rcases Be (((!((decide ((97 : Int) ≤ (x18.toNat : Int))) && (decide ((x18.toNat : Int) ≤ 122)))) && (!((decide ((48 : Int) ≤ (x18.toNat : Int))) && (decide ((x18.toNat : Int) ≤ 57)))))) with hc25 | hc25
    ·refine Gf hc25 (Mm (Gf hc25 (Vy (Y_neq rfl rfl) (Vy (Y_pick_te rfl hc25 rfl) ?_))))
     exact V_end fun a ha => ⟨(), ha.sub ⟨rfl, rfl, rfl, (by rw [hc25]; rfl), trivial⟩, rfl⟩
    refine Gm hc25 (Gm hc25 (Vy (Y_pick_fe rfl hc25 rfl) ?_))
    exact V_end fun a ha => ⟨(), ha.sub ⟨rfl, rfl, rfl, (by rw [hc25]; rfl), trivial⟩, rfl⟩
   simp only [List.take, List.drop]
   rintro _ _ rfl
   refine To ?_
   refine Cc (fun hc27 => ?_) fun hc27 => ?_
   ·rw [if_pos hc27] at h11
    refine Sr (As (To ?_))
    obtain rfl := Oi h11
    obtain rfl := (h12 : Lp.rt _ = _)
    rw [Lp.andThen_rt] at hm
    obtain rfl := Oi hm
    refine Rt (Res.one results100 rfl) ?_
    exact ⟨rfl, rfl⟩
   rw [if_neg (nt hc27)] at h11
   refine Sk ?_
   refine C_region (Vy (Y_addI rfl rfl) (Mm ?_))
   obtain rfl := Oi h11
   refine V_end (fun a ha28 => ?_)
   exact ⟨w64 (s8 + 1), h12, ⟨(), ha28.sb, rfl⟩⟩
  rw [if_neg (nt hc17)] at h11
  obtain rfl := Oi h11
  refine C_exit (fun a ha29 => ?_)
  exact ⟨s8, ha29.sb, ⟨h12.symm, rfl⟩⟩
 rintro s2 _ ⟨rfl, rfl⟩ a ha7
 rw [Lp.andThen_fin] at hm
 refine C_at (n := ⟨41, [], none⟩) (fun _ _ => rfl) ?_ ha7
 refine Sr (Mm (Vy (Y_sneq rfl rfl) (Mm ?_)))
 refine V_cut 4 (fun _ : Unit => [(40, .bool ((!(strEq s (⟨#[]⟩ : ByteArray))) && (decide ((s.size : Int) ≤ 20))))]) (fun _ w' => w = w') ?_ ?_
 ·simp only [List.take, List.drop]
  rcases Be (!(strEq s (⟨#[]⟩ : ByteArray))) with hc31 | hc31
  ·refine Gf hc31 (Mm (Gf hc31 (Vy (Y_lenStr rfl underlying9 rfl) (Gf hc31 (Vy (Y_leq rfl rfl) (Vy (Y_pick_te rfl hc31 rfl) ?_))))))
   exact V_end fun a ha => ⟨(), ha.sub ⟨(by rw [hc31]; rfl), trivial⟩, rfl⟩
  refine Gm hc31 (Gm hc31 (Gm hc31 (Vy (Y_pick_fe rfl hc31 rfl) ?_)))
  exact V_end fun a ha => ⟨(), ha.sub ⟨(by rw [hc31]; rfl), trivial⟩, rfl⟩
 simp only [List.take, List.drop]
 rintro _ _ rfl
 refine As (To ?_)
 obtain rfl := Oi hm
 refine Rt (Res.one results100 rfl) ?_
 exact ⟨rfl, rfl⟩
theorem route_checkSkills_c (w : World) {A : Nat → Prop} (hA : ∀ b, w.heap.size ≤ b → A b) (l : (List route_Skill)) (v_l : Value) (h_l : Sl A w v_l l) {r : Int} (hm : route_checkSkills l = some r) : Ret prog 65 #[v_l] w fun v w' => v = Ii r ∧ Kp Dw w w' := by
 unfold route_checkSkills at hm
 refine enter func65 rfl ntmps65 rfl ?_
 have hA0 := hA
 obtain ⟨hB, hK, hH⟩ := St (Dw := Dw) hA
 refine Sr (As (To ?_))
 refine C_seq (Sr (Mm (Vy (Y_lenSl h_l rfl underlying41 rfl) (Vy (Y_gtr rfl rfl) (To ?_)))))
 refine Cc (fun hc3 => ?_) fun hc3 => ?_
 ·rw [if_pos hc3] at hm
  refine Sr (As (To ?_))
  obtain rfl := Oi hm
  refine Rt (Res.one results65 rfl) ?_
  exact ⟨rfl, hK.kp⟩
 rw [if_neg (nt hc3)] at hm
 refine Sk ?_
 refine C_seq (Sr (Mm (Vy (Y_lenSl h_l rfl underlying41 rfl) (Mm (To ?_)))))
 have hn25 := Sl.le h_l
 obtain ⟨o4, ho4, hm⟩ := Bs hm
 refine C_cutG (ι := (Unit × (Nat → Prop))) (fun ⟨s5, A12⟩ => []) (fun ⟨s5, A12⟩ => fun w' => o4 = .fin s5 ∧ Hp w.heap.size A12 w' ([]) ∧ Tr Dw w.heap.size A w A12 w') ?_ ?_
 ·refine C_block ?_
  refine C_range ho4 (fun k7 _ a w' => ∃ i : (Nat → Prop), Has ⟨40, [], none⟩ a ([(0, v_l), (8, v_l), (9, Ii (l.length : Int)), (10, Ii (k7 : Int))]) ∧ Hp w.heap.size i w' ([]) ∧ Tr Dw w.heap.size A w i w') (fun a ha => ⟨A, ha.sb, ⟨hH, Tr.refl (Dw := Dw) hA⟩⟩) ?_
  rintro K k7 _ a w15 ⟨A16, ha59, hH17, hr6⟩ hle21 K24 h23
  refine C_of ?_ ha59
  replace h_l := Sl.tr h_l hr6; replace hK := Tt hK hr6; replace hB := Bx hB hr6; replace hA := hr6.new; replace hH := hH17
  refine Sr (Vy (Y_lss rfl rfl) (To ?_))
  refine C_seq ?_
  refine Cc (fun hc26 => ?_) fun hc26 => ?_
  ·have hlt22 := lt_of_dec hc26
   obtain ⟨x18, h19, h20⟩ := K24 hlt22
   refine Sk ?_
   refine C_seq (C_block (Sr (Mm ?_)))
   obtain ⟨x27, hx27, h19⟩ := Bs h19
   refine V_indexAddr h_l hx27 underlying41 sizeOf127 rfl rfl rfl ?_
   intro b28 o29 h30
   obtain ⟨h31, _⟩ := El_route_Skill h30
   refine Vy (Y_loadA h31 isAgg127 sizeOf127 rfl) ?_
   refine V_alloc zeroValue127 rfl ?_
   intro b32 w33 h34
   refine As ?_
   refine Sn h34 sizeOf127 ?_
   intro w35 h36
   have hk38 := h36.kp (Dw := Dw)
   have h37 : El (α := route_Skill) A16 w35 b32 0 x27 := h36.el hA ⟨[.string x27.name], _, rfl, rfl, rfl⟩
   have ht39 := Kp.tr hk38 hA hB; replace hH := Hp.kp hH hk38; replace h_l := Sl.tr h_l ht39; replace hK := Tt hK ht39; replace hr6 := Tt hr6 ht39; replace hB := Bx hB ht39; replace hA := ht39.new
   refine To ?_
   refine C_block (Sr ?_)
   have h40 := El_route_Skill_0 h37
   refine Fa underlying127 rfl sizeOf9 (Ld (El.str h40) isAgg9 ?_)
   obtain ⟨x41, hx41, h19⟩ := Bs h19
   refine Vc call100 (route_name_c w35 x27.name hx41) ?_
   rintro _ _ ⟨rfl, rfl⟩
   refine Vy (Y_not rfl) (As (To ?_))
   refine Cc (fun hc42 => ?_) fun hc42 => ?_
   ·rw [if_pos hc42] at h19
    refine Sr (As (To ?_))
    obtain rfl := Oi h19
    obtain rfl := (h20 : Lp.rt _ = _)
    rw [Lp.andThen_rt] at hm
    obtain rfl := Oi hm
    refine Rt (Res.one results65 rfl) ?_
    exact ⟨rfl, hK.kp⟩
   rw [if_neg (nt hc42)] at h19
   refine C_seq ?_
   refine C_region_q (Dw := Dw) Tryz_mixed (by kernel_rfl) ?_
   refine Qm (Qv (fun w' hw' => Y_gtr rfl rfl) (Qm ?_))
   obtain ⟨s44, hs44, h19⟩ := Bs h19
   refine VQ_cut 10 (fun _ : Unit => [(0, v_l), (4, Pt b32), (8, v_l), (9, Ii (l.length : Int)), (10, Ii (k7 : Int)), (33, .bool s44)]) (fun _ => True) ?_ ?_
   ·simp only [List.take, List.drop]
    rcases Be (decide ((0 : Int) < (k7 : Int))) with hc43 | hc43
    ·rw [if_pos hc43] at hs44
     refine Qh hc43 ?_
     have h45 := El_route_Skill_0 h37
     refine Qf underlying127 rfl sizeOf9 (Qh hc43 (Ql (fun w' hw' => (El.str (El.kp h45 hw'))) isAgg9 (Qh hc43 (Qm (Qh hc43 (Qm (Qh hc43 (Qv (fun w' hw' => Y_subI rfl rfl) (Qh hc43 ?_)))))))))
     obtain ⟨x46, hx46, hs44⟩ := Bs hs44
     refine VQ_indexAddr h_l hx46 underlying41 sizeOf127 rfl rfl rfl ?_
     intro b47 o48 h49
     refine Qh hc43 ?_
     have h50 := El_route_Skill_0 h49
     refine Qf underlying127 rfl sizeOf9 (Qh hc43 (Ql (fun w' hw' => (El.str (El.kp h50 hw'))) isAgg9 (Qh hc43 (Qv (fun w' hw' => Y_sleq rfl rfl) ?_))))
     refine VQ_y (fun _ _ => Y_pick_te rfl hc43 rfl) rfl rfl rfl ?_
     obtain rfl := Oi hs44
     exact VQ_end fun a ha => ⟨(), ha.sb, trivial⟩
    rw [if_neg (nt hc43)] at hs44
    refine Qg hc43 (Qg hc43 (Qg hc43 (Qg hc43 (Qg hc43 (Qg hc43 (Qg hc43 (Qg hc43 (Qg hc43 ?_))))))))
    refine VQ_y (fun _ _ => Y_pick_fe rfl hc43 rfl) rfl rfl rfl ?_
    obtain rfl := Oi hs44
    exact VQ_end fun a ha => ⟨(), ha.sb, trivial⟩
   simp only [List.take, List.drop]
   rintro _ _
   refine Qa ?_
   refine VQ_to (fun _ _ => rfl) (fun w51 hk52 => ?_)
   have ht53 := Kp.tr hk52 hA hB; replace hH := Hp.kp hH hk52; replace h37 := El.tr h37 ht53; replace hK := Tt hK ht53; replace hr6 := Tt hr6 ht53
   refine Cc (fun hc54 => ?_) fun hc54 => ?_
   ·rw [if_pos hc54] at h19
    refine Sr (As (To ?_))
    obtain rfl := Oi h19
    obtain rfl := (h20 : Lp.rt _ = _)
    rw [Lp.andThen_rt] at hm
    obtain rfl := Oi hm
    refine Rt (Res.one results65 rfl) ?_
    exact ⟨rfl, hK.kp⟩
   rw [if_neg (nt hc54)] at h19
   refine Sr ?_
   have h55 := El_route_Skill_1 h37
   refine Fa underlying127 rfl sizeOf3 (Li h55 isAgg3 ?_)
   refine Vc call62 (route_within_c w51 x27.rank 1 9) ?_
   rintro _ _ ⟨rfl, rfl⟩
   refine Vy (Y_not rfl) (As (To ?_))
   refine Cc (fun hc56 => ?_) fun hc56 => ?_
   ·rw [if_pos hc56] at h19
    refine Sr (As (To ?_))
    obtain rfl := Oi h19
    obtain rfl := (h20 : Lp.rt _ = _)
    rw [Lp.andThen_rt] at hm
    obtain rfl := Oi hm
    refine Rt (Res.one results65 rfl) ?_
    exact ⟨rfl, hK.kp⟩
   rw [if_neg (nt hc56)] at h19
   refine Sk ?_
   refine C_region (Vy (Y_addI rfl rfl) (Mm ?_))
   obtain rfl := Oi h19
   refine V_end (fun a ha57 => ?_)
   exact ⟨(), hlt22, h20, ⟨A16, ha57.sub ⟨rfl, rfl, rfl, Ws hlt22 hn25, trivial⟩, ⟨hH, hr6⟩⟩⟩
  refine C_exit (fun a ha58 => ?_)
  exact ⟨((), A16), ha58.sub trivial, ⟨(h23 (eq_of_dec hle21 hc26)).symm, hH, hr6⟩⟩
 rintro ⟨s5, A12⟩ w9 ⟨rfl, hH13, hk10⟩ a ha11
 rw [Lp.andThen_fin] at hm
 replace hK := Tr.trans hK hk10; replace hA := hk10.new; replace hH := hH13
 refine C_at (n := ⟨40, [], none⟩) (fun _ _ => rfl) ?_ ha11
 refine Sr (As (To ?_))
 obtain rfl := Oi hm
 refine Rt (Res.one results65 rfl) ?_
 exact ⟨rfl, hK.kp⟩
theorem route_CheckPeople_c (w : World) {A : Nat → Prop} (hA : ∀ b, w.heap.size ≤ b → A b) (l : (List route_Person)) (v_l : Value) (h_l : Sl A w v_l l) {r : Int} (hm : route_CheckPeople l = some r) : Ret prog 60 #[v_l] w fun v w' => v = Ii r ∧ Kp Dw w w' := by
 unfold route_CheckPeople at hm
 refine enter func60 rfl ntmps60 rfl ?_
 have hA0 := hA
 obtain ⟨hB, hK, hH⟩ := St (Dw := Dw) hA
 refine Sr (As (To ?_))
 refine C_seq (Sr (Mm (Vy (Y_lenSl h_l rfl underlying22 rfl) (Vy (Y_gtr rfl rfl) (To ?_)))))
 refine Cc (fun hc3 => ?_) fun hc3 => ?_
 ·rw [if_pos hc3] at hm
  refine Sr (As (To ?_))
  obtain rfl := Oi hm
  refine Rt (Res.one results60 rfl) ?_
  exact ⟨rfl, hK.kp⟩
 rw [if_neg (nt hc3)] at hm
 refine Sk ?_
 refine C_seq (Sr (Mm (Vy (Y_lenSl h_l rfl underlying22 rfl) (Mm (To ?_)))))
 have hn25 := Sl.le h_l
 obtain ⟨o4, ho4, hm⟩ := Bs hm
 refine C_cutG (ι := (Unit × (Nat → Prop))) (fun ⟨s5, A12⟩ => []) (fun ⟨s5, A12⟩ => fun w' => o4 = .fin s5 ∧ Hp w.heap.size A12 w' ([]) ∧ Tr Dw w.heap.size A w A12 w') ?_ ?_
 ·refine C_block ?_
  refine C_range ho4 (fun k7 _ a w' => ∃ i : (Nat → Prop), Has ⟨53, [], none⟩ a ([(0, v_l), (9, v_l), (10, Ii (l.length : Int)), (11, Ii (k7 : Int))]) ∧ Hp w.heap.size i w' ([]) ∧ Tr Dw w.heap.size A w i w') (fun a ha => ⟨A, ha.sb, ⟨hH, Tr.refl (Dw := Dw) hA⟩⟩) ?_
  rintro K k7 _ a w15 ⟨A16, ha75, hH17, hr6⟩ hle21 K24 h23
  refine C_of ?_ ha75
  replace h_l := Sl.tr h_l hr6; replace hK := Tt hK hr6; replace hB := Bx hB hr6; replace hA := hr6.new; replace hH := hH17
  refine Sr (Vy (Y_lss rfl rfl) (To ?_))
  refine C_seq ?_
  refine Cc (fun hc26 => ?_) fun hc26 => ?_
  ·have hlt22 := lt_of_dec hc26
   obtain ⟨x18, h19, h20⟩ := K24 hlt22
   refine Sk ?_
   refine C_seq (C_block (Sr (Mm ?_)))
   obtain ⟨x27, hx27, h19⟩ := Bs h19
   refine V_indexAddr h_l hx27 underlying22 sizeOf124 rfl rfl rfl ?_
   intro b28 o29 h30
   obtain ⟨v31, h33, h32⟩ := El_route_Person h30
   refine Vy (Y_loadA h33 isAgg124 sizeOf124 rfl) ?_
   refine V_alloc zeroValue124 rfl ?_
   intro b34 w35 h36
   refine As ?_
   have h41 : (v31).oneCell' = true := by obtain ⟨_, _, e, _⟩ := Sl.form h32; rw [e]; rfl
   refine Sn h36 sizeOf124 ?_
   intro w37 h38
   have hk43 := h38.kp (Dw := Dw)
   have h42 : El (α := route_Person) A16 w37 b34 0 x27 := h38.el hA ⟨[Ii x27.no], _, rfl, rfl, ⟨[Ii x27.capacity], _, rfl, rfl, ⟨[Ii x27.calendar], _, rfl, rfl, ⟨_, rfl, h32⟩⟩⟩⟩
   have ht44 := Kp.tr hk43 hA hB; replace hH := Hp.kp hH hk43; replace h_l := Sl.tr h_l ht44; replace hK := Tt hK ht44; replace hr6 := Tt hr6 ht44; replace hB := Bx hB ht44; replace hA := ht44.new
   refine To ?_
   refine C_seq (C_block (Sr ?_))
   have h45 := El_route_Person_0 h42
   refine Fa underlying124 rfl sizeOf3 (Li h45 isAgg3 ?_)
   refine Vc call62 (route_within_c w37 x27.no 1 40) ?_
   rintro _ _ ⟨rfl, rfl⟩
   refine Vy (Y_not rfl) (As (To ?_))
   refine Cc (fun hc46 => ?_) fun hc46 => ?_
   ·rw [if_pos hc46] at h19
    refine Sr (As (To ?_))
    obtain rfl := Oi h19
    obtain rfl := (h20 : Lp.rt _ = _)
    rw [Lp.andThen_rt] at hm
    obtain rfl := Oi hm
    refine Rt (Res.one results60 rfl) ?_
    exact ⟨rfl, hK.kp⟩
   rw [if_neg (nt hc46)] at h19
   refine C_seq ?_
   refine C_region_q (Dw := Dw) Tryz_mixed (by kernel_rfl) ?_
   refine Qm (Qv (fun w' hw' => Y_gtr rfl rfl) (Qm ?_))
   obtain ⟨s48, hs48, h19⟩ := Bs h19
   refine VQ_cut 10 (fun _ : Unit => [(0, v_l), (4, Pt b34), (9, v_l), (10, Ii (l.length : Int)), (11, Ii (k7 : Int)), (34, .bool s48)]) (fun _ => True) ?_ ?_
   ·simp only [List.take, List.drop]
    rcases Be (decide ((0 : Int) < (k7 : Int))) with hc47 | hc47
    ·rw [if_pos hc47] at hs48
     refine Qh hc47 ?_
     have h49 := El_route_Person_0 h42
     refine Qf underlying124 rfl sizeOf3 (Qh hc47 (Qi h49 isAgg3 (Qh hc47 (Qm (Qh hc47 (Qm (Qh hc47 (Qv (fun w' hw' => Y_subI rfl rfl) (Qh hc47 ?_)))))))))
     obtain ⟨x50, hx50, hs48⟩ := Bs hs48
     refine VQ_indexAddr h_l hx50 underlying22 sizeOf124 rfl rfl rfl ?_
     intro b51 o52 h53
     refine Qh hc47 ?_
     have h54 := El_route_Person_0 h53
     refine Qf underlying124 rfl sizeOf3 (Qh hc47 (Qi h54 isAgg3 (Qh hc47 (Qv (fun w' hw' => Y_leq rfl rfl) ?_))))
     refine VQ_y (fun _ _ => Y_pick_te rfl hc47 rfl) rfl rfl rfl ?_
     obtain rfl := Oi hs48
     exact VQ_end fun a ha => ⟨(), ha.sb, trivial⟩
    rw [if_neg (nt hc47)] at hs48
    refine Qg hc47 (Qg hc47 (Qg hc47 (Qg hc47 (Qg hc47 (Qg hc47 (Qg hc47 (Qg hc47 (Qg hc47 ?_))))))))
    refine VQ_y (fun _ _ => Y_pick_fe rfl hc47 rfl) rfl rfl rfl ?_
    obtain rfl := Oi hs48
    exact VQ_end fun a ha => ⟨(), ha.sb, trivial⟩
   simp only [List.take, List.drop]
   rintro _ _
   refine Qa ?_
   refine VQ_to (fun _ _ => rfl) (fun w55 hk56 => ?_)
   have ht57 := Kp.tr hk56 hA hB; replace hH := Hp.kp hH hk56; replace h42 := El.tr h42 ht57; replace hK := Tt hK ht57; replace hr6 := Tt hr6 ht57; replace hB := Bx hB ht57; replace hA := ht57.new
   refine Cc (fun hc58 => ?_) fun hc58 => ?_
   ·rw [if_pos hc58] at h19
    refine Sr (As (To ?_))
    obtain rfl := Oi h19
    obtain rfl := (h20 : Lp.rt _ = _)
    rw [Lp.andThen_rt] at hm
    obtain rfl := Oi hm
    refine Rt (Res.one results60 rfl) ?_
    exact ⟨rfl, hK.kp⟩
   rw [if_neg (nt hc58)] at h19
   refine Sr ?_
   have h59 := El_route_Person_1 h42
   refine Fa underlying124 rfl sizeOf3 (Li h59 isAgg3 ?_)
   refine Vc call62 (route_within_c w55 x27.capacity 0 100) ?_
   rintro _ _ ⟨rfl, rfl⟩
   refine Vy (Y_not rfl) (Mm ?_)
   refine V_cut 5 (fun _ : Unit => [(0, v_l), (4, Pt b34), (9, v_l), (10, Ii (l.length : Int)), (11, Ii (k7 : Int)), (45, .bool ((!(route_within x27.capacity 0 100)) || (!(route_within x27.calendar 0 19))))]) (fun _ w' => w55 = w') ?_ ?_
   ·simp only [List.take, List.drop]
    rcases Be (!(route_within x27.capacity 0 100)) with hc60 | hc60
    ·refine Gm hc60 (Gm hc60 (Gm hc60 (Gm hc60 (Vy (Y_pick_te rfl hc60 rfl) ?_))))
     exact V_end fun a ha => ⟨(), ha.sub ⟨rfl, rfl, rfl, rfl, rfl, (by rw [hc60]; rfl), trivial⟩, rfl⟩
    refine Gf hc60 ?_
    have h62 := El_route_Person_2 h42
    refine Fa underlying124 rfl sizeOf3 (Gf hc60 (Li h62 isAgg3 (Gf hc60 ?_)))
    refine Vc call62 (route_within_c w55 x27.calendar 0 19) ?_
    rintro _ _ ⟨rfl, rfl⟩
    refine Gf hc60 (Vy (Y_not rfl) (Vy (Y_pick_fe rfl hc60 rfl) ?_))
    exact V_end fun a ha => ⟨(), ha.sub ⟨rfl, rfl, rfl, rfl, rfl, (by rw [hc60]; rfl), trivial⟩, rfl⟩
   simp only [List.take, List.drop]
   rintro _ _ rfl
   refine As (To ?_)
   refine Cc (fun hc63 => ?_) fun hc63 => ?_
   ·rw [if_pos hc63] at h19
    refine Sr (As (To ?_))
    obtain rfl := Oi h19
    obtain rfl := (h20 : Lp.rt _ = _)
    rw [Lp.andThen_rt] at hm
    obtain rfl := Oi hm
    refine Rt (Res.one results60 rfl) ?_
    exact ⟨rfl, hK.kp⟩
   rw [if_neg (nt hc63)] at h19
   refine Sk ?_
   refine Sr ?_
   have h64 := El_route_Person_3 h42
   refine Fa underlying124 rfl sizeOf41 ?_
   obtain ⟨v65, h66, h67⟩ := El.list h64
   refine Ld h66 isAgg41 ?_
   obtain ⟨x68, hx68, h19⟩ := Bs h19
   refine Vc call65 (route_checkSkills_c (Dw := Dw) w55 hA x27.skills v65 h67 hx68) ?_
   rintro _ w69 ⟨rfl, hk70⟩
   have ht71 := Kp.tr hk70 hA hB; replace hH := Hp.kp hH hk70; replace hK := Tt hK ht71; replace hr6 := Tt hr6 ht71
   refine As (To ?_)
   refine Sr (Mm (Vy (Y_neq rfl rfl) (To ?_)))
   refine Cc (fun hc72 => ?_) fun hc72 => ?_
   ·rw [if_pos hc72] at h19
    refine Sr (Mm (As (To ?_)))
    obtain rfl := Oi h19
    obtain rfl := (h20 : Lp.rt _ = _)
    rw [Lp.andThen_rt] at hm
    obtain rfl := Oi hm
    refine Rt (Res.one results60 rfl) ?_
    exact ⟨rfl, hK.kp⟩
   rw [if_neg (nt hc72)] at h19
   refine Sk ?_
   refine C_region (Vy (Y_addI rfl rfl) (Mm ?_))
   obtain rfl := Oi h19
   refine V_end (fun a ha73 => ?_)
   exact ⟨(), hlt22, h20, ⟨A16, ha73.sub ⟨rfl, rfl, rfl, Ws hlt22 hn25, trivial⟩, ⟨hH, hr6⟩⟩⟩
  refine C_exit (fun a ha74 => ?_)
  exact ⟨((), A16), ha74.sub trivial, ⟨(h23 (eq_of_dec hle21 hc26)).symm, hH, hr6⟩⟩
 rintro ⟨s5, A12⟩ w9 ⟨rfl, hH13, hk10⟩ a ha11
 rw [Lp.andThen_fin] at hm
 replace hK := Tr.trans hK hk10; replace hA := hk10.new; replace hH := hH13
 refine C_at (n := ⟨53, [], none⟩) (fun _ _ => rfl) ?_ ha11
 refine Sr (As (To ?_))
 obtain rfl := Oi hm
 refine Rt (Res.one results60 rfl) ?_
 exact ⟨rfl, hK.kp⟩
theorem cal_within_c (w : World) (n : Int) (low : Int) (high : Int) : Ret prog 97 #[Ii n, Ii low, Ii high] w fun v w' => v = .bool (cal_within n low high) ∧ w = w' := by
 generalize hm : cal_within n low high = r
 unfold cal_within at hm
 refine enter func97 rfl ntmps97 rfl ?_
 refine Sr (As (To ?_))
 refine Sr (Mm (Mm (Vy (Y_geq rfl rfl) (Mm ?_))))
 refine V_cut 4 (fun _ : Unit => [(14, .bool ((decide (low ≤ n)) && (decide (n ≤ high))))]) (fun _ w' => w = w') ?_ ?_
 ·simp only [List.take, List.drop]
  rcases Be (decide (low ≤ n)) with hc1 | hc1
  ·refine Gf hc1 (Mm (Gf hc1 (Mm (Gf hc1 (Vy (Y_leq rfl rfl) (Vy (Y_pick_te rfl hc1 rfl) ?_))))))
   exact V_end fun a ha => ⟨(), ha.sub ⟨(by rw [hc1]; rfl), trivial⟩, rfl⟩
  refine Gm hc1 (Gm hc1 (Gm hc1 (Vy (Y_pick_fe rfl hc1 rfl) ?_)))
  exact V_end fun a ha => ⟨(), ha.sub ⟨(by rw [hc1]; rfl), trivial⟩, rfl⟩
 simp only [List.take, List.drop]
 rintro _ _ rfl
 refine As (To ?_)
 obtain rfl := hm
 refine Rt (Res.one results97 rfl) ?_
 exact ⟨rfl, rfl⟩
theorem cal_CheckZone_c (w : World) {A : Nat → Prop} (hA : ∀ b, w.heap.size ≤ b → A b) (z : cal_Zone) (v_z : Value) (h_z : Sl A w v_z z.changes) {r : Int} (hm : cal_CheckZone z = some r) : Ret prog 95 #[.agg #[Ii z.offset, v_z]] w fun v w' => v = Ii r ∧ Kp Dw w w' := by
 unfold cal_CheckZone at hm
 refine enter func95 rfl ntmps95 rfl ?_
 have hA0 := hA
 obtain ⟨hB, hK, hH⟩ := St (Dw := Dw) hA
 refine Sr ?_
 refine V_box rfl rfl ?_
 intro b3 w4 h5
 have hk7 := h5.kp (Dw := Dw)
 have h6 : El (α := cal_Zone) A w4 b3 0 z := h5.el hA ⟨[Ii z.offset], _, rfl, rfl, ⟨_, rfl, h_z⟩⟩
 have ht8 := Kp.tr hk7 hA hB; replace hH := Hp.kp hH hk7; replace hK := Tt hK ht8; replace hB := Bx hB ht8; replace hA := ht8.new
 refine As (To ?_)
 refine C_seq (Sr ?_)
 have h9 := El_cal_Zone_0 h6
 refine Fa underlying64 rfl sizeOf3 (Li h9 isAgg3 ?_)
 refine Vc call97 (cal_within_c w4 z.offset (-1440) 1440) ?_
 rintro _ _ ⟨rfl, rfl⟩
 refine Vy (Y_not rfl) (To ?_)
 refine Cc (fun hc10 => ?_) fun hc10 => ?_
 ·rw [if_pos hc10] at hm
  refine Sr (As (To ?_))
  obtain rfl := Oi hm
  refine Rt (Res.one results95 rfl) ?_
  exact ⟨rfl, hK.kp⟩
 rw [if_neg (nt hc10)] at hm
 refine Sk ?_
 refine C_seq (Sr ?_)
 have h11 := El_cal_Zone_1 h6
 refine Fa underlying64 rfl sizeOf62 ?_
 obtain ⟨v12, h13, h14⟩ := El.list h11
 refine Ld h13 isAgg62 (Vy (Y_lenSl h14 rfl underlying62 rfl) (Vy (Y_gtr rfl rfl) (To ?_)))
 refine Cc (fun hc15 => ?_) fun hc15 => ?_
 ·rw [if_pos hc15] at hm
  refine Sr (As (To ?_))
  obtain rfl := Oi hm
  refine Rt (Res.one results95 rfl) ?_
  exact ⟨rfl, hK.kp⟩
 rw [if_neg (nt hc15)] at hm
 refine Sk ?_
 refine C_seq ?_
 refine C_region_q (Dw := Dw) Tryz_mixed (by kernel_rfl) ?_
 have h16 := El_cal_Zone_0 h6
 refine Qf underlying64 rfl sizeOf3 (Qi h16 isAgg3 (Qa (Qa ?_)))
 refine VQ_to (fun _ _ => rfl) (fun w17 hk18 => ?_)
 have ht19 := Kp.tr hk18 hA hB; replace hH := Hp.kp hH hk18; replace h6 := El.tr h6 ht19; replace hK := Tt hK ht19; replace hB := Bx hB ht19; replace hA := ht19.new
 refine C_seq (Sr ?_)
 have h20 := El_cal_Zone_1 h6
 refine Fa underlying64 rfl sizeOf62 ?_
 obtain ⟨v21, h22, h23⟩ := El.list h20
 refine Ld h22 isAgg62 (Vy (Y_lenSl h23 rfl underlying62 rfl) (Mm (To ?_)))
 have hn44 := Sl.le h23
 obtain ⟨o24, ho24, hm⟩ := Bs hm
 refine C_cutG (ι := ((Int × Int) × (Nat → Prop))) (fun ⟨s25, A31⟩ => []) (fun ⟨s25, A31⟩ => fun w' => o24 = .fin s25 ∧ Hp w.heap.size A31 w' ([]) ∧ Tr Dw w.heap.size A w17 A31 w') ?_ ?_
 ·refine C_block ?_
  refine C_range ho24 (fun k27 s33 a w' => ∃ i : (Nat → Prop), Has ⟨50, [], none⟩ a ([(3, Ii s33.1), (4, Ii s33.2), (18, v21), (19, Ii (z.changes.length : Int)), (20, Ii (k27 : Int))]) ∧ Hp w.heap.size i w' ([]) ∧ Tr Dw w.heap.size A w17 i w') (fun a ha => ⟨A, ha.sb, ⟨hH, Tr.refl (Dw := Dw) hA⟩⟩) ?_
  rintro K k27 s33 a w34 ⟨A35, ha75, hH36, hr26⟩ hle40 K43 h42
  refine C_of ?_ ha75
  replace h23 := Sl.tr h23 hr26; replace hK := Tt hK hr26; replace hB := Bx hB hr26; replace hA := hr26.new; replace hH := hH36
  refine Sr (Vy (Y_lss rfl rfl) (To ?_))
  refine C_seq ?_
  refine Cc (fun hc45 => ?_) fun hc45 => ?_
  ·have hlt41 := lt_of_dec hc45
   obtain ⟨x37, h38, h39⟩ := K43 hlt41
   refine Sk ?_
   refine C_seq (C_block (Sr ?_))
   obtain ⟨x46, hx46, h38⟩ := Bs h38
   refine V_indexAddr h23 hx46 underlying62 sizeOf72 rfl rfl rfl ?_
   intro b47 o48 h49
   obtain ⟨h50, _⟩ := El_cal_Change h49
   refine Vy (Y_loadA h50 isAgg72 sizeOf72 rfl) ?_
   refine V_alloc zeroValue72 rfl ?_
   intro b51 w52 h53
   refine Sn h53 sizeOf72 ?_
   intro w54 h55
   have hk57 := h55.kp (Dw := Dw)
   have h56 : El (α := cal_Change) A35 w54 b51 0 x46 := h55.el hA ⟨[Ii x46.at_], _, rfl, rfl, rfl⟩
   have ht58 := Kp.tr hk57 hA hB; replace hH := Hp.kp hH hk57; replace hK := Tt hK ht58; replace hr26 := Tt hr26 ht58; replace hB := Bx hB ht58; replace hA := ht58.new
   refine To ?_
   refine C_seq (C_block (Sr ?_))
   have h59 := El_cal_Change_0 h56
   refine Fa underlying72 rfl sizeOf3 (Li h59 isAgg3 ?_)
   refine Vc call97 (cal_within_c w54 x46.at_ 1 3000000) ?_
   rintro _ _ ⟨rfl, rfl⟩
   refine Vy (Y_not rfl) (Mm ?_)
   refine V_cut 5 (fun _ : Unit => [(3, Ii s33.1), (4, Ii s33.2), (6, Pt b51), (18, v21), (19, Ii (z.changes.length : Int)), (20, Ii (k27 : Int)), (34, .bool ((!(cal_within x46.at_ 1 3000000)) || (!(cal_within x46.offset (-1440) 1440))))]) (fun _ w' => w54 = w') ?_ ?_
   ·simp only [List.take, List.drop]
    rcases Be (!(cal_within x46.at_ 1 3000000)) with hc60 | hc60
    ·refine Gm hc60 (Gm hc60 (Gm hc60 (Gm hc60 (Vy (Y_pick_te rfl hc60 rfl) ?_))))
     exact V_end fun a ha => ⟨(), ha.sub ⟨rfl, rfl, rfl, rfl, rfl, rfl, (by rw [hc60]; rfl), trivial⟩, rfl⟩
    refine Gf hc60 ?_
    have h62 := El_cal_Change_1 h56
    refine Fa underlying72 rfl sizeOf3 (Gf hc60 (Li h62 isAgg3 (Gf hc60 ?_)))
    refine Vc call97 (cal_within_c w54 x46.offset (-1440) 1440) ?_
    rintro _ _ ⟨rfl, rfl⟩
    refine Gf hc60 (Vy (Y_not rfl) (Vy (Y_pick_fe rfl hc60 rfl) ?_))
    exact V_end fun a ha => ⟨(), ha.sub ⟨rfl, rfl, rfl, rfl, rfl, rfl, (by rw [hc60]; rfl), trivial⟩, rfl⟩
   simp only [List.take, List.drop]
   rintro _ _ rfl
   refine As (To ?_)
   refine Cc (fun hc63 => ?_) fun hc63 => ?_
   ·rw [if_pos hc63] at h38
    refine Sr (As (To ?_))
    obtain rfl := Oi h38
    obtain rfl := (h39 : Lp.rt _ = _)
    rw [Lp.andThen_rt] at hm
    obtain rfl := Oi hm
    refine Rt (Res.one results95 rfl) ?_
    exact ⟨rfl, hK.kp⟩
   rw [if_neg (nt hc63)] at h38
   refine Sr ?_
   have h64 := El_cal_Change_0 h56
   refine Fa underlying72 rfl sizeOf3 (Li h64 isAgg3 (Mm (Vy (Y_leq rfl rfl) (As (To ?_)))))
   refine Cc (fun hc65 => ?_) fun hc65 => ?_
   ·rw [if_pos hc65] at h38
    refine Sr (As (To ?_))
    obtain rfl := Oi h38
    obtain rfl := (h39 : Lp.rt _ = _)
    rw [Lp.andThen_rt] at hm
    obtain rfl := Oi hm
    refine Rt (Res.one results95 rfl) ?_
    exact ⟨rfl, hK.kp⟩
   rw [if_neg (nt hc65)] at h38
   refine Sr ?_
   have h66 := El_cal_Change_1 h56
   refine Fa underlying72 rfl sizeOf3 (Li h66 isAgg3 (Mm (Vy (Y_eql rfl rfl) (As (To ?_)))))
   refine Cc (fun hc67 => ?_) fun hc67 => ?_
   ·rw [if_pos hc67] at h38
    refine Sr (As (To ?_))
    obtain rfl := Oi h38
    obtain rfl := (h39 : Lp.rt _ = _)
    rw [Lp.andThen_rt] at hm
    obtain rfl := Oi hm
    refine Rt (Res.one results95 rfl) ?_
    exact ⟨rfl, hK.kp⟩
   rw [if_neg (nt hc67)] at h38
   refine Sk ?_
   refine C_region_q (Dw := Dw) Tryz_mixed (by kernel_rfl) ?_
   have h68 := El_cal_Change_0 h56
   refine Qf underlying72 rfl sizeOf3 (Qi h68 isAgg3 ?_)
   have h69 := El_cal_Change_1 h56
   refine Qf underlying72 rfl sizeOf3 (Qi h69 isAgg3 (Qa (Qa ?_)))
   refine VQ_to (fun _ _ => rfl) (fun w70 hk71 => ?_)
   have ht72 := Kp.tr hk71 hA hB; replace hH := Hp.kp hH hk71; replace hr26 := Tt hr26 ht72
   refine C_region (Vy (Y_addI rfl rfl) (Mm ?_))
   obtain rfl := Oi h38
   refine V_end (fun a ha73 => ?_)
   exact ⟨(x46.at_, x46.offset), hlt41, h39, ⟨A35, ha73.sub ⟨rfl, rfl, rfl, rfl, Ws hlt41 hn44, trivial⟩, ⟨hH, hr26⟩⟩⟩
  refine C_exit (fun a ha74 => ?_)
  exact ⟨((s33.1, s33.2), A35), ha74.sub trivial, ⟨(h42 (eq_of_dec hle40 hc45)).symm, hH, hr26⟩⟩
 rintro ⟨s25, A31⟩ w28 ⟨rfl, hH32, hk29⟩ a ha30
 rw [Lp.andThen_fin] at hm
 replace hK := Tr.trans hK hk29; replace hA := hk29.new; replace hH := hH32
 refine C_at (n := ⟨50, [], none⟩) (fun _ _ => rfl) ?_ ha30
 refine Sr (As (To ?_))
 obtain rfl := Oi hm
 refine Rt (Res.one results95 rfl) ?_
 exact ⟨rfl, hK.kp⟩
theorem cmp_isNaN_int_c (w : World) (x : Int) : Ret prog 111 #[Ii x] w fun v w' => v = .bool (cmp_isNaN_int x) ∧ w = w' := by
 generalize hm : cmp_isNaN_int x = r
 unfold cmp_isNaN_int at hm
 refine enter func111 rfl ntmps111 rfl ?_
 refine Sr (As (To ?_))
 refine Sr (Mm (Mm (Vy (Y_neq rfl rfl) (As (To ?_)))))
 obtain rfl := hm
 refine Rt (Res.one results111 rfl) ?_
 exact ⟨rfl, rfl⟩
theorem cmp_Compare_int_c (w : World) (x : Int) (y : Int) : Ret prog 75 #[Ii x, Ii y] w fun v w' => v = Ii (cmp_Compare_int x y) ∧ w = w' := by
 generalize hm : cmp_Compare_int x y = r
 unfold cmp_Compare_int at hm
 refine enter func75 rfl ntmps75 rfl ?_
 refine Sr (As (To ?_))
 refine Sr (Mm ?_)
 refine Vc call111 (cmp_isNaN_int_c w x) ?_
 rintro _ _ ⟨rfl, rfl⟩
 refine As (To ?_)
 refine Sr (Mm ?_)
 refine Vc call111 (cmp_isNaN_int_c w y) ?_
 rintro _ _ ⟨rfl, rfl⟩
 refine As (To ?_)
 refine C_seq (Sr (Mm (To ?_)))
 refine Cc (fun hc1 => ?_) fun hc1 => ?_
 ·rw [if_pos hc1] at hm
  refine C_seq (Sr (Mm (To ?_)))
  refine Cc (fun hc2 => ?_) fun hc2 => ?_
  ·rw [if_pos hc2] at hm
   refine Sr (As (To ?_))
   obtain rfl := hm
   refine Rt (Res.one results75 rfl) ?_
   exact ⟨rfl, rfl⟩
  rw [if_neg (nt hc2)] at hm
  refine Sk ?_
  refine Sr (As (To ?_))
  obtain rfl := hm
  refine Rt (Res.one results75 rfl) ?_
  exact ⟨rfl, rfl⟩
 rw [if_neg (nt hc1)] at hm
 refine Sk ?_
 refine C_seq (Sr (Mm (To ?_)))
 refine Cc (fun hc3 => ?_) fun hc3 => ?_
 ·rw [if_pos hc3] at hm
  refine Sr (As (To ?_))
  obtain rfl := hm
  refine Rt (Res.one results75 rfl) ?_
  exact ⟨rfl, rfl⟩
 rw [if_neg (nt hc3)] at hm
 refine Sk ?_
 refine C_seq (Sr (Mm (Mm (Vy (Y_lss rfl rfl) (To ?_)))))
 refine Cc (fun hc4 => ?_) fun hc4 => ?_
 ·rw [if_pos hc4] at hm
  refine Sr (As (To ?_))
  obtain rfl := hm
  refine Rt (Res.one results75 rfl) ?_
  exact ⟨rfl, rfl⟩
 rw [if_neg (nt hc4)] at hm
 refine Sk ?_
 refine C_seq (Sr (Mm (Mm (Vy (Y_gtr rfl rfl) (To ?_)))))
 refine Cc (fun hc5 => ?_) fun hc5 => ?_
 ·rw [if_pos hc5] at hm
  refine Sr (As (To ?_))
  obtain rfl := hm
  refine Rt (Res.one results75 rfl) ?_
  exact ⟨rfl, rfl⟩
 rw [if_neg (nt hc5)] at hm
 refine Sk ?_
 refine Sr (As (To ?_))
 obtain rfl := hm
 refine Rt (Res.one results75 rfl) ?_
 exact ⟨rfl, rfl⟩
theorem cmp_Or_int_c (w : World) {A : Nat → Prop} (vals : (List Int)) (v_vals : Value) (h_vals : Sl A w v_vals vals) {r : Int} (hm : cmp_Or_int vals = some r) : Ret prog 105 #[v_vals] w fun v w' => v = Ii r ∧ w = w' := by
 unfold cmp_Or_int at hm
 refine enter func105 rfl ntmps105 rfl ?_
 refine Sr (As (To ?_))
 refine Sr (As (To ?_))
 refine C_seq (Sr (Mm (Vy (Y_lenSl h_vals rfl underlying98 rfl) (Mm (To ?_)))))
 have hn19 := Sl.le h_vals
 obtain ⟨o3, ho3, hm⟩ := Bs hm
 refine C_cutG (ι := Unit) (fun (s4 : Unit) => [(3, Ii 0)]) (fun (s4 : Unit) => fun w' => o3 = .fin s4 ∧ w = w') ?_ ?_
 ·refine C_block ?_
  refine C_range ho3 (fun k6 _ a w' => ∃ i : Unit, Has ⟨18, [], none⟩ a ([(3, Ii 0), (6, v_vals), (7, Ii (vals.length : Int)), (8, Ii (k6 : Int))]) ∧ w = w') (fun a ha => ⟨(), ha.sb, rfl⟩) ?_
  rintro K k6 _ a _ ⟨_, ha28, rfl⟩ hle15 K18 h17
  refine C_of ?_ ha28
  refine Sr (Vy (Y_lss rfl rfl) (To ?_))
  refine C_seq ?_
  refine Cc (fun hc20 => ?_) fun hc20 => ?_
  ·have hlt16 := lt_of_dec hc20
   obtain ⟨x12, h13, h14⟩ := K18 hlt16
   refine Sk ?_
   refine C_seq (C_block (Sr ?_))
   obtain ⟨x21, hx21, h13⟩ := Bs h13
   refine V_indexAddr h_vals hx21 underlying98 sizeOf3 rfl rfl rfl ?_
   intro b22 o23 h24
   refine Li h24 isAgg3 (As (To ?_))
   refine Sr (Mm (Mm (Vy (Y_neq rfl rfl) (To ?_))))
   refine Cc (fun hc25 => ?_) fun hc25 => ?_
   ·rw [if_pos hc25] at h13
    refine Sr (Mm (As (To ?_)))
    obtain rfl := Oi h13
    obtain rfl := (h14 : Lp.rt _ = _)
    rw [Lp.andThen_rt] at hm
    obtain rfl := Oi hm
    refine Rt (Res.one results105 rfl) ?_
    exact ⟨rfl, rfl⟩
   rw [if_neg (nt hc25)] at h13
   refine Sk ?_
   refine C_region (Vy (Y_addI rfl rfl) (Mm ?_))
   obtain rfl := Oi h13
   refine V_end (fun a ha26 => ?_)
   exact ⟨(), hlt16, h14, ⟨(), ha26.sub ⟨rfl, rfl, rfl, Ws hlt16 hn19, trivial⟩, rfl⟩⟩
  refine C_exit (fun a ha27 => ?_)
  exact ⟨(), ha27.sb, ⟨(h17 (eq_of_dec hle15 hc20)).symm, rfl⟩⟩
 rintro s4 _ ⟨rfl, rfl⟩ a ha9
 rw [Lp.andThen_fin] at hm
 refine C_at (n := ⟨18, [], none⟩) (fun _ _ => rfl) ?_ ha9
 refine Sr (Mm (As (To ?_)))
 obtain rfl := Oi hm
 refine Rt (Res.one results105 rfl) ?_
 exact ⟨rfl, rfl⟩
theorem cal_after_c (w : World) {A : Nat → Prop} (hA : ∀ b, w.heap.size ≤ b → A b) (a_ : cal_Shift) (b : cal_Shift) {r : Bool} (hm : cal_after a_ b = some r) : Ret prog 120 #[.agg #[Ii a_.day, Ii a_.from_, Ii a_.to_], .agg #[Ii b.day, Ii b.from_, Ii b.to_]] w fun v w' => v = .bool r ∧ Kp Dw w w' := by
 unfold cal_after at hm
 refine enter func120 rfl ntmps120 rfl ?_
 have hA0 := hA
 obtain ⟨hB, hK, hH⟩ := St (Dw := Dw) hA
 refine Sr ?_
 refine V_box rfl rfl ?_
 intro b1 w2 h3
 have hk5 := h3.kp (Dw := Dw)
 have h4 : El (α := cal_Shift) A w2 b1 0 a_ := h3.el hA ⟨[Ii a_.day], _, rfl, rfl, ⟨[Ii a_.from_], _, rfl, rfl, rfl⟩⟩
 have ht6 := Kp.tr hk5 hA hB; replace hK := Tt hK ht6; replace hB := Bx hB ht6; replace hA := ht6.new
 refine V_box rfl rfl ?_
 intro b7 w9 h10
 have hk12 := h10.kp (Dw := Dw)
 have h11 : El (α := cal_Shift) A w9 b7 0 b := h10.el hA ⟨[Ii b.day], _, rfl, rfl, ⟨[Ii b.from_], _, rfl, rfl, rfl⟩⟩
 have ht13 := Kp.tr hk12 hA hB; replace h4 := El.tr h4 ht13; replace hK := Tt hK ht13; replace hB := Bx hB ht13; replace hA := ht13.new
 refine As (To ?_)
 refine C_seq ?_
 refine C_region_qt (Dw := Dw) 15 Tryz_mixed (by kernel_rfl) ?_
 simp only [List.take, List.drop]
 have h14 := El_cal_Shift_0 h4
 refine Qf underlying75 rfl sizeOf3 (Qi h14 isAgg3 ?_)
 have h15 := El_cal_Shift_0 h11
 refine Qf underlying75 rfl sizeOf3 (Qi h15 isAgg3 ?_)
 refine VQ_call (Ii (cmp_Compare_int a_.day b.day)) call75 rfl rfl rfl rfl (fun w' hw' => (cmp_Compare_int_c w' a_.day b.day).mono (fun _ _ h => ⟨h.1, h.2 ▸ hw'⟩)) ?_
 have h16 := El_cal_Shift_1 h4
 refine Qf underlying75 rfl sizeOf3 (Qi h16 isAgg3 ?_)
 have h17 := El_cal_Shift_1 h11
 refine Qf underlying75 rfl sizeOf3 (Qi h17 isAgg3 ?_)
 refine VQ_call (Ii (cmp_Compare_int a_.from_ b.from_)) call75 rfl rfl rfl rfl (fun w' hw' => (cmp_Compare_int_c w' a_.from_ b.from_).mono (fun _ _ h => ⟨h.1, h.2 ▸ hw'⟩)) ?_
 have h18 := El_cal_Shift_2 h4
 refine Qf underlying75 rfl sizeOf3 (Qi h18 isAgg3 ?_)
 have h19 := El_cal_Shift_2 h11
 refine Qf underlying75 rfl sizeOf3 (Qi h19 isAgg3 ?_)
 refine VQ_call (Ii (cmp_Compare_int a_.to_ b.to_)) call75 rfl rfl rfl rfl (fun w' hw' => (cmp_Compare_int_c w' a_.to_ b.to_).mono (fun _ _ h => ⟨h.1, h.2 ▸ hw'⟩)) ?_
 refine VQ_tail (fun w20 hk21 => ?_)
 try simp only [List.take, List.drop]
 have ht22 := Kp.tr hk21 hA hB; replace hK := Tt hK ht22; replace hB := Bx hB ht22; replace hA := ht22.new
 refine V_buildSlice (Dw := Dw) (cells := #[Ii (cmp_Compare_int a_.day b.day), Ii (cmp_Compare_int a_.from_ b.from_), Ii (cmp_Compare_int a_.to_ b.to_)]) (l := ([(cmp_Compare_int a_.day b.day), (cmp_Compare_int a_.from_ b.from_), (cmp_Compare_int a_.to_ b.to_)] : List Int)) (len := 3) underlying98 sizeOf3 zeroValue3 rfl (by generalize ((cmp_Compare_int a_.from_ b.from_) : Int) = z27; generalize ((cmp_Compare_int a_.day b.day) : Int) = z28; generalize ((cmp_Compare_int a_.to_ b.to_) : Int) = z29; kernel_rfl) (show (3 * 1 : Nat) ≠ 0 by decide) (show (3 * 1 : Nat) ≤ 2 ^ 24 by decide) hA ⟨[Ii (cmp_Compare_int a_.day b.day)], _, rfl, rfl, ⟨[Ii (cmp_Compare_int a_.from_ b.from_)], _, rfl, rfl, ⟨[Ii (cmp_Compare_int a_.to_ b.to_)], _, rfl, rfl, rfl⟩⟩⟩ rfl rfl ?_
 intro v23 w24 hk26 h25
 have ht30 := Kp.tr hk26 hA hB; replace hK := Tt hK ht30
 obtain ⟨x31, hx31, hm⟩ := Bs hm
 refine Vc call105 (cmp_Or_int_c w24 ([(cmp_Compare_int a_.day b.day), (cmp_Compare_int a_.from_ b.from_), (cmp_Compare_int a_.to_ b.to_)] : List Int) v23 h25 hx31) ?_
 rintro _ _ ⟨rfl, rfl⟩
 refine Vy (Y_gtr rfl rfl) (As (To ?_))
 obtain rfl := Oi hm
 refine Rt (Res.one results120 rfl) ?_
 exact ⟨rfl, hK.kp⟩
theorem cal_checkShifts_c (w : World) {A : Nat → Prop} (hA : ∀ b, w.heap.size ≤ b → A b) (l : (List cal_Shift)) (v_l : Value) (h_l : Sl A w v_l l) (dated : Bool) {r : Int} (hm : cal_checkShifts l dated = some r) : Ret prog 96 #[v_l, .bool dated] w fun v w' => v = Ii r ∧ Kp Dw w w' := by
 unfold cal_checkShifts at hm
 refine enter func96 rfl ntmps96 rfl ?_
 have hA0 := hA
 obtain ⟨hB, hK, hH⟩ := St (Dw := Dw) hA
 refine Sr (As (To ?_))
 refine C_seq (Sr (Mm (Vy (Y_lenSl h_l rfl underlying65 rfl) (Mm (To ?_)))))
 have hn23 := Sl.le h_l
 obtain ⟨o3, ho3, hm⟩ := Bs hm
 refine C_cutG (ι := (Unit × (Nat → Prop))) (fun ⟨s4, A10⟩ => []) (fun ⟨s4, A10⟩ => fun w' => o3 = .fin s4 ∧ Hp w.heap.size A10 w' ([]) ∧ Tr Dw w.heap.size A w A10 w') ?_ ?_
 ·refine C_block ?_
  refine C_range ho3 (fun k6 _ a w' => ∃ i : (Nat → Prop), Has ⟨58, [], none⟩ a ([(0, v_l), (1, .bool dated), (7, v_l), (8, Ii (l.length : Int)), (9, Ii (k6 : Int))]) ∧ Hp w.heap.size i w' ([]) ∧ Tr Dw w.heap.size A w i w') (fun a ha => ⟨A, ha.sb, ⟨hH, Tr.refl (Dw := Dw) hA⟩⟩) ?_
  rintro K k6 _ a w13 ⟨A14, ha71, hH15, hr5⟩ hle19 K22 h21
  refine C_of ?_ ha71
  replace h_l := Sl.tr h_l hr5; replace hK := Tt hK hr5; replace hB := Bx hB hr5; replace hA := hr5.new; replace hH := hH15
  refine Sr (Vy (Y_lss rfl rfl) (To ?_))
  refine C_seq ?_
  refine Cc (fun hc24 => ?_) fun hc24 => ?_
  ·have hlt20 := lt_of_dec hc24
   obtain ⟨x16, h17, h18⟩ := K22 hlt20
   refine Sk ?_
   refine C_seq (C_block (Sr (Mm ?_)))
   obtain ⟨x25, hx25, h17⟩ := Bs h17
   refine V_indexAddr h_l hx25 underlying65 sizeOf75 rfl rfl rfl ?_
   intro b26 o27 h28
   obtain ⟨h29, _⟩ := El_cal_Shift h28
   refine Vy (Y_loadA h29 isAgg75 sizeOf75 rfl) ?_
   refine V_alloc zeroValue75 rfl ?_
   intro b30 w31 h32
   refine As ?_
   refine Sn h32 sizeOf75 ?_
   intro w33 h34
   have hk36 := h34.kp (Dw := Dw)
   have h35 : El (α := cal_Shift) A14 w33 b30 0 x25 := h34.el hA ⟨[Ii x25.day], _, rfl, rfl, ⟨[Ii x25.from_], _, rfl, rfl, rfl⟩⟩
   have ht37 := Kp.tr hk36 hA hB; replace hH := Hp.kp hH hk36; replace h_l := Sl.tr h_l ht37; replace hK := Tt hK ht37; replace hr5 := Tt hr5 ht37; replace hB := Bx hB ht37; replace hA := ht37.new
   refine To ?_
   refine C_seq (Sr (Mm (Mm ?_)))
   refine V_cut 4 (fun _ : Unit => [(0, v_l), (1, .bool dated), (5, Ii (k6 : Int)), (6, Pt b30), (7, v_l), (8, Ii (l.length : Int)), (9, Ii (k6 : Int)), (19, .bool (dated && (x25.day != 0)))]) (fun _ w' => w33 = w') ?_ ?_
   ·simp only [List.take, List.drop]
    rcases Be (dated) with hc38 | hc38
    ·refine Gf hc38 ?_
     have h40 := El_cal_Shift_0 h35
     refine Fa underlying75 rfl sizeOf3 (Gf hc38 (Li h40 isAgg3 (Gf hc38 (Vy (Y_neq rfl rfl) (Vy (Y_pick_te rfl hc38 rfl) ?_)))))
     exact V_end fun a ha => ⟨(), ha.sub ⟨rfl, rfl, rfl, rfl, rfl, rfl, rfl, (by rw [hc38]; rfl), trivial⟩, rfl⟩
    refine Gm hc38 (Gm hc38 (Gm hc38 (Vy (Y_pick_fe rfl hc38 rfl) ?_)))
    exact V_end fun a ha => ⟨(), ha.sub ⟨rfl, rfl, rfl, rfl, rfl, rfl, rfl, (by rw [hc38]; rfl), trivial⟩, rfl⟩
   simp only [List.take, List.drop]
   rintro _ _ rfl
   refine To ?_
   refine Cc (fun hc41 => ?_) fun hc41 => ?_
   ·rw [if_pos hc41] at h17
    refine Sr (As (To ?_))
    obtain rfl := Oi h17
    obtain rfl := (h18 : Lp.rt _ = _)
    rw [Lp.andThen_rt] at hm
    obtain rfl := Oi hm
    refine Rt (Res.one results96 rfl) ?_
    exact ⟨rfl, hK.kp⟩
   rw [if_neg (nt hc41)] at h17
   refine Sk ?_
   refine C_seq (Sr ?_)
   have h42 := El_cal_Shift_0 h35
   refine Fa underlying75 rfl sizeOf3 (Li h42 isAgg3 ?_)
   refine Vc call97 (cal_within_c w33 x25.day 0 6) ?_
   rintro _ _ ⟨rfl, rfl⟩
   refine Vy (Y_not rfl) (Mm ?_)
   refine V_cut 5 (fun _ : Unit => [(0, v_l), (1, .bool dated), (5, Ii (k6 : Int)), (6, Pt b30), (7, v_l), (8, Ii (l.length : Int)), (9, Ii (k6 : Int)), (29, .bool ((!(cal_within x25.day 0 6)) || (!(cal_within x25.from_ 0 1439))))]) (fun _ w' => w33 = w') ?_ ?_
   ·simp only [List.take, List.drop]
    rcases Be (!(cal_within x25.day 0 6)) with hc43 | hc43
    ·refine Gm hc43 (Gm hc43 (Gm hc43 (Gm hc43 (Vy (Y_pick_te rfl hc43 rfl) ?_))))
     exact V_end fun a ha => ⟨(), ha.sub ⟨rfl, rfl, rfl, rfl, rfl, rfl, rfl, (by rw [hc43]; rfl), trivial⟩, rfl⟩
    refine Gf hc43 ?_
    have h45 := El_cal_Shift_1 h35
    refine Fa underlying75 rfl sizeOf3 (Gf hc43 (Li h45 isAgg3 (Gf hc43 ?_)))
    refine Vc call97 (cal_within_c w33 x25.from_ 0 1439) ?_
    rintro _ _ ⟨rfl, rfl⟩
    refine Gf hc43 (Vy (Y_not rfl) (Vy (Y_pick_fe rfl hc43 rfl) ?_))
    exact V_end fun a ha => ⟨(), ha.sub ⟨rfl, rfl, rfl, rfl, rfl, rfl, rfl, (by rw [hc43]; rfl), trivial⟩, rfl⟩
   simp only [List.take, List.drop]
   rintro _ _ rfl
   refine Mm ?_
   refine V_cut 6 (fun _ : Unit => [(0, v_l), (1, .bool dated), (5, Ii (k6 : Int)), (6, Pt b30), (7, v_l), (8, Ii (l.length : Int)), (9, Ii (k6 : Int)), (36, .bool (((!(cal_within x25.day 0 6)) || (!(cal_within x25.from_ 0 1439))) || (decide (x25.to_ ≤ x25.from_))))]) (fun _ w' => w33 = w') ?_ ?_
   ·simp only [List.take, List.drop]
    rcases Be (((!(cal_within x25.day 0 6)) || (!(cal_within x25.from_ 0 1439)))) with hc46 | hc46
    ·refine Gm hc46 (Gm hc46 (Gm hc46 (Gm hc46 (Gm hc46 (Vy (Y_pick_te rfl hc46 rfl) ?_)))))
     exact V_end fun a ha => ⟨(), ha.sub ⟨rfl, rfl, rfl, rfl, rfl, rfl, rfl, (by rw [hc46]; rfl), trivial⟩, rfl⟩
    refine Gf hc46 ?_
    have h48 := El_cal_Shift_2 h35
    refine Fa underlying75 rfl sizeOf3 (Gf hc46 (Li h48 isAgg3 (Gf hc46 ?_)))
    have h49 := El_cal_Shift_1 h35
    refine Fa underlying75 rfl sizeOf3 (Gf hc46 (Li h49 isAgg3 (Gf hc46 (Vy (Y_leq rfl rfl) (Vy (Y_pick_fe rfl hc46 rfl) ?_)))))
    exact V_end fun a ha => ⟨(), ha.sub ⟨rfl, rfl, rfl, rfl, rfl, rfl, rfl, (by rw [hc46]; rfl), trivial⟩, rfl⟩
   simp only [List.take, List.drop]
   rintro _ _ rfl
   refine Mm ?_
   refine V_cut 7 (fun _ : Unit => [(0, v_l), (1, .bool dated), (5, Ii (k6 : Int)), (6, Pt b30), (7, v_l), (8, Ii (l.length : Int)), (9, Ii (k6 : Int)), (44, .bool ((((!(cal_within x25.day 0 6)) || (!(cal_within x25.from_ 0 1439))) || (decide (x25.to_ ≤ x25.from_))) || (decide ((w64 (x25.from_ + 1440)) < x25.to_))))]) (fun _ w' => w33 = w') ?_ ?_
   ·simp only [List.take, List.drop]
    rcases Be ((((!(cal_within x25.day 0 6)) || (!(cal_within x25.from_ 0 1439))) || (decide (x25.to_ ≤ x25.from_)))) with hc50 | hc50
    ·refine Gm hc50 (Gm hc50 (Gm hc50 (Gm hc50 (Gm hc50 (Gm hc50 (Vy (Y_pick_te rfl hc50 rfl) ?_))))))
     exact V_end fun a ha => ⟨(), ha.sub ⟨rfl, rfl, rfl, rfl, rfl, rfl, rfl, (by rw [hc50]; rfl), trivial⟩, rfl⟩
    refine Gf hc50 ?_
    have h52 := El_cal_Shift_2 h35
    refine Fa underlying75 rfl sizeOf3 (Gf hc50 (Li h52 isAgg3 (Gf hc50 ?_)))
    have h53 := El_cal_Shift_1 h35
    refine Fa underlying75 rfl sizeOf3 (Gf hc50 (Li h53 isAgg3 (Gf hc50 (Vy (Y_addI rfl rfl) (Gf hc50 (Vy (Y_gtr rfl rfl) (Vy (Y_pick_fe rfl hc50 rfl) ?_)))))))
    exact V_end fun a ha => ⟨(), ha.sub ⟨rfl, rfl, rfl, rfl, rfl, rfl, rfl, (by rw [hc50]; rfl), trivial⟩, rfl⟩
   simp only [List.take, List.drop]
   rintro _ _ rfl
   refine To ?_
   refine Cc (fun hc54 => ?_) fun hc54 => ?_
   ·rw [if_pos hc54] at h17
    refine Sr (As (To ?_))
    obtain rfl := Oi h17
    obtain rfl := (h18 : Lp.rt _ = _)
    rw [Lp.andThen_rt] at hm
    obtain rfl := Oi hm
    refine Rt (Res.one results96 rfl) ?_
    exact ⟨rfl, hK.kp⟩
   rw [if_neg (nt hc54)] at h17
   refine Sk ?_
   refine C_seq ?_
   refine C_region_q (Dw := Dw) Tryz_mixed (by kernel_rfl) ?_
   refine Qm (Qv (fun w' hw' => Y_gtr rfl rfl) (Qm ?_))
   obtain ⟨s56, hs56, h17⟩ := Bs h17
   refine VQ_cut 9 (fun _ : Unit => [(0, v_l), (1, .bool dated), (7, v_l), (8, Ii (l.length : Int)), (9, Ii (k6 : Int)), (56, .bool s56)]) (fun _ => True) ?_ ?_
   ·simp only [List.take, List.drop]
    rcases Be (decide ((0 : Int) < (k6 : Int))) with hc55 | hc55
    ·rw [if_pos hc55] at hs56
     refine Qh hc55 ?_
     obtain ⟨h57, _⟩ := El_cal_Shift h35
     refine Qv (fun w' hw' => Y_loadA (At.kp h57 hw' h35.2.1) isAgg75 sizeOf75 rfl) (Qh hc55 (Qm (Qh hc55 (Qm (Qh hc55 (Qv (fun w' hw' => Y_subI rfl rfl) (Qh hc55 ?_)))))))
     obtain ⟨x58, hx58, hs56⟩ := Bs hs56
     refine VQ_indexAddr h_l hx58 underlying65 sizeOf75 rfl rfl rfl ?_
     intro b59 o60 h61
     refine Qh hc55 ?_
     obtain ⟨h62, _⟩ := El_cal_Shift h61
     refine Qv (fun w' hw' => Y_loadA (At.kp h62 hw' h61.2.1) isAgg75 sizeOf75 rfl) (Qh hc55 ?_)
     obtain ⟨x63, hx63, hs56⟩ := Bs hs56
     refine VQ_call (.bool x63) call120 rfl rfl rfl rfl (fun w' hw' => (cal_after_c (Dw := Dw) w' (fun b hb => hA b (Nat.le_trans hw'.size hb)) x25 x58 hx63).mono (fun _ _ h => ⟨h.1, Kp.trans (Dw := Dw) hw' h.2⟩)) ?_
     refine Qh hc55 (Qv (fun w' hw' => Y_not rfl) ?_)
     refine VQ_y (fun _ _ => Y_pick_te rfl hc55 rfl) rfl rfl rfl ?_
     obtain rfl := Oi hs56
     exact VQ_end fun a ha => ⟨(), ha.sb, trivial⟩
    rw [if_neg (nt hc55)] at hs56
    refine Qg hc55 (Qg hc55 (Qg hc55 (Qg hc55 (Qg hc55 (Qg hc55 (Qg hc55 (Qg hc55 ?_)))))))
    refine VQ_y (fun _ _ => Y_pick_fe rfl hc55 rfl) rfl rfl rfl ?_
    obtain rfl := Oi hs56
    exact VQ_end fun a ha => ⟨(), ha.sb, trivial⟩
   simp only [List.take, List.drop]
   rintro _ _
   refine VQ_to (fun _ _ => rfl) (fun w65 hk66 => ?_)
   have ht67 := Kp.tr hk66 hA hB; replace hH := Hp.kp hH hk66; replace hK := Tt hK ht67; replace hr5 := Tt hr5 ht67
   refine Cc (fun hc68 => ?_) fun hc68 => ?_
   ·rw [if_pos hc68] at h17
    refine Sr (As (To ?_))
    obtain rfl := Oi h17
    obtain rfl := (h18 : Lp.rt _ = _)
    rw [Lp.andThen_rt] at hm
    obtain rfl := Oi hm
    refine Rt (Res.one results96 rfl) ?_
    exact ⟨rfl, hK.kp⟩
   rw [if_neg (nt hc68)] at h17
   refine Sk ?_
   refine C_region (Vy (Y_addI rfl rfl) (Mm ?_))
   obtain rfl := Oi h17
   refine V_end (fun a ha69 => ?_)
   exact ⟨(), hlt20, h18, ⟨A14, ha69.sub ⟨rfl, rfl, rfl, rfl, Ws hlt20 hn23, trivial⟩, ⟨hH, hr5⟩⟩⟩
  refine C_exit (fun a ha70 => ?_)
  exact ⟨((), A14), ha70.sub trivial, ⟨(h21 (eq_of_dec hle19 hc24)).symm, hH, hr5⟩⟩
 rintro ⟨s4, A10⟩ w7 ⟨rfl, hH11, hk8⟩ a ha9
 rw [Lp.andThen_fin] at hm
 replace hK := Tr.trans hK hk8; replace hA := hk8.new; replace hH := hH11
 refine C_at (n := ⟨58, [], none⟩) (fun _ _ => rfl) ?_ ha9
 refine Sr (As (To ?_))
 obtain rfl := Oi hm
 refine Rt (Res.one results96 rfl) ?_
 exact ⟨rfl, hK.kp⟩
theorem cal_CheckCalendar_c (w : World) {A : Nat → Prop} (hA : ∀ b, w.heap.size ≤ b → A b) (c : cal_Calendar) (v_c0 : Value) (h_c0 : Sl A w v_c0 c.zone.changes) (v_c1 : Value) (h_c1 : Sl A w v_c1 c.week) (v_c2 : Value) (h_c2 : Sl A w v_c2 c.specials) {r : Int} (hm : cal_CheckCalendar c = some r) : Ret prog 61 #[.agg #[Ii c.zone.offset, v_c0, v_c1, v_c2]] w fun v w' => v = Ii r ∧ Kp Dw w w' := by
 unfold cal_CheckCalendar at hm
 refine enter func61 rfl ntmps61 rfl ?_
 have hA0 := hA
 obtain ⟨hB, hK, hH⟩ := St (Dw := Dw) hA
 refine Sr ?_
 refine V_box rfl rfl ?_
 intro b7 w9 h10
 have hk12 := h10.kp (Dw := Dw)
 have h11 : El (α := cal_Calendar) A w9 b7 0 c := h10.el hA ⟨[Ii c.zone.offset, v_c0], _, rfl, ⟨[Ii c.zone.offset], _, rfl, rfl, ⟨_, rfl, h_c0⟩⟩, ⟨[v_c1], _, rfl, ⟨_, rfl, h_c1⟩, ⟨_, rfl, h_c2⟩⟩⟩
 have ht13 := Kp.tr hk12 hA hB; replace hH := Hp.kp hH hk12; replace hK := Tt hK ht13; replace hB := Bx hB ht13; replace hA := ht13.new
 refine As (To ?_)
 refine C_seq (Sr ?_)
 have h14 := El_cal_Calendar_0 h11
 refine Fa underlying68 rfl sizeOf64 ?_
 obtain ⟨v15, h17, h16⟩ := El_cal_Zone h14
 refine Vy (Y_loadA h17 isAgg64 sizeOf64 rfl) ?_
 obtain ⟨x18, hx18, hm⟩ := Bs hm
 refine Vc call95 (cal_CheckZone_c (Dw := Dw) w9 hA c.zone v15 h16 hx18) ?_
 rintro _ w19 ⟨rfl, hk20⟩
 have ht21 := Kp.tr hk20 hA hB; replace hH := Hp.kp hH hk20; replace h11 := El.tr h11 ht21; replace hK := Tt hK ht21; replace hB := Bx hB ht21; replace hA := ht21.new
 refine As (To ?_)
 refine Sr (Mm (Vy (Y_neq rfl rfl) (To ?_)))
 refine Cc (fun hc22 => ?_) fun hc22 => ?_
 ·rw [if_pos hc22] at hm
  refine Sr (Mm (As (To ?_)))
  obtain rfl := Oi hm
  refine Rt (Res.one results61 rfl) ?_
  exact ⟨rfl, hK.kp⟩
 rw [if_neg (nt hc22)] at hm
 refine Sk ?_
 refine C_seq (Sr ?_)
 have h23 := El_cal_Calendar_1 h11
 refine Fa underlying68 rfl sizeOf65 ?_
 obtain ⟨v24, h25, h26⟩ := El.list h23
 refine Ld h25 isAgg65 (Vy (Y_lenSl h26 rfl underlying65 rfl) (Vy (Y_gtr rfl rfl) (Mm ?_)))
 refine V_cut 5 (fun _ : Unit => [(1, Pt b7), (23, .bool ((decide ((60 : Int) < (c.week.length : Int))) || (decide ((200 : Int) < (c.specials.length : Int)))))]) (fun _ w' => w19 = w') ?_ ?_
 ·simp only [List.take, List.drop]
  rcases Be (decide ((60 : Int) < (c.week.length : Int))) with hc27 | hc27
  ·refine Gm hc27 (Gm hc27 (Gm hc27 (Gm hc27 (Vy (Y_pick_te rfl hc27 rfl) ?_))))
   exact V_end fun a ha => ⟨(), ha.sub ⟨rfl, (by rw [hc27]; rfl), trivial⟩, rfl⟩
  refine Gf hc27 ?_
  have h29 := El_cal_Calendar_2 h11
  refine Fa underlying68 rfl sizeOf66 (Gf hc27 ?_)
  obtain ⟨v30, h31, h32⟩ := El.list h29
  refine Ld h31 isAgg66 (Gf hc27 (Vy (Y_lenSl h32 rfl underlying66 rfl) (Gf hc27 (Vy (Y_gtr rfl rfl) (Vy (Y_pick_fe rfl hc27 rfl) ?_)))))
  exact V_end fun a ha => ⟨(), ha.sub ⟨rfl, (by rw [hc27]; rfl), trivial⟩, rfl⟩
 simp only [List.take, List.drop]
 rintro _ _ rfl
 refine To ?_
 refine Cc (fun hc33 => ?_) fun hc33 => ?_
 ·rw [if_pos hc33] at hm
  refine Sr (As (To ?_))
  obtain rfl := Oi hm
  refine Rt (Res.one results61 rfl) ?_
  exact ⟨rfl, hK.kp⟩
 rw [if_neg (nt hc33)] at hm
 refine Sk ?_
 refine C_seq (Sr ?_)
 have h34 := El_cal_Calendar_1 h11
 refine Fa underlying68 rfl sizeOf65 ?_
 obtain ⟨v35, h36, h37⟩ := El.list h34
 refine Ld h36 isAgg65 ?_
 obtain ⟨x38, hx38, hm⟩ := Bs hm
 refine Vc call96 (cal_checkShifts_c (Dw := Dw) w19 hA c.week v35 h37 false hx38) ?_
 rintro _ w39 ⟨rfl, hk40⟩
 have ht41 := Kp.tr hk40 hA hB; replace hH := Hp.kp hH hk40; replace h11 := El.tr h11 ht41; replace hK := Tt hK ht41; replace hB := Bx hB ht41; replace hA := ht41.new
 refine As (To ?_)
 refine Sr (Mm (Vy (Y_neq rfl rfl) (To ?_)))
 refine Cc (fun hc42 => ?_) fun hc42 => ?_
 ·rw [if_pos hc42] at hm
  refine Sr (Mm (As (To ?_)))
  obtain rfl := Oi hm
  refine Rt (Res.one results61 rfl) ?_
  exact ⟨rfl, hK.kp⟩
 rw [if_neg (nt hc42)] at hm
 refine Sk ?_
 refine C_seq (Sr ?_)
 have h43 := El_cal_Calendar_2 h11
 refine Fa underlying68 rfl sizeOf66 ?_
 obtain ⟨v44, h45, h46⟩ := El.list h43
 refine Ld h45 isAgg66 (Vy (Y_lenSl h46 rfl underlying66 rfl) (Mm (To ?_)))
 have hn67 := Sl.le h46
 obtain ⟨o47, ho47, hm⟩ := Bs hm
 refine C_cutG (ι := (Unit × (Nat → Prop))) (fun ⟨s48, A54⟩ => []) (fun ⟨s48, A54⟩ => fun w' => o47 = .fin s48 ∧ Hp w.heap.size A54 w' ([]) ∧ Tr Dw w.heap.size A w39 A54 w') ?_ ?_
 ·refine C_block ?_
  refine C_range ho47 (fun k50 _ a w' => ∃ i : (Nat → Prop), Has ⟨70, [], none⟩ a ([(1, Pt b7), (31, v44), (32, Ii (c.specials.length : Int)), (33, Ii (k50 : Int))]) ∧ Hp w.heap.size i w' ([]) ∧ Tr Dw w.heap.size A w39 i w') (fun a ha => ⟨A, ha.sb, ⟨hH, Tr.refl (Dw := Dw) hA⟩⟩) ?_
  rintro K k50 _ a w57 ⟨A58, ha121, hH59, hr49⟩ hle63 K66 h65
  refine C_of ?_ ha121
  replace h11 := El.tr h11 hr49; replace h46 := Sl.tr h46 hr49; replace hK := Tt hK hr49; replace hB := Bx hB hr49; replace hA := hr49.new; replace hH := hH59
  refine Sr (Vy (Y_lss rfl rfl) (To ?_))
  refine C_seq ?_
  refine Cc (fun hc68 => ?_) fun hc68 => ?_
  ·have hlt64 := lt_of_dec hc68
   obtain ⟨x60, h61, h62⟩ := K66 hlt64
   refine Sk ?_
   refine C_seq (C_block (Sr (Mm ?_)))
   obtain ⟨x69, hx69, h61⟩ := Bs h61
   refine V_indexAddr h46 hx69 underlying66 sizeOf78 rfl rfl rfl ?_
   intro b70 o71 h72
   obtain ⟨v73, h75, h74⟩ := El_cal_Special h72
   refine Vy (Y_loadA h75 isAgg78 sizeOf78 rfl) ?_
   refine V_alloc zeroValue78 rfl ?_
   intro b76 w77 h78
   refine As ?_
   have h83 : (v73).oneCell' = true := by obtain ⟨_, _, e, _⟩ := Sl.form h74; rw [e]; rfl
   refine Sn h78 sizeOf78 ?_
   intro w79 h80
   have hk85 := h80.kp (Dw := Dw)
   have h84 : El (α := cal_Special) A58 w79 b76 0 x69 := h80.el hA ⟨[Ii x69.day], _, rfl, rfl, ⟨_, rfl, h74⟩⟩
   have ht86 := Kp.tr hk85 hA hB; replace hH := Hp.kp hH hk85; replace h11 := El.tr h11 ht86; replace hK := Tt hK ht86; replace hr49 := Tt hr49 ht86; replace hB := Bx hB ht86; replace hA := ht86.new
   refine To ?_
   refine C_seq (C_block (Sr ?_))
   have h87 := El_cal_Special_0 h84
   refine Fa underlying78 rfl sizeOf3 (Li h87 isAgg3 ?_)
   refine Vc call97 (cal_within_c w79 x69.day (-1) 2084) ?_
   rintro _ _ ⟨rfl, rfl⟩
   refine Vy (Y_not rfl) (As (To ?_))
   refine Cc (fun hc88 => ?_) fun hc88 => ?_
   ·rw [if_pos hc88] at h61
    refine Sr (As (To ?_))
    obtain rfl := Oi h61
    obtain rfl := (h62 : Lp.rt _ = _)
    rw [Lp.andThen_rt] at hm
    obtain rfl := Oi hm
    refine Rt (Res.one results61 rfl) ?_
    exact ⟨rfl, hK.kp⟩
   rw [if_neg (nt hc88)] at h61
   refine C_seq ?_
   refine C_region_q (Dw := Dw) Tryz_mixed (by kernel_rfl) ?_
   refine Qm (Qv (fun w' hw' => Y_gtr rfl rfl) (Qm ?_))
   obtain ⟨s90, hs90, h61⟩ := Bs h61
   refine VQ_cut 11 (fun _ : Unit => [(1, Pt b7), (6, Pt b76), (31, v44), (32, Ii (c.specials.length : Int)), (33, Ii (k50 : Int)), (57, .bool s90)]) (fun _ => True) ?_ ?_
   ·simp only [List.take, List.drop]
    rcases Be (decide ((0 : Int) < (k50 : Int))) with hc89 | hc89
    ·rw [if_pos hc89] at hs90
     refine Qh hc89 ?_
     have h91 := El_cal_Special_0 h84
     refine Qf underlying78 rfl sizeOf3 (Qh hc89 (Qi h91 isAgg3 (Qh hc89 ?_)))
     have h92 := El_cal_Calendar_2 h11
     refine Qf underlying68 rfl sizeOf66 (Qh hc89 ?_)
     obtain ⟨v93, h94, h95⟩ := El.list h92
     refine Qc h94 isAgg66 (Qh hc89 (Qm (Qh hc89 (Qv (fun w' hw' => Y_subI rfl rfl) (Qh hc89 ?_)))))
     obtain ⟨x96, hx96, hs90⟩ := Bs hs90
     refine VQ_indexAddr h95 hx96 underlying66 sizeOf78 rfl rfl rfl ?_
     intro b97 o98 h99
     refine Qh hc89 ?_
     have h100 := El_cal_Special_0 h99
     refine Qf underlying78 rfl sizeOf3 (Qh hc89 (Qi h100 isAgg3 (Qh hc89 (Qv (fun w' hw' => Y_leq rfl rfl) ?_))))
     refine VQ_y (fun _ _ => Y_pick_te rfl hc89 rfl) rfl rfl rfl ?_
     obtain rfl := Oi hs90
     exact VQ_end fun a ha => ⟨(), ha.sb, trivial⟩
    rw [if_neg (nt hc89)] at hs90
    refine Qg hc89 (Qg hc89 (Qg hc89 (Qg hc89 (Qg hc89 (Qg hc89 (Qg hc89 (Qg hc89 (Qg hc89 (Qg hc89 ?_)))))))))
    refine VQ_y (fun _ _ => Y_pick_fe rfl hc89 rfl) rfl rfl rfl ?_
    obtain rfl := Oi hs90
    exact VQ_end fun a ha => ⟨(), ha.sb, trivial⟩
   simp only [List.take, List.drop]
   rintro _ _
   refine Qa ?_
   refine VQ_to (fun _ _ => rfl) (fun w101 hk102 => ?_)
   have ht103 := Kp.tr hk102 hA hB; replace hH := Hp.kp hH hk102; replace h84 := El.tr h84 ht103; replace hK := Tt hK ht103; replace hr49 := Tt hr49 ht103; replace hB := Bx hB ht103; replace hA := ht103.new
   refine Cc (fun hc104 => ?_) fun hc104 => ?_
   ·rw [if_pos hc104] at h61
    refine Sr (As (To ?_))
    obtain rfl := Oi h61
    obtain rfl := (h62 : Lp.rt _ = _)
    rw [Lp.andThen_rt] at hm
    obtain rfl := Oi hm
    refine Rt (Res.one results61 rfl) ?_
    exact ⟨rfl, hK.kp⟩
   rw [if_neg (nt hc104)] at h61
   refine Sr ?_
   have h105 := El_cal_Special_1 h84
   refine Fa underlying78 rfl sizeOf65 ?_
   obtain ⟨v106, h107, h108⟩ := El.list h105
   refine Ld h107 isAgg65 (Vy (Y_lenSl h108 rfl underlying65 rfl) (Vy (Y_gtr rfl rfl) (As (To ?_))))
   refine Cc (fun hc109 => ?_) fun hc109 => ?_
   ·rw [if_pos hc109] at h61
    refine Sr (As (To ?_))
    obtain rfl := Oi h61
    obtain rfl := (h62 : Lp.rt _ = _)
    rw [Lp.andThen_rt] at hm
    obtain rfl := Oi hm
    refine Rt (Res.one results61 rfl) ?_
    exact ⟨rfl, hK.kp⟩
   rw [if_neg (nt hc109)] at h61
   refine Sk ?_
   refine Sr ?_
   have h110 := El_cal_Special_1 h84
   refine Fa underlying78 rfl sizeOf65 ?_
   obtain ⟨v111, h112, h113⟩ := El.list h110
   refine Ld h112 isAgg65 ?_
   obtain ⟨x114, hx114, h61⟩ := Bs h61
   refine Vc call96 (cal_checkShifts_c (Dw := Dw) w101 hA x69.shifts v111 h113 true hx114) ?_
   rintro _ w115 ⟨rfl, hk116⟩
   have ht117 := Kp.tr hk116 hA hB; replace hH := Hp.kp hH hk116; replace hK := Tt hK ht117; replace hr49 := Tt hr49 ht117
   refine As (To ?_)
   refine Sr (Mm (Vy (Y_neq rfl rfl) (To ?_)))
   refine Cc (fun hc118 => ?_) fun hc118 => ?_
   ·rw [if_pos hc118] at h61
    refine Sr (Mm (As (To ?_)))
    obtain rfl := Oi h61
    obtain rfl := (h62 : Lp.rt _ = _)
    rw [Lp.andThen_rt] at hm
    obtain rfl := Oi hm
    refine Rt (Res.one results61 rfl) ?_
    exact ⟨rfl, hK.kp⟩
   rw [if_neg (nt hc118)] at h61
   refine Sk ?_
   refine C_region (Vy (Y_addI rfl rfl) (Mm ?_))
   obtain rfl := Oi h61
   refine V_end (fun a ha119 => ?_)
   exact ⟨(), hlt64, h62, ⟨A58, ha119.sub ⟨rfl, rfl, rfl, Ws hlt64 hn67, trivial⟩, ⟨hH, hr49⟩⟩⟩
  refine C_exit (fun a ha120 => ?_)
  exact ⟨((), A58), ha120.sub trivial, ⟨(h65 (eq_of_dec hle63 hc68)).symm, hH, hr49⟩⟩
 rintro ⟨s48, A54⟩ w51 ⟨rfl, hH55, hk52⟩ a ha53
 rw [Lp.andThen_fin] at hm
 replace hK := Tr.trans hK hk52; replace hA := hk52.new; replace hH := hH55
 refine C_at (n := ⟨70, [], none⟩) (fun _ _ => rfl) ?_ ha53
 refine Sr (As (To ?_))
 obtain rfl := Oi hm
 refine Rt (Res.one results61 rfl) ?_
 exact ⟨rfl, hK.kp⟩
theorem route_checkCals_c (w : World) {A : Nat → Prop} (hA : ∀ b, w.heap.size ≤ b → A b) (people : (List route_Person)) (v_people : Value) (h_people : Sl A w v_people people) (cals : (List cal_Calendar)) (v_cals : Value) (h_cals : Sl A w v_cals cals) {r : Int} (hm : route_checkCals people cals = some r) : Ret prog 9 #[v_people, v_cals] w fun v w' => v = Ii r ∧ Kp Dw w w' := by
 unfold route_checkCals at hm
 refine enter func9 rfl ntmps9 rfl ?_
 have hA0 := hA
 obtain ⟨hB, hK, hH⟩ := St (Dw := Dw) hA
 refine Sr (As (To ?_))
 refine C_seq (Sr (Mm ?_))
 obtain ⟨x5, hx5, hm⟩ := Bs hm
 refine Vc call60 (route_CheckPeople_c (Dw := Dw) w hA people v_people h_people hx5) ?_
 rintro _ w6 ⟨rfl, hk7⟩
 have ht8 := Kp.tr hk7 hA hB; replace hH := Hp.kp hH hk7; replace h_people := Sl.tr h_people ht8; replace h_cals := Sl.tr h_cals ht8; replace hK := Tt hK ht8; replace hB := Bx hB ht8; replace hA := ht8.new
 refine As (To ?_)
 refine Sr (Mm (Vy (Y_neq rfl rfl) (To ?_)))
 refine Cc (fun hc9 => ?_) fun hc9 => ?_
 ·rw [if_pos hc9] at hm
  refine Sr (Mm (As (To ?_)))
  obtain rfl := Oi hm
  refine Rt (Res.one results9 rfl) ?_
  exact ⟨rfl, hK.kp⟩
 rw [if_neg (nt hc9)] at hm
 refine Sk ?_
 refine C_seq (Sr (Mm (Vy (Y_lenSl h_cals rfl underlying23 rfl) (Vy (Y_gtr rfl rfl) (To ?_)))))
 refine Cc (fun hc10 => ?_) fun hc10 => ?_
 ·rw [if_pos hc10] at hm
  refine Sr (As (To ?_))
  obtain rfl := Oi hm
  refine Rt (Res.one results9 rfl) ?_
  exact ⟨rfl, hK.kp⟩
 rw [if_neg (nt hc10)] at hm
 refine Sk ?_
 refine C_seq (Sr (Mm (Vy (Y_lenSl h_cals rfl underlying23 rfl) (Mm (To ?_)))))
 have hn31 := Sl.le h_cals
 obtain ⟨o11, ho11, hm⟩ := Bs hm
 refine C_cutG (ι := (Unit × (Nat → Prop))) (fun ⟨s12, A18⟩ => [(0, v_people), (1, v_cals)]) (fun ⟨s12, A18⟩ => fun w' => o11 = .fin s12 ∧ Hp w.heap.size A18 w' ([]) ∧ Tr Dw w.heap.size A w6 A18 w') ?_ ?_
 ·refine C_block ?_
  refine C_range ho11 (fun k14 _ a w' => ∃ i : (Nat → Prop), Has ⟨43, [], none⟩ a ([(0, v_people), (1, v_cals), (19, v_cals), (20, Ii (cals.length : Int)), (21, Ii (k14 : Int))]) ∧ Hp w.heap.size i w' ([]) ∧ Tr Dw w.heap.size A w6 i w') (fun a ha => ⟨A, ha.sb, ⟨hH, Tr.refl (Dw := Dw) hA⟩⟩) ?_
  rintro K k14 _ a w21 ⟨A22, ha75, hH23, hr13⟩ hle27 K30 h29
  refine C_of ?_ ha75
  replace h_cals := Sl.tr h_cals hr13; replace hK := Tt hK hr13; replace hB := Bx hB hr13; replace hA := hr13.new; replace hH := hH23
  refine Sr (Vy (Y_lss rfl rfl) (To ?_))
  refine C_seq ?_
  refine Cc (fun hc32 => ?_) fun hc32 => ?_
  ·have hlt28 := lt_of_dec hc32
   obtain ⟨x24, h25, h26⟩ := K30 hlt28
   refine Sk ?_
   refine C_seq (C_block (Sr ?_))
   obtain ⟨x33, hx33, h25⟩ := Bs h25
   refine V_indexAddr h_cals hx33 underlying23 sizeOf68 rfl rfl rfl ?_
   intro b34 o35 h36
   obtain ⟨v37, v39, v41, h43, h38, h40, h42⟩ := El_cal_Calendar h36
   refine Vy (Y_loadA h43 isAgg68 sizeOf68 rfl) ?_
   refine V_alloc zeroValue68 rfl ?_
   intro b44 w45 h46
   have h51 : (v37).oneCell' = true := by obtain ⟨_, _, e, _⟩ := Sl.form h38; rw [e]; rfl
   have h54 : (v39).oneCell' = true := by obtain ⟨_, _, e, _⟩ := Sl.form h40; rw [e]; rfl
   have h57 : (v41).oneCell' = true := by obtain ⟨_, _, e, _⟩ := Sl.form h42; rw [e]; rfl
   refine Sn h46 sizeOf68 ?_
   intro w47 h48
   have hk59 := h48.kp (Dw := Dw)
   have h58 : El (α := cal_Calendar) A22 w47 b44 0 x33 := h48.el hA ⟨[Ii x33.zone.offset, v37], _, rfl, ⟨[Ii x33.zone.offset], _, rfl, rfl, ⟨_, rfl, h38⟩⟩, ⟨[v39], _, rfl, ⟨_, rfl, h40⟩, ⟨_, rfl, h42⟩⟩⟩
   have ht60 := Kp.tr hk59 hA hB; replace hH := Hp.kp hH hk59; replace hK := Tt hK ht60; replace hr13 := Tt hr13 ht60; replace hB := Bx hB ht60; replace hA := ht60.new
   refine To ?_
   refine Sr ?_
   obtain ⟨v61, v63, v65, h67, h62, h64, h66⟩ := El_cal_Calendar h58
   refine Vy (Y_loadA h67 isAgg68 sizeOf68 rfl) ?_
   obtain ⟨x68, hx68, h25⟩ := Bs h25
   refine Vc call61 (cal_CheckCalendar_c (Dw := Dw) w47 hA x33 v61 h62 v63 h64 v65 h66 hx68) ?_
   rintro _ w69 ⟨rfl, hk70⟩
   have ht71 := Kp.tr hk70 hA hB; replace hH := Hp.kp hH hk70; replace hK := Tt hK ht71; replace hr13 := Tt hr13 ht71
   refine As (To ?_)
   refine Sr (Mm (Vy (Y_neq rfl rfl) (To ?_)))
   refine Cc (fun hc72 => ?_) fun hc72 => ?_
   ·rw [if_pos hc72] at h25
    refine Sr (Mm (As (To ?_)))
    obtain rfl := Oi h25
    obtain rfl := (h26 : Lp.rt _ = _)
    rw [Lp.andThen_rt] at hm
    obtain rfl := Oi hm
    refine Rt (Res.one results9 rfl) ?_
    exact ⟨rfl, hK.kp⟩
   rw [if_neg (nt hc72)] at h25
   refine Sk ?_
   refine C_region (Vy (Y_addI rfl rfl) (Mm ?_))
   obtain rfl := Oi h25
   refine V_end (fun a ha73 => ?_)
   exact ⟨(), hlt28, h26, ⟨A22, ha73.sub ⟨rfl, rfl, rfl, rfl, Ws hlt28 hn31, trivial⟩, ⟨hH, hr13⟩⟩⟩
  refine C_exit (fun a ha74 => ?_)
  exact ⟨((), A22), ha74.sb, ⟨(h29 (eq_of_dec hle27 hc32)).symm, hH, hr13⟩⟩
 rintro ⟨s12, A18⟩ w15 ⟨rfl, hH19, hk16⟩ a ha17
 rw [Lp.andThen_fin] at hm
 replace h_people := Sl.tr h_people hk16; replace h_cals := Sl.tr h_cals hk16; replace hK := Tr.trans hK hk16; replace hB := Nat.le_trans hB hk16.ex.size; replace hA := hk16.new; replace hH := hH19
 refine C_at (n := ⟨43, [], none⟩) (fun _ _ => rfl) ?_ ha17
 refine C_seq (Sr (Mm (Vy (Y_lenSl h_people rfl underlying22 rfl) (Mm (To ?_)))))
 have hn96 := Sl.le h_people
 obtain ⟨o76, ho76, hm⟩ := Bs hm
 refine C_cutG (ι := (Unit × (Nat → Prop))) (fun ⟨s77, A83⟩ => []) (fun ⟨s77, A83⟩ => fun w' => o76 = .fin s77 ∧ Hp w.heap.size A83 w' ([]) ∧ Tr Dw w.heap.size A18 w15 A83 w') ?_ ?_
 ·refine C_block ?_
  refine C_range ho76 (fun k79 _ a w' => ∃ i : (Nat → Prop), Has ⟨43, [], none⟩ a ([(1, v_cals), (31, v_people), (32, Ii (people.length : Int)), (33, Ii (k79 : Int))]) ∧ Hp w.heap.size i w' ([]) ∧ Tr Dw w.heap.size A18 w15 i w') (fun a ha => ⟨A18, ha.sb, ⟨hH, Tr.refl (Dw := Dw) hA⟩⟩) ?_
  rintro K k79 _ a w86 ⟨A87, ha120, hH88, hr78⟩ hle92 K95 h94
  refine C_of ?_ ha120
  replace h_cals := Sl.tr h_cals hr78; replace h_people := Sl.tr h_people hr78; replace hK := Tt hK hr78; replace hB := Bx hB hr78; replace hA := hr78.new; replace hH := hH88
  refine Sr (Vy (Y_lss rfl rfl) (To ?_))
  refine C_seq ?_
  refine Cc (fun hc97 => ?_) fun hc97 => ?_
  ·have hlt93 := lt_of_dec hc97
   obtain ⟨x89, h90, h91⟩ := K95 hlt93
   refine Sk ?_
   refine C_seq (C_block (Sr ?_))
   obtain ⟨x98, hx98, h90⟩ := Bs h90
   refine V_indexAddr h_people hx98 underlying22 sizeOf124 rfl rfl rfl ?_
   intro b99 o100 h101
   obtain ⟨v102, h104, h103⟩ := El_route_Person h101
   refine Vy (Y_loadA h104 isAgg124 sizeOf124 rfl) ?_
   refine V_alloc zeroValue124 rfl ?_
   intro b105 w106 h107
   have h112 : (v102).oneCell' = true := by obtain ⟨_, _, e, _⟩ := Sl.form h103; rw [e]; rfl
   refine Sn h107 sizeOf124 ?_
   intro w108 h109
   have hk114 := h109.kp (Dw := Dw)
   have h113 : El (α := route_Person) A87 w108 b105 0 x98 := h109.el hA ⟨[Ii x98.no], _, rfl, rfl, ⟨[Ii x98.capacity], _, rfl, rfl, ⟨[Ii x98.calendar], _, rfl, rfl, ⟨_, rfl, h103⟩⟩⟩⟩
   have ht115 := Kp.tr hk114 hA hB; replace hH := Hp.kp hH hk114; replace h_cals := Sl.tr h_cals ht115; replace hK := Tt hK ht115; replace hr78 := Tt hr78 ht115
   refine To ?_
   refine Sr ?_
   have h116 := El_route_Person_2 h113
   refine Fa underlying124 rfl sizeOf3 (Li h116 isAgg3 (Mm (Vy (Y_lenSl h_cals rfl underlying23 rfl) (Vy (Y_geq rfl rfl) (To ?_)))))
   refine Cc (fun hc117 => ?_) fun hc117 => ?_
   ·rw [if_pos hc117] at h90
    refine Sr (As (To ?_))
    obtain rfl := Oi h90
    obtain rfl := (h91 : Lp.rt _ = _)
    rw [Lp.andThen_rt] at hm
    obtain rfl := Oi hm
    refine Rt (Res.one results9 rfl) ?_
    exact ⟨rfl, hK.kp⟩
   rw [if_neg (nt hc117)] at h90
   refine Sk ?_
   refine C_region (Vy (Y_addI rfl rfl) (Mm ?_))
   obtain rfl := Oi h90
   refine V_end (fun a ha118 => ?_)
   exact ⟨(), hlt93, h91, ⟨A87, ha118.sub ⟨rfl, rfl, rfl, Ws hlt93 hn96, trivial⟩, ⟨hH, hr78⟩⟩⟩
  refine C_exit (fun a ha119 => ?_)
  exact ⟨((), A87), ha119.sub trivial, ⟨(h94 (eq_of_dec hle92 hc97)).symm, hH, hr78⟩⟩
 rintro ⟨s77, A83⟩ w80 ⟨rfl, hH84, hk81⟩ a ha82
 rw [Lp.andThen_fin] at hm
 replace hK := Tr.trans hK hk81; replace hA := hk81.new; replace hH := hH84
 refine C_at (n := ⟨43, [], none⟩) (fun _ _ => rfl) ?_ ha82
 refine Sr (As (To ?_))
 obtain rfl := Oi hm
 refine Rt (Res.one results9 rfl) ?_
 exact ⟨rfl, hK.kp⟩
theorem slices_IndexFunc_Lroute_Person_route_Person_c (w : World) {A : Nat → Prop} (hA : ∀ b, w.heap.size ≤ b → A b) (s : (List route_Person)) (v_s : Value) (h_s : Sl A w v_s s) (f : route_Person → Option Bool) (f_f : FuncId) (f_a f_c : Array Value) (f_call : ∀ (args : Array Value) (w : World), (callFunc f_f args).run prog w = .ok (.enter f_f args) w) (f_spec : ∀ (w1 : World) (A1 : Nat → Prop), Tr Dw w.heap.size A w A1 w1 → (∀ b, w1.heap.size ≤ b → A1 b) → ∀ (y0 : route_Person) (v1 : Value) (h2 : Sl A1 w1 v1 y0.skills) (r : Bool), f y0 = some r → Ret prog f_f (f_a ++ #[.agg #[Ii y0.no, Ii y0.capacity, Ii y0.calendar, v1]] ++ f_c) w1 fun v w' => v = .bool r ∧ Kp Dw w1 w') {r : Int} (hm : slices_IndexFunc_Lroute_Person_route_Person s f = some r) : Ret prog 98 #[v_s, .func (.func f_f) f_a f_c] w fun v w' => v = Ii r ∧ Kp Dw w w' := by
 unfold slices_IndexFunc_Lroute_Person_route_Person at hm
 refine enter func98 rfl ntmps98 rfl ?_
 have hA0 := hA
 obtain ⟨hB, hK, hH⟩ := St (Dw := Dw) hA
 refine Sr (As (To ?_))
 refine C_seq (Sr (Mm (Vy (Y_lenSl h_s rfl underlying22 rfl) (Mm (To ?_)))))
 have hn23 := Sl.le h_s
 obtain ⟨o3, ho3, hm⟩ := Bs hm
 refine C_cutG (ι := (Unit × (Nat → Prop))) (fun ⟨s4, A10⟩ => []) (fun ⟨s4, A10⟩ => fun w' => o3 = .fin s4 ∧ Hp w.heap.size A10 w' ([]) ∧ Tr Dw w.heap.size A w A10 w') ?_ ?_
 ·refine C_block ?_
  refine C_range ho3 (fun k6 _ a w' => ∃ i : (Nat → Prop), Has ⟨19, [], none⟩ a ([(0, v_s), (1, .func (.func f_f) f_a f_c), (7, Ii (s.length : Int)), (8, Ii (k6 : Int))]) ∧ Hp w.heap.size i w' ([]) ∧ Tr Dw w.heap.size A w i w') (fun a ha => ⟨A, ha.sb, ⟨hH, Tr.refl (Dw := Dw) hA⟩⟩) ?_
  rintro K k6 _ a w13 ⟨A14, ha39, hH15, hr5⟩ hle19 K22 h21
  refine C_of ?_ ha39
  replace h_s := Sl.tr h_s hr5; replace hK := Tt hK hr5; replace hB := Bx hB hr5; replace hA := hr5.new; replace hH := hH15
  refine Sr (Vy (Y_lss rfl rfl) (To ?_))
  refine C_seq ?_
  refine Cc (fun hc24 => ?_) fun hc24 => ?_
  ·have hlt20 := lt_of_dec hc24
   obtain ⟨x16, h17, h18⟩ := K22 hlt20
   refine Sk ?_
   refine C_seq (C_block (Sr (Mm (As (To ?_)))))
   refine Sr (Mm (Mm (Mm ?_)))
   obtain ⟨x25, hx25, h17⟩ := Bs h17
   refine V_indexAddr h_s hx25 underlying22 sizeOf124 rfl rfl rfl ?_
   intro b26 o27 h28
   obtain ⟨v29, h31, h30⟩ := El_route_Person h28
   refine Vy (Y_loadA h31 isAgg124 sizeOf124 rfl) ?_
   obtain ⟨x32, hx32, h17⟩ := Bs h17
   refine Vc f_call (f_spec w13 _ hK hA x25 v29 h30 _ hx32) ?_
   rintro _ w33 ⟨rfl, hk34⟩
   have ht35 := Kp.tr hk34 hA hB; replace hH := Hp.kp hH hk34; replace hK := Tt hK ht35; replace hr5 := Tt hr5 ht35
   refine To ?_
   refine Cc (fun hc36 => ?_) fun hc36 => ?_
   ·rw [if_pos hc36] at h17
    refine Sr (Mm (As (To ?_)))
    obtain rfl := Oi h17
    obtain rfl := (h18 : Lp.rt _ = _)
    rw [Lp.andThen_rt] at hm
    obtain rfl := Oi hm
    refine Rt (Res.one results98 rfl) ?_
    exact ⟨rfl, hK.kp⟩
   rw [if_neg (nt hc36)] at h17
   refine Sk ?_
   refine C_region (Vy (Y_addI rfl rfl) (Mm ?_))
   obtain rfl := Oi h17
   refine V_end (fun a ha37 => ?_)
   exact ⟨(), hlt20, h18, ⟨A14, ha37.sub ⟨rfl, rfl, rfl, Ws hlt20 hn23, trivial⟩, ⟨hH, hr5⟩⟩⟩
  refine C_exit (fun a ha38 => ?_)
  exact ⟨((), A14), ha38.sub trivial, ⟨(h21 (eq_of_dec hle19 hc24)).symm, hH, hr5⟩⟩
 rintro ⟨s4, A10⟩ w7 ⟨rfl, hH11, hk8⟩ a ha9
 rw [Lp.andThen_fin] at hm
 replace hK := Tr.trans hK hk8; replace hA := hk8.new; replace hH := hH11
 refine C_at (n := ⟨19, [], none⟩) (fun _ _ => rfl) ?_ ha9
 refine Sr (As (To ?_))
 obtain rfl := Oi hm
 refine Rt (Res.one results98 rfl) ?_
 exact ⟨rfl, hK.kp⟩
theorem route_position_1_c (w : World) {A : Nat → Prop} (hA : ∀ b, w.heap.size ≤ b → A b) (p : route_Person) (v_p : Value) (h_p : Sl A w v_p p.skills) (p1 : Int) (b_p1 : Nat) (h_p1 : El A w b_p1 0 p1) {r : Bool} (hm : route_position_1 p p1 = some r) : Ret prog 99 #[.agg #[Ii p.no, Ii p.capacity, Ii p.calendar, v_p], Pt b_p1] w fun v w' => v = .bool r ∧ Kp Dw w w' := by
 unfold route_position_1 at hm
 refine enter func99 rfl ntmps99 rfl ?_
 have hA0 := hA
 obtain ⟨hB, hK, hH⟩ := St (Dw := Dw) hA
 refine Sr ?_
 refine V_box rfl rfl ?_
 intro b3 w4 h5
 have hk7 := h5.kp (Dw := Dw)
 have h6 : El (α := route_Person) A w4 b3 0 p := h5.el hA ⟨[Ii p.no], _, rfl, rfl, ⟨[Ii p.capacity], _, rfl, rfl, ⟨[Ii p.calendar], _, rfl, rfl, ⟨_, rfl, h_p⟩⟩⟩⟩
 have ht8 := Kp.tr hk7 hA hB; replace h_p1 := El.tr h_p1 ht8; replace hK := Tt hK ht8
 refine As (To ?_)
 refine Sr ?_
 have h9 := El_route_Person_0 h6
 refine Fa underlying124 rfl sizeOf3 (Li h9 isAgg3 (Li h_p1 isAgg3 (Vy (Y_eql rfl rfl) (As (To ?_)))))
 obtain rfl := Oi hm
 refine Rt (Res.one results99 rfl) ?_
 exact ⟨rfl, hK.kp⟩
theorem route_position_c (w : World) {A : Nat → Prop} (hA : ∀ b, w.heap.size ≤ b → A b) (people : (List route_Person)) (v_people : Value) (h_people : Sl A w v_people people) (no : Int) {r : Int} (hm : route_position people no = some r) : Ret prog 63 #[v_people, Ii no] w fun v w' => v = Ii r ∧ Kp Dw w w' := by
 unfold route_position at hm
 refine enter func63 rfl ntmps63 rfl ?_
 have hA0 := hA
 obtain ⟨hB, hK, hH⟩ := St (Dw := Dw) hA
 refine Sr ?_
 refine V_box rfl rfl ?_
 intro b3 w4 h5
 have hk7 := h5.kp (Dw := Dw)
 have h6 : El (α := Int) A w4 b3 0 no := h5.el hA rfl
 have ht8 := Kp.tr hk7 hA hB; replace h_people := Sl.tr h_people ht8; replace hK := Tt hK ht8; replace hB := Bx hB ht8; replace hA := ht8.new
 refine As (To ?_)
 refine Sr (Mm (Vy (Y_makeFunc rfl rfl) ?_))
 obtain ⟨x10, hx10, hm⟩ := Bs hm
 refine Vc call98 (slices_IndexFunc_Lroute_Person_route_Person_c (Dw := Dw) w4 hA people v_people h_people (fun y21 => route_position_1 y21 no) 99 #[] #[Pt b3] call99 (fun w17 A18 ht19 h20 y11 v12 h13 r14 h15 => (route_position_1_c (Dw := Dw) w17 h20 y11 v12 h13 no b3 (El.tr h6 ht19) h15).mono (fun _ _ h => ⟨h.1, h.2⟩)) hx10) ?_
 rintro _ w22 ⟨rfl, hk23⟩
 have ht24 := Kp.tr hk23 hA hB; replace hK := Tt hK ht24
 refine As (To ?_)
 obtain rfl := Oi hm
 refine Rt (Res.one results63 rfl) ?_
 exact ⟨rfl, hK.kp⟩
theorem route_checkHeld_c (w : World) {A : Nat → Prop} (hA : ∀ b, w.heap.size ≤ b → A b) (people : (List route_Person)) (v_people : Value) (h_people : Sl A w v_people people) (l : (List route_Held)) (v_l : Value) (h_l : Sl A w v_l l) {r : Int} (hm : route_checkHeld people l = some r) : Ret prog 10 #[v_people, v_l] w fun v w' => v = Ii r ∧ Kp Dw w w' := by
 unfold route_checkHeld at hm
 refine enter func10 rfl ntmps10 rfl ?_
 have hA0 := hA
 obtain ⟨hB, hK, hH⟩ := St (Dw := Dw) hA
 refine Sr (As (To ?_))
 refine C_seq (Sr (Mm (Vy (Y_lenSl h_l rfl underlying24 rfl) (Vy (Y_gtr rfl rfl) (To ?_)))))
 refine Cc (fun hc5 => ?_) fun hc5 => ?_
 ·rw [if_pos hc5] at hm
  refine Sr (As (To ?_))
  obtain rfl := Oi hm
  refine Rt (Res.one results10 rfl) ?_
  exact ⟨rfl, hK.kp⟩
 rw [if_neg (nt hc5)] at hm
 refine Sk ?_
 refine C_seq (Sr (Mm (Vy (Y_lenSl h_l rfl underlying24 rfl) (Mm (To ?_)))))
 have hn27 := Sl.le h_l
 obtain ⟨o6, ho6, hm⟩ := Bs hm
 refine C_cutG (ι := (Unit × (Nat → Prop))) (fun ⟨s7, A13⟩ => []) (fun ⟨s7, A13⟩ => fun w' => o6 = .fin s7 ∧ Hp w.heap.size A13 w' ([]) ∧ Tr Dw w.heap.size A w A13 w') ?_ ?_
 ·refine C_block ?_
  refine C_range ho6 (fun k9 _ a w' => ∃ i : (Nat → Prop), Has ⟨54, [], none⟩ a ([(0, v_people), (1, v_l), (10, v_l), (11, Ii (l.length : Int)), (12, Ii (k9 : Int))]) ∧ Hp w.heap.size i w' ([]) ∧ Tr Dw w.heap.size A w i w') (fun a ha => ⟨A, ha.sb, ⟨hH, Tr.refl (Dw := Dw) hA⟩⟩) ?_
  rintro K k9 _ a w17 ⟨A18, ha69, hH19, hr8⟩ hle23 K26 h25
  refine C_of ?_ ha69
  replace h_people := Sl.tr h_people hr8; replace h_l := Sl.tr h_l hr8; replace hK := Tt hK hr8; replace hB := Bx hB hr8; replace hA := hr8.new; replace hH := hH19
  refine Sr (Vy (Y_lss rfl rfl) (To ?_))
  refine C_seq ?_
  refine Cc (fun hc28 => ?_) fun hc28 => ?_
  ·have hlt24 := lt_of_dec hc28
   obtain ⟨x20, h21, h22⟩ := K26 hlt24
   refine Sk ?_
   refine C_seq (C_block (Sr (Mm ?_)))
   obtain ⟨x29, hx29, h21⟩ := Bs h21
   refine V_indexAddr h_l hx29 underlying24 sizeOf32 rfl rfl rfl ?_
   intro b30 o31 h32
   obtain ⟨h33, _⟩ := El_route_Held h32
   refine Vy (Y_loadA h33 isAgg32 sizeOf32 rfl) ?_
   refine V_alloc zeroValue32 rfl ?_
   intro b34 w35 h36
   refine As ?_
   refine Sn h36 sizeOf32 ?_
   intro w37 h38
   have hk40 := h38.kp (Dw := Dw)
   have h39 : El (α := route_Held) A18 w37 b34 0 x29 := h38.el hA ⟨[Ii x29.ticket], _, rfl, rfl, ⟨[Ii x29.person], _, rfl, rfl, ⟨[Ii x29.weight], _, rfl, rfl, rfl⟩⟩⟩
   have ht41 := Kp.tr hk40 hA hB; replace hH := Hp.kp hH hk40; replace h_people := Sl.tr h_people ht41; replace h_l := Sl.tr h_l ht41; replace hK := Tt hK ht41; replace hr8 := Tt hr8 ht41; replace hB := Bx hB ht41; replace hA := ht41.new
   refine To ?_
   refine C_block (Sr ?_)
   have h42 := El_route_Held_0 h39
   refine Fa underlying32 rfl sizeOf3 (Li h42 isAgg3 ?_)
   refine Vc call62 (route_within_c w37 x29.ticket 1 400) ?_
   rintro _ _ ⟨rfl, rfl⟩
   refine Vy (Y_not rfl) (As (To ?_))
   refine Cc (fun hc43 => ?_) fun hc43 => ?_
   ·rw [if_pos hc43] at h21
    refine Sr (As (To ?_))
    obtain rfl := Oi h21
    obtain rfl := (h22 : Lp.rt _ = _)
    rw [Lp.andThen_rt] at hm
    obtain rfl := Oi hm
    refine Rt (Res.one results10 rfl) ?_
    exact ⟨rfl, hK.kp⟩
   rw [if_neg (nt hc43)] at h21
   refine C_seq ?_
   refine C_region_q (Dw := Dw) Tryz_mixed (by kernel_rfl) ?_
   refine Qm (Qv (fun w' hw' => Y_gtr rfl rfl) (Qm ?_))
   obtain ⟨s45, hs45, h21⟩ := Bs h21
   refine VQ_cut 10 (fun _ : Unit => [(0, v_people), (1, v_l), (6, Pt b34), (10, v_l), (11, Ii (l.length : Int)), (12, Ii (k9 : Int)), (35, .bool s45)]) (fun _ => True) ?_ ?_
   ·simp only [List.take, List.drop]
    rcases Be (decide ((0 : Int) < (k9 : Int))) with hc44 | hc44
    ·rw [if_pos hc44] at hs45
     refine Qh hc44 ?_
     have h46 := El_route_Held_0 h39
     refine Qf underlying32 rfl sizeOf3 (Qh hc44 (Qi h46 isAgg3 (Qh hc44 (Qm (Qh hc44 (Qm (Qh hc44 (Qv (fun w' hw' => Y_subI rfl rfl) (Qh hc44 ?_)))))))))
     obtain ⟨x47, hx47, hs45⟩ := Bs hs45
     refine VQ_indexAddr h_l hx47 underlying24 sizeOf32 rfl rfl rfl ?_
     intro b48 o49 h50
     refine Qh hc44 ?_
     have h51 := El_route_Held_0 h50
     refine Qf underlying32 rfl sizeOf3 (Qh hc44 (Qi h51 isAgg3 (Qh hc44 (Qv (fun w' hw' => Y_leq rfl rfl) ?_))))
     refine VQ_y (fun _ _ => Y_pick_te rfl hc44 rfl) rfl rfl rfl ?_
     obtain rfl := Oi hs45
     exact VQ_end fun a ha => ⟨(), ha.sb, trivial⟩
    rw [if_neg (nt hc44)] at hs45
    refine Qg hc44 (Qg hc44 (Qg hc44 (Qg hc44 (Qg hc44 (Qg hc44 (Qg hc44 (Qg hc44 (Qg hc44 ?_))))))))
    refine VQ_y (fun _ _ => Y_pick_fe rfl hc44 rfl) rfl rfl rfl ?_
    obtain rfl := Oi hs45
    exact VQ_end fun a ha => ⟨(), ha.sb, trivial⟩
   simp only [List.take, List.drop]
   rintro _ _
   refine Qa ?_
   refine VQ_to (fun _ _ => rfl) (fun w52 hk53 => ?_)
   have ht54 := Kp.tr hk53 hA hB; replace hH := Hp.kp hH hk53; replace h_people := Sl.tr h_people ht54; replace h39 := El.tr h39 ht54; replace hK := Tt hK ht54; replace hr8 := Tt hr8 ht54; replace hB := Bx hB ht54; replace hA := ht54.new
   refine Cc (fun hc55 => ?_) fun hc55 => ?_
   ·rw [if_pos hc55] at h21
    refine Sr (As (To ?_))
    obtain rfl := Oi h21
    obtain rfl := (h22 : Lp.rt _ = _)
    rw [Lp.andThen_rt] at hm
    obtain rfl := Oi hm
    refine Rt (Res.one results10 rfl) ?_
    exact ⟨rfl, hK.kp⟩
   rw [if_neg (nt hc55)] at h21
   refine Sr (Mm ?_)
   have h56 := El_route_Held_1 h39
   refine Fa underlying32 rfl sizeOf3 (Li h56 isAgg3 ?_)
   obtain ⟨x57, hx57, h21⟩ := Bs h21
   refine Vc call63 (route_position_c (Dw := Dw) w52 hA people v_people h_people x29.person hx57) ?_
   rintro _ w58 ⟨rfl, hk59⟩
   have ht60 := Kp.tr hk59 hA hB; replace hH := Hp.kp hH hk59; replace h39 := El.tr h39 ht60; replace hK := Tt hK ht60; replace hr8 := Tt hr8 ht60
   refine Vy (Y_lss rfl rfl) (As (To ?_))
   refine Cc (fun hc61 => ?_) fun hc61 => ?_
   ·rw [if_pos hc61] at h21
    refine Sr (As (To ?_))
    obtain rfl := Oi h21
    obtain rfl := (h22 : Lp.rt _ = _)
    rw [Lp.andThen_rt] at hm
    obtain rfl := Oi hm
    refine Rt (Res.one results10 rfl) ?_
    exact ⟨rfl, hK.kp⟩
   rw [if_neg (nt hc61)] at h21
   refine Sr ?_
   have h62 := El_route_Held_2 h39
   refine Fa underlying32 rfl sizeOf3 (Li h62 isAgg3 ?_)
   refine Vc call62 (route_within_c w58 x29.weight 1 20) ?_
   rintro _ _ ⟨rfl, rfl⟩
   refine Vy (Y_not rfl) (Mm ?_)
   refine V_cut 5 (fun _ : Unit => [(0, v_people), (1, v_l), (10, v_l), (11, Ii (l.length : Int)), (12, Ii (k9 : Int)), (52, .bool ((!(route_within x29.weight 1 20)) || (!(route_within x29.since 0 3000000))))]) (fun _ w' => w58 = w') ?_ ?_
   ·simp only [List.take, List.drop]
    rcases Be (!(route_within x29.weight 1 20)) with hc63 | hc63
    ·refine Gm hc63 (Gm hc63 (Gm hc63 (Gm hc63 (Vy (Y_pick_te rfl hc63 rfl) ?_))))
     exact V_end fun a ha => ⟨(), ha.sub ⟨rfl, rfl, rfl, rfl, rfl, (by rw [hc63]; rfl), trivial⟩, rfl⟩
    refine Gf hc63 ?_
    have h65 := El_route_Held_3 h39
    refine Fa underlying32 rfl sizeOf3 (Gf hc63 (Li h65 isAgg3 (Gf hc63 ?_)))
    refine Vc call62 (route_within_c w58 x29.since 0 3000000) ?_
    rintro _ _ ⟨rfl, rfl⟩
    refine Gf hc63 (Vy (Y_not rfl) (Vy (Y_pick_fe rfl hc63 rfl) ?_))
    exact V_end fun a ha => ⟨(), ha.sub ⟨rfl, rfl, rfl, rfl, rfl, (by rw [hc63]; rfl), trivial⟩, rfl⟩
   simp only [List.take, List.drop]
   rintro _ _ rfl
   refine As (To ?_)
   refine Cc (fun hc66 => ?_) fun hc66 => ?_
   ·rw [if_pos hc66] at h21
    refine Sr (As (To ?_))
    obtain rfl := Oi h21
    obtain rfl := (h22 : Lp.rt _ = _)
    rw [Lp.andThen_rt] at hm
    obtain rfl := Oi hm
    refine Rt (Res.one results10 rfl) ?_
    exact ⟨rfl, hK.kp⟩
   rw [if_neg (nt hc66)] at h21
   refine Sk ?_
   refine C_region (Vy (Y_addI rfl rfl) (Mm ?_))
   obtain rfl := Oi h21
   refine V_end (fun a ha67 => ?_)
   exact ⟨(), hlt24, h22, ⟨A18, ha67.sub ⟨rfl, rfl, rfl, rfl, Ws hlt24 hn27, trivial⟩, ⟨hH, hr8⟩⟩⟩
  refine C_exit (fun a ha68 => ?_)
  exact ⟨((), A18), ha68.sub trivial, ⟨(h25 (eq_of_dec hle23 hc28)).symm, hH, hr8⟩⟩
 rintro ⟨s7, A13⟩ w10 ⟨rfl, hH14, hk11⟩ a ha12
 rw [Lp.andThen_fin] at hm
 replace hK := Tr.trans hK hk11; replace hA := hk11.new; replace hH := hH14
 refine C_at (n := ⟨54, [], none⟩) (fun _ _ => rfl) ?_ ha12
 refine Sr (As (To ?_))
 obtain rfl := Oi hm
 refine Rt (Res.one results10 rfl) ?_
 exact ⟨rfl, hK.kp⟩
theorem slices_IndexFunc_Lroute_Work_route_Work_c (w : World) {A : Nat → Prop} (hA : ∀ b, w.heap.size ≤ b → A b) (s : (List route_Work)) (v_s : Value) (h_s : Sl A w v_s s) (f : route_Work → Option Bool) (f_f : FuncId) (f_a f_c : Array Value) (f_call : ∀ (args : Array Value) (w : World), (callFunc f_f args).run prog w = .ok (.enter f_f args) w) (f_spec : ∀ (w1 : World) (A1 : Nat → Prop), Tr Dw w.heap.size A w A1 w1 → (∀ b, w1.heap.size ≤ b → A1 b) → ∀ (y0 : route_Work) (v1 : Value) (h2 : Sl A1 w1 v1 y0.needs) (r : Bool), f y0 = some r → Ret prog f_f (f_a ++ #[.agg #[Ii y0.ticket, Ii y0.weight, Ii y0.urgency, Ii y0.since, Ii y0.former, v1]] ++ f_c) w1 fun v w' => v = .bool r ∧ Kp Dw w1 w') {r : Int} (hm : slices_IndexFunc_Lroute_Work_route_Work s f = some r) : Ret prog 83 #[v_s, .func (.func f_f) f_a f_c] w fun v w' => v = Ii r ∧ Kp Dw w w' := by
 unfold slices_IndexFunc_Lroute_Work_route_Work at hm
 refine enter func83 rfl ntmps83 rfl ?_
 have hA0 := hA
 obtain ⟨hB, hK, hH⟩ := St (Dw := Dw) hA
 refine Sr (As (To ?_))
 refine C_seq (Sr (Mm (Vy (Y_lenSl h_s rfl underlying25 rfl) (Mm (To ?_)))))
 have hn23 := Sl.le h_s
 obtain ⟨o3, ho3, hm⟩ := Bs hm
 refine C_cutG (ι := (Unit × (Nat → Prop))) (fun ⟨s4, A10⟩ => []) (fun ⟨s4, A10⟩ => fun w' => o3 = .fin s4 ∧ Hp w.heap.size A10 w' ([]) ∧ Tr Dw w.heap.size A w A10 w') ?_ ?_
 ·refine C_block ?_
  refine C_range ho3 (fun k6 _ a w' => ∃ i : (Nat → Prop), Has ⟨19, [], none⟩ a ([(0, v_s), (1, .func (.func f_f) f_a f_c), (7, Ii (s.length : Int)), (8, Ii (k6 : Int))]) ∧ Hp w.heap.size i w' ([]) ∧ Tr Dw w.heap.size A w i w') (fun a ha => ⟨A, ha.sb, ⟨hH, Tr.refl (Dw := Dw) hA⟩⟩) ?_
  rintro K k6 _ a w13 ⟨A14, ha39, hH15, hr5⟩ hle19 K22 h21
  refine C_of ?_ ha39
  replace h_s := Sl.tr h_s hr5; replace hK := Tt hK hr5; replace hB := Bx hB hr5; replace hA := hr5.new; replace hH := hH15
  refine Sr (Vy (Y_lss rfl rfl) (To ?_))
  refine C_seq ?_
  refine Cc (fun hc24 => ?_) fun hc24 => ?_
  ·have hlt20 := lt_of_dec hc24
   obtain ⟨x16, h17, h18⟩ := K22 hlt20
   refine Sk ?_
   refine C_seq (C_block (Sr (Mm (As (To ?_)))))
   refine Sr (Mm (Mm (Mm ?_)))
   obtain ⟨x25, hx25, h17⟩ := Bs h17
   refine V_indexAddr h_s hx25 underlying25 sizeOf43 rfl rfl rfl ?_
   intro b26 o27 h28
   obtain ⟨v29, h31, h30⟩ := El_route_Work h28
   refine Vy (Y_loadA h31 isAgg43 sizeOf43 rfl) ?_
   obtain ⟨x32, hx32, h17⟩ := Bs h17
   refine Vc f_call (f_spec w13 _ hK hA x25 v29 h30 _ hx32) ?_
   rintro _ w33 ⟨rfl, hk34⟩
   have ht35 := Kp.tr hk34 hA hB; replace hH := Hp.kp hH hk34; replace hK := Tt hK ht35; replace hr5 := Tt hr5 ht35
   refine To ?_
   refine Cc (fun hc36 => ?_) fun hc36 => ?_
   ·rw [if_pos hc36] at h17
    refine Sr (Mm (As (To ?_)))
    obtain rfl := Oi h17
    obtain rfl := (h18 : Lp.rt _ = _)
    rw [Lp.andThen_rt] at hm
    obtain rfl := Oi hm
    refine Rt (Res.one results83 rfl) ?_
    exact ⟨rfl, hK.kp⟩
   rw [if_neg (nt hc36)] at h17
   refine Sk ?_
   refine C_region (Vy (Y_addI rfl rfl) (Mm ?_))
   obtain rfl := Oi h17
   refine V_end (fun a ha37 => ?_)
   exact ⟨(), hlt20, h18, ⟨A14, ha37.sub ⟨rfl, rfl, rfl, Ws hlt20 hn23, trivial⟩, ⟨hH, hr5⟩⟩⟩
  refine C_exit (fun a ha38 => ?_)
  exact ⟨((), A14), ha38.sub trivial, ⟨(h21 (eq_of_dec hle19 hc24)).symm, hH, hr5⟩⟩
 rintro ⟨s4, A10⟩ w7 ⟨rfl, hH11, hk8⟩ a ha9
 rw [Lp.andThen_fin] at hm
 replace hK := Tr.trans hK hk8; replace hA := hk8.new; replace hH := hH11
 refine C_at (n := ⟨19, [], none⟩) (fun _ _ => rfl) ?_ ha9
 refine Sr (As (To ?_))
 obtain rfl := Oi hm
 refine Rt (Res.one results83 rfl) ?_
 exact ⟨rfl, hK.kp⟩
theorem slices_ContainsFunc_Lroute_Work_route_Work_c (w : World) {A : Nat → Prop} (hA : ∀ b, w.heap.size ≤ b → A b) (s : (List route_Work)) (v_s : Value) (h_s : Sl A w v_s s) (f : route_Work → Option Bool) (f_f : FuncId) (f_a f_c : Array Value) (f_call : ∀ (args : Array Value) (w : World), (callFunc f_f args).run prog w = .ok (.enter f_f args) w) (f_spec : ∀ (w1 : World) (A1 : Nat → Prop), Tr Dw w.heap.size A w A1 w1 → (∀ b, w1.heap.size ≤ b → A1 b) → ∀ (y0 : route_Work) (v1 : Value) (h2 : Sl A1 w1 v1 y0.needs) (r : Bool), f y0 = some r → Ret prog f_f (f_a ++ #[.agg #[Ii y0.ticket, Ii y0.weight, Ii y0.urgency, Ii y0.since, Ii y0.former, v1]] ++ f_c) w1 fun v w' => v = .bool r ∧ Kp Dw w1 w') {r : Bool} (hm : slices_ContainsFunc_Lroute_Work_route_Work s f = some r) : Ret prog 24 #[v_s, .func (.func f_f) f_a f_c] w fun v w' => v = .bool r ∧ Kp Dw w w' := by
 unfold slices_ContainsFunc_Lroute_Work_route_Work at hm
 refine enter func24 rfl ntmps24 rfl ?_
 have hA0 := hA
 obtain ⟨hB, hK, hH⟩ := St (Dw := Dw) hA
 refine Sr (As (To ?_))
 refine Sr (Mm (Mm ?_))
 obtain ⟨x3, hx3, hm⟩ := Bs hm
 refine Vc call83 (slices_IndexFunc_Lroute_Work_route_Work_c (Dw := Dw) w hA s v_s h_s f f_f f_a f_c f_call (fun w1 A1 ht => f_spec w1 A1 (Tr.trans hK (Tr.lower (Dw := Dw) ht hB))) hx3) ?_
 rintro _ w4 ⟨rfl, hk5⟩
 have ht6 := Kp.tr hk5 hA hB; replace hK := Tt hK ht6
 refine Vy (Y_geq rfl rfl) (As (To ?_))
 obtain rfl := Oi hm
 refine Rt (Res.one results24 rfl) ?_
 exact ⟨rfl, hK.kp⟩
theorem route_CheckWork_1_c (w : World) {A : Nat → Prop} (hA : ∀ b, w.heap.size ≤ b → A b) (x : route_Work) (v_x : Value) (h_x : Sl A w v_x x.needs) (p1 : route_Work) (b_p1 : Nat) (h_p1 : El A w b_p1 0 p1) {r : Bool} (hm : route_CheckWork_1 x p1 = some r) : Ret prog 64 #[.agg #[Ii x.ticket, Ii x.weight, Ii x.urgency, Ii x.since, Ii x.former, v_x], Pt b_p1] w fun v w' => v = .bool r ∧ Kp Dw w w' := by
 unfold route_CheckWork_1 at hm
 refine enter func64 rfl ntmps64 rfl ?_
 have hA0 := hA
 obtain ⟨hB, hK, hH⟩ := St (Dw := Dw) hA
 refine Sr ?_
 refine V_box rfl rfl ?_
 intro b3 w4 h5
 have hk7 := h5.kp (Dw := Dw)
 have h6 : El (α := route_Work) A w4 b3 0 x := h5.el hA ⟨[Ii x.ticket], _, rfl, rfl, ⟨[Ii x.weight], _, rfl, rfl, ⟨[Ii x.urgency], _, rfl, rfl, ⟨[Ii x.since], _, rfl, rfl, ⟨[Ii x.former], _, rfl, rfl, ⟨_, rfl, h_x⟩⟩⟩⟩⟩⟩
 have ht8 := Kp.tr hk7 hA hB; replace h_p1 := El.tr h_p1 ht8; replace hK := Tt hK ht8
 refine As (To ?_)
 refine Sr ?_
 have h9 := El_route_Work_0 h6
 refine Fa underlying43 rfl sizeOf3 (Li h9 isAgg3 ?_)
 have h10 := El_route_Work_0 h_p1
 refine Fa underlying43 rfl sizeOf3 (Li h10 isAgg3 (Vy (Y_eql rfl rfl) (As (To ?_))))
 obtain rfl := Oi hm
 refine Rt (Res.one results64 rfl) ?_
 exact ⟨rfl, hK.kp⟩
theorem route_CheckWork_c (w : World) {A : Nat → Prop} (hA : ∀ b, w.heap.size ≤ b → A b) (l : (List route_Work)) (v_l : Value) (h_l : Sl A w v_l l) {r : Int} (hm : route_CheckWork l = some r) : Ret prog 11 #[v_l] w fun v w' => v = Ii r ∧ Kp Dw w w' := by
 unfold route_CheckWork at hm
 refine enter func11 rfl ntmps11 rfl ?_
 have hA0 := hA
 obtain ⟨hB, hK, hH⟩ := St (Dw := Dw) hA
 refine Sr (As (To ?_))
 refine C_seq (Sr (Mm (Vy (Y_lenSl h_l rfl underlying25 rfl) (Vy (Y_gtr rfl rfl) (To ?_)))))
 refine Cc (fun hc3 => ?_) fun hc3 => ?_
 ·rw [if_pos hc3] at hm
  refine Sr (As (To ?_))
  obtain rfl := Oi hm
  refine Rt (Res.one results11 rfl) ?_
  exact ⟨rfl, hK.kp⟩
 rw [if_neg (nt hc3)] at hm
 refine Sk ?_
 refine C_seq (Sr (Mm (Vy (Y_lenSl h_l rfl underlying25 rfl) (Mm (To ?_)))))
 have hn25 := Sl.le h_l
 obtain ⟨o4, ho4, hm⟩ := Bs hm
 refine C_cutG (ι := (Unit × (Nat → Prop))) (fun ⟨s5, A12⟩ => []) (fun ⟨s5, A12⟩ => fun w' => o4 = .fin s5 ∧ Hp w.heap.size A12 w' ([]) ∧ Tr Dw w.heap.size A w A12 w') ?_ ?_
 ·refine C_block ?_
  refine C_range ho4 (fun k7 _ a w' => ∃ i : (Nat → Prop), Has ⟨57, [], none⟩ a ([(0, v_l), (9, v_l), (10, Ii (l.length : Int)), (11, Ii (k7 : Int))]) ∧ Hp w.heap.size i w' ([]) ∧ Tr Dw w.heap.size A w i w') (fun a ha => ⟨A, ha.sb, ⟨hH, Tr.refl (Dw := Dw) hA⟩⟩) ?_
  rintro K k7 _ a w15 ⟨A16, ha88, hH17, hr6⟩ hle21 K24 h23
  refine C_of ?_ ha88
  replace h_l := Sl.tr h_l hr6; replace hK := Tt hK hr6; replace hB := Bx hB hr6; replace hA := hr6.new; replace hH := hH17
  refine Sr (Vy (Y_lss rfl rfl) (To ?_))
  refine C_seq ?_
  refine Cc (fun hc26 => ?_) fun hc26 => ?_
  ·have hlt22 := lt_of_dec hc26
   obtain ⟨x18, h19, h20⟩ := K24 hlt22
   refine Sk ?_
   refine C_seq (C_block (Sr (Mm ?_)))
   obtain ⟨x27, hx27, h19⟩ := Bs h19
   refine V_indexAddr h_l hx27 underlying25 sizeOf43 rfl rfl rfl ?_
   intro b28 o29 h30
   obtain ⟨v31, h33, h32⟩ := El_route_Work h30
   refine Vy (Y_loadA h33 isAgg43 sizeOf43 rfl) ?_
   refine V_alloc zeroValue43 rfl ?_
   intro b34 w35 h36
   refine As ?_
   have h41 : (v31).oneCell' = true := by obtain ⟨_, _, e, _⟩ := Sl.form h32; rw [e]; rfl
   refine Sn h36 sizeOf43 ?_
   intro w37 h38
   have hk43 := h38.kp (Dw := Dw)
   have h42 : El (α := route_Work) A16 w37 b34 0 x27 := h38.el hA ⟨[Ii x27.ticket], _, rfl, rfl, ⟨[Ii x27.weight], _, rfl, rfl, ⟨[Ii x27.urgency], _, rfl, rfl, ⟨[Ii x27.since], _, rfl, rfl, ⟨[Ii x27.former], _, rfl, rfl, ⟨_, rfl, h32⟩⟩⟩⟩⟩⟩
   have ht44 := Kp.tr hk43 hA hB; replace hH := Hp.kp hH hk43; replace h_l := Sl.tr h_l ht44; replace hK := Tt hK ht44; replace hr6 := Tt hr6 ht44; replace hB := Bx hB ht44; replace hA := ht44.new
   refine To ?_
   refine C_seq (C_block (Sr ?_))
   have h45 := El_route_Work_0 h42
   refine Fa underlying43 rfl sizeOf3 (Li h45 isAgg3 ?_)
   refine Vc call62 (route_within_c w37 x27.ticket 1 400) ?_
   rintro _ _ ⟨rfl, rfl⟩
   refine Vy (Y_not rfl) (As (To ?_))
   refine Cc (fun hc46 => ?_) fun hc46 => ?_
   ·rw [if_pos hc46] at h19
    refine Sr (As (To ?_))
    obtain rfl := Oi h19
    obtain rfl := (h20 : Lp.rt _ = _)
    rw [Lp.andThen_rt] at hm
    obtain rfl := Oi hm
    refine Rt (Res.one results11 rfl) ?_
    exact ⟨rfl, hK.kp⟩
   rw [if_neg (nt hc46)] at h19
   refine Sr (Mm (Mm ?_))
   obtain ⟨x47, hx47, h19⟩ := Bs h19
   obtain ⟨v48, h49, h49y⟩ := sliceL_val hx47 h_l
   refine Vy (Y_sliceLH h49y underlying25 sizeOf43 rfl rfl) (Vy (Y_makeFunc rfl rfl) ?_)
   obtain ⟨x51, hx51, h19⟩ := Bs h19
   refine Vc call24 (slices_ContainsFunc_Lroute_Work_route_Work_c (Dw := Dw) w37 hA x47 v48 h49 (fun y61 => route_CheckWork_1 y61 x27) 64 #[] #[Pt b34] call64 (fun w57 A58 ht59 h60 y52 v53 h54 r55 h56 => (route_CheckWork_1_c (Dw := Dw) w57 h60 y52 v53 h54 x27 b34 (El.tr h42 ht59) h56).mono (fun _ _ h => ⟨h.1, h.2⟩)) hx51) ?_
   rintro _ w62 ⟨rfl, hk63⟩
   have ht64 := Kp.tr hk63 hA hB; replace hH := Hp.kp hH hk63; replace h42 := El.tr h42 ht64; replace hK := Tt hK ht64; replace hr6 := Tt hr6 ht64; replace hB := Bx hB ht64; replace hA := ht64.new
   refine As (To ?_)
   refine Cc (fun hc65 => ?_) fun hc65 => ?_
   ·rw [if_pos hc65] at h19
    refine Sr (As (To ?_))
    obtain rfl := Oi h19
    obtain rfl := (h20 : Lp.rt _ = _)
    rw [Lp.andThen_rt] at hm
    obtain rfl := Oi hm
    refine Rt (Res.one results11 rfl) ?_
    exact ⟨rfl, hK.kp⟩
   rw [if_neg (nt hc65)] at h19
   refine Sr ?_
   have h66 := El_route_Work_1 h42
   refine Fa underlying43 rfl sizeOf3 (Li h66 isAgg3 ?_)
   refine Vc call62 (route_within_c w62 x27.weight 1 20) ?_
   rintro _ _ ⟨rfl, rfl⟩
   refine Vy (Y_not rfl) (Mm ?_)
   refine V_cut 5 (fun _ : Unit => [(0, v_l), (4, Pt b34), (9, v_l), (10, Ii (l.length : Int)), (11, Ii (k7 : Int)), (37, .bool ((!(route_within x27.weight 1 20)) || (!(route_within x27.urgency 0 9))))]) (fun _ w' => w62 = w') ?_ ?_
   ·simp only [List.take, List.drop]
    rcases Be (!(route_within x27.weight 1 20)) with hc67 | hc67
    ·refine Gm hc67 (Gm hc67 (Gm hc67 (Gm hc67 (Vy (Y_pick_te rfl hc67 rfl) ?_))))
     exact V_end fun a ha => ⟨(), ha.sub ⟨rfl, rfl, rfl, rfl, rfl, (by rw [hc67]; rfl), trivial⟩, rfl⟩
    refine Gf hc67 ?_
    have h69 := El_route_Work_2 h42
    refine Fa underlying43 rfl sizeOf3 (Gf hc67 (Li h69 isAgg3 (Gf hc67 ?_)))
    refine Vc call62 (route_within_c w62 x27.urgency 0 9) ?_
    rintro _ _ ⟨rfl, rfl⟩
    refine Gf hc67 (Vy (Y_not rfl) (Vy (Y_pick_fe rfl hc67 rfl) ?_))
    exact V_end fun a ha => ⟨(), ha.sub ⟨rfl, rfl, rfl, rfl, rfl, (by rw [hc67]; rfl), trivial⟩, rfl⟩
   simp only [List.take, List.drop]
   rintro _ _ rfl
   refine Mm ?_
   refine V_cut 5 (fun _ : Unit => [(0, v_l), (4, Pt b34), (9, v_l), (10, Ii (l.length : Int)), (11, Ii (k7 : Int)), (43, .bool (((!(route_within x27.weight 1 20)) || (!(route_within x27.urgency 0 9))) || (!(route_within x27.since 0 3000000))))]) (fun _ w' => w62 = w') ?_ ?_
   ·simp only [List.take, List.drop]
    rcases Be (((!(route_within x27.weight 1 20)) || (!(route_within x27.urgency 0 9)))) with hc70 | hc70
    ·refine Gm hc70 (Gm hc70 (Gm hc70 (Gm hc70 (Vy (Y_pick_te rfl hc70 rfl) ?_))))
     exact V_end fun a ha => ⟨(), ha.sub ⟨rfl, rfl, rfl, rfl, rfl, (by rw [hc70]; rfl), trivial⟩, rfl⟩
    refine Gf hc70 ?_
    have h72 := El_route_Work_3 h42
    refine Fa underlying43 rfl sizeOf3 (Gf hc70 (Li h72 isAgg3 (Gf hc70 ?_)))
    refine Vc call62 (route_within_c w62 x27.since 0 3000000) ?_
    rintro _ _ ⟨rfl, rfl⟩
    refine Gf hc70 (Vy (Y_not rfl) (Vy (Y_pick_fe rfl hc70 rfl) ?_))
    exact V_end fun a ha => ⟨(), ha.sub ⟨rfl, rfl, rfl, rfl, rfl, (by rw [hc70]; rfl), trivial⟩, rfl⟩
   simp only [List.take, List.drop]
   rintro _ _ rfl
   refine Mm ?_
   refine V_cut 5 (fun _ : Unit => [(0, v_l), (4, Pt b34), (9, v_l), (10, Ii (l.length : Int)), (11, Ii (k7 : Int)), (49, .bool ((((!(route_within x27.weight 1 20)) || (!(route_within x27.urgency 0 9))) || (!(route_within x27.since 0 3000000))) || (!(route_within x27.former 0 40))))]) (fun _ w' => w62 = w') ?_ ?_
   ·simp only [List.take, List.drop]
    rcases Be ((((!(route_within x27.weight 1 20)) || (!(route_within x27.urgency 0 9))) || (!(route_within x27.since 0 3000000)))) with hc73 | hc73
    ·refine Gm hc73 (Gm hc73 (Gm hc73 (Gm hc73 (Vy (Y_pick_te rfl hc73 rfl) ?_))))
     exact V_end fun a ha => ⟨(), ha.sub ⟨rfl, rfl, rfl, rfl, rfl, (by rw [hc73]; rfl), trivial⟩, rfl⟩
    refine Gf hc73 ?_
    have h75 := El_route_Work_4 h42
    refine Fa underlying43 rfl sizeOf3 (Gf hc73 (Li h75 isAgg3 (Gf hc73 ?_)))
    refine Vc call62 (route_within_c w62 x27.former 0 40) ?_
    rintro _ _ ⟨rfl, rfl⟩
    refine Gf hc73 (Vy (Y_not rfl) (Vy (Y_pick_fe rfl hc73 rfl) ?_))
    exact V_end fun a ha => ⟨(), ha.sub ⟨rfl, rfl, rfl, rfl, rfl, (by rw [hc73]; rfl), trivial⟩, rfl⟩
   simp only [List.take, List.drop]
   rintro _ _ rfl
   refine As (To ?_)
   refine Cc (fun hc76 => ?_) fun hc76 => ?_
   ·rw [if_pos hc76] at h19
    refine Sr (As (To ?_))
    obtain rfl := Oi h19
    obtain rfl := (h20 : Lp.rt _ = _)
    rw [Lp.andThen_rt] at hm
    obtain rfl := Oi hm
    refine Rt (Res.one results11 rfl) ?_
    exact ⟨rfl, hK.kp⟩
   rw [if_neg (nt hc76)] at h19
   refine Sk ?_
   refine Sr ?_
   have h77 := El_route_Work_5 h42
   refine Fa underlying43 rfl sizeOf41 ?_
   obtain ⟨v78, h79, h80⟩ := El.list h77
   refine Ld h79 isAgg41 ?_
   obtain ⟨x81, hx81, h19⟩ := Bs h19
   refine Vc call65 (route_checkSkills_c (Dw := Dw) w62 hA x27.needs v78 h80 hx81) ?_
   rintro _ w82 ⟨rfl, hk83⟩
   have ht84 := Kp.tr hk83 hA hB; replace hH := Hp.kp hH hk83; replace hK := Tt hK ht84; replace hr6 := Tt hr6 ht84
   refine As (To ?_)
   refine Sr (Mm (Vy (Y_neq rfl rfl) (To ?_)))
   refine Cc (fun hc85 => ?_) fun hc85 => ?_
   ·rw [if_pos hc85] at h19
    refine Sr (Mm (As (To ?_)))
    obtain rfl := Oi h19
    obtain rfl := (h20 : Lp.rt _ = _)
    rw [Lp.andThen_rt] at hm
    obtain rfl := Oi hm
    refine Rt (Res.one results11 rfl) ?_
    exact ⟨rfl, hK.kp⟩
   rw [if_neg (nt hc85)] at h19
   refine Sk ?_
   refine C_region (Vy (Y_addI rfl rfl) (Mm ?_))
   obtain rfl := Oi h19
   refine V_end (fun a ha86 => ?_)
   exact ⟨(), hlt22, h20, ⟨A16, ha86.sub ⟨rfl, rfl, rfl, Ws hlt22 hn25, trivial⟩, ⟨hH, hr6⟩⟩⟩
  refine C_exit (fun a ha87 => ?_)
  exact ⟨((), A16), ha87.sub trivial, ⟨(h23 (eq_of_dec hle21 hc26)).symm, hH, hr6⟩⟩
 rintro ⟨s5, A12⟩ w9 ⟨rfl, hH13, hk10⟩ a ha11
 rw [Lp.andThen_fin] at hm
 replace hK := Tr.trans hK hk10; replace hA := hk10.new; replace hH := hH13
 refine C_at (n := ⟨57, [], none⟩) (fun _ _ => rfl) ?_ ha11
 refine Sr (As (To ?_))
 obtain rfl := Oi hm
 refine Rt (Res.one results11 rfl) ?_
 exact ⟨rfl, hK.kp⟩
theorem route_CheckSteps_c (w : World) {A : Nat → Prop} (hA : ∀ b, w.heap.size ≤ b → A b) (l : (List route_Step)) (v_l : Value) (h_l : Sl A w v_l l) {r : Int} (hm : route_CheckSteps l = some r) : Ret prog 12 #[v_l] w fun v w' => v = Ii r ∧ Kp Dw w w' := by
 unfold route_CheckSteps at hm
 refine enter func12 rfl ntmps12 rfl ?_
 have hA0 := hA
 obtain ⟨hB, hK, hH⟩ := St (Dw := Dw) hA
 refine Sr (As (To ?_))
 refine C_seq (Sr (Mm (Vy (Y_lenSl h_l rfl underlying26 rfl) (Vy (Y_gtr rfl rfl) (To ?_)))))
 refine Cc (fun hc3 => ?_) fun hc3 => ?_
 ·rw [if_pos hc3] at hm
  refine Sr (As (To ?_))
  obtain rfl := Oi hm
  refine Rt (Res.one results12 rfl) ?_
  exact ⟨rfl, hK.kp⟩
 rw [if_neg (nt hc3)] at hm
 refine Sk ?_
 refine C_seq (Sr (Mm (Vy (Y_lenSl h_l rfl underlying26 rfl) (Mm (To ?_)))))
 have hn25 := Sl.le h_l
 obtain ⟨o4, ho4, hm⟩ := Bs hm
 refine C_cutG (ι := (Unit × (Nat → Prop))) (fun ⟨s5, A12⟩ => []) (fun ⟨s5, A12⟩ => fun w' => o4 = .fin s5 ∧ Hp w.heap.size A12 w' ([]) ∧ Tr Dw w.heap.size A w A12 w') ?_ ?_
 ·refine C_block ?_
  refine C_range ho4 (fun k7 _ a w' => ∃ i : (Nat → Prop), Has ⟨39, [], none⟩ a ([(0, v_l), (8, v_l), (9, Ii (l.length : Int)), (10, Ii (k7 : Int))]) ∧ Hp w.heap.size i w' ([]) ∧ Tr Dw w.heap.size A w i w') (fun a ha => ⟨A, ha.sb, ⟨hH, Tr.refl (Dw := Dw) hA⟩⟩) ?_
  rintro K k7 _ a w15 ⟨A16, ha59, hH17, hr6⟩ hle21 K24 h23
  refine C_of ?_ ha59
  replace h_l := Sl.tr h_l hr6; replace hK := Tt hK hr6; replace hB := Bx hB hr6; replace hA := hr6.new; replace hH := hH17
  refine Sr (Vy (Y_lss rfl rfl) (To ?_))
  refine C_seq ?_
  refine Cc (fun hc26 => ?_) fun hc26 => ?_
  ·have hlt22 := lt_of_dec hc26
   obtain ⟨x18, h19, h20⟩ := K24 hlt22
   refine Sk ?_
   refine C_seq (C_block (Sr (Mm ?_)))
   obtain ⟨x27, hx27, h19⟩ := Bs h19
   refine V_indexAddr h_l hx27 underlying26 sizeOf173 rfl rfl rfl ?_
   intro b28 o29 h30
   obtain ⟨h31, _⟩ := El_route_Step h30
   refine Vy (Y_loadA h31 isAgg173 sizeOf173 rfl) ?_
   refine V_alloc zeroValue173 rfl ?_
   intro b32 w33 h34
   refine As ?_
   refine Sn h34 sizeOf173 ?_
   intro w35 h36
   have hk38 := h36.kp (Dw := Dw)
   have h37 : El (α := route_Step) A16 w35 b32 0 x27 := h36.el hA ⟨[Ii x27.after], _, rfl, rfl, ⟨[Ii x27.lower], _, rfl, rfl, rfl⟩⟩
   have ht39 := Kp.tr hk38 hA hB; replace hH := Hp.kp hH hk38; replace h_l := Sl.tr h_l ht39; replace hK := Tt hK ht39; replace hr6 := Tt hr6 ht39; replace hB := Bx hB ht39; replace hA := ht39.new
   refine To ?_
   refine C_seq (Sr ?_)
   have h40 := El_route_Step_0 h37
   refine Fa underlying173 rfl sizeOf3 (Li h40 isAgg3 ?_)
   refine Vc call62 (route_within_c w35 x27.after 1 3000000) ?_
   rintro _ _ ⟨rfl, rfl⟩
   refine Vy (Y_not rfl) (Mm ?_)
   refine V_cut 5 (fun _ : Unit => [(0, v_l), (3, Ii (k7 : Int)), (4, Pt b32), (8, v_l), (9, Ii (l.length : Int)), (10, Ii (k7 : Int)), (24, .bool ((!(route_within x27.after 1 3000000)) || (!(route_within x27.lower 0 9))))]) (fun _ w' => w35 = w') ?_ ?_
   ·simp only [List.take, List.drop]
    rcases Be (!(route_within x27.after 1 3000000)) with hc41 | hc41
    ·refine Gm hc41 (Gm hc41 (Gm hc41 (Gm hc41 (Vy (Y_pick_te rfl hc41 rfl) ?_))))
     exact V_end fun a ha => ⟨(), ha.sub ⟨rfl, rfl, rfl, rfl, rfl, rfl, (by rw [hc41]; rfl), trivial⟩, rfl⟩
    refine Gf hc41 ?_
    have h43 := El_route_Step_1 h37
    refine Fa underlying173 rfl sizeOf3 (Gf hc41 (Li h43 isAgg3 (Gf hc41 ?_)))
    refine Vc call62 (route_within_c w35 x27.lower 0 9) ?_
    rintro _ _ ⟨rfl, rfl⟩
    refine Gf hc41 (Vy (Y_not rfl) (Vy (Y_pick_fe rfl hc41 rfl) ?_))
    exact V_end fun a ha => ⟨(), ha.sub ⟨rfl, rfl, rfl, rfl, rfl, rfl, (by rw [hc41]; rfl), trivial⟩, rfl⟩
   simp only [List.take, List.drop]
   rintro _ _ rfl
   refine To ?_
   refine Cc (fun hc44 => ?_) fun hc44 => ?_
   ·rw [if_pos hc44] at h19
    refine Sr (As (To ?_))
    obtain rfl := Oi h19
    obtain rfl := (h20 : Lp.rt _ = _)
    rw [Lp.andThen_rt] at hm
    obtain rfl := Oi hm
    refine Rt (Res.one results12 rfl) ?_
    exact ⟨rfl, hK.kp⟩
   rw [if_neg (nt hc44)] at h19
   refine Sk ?_
   refine C_seq ?_
   refine C_region_q (Dw := Dw) Tryz_mixed (by kernel_rfl) ?_
   refine Qm (Qv (fun w' hw' => Y_gtr rfl rfl) (Qm ?_))
   obtain ⟨s46, hs46, h19⟩ := Bs h19
   refine VQ_cut 10 (fun _ : Unit => [(0, v_l), (8, v_l), (9, Ii (l.length : Int)), (10, Ii (k7 : Int)), (37, .bool s46)]) (fun _ => True) ?_ ?_
   ·simp only [List.take, List.drop]
    rcases Be (decide ((0 : Int) < (k7 : Int))) with hc45 | hc45
    ·rw [if_pos hc45] at hs46
     refine Qh hc45 ?_
     have h47 := El_route_Step_0 h37
     refine Qf underlying173 rfl sizeOf3 (Qh hc45 (Qi h47 isAgg3 (Qh hc45 (Qm (Qh hc45 (Qm (Qh hc45 (Qv (fun w' hw' => Y_subI rfl rfl) (Qh hc45 ?_)))))))))
     obtain ⟨x48, hx48, hs46⟩ := Bs hs46
     refine VQ_indexAddr h_l hx48 underlying26 sizeOf173 rfl rfl rfl ?_
     intro b49 o50 h51
     refine Qh hc45 ?_
     have h52 := El_route_Step_0 h51
     refine Qf underlying173 rfl sizeOf3 (Qh hc45 (Qi h52 isAgg3 (Qh hc45 (Qv (fun w' hw' => Y_leq rfl rfl) ?_))))
     refine VQ_y (fun _ _ => Y_pick_te rfl hc45 rfl) rfl rfl rfl ?_
     obtain rfl := Oi hs46
     exact VQ_end fun a ha => ⟨(), ha.sb, trivial⟩
    rw [if_neg (nt hc45)] at hs46
    refine Qg hc45 (Qg hc45 (Qg hc45 (Qg hc45 (Qg hc45 (Qg hc45 (Qg hc45 (Qg hc45 (Qg hc45 ?_))))))))
    refine VQ_y (fun _ _ => Y_pick_fe rfl hc45 rfl) rfl rfl rfl ?_
    obtain rfl := Oi hs46
    exact VQ_end fun a ha => ⟨(), ha.sb, trivial⟩
   simp only [List.take, List.drop]
   rintro _ _
   refine VQ_to (fun _ _ => rfl) (fun w53 hk54 => ?_)
   have ht55 := Kp.tr hk54 hA hB; replace hH := Hp.kp hH hk54; replace hK := Tt hK ht55; replace hr6 := Tt hr6 ht55
   refine Cc (fun hc56 => ?_) fun hc56 => ?_
   ·rw [if_pos hc56] at h19
    refine Sr (As (To ?_))
    obtain rfl := Oi h19
    obtain rfl := (h20 : Lp.rt _ = _)
    rw [Lp.andThen_rt] at hm
    obtain rfl := Oi hm
    refine Rt (Res.one results12 rfl) ?_
    exact ⟨rfl, hK.kp⟩
   rw [if_neg (nt hc56)] at h19
   refine Sk ?_
   refine C_region (Vy (Y_addI rfl rfl) (Mm ?_))
   obtain rfl := Oi h19
   refine V_end (fun a ha57 => ?_)
   exact ⟨(), hlt22, h20, ⟨A16, ha57.sub ⟨rfl, rfl, rfl, Ws hlt22 hn25, trivial⟩, ⟨hH, hr6⟩⟩⟩
  refine C_exit (fun a ha58 => ?_)
  exact ⟨((), A16), ha58.sub trivial, ⟨(h23 (eq_of_dec hle21 hc26)).symm, hH, hr6⟩⟩
 rintro ⟨s5, A12⟩ w9 ⟨rfl, hH13, hk10⟩ a ha11
 rw [Lp.andThen_fin] at hm
 replace hK := Tr.trans hK hk10; replace hA := hk10.new; replace hH := hH13
 refine C_at (n := ⟨39, [], none⟩) (fun _ _ => rfl) ?_ ha11
 refine Sr (As (To ?_))
 obtain rfl := Oi hm
 refine Rt (Res.one results12 rfl) ?_
 exact ⟨rfl, hK.kp⟩
theorem route_moment_c (w : World) (m : Int) : Ret prog 13 #[Ii m] w fun v w' => v = Ii (route_moment m) ∧ w = w' := by
 generalize hm : route_moment m = r
 unfold route_moment at hm
 refine enter func13 rfl ntmps13 rfl ?_
 refine Sr (As (To ?_))
 refine C_seq (Sr (Mm ?_))
 refine Vc call62 (route_within_c w m 0 3000000) ?_
 rintro _ _ ⟨rfl, rfl⟩
 refine Vy (Y_not rfl) (To ?_)
 refine Cc (fun hc1 => ?_) fun hc1 => ?_
 ·rw [if_pos hc1] at hm
  refine Sr (As (To ?_))
  obtain rfl := hm
  refine Rt (Res.one results13 rfl) ?_
  exact ⟨rfl, rfl⟩
 rw [if_neg (nt hc1)] at hm
 refine Sk ?_
 refine Sr (As (To ?_))
 obtain rfl := hm
 refine Rt (Res.one results13 rfl) ?_
 exact ⟨rfl, rfl⟩
theorem cmp_Or_api_Errno_c (w : World) {A : Nat → Prop} (vals : (List Int)) (v_vals : Value) (h_vals : Sl A w v_vals vals) {r : Int} (hm : cmp_Or_api_Errno vals = some r) : Ret prog 8 #[v_vals] w fun v w' => v = Ii r ∧ w = w' := by
 unfold cmp_Or_api_Errno at hm
 refine enter func8 rfl ntmps8 rfl ?_
 refine Sr (As (To ?_))
 refine Sr (As (To ?_))
 refine C_seq (Sr (Mm (Vy (Y_lenSl h_vals rfl underlying166 rfl) (Mm (To ?_)))))
 have hn19 := Sl.le h_vals
 obtain ⟨o3, ho3, hm⟩ := Bs hm
 refine C_cutG (ι := Unit) (fun (s4 : Unit) => [(3, Ii 0)]) (fun (s4 : Unit) => fun w' => o3 = .fin s4 ∧ w = w') ?_ ?_
 ·refine C_block ?_
  refine C_range ho3 (fun k6 _ a w' => ∃ i : Unit, Has ⟨18, [], none⟩ a ([(3, Ii 0), (6, v_vals), (7, Ii (vals.length : Int)), (8, Ii (k6 : Int))]) ∧ w = w') (fun a ha => ⟨(), ha.sb, rfl⟩) ?_
  rintro K k6 _ a _ ⟨_, ha28, rfl⟩ hle15 K18 h17
  refine C_of ?_ ha28
  refine Sr (Vy (Y_lss rfl rfl) (To ?_))
  refine C_seq ?_
  refine Cc (fun hc20 => ?_) fun hc20 => ?_
  ·have hlt16 := lt_of_dec hc20
   obtain ⟨x12, h13, h14⟩ := K18 hlt16
   refine Sk ?_
   refine C_seq (C_block (Sr ?_))
   obtain ⟨x21, hx21, h13⟩ := Bs h13
   refine V_indexAddr h_vals hx21 underlying166 sizeOf27 rfl rfl rfl ?_
   intro b22 o23 h24
   refine Li h24 isAgg27 (As (To ?_))
   refine Sr (Mm (Mm (Vy (Y_neq rfl rfl) (To ?_))))
   refine Cc (fun hc25 => ?_) fun hc25 => ?_
   ·rw [if_pos hc25] at h13
    refine Sr (Mm (As (To ?_)))
    obtain rfl := Oi h13
    obtain rfl := (h14 : Lp.rt _ = _)
    rw [Lp.andThen_rt] at hm
    obtain rfl := Oi hm
    refine Rt (Res.one results8 rfl) ?_
    exact ⟨rfl, rfl⟩
   rw [if_neg (nt hc25)] at h13
   refine Sk ?_
   refine C_region (Vy (Y_addI rfl rfl) (Mm ?_))
   obtain rfl := Oi h13
   refine V_end (fun a ha26 => ?_)
   exact ⟨(), hlt16, h14, ⟨(), ha26.sub ⟨rfl, rfl, rfl, Ws hlt16 hn19, trivial⟩, rfl⟩⟩
  refine C_exit (fun a ha27 => ?_)
  exact ⟨(), ha27.sb, ⟨(h17 (eq_of_dec hle15 hc20)).symm, rfl⟩⟩
 rintro s4 _ ⟨rfl, rfl⟩ a ha9
 rw [Lp.andThen_fin] at hm
 refine C_at (n := ⟨18, [], none⟩) (fun _ _ => rfl) ?_ ha9
 refine Sr (Mm (As (To ?_)))
 obtain rfl := Oi hm
 refine Rt (Res.one results8 rfl) ?_
 exact ⟨rfl, rfl⟩
theorem slices_IndexFunc_Lroute_Held_route_Held_c (w : World) {A : Nat → Prop} (hA : ∀ b, w.heap.size ≤ b → A b) (s : (List route_Held)) (v_s : Value) (h_s : Sl A w v_s s) (f : route_Held → Option Bool) (f_f : FuncId) (f_a f_c : Array Value) (f_call : ∀ (args : Array Value) (w : World), (callFunc f_f args).run prog w = .ok (.enter f_f args) w) (f_spec : ∀ (w1 : World) (A1 : Nat → Prop), Tr Dw w.heap.size A w A1 w1 → (∀ b, w1.heap.size ≤ b → A1 b) → ∀ (y0 : route_Held) (r : Bool), f y0 = some r → Ret prog f_f (f_a ++ #[.agg #[Ii y0.ticket, Ii y0.person, Ii y0.weight, Ii y0.since]] ++ f_c) w1 fun v w' => v = .bool r ∧ Kp Dw w1 w') {r : Int} (hm : slices_IndexFunc_Lroute_Held_route_Held s f = some r) : Ret prog 66 #[v_s, .func (.func f_f) f_a f_c] w fun v w' => v = Ii r ∧ Kp Dw w w' := by
 unfold slices_IndexFunc_Lroute_Held_route_Held at hm
 refine enter func66 rfl ntmps66 rfl ?_
 have hA0 := hA
 obtain ⟨hB, hK, hH⟩ := St (Dw := Dw) hA
 refine Sr (As (To ?_))
 refine C_seq (Sr (Mm (Vy (Y_lenSl h_s rfl underlying24 rfl) (Mm (To ?_)))))
 have hn23 := Sl.le h_s
 obtain ⟨o3, ho3, hm⟩ := Bs hm
 refine C_cutG (ι := (Unit × (Nat → Prop))) (fun ⟨s4, A10⟩ => []) (fun ⟨s4, A10⟩ => fun w' => o3 = .fin s4 ∧ Hp w.heap.size A10 w' ([]) ∧ Tr Dw w.heap.size A w A10 w') ?_ ?_
 ·refine C_block ?_
  refine C_range ho3 (fun k6 _ a w' => ∃ i : (Nat → Prop), Has ⟨19, [], none⟩ a ([(0, v_s), (1, .func (.func f_f) f_a f_c), (7, Ii (s.length : Int)), (8, Ii (k6 : Int))]) ∧ Hp w.heap.size i w' ([]) ∧ Tr Dw w.heap.size A w i w') (fun a ha => ⟨A, ha.sb, ⟨hH, Tr.refl (Dw := Dw) hA⟩⟩) ?_
  rintro K k6 _ a w13 ⟨A14, ha37, hH15, hr5⟩ hle19 K22 h21
  refine C_of ?_ ha37
  replace h_s := Sl.tr h_s hr5; replace hK := Tt hK hr5; replace hB := Bx hB hr5; replace hA := hr5.new; replace hH := hH15
  refine Sr (Vy (Y_lss rfl rfl) (To ?_))
  refine C_seq ?_
  refine Cc (fun hc24 => ?_) fun hc24 => ?_
  ·have hlt20 := lt_of_dec hc24
   obtain ⟨x16, h17, h18⟩ := K22 hlt20
   refine Sk ?_
   refine C_seq (C_block (Sr (Mm (As (To ?_)))))
   refine Sr (Mm (Mm (Mm ?_)))
   obtain ⟨x25, hx25, h17⟩ := Bs h17
   refine V_indexAddr h_s hx25 underlying24 sizeOf32 rfl rfl rfl ?_
   intro b26 o27 h28
   obtain ⟨h29, _⟩ := El_route_Held h28
   refine Vy (Y_loadA h29 isAgg32 sizeOf32 rfl) ?_
   obtain ⟨x30, hx30, h17⟩ := Bs h17
   refine Vc f_call (f_spec w13 _ hK hA x25 _ hx30) ?_
   rintro _ w31 ⟨rfl, hk32⟩
   have ht33 := Kp.tr hk32 hA hB; replace hH := Hp.kp hH hk32; replace hK := Tt hK ht33; replace hr5 := Tt hr5 ht33
   refine To ?_
   refine Cc (fun hc34 => ?_) fun hc34 => ?_
   ·rw [if_pos hc34] at h17
    refine Sr (Mm (As (To ?_)))
    obtain rfl := Oi h17
    obtain rfl := (h18 : Lp.rt _ = _)
    rw [Lp.andThen_rt] at hm
    obtain rfl := Oi hm
    refine Rt (Res.one results66 rfl) ?_
    exact ⟨rfl, hK.kp⟩
   rw [if_neg (nt hc34)] at h17
   refine Sk ?_
   refine C_region (Vy (Y_addI rfl rfl) (Mm ?_))
   obtain rfl := Oi h17
   refine V_end (fun a ha35 => ?_)
   exact ⟨(), hlt20, h18, ⟨A14, ha35.sub ⟨rfl, rfl, rfl, Ws hlt20 hn23, trivial⟩, ⟨hH, hr5⟩⟩⟩
  refine C_exit (fun a ha36 => ?_)
  exact ⟨((), A14), ha36.sub trivial, ⟨(h21 (eq_of_dec hle19 hc24)).symm, hH, hr5⟩⟩
 rintro ⟨s4, A10⟩ w7 ⟨rfl, hH11, hk8⟩ a ha9
 rw [Lp.andThen_fin] at hm
 replace hK := Tr.trans hK hk8; replace hA := hk8.new; replace hH := hH11
 refine C_at (n := ⟨19, [], none⟩) (fun _ _ => rfl) ?_ ha9
 refine Sr (As (To ?_))
 obtain rfl := Oi hm
 refine Rt (Res.one results66 rfl) ?_
 exact ⟨rfl, hK.kp⟩
theorem slices_ContainsFunc_Lroute_Held_route_Held_c (w : World) {A : Nat → Prop} (hA : ∀ b, w.heap.size ≤ b → A b) (s : (List route_Held)) (v_s : Value) (h_s : Sl A w v_s s) (f : route_Held → Option Bool) (f_f : FuncId) (f_a f_c : Array Value) (f_call : ∀ (args : Array Value) (w : World), (callFunc f_f args).run prog w = .ok (.enter f_f args) w) (f_spec : ∀ (w1 : World) (A1 : Nat → Prop), Tr Dw w.heap.size A w A1 w1 → (∀ b, w1.heap.size ≤ b → A1 b) → ∀ (y0 : route_Held) (r : Bool), f y0 = some r → Ret prog f_f (f_a ++ #[.agg #[Ii y0.ticket, Ii y0.person, Ii y0.weight, Ii y0.since]] ++ f_c) w1 fun v w' => v = .bool r ∧ Kp Dw w1 w') {r : Bool} (hm : slices_ContainsFunc_Lroute_Held_route_Held s f = some r) : Ret prog 14 #[v_s, .func (.func f_f) f_a f_c] w fun v w' => v = .bool r ∧ Kp Dw w w' := by
 unfold slices_ContainsFunc_Lroute_Held_route_Held at hm
 refine enter func14 rfl ntmps14 rfl ?_
 have hA0 := hA
 obtain ⟨hB, hK, hH⟩ := St (Dw := Dw) hA
 refine Sr (As (To ?_))
 refine Sr (Mm (Mm ?_))
 obtain ⟨x3, hx3, hm⟩ := Bs hm
 refine Vc call66 (slices_IndexFunc_Lroute_Held_route_Held_c (Dw := Dw) w hA s v_s h_s f f_f f_a f_c f_call (fun w1 A1 ht => f_spec w1 A1 (Tr.trans hK (Tr.lower (Dw := Dw) ht hB))) hx3) ?_
 rintro _ w4 ⟨rfl, hk5⟩
 have ht6 := Kp.tr hk5 hA hB; replace hK := Tt hK ht6
 refine Vy (Y_geq rfl rfl) (As (To ?_))
 obtain rfl := Oi hm
 refine Rt (Res.one results14 rfl) ?_
 exact ⟨rfl, hK.kp⟩
theorem route_Assign_1_c (w : World) {A : Nat → Prop} (hA : ∀ b, w.heap.size ≤ b → A b) (h : route_Held) (p1 : route_Work) (b_p1 : Nat) (h_p1 : El A w b_p1 0 p1) {r : Bool} (hm : route_Assign_1 h p1 = some r) : Ret prog 15 #[.agg #[Ii h.ticket, Ii h.person, Ii h.weight, Ii h.since], Pt b_p1] w fun v w' => v = .bool r ∧ Kp Dw w w' := by
 unfold route_Assign_1 at hm
 refine enter func15 rfl ntmps15 rfl ?_
 have hA0 := hA
 obtain ⟨hB, hK, hH⟩ := St (Dw := Dw) hA
 refine Sr ?_
 refine V_box rfl rfl ?_
 intro b1 w2 h3
 have hk5 := h3.kp (Dw := Dw)
 have h4 : El (α := route_Held) A w2 b1 0 h := h3.el hA ⟨[Ii h.ticket], _, rfl, rfl, ⟨[Ii h.person], _, rfl, rfl, ⟨[Ii h.weight], _, rfl, rfl, rfl⟩⟩⟩
 have ht6 := Kp.tr hk5 hA hB; replace h_p1 := El.tr h_p1 ht6; replace hK := Tt hK ht6
 refine As (To ?_)
 refine Sr ?_
 have h7 := El_route_Held_0 h4
 refine Fa underlying32 rfl sizeOf3 (Li h7 isAgg3 ?_)
 have h8 := El_route_Work_0 h_p1
 refine Fa underlying43 rfl sizeOf3 (Li h8 isAgg3 (Vy (Y_eql rfl rfl) (As (To ?_))))
 obtain rfl := Oi hm
 refine Rt (Res.one results15 rfl) ?_
 exact ⟨rfl, hK.kp⟩
theorem route_weights_c (w : World) {A : Nat → Prop} (hA : ∀ b, w.heap.size ≤ b → A b) (people : (List route_Person)) (v_people : Value) (h_people : Sl A w v_people people) (held : (List route_Held)) (v_held : Value) (h_held : Sl A w v_held held) {r : (List Int)} (hm : route_weights people held = some r) : Ret prog 101 #[v_people, v_held] w fun v w' => ∃ s0, v = s0 ∧ Ownd 3 w w' s0 r ∧ Kp Dw w w' := by
 unfold route_weights at hm
 refine enter func101 rfl ntmps101 rfl ?_
 have hA0 := hA
 obtain ⟨hB, hK, hH⟩ := St (Dw := Dw) hA
 refine Sr (As (To ?_))
 refine Sr (Mm (Vy (Y_lenSl h_people rfl underlying22 rfl) ?_))
 obtain ⟨x5, hx5, hm⟩ := Bs hm
 refine V_makeH (Dw := Dw) (e := 3) (ti := t3) hH hx5 (fun _ _ => rfl) underlying98 Tryz_info3 rfl rfl rfl (by decide) (by decide) hB hA rfl rfl rfl ?_
 intro v6 w7 A8 hH9 ht10
 replace h_people := Sl.tr h_people ht10; replace h_held := Sl.tr h_held ht10; replace hK := Tt hK ht10; replace hB := Bx hB ht10; replace hA := ht10.new
 replace hH : Hp _ _ _ (o_3 v6 x5 :: []) := hH9
 refine As (To ?_)
 refine C_seq (Sr (Mm (Vy (Y_lenSl h_held rfl underlying24 rfl) (Mm (To ?_)))))
 have hn35 := Sl.le h_held
 obtain ⟨o11, ho11, hm⟩ := Bs hm
 refine C_cutG (ι := ((List Int) × Value × (Nat → Prop))) (fun ⟨s12, v18, A20⟩ => [(5, v18)]) (fun ⟨s12, v18, A20⟩ => fun w' => o11 = .fin s12 ∧ Hp w.heap.size A20 w' (o_3 v18 s12 :: []) ∧ Tr Dw w.heap.size A8 w7 A20 w') ?_ ?_
 ·refine C_block ?_
  refine C_range ho11 (fun k14 s22 a w' => ∃ i : (Value × (Nat → Prop)), Has ⟨30, [], none⟩ a ([(0, v_people), (5, i.1), (11, v_held), (12, Ii (held.length : Int)), (13, Ii (k14 : Int))]) ∧ Hp w.heap.size i.2 w' (o_3 i.1 s22 :: []) ∧ Tr Dw w.heap.size A8 w7 i.2 w') (fun a ha => ⟨(v6, A8), ha.sb, ⟨hH, Tr.refl (Dw := Dw) hA⟩⟩) ?_
  rintro K k14 s22 a w23 ⟨⟨v24, A26⟩, ha71, hH27, hr13⟩ hle31 K34 h33
  refine C_of ?_ ha71
  replace h_people := Sl.tr h_people hr13; replace h_held := Sl.tr h_held hr13; replace hB := Bx hB hr13; replace hA := hr13.new
  replace hH : Hp _ _ _ (o_3 v24 s22 :: []) := hH27
  refine Sr (Vy (Y_lss rfl rfl) (To ?_))
  refine C_seq ?_
  refine Cc (fun hc36 => ?_) fun hc36 => ?_
  ·have hlt32 := lt_of_dec hc36
   obtain ⟨x28, h29, h30⟩ := K34 hlt32
   refine Sk ?_
   refine C_seq (C_block (Sr ?_))
   obtain ⟨x37, hx37, h29⟩ := Bs h29
   refine V_indexAddr h_held hx37 underlying24 sizeOf32 rfl rfl rfl ?_
   intro b38 o39 h40
   obtain ⟨h41, _⟩ := El_route_Held h40
   refine Vy (Y_loadA h41 isAgg32 sizeOf32 rfl) ?_
   refine V_alloc zeroValue32 rfl ?_
   intro b42 w43 h44
   refine Sn h44 sizeOf32 ?_
   intro w45 h46
   have hk48 := h46.kp (Dw := Dw)
   have h47 : El (α := route_Held) A26 w45 b42 0 x37 := h46.el hA ⟨[Ii x37.ticket], _, rfl, rfl, ⟨[Ii x37.person], _, rfl, rfl, ⟨[Ii x37.weight], _, rfl, rfl, rfl⟩⟩⟩
   have ht49 := Kp.tr hk48 hA hB; replace hH := Hp.kp hH hk48; replace h_people := Sl.tr h_people ht49; replace hr13 := Tt hr13 ht49; replace hB := Bx hB ht49; replace hA := ht49.new
   refine To ?_
   refine C_region_qt (Dw := Dw) 11 Tryz_mixed (by kernel_rfl) ?_
   simp only [List.take, List.drop]
   refine Qm (Qm ?_)
   have h50 := El_route_Held_1 h47
   refine Qf underlying32 rfl sizeOf3 (Qi h50 isAgg3 ?_)
   obtain ⟨x51, hx51, h29⟩ := Bs h29
   refine VQ_call (Ii x51) call63 rfl rfl rfl rfl (fun w' hw' => (route_position_c (Dw := Dw) w' (fun b hb => hA b (Nat.le_trans hw'.size hb)) people v_people (Sl.kp h_people hw') x37.person hx51).mono (fun _ _ h => ⟨h.1, Kp.trans (Dw := Dw) hw' h.2⟩)) ?_
   obtain ⟨x52, hx52, h29⟩ := Bs h29
   refine VQ_indexAddrH (α := Int) (e := 3) (v := v24) (l := s22) hH (i := 0) rfl hx52 underlying98 sizeOf3 rfl rfl rfl ?_
   intro b53 o54 h55 hl56
   refine Qi h55 isAgg3 ?_
   have h57 := El_route_Held_2 h47
   refine Qf underlying32 rfl sizeOf3 (Qi h57 isAgg3 (Qv (fun w' hw' => Y_addI rfl rfl) ?_))
   refine VQ_indexAddrH (α := Int) (e := 3) (v := v24) (l := s22) hH (i := 0) rfl hx52 underlying98 sizeOf3 rfl rfl rfl ?_
   intro b58 o59 h60 hl61
   refine VQ_tail (fun w62 hk63 => ?_)
   try simp only [List.take, List.drop]
   have ht64 := Kp.tr hk63 hA hB; replace hH := Hp.kp hH hk63; replace hr13 := Tt hr13 ht64; replace hB := Bx hB ht64; replace hA := ht64.new
   obtain ⟨x65, hx65, h29⟩ := Bs h29
   refine V_storeH (Dw := Dw) (α := Int) (e := 3) (v := v24) (l := s22) hH (i := 0) rfl hl61 hx65 rfl sizeOf3 rfl hB hA rfl rfl ?_
   intro w66 hH67 ht68
   replace hr13 := Tt hr13 ht68
   replace hH : Hp _ _ _ (o_3 v24 x65 :: []) := hH67
   refine To ?_
   refine C_region (Vy (Y_addI rfl rfl) (Mm ?_))
   obtain rfl := Oi h29
   refine V_end (fun a ha69 => ?_)
   exact ⟨x65, hlt32, h30, ⟨(v24, A26), ha69.sub ⟨rfl, rfl, rfl, rfl, Ws hlt32 hn35, trivial⟩, ⟨hH, hr13⟩⟩⟩
  refine C_exit (fun a ha70 => ?_)
  exact ⟨(s22, v24, A26), ha70.sb, ⟨(h33 (eq_of_dec hle31 hc36)).symm, hH, hr13⟩⟩
 rintro ⟨s12, v18, A20⟩ w15 ⟨rfl, hH21, hk16⟩ a ha17
 rw [Lp.andThen_fin] at hm
 replace hK := Tr.trans hK hk16; replace hA := hk16.new
 replace hH : Hp _ _ _ (o_3 v18 s12 :: []) := hH21
 refine C_at (n := ⟨30, [], none⟩) (fun _ _ => rfl) ?_ ha17
 refine Sr (Mm (As (To ?_)))
 obtain rfl := Oi hm
 refine Rt (Res.one results101 rfl) ?_
 exact ⟨v18, rfl, (Hp.ownd hH (i := 0) rfl), hK.kp⟩
theorem cal_moment_c (w : World) (m : Int) : Ret prog 121 #[Ii m] w fun v w' => v = Ii (cal_moment m) ∧ w = w' := by
 generalize hm : cal_moment m = r
 unfold cal_moment at hm
 refine enter func121 rfl ntmps121 rfl ?_
 refine Sr (As (To ?_))
 refine C_seq (Sr (Mm ?_))
 refine Vc call97 (cal_within_c w m 0 3000000) ?_
 rintro _ _ ⟨rfl, rfl⟩
 refine Vy (Y_not rfl) (To ?_)
 refine Cc (fun hc1 => ?_) fun hc1 => ?_
 ·rw [if_pos hc1] at hm
  refine Sr (As (To ?_))
  obtain rfl := hm
  refine Rt (Res.one results121 rfl) ?_
  exact ⟨rfl, rfl⟩
 rw [if_neg (nt hc1)] at hm
 refine Sk ?_
 refine Sr (As (To ?_))
 obtain rfl := hm
 refine Rt (Res.one results121 rfl) ?_
 exact ⟨rfl, rfl⟩
theorem cal_Calendar_open_c (w : World) {A : Nat → Prop} (hA : ∀ b, w.heap.size ≤ b → A b) (c : cal_Calendar) (v_c0 : Value) (h_c0 : Sl A w v_c0 c.zone.changes) (v_c1 : Value) (h_c1 : Sl A w v_c1 c.week) (v_c2 : Value) (h_c2 : Sl A w v_c2 c.specials) (from_ : Int) (to_ : Int) {r : (cal_Calendar × Int × Int)} (hm : cal_Calendar_open c from_ to_ = some r) : Ret prog 122 #[.agg #[Ii c.zone.offset, v_c0, v_c1, v_c2], Ii from_, Ii to_] w fun v w' => ∃ c0 c1 c2, v = .func (.func 141) #[] #[Pt c0, Pt c1, Pt c2] ∧ El A w' c0 0 r.1 ∧ El A w' c1 0 r.2.1 ∧ El A w' c2 0 r.2.2 ∧ Kp Dw w w' := by
 unfold cal_Calendar_open at hm
 refine enter func122 rfl ntmps122 rfl ?_
 have hA0 := hA
 obtain ⟨hB, hK, hH⟩ := St (Dw := Dw) hA
 refine Sr ?_
 refine V_box rfl rfl ?_
 intro b7 w9 h10
 have hk12 := h10.kp (Dw := Dw)
 have h11 : El (α := cal_Calendar) A w9 b7 0 c := h10.el hA ⟨[Ii c.zone.offset, v_c0], _, rfl, ⟨[Ii c.zone.offset], _, rfl, rfl, ⟨_, rfl, h_c0⟩⟩, ⟨[v_c1], _, rfl, ⟨_, rfl, h_c1⟩, ⟨_, rfl, h_c2⟩⟩⟩
 have ht13 := Kp.tr hk12 hA hB; replace hK := Tt hK ht13; replace hB := Bx hB ht13; replace hA := ht13.new
 refine V_box rfl rfl ?_
 intro b14 w15 h16
 have hk18 := h16.kp (Dw := Dw)
 have h17 : El (α := Int) A w15 b14 0 from_ := h16.el hA rfl
 have ht19 := Kp.tr hk18 hA hB; replace h11 := El.tr h11 ht19; replace hK := Tt hK ht19; replace hB := Bx hB ht19; replace hA := ht19.new
 refine V_box rfl rfl ?_
 intro b20 w21 h22
 have hk24 := h22.kp (Dw := Dw)
 have h23 : El (α := Int) A w21 b20 0 to_ := h22.el hA rfl
 have ht25 := Kp.tr hk24 hA hB; replace h11 := El.tr h11 ht25; replace h17 := El.tr h17 ht25; replace hK := Tt hK ht25
 refine As (To ?_)
 refine Sr (Vy (Y_makeFunc rfl rfl) (As (To ?_)))
 obtain rfl := Oi hm
 refine Rt (Res.one results122 rfl) ?_
 exact ⟨b7, b14, b20, rfl, (El.out (Dw := Dw) h11 hA0 hK), (El.out (Dw := Dw) h17 hA0 hK), (El.out (Dw := Dw) h23 hA0 hK), hK.kp⟩
theorem cal_Calendar_shifts_c (w : World) {A : Nat → Prop} (hA : ∀ b, w.heap.size ≤ b → A b) (c : cal_Calendar) (v_c0 : Value) (h_c0 : Sl A w v_c0 c.zone.changes) (v_c1 : Value) (h_c1 : Sl A w v_c1 c.week) (v_c2 : Value) (h_c2 : Sl A w v_c2 c.specials) (from_ : Int) (to_ : Int) {r : (cal_Calendar × Int × Int)} (hm : cal_Calendar_shifts c from_ to_ = some r) : Ret prog 142 #[.agg #[Ii c.zone.offset, v_c0, v_c1, v_c2], Ii from_, Ii to_] w fun v w' => ∃ c0 c1 c2, v = .func (.func 167) #[] #[Pt c0, Pt c1, Pt c2] ∧ El A w' c0 0 r.1 ∧ El A w' c1 0 r.2.1 ∧ El A w' c2 0 r.2.2 ∧ Kp Dw w w' := by
 unfold cal_Calendar_shifts at hm
 refine enter func142 rfl ntmps142 rfl ?_
 have hA0 := hA
 obtain ⟨hB, hK, hH⟩ := St (Dw := Dw) hA
 refine Sr ?_
 refine V_box rfl rfl ?_
 intro b7 w9 h10
 have hk12 := h10.kp (Dw := Dw)
 have h11 : El (α := cal_Calendar) A w9 b7 0 c := h10.el hA ⟨[Ii c.zone.offset, v_c0], _, rfl, ⟨[Ii c.zone.offset], _, rfl, rfl, ⟨_, rfl, h_c0⟩⟩, ⟨[v_c1], _, rfl, ⟨_, rfl, h_c1⟩, ⟨_, rfl, h_c2⟩⟩⟩
 have ht13 := Kp.tr hk12 hA hB; replace hK := Tt hK ht13; replace hB := Bx hB ht13; replace hA := ht13.new
 refine V_box rfl rfl ?_
 intro b14 w15 h16
 have hk18 := h16.kp (Dw := Dw)
 have h17 : El (α := Int) A w15 b14 0 from_ := h16.el hA rfl
 have ht19 := Kp.tr hk18 hA hB; replace h11 := El.tr h11 ht19; replace hK := Tt hK ht19; replace hB := Bx hB ht19; replace hA := ht19.new
 refine V_box rfl rfl ?_
 intro b20 w21 h22
 have hk24 := h22.kp (Dw := Dw)
 have h23 : El (α := Int) A w21 b20 0 to_ := h22.el hA rfl
 have ht25 := Kp.tr hk24 hA hB; replace h11 := El.tr h11 ht25; replace h17 := El.tr h17 ht25; replace hK := Tt hK ht25
 refine As (To ?_)
 refine Sr (Vy (Y_makeFunc rfl rfl) (As (To ?_)))
 obtain rfl := Oi hm
 refine Rt (Res.one results142 rfl) ?_
 exact ⟨b7, b14, b20, rfl, (El.out (Dw := Dw) h11 hA0 hK), (El.out (Dw := Dw) h17 hA0 hK), (El.out (Dw := Dw) h23 hA0 hK), hK.kp⟩
theorem cal_Zone_parts_c (w : World) {A : Nat → Prop} (hA : ∀ b, w.heap.size ≤ b → A b) (z : cal_Zone) (v_z : Value) (h_z : Sl A w v_z z.changes) {r : (List cal_part)} (hm : cal_Zone_parts z = some r) : Ret prog 168 #[.agg #[Ii z.offset, v_z]] w fun v w' => ∃ s0, v = s0 ∧ Ownd 281 w w' s0 r ∧ Kp Dw w w' := by
 unfold cal_Zone_parts at hm
 refine enter func168 rfl ntmps168 rfl ?_
 have hA0 := hA
 obtain ⟨hB, hK, hH⟩ := St (Dw := Dw) hA
 refine Sr ?_
 refine V_box rfl rfl ?_
 intro b3 w4 h5
 have hk7 := h5.kp (Dw := Dw)
 have h6 : El (α := cal_Zone) A w4 b3 0 z := h5.el hA ⟨[Ii z.offset], _, rfl, rfl, ⟨_, rfl, h_z⟩⟩
 have ht8 := Kp.tr hk7 hA hB; replace hH := Hp.kp hH hk7; replace hK := Tt hK ht8; replace hB := Bx hB ht8; replace hA := ht8.new
 refine As (To ?_)
 refine Sr ?_
 have h9 := El_cal_Zone_0 h6
 refine Fa underlying64 rfl sizeOf3 (Li h9 isAgg3 ?_)
 refine Vy (Y_build underlying281 zeroValue281 (Tryz_places281 _ underlying281) rfl (by with_unfolding_all rfl)) ?_
 refine V_buildOwnH (Dw := Dw) (cells := #[Ii 0, Ii 3000001, Ii z.offset]) (l := ([(⟨0, 3000001, z.offset⟩ : cal_part)] : List cal_part)) (len := 1) hH underlying278 sizeOf281 zeroValue281 rfl (by kernel_rfl) (show (1 * 3 : Nat) ≠ 0 by decide) (show (1 * 3 : Nat) ≤ 2 ^ 24 by decide) hB hA ⟨[Ii 0, Ii 3000001, Ii z.offset], _, rfl, ⟨[Ii 0], _, rfl, rfl, ⟨[Ii 3000001], _, rfl, rfl, rfl⟩⟩, rfl⟩ rfl rfl ?_
 intro v10 w11 A14 hH16 ht15
 replace h6 := El.tr h6 ht15; replace hK := Tt hK ht15; replace hB := Bx hB ht15; replace hA := ht15.new
 replace hH : Hp _ _ _ (o_281 v10 ([(⟨0, 3000001, z.offset⟩ : cal_part)] : List cal_part) :: []) := hH16
 refine As (To ?_)
 refine C_seq (Sr ?_)
 have h17 := El_cal_Zone_1 h6
 refine Fa underlying64 rfl sizeOf62 ?_
 obtain ⟨v18, h19, h20⟩ := El.list h17
 refine Ld h19 isAgg62 (Vy (Y_lenSl h20 rfl underlying62 rfl) (Mm (To ?_)))
 have hn45 := Sl.le h20
 obtain ⟨o21, ho21, hm⟩ := Bs hm
 refine C_cutG (ι := ((List cal_part) × Value × (Nat → Prop))) (fun ⟨s22, v28, A30⟩ => [(3, v28)]) (fun ⟨s22, v28, A30⟩ => fun w' => o21 = .fin s22 ∧ Hp w.heap.size A30 w' (o_281 v28 s22 :: []) ∧ Tr Dw w.heap.size A14 w11 A30 w') ?_ ?_
 ·refine C_block ?_
  refine C_range ho21 (fun k24 s32 a w' => ∃ i : (Value × (Nat → Prop)), Has ⟨35, [], none⟩ a ([(3, i.1), (11, v18), (12, Ii (z.changes.length : Int)), (13, Ii (k24 : Int))]) ∧ Hp w.heap.size i.2 w' (o_281 i.1 s32 :: []) ∧ Tr Dw w.heap.size A14 w11 i.2 w') (fun a ha => ⟨(v10, A14), ha.sb, ⟨hH, Tr.refl (Dw := Dw) hA⟩⟩) ?_
  rintro K k24 s32 a w33 ⟨⟨v34, A36⟩, ha86, hH37, hr23⟩ hle41 K44 h43
  refine C_of ?_ ha86
  replace h20 := Sl.tr h20 hr23; replace hB := Bx hB hr23; replace hA := hr23.new
  replace hH : Hp _ _ _ (o_281 v34 s32 :: []) := hH37
  refine Sr (Vy (Y_lss rfl rfl) (To ?_))
  refine C_seq ?_
  refine Cc (fun hc46 => ?_) fun hc46 => ?_
  ·have hlt42 := lt_of_dec hc46
   obtain ⟨x38, h39, h40⟩ := K44 hlt42
   refine Sk ?_
   refine C_seq (C_block (Sr ?_))
   obtain ⟨x47, hx47, h39⟩ := Bs h39
   refine V_indexAddr h20 hx47 underlying62 sizeOf72 rfl rfl rfl ?_
   intro b48 o49 h50
   obtain ⟨h51, _⟩ := El_cal_Change h50
   refine Vy (Y_loadA h51 isAgg72 sizeOf72 rfl) ?_
   refine V_alloc zeroValue72 rfl ?_
   intro b52 w53 h54
   refine Sn h54 sizeOf72 ?_
   intro w55 h56
   have hk58 := h56.kp (Dw := Dw)
   have h57 : El (α := cal_Change) A36 w55 b52 0 x47 := h56.el hA ⟨[Ii x47.at_], _, rfl, rfl, rfl⟩
   have ht59 := Kp.tr hk58 hA hB; replace hH := Hp.kp hH hk58; replace hr23 := Tt hr23 ht59; replace hB := Bx hB ht59; replace hA := ht59.new
   refine To ?_
   refine Sr (Mm (Mm (Vy (Y_lenSl (Hp.any (α := cal_part) (e := 281) (v := v34) (l := s32) hH (i := 0) rfl) rfl underlying278 rfl) (Vy (Y_subI rfl rfl) ?_))))
   have h60 := El_cal_Change_0 h57
   refine Fa underlying72 rfl sizeOf3 (Li h60 isAgg3 ?_)
   obtain ⟨x61, hx61, h39⟩ := Bs h39
   refine V_indexAddrH (α := cal_part) (e := 281) (v := v34) (l := s32) hH (i := 0) rfl hx61 underlying278 sizeOf281 rfl rfl rfl ?_
   intro b62 o63 h64 hl65
   have h66 := El_cal_part_1 h64
   refine Fa underlying281 rfl sizeOf3 ?_
   obtain ⟨x67, hx67, h39⟩ := Bs h39
   refine V_storeFH (Dw := Dw) (α := cal_part) (e := 281) (v := v34) (l := s32) (foff := 1) hH (i := 0) rfl hl65 hx61 hx67 (fun _ h => by obtain ⟨_, _, rfl, rfl, ⟨_, _, rfl, rfl, rfl⟩⟩ := h; exact ⟨[_], _, rfl, rfl, ⟨[_], _, rfl, rfl, rfl⟩⟩) sizeOf3 rfl (by simp [Value.cells, Value.oneCell']) (by decide) hB hA (congrArg (fun z => some (Value.pointer (some ⟨_, z, none⟩))) (by simp [Nat.add_assoc])) rfl ?_
   intro w68 hH69 ht70
   replace h57 := El.tr h57 ht70; replace hr23 := Tt hr23 ht70; replace hB := Bx hB ht70; replace hA := ht70.new
   replace hH : Hp _ _ _ (o_281 v34 x67 :: []) := hH69
   refine To ?_
   refine C_region (Mm ?_)
   have h71 := El_cal_Change_0 h57
   refine Fa underlying72 rfl sizeOf3 (Li h71 isAgg3 ?_)
   have h72 := El_cal_Change_1 h57
   refine Fa underlying72 rfl sizeOf3 (Li h72 isAgg3 ?_)
   refine Vy (Y_build underlying281 zeroValue281 (Tryz_places281 _ underlying281) rfl (by with_unfolding_all rfl)) ?_
   refine V_buildSlice (Dw := Dw) (cells := #[Ii x47.at_, Ii 3000001, Ii x47.offset]) (l := ([(⟨x47.at_, 3000001, x47.offset⟩ : cal_part)] : List cal_part)) (len := 1) underlying278 sizeOf281 zeroValue281 rfl (by kernel_rfl) (show (1 * 3 : Nat) ≠ 0 by decide) (show (1 * 3 : Nat) ≤ 2 ^ 24 by decide) hA ⟨[Ii x47.at_, Ii 3000001, Ii x47.offset], _, rfl, ⟨[Ii x47.at_], _, rfl, rfl, ⟨[Ii 3000001], _, rfl, rfl, rfl⟩⟩, rfl⟩ rfl rfl ?_
   intro v73 w74 hk76 h75
   have ht77 := Kp.tr hk76 hA hB; replace hH := Hp.kp hH hk76; replace hr23 := Tt hr23 ht77; replace hB := Bx hB ht77; replace hA := ht77.new
   obtain ⟨x78, hx78, h39⟩ := Bs h39
   refine V_appendH (Dw := Dw) (e := 281) (v := v34) (l := x67) (ti := t281) (bytes := 24) (lim := 5864062014805) hH (i := 0) rfl h75 hx78 underlying278 Tryz_info281 rfl rfl rfl rfl (by decide) (by decide) (by decide) hB hA rfl rfl rfl ?_
   intro v79 w80 A81 hH82 ht83
   replace hr23 := Tt hr23 ht83
   replace hH : Hp _ _ _ (o_281 v79 x78 :: []) := hH82
   refine As (To ?_)
   refine C_region (Vy (Y_addI rfl rfl) (Mm ?_))
   obtain rfl := Oi h39
   refine V_end (fun a ha84 => ?_)
   exact ⟨x78, hlt42, h40, ⟨(v79, A81), ha84.sub ⟨rfl, rfl, rfl, Ws hlt42 hn45, trivial⟩, ⟨hH, hr23⟩⟩⟩
  refine C_exit (fun a ha85 => ?_)
  exact ⟨(s32, v34, A36), ha85.sb, ⟨(h43 (eq_of_dec hle41 hc46)).symm, hH, hr23⟩⟩
 rintro ⟨s22, v28, A30⟩ w25 ⟨rfl, hH31, hk26⟩ a ha27
 rw [Lp.andThen_fin] at hm
 replace hK := Tr.trans hK hk26; replace hA := hk26.new
 replace hH : Hp _ _ _ (o_281 v28 s22 :: []) := hH31
 refine C_at (n := ⟨35, [], none⟩) (fun _ _ => rfl) ?_ ha27
 refine Sr (Mm (As (To ?_)))
 obtain rfl := Oi hm
 refine Rt (Res.one results168 rfl) ?_
 exact ⟨v28, rfl, (Hp.ownd hH (i := 0) rfl), hK.kp⟩
theorem cal_floor_c (w : World) (a_ : Int) (b : Int) {r : Int} (hm : cal_floor a_ b = some r) : Ret prog 171 #[Ii a_, Ii b] w fun v w' => v = Ii r ∧ w = w' := by
 unfold cal_floor at hm
 refine enter func171 rfl ntmps171 rfl ?_
 refine Sr (As (To ?_))
 refine Sr (Mm (Mm ?_))
 obtain ⟨x1, hx1, hm⟩ := Bs hm
 refine Vy (Y_quo hx1 rfl rfl) (As (To ?_))
 refine C_seq (Sr (Mm (Mm ?_)))
 obtain ⟨x2, hx2, hm⟩ := Bs hm
 refine Vy (Y_rem hx2 rfl rfl) (Vy (Y_lss rfl rfl) (To ?_))
 obtain ⟨s4, ho3, hm⟩ := Bs hm
 refine C_cutG (ι := Unit) (fun (_ : Unit) => [(5, Ii s4)]) (fun (_ : Unit) => fun w' => w = w') ?_ ?_
 ·refine Cc (fun hc9 => ?_) fun hc9 => ?_
  ·rw [if_pos hc9] at ho3
   refine C_region (Mm (Vy (Y_subI rfl rfl) (As ?_)))
   obtain rfl := Oi ho3
   refine V_end (fun a ha10 => ?_)
   exact ⟨(), ha10.sb, rfl⟩
  rw [if_neg (nt hc9)] at ho3
  obtain rfl := Oi ho3
  refine C_skip (fun a ha11 => ?_)
  exact ⟨(), ha11.sb, rfl⟩
 rintro _ _ rfl a ha8
 refine C_at (n := ⟨16, [], none⟩) (fun _ _ => rfl) ?_ ha8
 refine Sr (Mm (As (To ?_)))
 obtain rfl := Oi hm
 refine Rt (Res.one results171 rfl) ?_
 exact ⟨rfl, rfl⟩
theorem slices_BinarySearchFunc_Lcal_Special_cal_Special_int_c (w : World) {A : Nat → Prop} (hA : ∀ b, w.heap.size ≤ b → A b) (x : (List cal_Special)) (v_x : Value) (h_x : Sl A w v_x x) (target : Int) (cmp : cal_Special → Int → Option Int) (cmp_f : FuncId) (cmp_a cmp_c : Array Value) (cmp_call : ∀ (args : Array Value) (w : World), (callFunc cmp_f args).run prog w = .ok (.enter cmp_f args) w) (cmp_spec : ∀ (w1 : World) (A1 : Nat → Prop), Tr Dw w.heap.size A w A1 w1 → (∀ b, w1.heap.size ≤ b → A1 b) → ∀ (y0 : cal_Special) (v1 : Value) (h2 : Sl A1 w1 v1 y0.shifts) (y1 : Int) (r : Int), cmp y0 y1 = some r → Ret prog cmp_f (cmp_a ++ #[.agg #[Ii y0.day, v1], Ii y1] ++ cmp_c) w1 fun v w' => v = Ii r ∧ Kp Dw w1 w') {r : (Int × Bool)} (hm : slices_BinarySearchFunc_Lcal_Special_cal_Special_int x target cmp = some r) : Ret prog 180 #[v_x, Ii target, .func (.func cmp_f) cmp_a cmp_c] w fun v w' => v = .tuple #[Ii r.1, .bool r.2] ∧ Kp Dw w w' := by
 unfold slices_BinarySearchFunc_Lcal_Special_cal_Special_int at hm
 refine enter func180 rfl ntmps180 rfl ?_
 have hA0 := hA
 obtain ⟨hB, hK, hH⟩ := St (Dw := Dw) hA
 refine Sr (As (As (To ?_)))
 refine Sr (Mm (Vy (Y_lenSl h_x rfl underlying66 rfl) (As (To ?_))))
 refine Sr (Mm (As (As (To ?_))))
 refine C_seq ?_
 obtain ⟨o3, ho3, hm⟩ := Bs hm
 refine C_cutG (ι := ((Int × Int) × (Nat → Prop))) (fun ⟨s4, A10⟩ => [(0, v_x), (1, Ii target), (2, .func (.func cmp_f) cmp_a cmp_c), (8, Ii (x.length : Int)), (9, Ii s4.1)]) (fun ⟨s4, A10⟩ => fun w' => o3 = .fin s4 ∧ Hp w.heap.size A10 w' ([]) ∧ Tr Dw w.heap.size A w A10 w') ?_ ?_
 ·refine C_block ?_
  refine C_while ho3 (fun s12 a w' => ∃ i : (Nat → Prop), Has ⟨49, [], none⟩ a ([(0, v_x), (1, Ii target), (2, .func (.func cmp_f) cmp_a cmp_c), (8, Ii (x.length : Int)), (9, Ii s12.1), (10, Ii s12.2)]) ∧ Hp w.heap.size i w' ([]) ∧ Tr Dw w.heap.size A w i w') (fun a ha => ⟨A, ha.sb, ⟨hH, Tr.refl (Dw := Dw) hA⟩⟩) ?_
  rintro K s12 a w13 ⟨A14, ha56, hH15, hr5⟩ K22
  refine C_of ?_ ha56
  replace h_x := Sl.tr h_x hr5; replace hK := Tt hK hr5; replace hB := Bx hB hr5; replace hA := hr5.new; replace hH := hH15
  obtain ⟨x16, h17, h18⟩ := K22
  refine C_seq (Sr (Mm (Mm (Vy (Y_lss rfl rfl) (To ?_)))))
  refine Cc (fun hc23 => ?_) fun hc23 => ?_
  ·rw [if_pos hc23] at h17
   refine Sk ?_
   obtain ⟨s25, ho24, h17⟩ := Bs h17
   refine C_cutG (ι := (Nat → Prop)) (fun (A30 : (Nat → Prop)) => [(0, v_x), (1, Ii target), (2, .func (.func cmp_f) cmp_a cmp_c), (8, Ii (x.length : Int)), (9, Ii s25.1), (10, Ii s25.2)]) (fun (A30 : (Nat → Prop)) => fun w' => Hp w.heap.size A30 w' ([]) ∧ Tr Dw w.heap.size A14 w13 A30 w') ?_ ?_
   ·have hr26 : Tr Dw w.heap.size A14 w13 A14 w13 := Tr.refl (Dw := Dw) hA
    refine C_block (Sr (Mm (Mm (Vy (Y_addI rfl rfl) (Vy (Y_convI underlying3 underlying224 rfl) ?_)))))
    obtain ⟨x32, hx32, ho24⟩ := Bs ho24
    refine Vy (Y_shr hx32 rfl rfl) (Vy (Y_convI underlying224 underlying3 rfl) (As (To ?_)))
    refine Sr (Mm (Mm (Mm ?_)))
    obtain ⟨x33, hx33, ho24⟩ := Bs ho24
    refine V_indexAddr h_x hx33 underlying66 sizeOf78 rfl rfl rfl ?_
    intro b34 o35 h36
    obtain ⟨v37, h39, h38⟩ := El_cal_Special h36
    refine Vy (Y_loadA h39 isAgg78 sizeOf78 rfl) (Mm ?_)
    obtain ⟨x40, hx40, ho24⟩ := Bs ho24
    refine Vc cmp_call (cmp_spec w13 _ hK hA x33 v37 h38 target _ hx40) ?_
    rintro _ w41 ⟨rfl, hk42⟩
    have ht43 := Kp.tr hk42 hA hB; replace hH := Hp.kp hH hk42; replace hr26 := Tt hr26 ht43
    refine Vy (Y_lss rfl rfl) (To ?_)
    obtain ⟨s45, ho44, ho24⟩ := Bs ho24
    refine C_cutG (ι := Unit) (fun (_ : Unit) => [(0, v_x), (1, Ii target), (2, .func (.func cmp_f) cmp_a cmp_c), (8, Ii (x.length : Int)), (9, Ii s45.1), (10, Ii s45.2)]) (fun (_ : Unit) => fun w' => w41 = w') ?_ ?_
    ·refine Cc (fun hc50 => ?_) fun hc50 => ?_
     ·rw [if_pos hc50] at ho44
      refine C_region (Mm (Vy (Y_addI rfl rfl) (As ?_)))
      obtain rfl := Oi ho44
      refine V_end (fun a ha51 => ?_)
      exact ⟨(), ha51.sb, rfl⟩
     rw [if_neg (nt hc50)] at ho44
     refine C_region (Mm (As ?_))
     obtain rfl := Oi ho44
     refine V_end (fun a ha52 => ?_)
     exact ⟨(), ha52.sb, rfl⟩
    rintro _ _ rfl a ha49
    obtain rfl := Oi ho24
    exact ⟨A14, ha49.sb, ⟨hH, hr26⟩⟩
   rintro A30 w27 ⟨hH31, hk28⟩ a ha29
   replace hr5 := Tr.trans hr5 hk28; replace hA := hk28.new; replace hH := hH31
   obtain rfl := Oi h17
   exact ⟨(s25.1, s25.2), h18, ⟨A30, ha29.sb, ⟨hH, hr5⟩⟩⟩
  rw [if_neg (nt hc23)] at h17
  obtain rfl := Oi h17
  refine C_exit (fun a ha55 => ?_)
  exact ⟨((s12.1, s12.2), A14), ha55.sb, ⟨h18.symm, hH, hr5⟩⟩
 rintro ⟨s4, A10⟩ w7 ⟨rfl, hH11, hk8⟩ a ha9
 rw [Lp.andThen_fin] at hm
 replace h_x := Sl.tr h_x hk8; replace hK := Tr.trans hK hk8; replace hB := Nat.le_trans hB hk8.ex.size; replace hA := hk8.new; replace hH := hH11
 refine C_at (n := ⟨49, [], none⟩) (fun _ _ => rfl) ?_ ha9
 refine C_seq ?_
 obtain ⟨s58, ho57, hm⟩ := Bs hm
 refine C_cutG (ι := (Nat → Prop)) (fun (A63 : (Nat → Prop)) => [(6, Ii s58.1), (7, .bool s58.2)]) (fun (A63 : (Nat → Prop)) => fun w' => Hp w.heap.size A63 w' ([]) ∧ Tr Dw w.heap.size A10 w7 A63 w') ?_ ?_
 ·have hr59 : Tr Dw w.heap.size A10 w7 A10 w7 := Tr.refl (Dw := Dw) hA
  refine C_region (Mm (Mm (Mm (Vy (Y_lss rfl rfl) (Mm ?_)))))
  rcases Be (decide (s4.1 < (x.length : Int))) with hc65 | hc65
  ·rw [if_pos hc65] at ho57
   refine Gf hc65 (Mm (Gf hc65 (Mm (Gf hc65 (Mm (Gf hc65 ?_))))))
   obtain ⟨x66, hx66, ho57⟩ := Bs ho57
   refine V_indexAddr h_x hx66 underlying66 sizeOf78 rfl rfl rfl ?_
   intro b67 o68 h69
   refine Gf hc65 ?_
   obtain ⟨v70, h72, h71⟩ := El_cal_Special h69
   refine Vy (Y_loadA h72 isAgg78 sizeOf78 rfl) (Gf hc65 (Mm (Gf hc65 ?_)))
   obtain ⟨x73, hx73, ho57⟩ := Bs ho57
   refine Vc cmp_call (cmp_spec w7 _ hK hA x66 v70 h71 target _ hx73) ?_
   rintro _ w74 ⟨rfl, hk75⟩
   have ht76 := Kp.tr hk75 hA hB; replace hH := Hp.kp hH hk75; replace hr59 := Tt hr59 ht76
   refine Gf hc65 (Vy (Y_eql rfl rfl) (Vy (Y_pick_te rfl hc65 rfl) (As (As ?_))))
   obtain rfl := Oi ho57
   refine V_end (fun a ha77 => ?_)
   exact ⟨A10, ha77.sb, ⟨hH, hr59⟩⟩
  rw [if_neg (nt hc65)] at ho57
  refine Gm hc65 (Gm hc65 (Gm hc65 (Gm hc65 (Gm hc65 (Gm hc65 (Gm hc65 (Gm hc65 (Vy (Y_pick_fe rfl hc65 rfl) (As ?_)))))))))
  refine As ?_
  obtain rfl := Oi ho57
  refine V_end (fun a ha78 => ?_)
  exact ⟨A10, ha78.sb, ⟨hH, hr59⟩⟩
 rintro A63 w60 ⟨hH64, hk61⟩ a ha62
 replace hK := Tr.trans hK hk61; replace hA := hk61.new; replace hH := hH64
 refine C_at (n := ⟨49, [], none⟩) (fun _ _ => rfl) ?_ ha62
 obtain rfl := Oi hm
 refine Rt (Res.two results180 rfl rfl) ?_
 exact ⟨rfl, hK.kp⟩
theorem cal_Calendar_shiftsOf_1_c (w : World) {A : Nat → Prop} (hA : ∀ b, w.heap.size ≤ b → A b) (s : cal_Special) (v_s : Value) (h_s : Sl A w v_s s.shifts) (d : Int) {r : Int} (hm : cal_Calendar_shiftsOf_1 s d = some r) : Ret prog 181 #[.agg #[Ii s.day, v_s], Ii d] w fun v w' => v = Ii r ∧ Kp Dw w w' := by
 unfold cal_Calendar_shiftsOf_1 at hm
 refine enter func181 rfl ntmps181 rfl ?_
 have hA0 := hA
 obtain ⟨hB, hK, hH⟩ := St (Dw := Dw) hA
 refine Sr ?_
 refine V_box rfl rfl ?_
 intro b3 w4 h5
 have hk7 := h5.kp (Dw := Dw)
 have h6 : El (α := cal_Special) A w4 b3 0 s := h5.el hA ⟨[Ii s.day], _, rfl, rfl, ⟨_, rfl, h_s⟩⟩
 have ht8 := Kp.tr hk7 hA hB; replace hK := Tt hK ht8
 refine As (To ?_)
 refine Sr ?_
 have h9 := El_cal_Special_0 h6
 refine Fa underlying78 rfl sizeOf3 (Li h9 isAgg3 (Mm ?_))
 refine Vc call75 (cmp_Compare_int_c w4 s.day d) ?_
 rintro _ _ ⟨rfl, rfl⟩
 refine As (To ?_)
 obtain rfl := Oi hm
 refine Rt (Res.one results181 rfl) ?_
 exact ⟨rfl, hK.kp⟩
theorem slices_Clone_Lcal_Shift_cal_Shift_c (w : World) {A : Nat → Prop} (hA : ∀ b, w.heap.size ≤ b → A b) (s : (List cal_Shift)) (v_s : Value) (h_s : Sl A w v_s s) {r : (List cal_Shift)} (hm : slices_Clone_Lcal_Shift_cal_Shift s = some r) : Ret prog 182 #[v_s] w fun v w' => ∃ s0, v = s0 ∧ Ownd 75 w w' s0 r ∧ Kp Dw w w' := by
 unfold slices_Clone_Lcal_Shift_cal_Shift at hm
 refine enter func182 rfl ntmps182 rfl ?_
 have hA0 := hA
 obtain ⟨hB, hK, hH⟩ := St (Dw := Dw) hA
 rcases Sl.split h_s with ⟨rfl, rfl⟩ | ⟨a0, n0, c0, rfl⟩
 ·replace hm : some ([] : (List cal_Shift)) = some r := by simpa [appendL] using hm
  refine Sr (As (To ?_))
  refine C_seq (Sr (Mm (Vy (Y_eqlNilT rfl rfl underlying65) (To ?_))))
  refine Cc (fun hc => ?_) fun hc => ?_
  ·refine Sr (As (To ?_))
   obtain rfl := Oi hm
   replace hH : Hp w.heap.size A w (o_75 (.slice none 0 0) ([] : (List cal_Shift)) :: []) := Hp.addNil (α := cal_Shift) (e := 75) hH
   refine Rt (Res.one results182 rfl) ?_
   exact ⟨.slice none 0 0, rfl, (Hp.ownd hH (i := 0) rfl), hK.kp⟩
  exact absurd hc (by decide)
 refine Sr (As (To ?_))
 refine C_seq (Sr (Mm (Vy (Y_eqlNilF rfl rfl underlying65) (To ?_))))
 refine Cc (fun hc => ?_) fun hc => ?_
 ·exact absurd hc (by decide)
 refine Sk ?_
 refine Sr ?_
 refine V_buildOwn0H (Dw := Dw) (α := cal_Shift) hH underlying65 sizeOf75 hB hA rfl ?_
 intro v3 w4 A5 hH6 ht7
 replace h_s := Sl.tr h_s ht7; replace hK := Tt hK ht7; replace hB := Bx hB ht7; replace hA := ht7.new
 replace hH : Hp _ _ _ (o_75 v3 ([] : List cal_Shift) :: []) := hH6
 refine Mm ?_
 obtain ⟨x8, hx8, hm⟩ := Bs hm
 refine V_appendH (Dw := Dw) (e := 75) (v := v3) (l := ([] : List cal_Shift)) (ti := t75) (bytes := 24) (lim := 5864062014805) hH (i := 0) rfl h_s hx8 underlying65 Tryz_info75 rfl rfl rfl rfl (by decide) (by decide) (by decide) hB hA rfl rfl rfl ?_
 intro v9 w10 A11 hH12 ht13
 replace hK := Tt hK ht13
 replace hH : Hp _ _ _ (o_75 v9 x8 :: []) := hH12
 refine As (To ?_)
 obtain rfl := Oi hm
 refine Rt (Res.one results182 rfl) ?_
 exact ⟨v9, rfl, (Hp.ownd hH (i := 0) rfl), hK.kp⟩
end Go.Proofs.YtfbnaobiondblaaGreatDoor.W
