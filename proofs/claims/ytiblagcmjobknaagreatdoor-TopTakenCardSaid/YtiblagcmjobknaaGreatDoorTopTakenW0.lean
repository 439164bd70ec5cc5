import Derived.Test.YtiblagcmjobknaaGreatDoorProg
import Derived.Test.YtiblagcmjobknaaGreatDoorGe
import Derived.Test.YtiblagcmjobknaaGreatDoorTopTakenM
import Derived.KernelRfl
import Derived.Test.YtiblagcmjobknaaGreatDoorSq
import Derived.Test.YtiblagcmjobknaaGreatDoorHw
import Derived.Test.YtiblagcmjobknaaGreatDoorHq
import Derived.Test.YtiblagcmjobknaaGreatDoorIa
import Derived.Test.YtiblagcmjobknaaGreatDoorSz
import Derived.Test.YtiblagcmjobknaaGreatDoorHx
import Derived.Test.YtiblagcmjobknaaGreatDoorIf
import Derived.Test.YtiblagcmjobknaaGreatDoorIg
import Derived.Shelf.Strings.Search2
import Derived.Shelf.Strings.Split
import Derived.Test.YtiblagcmjobknaaGreatDoorGi
import Derived.Test.YtiblagcmjobknaaGreatDoorHa
import Derived.Test.YtiblagcmjobknaaGreatDoorGg
import Derived.Test.YtiblagcmjobknaaGreatDoorHi
import Derived.Test.YtiblagcmjobknaaGreatDoorGp
import Derived.Test.YtiblagcmjobknaaGreatDoorGv
import Derived.Test.YtiblagcmjobknaaGreatDoorHe
namespace Go.Proofs.YtiblagcmjobknaaGreatDoor.W
open Go Go.RowKit Go.Pu Go.Gw Go.Proofs Go.Proofs.YtiblagcmjobknaaGreatDoor.M
set_option linter.unusedVariables false
set_option linter.unusedSimpArgs false
variable {Dw : Prop}
set_option maxHeartbeats 4000000
set_option maxRecDepth 4000
open Tryz
variable {A : Nat → Prop} {w : World} {b off : Nat}
def zbc : (Nat → Prop) → World → Prop := fun A w => Tb Tryz.prog A w ∧ Mx Tryz.prog 0 A w ∧ Er Tryz.prog 1 A w ∧ Er Tryz.prog 2 A w
instance : Keeps zbc := ⟨fun h hh hs => ⟨Keeps.to (R := Tb Tryz.prog) ((h).1) hh hs, Keeps.to (R := Mx Tryz.prog 0) ((h).2.1) hh hs, Keeps.to (R := Er Tryz.prog 1) ((h).2.2.1) hh hs, Keeps.to (R := Er Tryz.prog 2) ((h).2.2.2) hh hs⟩⟩
theorem QY : Tryz.prog.info? 3 = some Tryz.t3 := by kernel_rfl
theorem jV : Tryz.prog.info? 4 = some Tryz.t4 := by kernel_rfl
theorem zap : Tryz.prog.info? 38 = some Tryz.t38 := by kernel_rfl
theorem jb : Tryz.prog.info? 46 = some Tryz.t46 := by kernel_rfl
theorem zeP : Tryz.prog.info? 61 = some Tryz.t61 := by kernel_rfl
theorem zeW : Tryz.prog.info? 64 = some Tryz.t64 := by kernel_rfl
theorem zif : Tryz.prog.info? 71 = some Tryz.t71 := by kernel_rfl
theorem zio : Tryz.prog.info? 74 = some Tryz.t74 := by kernel_rfl
theorem zeO : Tryz.prog.info? 77 = some Tryz.t77 := by kernel_rfl
theorem zil : Tryz.prog.info? 80 = some Tryz.t80 := by kernel_rfl
theorem zit : Tryz.prog.info? 83 = some Tryz.t83 := by kernel_rfl
theorem zhR : Tryz.prog.info? 204 = some Tryz.t204 := by kernel_rfl
theorem zgR : ∀ fs, Tryz.prog.underlying 46 = some (.struct fs) → ∀ w : World, (Array.mapM (fun (f : Field) => do pure (f.offset, ← Go.sizeOf f.type)) fs).run Tryz.prog w = .ok #[(0, 1), (1, 1), (2, 1), (3, 1)] w := by
  intro fs h w
  rw [Tryz.underlying46] at h
  cases h
  kernel_rfl
theorem zgV : ∀ fs, Tryz.prog.underlying 58 = some (.struct fs) → ∀ w : World, (Array.mapM (fun (f : Field) => do pure (f.offset, ← Go.sizeOf f.type)) fs).run Tryz.prog w = .ok #[(0, 4), (4, 1), (5, 1), (6, 1), (7, 1)] w := by
  intro fs h w
  rw [Tryz.underlying58] at h
  cases h
  kernel_rfl
theorem zhd : ∀ fs, Tryz.prog.underlying 77 = some (.struct fs) → ∀ w : World, (Array.mapM (fun (f : Field) => do pure (f.offset, ← Go.sizeOf f.type)) fs).run Tryz.prog w = .ok #[(0, 1), (1, 1), (2, 1)] w := by
  intro fs h w
  rw [Tryz.underlying77] at h
  cases h
  kernel_rfl
theorem zgb : ∀ fs, Tryz.prog.underlying 184 = some (.struct fs) → ∀ w : World, (Array.mapM (fun (f : Field) => do pure (f.offset, ← Go.sizeOf f.type)) fs).run Tryz.prog w = .ok #[(0, 1), (1, 1), (2, 1), (3, 1)] w := by
  intro fs h w
  rw [Tryz.underlying184] at h
  cases h
  kernel_rfl
theorem zdl : ∀ fs, Tryz.prog.underlying 189 = some (.struct fs) → ∀ w : World, (Array.mapM (fun (f : Field) => do pure (f.offset, ← Go.sizeOf f.type)) fs).run Tryz.prog w = .ok #[(0, 1), (1, 1)] w := by
  intro fs h w
  rw [Tryz.underlying189] at h
  cases h
  kernel_rfl
theorem zdi : ∀ fs, Tryz.prog.underlying 204 = some (.struct fs) → ∀ w : World, (Array.mapM (fun (f : Field) => do pure (f.offset, ← Go.sizeOf f.type)) fs).run Tryz.prog w = .ok #[(0, 1), (1, 1), (2, 1)] w := by
  intro fs h w
  rw [Tryz.underlying204] at h
  cases h
  kernel_rfl
set_option maxHeartbeats 2000000 in
theorem zfd (a0 : Int) (a1 : Int) (a2 : Int) (a3 : Int) (b0 : Int) (b1 : Int) (b2 : Int) (b3 : Int) (w : World) : (Op.equalIn 10000 46 (.agg #[.int .i64 a0, .int .i64 a1, .int .i64 a2, .int .i64 a3]) (.agg #[.int .i64 b0, .int .i64 b1, .int .i64 b2, .int .i64 b3])).run Tryz.prog w = .ok (a0 == b0 && (a1 == b1 && (a2 == b2 && (a3 == b3)))) w := by
  refine (run_equalIn_struct w 9999 46 _ _ (by kernel_rfl) (by kernel_rfl)).trans ?_
  rw [show Tryz.prog.fieldsOf 46 = _ from by unfold Program.fieldsOf; rw [Tryz.underlying46]]
  cases h0 : (a0 == b0) <;> cases h1 : (a1 == b1) <;> cases h2 : (a2 == b2) <;> cases h3 : (a3 == b3) <;> simp_all [Op.eqFields, part, ja, Tryz.isAgg3, run_equalIn_int _ _ _ _ _ _ _ Tryz.underlying3]
theorem ziZ : Tryz.prog.eqGuardType Tryz.prog.depth 46 = false := by kernel_rfl
theorem zH : Tryz.prog.follows .mixedOrders = true := by kernel_rfl
instance : GoT zi := GoT.of (β := ByteArray × Int) fun x => (x.name, x.rank)
instance : Flat zi := ⟨fun {A w A1 w1 cs x} h => Flat.flat (α := ByteArray × Int) (x := (x.name, x.rank)) (A := A) (w := w) h⟩
theorem zcn {A : Nat → Prop} {w : World} {b off : Nat} {x : zi} (h : El A w b off x) : El (α := ByteArray × Int) A w b off (x.name, x.rank) := h
theorem jM {A : Nat → Prop} {w : World} {b off : Nat} {x : zi} (h : El A w b off x) : El A w b (off + 0) x.name := El.fst (zcn h)
theorem zau {A : Nat → Prop} {w : World} {b off : Nat} {x : zi} (h : El A w b off x) : El A w b (off + 1) x.rank := El.snd (zcn h)
theorem zal {A : Nat → Prop} {w : World} {b off : Nat} {x : zi} (h : El A w b off x) : At w b off [.string x.name, .int .i64 x.rank] ∧ True := by
  obtain ⟨h1, h2, cs, h3, h4⟩ := h
  obtain ⟨_, _, rfl, rfl, rfl⟩ := h3
  exact ⟨h4, trivial⟩
instance : GoT zd := GoT.of (β := Int × Int × Int × (List zi)) fun x => (x.no, x.capacity, x.calendar, x.skills)
theorem JF {A : Nat → Prop} {w : World} {b off : Nat} {x : zd} (h : El A w b off x) : El (α := Int × Int × Int × (List zi)) A w b off (x.no, x.capacity, x.calendar, x.skills) := h
theorem ZB {A : Nat → Prop} {w : World} {b off : Nat} {x : zd} (h : El A w b off x) : El A w b (off + 0) x.no := El.fst (JF h)
theorem qN {A : Nat → Prop} {w : World} {b off : Nat} {x : zd} (h : El A w b off x) : El A w b (off + 1) x.capacity := El.fst (El.snd (JF h))
theorem ju {A : Nat → Prop} {w : World} {b off : Nat} {x : zd} (h : El A w b off x) : El A w b (off + 2) x.calendar := El.fst (El.snd (El.snd (JF h)))
theorem Jm {A : Nat → Prop} {w : World} {b off : Nat} {x : zd} (h : El A w b off x) : El A w b (off + 3) x.skills := El.snd (El.snd (El.snd (JF h)))
theorem Zo {A : Nat → Prop} {w : World} {b off : Nat} {x : zd} (h : El A w b off x) : ∃ v1, At w b off [.int .i64 x.no, .int .i64 x.capacity, .int .i64 x.calendar, v1] ∧ Sl A w v1 x.skills := by
  obtain ⟨h1, h2, cs, h3, h4⟩ := h
  obtain ⟨_, _, rfl, rfl, ⟨_, _, rfl, rfl, ⟨_, _, rfl, rfl, ⟨u1, rfl, g1⟩⟩⟩⟩ := h3
  exact ⟨u1, h4, g1⟩
instance : GoT zU := GoT.of (β := Int × Int) fun x => (x.at_, x.offset)
instance : Flat zU := ⟨fun {A w A1 w1 cs x} h => Flat.flat (α := Int × Int) (x := (x.at_, x.offset)) (A := A) (w := w) h⟩
theorem zdk {A : Nat → Prop} {w : World} {b off : Nat} {x : zU} (h : El A w b off x) : El (α := Int × Int) A w b off (x.at_, x.offset) := h
theorem jW {A : Nat → Prop} {w : World} {b off : Nat} {x : zU} (h : El A w b off x) : El A w b (off + 0) x.at_ := El.fst (zdk h)
theorem JW {A : Nat → Prop} {w : World} {b off : Nat} {x : zU} (h : El A w b off x) : El A w b (off + 1) x.offset := El.snd (zdk h)
theorem zdO {A : Nat → Prop} {w : World} {b off : Nat} {x : zU} (h : El A w b off x) : At w b off [.int .i64 x.at_, .int .i64 x.offset] ∧ True := by
  obtain ⟨h1, h2, cs, h3, h4⟩ := h
  obtain ⟨_, _, rfl, rfl, rfl⟩ := h3
  exact ⟨h4, trivial⟩
instance : GoT Zc := GoT.of (β := Int × (List zU)) fun x => (x.offset, x.changes)
theorem zdY {A : Nat → Prop} {w : World} {b off : Nat} {x : Zc} (h : El A w b off x) : El (α := Int × (List zU)) A w b off (x.offset, x.changes) := h
theorem zbu {A : Nat → Prop} {w : World} {b off : Nat} {x : Zc} (h : El A w b off x) : El A w b (off + 0) x.offset := El.fst (zdY h)
theorem zbx {A : Nat → Prop} {w : World} {b off : Nat} {x : Zc} (h : El A w b off x) : El A w b (off + 1) x.changes := El.snd (zdY h)
theorem zeL {A : Nat → Prop} {w : World} {b off : Nat} {x : Zc} (h : El A w b off x) : ∃ v1, At w b off [.int .i64 x.offset, v1] ∧ Sl A w v1 x.changes := by
  obtain ⟨h1, h2, cs, h3, h4⟩ := h
  obtain ⟨_, _, rfl, rfl, ⟨u1, rfl, g1⟩⟩ := h3
  exact ⟨u1, h4, g1⟩
instance : GoT zp := GoT.of (β := Int × Int × Int) fun x => (x.day, x.from_, x.to_)
instance : Flat zp := ⟨fun {A w A1 w1 cs x} h => Flat.flat (α := Int × Int × Int) (x := (x.day, x.from_, x.to_)) (A := A) (w := w) h⟩
theorem zby {A : Nat → Prop} {w : World} {b off : Nat} {x : zp} (h : El A w b off x) : El (α := Int × Int × Int) A w b off (x.day, x.from_, x.to_) := h
theorem Ju {A : Nat → Prop} {w : World} {b off : Nat} {x : zp} (h : El A w b off x) : El A w b (off + 0) x.day := El.fst (zby h)
theorem QV {A : Nat → Prop} {w : World} {b off : Nat} {x : zp} (h : El A w b off x) : El A w b (off + 1) x.from_ := El.fst (El.snd (zby h))
theorem jB {A : Nat → Prop} {w : World} {b off : Nat} {x : zp} (h : El A w b off x) : El A w b (off + 2) x.to_ := El.snd (El.snd (zby h))
theorem zae {A : Nat → Prop} {w : World} {b off : Nat} {x : zp} (h : El A w b off x) : At w b off [.int .i64 x.day, .int .i64 x.from_, .int .i64 x.to_] ∧ True := by
  obtain ⟨h1, h2, cs, h3, h4⟩ := h
  obtain ⟨_, _, rfl, rfl, ⟨_, _, rfl, rfl, rfl⟩⟩ := h3
  exact ⟨h4, trivial⟩
instance : GoT zC := GoT.of (β := Int × (List zp)) fun x => (x.day, x.shifts)
theorem zcE {A : Nat → Prop} {w : World} {b off : Nat} {x : zC} (h : El A w b off x) : El (α := Int × (List zp)) A w b off (x.day, x.shifts) := h
theorem JD {A : Nat → Prop} {w : World} {b off : Nat} {x : zC} (h : El A w b off x) : El A w b (off + 0) x.day := El.fst (zcE h)
theorem jF {A : Nat → Prop} {w : World} {b off : Nat} {x : zC} (h : El A w b off x) : El A w b (off + 1) x.shifts := El.snd (zcE h)
theorem zbe {A : Nat → Prop} {w : World} {b off : Nat} {x : zC} (h : El A w b off x) : ∃ v1, At w b off [.int .i64 x.day, v1] ∧ Sl A w v1 x.shifts := by
  obtain ⟨h1, h2, cs, h3, h4⟩ := h
  obtain ⟨_, _, rfl, rfl, ⟨u1, rfl, g1⟩⟩ := h3
  exact ⟨u1, h4, g1⟩
instance : GoT zg := GoT.of (β := Zc × (List zp) × (List zC)) fun x => (x.zone, x.week, x.specials)
theorem zaw {A : Nat → Prop} {w : World} {b off : Nat} {x : zg} (h : El A w b off x) : El (α := Zc × (List zp) × (List zC)) A w b off (x.zone, x.week, x.specials) := h
theorem zbG {A : Nat → Prop} {w : World} {b off : Nat} {x : zg} (h : El A w b off x) : El A w b (off + 0) x.zone := El.fst (zaw h)
theorem zao {A : Nat → Prop} {w : World} {b off : Nat} {x : zg} (h : El A w b off x) : El A w b (off + 2) x.week := El.fst (El.snd (zaw h))
theorem js {A : Nat → Prop} {w : World} {b off : Nat} {x : zg} (h : El A w b off x) : El A w b (off + 3) x.specials := El.snd (El.snd (zaw h))
theorem Zg {A : Nat → Prop} {w : World} {b off : Nat} {x : zg} (h : El A w b off x) : ∃ v1 v3 v5, At w b off [.int .i64 x.zone.offset, v1, v3, v5] ∧ Sl A w v1 x.zone.changes ∧ Sl A w v3 x.week ∧ Sl A w v5 x.specials := by
  obtain ⟨h1, h2, cs, h3, h4⟩ := h
  obtain ⟨_, _, rfl, ⟨_, _, rfl, rfl, ⟨u1, rfl, g1⟩⟩, ⟨_, _, rfl, ⟨u2, rfl, g2⟩, ⟨u3, rfl, g3⟩⟩⟩ := h3
  exact ⟨u1, u2, u3, h4, g1, g2, g3⟩
instance : GoT zk := GoT.of (β := Int × Int × Bool) fun x => (x.after, x.lower, x.any)
instance : Flat zk := ⟨fun {A w A1 w1 cs x} h => Flat.flat (α := Int × Int × Bool) (x := (x.after, x.lower, x.any)) (A := A) (w := w) h⟩
theorem zba {A : Nat → Prop} {w : World} {b off : Nat} {x : zk} (h : El A w b off x) : El (α := Int × Int × Bool) A w b off (x.after, x.lower, x.any) := h
theorem Je {A : Nat → Prop} {w : World} {b off : Nat} {x : zk} (h : El A w b off x) : El A w b (off + 0) x.after := El.fst (zba h)
theorem zcB {A : Nat → Prop} {w : World} {b off : Nat} {x : zk} (h : El A w b off x) : El A w b (off + 1) x.lower := El.fst (El.snd (zba h))
theorem zfF {A : Nat → Prop} {w : World} {b off : Nat} {x : zk} (h : El A w b off x) : El A w b (off + 2) x.any := El.snd (El.snd (zba h))
theorem zdS {A : Nat → Prop} {w : World} {b off : Nat} {x : zk} (h : El A w b off x) : At w b off [.int .i64 x.after, .int .i64 x.lower, .bool x.any] ∧ True := by
  obtain ⟨h1, h2, cs, h3, h4⟩ := h
  obtain ⟨_, _, rfl, rfl, ⟨_, _, rfl, rfl, rfl⟩⟩ := h3
  exact ⟨h4, trivial⟩
instance : GoT Zr := GoT.of (β := (List zd) × (List zg) × (List zk) × (List Bool)) fun x => (x.people, x.cals, x.steps, x.away)
instance : GoT za := GoT.of (β := Int × Int × Int × Int × Int × (List zi)) fun x => (x.ticket, x.weight, x.urgency, x.since, x.former, x.needs)
theorem jE {A : Nat → Prop} {w : World} {b off : Nat} {x : za} (h : El A w b off x) : El (α := Int × Int × Int × Int × Int × (List zi)) A w b off (x.ticket, x.weight, x.urgency, x.since, x.former, x.needs) := h
theorem qR {A : Nat → Prop} {w : World} {b off : Nat} {x : za} (h : El A w b off x) : El A w b (off + 0) x.ticket := El.fst (jE h)
theorem Jc {A : Nat → Prop} {w : World} {b off : Nat} {x : za} (h : El A w b off x) : El A w b (off + 1) x.weight := El.fst (El.snd (jE h))
theorem zaO {A : Nat → Prop} {w : World} {b off : Nat} {x : za} (h : El A w b off x) : El A w b (off + 2) x.urgency := El.fst (El.snd (El.snd (jE h)))
theorem Ja {A : Nat → Prop} {w : World} {b off : Nat} {x : za} (h : El A w b off x) : El A w b (off + 3) x.since := El.fst (El.snd (El.snd (El.snd (jE h))))
theorem zcw {A : Nat → Prop} {w : World} {b off : Nat} {x : za} (h : El A w b off x) : El A w b (off + 4) x.former := El.fst (El.snd (El.snd (El.snd (El.snd (jE h)))))
theorem jZ {A : Nat → Prop} {w : World} {b off : Nat} {x : za} (h : El A w b off x) : El A w b (off + 5) x.needs := El.snd (El.snd (El.snd (El.snd (El.snd (jE h)))))
theorem Zt {A : Nat → Prop} {w : World} {b off : Nat} {x : za} (h : El A w b off x) : ∃ v1, At w b off [.int .i64 x.ticket, .int .i64 x.weight, .int .i64 x.urgency, .int .i64 x.since, .int .i64 x.former, v1] ∧ Sl A w v1 x.needs := by
  obtain ⟨h1, h2, cs, h3, h4⟩ := h
  obtain ⟨_, _, rfl, rfl, ⟨_, _, rfl, rfl, ⟨_, _, rfl, rfl, ⟨_, _, rfl, rfl, ⟨_, _, rfl, rfl, ⟨u1, rfl, g1⟩⟩⟩⟩⟩⟩ := h3
  exact ⟨u1, h4, g1⟩
theorem zak {A : Nat → Prop} {w : World} {cs : List Value} {x : za} (h : GoT.rep A w cs x) : ∃ v1, cs = [.int .i64 x.ticket, .int .i64 x.weight, .int .i64 x.urgency, .int .i64 x.since, .int .i64 x.former, v1] ∧ Sl A w v1 x.needs := by
  obtain ⟨_, _, rfl, rfl, ⟨_, _, rfl, rfl, ⟨_, _, rfl, rfl, ⟨_, _, rfl, rfl, ⟨_, _, rfl, rfl, ⟨u1, rfl, g1⟩⟩⟩⟩⟩⟩ := h
  exact ⟨u1, rfl, g1⟩
instance : GoT zb := GoT.of (β := Int × Int × Int × Int) fun x => (x.ticket, x.person, x.weight, x.since)
instance : Flat zb := ⟨fun {A w A1 w1 cs x} h => Flat.flat (α := Int × Int × Int × Int) (x := (x.ticket, x.person, x.weight, x.since)) (A := A) (w := w) h⟩
theorem zah {A : Nat → Prop} {w : World} {b off : Nat} {x : zb} (h : El A w b off x) : El (α := Int × Int × Int × Int) A w b off (x.ticket, x.person, x.weight, x.since) := h
theorem qv {A : Nat → Prop} {w : World} {b off : Nat} {x : zb} (h : El A w b off x) : El A w b (off + 0) x.ticket := El.fst (zah h)
theorem jk {A : Nat → Prop} {w : World} {b off : Nat} {x : zb} (h : El A w b off x) : El A w b (off + 1) x.person := El.fst (El.snd (zah h))
theorem zaP {A : Nat → Prop} {w : World} {b off : Nat} {x : zb} (h : El A w b off x) : El A w b (off + 2) x.weight := El.fst (El.snd (El.snd (zah h)))
theorem JX {A : Nat → Prop} {w : World} {b off : Nat} {x : zb} (h : El A w b off x) : El A w b (off + 3) x.since := El.snd (El.snd (El.snd (zah h)))
theorem qd {A : Nat → Prop} {w : World} {b off : Nat} {x : zb} (h : El A w b off x) : At w b off [.int .i64 x.ticket, .int .i64 x.person, .int .i64 x.weight, .int .i64 x.since] ∧ True := by
  obtain ⟨h1, h2, cs, h3, h4⟩ := h
  obtain ⟨_, _, rfl, rfl, ⟨_, _, rfl, rfl, ⟨_, _, rfl, rfl, rfl⟩⟩⟩ := h3
  exact ⟨h4, trivial⟩
theorem zdh {A : Nat → Prop} {w : World} {cs : List Value} {x : zb} (h : GoT.rep A w cs x) : cs = [.int .i64 x.ticket, .int .i64 x.person, .int .i64 x.weight, .int .i64 x.since] ∧ True := by
  obtain ⟨_, _, rfl, rfl, ⟨_, _, rfl, rfl, ⟨_, _, rfl, rfl, rfl⟩⟩⟩ := h
  exact ⟨rfl, trivial⟩
instance : GoT ze := GoT.of (β := Zr × Int × (List za) × (List zb) × (List (Int × za))) fun x => (x.assigner, x.now, x.waiting, x.held, x.work)
instance : GoT zT := GoT.of (β := (List zd) × (List Bool) × (List Int) × (List Int)) fun x => (x.people, x.duty, x.weights, x.latest)
theorem zan {A : Nat → Prop} {w : World} {b off : Nat} {x : zT} (h : El A w b off x) : El (α := (List zd) × (List Bool) × (List Int) × (List Int)) A w b off (x.people, x.duty, x.weights, x.latest) := h
theorem zaR {A : Nat → Prop} {w : World} {b off : Nat} {x : zT} (h : El A w b off x) : El A w b (off + 0) x.people := El.fst (zan h)
theorem zfh {A : Nat → Prop} {w : World} {b off : Nat} {x : zT} (h : El A w b off x) : El A w b (off + 1) x.duty := El.fst (El.snd (zan h))
theorem zaG {A : Nat → Prop} {w : World} {b off : Nat} {x : zT} (h : El A w b off x) : El A w b (off + 2) x.weights := El.fst (El.snd (El.snd (zan h)))
theorem zcp {A : Nat → Prop} {w : World} {b off : Nat} {x : zT} (h : El A w b off x) : El A w b (off + 3) x.latest := El.snd (El.snd (El.snd (zan h)))
instance : GoT zr := GoT.of (β := Int × Int) fun x => (x.from_, x.to_)
instance : Flat zr := ⟨fun {A w A1 w1 cs x} h => Flat.flat (α := Int × Int) (x := (x.from_, x.to_)) (A := A) (w := w) h⟩
theorem zeu {A : Nat → Prop} {w : World} {b off : Nat} {x : zr} (h : El A w b off x) : El (α := Int × Int) A w b off (x.from_, x.to_) := h
theorem zat {A : Nat → Prop} {w : World} {b off : Nat} {x : zr} (h : El A w b off x) : El A w b (off + 0) x.from_ := El.fst (zeu h)
theorem zbz {A : Nat → Prop} {w : World} {b off : Nat} {x : zr} (h : El A w b off x) : El A w b (off + 1) x.to_ := El.snd (zeu h)
theorem zcJ {A : Nat → Prop} {w : World} {b off : Nat} {x : zr} (h : El A w b off x) : At w b off [.int .i64 x.from_, .int .i64 x.to_] ∧ True := by
  obtain ⟨h1, h2, cs, h3, h4⟩ := h
  obtain ⟨_, _, rfl, rfl, rfl⟩ := h3
  exact ⟨h4, trivial⟩
instance : GoT zO := GoT.of (β := Int × Int × Int) fun x => (x.from_, x.to_, x.offset)
instance : Flat zO := ⟨fun {A w A1 w1 cs x} h => Flat.flat (α := Int × Int × Int) (x := (x.from_, x.to_, x.offset)) (A := A) (w := w) h⟩
theorem zbV {A : Nat → Prop} {w : World} {b off : Nat} {x : zO} (h : El A w b off x) : El (α := Int × Int × Int) A w b off (x.from_, x.to_, x.offset) := h
theorem zgT {A : Nat → Prop} {w : World} {b off : Nat} {x : zO} (h : El A w b off x) : El A w b (off + 0) x.from_ := El.fst (zbV h)
theorem zdN {A : Nat → Prop} {w : World} {b off : Nat} {x : zO} (h : El A w b off x) : El A w b (off + 1) x.to_ := El.fst (El.snd (zbV h))
theorem zbA {A : Nat → Prop} {w : World} {b off : Nat} {x : zO} (h : El A w b off x) : El A w b (off + 2) x.offset := El.snd (El.snd (zbV h))
theorem zis {A : Nat → Prop} {w : World} {b off : Nat} {x : zO} (h : El A w b off x) : At w b off [.int .i64 x.from_, .int .i64 x.to_, .int .i64 x.offset] ∧ True := by
  obtain ⟨h1, h2, cs, h3, h4⟩ := h
  obtain ⟨_, _, rfl, rfl, ⟨_, _, rfl, rfl, rfl⟩⟩ := h3
  exact ⟨h4, trivial⟩
abbrev o_61 (v : Value) (l : List zd) : Ob := obS (α := zd) 61 v l
abbrev o_38 (v : Value) (l : List za) : Ob := obS (α := za) 38 v l
abbrev o_46 (v : Value) (l : List zb) : Ob := obS (α := zb) 46 v l
abbrev o_3 (v : Value) (l : List Int) : Ob := obS (α := Int) 3 v l
abbrev o_4 (v : Value) (l : List Bool) : Ob := obS (α := Bool) 4 v l
def JK : Go.Shelf.Ren := ⟨fun | 217 => 120 | 219 => 95 | 224 => 122 | 225 => 121 | 266 => 146 | 267 => 123 | 314 => 147 | n => n, fun | 0 => 0 | 1 => 1 | 2 => 2 | 3 => 3 | 4 => 4 | 5 => 5 | 6 => 6 | 7 => 7 | 8 => 8 | 9 => 9 | 10 => 10 | 11 => 11 | 12 => 12 | 13 => 13 | 14 => 14 | 15 => 15 | 16 => 16 | 17 => 17 | 18 => 18 | 19 => 19 | 20 => 20 | 21 => 21 | 22 => 219 | 23 => 164 | 27 => 157 | 28 => 26 | 29 => 102 | 30 => 131 | 31 => 134 | 37 => 212 | 43 => 113 | 46 => 144 | 47 => 143 | 51 => 174 | 52 => 173 | 53 => 176 | 54 => 175 | 55 => 190 | 59 => 105 | 60 => 106 | 61 => 135 | 69 => 228 | 74 => 159 | 75 => 160 | 76 => 161 | 77 => 162 | 80 => 258 | 81 => 43 | 83 => 163 | 84 => 218 | 85 => 213 | 86 => 214 | 103 => 208 | 104 => 149 | 105 => 209 | 106 => 210 | 108 => 231 | 111 => 145 | 113 => 158 | 114 => 88 | 119 => 241 | 127 => 246 | 128 => 192 | 131 => 138 | 137 => 242 | 138 => 243 | 139 => 244 | 143 => 247 | 144 => 248 | 145 => 249 | 146 => 206 | 150 => 191 | 151 => 207 | 164 => 271 | 167 => 211 | 168 => 215 | 169 => 216 | 170 => 217 | 171 => 232 | 172 => 233 | 173 => 234 | 174 => 235 | 175 => 226 | 176 => 227 | 182 => 167 | 183 => 168 | 209 => 229 | 210 => 230 | 211 => 250 | 212 => 251 | 213 => 252 | 214 => 245 | 218 => 194 | 219 => 195 | 220 => 196 | 222 => 136 | 228 => 220 | 229 => 221 | 232 => 256 | 233 => 257 | 238 => 259 | 239 => 260 | 240 => 261 | 241 => 262 | 242 => 263 | 243 => 264 | 244 => 265 | 245 => 266 | 246 => 267 | 247 => 268 | 248 => 269 | 249 => 270 | n => n, fun | 1 => 0 | 3 => 3 | 4 => 4 | 15 => 1 | 16 => 2 | 17 => 5 | 18 => 6 | 19 => 7 | n => n⟩
theorem zam : Go.Proofs.Lays.n219 Tryz.prog JK := {
  mixed := by kernel_rfl,
  f217 := Tryz.func120.trans (congrArg some (by kernel_rfl)),
  f219 := Tryz.func95.trans (congrArg some (by kernel_rfl)),
  f224 := Tryz.func122.trans (congrArg some (by kernel_rfl)),
  f225 := Tryz.func121.trans (congrArg some (by kernel_rfl)),
  f266 := Tryz.func146.trans (congrArg some (by kernel_rfl)),
  f267 := Tryz.func123.trans (congrArg some (by kernel_rfl)),
  f314 := Tryz.func147.trans (congrArg some (by kernel_rfl)),
  t3 := Tryz.underlying3,
  a3 := Tryz.isAgg3,
  z3 := Tryz.sizeOf3,
  v3 := Tryz.zeroValue3,
  t4 := Tryz.underlying4,
  a4 := Tryz.isAgg4,
  z4 := Tryz.sizeOf4,
  v4 := Tryz.zeroValue4,
  t5 := Tryz.underlying5,
  a5 := Tryz.isAgg5,
  z5 := Tryz.sizeOf5,
  v5 := Tryz.zeroValue5,
  t9 := Tryz.underlying9,
  a9 := Tryz.isAgg9,
  z9 := Tryz.sizeOf9,
  v9 := Tryz.zeroValue9,
  t46 := Tryz.underlying144,
  a46 := Tryz.isAgg144,
  z46 := Tryz.sizeOf144,
  v46 := Tryz.zeroValue144,
  t51 := Tryz.underlying174,
  a51 := Tryz.isAgg174,
  z51 := Tryz.sizeOf174,
  v51 := Tryz.zeroValue174,
  t146 := Tryz.underlying206,
  a146 := Tryz.isAgg206,
  z146 := Tryz.sizeOf206,
  v146 := Tryz.zeroValue206,
  g1 := by kernel_rfl }
theorem zbb (w : World) {A : Nat → Prop} (hA : ∀ b, w.heap.size ≤ b → A b) (s : ByteArray) (substr : ByteArray) {r : Int} (hm : jq s substr = some r) : Ret Tryz.prog 95 #[.string s, .string substr] w fun v w' => v = .int .i64 r ∧ Kp Dw w w' := by
  unfold jq at hm
  split at hm
  · rename_i c hc
    obtain rfl := Option.some.inj hm
    obtain rfl : substr = ⟨#[c]⟩ := by apply ByteArray.ext; apply Array.toList_inj.1; simpa using hc
    refine Calls.mono (Go.Proofs.Any.stringslite_Index_one zam s c w) ?_
    rintro _ w' ⟨rfl, rfl⟩
    exact ⟨_, rfl, rfl, Kp.refl (Dw := Dw) _⟩
  · cases hm
theorem zbv (w : World) {A : Nat → Prop} (hA : ∀ b, w.heap.size ≤ b → A b) (s : ByteArray) (sep : ByteArray) {r : (ByteArray × ByteArray × Bool)} (hm : jL s sep = some r) : Ret prog 76 #[.string s, .string sep] w fun v w' => v = .tuple #[.string r.1, .string r.2.1, .bool r.2.2] ∧ Kp Dw w w' := by
 unfold jL at hm
 refine enter func76 rfl ntmps76 rfl ?_
 have hA0 := hA
 obtain ⟨hB, hK, hH⟩ := St (Dw := Dw) hA
 refine Sr (As (As (As (To ?_))))
 refine zh (Sr (Mm (Mm ?_)))
 obtain ⟨x1, hx1, hm⟩ := Bs hm
 refine Vc call95 (zbb (Dw := Dw) w hA s sep hx1) ?_
 rintro _ w2 ⟨rfl, hk3⟩
 have ht4 := Kp.tr hk3 hA hB
 obtain ⟨hK, hB, hA⟩ := U0 ht4 hK hB
 refine As (To ?_)
 refine Sr (Mm (Vy (Qz rfl rfl) (To ?_)))
 refine Cc (fun hc5 => ?_) fun hc5 => ?_
 ·rw [if_pos hc5] at hm
  refine zh ?_
  refine ZR (Dw := Dw) zH (by kernel_rfl) ?_
  refine Qm (Qm ?_)
  obtain ⟨x6, hx6, hm⟩ := Bs hm
  refine Qv (fun w' hw' => zjJ hx6 underlying9 rfl rfl) (Qm (Qm (Qm (Qv (fun w' hw' => zdv rfl underlying9 rfl) (Qv (fun w' hw' => zN rfl rfl) ?_)))))
  obtain ⟨x7, hx7, hm⟩ := Bs hm
  refine Qv (fun w' hw' => zjL hx7 underlying9 rfl rfl) (Qa (Qa (Qa ?_)))
  refine jR (fun _ _ => rfl) (fun w9 hk10 => ?_)
  have ht11 := Kp.tr hk10 hA hB; replace hK := Tt hK ht11
  obtain rfl := Oi hm
  refine Rt (Res.three results76 rfl rfl rfl) ?_
  exact ⟨rfl, hK.kp⟩
 rw [if_neg (nt hc5)] at hm
 refine Sk ?_
 refine Sr (Mm (As (As (As (To ?_)))))
 obtain rfl := Oi hm
 refine Rt (Res.three results76 rfl rfl rfl) ?_
 exact ⟨rfl, hK.kp⟩
theorem zgU (w : World) {A : Nat → Prop} (hA : ∀ b, w.heap.size ≤ b → A b) (s : ByteArray) (sep : ByteArray) {r : (ByteArray × ByteArray × Bool)} (hm : zbi s sep = some r) : Ret prog 48 #[.string s, .string sep] w fun v w' => v = .tuple #[.string r.1, .string r.2.1, .bool r.2.2] ∧ Kp Dw w w' := by
 unfold zbi at hm
 refine enter func48 rfl ntmps48 rfl ?_
 have hA0 := hA
 obtain ⟨hB, hK, hH⟩ := St (Dw := Dw) hA
 refine Sr (As (As (As (To ?_))))
 refine Sr (Mm (Mm ?_))
 obtain ⟨x1, hx1, hm⟩ := Bs hm
 refine Vc call76 (zbv (Dw := Dw) w hA s sep hx1) ?_
 rintro _ w2 ⟨rfl, hk3⟩
 have ht4 := Kp.tr hk3 hA hB; replace hK := Tt hK ht4
 refine Vy (zD rfl rfl) (Vy (zD rfl rfl) (Vy (zD rfl rfl) (As (As (As (To ?_))))))
 obtain rfl := Oi hm
 refine Rt (Res.three results48 rfl rfl rfl) ?_
 exact ⟨rfl, hK.kp⟩
def zaV : Go.Shelf.Ren := ⟨fun | 138 => 125 | 143 => 126 | 195 => 148 | 197 => 149 | 217 => 120 | 218 => 150 | 219 => 95 | 221 => 96 | 224 => 122 | 225 => 121 | 260 => 162 | 266 => 146 | 267 => 123 | 268 => 124 | 314 => 147 | n => n, fun | 0 => 0 | 1 => 1 | 2 => 2 | 3 => 3 | 4 => 4 | 5 => 5 | 6 => 6 | 7 => 7 | 8 => 8 | 9 => 9 | 10 => 10 | 11 => 11 | 12 => 12 | 13 => 13 | 14 => 14 | 15 => 15 | 16 => 16 | 17 => 17 | 18 => 18 | 19 => 19 | 20 => 20 | 21 => 21 | 22 => 219 | 23 => 164 | 27 => 157 | 28 => 26 | 29 => 102 | 30 => 131 | 31 => 134 | 37 => 212 | 43 => 113 | 46 => 144 | 47 => 143 | 51 => 174 | 52 => 173 | 53 => 176 | 54 => 175 | 55 => 190 | 59 => 105 | 60 => 106 | 61 => 135 | 69 => 228 | 74 => 159 | 75 => 160 | 76 => 161 | 77 => 162 | 80 => 258 | 81 => 43 | 83 => 163 | 84 => 218 | 85 => 213 | 86 => 214 | 103 => 208 | 104 => 149 | 105 => 209 | 106 => 210 | 108 => 231 | 111 => 145 | 113 => 158 | 114 => 88 | 119 => 241 | 127 => 246 | 128 => 192 | 131 => 138 | 137 => 242 | 138 => 243 | 139 => 244 | 143 => 247 | 144 => 248 | 145 => 249 | 146 => 206 | 150 => 191 | 151 => 207 | 164 => 271 | 167 => 211 | 168 => 215 | 169 => 216 | 170 => 217 | 171 => 232 | 172 => 233 | 173 => 234 | 174 => 235 | 175 => 226 | 176 => 227 | 182 => 167 | 183 => 168 | 209 => 229 | 210 => 230 | 211 => 250 | 212 => 251 | 213 => 252 | 214 => 245 | 218 => 194 | 219 => 195 | 220 => 196 | 222 => 136 | 228 => 220 | 229 => 221 | 232 => 256 | 233 => 257 | 238 => 259 | 239 => 260 | 240 => 261 | 241 => 262 | 242 => 263 | 243 => 264 | 244 => 265 | 245 => 266 | 246 => 267 | 247 => 268 | 248 => 269 | 249 => 270 | n => n, fun | 1 => 0 | 3 => 3 | 4 => 4 | 15 => 1 | 16 => 2 | 17 => 5 | 18 => 6 | 19 => 7 | n => n⟩
theorem zbK : Go.Proofs.Lays.n221 Tryz.prog zaV := {
  mixed := by kernel_rfl,
  f138 := Tryz.func125.trans (congrArg some (by kernel_rfl)),
  f143 := Tryz.func126.trans (congrArg some (by kernel_rfl)),
  f195 := Tryz.func148.trans (congrArg some (by kernel_rfl)),
  f197 := Tryz.func149.trans (congrArg some (by kernel_rfl)),
  f217 := Tryz.func120.trans (congrArg some (by kernel_rfl)),
  f218 := Tryz.func150.trans (congrArg some (by kernel_rfl)),
  f219 := Tryz.func95.trans (congrArg some (by kernel_rfl)),
  f221 := Tryz.func96.trans (congrArg some (by kernel_rfl)),
  f224 := Tryz.func122.trans (congrArg some (by kernel_rfl)),
  f225 := Tryz.func121.trans (congrArg some (by kernel_rfl)),
  f260 := Tryz.func162.trans (congrArg some (by kernel_rfl)),
  f266 := Tryz.func146.trans (congrArg some (by kernel_rfl)),
  f267 := Tryz.func123.trans (congrArg some (by kernel_rfl)),
  f268 := Tryz.func124.trans (congrArg some (by kernel_rfl)),
  f314 := Tryz.func147.trans (congrArg some (by kernel_rfl)),
  t0 := Tryz.underlying0,
  a0 := Tryz.isAgg0,
  z0 := Tryz.sizeOf0,
  v0 := Tryz.zeroValue0,
  t3 := Tryz.underlying3,
  a3 := Tryz.isAgg3,
  z3 := Tryz.sizeOf3,
  v3 := Tryz.zeroValue3,
  t4 := Tryz.underlying4,
  a4 := Tryz.isAgg4,
  z4 := Tryz.sizeOf4,
  v4 := Tryz.zeroValue4,
  t5 := Tryz.underlying5,
  a5 := Tryz.isAgg5,
  z5 := Tryz.sizeOf5,
  v5 := Tryz.zeroValue5,
  t9 := Tryz.underlying9,
  a9 := Tryz.isAgg9,
  z9 := Tryz.sizeOf9,
  v9 := Tryz.zeroValue9,
  t21 := Tryz.underlying21,
  a21 := Tryz.isAgg21,
  z21 := Tryz.sizeOf21,
  v21 := Tryz.zeroValue21,
  t31 := Tryz.underlying134,
  a31 := Tryz.isAgg134,
  z31 := Tryz.sizeOf134,
  v31 := Tryz.zeroValue134,
  t46 := Tryz.underlying144,
  a46 := Tryz.isAgg144,
  z46 := Tryz.sizeOf144,
  v46 := Tryz.zeroValue144,
  t51 := Tryz.underlying174,
  a51 := Tryz.isAgg174,
  z51 := Tryz.sizeOf174,
  v51 := Tryz.zeroValue174,
  t105 := Tryz.underlying209,
  a105 := Tryz.isAgg209,
  z105 := Tryz.sizeOf209,
  v105 := Tryz.zeroValue209,
  t119 := Tryz.underlying241,
  a119 := Tryz.isAgg241,
  z119 := Tryz.sizeOf241,
  t138 := Tryz.underlying243,
  a138 := Tryz.isAgg243,
  z138 := Tryz.sizeOf243,
  v138 := Tryz.zeroValue243,
  t139 := Tryz.underlying244,
  a139 := Tryz.isAgg244,
  z139 := Tryz.sizeOf244,
  v139 := Tryz.zeroValue244,
  t146 := Tryz.underlying206,
  a146 := Tryz.isAgg206,
  z146 := Tryz.sizeOf206,
  v146 := Tryz.zeroValue206,
  g1 := by kernel_rfl,
  g3 := by kernel_rfl,
  g4 := by kernel_rfl }
theorem zeB (w : World) {A : Nat → Prop} (hA : ∀ b, w.heap.size ≤ b → A b) (hT : Mx Tryz.prog 0 A w) (s : ByteArray) (sep : ByteArray) (sepSave : Int) (n : Int) {r : List ByteArray} (hm : strings_genSplit s sep sepSave n = some r) : Ret Tryz.prog 96 #[.string s, .string sep, .int .i64 sepSave, .int .i64 n] w fun v w' => ∃ s0, v = s0 ∧ Sl A w' s0 r ∧ Kp Dw w w' := by
  unfold strings_genSplit at hm
  split at hm
  case isFalse => cases hm
  rename_i h
  obtain ⟨h1, h2, h3, h4, rfl⟩ := h
  obtain rfl := Option.some.inj hm
  obtain ⟨⟨m, hmx⟩, _, _⟩ := hT
  obtain ⟨k, rfl⟩ := Int.eq_ofNat_of_zero_le h3
  have hlen := Go.Lib.splitB_length_le sep (k : Int).toNat (min (Go.Lib.countB s sep + 1) (s.size + 1) - 1) s
  refine zjw (Dw := Dw) (N := min (Go.Lib.countB s sep + 1) (s.size + 1)) (sv := k) hA (by omega) (by unfold maxLen; omega) (Go.Proofs.Any.strings_genSplit zbK (by kernel_rfl) s sep k (-1) _ m w h1 hmx h2 (by omega) (by decide) (by decide) ?_)
  rw [if_pos (by decide)]
  omega
theorem zfN (w : World) {A : Nat → Prop} (hA : ∀ b, w.heap.size ≤ b → A b) (hT : Fz zbc A w) (s : ByteArray) (sep : ByteArray) {r : (List ByteArray)} (hm : zas s sep = some r) : Ret prog 77 #[.string s, .string sep] w fun v w' => ∃ s0, v = s0 ∧ Sl A w' s0 r ∧ Kp Dw w w' := by
 unfold zas at hm
 refine enter func77 rfl ntmps77 rfl ?_
 have hA0 := hA
 obtain ⟨hB, hK, hH⟩ := St (Dw := Dw) hA
 refine Sr (As (To ?_))
 refine Sr (Mm (Mm ?_))
 obtain ⟨x1, hx1, hm⟩ := Bs hm
 refine Vc call96 (zeB (Dw := Dw) w hA ((Fz.tr (Dw := Dw) hT hK)).2.1 s sep 0 (-1) hx1) ?_
 rintro v2 w4 ⟨_, rfl, h3, hk5⟩
 have ht6 := Kp.tr hk5 hA hB; replace hK := Tt hK ht6
 refine As (To ?_)
 obtain rfl := Oi hm
 refine Rt (Res.one results77 rfl) ?_
 exact ⟨v2, rfl, (Sl.out (Dw := Dw) h3 hA0 hK), hK.kp⟩
theorem zea (w : World) {A : Nat → Prop} (hA : ∀ b, w.heap.size ≤ b → A b) (hT : Fz zbc A w) (line : ByteArray) {r : (zd × Bool)} (hm : jH line = some r) : Ret prog 49 #[.string line] w fun v w' => ∃ s0, v = .tuple #[.agg #[Ii r.1.no, Ii r.1.capacity, Ii r.1.calendar, s0], .bool r.2] ∧ Sl A w' s0 r.1.skills ∧ Kp Dw w w' := by
 unfold jH at hm
 refine enter func49 rfl ntmps49 rfl ?_
 have hA0 := hA
 obtain ⟨hB, hK, hH⟩ := St (Dw := Dw) hA
 refine Sr ?_
 refine Jj (Dw := Dw) (B := w.heap.size) hH zeroValue61 hB hA rfl ?_
 intro b1 w2 A3 hH4 ht5
 obtain ⟨hK, hB, hA⟩ := U0 ht5 hK hB
 replace hH := hH4
 refine As (To ?_)
 refine Sr ?_
 refine Jj (Dw := Dw) (B := w.heap.size) hH zeroValue61 hB hA rfl ?_
 intro b6 w7 A8 hH9 ht10
 obtain ⟨hK, hB, hA⟩ := U0 ht10 hK hB
 replace hH := hH9
 refine To ?_
 refine Sr (Mm ?_)
 obtain ⟨x11, hx11, hm⟩ := Bs hm
 refine Vc call77 (zfN (Dw := Dw) w7 hA (Fz.tr (Dw := Dw) hT hK) line (⟨#[32]⟩ : ByteArray) hx11) ?_
 rintro v12 w14 ⟨_, rfl, h13, hk15⟩
 have ht16 := Kp.tr hk15 hA hB; replace hH := Hp.kp hH hk15
 obtain ⟨hK, hB, hA⟩ := U0 ht16 hK hB
 refine As (To ?_)
 refine zh (Sr (Mm (Vy (zA h13 rfl underlying134 rfl) (Vy (zR rfl rfl) (Mm ?_)))))
 refine ZP 5 (fun _ : Unit => [(2, Pt b1), (4, Pt b6), (5, v12), (23, .bool ((decide ((x11.length : Int) < 4)) || ((Int.tmod (x11.length : Int) 2) != 0)))]) (fun _ w' => w14 = w') ?_ ?_
 ·simp only [List.take, List.drop]
  rcases Be (decide ((x11.length : Int) < 4)) with hc17 | hc17
  ·refine Gm hc17 (Gm hc17 (Gm hc17 (Gm hc17 (Vy (zF rfl hc17 rfl) ?_))))
   exact zn fun a ha => ⟨(), ha.sub ⟨rfl, rfl, rfl, (by rw [hc17]; rfl), trivial⟩, rfl⟩
  refine Gf hc17 (Mm (Gf hc17 (Vy (zA h13 rfl underlying134 rfl) (Gf hc17 ?_))))
  refine Vy (zhe (by rw [rem, if_neg (by decide)]) rfl rfl) (Gf hc17 (Vy (ZW rfl rfl) (Vy (zG rfl hc17 rfl) ?_)))
  exact zn fun a ha => ⟨(), ha.sub ⟨rfl, rfl, rfl, (by rw [hc17]; rfl), trivial⟩, rfl⟩
 simp only [List.take, List.drop]
 rintro _ _ rfl
 refine Mm ?_
 obtain ⟨s20, hs20, hm⟩ := Bs hm
 refine ZP 5 (fun _ : Unit => [(2, Pt b1), (4, Pt b6), (5, v12), (29, .bool s20)]) (fun _ w' => w14 = w') ?_ ?_
 ·simp only [List.take, List.drop]
  rcases Be (((decide ((x11.length : Int) < 4)) || ((Int.tmod (x11.length : Int) 2) != 0))) with hc19 | hc19
  ·rw [if_pos hc19] at hs20
   refine Gm hc19 (Gm hc19 (Gm hc19 (Gm hc19 (Vy (zF rfl hc19 rfl) ?_))))
   obtain rfl := Oi hs20
   exact zn fun a ha => ⟨(), ha.sb, rfl⟩
  rw [if_neg (nt hc19)] at hs20
  refine Gf hc19 (Mm (Gf hc19 ?_))
  obtain ⟨x21, hx21, hs20⟩ := Bs hs20
  refine zy h13 hx21 underlying134 sizeOf9 rfl rfl rfl ?_
  intro b22 o23 h24
  refine Gf hc19 (Ld (El.str h24) isAgg9 (Gf hc19 (Vy (zhI rfl rfl) (Vy (zG rfl hc19 rfl) ?_))))
  obtain rfl := Oi hs20
  exact zn fun a ha => ⟨(), ha.sb, rfl⟩
 simp only [List.take, List.drop]
 rintro _ _ rfl
 refine To ?_
 refine Cc (fun hc25 => ?_) fun hc25 => ?_
 ·rw [if_pos hc25] at hm
  refine Sr (Vy (zx (Hp.part (off := 0) (n := 4) (ds := [Ii 0, Ii 0, Ii 0, .slice none 0 0]) hH (i := 0) rfl rfl) isAgg61 sizeOf61 rfl) ?_)
  refine ZG (Dw := Dw) (off := 0) (ds := [Ii 0, Ii 0, Ii 0, .slice none 0 0]) hH (i := 1) rfl sizeOf61 rfl (Nat.le_of_ble_eq_true rfl) (by exact (List.forall_mem_cons.2 ⟨rfl, (List.forall_mem_cons.2 ⟨rfl, (List.forall_mem_cons.2 ⟨rfl, (List.forall_mem_cons.2 ⟨rfl, (fun _ h => nomatch h)⟩)⟩)⟩)⟩)) rfl hB hA rfl rfl ?_
  intro w26 hH27 ht28
  replace hK := Tt hK ht28; replace hH := hH27
  refine As (To ?_)
  obtain rfl := Oi hm
  refine jP ?_
  try simp only [↓ib, ↓th]
  exact retQ rfl (Res.l2 results49 (RL.cell rfl (zih (Hp.part (off := 0) (n := 4) (ds := [Ii 0, Ii 0, Ii 0, .slice none 0 0]) hH (i := 1) rfl rfl) isAgg61 sizeOf61)) (RL.tmp rfl)) ⟨.slice none 0 0, rfl, Sl.nil, hK.kp⟩
 rw [if_neg (nt hc25)] at hm
 refine Sk ?_
 refine zh (zh ?_)
 cases hm
theorem zeq (w : World) {A : Nat → Prop} {B : Nat} (hB : B ≤ w.heap.size) (hA : ∀ b, w.heap.size ≤ b → A b) (hT : Fz zbc A w) (s : ByteArray) {L : List Ob} (hH : Hp B A w (L)) {r : ((List zd) × Int × Int)} (hm : JB s = some r) : Ret prog 16 #[.string s] w fun v w' => ∃ s0, ∃ A1 : Nat → Prop, v = .tuple #[s0, Ii r.2.1, Ii r.2.2] ∧ Hp B A1 w' (o_61 s0 r.1 :: L) ∧ Tr Dw B A w A1 w' := by
 unfold JB at hm
 refine enter func16 rfl ntmps16 rfl ?_
 have hK : Tr Dw B A w A w := Tr.refl (Dw := Dw) hA
 refine Sr (As (As (As (To ?_))))
 refine zh (Sr (Mm (Vy (zdv rfl underlying9 rfl) (Vy (qz rfl rfl) (To ?_)))))
 refine Cc (fun hc1 => ?_) fun hc1 => ?_
 ·rw [if_pos hc1] at hm
  refine Sr (As (As (As (To ?_))))
  obtain rfl := Oi hm
  replace hH : Hp B A w (o_61 (.slice none 0 0) ([] : (List zd)) :: L) := Hp.addNil (α := zd) (e := 61) hH
  refine Rt (Res.three results16 rfl rfl rfl) ?_
  exact ⟨.slice none 0 0, A, rfl, hH, hK⟩
 rw [if_neg (nt hc1)] at hm
 refine Sk ?_
 refine Sr (As (To ?_))
 refine zh (Sr (As (To ?_)))
 replace hH : Hp B A w (o_61 (.slice none 0 0) ([] : (List zd)) :: L) := Hp.addNil (α := zd) (e := 61) hH
 obtain ⟨o2, ho2, hm⟩ := Bs hm
 refine zu (ι := ((ByteArray × (List zd) × Int) × Value × (Nat → Prop))) (fun ⟨s3, v9, A11⟩ => [(5, v9)]) (fun ⟨s3, v9, A11⟩ => fun w' => o2 = .fin s3 ∧ Hp B A11 w' (o_61 v9 s3.2.1 :: L) ∧ Tr Dw B A w A11 w') ?_ ?_
 ·refine zl ?_
  refine zbd ho2 (fun s13 a w' => ∃ i : (Value × (Nat → Prop)), Has ⟨49, [], none⟩ a ([(0, .string s13.1), (5, i.1), (6, Ii s13.2.2)]) ∧ Hp B i.2 w' (o_61 i.1 s13.2.1 :: L) ∧ Tr Dw B A w i.2 w') (fun a ha => ⟨(.slice none 0 0, A), ha.sb, ⟨hH, Tr.refl (Dw := Dw) hA⟩⟩) ?_
  rintro K s13 a w14 ⟨⟨v15, A17⟩, ha71, hH18, hr4⟩ K25
  refine C_of ?_ ha71
  obtain ⟨hK, hB, hA⟩ := U0 hr4 hK hB
  replace hH := hH18
  obtain ⟨x19, h20, h21⟩ := K25
  refine zh (Sr (Mm (Vy (zhI rfl rfl) (To ?_))))
  refine Cc (fun hc26 => ?_) fun hc26 => ?_
  ·rw [if_pos hc26] at h20
   refine Sk ?_
   refine zh (zl (Sr (Mm ?_)))
   obtain ⟨x27, hx27, h20⟩ := Bs h20
   refine Vc call48 (zgU (Dw := Dw) w14 hA s13.1 (⟨#[10]⟩ : ByteArray) hx27) ?_
   rintro _ w28 ⟨rfl, hk29⟩
   have ht30 := Kp.tr hk29 hA hB; replace hH := Hp.kp hH hk29; replace hr4 := Tt hr4 ht30
   obtain ⟨hK, hB, hA⟩ := U0 ht30 hK hB
   refine Mm (Vy (zD rfl rfl) (Vy (zD rfl rfl) (Vy (zD rfl rfl) (As (As (As (To ?_)))))))
   refine Sr (Mm ?_)
   obtain ⟨x31, hx31, h20⟩ := Bs h20
   refine Vc call49 (zea (Dw := Dw) w28 hA (Fz.tr (Dw := Dw) hT hK) x27.1 hx31) ?_
   rintro _ w34 ⟨v32, rfl, h33, hk35⟩
   have ht36 := Kp.tr hk35 hA hB; replace hH := Hp.kp hH hk35; replace hr4 := Tt hr4 ht36
   obtain ⟨hK, hB, hA⟩ := U0 ht36 hK hB
   refine Mm (Vy (zD rfl rfl) (Vy (zD rfl rfl) ?_))
   refine Zf zeroValue61 rfl ?_
   intro b37 w38 h39
   have h44 := Sl.oc h33
   refine Sn h39 sizeOf61 ?_
   intro w40 h41
   have hk46 := h41.kp (Dw := Dw)
   have h45 : El (α := zd) A17 w40 b37 0 x31.1 := h41.el hA ⟨[Ii x31.1.no], _, rfl, rfl, ⟨[Ii x31.1.capacity], _, rfl, rfl, ⟨[Ii x31.1.calendar], _, rfl, rfl, ⟨_, rfl, h33⟩⟩⟩⟩
   have ht47 := Kp.tr hk46 hA hB; replace hH := Hp.kp hH hk46; replace hr4 := Tt hr4 ht47
   obtain ⟨hK, hB, hA⟩ := U0 ht47 hK hB
   refine As (To ?_)
   refine zh (Sr (Mm (Vy (Zs rfl) (Mm ?_))))
   refine ZP 3 (fun _ : Unit => [(5, v15), (6, Ii s13.2.2), (8, .string x27.2.1), (10, Pt b37), (36, .bool ((!x31.2) || (!x27.2.2)))]) (fun _ w' => w40 = w') ?_ ?_
   ·simp only [List.take, List.drop]
    rcases Be (!x31.2) with hc48 | hc48
    ·refine Gm hc48 (Gm hc48 (Vy (zF rfl hc48 rfl) ?_))
     exact zn fun a ha => ⟨(), ha.sub ⟨rfl, rfl, rfl, rfl, (by rw [hc48]; rfl), trivial⟩, rfl⟩
    refine Gf hc48 (Mm (Gf hc48 (Vy (Zs rfl) (Vy (zG rfl hc48 rfl) ?_))))
    exact zn fun a ha => ⟨(), ha.sub ⟨rfl, rfl, rfl, rfl, (by rw [hc48]; rfl), trivial⟩, rfl⟩
   simp only [List.take, List.drop]
   rintro _ _ rfl
   refine To ?_
   refine Cc (fun hc50 => ?_) fun hc50 => ?_
   ·rw [if_pos hc50] at h20
    refine Sr (Mm (As (As (As (To ?_)))))
    obtain rfl := Oi h20
    obtain rfl := (h21 : Lp.rt _ = _)
    rw [Lp.andThen_rt] at hm
    obtain rfl := Oi hm
    replace hH : Hp B A17 w40 (o_61 (.slice none 0 0) ([] : (List zd)) :: o_61 v15 s13.2.1 :: L) := Hp.addNil (α := zd) (e := 61) hH
    replace hH := Hd 1 hH
    refine Rt (Res.three results16 rfl rfl rfl) ?_
    exact ⟨.slice none 0 0, A17, rfl, hH, hK⟩
   rw [if_neg (nt hc50)] at h20
   refine Sk ?_
   refine Sr (Mm ?_)
   obtain ⟨v51, h53, h52⟩ := Zo h45
   refine Vy (zx h53 isAgg61 sizeOf61 rfl) ?_
   refine zX (Dw := Dw) (cells := #[Ii x31.1.no, Ii x31.1.capacity, Ii x31.1.calendar, v51]) (l := ([x31.1] : List zd)) (len := 1) underlying22 sizeOf61 zeroValue61 rfl (by obtain ⟨a58, c59, e60, _⟩ := Sl.form h52; subst e60; kernel_rfl) (show (1 * 4 : Nat) ≠ 0 by decide) (show (1 * 4 : Nat) ≤ 2 ^ 24 by decide) hA ⟨[Ii x31.1.no, Ii x31.1.capacity, Ii x31.1.calendar, v51], _, rfl, ⟨[Ii x31.1.no], _, rfl, rfl, ⟨[Ii x31.1.capacity], _, rfl, rfl, ⟨[Ii x31.1.calendar], _, rfl, rfl, ⟨_, rfl, h52⟩⟩⟩⟩, rfl⟩ rfl rfl ?_
   intro v54 w55 hk57 h56
   have ht61 := Kp.tr hk57 hA hB; replace hH := Hp.kp hH hk57; replace hr4 := Tt hr4 ht61; replace hB := Bx hB ht61; replace hA := ht61.new
   obtain ⟨x62, hx62, h20⟩ := Bs h20
   refine Zv (Dw := Dw) (e := 61) (v := v15) (l := s13.2.1) (ti := t61) (bytes := 48) (lim := 2932031007402) hH (i := 0) rfl h56 hx62 underlying22 zeP rfl rfl rfl rfl (by decide) (by decide) (by decide) hB hA rfl rfl rfl ?_
   intro v63 w65 A66 hH67 ht68
   replace hr4 := Tt hr4 ht68; replace hH := hH67
   refine As (To ?_)
   refine zo (Mm (As (To ?_)))
   refine zo (Mm (Vy (zN rfl rfl) (As ?_)))
   obtain rfl := Oi h20
   refine zn (fun a ha69 => ?_)
   exact ⟨(x27.2.1, x62, w64 (s13.2.2 + 1)), h21, ⟨(v63, A66), ha69.sb, ⟨hH, hr4⟩⟩⟩
  rw [if_neg (nt hc26)] at h20
  obtain rfl := Oi h20
  refine zQ (fun a ha70 => ?_)
  exact ⟨((s13.1, s13.2.1, s13.2.2), v15, A17), ha70.sb, ⟨h21.symm, hH, hr4⟩⟩
 rintro ⟨s3, v9, A11⟩ w6 ⟨rfl, hH12, hk7⟩ a ha8
 rw [Lp.andThen_fin] at hm
 replace hA := hk7.new; replace hH := hH12
 refine C_at (n := ⟨49, [], none⟩) (fun _ _ => rfl) ?_ ha8
 refine zh (zh ?_)
 cases hm
theorem zdz (w : World) {A : Nat → Prop} (hA : ∀ b, w.heap.size ≤ b → A b) (hT : Fz zbc A w)  {r : Bool} (hm : jd  = some r) : Ret prog 4 #[] w fun v w' => v = .bool r ∧ Kp Dw w w' := by
 unfold jd at hm
 refine enter func4 rfl ntmps4 rfl ?_
 have hA0 := hA
 obtain ⟨hB, hK, hH⟩ := St (Dw := Dw) hA
 refine Sr (As (To ?_))
 refine Sr ?_
 obtain ⟨x1, hx1, hm⟩ := Bs hm
 refine Vc call16 (zeq (Dw := Dw) w hB hA (Fz.tr (Dw := Dw) hT hK) (⟨#[120]⟩ : ByteArray) hH hx1) ?_
 rintro _ w4 ⟨v2, A5, rfl, hH6, ht7⟩
 replace hK := Tt hK ht7; replace hH := hH6
 refine Mm (Vy (zD rfl rfl) (Vy (zD rfl rfl) (Vy (zD rfl rfl) (As (As (As (To ?_)))))))
 refine Sr (Mm (Vy (ZW rfl rfl) (As (To ?_))))
 obtain rfl := Oi hm
 refine Rt (Res.one results4 rfl) ?_
 exact ⟨rfl, hK.kp⟩
theorem Zq (w : World) (n : Int) (low : Int) (high : Int) : Ret prog 52 #[Ii n, Ii low, Ii high] w fun v w' => v = .bool (zm n low high) ∧ w = w' := by
 generalize hm : zm n low high = r
 unfold zm at hm
 refine enter func52 rfl ntmps52 rfl ?_
 refine Sr (As (To ?_))
 refine Sr (Mm (Mm (Vy (Qz rfl rfl) (Mm ?_))))
 refine ZP 4 (fun _ : Unit => [(14, .bool ((decide (low ≤ n)) && (decide (n ≤ high))))]) (fun _ w' => w = w') ?_ ?_
 ·simp only [List.take, List.drop]
  rcases Be (decide (low ≤ n)) with hc1 | hc1
  ·refine Gf hc1 (Mm (Gf hc1 (Mm (Gf hc1 (Vy (JA rfl rfl) (Vy (zF rfl hc1 rfl) ?_))))))
   exact zn fun a ha => ⟨(), ha.sub ⟨(by rw [hc1]; rfl), trivial⟩, rfl⟩
  refine Gm hc1 (Gm hc1 (Gm hc1 (Vy (zG rfl hc1 rfl) ?_)))
  exact zn fun a ha => ⟨(), ha.sub ⟨(by rw [hc1]; rfl), trivial⟩, rfl⟩
 simp only [List.take, List.drop]
 rintro _ _ rfl
 refine As (To ?_)
 obtain rfl := hm
 refine Rt (Res.one results52 rfl) ?_
 exact ⟨rfl, rfl⟩
theorem zhV (w : World) (s : ByteArray) {r : Bool} (hm : jX s = some r) : Ret prog 88 #[.string s] w fun v w' => v = .bool r ∧ w = w' := by
 unfold jX at hm
 refine enter func88 rfl ntmps88 rfl ?_
 refine Sr (As (To ?_))
 refine zh (Sr (Mm (Vy (zdv rfl underlying9 rfl) (Mm (To ?_)))))
 obtain ⟨o1, ho1, hm⟩ := Bs hm
 refine zu (ι := Int) (fun (s2 : Int) => [(0, .string s)]) (fun (s2 : Int) => fun w' => o1 = .fin s2 ∧ w = w') ?_ ?_
 ·refine zl ?_
  refine zbd ho1 (fun s8 a w' => ∃ i : Unit, Has ⟨41, [], none⟩ a ([(0, .string s), (6, Ii (s.size : Int)), (7, Ii s8)]) ∧ w = w') (fun a ha => ⟨(), ha.sb, rfl⟩) ?_
  rintro K s8 a _ ⟨_, ha30, rfl⟩ K16
  refine C_of ?_ ha30
  obtain ⟨x10, h11, h12⟩ := K16
  refine Sr (Vy (zR rfl rfl) (To ?_))
  refine zh ?_
  refine Cc (fun hc17 => ?_) fun hc17 => ?_
  ·rw [if_pos hc17] at h11
   refine Sk ?_
   refine zh (zl (Sr (Mm (As (To ?_)))))
   refine Sr (Mm (Mm ?_))
   obtain ⟨x18, hx18, h11⟩ := Bs h11
   refine Vy (zkP hx18 underlying9 rfl rfl) (As (To ?_))
   refine Sr (Mm (Vy (Qz rfl rfl) (Mm ?_)))
   refine ZP 3 (fun _ : Unit => [(0, .string s), (4, .int .u8 (x18.toNat : Int)), (6, Ii (s.size : Int)), (7, Ii s8), (18, .bool ((decide ((97 : Int) ≤ (x18.toNat : Int))) && (decide ((x18.toNat : Int) ≤ 122))))]) (fun _ w' => w = w') ?_ ?_
   ·simp only [List.take, List.drop]
    rcases Be (decide ((97 : Int) ≤ (x18.toNat : Int))) with hc19 | hc19
    ·refine Gf hc19 (Mm (Gf hc19 (Vy (JA rfl rfl) (Vy (zF rfl hc19 rfl) ?_))))
     exact zn fun a ha => ⟨(), ha.sub ⟨rfl, rfl, rfl, rfl, (by rw [hc19]; rfl), trivial⟩, rfl⟩
    refine Gm hc19 (Gm hc19 (Vy (zG rfl hc19 rfl) ?_))
    exact zn fun a ha => ⟨(), ha.sub ⟨rfl, rfl, rfl, rfl, (by rw [hc19]; rfl), trivial⟩, rfl⟩
   simp only [List.take, List.drop]
   rintro _ _ rfl
   refine Vy (Zs rfl) (Mm ?_)
   refine ZP 8 (fun _ : Unit => [(0, .string s), (4, .int .u8 (x18.toNat : Int)), (6, Ii (s.size : Int)), (7, Ii s8), (28, .bool ((!((decide ((97 : Int) ≤ (x18.toNat : Int))) && (decide ((x18.toNat : Int) ≤ 122)))) && (!((decide ((48 : Int) ≤ (x18.toNat : Int))) && (decide ((x18.toNat : Int) ≤ 57))))))]) (fun _ w' => w = w') ?_ ?_
   ·simp only [List.take, List.drop]
    rcases Be (!((decide ((97 : Int) ≤ (x18.toNat : Int))) && (decide ((x18.toNat : Int) ≤ 122)))) with hc21 | hc21
    ·refine Gf hc21 (Mm (Gf hc21 (Vy (Qz rfl rfl) (Gf hc21 (Mm ?_)))))
     refine ZP 3 (fun _ : Unit => [(0, .string s), (4, .int .u8 (x18.toNat : Int)), (6, Ii (s.size : Int)), (7, Ii s8), (20, .bool (!((decide ((97 : Int) ≤ (x18.toNat : Int))) && (decide ((x18.toNat : Int) ≤ 122))))), (26, .bool ((decide ((48 : Int) ≤ (x18.toNat : Int))) && (decide ((x18.toNat : Int) ≤ 57))))]) (fun _ w' => w = w') ?_ ?_
     ·simp only [List.take, List.drop]
      rcases Be (decide ((48 : Int) ≤ (x18.toNat : Int))) with hc23 | hc23
      ·refine Gf hc23 (Mm (Gf hc23 (Vy (JA rfl rfl) (Gf hc21 (Vy (zF rfl hc23 rfl) ?_)))))
       exact zn fun a ha => ⟨(), ha.sub ⟨rfl, rfl, rfl, rfl, rfl, (by rw [hc23]; rfl), trivial⟩, rfl⟩
      refine Gm hc23 (Gm hc23 (Gf hc21 (Vy (zG rfl hc23 rfl) ?_)))
      exact zn fun a ha => ⟨(), ha.sub ⟨rfl, rfl, rfl, rfl, rfl, (by rw [hc23]; rfl), trivial⟩, rfl⟩
     simp only [List.take, List.drop]
     rintro _ _ rfl
     refine Gf hc21 (Vy (Zs rfl) (Vy (zF rfl hc21 rfl) ?_))
     exact zn fun a ha => ⟨(), ha.sub ⟨rfl, rfl, rfl, rfl, (by rw [hc21]; rfl), trivial⟩, rfl⟩
    refine Gm hc21 (Gm hc21 (Gm hc21 ?_))
    refine V_gu rfl rfl rfl rfl rfl ?_
    refine V_gu rfl rfl rfl rfl rfl ?_
    refine Gm hc21 (Gm hc21 (Vy (zG rfl hc21 rfl) ?_))
    exact zn fun a ha => ⟨(), ha.sub ⟨rfl, rfl, rfl, rfl, (by rw [hc21]; rfl), trivial⟩, rfl⟩
   simp only [List.take, List.drop]
   rintro _ _ rfl
   refine Mm ?_
   refine ZP 3 (fun _ : Unit => [(0, .string s), (6, Ii (s.size : Int)), (7, Ii s8), (32, .bool (((!((decide ((97 : Int) ≤ (x18.toNat : Int))) && (decide ((x18.toNat : Int) ≤ 122)))) && (!((decide ((48 : Int) ≤ (x18.toNat : Int))) && (decide ((x18.toNat : Int) ≤ 57))))) && ((x18.toNat : Int) != 95)))]) (fun _ w' => w = w') ?_ ?_
   ·simp only [List.take, List.drop]
    rcases Be (((!((decide ((97 : Int) ≤ (x18.toNat : Int))) && (decide ((x18.toNat : Int) ≤ 122)))) && (!((decide ((48 : Int) ≤ (x18.toNat : Int))) && (decide ((x18.toNat : Int) ≤ 57)))))) with hc25 | hc25
    ·refine Gf hc25 (Mm (Gf hc25 (Vy (ZW rfl rfl) (Vy (zF rfl hc25 rfl) ?_))))
     exact zn fun a ha => ⟨(), ha.sub ⟨rfl, rfl, rfl, (by rw [hc25]; rfl), trivial⟩, rfl⟩
    refine Gm hc25 (Gm hc25 (Vy (zG rfl hc25 rfl) ?_))
    exact zn fun a ha => ⟨(), ha.sub ⟨rfl, rfl, rfl, (by rw [hc25]; rfl), trivial⟩, rfl⟩
   simp only [List.take, List.drop]
   rintro _ _ rfl
   refine To ?_
   refine Cc (fun hc27 => ?_) fun hc27 => ?_
   ·rw [if_pos hc27] at h11
    refine Sr (As (To ?_))
    obtain rfl := Oi h11
    obtain rfl := (h12 : Lp.rt _ = _)
    rw [Lp.andThen_rt] at hm
    obtain rfl := Oi hm
    refine Rt (Res.one results88 rfl) ?_
    exact ⟨rfl, rfl⟩
   rw [if_neg (nt hc27)] at h11
   refine Sk ?_
   refine zo (Vy (zN rfl rfl) (Mm ?_))
   obtain rfl := Oi h11
   refine zn (fun a ha28 => ?_)
   exact ⟨w64 (s8 + 1), h12, ⟨(), ha28.sb, rfl⟩⟩
  rw [if_neg (nt hc17)] at h11
  obtain rfl := Oi h11
  refine zQ (fun a ha29 => ?_)
  exact ⟨s8, ha29.sb, ⟨h12.symm, rfl⟩⟩
 rintro s2 _ ⟨rfl, rfl⟩ a ha7
 rw [Lp.andThen_fin] at hm
 refine C_at (n := ⟨41, [], none⟩) (fun _ _ => rfl) ?_ ha7
 refine Sr (Mm (Vy (zhI rfl rfl) (Mm ?_)))
 refine ZP 4 (fun _ : Unit => [(40, .bool ((!(ja s (⟨#[]⟩ : ByteArray))) && (decide ((s.size : Int) ≤ 20))))]) (fun _ w' => w = w') ?_ ?_
 ·simp only [List.take, List.drop]
  rcases Be (!(ja s (⟨#[]⟩ : ByteArray))) with hc31 | hc31
  ·refine Gf hc31 (Mm (Gf hc31 (Vy (zdv rfl underlying9 rfl) (Gf hc31 (Vy (JA rfl rfl) (Vy (zF rfl hc31 rfl) ?_))))))
   exact zn fun a ha => ⟨(), ha.sub ⟨(by rw [hc31]; rfl), trivial⟩, rfl⟩
  refine Gm hc31 (Gm hc31 (Gm hc31 (Vy (zG rfl hc31 rfl) ?_)))
  exact zn fun a ha => ⟨(), ha.sub ⟨(by rw [hc31]; rfl), trivial⟩, rfl⟩
 simp only [List.take, List.drop]
 rintro _ _ rfl
 refine As (To ?_)
 obtain rfl := Oi hm
 refine Rt (Res.one results88 rfl) ?_
 exact ⟨rfl, rfl⟩
theorem JS (w : World) {A : Nat → Prop} (hA : ∀ b, w.heap.size ≤ b → A b) (l : (List zi)) (v_l : Value) (h_l : Sl A w v_l l) {r : Int} (hm : qO l = some r) : Ret prog 60 #[v_l] w fun v w' => v = Ii r ∧ Kp Dw w w' := by
 unfold qO at hm
 refine enter func60 rfl ntmps60 rfl ?_
 have hA0 := hA
 obtain ⟨hB, hK, hH⟩ := St (Dw := Dw) hA
 refine Sr (As (To ?_))
 refine zh (Sr (Mm (Vy (zA h_l rfl underlying36 rfl) (Vy (qz rfl rfl) (To ?_)))))
 refine Cc (fun hc3 => ?_) fun hc3 => ?_
 ·rw [if_pos hc3] at hm
  refine Sr (As (To ?_))
  obtain rfl := Oi hm
  refine Rt (Res.one results60 rfl) ?_
  exact ⟨rfl, hK.kp⟩
 rw [if_neg (nt hc3)] at hm
 refine Sk ?_
 refine zh (Sr (Mm (Vy (zA h_l rfl underlying36 rfl) (Mm (To ?_)))))
 have hn25 := Sl.le h_l
 obtain ⟨o4, ho4, hm⟩ := Bs hm
 refine zu (ι := (Unit × (Nat → Prop))) (fun ⟨s5, A12⟩ => []) (fun ⟨s5, A12⟩ => fun w' => o4 = .fin s5 ∧ Hp w.heap.size A12 w' ([]) ∧ Tr Dw w.heap.size A w A12 w') ?_ ?_
 ·refine zl ?_
  refine zS ho4 (fun k7 _ a w' => ∃ i : (Nat → Prop), Has ⟨40, [], none⟩ a ([(0, v_l), (8, v_l), (9, Ii (l.length : Int)), (10, Ii (k7 : Int))]) ∧ Hp w.heap.size i w' ([]) ∧ Tr Dw w.heap.size A w i w') (fun a ha => ⟨A, ha.sb, ⟨hH, Tr.refl (Dw := Dw) hA⟩⟩) ?_
  rintro K k7 _ a w15 ⟨A16, ha59, hH17, hr6⟩ hle21 K24 h23
  refine C_of ?_ ha59
  obtain ⟨h_l, hK, hB, hA⟩ := U1 hr6 hK hB h_l
  replace hH := hH17
  refine Sr (Vy (zR rfl rfl) (To ?_))
  refine zh ?_
  refine Cc (fun hc26 => ?_) fun hc26 => ?_
  ·have hlt22 := zL hc26
   obtain ⟨x18, h19, h20⟩ := K24 hlt22
   refine Sk ?_
   refine zh (zl (Sr (Mm ?_)))
   obtain ⟨x27, hx27, h19⟩ := Bs h19
   refine zy h_l hx27 underlying36 sizeOf64 rfl rfl rfl ?_
   intro b28 o29 h30
   obtain ⟨h31, _⟩ := zal h30
   refine Vy (zx h31 isAgg64 sizeOf64 rfl) ?_
   refine Zf zeroValue64 rfl ?_
   intro b32 w33 h34
   refine As ?_
   refine Sn h34 sizeOf64 ?_
   intro w35 h36
   have hk38 := h36.kp (Dw := Dw)
   have h37 : El (α := zi) A16 w35 b32 0 x27 := h36.el hA ⟨[.string x27.name], _, rfl, rfl, rfl⟩
   have ht39 := Kp.tr hk38 hA hB; replace hH := Hp.kp hH hk38; replace hr6 := Tt hr6 ht39
   obtain ⟨h_l, hK, hB, hA⟩ := U1 ht39 hK hB h_l
   refine To ?_
   refine zl (Sr ?_)
   have h40 := jM h37
   refine Fa underlying64 rfl sizeOf9 (Ld (El.str h40) isAgg9 ?_)
   obtain ⟨x41, hx41, h19⟩ := Bs h19
   refine Vc call88 (zhV w35 x27.name hx41) ?_
   rintro _ _ ⟨rfl, rfl⟩
   refine Vy (Zs rfl) (As (To ?_))
   refine Cc (fun hc42 => ?_) fun hc42 => ?_
   ·rw [if_pos hc42] at h19
    refine Sr (As (To ?_))
    obtain rfl := Oi h19
    obtain rfl := (h20 : Lp.rt _ = _)
    rw [Lp.andThen_rt] at hm
    obtain rfl := Oi hm
    refine Rt (Res.one results60 rfl) ?_
    exact ⟨rfl, hK.kp⟩
   rw [if_neg (nt hc42)] at h19
   refine zh ?_
   refine ZR (Dw := Dw) zH (by kernel_rfl) ?_
   refine Qm (Qv (fun w' hw' => qz rfl rfl) (Qm ?_))
   obtain ⟨s44, hs44, h19⟩ := Bs h19
   refine jG 10 (fun _ : Unit => [(0, v_l), (4, Pt b32), (8, v_l), (9, Ii (l.length : Int)), (10, Ii (k7 : Int)), (33, .bool s44)]) (fun _ => True) ?_ ?_
   ·simp only [List.take, List.drop]
    rcases Be (decide ((0 : Int) < (k7 : Int))) with hc43 | hc43
    ·rw [if_pos hc43] at hs44
     refine Qh hc43 ?_
     have h45 := jM h37
     refine Qf underlying64 rfl sizeOf9 (Qh hc43 (Ql (fun w' hw' => (El.str (El.kp h45 hw'))) isAgg9 (Qh hc43 (Qm (Qh hc43 (Qm (Qh hc43 (Qv (fun w' hw' => Qw rfl rfl) (Qh hc43 ?_)))))))))
     obtain ⟨x46, hx46, hs44⟩ := Bs hs44
     refine Zl h_l hx46 underlying36 sizeOf64 rfl rfl rfl ?_
     intro b47 o48 h49
     refine Qh hc43 ?_
     have h50 := jM h49
     refine Qf underlying64 rfl sizeOf9 (Qh hc43 (Ql (fun w' hw' => (El.str (El.kp h50 hw'))) isAgg9 (Qh hc43 (Qv (fun w' hw' => zly rfl rfl) ?_))))
     refine VQ_y (fun _ _ => zF rfl hc43 rfl) rfl rfl rfl ?_
     obtain rfl := Oi hs44
     exact ZK fun a ha => ⟨(), ha.sb, trivial⟩
    rw [if_neg (nt hc43)] at hs44
    refine Qg hc43 (Qg hc43 (Qg hc43 (Qg hc43 (Qg hc43 (Qg hc43 (Qg hc43 (Qg hc43 (Qg hc43 ?_))))))))
    refine VQ_y (fun _ _ => zG rfl hc43 rfl) rfl rfl rfl ?_
    obtain rfl := Oi hs44
    exact ZK fun a ha => ⟨(), ha.sb, trivial⟩
   simp only [List.take, List.drop]
   rintro _ _
   refine Qa ?_
   refine jR (fun _ _ => rfl) (fun w51 hk52 => ?_)
   have ht53 := Kp.tr hk52 hA hB; replace hH := Hp.kp hH hk52; replace h37 := El.tr h37 ht53; replace hK := Tt hK ht53; replace hr6 := Tt hr6 ht53
   refine Cc (fun hc54 => ?_) fun hc54 => ?_
   ·rw [if_pos hc54] at h19
    refine Sr (As (To ?_))
    obtain rfl := Oi h19
    obtain rfl := (h20 : Lp.rt _ = _)
    rw [Lp.andThen_rt] at hm
    obtain rfl := Oi hm
    refine Rt (Res.one results60 rfl) ?_
    exact ⟨rfl, hK.kp⟩
   rw [if_neg (nt hc54)] at h19
   refine Sr ?_
   have h55 := zau h37
   refine Fa underlying64 rfl sizeOf3 (Li h55 isAgg3 ?_)
   refine Vc call52 (Zq w51 x27.rank 1 9) ?_
   rintro _ _ ⟨rfl, rfl⟩
   refine Vy (Zs rfl) (As (To ?_))
   refine Cc (fun hc56 => ?_) fun hc56 => ?_
   ·rw [if_pos hc56] at h19
    refine Sr (As (To ?_))
    obtain rfl := Oi h19
    obtain rfl := (h20 : Lp.rt _ = _)
    rw [Lp.andThen_rt] at hm
    obtain rfl := Oi hm
    refine Rt (Res.one results60 rfl) ?_
    exact ⟨rfl, hK.kp⟩
   rw [if_neg (nt hc56)] at h19
   refine Sk ?_
   refine zo (Vy (zN rfl rfl) (Mm ?_))
   obtain rfl := Oi h19
   refine zn (fun a ha57 => ?_)
   exact ⟨(), hlt22, h20, ⟨A16, ha57.sub ⟨rfl, rfl, rfl, Ws hlt22 hn25, trivial⟩, ⟨hH, hr6⟩⟩⟩
  refine zQ (fun a ha58 => ?_)
  exact ⟨((), A16), ha58.sub trivial, ⟨(h23 (zK hle21 hc26)).symm, hH, hr6⟩⟩
 rintro ⟨s5, A12⟩ w9 ⟨rfl, hH13, hk10⟩ a ha11
 rw [Lp.andThen_fin] at hm
 replace hK := Tr.trans hK hk10; replace hA := hk10.new; replace hH := hH13
 refine C_at (n := ⟨40, [], none⟩) (fun _ _ => rfl) ?_ ha11
 refine Sr (As (To ?_))
 obtain rfl := Oi hm
 refine Rt (Res.one results60 rfl) ?_
 exact ⟨rfl, hK.kp⟩
theorem JV (w : World) {A : Nat → Prop} (hA : ∀ b, w.heap.size ≤ b → A b) (l : (List zd)) (v_l : Value) (h_l : Sl A w v_l l) {r : Int} (hm : ZT l = some r) : Ret prog 50 #[v_l] w fun v w' => v = Ii r ∧ Kp Dw w w' := by
 unfold ZT at hm
 refine enter func50 rfl ntmps50 rfl ?_
 have hA0 := hA
 obtain ⟨hB, hK, hH⟩ := St (Dw := Dw) hA
 refine Sr (As (To ?_))
 refine zh (Sr (Mm (Vy (zA h_l rfl underlying22 rfl) (Vy (qz rfl rfl) (To ?_)))))
 refine Cc (fun hc3 => ?_) fun hc3 => ?_
 ·rw [if_pos hc3] at hm
  refine Sr (As (To ?_))
  obtain rfl := Oi hm
  refine Rt (Res.one results50 rfl) ?_
  exact ⟨rfl, hK.kp⟩
 rw [if_neg (nt hc3)] at hm
 refine Sk ?_
 refine zh (Sr (Mm (Vy (zA h_l rfl underlying22 rfl) (Mm (To ?_)))))
 have hn25 := Sl.le h_l
 obtain ⟨o4, ho4, hm⟩ := Bs hm
 refine zu (ι := (Unit × (Nat → Prop))) (fun ⟨s5, A12⟩ => []) (fun ⟨s5, A12⟩ => fun w' => o4 = .fin s5 ∧ Hp w.heap.size A12 w' ([]) ∧ Tr Dw w.heap.size A w A12 w') ?_ ?_
 ·refine zl ?_
  refine zS ho4 (fun k7 _ a w' => ∃ i : (Nat → Prop), Has ⟨53, [], none⟩ a ([(0, v_l), (9, v_l), (10, Ii (l.length : Int)), (11, Ii (k7 : Int))]) ∧ Hp w.heap.size i w' ([]) ∧ Tr Dw w.heap.size A w i w') (fun a ha => ⟨A, ha.sb, ⟨hH, Tr.refl (Dw := Dw) hA⟩⟩) ?_
  rintro K k7 _ a w15 ⟨A16, ha75, hH17, hr6⟩ hle21 K24 h23
  refine C_of ?_ ha75
  obtain ⟨h_l, hK, hB, hA⟩ := U1 hr6 hK hB h_l
  replace hH := hH17
  refine Sr (Vy (zR rfl rfl) (To ?_))
  refine zh ?_
  refine Cc (fun hc26 => ?_) fun hc26 => ?_
  ·have hlt22 := zL hc26
   obtain ⟨x18, h19, h20⟩ := K24 hlt22
   refine Sk ?_
   refine zh (zl (Sr (Mm ?_)))
   obtain ⟨x27, hx27, h19⟩ := Bs h19
   refine zy h_l hx27 underlying22 sizeOf61 rfl rfl rfl ?_
   intro b28 o29 h30
   obtain ⟨v31, h33, h32⟩ := Zo h30
   refine Vy (zx h33 isAgg61 sizeOf61 rfl) ?_
   refine Zf zeroValue61 rfl ?_
   intro b34 w35 h36
   refine As ?_
   have h41 := Sl.oc h32
   refine Sn h36 sizeOf61 ?_
   intro w37 h38
   have hk43 := h38.kp (Dw := Dw)
   have h42 : El (α := zd) A16 w37 b34 0 x27 := h38.el hA ⟨[Ii x27.no], _, rfl, rfl, ⟨[Ii x27.capacity], _, rfl, rfl, ⟨[Ii x27.calendar], _, rfl, rfl, ⟨_, rfl, h32⟩⟩⟩⟩
   have ht44 := Kp.tr hk43 hA hB; replace hH := Hp.kp hH hk43; replace hr6 := Tt hr6 ht44
   obtain ⟨h_l, hK, hB, hA⟩ := U1 ht44 hK hB h_l
   refine To ?_
   refine zh (zl (Sr ?_))
   have h45 := ZB h42
   refine Fa underlying61 rfl sizeOf3 (Li h45 isAgg3 ?_)
   refine Vc call52 (Zq w37 x27.no 1 40) ?_
   rintro _ _ ⟨rfl, rfl⟩
   refine Vy (Zs rfl) (As (To ?_))
   refine Cc (fun hc46 => ?_) fun hc46 => ?_
   ·rw [if_pos hc46] at h19
    refine Sr (As (To ?_))
    obtain rfl := Oi h19
    obtain rfl := (h20 : Lp.rt _ = _)
    rw [Lp.andThen_rt] at hm
    obtain rfl := Oi hm
    refine Rt (Res.one results50 rfl) ?_
    exact ⟨rfl, hK.kp⟩
   rw [if_neg (nt hc46)] at h19
   refine zh ?_
   refine ZR (Dw := Dw) zH (by kernel_rfl) ?_
   refine Qm (Qv (fun w' hw' => qz rfl rfl) (Qm ?_))
   obtain ⟨s48, hs48, h19⟩ := Bs h19
   refine jG 10 (fun _ : Unit => [(0, v_l), (4, Pt b34), (9, v_l), (10, Ii (l.length : Int)), (11, Ii (k7 : Int)), (34, .bool s48)]) (fun _ => True) ?_ ?_
   ·simp only [List.take, List.drop]
    rcases Be (decide ((0 : Int) < (k7 : Int))) with hc47 | hc47
    ·rw [if_pos hc47] at hs48
     refine Qh hc47 ?_
     have h49 := ZB h42
     refine Qf underlying61 rfl sizeOf3 (Qh hc47 (Qi h49 isAgg3 (Qh hc47 (Qm (Qh hc47 (Qm (Qh hc47 (Qv (fun w' hw' => Qw rfl rfl) (Qh hc47 ?_)))))))))
     obtain ⟨x50, hx50, hs48⟩ := Bs hs48
     refine Zl h_l hx50 underlying22 sizeOf61 rfl rfl rfl ?_
     intro b51 o52 h53
     refine Qh hc47 ?_
     have h54 := ZB h53
     refine Qf underlying61 rfl sizeOf3 (Qh hc47 (Qi h54 isAgg3 (Qh hc47 (Qv (fun w' hw' => JA rfl rfl) ?_))))
     refine VQ_y (fun _ _ => zF rfl hc47 rfl) rfl rfl rfl ?_
     obtain rfl := Oi hs48
     exact ZK fun a ha => ⟨(), ha.sb, trivial⟩
    rw [if_neg (nt hc47)] at hs48
    refine Qg hc47 (Qg hc47 (Qg hc47 (Qg hc47 (Qg hc47 (Qg hc47 (Qg hc47 (Qg hc47 (Qg hc47 ?_))))))))
    refine VQ_y (fun _ _ => zG rfl hc47 rfl) rfl rfl rfl ?_
    obtain rfl := Oi hs48
    exact ZK fun a ha => ⟨(), ha.sb, trivial⟩
   simp only [List.take, List.drop]
   rintro _ _
   refine Qa ?_
   refine jR (fun _ _ => rfl) (fun w55 hk56 => ?_)
   have ht57 := Kp.tr hk56 hA hB; replace hH := Hp.kp hH hk56; replace h42 := El.tr h42 ht57; replace hr6 := Tt hr6 ht57
   obtain ⟨hK, hB, hA⟩ := U0 ht57 hK hB
   refine Cc (fun hc58 => ?_) fun hc58 => ?_
   ·rw [if_pos hc58] at h19
    refine Sr (As (To ?_))
    obtain rfl := Oi h19
    obtain rfl := (h20 : Lp.rt _ = _)
    rw [Lp.andThen_rt] at hm
    obtain rfl := Oi hm
    refine Rt (Res.one results50 rfl) ?_
    exact ⟨rfl, hK.kp⟩
   rw [if_neg (nt hc58)] at h19
   refine Sr ?_
   have h59 := qN h42
   refine Fa underlying61 rfl sizeOf3 (Li h59 isAgg3 ?_)
   refine Vc call52 (Zq w55 x27.capacity 0 100) ?_
   rintro _ _ ⟨rfl, rfl⟩
   refine Vy (Zs rfl) (Mm ?_)
   refine ZP 5 (fun _ : Unit => [(0, v_l), (4, Pt b34), (9, v_l), (10, Ii (l.length : Int)), (11, Ii (k7 : Int)), (45, .bool ((!(zm x27.capacity 0 100)) || (!(zm x27.calendar 0 19))))]) (fun _ w' => w55 = w') ?_ ?_
   ·simp only [List.take, List.drop]
    rcases Be (!(zm x27.capacity 0 100)) with hc60 | hc60
    ·refine Gm hc60 (Gm hc60 (Gm hc60 (Gm hc60 (Vy (zF rfl hc60 rfl) ?_))))
     exact zn fun a ha => ⟨(), ha.sub ⟨rfl, rfl, rfl, rfl, rfl, (by rw [hc60]; rfl), trivial⟩, rfl⟩
    refine Gf hc60 ?_
    have h62 := ju h42
    refine Fa underlying61 rfl sizeOf3 (Gf hc60 (Li h62 isAgg3 (Gf hc60 ?_)))
    refine Vc call52 (Zq w55 x27.calendar 0 19) ?_
    rintro _ _ ⟨rfl, rfl⟩
    refine Gf hc60 (Vy (Zs rfl) (Vy (zG rfl hc60 rfl) ?_))
    exact zn fun a ha => ⟨(), ha.sub ⟨rfl, rfl, rfl, rfl, rfl, (by rw [hc60]; rfl), trivial⟩, rfl⟩
   simp only [List.take, List.drop]
   rintro _ _ rfl
   refine As (To ?_)
   refine Cc (fun hc63 => ?_) fun hc63 => ?_
   ·rw [if_pos hc63] at h19
    refine Sr (As (To ?_))
    obtain rfl := Oi h19
    obtain rfl := (h20 : Lp.rt _ = _)
    rw [Lp.andThen_rt] at hm
    obtain rfl := Oi hm
    refine Rt (Res.one results50 rfl) ?_
    exact ⟨rfl, hK.kp⟩
   rw [if_neg (nt hc63)] at h19
   refine Sk ?_
   refine Sr ?_
   have h64 := Jm h42
   refine Fa underlying61 rfl sizeOf36 ?_
   obtain ⟨v65, h66, h67⟩ := El.list h64
   refine Ld h66 isAgg36 ?_
   obtain ⟨x68, hx68, h19⟩ := Bs h19
   refine Vc call60 (JS (Dw := Dw) w55 hA x27.skills v65 h67 hx68) ?_
   rintro _ w69 ⟨rfl, hk70⟩
   have ht71 := Kp.tr hk70 hA hB; replace hH := Hp.kp hH hk70; replace hK := Tt hK ht71; replace hr6 := Tt hr6 ht71
   refine As (To ?_)
   refine Sr (Mm (Vy (ZW rfl rfl) (To ?_)))
   refine Cc (fun hc72 => ?_) fun hc72 => ?_
   ·rw [if_pos hc72] at h19
    refine Sr (Mm (As (To ?_)))
    obtain rfl := Oi h19
    obtain rfl := (h20 : Lp.rt _ = _)
    rw [Lp.andThen_rt] at hm
    obtain rfl := Oi hm
    refine Rt (Res.one results50 rfl) ?_
    exact ⟨rfl, hK.kp⟩
   rw [if_neg (nt hc72)] at h19
   refine Sk ?_
   refine zo (Vy (zN rfl rfl) (Mm ?_))
   obtain rfl := Oi h19
   refine zn (fun a ha73 => ?_)
   exact ⟨(), hlt22, h20, ⟨A16, ha73.sub ⟨rfl, rfl, rfl, Ws hlt22 hn25, trivial⟩, ⟨hH, hr6⟩⟩⟩
  refine zQ (fun a ha74 => ?_)
  exact ⟨((), A16), ha74.sub trivial, ⟨(h23 (zK hle21 hc26)).symm, hH, hr6⟩⟩
 rintro ⟨s5, A12⟩ w9 ⟨rfl, hH13, hk10⟩ a ha11
 rw [Lp.andThen_fin] at hm
 replace hK := Tr.trans hK hk10; replace hA := hk10.new; replace hH := hH13
 refine C_at (n := ⟨53, [], none⟩) (fun _ _ => rfl) ?_ ha11
 refine Sr (As (To ?_))
 obtain rfl := Oi hm
 refine Rt (Res.one results50 rfl) ?_
 exact ⟨rfl, hK.kp⟩
theorem jJ (w : World) (n : Int) (low : Int) (high : Int) : Ret prog 81 #[Ii n, Ii low, Ii high] w fun v w' => v = .bool (zW n low high) ∧ w = w' := by
 generalize hm : zW n low high = r
 unfold zW at hm
 refine enter func81 rfl ntmps81 rfl ?_
 refine Sr (As (To ?_))
 refine Sr (Mm (Mm (Vy (Qz rfl rfl) (Mm ?_))))
 refine ZP 4 (fun _ : Unit => [(14, .bool ((decide (low ≤ n)) && (decide (n ≤ high))))]) (fun _ w' => w = w') ?_ ?_
 ·simp only [List.take, List.drop]
  rcases Be (decide (low ≤ n)) with hc1 | hc1
  ·refine Gf hc1 (Mm (Gf hc1 (Mm (Gf hc1 (Vy (JA rfl rfl) (Vy (zF rfl hc1 rfl) ?_))))))
   exact zn fun a ha => ⟨(), ha.sub ⟨(by rw [hc1]; rfl), trivial⟩, rfl⟩
  refine Gm hc1 (Gm hc1 (Gm hc1 (Vy (zG rfl hc1 rfl) ?_)))
  exact zn fun a ha => ⟨(), ha.sub ⟨(by rw [hc1]; rfl), trivial⟩, rfl⟩
 simp only [List.take, List.drop]
 rintro _ _ rfl
 refine As (To ?_)
 obtain rfl := hm
 refine Rt (Res.one results81 rfl) ?_
 exact ⟨rfl, rfl⟩
theorem zfG (w : World) {A : Nat → Prop} (hA : ∀ b, w.heap.size ≤ b → A b) (z : Zc) (v_z : Value) (h_z : Sl A w v_z z.changes) {r : Int} (hm : jp z = some r) : Ret prog 79 #[.agg #[Ii z.offset, v_z]] w fun v w' => v = Ii r ∧ Kp Dw w w' := by
 unfold jp at hm
 refine enter func79 rfl ntmps79 rfl ?_
 have hA0 := hA
 obtain ⟨hB, hK, hH⟩ := St (Dw := Dw) hA
 refine Sr ?_
 refine Zy rfl rfl ?_
 intro b3 w4 h5
 have hk7 := h5.kp (Dw := Dw)
 have h6 : El (α := Zc) A w4 b3 0 z := h5.el hA ⟨[Ii z.offset], _, rfl, rfl, ⟨_, rfl, h_z⟩⟩
 have ht8 := Kp.tr hk7 hA hB; replace hH := Hp.kp hH hk7
 obtain ⟨hK, hB, hA⟩ := U0 ht8 hK hB
 refine As (To ?_)
 refine zh (Sr ?_)
 have h9 := zbu h6
 refine Fa underlying67 rfl sizeOf3 (Li h9 isAgg3 ?_)
 refine Vc call81 (jJ w4 z.offset (-1440) 1440) ?_
 rintro _ _ ⟨rfl, rfl⟩
 refine Vy (Zs rfl) (To ?_)
 refine Cc (fun hc10 => ?_) fun hc10 => ?_
 ·rw [if_pos hc10] at hm
  refine Sr (As (To ?_))
  obtain rfl := Oi hm
  refine Rt (Res.one results79 rfl) ?_
  exact ⟨rfl, hK.kp⟩
 rw [if_neg (nt hc10)] at hm
 refine Sk ?_
 refine zh (Sr ?_)
 have h11 := zbx h6
 refine Fa underlying67 rfl sizeOf65 ?_
 obtain ⟨v12, h13, h14⟩ := El.list h11
 refine Ld h13 isAgg65 (Vy (zA h14 rfl underlying65 rfl) (Vy (qz rfl rfl) (To ?_)))
 refine Cc (fun hc15 => ?_) fun hc15 => ?_
 ·rw [if_pos hc15] at hm
  refine Sr (As (To ?_))
  obtain rfl := Oi hm
  refine Rt (Res.one results79 rfl) ?_
  exact ⟨rfl, hK.kp⟩
 rw [if_neg (nt hc15)] at hm
 refine Sk ?_
 refine zh ?_
 refine ZR (Dw := Dw) zH (by kernel_rfl) ?_
 have h16 := zbu h6
 refine Qf underlying67 rfl sizeOf3 (Qi h16 isAgg3 (Qa (Qa ?_)))
 refine jR (fun _ _ => rfl) (fun w17 hk18 => ?_)
 have ht19 := Kp.tr hk18 hA hB; replace hH := Hp.kp hH hk18; replace h6 := El.tr h6 ht19
 obtain ⟨hK, hB, hA⟩ := U0 ht19 hK hB
 refine zh (Sr ?_)
 have h20 := zbx h6
 refine Fa underlying67 rfl sizeOf65 ?_
 obtain ⟨v21, h22, h23⟩ := El.list h20
 refine Ld h22 isAgg65 (Vy (zA h23 rfl underlying65 rfl) (Mm (To ?_)))
 have hn44 := Sl.le h23
 obtain ⟨o24, ho24, hm⟩ := Bs hm
 refine zu (ι := ((Int × Int) × (Nat → Prop))) (fun ⟨s25, A31⟩ => []) (fun ⟨s25, A31⟩ => fun w' => o24 = .fin s25 ∧ Hp w.heap.size A31 w' ([]) ∧ Tr Dw w.heap.size A w17 A31 w') ?_ ?_
 ·refine zl ?_
  refine zS ho24 (fun k27 s33 a w' => ∃ i : (Nat → Prop), Has ⟨50, [], none⟩ a ([(3, Ii s33.1), (4, Ii s33.2), (18, v21), (19, Ii (z.changes.length : Int)), (20, Ii (k27 : Int))]) ∧ Hp w.heap.size i w' ([]) ∧ Tr Dw w.heap.size A w17 i w') (fun a ha => ⟨A, ha.sb, ⟨hH, Tr.refl (Dw := Dw) hA⟩⟩) ?_
  rintro K k27 s33 a w34 ⟨A35, ha75, hH36, hr26⟩ hle40 K43 h42
  refine C_of ?_ ha75
  obtain ⟨h23, hK, hB, hA⟩ := U1 hr26 hK hB h23
  replace hH := hH36
  refine Sr (Vy (zR rfl rfl) (To ?_))
  refine zh ?_
  refine Cc (fun hc45 => ?_) fun hc45 => ?_
  ·have hlt41 := zL hc45
   obtain ⟨x37, h38, h39⟩ := K43 hlt41
   refine Sk ?_
   refine zh (zl (Sr ?_))
   obtain ⟨x46, hx46, h38⟩ := Bs h38
   refine zy h23 hx46 underlying65 sizeOf74 rfl rfl rfl ?_
   intro b47 o48 h49
   obtain ⟨h50, _⟩ := zdO h49
   refine Vy (zx h50 isAgg74 sizeOf74 rfl) ?_
   refine Zf zeroValue74 rfl ?_
   intro b51 w52 h53
   refine Sn h53 sizeOf74 ?_
   intro w54 h55
   have hk57 := h55.kp (Dw := Dw)
   have h56 : El (α := zU) A35 w54 b51 0 x46 := h55.el hA ⟨[Ii x46.at_], _, rfl, rfl, rfl⟩
   have ht58 := Kp.tr hk57 hA hB; replace hH := Hp.kp hH hk57; replace hr26 := Tt hr26 ht58
   obtain ⟨hK, hB, hA⟩ := U0 ht58 hK hB
   refine To ?_
   refine zh (zl (Sr ?_))
   have h59 := jW h56
   refine Fa underlying74 rfl sizeOf3 (Li h59 isAgg3 ?_)
   refine Vc call81 (jJ w54 x46.at_ 1 3000000) ?_
   rintro _ _ ⟨rfl, rfl⟩
   refine Vy (Zs rfl) (Mm ?_)
   refine ZP 5 (fun _ : Unit => [(3, Ii s33.1), (4, Ii s33.2), (6, Pt b51), (18, v21), (19, Ii (z.changes.length : Int)), (20, Ii (k27 : Int)), (34, .bool ((!(zW x46.at_ 1 3000000)) || (!(zW x46.offset (-1440) 1440))))]) (fun _ w' => w54 = w') ?_ ?_
   ·simp only [List.take, List.drop]
    rcases Be (!(zW x46.at_ 1 3000000)) with hc60 | hc60
    ·refine Gm hc60 (Gm hc60 (Gm hc60 (Gm hc60 (Vy (zF rfl hc60 rfl) ?_))))
     exact zn fun a ha => ⟨(), ha.sub ⟨rfl, rfl, rfl, rfl, rfl, rfl, (by rw [hc60]; rfl), trivial⟩, rfl⟩
    refine Gf hc60 ?_
    have h62 := JW h56
    refine Fa underlying74 rfl sizeOf3 (Gf hc60 (Li h62 isAgg3 (Gf hc60 ?_)))
    refine Vc call81 (jJ w54 x46.offset (-1440) 1440) ?_
    rintro _ _ ⟨rfl, rfl⟩
    refine Gf hc60 (Vy (Zs rfl) (Vy (zG rfl hc60 rfl) ?_))
    exact zn fun a ha => ⟨(), ha.sub ⟨rfl, rfl, rfl, rfl, rfl, rfl, (by rw [hc60]; rfl), trivial⟩, rfl⟩
   simp only [List.take, List.drop]
   rintro _ _ rfl
   refine As (To ?_)
   refine Cc (fun hc63 => ?_) fun hc63 => ?_
   ·rw [if_pos hc63] at h38
    refine Sr (As (To ?_))
    obtain rfl := Oi h38
    obtain rfl := (h39 : Lp.rt _ = _)
    rw [Lp.andThen_rt] at hm
    obtain rfl := Oi hm
    refine Rt (Res.one results79 rfl) ?_
    exact ⟨rfl, hK.kp⟩
   rw [if_neg (nt hc63)] at h38
   refine Sr ?_
   have h64 := jW h56
   refine Fa underlying74 rfl sizeOf3 (Li h64 isAgg3 (Mm (Vy (JA rfl rfl) (As (To ?_)))))
   refine Cc (fun hc65 => ?_) fun hc65 => ?_
   ·rw [if_pos hc65] at h38
    refine Sr (As (To ?_))
    obtain rfl := Oi h38
    obtain rfl := (h39 : Lp.rt _ = _)
    rw [Lp.andThen_rt] at hm
    obtain rfl := Oi hm
    refine Rt (Res.one results79 rfl) ?_
    exact ⟨rfl, hK.kp⟩
   rw [if_neg (nt hc65)] at h38
   refine Sr ?_
   have h66 := JW h56
   refine Fa underlying74 rfl sizeOf3 (Li h66 isAgg3 (Mm (Vy (ql rfl rfl) (As (To ?_)))))
   refine Cc (fun hc67 => ?_) fun hc67 => ?_
   ·rw [if_pos hc67] at h38
    refine Sr (As (To ?_))
    obtain rfl := Oi h38
    obtain rfl := (h39 : Lp.rt _ = _)
    rw [Lp.andThen_rt] at hm
    obtain rfl := Oi hm
    refine Rt (Res.one results79 rfl) ?_
    exact ⟨rfl, hK.kp⟩
   rw [if_neg (nt hc67)] at h38
   refine Sk ?_
   refine ZR (Dw := Dw) zH (by kernel_rfl) ?_
   have h68 := jW h56
   refine Qf underlying74 rfl sizeOf3 (Qi h68 isAgg3 ?_)
   have h69 := JW h56
   refine Qf underlying74 rfl sizeOf3 (Qi h69 isAgg3 (Qa (Qa ?_)))
   refine jR (fun _ _ => rfl) (fun w70 hk71 => ?_)
   have ht72 := Kp.tr hk71 hA hB; replace hH := Hp.kp hH hk71; replace hr26 := Tt hr26 ht72
   refine zo (Vy (zN rfl rfl) (Mm ?_))
   obtain rfl := Oi h38
   refine zn (fun a ha73 => ?_)
   exact ⟨(x46.at_, x46.offset), hlt41, h39, ⟨A35, ha73.sub ⟨rfl, rfl, rfl, rfl, Ws hlt41 hn44, trivial⟩, ⟨hH, hr26⟩⟩⟩
  refine zQ (fun a ha74 => ?_)
  exact ⟨((s33.1, s33.2), A35), ha74.sub trivial, ⟨(h42 (zK hle40 hc45)).symm, hH, hr26⟩⟩
 rintro ⟨s25, A31⟩ w28 ⟨rfl, hH32, hk29⟩ a ha30
 rw [Lp.andThen_fin] at hm
 replace hK := Tr.trans hK hk29; replace hA := hk29.new; replace hH := hH32
 refine C_at (n := ⟨50, [], none⟩) (fun _ _ => rfl) ?_ ha30
 refine Sr (As (To ?_))
 obtain rfl := Oi hm
 refine Rt (Res.one results79 rfl) ?_
 exact ⟨rfl, hK.kp⟩
theorem zcA (w : World) (x : Int) : Ret prog 84 #[Ii x] w fun v w' => v = .bool (QL x) ∧ w = w' := by
 generalize hm : QL x = r
 unfold QL at hm
 refine enter func84 rfl ntmps84 rfl ?_
 refine Sr (As (To ?_))
 refine Sr (Mm (Mm (Vy (ZW rfl rfl) (As (To ?_)))))
 obtain rfl := hm
 refine Rt (Res.one results84 rfl) ?_
 exact ⟨rfl, rfl⟩
theorem ZO (w : World) (x : Int) (y : Int) : Ret prog 55 #[Ii x, Ii y] w fun v w' => v = Ii (zj x y) ∧ w = w' := by
 generalize hm : zj x y = r
 unfold zj at hm
 refine enter func55 rfl ntmps55 rfl ?_
 refine Sr (As (To ?_))
 refine Sr (Mm ?_)
 refine Vc call84 (zcA w x) ?_
 rintro _ _ ⟨rfl, rfl⟩
 refine As (To ?_)
 refine Sr (Mm ?_)
 refine Vc call84 (zcA w y) ?_
 rintro _ _ ⟨rfl, rfl⟩
 refine As (To ?_)
 refine zh (Sr (Mm (To ?_)))
 refine Cc (fun hc1 => ?_) fun hc1 => ?_
 ·rw [if_pos hc1] at hm
  refine zh (Sr (Mm (To ?_)))
  refine Cc (fun hc2 => ?_) fun hc2 => ?_
  ·rw [if_pos hc2] at hm
   refine Sr (As (To ?_))
   obtain rfl := hm
   refine Rt (Res.one results55 rfl) ?_
   exact ⟨rfl, rfl⟩
  rw [if_neg (nt hc2)] at hm
  refine Sk ?_
  refine Sr (As (To ?_))
  obtain rfl := hm
  refine Rt (Res.one results55 rfl) ?_
  exact ⟨rfl, rfl⟩
 rw [if_neg (nt hc1)] at hm
 refine Sk ?_
 refine zh (Sr (Mm (To ?_)))
 refine Cc (fun hc3 => ?_) fun hc3 => ?_
 ·rw [if_pos hc3] at hm
  refine Sr (As (To ?_))
  obtain rfl := hm
  refine Rt (Res.one results55 rfl) ?_
  exact ⟨rfl, rfl⟩
 rw [if_neg (nt hc3)] at hm
 refine Sk ?_
 refine zh (Sr (Mm (Mm (Vy (zR rfl rfl) (To ?_)))))
 refine Cc (fun hc4 => ?_) fun hc4 => ?_
 ·rw [if_pos hc4] at hm
  refine Sr (As (To ?_))
  obtain rfl := hm
  refine Rt (Res.one results55 rfl) ?_
  exact ⟨rfl, rfl⟩
 rw [if_neg (nt hc4)] at hm
 refine Sk ?_
 refine zh (Sr (Mm (Mm (Vy (qz rfl rfl) (To ?_)))))
 refine Cc (fun hc5 => ?_) fun hc5 => ?_
 ·rw [if_pos hc5] at hm
  refine Sr (As (To ?_))
  obtain rfl := hm
  refine Rt (Res.one results55 rfl) ?_
  exact ⟨rfl, rfl⟩
 rw [if_neg (nt hc5)] at hm
 refine Sk ?_
 refine Sr (As (To ?_))
 obtain rfl := hm
 refine Rt (Res.one results55 rfl) ?_
 exact ⟨rfl, rfl⟩
theorem zcd (w : World) {A : Nat → Prop} (vals : (List Int)) (v_vals : Value) (h_vals : Sl A w v_vals vals) {r : Int} (hm : jx vals = some r) : Ret prog 131 #[v_vals] w fun v w' => v = Ii r ∧ w = w' := by
 unfold jx at hm
 refine enter func131 rfl ntmps131 rfl ?_
 refine Sr (As (To ?_))
 refine Sr (As (To ?_))
 refine zh (Sr (Mm (Vy (zA h_vals rfl underlying26 rfl) (Mm (To ?_)))))
 have hn19 := Sl.le h_vals
 obtain ⟨o3, ho3, hm⟩ := Bs hm
 refine zu (ι := Unit) (fun (s4 : Unit) => [(3, Ii 0)]) (fun (s4 : Unit) => fun w' => o3 = .fin s4 ∧ w = w') ?_ ?_
 ·refine zl ?_
  refine zS ho3 (fun k6 _ a w' => ∃ i : Unit, Has ⟨18, [], none⟩ a ([(3, Ii 0), (6, v_vals), (7, Ii (vals.length : Int)), (8, Ii (k6 : Int))]) ∧ w = w') (fun a ha => ⟨(), ha.sb, rfl⟩) ?_
  rintro K k6 _ a _ ⟨_, ha28, rfl⟩ hle15 K18 h17
  refine C_of ?_ ha28
  refine Sr (Vy (zR rfl rfl) (To ?_))
  refine zh ?_
  refine Cc (fun hc20 => ?_) fun hc20 => ?_
  ·have hlt16 := zL hc20
   obtain ⟨x12, h13, h14⟩ := K18 hlt16
   refine Sk ?_
   refine zh (zl (Sr ?_))
   obtain ⟨x21, hx21, h13⟩ := Bs h13
   refine zy h_vals hx21 underlying26 sizeOf3 rfl rfl rfl ?_
   intro b22 o23 h24
   refine Li h24 isAgg3 (As (To ?_))
   refine Sr (Mm (Mm (Vy (ZW rfl rfl) (To ?_))))
   refine Cc (fun hc25 => ?_) fun hc25 => ?_
   ·rw [if_pos hc25] at h13
    refine Sr (Mm (As (To ?_)))
    obtain rfl := Oi h13
    obtain rfl := (h14 : Lp.rt _ = _)
    rw [Lp.andThen_rt] at hm
    obtain rfl := Oi hm
    refine Rt (Res.one results131 rfl) ?_
    exact ⟨rfl, rfl⟩
   rw [if_neg (nt hc25)] at h13
   refine Sk ?_
   refine zo (Vy (zN rfl rfl) (Mm ?_))
   obtain rfl := Oi h13
   refine zn (fun a ha26 => ?_)
   exact ⟨(), hlt16, h14, ⟨(), ha26.sub ⟨rfl, rfl, rfl, Ws hlt16 hn19, trivial⟩, rfl⟩⟩
  refine zQ (fun a ha27 => ?_)
  exact ⟨(), ha27.sb, ⟨(h17 (zK hle15 hc20)).symm, rfl⟩⟩
 rintro s4 _ ⟨rfl, rfl⟩ a ha9
 rw [Lp.andThen_fin] at hm
 refine C_at (n := ⟨18, [], none⟩) (fun _ _ => rfl) ?_ ha9
 refine Sr (Mm (As (To ?_)))
 obtain rfl := Oi hm
 refine Rt (Res.one results131 rfl) ?_
 exact ⟨rfl, rfl⟩
theorem zin (w : World) {A : Nat → Prop} (hA : ∀ b, w.heap.size ≤ b → A b) (a_ : zp) (b : zp) {r : Bool} (hm : zbp a_ b = some r) : Ret prog 100 #[.agg #[Ii a_.day, Ii a_.from_, Ii a_.to_], .agg #[Ii b.day, Ii b.from_, Ii b.to_]] w fun v w' => v = .bool r ∧ Kp Dw w w' := by
 unfold zbp at hm
 refine enter func100 rfl ntmps100 rfl ?_
 have hA0 := hA
 obtain ⟨hB, hK, hH⟩ := St (Dw := Dw) hA
 refine Sr ?_
 refine Zy rfl rfl ?_
 intro b1 w2 h3
 have hk5 := h3.kp (Dw := Dw)
 have h4 : El (α := zp) A w2 b1 0 a_ := h3.el hA ⟨[Ii a_.day], _, rfl, rfl, ⟨[Ii a_.from_], _, rfl, rfl, rfl⟩⟩
 have ht6 := Kp.tr hk5 hA hB
 obtain ⟨hK, hB, hA⟩ := U0 ht6 hK hB
 refine Zy rfl rfl ?_
 intro b7 w9 h10
 have hk12 := h10.kp (Dw := Dw)
 have h11 : El (α := zp) A w9 b7 0 b := h10.el hA ⟨[Ii b.day], _, rfl, rfl, ⟨[Ii b.from_], _, rfl, rfl, rfl⟩⟩
 have ht13 := Kp.tr hk12 hA hB; replace h4 := El.tr h4 ht13
 obtain ⟨hK, hB, hA⟩ := U0 ht13 hK hB
 refine As (To ?_)
 refine zh ?_
 refine ZZ (Dw := Dw) 15 zH (by kernel_rfl) ?_
 simp only [List.take, List.drop]
 have h14 := Ju h4
 refine Qf underlying77 rfl sizeOf3 (Qi h14 isAgg3 ?_)
 have h15 := Ju h11
 refine Qf underlying77 rfl sizeOf3 (Qi h15 isAgg3 ?_)
 refine Qo (Ii (zj a_.day b.day)) call55 rfl rfl rfl rfl (fun w' hw' => (ZO w' a_.day b.day).mono (fun _ _ h => ⟨h.1, h.2 ▸ hw'⟩)) ?_
 have h16 := QV h4
 refine Qf underlying77 rfl sizeOf3 (Qi h16 isAgg3 ?_)
 have h17 := QV h11
 refine Qf underlying77 rfl sizeOf3 (Qi h17 isAgg3 ?_)
 refine Qo (Ii (zj a_.from_ b.from_)) call55 rfl rfl rfl rfl (fun w' hw' => (ZO w' a_.from_ b.from_).mono (fun _ _ h => ⟨h.1, h.2 ▸ hw'⟩)) ?_
 have h18 := jB h4
 refine Qf underlying77 rfl sizeOf3 (Qi h18 isAgg3 ?_)
 have h19 := jB h11
 refine Qf underlying77 rfl sizeOf3 (Qi h19 isAgg3 ?_)
 refine Qo (Ii (zj a_.to_ b.to_)) call55 rfl rfl rfl rfl (fun w' hw' => (ZO w' a_.to_ b.to_).mono (fun _ _ h => ⟨h.1, h.2 ▸ hw'⟩)) ?_
 refine QU (fun w20 hk21 => ?_)
 try simp only [List.take, List.drop]
 have ht22 := Kp.tr hk21 hA hB
 obtain ⟨hK, hB, hA⟩ := U0 ht22 hK hB
 refine zX (Dw := Dw) (cells := #[Ii (zj a_.day b.day), Ii (zj a_.from_ b.from_), Ii (zj a_.to_ b.to_)]) (l := ([(zj a_.day b.day), (zj a_.from_ b.from_), (zj a_.to_ b.to_)] : List Int)) (len := 3) underlying26 sizeOf3 zeroValue3 rfl (by generalize ((zj a_.from_ b.from_) : Int) = z27; generalize ((zj a_.day b.day) : Int) = z28; generalize ((zj a_.to_ b.to_) : Int) = z29; kernel_rfl) (show (3 * 1 : Nat) ≠ 0 by decide) (show (3 * 1 : Nat) ≤ 2 ^ 24 by decide) hA ⟨[Ii (zj a_.day b.day)], _, rfl, rfl, ⟨[Ii (zj a_.from_ b.from_)], _, rfl, rfl, ⟨[Ii (zj a_.to_ b.to_)], _, rfl, rfl, rfl⟩⟩⟩ rfl rfl ?_
 intro v23 w24 hk26 h25
 have ht30 := Kp.tr hk26 hA hB; replace hK := Tt hK ht30
 obtain ⟨x31, hx31, hm⟩ := Bs hm
 refine Vc call131 (zcd w24 ([(zj a_.day b.day), (zj a_.from_ b.from_), (zj a_.to_ b.to_)] : List Int) v23 h25 hx31) ?_
 rintro _ _ ⟨rfl, rfl⟩
 refine Vy (qz rfl rfl) (As (To ?_))
 obtain rfl := Oi hm
 refine Rt (Res.one results100 rfl) ?_
 exact ⟨rfl, hK.kp⟩
theorem zbF (w : World) {A : Nat → Prop} (hA : ∀ b, w.heap.size ≤ b → A b) (l : (List zp)) (v_l : Value) (h_l : Sl A w v_l l) (dated : Bool) {r : Int} (hm : jj l dated = some r) : Ret prog 80 #[v_l, .bool dated] w fun v w' => v = Ii r ∧ Kp Dw w w' := by
 unfold jj at hm
 refine enter func80 rfl ntmps80 rfl ?_
 have hA0 := hA
 obtain ⟨hB, hK, hH⟩ := St (Dw := Dw) hA
 refine Sr (As (To ?_))
 refine zh (Sr (Mm (Vy (zA h_l rfl underlying68 rfl) (Mm (To ?_)))))
 have hn23 := Sl.le h_l
 obtain ⟨o3, ho3, hm⟩ := Bs hm
 refine zu (ι := (Unit × (Nat → Prop))) (fun ⟨s4, A10⟩ => []) (fun ⟨s4, A10⟩ => fun w' => o3 = .fin s4 ∧ Hp w.heap.size A10 w' ([]) ∧ Tr Dw w.heap.size A w A10 w') ?_ ?_
 ·refine zl ?_
  refine zS ho3 (fun k6 _ a w' => ∃ i : (Nat → Prop), Has ⟨58, [], none⟩ a ([(0, v_l), (1, .bool dated), (7, v_l), (8, Ii (l.length : Int)), (9, Ii (k6 : Int))]) ∧ Hp w.heap.size i w' ([]) ∧ Tr Dw w.heap.size A w i w') (fun a ha => ⟨A, ha.sb, ⟨hH, Tr.refl (Dw := Dw) hA⟩⟩) ?_
  rintro K k6 _ a w13 ⟨A14, ha71, hH15, hr5⟩ hle19 K22 h21
  refine C_of ?_ ha71
  obtain ⟨h_l, hK, hB, hA⟩ := U1 hr5 hK hB h_l
  replace hH := hH15
  refine Sr (Vy (zR rfl rfl) (To ?_))
  refine zh ?_
  refine Cc (fun hc24 => ?_) fun hc24 => ?_
  ·have hlt20 := zL hc24
   obtain ⟨x16, h17, h18⟩ := K22 hlt20
   refine Sk ?_
   refine zh (zl (Sr (Mm ?_)))
   obtain ⟨x25, hx25, h17⟩ := Bs h17
   refine zy h_l hx25 underlying68 sizeOf77 rfl rfl rfl ?_
   intro b26 o27 h28
   obtain ⟨h29, _⟩ := zae h28
   refine Vy (zx h29 isAgg77 sizeOf77 rfl) ?_
   refine Zf zeroValue77 rfl ?_
   intro b30 w31 h32
   refine As ?_
   refine Sn h32 sizeOf77 ?_
   intro w33 h34
   have hk36 := h34.kp (Dw := Dw)
   have h35 : El (α := zp) A14 w33 b30 0 x25 := h34.el hA ⟨[Ii x25.day], _, rfl, rfl, ⟨[Ii x25.from_], _, rfl, rfl, rfl⟩⟩
   have ht37 := Kp.tr hk36 hA hB; replace hH := Hp.kp hH hk36; replace hr5 := Tt hr5 ht37
   obtain ⟨h_l, hK, hB, hA⟩ := U1 ht37 hK hB h_l
   refine To ?_
   refine zh (Sr (Mm (Mm ?_)))
   refine ZP 4 (fun _ : Unit => [(0, v_l), (1, .bool dated), (5, Ii (k6 : Int)), (6, Pt b30), (7, v_l), (8, Ii (l.length : Int)), (9, Ii (k6 : Int)), (19, .bool (dated && (x25.day != 0)))]) (fun _ w' => w33 = w') ?_ ?_
   ·simp only [List.take, List.drop]
    rcases Be (dated) with hc38 | hc38
    ·refine Gf hc38 ?_
     have h40 := Ju h35
     refine Fa underlying77 rfl sizeOf3 (Gf hc38 (Li h40 isAgg3 (Gf hc38 (Vy (ZW rfl rfl) (Vy (zF rfl hc38 rfl) ?_)))))
     exact zn fun a ha => ⟨(), ha.sub ⟨rfl, rfl, rfl, rfl, rfl, rfl, rfl, (by rw [hc38]; rfl), trivial⟩, rfl⟩
    refine Gm hc38 (Gm hc38 (Gm hc38 (Vy (zG rfl hc38 rfl) ?_)))
    exact zn fun a ha => ⟨(), ha.sub ⟨rfl, rfl, rfl, rfl, rfl, rfl, rfl, (by rw [hc38]; rfl), trivial⟩, rfl⟩
   simp only [List.take, List.drop]
   rintro _ _ rfl
   refine To ?_
   refine Cc (fun hc41 => ?_) fun hc41 => ?_
   ·rw [if_pos hc41] at h17
    refine Sr (As (To ?_))
    obtain rfl := Oi h17
    obtain rfl := (h18 : Lp.rt _ = _)
    rw [Lp.andThen_rt] at hm
    obtain rfl := Oi hm
    refine Rt (Res.one results80 rfl) ?_
    exact ⟨rfl, hK.kp⟩
   rw [if_neg (nt hc41)] at h17
   refine Sk ?_
   refine zh (Sr ?_)
   have h42 := Ju h35
   refine Fa underlying77 rfl sizeOf3 (Li h42 isAgg3 ?_)
   refine Vc call81 (jJ w33 x25.day 0 6) ?_
   rintro _ _ ⟨rfl, rfl⟩
   refine Vy (Zs rfl) (Mm ?_)
   refine ZP 5 (fun _ : Unit => [(0, v_l), (1, .bool dated), (5, Ii (k6 : Int)), (6, Pt b30), (7, v_l), (8, Ii (l.length : Int)), (9, Ii (k6 : Int)), (29, .bool ((!(zW x25.day 0 6)) || (!(zW x25.from_ 0 1439))))]) (fun _ w' => w33 = w') ?_ ?_
   ·simp only [List.take, List.drop]
    rcases Be (!(zW x25.day 0 6)) with hc43 | hc43
    ·refine Gm hc43 (Gm hc43 (Gm hc43 (Gm hc43 (Vy (zF rfl hc43 rfl) ?_))))
     exact zn fun a ha => ⟨(), ha.sub ⟨rfl, rfl, rfl, rfl, rfl, rfl, rfl, (by rw [hc43]; rfl), trivial⟩, rfl⟩
    refine Gf hc43 ?_
    have h45 := QV h35
    refine Fa underlying77 rfl sizeOf3 (Gf hc43 (Li h45 isAgg3 (Gf hc43 ?_)))
    refine Vc call81 (jJ w33 x25.from_ 0 1439) ?_
    rintro _ _ ⟨rfl, rfl⟩
    refine Gf hc43 (Vy (Zs rfl) (Vy (zG rfl hc43 rfl) ?_))
    exact zn fun a ha => ⟨(), ha.sub ⟨rfl, rfl, rfl, rfl, rfl, rfl, rfl, (by rw [hc43]; rfl), trivial⟩, rfl⟩
   simp only [List.take, List.drop]
   rintro _ _ rfl
   refine Mm ?_
   refine ZP 6 (fun _ : Unit => [(0, v_l), (1, .bool dated), (5, Ii (k6 : Int)), (6, Pt b30), (7, v_l), (8, Ii (l.length : Int)), (9, Ii (k6 : Int)), (36, .bool (((!(zW x25.day 0 6)) || (!(zW x25.from_ 0 1439))) || (decide (x25.to_ ≤ x25.from_))))]) (fun _ w' => w33 = w') ?_ ?_
   ·simp only [List.take, List.drop]
    rcases Be (((!(zW x25.day 0 6)) || (!(zW x25.from_ 0 1439)))) with hc46 | hc46
    ·refine Gm hc46 (Gm hc46 (Gm hc46 (Gm hc46 (Gm hc46 (Vy (zF rfl hc46 rfl) ?_)))))
     exact zn fun a ha => ⟨(), ha.sub ⟨rfl, rfl, rfl, rfl, rfl, rfl, rfl, (by rw [hc46]; rfl), trivial⟩, rfl⟩
    refine Gf hc46 ?_
    have h48 := jB h35
    refine Fa underlying77 rfl sizeOf3 (Gf hc46 (Li h48 isAgg3 (Gf hc46 ?_)))
    have h49 := QV h35
    refine Fa underlying77 rfl sizeOf3 (Gf hc46 (Li h49 isAgg3 (Gf hc46 (Vy (JA rfl rfl) (Vy (zG rfl hc46 rfl) ?_)))))
    exact zn fun a ha => ⟨(), ha.sub ⟨rfl, rfl, rfl, rfl, rfl, rfl, rfl, (by rw [hc46]; rfl), trivial⟩, rfl⟩
   simp only [List.take, List.drop]
   rintro _ _ rfl
   refine Mm ?_
   refine ZP 7 (fun _ : Unit => [(0, v_l), (1, .bool dated), (5, Ii (k6 : Int)), (6, Pt b30), (7, v_l), (8, Ii (l.length : Int)), (9, Ii (k6 : Int)), (44, .bool ((((!(zW x25.day 0 6)) || (!(zW x25.from_ 0 1439))) || (decide (x25.to_ ≤ x25.from_))) || (decide ((w64 (x25.from_ + 1440)) < x25.to_))))]) (fun _ w' => w33 = w') ?_ ?_
   ·simp only [List.take, List.drop]
    rcases Be ((((!(zW x25.day 0 6)) || (!(zW x25.from_ 0 1439))) || (decide (x25.to_ ≤ x25.from_)))) with hc50 | hc50
    ·refine Gm hc50 (Gm hc50 (Gm hc50 (Gm hc50 (Gm hc50 (Gm hc50 (Vy (zF rfl hc50 rfl) ?_))))))
     exact zn fun a ha => ⟨(), ha.sub ⟨rfl, rfl, rfl, rfl, rfl, rfl, rfl, (by rw [hc50]; rfl), trivial⟩, rfl⟩
    refine Gf hc50 ?_
    have h52 := jB h35
    refine Fa underlying77 rfl sizeOf3 (Gf hc50 (Li h52 isAgg3 (Gf hc50 ?_)))
    have h53 := QV h35
    refine Fa underlying77 rfl sizeOf3 (Gf hc50 (Li h53 isAgg3 (Gf hc50 (Vy (zN rfl rfl) (Gf hc50 (Vy (qz rfl rfl) (Vy (zG rfl hc50 rfl) ?_)))))))
    exact zn fun a ha => ⟨(), ha.sub ⟨rfl, rfl, rfl, rfl, rfl, rfl, rfl, (by rw [hc50]; rfl), trivial⟩, rfl⟩
   simp only [List.take, List.drop]
   rintro _ _ rfl
   refine To ?_
   refine Cc (fun hc54 => ?_) fun hc54 => ?_
   ·rw [if_pos hc54] at h17
    refine Sr (As (To ?_))
    obtain rfl := Oi h17
    obtain rfl := (h18 : Lp.rt _ = _)
    rw [Lp.andThen_rt] at hm
    obtain rfl := Oi hm
    refine Rt (Res.one results80 rfl) ?_
    exact ⟨rfl, hK.kp⟩
   rw [if_neg (nt hc54)] at h17
   refine Sk ?_
   refine zh ?_
   refine ZR (Dw := Dw) zH (by kernel_rfl) ?_
   refine Qm (Qv (fun w' hw' => qz rfl rfl) (Qm ?_))
   obtain ⟨s56, hs56, h17⟩ := Bs h17
   refine jG 9 (fun _ : Unit => [(0, v_l), (1, .bool dated), (7, v_l), (8, Ii (l.length : Int)), (9, Ii (k6 : Int)), (56, .bool s56)]) (fun _ => True) ?_ ?_
   ·simp only [List.take, List.drop]
    rcases Be (decide ((0 : Int) < (k6 : Int))) with hc55 | hc55
    ·rw [if_pos hc55] at hs56
     refine Qh hc55 ?_
     obtain ⟨h57, _⟩ := zae h35
     refine Qv (fun w' hw' => zx (At.kp h57 hw' h35.2.1) isAgg77 sizeOf77 rfl) (Qh hc55 (Qm (Qh hc55 (Qm (Qh hc55 (Qv (fun w' hw' => Qw rfl rfl) (Qh hc55 ?_)))))))
     obtain ⟨x58, hx58, hs56⟩ := Bs hs56
     refine Zl h_l hx58 underlying68 sizeOf77 rfl rfl rfl ?_
     intro b59 o60 h61
     refine Qh hc55 ?_
     obtain ⟨h62, _⟩ := zae h61
     refine Qv (fun w' hw' => zx (At.kp h62 hw' h61.2.1) isAgg77 sizeOf77 rfl) (Qh hc55 ?_)
     obtain ⟨x63, hx63, hs56⟩ := Bs hs56
     refine Qo (.bool x63) call100 rfl rfl rfl rfl (fun w' hw' => (zin (Dw := Dw) w' (fun b hb => hA b (Nat.le_trans hw'.size hb)) x25 x58 hx63).mono (fun _ _ h => ⟨h.1, Kp.trans (Dw := Dw) hw' h.2⟩)) ?_
     refine Qh hc55 (Qv (fun w' hw' => Zs rfl) ?_)
     refine VQ_y (fun _ _ => zF rfl hc55 rfl) rfl rfl rfl ?_
     obtain rfl := Oi hs56
     exact ZK fun a ha => ⟨(), ha.sb, trivial⟩
    rw [if_neg (nt hc55)] at hs56
    refine Qg hc55 (Qg hc55 (Qg hc55 (Qg hc55 (Qg hc55 (Qg hc55 (Qg hc55 (Qg hc55 ?_)))))))
    refine VQ_y (fun _ _ => zG rfl hc55 rfl) rfl rfl rfl ?_
    obtain rfl := Oi hs56
    exact ZK fun a ha => ⟨(), ha.sb, trivial⟩
   simp only [List.take, List.drop]
   rintro _ _
   refine jR (fun _ _ => rfl) (fun w65 hk66 => ?_)
   have ht67 := Kp.tr hk66 hA hB; replace hH := Hp.kp hH hk66; replace hK := Tt hK ht67; replace hr5 := Tt hr5 ht67
   refine Cc (fun hc68 => ?_) fun hc68 => ?_
   ·rw [if_pos hc68] at h17
    refine Sr (As (To ?_))
    obtain rfl := Oi h17
    obtain rfl := (h18 : Lp.rt _ = _)
    rw [Lp.andThen_rt] at hm
    obtain rfl := Oi hm
    refine Rt (Res.one results80 rfl) ?_
    exact ⟨rfl, hK.kp⟩
   rw [if_neg (nt hc68)] at h17
   refine Sk ?_
   refine zo (Vy (zN rfl rfl) (Mm ?_))
   obtain rfl := Oi h17
   refine zn (fun a ha69 => ?_)
   exact ⟨(), hlt20, h18, ⟨A14, ha69.sub ⟨rfl, rfl, rfl, rfl, Ws hlt20 hn23, trivial⟩, ⟨hH, hr5⟩⟩⟩
  refine zQ (fun a ha70 => ?_)
  exact ⟨((), A14), ha70.sub trivial, ⟨(h21 (zK hle19 hc24)).symm, hH, hr5⟩⟩
 rintro ⟨s4, A10⟩ w7 ⟨rfl, hH11, hk8⟩ a ha9
 rw [Lp.andThen_fin] at hm
 replace hK := Tr.trans hK hk8; replace hA := hk8.new; replace hH := hH11
 refine C_at (n := ⟨58, [], none⟩) (fun _ _ => rfl) ?_ ha9
 refine Sr (As (To ?_))
 obtain rfl := Oi hm
 refine Rt (Res.one results80 rfl) ?_
 exact ⟨rfl, hK.kp⟩
theorem jQ (w : World) {A : Nat → Prop} (hA : ∀ b, w.heap.size ≤ b → A b) (c : zg) (v_c0 : Value) (h_c0 : Sl A w v_c0 c.zone.changes) (v_c1 : Value) (h_c1 : Sl A w v_c1 c.week) (v_c2 : Value) (h_c2 : Sl A w v_c2 c.specials) {r : Int} (hm : ZD c = some r) : Ret prog 51 #[.agg #[Ii c.zone.offset, v_c0, v_c1, v_c2]] w fun v w' => v = Ii r ∧ Kp Dw w w' := by
 unfold ZD at hm
 refine enter func51 rfl ntmps51 rfl ?_
 have hA0 := hA
 obtain ⟨hB, hK, hH⟩ := St (Dw := Dw) hA
 refine Sr ?_
 refine Zy rfl rfl ?_
 intro b7 w9 h10
 have hk12 := h10.kp (Dw := Dw)
 have h11 : El (α := zg) A w9 b7 0 c := h10.el hA ⟨[Ii c.zone.offset, v_c0], _, rfl, ⟨[Ii c.zone.offset], _, rfl, rfl, ⟨_, rfl, h_c0⟩⟩, ⟨[v_c1], _, rfl, ⟨_, rfl, h_c1⟩, ⟨_, rfl, h_c2⟩⟩⟩
 have ht13 := Kp.tr hk12 hA hB; replace hH := Hp.kp hH hk12
 obtain ⟨hK, hB, hA⟩ := U0 ht13 hK hB
 refine As (To ?_)
 refine zh (Sr ?_)
 have h14 := zbG h11
 refine Fa underlying71 rfl sizeOf67 ?_
 obtain ⟨v15, h17, h16⟩ := zeL h14
 refine Vy (zx h17 isAgg67 sizeOf67 rfl) ?_
 obtain ⟨x18, hx18, hm⟩ := Bs hm
 refine Vc call79 (zfG (Dw := Dw) w9 hA c.zone v15 h16 hx18) ?_
 rintro _ w19 ⟨rfl, hk20⟩
 have ht21 := Kp.tr hk20 hA hB; replace hH := Hp.kp hH hk20; replace h11 := El.tr h11 ht21
 obtain ⟨hK, hB, hA⟩ := U0 ht21 hK hB
 refine As (To ?_)
 refine Sr (Mm (Vy (ZW rfl rfl) (To ?_)))
 refine Cc (fun hc22 => ?_) fun hc22 => ?_
 ·rw [if_pos hc22] at hm
  refine Sr (Mm (As (To ?_)))
  obtain rfl := Oi hm
  refine Rt (Res.one results51 rfl) ?_
  exact ⟨rfl, hK.kp⟩
 rw [if_neg (nt hc22)] at hm
 refine Sk ?_
 refine zh (Sr ?_)
 have h23 := zao h11
 refine Fa underlying71 rfl sizeOf68 ?_
 obtain ⟨v24, h25, h26⟩ := El.list h23
 refine Ld h25 isAgg68 (Vy (zA h26 rfl underlying68 rfl) (Vy (qz rfl rfl) (Mm ?_)))
 refine ZP 5 (fun _ : Unit => [(1, Pt b7), (23, .bool ((decide ((60 : Int) < (c.week.length : Int))) || (decide ((200 : Int) < (c.specials.length : Int)))))]) (fun _ w' => w19 = w') ?_ ?_
 ·simp only [List.take, List.drop]
  rcases Be (decide ((60 : Int) < (c.week.length : Int))) with hc27 | hc27
  ·refine Gm hc27 (Gm hc27 (Gm hc27 (Gm hc27 (Vy (zF rfl hc27 rfl) ?_))))
   exact zn fun a ha => ⟨(), ha.sub ⟨rfl, (by rw [hc27]; rfl), trivial⟩, rfl⟩
  refine Gf hc27 ?_
  have h29 := js h11
  refine Fa underlying71 rfl sizeOf69 (Gf hc27 ?_)
  obtain ⟨v30, h31, h32⟩ := El.list h29
  refine Ld h31 isAgg69 (Gf hc27 (Vy (zA h32 rfl underlying69 rfl) (Gf hc27 (Vy (qz rfl rfl) (Vy (zG rfl hc27 rfl) ?_)))))
  exact zn fun a ha => ⟨(), ha.sub ⟨rfl, (by rw [hc27]; rfl), trivial⟩, rfl⟩
 simp only [List.take, List.drop]
 rintro _ _ rfl
 refine To ?_
 refine Cc (fun hc33 => ?_) fun hc33 => ?_
 ·rw [if_pos hc33] at hm
  refine Sr (As (To ?_))
  obtain rfl := Oi hm
  refine Rt (Res.one results51 rfl) ?_
  exact ⟨rfl, hK.kp⟩
 rw [if_neg (nt hc33)] at hm
 refine Sk ?_
 refine zh (Sr ?_)
 have h34 := zao h11
 refine Fa underlying71 rfl sizeOf68 ?_
 obtain ⟨v35, h36, h37⟩ := El.list h34
 refine Ld h36 isAgg68 ?_
 obtain ⟨x38, hx38, hm⟩ := Bs hm
 refine Vc call80 (zbF (Dw := Dw) w19 hA c.week v35 h37 false hx38) ?_
 rintro _ w39 ⟨rfl, hk40⟩
 have ht41 := Kp.tr hk40 hA hB; replace hH := Hp.kp hH hk40; replace h11 := El.tr h11 ht41
 obtain ⟨hK, hB, hA⟩ := U0 ht41 hK hB
 refine As (To ?_)
 refine Sr (Mm (Vy (ZW rfl rfl) (To ?_)))
 refine Cc (fun hc42 => ?_) fun hc42 => ?_
 ·rw [if_pos hc42] at hm
  refine Sr (Mm (As (To ?_)))
  obtain rfl := Oi hm
  refine Rt (Res.one results51 rfl) ?_
  exact ⟨rfl, hK.kp⟩
 rw [if_neg (nt hc42)] at hm
 refine Sk ?_
 refine zh (Sr ?_)
 have h43 := js h11
 refine Fa underlying71 rfl sizeOf69 ?_
 obtain ⟨v44, h45, h46⟩ := El.list h43
 refine Ld h45 isAgg69 (Vy (zA h46 rfl underlying69 rfl) (Mm (To ?_)))
 have hn67 := Sl.le h46
 obtain ⟨o47, ho47, hm⟩ := Bs hm
 refine zu (ι := (Unit × (Nat → Prop))) (fun ⟨s48, A54⟩ => []) (fun ⟨s48, A54⟩ => fun w' => o47 = .fin s48 ∧ Hp w.heap.size A54 w' ([]) ∧ Tr Dw w.heap.size A w39 A54 w') ?_ ?_
 ·refine zl ?_
  refine zS ho47 (fun k50 _ a w' => ∃ i : (Nat → Prop), Has ⟨70, [], none⟩ a ([(1, Pt b7), (31, v44), (32, Ii (c.specials.length : Int)), (33, Ii (k50 : Int))]) ∧ Hp w.heap.size i w' ([]) ∧ Tr Dw w.heap.size A w39 i w') (fun a ha => ⟨A, ha.sb, ⟨hH, Tr.refl (Dw := Dw) hA⟩⟩) ?_
  rintro K k50 _ a w57 ⟨A58, ha121, hH59, hr49⟩ hle63 K66 h65
  refine C_of ?_ ha121
  replace h11 := El.tr h11 hr49
  obtain ⟨h46, hK, hB, hA⟩ := U1 hr49 hK hB h46
  replace hH := hH59
  refine Sr (Vy (zR rfl rfl) (To ?_))
  refine zh ?_
  refine Cc (fun hc68 => ?_) fun hc68 => ?_
  ·have hlt64 := zL hc68
   obtain ⟨x60, h61, h62⟩ := K66 hlt64
   refine Sk ?_
   refine zh (zl (Sr (Mm ?_)))
   obtain ⟨x69, hx69, h61⟩ := Bs h61
   refine zy h46 hx69 underlying69 sizeOf80 rfl rfl rfl ?_
   intro b70 o71 h72
   obtain ⟨v73, h75, h74⟩ := zbe h72
   refine Vy (zx h75 isAgg80 sizeOf80 rfl) ?_
   refine Zf zeroValue80 rfl ?_
   intro b76 w77 h78
   refine As ?_
   have h83 := Sl.oc h74
   refine Sn h78 sizeOf80 ?_
   intro w79 h80
   have hk85 := h80.kp (Dw := Dw)
   have h84 : El (α := zC) A58 w79 b76 0 x69 := h80.el hA ⟨[Ii x69.day], _, rfl, rfl, ⟨_, rfl, h74⟩⟩
   have ht86 := Kp.tr hk85 hA hB; replace hH := Hp.kp hH hk85; replace h11 := El.tr h11 ht86; replace hr49 := Tt hr49 ht86
   obtain ⟨hK, hB, hA⟩ := U0 ht86 hK hB
   refine To ?_
   refine zh (zl (Sr ?_))
   have h87 := JD h84
   refine Fa underlying80 rfl sizeOf3 (Li h87 isAgg3 ?_)
   refine Vc call81 (jJ w79 x69.day (-1) 2084) ?_
   rintro _ _ ⟨rfl, rfl⟩
   refine Vy (Zs rfl) (As (To ?_))
   refine Cc (fun hc88 => ?_) fun hc88 => ?_
   ·rw [if_pos hc88] at h61
    refine Sr (As (To ?_))
    obtain rfl := Oi h61
    obtain rfl := (h62 : Lp.rt _ = _)
    rw [Lp.andThen_rt] at hm
    obtain rfl := Oi hm
    refine Rt (Res.one results51 rfl) ?_
    exact ⟨rfl, hK.kp⟩
   rw [if_neg (nt hc88)] at h61
   refine zh ?_
   refine ZR (Dw := Dw) zH (by kernel_rfl) ?_
   refine Qm (Qv (fun w' hw' => qz rfl rfl) (Qm ?_))
   obtain ⟨s90, hs90, h61⟩ := Bs h61
   refine jG 11 (fun _ : Unit => [(1, Pt b7), (6, Pt b76), (31, v44), (32, Ii (c.specials.length : Int)), (33, Ii (k50 : Int)), (57, .bool s90)]) (fun _ => True) ?_ ?_
   ·simp only [List.take, List.drop]
    rcases Be (decide ((0 : Int) < (k50 : Int))) with hc89 | hc89
    ·rw [if_pos hc89] at hs90
     refine Qh hc89 ?_
     have h91 := JD h84
     refine Qf underlying80 rfl sizeOf3 (Qh hc89 (Qi h91 isAgg3 (Qh hc89 ?_)))
     have h92 := js h11
     refine Qf underlying71 rfl sizeOf69 (Qh hc89 ?_)
     obtain ⟨v93, h94, h95⟩ := El.list h92
     refine Qc h94 isAgg69 (Qh hc89 (Qm (Qh hc89 (Qv (fun w' hw' => Qw rfl rfl) (Qh hc89 ?_)))))
     obtain ⟨x96, hx96, hs90⟩ := Bs hs90
     refine Zl h95 hx96 underlying69 sizeOf80 rfl rfl rfl ?_
     intro b97 o98 h99
     refine Qh hc89 ?_
     have h100 := JD h99
     refine Qf underlying80 rfl sizeOf3 (Qh hc89 (Qi h100 isAgg3 (Qh hc89 (Qv (fun w' hw' => JA rfl rfl) ?_))))
     refine VQ_y (fun _ _ => zF rfl hc89 rfl) rfl rfl rfl ?_
     obtain rfl := Oi hs90
     exact ZK fun a ha => ⟨(), ha.sb, trivial⟩
    rw [if_neg (nt hc89)] at hs90
    refine Qg hc89 (Qg hc89 (Qg hc89 (Qg hc89 (Qg hc89 (Qg hc89 (Qg hc89 (Qg hc89 (Qg hc89 (Qg hc89 ?_)))))))))
    refine VQ_y (fun _ _ => zG rfl hc89 rfl) rfl rfl rfl ?_
    obtain rfl := Oi hs90
    exact ZK fun a ha => ⟨(), ha.sb, trivial⟩
   simp only [List.take, List.drop]
   rintro _ _
   refine Qa ?_
   refine jR (fun _ _ => rfl) (fun w101 hk102 => ?_)
   have ht103 := Kp.tr hk102 hA hB; replace hH := Hp.kp hH hk102; replace h84 := El.tr h84 ht103; replace hr49 := Tt hr49 ht103
   obtain ⟨hK, hB, hA⟩ := U0 ht103 hK hB
   refine Cc (fun hc104 => ?_) fun hc104 => ?_
   ·rw [if_pos hc104] at h61
    refine Sr (As (To ?_))
    obtain rfl := Oi h61
    obtain rfl := (h62 : Lp.rt _ = _)
    rw [Lp.andThen_rt] at hm
    obtain rfl := Oi hm
    refine Rt (Res.one results51 rfl) ?_
    exact ⟨rfl, hK.kp⟩
   rw [if_neg (nt hc104)] at h61
   refine Sr ?_
   have h105 := jF h84
   refine Fa underlying80 rfl sizeOf68 ?_
   obtain ⟨v106, h107, h108⟩ := El.list h105
   refine Ld h107 isAgg68 (Vy (zA h108 rfl underlying68 rfl) (Vy (qz rfl rfl) (As (To ?_))))
   refine Cc (fun hc109 => ?_) fun hc109 => ?_
   ·rw [if_pos hc109] at h61
    refine Sr (As (To ?_))
    obtain rfl := Oi h61
    obtain rfl := (h62 : Lp.rt _ = _)
    rw [Lp.andThen_rt] at hm
    obtain rfl := Oi hm
    refine Rt (Res.one results51 rfl) ?_
    exact ⟨rfl, hK.kp⟩
   rw [if_neg (nt hc109)] at h61
   refine Sk ?_
   refine Sr ?_
   have h110 := jF h84
   refine Fa underlying80 rfl sizeOf68 ?_
   obtain ⟨v111, h112, h113⟩ := El.list h110
   refine Ld h112 isAgg68 ?_
   obtain ⟨x114, hx114, h61⟩ := Bs h61
   refine Vc call80 (zbF (Dw := Dw) w101 hA x69.shifts v111 h113 true hx114) ?_
   rintro _ w115 ⟨rfl, hk116⟩
   have ht117 := Kp.tr hk116 hA hB; replace hH := Hp.kp hH hk116; replace hK := Tt hK ht117; replace hr49 := Tt hr49 ht117
   refine As (To ?_)
   refine Sr (Mm (Vy (ZW rfl rfl) (To ?_)))
   refine Cc (fun hc118 => ?_) fun hc118 => ?_
   ·rw [if_pos hc118] at h61
    refine Sr (Mm (As (To ?_)))
    obtain rfl := Oi h61
    obtain rfl := (h62 : Lp.rt _ = _)
    rw [Lp.andThen_rt] at hm
    obtain rfl := Oi hm
    refine Rt (Res.one results51 rfl) ?_
    exact ⟨rfl, hK.kp⟩
   rw [if_neg (nt hc118)] at h61
   refine Sk ?_
   refine zo (Vy (zN rfl rfl) (Mm ?_))
   obtain rfl := Oi h61
   refine zn (fun a ha119 => ?_)
   exact ⟨(), hlt64, h62, ⟨A58, ha119.sub ⟨rfl, rfl, rfl, Ws hlt64 hn67, trivial⟩, ⟨hH, hr49⟩⟩⟩
  refine zQ (fun a ha120 => ?_)
  exact ⟨((), A58), ha120.sub trivial, ⟨(h65 (zK hle63 hc68)).symm, hH, hr49⟩⟩
 rintro ⟨s48, A54⟩ w51 ⟨rfl, hH55, hk52⟩ a ha53
 rw [Lp.andThen_fin] at hm
 replace hK := Tr.trans hK hk52; replace hA := hk52.new; replace hH := hH55
 refine C_at (n := ⟨70, [], none⟩) (fun _ _ => rfl) ?_ ha53
 refine Sr (As (To ?_))
 obtain rfl := Oi hm
 refine Rt (Res.one results51 rfl) ?_
 exact ⟨rfl, hK.kp⟩
theorem zbD (w : World) {A : Nat → Prop} (hA : ∀ b, w.heap.size ≤ b → A b) (people : (List zd)) (v_people : Value) (h_people : Sl A w v_people people) (cals : (List zg)) (v_cals : Value) (h_cals : Sl A w v_cals cals) {r : Int} (hm : qQ people cals = some r) : Ret prog 17 #[v_people, v_cals] w fun v w' => v = Ii r ∧ Kp Dw w w' := by
 unfold qQ at hm
 refine enter func17 rfl ntmps17 rfl ?_
 have hA0 := hA
 obtain ⟨hB, hK, hH⟩ := St (Dw := Dw) hA
 refine Sr (As (To ?_))
 refine zh (Sr (Mm ?_))
 obtain ⟨x5, hx5, hm⟩ := Bs hm
 refine Vc call50 (JV (Dw := Dw) w hA people v_people h_people hx5) ?_
 rintro _ w6 ⟨rfl, hk7⟩
 have ht8 := Kp.tr hk7 hA hB; replace hH := Hp.kp hH hk7
 obtain ⟨h_people, h_cals, hK, hB, hA⟩ := U2 ht8 hK hB h_people h_cals
 refine As (To ?_)
 refine Sr (Mm (Vy (ZW rfl rfl) (To ?_)))
 refine Cc (fun hc9 => ?_) fun hc9 => ?_
 ·rw [if_pos hc9] at hm
  refine Sr (Mm (As (To ?_)))
  obtain rfl := Oi hm
  refine Rt (Res.one results17 rfl) ?_
  exact ⟨rfl, hK.kp⟩
 rw [if_neg (nt hc9)] at hm
 refine Sk ?_
 refine zh (Sr (Mm (Vy (zA h_cals rfl underlying23 rfl) (Vy (qz rfl rfl) (To ?_)))))
 refine Cc (fun hc10 => ?_) fun hc10 => ?_
 ·rw [if_pos hc10] at hm
  refine Sr (As (To ?_))
  obtain rfl := Oi hm
  refine Rt (Res.one results17 rfl) ?_
  exact ⟨rfl, hK.kp⟩
 rw [if_neg (nt hc10)] at hm
 refine Sk ?_
 refine zh (Sr (Mm (Vy (zA h_cals rfl underlying23 rfl) (Mm (To ?_)))))
 have hn31 := Sl.le h_cals
 obtain ⟨o11, ho11, hm⟩ := Bs hm
 refine zu (ι := (Unit × (Nat → Prop))) (fun ⟨s12, A18⟩ => [(0, v_people), (1, v_cals)]) (fun ⟨s12, A18⟩ => fun w' => o11 = .fin s12 ∧ Hp w.heap.size A18 w' ([]) ∧ Tr Dw w.heap.size A w6 A18 w') ?_ ?_
 ·refine zl ?_
  refine zS ho11 (fun k14 _ a w' => ∃ i : (Nat → Prop), Has ⟨43, [], none⟩ a ([(0, v_people), (1, v_cals), (19, v_cals), (20, Ii (cals.length : Int)), (21, Ii (k14 : Int))]) ∧ Hp w.heap.size i w' ([]) ∧ Tr Dw w.heap.size A w6 i w') (fun a ha => ⟨A, ha.sb, ⟨hH, Tr.refl (Dw := Dw) hA⟩⟩) ?_
  rintro K k14 _ a w21 ⟨A22, ha75, hH23, hr13⟩ hle27 K30 h29
  refine C_of ?_ ha75
  obtain ⟨h_cals, hK, hB, hA⟩ := U1 hr13 hK hB h_cals
  replace hH := hH23
  refine Sr (Vy (zR rfl rfl) (To ?_))
  refine zh ?_
  refine Cc (fun hc32 => ?_) fun hc32 => ?_
  ·have hlt28 := zL hc32
   obtain ⟨x24, h25, h26⟩ := K30 hlt28
   refine Sk ?_
   refine zh (zl (Sr ?_))
   obtain ⟨x33, hx33, h25⟩ := Bs h25
   refine zy h_cals hx33 underlying23 sizeOf71 rfl rfl rfl ?_
   intro b34 o35 h36
   obtain ⟨v37, v39, v41, h43, h38, h40, h42⟩ := Zg h36
   refine Vy (zx h43 isAgg71 sizeOf71 rfl) ?_
   refine Zf zeroValue71 rfl ?_
   intro b44 w45 h46
   have h51 := Sl.oc h38
   have h54 := Sl.oc h40
   have h57 := Sl.oc h42
   refine Sn h46 sizeOf71 ?_
   intro w47 h48
   have hk59 := h48.kp (Dw := Dw)
   have h58 : El (α := zg) A22 w47 b44 0 x33 := h48.el hA ⟨[Ii x33.zone.offset, v37], _, rfl, ⟨[Ii x33.zone.offset], _, rfl, rfl, ⟨_, rfl, h38⟩⟩, ⟨[v39], _, rfl, ⟨_, rfl, h40⟩, ⟨_, rfl, h42⟩⟩⟩
   have ht60 := Kp.tr hk59 hA hB; replace hH := Hp.kp hH hk59; replace hr13 := Tt hr13 ht60
   obtain ⟨hK, hB, hA⟩ := U0 ht60 hK hB
   refine To ?_
   refine Sr ?_
   obtain ⟨v61, v63, v65, h67, h62, h64, h66⟩ := Zg h58
   refine Vy (zx h67 isAgg71 sizeOf71 rfl) ?_
   obtain ⟨x68, hx68, h25⟩ := Bs h25
   refine Vc call51 (jQ (Dw := Dw) w47 hA x33 v61 h62 v63 h64 v65 h66 hx68) ?_
   rintro _ w69 ⟨rfl, hk70⟩
   have ht71 := Kp.tr hk70 hA hB; replace hH := Hp.kp hH hk70; replace hK := Tt hK ht71; replace hr13 := Tt hr13 ht71
   refine As (To ?_)
   refine Sr (Mm (Vy (ZW rfl rfl) (To ?_)))
   refine Cc (fun hc72 => ?_) fun hc72 => ?_
   ·rw [if_pos hc72] at h25
    refine Sr (Mm (As (To ?_)))
    obtain rfl := Oi h25
    obtain rfl := (h26 : Lp.rt _ = _)
    rw [Lp.andThen_rt] at hm
    obtain rfl := Oi hm
    refine Rt (Res.one results17 rfl) ?_
    exact ⟨rfl, hK.kp⟩
   rw [if_neg (nt hc72)] at h25
   refine Sk ?_
   refine zo (Vy (zN rfl rfl) (Mm ?_))
   obtain rfl := Oi h25
   refine zn (fun a ha73 => ?_)
   exact ⟨(), hlt28, h26, ⟨A22, ha73.sub ⟨rfl, rfl, rfl, rfl, Ws hlt28 hn31, trivial⟩, ⟨hH, hr13⟩⟩⟩
  refine zQ (fun a ha74 => ?_)
  exact ⟨((), A22), ha74.sb, ⟨(h29 (zK hle27 hc32)).symm, hH, hr13⟩⟩
 rintro ⟨s12, A18⟩ w15 ⟨rfl, hH19, hk16⟩ a ha17
 rw [Lp.andThen_fin] at hm
 replace h_people := Sl.tr h_people hk16; replace h_cals := Sl.tr h_cals hk16; replace hK := Tr.trans hK hk16; replace hB := Nat.le_trans hB hk16.ex.size; replace hA := hk16.new; replace hH := hH19
 refine C_at (n := ⟨43, [], none⟩) (fun _ _ => rfl) ?_ ha17
 refine zh (Sr (Mm (Vy (zA h_people rfl underlying22 rfl) (Mm (To ?_)))))
 have hn96 := Sl.le h_people
 obtain ⟨o76, ho76, hm⟩ := Bs hm
 refine zu (ι := (Unit × (Nat → Prop))) (fun ⟨s77, A83⟩ => []) (fun ⟨s77, A83⟩ => fun w' => o76 = .fin s77 ∧ Hp w.heap.size A83 w' ([]) ∧ Tr Dw w.heap.size A18 w15 A83 w') ?_ ?_
 ·refine zl ?_
  refine zS ho76 (fun k79 _ a w' => ∃ i : (Nat → Prop), Has ⟨43, [], none⟩ a ([(1, v_cals), (31, v_people), (32, Ii (people.length : Int)), (33, Ii (k79 : Int))]) ∧ Hp w.heap.size i w' ([]) ∧ Tr Dw w.heap.size A18 w15 i w') (fun a ha => ⟨A18, ha.sb, ⟨hH, Tr.refl (Dw := Dw) hA⟩⟩) ?_
  rintro K k79 _ a w86 ⟨A87, ha120, hH88, hr78⟩ hle92 K95 h94
  refine C_of ?_ ha120
  obtain ⟨h_cals, h_people, hK, hB, hA⟩ := U2 hr78 hK hB h_cals h_people
  replace hH := hH88
  refine Sr (Vy (zR rfl rfl) (To ?_))
  refine zh ?_
  refine Cc (fun hc97 => ?_) fun hc97 => ?_
  ·have hlt93 := zL hc97
   obtain ⟨x89, h90, h91⟩ := K95 hlt93
   refine Sk ?_
   refine zh (zl (Sr ?_))
   obtain ⟨x98, hx98, h90⟩ := Bs h90
   refine zy h_people hx98 underlying22 sizeOf61 rfl rfl rfl ?_
   intro b99 o100 h101
   obtain ⟨v102, h104, h103⟩ := Zo h101
   refine Vy (zx h104 isAgg61 sizeOf61 rfl) ?_
   refine Zf zeroValue61 rfl ?_
   intro b105 w106 h107
   have h112 := Sl.oc h103
   refine Sn h107 sizeOf61 ?_
   intro w108 h109
   have hk114 := h109.kp (Dw := Dw)
   have h113 : El (α := zd) A87 w108 b105 0 x98 := h109.el hA ⟨[Ii x98.no], _, rfl, rfl, ⟨[Ii x98.capacity], _, rfl, rfl, ⟨[Ii x98.calendar], _, rfl, rfl, ⟨_, rfl, h103⟩⟩⟩⟩
   have ht115 := Kp.tr hk114 hA hB; replace hH := Hp.kp hH hk114; replace h_cals := Sl.tr h_cals ht115; replace hK := Tt hK ht115; replace hr78 := Tt hr78 ht115
   refine To ?_
   refine Sr ?_
   have h116 := ju h113
   refine Fa underlying61 rfl sizeOf3 (Li h116 isAgg3 (Mm (Vy (zA h_cals rfl underlying23 rfl) (Vy (Qz rfl rfl) (To ?_)))))
   refine Cc (fun hc117 => ?_) fun hc117 => ?_
   ·rw [if_pos hc117] at h90
    refine Sr (As (To ?_))
    obtain rfl := Oi h90
    obtain rfl := (h91 : Lp.rt _ = _)
    rw [Lp.andThen_rt] at hm
    obtain rfl := Oi hm
    refine Rt (Res.one results17 rfl) ?_
    exact ⟨rfl, hK.kp⟩
   rw [if_neg (nt hc117)] at h90
   refine Sk ?_
   refine zo (Vy (zN rfl rfl) (Mm ?_))
   obtain rfl := Oi h90
   refine zn (fun a ha118 => ?_)
   exact ⟨(), hlt93, h91, ⟨A87, ha118.sub ⟨rfl, rfl, rfl, Ws hlt93 hn96, trivial⟩, ⟨hH, hr78⟩⟩⟩
  refine zQ (fun a ha119 => ?_)
  exact ⟨((), A87), ha119.sub trivial, ⟨(h94 (zK hle92 hc97)).symm, hH, hr78⟩⟩
 rintro ⟨s77, A83⟩ w80 ⟨rfl, hH84, hk81⟩ a ha82
 rw [Lp.andThen_fin] at hm
 replace hK := Tr.trans hK hk81; replace hA := hk81.new; replace hH := hH84
 refine C_at (n := ⟨43, [], none⟩) (fun _ _ => rfl) ?_ ha82
 refine Sr (As (To ?_))
 obtain rfl := Oi hm
 refine Rt (Res.one results17 rfl) ?_
 exact ⟨rfl, hK.kp⟩
theorem zbr (w : World) {A : Nat → Prop} (hA : ∀ b, w.heap.size ≤ b → A b) (l : (List zk)) (v_l : Value) (h_l : Sl A w v_l l) {r : Int} (hm : qD l = some r) : Ret prog 18 #[v_l] w fun v w' => v = Ii r ∧ Kp Dw w w' := by
 unfold qD at hm
 refine enter func18 rfl ntmps18 rfl ?_
 have hA0 := hA
 obtain ⟨hB, hK, hH⟩ := St (Dw := Dw) hA
 refine Sr (As (To ?_))
 refine zh (Sr (Mm (Vy (zA h_l rfl underlying24 rfl) (Vy (qz rfl rfl) (To ?_)))))
 refine Cc (fun hc3 => ?_) fun hc3 => ?_
 ·rw [if_pos hc3] at hm
  refine Sr (As (To ?_))
  obtain rfl := Oi hm
  refine Rt (Res.one results18 rfl) ?_
  exact ⟨rfl, hK.kp⟩
 rw [if_neg (nt hc3)] at hm
 refine Sk ?_
 refine zh (Sr (Mm (Vy (zA h_l rfl underlying24 rfl) (Mm (To ?_)))))
 have hn25 := Sl.le h_l
 obtain ⟨o4, ho4, hm⟩ := Bs hm
 refine zu (ι := (Unit × (Nat → Prop))) (fun ⟨s5, A12⟩ => []) (fun ⟨s5, A12⟩ => fun w' => o4 = .fin s5 ∧ Hp w.heap.size A12 w' ([]) ∧ Tr Dw w.heap.size A w A12 w') ?_ ?_
 ·refine zl ?_
  refine zS ho4 (fun k7 _ a w' => ∃ i : (Nat → Prop), Has ⟨39, [], none⟩ a ([(0, v_l), (8, v_l), (9, Ii (l.length : Int)), (10, Ii (k7 : Int))]) ∧ Hp w.heap.size i w' ([]) ∧ Tr Dw w.heap.size A w i w') (fun a ha => ⟨A, ha.sb, ⟨hH, Tr.refl (Dw := Dw) hA⟩⟩) ?_
  rintro K k7 _ a w15 ⟨A16, ha59, hH17, hr6⟩ hle21 K24 h23
  refine C_of ?_ ha59
  obtain ⟨h_l, hK, hB, hA⟩ := U1 hr6 hK hB h_l
  replace hH := hH17
  refine Sr (Vy (zR rfl rfl) (To ?_))
  refine zh ?_
  refine Cc (fun hc26 => ?_) fun hc26 => ?_
  ·have hlt22 := zL hc26
   obtain ⟨x18, h19, h20⟩ := K24 hlt22
   refine Sk ?_
   refine zh (zl (Sr (Mm ?_)))
   obtain ⟨x27, hx27, h19⟩ := Bs h19
   refine zy h_l hx27 underlying24 sizeOf83 rfl rfl rfl ?_
   intro b28 o29 h30
   obtain ⟨h31, _⟩ := zdS h30
   refine Vy (zx h31 isAgg83 sizeOf83 rfl) ?_
   refine Zf zeroValue83 rfl ?_
   intro b32 w33 h34
   refine As ?_
   refine Sn h34 sizeOf83 ?_
   intro w35 h36
   have hk38 := h36.kp (Dw := Dw)
   have h37 : El (α := zk) A16 w35 b32 0 x27 := h36.el hA ⟨[Ii x27.after], _, rfl, rfl, ⟨[Ii x27.lower], _, rfl, rfl, rfl⟩⟩
   have ht39 := Kp.tr hk38 hA hB; replace hH := Hp.kp hH hk38; replace hr6 := Tt hr6 ht39
   obtain ⟨h_l, hK, hB, hA⟩ := U1 ht39 hK hB h_l
   refine To ?_
   refine zh (Sr ?_)
   have h40 := Je h37
   refine Fa underlying83 rfl sizeOf3 (Li h40 isAgg3 ?_)
   refine Vc call52 (Zq w35 x27.after 1 3000000) ?_
   rintro _ _ ⟨rfl, rfl⟩
   refine Vy (Zs rfl) (Mm ?_)
   refine ZP 5 (fun _ : Unit => [(0, v_l), (3, Ii (k7 : Int)), (4, Pt b32), (8, v_l), (9, Ii (l.length : Int)), (10, Ii (k7 : Int)), (24, .bool ((!(zm x27.after 1 3000000)) || (!(zm x27.lower 0 9))))]) (fun _ w' => w35 = w') ?_ ?_
   ·simp only [List.take, List.drop]
    rcases Be (!(zm x27.after 1 3000000)) with hc41 | hc41
    ·refine Gm hc41 (Gm hc41 (Gm hc41 (Gm hc41 (Vy (zF rfl hc41 rfl) ?_))))
     exact zn fun a ha => ⟨(), ha.sub ⟨rfl, rfl, rfl, rfl, rfl, rfl, (by rw [hc41]; rfl), trivial⟩, rfl⟩
    refine Gf hc41 ?_
    have h43 := zcB h37
    refine Fa underlying83 rfl sizeOf3 (Gf hc41 (Li h43 isAgg3 (Gf hc41 ?_)))
    refine Vc call52 (Zq w35 x27.lower 0 9) ?_
    rintro _ _ ⟨rfl, rfl⟩
    refine Gf hc41 (Vy (Zs rfl) (Vy (zG rfl hc41 rfl) ?_))
    exact zn fun a ha => ⟨(), ha.sub ⟨rfl, rfl, rfl, rfl, rfl, rfl, (by rw [hc41]; rfl), trivial⟩, rfl⟩
   simp only [List.take, List.drop]
   rintro _ _ rfl
   refine To ?_
   refine Cc (fun hc44 => ?_) fun hc44 => ?_
   ·rw [if_pos hc44] at h19
    refine Sr (As (To ?_))
    obtain rfl := Oi h19
    obtain rfl := (h20 : Lp.rt _ = _)
    rw [Lp.andThen_rt] at hm
    obtain rfl := Oi hm
    refine Rt (Res.one results18 rfl) ?_
    exact ⟨rfl, hK.kp⟩
   rw [if_neg (nt hc44)] at h19
   refine Sk ?_
   refine zh ?_
   refine ZR (Dw := Dw) zH (by kernel_rfl) ?_
   refine Qm (Qv (fun w' hw' => qz rfl rfl) (Qm ?_))
   obtain ⟨s46, hs46, h19⟩ := Bs h19
   refine jG 10 (fun _ : Unit => [(0, v_l), (8, v_l), (9, Ii (l.length : Int)), (10, Ii (k7 : Int)), (37, .bool s46)]) (fun _ => True) ?_ ?_
   ·simp only [List.take, List.drop]
    rcases Be (decide ((0 : Int) < (k7 : Int))) with hc45 | hc45
    ·rw [if_pos hc45] at hs46
     refine Qh hc45 ?_
     have h47 := Je h37
     refine Qf underlying83 rfl sizeOf3 (Qh hc45 (Qi h47 isAgg3 (Qh hc45 (Qm (Qh hc45 (Qm (Qh hc45 (Qv (fun w' hw' => Qw rfl rfl) (Qh hc45 ?_)))))))))
     obtain ⟨x48, hx48, hs46⟩ := Bs hs46
     refine Zl h_l hx48 underlying24 sizeOf83 rfl rfl rfl ?_
     intro b49 o50 h51
     refine Qh hc45 ?_
     have h52 := Je h51
     refine Qf underlying83 rfl sizeOf3 (Qh hc45 (Qi h52 isAgg3 (Qh hc45 (Qv (fun w' hw' => JA rfl rfl) ?_))))
     refine VQ_y (fun _ _ => zF rfl hc45 rfl) rfl rfl rfl ?_
     obtain rfl := Oi hs46
     exact ZK fun a ha => ⟨(), ha.sb, trivial⟩
    rw [if_neg (nt hc45)] at hs46
    refine Qg hc45 (Qg hc45 (Qg hc45 (Qg hc45 (Qg hc45 (Qg hc45 (Qg hc45 (Qg hc45 (Qg hc45 ?_))))))))
    refine VQ_y (fun _ _ => zG rfl hc45 rfl) rfl rfl rfl ?_
    obtain rfl := Oi hs46
    exact ZK fun a ha => ⟨(), ha.sb, trivial⟩
   simp only [List.take, List.drop]
   rintro _ _
   refine jR (fun _ _ => rfl) (fun w53 hk54 => ?_)
   have ht55 := Kp.tr hk54 hA hB; replace hH := Hp.kp hH hk54; replace hK := Tt hK ht55; replace hr6 := Tt hr6 ht55
   refine Cc (fun hc56 => ?_) fun hc56 => ?_
   ·rw [if_pos hc56] at h19
    refine Sr (As (To ?_))
    obtain rfl := Oi h19
    obtain rfl := (h20 : Lp.rt _ = _)
    rw [Lp.andThen_rt] at hm
    obtain rfl := Oi hm
    refine Rt (Res.one results18 rfl) ?_
    exact ⟨rfl, hK.kp⟩
   rw [if_neg (nt hc56)] at h19
   refine Sk ?_
   refine zo (Vy (zN rfl rfl) (Mm ?_))
   obtain rfl := Oi h19
   refine zn (fun a ha57 => ?_)
   exact ⟨(), hlt22, h20, ⟨A16, ha57.sub ⟨rfl, rfl, rfl, Ws hlt22 hn25, trivial⟩, ⟨hH, hr6⟩⟩⟩
  refine zQ (fun a ha58 => ?_)
  exact ⟨((), A16), ha58.sub trivial, ⟨(h23 (zK hle21 hc26)).symm, hH, hr6⟩⟩
 rintro ⟨s5, A12⟩ w9 ⟨rfl, hH13, hk10⟩ a ha11
 rw [Lp.andThen_fin] at hm
 replace hK := Tr.trans hK hk10; replace hA := hk10.new; replace hH := hH13
 refine C_at (n := ⟨39, [], none⟩) (fun _ _ => rfl) ?_ ha11
 refine Sr (As (To ?_))
 obtain rfl := Oi hm
 refine Rt (Res.one results18 rfl) ?_
 exact ⟨rfl, hK.kp⟩
theorem Jv (w : World) {A : Nat → Prop} {B : Nat} (hB : B ≤ w.heap.size) (hA : ∀ b, w.heap.size ≤ b → A b) (s : (List zd)) (v_s : Value) (h_s : Sl A w v_s s) {L : List Ob} (hH : Hp B A w (L)) {r : (List zd)} (hm : Zw s = some r) : Ret prog 19 #[v_s] w fun v w' => ∃ s0, ∃ A1 : Nat → Prop, v = s0 ∧ Hp B A1 w' (o_61 s0 r :: L) ∧ Tr Dw B A w A1 w' := by
 unfold Zw at hm
 refine enter func19 rfl ntmps19 rfl ?_
 have hK : Tr Dw B A w A w := Tr.refl (Dw := Dw) hA
 rcases Sl.split h_s with ⟨rfl, rfl⟩ | ⟨a0, n0, c0, rfl⟩
 ·replace hm : some ([] : (List zd)) = some r := by simpa [zt] using hm
  refine Sr (As (To ?_))
  refine zh (Sr (Mm (Vy (Jx rfl rfl underlying22) (To ?_))))
  refine Cc (fun hc => ?_) fun hc => ?_
  ·refine Sr (As (To ?_))
   obtain rfl := Oi hm
   replace hH : Hp B A w (o_61 (.slice none 0 0) ([] : (List zd)) :: L) := Hp.addNil (α := zd) (e := 61) hH
   refine Rt (Res.one results19 rfl) ?_
   exact ⟨.slice none 0 0, A, rfl, hH, hK⟩
  exact absurd hc (by decide)
 refine Sr (As (To ?_))
 refine zh (Sr (Mm (Vy (Jz rfl rfl underlying22) (To ?_))))
 refine Cc (fun hc => ?_) fun hc => ?_
 ·exact absurd hc (by decide)
 refine Sk ?_
 refine Sr ?_
 refine ji (Dw := Dw) (α := zd) hH underlying22 sizeOf61 hB hA rfl ?_
 intro v3 w4 A5 hH6 ht7
 obtain ⟨h_s, hK, hB, hA⟩ := U1 ht7 hK hB h_s
 replace hH := hH6
 refine Mm ?_
 obtain ⟨x8, hx8, hm⟩ := Bs hm
 refine Zv (Dw := Dw) (e := 61) (v := v3) (l := ([] : List zd)) (ti := t61) (bytes := 48) (lim := 2932031007402) hH (i := 0) rfl h_s hx8 underlying22 zeP rfl rfl rfl rfl (by decide) (by decide) (by decide) hB hA rfl rfl rfl ?_
 intro v9 w10 A11 hH12 ht13
 replace hK := Tt hK ht13; replace hH := hH12
 refine As (To ?_)
 obtain rfl := Oi hm
 refine Rt (Res.one results19 rfl) ?_
 exact ⟨v9, A11, rfl, hH, hK⟩
theorem Zx (w : World) {A : Nat → Prop} (hA : ∀ b, w.heap.size ≤ b → A b) (s : (List zi)) (v_s : Value) (h_s : Sl A w v_s s) {r : (List zi)} (hm : zq s = some r) : Ret prog 20 #[v_s] w fun v w' => ∃ s0, v = s0 ∧ Ownd 64 w w' s0 r ∧ Kp Dw w w' := by
 unfold zq at hm
 refine enter func20 rfl ntmps20 rfl ?_
 have hA0 := hA
 obtain ⟨hB, hK, hH⟩ := St (Dw := Dw) hA
 rcases Sl.split h_s with ⟨rfl, rfl⟩ | ⟨a0, n0, c0, rfl⟩
 ·replace hm : some ([] : (List zi)) = some r := by simpa [zt] using hm
  refine Sr (As (To ?_))
  refine zh (Sr (Mm (Vy (Jx rfl rfl underlying36) (To ?_))))
  refine Cc (fun hc => ?_) fun hc => ?_
  ·refine Sr (As (To ?_))
   obtain rfl := Oi hm
   replace hH : Hp w.heap.size A w (obS (α := zi) 64 (.slice none 0 0) ([] : (List zi)) :: []) := Hp.addNil (α := zi) (e := 64) hH
   refine Rt (Res.one results20 rfl) ?_
   exact ⟨.slice none 0 0, rfl, (Hp.ownd hH (i := 0) rfl), hK.kp⟩
  exact absurd hc (by decide)
 refine Sr (As (To ?_))
 refine zh (Sr (Mm (Vy (Jz rfl rfl underlying36) (To ?_))))
 refine Cc (fun hc => ?_) fun hc => ?_
 ·exact absurd hc (by decide)
 refine Sk ?_
 refine Sr ?_
 refine ji (Dw := Dw) (α := zi) hH underlying36 sizeOf64 hB hA rfl ?_
 intro v3 w4 A5 hH6 ht7
 obtain ⟨h_s, hK, hB, hA⟩ := U1 ht7 hK hB h_s
 replace hH := hH6
 refine Mm ?_
 obtain ⟨x8, hx8, hm⟩ := Bs hm
 refine Zv (Dw := Dw) (e := 64) (v := v3) (l := ([] : List zi)) (ti := t64) (bytes := 24) (lim := 5864062014805) hH (i := 0) rfl h_s hx8 underlying36 zeW rfl rfl rfl rfl (by decide) (by decide) (by decide) hB hA rfl rfl rfl ?_
 intro v9 w10 A11 hH12 ht13
 replace hK := Tt hK ht13; replace hH := hH12
 refine As (To ?_)
 obtain rfl := Oi hm
 refine Rt (Res.one results20 rfl) ?_
 exact ⟨v9, rfl, (Hp.ownd hH (i := 0) rfl), hK.kp⟩
theorem JY (w : World) {A : Nat → Prop} (hA : ∀ b, w.heap.size ≤ b → A b) (s : (List zU)) (v_s : Value) (h_s : Sl A w v_s s) {r : (List zU)} (hm : Zn s = some r) : Ret prog 21 #[v_s] w fun v w' => ∃ s0, v = s0 ∧ Ownd 74 w w' s0 r ∧ Kp Dw w w' := by
 unfold Zn at hm
 refine enter func21 rfl ntmps21 rfl ?_
 have hA0 := hA
 obtain ⟨hB, hK, hH⟩ := St (Dw := Dw) hA
 rcases Sl.split h_s with ⟨rfl, rfl⟩ | ⟨a0, n0, c0, rfl⟩
 ·replace hm : some ([] : (List zU)) = some r := by simpa [zt] using hm
  refine Sr (As (To ?_))
  refine zh (Sr (Mm (Vy (Jx rfl rfl underlying65) (To ?_))))
  refine Cc (fun hc => ?_) fun hc => ?_
  ·refine Sr (As (To ?_))
   obtain rfl := Oi hm
   replace hH : Hp w.heap.size A w (obS (α := zU) 74 (.slice none 0 0) ([] : (List zU)) :: []) := Hp.addNil (α := zU) (e := 74) hH
   refine Rt (Res.one results21 rfl) ?_
   exact ⟨.slice none 0 0, rfl, (Hp.ownd hH (i := 0) rfl), hK.kp⟩
  exact absurd hc (by decide)
 refine Sr (As (To ?_))
 refine zh (Sr (Mm (Vy (Jz rfl rfl underlying65) (To ?_))))
 refine Cc (fun hc => ?_) fun hc => ?_
 ·exact absurd hc (by decide)
 refine Sk ?_
 refine Sr ?_
 refine ji (Dw := Dw) (α := zU) hH underlying65 sizeOf74 hB hA rfl ?_
 intro v3 w4 A5 hH6 ht7
 obtain ⟨h_s, hK, hB, hA⟩ := U1 ht7 hK hB h_s
 replace hH := hH6
 refine Mm ?_
 obtain ⟨x8, hx8, hm⟩ := Bs hm
 refine Zv (Dw := Dw) (e := 74) (v := v3) (l := ([] : List zU)) (ti := t74) (bytes := 16) (lim := 8796093022208) hH (i := 0) rfl h_s hx8 underlying65 zio rfl rfl rfl rfl (by decide) (by decide) (by decide) hB hA rfl rfl rfl ?_
 intro v9 w10 A11 hH12 ht13
 replace hK := Tt hK ht13; replace hH := hH12
 refine As (To ?_)
 obtain rfl := Oi hm
 refine Rt (Res.one results21 rfl) ?_
 exact ⟨v9, rfl, (Hp.ownd hH (i := 0) rfl), hK.kp⟩
theorem qH (w : World) {A : Nat → Prop} (hA : ∀ b, w.heap.size ≤ b → A b) (s : (List zp)) (v_s : Value) (h_s : Sl A w v_s s) {r : (List zp)} (hm : zM s = some r) : Ret prog 22 #[v_s] w fun v w' => ∃ s0, v = s0 ∧ Ownd 77 w w' s0 r ∧ Kp Dw w w' := by
 unfold zM at hm
 refine enter func22 rfl ntmps22 rfl ?_
 have hA0 := hA
 obtain ⟨hB, hK, hH⟩ := St (Dw := Dw) hA
 rcases Sl.split h_s with ⟨rfl, rfl⟩ | ⟨a0, n0, c0, rfl⟩
 ·replace hm : some ([] : (List zp)) = some r := by simpa [zt] using hm
  refine Sr (As (To ?_))
  refine zh (Sr (Mm (Vy (Jx rfl rfl underlying68) (To ?_))))
  refine Cc (fun hc => ?_) fun hc => ?_
  ·refine Sr (As (To ?_))
   obtain rfl := Oi hm
   replace hH : Hp w.heap.size A w (obS (α := zp) 77 (.slice none 0 0) ([] : (List zp)) :: []) := Hp.addNil (α := zp) (e := 77) hH
   refine Rt (Res.one results22 rfl) ?_
   exact ⟨.slice none 0 0, rfl, (Hp.ownd hH (i := 0) rfl), hK.kp⟩
  exact absurd hc (by decide)
 refine Sr (As (To ?_))
 refine zh (Sr (Mm (Vy (Jz rfl rfl underlying68) (To ?_))))
 refine Cc (fun hc => ?_) fun hc => ?_
 ·exact absurd hc (by decide)
 refine Sk ?_
 refine Sr ?_
 refine ji (Dw := Dw) (α := zp) hH underlying68 sizeOf77 hB hA rfl ?_
 intro v3 w4 A5 hH6 ht7
 obtain ⟨h_s, hK, hB, hA⟩ := U1 ht7 hK hB h_s
 replace hH := hH6
 refine Mm ?_
 obtain ⟨x8, hx8, hm⟩ := Bs hm
 refine Zv (Dw := Dw) (e := 77) (v := v3) (l := ([] : List zp)) (ti := t77) (bytes := 24) (lim := 5864062014805) hH (i := 0) rfl h_s hx8 underlying68 zeO rfl rfl rfl rfl (by decide) (by decide) (by decide) hB hA rfl rfl rfl ?_
 intro v9 w10 A11 hH12 ht13
 replace hK := Tt hK ht13; replace hH := hH12
 refine As (To ?_)
 obtain rfl := Oi hm
 refine Rt (Res.one results22 rfl) ?_
 exact ⟨v9, rfl, (Hp.ownd hH (i := 0) rfl), hK.kp⟩
theorem JJ (w : World) {A : Nat → Prop} {B : Nat} (hB : B ≤ w.heap.size) (hA : ∀ b, w.heap.size ≤ b → A b) (s : (List zC)) (v_s : Value) (h_s : Sl A w v_s s) {L : List Ob} (hH : Hp B A w (L)) {r : (List zC)} (hm : Zk s = some r) : Ret prog 23 #[v_s] w fun v w' => ∃ s0, ∃ A1 : Nat → Prop, v = s0 ∧ Hp B A1 w' (obS (α := zC) 80 s0 r :: L) ∧ Tr Dw B A w A1 w' := by
 unfold Zk at hm
 refine enter func23 rfl ntmps23 rfl ?_
 have hK : Tr Dw B A w A w := Tr.refl (Dw := Dw) hA
 rcases Sl.split h_s with ⟨rfl, rfl⟩ | ⟨a0, n0, c0, rfl⟩
 ·replace hm : some ([] : (List zC)) = some r := by simpa [zt] using hm
  refine Sr (As (To ?_))
  refine zh (Sr (Mm (Vy (Jx rfl rfl underlying69) (To ?_))))
  refine Cc (fun hc => ?_) fun hc => ?_
  ·refine Sr (As (To ?_))
   obtain rfl := Oi hm
   replace hH : Hp B A w (obS (α := zC) 80 (.slice none 0 0) ([] : (List zC)) :: L) := Hp.addNil (α := zC) (e := 80) hH
   refine Rt (Res.one results23 rfl) ?_
   exact ⟨.slice none 0 0, A, rfl, hH, hK⟩
  exact absurd hc (by decide)
 refine Sr (As (To ?_))
 refine zh (Sr (Mm (Vy (Jz rfl rfl underlying69) (To ?_))))
 refine Cc (fun hc => ?_) fun hc => ?_
 ·exact absurd hc (by decide)
 refine Sk ?_
 refine Sr ?_
 refine ji (Dw := Dw) (α := zC) hH underlying69 sizeOf80 hB hA rfl ?_
 intro v3 w4 A5 hH6 ht7
 obtain ⟨h_s, hK, hB, hA⟩ := U1 ht7 hK hB h_s
 replace hH := hH6
 refine Mm ?_
 obtain ⟨x8, hx8, hm⟩ := Bs hm
 refine Zv (Dw := Dw) (e := 80) (v := v3) (l := ([] : List zC)) (ti := t80) (bytes := 32) (lim := 4398046511104) hH (i := 0) rfl h_s hx8 underlying69 zil rfl rfl rfl rfl (by decide) (by decide) (by decide) hB hA rfl rfl rfl ?_
 intro v9 w10 A11 hH12 ht13
 replace hK := Tt hK ht13; replace hH := hH12
 refine As (To ?_)
 obtain rfl := Oi hm
 refine Rt (Res.one results23 rfl) ?_
 exact ⟨v9, A11, rfl, hH, hK⟩
theorem JZ (w : World) {A : Nat → Prop} (hA : ∀ b, w.heap.size ≤ b → A b) (s : (List zk)) (v_s : Value) (h_s : Sl A w v_s s) {r : (List zk)} (hm : ZJ s = some r) : Ret prog 24 #[v_s] w fun v w' => ∃ s0, v = s0 ∧ Ownd 83 w w' s0 r ∧ Kp Dw w w' := by
 unfold ZJ at hm
 refine enter func24 rfl ntmps24 rfl ?_
 have hA0 := hA
 obtain ⟨hB, hK, hH⟩ := St (Dw := Dw) hA
 rcases Sl.split h_s with ⟨rfl, rfl⟩ | ⟨a0, n0, c0, rfl⟩
 ·replace hm : some ([] : (List zk)) = some r := by simpa [zt] using hm
  refine Sr (As (To ?_))
  refine zh (Sr (Mm (Vy (Jx rfl rfl underlying24) (To ?_))))
  refine Cc (fun hc => ?_) fun hc => ?_
  ·refine Sr (As (To ?_))
   obtain rfl := Oi hm
   replace hH : Hp w.heap.size A w (obS (α := zk) 83 (.slice none 0 0) ([] : (List zk)) :: []) := Hp.addNil (α := zk) (e := 83) hH
   refine Rt (Res.one results24 rfl) ?_
   exact ⟨.slice none 0 0, rfl, (Hp.ownd hH (i := 0) rfl), hK.kp⟩
  exact absurd hc (by decide)
 refine Sr (As (To ?_))
 refine zh (Sr (Mm (Vy (Jz rfl rfl underlying24) (To ?_))))
 refine Cc (fun hc => ?_) fun hc => ?_
 ·exact absurd hc (by decide)
 refine Sk ?_
 refine Sr ?_
 refine ji (Dw := Dw) (α := zk) hH underlying24 sizeOf83 hB hA rfl ?_
 intro v3 w4 A5 hH6 ht7
 obtain ⟨h_s, hK, hB, hA⟩ := U1 ht7 hK hB h_s
 replace hH := hH6
 refine Mm ?_
 obtain ⟨x8, hx8, hm⟩ := Bs hm
 refine Zv (Dw := Dw) (e := 83) (v := v3) (l := ([] : List zk)) (ti := t83) (bytes := 24) (lim := 5864062014805) hH (i := 0) rfl h_s hx8 underlying24 zit rfl rfl rfl rfl (by decide) (by decide) (by decide) hB hA rfl rfl rfl ?_
 intro v9 w10 A11 hH12 ht13
 replace hK := Tt hK ht13; replace hH := hH12
 refine As (To ?_)
 obtain rfl := Oi hm
 refine Rt (Res.one results24 rfl) ?_
 exact ⟨v9, rfl, (Hp.ownd hH (i := 0) rfl), hK.kp⟩
theorem zeK (w : World) {A : Nat → Prop} {B : Nat} (hB : B ≤ w.heap.size) (hA : ∀ b, w.heap.size ≤ b → A b) (people : (List zd)) (v_people : Value) (h_people : Sl A w v_people people) (cals : (List zg)) (v_cals : Value) (h_cals : Sl A w v_cals cals) (steps : (List zk)) (v_steps : Value) (h_steps : Sl A w v_steps steps) {L : List Ob} (hH : Hp B A w (L)) {r : ((Option ze) × Int)} (hm : jm people cals steps = some r) : Ret prog 5 #[v_people, v_cals, v_steps] w fun v w' => (∃ A1 : Nat → Prop, r.1 = none ∧ v = .tuple #[.pointer none, Ii r.2] ∧ Hp B A1 w' (L) ∧ Tr Dw B A w A1 w') ∨ (∃ R, ∃ b0, ∃ p0, ∃ p1, ∃ p2, ∃ p3, ∃ p4, ∃ p5, ∃ q0, ∃ A1 : Nat → Prop, r.1 = some R ∧ v = .tuple #[Pt b0, Ii r.2] ∧ Sl A1 w' p0 R.assigner.people ∧ Sl A1 w' p1 R.assigner.cals ∧ Sl A1 w' p2 R.assigner.steps ∧ Sl A1 w' p4 R.waiting ∧ Sl A1 w' p5 R.held ∧ Hp B A1 w' (obC b0 [p0, p1, p2, p3, Ii R.now, p4, p5, .map (some q0)] 58 :: o_4 p3 R.assigner.away :: obRM (κ := Int) (α := za) q0 R.work :: L) ∧ Tr Dw B A w A1 w') := by
 unfold jm at hm
 refine enter func5 rfl ntmps5 rfl ?_
 have hK : Tr Dw B A w A w := Tr.refl (Dw := Dw) hA
 refine Sr (As (As (To ?_)))
 refine zh (Sr (Mm (Mm ?_)))
 obtain ⟨x7, hx7, hm⟩ := Bs hm
 refine Vc call17 (zbD (Dw := Dw) w hA people v_people h_people cals v_cals h_cals hx7) ?_
 rintro _ w9 ⟨rfl, hk10⟩
 have ht11 := Kp.tr hk10 hA hB; replace hH := Hp.kp hH hk10
 obtain ⟨h_people, h_cals, h_steps, hK, hB, hA⟩ := U3 ht11 hK hB h_people h_cals h_steps
 refine As (To ?_)
 refine Sr (Mm (Vy (ZW rfl rfl) (To ?_)))
 refine Cc (fun hc12 => ?_) fun hc12 => ?_
 ·rw [if_pos hc12] at hm
  refine Sr (Mm (As (As (To ?_))))
  obtain rfl := Oi hm
  refine jP ?_
  try simp only [↓ib, ↓th]
  exact retQ rfl (Res.two results5 rfl rfl) (Or.inl ⟨A, by trivial, rfl, hH, hK⟩)
 rw [if_neg (nt hc12)] at hm
 refine Sk ?_
 refine zh (Sr (Mm ?_))
 obtain ⟨x13, hx13, hm⟩ := Bs hm
 refine Vc call18 (zbr (Dw := Dw) w9 hA steps v_steps h_steps hx13) ?_
 rintro _ w14 ⟨rfl, hk15⟩
 have ht16 := Kp.tr hk15 hA hB; replace hH := Hp.kp hH hk15
 obtain ⟨h_people, h_cals, h_steps, hK, hB, hA⟩ := U3 ht16 hK hB h_people h_cals h_steps
 refine As (To ?_)
 refine Sr (Mm (Vy (ZW rfl rfl) (To ?_)))
 refine Cc (fun hc17 => ?_) fun hc17 => ?_
 ·rw [if_pos hc17] at hm
  refine Sr (Mm (As (As (To ?_))))
  obtain rfl := Oi hm
  refine jP ?_
  try simp only [↓ib, ↓th]
  exact retQ rfl (Res.two results5 rfl rfl) (Or.inl ⟨A, by trivial, rfl, hH, hK⟩)
 rw [if_neg (nt hc17)] at hm
 refine Sk ?_
 refine Sr ?_
 refine zfv (Dw := Dw) (B := B) Int za hH hB hA rfl ?_
 intro b18 w19 A20 hH21 ht22
 obtain ⟨h_people, h_cals, h_steps, hK, hB, hA⟩ := U3 ht22 hK hB h_people h_cals h_steps
 replace hH := hH21
 refine Vy (zaz (cells := #[.slice none 0 0, .slice none 0 0, .slice none 0 0, .slice none 0 0, Ii 0, .slice none 0 0, .slice none 0 0, .map (some b18)]) underlying58 zeroValue58 (zgV _ underlying58) rfl (by with_unfolding_all rfl)) ?_
 refine zhP (Dw := Dw) (B := B) hH rfl hB hA rfl ?_
 intro b23 w24 A25 hH26 ht27
 obtain ⟨h_people, h_cals, h_steps, hK, hB, hA⟩ := U3 ht27 hK hB h_people h_cals h_steps
 replace hH := hH26
 refine As (To ?_)
 refine Sr (Mm (Mm ?_))
 obtain ⟨x28, hx28, hm⟩ := Bs hm
 refine Vc call19 (Jv (Dw := Dw) w24 hB hA people v_people h_people hH hx28) ?_
 rintro v29 w31 ⟨_, A32, rfl, hH33, ht34⟩
 obtain ⟨h_people, h_cals, h_steps, hK, hB, hA⟩ := U3 ht34 hK hB h_people h_cals h_steps
 replace hH := hH33
 refine Nc (Vy (Fc 0 underlying58 rfl sizeOf56 rfl rfl) (Vy (Fc 0 underlying56 rfl sizeOf22 rfl rfl) ?_))
 have h40 := Sl.oc (Hp.any (α := zd) (e := 61) (v := v29) (l := x28) hH (i := 0) rfl)
 refine Sc Dw 0 [v29, .slice none 0 0, .slice none 0 0, .slice none 0 0, Ii 0, .slice none 0 0, .slice none 0 0, .map (some b18)] 1 hH h40 sizeOf22 hB hA ?_
 intro w35 hH36 ht37
 obtain ⟨h_people, h_cals, h_steps, hK, hB, hA⟩ := U3 ht37 hK hB h_people h_cals h_steps
 replace hH := hH36
 refine To ?_
 refine zh (Sr (Mm (Nc (Vy (Fc 0 underlying58 rfl sizeOf56 rfl rfl) (Vy (Fc 0 underlying56 rfl sizeOf22 rfl rfl) (Ld (Hc 0 1 hH rfl rfl) isAgg22 (Vy (zA (Hp.any (α := zd) (e := 61) (v := v29) (l := x28) hH (i := 0) rfl) rfl underlying22 rfl) (Mm (To ?_)))))))))
 replace hH : Hp B A32 w35 (obS (α := zg) 71 (.slice none 0 0) ([] : (List zg)) :: o_61 v29 x28 :: obC b23 [v29, .slice none 0 0, .slice none 0 0, .slice none 0 0, Ii 0, .slice none 0 0, .slice none 0 0, .map (some b18)] 58 :: obRM (κ := Int) (α := za) b18 ([] : List (Int × za)) :: L) := Hp.addNil (α := zg) (e := 71) hH
 replace hH : Hp B A32 w35 (obS (α := zk) 83 (.slice none 0 0) ([] : (List zk)) :: obS (α := zg) 71 (.slice none 0 0) ([] : (List zg)) :: o_61 v29 x28 :: obC b23 [v29, .slice none 0 0, .slice none 0 0, .slice none 0 0, Ii 0, .slice none 0 0, .slice none 0 0, .map (some b18)] 58 :: obRM (κ := Int) (α := za) b18 ([] : List (Int × za)) :: L) := Hp.addNil (α := zk) (e := 83) hH
 replace hH : Hp B A32 w35 (o_4 (.slice none 0 0) ([] : (List Bool)) :: obS (α := zk) 83 (.slice none 0 0) ([] : (List zk)) :: obS (α := zg) 71 (.slice none 0 0) ([] : (List zg)) :: o_61 v29 x28 :: obC b23 [v29, .slice none 0 0, .slice none 0 0, .slice none 0 0, Ii 0, .slice none 0 0, .slice none 0 0, .map (some b18)] 58 :: obRM (κ := Int) (α := za) b18 ([] : List (Int × za)) :: L) := Hp.addNil (α := Bool) (e := 4) hH
 replace hH : Hp B A32 w35 (o_38 (.slice none 0 0) ([] : (List za)) :: o_4 (.slice none 0 0) ([] : (List Bool)) :: obS (α := zk) 83 (.slice none 0 0) ([] : (List zk)) :: obS (α := zg) 71 (.slice none 0 0) ([] : (List zg)) :: o_61 v29 x28 :: obC b23 [v29, .slice none 0 0, .slice none 0 0, .slice none 0 0, Ii 0, .slice none 0 0, .slice none 0 0, .map (some b18)] 58 :: obRM (κ := Int) (α := za) b18 ([] : List (Int × za)) :: L) := Hp.addNil (α := za) (e := 38) hH
 replace hH : Hp B A32 w35 (o_46 (.slice none 0 0) ([] : (List zb)) :: o_38 (.slice none 0 0) ([] : (List za)) :: o_4 (.slice none 0 0) ([] : (List Bool)) :: obS (α := zk) 83 (.slice none 0 0) ([] : (List zk)) :: obS (α := zg) 71 (.slice none 0 0) ([] : (List zg)) :: o_61 v29 x28 :: obC b23 [v29, .slice none 0 0, .slice none 0 0, .slice none 0 0, Ii 0, .slice none 0 0, .slice none 0 0, .map (some b18)] 58 :: obRM (κ := Int) (α := za) b18 ([] : List (Int × za)) :: L) := Hp.addNil (α := zb) (e := 46) hH
 have hn88 := Hp.le (α := zd) (e := 61) (v := v29) (l := x28) hH (i := 5) rfl
 obtain ⟨o41, ho41, hm⟩ := Bs hm
 refine zu (ι := (ze × Value × Value × Value × Value × Value × Value × (Nat → Prop))) (fun ⟨s42, v48, v50, v52, v54, v56, v58, A61⟩ => [(0, v_people), (1, v_cals), (2, v_steps), (10, Pt b23)]) (fun ⟨s42, v48, v50, v52, v54, v56, v58, A61⟩ => fun w' => o41 = .fin s42 ∧ Hp B A61 w' (o_46 v58 s42.held :: o_38 v56 s42.waiting :: o_4 v54 s42.assigner.away :: obS (α := zk) 83 v52 s42.assigner.steps :: obS (α := zg) 71 v50 s42.assigner.cals :: o_61 v48 s42.assigner.people :: obC b23 [v48, v50, v52, v54, Ii s42.now, v56, v58, .map (some b18)] 58 :: obRM (κ := Int) (α := za) b18 s42.work :: L) ∧ Tr Dw B A32 w35 A61 w') ?_ ?_
 ·refine zl ?_
  refine zS ho41 (fun k44 s63 a w' => ∃ i : (Value × Value × Value × Value × Value × Value × (Nat → Prop)), Has ⟨129, [], none⟩ a ([(0, v_people), (1, v_cals), (2, v_steps), (10, Pt b23), (40, Ii (x28.length : Int)), (41, Ii (k44 : Int))]) ∧ Hp B i.2.2.2.2.2.2 w' (o_46 i.2.2.2.2.2.1 s63.held :: o_38 i.2.2.2.2.1 s63.waiting :: o_4 i.2.2.2.1 s63.assigner.away :: obS (α := zk) 83 i.2.2.1 s63.assigner.steps :: obS (α := zg) 71 i.2.1 s63.assigner.cals :: o_61 i.1 s63.assigner.people :: obC b23 [i.1, i.2.1, i.2.2.1, i.2.2.2.1, Ii s63.now, i.2.2.2.2.1, i.2.2.2.2.2.1, .map (some b18)] 58 :: obRM (κ := Int) (α := za) b18 s63.work :: L) ∧ Tr Dw B A32 w35 i.2.2.2.2.2.2 w') (fun a ha => ⟨(v29, .slice none 0 0, .slice none 0 0, .slice none 0 0, .slice none 0 0, .slice none 0 0, A32), ha.sb, ⟨hH, Tr.refl (Dw := Dw) hA⟩⟩) ?_
  rintro K k44 s63 a w65 ⟨⟨v66, v68, v70, v72, v74, v76, A79⟩, ha129, hH80, hr43⟩ hle84 K87 h86
  refine C_of ?_ ha129
  replace hB := Bx hB hr43; replace hA := hr43.new; replace hH := hH80
  refine Sr (Vy (zR rfl rfl) (To ?_))
  refine zh ?_
  refine Cc (fun hc89 => ?_) fun hc89 => ?_
  ·have hlt85 := zL hc89
   obtain ⟨x81, h82, h83⟩ := K87 hlt85
   refine Sk ?_
   refine zh (zl (Sr (Mm (As (To ?_)))))
   refine qX (Dw := Dw) A79 19 [(1, 0), (1, 1), (1, 2), (1, 3), (0, 4), (1, 5), (1, 6), (1, 7), (1, 8), (1, 9), (0, 10), (1, 11), (0, 12), (1, 13), (0, 14), (2, 15), (0, 16), (1, 17), (4, 18)] zH (by kernel_rfl) (fun w90 hk91 => ?_)
   have ht92 := Kp.tr hk91 hA hB; replace hH := Hp.kp hH hk91; replace hr43 := Tt hr43 ht92; replace hB := Bx hB ht92; replace hA := ht92.new
   refine zI rfl (Qm (zB (zI rfl (Qn (zB (zI rfl (Qv (fun w' hw' => Fc 0 underlying58 rfl sizeOf56 rfl rfl) (zB (zI rfl ?_)))))))))
   refine Qv (fun w' hw' => Fc 0 underlying56 rfl sizeOf22 rfl rfl) (zB (qF rfl (Qc (Hc 0 6 hH rfl rfl) isAgg22 (zB (zI rfl (Qm (zB (zI rfl (Qm ?_)))))))))
   refine zB (zI rfl (Qn (zB (zI rfl (Qv (fun w' hw' => Fc 0 underlying58 rfl sizeOf56 rfl rfl) (zB (zI rfl (Qv (fun w' hw' => Fc 0 underlying56 rfl sizeOf22 rfl rfl) (zB ?_)))))))))
   refine qF rfl (Qc (Hc 0 6 hH rfl rfl) isAgg22 (zB (zI rfl (Qm (zB (qF rfl ?_))))))
   obtain ⟨x93, hx93, h82⟩ := Bs h82
   refine Zd (α := zd) (e := 61) (v := v66) (l := s63.assigner.people) hH (i := 5) rfl hx93 underlying22 sizeOf61 rfl rfl rfl ?_
   intro b94 o95 h96 hl97
   refine zB (zI rfl ?_)
   have h98 := Jm h96
   refine Qf underlying61 rfl sizeOf36 (zB (qF rfl ?_))
   obtain ⟨v99, h100, h101⟩ := El.list h98
   refine Qc h100 isAgg36 (zB ?_)
   refine qw (k := 0) rfl ?_
   obtain ⟨x102, hx102, h82⟩ := Bs h82
   refine Vc call20 (Zx (Dw := Dw) w90 (A := fun _ => True) (fun _ _ => trivial) x93.skills v99 (Sl.any h101) hx102) ?_
   rintro v103 w105 ⟨_, rfl, h104, hk106⟩
   obtain ⟨A107, ht108, hH109⟩ := Hp.addOwnd (Dw := Dw) hH hB hA hk106 h104
   replace hr43 := Tt hr43 ht108; replace hB := Bx hB ht108; replace hA := ht108.new; replace hH := hH109
   refine V_CH (hk106) ?_
   refine qF rfl ?_
   refine Zd (α := zd) (e := 61) (v := v66) (l := s63.assigner.people) hH (i := 6) rfl hx93 underlying22 sizeOf61 rfl rfl rfl ?_
   intro b110 o111 h112 hl113
   refine zB (zI rfl ?_)
   have h114 := Jm h112
   refine Qf underlying61 rfl sizeOf36 (zB ?_)
   refine qw (k := 2) rfl ?_
   obtain ⟨A115, ht116, h117, hH118⟩ := Hp.freeze (Dw := Dw) (α := zi) (v := v103) (l := x102) hH (i := 0) rfl hA
   replace hr43 := Tt hr43 ht116; replace hB := Bx hB ht116; replace hA := ht116.new; replace hH := hH118
   obtain ⟨x120, hx120, h82⟩ := Bs h82
   have h126 := Sl.oc h117
   refine zcz (Dw := Dw) (α := zd) (e := 61) (v := v66) (l := s63.assigner.people) (foff := 3) hH (i := 5) rfl hl113 hx93 hx120 (fun _ h => by obtain ⟨_, _, rfl, rfl, ⟨_, _, rfl, rfl, ⟨_, _, rfl, rfl, ⟨v1, rfl, h1⟩⟩⟩⟩ := h; rw [Value.cells_one h126]; exact ⟨[_], _, rfl, rfl, ⟨[_], _, rfl, rfl, ⟨[_], _, rfl, rfl, ⟨_, rfl, h117⟩⟩⟩⟩) sizeOf36 (by rw [← Array.length_toList, Value.cells_one h126]; rfl) (by intro u hu; rw [Value.cells_one h126] at hu; simp at hu; subst hu; exact h126) (by decide) hB hA (congrArg (fun z => some (Value.pointer (some ⟨_, z, none⟩))) (by simp [Nat.add_assoc])) rfl ?_
   intro w121 hH122 ht123
   replace hr43 := Tt hr43 ht123; replace hH := hH122
   refine zaE ?_
   refine jC ?_
   show V _ _ _ _ [] _ _
   refine To ?_
   refine zo (Vy (zN rfl rfl) (Mm ?_))
   obtain rfl := Oi h82
   refine zn (fun a ha127 => ?_)
   exact ⟨(⟨(⟨x120, s63.assigner.cals, s63.assigner.steps, s63.assigner.away⟩ : Zr), s63.now, s63.waiting, s63.held, s63.work⟩ : ze), hlt85, h83, ⟨(v66, v68, v70, v72, v74, v76, A115), ha127.sub ⟨rfl, rfl, rfl, rfl, rfl, Ws hlt85 hn88, trivial⟩, ⟨hH, hr43⟩⟩⟩
  refine zQ (fun a ha128 => ?_)
  exact ⟨(s63, v66, v68, v70, v72, v74, v76, A79), ha128.sb, ⟨(h86 (zK hle84 hc89)).symm, hH, hr43⟩⟩
 rintro ⟨s42, v48, v50, v52, v54, v56, v58, A61⟩ w45 ⟨rfl, hH62, hk46⟩ a ha47
 rw [Lp.andThen_fin] at hm
 replace h_people := Sl.tr h_people hk46; replace h_cals := Sl.tr h_cals hk46; replace h_steps := Sl.tr h_steps hk46; replace hK := Tr.trans hK hk46; replace hB := Nat.le_trans hB hk46.ex.size; replace hA := hk46.new; replace hH := hH62
 refine C_at (n := ⟨129, [], none⟩) (fun _ _ => rfl) ?_ ha47
 refine zh (Sr (Mm (Vy (zA h_cals rfl underlying23 rfl) (Mm (To ?_)))))
 have hn176 := Sl.le h_cals
 obtain ⟨o130, ho130, hm⟩ := Bs hm
 refine zu (ι := (ze × Value × Value × Value × Value × Value × Value × (Nat → Prop))) (fun ⟨s131, v137, v139, v141, v143, v145, v147, A150⟩ => [(0, v_people), (2, v_steps), (10, Pt b23)]) (fun ⟨s131, v137, v139, v141, v143, v145, v147, A150⟩ => fun w' => o130 = .fin s131 ∧ Hp B A150 w' (o_46 v147 s131.held :: o_38 v145 s131.waiting :: o_4 v143 s131.assigner.away :: obS (α := zk) 83 v141 s131.assigner.steps :: obS (α := zg) 71 v139 s131.assigner.cals :: o_61 v137 s131.assigner.people :: obC b23 [v137, v139, v141, v143, Ii s131.now, v145, v147, .map (some b18)] 58 :: obRM (κ := Int) (α := za) b18 s131.work :: L) ∧ Tr Dw B A61 w45 A150 w') ?_ ?_
 ·refine zl ?_
  refine zS ho130 (fun k133 s152 a w' => ∃ i : (Value × Value × Value × Value × Value × Value × (Nat → Prop)), Has ⟨129, [], none⟩ a ([(0, v_people), (2, v_steps), (10, Pt b23), (63, v_cals), (64, Ii (cals.length : Int)), (65, Ii (k133 : Int))]) ∧ Hp B i.2.2.2.2.2.2 w' (o_46 i.2.2.2.2.2.1 s152.held :: o_38 i.2.2.2.2.1 s152.waiting :: o_4 i.2.2.2.1 s152.assigner.away :: obS (α := zk) 83 i.2.2.1 s152.assigner.steps :: obS (α := zg) 71 i.2.1 s152.assigner.cals :: o_61 i.1 s152.assigner.people :: obC b23 [i.1, i.2.1, i.2.2.1, i.2.2.2.1, Ii s152.now, i.2.2.2.2.1, i.2.2.2.2.2.1, .map (some b18)] 58 :: obRM (κ := Int) (α := za) b18 s152.work :: L) ∧ Tr Dw B A61 w45 i.2.2.2.2.2.2 w') (fun a ha => ⟨(v48, v50, v52, v54, v56, v58, A61), ha.sb, ⟨hH, Tr.refl (Dw := Dw) hA⟩⟩) ?_
  rintro K k133 s152 a w153 ⟨⟨v154, v156, v158, v160, v162, v164, A167⟩, ha373, hH168, hr132⟩ hle172 K175 h174
  refine C_of ?_ ha373
  replace h_cals := Sl.tr h_cals hr132; replace hB := Bx hB hr132; replace hA := hr132.new; replace hH := hH168
  refine Sr (Vy (zR rfl rfl) (To ?_))
  refine zh ?_
  refine Cc (fun hc177 => ?_) fun hc177 => ?_
  ·have hlt173 := zL hc177
   obtain ⟨x169, h170, h171⟩ := K175 hlt173
   refine Sk ?_
   refine zh (zl (Sr ?_))
   obtain ⟨x178, hx178, h170⟩ := Bs h170
   refine zy h_cals hx178 underlying23 sizeOf71 rfl rfl rfl ?_
   intro b179 o180 h181
   obtain ⟨v182, v184, v186, h188, h183, h185, h187⟩ := Zg h181
   refine Vy (zx h188 isAgg71 sizeOf71 rfl) ?_
   refine Jj (Dw := Dw) (B := B) hH zeroValue71 hB hA rfl ?_
   intro b189 w190 A191 hH192 ht193
   replace hr132 := Tt hr132 ht193; replace hB := Bx hB ht193; replace hA := ht193.new
   obtain ⟨h183, h185, h187⟩ := T3 ht193 h183 h185 h187
   replace hH := hH192
   have h199 := Sl.oc h183
   have h202 := Sl.oc h185
   have h205 := Sl.oc h187
   refine ZG (Dw := Dw) (off := 0) (ds := [Ii x178.zone.offset, v182, v184, v186]) hH (i := 0) rfl sizeOf71 rfl (Nat.le_of_ble_eq_true rfl) (by exact (List.forall_mem_cons.2 ⟨rfl, (List.forall_mem_cons.2 ⟨h199, (List.forall_mem_cons.2 ⟨h202, (List.forall_mem_cons.2 ⟨h205, (fun _ h => nomatch h)⟩)⟩)⟩)⟩)) rfl hB hA rfl rfl ?_
   intro w194 hH195 ht196
   replace hr132 := Tt hr132 ht196; replace hB := Bx hB ht196; replace hA := ht196.new
   obtain ⟨h183, h185, h187⟩ := T3 ht196 h183 h185 h187
   replace hH := hH195
   refine To ?_
   refine zh ?_
   refine qX (Dw := Dw) A191 17 [(1, 0), (1, 1), (0, 2), (1, 4), (0, 5), (1, 7), (0, 8), (2, 3), (1, 10), (1, 11), (2, 6), (2, 9), (4, 12), (1, 13), (4, 14), (1, 15), (4, 16)] zH (by kernel_rfl) (fun w206 hk207 => ?_)
   have ht208 := Kp.tr hk207 hA hB; replace hH := Hp.kp hH hk207; replace hr132 := Tt hr132 ht208; replace hB := Bx hB ht208; replace hA := ht208.new
   obtain ⟨h183, h185, h187⟩ := T3 ht208 h183 h185 h187
   refine zI rfl (Qv (fun w' hw' => Fc 0 underlying71 rfl sizeOf67 rfl rfl) (zB (zI rfl (Qv (fun w' hw' => Fc 1 underlying67 rfl sizeOf65 rfl rfl) (zB (qF rfl (Qc (Hc 1 0 hH rfl rfl) isAgg65 (zB (zI rfl ?_)))))))))
   refine Qv (fun w' hw' => Fc 2 underlying71 rfl sizeOf68 rfl rfl) (zB (qF rfl (Qc (Hc 2 0 hH rfl rfl) isAgg68 (zB (zI rfl (Qv (fun w' hw' => Fc 3 underlying71 rfl sizeOf69 rfl rfl) (zB (qF rfl (Qc (Hc 3 0 hH rfl rfl) isAgg69 ?_)))))))))
   refine zB ?_
   refine qw (k := 0) rfl ?_
   obtain ⟨x209, hx209, h170⟩ := Bs h170
   refine Vc call21 (JY (Dw := Dw) w206 hA x178.zone.changes v182 h183 hx209) ?_
   rintro v210 w212 ⟨_, rfl, h211, hk213⟩
   obtain ⟨A214, ht215, hH216⟩ := Hp.addOwnd (Dw := Dw) hH hB hA hk213 h211
   replace hr132 := Tt hr132 ht215; replace hB := Bx hB ht215; replace hA := ht215.new
   obtain ⟨h185, h187⟩ := T2 ht215 h185 h187
   replace hH := hH216
   refine V_CH (hk213) ?_
   refine zI rfl (Qv (fun w' hw' => Fc 0 underlying71 rfl sizeOf67 rfl rfl) (zB (zI rfl (Qv (fun w' hw' => Fc 1 underlying67 rfl sizeOf65 rfl rfl) (zB ?_)))))
   refine qw (k := 0) rfl ?_
   obtain ⟨x217, hx217, h170⟩ := Bs h170
   refine Vc call22 (qH (Dw := Dw) w212 hA x178.week v184 h185 hx217) ?_
   rintro v218 w220 ⟨_, rfl, h219, hk221⟩
   obtain ⟨A222, ht223, hH224⟩ := Hp.addOwnd (Dw := Dw) hH hB hA hk221 h219
   replace h187 := Sl.tr h187 ht223; replace hr132 := Tt hr132 ht223; replace hB := Bx hB ht223; replace hA := ht223.new; replace hH := hH224
   refine V_CH (hk221) ?_
   refine qw (k := 0) rfl ?_
   obtain ⟨x225, hx225, h170⟩ := Bs h170
   refine Vc call23 (JJ (Dw := Dw) w220 (B := w220.heap.size) (Nat.le_refl _) hA x178.specials v186 h187 Hp.nil hx225) ?_
   rintro v226 w228 ⟨_, A229, rfl, hH230, ht231⟩
   have hk232 : Kp Dw w220 w228 := ht231.below
   have hH233 := Hp.join (Dw := Dw) hH hB ht231 hH230
   have ht234 := Tr.lower (Dw := Dw) ht231 hB
   replace hr132 := Tt hr132 ht234; replace hB := Bx hB ht234; replace hA := ht234.new; replace hH := hH233
   refine V_CH (hk232) ?_
   refine qw (k := 2) rfl ?_
   have h240 := Sl.oc (Hp.any (α := zU) (e := 74) (v := v210) (l := x209) hH (i := 2) rfl)
   refine Sc Dw 1 [Ii x178.zone.offset, v210, v184, v186] 3 hH h240 sizeOf65 hB hA ?_
   intro w235 hH236 ht237
   replace hr132 := Tt hr132 ht237; replace hB := Bx hB ht237; replace hA := ht237.new; replace hH := hH236
   refine zaE ?_
   refine zI rfl (Qv (fun w' hw' => Fc 2 underlying71 rfl sizeOf68 rfl rfl) (zB ?_))
   refine qw (k := 2) rfl ?_
   have h246 := Sl.oc (Hp.any (α := zp) (e := 77) (v := v218) (l := x217) hH (i := 1) rfl)
   refine Sc Dw 2 [Ii x178.zone.offset, v210, v218, v186] 3 hH h246 sizeOf68 hB hA ?_
   intro w241 hH242 ht243
   replace hr132 := Tt hr132 ht243; replace hB := Bx hB ht243; replace hA := ht243.new; replace hH := hH242
   refine zaE ?_
   refine zI rfl (Qv (fun w' hw' => Fc 3 underlying71 rfl sizeOf69 rfl rfl) (zB ?_))
   refine qw (k := 2) rfl ?_
   have h252 := Sl.oc (Hp.any (α := zC) (e := 80) (v := v226) (l := x225) hH (i := 0) rfl)
   refine Sc Dw 3 [Ii x178.zone.offset, v210, v218, v226] 3 hH h252 sizeOf69 hB hA ?_
   intro w247 hH248 ht249
   replace hr132 := Tt hr132 ht249; replace hB := Bx hB ht249; replace hA := ht249.new; replace hH := hH248
   refine zaE ?_
   refine jC ?_
   show V _ _ _ _ [] _ _
   refine To ?_
   refine zh (Sr (Vy (Fc 3 underlying71 rfl sizeOf69 rfl rfl) (Ld (Hc 3 3 hH rfl rfl) isAgg69 (Vy (zA (Hp.any (α := zC) (e := 80) (v := v226) (l := x225) hH (i := 0) rfl) rfl underlying69 rfl) (Mm (To ?_))))))
   have hn285 := Hp.le (α := zC) (e := 80) (v := v226) (l := x225) hH (i := 0) rfl
   obtain ⟨o253, ho253, h170⟩ := Bs h170
   refine zu (ι := (zg × Value × Value × Value × (Nat → Prop))) (fun ⟨s254, v260, v262, v264, A266⟩ => [(0, v_people), (2, v_steps), (10, Pt b23), (13, Pt b189), (63, v_cals), (64, Ii (cals.length : Int)), (65, Ii (k133 : Int))]) (fun ⟨s254, v260, v262, v264, A266⟩ => fun w' => o253 = .fin s254 ∧ Hp B A266 w' (obS (α := zC) 80 v264 s254.specials :: obS (α := zp) 77 v262 s254.week :: obS (α := zU) 74 v260 s254.zone.changes :: obC b189 [Ii s254.zone.offset, v260, v262, v264] 71 :: o_46 v164 s152.held :: o_38 v162 s152.waiting :: o_4 v160 s152.assigner.away :: obS (α := zk) 83 v158 s152.assigner.steps :: obS (α := zg) 71 v156 s152.assigner.cals :: o_61 v154 s152.assigner.people :: obC b23 [v154, v156, v158, v160, Ii s152.now, v162, v164, .map (some b18)] 58 :: obRM (κ := Int) (α := za) b18 s152.work :: L) ∧ Tr Dw B A229 w247 A266 w') ?_ ?_
   ·refine zl ?_
    refine zS ho253 (fun k256 s268 a w' => ∃ i : (Value × Value × Value × (Nat → Prop)), Has ⟨129, [], none⟩ a ([(0, v_people), (2, v_steps), (10, Pt b23), (13, Pt b189), (63, v_cals), (64, Ii (cals.length : Int)), (65, Ii (k133 : Int)), (85, Ii (x225.length : Int)), (86, Ii (k256 : Int))]) ∧ Hp B i.2.2.2 w' (obS (α := zC) 80 i.2.2.1 s268.specials :: obS (α := zp) 77 i.2.1 s268.week :: obS (α := zU) 74 i.1 s268.zone.changes :: obC b189 [Ii s268.zone.offset, i.1, i.2.1, i.2.2.1] 71 :: o_46 v164 s152.held :: o_38 v162 s152.waiting :: o_4 v160 s152.assigner.away :: obS (α := zk) 83 v158 s152.assigner.steps :: obS (α := zg) 71 v156 s152.assigner.cals :: o_61 v154 s152.assigner.people :: obC b23 [v154, v156, v158, v160, Ii s152.now, v162, v164, .map (some b18)] 58 :: obRM (κ := Int) (α := za) b18 s152.work :: L) ∧ Tr Dw B A229 w247 i.2.2.2 w') (fun a ha => ⟨(v210, v218, v226, A229), ha.sb, ⟨hH, Tr.refl (Dw := Dw) hA⟩⟩) ?_
    rintro K k256 s268 a w269 ⟨⟨v270, v272, v274, A276⟩, ha326, hH277, hr255⟩ hle281 K284 h283
    refine C_of ?_ ha326
    replace hB := Bx hB hr255; replace hA := hr255.new; replace hH := hH277
    refine Sr (Vy (zR rfl rfl) (To ?_))
    refine zh ?_
    refine Cc (fun hc286 => ?_) fun hc286 => ?_
    ·have hlt282 := zL hc286
     obtain ⟨x278, h279, h280⟩ := K284 hlt282
     refine Sk ?_
     refine zh (zl (Sr (Mm (As (To ?_)))))
     refine qX (Dw := Dw) A276 13 [(1, 0), (0, 1), (1, 2), (1, 3), (0, 4), (1, 5), (0, 6), (1, 7), (0, 8), (2, 9), (0, 10), (1, 11), (4, 12)] zH (by kernel_rfl) (fun w287 hk288 => ?_)
     have ht289 := Kp.tr hk288 hA hB; replace hH := Hp.kp hH hk288; replace hr255 := Tt hr255 ht289; replace hB := Bx hB ht289; replace hA := ht289.new
     refine zI rfl (Qv (fun w' hw' => Fc 3 underlying71 rfl sizeOf69 rfl rfl) (zB (qF rfl (Qc (Hc 3 3 hH rfl rfl) isAgg69 (zB (zI rfl (Qm (zB (zI rfl ?_)))))))))
     refine Qv (fun w' hw' => Fc 3 underlying71 rfl sizeOf69 rfl rfl) (zB (qF rfl (Qc (Hc 3 3 hH rfl rfl) isAgg69 (zB (zI rfl (Qm (zB (qF rfl ?_))))))))
     obtain ⟨x290, hx290, h279⟩ := Bs h279
     refine Zd (α := zC) (e := 80) (v := v274) (l := s268.specials) hH (i := 0) rfl hx290 underlying69 sizeOf80 rfl rfl rfl ?_
     intro b291 o292 h293 hl294
     refine zB (zI rfl ?_)
     have h295 := jF h293
     refine Qf underlying80 rfl sizeOf68 (zB (qF rfl ?_))
     obtain ⟨v296, h297, h298⟩ := El.list h295
     refine Qc h297 isAgg68 (zB ?_)
     refine qw (k := 0) rfl ?_
     obtain ⟨x299, hx299, h279⟩ := Bs h279
     refine Vc call22 (qH (Dw := Dw) w287 (A := fun _ => True) (fun _ _ => trivial) x290.shifts v296 (Sl.any h298) hx299) ?_
     rintro v300 w302 ⟨_, rfl, h301, hk303⟩
     obtain ⟨A304, ht305, hH306⟩ := Hp.addOwnd (Dw := Dw) hH hB hA hk303 h301
     replace hr255 := Tt hr255 ht305; replace hB := Bx hB ht305; replace hA := ht305.new; replace hH := hH306
     refine V_CH (hk303) ?_
     refine qF rfl ?_
     refine Zd (α := zC) (e := 80) (v := v274) (l := s268.specials) hH (i := 1) rfl hx290 underlying69 sizeOf80 rfl rfl rfl ?_
     intro b307 o308 h309 hl310
     refine zB (zI rfl ?_)
     have h311 := jF h309
     refine Qf underlying80 rfl sizeOf68 (zB ?_)
     refine qw (k := 2) rfl ?_
     obtain ⟨A312, ht313, h314, hH315⟩ := Hp.freeze (Dw := Dw) (α := zp) (v := v300) (l := x299) hH (i := 0) rfl hA
     replace hr255 := Tt hr255 ht313; replace hB := Bx hB ht313; replace hA := ht313.new; replace hH := hH315
     obtain ⟨x317, hx317, h279⟩ := Bs h279
     have h323 := Sl.oc h314
     refine zcz (Dw := Dw) (α := zC) (e := 80) (v := v274) (l := s268.specials) (foff := 1) hH (i := 0) rfl hl310 hx290 hx317 (fun _ h => by obtain ⟨_, _, rfl, rfl, ⟨v1, rfl, h1⟩⟩ := h; rw [Value.cells_one h323]; exact ⟨[_], _, rfl, rfl, ⟨_, rfl, h314⟩⟩) sizeOf68 (by rw [← Array.length_toList, Value.cells_one h323]; rfl) (by intro u hu; rw [Value.cells_one h323] at hu; simp at hu; subst hu; exact h323) (by decide) hB hA (congrArg (fun z => some (Value.pointer (some ⟨_, z, none⟩))) (by simp [Nat.add_assoc])) rfl ?_
     intro w318 hH319 ht320
     replace hr255 := Tt hr255 ht320; replace hH := hH319
     refine zaE ?_
     refine jC ?_
     show V _ _ _ _ [] _ _
     refine To ?_
     refine zo (Vy (zN rfl rfl) (Mm ?_))
     obtain rfl := Oi h279
     refine zn (fun a ha324 => ?_)
     exact ⟨(⟨s268.zone, s268.week, x317⟩ : zg), hlt282, h280, ⟨(v270, v272, v274, A312), ha324.sub ⟨rfl, rfl, rfl, rfl, rfl, rfl, rfl, rfl, Ws hlt282 hn285, trivial⟩, ⟨hH, hr255⟩⟩⟩
    refine zQ (fun a ha325 => ?_)
    exact ⟨(s268, v270, v272, v274, A276), ha325.sb, ⟨(h283 (zK hle281 hc286)).symm, hH, hr255⟩⟩
   rintro ⟨s254, v260, v262, v264, A266⟩ w257 ⟨rfl, hH267, hk258⟩ a ha259
   rw [Lp.andThen_fin] at h170
   replace hr132 := Tr.trans hr132 hk258; replace hB := Nat.le_trans hB hk258.ex.size; replace hA := hk258.new; replace hH := hH267
   refine C_at (n := ⟨129, [], none⟩) (fun _ _ => rfl) ?_ ha259
   refine qX (Dw := Dw) A266 13 [(1, 0), (1, 1), (1, 2), (1, 3), (1, 4), (0, 5), (0, 6), (2, 7), (4, 8), (1, 9), (1, 10), (1, 11), (4, 12)] zH (by kernel_rfl) (fun w327 hk328 => ?_)
   have ht329 := Kp.tr hk328 hA hB; replace hH := Hp.kp hH hk328; replace hr132 := Tt hr132 ht329; replace hB := Bx hB ht329; replace hA := ht329.new
   refine zI rfl (Qm (zB (zI rfl (Qm (zB (zI rfl (Qn (zB (zI rfl ?_)))))))))
   refine Qv (fun w' hw' => Fc 0 underlying58 rfl sizeOf56 rfl rfl) (zB (zI rfl (Qv (fun w' hw' => Fc 1 underlying56 rfl sizeOf23 rfl rfl) (zB (qF rfl (Qc (Hc 1 10 hH rfl rfl) isAgg23 (zB (qF rfl (Qv (fun w' hw' => zx (At.kp (Dw := Dw) (Hp.part (off := 0) (n := 4) (ds := [Ii s254.zone.offset, v260, v262, v264]) hH (i := 3) rfl rfl) hw' (Array.getElem?_eq_some_iff.1 (Hp.cells hH (i := 3) rfl).2.1).1) isAgg71 sizeOf71 rfl) ?_)))))))))
   refine zB ?_
   refine qw (k := 0) rfl ?_
   obtain ⟨A330, ht331, h332, hH333⟩ := Hp.freeze (Dw := Dw) (α := zU) (v := v260) (l := s254.zone.changes) hH (i := 2) rfl hA
   replace hr132 := Tt hr132 ht331; replace hB := Bx hB ht331; replace hA := ht331.new; replace hH := hH333
   obtain ⟨A335, ht336, h337, hH338⟩ := Hp.freeze (Dw := Dw) (α := zp) (v := v262) (l := s254.week) hH (i := 1) rfl hA
   replace h332 := Sl.tr h332 ht336; replace hr132 := Tt hr132 ht336; replace hB := Bx hB ht336; replace hA := ht336.new; replace hH := hH338
   obtain ⟨A340, ht341, h342, hH343⟩ := Hp.freeze (Dw := Dw) (α := zC) (v := v264) (l := s254.specials) hH (i := 0) rfl hA
   replace hr132 := Tt hr132 ht341; replace hB := Bx hB ht341; replace hA := ht341.new
   obtain ⟨h332, h337⟩ := T2 ht341 h332 h337
   replace hH := hH343
   refine zX (Dw := Dw) (cells := #[Ii s254.zone.offset, v260, v262, v264]) (l := ([s254] : List zg)) (len := 1) underlying23 sizeOf71 zeroValue71 rfl (by obtain ⟨a349, c350, e351, _⟩ := Sl.form h332; subst e351; obtain ⟨a352, c353, e354, _⟩ := Sl.form h337; subst e354; obtain ⟨a355, c356, e357, _⟩ := Sl.form h342; subst e357; kernel_rfl) (show (1 * 4 : Nat) ≠ 0 by decide) (show (1 * 4 : Nat) ≤ 2 ^ 24 by decide) hA ⟨[Ii s254.zone.offset, v260, v262, v264], _, rfl, ⟨[Ii s254.zone.offset, v260], _, rfl, ⟨[Ii s254.zone.offset], _, rfl, rfl, ⟨_, rfl, h332⟩⟩, ⟨[v262], _, rfl, ⟨_, rfl, h337⟩, ⟨_, rfl, h342⟩⟩⟩, rfl⟩ rfl rfl ?_
   intro v345 w346 hk348 h347
   have ht358 := Kp.tr hk348 hA hB; replace hH := Hp.kp hH hk348; replace hr132 := Tt hr132 ht358; replace hB := Bx hB ht358; replace hA := ht358.new
   refine V_CH (hk348) ?_
   refine qw (k := 2) rfl ?_
   obtain ⟨x359, hx359, h170⟩ := Bs h170
   refine Zv (Dw := Dw) (e := 71) (v := v156) (l := s152.assigner.cals) (ti := t71) (bytes := 80) (lim := 1759218604441) hH (i := 5) rfl h347 hx359 underlying23 zif rfl rfl rfl rfl (by decide) (by decide) (by decide) hB hA rfl rfl rfl ?_
   intro v360 w361 A362 hH363 ht364
   replace hr132 := Tt hr132 ht364; replace hB := Bx hB ht364; replace hA := ht364.new; replace hH := hH363
   refine zaE ?_
   refine zI rfl (Qn (zB (zI rfl (Qv (fun w' hw' => Fc 0 underlying58 rfl sizeOf56 rfl rfl) (zB (zI rfl (Qv (fun w' hw' => Fc 1 underlying56 rfl sizeOf23 rfl rfl) (zB ?_))))))))
   refine qw (k := 2) rfl ?_
   have h370 := Sl.oc (Hp.any (α := zg) (e := 71) (v := v360) (l := x359) hH (i := 5) rfl)
   refine Sc Dw 1 [v154, v360, v158, v160, Ii s152.now, v162, v164, .map (some b18)] 7 hH h370 sizeOf23 hB hA ?_
   intro w365 hH366 ht367
   replace hr132 := Tt hr132 ht367; replace hH := hH366
   refine zaE ?_
   refine jC ?_
   show V _ _ _ _ [] _ _
   refine To ?_
   refine zo (Vy (zN rfl rfl) (Mm ?_))
   obtain rfl := Oi h170
   refine zn (fun a ha371 => ?_)
   replace hH := Hd 8 (Hf 8 (Hf 8 (Hf 8 (Hf 8 (Hf 8 (Hf 8 (Hf 8 (Hf 8 hH))))))))
   exact ⟨(⟨(⟨s152.assigner.people, x359, s152.assigner.steps, s152.assigner.away⟩ : Zr), s152.now, s152.waiting, s152.held, s152.work⟩ : ze), hlt173, h171, ⟨(v154, v360, v158, v160, v162, v164, A362), ha371.sub ⟨rfl, rfl, rfl, rfl, rfl, Ws hlt173 hn176, trivial⟩, ⟨hH, hr132⟩⟩⟩
  refine zQ (fun a ha372 => ?_)
  exact ⟨(s152, v154, v156, v158, v160, v162, v164, A167), ha372.sb, ⟨(h174 (zK hle172 hc177)).symm, hH, hr132⟩⟩
 rintro ⟨s131, v137, v139, v141, v143, v145, v147, A150⟩ w134 ⟨rfl, hH151, hk135⟩ a ha136
 rw [Lp.andThen_fin] at hm
 replace h_people := Sl.tr h_people hk135; replace h_steps := Sl.tr h_steps hk135; replace hK := Tr.trans hK hk135; replace hB := Nat.le_trans hB hk135.ex.size; replace hA := hk135.new; replace hH := hH151
 refine C_at (n := ⟨129, [], none⟩) (fun _ _ => rfl) ?_ ha136
 refine Sr (Mm (Mm ?_))
 obtain ⟨x374, hx374, hm⟩ := Bs hm
 refine Vc call24 (JZ (Dw := Dw) w134 hA steps v_steps h_steps hx374) ?_
 rintro v375 w377 ⟨_, rfl, h376, hk378⟩
 obtain ⟨A379, ht380, hH381⟩ := Hp.addOwnd (Dw := Dw) hH hB hA hk378 h376
 obtain ⟨h_people, hK, hB, hA⟩ := U1 ht380 hK hB h_people
 replace hH := hH381
 refine Nc (Vy (Fc 0 underlying58 rfl sizeOf56 rfl rfl) (Vy (Fc 2 underlying56 rfl sizeOf24 rfl rfl) ?_))
 have h387 := Sl.oc (Hp.any (α := zk) (e := 83) (v := v375) (l := x374) hH (i := 0) rfl)
 refine Sc Dw 2 [v137, v139, v375, v143, Ii s131.now, v145, v147, .map (some b18)] 7 hH h387 sizeOf24 hB hA ?_
 intro w382 hH383 ht384
 obtain ⟨h_people, hK, hB, hA⟩ := U1 ht384 hK hB h_people
 replace hH := hH383
 refine To ?_
 refine Sr (Mm (Mm (Vy (zA h_people rfl underlying22 rfl) ?_)))
 obtain ⟨x388, hx388, hm⟩ := Bs hm
 refine jl (Dw := Dw) (e := 4) (ti := t4) hH hx388 (fun _ _ => rfl) underlying54 jV rfl rfl rfl (by decide) (by decide) hB hA rfl rfl rfl ?_
 intro v389 w390 A391 hH392 ht393
 obtain ⟨hK, hB, hA⟩ := U0 ht393 hK hB
 replace hH := hH392
 refine Nc (Vy (Fc 0 underlying58 rfl sizeOf56 rfl rfl) (Vy (Fc 3 underlying56 rfl sizeOf54 rfl rfl) ?_))
 have h399 := Sl.oc (Hp.any (α := Bool) (e := 4) (v := v389) (l := x388) hH (i := 0) rfl)
 refine Sc Dw 3 [v137, v139, v375, v389, Ii s131.now, v145, v147, .map (some b18)] 8 hH h399 sizeOf54 hB hA ?_
 intro w394 hH395 ht396
 replace hK := Tt hK ht396; replace hA := ht396.new; replace hH := hH395
 refine To ?_
 refine Sr (Mm (As (As (To ?_))))
 obtain rfl := Oi hm
 obtain ⟨A400, ht401, h402, hH403⟩ := Hp.freeze (Dw := Dw) (α := zd) (v := v137) (l := s131.assigner.people) hH (i := 7) rfl hA
 replace hK := Tt hK ht401; replace hA := ht401.new; replace hH := hH403
 obtain ⟨A405, ht406, h407, hH408⟩ := Hp.freeze (Dw := Dw) (α := zg) (v := v139) (l := s131.assigner.cals) hH (i := 6) rfl hA
 replace h402 := Sl.tr h402 ht406; replace hK := Tt hK ht406; replace hA := ht406.new; replace hH := hH408
 obtain ⟨A410, ht411, h412, hH413⟩ := Hp.freeze (Dw := Dw) (α := zk) (v := v375) (l := x374) hH (i := 1) rfl hA
 replace hK := Tt hK ht411; replace hA := ht411.new
 obtain ⟨h402, h407⟩ := T2 ht411 h402 h407
 replace hH := hH413
 obtain ⟨A415, ht416, h417, hH418⟩ := Hp.freeze (Dw := Dw) (α := za) (v := v145) (l := s131.waiting) hH (i := 2) rfl hA
 replace hK := Tt hK ht416; replace hA := ht416.new
 obtain ⟨h402, h407, h412⟩ := T3 ht416 h402 h407 h412
 replace hH := hH418
 obtain ⟨A420, ht421, h422, hH423⟩ := Hp.freeze (Dw := Dw) (α := zb) (v := v147) (l := s131.held) hH (i := 1) rfl hA
 replace hK := Tt hK ht421
 obtain ⟨h402, h407, h412, h417⟩ := T4 ht421 h402 h407 h412 h417
 replace hH := hH423
 replace hH := Hd 3 (Hd 3 (Hf 4 (Hf 1 (Hf 4 hH))))
 refine jP ?_
 try simp only [↓ib, ↓th]
 exact retQ rfl (Res.two results5 rfl rfl) (Or.inr ⟨_, b23, v137, v139, v375, v389, v145, v147, b18, A420, rfl, rfl, h402, h407, h412, h417, h422, hH, hK⟩)
theorem QX (w : World) {A : Nat → Prop} (hA : ∀ b, w.heap.size ≤ b → A b) (s : (List zb)) (v_s : Value) (h_s : Sl A w v_s s) {r : (List zb)} (hm : Zh s = some r) : Ret prog 25 #[v_s] w fun v w' => ∃ s0, v = s0 ∧ Ownd 46 w w' s0 r ∧ Kp Dw w w' := by
 unfold Zh at hm
 refine enter func25 rfl ntmps25 rfl ?_
 have hA0 := hA
 obtain ⟨hB, hK, hH⟩ := St (Dw := Dw) hA
 rcases Sl.split h_s with ⟨rfl, rfl⟩ | ⟨a0, n0, c0, rfl⟩
 ·replace hm : some ([] : (List zb)) = some r := by simpa [zt] using hm
  refine Sr (As (To ?_))
  refine zh (Sr (Mm (Vy (Jx rfl rfl underlying34) (To ?_))))
  refine Cc (fun hc => ?_) fun hc => ?_
  ·refine Sr (As (To ?_))
   obtain rfl := Oi hm
   replace hH : Hp w.heap.size A w (o_46 (.slice none 0 0) ([] : (List zb)) :: []) := Hp.addNil (α := zb) (e := 46) hH
   refine Rt (Res.one results25 rfl) ?_
   exact ⟨.slice none 0 0, rfl, (Hp.ownd hH (i := 0) rfl), hK.kp⟩
  exact absurd hc (by decide)
 refine Sr (As (To ?_))
 refine zh (Sr (Mm (Vy (Jz rfl rfl underlying34) (To ?_))))
 refine Cc (fun hc => ?_) fun hc => ?_
 ·exact absurd hc (by decide)
 refine Sk ?_
 refine Sr ?_
 refine ji (Dw := Dw) (α := zb) hH underlying34 sizeOf46 hB hA rfl ?_
 intro v3 w4 A5 hH6 ht7
 obtain ⟨h_s, hK, hB, hA⟩ := U1 ht7 hK hB h_s
 replace hH := hH6
 refine Mm ?_
 obtain ⟨x8, hx8, hm⟩ := Bs hm
 refine Zv (Dw := Dw) (e := 46) (v := v3) (l := ([] : List zb)) (ti := t46) (bytes := 32) (lim := 4398046511104) hH (i := 0) rfl h_s hx8 underlying34 jb rfl rfl rfl rfl (by decide) (by decide) (by decide) hB hA rfl rfl rfl ?_
 intro v9 w10 A11 hH12 ht13
 replace hK := Tt hK ht13; replace hH := hH12
 refine As (To ?_)
 obtain rfl := Oi hm
 refine Rt (Res.one results25 rfl) ?_
 exact ⟨v9, rfl, (Hp.ownd hH (i := 0) rfl), hK.kp⟩
end Go.Proofs.YtiblagcmjobknaaGreatDoor.W
