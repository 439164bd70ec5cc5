/-
  Written by program (gen.py) from the IR of the dump: each function computes its model.
-/
import Derived.Test.YtcbebdcofipcpaaGreatDoorProg
import Derived.Test.YtcbebdcofipcpaaGreatDoorGe
import Derived.Test.YtcbebdcofipcpaaGreatDoorLevelReadsM
import Derived.KernelRfl
import Derived.Shelf.Strings.Search2
import Derived.Shelf.Strconv.AtoiAll
import Derived.Lib.AtoiErrMem
import Derived.Shelf.Strconv.Itoa3
import Derived.Shelf.Strings.Search3
import Derived.Shelf.Strings.SlTrimAscii
import Derived.Shelf.Strings.Split
import Derived.Test.YtcbebdcofipcpaaGreatDoorGi
import Derived.Test.YtcbebdcofipcpaaGreatDoorHa
import Derived.Test.YtcbebdcofipcpaaGreatDoorGg
import Derived.Test.YtcbebdcofipcpaaGreatDoorHl
import Derived.Test.YtcbebdcofipcpaaGreatDoorHd
import Derived.Test.YtcbebdcofipcpaaGreatDoorGv
import Derived.Test.YtcbebdcofipcpaaGreatDoorHv
namespace Go.Proofs.YtcbebdcofipcpaaGreatDoor.W
open Go Go.RowKit Go.Pu Go.Gw Go.Proofs Go.Proofs.YtcbebdcofipcpaaGreatDoor.M
set_option linter.unusedVariables false
set_option linter.unusedSimpArgs false
variable {Dw : Prop}

def Tryz_FR : (Nat → Prop) → World → Prop := fun A w => Tb Tryz.prog A w ∧ Mx Tryz.prog 2 A w ∧ Er Tryz.prog 5 A w ∧ Er Tryz.prog 6 A w ∧ Gs 0 portref2_targetWords A w ∧ Gs 1 portref2_valueWords A w
instance : Keeps Tryz_FR := ⟨fun h hh hs => ⟨Keeps.to (R := Tb Tryz.prog) ((h).1) hh hs, Keeps.to (R := Mx Tryz.prog 2) ((h).2.1) hh hs, Keeps.to (R := Er Tryz.prog 5) ((h).2.2.1) hh hs, Keeps.to (R := Er Tryz.prog 6) ((h).2.2.2.1) hh hs, Keeps.to (R := Gs 0 portref2_targetWords) ((h).2.2.2.2.1) hh hs, Keeps.to (R := Gs 1 portref2_valueWords) ((h).2.2.2.2.2) hh hs⟩⟩
theorem Tryz_info3 : Tryz.prog.info? 3 = some Tryz.t3 := by kernel_rfl
theorem Tryz_info46 : Tryz.prog.info? 46 = some Tryz.t46 := by kernel_rfl
theorem Tryz_info51 : Tryz.prog.info? 51 = some Tryz.t51 := by kernel_rfl
theorem Tryz_info56 : Tryz.prog.info? 56 = some Tryz.t56 := by kernel_rfl
theorem Tryz_places25 : ∀ fs, Tryz.prog.underlying 25 = some (.struct fs) → ∀ w : World, (Array.mapM (fun (f : Field) => do pure (f.offset, ← Go.sizeOf f.type)) fs).run Tryz.prog w = .ok #[(0, 1), (1, 1)] w := by
  intro fs h w
  rw [Tryz.underlying25] at h
  cases h
  kernel_rfl
theorem Tryz_places46 : ∀ fs, Tryz.prog.underlying 46 = some (.struct fs) → ∀ w : World, (Array.mapM (fun (f : Field) => do pure (f.offset, ← Go.sizeOf f.type)) fs).run Tryz.prog w = .ok #[(0, 1), (1, 1), (2, 1)] w := by
  intro fs h w
  rw [Tryz.underlying46] at h
  cases h
  kernel_rfl
theorem Tryz_places49 : ∀ fs, Tryz.prog.underlying 49 = some (.struct fs) → ∀ w : World, (Array.mapM (fun (f : Field) => do pure (f.offset, ← Go.sizeOf f.type)) fs).run Tryz.prog w = .ok #[(0, 1), (1, 1), (2, 1)] w := by
  intro fs h w
  rw [Tryz.underlying49] at h
  cases h
  kernel_rfl
theorem Tryz_places51 : ∀ fs, Tryz.prog.underlying 51 = some (.struct fs) → ∀ w : World, (Array.mapM (fun (f : Field) => do pure (f.offset, ← Go.sizeOf f.type)) fs).run Tryz.prog w = .ok #[(0, 1), (1, 3)] w := by
  intro fs h w
  rw [Tryz.underlying51] at h
  cases h
  kernel_rfl
theorem Tryz_places56 : ∀ fs, Tryz.prog.underlying 56 = some (.struct fs) → ∀ w : World, (Array.mapM (fun (f : Field) => do pure (f.offset, ← Go.sizeOf f.type)) fs).run Tryz.prog w = .ok #[(0, 1), (1, 1), (2, 1)] w := by
  intro fs h w
  rw [Tryz.underlying56] at h
  cases h
  kernel_rfl
theorem Tryz_eqt49_9999 (a0 : Int) (a1 : Int) (a2 : ByteArray) (b0 : Int) (b1 : Int) (b2 : ByteArray) (w : World) : (Op.equalIn 9999 49 (.agg #[.int .i64 a0, .int .i64 a1, .string a2]) (.agg #[.int .i64 b0, .int .i64 b1, .string b2])).run Tryz.prog w = .ok (a0 == b0 && (a1 == b1 && (strEq a2 b2))) w := by
  refine (run_equalIn_struct w 9998 49 _ _ (by kernel_rfl) (by kernel_rfl)).trans ?_
  rw [show Tryz.prog.fieldsOf 49 = _ from by unfold Program.fieldsOf; rw [Tryz.underlying49]]
  cases h0 : (a0 == b0) <;> cases h1 : (a1 == b1) <;> cases h2 : (strEq a2 b2) <;> simp_all [Op.eqFields, part, strEq, Tryz.isAgg3, Tryz.isAgg9, run_equalIn_int _ _ _ _ _ _ _ Tryz.underlying3, run_equalIn_string _ _ _ _ _ Tryz.underlying9]
theorem Tryz_eqt51_10000 (a0 : Int) (a1_0 : Int) (a1_1 : Int) (a1_2 : ByteArray) (b0 : Int) (b1_0 : Int) (b1_1 : Int) (b1_2 : ByteArray) (w : World) : (Op.equalIn 10000 51 (.agg #[.int .i64 a0, .int .i64 a1_0, .int .i64 a1_1, .string a1_2]) (.agg #[.int .i64 b0, .int .i64 b1_0, .int .i64 b1_1, .string b1_2])).run Tryz.prog w = .ok (a0 == b0 && (a1_0 == b1_0 && (a1_1 == b1_1 && (strEq a1_2 b1_2)))) w := by
  refine (run_equalIn_struct w 9999 51 _ _ (by kernel_rfl) (by kernel_rfl)).trans ?_
  rw [show Tryz.prog.fieldsOf 51 = _ from by unfold Program.fieldsOf; rw [Tryz.underlying51]]
  cases h0 : (a0 == b0) <;> cases h1 : (a1_0 == b1_0 && (a1_1 == b1_1 && (strEq a1_2 b1_2))) <;> simp_all [Op.eqFields, part, strEq, Tryz.isAgg3, Tryz.isAgg49, Tryz.sizeOf49, Tryz_eqt49_9999, run_equalIn_int _ _ _ _ _ _ _ Tryz.underlying3]
theorem Tryz_eqg51 : Tryz.prog.eqGuardType Tryz.prog.depth 51 = false := by kernel_rfl
theorem Tryz_eqt56_10000 (a0 : Int) (a1 : Int) (a2 : Int) (b0 : Int) (b1 : Int) (b2 : Int) (w : World) : (Op.equalIn 10000 56 (.agg #[.int .i64 a0, .int .i64 a1, .int .i64 a2]) (.agg #[.int .i64 b0, .int .i64 b1, .int .i64 b2])).run Tryz.prog w = .ok (a0 == b0 && (a1 == b1 && (a2 == b2))) w := by
  refine (run_equalIn_struct w 9999 56 _ _ (by kernel_rfl) (by kernel_rfl)).trans ?_
  rw [show Tryz.prog.fieldsOf 56 = _ from by unfold Program.fieldsOf; rw [Tryz.underlying56]]
  cases h0 : (a0 == b0) <;> cases h1 : (a1 == b1) <;> cases h2 : (a2 == b2) <;> simp_all [Op.eqFields, part, strEq, Tryz.isAgg3, run_equalIn_int _ _ _ _ _ _ _ Tryz.underlying3]
theorem Tryz_eqg56 : Tryz.prog.eqGuardType Tryz.prog.depth 56 = false := by kernel_rfl
theorem Tryz_mixed : Tryz.prog.follows .mixedOrders = true := by kernel_rfl

instance : GoT api_Value := GoT.of (β := Int × Int × ByteArray) fun x => (x.kind, x.int, x.text)

instance : Flat api_Value := ⟨fun {A w A1 w1 cs x} h => Flat.flat (α := Int × Int × ByteArray) (x := (x.kind, x.int, x.text)) (A := A) (w := w) h⟩

theorem El_api_Value_ {A : Nat → Prop} {w : World} {b off : Nat} {x : api_Value} (h : El A w b off x) : El (α := Int × Int × ByteArray) A w b off (x.kind, x.int, x.text) := h

theorem El_api_Value_0 {A : Nat → Prop} {w : World} {b off : Nat} {x : api_Value} (h : El A w b off x) : El A w b (off + 0) x.kind := El.fst (El_api_Value_ h)

theorem El_api_Value_1 {A : Nat → Prop} {w : World} {b off : Nat} {x : api_Value} (h : El A w b off x) : El A w b (off + 1) x.int := El.fst (El.snd (El_api_Value_ h))

theorem El_api_Value_2 {A : Nat → Prop} {w : World} {b off : Nat} {x : api_Value} (h : El A w b off x) : El A w b (off + 2) x.text := El.snd (El.snd (El_api_Value_ h))

theorem El_api_Value {A : Nat → Prop} {w : World} {b off : Nat} {x : api_Value} (h : El A w b off x) : At w b off [.int .i64 x.kind, .int .i64 x.int, .string x.text] ∧ True := by
  obtain ⟨h1, h2, cs, h3, h4⟩ := h
  obtain ⟨_, _, rfl, rfl, ⟨_, _, rfl, rfl, rfl⟩⟩ := h3
  exact ⟨h4, trivial⟩

instance : GoT level_Test := GoT.of (β := Int × api_Value) fun x => (x.field, x.value)

instance : Flat level_Test := ⟨fun {A w A1 w1 cs x} h => Flat.flat (α := Int × api_Value) (x := (x.field, x.value)) (A := A) (w := w) h⟩

theorem El_level_Test_ {A : Nat → Prop} {w : World} {b off : Nat} {x : level_Test} (h : El A w b off x) : El (α := Int × api_Value) A w b off (x.field, x.value) := h

theorem El_level_Test_0 {A : Nat → Prop} {w : World} {b off : Nat} {x : level_Test} (h : El A w b off x) : El A w b (off + 0) x.field := El.fst (El_level_Test_ h)

theorem El_level_Test_1 {A : Nat → Prop} {w : World} {b off : Nat} {x : level_Test} (h : El A w b off x) : El A w b (off + 1) x.value := El.snd (El_level_Test_ h)

theorem El_level_Test {A : Nat → Prop} {w : World} {b off : Nat} {x : level_Test} (h : El A w b off x) : At w b off [.int .i64 x.field, .int .i64 x.value.kind, .int .i64 x.value.int, .string x.value.text] ∧ True := by
  obtain ⟨h1, h2, cs, h3, h4⟩ := h
  obtain ⟨_, _, rfl, rfl, ⟨_, _, rfl, rfl, ⟨_, _, rfl, rfl, rfl⟩⟩⟩ := h3
  exact ⟨h4, trivial⟩

instance : GoT level_Target := GoT.of (β := Int × Int × Int) fun x => (x.kind, x.minutes, x.calendar)

instance : Flat level_Target := ⟨fun {A w A1 w1 cs x} h => Flat.flat (α := Int × Int × Int) (x := (x.kind, x.minutes, x.calendar)) (A := A) (w := w) h⟩

theorem El_level_Target_ {A : Nat → Prop} {w : World} {b off : Nat} {x : level_Target} (h : El A w b off x) : El (α := Int × Int × Int) A w b off (x.kind, x.minutes, x.calendar) := h

theorem El_level_Target_0 {A : Nat → Prop} {w : World} {b off : Nat} {x : level_Target} (h : El A w b off x) : El A w b (off + 0) x.kind := El.fst (El_level_Target_ h)

theorem El_level_Target_1 {A : Nat → Prop} {w : World} {b off : Nat} {x : level_Target} (h : El A w b off x) : El A w b (off + 1) x.minutes := El.fst (El.snd (El_level_Target_ h))

theorem El_level_Target_2 {A : Nat → Prop} {w : World} {b off : Nat} {x : level_Target} (h : El A w b off x) : El A w b (off + 2) x.calendar := El.snd (El.snd (El_level_Target_ h))

theorem El_level_Target {A : Nat → Prop} {w : World} {b off : Nat} {x : level_Target} (h : El A w b off x) : At w b off [.int .i64 x.kind, .int .i64 x.minutes, .int .i64 x.calendar] ∧ True := by
  obtain ⟨h1, h2, cs, h3, h4⟩ := h
  obtain ⟨_, _, rfl, rfl, ⟨_, _, rfl, rfl, rfl⟩⟩ := h3
  exact ⟨h4, trivial⟩

instance : GoT level_Level := GoT.of (β := ByteArray × (List level_Test) × (List level_Target)) fun x => (x.name, x.tests, x.targets)

theorem El_level_Level_ {A : Nat → Prop} {w : World} {b off : Nat} {x : level_Level} (h : El A w b off x) : El (α := ByteArray × (List level_Test) × (List level_Target)) A w b off (x.name, x.tests, x.targets) := h

theorem El_level_Level_0 {A : Nat → Prop} {w : World} {b off : Nat} {x : level_Level} (h : El A w b off x) : El A w b (off + 0) x.name := El.fst (El_level_Level_ h)

theorem El_level_Level_1 {A : Nat → Prop} {w : World} {b off : Nat} {x : level_Level} (h : El A w b off x) : El A w b (off + 1) x.tests := El.fst (El.snd (El_level_Level_ h))

theorem El_level_Level_2 {A : Nat → Prop} {w : World} {b off : Nat} {x : level_Level} (h : El A w b off x) : El A w b (off + 2) x.targets := El.snd (El.snd (El_level_Level_ h))

theorem El_level_Level {A : Nat → Prop} {w : World} {b off : Nat} {x : level_Level} (h : El A w b off x) : ∃ v1 v3, At w b off [.string x.name, v1, v3] ∧ Sl A w v1 x.tests ∧ Sl A w v3 x.targets := by
  obtain ⟨h1, h2, cs, h3, h4⟩ := h
  obtain ⟨_, _, rfl, rfl, ⟨_, _, rfl, ⟨u1, rfl, g1⟩, ⟨u2, rfl, g2⟩⟩⟩ := h3
  exact ⟨u1, u2, h4, g1, g2⟩

instance : GoT level_Policy := GoT.of (β := (List Int) × (List level_Level)) fun x => (x.pauses, x.levels)

theorem El_level_Policy_ {A : Nat → Prop} {w : World} {b off : Nat} {x : level_Policy} (h : El A w b off x) : El (α := (List Int) × (List level_Level)) A w b off (x.pauses, x.levels) := h

theorem El_level_Policy_0 {A : Nat → Prop} {w : World} {b off : Nat} {x : level_Policy} (h : El A w b off x) : El A w b (off + 0) x.pauses := El.fst (El_level_Policy_ h)

theorem El_level_Policy_1 {A : Nat → Prop} {w : World} {b off : Nat} {x : level_Policy} (h : El A w b off x) : El A w b (off + 1) x.levels := El.snd (El_level_Policy_ h)

theorem El_level_Policy {A : Nat → Prop} {w : World} {b off : Nat} {x : level_Policy} (h : El A w b off x) : ∃ v1 v3, At w b off [v1, v3] ∧ Sl A w v1 x.pauses ∧ Sl A w v3 x.levels := by
  obtain ⟨h1, h2, cs, h3, h4⟩ := h
  obtain ⟨_, _, rfl, ⟨u1, rfl, g1⟩, ⟨u2, rfl, g2⟩⟩ := h3
  exact ⟨u1, u2, h4, g1, g2⟩

structure level_LevelV where
  name : ByteArray
  tests : Sv
  targets : Sv

instance : GoT level_LevelV := GoT.of (β := ByteArray × Sv × Sv) fun x => (x.name, x.tests, x.targets)

theorem El_level_LevelV_ {A : Nat → Prop} {w : World} {b off : Nat} {x : level_LevelV} (h : El A w b off x) : El (α := ByteArray × Sv × Sv) A w b off (x.name, x.tests, x.targets) := h

theorem El_level_LevelV_0 {A : Nat → Prop} {w : World} {b off : Nat} {x : level_LevelV} (h : El A w b off x) : El A w b (off + 0) x.name := El.fst (El_level_LevelV_ h)

theorem El_level_LevelV_1 {A : Nat → Prop} {w : World} {b off : Nat} {x : level_LevelV} (h : El A w b off x) : El A w b (off + 1) x.tests := El.fst (El.snd (El_level_LevelV_ h))

theorem El_level_LevelV_2 {A : Nat → Prop} {w : World} {b off : Nat} {x : level_LevelV} (h : El A w b off x) : El A w b (off + 2) x.targets := El.snd (El.snd (El_level_LevelV_ h))

def gf_level_Level (y : level_LevelV) (x : level_Level) : Ob := obE (fun (_ : Unit) => [obQ (y.name = x.name), obS (α := level_Test) 51 y.tests.v x.tests, obS (α := level_Target) 56 y.targets.v x.targets])

theorem gf_level_Level_open {B : Nat} {A : Nat → Prop} {w : World} {L : List Ob} {y : level_LevelV} {x : level_Level} (h : Hp B A w (gf_level_Level y x :: L)) : (y.name = x.name) ∧ Hp B A w (obS (α := level_Test) 51 y.tests.v x.tests :: obS (α := level_Target) 56 y.targets.v x.targets :: L) := by
  obtain ⟨_, h1⟩ := Hp.open h
  obtain ⟨_, ⟨_, hr⟩, _⟩ := h1.at (i := 0) rfl
  exact ⟨hr, h1.drop (i := 0) rfl⟩

theorem gf_level_Level_pack {B : Nat} {A : Nat → Prop} {w : World} {L : List Ob} {y : level_LevelV} {x : level_Level} (hq : y.name = x.name) (h : Hp B A w (obS (α := level_Test) 51 y.tests.v x.tests :: obS (α := level_Target) 56 y.targets.v x.targets :: L)) : Hp B A w (gf_level_Level y x :: L) :=
  Hp.pack (F := fun (_ : Unit) => [obQ (y.name = x.name), obS (α := level_Test) 51 y.tests.v x.tests, obS (α := level_Target) 56 y.targets.v x.targets]) () (h.free (O' := obQ (y.name = x.name)) ⟨rfl, hq⟩)

instance : Beh gf_level_Level where
  cells := rfl
  rd {A A1 w fb cs y x} hr hp hs hb := by
    obtain ⟨_, fq, gq, rfl, _, ⟨rfl, hq⟩, f0, g0, rfl, _, h0, f1, g1, rfl, _, h1, rfl⟩ := hp
    obtain ⟨y0, y1, y2⟩ := y
    obtain ⟨x0, x1, x2⟩ := x
    simp only at hq
    obtain rfl := hq
    obtain ⟨_, _, rfl, rfl, ⟨_, _, rfl, rfl, rfl⟩⟩ := hr
    exact ⟨[_], _, rfl, rfl, ⟨[_], _, rfl, ⟨_, rfl, OwP.sl h0 hs (fun b hm => hb b (by simp [hm]))⟩, ⟨_, rfl, OwP.sl h1 hs (fun b hm => hb b (by simp [hm]))⟩⟩⟩

theorem gf_level_Level_bare {y : level_LevelV} {x : level_Level} (hq : y.name = x.name) (h0 : y.tests.v = .slice none 0 0) (k0 : x.tests = []) (h1 : y.targets.v = .slice none 0 0) (k1 : x.targets = []) : bare gf_level_Level [y] [x] := by
  refine ⟨rfl, fun A w y2 x2 h => ?_⟩
  simp at h
  obtain ⟨rfl, rfl⟩ := h
  exact ⟨(), [], [], rfl, by simp, ⟨rfl, hq⟩, ⟨[], [], rfl, by simp, .inl ⟨h0, k0, rfl⟩, ⟨[], [], rfl, by simp, .inl ⟨h1, k1, rfl⟩, rfl⟩⟩⟩

def gr_level_Level (y : level_LevelV) (x : level_Level) : Ob := obF (fun A w => (y.name = x.name) ∧ Sl A w y.tests.v x.tests ∧ Sl A w y.targets.v x.targets) (fun h he => ⟨h.1, h.2.1.keep he, h.2.2.keep he⟩)

instance : Beh gr_level_Level where
  cells := rfl
  rd {A A1 w fb cs y x} hr hp hs hb := by
    obtain ⟨rfl, hq, hp⟩ := hp
    obtain ⟨y0, y1, y2⟩ := y
    obtain ⟨x0, x1, x2⟩ := x
    simp only at hq hp
    obtain rfl := hq
    obtain ⟨_, _, rfl, rfl, ⟨_, _, rfl, rfl, rfl⟩⟩ := hr
    exact ⟨[_], _, rfl, rfl, ⟨[_], _, rfl, ⟨_, rfl, hp.1.keep (.sub fun k _ hk => hs k hk)⟩, ⟨_, rfl, hp.2.keep (.sub fun k _ hk => hs k hk)⟩⟩⟩

def Tryz_contains_lay_ren : Go.Shelf.Ren := ⟨fun | 15 => 121 | 17 => 112 | 20 => 130 | n => n, fun | 0 => 0 | 1 => 1 | 2 => 2 | 3 => 3 | 4 => 4 | 5 => 5 | 6 => 6 | 7 => 7 | 8 => 8 | 9 => 9 | 10 => 10 | 11 => 11 | 12 => 12 | 13 => 13 | 14 => 14 | 15 => 15 | 16 => 16 | 17 => 17 | 18 => 18 | 19 => 19 | 20 => 20 | 21 => 21 | 23 => 206 | 24 => 217 | 26 => 221 | 27 => 182 | 28 => 205 | 29 => 213 | 30 => 233 | 31 => 183 | 32 => 184 | 33 => 212 | 34 => 208 | 35 => 180 | 36 => 209 | 37 => 210 | 38 => 211 | 39 => 241 | 40 => 242 | 41 => 243 | 42 => 244 | 43 => 245 | 44 => 246 | 45 => 247 | 46 => 188 | 47 => 248 | 48 => 249 | 49 => 250 | 50 => 229 | 51 => 251 | 52 => 252 | 53 => 253 | 54 => 254 | 55 => 260 | n => n, fun | 0 => 3 | 1 => 4 | n => n⟩
theorem Tryz_contains_lay : Go.Proofs.LaysGw.n17 Tryz.prog Tryz_contains_lay_ren := {
  mixed := by kernel_rfl,
  f15 := Tryz.func121.trans (congrArg some (by kernel_rfl)),
  f17 := Tryz.func112.trans (congrArg some (by kernel_rfl)),
  f20 := Tryz.func130.trans (congrArg some (by kernel_rfl)),
  t0 := Tryz.underlying0,
  a0 := Tryz.isAgg0,
  z0 := Tryz.sizeOf0,
  v0 := Tryz.zeroValue0,
  i0 := by kernel_rfl,
  t3 := Tryz.underlying3,
  a3 := Tryz.isAgg3,
  z3 := Tryz.sizeOf3,
  v3 := Tryz.zeroValue3,
  i3 := by kernel_rfl,
  t4 := Tryz.underlying4,
  a4 := Tryz.isAgg4,
  z4 := Tryz.sizeOf4,
  v4 := Tryz.zeroValue4,
  i4 := by kernel_rfl,
  t9 := Tryz.underlying9,
  a9 := Tryz.isAgg9,
  z9 := Tryz.sizeOf9,
  v9 := Tryz.zeroValue9,
  i9 := by kernel_rfl,
  t21 := Tryz.underlying21,
  a21 := Tryz.isAgg21,
  z21 := Tryz.sizeOf21,
  v21 := Tryz.zeroValue21,
  i21 := by kernel_rfl,
  t23 := Tryz.underlying206,
  a23 := Tryz.isAgg206,
  z23 := Tryz.sizeOf206,
  v23 := Tryz.zeroValue206,
  i23 := by kernel_rfl }

def Tryz_internal_stringslite_Index_lay_ren : Go.Shelf.Ren := ⟨fun | 217 => 82 | 219 => 67 | 224 => 84 | 225 => 83 | 266 => 96 | 267 => 85 | 314 => 97 | n => n, fun | 0 => 0 | 1 => 1 | 2 => 2 | 3 => 3 | 4 => 4 | 5 => 5 | 6 => 6 | 7 => 7 | 8 => 8 | 9 => 9 | 10 => 10 | 11 => 11 | 12 => 12 | 13 => 13 | 14 => 14 | 15 => 15 | 16 => 16 | 17 => 17 | 18 => 18 | 19 => 19 | 20 => 20 | 21 => 21 | 22 => 42 | 23 => 154 | 24 => 38 | 25 => 39 | 27 => 162 | 28 => 22 | 31 => 35 | 32 => 54 | 34 => 96 | 37 => 199 | 40 => 206 | 41 => 212 | 46 => 180 | 47 => 237 | 51 => 188 | 52 => 238 | 53 => 214 | 54 => 223 | 55 => 178 | 59 => 31 | 60 => 32 | 61 => 36 | 62 => 163 | 63 => 213 | 64 => 227 | 69 => 217 | 74 => 171 | 75 => 172 | 76 => 173 | 77 => 174 | 80 => 241 | 81 => 247 | 83 => 181 | 84 => 207 | 85 => 200 | 86 => 201 | 101 => 90 | 103 => 182 | 104 => 30 | 105 => 183 | 106 => 184 | 108 => 220 | 111 => 187 | 113 => 159 | 114 => 179 | 115 => 192 | 116 => 193 | 117 => 194 | 118 => 195 | 119 => 208 | 122 => 191 | 123 => 196 | 124 => 197 | 127 => 229 | 128 => 185 | 131 => 160 | 137 => 209 | 138 => 210 | 139 => 211 | 143 => 230 | 144 => 231 | 145 => 232 | 146 => 189 | 150 => 169 | 151 => 190 | 155 => 233 | 164 => 260 | 167 => 198 | 168 => 202 | 169 => 203 | 170 => 204 | 171 => 222 | 172 => 224 | 173 => 225 | 174 => 226 | 175 => 215 | 176 => 216 | 209 => 218 | 210 => 219 | 211 => 234 | 212 => 235 | 213 => 236 | 214 => 228 | 232 => 239 | 233 => 240 | 238 => 242 | 239 => 243 | 240 => 244 | 241 => 245 | 242 => 246 | 243 => 248 | 244 => 249 | 245 => 250 | 246 => 251 | 247 => 252 | 248 => 253 | 249 => 254 | n => n, fun | 1 => 2 | 3 => 3 | 4 => 4 | 15 => 5 | 16 => 6 | 17 => 7 | 18 => 8 | 19 => 9 | n => n⟩
theorem Tryz_internal_stringslite_Index_lay : Go.Proofs.Lays.n219 Tryz.prog Tryz_internal_stringslite_Index_lay_ren := {
  mixed := by kernel_rfl,
  f217 := Tryz.func82.trans (congrArg some (by kernel_rfl)),
  f219 := Tryz.func67.trans (congrArg some (by kernel_rfl)),
  f224 := Tryz.func84.trans (congrArg some (by kernel_rfl)),
  f225 := Tryz.func83.trans (congrArg some (by kernel_rfl)),
  f266 := Tryz.func96.trans (congrArg some (by kernel_rfl)),
  f267 := Tryz.func85.trans (congrArg some (by kernel_rfl)),
  f314 := Tryz.func97.trans (congrArg some (by kernel_rfl)),
  t3 := Tryz.underlying3,
  a3 := Tryz.isAgg3,
  z3 := Tryz.sizeOf3,
  v3 := Tryz.zeroValue3,
  t4 := Tryz.underlying4,
  a4 := Tryz.isAgg4,
  z4 := Tryz.sizeOf4,
  v4 := Tryz.zeroValue4,
  t5 := Tryz.underlying5,
  a5 := Tryz.isAgg5,
  z5 := Tryz.sizeOf5,
  v5 := Tryz.zeroValue5,
  t9 := Tryz.underlying9,
  a9 := Tryz.isAgg9,
  z9 := Tryz.sizeOf9,
  v9 := Tryz.zeroValue9,
  t46 := Tryz.underlying180,
  a46 := Tryz.isAgg180,
  z46 := Tryz.sizeOf180,
  v46 := Tryz.zeroValue180,
  t51 := Tryz.underlying188,
  a51 := Tryz.isAgg188,
  z51 := Tryz.sizeOf188,
  v51 := Tryz.zeroValue188,
  t146 := Tryz.underlying189,
  a146 := Tryz.isAgg189,
  z146 := Tryz.sizeOf189,
  v146 := Tryz.zeroValue189,
  g1 := by kernel_rfl }
theorem internal_stringslite_Index_c (w : World) {A : Nat → Prop} (hA : ∀ b, w.heap.size ≤ b → A b) (s : ByteArray) (substr : ByteArray) {r : Int} (hm : internal_stringslite_Index s substr = some r) : Ret Tryz.prog 67 #[.string s, .string substr] w fun v w' => v = .int .i64 r ∧ Kp Dw w w' := by
  unfold internal_stringslite_Index at hm
  split at hm
  · rename_i c hc
    obtain rfl := Option.some.inj hm
    obtain rfl : substr = ⟨#[c]⟩ := by apply ByteArray.ext; apply Array.toList_inj.1; simpa using hc
    refine Calls.mono (Go.Proofs.Any.stringslite_Index_one Tryz_internal_stringslite_Index_lay s c w) ?_
    rintro _ w' ⟨rfl, rfl⟩
    exact ⟨_, rfl, rfl, Kp.refl (Dw := Dw) _⟩
  · cases hm

set_option maxRecDepth 4000 in
set_option maxHeartbeats 4000000 in
theorem internal_stringslite_Cut_c (w : World) {A : Nat → Prop} (hA : ∀ b, w.heap.size ≤ b → A b) (s : ByteArray) (sep : ByteArray) {r : (ByteArray × ByteArray × Bool)} (hm : internal_stringslite_Cut s sep = some r) : Ret Tryz.prog 50 #[.string s, .string sep] w fun v w' => v = .tuple #[.string r.1, .string r.2.1, .bool r.2.2] ∧ Kp Dw w w' := by
  unfold internal_stringslite_Cut at hm
  refine enter Tryz.func50 rfl Tryz.ntmps50 rfl ?_
  have hA0 := hA
  have hB := Nat.le_refl w.heap.size
  have hK : Tr Dw w.heap.size A w A w := Tr.refl (Dw := Dw) hA
  have hH : Hp w.heap.size A w [] := Hp.nil
  refine C_seq ?_
  refine C_region ?_
  refine V_y (Y_assign rfl) rfl rfl rfl ?_
  refine V_y (Y_assign rfl) rfl rfl rfl ?_
  refine V_y (Y_assign rfl) rfl rfl rfl ?_
  refine V_to (fun _ _ => rfl) ?_
  refine C_seq ?_
  refine C_seq ?_
  refine C_region ?_
  refine V_y (Y_move rfl) rfl rfl rfl ?_
  refine V_y (Y_move rfl) rfl rfl rfl ?_
  obtain ⟨x1, hx1, hm⟩ := Option.bind_eq_some_iff.1 hm
  refine V_call Tryz.call67 rfl rfl rfl rfl (internal_stringslite_Index_c (Dw := Dw) w hA s sep hx1) ?_
  rintro _ w2 ⟨rfl, hk3⟩
  have ht4 := Kp.tr (Dw := Dw) hk3 hA hB
  replace hH := Hp.kp (Dw := Dw) hH hk3
  replace hK := Tr.trans (Dw := Dw) hK ht4
  replace hB := Nat.le_trans hB ht4.ex.size
  replace hA := ht4.new
  refine V_y (Y_assign rfl) rfl rfl rfl ?_
  refine V_to (fun _ _ => rfl) ?_
  refine C_seq ?_
  refine C_region ?_
  refine V_y (Y_move rfl) rfl rfl rfl ?_
  refine V_y (Y_geq rfl rfl) rfl rfl rfl ?_
  refine V_to (fun _ _ => rfl) ?_
  refine C_cond rfl (fun hc5 => ?_) (fun hc5 => ?_)
  · rw [if_pos hc5] at hm
    refine C_seq ?_
    refine C_region_q (Dw := Dw) Tryz_mixed (by kernel_rfl) ?_
    refine VQ_y (fun w' hw' => Y_move rfl) rfl rfl rfl ?_
    refine VQ_y (fun w' hw' => Y_move rfl) rfl rfl rfl ?_
    obtain ⟨x6, hx6, hm⟩ := Option.bind_eq_some_iff.1 hm
    refine VQ_y (fun w' hw' => Y_sliceSH hx6 Tryz.underlying9 rfl rfl) rfl rfl rfl ?_
    refine VQ_y (fun w' hw' => Y_move rfl) rfl rfl rfl ?_
    refine VQ_y (fun w' hw' => Y_move rfl) rfl rfl rfl ?_
    refine VQ_y (fun w' hw' => Y_move rfl) rfl rfl rfl ?_
    refine VQ_y (fun w' hw' => Y_lenStr rfl Tryz.underlying9 rfl) rfl rfl rfl ?_
    refine VQ_y (fun w' hw' => Y_addI rfl rfl) rfl rfl rfl ?_
    obtain ⟨x7, hx7, hm⟩ := Option.bind_eq_some_iff.1 hm
    refine VQ_y (fun w' hw' => Y_sliceSL hx7 Tryz.underlying9 rfl rfl) rfl rfl rfl ?_
    refine VQ_y (fun w' hw' => Y_assign rfl) rfl rfl rfl ?_
    refine VQ_y (fun w' hw' => Y_assign rfl) rfl rfl rfl ?_
    refine VQ_y (fun w' hw' => Y_assign rfl) rfl rfl rfl ?_
    refine VQ_to (fun _ _ => rfl) (fun w9 hk10 => ?_)
    have ht11 := Kp.tr (Dw := Dw) hk10 hA hB
    replace hH := Hp.kp (Dw := Dw) hH hk10
    replace hK := Tr.trans (Dw := Dw) hK ht11
    replace hB := Nat.le_trans hB ht11.ex.size
    replace hA := ht11.new
    obtain rfl := Option.some.inj hm
    refine C_ret ?_
    try simp only [↓inBlock_ret, ↓then_ret]
    exact retQ rfl (Res.three Tryz.results50 rfl rfl rfl) ⟨rfl, hK.kp⟩
  · rw [if_neg (nt hc5)] at hm
    refine C_skip_to (fun _ _ => rfl) ?_
    refine C_seq ?_
    refine C_region ?_
    refine V_y (Y_move rfl) rfl rfl rfl ?_
    refine V_y (Y_assign rfl) rfl rfl rfl ?_
    refine V_y (Y_assign rfl) rfl rfl rfl ?_
    refine V_y (Y_assign rfl) rfl rfl rfl ?_
    refine V_to (fun _ _ => rfl) ?_
    obtain rfl := Option.some.inj hm
    refine C_ret ?_
    try simp only [↓inBlock_ret, ↓then_ret]
    exact retQ rfl (Res.three Tryz.results50 rfl rfl rfl) ⟨rfl, hK.kp⟩

set_option maxRecDepth 4000 in
set_option maxHeartbeats 4000000 in
theorem strings_Cut_c (w : World) {A : Nat → Prop} (hA : ∀ b, w.heap.size ≤ b → A b) (s : ByteArray) (sep : ByteArray) {r : (ByteArray × ByteArray × Bool)} (hm : strings_Cut s sep = some r) : Ret Tryz.prog 7 #[.string s, .string sep] w fun v w' => v = .tuple #[.string r.1, .string r.2.1, .bool r.2.2] ∧ Kp Dw w w' := by
  unfold strings_Cut at hm
  refine enter Tryz.func7 rfl Tryz.ntmps7 rfl ?_
  have hA0 := hA
  have hB := Nat.le_refl w.heap.size
  have hK : Tr Dw w.heap.size A w A w := Tr.refl (Dw := Dw) hA
  have hH : Hp w.heap.size A w [] := Hp.nil
  refine C_seq ?_
  refine C_region ?_
  refine V_y (Y_assign rfl) rfl rfl rfl ?_
  refine V_y (Y_assign rfl) rfl rfl rfl ?_
  refine V_y (Y_assign rfl) rfl rfl rfl ?_
  refine V_to (fun _ _ => rfl) ?_
  refine C_seq ?_
  refine C_region ?_
  refine V_y (Y_move rfl) rfl rfl rfl ?_
  refine V_y (Y_move rfl) rfl rfl rfl ?_
  obtain ⟨x1, hx1, hm⟩ := Option.bind_eq_some_iff.1 hm
  refine V_call Tryz.call50 rfl rfl rfl rfl (internal_stringslite_Cut_c (Dw := Dw) w hA s sep hx1) ?_
  rintro _ w2 ⟨rfl, hk3⟩
  have ht4 := Kp.tr (Dw := Dw) hk3 hA hB
  replace hH := Hp.kp (Dw := Dw) hH hk3
  replace hK := Tr.trans (Dw := Dw) hK ht4
  replace hB := Nat.le_trans hB ht4.ex.size
  replace hA := ht4.new
  refine V_y (Y_extract rfl rfl) rfl rfl rfl ?_
  refine V_y (Y_extract rfl rfl) rfl rfl rfl ?_
  refine V_y (Y_extract rfl rfl) rfl rfl rfl ?_
  refine V_y (Y_assign rfl) rfl rfl rfl ?_
  refine V_y (Y_assign rfl) rfl rfl rfl ?_
  refine V_y (Y_assign rfl) rfl rfl rfl ?_
  refine V_to (fun _ _ => rfl) ?_
  obtain rfl := Option.some.inj hm
  refine C_ret ?_
  try simp only [↓inBlock_ret, ↓then_ret]
  exact retQ rfl (Res.three Tryz.results7 rfl rfl rfl) ⟨rfl, hK.kp⟩

def Tryz_strings_genSplit_lay_ren : Go.Shelf.Ren := ⟨fun | 138 => 73 | 143 => 63 | 195 => 87 | 197 => 88 | 217 => 82 | 218 => 89 | 219 => 67 | 221 => 59 | 224 => 84 | 225 => 83 | 260 => 99 | 266 => 96 | 267 => 85 | 268 => 72 | 314 => 97 | n => n, fun | 0 => 0 | 1 => 1 | 2 => 2 | 3 => 3 | 4 => 4 | 5 => 5 | 6 => 6 | 7 => 7 | 8 => 8 | 9 => 9 | 10 => 10 | 11 => 11 | 12 => 12 | 13 => 13 | 14 => 14 | 15 => 15 | 16 => 16 | 17 => 17 | 18 => 18 | 19 => 19 | 20 => 20 | 21 => 21 | 22 => 42 | 23 => 154 | 24 => 38 | 25 => 39 | 27 => 162 | 28 => 22 | 31 => 35 | 32 => 54 | 34 => 96 | 37 => 199 | 40 => 206 | 41 => 212 | 46 => 180 | 47 => 237 | 51 => 188 | 52 => 238 | 53 => 214 | 54 => 223 | 55 => 178 | 59 => 31 | 60 => 32 | 61 => 36 | 62 => 163 | 63 => 213 | 64 => 227 | 69 => 217 | 74 => 171 | 75 => 172 | 76 => 173 | 77 => 174 | 80 => 241 | 81 => 247 | 83 => 181 | 84 => 207 | 85 => 200 | 86 => 201 | 101 => 90 | 103 => 182 | 104 => 30 | 105 => 183 | 106 => 184 | 108 => 220 | 111 => 187 | 113 => 159 | 114 => 179 | 115 => 192 | 116 => 193 | 117 => 194 | 118 => 195 | 119 => 208 | 122 => 191 | 123 => 196 | 124 => 197 | 127 => 229 | 128 => 185 | 131 => 160 | 137 => 209 | 138 => 210 | 139 => 211 | 143 => 230 | 144 => 231 | 145 => 232 | 146 => 189 | 150 => 169 | 151 => 190 | 155 => 233 | 164 => 260 | 167 => 198 | 168 => 202 | 169 => 203 | 170 => 204 | 171 => 222 | 172 => 224 | 173 => 225 | 174 => 226 | 175 => 215 | 176 => 216 | 209 => 218 | 210 => 219 | 211 => 234 | 212 => 235 | 213 => 236 | 214 => 228 | 232 => 239 | 233 => 240 | 238 => 242 | 239 => 243 | 240 => 244 | 241 => 245 | 242 => 246 | 243 => 248 | 244 => 249 | 245 => 250 | 246 => 251 | 247 => 252 | 248 => 253 | 249 => 254 | n => n, fun | 1 => 2 | 3 => 3 | 4 => 4 | 15 => 5 | 16 => 6 | 17 => 7 | 18 => 8 | 19 => 9 | n => n⟩
theorem Tryz_strings_genSplit_lay : Go.Proofs.Lays.n221 Tryz.prog Tryz_strings_genSplit_lay_ren := {
  mixed := by kernel_rfl,
  f138 := Tryz.func73.trans (congrArg some (by kernel_rfl)),
  f143 := Tryz.func63.trans (congrArg some (by kernel_rfl)),
  f195 := Tryz.func87.trans (congrArg some (by kernel_rfl)),
  f197 := Tryz.func88.trans (congrArg some (by kernel_rfl)),
  f217 := Tryz.func82.trans (congrArg some (by kernel_rfl)),
  f218 := Tryz.func89.trans (congrArg some (by kernel_rfl)),
  f219 := Tryz.func67.trans (congrArg some (by kernel_rfl)),
  f221 := Tryz.func59.trans (congrArg some (by kernel_rfl)),
  f224 := Tryz.func84.trans (congrArg some (by kernel_rfl)),
  f225 := Tryz.func83.trans (congrArg some (by kernel_rfl)),
  f260 := Tryz.func99.trans (congrArg some (by kernel_rfl)),
  f266 := Tryz.func96.trans (congrArg some (by kernel_rfl)),
  f267 := Tryz.func85.trans (congrArg some (by kernel_rfl)),
  f268 := Tryz.func72.trans (congrArg some (by kernel_rfl)),
  f314 := Tryz.func97.trans (congrArg some (by kernel_rfl)),
  t0 := Tryz.underlying0,
  a0 := Tryz.isAgg0,
  z0 := Tryz.sizeOf0,
  v0 := Tryz.zeroValue0,
  t3 := Tryz.underlying3,
  a3 := Tryz.isAgg3,
  z3 := Tryz.sizeOf3,
  v3 := Tryz.zeroValue3,
  t4 := Tryz.underlying4,
  a4 := Tryz.isAgg4,
  z4 := Tryz.sizeOf4,
  v4 := Tryz.zeroValue4,
  t5 := Tryz.underlying5,
  a5 := Tryz.isAgg5,
  z5 := Tryz.sizeOf5,
  v5 := Tryz.zeroValue5,
  t9 := Tryz.underlying9,
  a9 := Tryz.isAgg9,
  z9 := Tryz.sizeOf9,
  v9 := Tryz.zeroValue9,
  t21 := Tryz.underlying21,
  a21 := Tryz.isAgg21,
  z21 := Tryz.sizeOf21,
  v21 := Tryz.zeroValue21,
  t31 := Tryz.underlying35,
  a31 := Tryz.isAgg35,
  z31 := Tryz.sizeOf35,
  v31 := Tryz.zeroValue35,
  t46 := Tryz.underlying180,
  a46 := Tryz.isAgg180,
  z46 := Tryz.sizeOf180,
  v46 := Tryz.zeroValue180,
  t51 := Tryz.underlying188,
  a51 := Tryz.isAgg188,
  z51 := Tryz.sizeOf188,
  v51 := Tryz.zeroValue188,
  t105 := Tryz.underlying183,
  a105 := Tryz.isAgg183,
  z105 := Tryz.sizeOf183,
  v105 := Tryz.zeroValue183,
  t119 := Tryz.underlying208,
  a119 := Tryz.isAgg208,
  z119 := Tryz.sizeOf208,
  t138 := Tryz.underlying210,
  a138 := Tryz.isAgg210,
  z138 := Tryz.sizeOf210,
  v138 := Tryz.zeroValue210,
  t139 := Tryz.underlying211,
  a139 := Tryz.isAgg211,
  z139 := Tryz.sizeOf211,
  v139 := Tryz.zeroValue211,
  t146 := Tryz.underlying189,
  a146 := Tryz.isAgg189,
  z146 := Tryz.sizeOf189,
  v146 := Tryz.zeroValue189,
  g1 := by kernel_rfl,
  g3 := by kernel_rfl,
  g4 := by kernel_rfl }
theorem strings_genSplit_c (w : World) {A : Nat → Prop} (hA : ∀ b, w.heap.size ≤ b → A b) (hT : Mx Tryz.prog 2 A w) (s : ByteArray) (sep : ByteArray) (sepSave : Int) (n : Int) {r : List ByteArray} (hm : strings_genSplit s sep sepSave n = some r) : Ret Tryz.prog 59 #[.string s, .string sep, .int .i64 sepSave, .int .i64 n] w fun v w' => ∃ s0, v = s0 ∧ Sl A w' s0 r ∧ Kp Dw w w' := by
  unfold strings_genSplit at hm
  split at hm
  case isFalse => cases hm
  rename_i h
  obtain ⟨h1, h2, h3, h4, h5⟩ := h
  obtain rfl := Option.some.inj hm
  obtain ⟨⟨m, hmx⟩, _, _⟩ := hT
  obtain ⟨k, rfl⟩ := Int.eq_ofNat_of_zero_le h3
  by_cases hn : n < 0
  · simp only [if_pos hn]
    have hlen := Go.Lib.splitB_length_le sep (k : Int).toNat (min ((Go.Lib.countB s sep + 1)) (s.size + 1) - 1) s
    refine split_wrap (Dw := Dw) (N := min ((Go.Lib.countB s sep + 1)) (s.size + 1)) (sv := k) hA (by omega) (by unfold maxLen; omega) (Go.Proofs.Any.strings_genSplit Tryz_strings_genSplit_lay (by kernel_rfl) s sep k n _ m w h1 hmx h2 (by omega) (by omega) (by omega) ?_)
    rw [if_pos hn]
    omega
  · simp only [if_neg hn]
    have hlen := Go.Lib.splitB_length_le sep (k : Int).toNat (min ((n.toNat)) (s.size + 1) - 1) s
    refine split_wrap (Dw := Dw) (N := min ((n.toNat)) (s.size + 1)) (sv := k) hA (by omega) (by unfold maxLen; omega) (Go.Proofs.Any.strings_genSplit Tryz_strings_genSplit_lay (by kernel_rfl) s sep k n _ m w h1 hmx h2 (by omega) (by omega) (by omega) ?_)
    rw [if_neg hn]
    omega

set_option maxRecDepth 4000 in
set_option maxHeartbeats 4000000 in
theorem strings_Split_c (w : World) {A : Nat → Prop} (hA : ∀ b, w.heap.size ≤ b → A b) (hT : Fz Tryz_FR A w) (s : ByteArray) (sep : ByteArray) {r : (List ByteArray)} (hm : strings_Split s sep = some r) : Ret Tryz.prog 51 #[.string s, .string sep] w fun v w' => ∃ s0, v = s0 ∧ Sl A w' s0 r ∧ Kp Dw w w' := by
  unfold strings_Split at hm
  refine enter Tryz.func51 rfl Tryz.ntmps51 rfl ?_
  have hA0 := hA
  have hB := Nat.le_refl w.heap.size
  have hK : Tr Dw w.heap.size A w A w := Tr.refl (Dw := Dw) hA
  have hH : Hp w.heap.size A w [] := Hp.nil
  refine C_seq ?_
  refine C_region ?_
  refine V_y (Y_assign rfl) rfl rfl rfl ?_
  refine V_to (fun _ _ => rfl) ?_
  refine C_seq ?_
  refine C_region ?_
  refine V_y (Y_move rfl) rfl rfl rfl ?_
  refine V_y (Y_move rfl) rfl rfl rfl ?_
  obtain ⟨x1, hx1, hm⟩ := Option.bind_eq_some_iff.1 hm
  refine V_call Tryz.call59 rfl rfl rfl rfl (strings_genSplit_c (Dw := Dw) w hA ((Fz.tr (Dw := Dw) hT hK)).2.1 s sep 0 (-1) hx1) ?_
  rintro v2 w4 ⟨_, rfl, h3, hk5⟩
  have ht6 := Kp.tr (Dw := Dw) hk5 hA hB
  replace hH := Hp.kp (Dw := Dw) hH hk5
  replace hK := Tr.trans (Dw := Dw) hK ht6
  replace hB := Nat.le_trans hB ht6.ex.size
  replace hA := ht6.new
  refine V_y (Y_assign rfl) rfl rfl rfl ?_
  refine V_to (fun _ _ => rfl) ?_
  obtain rfl := Option.some.inj hm
  refine C_ret ?_
  try simp only [↓inBlock_ret, ↓then_ret]
  exact retQ rfl (Res.one Tryz.results51 rfl) ⟨v2, rfl, (Sl.out (Dw := Dw) h3 hA0 hK), hK.kp⟩

def Tryz_strconv_Atoi_lay_ren : Go.Shelf.Ren := ⟨fun | 129 => 132 | 171 => 86 | 172 => 76 | 205 => 120 | 243 => 98 | 244 => 91 | 245 => 92 | 246 => 114 | 247 => 107 | 279 => 108 | 280 => 109 | 281 => 110 | 282 => 111 | 283 => 122 | 284 => 123 | 285 => 124 | 286 => 125 | 287 => 118 | 316 => 119 | 317 => 131 | 318 => 133 | 319 => 134 | 320 => 135 | 321 => 128 | 322 => 129 | 337 => 138 | 338 => 139 | n => n, fun | 0 => 0 | 1 => 1 | 2 => 2 | 3 => 3 | 4 => 4 | 5 => 5 | 6 => 6 | 7 => 7 | 8 => 8 | 9 => 9 | 10 => 10 | 11 => 11 | 12 => 12 | 13 => 13 | 14 => 14 | 15 => 15 | 16 => 16 | 17 => 17 | 18 => 18 | 19 => 19 | 20 => 20 | 21 => 21 | 22 => 42 | 23 => 154 | 24 => 38 | 25 => 39 | 27 => 162 | 28 => 22 | 31 => 35 | 32 => 54 | 34 => 96 | 37 => 199 | 40 => 206 | 41 => 212 | 46 => 180 | 47 => 237 | 51 => 188 | 52 => 238 | 53 => 214 | 54 => 223 | 55 => 178 | 59 => 31 | 60 => 32 | 61 => 36 | 62 => 163 | 63 => 213 | 64 => 227 | 69 => 217 | 74 => 171 | 75 => 172 | 76 => 173 | 77 => 174 | 80 => 241 | 81 => 247 | 83 => 181 | 84 => 207 | 85 => 200 | 86 => 201 | 101 => 90 | 103 => 182 | 104 => 30 | 105 => 183 | 106 => 184 | 108 => 220 | 111 => 187 | 113 => 159 | 114 => 179 | 115 => 192 | 116 => 193 | 117 => 194 | 118 => 195 | 119 => 208 | 122 => 191 | 123 => 196 | 124 => 197 | 127 => 229 | 128 => 185 | 131 => 160 | 137 => 209 | 138 => 210 | 139 => 211 | 143 => 230 | 144 => 231 | 145 => 232 | 146 => 189 | 150 => 169 | 151 => 190 | 155 => 233 | 164 => 260 | 167 => 198 | 168 => 202 | 169 => 203 | 170 => 204 | 171 => 222 | 172 => 224 | 173 => 225 | 174 => 226 | 175 => 215 | 176 => 216 | 209 => 218 | 210 => 219 | 211 => 234 | 212 => 235 | 213 => 236 | 214 => 228 | 232 => 239 | 233 => 240 | 238 => 242 | 239 => 243 | 240 => 244 | 241 => 245 | 242 => 246 | 243 => 248 | 244 => 249 | 245 => 250 | 246 => 251 | 247 => 252 | 248 => 253 | 249 => 254 | n => n, fun | 1 => 2 | 3 => 3 | 4 => 4 | 15 => 5 | 16 => 6 | 17 => 7 | 18 => 8 | 19 => 9 | n => n⟩
theorem Tryz_strconv_Atoi_laym0 : Go.Proofs.Lays.n172 Tryz.prog Tryz_strconv_Atoi_lay_ren := {
  mixed := by kernel_rfl,
  f129 := Tryz.func132.trans (congrArg some (by kernel_rfl)),
  f171 := Tryz.func86.trans (congrArg some (by kernel_rfl)),
  f172 := Tryz.func76.trans (congrArg some (by kernel_rfl)),
  f205 := Tryz.func120.trans (congrArg some (by kernel_rfl)),
  f243 := Tryz.func98.trans (congrArg some (by kernel_rfl)),
  f244 := Tryz.func91.trans (congrArg some (by kernel_rfl)),
  f245 := Tryz.func92.trans (congrArg some (by kernel_rfl)),
  f246 := Tryz.func114.trans (congrArg some (by kernel_rfl)),
  f247 := Tryz.func107.trans (congrArg some (by kernel_rfl)),
  f279 := Tryz.func108.trans (congrArg some (by kernel_rfl)),
  f280 := Tryz.func109.trans (congrArg some (by kernel_rfl)),
  f281 := Tryz.func110.trans (congrArg some (by kernel_rfl)),
  f282 := Tryz.func111.trans (congrArg some (by kernel_rfl)),
  f283 := Tryz.func122.trans (congrArg some (by kernel_rfl)),
  f284 := Tryz.func123.trans (congrArg some (by kernel_rfl)),
  f285 := Tryz.func124.trans (congrArg some (by kernel_rfl)),
  f286 := Tryz.func125.trans (congrArg some (by kernel_rfl)),
  f287 := Tryz.func118.trans (congrArg some (by kernel_rfl)),
  f316 := Tryz.func119.trans (congrArg some (by kernel_rfl)),
  f317 := Tryz.func131.trans (congrArg some (by kernel_rfl)),
  f318 := Tryz.func133.trans (congrArg some (by kernel_rfl)),
  f319 := Tryz.func134.trans (congrArg some (by kernel_rfl)),
  f320 := Tryz.func135.trans (congrArg some (by kernel_rfl)),
  f321 := Tryz.func128.trans (congrArg some (by kernel_rfl)),
  f322 := Tryz.func129.trans (congrArg some (by kernel_rfl)),
  f337 := Tryz.func138.trans (congrArg some (by kernel_rfl)),
  f338 := Tryz.func139.trans (congrArg some (by kernel_rfl)),
  t0 := Tryz.underlying0,
  a0 := Tryz.isAgg0,
  z0 := Tryz.sizeOf0,
  v0 := Tryz.zeroValue0,
  t2 := Tryz.underlying2,
  a2 := Tryz.isAgg2,
  z2 := Tryz.sizeOf2,
  v2 := Tryz.zeroValue2,
  t3 := Tryz.underlying3,
  a3 := Tryz.isAgg3,
  z3 := Tryz.sizeOf3,
  v3 := Tryz.zeroValue3,
  t4 := Tryz.underlying4,
  a4 := Tryz.isAgg4,
  z4 := Tryz.sizeOf4,
  v4 := Tryz.zeroValue4,
  t5 := Tryz.underlying5,
  a5 := Tryz.isAgg5,
  z5 := Tryz.sizeOf5,
  v5 := Tryz.zeroValue5,
  t9 := Tryz.underlying9,
  a9 := Tryz.isAgg9,
  z9 := Tryz.sizeOf9,
  v9 := Tryz.zeroValue9,
  t20 := Tryz.underlying20,
  a20 := Tryz.isAgg20,
  z20 := Tryz.sizeOf20,
  v20 := Tryz.zeroValue20,
  t21 := Tryz.underlying21,
  a21 := Tryz.isAgg21,
  z21 := Tryz.sizeOf21,
  v21 := Tryz.zeroValue21,
  t37 := Tryz.underlying199,
  a37 := Tryz.isAgg199,
  z37 := Tryz.sizeOf199,
  v37 := Tryz.zeroValue199,
  t46 := Tryz.underlying180,
  a46 := Tryz.isAgg180,
  z46 := Tryz.sizeOf180,
  v46 := Tryz.zeroValue180,
  t51 := Tryz.underlying188,
  a51 := Tryz.isAgg188,
  z51 := Tryz.sizeOf188,
  v51 := Tryz.zeroValue188,
  t53 := Tryz.underlying214,
  a53 := Tryz.isAgg214,
  z53 := Tryz.sizeOf214,
  v53 := Tryz.zeroValue214,
  t75 := Tryz.underlying172,
  a75 := Tryz.isAgg172,
  z75 := Tryz.sizeOf172,
  v75 := Tryz.zeroValue172,
  t76 := Tryz.underlying173,
  a76 := Tryz.isAgg173,
  z76 := Tryz.sizeOf173,
  v76 := Tryz.zeroValue173,
  t85 := Tryz.underlying200,
  a85 := Tryz.isAgg200,
  z85 := Tryz.sizeOf200,
  v85 := Tryz.zeroValue200,
  t127 := Tryz.underlying229,
  a127 := Tryz.isAgg229,
  z127 := Tryz.sizeOf229,
  v127 := Tryz.zeroValue229,
  t143 := Tryz.underlying230,
  a143 := Tryz.isAgg230,
  z143 := Tryz.sizeOf230,
  v143 := Tryz.zeroValue230,
  t145 := Tryz.underlying232,
  a145 := Tryz.isAgg232,
  z145 := Tryz.sizeOf232,
  v145 := Tryz.zeroValue232,
  t167 := Tryz.underlying198,
  a167 := Tryz.isAgg198,
  z167 := Tryz.sizeOf198,
  v167 := Tryz.zeroValue198,
  t168 := Tryz.underlying202,
  a168 := Tryz.isAgg202,
  z168 := Tryz.sizeOf202,
  v168 := Tryz.zeroValue202,
  t171 := Tryz.underlying222,
  a171 := Tryz.isAgg222,
  z171 := Tryz.sizeOf222,
  v171 := Tryz.zeroValue222,
  t173 := Tryz.underlying225,
  a173 := Tryz.isAgg225,
  z173 := Tryz.sizeOf225,
  v173 := Tryz.zeroValue225,
  t175 := Tryz.underlying215,
  a175 := Tryz.isAgg215,
  z175 := Tryz.sizeOf215,
  v175 := Tryz.zeroValue215,
  t210 := Tryz.underlying219,
  a210 := Tryz.isAgg219,
  z210 := Tryz.sizeOf219,
  v210 := Tryz.zeroValue219,
  t212 := Tryz.underlying235,
  a212 := Tryz.isAgg235,
  z212 := Tryz.sizeOf235,
  v212 := Tryz.zeroValue235,
  t213 := Tryz.underlying236,
  a213 := Tryz.isAgg236,
  z213 := Tryz.sizeOf236,
  t232 := Tryz.underlying239,
  a232 := Tryz.isAgg239,
  z232 := Tryz.sizeOf239,
  v232 := Tryz.zeroValue239,
  t233 := Tryz.underlying240,
  a233 := Tryz.isAgg240,
  z233 := Tryz.sizeOf240,
  v233 := Tryz.zeroValue240,
  g15 := by kernel_rfl,
  g16 := by kernel_rfl,
  g17 := by kernel_rfl,
  g18 := by kernel_rfl,
  g19 := by kernel_rfl }
theorem Tryz_strconv_Atoi_laym : Go.Proofs.LaysM.n172 Tryz.prog Tryz_strconv_Atoi_lay_ren := { Tryz_strconv_Atoi_laym0 with
  t80 := Tryz.underlying241,
  a80 := Tryz.isAgg241,
  z80 := Tryz.sizeOf241,
  v80 := Tryz.zeroValue241,
  i0 := by kernel_rfl,
  i2 := by kernel_rfl,
  i3 := by kernel_rfl,
  i4 := by kernel_rfl,
  i5 := by kernel_rfl,
  i9 := by kernel_rfl,
  i20 := by kernel_rfl,
  i21 := by kernel_rfl,
  i37 := by kernel_rfl,
  i46 := by kernel_rfl,
  i51 := by kernel_rfl,
  i53 := by kernel_rfl,
  i75 := by kernel_rfl,
  i76 := by kernel_rfl,
  i80 := by kernel_rfl,
  i85 := by kernel_rfl,
  i127 := by kernel_rfl,
  i143 := by kernel_rfl,
  i145 := by kernel_rfl,
  i167 := by kernel_rfl,
  i168 := by kernel_rfl,
  i171 := by kernel_rfl,
  i173 := by kernel_rfl,
  i175 := by kernel_rfl,
  i210 := by kernel_rfl,
  i212 := by kernel_rfl,
  i232 := by kernel_rfl,
  i233 := by kernel_rfl,
  m15 := by kernel_rfl,
  m16 := by kernel_rfl,
  m17 := by kernel_rfl,
  m18 := by kernel_rfl,
  m19 := by kernel_rfl }
theorem Tryz_strconv_Atoi_lay : Go.Proofs.LaysC.n172 Tryz.prog Tryz_strconv_Atoi_lay_ren := { Tryz_strconv_Atoi_laym with
  c0 := by kernel_rfl,
  c2 := by kernel_rfl,
  c3 := by kernel_rfl,
  c4 := by kernel_rfl,
  c5 := by kernel_rfl,
  c9 := by kernel_rfl,
  c20 := by kernel_rfl,
  c21 := by kernel_rfl,
  c37 := by kernel_rfl,
  c46 := by kernel_rfl,
  c51 := by kernel_rfl,
  c53 := by kernel_rfl,
  c75 := by kernel_rfl,
  c76 := by kernel_rfl,
  c80 := by kernel_rfl,
  c85 := by kernel_rfl,
  c127 := by kernel_rfl,
  c143 := by kernel_rfl,
  c145 := by kernel_rfl,
  c167 := by kernel_rfl,
  c168 := by kernel_rfl,
  c171 := by kernel_rfl,
  c173 := by kernel_rfl,
  c175 := by kernel_rfl,
  c210 := by kernel_rfl,
  c212 := by kernel_rfl,
  c213 := by kernel_rfl,
  c232 := by kernel_rfl,
  c233 := by kernel_rfl }
theorem strconv_Atoi_c (w : World) {A : Nat → Prop} (hA : ∀ b, w.heap.size ≤ b → A b) (hT : Er Tryz.prog 5 A w ∧ Er Tryz.prog 6 A w) (s : ByteArray) {r : Int × Bool} (hm : strconv_Atoi s = some r) : Ret Tryz.prog 76 #[.string s] w fun v w' => ∃ ev, v = .tuple #[.int .i64 r.1, ev] ∧ ErV ev r.2 ∧ Kp False w w' := by
  unfold strconv_Atoi at hm
  split at hm
  case isFalse => cases hm
  rename_i hs
  obtain rfl := Option.some.inj hm
  obtain ⟨⟨⟨t1, p1, hc1⟩, _, _⟩, ⟨t2, p2, hc2⟩, _, _⟩ := hT
  rcases h : Go.Lib.atoiAll s.data.toList with v | _ | _
  · refine Calls.mono (Go.Proofs.Any.strconv_Atoi_ok Tryz_strconv_Atoi_lay s (by omega) v h w) ?_
    rintro _ w' ⟨rfl, hk⟩
    refine ⟨_, rfl, _, rfl, rfl, ?_⟩
    rcases hk with rfl | ⟨t, rfl⟩
    · exact Kp.refl (Dw := False) _
    · exact .of (Go.Lib.bytesWorld_below w _ t)
  · refine Calls.mono (Go.Proofs.Any.strconv_Atoi_syntax Tryz_strconv_Atoi_lay s hs h (.iface t1 p1) w hc1 (.inr ⟨t1, p1, rfl⟩)) ?_
    rintro _ w' ⟨N, rfl, _, _, hb⟩
    exact ⟨_, rfl, _, rfl, ⟨_, _, rfl⟩, .of hb⟩
  · refine Calls.mono (Go.Proofs.Any.strconv_Atoi_range Tryz_strconv_Atoi_lay s hs h (.iface t2 p2) w hc2 (.inr ⟨t2, p2, rfl⟩)) ?_
    rintro _ w' ⟨N, rfl, _, _, hb⟩
    exact ⟨_, rfl, _, rfl, ⟨_, _, rfl⟩, .of hb⟩

def Tryz_strconv_Itoa_lay_ren : Go.Shelf.Ren := ⟨fun | 129 => 132 | 171 => 86 | 243 => 98 | 246 => 114 | 283 => 122 | 284 => 123 | 285 => 124 | 286 => 125 | 317 => 131 | 318 => 133 | 319 => 134 | 320 => 135 | 337 => 138 | 338 => 139 | n => n, fun | 0 => 0 | 1 => 1 | 2 => 2 | 3 => 3 | 4 => 4 | 5 => 5 | 6 => 6 | 7 => 7 | 8 => 8 | 9 => 9 | 10 => 10 | 11 => 11 | 12 => 12 | 13 => 13 | 14 => 14 | 15 => 15 | 16 => 16 | 17 => 17 | 18 => 18 | 19 => 19 | 20 => 20 | 21 => 21 | 22 => 42 | 23 => 154 | 24 => 38 | 25 => 39 | 27 => 162 | 28 => 22 | 31 => 35 | 32 => 54 | 34 => 96 | 37 => 199 | 40 => 206 | 41 => 212 | 46 => 180 | 47 => 237 | 51 => 188 | 52 => 238 | 53 => 214 | 54 => 223 | 55 => 178 | 59 => 31 | 60 => 32 | 61 => 36 | 62 => 163 | 63 => 213 | 64 => 227 | 69 => 217 | 74 => 171 | 75 => 172 | 76 => 173 | 77 => 174 | 80 => 241 | 81 => 247 | 83 => 181 | 84 => 207 | 85 => 200 | 86 => 201 | 101 => 90 | 103 => 182 | 104 => 30 | 105 => 183 | 106 => 184 | 108 => 220 | 111 => 187 | 113 => 159 | 114 => 179 | 115 => 192 | 116 => 193 | 117 => 194 | 118 => 195 | 119 => 208 | 122 => 191 | 123 => 196 | 124 => 197 | 127 => 229 | 128 => 185 | 131 => 160 | 137 => 209 | 138 => 210 | 139 => 211 | 143 => 230 | 144 => 231 | 145 => 232 | 146 => 189 | 150 => 169 | 151 => 190 | 155 => 233 | 164 => 260 | 167 => 198 | 168 => 202 | 169 => 203 | 170 => 204 | 171 => 222 | 172 => 224 | 173 => 225 | 174 => 226 | 175 => 215 | 176 => 216 | 209 => 218 | 210 => 219 | 211 => 234 | 212 => 235 | 213 => 236 | 214 => 228 | 232 => 239 | 233 => 240 | 238 => 242 | 239 => 243 | 240 => 244 | 241 => 245 | 242 => 246 | 243 => 248 | 244 => 249 | 245 => 250 | 246 => 251 | 247 => 252 | 248 => 253 | 249 => 254 | n => n, fun | 1 => 2 | 3 => 3 | 4 => 4 | 15 => 5 | 16 => 6 | 17 => 7 | 18 => 8 | 19 => 9 | n => n⟩
theorem Tryz_strconv_Itoa_lay0 : Go.Proofs.Lays.n171 Tryz.prog Tryz_strconv_Itoa_lay_ren := {
  mixed := by kernel_rfl,
  f129 := Tryz.func132.trans (congrArg some (by kernel_rfl)),
  f171 := Tryz.func86.trans (congrArg some (by kernel_rfl)),
  f243 := Tryz.func98.trans (congrArg some (by kernel_rfl)),
  f246 := Tryz.func114.trans (congrArg some (by kernel_rfl)),
  f283 := Tryz.func122.trans (congrArg some (by kernel_rfl)),
  f284 := Tryz.func123.trans (congrArg some (by kernel_rfl)),
  f285 := Tryz.func124.trans (congrArg some (by kernel_rfl)),
  f286 := Tryz.func125.trans (congrArg some (by kernel_rfl)),
  f317 := Tryz.func131.trans (congrArg some (by kernel_rfl)),
  f318 := Tryz.func133.trans (congrArg some (by kernel_rfl)),
  f319 := Tryz.func134.trans (congrArg some (by kernel_rfl)),
  f320 := Tryz.func135.trans (congrArg some (by kernel_rfl)),
  f337 := Tryz.func138.trans (congrArg some (by kernel_rfl)),
  f338 := Tryz.func139.trans (congrArg some (by kernel_rfl)),
  t0 := Tryz.underlying0,
  a0 := Tryz.isAgg0,
  z0 := Tryz.sizeOf0,
  v0 := Tryz.zeroValue0,
  t2 := Tryz.underlying2,
  a2 := Tryz.isAgg2,
  z2 := Tryz.sizeOf2,
  v2 := Tryz.zeroValue2,
  t3 := Tryz.underlying3,
  a3 := Tryz.isAgg3,
  z3 := Tryz.sizeOf3,
  v3 := Tryz.zeroValue3,
  t4 := Tryz.underlying4,
  a4 := Tryz.isAgg4,
  z4 := Tryz.sizeOf4,
  v4 := Tryz.zeroValue4,
  t5 := Tryz.underlying5,
  a5 := Tryz.isAgg5,
  z5 := Tryz.sizeOf5,
  v5 := Tryz.zeroValue5,
  t9 := Tryz.underlying9,
  a9 := Tryz.isAgg9,
  z9 := Tryz.sizeOf9,
  v9 := Tryz.zeroValue9,
  t20 := Tryz.underlying20,
  a20 := Tryz.isAgg20,
  z20 := Tryz.sizeOf20,
  v20 := Tryz.zeroValue20,
  t37 := Tryz.underlying199,
  a37 := Tryz.isAgg199,
  z37 := Tryz.sizeOf199,
  v37 := Tryz.zeroValue199,
  t46 := Tryz.underlying180,
  a46 := Tryz.isAgg180,
  z46 := Tryz.sizeOf180,
  v46 := Tryz.zeroValue180,
  t51 := Tryz.underlying188,
  a51 := Tryz.isAgg188,
  z51 := Tryz.sizeOf188,
  v51 := Tryz.zeroValue188,
  t53 := Tryz.underlying214,
  a53 := Tryz.isAgg214,
  z53 := Tryz.sizeOf214,
  v53 := Tryz.zeroValue214,
  t171 := Tryz.underlying222,
  a171 := Tryz.isAgg222,
  z171 := Tryz.sizeOf222,
  v171 := Tryz.zeroValue222,
  t173 := Tryz.underlying225,
  a173 := Tryz.isAgg225,
  z173 := Tryz.sizeOf225,
  v173 := Tryz.zeroValue225,
  t212 := Tryz.underlying235,
  a212 := Tryz.isAgg235,
  z212 := Tryz.sizeOf235,
  v212 := Tryz.zeroValue235,
  t213 := Tryz.underlying236,
  a213 := Tryz.isAgg236,
  z213 := Tryz.sizeOf236,
  t232 := Tryz.underlying239,
  a232 := Tryz.isAgg239,
  z232 := Tryz.sizeOf239,
  v232 := Tryz.zeroValue239,
  t233 := Tryz.underlying240,
  a233 := Tryz.isAgg240,
  z233 := Tryz.sizeOf240,
  v233 := Tryz.zeroValue240,
  g17 := by kernel_rfl,
  g18 := by kernel_rfl,
  g19 := by kernel_rfl }
theorem Tryz_strconv_Itoa_lay : Go.Proofs.LaysM.n171 Tryz.prog Tryz_strconv_Itoa_lay_ren := { Tryz_strconv_Itoa_lay0 with
  i0 := by kernel_rfl,
  i2 := by kernel_rfl,
  i3 := by kernel_rfl,
  i4 := by kernel_rfl,
  i5 := by kernel_rfl,
  i9 := by kernel_rfl,
  i20 := by kernel_rfl,
  i37 := by kernel_rfl,
  i46 := by kernel_rfl,
  i51 := by kernel_rfl,
  i53 := by kernel_rfl,
  i171 := by kernel_rfl,
  i173 := by kernel_rfl,
  i212 := by kernel_rfl,
  i232 := by kernel_rfl,
  i233 := by kernel_rfl,
  m17 := by kernel_rfl,
  m18 := by kernel_rfl,
  m19 := by kernel_rfl }
theorem strconv_Itoa_c (w : World) {A : Nat → Prop} (hA : ∀ b, w.heap.size ≤ b → A b) (hT : Tb Tryz.prog A w) (n : Int) {r : ByteArray} (hm : strconv_Itoa n = some r) : Ret Tryz.prog 86 #[.int .i64 n] w fun v w' => v = .string r ∧ Kp False w w' := by
  unfold strconv_Itoa at hm
  split at hm
  case isFalse => cases hm
  rename_i h
  obtain rfl := Option.some.inj hm
  refine Calls.mono (Go.Proofs.Any.strconv_Itoa Tryz_strconv_Itoa_lay n h.1 h.2 w hT.1) ?_
  rintro _ w' ⟨rfl, k, os, rfl⟩
  exact ⟨_, rfl, rfl, .of (Go.Lib.below_grow _ w (Nat.le_refl _) k os)⟩

set_option maxRecDepth 4000 in
set_option maxHeartbeats 4000000 in
theorem internal_stringslite_HasPrefix_c (w : World) (s : ByteArray) (prefix_ : ByteArray) {r : Bool} (hm : internal_stringslite_HasPrefix s prefix_ = some r) : Ret Tryz.prog 77 #[.string s, .string prefix_] w fun v w' => v = .bool r ∧ w = w' := by
  unfold internal_stringslite_HasPrefix at hm
  refine enter Tryz.func77 rfl Tryz.ntmps77 rfl ?_
  refine C_seq ?_
  refine C_region ?_
  refine V_y (Y_assign rfl) rfl rfl rfl ?_
  refine V_to (fun _ _ => rfl) ?_
  refine C_seq ?_
  refine C_region ?_
  refine V_y (Y_move rfl) rfl rfl rfl ?_
  refine V_y (Y_lenStr rfl Tryz.underlying9 rfl) rfl rfl rfl ?_
  refine V_y (Y_move rfl) rfl rfl rfl ?_
  refine V_y (Y_lenStr rfl Tryz.underlying9 rfl) rfl rfl rfl ?_
  refine V_y (Y_geq rfl rfl) rfl rfl rfl ?_
  refine V_y (Y_move rfl) rfl rfl rfl ?_
  obtain ⟨s2, hs2, hm⟩ := Option.bind_eq_some_iff.1 hm
  refine V_cut 7 (fun _ : Unit => [(17, .bool s2)]) (fun _ w' => w = w') ?_ ?_
  · simp only [List.take, List.drop]
    rcases Bool.eq_false_or_eq_true (decide ((prefix_.size : Int) ≤ (s.size : Int))) with hc1 | hc1
    · rw [if_pos hc1] at hs2
      refine V_ge rfl rfl rfl hc1 ?_
      refine V_y (Y_move rfl) rfl rfl rfl ?_
      refine V_ge rfl rfl rfl hc1 ?_
      refine V_y (Y_move rfl) rfl rfl rfl ?_
      refine V_ge rfl rfl rfl hc1 ?_
      refine V_y (Y_lenStr rfl Tryz.underlying9 rfl) rfl rfl rfl ?_
      refine V_ge rfl rfl rfl hc1 ?_
      obtain ⟨x3, hx3, hs2⟩ := Option.bind_eq_some_iff.1 hs2
      refine V_y (Y_sliceSH hx3 Tryz.underlying9 rfl rfl) rfl rfl rfl ?_
      refine V_ge rfl rfl rfl hc1 ?_
      refine V_y (Y_move rfl) rfl rfl rfl ?_
      refine V_ge rfl rfl rfl hc1 ?_
      refine V_y (Y_seql rfl rfl) rfl rfl rfl ?_
      refine V_y (Y_pick_te rfl hc1 rfl) rfl rfl rfl ?_
      obtain rfl := Option.some.inj hs2
      exact V_end fun a ha => ⟨(), ha.sub ⟨rfl, trivial⟩, rfl⟩
    · rw [if_neg (nt hc1)] at hs2
      refine V_gn rfl rfl rfl hc1 rfl rfl rfl ?_
      refine V_gn rfl rfl rfl hc1 rfl rfl rfl ?_
      refine V_gn rfl rfl rfl hc1 rfl rfl rfl ?_
      refine V_gn rfl rfl rfl hc1 rfl rfl rfl ?_
      refine V_gn rfl rfl rfl hc1 rfl rfl rfl ?_
      refine V_gn rfl rfl rfl hc1 rfl rfl rfl ?_
      refine V_y (Y_pick_fe rfl hc1 rfl) rfl rfl rfl ?_
      obtain rfl := Option.some.inj hs2
      exact V_end fun a ha => ⟨(), ha.sub ⟨rfl, trivial⟩, rfl⟩
  simp only [List.take, List.drop]
  rintro _ _ rfl
  refine V_y (Y_assign rfl) rfl rfl rfl ?_
  refine V_to (fun _ _ => rfl) ?_
  obtain rfl := Option.some.inj hm
  refine C_ret ?_
  try simp only [↓inBlock_ret, ↓then_ret]
  exact retQ rfl (Res.one Tryz.results77 rfl) ⟨rfl, rfl⟩

set_option maxRecDepth 4000 in
set_option maxHeartbeats 4000000 in
theorem internal_stringslite_TrimPrefix_c (w : World) (s : ByteArray) (prefix_ : ByteArray) {r : ByteArray} (hm : internal_stringslite_TrimPrefix s prefix_ = some r) : Ret Tryz.prog 69 #[.string s, .string prefix_] w fun v w' => v = .string r ∧ w = w' := by
  unfold internal_stringslite_TrimPrefix at hm
  refine enter Tryz.func69 rfl Tryz.ntmps69 rfl ?_
  refine C_seq ?_
  refine C_region ?_
  refine V_y (Y_assign rfl) rfl rfl rfl ?_
  refine V_to (fun _ _ => rfl) ?_
  refine C_seq ?_
  refine C_seq ?_
  refine C_region ?_
  refine V_y (Y_move rfl) rfl rfl rfl ?_
  refine V_y (Y_move rfl) rfl rfl rfl ?_
  obtain ⟨x1, hx1, hm⟩ := Option.bind_eq_some_iff.1 hm
  refine V_call Tryz.call77 rfl rfl rfl rfl (internal_stringslite_HasPrefix_c w s prefix_ hx1) ?_
  rintro _ _ ⟨rfl, rfl⟩
  refine V_to (fun _ _ => rfl) ?_
  refine C_cond rfl (fun hc2 => ?_) (fun hc2 => ?_)
  · rw [if_pos hc2] at hm
    refine C_seq ?_
    refine C_region ?_
    refine V_y (Y_move rfl) rfl rfl rfl ?_
    refine V_y (Y_move rfl) rfl rfl rfl ?_
    refine V_y (Y_lenStr rfl Tryz.underlying9 rfl) rfl rfl rfl ?_
    obtain ⟨x3, hx3, hm⟩ := Option.bind_eq_some_iff.1 hm
    refine V_y (Y_sliceSL hx3 Tryz.underlying9 rfl rfl) rfl rfl rfl ?_
    refine V_y (Y_assign rfl) rfl rfl rfl ?_
    refine V_to (fun _ _ => rfl) ?_
    obtain rfl := Option.some.inj hm
    refine C_ret ?_
    try simp only [↓inBlock_ret, ↓then_ret]
    exact retQ rfl (Res.one Tryz.results69 rfl) ⟨rfl, rfl⟩
  · rw [if_neg (nt hc2)] at hm
    refine C_skip_to (fun _ _ => rfl) ?_
    refine C_seq ?_
    refine C_region ?_
    refine V_y (Y_move rfl) rfl rfl rfl ?_
    refine V_y (Y_assign rfl) rfl rfl rfl ?_
    refine V_to (fun _ _ => rfl) ?_
    obtain rfl := Option.some.inj hm
    refine C_ret ?_
    try simp only [↓inBlock_ret, ↓then_ret]
    exact retQ rfl (Res.one Tryz.results69 rfl) ⟨rfl, rfl⟩

set_option maxRecDepth 4000 in
set_option maxHeartbeats 4000000 in
theorem strings_TrimPrefix_c (w : World) (s : ByteArray) (prefix_ : ByteArray) {r : ByteArray} (hm : strings_TrimPrefix s prefix_ = some r) : Ret Tryz.prog 53 #[.string s, .string prefix_] w fun v w' => v = .string r ∧ w = w' := by
  unfold strings_TrimPrefix at hm
  refine enter Tryz.func53 rfl Tryz.ntmps53 rfl ?_
  refine C_seq ?_
  refine C_region ?_
  refine V_y (Y_assign rfl) rfl rfl rfl ?_
  refine V_to (fun _ _ => rfl) ?_
  refine C_seq ?_
  refine C_region ?_
  refine V_y (Y_move rfl) rfl rfl rfl ?_
  refine V_y (Y_move rfl) rfl rfl rfl ?_
  obtain ⟨x1, hx1, hm⟩ := Option.bind_eq_some_iff.1 hm
  refine V_call Tryz.call69 rfl rfl rfl rfl (internal_stringslite_TrimPrefix_c w s prefix_ hx1) ?_
  rintro _ _ ⟨rfl, rfl⟩
  refine V_y (Y_assign rfl) rfl rfl rfl ?_
  refine V_to (fun _ _ => rfl) ?_
  obtain rfl := Option.some.inj hm
  refine C_ret ?_
  try simp only [↓inBlock_ret, ↓then_ret]
  exact retQ rfl (Res.one Tryz.results53 rfl) ⟨rfl, rfl⟩

set_option maxRecDepth 4000 in
set_option maxHeartbeats 4000000 in
theorem level_number_c (w : World) {A : Nat → Prop} (hA : ∀ b, w.heap.size ≤ b → A b) (hT : Fz Tryz_FR A w) (s : ByteArray) (digits : Int) {r : (Int × Bool)} (hm : level_number s digits = some r) : Ret Tryz.prog 68 #[.string s, .int .i64 digits] w fun v w' => v = .tuple #[.int .i64 r.1, .bool r.2] ∧ Kp False w w' := by
  unfold level_number at hm
  refine enter Tryz.func68 rfl Tryz.ntmps68 rfl ?_
  have hA0 := hA
  have hB := Nat.le_refl w.heap.size
  have hK : Tr False w.heap.size A w A w := Tr.refl (Dw := False) hA
  have hH : Hp w.heap.size A w [] := Hp.nil
  refine C_seq ?_
  refine C_region ?_
  refine V_y (Y_assign rfl) rfl rfl rfl ?_
  refine V_y (Y_assign rfl) rfl rfl rfl ?_
  refine V_to (fun _ _ => rfl) ?_
  refine C_seq ?_
  refine C_region ?_
  refine V_y (Y_move rfl) rfl rfl rfl ?_
  obtain ⟨x1, hx1, hm⟩ := Option.bind_eq_some_iff.1 hm
  refine V_call Tryz.call76 rfl rfl rfl rfl (strconv_Atoi_c w hA ⟨((Fz.tr (Dw := False) hT hK)).2.2.1, ((Fz.tr (Dw := False) hT hK)).2.2.2.1⟩ s hx1) ?_
  rintro _ w4 ⟨v2, rfl, h3, hk5⟩
  have ht6 := Kp.tr (Dw := False) hk5 hA hB
  replace hH := Hp.kp (Dw := False) hH hk5
  replace hK := Tr.trans (Dw := False) hK ht6
  replace hB := Nat.le_trans hB ht6.ex.size
  replace hA := ht6.new
  refine V_y (Y_move rfl) rfl rfl rfl ?_
  refine V_y (Y_extract rfl rfl) rfl rfl rfl ?_
  refine V_y (Y_extract rfl rfl) rfl rfl rfl ?_
  refine V_y (Y_assign rfl) rfl rfl rfl ?_
  refine V_y (Y_assign rfl) rfl rfl rfl ?_
  refine V_to (fun _ _ => rfl) ?_
  refine C_seq ?_
  refine C_seq ?_
  obtain ⟨s8, ho7, hm⟩ := Option.bind_eq_some_iff.1 hm
  refine C_cutG (ι := (Nat → Prop)) (fun (A13 : (Nat → Prop)) => [(6, .int .i64 x1.1), (27, .bool s8)]) (fun (A13 : (Nat → Prop)) => fun w' => Hp w.heap.size A13 w' ([]) ∧ Tr False w.heap.size A w4 A13 w') ?_ ?_
  · have hr9 : Tr False w.heap.size A w4 A w4 := Tr.refl (Dw := False) hA
    refine C_region ?_
    refine V_y (Y_move rfl) rfl rfl rfl ?_
    refine V_y (Y_neqER h3 Tryz.underlying172 rfl) rfl rfl rfl ?_
    refine V_y (Y_move rfl) rfl rfl rfl ?_
    rcases Bool.eq_false_or_eq_true (x1.2) with hc15 | hc15
    · rw [if_pos hc15] at ho7
      refine V_gn rfl rfl rfl hc15 rfl rfl rfl ?_
      refine V_gn rfl rfl rfl hc15 rfl rfl rfl ?_
      refine V_gn rfl rfl rfl hc15 rfl rfl rfl ?_
      refine V_gn rfl rfl rfl hc15 rfl rfl rfl ?_
      refine V_y (Y_pick_te rfl hc15 rfl) rfl rfl rfl ?_
      refine V_y (Y_move rfl) rfl rfl rfl ?_
      rcases Bool.eq_false_or_eq_true (true) with hc16 | hc16
      · rw [if_pos hc16] at ho7
        refine V_gn rfl rfl rfl hc16 rfl rfl rfl ?_
        refine V_gn rfl rfl rfl hc16 rfl rfl rfl ?_
        refine V_gn rfl rfl rfl hc16 rfl rfl rfl ?_
        refine V_gn rfl rfl rfl hc16 rfl rfl rfl ?_
        refine V_gn rfl rfl rfl hc16 rfl rfl rfl ?_
        refine V_y (Y_pick_te rfl hc16 rfl) rfl rfl rfl ?_
        obtain rfl := Option.some.inj ho7
        refine V_end (fun a ha17 => ?_)
        exact ⟨A, ha17.sub ⟨rfl, rfl, trivial⟩, ⟨hH, hr9⟩⟩
      · rw [if_neg (nt hc16)] at ho7
        refine V_ge rfl rfl rfl hc16 ?_
        refine V_y (Y_move rfl) rfl rfl rfl ?_
        refine V_ge rfl rfl rfl hc16 ?_
        obtain ⟨x18, hx18, ho7⟩ := Option.bind_eq_some_iff.1 ho7
        refine V_call Tryz.call53 rfl rfl rfl rfl (strings_TrimPrefix_c w4 s (⟨#[45]⟩ : ByteArray) hx18) ?_
        rintro _ _ ⟨rfl, rfl⟩
        refine V_ge rfl rfl rfl hc16 ?_
        refine V_y (Y_lenStr rfl Tryz.underlying9 rfl) rfl rfl rfl ?_
        refine V_ge rfl rfl rfl hc16 ?_
        refine V_y (Y_move rfl) rfl rfl rfl ?_
        refine V_ge rfl rfl rfl hc16 ?_
        refine V_y (Y_gtr rfl rfl) rfl rfl rfl ?_
        refine V_y (Y_pick_fe rfl hc16 rfl) rfl rfl rfl ?_
        obtain rfl := Option.some.inj ho7
        refine V_end (fun a ha19 => ?_)
        exact ⟨A, ha19.sub ⟨rfl, rfl, trivial⟩, ⟨hH, hr9⟩⟩
    · rw [if_neg (nt hc15)] at ho7
      refine V_ge rfl rfl rfl hc15 ?_
      refine V_y (Y_move rfl) rfl rfl rfl ?_
      refine V_ge rfl rfl rfl hc15 ?_
      obtain ⟨x20, hx20, ho7⟩ := Option.bind_eq_some_iff.1 ho7
      refine V_call Tryz.call86 rfl rfl rfl rfl (strconv_Itoa_c w4 hA ((Fz.tr (Dw := False) hT hK)).1 x1.1 hx20) ?_
      rintro _ w21 ⟨rfl, hk22⟩
      have ht23 := Kp.tr (Dw := False) hk22 hA hB
      replace hH := Hp.kp (Dw := False) hH hk22
      replace hK := Tr.trans (Dw := False) hK ht23
      replace hr9 := Tr.trans (Dw := False) hr9 ht23
      replace hB := Nat.le_trans hB ht23.ex.size
      replace hA := ht23.new
      refine V_ge rfl rfl rfl hc15 ?_
      refine V_y (Y_move rfl) rfl rfl rfl ?_
      refine V_ge rfl rfl rfl hc15 ?_
      refine V_y (Y_sneq rfl rfl) rfl rfl rfl ?_
      refine V_y (Y_pick_fe rfl hc15 rfl) rfl rfl rfl ?_
      refine V_y (Y_move rfl) rfl rfl rfl ?_
      rcases Bool.eq_false_or_eq_true (!(strEq x20 s)) with hc24 | hc24
      · rw [if_pos hc24] at ho7
        refine V_gn rfl rfl rfl hc24 rfl rfl rfl ?_
        refine V_gn rfl rfl rfl hc24 rfl rfl rfl ?_
        refine V_gn rfl rfl rfl hc24 rfl rfl rfl ?_
        refine V_gn rfl rfl rfl hc24 rfl rfl rfl ?_
        refine V_gn rfl rfl rfl hc24 rfl rfl rfl ?_
        refine V_y (Y_pick_te rfl hc24 rfl) rfl rfl rfl ?_
        obtain rfl := Option.some.inj ho7
        refine V_end (fun a ha25 => ?_)
        exact ⟨A, ha25.sub ⟨rfl, rfl, trivial⟩, ⟨hH, hr9⟩⟩
      · rw [if_neg (nt hc24)] at ho7
        refine V_ge rfl rfl rfl hc24 ?_
        refine V_y (Y_move rfl) rfl rfl rfl ?_
        refine V_ge rfl rfl rfl hc24 ?_
        obtain ⟨x26, hx26, ho7⟩ := Option.bind_eq_some_iff.1 ho7
        refine V_call Tryz.call53 rfl rfl rfl rfl (strings_TrimPrefix_c w21 s (⟨#[45]⟩ : ByteArray) hx26) ?_
        rintro _ _ ⟨rfl, rfl⟩
        refine V_ge rfl rfl rfl hc24 ?_
        refine V_y (Y_lenStr rfl Tryz.underlying9 rfl) rfl rfl rfl ?_
        refine V_ge rfl rfl rfl hc24 ?_
        refine V_y (Y_move rfl) rfl rfl rfl ?_
        refine V_ge rfl rfl rfl hc24 ?_
        refine V_y (Y_gtr rfl rfl) rfl rfl rfl ?_
        refine V_y (Y_pick_fe rfl hc24 rfl) rfl rfl rfl ?_
        obtain rfl := Option.some.inj ho7
        refine V_end (fun a ha27 => ?_)
        exact ⟨A, ha27.sub ⟨rfl, rfl, trivial⟩, ⟨hH, hr9⟩⟩
  rintro A13 w10 ⟨hH14, hk11⟩ a ha12
  replace hK := Tr.trans (Dw := False) hK hk11
  replace hB := Nat.le_trans hB hk11.ex.size
  replace hA := hk11.new
  replace hH : Hp w.heap.size A13 w10 ([]) := hH14
  refine C_at (n := ⟨29, [], none⟩) (fun _ _ => rfl) ?_ ha12
  refine C_cond rfl (fun hc28 => ?_) (fun hc28 => ?_)
  · rw [if_pos hc28] at hm
    refine C_seq ?_
    refine C_region ?_
    refine V_y (Y_assign rfl) rfl rfl rfl ?_
    refine V_y (Y_assign rfl) rfl rfl rfl ?_
    refine V_to (fun _ _ => rfl) ?_
    obtain rfl := Option.some.inj hm
    refine C_ret ?_
    try simp only [↓inBlock_ret, ↓then_ret]
    exact retQ rfl (Res.two Tryz.results68 rfl rfl) ⟨rfl, hK.kp⟩
  · rw [if_neg (nt hc28)] at hm
    refine C_skip_to (fun _ _ => rfl) ?_
    refine C_seq ?_
    refine C_region ?_
    refine V_y (Y_move rfl) rfl rfl rfl ?_
    refine V_y (Y_assign rfl) rfl rfl rfl ?_
    refine V_y (Y_assign rfl) rfl rfl rfl ?_
    refine V_to (fun _ _ => rfl) ?_
    obtain rfl := Option.some.inj hm
    refine C_ret ?_
    try simp only [↓inBlock_ret, ↓then_ret]
    exact retQ rfl (Res.two Tryz.results68 rfl rfl) ⟨rfl, hK.kp⟩

set_option maxRecDepth 4000 in
set_option maxHeartbeats 4000000 in
theorem level_numbers_c (w : World) {A : Nat → Prop} (hA : ∀ b, w.heap.size ≤ b → A b) (hT : Fz Tryz_FR A w) (words : (List ByteArray)) (v_words : Value) (h_words : Sl A w v_words words) (digits : Int) {r : ((List Int) × Bool)} (hm : level_numbers words digits = some r) : Ret Tryz.prog 52 #[v_words, .int .i64 digits] w fun v w' => ∃ s0, v = .tuple #[s0, .bool r.2] ∧ Ownd 3 w w' s0 r.1 ∧ Kp False w w' := by
  unfold level_numbers at hm
  refine enter Tryz.func52 rfl Tryz.ntmps52 rfl ?_
  have hA0 := hA
  have hB := Nat.le_refl w.heap.size
  have hK : Tr False w.heap.size A w A w := Tr.refl (Dw := False) hA
  have hH : Hp w.heap.size A w [] := Hp.nil
  refine C_seq ?_
  refine C_region ?_
  refine V_y (Y_assign rfl) rfl rfl rfl ?_
  refine V_y (Y_assign rfl) rfl rfl rfl ?_
  refine V_to (fun _ _ => rfl) ?_
  refine C_seq ?_
  refine C_region ?_
  refine V_y (Y_assign rfl) rfl rfl rfl ?_
  refine V_to (fun _ _ => rfl) ?_
  refine C_seq ?_
  refine C_seq ?_
  refine C_region ?_
  refine V_y (Y_move rfl) rfl rfl rfl ?_
  refine V_y (Y_lenSl h_words rfl Tryz.underlying35 rfl) rfl rfl rfl ?_
  refine V_y (Y_move rfl) rfl rfl rfl ?_
  refine V_to (fun _ _ => rfl) ?_
  replace hH : Hp w.heap.size A w (obS (α := Int) 3 (.slice none 0 0) ([] : (List Int)) :: []) := Hp.addNil (α := Int) (e := 3) hH
  have hn27 := Sl.le h_words
  obtain ⟨o3, ho3, hm⟩ := Option.bind_eq_some_iff.1 hm
  refine C_cutG (ι := ((List Int) × Value × (Nat → Prop))) (fun ⟨s4, v10, A12⟩ => [(6, v10)]) (fun ⟨s4, v10, A12⟩ => fun w' => o3 = .fin s4 ∧ Hp w.heap.size A12 w' (obS (α := Int) 3 v10 s4 :: []) ∧ Tr False w.heap.size A w A12 w') ?_ ?_
  · refine C_block ?_
    refine C_range ho3 (fun k6 s14 a w' => ∃ i : (Value × (Nat → Prop)), Has ⟨31, [], none⟩ a ([(1, .int .i64 digits), (6, i.1), (11, v_words), (12, .int .i64 (words.length : Int)), (13, .int .i64 (k6 : Int))]) ∧ Hp w.heap.size i.2 w' (obS (α := Int) 3 i.1 s14 :: []) ∧ Tr False w.heap.size A w i.2 w') (fun a ha => ⟨(.slice none 0 0, A), ha.sub ⟨rfl, rfl, rfl, rfl, rfl, trivial⟩, ⟨hH, Tr.refl (Dw := False) hA⟩⟩) ?_
    rintro K k6 s14 a w15 ⟨⟨v16, A18⟩, ha51, hH19, hr5⟩ hle23 K26 h25
    refine C_of ?_ ha51
    replace h_words := Sl.tr (Dw := False) h_words hr5
    replace hK := Tr.trans (Dw := False) hK hr5
    replace hB := Nat.le_trans hB hr5.ex.size
    replace hA := hr5.new
    replace hH : Hp w.heap.size A18 w15 (obS (α := Int) 3 v16 s14 :: []) := hH19
    refine C_seq (C_region (V_y (Y_lss rfl rfl) rfl rfl rfl (V_to (fun _ _ => rfl) ?_)))
    refine C_seq ?_
    refine C_cond rfl (fun hc28 => ?_) (fun hc28 => ?_)
    · have hlt24 := lt_of_dec hc28
      obtain ⟨x20, h21, h22⟩ := K26 hlt24
      refine C_skip_to (fun _ _ => rfl) ?_
      refine C_seq ?_
      refine C_block ?_
      refine C_seq ?_
      refine C_region ?_
      obtain ⟨x29, hx29, h21⟩ := Option.bind_eq_some_iff.1 h21
      refine V_indexAddr h_words hx29 Tryz.underlying35 Tryz.sizeOf9 rfl rfl rfl ?_
      intro b30 o31 h32
      refine V_y (Y_load (El.str h32) Tryz.isAgg9 rfl) rfl rfl rfl ?_
      refine V_y (Y_assign rfl) rfl rfl rfl ?_
      refine V_to (fun _ _ => rfl) ?_
      refine C_seq ?_
      refine C_region ?_
      refine V_y (Y_move rfl) rfl rfl rfl ?_
      refine V_y (Y_move rfl) rfl rfl rfl ?_
      obtain ⟨x33, hx33, h21⟩ := Option.bind_eq_some_iff.1 h21
      refine V_call Tryz.call68 rfl rfl rfl rfl (level_number_c w15 hA (Fz.tr (Dw := False) hT hK) x29 digits hx33) ?_
      rintro _ w34 ⟨rfl, hk35⟩
      have ht36 := Kp.tr (Dw := False) hk35 hA hB
      replace hH := Hp.kp (Dw := False) hH hk35
      replace h_words := Sl.tr (Dw := False) h_words ht36
      replace hK := Tr.trans (Dw := False) hK ht36
      replace hr5 := Tr.trans (Dw := False) hr5 ht36
      replace hB := Nat.le_trans hB ht36.ex.size
      replace hA := ht36.new
      refine V_y (Y_move rfl) rfl rfl rfl ?_
      refine V_y (Y_extract rfl rfl) rfl rfl rfl ?_
      refine V_y (Y_extract rfl rfl) rfl rfl rfl ?_
      refine V_y (Y_assign rfl) rfl rfl rfl ?_
      refine V_y (Y_assign rfl) rfl rfl rfl ?_
      refine V_to (fun _ _ => rfl) ?_
      refine C_seq ?_
      refine C_seq ?_
      refine C_region ?_
      refine V_y (Y_move rfl) rfl rfl rfl ?_
      refine V_y (Y_not rfl) rfl rfl rfl ?_
      refine V_to (fun _ _ => rfl) ?_
      refine C_cond rfl (fun hc37 => ?_) (fun hc37 => ?_)
      · rw [if_pos hc37] at h21
        refine C_seq ?_
        refine C_region ?_
        refine V_y (Y_assign rfl) rfl rfl rfl ?_
        refine V_y (Y_assign rfl) rfl rfl rfl ?_
        refine V_to (fun _ _ => rfl) ?_
        obtain rfl := Option.some.inj h21
        obtain rfl := (h22 : Lp.rt _ = _)
        rw [Lp.andThen_rt] at hm
        obtain rfl := Option.some.inj hm
        replace hH : Hp w.heap.size A18 w34 (obS (α := Int) 3 (.slice none 0 0) ([] : (List Int)) :: obS (α := Int) 3 v16 s14 :: []) := Hp.addNil (α := Int) (e := 3) hH
        refine C_ret ?_
        try simp only [↓inBlock_ret, ↓then_ret]
        exact retQ rfl (Res.two Tryz.results52 rfl rfl) ⟨.slice none 0 0, rfl, (Hp.ownd hH (i := 0) rfl), hK.kp⟩
      · rw [if_neg (nt hc37)] at h21
        refine C_skip_to (fun _ _ => rfl) ?_
        refine C_region ?_
        refine V_y (Y_move rfl) rfl rfl rfl ?_
        refine V_y (Y_move rfl) rfl rfl rfl ?_
        refine V_buildSlice (Dw := False) (l := ([x33.1] : List Int)) (len := 1) Tryz.underlying22 Tryz.sizeOf3 Tryz.zeroValue3 rfl (by with_unfolding_all rfl) (show (1 * 1 : Nat) ≠ 0 by decide) (show (1 * 1 : Nat) ≤ 2 ^ 24 by decide) hA ⟨[.int .i64 x33.1], _, rfl, rfl, rfl⟩ rfl rfl ?_
        intro v38 w39 hk41 h40
        have ht42 := Kp.tr (Dw := False) hk41 hA hB
        replace hH := Hp.kp (Dw := False) hH hk41
        replace h_words := Sl.tr (Dw := False) h_words ht42
        replace hK := Tr.trans (Dw := False) hK ht42
        replace hr5 := Tr.trans (Dw := False) hr5 ht42
        replace hB := Nat.le_trans hB ht42.ex.size
        replace hA := ht42.new
        obtain ⟨x43, hx43, h21⟩ := Option.bind_eq_some_iff.1 h21
        refine V_appendH (Dw := False) (e := 3) (v := v16) (l := s14) (ti := Tryz.t3) (bytes := 8) (lim := 17592186044416) hH (i := 0) rfl h40 hx43 Tryz.underlying22 Tryz_info3 rfl rfl rfl rfl (by decide) (by decide) (by decide) hB hA rfl rfl rfl ?_
        intro v44 w45 A46 hH47 ht48
        replace h_words := Sl.tr (Dw := False) h_words ht48
        replace h40 := Sl.tr (Dw := False) h40 ht48
        replace hK := Tr.trans (Dw := False) hK ht48
        replace hr5 := Tr.trans (Dw := False) hr5 ht48
        replace hB := Nat.le_trans hB ht48.ex.size
        replace hA := ht48.new
        replace hH : Hp w.heap.size A46 w45 (obS (α := Int) 3 v44 x43 :: []) := hH47
        refine V_y (Y_assign rfl) rfl rfl rfl ?_
        refine V_to (fun _ _ => rfl) ?_
        refine C_region ?_
        refine V_y (Y_addI rfl rfl) rfl rfl rfl ?_
        refine V_y (Y_move rfl) rfl rfl rfl ?_
        obtain rfl := Option.some.inj h21
        refine V_end (fun a ha49 => ?_)
        exact ⟨x43, hlt24, h22, ⟨(v44, A46), ha49.sub ⟨rfl, rfl, rfl, rfl, (congrArg (fun z => some (Value.int .i64 z)) (w64_succ hlt24 hn27)), trivial⟩, ⟨hH, hr5⟩⟩⟩
    · refine C_exit (fun a ha50 => ?_)
      exact ⟨(s14, v16, A18), ha50.sub ⟨rfl, trivial⟩, ⟨(h25 (eq_of_dec hle23 hc28)).symm, hH, hr5⟩⟩
  rintro ⟨s4, v10, A12⟩ w7 ⟨rfl, hH13, hk8⟩ a ha9
  rw [Lp.andThen_fin] at hm
  replace hK := Tr.trans (Dw := False) hK hk8
  replace hB := Nat.le_trans hB hk8.ex.size
  replace hA := hk8.new
  replace hH : Hp w.heap.size A12 w7 (obS (α := Int) 3 v10 s4 :: []) := hH13
  refine C_at (n := ⟨31, [], none⟩) (fun _ _ => rfl) ?_ ha9
  refine C_seq ?_
  refine C_region ?_
  refine V_y (Y_move rfl) rfl rfl rfl ?_
  refine V_y (Y_assign rfl) rfl rfl rfl ?_
  refine V_y (Y_assign rfl) rfl rfl rfl ?_
  refine V_to (fun _ _ => rfl) ?_
  obtain rfl := Option.some.inj hm
  refine C_ret ?_
  try simp only [↓inBlock_ret, ↓then_ret]
  exact retQ rfl (Res.two Tryz.results52 rfl rfl) ⟨v10, rfl, (Hp.ownd hH (i := 0) rfl), hK.kp⟩

set_option maxRecDepth 4000 in
set_option maxHeartbeats 4000000 in
theorem internal_stringslite_CutPrefix_c (w : World) (s : ByteArray) (prefix_ : ByteArray) {r : (ByteArray × Bool)} (hm : internal_stringslite_CutPrefix s prefix_ = some r) : Ret Tryz.prog 62 #[.string s, .string prefix_] w fun v w' => v = .tuple #[.string r.1, .bool r.2] ∧ w = w' := by
  unfold internal_stringslite_CutPrefix at hm
  refine enter Tryz.func62 rfl Tryz.ntmps62 rfl ?_
  refine C_seq ?_
  refine C_region ?_
  refine V_y (Y_assign rfl) rfl rfl rfl ?_
  refine V_y (Y_assign rfl) rfl rfl rfl ?_
  refine V_to (fun _ _ => rfl) ?_
  refine C_seq ?_
  refine C_seq ?_
  refine C_region ?_
  refine V_y (Y_move rfl) rfl rfl rfl ?_
  refine V_y (Y_move rfl) rfl rfl rfl ?_
  obtain ⟨x1, hx1, hm⟩ := Option.bind_eq_some_iff.1 hm
  refine V_call Tryz.call77 rfl rfl rfl rfl (internal_stringslite_HasPrefix_c w s prefix_ hx1) ?_
  rintro _ _ ⟨rfl, rfl⟩
  refine V_y (Y_not rfl) rfl rfl rfl ?_
  refine V_to (fun _ _ => rfl) ?_
  refine C_cond rfl (fun hc2 => ?_) (fun hc2 => ?_)
  · rw [if_pos hc2] at hm
    refine C_seq ?_
    refine C_region ?_
    refine V_y (Y_move rfl) rfl rfl rfl ?_
    refine V_y (Y_assign rfl) rfl rfl rfl ?_
    refine V_y (Y_assign rfl) rfl rfl rfl ?_
    refine V_to (fun _ _ => rfl) ?_
    obtain rfl := Option.some.inj hm
    refine C_ret ?_
    try simp only [↓inBlock_ret, ↓then_ret]
    exact retQ rfl (Res.two Tryz.results62 rfl rfl) ⟨rfl, rfl⟩
  · rw [if_neg (nt hc2)] at hm
    refine C_skip_to (fun _ _ => rfl) ?_
    refine C_seq ?_
    refine C_region ?_
    refine V_y (Y_move rfl) rfl rfl rfl ?_
    refine V_y (Y_move rfl) rfl rfl rfl ?_
    refine V_y (Y_lenStr rfl Tryz.underlying9 rfl) rfl rfl rfl ?_
    obtain ⟨x3, hx3, hm⟩ := Option.bind_eq_some_iff.1 hm
    refine V_y (Y_sliceSL hx3 Tryz.underlying9 rfl rfl) rfl rfl rfl ?_
    refine V_y (Y_assign rfl) rfl rfl rfl ?_
    refine V_y (Y_assign rfl) rfl rfl rfl ?_
    refine V_to (fun _ _ => rfl) ?_
    obtain rfl := Option.some.inj hm
    refine C_ret ?_
    try simp only [↓inBlock_ret, ↓then_ret]
    exact retQ rfl (Res.two Tryz.results62 rfl rfl) ⟨rfl, rfl⟩

set_option maxRecDepth 4000 in
set_option maxHeartbeats 4000000 in
theorem strings_CutPrefix_c (w : World) (s : ByteArray) (prefix_ : ByteArray) {r : (ByteArray × Bool)} (hm : strings_CutPrefix s prefix_ = some r) : Ret Tryz.prog 14 #[.string s, .string prefix_] w fun v w' => v = .tuple #[.string r.1, .bool r.2] ∧ w = w' := by
  unfold strings_CutPrefix at hm
  refine enter Tryz.func14 rfl Tryz.ntmps14 rfl ?_
  refine C_seq ?_
  refine C_region ?_
  refine V_y (Y_assign rfl) rfl rfl rfl ?_
  refine V_y (Y_assign rfl) rfl rfl rfl ?_
  refine V_to (fun _ _ => rfl) ?_
  refine C_seq ?_
  refine C_region ?_
  refine V_y (Y_move rfl) rfl rfl rfl ?_
  refine V_y (Y_move rfl) rfl rfl rfl ?_
  obtain ⟨x1, hx1, hm⟩ := Option.bind_eq_some_iff.1 hm
  refine V_call Tryz.call62 rfl rfl rfl rfl (internal_stringslite_CutPrefix_c w s prefix_ hx1) ?_
  rintro _ _ ⟨rfl, rfl⟩
  refine V_y (Y_extract rfl rfl) rfl rfl rfl ?_
  refine V_y (Y_extract rfl rfl) rfl rfl rfl ?_
  refine V_y (Y_assign rfl) rfl rfl rfl ?_
  refine V_y (Y_assign rfl) rfl rfl rfl ?_
  refine V_to (fun _ _ => rfl) ?_
  obtain rfl := Option.some.inj hm
  refine C_ret ?_
  try simp only [↓inBlock_ret, ↓then_ret]
  exact retQ rfl (Res.two Tryz.results14 rfl rfl) ⟨rfl, rfl⟩

set_option maxRecDepth 4000 in
set_option maxHeartbeats 4000000 in
theorem level_kindWords_c (w : World) {A : Nat → Prop} (hA : ∀ b, w.heap.size ≤ b → A b)  {r : (List ByteArray)} (hm : level_kindWords  = some r) : Ret Tryz.prog 70 #[] w fun v w' => ∃ s0, v = s0 ∧ Ownd 9 w w' s0 r ∧ Kp Dw w w' := by
  unfold level_kindWords at hm
  refine enter Tryz.func70 rfl Tryz.ntmps70 rfl ?_
  have hA0 := hA
  have hB := Nat.le_refl w.heap.size
  have hK : Tr Dw w.heap.size A w A w := Tr.refl (Dw := Dw) hA
  have hH : Hp w.heap.size A w [] := Hp.nil
  refine C_seq ?_
  refine C_region ?_
  refine V_y (Y_assign rfl) rfl rfl rfl ?_
  refine V_to (fun _ _ => rfl) ?_
  refine C_seq ?_
  refine C_region ?_
  refine V_buildOwnH (Dw := Dw) (l := ([(⟨#[110, 105, 108]⟩ : ByteArray), (⟨#[102, 108, 97, 103]⟩ : ByteArray), (⟨#[110, 117, 109, 98, 101, 114]⟩ : ByteArray), (⟨#[116, 101, 120, 116]⟩ : ByteArray), (⟨#[99, 104, 111, 105, 99, 101]⟩ : ByteArray), (⟨#[109, 111, 109, 101, 110, 116]⟩ : ByteArray), (⟨#[112, 101, 114, 115, 111, 110]⟩ : ByteArray)] : List ByteArray)) (len := 7) hH Tryz.underlying35 Tryz.sizeOf9 Tryz.zeroValue9 rfl (by with_unfolding_all rfl) (show (7 * 1 : Nat) ≠ 0 by decide) (show (7 * 1 : Nat) ≤ 2 ^ 24 by decide) hB hA ⟨[.string (⟨#[110, 105, 108]⟩ : ByteArray)], _, rfl, rfl, ⟨[.string (⟨#[102, 108, 97, 103]⟩ : ByteArray)], _, rfl, rfl, ⟨[.string (⟨#[110, 117, 109, 98, 101, 114]⟩ : ByteArray)], _, rfl, rfl, ⟨[.string (⟨#[116, 101, 120, 116]⟩ : ByteArray)], _, rfl, rfl, ⟨[.string (⟨#[99, 104, 111, 105, 99, 101]⟩ : ByteArray)], _, rfl, rfl, ⟨[.string (⟨#[109, 111, 109, 101, 110, 116]⟩ : ByteArray)], _, rfl, rfl, ⟨[.string (⟨#[112, 101, 114, 115, 111, 110]⟩ : ByteArray)], _, rfl, rfl, rfl⟩⟩⟩⟩⟩⟩⟩ rfl rfl ?_
  intro v1 w2 A5 hH7 ht6
  replace hK := Tr.trans (Dw := Dw) hK ht6
  replace hB := Nat.le_trans hB ht6.ex.size
  replace hA := ht6.new
  replace hH : Hp w.heap.size A5 w2 (obS (α := ByteArray) 9 v1 ([(⟨#[110, 105, 108]⟩ : ByteArray), (⟨#[102, 108, 97, 103]⟩ : ByteArray), (⟨#[110, 117, 109, 98, 101, 114]⟩ : ByteArray), (⟨#[116, 101, 120, 116]⟩ : ByteArray), (⟨#[99, 104, 111, 105, 99, 101]⟩ : ByteArray), (⟨#[109, 111, 109, 101, 110, 116]⟩ : ByteArray), (⟨#[112, 101, 114, 115, 111, 110]⟩ : ByteArray)] : List ByteArray) :: []) := hH7
  refine V_y (Y_assign rfl) rfl rfl rfl ?_
  refine V_to (fun _ _ => rfl) ?_
  obtain rfl := Option.some.inj hm
  refine C_ret ?_
  try simp only [↓inBlock_ret, ↓then_ret]
  exact retQ rfl (Res.one Tryz.results70 rfl) ⟨v1, rfl, (Hp.ownd hH (i := 0) rfl), hK.kp⟩

set_option maxRecDepth 4000 in
set_option maxHeartbeats 4000000 in
theorem slices_Index_Lstring_string_c (w : World) {A : Nat → Prop} (s : (List ByteArray)) (v_s : Value) (h_s : Sl A w v_s s) (v : ByteArray) {r : Int} (hm : slices_Index_Lstring_string s v = some r) : Ret Tryz.prog 17 #[v_s, .string v] w fun v w' => v = .int .i64 r ∧ w = w' := by
  unfold slices_Index_Lstring_string at hm
  refine enter Tryz.func17 rfl Tryz.ntmps17 rfl ?_
  refine C_seq ?_
  refine C_region ?_
  refine V_y (Y_assign rfl) rfl rfl rfl ?_
  refine V_to (fun _ _ => rfl) ?_
  refine C_seq ?_
  refine C_seq ?_
  refine C_region ?_
  refine V_y (Y_move rfl) rfl rfl rfl ?_
  refine V_y (Y_lenSl h_s rfl Tryz.underlying35 rfl) rfl rfl rfl ?_
  refine V_y (Y_move rfl) rfl rfl rfl ?_
  refine V_to (fun _ _ => rfl) ?_
  have hn19 := Sl.le h_s
  obtain ⟨o3, ho3, hm⟩ := Option.bind_eq_some_iff.1 hm
  refine C_cutG (ι := Unit) (fun (s4 : Unit) => []) (fun (s4 : Unit) => fun w' => o3 = .fin s4 ∧ w = w') ?_ ?_
  · refine C_block ?_
    refine C_range ho3 (fun k6 _ a w' => ∃ i : Unit, Has ⟨19, [], none⟩ a ([(0, v_s), (1, .string v), (7, .int .i64 (s.length : Int)), (8, .int .i64 (k6 : Int))]) ∧ w = w') (fun a ha => ⟨(), ha.sub ⟨rfl, rfl, rfl, rfl, trivial⟩, rfl⟩) ?_
    rintro K k6 _ a _ ⟨_, ha28, rfl⟩ hle15 K18 h17
    refine C_of ?_ ha28
    refine C_seq (C_region (V_y (Y_lss rfl rfl) rfl rfl rfl (V_to (fun _ _ => rfl) ?_)))
    refine C_seq ?_
    refine C_cond rfl (fun hc20 => ?_) (fun hc20 => ?_)
    · have hlt16 := lt_of_dec hc20
      obtain ⟨x12, h13, h14⟩ := K18 hlt16
      refine C_skip_to (fun _ _ => rfl) ?_
      refine C_seq ?_
      refine C_block ?_
      refine C_seq ?_
      refine C_region ?_
      refine V_y (Y_move rfl) rfl rfl rfl ?_
      refine V_y (Y_assign rfl) rfl rfl rfl ?_
      refine V_to (fun _ _ => rfl) ?_
      refine C_seq ?_
      refine C_region ?_
      refine V_y (Y_move rfl) rfl rfl rfl ?_
      refine V_y (Y_move rfl) rfl rfl rfl ?_
      refine V_y (Y_move rfl) rfl rfl rfl ?_
      obtain ⟨x21, hx21, h13⟩ := Option.bind_eq_some_iff.1 h13
      refine V_indexAddr h_s hx21 Tryz.underlying35 Tryz.sizeOf9 rfl rfl rfl ?_
      intro b22 o23 h24
      refine V_y (Y_load (El.str h24) Tryz.isAgg9 rfl) rfl rfl rfl ?_
      refine V_y (Y_seql rfl rfl) rfl rfl rfl ?_
      refine V_to (fun _ _ => rfl) ?_
      refine C_cond rfl (fun hc25 => ?_) (fun hc25 => ?_)
      · rw [if_pos hc25] at h13
        refine C_seq ?_
        refine C_region ?_
        refine V_y (Y_move rfl) rfl rfl rfl ?_
        refine V_y (Y_assign rfl) rfl rfl rfl ?_
        refine V_to (fun _ _ => rfl) ?_
        obtain rfl := Option.some.inj h13
        obtain rfl := (h14 : Lp.rt _ = _)
        rw [Lp.andThen_rt] at hm
        obtain rfl := Option.some.inj hm
        refine C_ret ?_
        try simp only [↓inBlock_ret, ↓then_ret]
        exact retQ rfl (Res.one Tryz.results17 rfl) ⟨rfl, rfl⟩
      · rw [if_neg (nt hc25)] at h13
        refine C_skip_to (fun _ _ => rfl) ?_
        refine C_region ?_
        refine V_y (Y_addI rfl rfl) rfl rfl rfl ?_
        refine V_y (Y_move rfl) rfl rfl rfl ?_
        obtain rfl := Option.some.inj h13
        refine V_end (fun a ha26 => ?_)
        exact ⟨(), hlt16, h14, ⟨(), ha26.sub ⟨rfl, rfl, rfl, (congrArg (fun z => some (Value.int .i64 z)) (w64_succ hlt16 hn19)), trivial⟩, rfl⟩⟩
    · refine C_exit (fun a ha27 => ?_)
      exact ⟨(), ha27.sub trivial, ⟨(h17 (eq_of_dec hle15 hc20)).symm, rfl⟩⟩
  rintro s4 _ ⟨rfl, rfl⟩ a ha9
  rw [Lp.andThen_fin] at hm
  refine C_at (n := ⟨19, [], none⟩) (fun _ _ => rfl) ?_ ha9
  refine C_seq ?_
  refine C_region ?_
  refine V_y (Y_assign rfl) rfl rfl rfl ?_
  refine V_to (fun _ _ => rfl) ?_
  obtain rfl := Option.some.inj hm
  refine C_ret ?_
  try simp only [↓inBlock_ret, ↓then_ret]
  exact retQ rfl (Res.one Tryz.results17 rfl) ⟨rfl, rfl⟩

set_option maxRecDepth 4000 in
set_option maxHeartbeats 4000000 in
theorem level_readTest_c (w : World) {A : Nat → Prop} (hA : ∀ b, w.heap.size ≤ b → A b) (hT : Fz Tryz_FR A w) (s : ByteArray) {r : (level_Test × Bool)} (hm : level_readTest s = some r) : Ret Tryz.prog 54 #[.string s] w fun v w' => v = .tuple #[.agg #[.int .i64 r.1.field, .int .i64 r.1.value.kind, .int .i64 r.1.value.int, .string r.1.value.text], .bool r.2] ∧ Kp False w w' := by
  unfold level_readTest at hm
  refine enter Tryz.func54 rfl Tryz.ntmps54 rfl ?_
  have hA0 := hA
  have hB := Nat.le_refl w.heap.size
  have hK : Tr False w.heap.size A w A w := Tr.refl (Dw := False) hA
  have hH : Hp w.heap.size A w [] := Hp.nil
  refine C_seq ?_
  refine C_region ?_
  refine V_allocH (Dw := False) (B := w.heap.size) hH Tryz.zeroValue51 hB hA rfl ?_
  intro b1 w2 A3 hH4 ht5
  replace hK := Tr.trans (Dw := False) hK ht5
  replace hB := Nat.le_trans hB ht5.ex.size
  replace hA := ht5.new
  replace hH : Hp w.heap.size A3 w2 (obC b1 [.int .i64 0, .int .i64 0, .int .i64 0, .string ByteArray.empty] 51 :: []) := hH4
  refine V_y (Y_assign rfl) rfl rfl rfl ?_
  refine V_to (fun _ _ => rfl) ?_
  refine C_seq ?_
  refine C_region ?_
  refine V_y (Y_move rfl) rfl rfl rfl ?_
  obtain ⟨x6, hx6, hm⟩ := Option.bind_eq_some_iff.1 hm
  refine V_call Tryz.call7 rfl rfl rfl rfl (strings_Cut_c (Dw := False) w2 hA s (⟨#[32]⟩ : ByteArray) hx6) ?_
  rintro _ w7 ⟨rfl, hk8⟩
  have ht9 := Kp.tr (Dw := False) hk8 hA hB
  replace hH := Hp.kp (Dw := False) hH hk8
  replace hK := Tr.trans (Dw := False) hK ht9
  replace hB := Nat.le_trans hB ht9.ex.size
  replace hA := ht9.new
  refine V_y (Y_move rfl) rfl rfl rfl ?_
  refine V_y (Y_extract rfl rfl) rfl rfl rfl ?_
  refine V_y (Y_extract rfl rfl) rfl rfl rfl ?_
  refine V_y (Y_extract rfl rfl) rfl rfl rfl ?_
  refine V_y (Y_assign rfl) rfl rfl rfl ?_
  refine V_y (Y_assign rfl) rfl rfl rfl ?_
  refine V_y (Y_assign rfl) rfl rfl rfl ?_
  refine V_to (fun _ _ => rfl) ?_
  refine C_seq ?_
  refine C_region ?_
  refine V_y (Y_move rfl) rfl rfl rfl ?_
  obtain ⟨x10, hx10, hm⟩ := Option.bind_eq_some_iff.1 hm
  refine V_call Tryz.call7 rfl rfl rfl rfl (strings_Cut_c (Dw := False) w7 hA x6.2.1 (⟨#[32]⟩ : ByteArray) hx10) ?_
  rintro _ w11 ⟨rfl, hk12⟩
  have ht13 := Kp.tr (Dw := False) hk12 hA hB
  replace hH := Hp.kp (Dw := False) hH hk12
  replace hK := Tr.trans (Dw := False) hK ht13
  replace hB := Nat.le_trans hB ht13.ex.size
  replace hA := ht13.new
  refine V_y (Y_move rfl) rfl rfl rfl ?_
  refine V_y (Y_extract rfl rfl) rfl rfl rfl ?_
  refine V_y (Y_extract rfl rfl) rfl rfl rfl ?_
  refine V_y (Y_extract rfl rfl) rfl rfl rfl ?_
  refine V_y (Y_assign rfl) rfl rfl rfl ?_
  refine V_y (Y_assign rfl) rfl rfl rfl ?_
  refine V_y (Y_assign rfl) rfl rfl rfl ?_
  refine V_to (fun _ _ => rfl) ?_
  refine C_seq ?_
  refine C_region ?_
  obtain ⟨x14, hx14, hm⟩ := Option.bind_eq_some_iff.1 hm
  refine V_call Tryz.call70 rfl rfl rfl rfl (level_kindWords_c (Dw := False) w11 hA hx14) ?_
  rintro v15 w17 ⟨_, rfl, h16, hk18⟩
  obtain ⟨A19, ht20, hH21⟩ := Hp.addOwnd (Dw := False) hH hB hA hk18 h16
  replace hK := Tr.trans (Dw := False) hK ht20
  replace hB := Nat.le_trans hB ht20.ex.size
  replace hA := ht20.new
  replace hH : Hp w.heap.size A19 w17 (obS (α := ByteArray) 9 v15 x14 :: obC b1 [.int .i64 0, .int .i64 0, .int .i64 0, .string ByteArray.empty] 51 :: []) := hH21
  refine V_y (Y_move rfl) rfl rfl rfl ?_
  obtain ⟨x22, hx22, hm⟩ := Option.bind_eq_some_iff.1 hm
  refine V_call Tryz.call17 rfl rfl rfl rfl (slices_Index_Lstring_string_c w17 x14 v15 (Hp.any (α := ByteArray) (e := 9) (v := v15) (l := x14) hH (i := 0) rfl) x10.1 hx22) ?_
  rintro _ _ ⟨rfl, rfl⟩
  refine V_y (Y_build Tryz.underlying49 Tryz.zeroValue49 (Tryz_places49 _ Tryz.underlying49) rfl (by with_unfolding_all rfl)) rfl rfl rfl ?_
  refine V_y (Y_build (cells := #[.int .i64 0, .int .i64 x22, .int .i64 0, .string ByteArray.empty]) Tryz.underlying51 Tryz.zeroValue51 (Tryz_places51 _ Tryz.underlying51) rfl (by with_unfolding_all rfl)) rfl rfl rfl ?_
  refine V_allocH (Dw := False) (B := w.heap.size) hH Tryz.zeroValue51 hB hA rfl ?_
  intro b23 w24 A25 hH26 ht27
  replace hK := Tr.trans (Dw := False) hK ht27
  replace hB := Nat.le_trans hB ht27.ex.size
  replace hA := ht27.new
  replace hH : Hp w.heap.size A25 w24 (obC b23 [.int .i64 0, .int .i64 0, .int .i64 0, .string ByteArray.empty] 51 :: obS (α := ByteArray) 9 v15 x14 :: obC b1 [.int .i64 0, .int .i64 0, .int .i64 0, .string ByteArray.empty] 51 :: []) := hH26
  refine V_storeC (Dw := False) (off := 0) (ds := [.int .i64 0, .int .i64 x22, .int .i64 0, .string ByteArray.empty]) hH (i := 0) rfl Tryz.sizeOf51 rfl (Nat.le_of_ble_eq_true rfl) (by simp [Value.cells, Value.oneCell']) rfl hB hA rfl rfl ?_
  intro w28 hH29 ht30
  replace hK := Tr.trans (Dw := False) hK ht30
  replace hB := Nat.le_trans hB ht30.ex.size
  replace hA := ht30.new
  replace hH : Hp w.heap.size A25 w28 (obC b23 [.int .i64 0, .int .i64 x22, .int .i64 0, .string ByteArray.empty] 51 :: obS (α := ByteArray) 9 v15 x14 :: obC b1 [.int .i64 0, .int .i64 0, .int .i64 0, .string ByteArray.empty] 51 :: []) := hH29
  refine V_to (fun _ _ => rfl) ?_
  refine C_seq ?_
  refine C_region ?_
  refine V_y (Y_assign rfl) rfl rfl rfl ?_
  refine V_to (fun _ _ => rfl) ?_
  refine C_seq ?_
  refine C_seq ?_
  refine C_region ?_
  refine V_y (Y_move rfl) rfl rfl rfl ?_
  obtain ⟨x31, hx31, hm⟩ := Option.bind_eq_some_iff.1 hm
  refine V_call Tryz.call68 rfl rfl rfl rfl (level_number_c w28 hA (Fz.tr (Dw := False) hT hK) x6.1 18 hx31) ?_
  rintro _ w33 ⟨rfl, hk34⟩
  have ht35 := Kp.tr (Dw := False) hk34 hA hB
  replace hH := Hp.kp (Dw := False) hH hk34
  replace hK := Tr.trans (Dw := False) hK ht35
  replace hB := Nat.le_trans hB ht35.ex.size
  replace hA := ht35.new
  refine V_y (Y_move rfl) rfl rfl rfl ?_
  refine V_y (Y_extract rfl rfl) rfl rfl rfl ?_
  refine V_y (Y_extract rfl rfl) rfl rfl rfl ?_
  refine V_y (Y_fieldAddrC (off2 := 0) Tryz.underlying51 rfl Tryz.sizeOf3 (by decide) rfl rfl) rfl rfl rfl ?_
  refine V_storeC (Dw := False) (off := 0) (ds := [.int .i64 x31.1, .int .i64 x22, .int .i64 0, .string ByteArray.empty]) hH (i := 0) rfl Tryz.sizeOf3 rfl (Nat.le_of_ble_eq_true rfl) (by simp [Value.cells, Value.oneCell']) rfl hB hA rfl rfl ?_
  intro w36 hH37 ht38
  replace hK := Tr.trans (Dw := False) hK ht38
  replace hB := Nat.le_trans hB ht38.ex.size
  replace hA := ht38.new
  replace hH : Hp w.heap.size A25 w36 (obC b23 [.int .i64 x31.1, .int .i64 x22, .int .i64 0, .string ByteArray.empty] 51 :: obS (α := ByteArray) 9 v15 x14 :: obC b1 [.int .i64 0, .int .i64 0, .int .i64 0, .string ByteArray.empty] 51 :: []) := hH37
  refine V_y (Y_assign rfl) rfl rfl rfl ?_
  refine V_to (fun _ _ => rfl) ?_
  refine C_seq ?_
  refine C_region ?_
  refine V_y (Y_move rfl) rfl rfl rfl ?_
  refine V_y (Y_not rfl) rfl rfl rfl ?_
  refine V_y (Y_move rfl) rfl rfl rfl ?_
  refine V_cut 5 (fun _ : Unit => [(2, .pointer (some ⟨b1, 0, none⟩)), (8, .string x10.2.1), (9, .bool x10.2.2), (10, .pointer (some ⟨b23, 0, none⟩)), (42, .bool ((!x31.2) || (decide (x22 < 0))))]) (fun _ w' => w36 = w') ?_ ?_
  · simp only [List.take, List.drop]
    rcases Bool.eq_false_or_eq_true (!x31.2) with hc39 | hc39
    · refine V_gn rfl rfl rfl hc39 rfl rfl rfl ?_
      refine V_gn rfl rfl rfl hc39 rfl rfl rfl ?_
      refine V_gn rfl rfl rfl hc39 rfl rfl rfl ?_
      refine V_gn rfl rfl rfl hc39 rfl rfl rfl ?_
      refine V_y (Y_pick_te rfl hc39 rfl) rfl rfl rfl ?_
      exact V_end fun a ha => ⟨(), ha.sub ⟨rfl, rfl, rfl, rfl, (by rw [hc39]; rfl), trivial⟩, rfl⟩
    · refine V_ge rfl rfl rfl hc39 ?_
      refine V_y (Y_fieldAddrC (off2 := 1) Tryz.underlying51 rfl Tryz.sizeOf49 (by decide) rfl rfl) rfl rfl rfl ?_
      refine V_ge rfl rfl rfl hc39 ?_
      refine V_y (Y_fieldAddrC (off2 := 1) Tryz.underlying49 rfl Tryz.sizeOf3 (by decide) rfl rfl) rfl rfl rfl ?_
      refine V_ge rfl rfl rfl hc39 ?_
      refine V_y (Y_load (Hp.cell (j := 1) hH (i := 0) rfl rfl) Tryz.isAgg3 rfl) rfl rfl rfl ?_
      refine V_ge rfl rfl rfl hc39 ?_
      refine V_y (Y_lss rfl rfl) rfl rfl rfl ?_
      refine V_y (Y_pick_fe rfl hc39 rfl) rfl rfl rfl ?_
      exact V_end fun a ha => ⟨(), ha.sub ⟨rfl, rfl, rfl, rfl, (by rw [hc39]; rfl), trivial⟩, rfl⟩
  simp only [List.take, List.drop]
  rintro _ _ rfl
  refine V_to (fun _ _ => rfl) ?_
  refine C_cond rfl (fun hc41 => ?_) (fun hc41 => ?_)
  · rw [if_pos hc41] at hm
    refine C_seq ?_
    refine C_region ?_
    refine V_y (Y_loadA (Hp.part (off := 0) (n := 4) (ds := [.int .i64 x31.1, .int .i64 x22, .int .i64 0, .string ByteArray.empty]) hH (i := 0) rfl rfl) Tryz.isAgg51 Tryz.sizeOf51 rfl) rfl rfl rfl ?_
    refine V_storeC (Dw := False) (off := 0) (ds := [.int .i64 x31.1, .int .i64 x22, .int .i64 0, .string ByteArray.empty]) hH (i := 2) rfl Tryz.sizeOf51 rfl (Nat.le_of_ble_eq_true rfl) (by simp [Value.cells, Value.oneCell']) rfl hB hA rfl rfl ?_
    intro w42 hH43 ht44
    replace hK := Tr.trans (Dw := False) hK ht44
    replace hB := Nat.le_trans hB ht44.ex.size
    replace hA := ht44.new
    replace hH : Hp w.heap.size A25 w42 (obC b23 [.int .i64 x31.1, .int .i64 x22, .int .i64 0, .string ByteArray.empty] 51 :: obS (α := ByteArray) 9 v15 x14 :: obC b1 [.int .i64 x31.1, .int .i64 x22, .int .i64 0, .string ByteArray.empty] 51 :: []) := hH43
    refine V_y (Y_assign rfl) rfl rfl rfl ?_
    refine V_to (fun _ _ => rfl) ?_
    obtain rfl := Option.some.inj hm
    refine C_ret ?_
    try simp only [↓inBlock_ret, ↓then_ret]
    exact retQ rfl (Res.l2 Tryz.results54 (RL.cell rfl (loadVar_agg (Hp.part (off := 0) (n := 4) (ds := [.int .i64 x31.1, .int .i64 x22, .int .i64 0, .string ByteArray.empty]) hH (i := 2) rfl rfl) Tryz.isAgg51 Tryz.sizeOf51)) (RL.tmp rfl)) ⟨rfl, hK.kp⟩
  · rw [if_neg (nt hc41)] at hm
    refine C_skip_to (fun _ _ => rfl) ?_
    refine C_seq ?_
    refine C_seq ?_
    refine C_region ?_
    refine V_y (Y_fieldAddrC (off2 := 1) Tryz.underlying51 rfl Tryz.sizeOf49 (by decide) rfl rfl) rfl rfl rfl ?_
    refine V_y (Y_fieldAddrC (off2 := 1) Tryz.underlying49 rfl Tryz.sizeOf3 (by decide) rfl rfl) rfl rfl rfl ?_
    refine V_y (Y_load (Hp.cell (j := 1) hH (i := 0) rfl rfl) Tryz.isAgg3 rfl) rfl rfl rfl ?_
    refine V_to (fun _ _ => rfl) ?_
    refine C_block ?_
    refine C_seq ?_
    refine C_region ?_
    refine V_y (Y_eql rfl rfl) rfl rfl rfl ?_
    refine V_y (Y_assign rfl) rfl rfl rfl ?_
    refine V_to (fun _ _ => rfl) ?_
    refine C_cond rfl (fun hc45 => ?_) (fun hc45 => ?_)
    · rw [if_pos hc45] at hm
      refine C_seq ?_
      refine C_region ?_
      refine V_y (Y_loadA (Hp.part (off := 0) (n := 4) (ds := [.int .i64 x31.1, .int .i64 x22, .int .i64 0, .string ByteArray.empty]) hH (i := 0) rfl rfl) Tryz.isAgg51 Tryz.sizeOf51 rfl) rfl rfl rfl ?_
      refine V_y (Y_move rfl) rfl rfl rfl ?_
      refine V_y (Y_not rfl) rfl rfl rfl ?_
      refine V_storeC (Dw := False) (off := 0) (ds := [.int .i64 x31.1, .int .i64 x22, .int .i64 0, .string ByteArray.empty]) hH (i := 2) rfl Tryz.sizeOf51 rfl (Nat.le_of_ble_eq_true rfl) (by simp [Value.cells, Value.oneCell']) rfl hB hA rfl rfl ?_
      intro w46 hH47 ht48
      replace hK := Tr.trans (Dw := False) hK ht48
      replace hB := Nat.le_trans hB ht48.ex.size
      replace hA := ht48.new
      replace hH : Hp w.heap.size A25 w46 (obC b23 [.int .i64 x31.1, .int .i64 x22, .int .i64 0, .string ByteArray.empty] 51 :: obS (α := ByteArray) 9 v15 x14 :: obC b1 [.int .i64 x31.1, .int .i64 x22, .int .i64 0, .string ByteArray.empty] 51 :: []) := hH47
      refine V_y (Y_assign rfl) rfl rfl rfl ?_
      refine V_to (fun _ _ => rfl) ?_
      obtain rfl := Option.some.inj hm
      refine C_ret ?_
      try simp only [↓inBlock_ret, ↓then_ret]
      exact retQ rfl (Res.l2 Tryz.results54 (RL.cell rfl (loadVar_agg (Hp.part (off := 0) (n := 4) (ds := [.int .i64 x31.1, .int .i64 x22, .int .i64 0, .string ByteArray.empty]) hH (i := 2) rfl rfl) Tryz.isAgg51 Tryz.sizeOf51)) (RL.tmp rfl)) ⟨rfl, hK.kp⟩
    · rw [if_neg (nt hc45)] at hm
      refine C_seq ?_
      refine C_region ?_
      refine V_y (Y_eql rfl rfl) rfl rfl rfl ?_
      refine V_y (Y_assign rfl) rfl rfl rfl ?_
      refine V_to (fun _ _ => rfl) ?_
      refine C_cond rfl (fun hc49 => ?_) (fun hc49 => ?_)
      · rw [if_pos hc49] at hm
        refine C_seq ?_
        refine C_region ?_
        refine V_y (Y_move rfl) rfl rfl rfl ?_
        refine V_y (Y_fieldAddrC (off2 := 1) Tryz.underlying51 rfl Tryz.sizeOf49 (by decide) rfl rfl) rfl rfl rfl ?_
        refine V_y (Y_fieldAddrC (off2 := 3) Tryz.underlying49 rfl Tryz.sizeOf9 (by decide) rfl rfl) rfl rfl rfl ?_
        refine V_storeC (Dw := False) (off := 3) (ds := [.int .i64 x31.1, .int .i64 x22, .int .i64 0, .string x10.2.1]) hH (i := 0) rfl Tryz.sizeOf9 rfl (Nat.le_of_ble_eq_true rfl) (by simp [Value.cells, Value.oneCell']) rfl hB hA rfl rfl ?_
        intro w50 hH51 ht52
        replace hK := Tr.trans (Dw := False) hK ht52
        replace hB := Nat.le_trans hB ht52.ex.size
        replace hA := ht52.new
        replace hH : Hp w.heap.size A25 w50 (obC b23 [.int .i64 x31.1, .int .i64 x22, .int .i64 0, .string x10.2.1] 51 :: obS (α := ByteArray) 9 v15 x14 :: obC b1 [.int .i64 0, .int .i64 0, .int .i64 0, .string ByteArray.empty] 51 :: []) := hH51
        refine V_to (fun _ _ => rfl) ?_
        refine C_seq ?_
        refine C_region ?_
        refine V_y (Y_loadA (Hp.part (off := 0) (n := 4) (ds := [.int .i64 x31.1, .int .i64 x22, .int .i64 0, .string x10.2.1]) hH (i := 0) rfl rfl) Tryz.isAgg51 Tryz.sizeOf51 rfl) rfl rfl rfl ?_
        refine V_y (Y_move rfl) rfl rfl rfl ?_
        refine V_storeC (Dw := False) (off := 0) (ds := [.int .i64 x31.1, .int .i64 x22, .int .i64 0, .string x10.2.1]) hH (i := 2) rfl Tryz.sizeOf51 rfl (Nat.le_of_ble_eq_true rfl) (by simp [Value.cells, Value.oneCell']) rfl hB hA rfl rfl ?_
        intro w53 hH54 ht55
        replace hK := Tr.trans (Dw := False) hK ht55
        replace hB := Nat.le_trans hB ht55.ex.size
        replace hA := ht55.new
        replace hH : Hp w.heap.size A25 w53 (obC b23 [.int .i64 x31.1, .int .i64 x22, .int .i64 0, .string x10.2.1] 51 :: obS (α := ByteArray) 9 v15 x14 :: obC b1 [.int .i64 x31.1, .int .i64 x22, .int .i64 0, .string x10.2.1] 51 :: []) := hH54
        refine V_y (Y_assign rfl) rfl rfl rfl ?_
        refine V_to (fun _ _ => rfl) ?_
        obtain rfl := Option.some.inj hm
        refine C_ret ?_
        try simp only [↓inBlock_ret, ↓then_ret]
        exact retQ rfl (Res.l2 Tryz.results54 (RL.cell rfl (loadVar_agg (Hp.part (off := 0) (n := 4) (ds := [.int .i64 x31.1, .int .i64 x22, .int .i64 0, .string x10.2.1]) hH (i := 2) rfl rfl) Tryz.isAgg51 Tryz.sizeOf51)) (RL.tmp rfl)) ⟨rfl, hK.kp⟩
      · rw [if_neg (nt hc49)] at hm
        refine C_skip_to (fun _ _ => rfl) ?_
        refine C_seq ?_
        refine C_region ?_
        refine V_y (Y_move rfl) rfl rfl rfl ?_
        obtain ⟨x56, hx56, hm⟩ := Option.bind_eq_some_iff.1 hm
        refine V_call Tryz.call68 rfl rfl rfl rfl (level_number_c w36 hA (Fz.tr (Dw := False) hT hK) x10.2.1 18 hx56) ?_
        rintro _ w57 ⟨rfl, hk58⟩
        have ht59 := Kp.tr (Dw := False) hk58 hA hB
        replace hH := Hp.kp (Dw := False) hH hk58
        replace hK := Tr.trans (Dw := False) hK ht59
        replace hB := Nat.le_trans hB ht59.ex.size
        replace hA := ht59.new
        refine V_y (Y_move rfl) rfl rfl rfl ?_
        refine V_y (Y_extract rfl rfl) rfl rfl rfl ?_
        refine V_y (Y_extract rfl rfl) rfl rfl rfl ?_
        refine V_y (Y_fieldAddrC (off2 := 1) Tryz.underlying51 rfl Tryz.sizeOf49 (by decide) rfl rfl) rfl rfl rfl ?_
        refine V_y (Y_fieldAddrC (off2 := 2) Tryz.underlying49 rfl Tryz.sizeOf3 (by decide) rfl rfl) rfl rfl rfl ?_
        refine V_storeC (Dw := False) (off := 2) (ds := [.int .i64 x31.1, .int .i64 x22, .int .i64 x56.1, .string ByteArray.empty]) hH (i := 0) rfl Tryz.sizeOf3 rfl (Nat.le_of_ble_eq_true rfl) (by simp [Value.cells, Value.oneCell']) rfl hB hA rfl rfl ?_
        intro w60 hH61 ht62
        replace hK := Tr.trans (Dw := False) hK ht62
        replace hB := Nat.le_trans hB ht62.ex.size
        replace hA := ht62.new
        replace hH : Hp w.heap.size A25 w60 (obC b23 [.int .i64 x31.1, .int .i64 x22, .int .i64 x56.1, .string ByteArray.empty] 51 :: obS (α := ByteArray) 9 v15 x14 :: obC b1 [.int .i64 0, .int .i64 0, .int .i64 0, .string ByteArray.empty] 51 :: []) := hH61
        refine V_y (Y_assign rfl) rfl rfl rfl ?_
        refine V_to (fun _ _ => rfl) ?_
        refine C_seq ?_
        refine C_region ?_
        refine V_y (Y_loadA (Hp.part (off := 0) (n := 4) (ds := [.int .i64 x31.1, .int .i64 x22, .int .i64 x56.1, .string ByteArray.empty]) hH (i := 0) rfl rfl) Tryz.isAgg51 Tryz.sizeOf51 rfl) rfl rfl rfl ?_
        refine V_y (Y_move rfl) rfl rfl rfl ?_
        refine V_y (Y_move rfl) rfl rfl rfl ?_
        refine V_cut 2 (fun _ : Unit => [(2, .pointer (some ⟨b1, 0, none⟩)), (66, .agg #[.int .i64 x31.1, .int .i64 x22, .int .i64 x56.1, .string ByteArray.empty]), (70, .bool (x56.2 && x10.2.2))]) (fun _ w' => w60 = w') ?_ ?_
        · simp only [List.take, List.drop]
          rcases Bool.eq_false_or_eq_true (x56.2) with hc63 | hc63
          · refine V_ge rfl rfl rfl hc63 ?_
            refine V_y (Y_move rfl) rfl rfl rfl ?_
            refine V_y (Y_pick_te rfl hc63 rfl) rfl rfl rfl ?_
            exact V_end fun a ha => ⟨(), ha.sub ⟨rfl, rfl, (by rw [hc63]; rfl), trivial⟩, rfl⟩
          · refine V_gn rfl rfl rfl hc63 rfl rfl rfl ?_
            refine V_y (Y_pick_fe rfl hc63 rfl) rfl rfl rfl ?_
            exact V_end fun a ha => ⟨(), ha.sub ⟨rfl, rfl, (by rw [hc63]; rfl), trivial⟩, rfl⟩
        simp only [List.take, List.drop]
        rintro _ _ rfl
        refine V_storeC (Dw := False) (off := 0) (ds := [.int .i64 x31.1, .int .i64 x22, .int .i64 x56.1, .string ByteArray.empty]) hH (i := 2) rfl Tryz.sizeOf51 rfl (Nat.le_of_ble_eq_true rfl) (by simp [Value.cells, Value.oneCell']) rfl hB hA rfl rfl ?_
        intro w65 hH66 ht67
        replace hK := Tr.trans (Dw := False) hK ht67
        replace hB := Nat.le_trans hB ht67.ex.size
        replace hA := ht67.new
        replace hH : Hp w.heap.size A25 w65 (obC b23 [.int .i64 x31.1, .int .i64 x22, .int .i64 x56.1, .string ByteArray.empty] 51 :: obS (α := ByteArray) 9 v15 x14 :: obC b1 [.int .i64 x31.1, .int .i64 x22, .int .i64 x56.1, .string ByteArray.empty] 51 :: []) := hH66
        refine V_y (Y_assign rfl) rfl rfl rfl ?_
        refine V_to (fun _ _ => rfl) ?_
        obtain rfl := Option.some.inj hm
        refine C_ret ?_
        try simp only [↓inBlock_ret, ↓then_ret]
        exact retQ rfl (Res.l2 Tryz.results54 (RL.cell rfl (loadVar_agg (Hp.part (off := 0) (n := 4) (ds := [.int .i64 x31.1, .int .i64 x22, .int .i64 x56.1, .string ByteArray.empty]) hH (i := 2) rfl rfl) Tryz.isAgg51 Tryz.sizeOf51)) (RL.tmp rfl)) ⟨rfl, hK.kp⟩

set_option maxRecDepth 4000 in
set_option maxHeartbeats 4000000 in
theorem level_targetWords_c (w : World) {A : Nat → Prop} (hA : ∀ b, w.heap.size ≤ b → A b)  {r : (List ByteArray)} (hm : level_targetWords  = some r) : Ret Tryz.prog 55 #[] w fun v w' => ∃ s0, v = s0 ∧ Ownd 9 w w' s0 r ∧ Kp Dw w w' := by
  unfold level_targetWords at hm
  refine enter Tryz.func55 rfl Tryz.ntmps55 rfl ?_
  have hA0 := hA
  have hB := Nat.le_refl w.heap.size
  have hK : Tr Dw w.heap.size A w A w := Tr.refl (Dw := Dw) hA
  have hH : Hp w.heap.size A w [] := Hp.nil
  refine C_seq ?_
  refine C_region ?_
  refine V_y (Y_assign rfl) rfl rfl rfl ?_
  refine V_to (fun _ _ => rfl) ?_
  refine C_seq ?_
  refine C_region ?_
  refine V_buildOwnH (Dw := Dw) (l := ([(⟨#[102, 105, 114, 115, 116]⟩ : ByteArray), (⟨#[114, 101, 112, 108, 121]⟩ : ByteArray), (⟨#[115, 111, 108, 118, 101]⟩ : ByteArray)] : List ByteArray)) (len := 3) hH Tryz.underlying35 Tryz.sizeOf9 Tryz.zeroValue9 rfl (by with_unfolding_all rfl) (show (3 * 1 : Nat) ≠ 0 by decide) (show (3 * 1 : Nat) ≤ 2 ^ 24 by decide) hB hA ⟨[.string (⟨#[102, 105, 114, 115, 116]⟩ : ByteArray)], _, rfl, rfl, ⟨[.string (⟨#[114, 101, 112, 108, 121]⟩ : ByteArray)], _, rfl, rfl, ⟨[.string (⟨#[115, 111, 108, 118, 101]⟩ : ByteArray)], _, rfl, rfl, rfl⟩⟩⟩ rfl rfl ?_
  intro v1 w2 A5 hH7 ht6
  replace hK := Tr.trans (Dw := Dw) hK ht6
  replace hB := Nat.le_trans hB ht6.ex.size
  replace hA := ht6.new
  replace hH : Hp w.heap.size A5 w2 (obS (α := ByteArray) 9 v1 ([(⟨#[102, 105, 114, 115, 116]⟩ : ByteArray), (⟨#[114, 101, 112, 108, 121]⟩ : ByteArray), (⟨#[115, 111, 108, 118, 101]⟩ : ByteArray)] : List ByteArray) :: []) := hH7
  refine V_y (Y_assign rfl) rfl rfl rfl ?_
  refine V_to (fun _ _ => rfl) ?_
  obtain rfl := Option.some.inj hm
  refine C_ret ?_
  try simp only [↓inBlock_ret, ↓then_ret]
  exact retQ rfl (Res.one Tryz.results55 rfl) ⟨v1, rfl, (Hp.ownd hH (i := 0) rfl), hK.kp⟩

set_option maxRecDepth 4000 in
set_option maxHeartbeats 4000000 in
theorem level_Policy_line_c (w : World) {A : Nat → Prop} {B : Nat} (hB : B ≤ w.heap.size) (hA : ∀ b, w.heap.size ≤ b → A b) (hT : Fz Tryz_FR A w) (p : level_Policy) (b_p : Nat) (v_p0 : Value) (v_p1 : Value) (s : ByteArray) (first : Bool) {L : List Ob} (hH : Hp B A w (obC b_p [v_p0, v_p1] 25 :: obS (α := Int) 3 v_p0 p.pauses :: obGS gf_level_Level 46 v_p1 p.levels :: L)) {r : (Bool × level_Policy)} (hm : level_Policy_line p s first = some r) : Ret Tryz.prog 8 #[.pointer (some ⟨b_p, 0, none⟩), .string s, .bool first] w fun v w' => ∃ u1_0, ∃ u1_1, ∃ A1 : Nat → Prop, v = .bool r.1 ∧ Hp B A1 w' (obC b_p [u1_0, u1_1] 25 :: obS (α := Int) 3 u1_0 r.2.pauses :: obGS gf_level_Level 46 u1_1 r.2.levels :: L) ∧ Tr False B A w A1 w' := by
  unfold level_Policy_line at hm
  refine enter Tryz.func8 rfl Tryz.ntmps8 rfl ?_
  have hK : Tr False B A w A w := Tr.refl (Dw := False) hA
  refine C_seq ?_
  refine C_region ?_
  refine V_y (Y_assign rfl) rfl rfl rfl ?_
  refine V_to (fun _ _ => rfl) ?_
  refine C_seq ?_
  refine C_region ?_
  refine V_y (Y_move rfl) rfl rfl rfl ?_
  obtain ⟨x5, hx5, hm⟩ := Option.bind_eq_some_iff.1 hm
  refine V_call Tryz.call51 rfl rfl rfl rfl (strings_Split_c (Dw := False) w hA (Fz.tr (Dw := False) hT hK) s (⟨#[32]⟩ : ByteArray) hx5) ?_
  rintro v6 w9 ⟨_, rfl, h7, hk10⟩
  have ht11 := Kp.tr (Dw := False) hk10 hA hB
  replace hH := Hp.kp (Dw := False) hH hk10
  replace hK := Tr.trans (Dw := False) hK ht11
  replace hB := Nat.le_trans hB ht11.ex.size
  replace hA := ht11.new
  refine V_y (Y_assign rfl) rfl rfl rfl ?_
  refine V_to (fun _ _ => rfl) ?_
  refine C_seq ?_
  refine C_seq ?_
  refine C_region ?_
  refine V_y (Y_move rfl) rfl rfl rfl ?_
  refine V_y (Y_move rfl) rfl rfl rfl ?_
  obtain ⟨x12, hx12, hm⟩ := Option.bind_eq_some_iff.1 hm
  refine V_indexAddr h7 hx12 Tryz.underlying35 Tryz.sizeOf9 rfl rfl rfl ?_
  intro b13 o14 h15
  refine V_y (Y_load (El.str h15) Tryz.isAgg9 rfl) rfl rfl rfl ?_
  refine V_y (Y_seql rfl rfl) rfl rfl rfl ?_
  refine V_y (Y_bneq Tryz.underlying4 rfl rfl) rfl rfl rfl ?_
  refine V_to (fun _ _ => rfl) ?_
  refine C_cond rfl (fun hc16 => ?_) (fun hc16 => ?_)
  · rw [if_pos hc16] at hm
    refine C_seq ?_
    refine C_region ?_
    refine V_y (Y_assign rfl) rfl rfl rfl ?_
    refine V_to (fun _ _ => rfl) ?_
    obtain rfl := Option.some.inj hm
    refine C_ret ?_
    try simp only [↓inBlock_ret, ↓then_ret]
    exact retQ rfl (Res.one Tryz.results8 rfl) ⟨v_p0, v_p1, A, rfl, hH, hK⟩
  · rw [if_neg (nt hc16)] at hm
    refine C_skip_to (fun _ _ => rfl) ?_
    refine C_seq ?_
    refine C_seq ?_
    refine C_region ?_
    refine V_y (Y_move rfl) rfl rfl rfl ?_
    refine V_to (fun _ _ => rfl) ?_
    refine C_cond rfl (fun hc17 => ?_) (fun hc17 => ?_)
    · rw [if_pos hc17] at hm
      refine C_seq ?_
      refine C_region ?_
      refine V_y (Y_move rfl) rfl rfl rfl ?_
      obtain ⟨x18, hx18, hm⟩ := Option.bind_eq_some_iff.1 hm
      obtain ⟨v19, h20, h20y⟩ := sliceL_val hx18 h7
      refine V_y (Y_sliceLL h20y Tryz.underlying35 Tryz.sizeOf9 rfl rfl) rfl rfl rfl ?_
      obtain ⟨x21, hx21, hm⟩ := Option.bind_eq_some_iff.1 hm
      refine V_call Tryz.call52 rfl rfl rfl rfl (level_numbers_c w9 hA (Fz.tr (Dw := False) hT hK) x18 v19 h20 18 hx21) ?_
      rintro _ w24 ⟨v22, rfl, h23, hk25⟩
      obtain ⟨A26, ht27, hH28⟩ := Hp.addOwnd (Dw := False) hH hB hA hk25 h23
      replace h7 := Sl.tr (Dw := False) h7 ht27
      replace h20 := Sl.tr (Dw := False) h20 ht27
      replace hK := Tr.trans (Dw := False) hK ht27
      replace hB := Nat.le_trans hB ht27.ex.size
      replace hA := ht27.new
      replace hH : Hp B A26 w24 (obS (α := Int) 3 v22 x21.1 :: obC b_p [v_p0, v_p1] 25 :: obS (α := Int) 3 v_p0 p.pauses :: obGS gf_level_Level 46 v_p1 p.levels :: L) := hH28
      refine V_y (Y_move rfl) rfl rfl rfl ?_
      refine V_y (Y_extract rfl rfl) rfl rfl rfl ?_
      refine V_y (Y_extract rfl rfl) rfl rfl rfl ?_
      refine V_y (Y_assign rfl) rfl rfl rfl ?_
      refine V_y (Y_assign rfl) rfl rfl rfl ?_
      refine V_to (fun _ _ => rfl) ?_
      refine C_seq ?_
      refine C_region ?_
      refine V_y (Y_move rfl) rfl rfl rfl ?_
      refine V_y (Y_move rfl) rfl rfl rfl ?_
      refine V_y (Y_nilCheck rfl) rfl rfl rfl ?_
      refine V_y (Y_fieldAddrC (off2 := 0) Tryz.underlying25 rfl Tryz.sizeOf22 (by decide) rfl rfl) rfl rfl rfl ?_
      have h34 : (v22).oneCell' = true := by obtain ⟨_, _, e, _⟩ := Sl.form (Hp.any (α := Int) (e := 3) (v := v22) (l := x21.1) hH (i := 0) rfl); rw [e]; rfl
      refine V_storeC (Dw := False) (off := 0) (ds := [v22, v_p1]) hH (i := 1) rfl Tryz.sizeOf22 (by show (v22 : Value).cells.size = _; rw [← Array.length_toList, Value.cells_one h34]; rfl) (Nat.le_of_ble_eq_true rfl) (by intro u hu; change u ∈ (v22 : Value).cells.toList at hu; rw [Value.cells_one h34] at hu; simp at hu; subst hu; assumption) (by show _ ++ (v22 : Value).cells.toList ++ _ = _; rw [Value.cells_one h34]; rfl) hB hA rfl rfl ?_
      intro w29 hH30 ht31
      replace hK := Tr.trans (Dw := False) hK ht31
      replace hB := Nat.le_trans hB ht31.ex.size
      replace hA := ht31.new
      replace hH : Hp B A26 w29 (obS (α := Int) 3 v22 x21.1 :: obC b_p [v22, v_p1] 25 :: obS (α := Int) 3 v_p0 p.pauses :: obGS gf_level_Level 46 v_p1 p.levels :: L) := hH30
      refine V_to (fun _ _ => rfl) ?_
      refine C_seq ?_
      refine C_region ?_
      refine V_y (Y_move rfl) rfl rfl rfl ?_
      refine V_y (Y_assign rfl) rfl rfl rfl ?_
      refine V_to (fun _ _ => rfl) ?_
      obtain rfl := Option.some.inj hm
      replace hH : Hp B A26 w29 (obGS gf_level_Level 46 v_p1 p.levels :: obS (α := Int) 3 v22 x21.1 :: obC b_p [v22, v_p1] 25 :: obS (α := Int) 3 v_p0 p.pauses :: L) := Hp.front hH (i := 3) rfl
      replace hH : Hp B A26 w29 (obS (α := Int) 3 v22 x21.1 :: obGS gf_level_Level 46 v_p1 p.levels :: obC b_p [v22, v_p1] 25 :: obS (α := Int) 3 v_p0 p.pauses :: L) := Hp.front hH (i := 1) rfl
      replace hH : Hp B A26 w29 (obC b_p [v22, v_p1] 25 :: obS (α := Int) 3 v22 x21.1 :: obGS gf_level_Level 46 v_p1 p.levels :: obS (α := Int) 3 v_p0 p.pauses :: L) := Hp.front hH (i := 2) rfl
      replace hH : Hp B A26 w29 (obC b_p [v22, v_p1] 25 :: obS (α := Int) 3 v22 x21.1 :: obGS gf_level_Level 46 v_p1 p.levels :: L) := Hp.drop hH (i := 3) rfl
      refine C_ret ?_
      try simp only [↓inBlock_ret, ↓then_ret]
      exact retQ rfl (Res.one Tryz.results8 rfl) ⟨v22, v_p1, A26, rfl, hH, hK⟩
    · rw [if_neg (nt hc17)] at hm
      refine C_skip_to (fun _ _ => rfl) ?_
      refine C_seq ?_
      refine C_seq ?_
      refine C_region ?_
      refine V_y (Y_move rfl) rfl rfl rfl ?_
      refine V_indexAddr h7 hx12 Tryz.underlying35 Tryz.sizeOf9 rfl rfl rfl ?_
      intro b35 o36 h37
      refine V_y (Y_load (El.str h37) Tryz.isAgg9 rfl) rfl rfl rfl ?_
      refine V_y (Y_seql rfl rfl) rfl rfl rfl ?_
      refine V_to (fun _ _ => rfl) ?_
      refine C_cond rfl (fun hc38 => ?_) (fun hc38 => ?_)
      · rw [if_pos hc38] at hm
        refine C_seq ?_
        refine C_region ?_
        refine V_y (Y_move rfl) rfl rfl rfl ?_
        refine V_y (Y_move rfl) rfl rfl rfl ?_
        refine V_y (Y_nilCheck rfl) rfl rfl rfl ?_
        refine V_y (Y_fieldAddrC (off2 := 1) Tryz.underlying25 rfl Tryz.sizeOf23 (by decide) rfl rfl) rfl rfl rfl ?_
        refine V_y (Y_load (Hp.cell (j := 1) hH (i := 0) rfl rfl) Tryz.isAgg23 rfl) rfl rfl rfl ?_
        refine V_y (Y_build Tryz.underlying46 Tryz.zeroValue46 (Tryz_places46 _ Tryz.underlying46) rfl (by with_unfolding_all rfl)) rfl rfl rfl ?_
        refine V_buildSlice (Dw := False) (cells := #[.string ByteArray.empty, .slice none 0 0, .slice none 0 0]) (l := [(⟨ByteArray.empty, ⟨.slice none 0 0, rfl⟩, ⟨.slice none 0 0, rfl⟩⟩ : level_LevelV)]) (len := 1) Tryz.underlying23 Tryz.sizeOf46 Tryz.zeroValue46 rfl (by kernel_rfl) (show (1 * 3 : Nat) ≠ 0 by decide) (show (1 * 3 : Nat) ≤ 2 ^ 24 by decide) hA ⟨[.string ByteArray.empty, .slice none 0 0, .slice none 0 0], _, rfl, ⟨[.string ByteArray.empty], _, rfl, rfl, ⟨[.slice none 0 0], _, rfl, rfl, rfl⟩⟩, rfl⟩ rfl rfl ?_
        intro v39 w40 hk42 h41
        have ht43 := Kp.tr (Dw := False) hk42 hA hB
        replace hH := Hp.kp (Dw := False) hH hk42
        replace h7 := Sl.tr (Dw := False) h7 ht43
        replace hK := Tr.trans (Dw := False) hK ht43
        replace hB := Nat.le_trans hB ht43.ex.size
        replace hA := ht43.new
        obtain ⟨x44, hx44, hm⟩ := Option.bind_eq_some_iff.1 hm
        refine V_appendGS (Dw := False) (f := gf_level_Level) (e := 46) (v := v_p1) (l := p.levels) (ti := Tryz.t46) (bytes := 64) (lim := 2199023255552) hH (i := 2) rfl h41 (gf_level_Level_bare (y := (⟨ByteArray.empty, ⟨.slice none 0 0, rfl⟩, ⟨.slice none 0 0, rfl⟩⟩ : level_LevelV)) (x := (⟨ByteArray.empty, ([] : (List level_Test)), ([] : (List level_Target))⟩ : level_Level)) rfl rfl rfl rfl rfl) hx44 Tryz.underlying23 Tryz_info46 rfl rfl rfl rfl (by decide) (by decide) (by decide) hB hA rfl rfl rfl ?_
        intro v45 w46 A47 hH48 ht49
        replace h7 := Sl.tr (Dw := False) h7 ht49
        replace h41 := Sl.tr (Dw := False) h41 ht49
        replace hK := Tr.trans (Dw := False) hK ht49
        replace hB := Nat.le_trans hB ht49.ex.size
        replace hA := ht49.new
        replace hH : Hp B A47 w46 (obGS gf_level_Level 46 v45 x44 :: obC b_p [v_p0, v_p1] 25 :: obS (α := Int) 3 v_p0 p.pauses :: L) := hH48
        refine V_y (Y_nilCheck rfl) rfl rfl rfl ?_
        refine V_y (Y_fieldAddrC (off2 := 1) Tryz.underlying25 rfl Tryz.sizeOf23 (by decide) rfl rfl) rfl rfl rfl ?_
        have h55 : (v45).oneCell' = true := by obtain ⟨_, _, e, _⟩ := Sl.form (Hp.anyGS (f := gf_level_Level) (e := 46) (v := v45) (l := x44) hH (i := 0) rfl); rw [e]; rfl
        refine V_storeC (Dw := False) (off := 1) (ds := [v_p0, v45]) hH (i := 1) rfl Tryz.sizeOf23 (by show (v45 : Value).cells.size = _; rw [← Array.length_toList, Value.cells_one h55]; rfl) (Nat.le_of_ble_eq_true rfl) (by intro u hu; change u ∈ (v45 : Value).cells.toList at hu; rw [Value.cells_one h55] at hu; simp at hu; subst hu; assumption) (by show _ ++ (v45 : Value).cells.toList ++ _ = _; rw [Value.cells_one h55]; rfl) hB hA rfl rfl ?_
        intro w50 hH51 ht52
        replace h7 := Sl.tr (Dw := False) h7 ht52
        replace h41 := Sl.tr (Dw := False) h41 ht52
        replace hK := Tr.trans (Dw := False) hK ht52
        replace hB := Nat.le_trans hB ht52.ex.size
        replace hA := ht52.new
        replace hH : Hp B A47 w50 (obGS gf_level_Level 46 v45 x44 :: obC b_p [v_p0, v45] 25 :: obS (α := Int) 3 v_p0 p.pauses :: L) := hH51
        refine V_to (fun _ _ => rfl) ?_
        refine C_seq ?_
        refine C_region_qt (Dw := False) 14 Tryz_mixed (by kernel_rfl) ?_
        simp only [List.take, List.drop]
        refine VQ_y (fun w' hw' => Y_move rfl) rfl rfl rfl ?_
        refine VQ_y (fun w' hw' => Y_nilCheck rfl) rfl rfl rfl ?_
        refine VQ_y (fun w' hw' => Y_fieldAddrC (off2 := 1) Tryz.underlying25 rfl Tryz.sizeOf23 (by decide) rfl rfl) rfl rfl rfl ?_
        refine VQ_y (fun w' hw' => Y_load ((World.cell?_of_block (hw'.block _ (World.block_lt_of_cell? _ _ (Hp.cell (j := 1) hH (i := 1) rfl rfl)))).trans (Hp.cell (j := 1) hH (i := 1) rfl rfl)) Tryz.isAgg23 rfl) rfl rfl rfl ?_
        refine VQ_y (fun w' hw' => Y_move rfl) rfl rfl rfl ?_
        refine VQ_y (fun w' hw' => Y_nilCheck rfl) rfl rfl rfl ?_
        refine VQ_y (fun w' hw' => Y_fieldAddrC (off2 := 1) Tryz.underlying25 rfl Tryz.sizeOf23 (by decide) rfl rfl) rfl rfl rfl ?_
        refine VQ_y (fun w' hw' => Y_load ((World.cell?_of_block (hw'.block _ (World.block_lt_of_cell? _ _ (Hp.cell (j := 1) hH (i := 1) rfl rfl)))).trans (Hp.cell (j := 1) hH (i := 1) rfl rfl)) Tryz.isAgg23 rfl) rfl rfl rfl ?_
        refine VQ_y (fun w' hw' => Y_lenSl (Hp.anyGS (f := gf_level_Level) (e := 46) (v := v45) (l := x44) hH (i := 0) rfl) rfl Tryz.underlying23 rfl) rfl rfl rfl ?_
        refine VQ_y (fun w' hw' => Y_subI rfl rfl) rfl rfl rfl ?_
        refine VQ_y (fun w' hw' => Y_move rfl) rfl rfl rfl ?_
        obtain ⟨x56, hx56, hm⟩ := Option.bind_eq_some_iff.1 hm
        refine VQ_call (.string x56) Tryz.call53 rfl rfl rfl rfl (fun w' hw' => (strings_TrimPrefix_c w' s (⟨#[108, 101, 118, 101, 108, 32]⟩ : ByteArray) hx56).mono (fun _ _ h => ⟨h.1, h.2 ▸ hw'⟩)) ?_
        obtain ⟨x57, hx57, hm⟩ := Option.bind_eq_some_iff.1 hm
        refine VQ_indexAddrGS (f := gf_level_Level) (e := 46) (v := v45) (l := x44) hH (i := 0) rfl hx57 Tryz.underlying23 Tryz.sizeOf46 rfl rfl rfl ?_
        intro b58 o59 h60 hl61
        have h62 := El_level_Level_0 h60
        refine VQ_y (fun w' hw' => Y_fieldAddr Tryz.underlying46 rfl Tryz.sizeOf9 (by decide) rfl) rfl rfl rfl ?_
        refine VQ_tail (fun w63 hk64 => ?_)
        try simp only [List.take, List.drop]
        have ht65 := Kp.tr (Dw := False) hk64 hA hB
        replace hH := Hp.kp (Dw := False) hH hk64
        replace h7 := Sl.tr (Dw := False) h7 ht65
        replace h60 := El.kp (Dw := False) h60 hk64
        replace h62 := El.kp (Dw := False) h62 hk64
        replace hK := Tr.trans (Dw := False) hK ht65
        replace hB := Nat.le_trans hB ht65.ex.size
        replace hA := ht65.new
        obtain ⟨ys66, y67, hl68, hy69, hH⟩ := Hp.gsGet (f := gf_level_Level) (e := 46) (v := v45) (l := x44) hH (i := 0) rfl hx57
        obtain ⟨hq71, hH⟩ := gf_level_Level_open (hH.front (i := 1) rfl)
        replace hH : Hp B A47 w63 (obS (α := level_Test) 51 y67.tests.v x57.tests :: obS (α := level_Target) 56 y67.targets.v x57.targets :: obS (α := level_LevelV) 46 v45 ys66 :: obYX gf_level_Level ys66 x44 (Int.toNat (w64 ((x44.length : Int) - 1))) :: obC b_p [v_p0, v45] 25 :: obS (α := Int) 3 v_p0 p.pauses :: L) := hH
        replace hH : Hp B A47 w63 (obYX gf_level_Level ys66 x44 (Int.toNat (w64 ((x44.length : Int) - 1))) :: obS (α := level_Test) 51 y67.tests.v x57.tests :: obS (α := level_Target) 56 y67.targets.v x57.targets :: obS (α := level_LevelV) 46 v45 ys66 :: obC b_p [v_p0, v45] 25 :: obS (α := Int) 3 v_p0 p.pauses :: L) := Hp.front hH (i := 3) rfl
        replace hH : Hp B A47 w63 (obS (α := level_Target) 56 y67.targets.v x57.targets :: obYX gf_level_Level ys66 x44 (Int.toNat (w64 ((x44.length : Int) - 1))) :: obS (α := level_Test) 51 y67.tests.v x57.tests :: obS (α := level_LevelV) 46 v45 ys66 :: obC b_p [v_p0, v45] 25 :: obS (α := Int) 3 v_p0 p.pauses :: L) := Hp.front hH (i := 2) rfl
        replace hH : Hp B A47 w63 (obS (α := level_Test) 51 y67.tests.v x57.tests :: obS (α := level_Target) 56 y67.targets.v x57.targets :: obYX gf_level_Level ys66 x44 (Int.toNat (w64 ((x44.length : Int) - 1))) :: obS (α := level_LevelV) 46 v45 ys66 :: obC b_p [v_p0, v45] 25 :: obS (α := Int) 3 v_p0 p.pauses :: L) := Hp.front hH (i := 2) rfl
        replace hH : Hp B A47 w63 (obS (α := level_LevelV) 46 v45 ys66 :: obS (α := level_Test) 51 y67.tests.v x57.tests :: obS (α := level_Target) 56 y67.targets.v x57.targets :: obYX gf_level_Level ys66 x44 (Int.toNat (w64 ((x44.length : Int) - 1))) :: obC b_p [v_p0, v45] 25 :: obS (α := Int) 3 v_p0 p.pauses :: L) := Hp.front hH (i := 3) rfl
        obtain ⟨x72, hx72, hm⟩ := Option.bind_eq_some_iff.1 hm
        refine V_storeGS (Dw := False) (f := gf_level_Level) (e := 46) (v := v45) (l := x44) (ys := ys66) (yv := y67) (xv := x57) (yv' := { (y67 : level_LevelV) with name := x56 }) (F := [obS (α := level_Test) 51 y67.tests.v x57.tests, obS (α := level_Target) 56 y67.targets.v x57.targets]) (foff := 0) hH hl68 hl61 hx57 hy69 hx72 (fun _ h => by obtain ⟨_, _, rfl, rfl, ⟨_, _, rfl, rfl, rfl⟩⟩ := h; exact ⟨[_], _, rfl, rfl, ⟨[_], _, rfl, rfl, rfl⟩⟩) Tryz.sizeOf9 rfl (by simp [Value.cells, Value.oneCell']) (by decide) hB hA (fun h => gf_level_Level_pack rfl h) (congrArg (fun z => some (Value.pointer (some ⟨_, z, none⟩))) (by simp [Nat.add_assoc])) rfl ?_
        intro w73 hH74 ht75
        replace h7 := Sl.tr (Dw := False) h7 ht75
        replace hK := Tr.trans (Dw := False) hK ht75
        replace hB := Nat.le_trans hB ht75.ex.size
        replace hA := ht75.new
        replace hH : Hp B A47 w73 (obGS gf_level_Level 46 v45 x72 :: obC b_p [v_p0, v45] 25 :: obS (α := Int) 3 v_p0 p.pauses :: L) := hH74
        refine V_to (fun _ _ => rfl) ?_
        refine C_seq ?_
        refine C_region ?_
        refine V_y (Y_move rfl) rfl rfl rfl ?_
        refine V_y (Y_lenSl h7 rfl Tryz.underlying35 rfl) rfl rfl rfl ?_
        refine V_y (Y_eql rfl rfl) rfl rfl rfl ?_
        refine V_y (Y_move rfl) rfl rfl rfl ?_
        obtain ⟨s77, hs77, hm⟩ := Option.bind_eq_some_iff.1 hm
        refine V_cut 5 (fun _ : Unit => [(74, .bool s77)]) (fun _ w' => w73 = w') ?_ ?_
        · simp only [List.take, List.drop]
          rcases Bool.eq_false_or_eq_true ((x5.length : Int) == 2) with hc76 | hc76
          · rw [if_pos hc76] at hs77
            refine V_ge rfl rfl rfl hc76 ?_
            refine V_y (Y_move rfl) rfl rfl rfl ?_
            refine V_ge rfl rfl rfl hc76 ?_
            obtain ⟨x78, hx78, hs77⟩ := Option.bind_eq_some_iff.1 hs77
            refine V_indexAddr h7 hx78 Tryz.underlying35 Tryz.sizeOf9 rfl rfl rfl ?_
            intro b79 o80 h81
            refine V_ge rfl rfl rfl hc76 ?_
            refine V_y (Y_load (El.str h81) Tryz.isAgg9 rfl) rfl rfl rfl ?_
            refine V_ge rfl rfl rfl hc76 ?_
            refine V_y (Y_sneq rfl rfl) rfl rfl rfl ?_
            refine V_y (Y_pick_te rfl hc76 rfl) rfl rfl rfl ?_
            obtain rfl := Option.some.inj hs77
            exact V_end fun a ha => ⟨(), ha.sub ⟨rfl, trivial⟩, rfl⟩
          · rw [if_neg (nt hc76)] at hs77
            refine V_gn rfl rfl rfl hc76 rfl rfl rfl ?_
            refine V_gn rfl rfl rfl hc76 rfl rfl rfl ?_
            refine V_gn rfl rfl rfl hc76 rfl rfl rfl ?_
            refine V_gn rfl rfl rfl hc76 rfl rfl rfl ?_
            refine V_y (Y_pick_fe rfl hc76 rfl) rfl rfl rfl ?_
            obtain rfl := Option.some.inj hs77
            exact V_end fun a ha => ⟨(), ha.sub ⟨rfl, trivial⟩, rfl⟩
        simp only [List.take, List.drop]
        rintro _ _ rfl
        refine V_y (Y_assign rfl) rfl rfl rfl ?_
        refine V_to (fun _ _ => rfl) ?_
        obtain rfl := Option.some.inj hm
        replace hH : Hp B A47 w73 (obS (α := Int) 3 v_p0 p.pauses :: obGS gf_level_Level 46 v45 x72 :: obC b_p [v_p0, v45] 25 :: L) := Hp.front hH (i := 2) rfl
        replace hH : Hp B A47 w73 (obC b_p [v_p0, v45] 25 :: obS (α := Int) 3 v_p0 p.pauses :: obGS gf_level_Level 46 v45 x72 :: L) := Hp.front hH (i := 2) rfl
        refine C_ret ?_
        try simp only [↓inBlock_ret, ↓then_ret]
        exact retQ rfl (Res.one Tryz.results8 rfl) ⟨v_p0, v45, A47, rfl, hH, hK⟩
      · rw [if_neg (nt hc38)] at hm
        refine C_skip_to (fun _ _ => rfl) ?_
        refine C_seq ?_
        refine C_seq ?_
        refine C_region ?_
        refine V_y (Y_move rfl) rfl rfl rfl ?_
        refine V_y (Y_nilCheck rfl) rfl rfl rfl ?_
        refine V_y (Y_fieldAddrC (off2 := 1) Tryz.underlying25 rfl Tryz.sizeOf23 (by decide) rfl rfl) rfl rfl rfl ?_
        refine V_y (Y_load (Hp.cell (j := 1) hH (i := 0) rfl rfl) Tryz.isAgg23 rfl) rfl rfl rfl ?_
        refine V_y (Y_lenSl (Hp.anyGS (f := gf_level_Level) (e := 46) (v := v_p1) (l := p.levels) hH (i := 2) rfl) rfl Tryz.underlying23 rfl) rfl rfl rfl ?_
        refine V_y (Y_eql rfl rfl) rfl rfl rfl ?_
        refine V_to (fun _ _ => rfl) ?_
        refine C_cond rfl (fun hc82 => ?_) (fun hc82 => ?_)
        · rw [if_pos hc82] at hm
          refine C_seq ?_
          refine C_region ?_
          refine V_y (Y_assign rfl) rfl rfl rfl ?_
          refine V_to (fun _ _ => rfl) ?_
          obtain rfl := Option.some.inj hm
          refine C_ret ?_
          try simp only [↓inBlock_ret, ↓then_ret]
          exact retQ rfl (Res.one Tryz.results8 rfl) ⟨v_p0, v_p1, A, rfl, hH, hK⟩
        · rw [if_neg (nt hc82)] at hm
          refine C_skip_to (fun _ _ => rfl) ?_
          refine C_seq ?_
          refine C_region_q (Dw := False) Tryz_mixed (by kernel_rfl) ?_
          refine VQ_y (fun w' hw' => Y_move rfl) rfl rfl rfl ?_
          refine VQ_y (fun w' hw' => Y_nilCheck rfl) rfl rfl rfl ?_
          refine VQ_y (fun w' hw' => Y_fieldAddrC (off2 := 1) Tryz.underlying25 rfl Tryz.sizeOf23 (by decide) rfl rfl) rfl rfl rfl ?_
          refine VQ_y (fun w' hw' => Y_load ((World.cell?_of_block (hw'.block _ (World.block_lt_of_cell? _ _ (Hp.cell (j := 1) hH (i := 0) rfl rfl)))).trans (Hp.cell (j := 1) hH (i := 0) rfl rfl)) Tryz.isAgg23 rfl) rfl rfl rfl ?_
          refine VQ_y (fun w' hw' => Y_move rfl) rfl rfl rfl ?_
          refine VQ_y (fun w' hw' => Y_nilCheck rfl) rfl rfl rfl ?_
          refine VQ_y (fun w' hw' => Y_fieldAddrC (off2 := 1) Tryz.underlying25 rfl Tryz.sizeOf23 (by decide) rfl rfl) rfl rfl rfl ?_
          refine VQ_y (fun w' hw' => Y_load ((World.cell?_of_block (hw'.block _ (World.block_lt_of_cell? _ _ (Hp.cell (j := 1) hH (i := 0) rfl rfl)))).trans (Hp.cell (j := 1) hH (i := 0) rfl rfl)) Tryz.isAgg23 rfl) rfl rfl rfl ?_
          refine VQ_y (fun w' hw' => Y_lenSl (Hp.anyGS (f := gf_level_Level) (e := 46) (v := v_p1) (l := p.levels) hH (i := 2) rfl) rfl Tryz.underlying23 rfl) rfl rfl rfl ?_
          refine VQ_y (fun w' hw' => Y_subI rfl rfl) rfl rfl rfl ?_
          obtain ⟨x83, hx83, hm⟩ := Option.bind_eq_some_iff.1 hm
          refine VQ_indexAddrGS (f := gf_level_Level) (e := 46) (v := v_p1) (l := p.levels) hH (i := 2) rfl hx83 Tryz.underlying23 Tryz.sizeOf46 rfl rfl rfl ?_
          intro b84 o85 h86 hl87
          refine VQ_y (fun w' hw' => Y_assign rfl) rfl rfl rfl ?_
          refine VQ_to (fun _ _ => rfl) (fun w88 hk89 => ?_)
          have ht90 := Kp.tr (Dw := False) hk89 hA hB
          replace hH := Hp.kp (Dw := False) hH hk89
          replace h7 := Sl.tr (Dw := False) h7 ht90
          replace h86 := El.kp (Dw := False) h86 hk89
          replace hK := Tr.trans (Dw := False) hK ht90
          replace hB := Nat.le_trans hB ht90.ex.size
          replace hA := ht90.new
          refine C_seq ?_
          refine C_seq ?_
          refine C_region ?_
          refine V_y (Y_move rfl) rfl rfl rfl ?_
          obtain ⟨x91, hx91, hm⟩ := Option.bind_eq_some_iff.1 hm
          refine V_call Tryz.call14 rfl rfl rfl rfl (strings_CutPrefix_c w88 s (⟨#[119, 104, 101, 110, 32]⟩ : ByteArray) hx91) ?_
          rintro _ _ ⟨rfl, rfl⟩
          refine V_y (Y_move rfl) rfl rfl rfl ?_
          refine V_y (Y_extract rfl rfl) rfl rfl rfl ?_
          refine V_y (Y_extract rfl rfl) rfl rfl rfl ?_
          refine V_y (Y_assign rfl) rfl rfl rfl ?_
          refine V_y (Y_assign rfl) rfl rfl rfl ?_
          refine V_to (fun _ _ => rfl) ?_
          refine C_seq ?_
          refine C_region ?_
          refine V_y (Y_move rfl) rfl rfl rfl ?_
          refine V_to (fun _ _ => rfl) ?_
          refine C_cond rfl (fun hc92 => ?_) (fun hc92 => ?_)
          · rw [if_pos hc92] at hm
            refine C_seq ?_
            refine C_region ?_
            refine V_y (Y_move rfl) rfl rfl rfl ?_
            obtain ⟨x93, hx93, hm⟩ := Option.bind_eq_some_iff.1 hm
            refine V_call Tryz.call54 rfl rfl rfl rfl (level_readTest_c w88 hA (Fz.tr (Dw := False) hT hK) x91.1 hx93) ?_
            rintro _ w94 ⟨rfl, hk95⟩
            have ht96 := Kp.tr (Dw := False) hk95 hA hB
            replace hH := Hp.kp (Dw := False) hH hk95
            replace h7 := Sl.tr (Dw := False) h7 ht96
            replace h86 := El.kp (Dw := False) h86 hk95
            replace hK := Tr.trans (Dw := False) hK ht96
            replace hB := Nat.le_trans hB ht96.ex.size
            replace hA := ht96.new
            refine V_y (Y_move rfl) rfl rfl rfl ?_
            refine V_y (Y_extract rfl rfl) rfl rfl rfl ?_
            refine V_y (Y_extract rfl rfl) rfl rfl rfl ?_
            refine V_alloc Tryz.zeroValue51 rfl ?_
            intro b97 w98 h99
            refine V_storeNew h99 Tryz.sizeOf51 rfl rfl rfl rfl (by exact (List.forall_mem_cons.2 ⟨rfl, (List.forall_mem_cons.2 ⟨rfl, (List.forall_mem_cons.2 ⟨rfl, (List.forall_mem_cons.2 ⟨rfl, (fun _ h => nomatch h)⟩)⟩)⟩)⟩)) ?_
            intro w100 h101
            have hk103 := h101.kp (Dw := False)
            have h102 : El (α := level_Test) A w100 b97 0 x93.1 := h101.el hA ⟨[.int .i64 x93.1.field], _, rfl, rfl, ⟨[.int .i64 x93.1.value.kind], _, rfl, rfl, ⟨[.int .i64 x93.1.value.int], _, rfl, rfl, rfl⟩⟩⟩
            have ht104 := Kp.tr (Dw := False) hk103 hA hB
            replace hH := Hp.kp (Dw := False) hH hk103
            replace h7 := Sl.tr (Dw := False) h7 ht104
            replace h86 := El.kp (Dw := False) h86 hk103
            replace hK := Tr.trans (Dw := False) hK ht104
            replace hB := Nat.le_trans hB ht104.ex.size
            replace hA := ht104.new
            refine V_y (Y_assign rfl) rfl rfl rfl ?_
            refine V_to (fun _ _ => rfl) ?_
            refine C_seq ?_
            refine C_region_ch (Dw := False) A 11 [(1, 0), (1, 1), (1, 2), (1, 3), (0, 4), (1, 5), (2, 6), (4, 7), (1, 8), (1, 9), (4, 10)] Tryz_mixed (by kernel_rfl) (fun w105 hk106 => ?_)
            have ht107 := Kp.tr (Dw := False) hk106 hA hB
            replace hH := Hp.kp (Dw := False) hH hk106
            replace h86 := El.kp (Dw := False) h86 hk106
            replace h102 := El.tr (Dw := False) h102 ht107
            replace hK := Tr.trans (Dw := False) hK ht107
            replace hB := Nat.le_trans hB ht107.ex.size
            replace hA := ht107.new
            refine CH_q2 (Dw := False) rfl ?_
            refine VQ_y (fun w' hw' => Y_move rfl) rfl rfl rfl ?_
            refine VQ_CH (Dw := False) ?_
            refine CH_q2 (Dw := False) rfl ?_
            refine VQ_y (fun w' hw' => Y_move rfl) rfl rfl rfl ?_
            refine VQ_CH (Dw := False) ?_
            refine CH_q2 (Dw := False) rfl ?_
            refine VQ_y (fun w' hw' => Y_nilCheck rfl) rfl rfl rfl ?_
            refine VQ_CH (Dw := False) ?_
            refine CH_q2 (Dw := False) rfl ?_
            have h108 := El_level_Level_1 h86
            refine VQ_y (fun w' hw' => Y_fieldAddr Tryz.underlying46 rfl Tryz.sizeOf43 (by decide) rfl) rfl rfl rfl ?_
            refine VQ_CH (Dw := False) ?_
            refine CH_q1 (Dw := False) rfl ?_
            obtain ⟨v109, h110, h111⟩ := El.list h108
            refine VQ_y (fun w' hw' => Y_load ((World.cell?_of_block (hw'.block _ (World.block_lt_of_cell? _ _ h110))).trans h110) Tryz.isAgg43 rfl) rfl rfl rfl ?_
            refine VQ_CH (Dw := False) ?_
            refine CH_q2 (Dw := False) rfl ?_
            obtain ⟨h112, _⟩ := El_level_Test h102
            refine VQ_y (fun w' hw' => Y_loadA (At.same h112 (hw'.2 _ h102.2.1 h102.1)) Tryz.isAgg51 Tryz.sizeOf51 rfl) rfl rfl rfl ?_
            refine VQ_CH (Dw := False) ?_
            refine CH_l1 (Dw := False) (k := 0) rfl ?_
            refine V_buildSlice (Dw := False) (cells := #[.int .i64 x93.1.field, .int .i64 x93.1.value.kind, .int .i64 x93.1.value.int, .string x93.1.value.text]) (l := ([x93.1] : List level_Test)) (len := 1) Tryz.underlying43 Tryz.sizeOf51 Tryz.zeroValue51 rfl (by kernel_rfl) (show (1 * 4 : Nat) ≠ 0 by decide) (show (1 * 4 : Nat) ≤ 2 ^ 24 by decide) hA ⟨[.int .i64 x93.1.field, .int .i64 x93.1.value.kind, .int .i64 x93.1.value.int, .string x93.1.value.text], _, rfl, ⟨[.int .i64 x93.1.field], _, rfl, rfl, ⟨[.int .i64 x93.1.value.kind], _, rfl, rfl, ⟨[.int .i64 x93.1.value.int], _, rfl, rfl, rfl⟩⟩⟩, rfl⟩ rfl rfl ?_
            intro v113 w114 hk116 h115
            have ht117 := Kp.tr (Dw := False) hk116 hA hB
            replace hH := Hp.kp (Dw := False) hH hk116
            replace h86 := El.kp (Dw := False) h86 hk116
            replace h102 := El.tr (Dw := False) h102 ht117
            replace h108 := El.kp (Dw := False) h108 hk116
            replace h111 := Sl.kp (Dw := False) h111 hk116
            replace h110 := cell_kp (Dw := False) h110 hk116
            replace hK := Tr.trans (Dw := False) hK ht117
            replace hB := Nat.le_trans hB ht117.ex.size
            replace hA := ht117.new
            refine V_CH (Dw := False) (hk116) ?_
            refine CH_l1 (Dw := False) (k := 2) rfl ?_
            obtain ⟨ys118, y119, hl120, hy121, hv122, hH⟩ := Hp.gsAt (f := gf_level_Level) (e := 46) (v := v_p1) (l := p.levels) (p := fun z => z.tests) hH (i := 2) rfl hx83 hl87 (fun h => El_level_LevelV_1 h) h110
            obtain ⟨hq123, hH⟩ := gf_level_Level_open (hH.front (i := 1) rfl)
            replace hv122 : y119.tests.v = v109 := hv122
            rw [hv122] at hH
            replace hH : Hp B A w114 (obS (α := level_Test) 51 v109 x83.tests :: obS (α := level_Target) 56 y119.targets.v x83.targets :: obS (α := level_LevelV) 46 v_p1 ys118 :: obYX gf_level_Level ys118 p.levels (Int.toNat (w64 ((p.levels.length : Int) - 1))) :: obC b_p [v_p0, v_p1] 25 :: obS (α := Int) 3 v_p0 p.pauses :: L) := hH
            obtain ⟨x124, hx124, hm⟩ := Option.bind_eq_some_iff.1 hm
            refine V_appendH (Dw := False) (e := 51) (v := v109) (l := x83.tests) (ti := Tryz.t51) (bytes := 40) (lim := 3518437208883) hH (i := 0) rfl h115 hx124 Tryz.underlying43 Tryz_info51 rfl rfl rfl rfl (by decide) (by decide) (by decide) hB hA rfl rfl rfl ?_
            intro v125 w126 A127 hH128 ht129
            replace h102 := El.tr (Dw := False) h102 ht129
            replace h115 := Sl.tr (Dw := False) h115 ht129
            replace hK := Tr.trans (Dw := False) hK ht129
            replace hB := Nat.le_trans hB ht129.ex.size
            replace hA := ht129.new
            replace hH : Hp B A127 w126 (obS (α := level_Test) 51 v125 x124 :: obS (α := level_Target) 56 y119.targets.v x83.targets :: obS (α := level_LevelV) 46 v_p1 ys118 :: obYX gf_level_Level ys118 p.levels (Int.toNat (w64 ((p.levels.length : Int) - 1))) :: obC b_p [v_p0, v_p1] 25 :: obS (α := Int) 3 v_p0 p.pauses :: L) := hH128
            refine V_CHw (Dw := False) ?_
            refine CH_q2 (Dw := False) rfl ?_
            refine VQ_y (fun w' hw' => Y_nilCheck rfl) rfl rfl rfl ?_
            refine VQ_CH (Dw := False) ?_
            refine CH_q2 (Dw := False) rfl ?_
            refine VQ_y (fun w' hw' => Y_fieldAddr Tryz.underlying46 rfl Tryz.sizeOf43 (by decide) rfl) rfl rfl rfl ?_
            refine VQ_CH (Dw := False) ?_
            refine CH_l1 (Dw := False) (k := 2) rfl ?_
            replace hH : Hp B A127 w126 (obYX gf_level_Level ys118 p.levels (Int.toNat (w64 ((p.levels.length : Int) - 1))) :: obS (α := level_Test) 51 v125 x124 :: obS (α := level_Target) 56 y119.targets.v x83.targets :: obS (α := level_LevelV) 46 v_p1 ys118 :: obC b_p [v_p0, v_p1] 25 :: obS (α := Int) 3 v_p0 p.pauses :: L) := Hp.front hH (i := 3) rfl
            replace hH : Hp B A127 w126 (obS (α := level_Target) 56 y119.targets.v x83.targets :: obYX gf_level_Level ys118 p.levels (Int.toNat (w64 ((p.levels.length : Int) - 1))) :: obS (α := level_Test) 51 v125 x124 :: obS (α := level_LevelV) 46 v_p1 ys118 :: obC b_p [v_p0, v_p1] 25 :: obS (α := Int) 3 v_p0 p.pauses :: L) := Hp.front hH (i := 2) rfl
            replace hH : Hp B A127 w126 (obS (α := level_Test) 51 v125 x124 :: obS (α := level_Target) 56 y119.targets.v x83.targets :: obYX gf_level_Level ys118 p.levels (Int.toNat (w64 ((p.levels.length : Int) - 1))) :: obS (α := level_LevelV) 46 v_p1 ys118 :: obC b_p [v_p0, v_p1] 25 :: obS (α := Int) 3 v_p0 p.pauses :: L) := Hp.front hH (i := 2) rfl
            replace hH : Hp B A127 w126 (obS (α := level_LevelV) 46 v_p1 ys118 :: obS (α := level_Test) 51 v125 x124 :: obS (α := level_Target) 56 y119.targets.v x83.targets :: obYX gf_level_Level ys118 p.levels (Int.toNat (w64 ((p.levels.length : Int) - 1))) :: obC b_p [v_p0, v_p1] 25 :: obS (α := Int) 3 v_p0 p.pauses :: L) := Hp.front hH (i := 3) rfl
            have h132 : (v125).oneCell' = true := by obtain ⟨_, _, e, _⟩ := Sl.form (Hp.any (α := level_Test) (e := 51) (v := v125) (l := x124) hH (i := 1) rfl); rw [e]; rfl
            obtain ⟨x133, hx133, hm⟩ := Option.bind_eq_some_iff.1 hm
            refine V_storeGS (Dw := False) (f := gf_level_Level) (e := 46) (v := v_p1) (l := p.levels) (ys := ys118) (yv := y119) (xv := x83) (yv' := { (y119 : level_LevelV) with tests := ⟨v125, h132⟩ }) (F := [obS (α := level_Test) 51 v125 x124, obS (α := level_Target) 56 y119.targets.v x83.targets]) (foff := 1) hH hl120 hl87 hx83 hy121 hx133 (fun _ h => by obtain ⟨_, _, rfl, rfl, ⟨_, _, rfl, rfl, rfl⟩⟩ := h; rw [Value.cells_one h132]; exact ⟨[_], _, rfl, rfl, ⟨[_], _, rfl, rfl, rfl⟩⟩) Tryz.sizeOf43 (by rw [← Array.length_toList, Value.cells_one h132]; rfl) (by intro u hu; rw [Value.cells_one h132] at hu; simp at hu; subst hu; exact h132) (by decide) hB hA (fun h => gf_level_Level_pack hq123 h) (congrArg (fun z => some (Value.pointer (some ⟨_, z, none⟩))) (by simp [Nat.add_assoc])) rfl ?_
            intro w134 hH135 ht136
            replace h102 := El.tr (Dw := False) h102 ht136
            replace h115 := Sl.tr (Dw := False) h115 ht136
            replace hK := Tr.trans (Dw := False) hK ht136
            replace hB := Nat.le_trans hB ht136.ex.size
            replace hA := ht136.new
            replace hH : Hp B A127 w134 (obGS gf_level_Level 46 v_p1 x133 :: obC b_p [v_p0, v_p1] 25 :: obS (α := Int) 3 v_p0 p.pauses :: L) := hH135
            refine V_CHw (Dw := False) ?_
            refine CH_tail (Dw := False) ?_
            show V _ _ _ _ [] _ _
            refine V_to (fun _ _ => rfl) ?_
            refine C_seq ?_
            obtain ⟨x137, hx137, hm⟩ := Option.bind_eq_some_iff.1 hm
            have h138 := Hp.elGS (f := gf_level_Level) (e := 46) (v := v_p1) (l := x133) hH (i := 0) rfl hx137 hl87
            refine C_region ?_
            refine V_y (Y_move rfl) rfl rfl rfl ?_
            refine V_y (Y_move rfl) rfl rfl rfl ?_
            refine V_cut 7 (fun _ : Unit => [(121, .bool (x93.2 && ((x137.targets.length : Int) == 0)))]) (fun _ w' => w134 = w') ?_ ?_
            · simp only [List.take, List.drop]
              rcases Bool.eq_false_or_eq_true (x93.2) with hc139 | hc139
              · refine V_ge rfl rfl rfl hc139 ?_
                refine V_y (Y_move rfl) rfl rfl rfl ?_
                refine V_ge rfl rfl rfl hc139 ?_
                refine V_y (Y_nilCheck rfl) rfl rfl rfl ?_
                refine V_ge rfl rfl rfl hc139 ?_
                have h141 := El_level_Level_2 h138
                refine V_y (Y_fieldAddr Tryz.underlying46 rfl Tryz.sizeOf44 (by decide) rfl) rfl rfl rfl ?_
                refine V_ge rfl rfl rfl hc139 ?_
                obtain ⟨v142, h143, h144⟩ := El.list h141
                refine V_y (Y_load h143 Tryz.isAgg44 rfl) rfl rfl rfl ?_
                refine V_ge rfl rfl rfl hc139 ?_
                refine V_y (Y_lenSl h144 rfl Tryz.underlying44 rfl) rfl rfl rfl ?_
                refine V_ge rfl rfl rfl hc139 ?_
                refine V_y (Y_eql rfl rfl) rfl rfl rfl ?_
                refine V_y (Y_pick_te rfl hc139 rfl) rfl rfl rfl ?_
                exact V_end fun a ha => ⟨(), ha.sub ⟨(by rw [hc139]; rfl), trivial⟩, rfl⟩
              · refine V_gn rfl rfl rfl hc139 rfl rfl rfl ?_
                refine V_gn rfl rfl rfl hc139 rfl rfl rfl ?_
                refine V_gn rfl rfl rfl hc139 rfl rfl rfl ?_
                refine V_gn rfl rfl rfl hc139 rfl rfl rfl ?_
                refine V_gn rfl rfl rfl hc139 rfl rfl rfl ?_
                refine V_gn rfl rfl rfl hc139 rfl rfl rfl ?_
                refine V_y (Y_pick_fe rfl hc139 rfl) rfl rfl rfl ?_
                exact V_end fun a ha => ⟨(), ha.sub ⟨(by rw [hc139]; rfl), trivial⟩, rfl⟩
            simp only [List.take, List.drop]
            rintro _ _ rfl
            refine V_y (Y_assign rfl) rfl rfl rfl ?_
            refine V_to (fun _ _ => rfl) ?_
            obtain rfl := Option.some.inj hm
            replace hH : Hp B A127 w134 (obS (α := Int) 3 v_p0 p.pauses :: obGS gf_level_Level 46 v_p1 x133 :: obC b_p [v_p0, v_p1] 25 :: L) := Hp.front hH (i := 2) rfl
            replace hH : Hp B A127 w134 (obC b_p [v_p0, v_p1] 25 :: obS (α := Int) 3 v_p0 p.pauses :: obGS gf_level_Level 46 v_p1 x133 :: L) := Hp.front hH (i := 2) rfl
            refine C_ret ?_
            try simp only [↓inBlock_ret, ↓then_ret]
            exact retQ rfl (Res.one Tryz.results8 rfl) ⟨v_p0, v_p1, A127, rfl, hH, hK⟩
          · rw [if_neg (nt hc92)] at hm
            refine C_skip_to (fun _ _ => rfl) ?_
            refine C_seq ?_
            refine C_region_ch (Dw := False) A 6 [(1, 1), (1, 2), (1, 3), (2, 0), (2, 4), (1, 5)] Tryz_mixed (by kernel_rfl) (fun w145 hk146 => ?_)
            have ht147 := Kp.tr (Dw := False) hk146 hA hB
            replace hH := Hp.kp (Dw := False) hH hk146
            replace h7 := Sl.tr (Dw := False) h7 ht147
            replace h86 := El.kp (Dw := False) h86 hk146
            replace hK := Tr.trans (Dw := False) hK ht147
            replace hB := Nat.le_trans hB ht147.ex.size
            replace hA := ht147.new
            refine CH_q2 (Dw := False) rfl ?_
            refine VQ_y (fun w' hw' => Y_move rfl) rfl rfl rfl ?_
            refine VQ_CH (Dw := False) ?_
            refine CH_q2 (Dw := False) rfl ?_
            refine VQ_indexAddr h7 hx12 Tryz.underlying35 Tryz.sizeOf9 rfl rfl rfl ?_
            intro b148 o149 h150
            refine VQ_CH (Dw := False) ?_
            refine CH_q2 (Dw := False) rfl ?_
            refine VQ_y (fun w' hw' => Y_load (El.str (El.keep h150 (XA.ex hw'))) Tryz.isAgg9 rfl) rfl rfl rfl ?_
            refine VQ_CH (Dw := False) ?_
            refine CH_l1 (Dw := False) (k := 0) rfl ?_
            obtain ⟨x151, hx151, hm⟩ := Option.bind_eq_some_iff.1 hm
            refine V_call Tryz.call55 rfl rfl rfl rfl (level_targetWords_c (Dw := False) w145 hA hx151) ?_
            rintro v152 w154 ⟨_, rfl, h153, hk155⟩
            obtain ⟨A156, ht157, hH158⟩ := Hp.addOwnd (Dw := False) hH hB hA hk155 h153
            replace h7 := Sl.tr (Dw := False) h7 ht157
            replace h150 := El.tr (Dw := False) h150 ht157
            replace hK := Tr.trans (Dw := False) hK ht157
            replace hB := Nat.le_trans hB ht157.ex.size
            replace hA := ht157.new
            replace hH : Hp B A156 w154 (obS (α := ByteArray) 9 v152 x151 :: obC b_p [v_p0, v_p1] 25 :: obS (α := Int) 3 v_p0 p.pauses :: obGS gf_level_Level 46 v_p1 p.levels :: L) := hH158
            refine V_CH (Dw := False) (hk155) ?_
            refine CH_l1 (Dw := False) (k := 0) rfl ?_
            obtain ⟨x159, hx159, hm⟩ := Option.bind_eq_some_iff.1 hm
            refine V_call Tryz.call17 rfl rfl rfl rfl (slices_Index_Lstring_string_c w154 x151 v152 (Hp.any (α := ByteArray) (e := 9) (v := v152) (l := x151) hH (i := 0) rfl) x12 hx159) ?_
            rintro _ _ ⟨rfl, rfl⟩
            refine V_CH (Dw := False) (Kp.refl (Dw := False) _) ?_
            refine CH_q2 (Dw := False) rfl ?_
            refine VQ_y (fun w' hw' => Y_assign rfl) rfl rfl rfl ?_
            refine VQ_CH (Dw := False) ?_
            refine CH_tail (Dw := False) ?_
            show V _ _ _ _ [] _ _
            refine V_to (fun _ _ => rfl) ?_
            refine C_seq ?_
            refine C_region ?_
            refine V_y (Y_move rfl) rfl rfl rfl ?_
            obtain ⟨x160, hx160, hm⟩ := Option.bind_eq_some_iff.1 hm
            obtain ⟨v161, h162, h162y⟩ := sliceL_val hx160 h7
            refine V_y (Y_sliceLL h162y Tryz.underlying35 Tryz.sizeOf9 rfl rfl) rfl rfl rfl ?_
            obtain ⟨x163, hx163, hm⟩ := Option.bind_eq_some_iff.1 hm
            refine V_call Tryz.call52 rfl rfl rfl rfl (level_numbers_c w154 hA (Fz.tr (Dw := False) hT hK) x160 v161 h162 18 hx163) ?_
            rintro _ w166 ⟨v164, rfl, h165, hk167⟩
            obtain ⟨A168, ht169, hH170⟩ := Hp.addOwnd (Dw := False) hH hB hA hk167 h165
            replace h7 := Sl.tr (Dw := False) h7 ht169
            replace h162 := Sl.tr (Dw := False) h162 ht169
            replace hK := Tr.trans (Dw := False) hK ht169
            replace hB := Nat.le_trans hB ht169.ex.size
            replace hA := ht169.new
            replace hH : Hp B A168 w166 (obS (α := Int) 3 v164 x163.1 :: obS (α := ByteArray) 9 v152 x151 :: obC b_p [v_p0, v_p1] 25 :: obS (α := Int) 3 v_p0 p.pauses :: obGS gf_level_Level 46 v_p1 p.levels :: L) := hH170
            refine V_y (Y_move rfl) rfl rfl rfl ?_
            refine V_y (Y_extract rfl rfl) rfl rfl rfl ?_
            refine V_y (Y_extract rfl rfl) rfl rfl rfl ?_
            refine V_y (Y_assign rfl) rfl rfl rfl ?_
            refine V_y (Y_assign rfl) rfl rfl rfl ?_
            refine V_to (fun _ _ => rfl) ?_
            refine C_seq ?_
            refine C_seq ?_
            refine C_region ?_
            refine V_y (Y_move rfl) rfl rfl rfl ?_
            refine V_y (Y_lss rfl rfl) rfl rfl rfl ?_
            refine V_y (Y_move rfl) rfl rfl rfl ?_
            refine V_cut 3 (fun _ : Unit => [(10, .pointer (some ⟨b84, o85, none⟩)), (15, .int .i64 x159), (16, v164), (138, .bool ((decide (x159 < 0)) || (!x163.2)))]) (fun _ w' => w166 = w') ?_ ?_
            · simp only [List.take, List.drop]
              rcases Bool.eq_false_or_eq_true (decide (x159 < 0)) with hc171 | hc171
              · refine V_gn rfl rfl rfl hc171 rfl rfl rfl ?_
                refine V_gn rfl rfl rfl hc171 rfl rfl rfl ?_
                refine V_y (Y_pick_te rfl hc171 rfl) rfl rfl rfl ?_
                exact V_end fun a ha => ⟨(), ha.sub ⟨rfl, rfl, rfl, (by rw [hc171]; rfl), trivial⟩, rfl⟩
              · refine V_ge rfl rfl rfl hc171 ?_
                refine V_y (Y_move rfl) rfl rfl rfl ?_
                refine V_ge rfl rfl rfl hc171 ?_
                refine V_y (Y_not rfl) rfl rfl rfl ?_
                refine V_y (Y_pick_fe rfl hc171 rfl) rfl rfl rfl ?_
                exact V_end fun a ha => ⟨(), ha.sub ⟨rfl, rfl, rfl, (by rw [hc171]; rfl), trivial⟩, rfl⟩
            simp only [List.take, List.drop]
            rintro _ _ rfl
            refine V_y (Y_move rfl) rfl rfl rfl ?_
            refine V_cut 4 (fun _ : Unit => [(10, .pointer (some ⟨b84, o85, none⟩)), (15, .int .i64 x159), (16, v164), (143, .bool (((decide (x159 < 0)) || (!x163.2)) || ((x163.1.length : Int) != 2)))]) (fun _ w' => w166 = w') ?_ ?_
            · simp only [List.take, List.drop]
              rcases Bool.eq_false_or_eq_true (((decide (x159 < 0)) || (!x163.2))) with hc173 | hc173
              · refine V_gn rfl rfl rfl hc173 rfl rfl rfl ?_
                refine V_gn rfl rfl rfl hc173 rfl rfl rfl ?_
                refine V_gn rfl rfl rfl hc173 rfl rfl rfl ?_
                refine V_y (Y_pick_te rfl hc173 rfl) rfl rfl rfl ?_
                exact V_end fun a ha => ⟨(), ha.sub ⟨rfl, rfl, rfl, (by rw [hc173]; rfl), trivial⟩, rfl⟩
              · refine V_ge rfl rfl rfl hc173 ?_
                refine V_y (Y_move rfl) rfl rfl rfl ?_
                refine V_ge rfl rfl rfl hc173 ?_
                refine V_y (Y_lenSl (Hp.any (α := Int) (e := 3) (v := v164) (l := x163.1) hH (i := 0) rfl) rfl Tryz.underlying22 rfl) rfl rfl rfl ?_
                refine V_ge rfl rfl rfl hc173 ?_
                refine V_y (Y_neq rfl rfl) rfl rfl rfl ?_
                refine V_y (Y_pick_fe rfl hc173 rfl) rfl rfl rfl ?_
                exact V_end fun a ha => ⟨(), ha.sub ⟨rfl, rfl, rfl, (by rw [hc173]; rfl), trivial⟩, rfl⟩
            simp only [List.take, List.drop]
            rintro _ _ rfl
            refine V_to (fun _ _ => rfl) ?_
            refine C_cond rfl (fun hc175 => ?_) (fun hc175 => ?_)
            · rw [if_pos hc175] at hm
              refine C_seq ?_
              refine C_region ?_
              refine V_y (Y_assign rfl) rfl rfl rfl ?_
              refine V_to (fun _ _ => rfl) ?_
              obtain rfl := Option.some.inj hm
              replace hH : Hp B A168 w166 (obGS gf_level_Level 46 v_p1 p.levels :: obS (α := Int) 3 v164 x163.1 :: obS (α := ByteArray) 9 v152 x151 :: obC b_p [v_p0, v_p1] 25 :: obS (α := Int) 3 v_p0 p.pauses :: L) := Hp.front hH (i := 4) rfl
              replace hH : Hp B A168 w166 (obS (α := Int) 3 v_p0 p.pauses :: obGS gf_level_Level 46 v_p1 p.levels :: obS (α := Int) 3 v164 x163.1 :: obS (α := ByteArray) 9 v152 x151 :: obC b_p [v_p0, v_p1] 25 :: L) := Hp.front hH (i := 4) rfl
              replace hH : Hp B A168 w166 (obC b_p [v_p0, v_p1] 25 :: obS (α := Int) 3 v_p0 p.pauses :: obGS gf_level_Level 46 v_p1 p.levels :: obS (α := Int) 3 v164 x163.1 :: obS (α := ByteArray) 9 v152 x151 :: L) := Hp.front hH (i := 4) rfl
              replace hH : Hp B A168 w166 (obC b_p [v_p0, v_p1] 25 :: obS (α := Int) 3 v_p0 p.pauses :: obGS gf_level_Level 46 v_p1 p.levels :: obS (α := ByteArray) 9 v152 x151 :: L) := Hp.drop hH (i := 3) rfl
              replace hH : Hp B A168 w166 (obC b_p [v_p0, v_p1] 25 :: obS (α := Int) 3 v_p0 p.pauses :: obGS gf_level_Level 46 v_p1 p.levels :: L) := Hp.drop hH (i := 3) rfl
              refine C_ret ?_
              try simp only [↓inBlock_ret, ↓then_ret]
              exact retQ rfl (Res.one Tryz.results8 rfl) ⟨v_p0, v_p1, A168, rfl, hH, hK⟩
            · rw [if_neg (nt hc175)] at hm
              refine C_skip_to (fun _ _ => rfl) ?_
              refine C_seq ?_
              refine C_region_ch (Dw := False) A168 19 [(1, 0), (1, 1), (1, 2), (1, 3), (0, 4), (1, 5), (1, 6), (1, 7), (0, 8), (0, 9), (1, 10), (0, 11), (0, 12), (1, 13), (2, 14), (4, 15), (1, 16), (1, 17), (4, 18)] Tryz_mixed (by kernel_rfl) (fun w176 hk177 => ?_)
              have ht178 := Kp.tr (Dw := False) hk177 hA hB
              replace hH := Hp.kp (Dw := False) hH hk177
              replace hK := Tr.trans (Dw := False) hK ht178
              replace hB := Nat.le_trans hB ht178.ex.size
              replace hA := ht178.new
              refine CH_q2 (Dw := False) rfl ?_
              refine VQ_y (fun w' hw' => Y_move rfl) rfl rfl rfl ?_
              refine VQ_CH (Dw := False) ?_
              refine CH_q2 (Dw := False) rfl ?_
              refine VQ_y (fun w' hw' => Y_move rfl) rfl rfl rfl ?_
              refine VQ_CH (Dw := False) ?_
              refine CH_q2 (Dw := False) rfl ?_
              refine VQ_y (fun w' hw' => Y_nilCheck rfl) rfl rfl rfl ?_
              refine VQ_CH (Dw := False) ?_
              refine CH_q2 (Dw := False) rfl ?_
              have h179 := Hp.elGS (f := gf_level_Level) (e := 46) (v := v_p1) (l := p.levels) hH (i := 4) rfl hx83 hl87
              have h180 := El_level_Level_2 h179
              refine VQ_y (fun w' hw' => Y_fieldAddr Tryz.underlying46 rfl Tryz.sizeOf44 (by decide) rfl) rfl rfl rfl ?_
              refine VQ_CH (Dw := False) ?_
              refine CH_q1 (Dw := False) rfl ?_
              obtain ⟨v181, h182, h183⟩ := El.list h180
              refine VQ_y (fun w' hw' => Y_load ((World.cell?_of_block (hw'.block _ (World.block_lt_of_cell? _ _ h182))).trans h182) Tryz.isAgg44 rfl) rfl rfl rfl ?_
              refine VQ_CH (Dw := False) ?_
              refine CH_q2 (Dw := False) rfl ?_
              refine VQ_y (fun w' hw' => Y_move rfl) rfl rfl rfl ?_
              refine VQ_CH (Dw := False) ?_
              refine CH_q2 (Dw := False) rfl ?_
              refine VQ_y (fun w' hw' => Y_addI rfl rfl) rfl rfl rfl ?_
              refine VQ_CH (Dw := False) ?_
              refine CH_q2 (Dw := False) rfl ?_
              refine VQ_y (fun w' hw' => Y_move rfl) rfl rfl rfl ?_
              refine VQ_CH (Dw := False) ?_
              refine CH_q1 (Dw := False) rfl ?_
              obtain ⟨x184, hx184, hm⟩ := Option.bind_eq_some_iff.1 hm
              refine VQ_indexAddrH (α := Int) (e := 3) (v := v164) (l := x163.1) hH (i := 0) rfl hx184 Tryz.underlying22 Tryz.sizeOf3 rfl rfl rfl ?_
              intro b185 o186 h187 hl188
              refine VQ_CH (Dw := False) ?_
              refine CH_q1 (Dw := False) rfl ?_
              refine VQ_y (fun w' hw' => Y_load (El.int (El.kp (Dw := False) h187 hw')) Tryz.isAgg3 rfl) rfl rfl rfl ?_
              refine VQ_CH (Dw := False) ?_
              refine CH_q2 (Dw := False) rfl ?_
              refine VQ_y (fun w' hw' => Y_move rfl) rfl rfl rfl ?_
              refine VQ_CH (Dw := False) ?_
              refine CH_q1 (Dw := False) rfl ?_
              obtain ⟨x189, hx189, hm⟩ := Option.bind_eq_some_iff.1 hm
              refine VQ_indexAddrH (α := Int) (e := 3) (v := v164) (l := x163.1) hH (i := 0) rfl hx189 Tryz.underlying22 Tryz.sizeOf3 rfl rfl rfl ?_
              intro b190 o191 h192 hl193
              refine VQ_CH (Dw := False) ?_
              refine CH_q1 (Dw := False) rfl ?_
              refine VQ_y (fun w' hw' => Y_load (El.int (El.kp (Dw := False) h192 hw')) Tryz.isAgg3 rfl) rfl rfl rfl ?_
              refine VQ_CH (Dw := False) ?_
              refine CH_q2 (Dw := False) rfl ?_
              refine VQ_y (fun w' hw' => Y_build Tryz.underlying56 Tryz.zeroValue56 (Tryz_places56 _ Tryz.underlying56) rfl (by with_unfolding_all rfl)) rfl rfl rfl ?_
              refine VQ_CH (Dw := False) ?_
              refine CH_l1 (Dw := False) (k := 0) rfl ?_
              refine V_buildSlice (Dw := False) (cells := #[.int .i64 (w64 (1 + x159)), .int .i64 x184, .int .i64 x189]) (l := ([(⟨w64 (1 + x159), x184, x189⟩ : level_Target)] : List level_Target)) (len := 1) Tryz.underlying44 Tryz.sizeOf56 Tryz.zeroValue56 rfl (by generalize (w64 (1 + x159) : Int) = z198; kernel_rfl) (show (1 * 3 : Nat) ≠ 0 by decide) (show (1 * 3 : Nat) ≤ 2 ^ 24 by decide) hA ⟨[.int .i64 (w64 (1 + x159)), .int .i64 x184, .int .i64 x189], _, rfl, ⟨[.int .i64 (w64 (1 + x159))], _, rfl, rfl, ⟨[.int .i64 x184], _, rfl, rfl, rfl⟩⟩, rfl⟩ rfl rfl ?_
              intro v194 w195 hk197 h196
              have ht199 := Kp.tr (Dw := False) hk197 hA hB
              replace hH := Hp.kp (Dw := False) hH hk197
              replace h179 := El.kp (Dw := False) h179 hk197
              replace h180 := El.kp (Dw := False) h180 hk197
              replace h183 := Sl.kp (Dw := False) h183 hk197
              replace h182 := cell_kp (Dw := False) h182 hk197
              replace h187 := El.kp (Dw := False) h187 hk197
              replace h192 := El.kp (Dw := False) h192 hk197
              replace hK := Tr.trans (Dw := False) hK ht199
              replace hB := Nat.le_trans hB ht199.ex.size
              replace hA := ht199.new
              refine V_CH (Dw := False) (hk197) ?_
              refine CH_l1 (Dw := False) (k := 2) rfl ?_
              obtain ⟨ys200, y201, hl202, hy203, hv204, hH⟩ := Hp.gsAt (f := gf_level_Level) (e := 46) (v := v_p1) (l := p.levels) (p := fun z => z.targets) hH (i := 4) rfl hx83 hl87 (fun h => El_level_LevelV_2 h) h182
              obtain ⟨hq205, hH⟩ := gf_level_Level_open (hH.front (i := 1) rfl)
              replace hv204 : y201.targets.v = v181 := hv204
              rw [hv204] at hH
              replace hH : Hp B A168 w195 (obS (α := level_Test) 51 y201.tests.v x83.tests :: obS (α := level_Target) 56 v181 x83.targets :: obS (α := level_LevelV) 46 v_p1 ys200 :: obYX gf_level_Level ys200 p.levels (Int.toNat (w64 ((p.levels.length : Int) - 1))) :: obS (α := Int) 3 v164 x163.1 :: obS (α := ByteArray) 9 v152 x151 :: obC b_p [v_p0, v_p1] 25 :: obS (α := Int) 3 v_p0 p.pauses :: L) := hH
              obtain ⟨x206, hx206, hm⟩ := Option.bind_eq_some_iff.1 hm
              refine V_appendH (Dw := False) (e := 56) (v := v181) (l := x83.targets) (ti := Tryz.t56) (bytes := 24) (lim := 5864062014805) hH (i := 1) rfl h196 hx206 Tryz.underlying44 Tryz_info56 rfl rfl rfl rfl (by decide) (by decide) (by decide) hB hA rfl rfl rfl ?_
              intro v207 w208 A209 hH210 ht211
              replace h196 := Sl.tr (Dw := False) h196 ht211
              replace hK := Tr.trans (Dw := False) hK ht211
              replace hB := Nat.le_trans hB ht211.ex.size
              replace hA := ht211.new
              replace hH : Hp B A209 w208 (obS (α := level_Test) 51 y201.tests.v x83.tests :: obS (α := level_Target) 56 v207 x206 :: obS (α := level_LevelV) 46 v_p1 ys200 :: obYX gf_level_Level ys200 p.levels (Int.toNat (w64 ((p.levels.length : Int) - 1))) :: obS (α := Int) 3 v164 x163.1 :: obS (α := ByteArray) 9 v152 x151 :: obC b_p [v_p0, v_p1] 25 :: obS (α := Int) 3 v_p0 p.pauses :: L) := hH210
              refine V_CHw (Dw := False) ?_
              refine CH_q2 (Dw := False) rfl ?_
              refine VQ_y (fun w' hw' => Y_nilCheck rfl) rfl rfl rfl ?_
              refine VQ_CH (Dw := False) ?_
              refine CH_q2 (Dw := False) rfl ?_
              refine VQ_y (fun w' hw' => Y_fieldAddr Tryz.underlying46 rfl Tryz.sizeOf44 (by decide) rfl) rfl rfl rfl ?_
              refine VQ_CH (Dw := False) ?_
              refine CH_l1 (Dw := False) (k := 2) rfl ?_
              replace hH : Hp B A209 w208 (obYX gf_level_Level ys200 p.levels (Int.toNat (w64 ((p.levels.length : Int) - 1))) :: obS (α := level_Test) 51 y201.tests.v x83.tests :: obS (α := level_Target) 56 v207 x206 :: obS (α := level_LevelV) 46 v_p1 ys200 :: obS (α := Int) 3 v164 x163.1 :: obS (α := ByteArray) 9 v152 x151 :: obC b_p [v_p0, v_p1] 25 :: obS (α := Int) 3 v_p0 p.pauses :: L) := Hp.front hH (i := 3) rfl
              replace hH : Hp B A209 w208 (obS (α := level_Target) 56 v207 x206 :: obYX gf_level_Level ys200 p.levels (Int.toNat (w64 ((p.levels.length : Int) - 1))) :: obS (α := level_Test) 51 y201.tests.v x83.tests :: obS (α := level_LevelV) 46 v_p1 ys200 :: obS (α := Int) 3 v164 x163.1 :: obS (α := ByteArray) 9 v152 x151 :: obC b_p [v_p0, v_p1] 25 :: obS (α := Int) 3 v_p0 p.pauses :: L) := Hp.front hH (i := 2) rfl
              replace hH : Hp B A209 w208 (obS (α := level_Test) 51 y201.tests.v x83.tests :: obS (α := level_Target) 56 v207 x206 :: obYX gf_level_Level ys200 p.levels (Int.toNat (w64 ((p.levels.length : Int) - 1))) :: obS (α := level_LevelV) 46 v_p1 ys200 :: obS (α := Int) 3 v164 x163.1 :: obS (α := ByteArray) 9 v152 x151 :: obC b_p [v_p0, v_p1] 25 :: obS (α := Int) 3 v_p0 p.pauses :: L) := Hp.front hH (i := 2) rfl
              replace hH : Hp B A209 w208 (obS (α := level_LevelV) 46 v_p1 ys200 :: obS (α := level_Test) 51 y201.tests.v x83.tests :: obS (α := level_Target) 56 v207 x206 :: obYX gf_level_Level ys200 p.levels (Int.toNat (w64 ((p.levels.length : Int) - 1))) :: obS (α := Int) 3 v164 x163.1 :: obS (α := ByteArray) 9 v152 x151 :: obC b_p [v_p0, v_p1] 25 :: obS (α := Int) 3 v_p0 p.pauses :: L) := Hp.front hH (i := 3) rfl
              have h214 : (v207).oneCell' = true := by obtain ⟨_, _, e, _⟩ := Sl.form (Hp.any (α := level_Target) (e := 56) (v := v207) (l := x206) hH (i := 2) rfl); rw [e]; rfl
              obtain ⟨x215, hx215, hm⟩ := Option.bind_eq_some_iff.1 hm
              refine V_storeGS (Dw := False) (f := gf_level_Level) (e := 46) (v := v_p1) (l := p.levels) (ys := ys200) (yv := y201) (xv := x83) (yv' := { (y201 : level_LevelV) with targets := ⟨v207, h214⟩ }) (F := [obS (α := level_Test) 51 y201.tests.v x83.tests, obS (α := level_Target) 56 v207 x206]) (foff := 2) hH hl202 hl87 hx83 hy203 hx215 (fun _ h => by obtain ⟨_, _, rfl, rfl, ⟨_, _, rfl, rfl, rfl⟩⟩ := h; rw [Value.cells_one h214]; exact ⟨[_], _, rfl, rfl, ⟨[_], _, rfl, rfl, rfl⟩⟩) Tryz.sizeOf44 (by rw [← Array.length_toList, Value.cells_one h214]; rfl) (by intro u hu; rw [Value.cells_one h214] at hu; simp at hu; subst hu; exact h214) (by decide) hB hA (fun h => gf_level_Level_pack hq205 h) (congrArg (fun z => some (Value.pointer (some ⟨_, z, none⟩))) (by simp [Nat.add_assoc])) rfl ?_
              intro w216 hH217 ht218
              replace h196 := Sl.tr (Dw := False) h196 ht218
              replace hK := Tr.trans (Dw := False) hK ht218
              replace hB := Nat.le_trans hB ht218.ex.size
              replace hA := ht218.new
              replace hH : Hp B A209 w216 (obGS gf_level_Level 46 v_p1 x215 :: obS (α := Int) 3 v164 x163.1 :: obS (α := ByteArray) 9 v152 x151 :: obC b_p [v_p0, v_p1] 25 :: obS (α := Int) 3 v_p0 p.pauses :: L) := hH217
              refine V_CHw (Dw := False) ?_
              refine CH_tail (Dw := False) ?_
              show V _ _ _ _ [] _ _
              refine V_to (fun _ _ => rfl) ?_
              refine C_seq ?_
              refine C_region ?_
              refine V_y (Y_assign rfl) rfl rfl rfl ?_
              refine V_to (fun _ _ => rfl) ?_
              obtain rfl := Option.some.inj hm
              replace hH : Hp B A209 w216 (obS (α := Int) 3 v_p0 p.pauses :: obGS gf_level_Level 46 v_p1 x215 :: obS (α := Int) 3 v164 x163.1 :: obS (α := ByteArray) 9 v152 x151 :: obC b_p [v_p0, v_p1] 25 :: L) := Hp.front hH (i := 4) rfl
              replace hH : Hp B A209 w216 (obC b_p [v_p0, v_p1] 25 :: obS (α := Int) 3 v_p0 p.pauses :: obGS gf_level_Level 46 v_p1 x215 :: obS (α := Int) 3 v164 x163.1 :: obS (α := ByteArray) 9 v152 x151 :: L) := Hp.front hH (i := 4) rfl
              replace hH : Hp B A209 w216 (obC b_p [v_p0, v_p1] 25 :: obS (α := Int) 3 v_p0 p.pauses :: obGS gf_level_Level 46 v_p1 x215 :: obS (α := ByteArray) 9 v152 x151 :: L) := Hp.drop hH (i := 3) rfl
              replace hH : Hp B A209 w216 (obC b_p [v_p0, v_p1] 25 :: obS (α := Int) 3 v_p0 p.pauses :: obGS gf_level_Level 46 v_p1 x215 :: L) := Hp.drop hH (i := 3) rfl
              refine C_ret ?_
              try simp only [↓inBlock_ret, ↓then_ret]
              exact retQ rfl (Res.one Tryz.results8 rfl) ⟨v_p0, v_p1, A209, rfl, hH, hK⟩

set_option maxRecDepth 4000 in
set_option maxHeartbeats 4000000 in
theorem level_within_c (w : World) (n : Int) (low : Int) (high : Int) : Ret Tryz.prog 56 #[.int .i64 n, .int .i64 low, .int .i64 high] w fun v w' => v = .bool (level_within n low high) ∧ w = w' := by
  generalize hm : level_within n low high = r
  unfold level_within at hm
  refine enter Tryz.func56 rfl Tryz.ntmps56 rfl ?_
  refine C_seq ?_
  refine C_region ?_
  refine V_y (Y_assign rfl) rfl rfl rfl ?_
  refine V_to (fun _ _ => rfl) ?_
  refine C_seq ?_
  refine C_region ?_
  refine V_y (Y_move rfl) rfl rfl rfl ?_
  refine V_y (Y_move rfl) rfl rfl rfl ?_
  refine V_y (Y_geq rfl rfl) rfl rfl rfl ?_
  refine V_y (Y_move rfl) rfl rfl rfl ?_
  refine V_cut 4 (fun _ : Unit => [(14, .bool ((decide (low ≤ n)) && (decide (n ≤ high))))]) (fun _ w' => w = w') ?_ ?_
  · simp only [List.take, List.drop]
    rcases Bool.eq_false_or_eq_true (decide (low ≤ n)) with hc1 | hc1
    · refine V_ge rfl rfl rfl hc1 ?_
      refine V_y (Y_move rfl) rfl rfl rfl ?_
      refine V_ge rfl rfl rfl hc1 ?_
      refine V_y (Y_move rfl) rfl rfl rfl ?_
      refine V_ge rfl rfl rfl hc1 ?_
      refine V_y (Y_leq rfl rfl) rfl rfl rfl ?_
      refine V_y (Y_pick_te rfl hc1 rfl) rfl rfl rfl ?_
      exact V_end fun a ha => ⟨(), ha.sub ⟨(by rw [hc1]; rfl), trivial⟩, rfl⟩
    · refine V_gn rfl rfl rfl hc1 rfl rfl rfl ?_
      refine V_gn rfl rfl rfl hc1 rfl rfl rfl ?_
      refine V_gn rfl rfl rfl hc1 rfl rfl rfl ?_
      refine V_y (Y_pick_fe rfl hc1 rfl) rfl rfl rfl ?_
      exact V_end fun a ha => ⟨(), ha.sub ⟨(by rw [hc1]; rfl), trivial⟩, rfl⟩
  simp only [List.take, List.drop]
  rintro _ _ rfl
  refine V_y (Y_assign rfl) rfl rfl rfl ?_
  refine V_to (fun _ _ => rfl) ?_
  obtain rfl := hm
  refine C_ret ?_
  try simp only [↓inBlock_ret, ↓then_ret]
  exact retQ rfl (Res.one Tryz.results56 rfl) ⟨rfl, rfl⟩

end Go.Proofs.YtcbebdcofipcpaaGreatDoor.W
