import Derived.Test.YtfbiebageicnaaaGreatDoorProg
import Derived.Test.YtfbiebageicnaaaGreatDoorGe
import Derived.Test.YtfbiebageicnaaaGreatDoorLevelClocksM
import Derived.KernelRfl
import Derived.Test.YtfbiebageicnaaaGreatDoorId
import Derived.Test.YtfbiebageicnaaaGreatDoorGu
import Derived.Shelf.Strings.SlTrimAscii
import Derived.Test.YtfbiebageicnaaaGreatDoorHa
import Derived.Test.YtfbiebageicnaaaGreatDoorGg
import Derived.Test.YtfbiebageicnaaaGreatDoorGp
import Derived.Test.YtfbiebageicnaaaGreatDoorHd
import Derived.Test.YtfbiebageicnaaaGreatDoorGv
namespace Go.Proofs.YtfbiebageicnaaaGreatDoor.W
open Go Go.RowKit Go.Pu Go.Gw Go.Proofs Go.Proofs.YtfbiebageicnaaaGreatDoor.M
set_option linter.unusedVariables false
set_option linter.unusedSimpArgs false
variable {Dw : Prop}
theorem Tryz_info44 : Tryz.prog.info? 44 = some Tryz.t44 := by kernel_rfl
theorem Tryz_info47 : Tryz.prog.info? 47 = some Tryz.t47 := by kernel_rfl
theorem Tryz_info54 : Tryz.prog.info? 54 = some Tryz.t54 := by kernel_rfl
theorem Tryz_info67 : Tryz.prog.info? 67 = some Tryz.t67 := by kernel_rfl
theorem Tryz_places38 : ∀ fs, Tryz.prog.underlying 38 = some (.struct fs) → ∀ w : World, (Array.mapM (fun (f : Field) => do pure (f.offset, ← Go.sizeOf f.type)) fs).run Tryz.prog w = .ok #[(0, 2), (2, 1), (3, 1)] w := by
 intro fs h w
 rw [Tryz.underlying38] at h
 cases h
 kernel_rfl
theorem Tryz_places47 : ∀ fs, Tryz.prog.underlying 47 = some (.struct fs) → ∀ w : World, (Array.mapM (fun (f : Field) => do pure (f.offset, ← Go.sizeOf f.type)) fs).run Tryz.prog w = .ok #[(0, 1), (1, 1), (2, 1), (3, 1), (4, 1), (5, 1), (6, 1)] w := by
 intro fs h w
 rw [Tryz.underlying47] at h
 cases h
 kernel_rfl
theorem Tryz_places49 : ∀ fs, Tryz.prog.underlying 49 = some (.struct fs) → ∀ w : World, (Array.mapM (fun (f : Field) => do pure (f.offset, ← Go.sizeOf f.type)) fs).run Tryz.prog w = .ok #[(0, 1), (1, 1), (2, 1)] w := by
 intro fs h w
 rw [Tryz.underlying49] at h
 cases h
 kernel_rfl
theorem Tryz_places51 : ∀ fs, Tryz.prog.underlying 51 = some (.struct fs) → ∀ w : World, (Array.mapM (fun (f : Field) => do pure (f.offset, ← Go.sizeOf f.type)) fs).run Tryz.prog w = .ok #[(0, 7), (7, 3), (10, 1)] w := by
 intro fs h w
 rw [Tryz.underlying51] at h
 cases h
 kernel_rfl
theorem Tryz_places56 : ∀ fs, Tryz.prog.underlying 56 = some (.struct fs) → ∀ w : World, (Array.mapM (fun (f : Field) => do pure (f.offset, ← Go.sizeOf f.type)) fs).run Tryz.prog w = .ok #[(0, 7), (7, 1), (8, 1), (9, 1)] w := by
 intro fs h w
 rw [Tryz.underlying56] at h
 cases h
 kernel_rfl
theorem Tryz_places67 : ∀ fs, Tryz.prog.underlying 67 = some (.struct fs) → ∀ w : World, (Array.mapM (fun (f : Field) => do pure (f.offset, ← Go.sizeOf f.type)) fs).run Tryz.prog w = .ok #[(0, 1), (1, 1), (2, 1)] w := by
 intro fs h w
 rw [Tryz.underlying67] at h
 cases h
 kernel_rfl
theorem Tryz_places150 : ∀ fs, Tryz.prog.underlying 150 = some (.struct fs) → ∀ w : World, (Array.mapM (fun (f : Field) => do pure (f.offset, ← Go.sizeOf f.type)) fs).run Tryz.prog w = .ok #[(0, 1), (1, 1), (2, 1)] w := by
 intro fs h w
 rw [Tryz.underlying150] at h
 cases h
 kernel_rfl
theorem Tryz_eqt49_10000 (a0 : Int) (a1 : Int) (a2 : Int) (b0 : Int) (b1 : Int) (b2 : Int) (w : World) : (Op.equalIn 10000 49 (.agg #[.int .i64 a0, .int .i64 a1, .int .i64 a2]) (.agg #[.int .i64 b0, .int .i64 b1, .int .i64 b2])).run Tryz.prog w = .ok (a0 == b0 && (a1 == b1 && (a2 == b2))) w := by
 refine (run_equalIn_struct w 9999 49 _ _ (by kernel_rfl) (by kernel_rfl)).trans ?_
 rw [show Tryz.prog.fieldsOf 49 = _ from by unfold Program.fieldsOf; rw [Tryz.underlying49]]
 cases h0 : (a0 == b0) <;> cases h1 : (a1 == b1) <;> cases h2 : (a2 == b2) <;> simp_all [Op.eqFields, part, strEq, Tryz.isAgg3, run_equalIn_int _ _ _ _ _ _ _ Tryz.underlying3]
theorem Tryz_eqg49 : Tryz.prog.eqGuardType Tryz.prog.depth 49 = false := by kernel_rfl
theorem Tryz_eqt67_10000 (a0 : Int) (a1 : Int) (a2 : Int) (b0 : Int) (b1 : Int) (b2 : Int) (w : World) : (Op.equalIn 10000 67 (.agg #[.int .i64 a0, .int .i64 a1, .int .i64 a2]) (.agg #[.int .i64 b0, .int .i64 b1, .int .i64 b2])).run Tryz.prog w = .ok (a0 == b0 && (a1 == b1 && (a2 == b2))) w := by
 refine (run_equalIn_struct w 9999 67 _ _ (by kernel_rfl) (by kernel_rfl)).trans ?_
 rw [show Tryz.prog.fieldsOf 67 = _ from by unfold Program.fieldsOf; rw [Tryz.underlying67]]
 cases h0 : (a0 == b0) <;> cases h1 : (a1 == b1) <;> cases h2 : (a2 == b2) <;> simp_all [Op.eqFields, part, strEq, Tryz.isAgg3, run_equalIn_int _ _ _ _ _ _ _ Tryz.underlying3]
theorem Tryz_eqg67 : Tryz.prog.eqGuardType Tryz.prog.depth 67 = false := by kernel_rfl
theorem Tryz_eqt150_10000 (a0 : Int) (a1 : Int) (a2 : ByteArray) (b0 : Int) (b1 : Int) (b2 : ByteArray) (w : World) : (Op.equalIn 10000 150 (.agg #[.int .i64 a0, .int .i64 a1, .string a2]) (.agg #[.int .i64 b0, .int .i64 b1, .string b2])).run Tryz.prog w = .ok (a0 == b0 && (a1 == b1 && (strEq a2 b2))) w := by
 refine (run_equalIn_struct w 9999 150 _ _ (by kernel_rfl) (by kernel_rfl)).trans ?_
 rw [show Tryz.prog.fieldsOf 150 = _ from by unfold Program.fieldsOf; rw [Tryz.underlying150]]
 cases h0 : (a0 == b0) <;> cases h1 : (a1 == b1) <;> cases h2 : (strEq a2 b2) <;> simp_all [Op.eqFields, part, strEq, Tryz.isAgg3, Tryz.isAgg9, run_equalIn_int _ _ _ _ _ _ _ Tryz.underlying3, run_equalIn_string _ _ _ _ _ Tryz.underlying9]
theorem Tryz_eqg150 : Tryz.prog.eqGuardType Tryz.prog.depth 150 = false := by kernel_rfl
theorem Tryz_mixed : Tryz.prog.follows .mixedOrders = true := by kernel_rfl
instance : GoT level_Piece := GoT.of (β := Int × Int × Int) fun x => (x.from_, x.to_, x.calendar)
instance : Flat level_Piece := ⟨fun {A w A1 w1 cs x} h => Flat.flat (α := Int × Int × Int) (x := (x.from_, x.to_, x.calendar)) (A := A) (w := w) h⟩
theorem El_level_Piece_ {A : Nat → Prop} {w : World} {b off : Nat} {x : level_Piece} (h : El A w b off x) : El (α := Int × Int × Int) A w b off (x.from_, x.to_, x.calendar) := h
theorem El_level_Piece_0 {A : Nat → Prop} {w : World} {b off : Nat} {x : level_Piece} (h : El A w b off x) : El A w b (off + 0) x.from_ := El.fst (El_level_Piece_ h)
theorem El_level_Piece_1 {A : Nat → Prop} {w : World} {b off : Nat} {x : level_Piece} (h : El A w b off x) : El A w b (off + 1) x.to_ := El.fst (El.snd (El_level_Piece_ h))
theorem El_level_Piece {A : Nat → Prop} {w : World} {b off : Nat} {x : level_Piece} (h : El A w b off x) : At w b off [.int .i64 x.from_, .int .i64 x.to_, .int .i64 x.calendar] ∧ True := by
 obtain ⟨h1, h2, cs, h3, h4⟩ := h
 obtain ⟨_, _, rfl, rfl, ⟨_, _, rfl, rfl, rfl⟩⟩ := h3
 exact ⟨h4, trivial⟩
instance : GoT level_Clock := GoT.of (β := Int × Int × Int × Int × Int × Int × (List level_Piece)) fun x => (x.kind, x.level, x.minutes, x.start, x.stop, x.end_, x.pieces)
theorem El_level_Clock_ {A : Nat → Prop} {w : World} {b off : Nat} {x : level_Clock} (h : El A w b off x) : El (α := Int × Int × Int × Int × Int × Int × (List level_Piece)) A w b off (x.kind, x.level, x.minutes, x.start, x.stop, x.end_, x.pieces) := h
theorem El_level_Clock_0 {A : Nat → Prop} {w : World} {b off : Nat} {x : level_Clock} (h : El A w b off x) : El A w b (off + 0) x.kind := El.fst (El_level_Clock_ h)
theorem El_level_Clock_1 {A : Nat → Prop} {w : World} {b off : Nat} {x : level_Clock} (h : El A w b off x) : El A w b (off + 1) x.level := El.fst (El.snd (El_level_Clock_ h))
theorem El_level_Clock_2 {A : Nat → Prop} {w : World} {b off : Nat} {x : level_Clock} (h : El A w b off x) : El A w b (off + 2) x.minutes := El.fst (El.snd (El.snd (El_level_Clock_ h)))
theorem El_level_Clock_3 {A : Nat → Prop} {w : World} {b off : Nat} {x : level_Clock} (h : El A w b off x) : El A w b (off + 3) x.start := El.fst (El.snd (El.snd (El.snd (El_level_Clock_ h))))
theorem El_level_Clock_4 {A : Nat → Prop} {w : World} {b off : Nat} {x : level_Clock} (h : El A w b off x) : El A w b (off + 4) x.stop := El.fst (El.snd (El.snd (El.snd (El.snd (El_level_Clock_ h)))))
theorem El_level_Clock_5 {A : Nat → Prop} {w : World} {b off : Nat} {x : level_Clock} (h : El A w b off x) : El A w b (off + 5) x.end_ := El.fst (El.snd (El.snd (El.snd (El.snd (El.snd (El_level_Clock_ h))))))
theorem El_level_Clock_6 {A : Nat → Prop} {w : World} {b off : Nat} {x : level_Clock} (h : El A w b off x) : El A w b (off + 6) x.pieces := El.snd (El.snd (El.snd (El.snd (El.snd (El.snd (El_level_Clock_ h))))))
theorem El_level_Clock {A : Nat → Prop} {w : World} {b off : Nat} {x : level_Clock} (h : El A w b off x) : ∃ v1, At w b off [.int .i64 x.kind, .int .i64 x.level, .int .i64 x.minutes, .int .i64 x.start, .int .i64 x.stop, .int .i64 x.end_, v1] ∧ Sl A w v1 x.pieces := by
 obtain ⟨h1, h2, cs, h3, h4⟩ := h
 obtain ⟨_, _, rfl, rfl, ⟨_, _, rfl, rfl, ⟨_, _, rfl, rfl, ⟨_, _, rfl, rfl, ⟨_, _, rfl, rfl, ⟨_, _, rfl, rfl, ⟨u1, rfl, g1⟩⟩⟩⟩⟩⟩⟩ := h3
 exact ⟨u1, h4, g1⟩
instance : GoT level_Target := GoT.of (β := Int × Int × Int) fun x => (x.kind, x.minutes, x.calendar)
instance : Flat level_Target := ⟨fun {A w A1 w1 cs x} h => Flat.flat (α := Int × Int × Int) (x := (x.kind, x.minutes, x.calendar)) (A := A) (w := w) h⟩
theorem El_level_Target_ {A : Nat → Prop} {w : World} {b off : Nat} {x : level_Target} (h : El A w b off x) : El (α := Int × Int × Int) A w b off (x.kind, x.minutes, x.calendar) := h
theorem El_level_Target_0 {A : Nat → Prop} {w : World} {b off : Nat} {x : level_Target} (h : El A w b off x) : El A w b (off + 0) x.kind := El.fst (El_level_Target_ h)
theorem El_level_Target_1 {A : Nat → Prop} {w : World} {b off : Nat} {x : level_Target} (h : El A w b off x) : El A w b (off + 1) x.minutes := El.fst (El.snd (El_level_Target_ h))
theorem El_level_Target_2 {A : Nat → Prop} {w : World} {b off : Nat} {x : level_Target} (h : El A w b off x) : El A w b (off + 2) x.calendar := El.snd (El.snd (El_level_Target_ h))
theorem El_level_Target {A : Nat → Prop} {w : World} {b off : Nat} {x : level_Target} (h : El A w b off x) : At w b off [.int .i64 x.kind, .int .i64 x.minutes, .int .i64 x.calendar] ∧ True := by
 obtain ⟨h1, h2, cs, h3, h4⟩ := h
 obtain ⟨_, _, rfl, rfl, ⟨_, _, rfl, rfl, rfl⟩⟩ := h3
 exact ⟨h4, trivial⟩
instance : GoT level_running := GoT.of (β := level_Clock × level_Target × Bool) fun x => (x.clock, x.target, x.goes)
theorem El_level_running_ {A : Nat → Prop} {w : World} {b off : Nat} {x : level_running} (h : El A w b off x) : El (α := level_Clock × level_Target × Bool) A w b off (x.clock, x.target, x.goes) := h
theorem El_level_running_0 {A : Nat → Prop} {w : World} {b off : Nat} {x : level_running} (h : El A w b off x) : El A w b (off + 0) x.clock := El.fst (El_level_running_ h)
instance : GoT portref2_ticking := GoT.of (β := level_Clock × Int × Int × Int) fun x => (x.c, x.now, x.at_, x.cal)
theorem El_portref2_ticking_ {A : Nat → Prop} {w : World} {b off : Nat} {x : portref2_ticking} (h : El A w b off x) : El (α := level_Clock × Int × Int × Int) A w b off (x.c, x.now, x.at_, x.cal) := h
theorem El_portref2_ticking_0 {A : Nat → Prop} {w : World} {b off : Nat} {x : portref2_ticking} (h : El A w b off x) : El A w b (off + 0) x.c := El.fst (El_portref2_ticking_ h)
instance : GoT api_Value := GoT.of (β := Int × Int × ByteArray) fun x => (x.kind, x.int, x.text)
instance : Flat api_Value := ⟨fun {A w A1 w1 cs x} h => Flat.flat (α := Int × Int × ByteArray) (x := (x.kind, x.int, x.text)) (A := A) (w := w) h⟩
theorem El_api_Value_ {A : Nat → Prop} {w : World} {b off : Nat} {x : api_Value} (h : El A w b off x) : El (α := Int × Int × ByteArray) A w b off (x.kind, x.int, x.text) := h
theorem El_api_Value_0 {A : Nat → Prop} {w : World} {b off : Nat} {x : api_Value} (h : El A w b off x) : El A w b (off + 0) x.kind := El.fst (El_api_Value_ h)
theorem El_api_Value_1 {A : Nat → Prop} {w : World} {b off : Nat} {x : api_Value} (h : El A w b off x) : El A w b (off + 1) x.int := El.fst (El.snd (El_api_Value_ h))
theorem El_api_Value_2 {A : Nat → Prop} {w : World} {b off : Nat} {x : api_Value} (h : El A w b off x) : El A w b (off + 2) x.text := El.snd (El.snd (El_api_Value_ h))
theorem El_api_Value {A : Nat → Prop} {w : World} {b off : Nat} {x : api_Value} (h : El A w b off x) : At w b off [.int .i64 x.kind, .int .i64 x.int, .string x.text] ∧ True := by
 obtain ⟨h1, h2, cs, h3, h4⟩ := h
 obtain ⟨_, _, rfl, rfl, ⟨_, _, rfl, rfl, rfl⟩⟩ := h3
 exact ⟨h4, trivial⟩
instance : GoT level_Test := GoT.of (β := Int × api_Value) fun x => (x.field, x.value)
instance : Flat level_Test := ⟨fun {A w A1 w1 cs x} h => Flat.flat (α := Int × api_Value) (x := (x.field, x.value)) (A := A) (w := w) h⟩
theorem El_level_Test_ {A : Nat → Prop} {w : World} {b off : Nat} {x : level_Test} (h : El A w b off x) : El (α := Int × api_Value) A w b off (x.field, x.value) := h
theorem El_level_Test_0 {A : Nat → Prop} {w : World} {b off : Nat} {x : level_Test} (h : El A w b off x) : El A w b (off + 0) x.field := El.fst (El_level_Test_ h)
theorem El_level_Test_1 {A : Nat → Prop} {w : World} {b off : Nat} {x : level_Test} (h : El A w b off x) : El A w b (off + 1) x.value := El.snd (El_level_Test_ h)
theorem El_level_Test {A : Nat → Prop} {w : World} {b off : Nat} {x : level_Test} (h : El A w b off x) : At w b off [.int .i64 x.field, .int .i64 x.value.kind, .int .i64 x.value.int, .string x.value.text] ∧ True := by
 obtain ⟨h1, h2, cs, h3, h4⟩ := h
 obtain ⟨_, _, rfl, rfl, ⟨_, _, rfl, rfl, ⟨_, _, rfl, rfl, rfl⟩⟩⟩ := h3
 exact ⟨h4, trivial⟩
instance : GoT level_Level := GoT.of (β := ByteArray × (List level_Test) × (List level_Target)) fun x => (x.name, x.tests, x.targets)
theorem El_level_Level_ {A : Nat → Prop} {w : World} {b off : Nat} {x : level_Level} (h : El A w b off x) : El (α := ByteArray × (List level_Test) × (List level_Target)) A w b off (x.name, x.tests, x.targets) := h
theorem El_level_Level_0 {A : Nat → Prop} {w : World} {b off : Nat} {x : level_Level} (h : El A w b off x) : El A w b (off + 0) x.name := El.fst (El_level_Level_ h)
theorem El_level_Level_1 {A : Nat → Prop} {w : World} {b off : Nat} {x : level_Level} (h : El A w b off x) : El A w b (off + 1) x.tests := El.fst (El.snd (El_level_Level_ h))
theorem El_level_Level_2 {A : Nat → Prop} {w : World} {b off : Nat} {x : level_Level} (h : El A w b off x) : El A w b (off + 2) x.targets := El.snd (El.snd (El_level_Level_ h))
theorem El_level_Level {A : Nat → Prop} {w : World} {b off : Nat} {x : level_Level} (h : El A w b off x) : ∃ v1 v3, At w b off [.string x.name, v1, v3] ∧ Sl A w v1 x.tests ∧ Sl A w v3 x.targets := by
 obtain ⟨h1, h2, cs, h3, h4⟩ := h
 obtain ⟨_, _, rfl, rfl, ⟨_, _, rfl, ⟨u1, rfl, g1⟩, ⟨u2, rfl, g2⟩⟩⟩ := h3
 exact ⟨u1, u2, h4, g1, g2⟩
instance : GoT level_Policy := GoT.of (β := (List Int) × (List level_Level)) fun x => (x.pauses, x.levels)
theorem El_level_Policy_ {A : Nat → Prop} {w : World} {b off : Nat} {x : level_Policy} (h : El A w b off x) : El (α := (List Int) × (List level_Level)) A w b off (x.pauses, x.levels) := h
theorem El_level_Policy_0 {A : Nat → Prop} {w : World} {b off : Nat} {x : level_Policy} (h : El A w b off x) : El A w b (off + 0) x.pauses := El.fst (El_level_Policy_ h)
theorem El_level_Policy_1 {A : Nat → Prop} {w : World} {b off : Nat} {x : level_Policy} (h : El A w b off x) : El A w b (off + 1) x.levels := El.snd (El_level_Policy_ h)
theorem El_level_Policy {A : Nat → Prop} {w : World} {b off : Nat} {x : level_Policy} (h : El A w b off x) : ∃ v1 v3, At w b off [v1, v3] ∧ Sl A w v1 x.pauses ∧ Sl A w v3 x.levels := by
 obtain ⟨h1, h2, cs, h3, h4⟩ := h
 obtain ⟨_, _, rfl, ⟨u1, rfl, g1⟩, ⟨u2, rfl, g2⟩⟩ := h3
 exact ⟨u1, u2, h4, g1, g2⟩
instance : GoT level_keeper where
 cells := 4
 wf _ := True
 rep A w cs x := ∃ v0 v1 v2, cs = [v0, v1, .int .i64 x.level, v2] ∧ v2.oneCell' = true ∧ Sl A w v0 x.policy.pauses ∧ Sl A w v1 x.policy.levels
 len h := by obtain ⟨_, _, _, rfl, _⟩ := h; rfl
 one h u hu := by
  obtain ⟨v0, v1, v2, rfl, h2, h0, h1⟩ := h
  simp only [List.mem_cons, List.not_mem_nil, or_false] at hu
  rcases hu with rfl | rfl | rfl | rfl
  ·obtain ⟨_, _, e, _⟩ := Sl.form h0; rw [e]; rfl
  ·obtain ⟨_, _, e, _⟩ := Sl.form h1; rw [e]; rfl
  ·rfl
  ·exact h2
 keep h e := by
  obtain ⟨v0, v1, v2, rfl, h2, h0, h1⟩ := h
  exact ⟨v0, v1, v2, rfl, h2, h0.keep e, h1.keep e⟩
theorem El_level_keeper_0 {A : Nat → Prop} {w : World} {b off : Nat} {x : level_keeper} (h : El A w b off x) : El A w b (off + 0) x.policy := by
 obtain ⟨a1, a2, cs, ⟨v0, v1, v2, rfl, h2, h0, h1⟩, h4⟩ := h
 refine ⟨a1, a2, [v0, v1], ⟨[v0], _, rfl, ⟨_, rfl, h0⟩, ⟨_, rfl, h1⟩⟩, fun j u hj => h4 j u ?_⟩
 match j, hj with
 | 0, hj => exact hj
 | 1, hj => exact hj
theorem El_level_keeper_1 {A : Nat → Prop} {w : World} {b off : Nat} {x : level_keeper} (h : El A w b off x) : El A w b (off + 2) x.level := by
 obtain ⟨a1, a2, cs, ⟨v0, v1, v2, rfl, h2, h0, h1⟩, h4⟩ := h
 refine ⟨a1, a2, [.int .i64 x.level], rfl, fun j u hj => ?_⟩
 match j, hj with
 | 0, hj => have := h4 2 u hj; simpa [Nat.add_assoc] using this
instance : GoT level_Point := GoT.of (β := Int × Int × Int × Int × Int × (List api_Value)) fun x => (x.at_, x.kind, x.who, x.status, x.priority, x.values)
theorem El_level_Point_ {A : Nat → Prop} {w : World} {b off : Nat} {x : level_Point} (h : El A w b off x) : El (α := Int × Int × Int × Int × Int × (List api_Value)) A w b off (x.at_, x.kind, x.who, x.status, x.priority, x.values) := h
theorem El_level_Point_0 {A : Nat → Prop} {w : World} {b off : Nat} {x : level_Point} (h : El A w b off x) : El A w b (off + 0) x.at_ := El.fst (El_level_Point_ h)
theorem El_level_Point_1 {A : Nat → Prop} {w : World} {b off : Nat} {x : level_Point} (h : El A w b off x) : El A w b (off + 1) x.kind := El.fst (El.snd (El_level_Point_ h))
theorem El_level_Point_2 {A : Nat → Prop} {w : World} {b off : Nat} {x : level_Point} (h : El A w b off x) : El A w b (off + 2) x.who := El.fst (El.snd (El.snd (El_level_Point_ h)))
theorem El_level_Point_3 {A : Nat → Prop} {w : World} {b off : Nat} {x : level_Point} (h : El A w b off x) : El A w b (off + 3) x.status := El.fst (El.snd (El.snd (El.snd (El_level_Point_ h))))
theorem El_level_Point_4 {A : Nat → Prop} {w : World} {b off : Nat} {x : level_Point} (h : El A w b off x) : El A w b (off + 4) x.priority := El.fst (El.snd (El.snd (El.snd (El.snd (El_level_Point_ h)))))
theorem El_level_Point_5 {A : Nat → Prop} {w : World} {b off : Nat} {x : level_Point} (h : El A w b off x) : El A w b (off + 5) x.values := El.snd (El.snd (El.snd (El.snd (El.snd (El_level_Point_ h)))))
theorem El_level_Point {A : Nat → Prop} {w : World} {b off : Nat} {x : level_Point} (h : El A w b off x) : ∃ v1, At w b off [.int .i64 x.at_, .int .i64 x.kind, .int .i64 x.who, .int .i64 x.status, .int .i64 x.priority, v1] ∧ Sl A w v1 x.values := by
 obtain ⟨h1, h2, cs, h3, h4⟩ := h
 obtain ⟨_, _, rfl, rfl, ⟨_, _, rfl, rfl, ⟨_, _, rfl, rfl, ⟨_, _, rfl, rfl, ⟨_, _, rfl, rfl, ⟨u1, rfl, g1⟩⟩⟩⟩⟩⟩ := h3
 exact ⟨u1, h4, g1⟩
def Tryz_contains_lay_ren : Go.Shelf.Ren := ⟨fun | 15 => 102 | 17 => 96 | 20 => 106 | n => n, fun | 0 => 0 | 1 => 1 | 2 => 2 | 3 => 3 | 4 => 4 | 5 => 5 | 6 => 6 | 7 => 7 | 8 => 8 | 9 => 9 | 10 => 10 | 11 => 11 | 12 => 12 | 13 => 13 | 14 => 14 | 15 => 15 | 16 => 16 | 17 => 17 | 18 => 18 | 19 => 19 | 20 => 20 | 21 => 21 | 23 => 197 | 26 => 202 | 28 => 196 | 29 => 201 | 30 => 204 | 31 => 199 | 32 => 200 | 33 => 198 | 34 => 205 | 35 => 206 | 36 => 207 | 37 => 208 | 38 => 209 | 39 => 213 | 40 => 214 | 41 => 215 | 42 => 216 | 43 => 217 | 44 => 218 | 45 => 219 | 46 => 220 | 47 => 221 | 48 => 222 | 49 => 223 | 50 => 224 | 51 => 225 | 52 => 226 | 53 => 227 | 54 => 228 | 55 => 233 | n => n, fun | 0 => 0 | 1 => 1 | n => n⟩
theorem Tryz_contains_lay : Go.Proofs.LaysGw.n17 Tryz.prog Tryz_contains_lay_ren := {
 mixed := by kernel_rfl,
 f15 := Tryz.func102.trans (congrArg some (by kernel_rfl)),
 f17 := Tryz.func96.trans (congrArg some (by kernel_rfl)),
 f20 := Tryz.func106.trans (congrArg some (by kernel_rfl)),
 t0 := Tryz.underlying0,
 a0 := Tryz.isAgg0,
 z0 := Tryz.sizeOf0,
 v0 := Tryz.zeroValue0,
 i0 := by kernel_rfl,
 t3 := Tryz.underlying3,
 a3 := Tryz.isAgg3,
 z3 := Tryz.sizeOf3,
 v3 := Tryz.zeroValue3,
 i3 := by kernel_rfl,
 t4 := Tryz.underlying4,
 a4 := Tryz.isAgg4,
 z4 := Tryz.sizeOf4,
 v4 := Tryz.zeroValue4,
 i4 := by kernel_rfl,
 t9 := Tryz.underlying9,
 a9 := Tryz.isAgg9,
 z9 := Tryz.sizeOf9,
 v9 := Tryz.zeroValue9,
 i9 := by kernel_rfl,
 t21 := Tryz.underlying21,
 a21 := Tryz.isAgg21,
 z21 := Tryz.sizeOf21,
 v21 := Tryz.zeroValue21,
 i21 := by kernel_rfl,
 t23 := Tryz.underlying197,
 a23 := Tryz.isAgg197,
 z23 := Tryz.sizeOf197,
 v23 := Tryz.zeroValue197,
 i23 := by kernel_rfl }
abbrev obF_level_running (b : Nat) (x : level_running) (v : Value) : List Ob := [obC b [.int .i64 x.clock.kind, .int .i64 x.clock.level, .int .i64 x.clock.minutes, .int .i64 x.clock.start, .int .i64 x.clock.stop, .int .i64 x.clock.end_, v, .int .i64 x.target.kind, .int .i64 x.target.minutes, .int .i64 x.target.calendar, .bool x.goes] 51, obS (α := level_Piece) 67 v x.clock.pieces]
abbrev ob_level_running (b : Nat) (x : level_running) : Ob := obE (obF_level_running b x)
theorem obEl_level_running {B : Nat} {A : Nat → Prop} {w : World} {L : List Ob} {b : Nat} {x : level_running} (h : Hp B A w (ob_level_running b x :: L)) : El (fun _ => True) w b 0 x := by
 obtain ⟨v, h1⟩ := Hp.open (F := obF_level_running b x) h
 have h2 : Sl (fun _ => True) w v x.clock.pieces := Hp.any (α := level_Piece) (e := 67) (v := v) (l := x.clock.pieces) h1 (i := 1) rfl
 exact Hp.el (b := b) (x := x) h1 (i := 0) rfl ⟨[.int .i64 x.clock.kind, .int .i64 x.clock.level, .int .i64 x.clock.minutes, .int .i64 x.clock.start, .int .i64 x.clock.stop, .int .i64 x.clock.end_, v], _, rfl, ⟨[.int .i64 x.clock.kind], _, rfl, rfl, ⟨[.int .i64 x.clock.level], _, rfl, rfl, ⟨[.int .i64 x.clock.minutes], _, rfl, rfl, ⟨[.int .i64 x.clock.start], _, rfl, rfl, ⟨[.int .i64 x.clock.stop], _, rfl, rfl, ⟨[.int .i64 x.clock.end_], _, rfl, rfl, ⟨_, rfl, h2⟩⟩⟩⟩⟩⟩⟩, ⟨[.int .i64 x.target.kind, .int .i64 x.target.minutes, .int .i64 x.target.calendar], _, rfl, ⟨[.int .i64 x.target.kind], _, rfl, rfl, ⟨[.int .i64 x.target.minutes], _, rfl, rfl, rfl⟩⟩, rfl⟩⟩
abbrev obF_portref2_ticking (b : Nat) (x : portref2_ticking) (v : Value) : List Ob := [obC b [.int .i64 x.c.kind, .int .i64 x.c.level, .int .i64 x.c.minutes, .int .i64 x.c.start, .int .i64 x.c.stop, .int .i64 x.c.end_, v, .int .i64 x.now, .int .i64 x.at_, .int .i64 x.cal] 56, obS (α := level_Piece) 67 v x.c.pieces]
abbrev ob_portref2_ticking (b : Nat) (x : portref2_ticking) : Ob := obE (obF_portref2_ticking b x)
theorem obEl_portref2_ticking {B : Nat} {A : Nat → Prop} {w : World} {L : List Ob} {b : Nat} {x : portref2_ticking} (h : Hp B A w (ob_portref2_ticking b x :: L)) : El (fun _ => True) w b 0 x := by
 obtain ⟨v, h1⟩ := Hp.open (F := obF_portref2_ticking b x) h
 have h2 : Sl (fun _ => True) w v x.c.pieces := Hp.any (α := level_Piece) (e := 67) (v := v) (l := x.c.pieces) h1 (i := 1) rfl
 exact Hp.el (b := b) (x := x) h1 (i := 0) rfl ⟨[.int .i64 x.c.kind, .int .i64 x.c.level, .int .i64 x.c.minutes, .int .i64 x.c.start, .int .i64 x.c.stop, .int .i64 x.c.end_, v], _, rfl, ⟨[.int .i64 x.c.kind], _, rfl, rfl, ⟨[.int .i64 x.c.level], _, rfl, rfl, ⟨[.int .i64 x.c.minutes], _, rfl, rfl, ⟨[.int .i64 x.c.start], _, rfl, rfl, ⟨[.int .i64 x.c.stop], _, rfl, rfl, ⟨[.int .i64 x.c.end_], _, rfl, rfl, ⟨_, rfl, h2⟩⟩⟩⟩⟩⟩⟩, ⟨[.int .i64 x.now], _, rfl, rfl, ⟨[.int .i64 x.at_], _, rfl, rfl, rfl⟩⟩⟩
set_option maxRecDepth 4000 in
set_option maxHeartbeats 4000000 in
theorem level_within_c (w : World) (n : Int) (low : Int) (high : Int) : Ret Tryz.prog 52 #[.int .i64 n, .int .i64 low, .int .i64 high] w fun v w' => v = .bool (level_within n low high) ∧ w = w' := by
 generalize hm : level_within n low high = r
 unfold level_within at hm
 refine enter Tryz.func52 rfl Tryz.ntmps52 rfl ?_
 refine C_seq ?_
 refine C_region ?_
 refine V_y (Y_assign rfl) rfl rfl rfl ?_
 refine V_to (fun _ _ => rfl) ?_
 refine C_seq ?_
 refine C_region ?_
 refine V_y (Y_move rfl) rfl rfl rfl ?_
 refine V_y (Y_move rfl) rfl rfl rfl ?_
 refine V_y (Y_geq rfl rfl) rfl rfl rfl ?_
 refine V_y (Y_move rfl) rfl rfl rfl ?_
 refine V_cut 4 (fun _ : Unit => [(14, .bool ((decide (low ≤ n)) && (decide (n ≤ high))))]) (fun _ w' => w = w') ?_ ?_
 ·simp only [List.take, List.drop]
  rcases Bool.eq_false_or_eq_true (decide (low ≤ n)) with hc1 | hc1
  ·refine V_ge rfl rfl rfl hc1 ?_
   refine V_y (Y_move rfl) rfl rfl rfl ?_
   refine V_ge rfl rfl rfl hc1 ?_
   refine V_y (Y_move rfl) rfl rfl rfl ?_
   refine V_ge rfl rfl rfl hc1 ?_
   refine V_y (Y_leq rfl rfl) rfl rfl rfl ?_
   refine V_y (Y_pick_te rfl hc1 rfl) rfl rfl rfl ?_
   exact V_end fun a ha => ⟨(), ha.sub ⟨(by rw [hc1]; rfl), trivial⟩, rfl⟩
  ·refine V_gn rfl rfl rfl hc1 rfl rfl rfl ?_
   refine V_gn rfl rfl rfl hc1 rfl rfl rfl ?_
   refine V_gn rfl rfl rfl hc1 rfl rfl rfl ?_
   refine V_y (Y_pick_fe rfl hc1 rfl) rfl rfl rfl ?_
   exact V_end fun a ha => ⟨(), ha.sub ⟨(by rw [hc1]; rfl), trivial⟩, rfl⟩
 simp only [List.take, List.drop]
 rintro _ _ rfl
 refine V_y (Y_assign rfl) rfl rfl rfl ?_
 refine V_to (fun _ _ => rfl) ?_
 obtain rfl := hm
 refine C_ret ?_
 try simp only [↓inBlock_ret, ↓then_ret]
 exact retQ rfl (Res.one Tryz.results52 rfl) ⟨rfl, rfl⟩
set_option maxRecDepth 4000 in
set_option maxHeartbeats 4000000 in
theorem level_name_c (w : World) (s : ByteArray) {r : Bool} (hm : level_name s = some r) : Ret Tryz.prog 54 #[.string s] w fun v w' => v = .bool r ∧ w = w' := by
 unfold level_name at hm
 refine enter Tryz.func54 rfl Tryz.ntmps54 rfl ?_
 refine C_seq ?_
 refine C_region ?_
 refine V_y (Y_assign rfl) rfl rfl rfl ?_
 refine V_to (fun _ _ => rfl) ?_
 refine C_seq ?_
 refine C_seq ?_
 refine C_region ?_
 refine V_y (Y_move rfl) rfl rfl rfl ?_
 refine V_y (Y_lenStr rfl Tryz.underlying9 rfl) rfl rfl rfl ?_
 refine V_y (Y_move rfl) rfl rfl rfl ?_
 refine V_to (fun _ _ => rfl) ?_
 obtain ⟨o1, ho1, hm⟩ := Option.bind_eq_some_iff.1 hm
 refine C_cutG (ι := Int) (fun (s2 : Int) => [(0, .string s)]) (fun (s2 : Int) => fun w' => o1 = .fin s2 ∧ w = w') ?_ ?_
 ·refine C_block ?_
  refine C_while ho1 (fun s8 a w' => ∃ i : Unit, Has ⟨41, [], none⟩ a ([(0, .string s), (6, .int .i64 (s.size : Int)), (7, .int .i64 s8)]) ∧ w = w') (fun a ha => ⟨(), ha.sub ⟨rfl, rfl, rfl, trivial⟩, rfl⟩) ?_
  rintro K s8 a _ ⟨_, ha30, rfl⟩ K16
  refine C_of ?_ ha30
  obtain ⟨x10, h11, h12⟩ := K16
  refine C_seq ?_
  refine C_region ?_
  refine V_y (Y_lss rfl rfl) rfl rfl rfl ?_
  refine V_to (fun _ _ => rfl) ?_
  refine C_seq ?_
  refine C_cond rfl (fun hc17 => ?_) (fun hc17 => ?_)
  ·rw [if_pos hc17] at h11
   refine C_skip_to (fun _ _ => rfl) ?_
   refine C_seq ?_
   refine C_block ?_
   refine C_seq ?_
   refine C_region ?_
   refine V_y (Y_move rfl) rfl rfl rfl ?_
   refine V_y (Y_assign rfl) rfl rfl rfl ?_
   refine V_to (fun _ _ => rfl) ?_
   refine C_seq ?_
   refine C_region ?_
   refine V_y (Y_move rfl) rfl rfl rfl ?_
   refine V_y (Y_move rfl) rfl rfl rfl ?_
   obtain ⟨x18, hx18, h11⟩ := Option.bind_eq_some_iff.1 h11
   refine V_y (Y_indexS hx18 Tryz.underlying9 rfl rfl) rfl rfl rfl ?_
   refine V_y (Y_assign rfl) rfl rfl rfl ?_
   refine V_to (fun _ _ => rfl) ?_
   refine C_seq ?_
   refine C_region ?_
   refine V_y (Y_move rfl) rfl rfl rfl ?_
   refine V_y (Y_geq rfl rfl) rfl rfl rfl ?_
   refine V_y (Y_move rfl) rfl rfl rfl ?_
   refine V_cut 3 (fun _ : Unit => [(0, .string s), (4, .int .u8 (x18.toNat : Int)), (6, .int .i64 (s.size : Int)), (7, .int .i64 s8), (18, .bool ((decide ((97 : Int) ≤ (x18.toNat : Int))) && (decide ((x18.toNat : Int) ≤ 122))))]) (fun _ w' => w = w') ?_ ?_
   ·simp only [List.take, List.drop]
    rcases Bool.eq_false_or_eq_true (decide ((97 : Int) ≤ (x18.toNat : Int))) with hc19 | hc19
    ·refine V_ge rfl rfl rfl hc19 ?_
     refine V_y (Y_move rfl) rfl rfl rfl ?_
     refine V_ge rfl rfl rfl hc19 ?_
     refine V_y (Y_leq rfl rfl) rfl rfl rfl ?_
     refine V_y (Y_pick_te rfl hc19 rfl) rfl rfl rfl ?_
     exact V_end fun a ha => ⟨(), ha.sub ⟨rfl, rfl, rfl, rfl, (by rw [hc19]; rfl), trivial⟩, rfl⟩
    ·refine V_gn rfl rfl rfl hc19 rfl rfl rfl ?_
     refine V_gn rfl rfl rfl hc19 rfl rfl rfl ?_
     refine V_y (Y_pick_fe rfl hc19 rfl) rfl rfl rfl ?_
     exact V_end fun a ha => ⟨(), ha.sub ⟨rfl, rfl, rfl, rfl, (by rw [hc19]; rfl), trivial⟩, rfl⟩
   simp only [List.take, List.drop]
   rintro _ _ rfl
   refine V_y (Y_not rfl) rfl rfl rfl ?_
   refine V_y (Y_move rfl) rfl rfl rfl ?_
   refine V_cut 8 (fun _ : Unit => [(0, .string s), (4, .int .u8 (x18.toNat : Int)), (6, .int .i64 (s.size : Int)), (7, .int .i64 s8), (28, .bool ((!((decide ((97 : Int) ≤ (x18.toNat : Int))) && (decide ((x18.toNat : Int) ≤ 122)))) && (!((decide ((48 : Int) ≤ (x18.toNat : Int))) && (decide ((x18.toNat : Int) ≤ 57))))))]) (fun _ w' => w = w') ?_ ?_
   ·simp only [List.take, List.drop]
    rcases Bool.eq_false_or_eq_true (!((decide ((97 : Int) ≤ (x18.toNat : Int))) && (decide ((x18.toNat : Int) ≤ 122)))) with hc21 | hc21
    ·refine V_ge rfl rfl rfl hc21 ?_
     refine V_y (Y_move rfl) rfl rfl rfl ?_
     refine V_ge rfl rfl rfl hc21 ?_
     refine V_y (Y_geq rfl rfl) rfl rfl rfl ?_
     refine V_ge rfl rfl rfl hc21 ?_
     refine V_y (Y_move rfl) rfl rfl rfl ?_
     refine V_cut 3 (fun _ : Unit => [(0, .string s), (4, .int .u8 (x18.toNat : Int)), (6, .int .i64 (s.size : Int)), (7, .int .i64 s8), (20, .bool (!((decide ((97 : Int) ≤ (x18.toNat : Int))) && (decide ((x18.toNat : Int) ≤ 122))))), (26, .bool ((decide ((48 : Int) ≤ (x18.toNat : Int))) && (decide ((x18.toNat : Int) ≤ 57))))]) (fun _ w' => w = w') ?_ ?_
     ·simp only [List.take, List.drop]
      rcases Bool.eq_false_or_eq_true (decide ((48 : Int) ≤ (x18.toNat : Int))) with hc23 | hc23
      ·refine V_ge rfl rfl rfl hc23 ?_
       refine V_y (Y_move rfl) rfl rfl rfl ?_
       refine V_ge rfl rfl rfl hc23 ?_
       refine V_y (Y_leq rfl rfl) rfl rfl rfl ?_
       refine V_ge rfl rfl rfl hc21 ?_
       refine V_y (Y_pick_te rfl hc23 rfl) rfl rfl rfl ?_
       exact V_end fun a ha => ⟨(), ha.sub ⟨rfl, rfl, rfl, rfl, rfl, (by rw [hc23]; rfl), trivial⟩, rfl⟩
      ·refine V_gn rfl rfl rfl hc23 rfl rfl rfl ?_
       refine V_gn rfl rfl rfl hc23 rfl rfl rfl ?_
       refine V_ge rfl rfl rfl hc21 ?_
       refine V_y (Y_pick_fe rfl hc23 rfl) rfl rfl rfl ?_
       exact V_end fun a ha => ⟨(), ha.sub ⟨rfl, rfl, rfl, rfl, rfl, (by rw [hc23]; rfl), trivial⟩, rfl⟩
     simp only [List.take, List.drop]
     rintro _ _ rfl
     refine V_ge rfl rfl rfl hc21 ?_
     refine V_y (Y_not rfl) rfl rfl rfl ?_
     refine V_y (Y_pick_te rfl hc21 rfl) rfl rfl rfl ?_
     exact V_end fun a ha => ⟨(), ha.sub ⟨rfl, rfl, rfl, rfl, (by rw [hc21]; rfl), trivial⟩, rfl⟩
    ·refine V_gn rfl rfl rfl hc21 rfl rfl rfl ?_
     refine V_gn rfl rfl rfl hc21 rfl rfl rfl ?_
     refine V_gn rfl rfl rfl hc21 rfl rfl rfl ?_
     refine V_gu rfl rfl rfl rfl rfl ?_
     refine V_gu rfl rfl rfl rfl rfl ?_
     refine V_gn rfl rfl rfl hc21 rfl rfl rfl ?_
     refine V_gn rfl rfl rfl hc21 rfl rfl rfl ?_
     refine V_y (Y_pick_fe rfl hc21 rfl) rfl rfl rfl ?_
     exact V_end fun a ha => ⟨(), ha.sub ⟨rfl, rfl, rfl, rfl, (by rw [hc21]; rfl), trivial⟩, rfl⟩
   simp only [List.take, List.drop]
   rintro _ _ rfl
   refine V_y (Y_move rfl) rfl rfl rfl ?_
   refine V_cut 3 (fun _ : Unit => [(0, .string s), (6, .int .i64 (s.size : Int)), (7, .int .i64 s8), (32, .bool (((!((decide ((97 : Int) ≤ (x18.toNat : Int))) && (decide ((x18.toNat : Int) ≤ 122)))) && (!((decide ((48 : Int) ≤ (x18.toNat : Int))) && (decide ((x18.toNat : Int) ≤ 57))))) && ((x18.toNat : Int) != 95)))]) (fun _ w' => w = w') ?_ ?_
   ·simp only [List.take, List.drop]
    rcases Bool.eq_false_or_eq_true (((!((decide ((97 : Int) ≤ (x18.toNat : Int))) && (decide ((x18.toNat : Int) ≤ 122)))) && (!((decide ((48 : Int) ≤ (x18.toNat : Int))) && (decide ((x18.toNat : Int) ≤ 57)))))) with hc25 | hc25
    ·refine V_ge rfl rfl rfl hc25 ?_
     refine V_y (Y_move rfl) rfl rfl rfl ?_
     refine V_ge rfl rfl rfl hc25 ?_
     refine V_y (Y_neq rfl rfl) rfl rfl rfl ?_
     refine V_y (Y_pick_te rfl hc25 rfl) rfl rfl rfl ?_
     exact V_end fun a ha => ⟨(), ha.sub ⟨rfl, rfl, rfl, (by rw [hc25]; rfl), trivial⟩, rfl⟩
    ·refine V_gn rfl rfl rfl hc25 rfl rfl rfl ?_
     refine V_gn rfl rfl rfl hc25 rfl rfl rfl ?_
     refine V_y (Y_pick_fe rfl hc25 rfl) rfl rfl rfl ?_
     exact V_end fun a ha => ⟨(), ha.sub ⟨rfl, rfl, rfl, (by rw [hc25]; rfl), trivial⟩, rfl⟩
   simp only [List.take, List.drop]
   rintro _ _ rfl
   refine V_to (fun _ _ => rfl) ?_
   refine C_cond rfl (fun hc27 => ?_) (fun hc27 => ?_)
   ·rw [if_pos hc27] at h11
    refine C_seq ?_
    refine C_region ?_
    refine V_y (Y_assign rfl) rfl rfl rfl ?_
    refine V_to (fun _ _ => rfl) ?_
    obtain rfl := Option.some.inj h11
    obtain rfl := (h12 : Lp.rt _ = _)
    rw [Lp.andThen_rt] at hm
    obtain rfl := Option.some.inj hm
    refine C_ret ?_
    try simp only [↓inBlock_ret, ↓then_ret]
    exact retQ rfl (Res.one Tryz.results54 rfl) ⟨rfl, rfl⟩
   ·rw [if_neg (nt hc27)] at h11
    refine C_skip_to (fun _ _ => rfl) ?_
    refine C_region ?_
    refine V_y (Y_addI rfl rfl) rfl rfl rfl ?_
    refine V_y (Y_move rfl) rfl rfl rfl ?_
    obtain rfl := Option.some.inj h11
    refine V_end (fun a ha28 => ?_)
    exact ⟨w64 (s8 + 1), h12, ⟨(), ha28.sub ⟨rfl, rfl, rfl, trivial⟩, rfl⟩⟩
  ·rw [if_neg (nt hc17)] at h11
   obtain rfl := Option.some.inj h11
   refine C_exit (fun a ha29 => ?_)
   exact ⟨s8, ha29.sub ⟨rfl, trivial⟩, ⟨h12.symm, rfl⟩⟩
 rintro s2 _ ⟨rfl, rfl⟩ a ha7
 rw [Lp.andThen_fin] at hm
 refine C_at (n := ⟨41, [], none⟩) (fun _ _ => rfl) ?_ ha7
 refine C_seq ?_
 refine C_region ?_
 refine V_y (Y_move rfl) rfl rfl rfl ?_
 refine V_y (Y_sneq rfl rfl) rfl rfl rfl ?_
 refine V_y (Y_move rfl) rfl rfl rfl ?_
 refine V_cut 4 (fun _ : Unit => [(40, .bool ((!(strEq s (⟨#[]⟩ : ByteArray))) && (decide ((s.size : Int) ≤ 20))))]) (fun _ w' => w = w') ?_ ?_
 ·simp only [List.take, List.drop]
  rcases Bool.eq_false_or_eq_true (!(strEq s (⟨#[]⟩ : ByteArray))) with hc31 | hc31
  ·refine V_ge rfl rfl rfl hc31 ?_
   refine V_y (Y_move rfl) rfl rfl rfl ?_
   refine V_ge rfl rfl rfl hc31 ?_
   refine V_y (Y_lenStr rfl Tryz.underlying9 rfl) rfl rfl rfl ?_
   refine V_ge rfl rfl rfl hc31 ?_
   refine V_y (Y_leq rfl rfl) rfl rfl rfl ?_
   refine V_y (Y_pick_te rfl hc31 rfl) rfl rfl rfl ?_
   exact V_end fun a ha => ⟨(), ha.sub ⟨(by rw [hc31]; rfl), trivial⟩, rfl⟩
  ·refine V_gn rfl rfl rfl hc31 rfl rfl rfl ?_
   refine V_gn rfl rfl rfl hc31 rfl rfl rfl ?_
   refine V_gn rfl rfl rfl hc31 rfl rfl rfl ?_
   refine V_y (Y_pick_fe rfl hc31 rfl) rfl rfl rfl ?_
   exact V_end fun a ha => ⟨(), ha.sub ⟨(by rw [hc31]; rfl), trivial⟩, rfl⟩
 simp only [List.take, List.drop]
 rintro _ _ rfl
 refine V_y (Y_assign rfl) rfl rfl rfl ?_
 refine V_to (fun _ _ => rfl) ?_
 obtain rfl := Option.some.inj hm
 refine C_ret ?_
 try simp only [↓inBlock_ret, ↓then_ret]
 exact retQ rfl (Res.one Tryz.results54 rfl) ⟨rfl, rfl⟩
set_option maxRecDepth 4000 in
set_option maxHeartbeats 4000000 in
theorem level_checkTest_c (w : World) {A : Nat → Prop} (hA : ∀ b, w.heap.size ≤ b → A b) (t : level_Test) (before : Int) {r : Int} (hm : level_checkTest t before = some r) : Ret Tryz.prog 74 #[.agg #[.int .i64 t.field, .int .i64 t.value.kind, .int .i64 t.value.int, .string t.value.text], .int .i64 before] w fun v w' => v = .int .i64 r ∧ Kp Dw w w' := by
 unfold level_checkTest at hm
 refine enter Tryz.func74 rfl Tryz.ntmps74 rfl ?_
 have hA0 := hA
 have hB := Nat.le_refl w.heap.size
 have hK : Tr Dw w.heap.size A w A w := Tr.refl (Dw := Dw) hA
 have hH : Hp w.heap.size A w [] := Hp.nil
 refine C_seq ?_
 refine C_region ?_
 refine V_box rfl rfl ?_
 intro b1 w2 h3
 have hk5 := h3.kp (Dw := Dw)
 have h4 : El (α := level_Test) A w2 b1 0 t := h3.el hA ⟨[.int .i64 t.field], _, rfl, rfl, ⟨[.int .i64 t.value.kind], _, rfl, rfl, ⟨[.int .i64 t.value.int], _, rfl, rfl, rfl⟩⟩⟩
 have ht6 := Kp.tr (Dw := Dw) hk5 hA hB
 replace hK := Tr.trans (Dw := Dw) hK ht6
 replace hB := Nat.le_trans hB ht6.ex.size
 replace hA := ht6.new
 refine V_y (Y_assign rfl) rfl rfl rfl ?_
 refine V_to (fun _ _ => rfl) ?_
 refine C_seq ?_
 refine C_seq ?_
 refine C_region ?_
 have h7 := El_level_Test_0 h4
 refine V_y (Y_fieldAddr Tryz.underlying152 rfl Tryz.sizeOf3 (by decide) rfl) rfl rfl rfl ?_
 refine V_y (Y_load (El.int h7) Tryz.isAgg3 rfl) rfl rfl rfl ?_
 refine V_call Tryz.call52 rfl rfl rfl rfl (level_within_c w2 t.field (-1) 19) ?_
 rintro _ _ ⟨rfl, rfl⟩
 refine V_y (Y_not rfl) rfl rfl rfl ?_
 refine V_to (fun _ _ => rfl) ?_
 refine C_cond rfl (fun hc8 => ?_) (fun hc8 => ?_)
 ·rw [if_pos hc8] at hm
  refine C_seq ?_
  refine C_region ?_
  refine V_y (Y_assign rfl) rfl rfl rfl ?_
  refine V_to (fun _ _ => rfl) ?_
  obtain rfl := Option.some.inj hm
  refine C_ret ?_
  try simp only [↓inBlock_ret, ↓then_ret]
  exact retQ rfl (Res.one Tryz.results74 rfl) ⟨rfl, hK.kp⟩
 ·rw [if_neg (nt hc8)] at hm
  refine C_skip_to (fun _ _ => rfl) ?_
  refine C_seq ?_
  refine C_seq ?_
  refine C_region ?_
  have h9 := El_level_Test_0 h4
  refine V_y (Y_fieldAddr Tryz.underlying152 rfl Tryz.sizeOf3 (by decide) rfl) rfl rfl rfl ?_
  refine V_y (Y_load (El.int h9) Tryz.isAgg3 rfl) rfl rfl rfl ?_
  refine V_y (Y_move rfl) rfl rfl rfl ?_
  refine V_y (Y_leq rfl rfl) rfl rfl rfl ?_
  refine V_to (fun _ _ => rfl) ?_
  refine C_cond rfl (fun hc10 => ?_) (fun hc10 => ?_)
  ·rw [if_pos hc10] at hm
   refine C_seq ?_
   refine C_region ?_
   refine V_y (Y_assign rfl) rfl rfl rfl ?_
   refine V_to (fun _ _ => rfl) ?_
   obtain rfl := Option.some.inj hm
   refine C_ret ?_
   try simp only [↓inBlock_ret, ↓then_ret]
   exact retQ rfl (Res.one Tryz.results74 rfl) ⟨rfl, hK.kp⟩
  ·rw [if_neg (nt hc10)] at hm
   refine C_skip_to (fun _ _ => rfl) ?_
   refine C_seq ?_
   refine C_region ?_
   have h11 := El_level_Test_1 h4
   refine V_y (Y_fieldAddr Tryz.underlying152 rfl Tryz.sizeOf150 (by decide) rfl) rfl rfl rfl ?_
   obtain ⟨h12, _⟩ := El_api_Value h11
   refine V_y (Y_loadA h12 Tryz.isAgg150 Tryz.sizeOf150 rfl) rfl rfl rfl ?_
   refine V_alloc Tryz.zeroValue150 rfl ?_
   intro b13 w14 h15
   refine V_storeNew h15 Tryz.sizeOf150 rfl rfl rfl rfl (by exact (List.forall_mem_cons.2 ⟨rfl, (List.forall_mem_cons.2 ⟨rfl, (List.forall_mem_cons.2 ⟨rfl, (fun _ h => nomatch h)⟩)⟩)⟩)) ?_
   intro w17 h18
   have hk20 := h18.kp (Dw := Dw)
   have h19 : El (α := api_Value) A w17 b13 0 t.value := h18.el hA ⟨[.int .i64 t.value.kind], _, rfl, rfl, ⟨[.int .i64 t.value.int], _, rfl, rfl, rfl⟩⟩
   have ht21 := Kp.tr (Dw := Dw) hk20 hA hB
   replace h4 := El.tr (Dw := Dw) h4 ht21
   replace hK := Tr.trans (Dw := Dw) hK ht21
   refine V_to (fun _ _ => rfl) ?_
   refine C_seq ?_
   refine C_seq ?_
   refine C_region ?_
   have h22 := El_api_Value_0 h19
   refine V_y (Y_fieldAddr Tryz.underlying150 rfl Tryz.sizeOf3 (by decide) rfl) rfl rfl rfl ?_
   refine V_y (Y_load (El.int h22) Tryz.isAgg3 rfl) rfl rfl rfl ?_
   refine V_call Tryz.call52 rfl rfl rfl rfl (level_within_c w17 t.value.kind 0 6) ?_
   rintro _ _ ⟨rfl, rfl⟩
   refine V_y (Y_not rfl) rfl rfl rfl ?_
   refine V_y (Y_move rfl) rfl rfl rfl ?_
   refine V_cut 9 (fun _ : Unit => [(5, .pointer (some ⟨b13, 0, none⟩)), (31, .bool ((!(level_within t.value.kind 0 6)) || ((t.field == (-1)) && (t.value.kind != 2))))]) (fun _ w' => w17 = w') ?_ ?_
   ·simp only [List.take, List.drop]
    rcases Bool.eq_false_or_eq_true (!(level_within t.value.kind 0 6)) with hc23 | hc23
    ·refine V_gn rfl rfl rfl hc23 rfl rfl rfl ?_
     refine V_gn rfl rfl rfl hc23 rfl rfl rfl ?_
     refine V_gn rfl rfl rfl hc23 rfl rfl rfl ?_
     refine V_gn rfl rfl rfl hc23 rfl rfl rfl ?_
     refine V_gu rfl rfl rfl rfl rfl ?_
     refine V_gu rfl rfl rfl rfl rfl ?_
     refine V_gu rfl rfl rfl rfl rfl ?_
     refine V_gn rfl rfl rfl hc23 rfl rfl rfl ?_
     refine V_y (Y_pick_te rfl hc23 rfl) rfl rfl rfl ?_
     exact V_end fun a ha => ⟨(), ha.sub ⟨rfl, (by rw [hc23]; rfl), trivial⟩, rfl⟩
    ·refine V_ge rfl rfl rfl hc23 ?_
     have h25 := El_level_Test_0 h4
     refine V_y (Y_fieldAddr Tryz.underlying152 rfl Tryz.sizeOf3 (by decide) rfl) rfl rfl rfl ?_
     refine V_ge rfl rfl rfl hc23 ?_
     refine V_y (Y_load (El.int h25) Tryz.isAgg3 rfl) rfl rfl rfl ?_
     refine V_ge rfl rfl rfl hc23 ?_
     refine V_y (Y_eql rfl rfl) rfl rfl rfl ?_
     refine V_ge rfl rfl rfl hc23 ?_
     refine V_y (Y_move rfl) rfl rfl rfl ?_
     refine V_cut 4 (fun _ : Unit => [(5, .pointer (some ⟨b13, 0, none⟩)), (22, .bool (!(level_within t.value.kind 0 6))), (30, .bool ((t.field == (-1)) && (t.value.kind != 2)))]) (fun _ w' => w17 = w') ?_ ?_
     ·simp only [List.take, List.drop]
      rcases Bool.eq_false_or_eq_true (t.field == (-1)) with hc26 | hc26
      ·refine V_ge rfl rfl rfl hc26 ?_
       have h28 := El_api_Value_0 h19
       refine V_y (Y_fieldAddr Tryz.underlying150 rfl Tryz.sizeOf3 (by decide) rfl) rfl rfl rfl ?_
       refine V_ge rfl rfl rfl hc26 ?_
       refine V_y (Y_load (El.int h28) Tryz.isAgg3 rfl) rfl rfl rfl ?_
       refine V_ge rfl rfl rfl hc26 ?_
       refine V_y (Y_neq rfl rfl) rfl rfl rfl ?_
       refine V_ge rfl rfl rfl hc23 ?_
       refine V_y (Y_pick_te rfl hc26 rfl) rfl rfl rfl ?_
       exact V_end fun a ha => ⟨(), ha.sub ⟨rfl, rfl, (by rw [hc26]; rfl), trivial⟩, rfl⟩
      ·refine V_gn rfl rfl rfl hc26 rfl rfl rfl ?_
       refine V_gn rfl rfl rfl hc26 rfl rfl rfl ?_
       refine V_gn rfl rfl rfl hc26 rfl rfl rfl ?_
       refine V_ge rfl rfl rfl hc23 ?_
       refine V_y (Y_pick_fe rfl hc26 rfl) rfl rfl rfl ?_
       exact V_end fun a ha => ⟨(), ha.sub ⟨rfl, rfl, (by rw [hc26]; rfl), trivial⟩, rfl⟩
     simp only [List.take, List.drop]
     rintro _ _ rfl
     refine V_y (Y_pick_fe rfl hc23 rfl) rfl rfl rfl ?_
     exact V_end fun a ha => ⟨(), ha.sub ⟨rfl, (by rw [hc23]; rfl), trivial⟩, rfl⟩
   simp only [List.take, List.drop]
   rintro _ _ rfl
   refine V_to (fun _ _ => rfl) ?_
   refine C_cond rfl (fun hc29 => ?_) (fun hc29 => ?_)
   ·rw [if_pos hc29] at hm
    refine C_seq ?_
    refine C_region ?_
    refine V_y (Y_assign rfl) rfl rfl rfl ?_
    refine V_to (fun _ _ => rfl) ?_
    obtain rfl := Option.some.inj hm
    refine C_ret ?_
    try simp only [↓inBlock_ret, ↓then_ret]
    exact retQ rfl (Res.one Tryz.results74 rfl) ⟨rfl, hK.kp⟩
   ·rw [if_neg (nt hc29)] at hm
    refine C_skip_to (fun _ _ => rfl) ?_
    refine C_seq ?_
    refine C_seq ?_
    refine C_region ?_
    have h30 := El_api_Value_1 h19
    refine V_y (Y_fieldAddr Tryz.underlying150 rfl Tryz.sizeOf3 (by decide) rfl) rfl rfl rfl ?_
    refine V_y (Y_load (El.int h30) Tryz.isAgg3 rfl) rfl rfl rfl ?_
    refine V_y (Y_neq rfl rfl) rfl rfl rfl ?_
    refine V_y (Y_move rfl) rfl rfl rfl ?_
    refine V_cut 9 (fun _ : Unit => [(5, .pointer (some ⟨b13, 0, none⟩)), (44, .bool ((t.value.int != 0) && ((t.value.kind == 0) || (t.value.kind == 3))))]) (fun _ w' => w17 = w') ?_ ?_
    ·simp only [List.take, List.drop]
     rcases Bool.eq_false_or_eq_true (t.value.int != 0) with hc31 | hc31
     ·refine V_ge rfl rfl rfl hc31 ?_
      have h33 := El_api_Value_0 h19
      refine V_y (Y_fieldAddr Tryz.underlying150 rfl Tryz.sizeOf3 (by decide) rfl) rfl rfl rfl ?_
      refine V_ge rfl rfl rfl hc31 ?_
      refine V_y (Y_load (El.int h33) Tryz.isAgg3 rfl) rfl rfl rfl ?_
      refine V_ge rfl rfl rfl hc31 ?_
      refine V_y (Y_eql rfl rfl) rfl rfl rfl ?_
      refine V_ge rfl rfl rfl hc31 ?_
      refine V_y (Y_move rfl) rfl rfl rfl ?_
      refine V_cut 4 (fun _ : Unit => [(5, .pointer (some ⟨b13, 0, none⟩)), (35, .bool (t.value.int != 0)), (43, .bool ((t.value.kind == 0) || (t.value.kind == 3)))]) (fun _ w' => w17 = w') ?_ ?_
      ·simp only [List.take, List.drop]
       rcases Bool.eq_false_or_eq_true (t.value.kind == 0) with hc34 | hc34
       ·refine V_gn rfl rfl rfl hc34 rfl rfl rfl ?_
        refine V_gn rfl rfl rfl hc34 rfl rfl rfl ?_
        refine V_gn rfl rfl rfl hc34 rfl rfl rfl ?_
        refine V_ge rfl rfl rfl hc31 ?_
        refine V_y (Y_pick_te rfl hc34 rfl) rfl rfl rfl ?_
        exact V_end fun a ha => ⟨(), ha.sub ⟨rfl, rfl, (by rw [hc34]; rfl), trivial⟩, rfl⟩
       ·refine V_ge rfl rfl rfl hc34 ?_
        have h36 := El_api_Value_0 h19
        refine V_y (Y_fieldAddr Tryz.underlying150 rfl Tryz.sizeOf3 (by decide) rfl) rfl rfl rfl ?_
        refine V_ge rfl rfl rfl hc34 ?_
        refine V_y (Y_load (El.int h36) Tryz.isAgg3 rfl) rfl rfl rfl ?_
        refine V_ge rfl rfl rfl hc34 ?_
        refine V_y (Y_eql rfl rfl) rfl rfl rfl ?_
        refine V_ge rfl rfl rfl hc31 ?_
        refine V_y (Y_pick_fe rfl hc34 rfl) rfl rfl rfl ?_
        exact V_end fun a ha => ⟨(), ha.sub ⟨rfl, rfl, (by rw [hc34]; rfl), trivial⟩, rfl⟩
      simp only [List.take, List.drop]
      rintro _ _ rfl
      refine V_y (Y_pick_te rfl hc31 rfl) rfl rfl rfl ?_
      exact V_end fun a ha => ⟨(), ha.sub ⟨rfl, (by rw [hc31]; rfl), trivial⟩, rfl⟩
     ·refine V_gn rfl rfl rfl hc31 rfl rfl rfl ?_
      refine V_gn rfl rfl rfl hc31 rfl rfl rfl ?_
      refine V_gn rfl rfl rfl hc31 rfl rfl rfl ?_
      refine V_gn rfl rfl rfl hc31 rfl rfl rfl ?_
      refine V_gu rfl rfl rfl rfl rfl ?_
      refine V_gu rfl rfl rfl rfl rfl ?_
      refine V_gu rfl rfl rfl rfl rfl ?_
      refine V_gn rfl rfl rfl hc31 rfl rfl rfl ?_
      refine V_y (Y_pick_fe rfl hc31 rfl) rfl rfl rfl ?_
      exact V_end fun a ha => ⟨(), ha.sub ⟨rfl, (by rw [hc31]; rfl), trivial⟩, rfl⟩
    simp only [List.take, List.drop]
    rintro _ _ rfl
    refine V_y (Y_move rfl) rfl rfl rfl ?_
    refine V_cut 9 (fun _ : Unit => [(5, .pointer (some ⟨b13, 0, none⟩)), (54, .bool (((t.value.int != 0) && ((t.value.kind == 0) || (t.value.kind == 3))) || ((!(strEq t.value.text (⟨#[]⟩ : ByteArray))) && (t.value.kind != 3))))]) (fun _ w' => w17 = w') ?_ ?_
    ·simp only [List.take, List.drop]
     rcases Bool.eq_false_or_eq_true (((t.value.int != 0) && ((t.value.kind == 0) || (t.value.kind == 3)))) with hc37 | hc37
     ·refine V_gn rfl rfl rfl hc37 rfl rfl rfl ?_
      refine V_gn rfl rfl rfl hc37 rfl rfl rfl ?_
      refine V_gn rfl rfl rfl hc37 rfl rfl rfl ?_
      refine V_gn rfl rfl rfl hc37 rfl rfl rfl ?_
      refine V_gu rfl rfl rfl rfl rfl ?_
      refine V_gu rfl rfl rfl rfl rfl ?_
      refine V_gu rfl rfl rfl rfl rfl ?_
      refine V_gn rfl rfl rfl hc37 rfl rfl rfl ?_
      refine V_y (Y_pick_te rfl hc37 rfl) rfl rfl rfl ?_
      exact V_end fun a ha => ⟨(), ha.sub ⟨rfl, (by rw [hc37]; rfl), trivial⟩, rfl⟩
     ·refine V_ge rfl rfl rfl hc37 ?_
      have h39 := El_api_Value_2 h19
      refine V_y (Y_fieldAddr Tryz.underlying150 rfl Tryz.sizeOf9 (by decide) rfl) rfl rfl rfl ?_
      refine V_ge rfl rfl rfl hc37 ?_
      refine V_y (Y_load (El.str h39) Tryz.isAgg9 rfl) rfl rfl rfl ?_
      refine V_ge rfl rfl rfl hc37 ?_
      refine V_y (Y_sneq rfl rfl) rfl rfl rfl ?_
      refine V_ge rfl rfl rfl hc37 ?_
      refine V_y (Y_move rfl) rfl rfl rfl ?_
      refine V_cut 4 (fun _ : Unit => [(5, .pointer (some ⟨b13, 0, none⟩)), (45, .bool ((t.value.int != 0) && ((t.value.kind == 0) || (t.value.kind == 3)))), (53, .bool ((!(strEq t.value.text (⟨#[]⟩ : ByteArray))) && (t.value.kind != 3)))]) (fun _ w' => w17 = w') ?_ ?_
      ·simp only [List.take, List.drop]
       rcases Bool.eq_false_or_eq_true (!(strEq t.value.text (⟨#[]⟩ : ByteArray))) with hc40 | hc40
       ·refine V_ge rfl rfl rfl hc40 ?_
        have h42 := El_api_Value_0 h19
        refine V_y (Y_fieldAddr Tryz.underlying150 rfl Tryz.sizeOf3 (by decide) rfl) rfl rfl rfl ?_
        refine V_ge rfl rfl rfl hc40 ?_
        refine V_y (Y_load (El.int h42) Tryz.isAgg3 rfl) rfl rfl rfl ?_
        refine V_ge rfl rfl rfl hc40 ?_
        refine V_y (Y_neq rfl rfl) rfl rfl rfl ?_
        refine V_ge rfl rfl rfl hc37 ?_
        refine V_y (Y_pick_te rfl hc40 rfl) rfl rfl rfl ?_
        exact V_end fun a ha => ⟨(), ha.sub ⟨rfl, rfl, (by rw [hc40]; rfl), trivial⟩, rfl⟩
       ·refine V_gn rfl rfl rfl hc40 rfl rfl rfl ?_
        refine V_gn rfl rfl rfl hc40 rfl rfl rfl ?_
        refine V_gn rfl rfl rfl hc40 rfl rfl rfl ?_
        refine V_ge rfl rfl rfl hc37 ?_
        refine V_y (Y_pick_fe rfl hc40 rfl) rfl rfl rfl ?_
        exact V_end fun a ha => ⟨(), ha.sub ⟨rfl, rfl, (by rw [hc40]; rfl), trivial⟩, rfl⟩
      simp only [List.take, List.drop]
      rintro _ _ rfl
      refine V_y (Y_pick_fe rfl hc37 rfl) rfl rfl rfl ?_
      exact V_end fun a ha => ⟨(), ha.sub ⟨rfl, (by rw [hc37]; rfl), trivial⟩, rfl⟩
    simp only [List.take, List.drop]
    rintro _ _ rfl
    refine V_to (fun _ _ => rfl) ?_
    refine C_cond rfl (fun hc43 => ?_) (fun hc43 => ?_)
    ·rw [if_pos hc43] at hm
     refine C_seq ?_
     refine C_region ?_
     refine V_y (Y_assign rfl) rfl rfl rfl ?_
     refine V_to (fun _ _ => rfl) ?_
     obtain rfl := Option.some.inj hm
     refine C_ret ?_
     try simp only [↓inBlock_ret, ↓then_ret]
     exact retQ rfl (Res.one Tryz.results74 rfl) ⟨rfl, hK.kp⟩
    ·rw [if_neg (nt hc43)] at hm
     refine C_skip_to (fun _ _ => rfl) ?_
     refine C_seq ?_
     refine C_region ?_
     refine V_y (Y_assign rfl) rfl rfl rfl ?_
     refine V_to (fun _ _ => rfl) ?_
     refine C_seq ?_
     refine C_seq ?_
     refine C_region ?_
     have h44 := El_api_Value_0 h19
     refine V_y (Y_fieldAddr Tryz.underlying150 rfl Tryz.sizeOf3 (by decide) rfl) rfl rfl rfl ?_
     refine V_y (Y_load (El.int h44) Tryz.isAgg3 rfl) rfl rfl rfl ?_
     refine V_to (fun _ _ => rfl) ?_
     obtain ⟨s46, ho45, hm⟩ := Option.bind_eq_some_iff.1 hm
     refine C_cutG (ι := Unit) (fun (_ : Unit) => [(5, .pointer (some ⟨b13, 0, none⟩)), (6, .bool s46)]) (fun (_ : Unit) => fun w' => w17 = w') ?_ ?_
     ·refine C_block ?_
      refine C_seq ?_
      refine C_region ?_
      refine V_y (Y_eql rfl rfl) rfl rfl rfl ?_
      refine V_y (Y_assign rfl) rfl rfl rfl ?_
      refine V_to (fun _ _ => rfl) ?_
      obtain ⟨s52, ho51, ho45⟩ := Option.bind_eq_some_iff.1 ho45
      refine C_cutG (ι := Unit) (fun (_ : Unit) => [(5, .pointer (some ⟨b13, 0, none⟩)), (6, .bool s52)]) (fun (_ : Unit) => fun w' => w17 = w') ?_ ?_
      ·refine C_cond rfl (fun hc57 => ?_) (fun hc57 => ?_)
       ·rw [if_pos hc57] at ho51
        refine C_region ?_
        have h58 := El_api_Value_1 h19
        refine V_y (Y_fieldAddr Tryz.underlying150 rfl Tryz.sizeOf3 (by decide) rfl) rfl rfl rfl ?_
        refine V_y (Y_load (El.int h58) Tryz.isAgg3 rfl) rfl rfl rfl ?_
        refine V_call Tryz.call52 rfl rfl rfl rfl (level_within_c w17 t.value.int 0 1) ?_
        rintro _ _ ⟨rfl, rfl⟩
        refine V_y (Y_assign rfl) rfl rfl rfl ?_
        obtain rfl := Option.some.inj ho51
        refine V_end (fun a ha59 => ?_)
        exact ⟨(), ha59.sub ⟨rfl, rfl, trivial⟩, rfl⟩
       ·rw [if_neg (nt hc57)] at ho51
        refine C_seq ?_
        refine C_region ?_
        refine V_y (Y_eql rfl rfl) rfl rfl rfl ?_
        refine V_y (Y_assign rfl) rfl rfl rfl ?_
        refine V_to (fun _ _ => rfl) ?_
        obtain ⟨s61, ho60, ho51⟩ := Option.bind_eq_some_iff.1 ho51
        refine C_cutG (ι := Unit) (fun (_ : Unit) => [(5, .pointer (some ⟨b13, 0, none⟩)), (6, .bool s61)]) (fun (_ : Unit) => fun w' => w17 = w') ?_ ?_
        ·refine C_cond rfl (fun hc66 => ?_) (fun hc66 => ?_)
         ·rw [if_pos hc66] at ho60
          refine C_region ?_
          have h67 := El_api_Value_1 h19
          refine V_y (Y_fieldAddr Tryz.underlying150 rfl Tryz.sizeOf3 (by decide) rfl) rfl rfl rfl ?_
          refine V_y (Y_load (El.int h67) Tryz.isAgg3 rfl) rfl rfl rfl ?_
          refine V_call Tryz.call52 rfl rfl rfl rfl (level_within_c w17 t.value.int 0 19) ?_
          rintro _ _ ⟨rfl, rfl⟩
          refine V_y (Y_assign rfl) rfl rfl rfl ?_
          obtain rfl := Option.some.inj ho60
          refine V_end (fun a ha68 => ?_)
          exact ⟨(), ha68.sub ⟨rfl, rfl, trivial⟩, rfl⟩
         ·rw [if_neg (nt hc66)] at ho60
          refine C_seq ?_
          refine C_region ?_
          refine V_y (Y_eql rfl rfl) rfl rfl rfl ?_
          refine V_y (Y_assign rfl) rfl rfl rfl ?_
          refine V_to (fun _ _ => rfl) ?_
          obtain ⟨s70, ho69, ho60⟩ := Option.bind_eq_some_iff.1 ho60
          refine C_cutG (ι := Unit) (fun (_ : Unit) => [(5, .pointer (some ⟨b13, 0, none⟩)), (6, .bool s70)]) (fun (_ : Unit) => fun w' => w17 = w') ?_ ?_
          ·refine C_cond rfl (fun hc75 => ?_) (fun hc75 => ?_)
           ·rw [if_pos hc75] at ho69
            refine C_region ?_
            have h76 := El_api_Value_1 h19
            refine V_y (Y_fieldAddr Tryz.underlying150 rfl Tryz.sizeOf3 (by decide) rfl) rfl rfl rfl ?_
            refine V_y (Y_load (El.int h76) Tryz.isAgg3 rfl) rfl rfl rfl ?_
            refine V_call Tryz.call52 rfl rfl rfl rfl (level_within_c w17 t.value.int 0 3000000) ?_
            rintro _ _ ⟨rfl, rfl⟩
            refine V_y (Y_assign rfl) rfl rfl rfl ?_
            obtain rfl := Option.some.inj ho69
            refine V_end (fun a ha77 => ?_)
            exact ⟨(), ha77.sub ⟨rfl, rfl, trivial⟩, rfl⟩
           ·rw [if_neg (nt hc75)] at ho69
            refine C_seq ?_
            refine C_region ?_
            refine V_y (Y_eql rfl rfl) rfl rfl rfl ?_
            refine V_y (Y_assign rfl) rfl rfl rfl ?_
            refine V_to (fun _ _ => rfl) ?_
            obtain ⟨s79, ho78, ho69⟩ := Option.bind_eq_some_iff.1 ho69
            refine C_cutG (ι := Unit) (fun (_ : Unit) => [(5, .pointer (some ⟨b13, 0, none⟩)), (6, .bool s79)]) (fun (_ : Unit) => fun w' => w17 = w') ?_ ?_
            ·refine C_cond rfl (fun hc84 => ?_) (fun hc84 => ?_)
             ·rw [if_pos hc84] at ho78
              refine C_region ?_
              have h85 := El_api_Value_1 h19
              refine V_y (Y_fieldAddr Tryz.underlying150 rfl Tryz.sizeOf3 (by decide) rfl) rfl rfl rfl ?_
              refine V_y (Y_load (El.int h85) Tryz.isAgg3 rfl) rfl rfl rfl ?_
              refine V_call Tryz.call52 rfl rfl rfl rfl (level_within_c w17 t.value.int 1 40) ?_
              rintro _ _ ⟨rfl, rfl⟩
              refine V_y (Y_assign rfl) rfl rfl rfl ?_
              obtain rfl := Option.some.inj ho78
              refine V_end (fun a ha86 => ?_)
              exact ⟨(), ha86.sub ⟨rfl, rfl, trivial⟩, rfl⟩
             ·rw [if_neg (nt hc84)] at ho78
              obtain rfl := Option.some.inj ho78
              refine C_skip (fun a ha87 => ?_)
              exact ⟨(), ha87.sub ⟨rfl, rfl, trivial⟩, rfl⟩
            rintro _ _ rfl a ha83
            obtain rfl := Option.some.inj ho69
            exact ⟨(), ha83.sub ⟨rfl, rfl, trivial⟩, rfl⟩
          rintro _ _ rfl a ha74
          obtain rfl := Option.some.inj ho60
          exact ⟨(), ha74.sub ⟨rfl, rfl, trivial⟩, rfl⟩
        rintro _ _ rfl a ha65
        obtain rfl := Option.some.inj ho51
        exact ⟨(), ha65.sub ⟨rfl, rfl, trivial⟩, rfl⟩
      rintro _ _ rfl a ha56
      obtain rfl := Option.some.inj ho45
      exact ⟨(), ha56.sub ⟨rfl, rfl, trivial⟩, rfl⟩
     rintro _ _ rfl a ha50
     refine C_at (n := ⟨102, [], none⟩) (fun _ _ => rfl) ?_ ha50
     refine C_seq ?_
     refine C_seq ?_
     refine C_region ?_
     refine V_y (Y_move rfl) rfl rfl rfl ?_
     refine V_y (Y_not rfl) rfl rfl rfl ?_
     refine V_to (fun _ _ => rfl) ?_
     refine C_cond rfl (fun hc92 => ?_) (fun hc92 => ?_)
     ·rw [if_pos hc92] at hm
      refine C_seq ?_
      refine C_region ?_
      refine V_y (Y_assign rfl) rfl rfl rfl ?_
      refine V_to (fun _ _ => rfl) ?_
      obtain rfl := Option.some.inj hm
      refine C_ret ?_
      try simp only [↓inBlock_ret, ↓then_ret]
      exact retQ rfl (Res.one Tryz.results74 rfl) ⟨rfl, hK.kp⟩
     ·rw [if_neg (nt hc92)] at hm
      refine C_skip_to (fun _ _ => rfl) ?_
      refine C_seq ?_
      refine C_seq ?_
      refine C_region ?_
      have h93 := El_api_Value_2 h19
      refine V_y (Y_fieldAddr Tryz.underlying150 rfl Tryz.sizeOf9 (by decide) rfl) rfl rfl rfl ?_
      refine V_y (Y_load (El.str h93) Tryz.isAgg9 rfl) rfl rfl rfl ?_
      refine V_y (Y_lenStr rfl Tryz.underlying9 rfl) rfl rfl rfl ?_
      refine V_y (Y_gtr rfl rfl) rfl rfl rfl ?_
      refine V_to (fun _ _ => rfl) ?_
      refine C_cond rfl (fun hc94 => ?_) (fun hc94 => ?_)
      ·rw [if_pos hc94] at hm
       refine C_seq ?_
       refine C_region ?_
       refine V_y (Y_assign rfl) rfl rfl rfl ?_
       refine V_to (fun _ _ => rfl) ?_
       obtain rfl := Option.some.inj hm
       refine C_ret ?_
       try simp only [↓inBlock_ret, ↓then_ret]
       exact retQ rfl (Res.one Tryz.results74 rfl) ⟨rfl, hK.kp⟩
      ·rw [if_neg (nt hc94)] at hm
       refine C_skip_to (fun _ _ => rfl) ?_
       refine C_seq ?_
       refine C_seq ?_
       refine C_region ?_
       have h95 := El_api_Value_2 h19
       refine V_y (Y_fieldAddr Tryz.underlying150 rfl Tryz.sizeOf9 (by decide) rfl) rfl rfl rfl ?_
       refine V_y (Y_load (El.str h95) Tryz.isAgg9 rfl) rfl rfl rfl ?_
       refine V_y (Y_lenStr rfl Tryz.underlying9 rfl) rfl rfl rfl ?_
       refine V_y (Y_move rfl) rfl rfl rfl ?_
       refine V_to (fun _ _ => rfl) ?_
       obtain ⟨o96, ho96, hm⟩ := Option.bind_eq_some_iff.1 hm
       refine C_cutG (ι := Int) (fun (s97 : Int) => []) (fun (s97 : Int) => fun w' => o96 = .fin s97 ∧ w17 = w') ?_ ?_
       ·refine C_block ?_
        refine C_while ho96 (fun s103 a w' => ∃ i : Unit, Has ⟨102, [], none⟩ a ([(5, .pointer (some ⟨b13, 0, none⟩)), (85, .int .i64 (t.value.text.size : Int)), (86, .int .i64 s103)]) ∧ w17 = w') (fun a ha => ⟨(), ha.sub ⟨rfl, rfl, rfl, trivial⟩, rfl⟩) ?_
        rintro K s103 a _ ⟨_, ha121, rfl⟩ K111
        refine C_of ?_ ha121
        obtain ⟨x105, h106, h107⟩ := K111
        refine C_seq ?_
        refine C_region ?_
        refine V_y (Y_lss rfl rfl) rfl rfl rfl ?_
        refine V_to (fun _ _ => rfl) ?_
        refine C_seq ?_
        refine C_cond rfl (fun hc112 => ?_) (fun hc112 => ?_)
        ·rw [if_pos hc112] at h106
         refine C_skip_to (fun _ _ => rfl) ?_
         refine C_seq ?_
         refine C_block ?_
         refine C_seq ?_
         refine C_region ?_
         refine V_y (Y_move rfl) rfl rfl rfl ?_
         refine V_y (Y_assign rfl) rfl rfl rfl ?_
         refine V_to (fun _ _ => rfl) ?_
         refine C_seq ?_
         refine C_region ?_
         have h113 := El_api_Value_2 h19
         refine V_y (Y_fieldAddr Tryz.underlying150 rfl Tryz.sizeOf9 (by decide) rfl) rfl rfl rfl ?_
         refine V_y (Y_load (El.str h113) Tryz.isAgg9 rfl) rfl rfl rfl ?_
         refine V_y (Y_move rfl) rfl rfl rfl ?_
         obtain ⟨x114, hx114, h106⟩ := Option.bind_eq_some_iff.1 h106
         refine V_y (Y_indexS hx114 Tryz.underlying9 rfl rfl) rfl rfl rfl ?_
         refine V_y (Y_lss rfl rfl) rfl rfl rfl ?_
         refine V_y (Y_move rfl) rfl rfl rfl ?_
         obtain ⟨s116, hs116, h106⟩ := Option.bind_eq_some_iff.1 h106
         refine V_cut 6 (fun _ : Unit => [(5, .pointer (some ⟨b13, 0, none⟩)), (85, .int .i64 (t.value.text.size : Int)), (86, .int .i64 s103), (100, .bool s116)]) (fun _ w' => w17 = w') ?_ ?_
         ·simp only [List.take, List.drop]
          rcases Bool.eq_false_or_eq_true (decide ((x114.toNat : Int) < 32)) with hc115 | hc115
          ·rw [if_pos hc115] at hs116
           refine V_gn rfl rfl rfl hc115 rfl rfl rfl ?_
           refine V_gn rfl rfl rfl hc115 rfl rfl rfl ?_
           refine V_gn rfl rfl rfl hc115 rfl rfl rfl ?_
           refine V_gn rfl rfl rfl hc115 rfl rfl rfl ?_
           refine V_gn rfl rfl rfl hc115 rfl rfl rfl ?_
           refine V_y (Y_pick_te rfl hc115 rfl) rfl rfl rfl ?_
           obtain rfl := Option.some.inj hs116
           exact V_end fun a ha => ⟨(), ha.sub ⟨rfl, rfl, rfl, rfl, trivial⟩, rfl⟩
          ·rw [if_neg (nt hc115)] at hs116
           refine V_ge rfl rfl rfl hc115 ?_
           have h117 := El_api_Value_2 h19
           refine V_y (Y_fieldAddr Tryz.underlying150 rfl Tryz.sizeOf9 (by decide) rfl) rfl rfl rfl ?_
           refine V_ge rfl rfl rfl hc115 ?_
           refine V_y (Y_load (El.str h117) Tryz.isAgg9 rfl) rfl rfl rfl ?_
           refine V_ge rfl rfl rfl hc115 ?_
           refine V_y (Y_move rfl) rfl rfl rfl ?_
           refine V_ge rfl rfl rfl hc115 ?_
           refine V_y (Y_indexS hx114 Tryz.underlying9 rfl rfl) rfl rfl rfl ?_
           refine V_ge rfl rfl rfl hc115 ?_
           refine V_y (Y_eql rfl rfl) rfl rfl rfl ?_
           refine V_y (Y_pick_fe rfl hc115 rfl) rfl rfl rfl ?_
           obtain rfl := Option.some.inj hs116
           exact V_end fun a ha => ⟨(), ha.sub ⟨rfl, rfl, rfl, rfl, trivial⟩, rfl⟩
         simp only [List.take, List.drop]
         rintro _ _ rfl
         refine V_to (fun _ _ => rfl) ?_
         refine C_cond rfl (fun hc118 => ?_) (fun hc118 => ?_)
         ·rw [if_pos hc118] at h106
          refine C_seq ?_
          refine C_region ?_
          refine V_y (Y_assign rfl) rfl rfl rfl ?_
          refine V_to (fun _ _ => rfl) ?_
          obtain rfl := Option.some.inj h106
          obtain rfl := (h107 : Lp.rt _ = _)
          rw [Lp.andThen_rt] at hm
          obtain rfl := Option.some.inj hm
          refine C_ret ?_
          try simp only [↓inBlock_ret, ↓then_ret]
          exact retQ rfl (Res.one Tryz.results74 rfl) ⟨rfl, hK.kp⟩
         ·rw [if_neg (nt hc118)] at h106
          refine C_skip_to (fun _ _ => rfl) ?_
          refine C_region ?_
          refine V_y (Y_addI rfl rfl) rfl rfl rfl ?_
          refine V_y (Y_move rfl) rfl rfl rfl ?_
          obtain rfl := Option.some.inj h106
          refine V_end (fun a ha119 => ?_)
          exact ⟨w64 (s103 + 1), h107, ⟨(), ha119.sub ⟨rfl, rfl, rfl, trivial⟩, rfl⟩⟩
        ·rw [if_neg (nt hc112)] at h106
         obtain rfl := Option.some.inj h106
         refine C_exit (fun a ha120 => ?_)
         exact ⟨s103, ha120.sub trivial, ⟨h107.symm, rfl⟩⟩
       rintro s97 _ ⟨rfl, rfl⟩ a ha102
       rw [Lp.andThen_fin] at hm
       refine C_at (n := ⟨102, [], none⟩) (fun _ _ => rfl) ?_ ha102
       refine C_seq ?_
       refine C_region ?_
       refine V_y (Y_assign rfl) rfl rfl rfl ?_
       refine V_to (fun _ _ => rfl) ?_
       obtain rfl := Option.some.inj hm
       refine C_ret ?_
       try simp only [↓inBlock_ret, ↓then_ret]
       exact retQ rfl (Res.one Tryz.results74 rfl) ⟨rfl, hK.kp⟩
set_option maxRecDepth 4000 in
set_option maxHeartbeats 4000000 in
theorem level_checkLevel_c (w : World) {A : Nat → Prop} (hA : ∀ b, w.heap.size ≤ b → A b) (l : level_Level) (v_l0 : Value) (h_l0 : Sl A w v_l0 l.tests) (v_l1 : Value) (h_l1 : Sl A w v_l1 l.targets) {r : Int} (hm : level_checkLevel l = some r) : Ret Tryz.prog 55 #[.agg #[.string l.name, v_l0, v_l1]] w fun v w' => v = .int .i64 r ∧ Kp Dw w w' := by
 unfold level_checkLevel at hm
 refine enter Tryz.func55 rfl Tryz.ntmps55 rfl ?_
 have hA0 := hA
 have hB := Nat.le_refl w.heap.size
 have hK : Tr Dw w.heap.size A w A w := Tr.refl (Dw := Dw) hA
 have hH : Hp w.heap.size A w [] := Hp.nil
 refine C_seq ?_
 refine C_region ?_
 refine V_box rfl rfl ?_
 intro b5 w6 h7
 have hk9 := h7.kp (Dw := Dw)
 have h8 : El (α := level_Level) A w6 b5 0 l := h7.el hA ⟨[.string l.name], _, rfl, rfl, ⟨[v_l0], _, rfl, ⟨_, rfl, h_l0⟩, ⟨_, rfl, h_l1⟩⟩⟩
 have ht10 := Kp.tr (Dw := Dw) hk9 hA hB
 replace hH := Hp.kp (Dw := Dw) hH hk9
 replace hK := Tr.trans (Dw := Dw) hK ht10
 replace hB := Nat.le_trans hB ht10.ex.size
 replace hA := ht10.new
 refine V_y (Y_assign rfl) rfl rfl rfl ?_
 refine V_to (fun _ _ => rfl) ?_
 refine C_seq ?_
 refine C_seq ?_
 refine C_region ?_
 have h11 := El_level_Level_1 h8
 refine V_y (Y_fieldAddr Tryz.underlying147 rfl Tryz.sizeOf144 (by decide) rfl) rfl rfl rfl ?_
 obtain ⟨v12, h13, h14⟩ := El.list h11
 refine V_y (Y_load h13 Tryz.isAgg144 rfl) rfl rfl rfl ?_
 refine V_y (Y_lenSl h14 rfl Tryz.underlying144 rfl) rfl rfl rfl ?_
 refine V_y (Y_gtr rfl rfl) rfl rfl rfl ?_
 refine V_to (fun _ _ => rfl) ?_
 refine C_cond rfl (fun hc15 => ?_) (fun hc15 => ?_)
 ·rw [if_pos hc15] at hm
  refine C_seq ?_
  refine C_region ?_
  refine V_y (Y_assign rfl) rfl rfl rfl ?_
  refine V_to (fun _ _ => rfl) ?_
  obtain rfl := Option.some.inj hm
  refine C_ret ?_
  try simp only [↓inBlock_ret, ↓then_ret]
  exact retQ rfl (Res.one Tryz.results55 rfl) ⟨rfl, hK.kp⟩
 ·rw [if_neg (nt hc15)] at hm
  refine C_skip_to (fun _ _ => rfl) ?_
  refine C_seq ?_
  refine C_region ?_
  refine V_y (Y_assign rfl) rfl rfl rfl ?_
  refine V_to (fun _ _ => rfl) ?_
  refine C_seq ?_
  refine C_seq ?_
  refine C_region ?_
  have h16 := El_level_Level_1 h8
  refine V_y (Y_fieldAddr Tryz.underlying147 rfl Tryz.sizeOf144 (by decide) rfl) rfl rfl rfl ?_
  obtain ⟨v17, h18, h19⟩ := El.list h16
  refine V_y (Y_load h18 Tryz.isAgg144 rfl) rfl rfl rfl ?_
  refine V_y (Y_lenSl h19 rfl Tryz.underlying144 rfl) rfl rfl rfl ?_
  refine V_y (Y_move rfl) rfl rfl rfl ?_
  refine V_to (fun _ _ => rfl) ?_
  have hn40 := Sl.le h19
  obtain ⟨o20, ho20, hm⟩ := Option.bind_eq_some_iff.1 hm
  refine C_cutG (ι := (Int × (Nat → Prop))) (fun ⟨s21, A27⟩ => [(1, .pointer (some ⟨b5, 0, none⟩))]) (fun ⟨s21, A27⟩ => fun w' => o20 = .fin s21 ∧ Hp w.heap.size A27 w' ([]) ∧ Tr Dw w.heap.size A w6 A27 w') ?_ ?_
  ·refine C_block ?_
   refine C_range ho20 (fun k23 s29 a w' => ∃ i : (Nat → Prop), Has ⟨68, [], none⟩ a ([(1, .pointer (some ⟨b5, 0, none⟩)), (3, .int .i64 s29), (14, v17), (15, .int .i64 (l.tests.length : Int)), (16, .int .i64 (k23 : Int))]) ∧ Hp w.heap.size i w' ([]) ∧ Tr Dw w.heap.size A w6 i w') (fun a ha => ⟨A, ha.sub ⟨rfl, rfl, rfl, rfl, rfl, trivial⟩, ⟨hH, Tr.refl (Dw := Dw) hA⟩⟩) ?_
   rintro K k23 s29 a w30 ⟨A31, ha64, hH32, hr22⟩ hle36 K39 h38
   refine C_of ?_ ha64
   replace h19 := Sl.tr (Dw := Dw) h19 hr22
   replace hK := Tr.trans (Dw := Dw) hK hr22
   replace hB := Nat.le_trans hB hr22.ex.size
   replace hA := hr22.new
   replace hH : Hp w.heap.size A31 w30 ([]) := hH32
   refine C_seq (C_region (V_y (Y_lss rfl rfl) rfl rfl rfl (V_to (fun _ _ => rfl) ?_)))
   refine C_seq ?_
   refine C_cond rfl (fun hc41 => ?_) (fun hc41 => ?_)
   ·have hlt37 := lt_of_dec hc41
    obtain ⟨x33, h34, h35⟩ := K39 hlt37
    refine C_skip_to (fun _ _ => rfl) ?_
    refine C_seq ?_
    refine C_block ?_
    refine C_seq ?_
    refine C_region ?_
    obtain ⟨x42, hx42, h34⟩ := Option.bind_eq_some_iff.1 h34
    refine V_indexAddr h19 hx42 Tryz.underlying144 Tryz.sizeOf152 rfl rfl rfl ?_
    intro b43 o44 h45
    obtain ⟨h46, _⟩ := El_level_Test h45
    refine V_y (Y_loadA h46 Tryz.isAgg152 Tryz.sizeOf152 rfl) rfl rfl rfl ?_
    refine V_alloc Tryz.zeroValue152 rfl ?_
    intro b47 w48 h49
    refine V_storeNew h49 Tryz.sizeOf152 rfl rfl rfl rfl (by exact (List.forall_mem_cons.2 ⟨rfl, (List.forall_mem_cons.2 ⟨rfl, (List.forall_mem_cons.2 ⟨rfl, (List.forall_mem_cons.2 ⟨rfl, (fun _ h => nomatch h)⟩)⟩)⟩)⟩)) ?_
    intro w50 h51
    have hk53 := h51.kp (Dw := Dw)
    have h52 : El (α := level_Test) A31 w50 b47 0 x42 := h51.el hA ⟨[.int .i64 x42.field], _, rfl, rfl, ⟨[.int .i64 x42.value.kind], _, rfl, rfl, ⟨[.int .i64 x42.value.int], _, rfl, rfl, rfl⟩⟩⟩
    have ht54 := Kp.tr (Dw := Dw) hk53 hA hB
    replace hH := Hp.kp (Dw := Dw) hH hk53
    replace hK := Tr.trans (Dw := Dw) hK ht54
    replace hr22 := Tr.trans (Dw := Dw) hr22 ht54
    replace hB := Nat.le_trans hB ht54.ex.size
    replace hA := ht54.new
    refine V_to (fun _ _ => rfl) ?_
    refine C_seq ?_
    refine C_seq ?_
    refine C_region ?_
    obtain ⟨h55, _⟩ := El_level_Test h52
    refine V_y (Y_loadA h55 Tryz.isAgg152 Tryz.sizeOf152 rfl) rfl rfl rfl ?_
    refine V_y (Y_move rfl) rfl rfl rfl ?_
    obtain ⟨x56, hx56, h34⟩ := Option.bind_eq_some_iff.1 h34
    refine V_call Tryz.call74 rfl rfl rfl rfl (level_checkTest_c (Dw := Dw) w50 hA x42 s29 hx56) ?_
    rintro _ w57 ⟨rfl, hk58⟩
    have ht59 := Kp.tr (Dw := Dw) hk58 hA hB
    replace hH := Hp.kp (Dw := Dw) hH hk58
    replace h52 := El.tr (Dw := Dw) h52 ht59
    replace hK := Tr.trans (Dw := Dw) hK ht59
    replace hr22 := Tr.trans (Dw := Dw) hr22 ht59
    refine V_y (Y_assign rfl) rfl rfl rfl ?_
    refine V_to (fun _ _ => rfl) ?_
    refine C_seq ?_
    refine C_region ?_
    refine V_y (Y_move rfl) rfl rfl rfl ?_
    refine V_y (Y_neq rfl rfl) rfl rfl rfl ?_
    refine V_to (fun _ _ => rfl) ?_
    refine C_cond rfl (fun hc60 => ?_) (fun hc60 => ?_)
    ·rw [if_pos hc60] at h34
     refine C_seq ?_
     refine C_region ?_
     refine V_y (Y_move rfl) rfl rfl rfl ?_
     refine V_y (Y_assign rfl) rfl rfl rfl ?_
     refine V_to (fun _ _ => rfl) ?_
     obtain rfl := Option.some.inj h34
     obtain rfl := (h35 : Lp.rt _ = _)
     rw [Lp.andThen_rt] at hm
     obtain rfl := Option.some.inj hm
     refine C_ret ?_
     try simp only [↓inBlock_ret, ↓then_ret]
     exact retQ rfl (Res.one Tryz.results55 rfl) ⟨rfl, hK.kp⟩
    ·rw [if_neg (nt hc60)] at h34
     refine C_skip_to (fun _ _ => rfl) ?_
     refine C_region ?_
     have h61 := El_level_Test_0 h52
     refine V_y (Y_fieldAddr Tryz.underlying152 rfl Tryz.sizeOf3 (by decide) rfl) rfl rfl rfl ?_
     refine V_y (Y_load (El.int h61) Tryz.isAgg3 rfl) rfl rfl rfl ?_
     refine V_y (Y_assign rfl) rfl rfl rfl ?_
     refine V_to (fun _ _ => rfl) ?_
     refine C_region ?_
     refine V_y (Y_addI rfl rfl) rfl rfl rfl ?_
     refine V_y (Y_move rfl) rfl rfl rfl ?_
     obtain rfl := Option.some.inj h34
     refine V_end (fun a ha62 => ?_)
     exact ⟨x42.field, hlt37, h35, ⟨A31, ha62.sub ⟨rfl, rfl, rfl, rfl, (congrArg (fun z => some (Value.int .i64 z)) (w64_succ hlt37 hn40)), trivial⟩, ⟨hH, hr22⟩⟩⟩
   ·refine C_exit (fun a ha63 => ?_)
    exact ⟨(s29, A31), ha63.sub ⟨rfl, trivial⟩, ⟨(h38 (eq_of_dec hle36 hc41)).symm, hH, hr22⟩⟩
  rintro ⟨s21, A27⟩ w24 ⟨rfl, hH28, hk25⟩ a ha26
  rw [Lp.andThen_fin] at hm
  replace h8 := El.tr (Dw := Dw) h8 hk25
  replace hK := Tr.trans (Dw := Dw) hK hk25
  replace hB := Nat.le_trans hB hk25.ex.size
  replace hA := hk25.new
  replace hH : Hp w.heap.size A27 w24 ([]) := hH28
  refine C_at (n := ⟨68, [], none⟩) (fun _ _ => rfl) ?_ ha26
  refine C_seq ?_
  refine C_seq ?_
  refine C_region ?_
  have h65 := El_level_Level_2 h8
  refine V_y (Y_fieldAddr Tryz.underlying147 rfl Tryz.sizeOf145 (by decide) rfl) rfl rfl rfl ?_
  obtain ⟨v66, h67, h68⟩ := El.list h65
  refine V_y (Y_load h67 Tryz.isAgg145 rfl) rfl rfl rfl ?_
  refine V_y (Y_lenSl h68 rfl Tryz.underlying145 rfl) rfl rfl rfl ?_
  refine V_y (Y_move rfl) rfl rfl rfl ?_
  refine V_to (fun _ _ => rfl) ?_
  have hn89 := Sl.le h68
  obtain ⟨o69, ho69, hm⟩ := Option.bind_eq_some_iff.1 hm
  refine C_cutG (ι := (Unit × (Nat → Prop))) (fun ⟨s70, A76⟩ => []) (fun ⟨s70, A76⟩ => fun w' => o69 = .fin s70 ∧ Hp w.heap.size A76 w' ([]) ∧ Tr Dw w.heap.size A27 w24 A76 w') ?_ ?_
  ·refine C_block ?_
   refine C_range ho69 (fun k72 _ a w' => ∃ i : (Nat → Prop), Has ⟨68, [], none⟩ a ([(1, .pointer (some ⟨b5, 0, none⟩)), (30, v66), (31, .int .i64 (l.targets.length : Int)), (32, .int .i64 (k72 : Int))]) ∧ Hp w.heap.size i w' ([]) ∧ Tr Dw w.heap.size A27 w24 i w') (fun a ha => ⟨A27, ha.sub ⟨rfl, rfl, rfl, rfl, trivial⟩, ⟨hH, Tr.refl (Dw := Dw) hA⟩⟩) ?_
   rintro K k72 _ a w79 ⟨A80, ha130, hH81, hr71⟩ hle85 K88 h87
   refine C_of ?_ ha130
   replace h8 := El.tr (Dw := Dw) h8 hr71
   replace h68 := Sl.tr (Dw := Dw) h68 hr71
   replace hK := Tr.trans (Dw := Dw) hK hr71
   replace hB := Nat.le_trans hB hr71.ex.size
   replace hA := hr71.new
   replace hH : Hp w.heap.size A80 w79 ([]) := hH81
   refine C_seq (C_region (V_y (Y_lss rfl rfl) rfl rfl rfl (V_to (fun _ _ => rfl) ?_)))
   refine C_seq ?_
   refine C_cond rfl (fun hc90 => ?_) (fun hc90 => ?_)
   ·have hlt86 := lt_of_dec hc90
    obtain ⟨x82, h83, h84⟩ := K88 hlt86
    refine C_skip_to (fun _ _ => rfl) ?_
    refine C_seq ?_
    refine C_block ?_
    refine C_seq ?_
    refine C_region ?_
    refine V_y (Y_move rfl) rfl rfl rfl ?_
    obtain ⟨x91, hx91, h83⟩ := Option.bind_eq_some_iff.1 h83
    refine V_indexAddr h68 hx91 Tryz.underlying145 Tryz.sizeOf49 rfl rfl rfl ?_
    intro b92 o93 h94
    obtain ⟨h95, _⟩ := El_level_Target h94
    refine V_y (Y_loadA h95 Tryz.isAgg49 Tryz.sizeOf49 rfl) rfl rfl rfl ?_
    refine V_alloc Tryz.zeroValue49 rfl ?_
    intro b96 w97 h98
    refine V_y (Y_assign rfl) rfl rfl rfl ?_
    refine V_storeNew h98 Tryz.sizeOf49 rfl rfl rfl rfl (by exact (List.forall_mem_cons.2 ⟨rfl, (List.forall_mem_cons.2 ⟨rfl, (List.forall_mem_cons.2 ⟨rfl, (fun _ h => nomatch h)⟩)⟩)⟩)) ?_
    intro w99 h100
    have hk102 := h100.kp (Dw := Dw)
    have h101 : El (α := level_Target) A80 w99 b96 0 x91 := h100.el hA ⟨[.int .i64 x91.kind], _, rfl, rfl, ⟨[.int .i64 x91.minutes], _, rfl, rfl, rfl⟩⟩
    have ht103 := Kp.tr (Dw := Dw) hk102 hA hB
    replace hH := Hp.kp (Dw := Dw) hH hk102
    replace h8 := El.tr (Dw := Dw) h8 ht103
    replace hK := Tr.trans (Dw := Dw) hK ht103
    replace hr71 := Tr.trans (Dw := Dw) hr71 ht103
    replace hB := Nat.le_trans hB ht103.ex.size
    replace hA := ht103.new
    refine V_to (fun _ _ => rfl) ?_
    refine C_seq ?_
    refine C_seq ?_
    refine C_region ?_
    have h104 := El_level_Target_0 h101
    refine V_y (Y_fieldAddr Tryz.underlying49 rfl Tryz.sizeOf3 (by decide) rfl) rfl rfl rfl ?_
    refine V_y (Y_load (El.int h104) Tryz.isAgg3 rfl) rfl rfl rfl ?_
    refine V_call Tryz.call52 rfl rfl rfl rfl (level_within_c w99 x91.kind 1 3) ?_
    rintro _ _ ⟨rfl, rfl⟩
    refine V_y (Y_not rfl) rfl rfl rfl ?_
    refine V_y (Y_move rfl) rfl rfl rfl ?_
    refine V_cut 5 (fun _ : Unit => [(1, .pointer (some ⟨b5, 0, none⟩)), (7, .int .i64 (k72 : Int)), (8, .pointer (some ⟨b96, 0, none⟩)), (30, v66), (31, .int .i64 (l.targets.length : Int)), (32, .int .i64 (k72 : Int)), (46, .bool ((!(level_within x91.kind 1 3)) || (!(level_within x91.minutes 0 100000))))]) (fun _ w' => w99 = w') ?_ ?_
    ·simp only [List.take, List.drop]
     rcases Bool.eq_false_or_eq_true (!(level_within x91.kind 1 3)) with hc105 | hc105
     ·refine V_gn rfl rfl rfl hc105 rfl rfl rfl ?_
      refine V_gn rfl rfl rfl hc105 rfl rfl rfl ?_
      refine V_gn rfl rfl rfl hc105 rfl rfl rfl ?_
      refine V_gn rfl rfl rfl hc105 rfl rfl rfl ?_
      refine V_y (Y_pick_te rfl hc105 rfl) rfl rfl rfl ?_
      exact V_end fun a ha => ⟨(), ha.sub ⟨rfl, rfl, rfl, rfl, rfl, rfl, (by rw [hc105]; rfl), trivial⟩, rfl⟩
     ·refine V_ge rfl rfl rfl hc105 ?_
      have h107 := El_level_Target_1 h101
      refine V_y (Y_fieldAddr Tryz.underlying49 rfl Tryz.sizeOf3 (by decide) rfl) rfl rfl rfl ?_
      refine V_ge rfl rfl rfl hc105 ?_
      refine V_y (Y_load (El.int h107) Tryz.isAgg3 rfl) rfl rfl rfl ?_
      refine V_ge rfl rfl rfl hc105 ?_
      refine V_call Tryz.call52 rfl rfl rfl rfl (level_within_c w99 x91.minutes 0 100000) ?_
      rintro _ _ ⟨rfl, rfl⟩
      refine V_ge rfl rfl rfl hc105 ?_
      refine V_y (Y_not rfl) rfl rfl rfl ?_
      refine V_y (Y_pick_fe rfl hc105 rfl) rfl rfl rfl ?_
      exact V_end fun a ha => ⟨(), ha.sub ⟨rfl, rfl, rfl, rfl, rfl, rfl, (by rw [hc105]; rfl), trivial⟩, rfl⟩
    simp only [List.take, List.drop]
    rintro _ _ rfl
    refine V_y (Y_move rfl) rfl rfl rfl ?_
    refine V_cut 5 (fun _ : Unit => [(1, .pointer (some ⟨b5, 0, none⟩)), (7, .int .i64 (k72 : Int)), (8, .pointer (some ⟨b96, 0, none⟩)), (30, v66), (31, .int .i64 (l.targets.length : Int)), (32, .int .i64 (k72 : Int)), (52, .bool (((!(level_within x91.kind 1 3)) || (!(level_within x91.minutes 0 100000))) || (!(level_within x91.calendar 0 19))))]) (fun _ w' => w99 = w') ?_ ?_
    ·simp only [List.take, List.drop]
     rcases Bool.eq_false_or_eq_true (((!(level_within x91.kind 1 3)) || (!(level_within x91.minutes 0 100000)))) with hc108 | hc108
     ·refine V_gn rfl rfl rfl hc108 rfl rfl rfl ?_
      refine V_gn rfl rfl rfl hc108 rfl rfl rfl ?_
      refine V_gn rfl rfl rfl hc108 rfl rfl rfl ?_
      refine V_gn rfl rfl rfl hc108 rfl rfl rfl ?_
      refine V_y (Y_pick_te rfl hc108 rfl) rfl rfl rfl ?_
      exact V_end fun a ha => ⟨(), ha.sub ⟨rfl, rfl, rfl, rfl, rfl, rfl, (by rw [hc108]; rfl), trivial⟩, rfl⟩
     ·refine V_ge rfl rfl rfl hc108 ?_
      have h110 := El_level_Target_2 h101
      refine V_y (Y_fieldAddr Tryz.underlying49 rfl Tryz.sizeOf3 (by decide) rfl) rfl rfl rfl ?_
      refine V_ge rfl rfl rfl hc108 ?_
      refine V_y (Y_load (El.int h110) Tryz.isAgg3 rfl) rfl rfl rfl ?_
      refine V_ge rfl rfl rfl hc108 ?_
      refine V_call Tryz.call52 rfl rfl rfl rfl (level_within_c w99 x91.calendar 0 19) ?_
      rintro _ _ ⟨rfl, rfl⟩
      refine V_ge rfl rfl rfl hc108 ?_
      refine V_y (Y_not rfl) rfl rfl rfl ?_
      refine V_y (Y_pick_fe rfl hc108 rfl) rfl rfl rfl ?_
      exact V_end fun a ha => ⟨(), ha.sub ⟨rfl, rfl, rfl, rfl, rfl, rfl, (by rw [hc108]; rfl), trivial⟩, rfl⟩
    simp only [List.take, List.drop]
    rintro _ _ rfl
    refine V_to (fun _ _ => rfl) ?_
    refine C_cond rfl (fun hc111 => ?_) (fun hc111 => ?_)
    ·rw [if_pos hc111] at h83
     refine C_seq ?_
     refine C_region ?_
     refine V_y (Y_assign rfl) rfl rfl rfl ?_
     refine V_to (fun _ _ => rfl) ?_
     obtain rfl := Option.some.inj h83
     obtain rfl := (h84 : Lp.rt _ = _)
     rw [Lp.andThen_rt] at hm
     obtain rfl := Option.some.inj hm
     refine C_ret ?_
     try simp only [↓inBlock_ret, ↓then_ret]
     exact retQ rfl (Res.one Tryz.results55 rfl) ⟨rfl, hK.kp⟩
    ·rw [if_neg (nt hc111)] at h83
     refine C_skip_to (fun _ _ => rfl) ?_
     refine C_seq ?_
     refine C_region_q (Dw := Dw) Tryz_mixed (by kernel_rfl) ?_
     refine VQ_y (fun w' hw' => Y_move rfl) rfl rfl rfl ?_
     refine VQ_y (fun w' hw' => Y_gtr rfl rfl) rfl rfl rfl ?_
     refine VQ_y (fun w' hw' => Y_move rfl) rfl rfl rfl ?_
     obtain ⟨s113, hs113, h83⟩ := Option.bind_eq_some_iff.1 h83
     refine VQ_cut 11 (fun _ : Unit => [(1, .pointer (some ⟨b5, 0, none⟩)), (30, v66), (31, .int .i64 (l.targets.length : Int)), (32, .int .i64 (k72 : Int)), (66, .bool s113)]) (fun _ => True) ?_ ?_
     ·simp only [List.take, List.drop]
      rcases Bool.eq_false_or_eq_true (decide ((0 : Int) < (k72 : Int))) with hc112 | hc112
      ·rw [if_pos hc112] at hs113
       refine VQ_ge rfl rfl rfl hc112 ?_
       have h114 := El_level_Target_0 h101
       refine VQ_y (fun w' hw' => Y_fieldAddr Tryz.underlying49 rfl Tryz.sizeOf3 (by decide) rfl) rfl rfl rfl ?_
       refine VQ_ge rfl rfl rfl hc112 ?_
       refine VQ_y (fun w' hw' => Y_load (El.int (El.kp (Dw := Dw) h114 hw')) Tryz.isAgg3 rfl) rfl rfl rfl ?_
       refine VQ_ge rfl rfl rfl hc112 ?_
       have h115 := El_level_Level_2 h8
       refine VQ_y (fun w' hw' => Y_fieldAddr Tryz.underlying147 rfl Tryz.sizeOf145 (by decide) rfl) rfl rfl rfl ?_
       refine VQ_ge rfl rfl rfl hc112 ?_
       obtain ⟨v116, h117, h118⟩ := El.list h115
       refine VQ_y (fun w' hw' => Y_load ((World.cell?_of_block (hw'.block _ (World.block_lt_of_cell? _ _ h117))).trans h117) Tryz.isAgg145 rfl) rfl rfl rfl ?_
       refine VQ_ge rfl rfl rfl hc112 ?_
       refine VQ_y (fun w' hw' => Y_move rfl) rfl rfl rfl ?_
       refine VQ_ge rfl rfl rfl hc112 ?_
       refine VQ_y (fun w' hw' => Y_subI rfl rfl) rfl rfl rfl ?_
       refine VQ_ge rfl rfl rfl hc112 ?_
       obtain ⟨x119, hx119, hs113⟩ := Option.bind_eq_some_iff.1 hs113
       refine VQ_indexAddr h118 hx119 Tryz.underlying145 Tryz.sizeOf49 rfl rfl rfl ?_
       intro b120 o121 h122
       refine VQ_ge rfl rfl rfl hc112 ?_
       have h123 := El_level_Target_0 h122
       refine VQ_y (fun w' hw' => Y_fieldAddr Tryz.underlying49 rfl Tryz.sizeOf3 (by decide) rfl) rfl rfl rfl ?_
       refine VQ_ge rfl rfl rfl hc112 ?_
       refine VQ_y (fun w' hw' => Y_load (El.int (El.kp (Dw := Dw) h123 hw')) Tryz.isAgg3 rfl) rfl rfl rfl ?_
       refine VQ_ge rfl rfl rfl hc112 ?_
       refine VQ_y (fun w' hw' => Y_leq rfl rfl) rfl rfl rfl ?_
       refine VQ_y (fun _ _ => Y_pick_te rfl hc112 rfl) rfl rfl rfl ?_
       obtain rfl := Option.some.inj hs113
       exact VQ_end fun a ha => ⟨(), ha.sub ⟨rfl, rfl, rfl, rfl, rfl, trivial⟩, trivial⟩
      ·rw [if_neg (nt hc112)] at hs113
       refine VQ_gn rfl rfl rfl hc112 rfl rfl rfl ?_
       refine VQ_gn rfl rfl rfl hc112 rfl rfl rfl ?_
       refine VQ_gn rfl rfl rfl hc112 rfl rfl rfl ?_
       refine VQ_gn rfl rfl rfl hc112 rfl rfl rfl ?_
       refine VQ_gn rfl rfl rfl hc112 rfl rfl rfl ?_
       refine VQ_gn rfl rfl rfl hc112 rfl rfl rfl ?_
       refine VQ_gn rfl rfl rfl hc112 rfl rfl rfl ?_
       refine VQ_gn rfl rfl rfl hc112 rfl rfl rfl ?_
       refine VQ_gn rfl rfl rfl hc112 rfl rfl rfl ?_
       refine VQ_gn rfl rfl rfl hc112 rfl rfl rfl ?_
       refine VQ_y (fun _ _ => Y_pick_fe rfl hc112 rfl) rfl rfl rfl ?_
       obtain rfl := Option.some.inj hs113
       exact VQ_end fun a ha => ⟨(), ha.sub ⟨rfl, rfl, rfl, rfl, rfl, trivial⟩, trivial⟩
     simp only [List.take, List.drop]
     rintro _ _
     refine VQ_to (fun _ _ => rfl) (fun w124 hk125 => ?_)
     have ht126 := Kp.tr (Dw := Dw) hk125 hA hB
     replace hH := Hp.kp (Dw := Dw) hH hk125
     replace hK := Tr.trans (Dw := Dw) hK ht126
     replace hr71 := Tr.trans (Dw := Dw) hr71 ht126
     refine C_cond rfl (fun hc127 => ?_) (fun hc127 => ?_)
     ·rw [if_pos hc127] at h83
      refine C_seq ?_
      refine C_region ?_
      refine V_y (Y_assign rfl) rfl rfl rfl ?_
      refine V_to (fun _ _ => rfl) ?_
      obtain rfl := Option.some.inj h83
      obtain rfl := (h84 : Lp.rt _ = _)
      rw [Lp.andThen_rt] at hm
      obtain rfl := Option.some.inj hm
      refine C_ret ?_
      try simp only [↓inBlock_ret, ↓then_ret]
      exact retQ rfl (Res.one Tryz.results55 rfl) ⟨rfl, hK.kp⟩
     ·rw [if_neg (nt hc127)] at h83
      refine C_skip_to (fun _ _ => rfl) ?_
      refine C_region ?_
      refine V_y (Y_addI rfl rfl) rfl rfl rfl ?_
      refine V_y (Y_move rfl) rfl rfl rfl ?_
      obtain rfl := Option.some.inj h83
      refine V_end (fun a ha128 => ?_)
      exact ⟨(), hlt86, h84, ⟨A80, ha128.sub ⟨rfl, rfl, rfl, (congrArg (fun z => some (Value.int .i64 z)) (w64_succ hlt86 hn89)), trivial⟩, ⟨hH, hr71⟩⟩⟩
   ·refine C_exit (fun a ha129 => ?_)
    exact ⟨((), A80), ha129.sub trivial, ⟨(h87 (eq_of_dec hle85 hc90)).symm, hH, hr71⟩⟩
  rintro ⟨s70, A76⟩ w73 ⟨rfl, hH77, hk74⟩ a ha75
  rw [Lp.andThen_fin] at hm
  replace hK := Tr.trans (Dw := Dw) hK hk74
  replace hA := hk74.new
  replace hH : Hp w.heap.size A76 w73 ([]) := hH77
  refine C_at (n := ⟨68, [], none⟩) (fun _ _ => rfl) ?_ ha75
  refine C_seq ?_
  refine C_region ?_
  refine V_y (Y_assign rfl) rfl rfl rfl ?_
  refine V_to (fun _ _ => rfl) ?_
  obtain rfl := Option.some.inj hm
  refine C_ret ?_
  try simp only [↓inBlock_ret, ↓then_ret]
  exact retQ rfl (Res.one Tryz.results55 rfl) ⟨rfl, hK.kp⟩
set_option maxRecDepth 4000 in
set_option maxHeartbeats 4000000 in
theorem level_CheckPolicy_c (w : World) {A : Nat → Prop} (hA : ∀ b, w.heap.size ≤ b → A b) (p : level_Policy) (v_p0 : Value) (h_p0 : Sl A w v_p0 p.pauses) (v_p1 : Value) (h_p1 : Sl A w v_p1 p.levels) {r : Int} (hm : level_CheckPolicy p = some r) : Ret Tryz.prog 9 #[.agg #[v_p0, v_p1]] w fun v w' => v = .int .i64 r ∧ Kp Dw w w' := by
 unfold level_CheckPolicy at hm
 refine enter Tryz.func9 rfl Tryz.ntmps9 rfl ?_
 have hA0 := hA
 have hB := Nat.le_refl w.heap.size
 have hK : Tr Dw w.heap.size A w A w := Tr.refl (Dw := Dw) hA
 have hH : Hp w.heap.size A w [] := Hp.nil
 refine C_seq ?_
 refine C_region ?_
 refine V_box rfl rfl ?_
 intro b5 w6 h7
 have hk9 := h7.kp (Dw := Dw)
 have h8 : El (α := level_Policy) A w6 b5 0 p := h7.el hA ⟨[v_p0], _, rfl, ⟨_, rfl, h_p0⟩, ⟨_, rfl, h_p1⟩⟩
 have ht10 := Kp.tr (Dw := Dw) hk9 hA hB
 replace hH := Hp.kp (Dw := Dw) hH hk9
 replace hK := Tr.trans (Dw := Dw) hK ht10
 replace hB := Nat.le_trans hB ht10.ex.size
 replace hA := ht10.new
 refine V_y (Y_assign rfl) rfl rfl rfl ?_
 refine V_to (fun _ _ => rfl) ?_
 refine C_seq ?_
 refine C_seq ?_
 refine C_region ?_
 have h11 := El_level_Policy_0 h8
 refine V_y (Y_fieldAddr Tryz.underlying25 rfl Tryz.sizeOf22 (by decide) rfl) rfl rfl rfl ?_
 obtain ⟨v12, h13, h14⟩ := El.list h11
 refine V_y (Y_load h13 Tryz.isAgg22 rfl) rfl rfl rfl ?_
 refine V_y (Y_lenSl h14 rfl Tryz.underlying22 rfl) rfl rfl rfl ?_
 refine V_y (Y_move rfl) rfl rfl rfl ?_
 refine V_to (fun _ _ => rfl) ?_
 have hn31 := Sl.le h14
 obtain ⟨o15, ho15, hm⟩ := Option.bind_eq_some_iff.1 hm
 refine C_cutG (ι := Unit) (fun (s16 : Unit) => [(1, .pointer (some ⟨b5, 0, none⟩))]) (fun (s16 : Unit) => fun w' => o15 = .fin s16 ∧ w6 = w') ?_ ?_
 ·refine C_block ?_
  refine C_range ho15 (fun k18 _ a w' => ∃ i : Unit, Has ⟨62, [], none⟩ a ([(1, .pointer (some ⟨b5, 0, none⟩)), (10, v12), (11, .int .i64 (p.pauses.length : Int)), (12, .int .i64 (k18 : Int))]) ∧ w6 = w') (fun a ha => ⟨(), ha.sub ⟨rfl, rfl, rfl, rfl, trivial⟩, rfl⟩) ?_
  rintro K k18 _ a _ ⟨_, ha51, rfl⟩ hle27 K30 h29
  refine C_of ?_ ha51
  refine C_seq (C_region (V_y (Y_lss rfl rfl) rfl rfl rfl (V_to (fun _ _ => rfl) ?_)))
  refine C_seq ?_
  refine C_cond rfl (fun hc32 => ?_) (fun hc32 => ?_)
  ·have hlt28 := lt_of_dec hc32
   obtain ⟨x24, h25, h26⟩ := K30 hlt28
   refine C_skip_to (fun _ _ => rfl) ?_
   refine C_seq ?_
   refine C_block ?_
   refine C_seq ?_
   refine C_region ?_
   refine V_y (Y_move rfl) rfl rfl rfl ?_
   obtain ⟨x33, hx33, h25⟩ := Option.bind_eq_some_iff.1 h25
   refine V_indexAddr h14 hx33 Tryz.underlying22 Tryz.sizeOf3 rfl rfl rfl ?_
   intro b34 o35 h36
   refine V_y (Y_load (El.int h36) Tryz.isAgg3 rfl) rfl rfl rfl ?_
   refine V_y (Y_assign rfl) rfl rfl rfl ?_
   refine V_y (Y_assign rfl) rfl rfl rfl ?_
   refine V_to (fun _ _ => rfl) ?_
   refine C_seq ?_
   refine C_seq ?_
   refine C_region ?_
   refine V_y (Y_move rfl) rfl rfl rfl ?_
   refine V_call Tryz.call52 rfl rfl rfl rfl (level_within_c w6 x33 1 4) ?_
   rintro _ _ ⟨rfl, rfl⟩
   refine V_y (Y_not rfl) rfl rfl rfl ?_
   refine V_to (fun _ _ => rfl) ?_
   refine C_cond rfl (fun hc37 => ?_) (fun hc37 => ?_)
   ·rw [if_pos hc37] at h25
    refine C_seq ?_
    refine C_region ?_
    refine V_y (Y_assign rfl) rfl rfl rfl ?_
    refine V_to (fun _ _ => rfl) ?_
    obtain rfl := Option.some.inj h25
    obtain rfl := (h26 : Lp.rt _ = _)
    rw [Lp.andThen_rt] at hm
    obtain rfl := Option.some.inj hm
    refine C_ret ?_
    try simp only [↓inBlock_ret, ↓then_ret]
    exact retQ rfl (Res.one Tryz.results9 rfl) ⟨rfl, hK.kp⟩
   ·rw [if_neg (nt hc37)] at h25
    refine C_skip_to (fun _ _ => rfl) ?_
    refine C_seq ?_
    refine C_region ?_
    refine V_y (Y_move rfl) rfl rfl rfl ?_
    refine V_y (Y_gtr rfl rfl) rfl rfl rfl ?_
    refine V_y (Y_move rfl) rfl rfl rfl ?_
    obtain ⟨s39, hs39, h25⟩ := Option.bind_eq_some_iff.1 h25
    refine V_cut 9 (fun _ : Unit => [(1, .pointer (some ⟨b5, 0, none⟩)), (10, v12), (11, .int .i64 (p.pauses.length : Int)), (12, .int .i64 (k18 : Int)), (31, .bool s39)]) (fun _ w' => w6 = w') ?_ ?_
    ·simp only [List.take, List.drop]
     rcases Bool.eq_false_or_eq_true (decide ((0 : Int) < (k18 : Int))) with hc38 | hc38
     ·rw [if_pos hc38] at hs39
      refine V_ge rfl rfl rfl hc38 ?_
      refine V_y (Y_move rfl) rfl rfl rfl ?_
      refine V_ge rfl rfl rfl hc38 ?_
      have h40 := El_level_Policy_0 h8
      refine V_y (Y_fieldAddr Tryz.underlying25 rfl Tryz.sizeOf22 (by decide) rfl) rfl rfl rfl ?_
      refine V_ge rfl rfl rfl hc38 ?_
      obtain ⟨v41, h42, h43⟩ := El.list h40
      refine V_y (Y_load h42 Tryz.isAgg22 rfl) rfl rfl rfl ?_
      refine V_ge rfl rfl rfl hc38 ?_
      refine V_y (Y_move rfl) rfl rfl rfl ?_
      refine V_ge rfl rfl rfl hc38 ?_
      refine V_y (Y_subI rfl rfl) rfl rfl rfl ?_
      refine V_ge rfl rfl rfl hc38 ?_
      obtain ⟨x44, hx44, hs39⟩ := Option.bind_eq_some_iff.1 hs39
      refine V_indexAddr h43 hx44 Tryz.underlying22 Tryz.sizeOf3 rfl rfl rfl ?_
      intro b45 o46 h47
      refine V_ge rfl rfl rfl hc38 ?_
      refine V_y (Y_load (El.int h47) Tryz.isAgg3 rfl) rfl rfl rfl ?_
      refine V_ge rfl rfl rfl hc38 ?_
      refine V_y (Y_leq rfl rfl) rfl rfl rfl ?_
      refine V_y (Y_pick_te rfl hc38 rfl) rfl rfl rfl ?_
      obtain rfl := Option.some.inj hs39
      exact V_end fun a ha => ⟨(), ha.sub ⟨rfl, rfl, rfl, rfl, rfl, trivial⟩, rfl⟩
     ·rw [if_neg (nt hc38)] at hs39
      refine V_gn rfl rfl rfl hc38 rfl rfl rfl ?_
      refine V_gn rfl rfl rfl hc38 rfl rfl rfl ?_
      refine V_gn rfl rfl rfl hc38 rfl rfl rfl ?_
      refine V_gn rfl rfl rfl hc38 rfl rfl rfl ?_
      refine V_gn rfl rfl rfl hc38 rfl rfl rfl ?_
      refine V_gn rfl rfl rfl hc38 rfl rfl rfl ?_
      refine V_gn rfl rfl rfl hc38 rfl rfl rfl ?_
      refine V_gn rfl rfl rfl hc38 rfl rfl rfl ?_
      refine V_y (Y_pick_fe rfl hc38 rfl) rfl rfl rfl ?_
      obtain rfl := Option.some.inj hs39
      exact V_end fun a ha => ⟨(), ha.sub ⟨rfl, rfl, rfl, rfl, rfl, trivial⟩, rfl⟩
    simp only [List.take, List.drop]
    rintro _ _ rfl
    refine V_to (fun _ _ => rfl) ?_
    refine C_cond rfl (fun hc48 => ?_) (fun hc48 => ?_)
    ·rw [if_pos hc48] at h25
     refine C_seq ?_
     refine C_region ?_
     refine V_y (Y_assign rfl) rfl rfl rfl ?_
     refine V_to (fun _ _ => rfl) ?_
     obtain rfl := Option.some.inj h25
     obtain rfl := (h26 : Lp.rt _ = _)
     rw [Lp.andThen_rt] at hm
     obtain rfl := Option.some.inj hm
     refine C_ret ?_
     try simp only [↓inBlock_ret, ↓then_ret]
     exact retQ rfl (Res.one Tryz.results9 rfl) ⟨rfl, hK.kp⟩
    ·rw [if_neg (nt hc48)] at h25
     refine C_skip_to (fun _ _ => rfl) ?_
     refine C_region ?_
     refine V_y (Y_addI rfl rfl) rfl rfl rfl ?_
     refine V_y (Y_move rfl) rfl rfl rfl ?_
     obtain rfl := Option.some.inj h25
     refine V_end (fun a ha49 => ?_)
     exact ⟨(), hlt28, h26, ⟨(), ha49.sub ⟨rfl, rfl, rfl, (congrArg (fun z => some (Value.int .i64 z)) (w64_succ hlt28 hn31)), trivial⟩, rfl⟩⟩
  ·refine C_exit (fun a ha50 => ?_)
   exact ⟨(), ha50.sub ⟨rfl, trivial⟩, ⟨(h29 (eq_of_dec hle27 hc32)).symm, rfl⟩⟩
 rintro s16 _ ⟨rfl, rfl⟩ a ha21
 rw [Lp.andThen_fin] at hm
 refine C_at (n := ⟨62, [], none⟩) (fun _ _ => rfl) ?_ ha21
 refine C_seq ?_
 refine C_seq ?_
 refine C_region ?_
 have h52 := El_level_Policy_1 h8
 refine V_y (Y_fieldAddr Tryz.underlying25 rfl Tryz.sizeOf23 (by decide) rfl) rfl rfl rfl ?_
 obtain ⟨v53, h54, h55⟩ := El.list h52
 refine V_y (Y_load h54 Tryz.isAgg23 rfl) rfl rfl rfl ?_
 refine V_y (Y_lenSl h55 rfl Tryz.underlying23 rfl) rfl rfl rfl ?_
 refine V_y (Y_gtr rfl rfl) rfl rfl rfl ?_
 refine V_to (fun _ _ => rfl) ?_
 refine C_cond rfl (fun hc56 => ?_) (fun hc56 => ?_)
 ·rw [if_pos hc56] at hm
  refine C_seq ?_
  refine C_region ?_
  refine V_y (Y_assign rfl) rfl rfl rfl ?_
  refine V_to (fun _ _ => rfl) ?_
  obtain rfl := Option.some.inj hm
  refine C_ret ?_
  try simp only [↓inBlock_ret, ↓then_ret]
  exact retQ rfl (Res.one Tryz.results9 rfl) ⟨rfl, hK.kp⟩
 ·rw [if_neg (nt hc56)] at hm
  refine C_skip_to (fun _ _ => rfl) ?_
  refine C_seq ?_
  refine C_region ?_
  refine V_makeMapS (Dw := Dw) (B := w.heap.size) ByteArray Bool hH hB hA rfl ?_
  intro b57 w58 A59 hH60 ht61
  replace h8 := El.tr (Dw := Dw) h8 ht61
  replace hK := Tr.trans (Dw := Dw) hK ht61
  replace hB := Nat.le_trans hB ht61.ex.size
  replace hA := ht61.new
  replace hH : Hp w.heap.size A59 w58 (obSM (κ := ByteArray) (α := Bool) b57 ([] : List (ByteArray × Bool)) :: []) := hH60
  refine V_y (Y_assign rfl) rfl rfl rfl ?_
  refine V_to (fun _ _ => rfl) ?_
  refine C_seq ?_
  refine C_seq ?_
  refine C_region ?_
  have h62 := El_level_Policy_1 h8
  refine V_y (Y_fieldAddr Tryz.underlying25 rfl Tryz.sizeOf23 (by decide) rfl) rfl rfl rfl ?_
  obtain ⟨v63, h64, h65⟩ := El.list h62
  refine V_y (Y_load h64 Tryz.isAgg23 rfl) rfl rfl rfl ?_
  refine V_y (Y_lenSl h65 rfl Tryz.underlying23 rfl) rfl rfl rfl ?_
  refine V_y (Y_move rfl) rfl rfl rfl ?_
  refine V_to (fun _ _ => rfl) ?_
  have hn86 := Sl.le h65
  obtain ⟨o66, ho66, hm⟩ := Option.bind_eq_some_iff.1 hm
  refine C_cutG (ι := ((List (ByteArray × Bool)) × (Nat → Prop))) (fun ⟨s67, A73⟩ => []) (fun ⟨s67, A73⟩ => fun w' => o66 = .fin s67 ∧ Hp w.heap.size A73 w' (obSM (κ := ByteArray) (α := Bool) b57 s67 :: []) ∧ Tr Dw w.heap.size A59 w58 A73 w') ?_ ?_
  ·refine C_block ?_
   refine C_range ho66 (fun k69 s75 a w' => ∃ i : (Nat → Prop), Has ⟨62, [], none⟩ a ([(5, .map (some b57)), (39, v63), (40, .int .i64 (p.levels.length : Int)), (41, .int .i64 (k69 : Int))]) ∧ Hp w.heap.size i w' (obSM (κ := ByteArray) (α := Bool) b57 s75 :: []) ∧ Tr Dw w.heap.size A59 w58 i w') (fun a ha => ⟨A59, ha.sub ⟨rfl, rfl, rfl, rfl, trivial⟩, ⟨hH, Tr.refl (Dw := Dw) hA⟩⟩) ?_
   rintro K k69 s75 a w76 ⟨A77, ha132, hH78, hr68⟩ hle82 K85 h84
   refine C_of ?_ ha132
   replace h65 := Sl.tr (Dw := Dw) h65 hr68
   replace hK := Tr.trans (Dw := Dw) hK hr68
   replace hB := Nat.le_trans hB hr68.ex.size
   replace hA := hr68.new
   replace hH : Hp w.heap.size A77 w76 (obSM (κ := ByteArray) (α := Bool) b57 s75 :: []) := hH78
   refine C_seq (C_region (V_y (Y_lss rfl rfl) rfl rfl rfl (V_to (fun _ _ => rfl) ?_)))
   refine C_seq ?_
   refine C_cond rfl (fun hc87 => ?_) (fun hc87 => ?_)
   ·have hlt83 := lt_of_dec hc87
    obtain ⟨x79, h80, h81⟩ := K85 hlt83
    refine C_skip_to (fun _ _ => rfl) ?_
    refine C_seq ?_
    refine C_block ?_
    refine C_seq ?_
    refine C_region ?_
    obtain ⟨x88, hx88, h80⟩ := Option.bind_eq_some_iff.1 h80
    refine V_indexAddr h65 hx88 Tryz.underlying23 Tryz.sizeOf147 rfl rfl rfl ?_
    intro b89 o90 h91
    obtain ⟨v92, v94, h96, h93, h95⟩ := El_level_Level h91
    refine V_y (Y_loadA h96 Tryz.isAgg147 Tryz.sizeOf147 rfl) rfl rfl rfl ?_
    refine V_alloc Tryz.zeroValue147 rfl ?_
    intro b97 w98 h99
    have h104 : (v92).oneCell' = true := by obtain ⟨_, _, e, _⟩ := Sl.form h93; rw [e]; rfl
    have h107 : (v94).oneCell' = true := by obtain ⟨_, _, e, _⟩ := Sl.form h95; rw [e]; rfl
    refine V_storeNew h99 Tryz.sizeOf147 rfl rfl rfl rfl (by exact (List.forall_mem_cons.2 ⟨rfl, (List.forall_mem_cons.2 ⟨h104, (List.forall_mem_cons.2 ⟨h107, (fun _ h => nomatch h)⟩)⟩)⟩)) ?_
    intro w100 h101
    have hk109 := h101.kp (Dw := Dw)
    have h108 : El (α := level_Level) A77 w100 b97 0 x88 := h101.el hA ⟨[.string x88.name], _, rfl, rfl, ⟨[v92], _, rfl, ⟨_, rfl, h93⟩, ⟨_, rfl, h95⟩⟩⟩
    have ht110 := Kp.tr (Dw := Dw) hk109 hA hB
    replace hH := Hp.kp (Dw := Dw) hH hk109
    replace hK := Tr.trans (Dw := Dw) hK ht110
    replace hr68 := Tr.trans (Dw := Dw) hr68 ht110
    replace hB := Nat.le_trans hB ht110.ex.size
    replace hA := ht110.new
    refine V_to (fun _ _ => rfl) ?_
    refine C_seq ?_
    refine C_seq ?_
    refine C_region ?_
    have h111 := El_level_Level_0 h108
    refine V_y (Y_fieldAddr Tryz.underlying147 rfl Tryz.sizeOf9 (by decide) rfl) rfl rfl rfl ?_
    refine V_y (Y_load (El.str h111) Tryz.isAgg9 rfl) rfl rfl rfl ?_
    obtain ⟨x112, hx112, h80⟩ := Option.bind_eq_some_iff.1 h80
    refine V_call Tryz.call54 rfl rfl rfl rfl (level_name_c w100 x88.name hx112) ?_
    rintro _ _ ⟨rfl, rfl⟩
    refine V_y (Y_not rfl) rfl rfl rfl ?_
    refine V_to (fun _ _ => rfl) ?_
    refine C_cond rfl (fun hc113 => ?_) (fun hc113 => ?_)
    ·rw [if_pos hc113] at h80
     refine C_seq ?_
     refine C_region ?_
     refine V_y (Y_assign rfl) rfl rfl rfl ?_
     refine V_to (fun _ _ => rfl) ?_
     obtain rfl := Option.some.inj h80
     obtain rfl := (h81 : Lp.rt _ = _)
     rw [Lp.andThen_rt] at hm
     obtain rfl := Option.some.inj hm
     refine C_ret ?_
     try simp only [↓inBlock_ret, ↓then_ret]
     exact retQ rfl (Res.one Tryz.results9 rfl) ⟨rfl, hK.kp⟩
    ·rw [if_neg (nt hc113)] at h80
     refine C_skip_to (fun _ _ => rfl) ?_
     refine C_seq ?_
     refine C_seq ?_
     refine C_region ?_
     refine V_y (Y_move rfl) rfl rfl rfl ?_
     have h114 := El_level_Level_0 h108
     refine V_y (Y_fieldAddr Tryz.underlying147 rfl Tryz.sizeOf9 (by decide) rfl) rfl rfl rfl ?_
     refine V_y (Y_load (El.str h114) Tryz.isAgg9 rfl) rfl rfl rfl ?_
     refine V_y (Y_lookupS (κ := ByteArray) (α := Bool) (z := false) (l := s75) hH (i := 0) rfl Tryz.underlying164 Tryz.underlying9 Tryz.zeroValue4 rfl rfl rfl) rfl rfl rfl ?_
     refine V_to (fun _ _ => rfl) ?_
     refine C_cond rfl (fun hc115 => ?_) (fun hc115 => ?_)
     ·rw [if_pos hc115] at h80
      refine C_seq ?_
      refine C_region ?_
      refine V_y (Y_assign rfl) rfl rfl rfl ?_
      refine V_to (fun _ _ => rfl) ?_
      obtain rfl := Option.some.inj h80
      obtain rfl := (h81 : Lp.rt _ = _)
      rw [Lp.andThen_rt] at hm
      obtain rfl := Option.some.inj hm
      refine C_ret ?_
      try simp only [↓inBlock_ret, ↓then_ret]
      exact retQ rfl (Res.one Tryz.results9 rfl) ⟨rfl, hK.kp⟩
     ·rw [if_neg (nt hc115)] at h80
      refine C_skip_to (fun _ _ => rfl) ?_
      refine C_seq ?_
      refine C_region ?_
      refine V_y (Y_move rfl) rfl rfl rfl ?_
      have h116 := El_level_Level_0 h108
      refine V_y (Y_fieldAddr Tryz.underlying147 rfl Tryz.sizeOf9 (by decide) rfl) rfl rfl rfl ?_
      refine V_y (Y_load (El.str h116) Tryz.isAgg9 rfl) rfl rfl rfl ?_
      refine V_mapUpdateS (Dw := Dw) (κ := ByteArray) (α := Bool) (l := s75) (c := true) hH (i := 0) rfl Tryz.underlying164 Tryz.underlying9 rfl rfl rfl hB hA ?_
      intro w117 hH118 ht119
      replace h108 := El.tr (Dw := Dw) h108 ht119
      replace hK := Tr.trans (Dw := Dw) hK ht119
      replace hr68 := Tr.trans (Dw := Dw) hr68 ht119
      replace hB := Nat.le_trans hB ht119.ex.size
      replace hA := ht119.new
      replace hH : Hp w.heap.size A77 w117 (obSM (κ := ByteArray) (α := Bool) b57 (mapPut s75 x88.name true) :: []) := hH118
      refine V_to (fun _ _ => rfl) ?_
      refine C_seq ?_
      refine C_region ?_
      obtain ⟨v120, v122, h124, h121, h123⟩ := El_level_Level h108
      refine V_y (Y_loadA h124 Tryz.isAgg147 Tryz.sizeOf147 rfl) rfl rfl rfl ?_
      obtain ⟨x125, hx125, h80⟩ := Option.bind_eq_some_iff.1 h80
      refine V_call Tryz.call55 rfl rfl rfl rfl (level_checkLevel_c (Dw := Dw) w117 hA x88 v120 h121 v122 h123 hx125) ?_
      rintro _ w126 ⟨rfl, hk127⟩
      have ht128 := Kp.tr (Dw := Dw) hk127 hA hB
      replace hH := Hp.kp (Dw := Dw) hH hk127
      replace hK := Tr.trans (Dw := Dw) hK ht128
      replace hr68 := Tr.trans (Dw := Dw) hr68 ht128
      refine V_y (Y_assign rfl) rfl rfl rfl ?_
      refine V_to (fun _ _ => rfl) ?_
      refine C_seq ?_
      refine C_region ?_
      refine V_y (Y_move rfl) rfl rfl rfl ?_
      refine V_y (Y_neq rfl rfl) rfl rfl rfl ?_
      refine V_to (fun _ _ => rfl) ?_
      refine C_cond rfl (fun hc129 => ?_) (fun hc129 => ?_)
      ·rw [if_pos hc129] at h80
       refine C_seq ?_
       refine C_region ?_
       refine V_y (Y_move rfl) rfl rfl rfl ?_
       refine V_y (Y_assign rfl) rfl rfl rfl ?_
       refine V_to (fun _ _ => rfl) ?_
       obtain rfl := Option.some.inj h80
       obtain rfl := (h81 : Lp.rt _ = _)
       rw [Lp.andThen_rt] at hm
       obtain rfl := Option.some.inj hm
       refine C_ret ?_
       try simp only [↓inBlock_ret, ↓then_ret]
       exact retQ rfl (Res.one Tryz.results9 rfl) ⟨rfl, hK.kp⟩
      ·rw [if_neg (nt hc129)] at h80
       refine C_skip_to (fun _ _ => rfl) ?_
       refine C_region ?_
       refine V_y (Y_addI rfl rfl) rfl rfl rfl ?_
       refine V_y (Y_move rfl) rfl rfl rfl ?_
       obtain rfl := Option.some.inj h80
       refine V_end (fun a ha130 => ?_)
       exact ⟨(mapPut s75 x88.name true), hlt83, h81, ⟨A77, ha130.sub ⟨rfl, rfl, rfl, (congrArg (fun z => some (Value.int .i64 z)) (w64_succ hlt83 hn86)), trivial⟩, ⟨hH, hr68⟩⟩⟩
   ·refine C_exit (fun a ha131 => ?_)
    exact ⟨(s75, A77), ha131.sub trivial, ⟨(h84 (eq_of_dec hle82 hc87)).symm, hH, hr68⟩⟩
  rintro ⟨s67, A73⟩ w70 ⟨rfl, hH74, hk71⟩ a ha72
  rw [Lp.andThen_fin] at hm
  replace hK := Tr.trans (Dw := Dw) hK hk71
  replace hA := hk71.new
  replace hH : Hp w.heap.size A73 w70 (obSM (κ := ByteArray) (α := Bool) b57 s67 :: []) := hH74
  refine C_at (n := ⟨62, [], none⟩) (fun _ _ => rfl) ?_ ha72
  refine C_seq ?_
  refine C_region ?_
  refine V_y (Y_assign rfl) rfl rfl rfl ?_
  refine V_to (fun _ _ => rfl) ?_
  obtain rfl := Option.some.inj hm
  refine C_ret ?_
  try simp only [↓inBlock_ret, ↓then_ret]
  exact retQ rfl (Res.one Tryz.results9 rfl) ⟨rfl, hK.kp⟩
set_option maxRecDepth 4000 in
set_option maxHeartbeats 4000000 in
theorem level_CheckHistory_c (w : World) {A : Nat → Prop} (hA : ∀ b, w.heap.size ≤ b → A b) (l : (List level_Point)) (v_l : Value) (h_l : Sl A w v_l l) {r : Int} (hm : level_CheckHistory l = some r) : Ret Tryz.prog 7 #[v_l] w fun v w' => v = .int .i64 r ∧ Kp Dw w w' := by
 unfold level_CheckHistory at hm
 refine enter Tryz.func7 rfl Tryz.ntmps7 rfl ?_
 have hA0 := hA
 have hB := Nat.le_refl w.heap.size
 have hK : Tr Dw w.heap.size A w A w := Tr.refl (Dw := Dw) hA
 have hH : Hp w.heap.size A w [] := Hp.nil
 refine C_seq ?_
 refine C_region ?_
 refine V_y (Y_assign rfl) rfl rfl rfl ?_
 refine V_to (fun _ _ => rfl) ?_
 refine C_seq ?_
 refine C_seq ?_
 refine C_region ?_
 refine V_y (Y_move rfl) rfl rfl rfl ?_
 refine V_y (Y_lenSl h_l rfl Tryz.underlying26 rfl) rfl rfl rfl ?_
 refine V_y (Y_gtr rfl rfl) rfl rfl rfl ?_
 refine V_to (fun _ _ => rfl) ?_
 refine C_cond rfl (fun hc3 => ?_) (fun hc3 => ?_)
 ·rw [if_pos hc3] at hm
  refine C_seq ?_
  refine C_region ?_
  refine V_y (Y_assign rfl) rfl rfl rfl ?_
  refine V_to (fun _ _ => rfl) ?_
  obtain rfl := Option.some.inj hm
  refine C_ret ?_
  try simp only [↓inBlock_ret, ↓then_ret]
  exact retQ rfl (Res.one Tryz.results7 rfl) ⟨rfl, hK.kp⟩
 ·rw [if_neg (nt hc3)] at hm
  refine C_skip_to (fun _ _ => rfl) ?_
  refine C_seq ?_
  refine C_seq ?_
  refine C_region ?_
  refine V_y (Y_move rfl) rfl rfl rfl ?_
  refine V_y (Y_lenSl h_l rfl Tryz.underlying26 rfl) rfl rfl rfl ?_
  refine V_y (Y_move rfl) rfl rfl rfl ?_
  refine V_to (fun _ _ => rfl) ?_
  have hn25 := Sl.le h_l
  obtain ⟨o4, ho4, hm⟩ := Option.bind_eq_some_iff.1 hm
  refine C_cutG (ι := (Unit × (Nat → Prop))) (fun ⟨s5, A12⟩ => []) (fun ⟨s5, A12⟩ => fun w' => o4 = .fin s5 ∧ Hp w.heap.size A12 w' ([]) ∧ Tr Dw w.heap.size A w A12 w') ?_ ?_
  ·refine C_block ?_
   refine C_range ho4 (fun k7 _ a w' => ∃ i : (Nat → Prop), Has ⟨56, [], none⟩ a ([(0, v_l), (8, v_l), (9, .int .i64 (l.length : Int)), (10, .int .i64 (k7 : Int))]) ∧ Hp w.heap.size i w' ([]) ∧ Tr Dw w.heap.size A w i w') (fun a ha => ⟨A, ha.sub ⟨rfl, rfl, rfl, rfl, trivial⟩, ⟨hH, Tr.refl (Dw := Dw) hA⟩⟩) ?_
   rintro K k7 _ a w15 ⟨A16, ha73, hH17, hr6⟩ hle21 K24 h23
   refine C_of ?_ ha73
   replace h_l := Sl.tr (Dw := Dw) h_l hr6
   replace hK := Tr.trans (Dw := Dw) hK hr6
   replace hB := Nat.le_trans hB hr6.ex.size
   replace hA := hr6.new
   replace hH : Hp w.heap.size A16 w15 ([]) := hH17
   refine C_seq (C_region (V_y (Y_lss rfl rfl) rfl rfl rfl (V_to (fun _ _ => rfl) ?_)))
   refine C_seq ?_
   refine C_cond rfl (fun hc26 => ?_) (fun hc26 => ?_)
   ·have hlt22 := lt_of_dec hc26
    obtain ⟨x18, h19, h20⟩ := K24 hlt22
    refine C_skip_to (fun _ _ => rfl) ?_
    refine C_seq ?_
    refine C_block ?_
    refine C_seq ?_
    refine C_region ?_
    refine V_y (Y_move rfl) rfl rfl rfl ?_
    obtain ⟨x27, hx27, h19⟩ := Option.bind_eq_some_iff.1 h19
    refine V_indexAddr h_l hx27 Tryz.underlying26 Tryz.sizeOf41 rfl rfl rfl ?_
    intro b28 o29 h30
    obtain ⟨v31, h33, h32⟩ := El_level_Point h30
    refine V_y (Y_loadA h33 Tryz.isAgg41 Tryz.sizeOf41 rfl) rfl rfl rfl ?_
    refine V_alloc Tryz.zeroValue41 rfl ?_
    intro b34 w35 h36
    refine V_y (Y_assign rfl) rfl rfl rfl ?_
    have h41 : (v31).oneCell' = true := by obtain ⟨_, _, e, _⟩ := Sl.form h32; rw [e]; rfl
    refine V_storeNew h36 Tryz.sizeOf41 rfl rfl rfl rfl (by exact (List.forall_mem_cons.2 ⟨rfl, (List.forall_mem_cons.2 ⟨rfl, (List.forall_mem_cons.2 ⟨rfl, (List.forall_mem_cons.2 ⟨rfl, (List.forall_mem_cons.2 ⟨rfl, (List.forall_mem_cons.2 ⟨h41, (fun _ h => nomatch h)⟩)⟩)⟩)⟩)⟩)⟩)) ?_
    intro w37 h38
    have hk43 := h38.kp (Dw := Dw)
    have h42 : El (α := level_Point) A16 w37 b34 0 x27 := h38.el hA ⟨[.int .i64 x27.at_], _, rfl, rfl, ⟨[.int .i64 x27.kind], _, rfl, rfl, ⟨[.int .i64 x27.who], _, rfl, rfl, ⟨[.int .i64 x27.status], _, rfl, rfl, ⟨[.int .i64 x27.priority], _, rfl, rfl, ⟨_, rfl, h32⟩⟩⟩⟩⟩⟩
    have ht44 := Kp.tr (Dw := Dw) hk43 hA hB
    replace hH := Hp.kp (Dw := Dw) hH hk43
    replace h_l := Sl.tr (Dw := Dw) h_l ht44
    replace hK := Tr.trans (Dw := Dw) hK ht44
    replace hr6 := Tr.trans (Dw := Dw) hr6 ht44
    replace hB := Nat.le_trans hB ht44.ex.size
    replace hA := ht44.new
    refine V_to (fun _ _ => rfl) ?_
    refine C_block ?_
    refine C_seq ?_
    refine C_region ?_
    have h45 := El_level_Point_0 h42
    refine V_y (Y_fieldAddr Tryz.underlying41 rfl Tryz.sizeOf3 (by decide) rfl) rfl rfl rfl ?_
    refine V_y (Y_load (El.int h45) Tryz.isAgg3 rfl) rfl rfl rfl ?_
    refine V_call Tryz.call52 rfl rfl rfl rfl (level_within_c w37 x27.at_ 0 3000000) ?_
    rintro _ _ ⟨rfl, rfl⟩
    refine V_y (Y_not rfl) rfl rfl rfl ?_
    refine V_y (Y_assign rfl) rfl rfl rfl ?_
    refine V_to (fun _ _ => rfl) ?_
    refine C_cond rfl (fun hc46 => ?_) (fun hc46 => ?_)
    ·rw [if_pos hc46] at h19
     refine C_seq ?_
     refine C_region ?_
     refine V_y (Y_assign rfl) rfl rfl rfl ?_
     refine V_to (fun _ _ => rfl) ?_
     obtain rfl := Option.some.inj h19
     obtain rfl := (h20 : Lp.rt _ = _)
     rw [Lp.andThen_rt] at hm
     obtain rfl := Option.some.inj hm
     refine C_ret ?_
     try simp only [↓inBlock_ret, ↓then_ret]
     exact retQ rfl (Res.one Tryz.results7 rfl) ⟨rfl, hK.kp⟩
    ·rw [if_neg (nt hc46)] at h19
     refine C_seq ?_
     refine C_region_q (Dw := Dw) Tryz_mixed (by kernel_rfl) ?_
     refine VQ_y (fun w' hw' => Y_move rfl) rfl rfl rfl ?_
     refine VQ_y (fun w' hw' => Y_gtr rfl rfl) rfl rfl rfl ?_
     refine VQ_y (fun w' hw' => Y_move rfl) rfl rfl rfl ?_
     obtain ⟨s48, hs48, h19⟩ := Option.bind_eq_some_iff.1 h19
     refine VQ_cut 10 (fun _ : Unit => [(0, v_l), (4, .pointer (some ⟨b34, 0, none⟩)), (8, v_l), (9, .int .i64 (l.length : Int)), (10, .int .i64 (k7 : Int)), (33, .bool s48)]) (fun _ => True) ?_ ?_
     ·simp only [List.take, List.drop]
      rcases Bool.eq_false_or_eq_true (decide ((0 : Int) < (k7 : Int))) with hc47 | hc47
      ·rw [if_pos hc47] at hs48
       refine VQ_ge rfl rfl rfl hc47 ?_
       have h49 := El_level_Point_0 h42
       refine VQ_y (fun w' hw' => Y_fieldAddr Tryz.underlying41 rfl Tryz.sizeOf3 (by decide) rfl) rfl rfl rfl ?_
       refine VQ_ge rfl rfl rfl hc47 ?_
       refine VQ_y (fun w' hw' => Y_load (El.int (El.kp (Dw := Dw) h49 hw')) Tryz.isAgg3 rfl) rfl rfl rfl ?_
       refine VQ_ge rfl rfl rfl hc47 ?_
       refine VQ_y (fun w' hw' => Y_move rfl) rfl rfl rfl ?_
       refine VQ_ge rfl rfl rfl hc47 ?_
       refine VQ_y (fun w' hw' => Y_move rfl) rfl rfl rfl ?_
       refine VQ_ge rfl rfl rfl hc47 ?_
       refine VQ_y (fun w' hw' => Y_subI rfl rfl) rfl rfl rfl ?_
       refine VQ_ge rfl rfl rfl hc47 ?_
       obtain ⟨x50, hx50, hs48⟩ := Option.bind_eq_some_iff.1 hs48
       refine VQ_indexAddr h_l hx50 Tryz.underlying26 Tryz.sizeOf41 rfl rfl rfl ?_
       intro b51 o52 h53
       refine VQ_ge rfl rfl rfl hc47 ?_
       have h54 := El_level_Point_0 h53
       refine VQ_y (fun w' hw' => Y_fieldAddr Tryz.underlying41 rfl Tryz.sizeOf3 (by decide) rfl) rfl rfl rfl ?_
       refine VQ_ge rfl rfl rfl hc47 ?_
       refine VQ_y (fun w' hw' => Y_load (El.int (El.kp (Dw := Dw) h54 hw')) Tryz.isAgg3 rfl) rfl rfl rfl ?_
       refine VQ_ge rfl rfl rfl hc47 ?_
       refine VQ_y (fun w' hw' => Y_lss rfl rfl) rfl rfl rfl ?_
       refine VQ_y (fun _ _ => Y_pick_te rfl hc47 rfl) rfl rfl rfl ?_
       obtain rfl := Option.some.inj hs48
       exact VQ_end fun a ha => ⟨(), ha.sub ⟨rfl, rfl, rfl, rfl, rfl, rfl, trivial⟩, trivial⟩
      ·rw [if_neg (nt hc47)] at hs48
       refine VQ_gn rfl rfl rfl hc47 rfl rfl rfl ?_
       refine VQ_gn rfl rfl rfl hc47 rfl rfl rfl ?_
       refine VQ_gn rfl rfl rfl hc47 rfl rfl rfl ?_
       refine VQ_gn rfl rfl rfl hc47 rfl rfl rfl ?_
       refine VQ_gn rfl rfl rfl hc47 rfl rfl rfl ?_
       refine VQ_gn rfl rfl rfl hc47 rfl rfl rfl ?_
       refine VQ_gn rfl rfl rfl hc47 rfl rfl rfl ?_
       refine VQ_gn rfl rfl rfl hc47 rfl rfl rfl ?_
       refine VQ_gn rfl rfl rfl hc47 rfl rfl rfl ?_
       refine VQ_y (fun _ _ => Y_pick_fe rfl hc47 rfl) rfl rfl rfl ?_
       obtain rfl := Option.some.inj hs48
       exact VQ_end fun a ha => ⟨(), ha.sub ⟨rfl, rfl, rfl, rfl, rfl, rfl, trivial⟩, trivial⟩
     simp only [List.take, List.drop]
     rintro _ _
     refine VQ_y (fun w' hw' => Y_assign rfl) rfl rfl rfl ?_
     refine VQ_to (fun _ _ => rfl) (fun w55 hk56 => ?_)
     have ht57 := Kp.tr (Dw := Dw) hk56 hA hB
     replace hH := Hp.kp (Dw := Dw) hH hk56
     replace h42 := El.tr (Dw := Dw) h42 ht57
     replace hK := Tr.trans (Dw := Dw) hK ht57
     replace hr6 := Tr.trans (Dw := Dw) hr6 ht57
     refine C_cond rfl (fun hc58 => ?_) (fun hc58 => ?_)
     ·rw [if_pos hc58] at h19
      refine C_seq ?_
      refine C_region ?_
      refine V_y (Y_assign rfl) rfl rfl rfl ?_
      refine V_to (fun _ _ => rfl) ?_
      obtain rfl := Option.some.inj h19
      obtain rfl := (h20 : Lp.rt _ = _)
      rw [Lp.andThen_rt] at hm
      obtain rfl := Option.some.inj hm
      refine C_ret ?_
      try simp only [↓inBlock_ret, ↓then_ret]
      exact retQ rfl (Res.one Tryz.results7 rfl) ⟨rfl, hK.kp⟩
     ·rw [if_neg (nt hc58)] at h19
      refine C_seq ?_
      refine C_region ?_
      have h59 := El_level_Point_1 h42
      refine V_y (Y_fieldAddr Tryz.underlying41 rfl Tryz.sizeOf3 (by decide) rfl) rfl rfl rfl ?_
      refine V_y (Y_load (El.int h59) Tryz.isAgg3 rfl) rfl rfl rfl ?_
      refine V_call Tryz.call52 rfl rfl rfl rfl (level_within_c w55 x27.kind 1 10) ?_
      rintro _ _ ⟨rfl, rfl⟩
      refine V_y (Y_not rfl) rfl rfl rfl ?_
      refine V_y (Y_assign rfl) rfl rfl rfl ?_
      refine V_to (fun _ _ => rfl) ?_
      refine C_cond rfl (fun hc60 => ?_) (fun hc60 => ?_)
      ·rw [if_pos hc60] at h19
       refine C_seq ?_
       refine C_region ?_
       refine V_y (Y_assign rfl) rfl rfl rfl ?_
       refine V_to (fun _ _ => rfl) ?_
       obtain rfl := Option.some.inj h19
       obtain rfl := (h20 : Lp.rt _ = _)
       rw [Lp.andThen_rt] at hm
       obtain rfl := Option.some.inj hm
       refine C_ret ?_
       try simp only [↓inBlock_ret, ↓then_ret]
       exact retQ rfl (Res.one Tryz.results7 rfl) ⟨rfl, hK.kp⟩
      ·rw [if_neg (nt hc60)] at h19
       refine C_seq ?_
       refine C_region ?_
       have h61 := El_level_Point_2 h42
       refine V_y (Y_fieldAddr Tryz.underlying41 rfl Tryz.sizeOf3 (by decide) rfl) rfl rfl rfl ?_
       refine V_y (Y_load (El.int h61) Tryz.isAgg3 rfl) rfl rfl rfl ?_
       refine V_call Tryz.call52 rfl rfl rfl rfl (level_within_c w55 x27.who (-1) 40) ?_
       rintro _ _ ⟨rfl, rfl⟩
       refine V_y (Y_not rfl) rfl rfl rfl ?_
       refine V_y (Y_move rfl) rfl rfl rfl ?_
       refine V_cut 5 (fun _ : Unit => [(0, v_l), (4, .pointer (some ⟨b34, 0, none⟩)), (8, v_l), (9, .int .i64 (l.length : Int)), (10, .int .i64 (k7 : Int)), (49, .bool ((!(level_within x27.who (-1) 40)) || (!(level_within x27.status 1 6))))]) (fun _ w' => w55 = w') ?_ ?_
       ·simp only [List.take, List.drop]
        rcases Bool.eq_false_or_eq_true (!(level_within x27.who (-1) 40)) with hc62 | hc62
        ·refine V_gn rfl rfl rfl hc62 rfl rfl rfl ?_
         refine V_gn rfl rfl rfl hc62 rfl rfl rfl ?_
         refine V_gn rfl rfl rfl hc62 rfl rfl rfl ?_
         refine V_gn rfl rfl rfl hc62 rfl rfl rfl ?_
         refine V_y (Y_pick_te rfl hc62 rfl) rfl rfl rfl ?_
         exact V_end fun a ha => ⟨(), ha.sub ⟨rfl, rfl, rfl, rfl, rfl, (by rw [hc62]; rfl), trivial⟩, rfl⟩
        ·refine V_ge rfl rfl rfl hc62 ?_
         have h64 := El_level_Point_3 h42
         refine V_y (Y_fieldAddr Tryz.underlying41 rfl Tryz.sizeOf3 (by decide) rfl) rfl rfl rfl ?_
         refine V_ge rfl rfl rfl hc62 ?_
         refine V_y (Y_load (El.int h64) Tryz.isAgg3 rfl) rfl rfl rfl ?_
         refine V_ge rfl rfl rfl hc62 ?_
         refine V_call Tryz.call52 rfl rfl rfl rfl (level_within_c w55 x27.status 1 6) ?_
         rintro _ _ ⟨rfl, rfl⟩
         refine V_ge rfl rfl rfl hc62 ?_
         refine V_y (Y_not rfl) rfl rfl rfl ?_
         refine V_y (Y_pick_fe rfl hc62 rfl) rfl rfl rfl ?_
         exact V_end fun a ha => ⟨(), ha.sub ⟨rfl, rfl, rfl, rfl, rfl, (by rw [hc62]; rfl), trivial⟩, rfl⟩
       simp only [List.take, List.drop]
       rintro _ _ rfl
       refine V_y (Y_assign rfl) rfl rfl rfl ?_
       refine V_to (fun _ _ => rfl) ?_
       refine C_cond rfl (fun hc65 => ?_) (fun hc65 => ?_)
       ·rw [if_pos hc65] at h19
        refine C_seq ?_
        refine C_region ?_
        refine V_y (Y_assign rfl) rfl rfl rfl ?_
        refine V_to (fun _ _ => rfl) ?_
        obtain rfl := Option.some.inj h19
        obtain rfl := (h20 : Lp.rt _ = _)
        rw [Lp.andThen_rt] at hm
        obtain rfl := Option.some.inj hm
        refine C_ret ?_
        try simp only [↓inBlock_ret, ↓then_ret]
        exact retQ rfl (Res.one Tryz.results7 rfl) ⟨rfl, hK.kp⟩
       ·rw [if_neg (nt hc65)] at h19
        refine C_seq ?_
        refine C_region ?_
        have h66 := El_level_Point_5 h42
        refine V_y (Y_fieldAddr Tryz.underlying41 rfl Tryz.sizeOf39 (by decide) rfl) rfl rfl rfl ?_
        obtain ⟨v67, h68, h69⟩ := El.list h66
        refine V_y (Y_load h68 Tryz.isAgg39 rfl) rfl rfl rfl ?_
        refine V_y (Y_lenSl h69 rfl Tryz.underlying39 rfl) rfl rfl rfl ?_
        refine V_y (Y_gtr rfl rfl) rfl rfl rfl ?_
        refine V_y (Y_assign rfl) rfl rfl rfl ?_
        refine V_to (fun _ _ => rfl) ?_
        refine C_cond rfl (fun hc70 => ?_) (fun hc70 => ?_)
        ·rw [if_pos hc70] at h19
         refine C_seq ?_
         refine C_region ?_
         refine V_y (Y_assign rfl) rfl rfl rfl ?_
         refine V_to (fun _ _ => rfl) ?_
         obtain rfl := Option.some.inj h19
         obtain rfl := (h20 : Lp.rt _ = _)
         rw [Lp.andThen_rt] at hm
         obtain rfl := Option.some.inj hm
         refine C_ret ?_
         try simp only [↓inBlock_ret, ↓then_ret]
         exact retQ rfl (Res.one Tryz.results7 rfl) ⟨rfl, hK.kp⟩
        ·rw [if_neg (nt hc70)] at h19
         refine C_skip_to (fun _ _ => rfl) ?_
         refine C_region ?_
         refine V_y (Y_addI rfl rfl) rfl rfl rfl ?_
         refine V_y (Y_move rfl) rfl rfl rfl ?_
         obtain rfl := Option.some.inj h19
         refine V_end (fun a ha71 => ?_)
         exact ⟨(), hlt22, h20, ⟨A16, ha71.sub ⟨rfl, rfl, rfl, (congrArg (fun z => some (Value.int .i64 z)) (w64_succ hlt22 hn25)), trivial⟩, ⟨hH, hr6⟩⟩⟩
   ·refine C_exit (fun a ha72 => ?_)
    exact ⟨((), A16), ha72.sub trivial, ⟨(h23 (eq_of_dec hle21 hc26)).symm, hH, hr6⟩⟩
  rintro ⟨s5, A12⟩ w9 ⟨rfl, hH13, hk10⟩ a ha11
  rw [Lp.andThen_fin] at hm
  replace hK := Tr.trans (Dw := Dw) hK hk10
  replace hA := hk10.new
  replace hH : Hp w.heap.size A12 w9 ([]) := hH13
  refine C_at (n := ⟨56, [], none⟩) (fun _ _ => rfl) ?_ ha11
  refine C_seq ?_
  refine C_region ?_
  refine V_y (Y_assign rfl) rfl rfl rfl ?_
  refine V_to (fun _ _ => rfl) ?_
  obtain rfl := Option.some.inj hm
  refine C_ret ?_
  try simp only [↓inBlock_ret, ↓then_ret]
  exact retQ rfl (Res.one Tryz.results7 rfl) ⟨rfl, hK.kp⟩
set_option maxRecDepth 4000 in
set_option maxHeartbeats 4000000 in
theorem level_keeper_each_c (w : World) {A : Nat → Prop} {B : Nat} (hB : B ≤ w.heap.size) (hA : ∀ b, w.heap.size ≤ b → A b) (v0 v1 : Value) (lvl : Int) (v2 : Value) (b_k : Nat) (cs : List level_running) (step : level_running → Option level_running) (f_f : FuncId) (f_a f_c : Array Value) (f_call : ∀ (args : Array Value) (w : World), (callFunc f_f args).run Tryz.prog w = .ok (.enter f_f args) w)
  (f_spec : ∀ (w1 : World) (A1 : Nat → Prop), Tr Dw B A w A1 w1 → B ≤ w1.heap.size → (∀ b, w1.heap.size ≤ b → A1 b) → ∀ (b : Nat) (x : level_running) (v : Value) (M : List Ob) (y : level_running),
   Hp B A1 w1 (obC b [.int .i64 x.clock.kind, .int .i64 x.clock.level, .int .i64 x.clock.minutes, .int .i64 x.clock.start, .int .i64 x.clock.stop, .int .i64 x.clock.end_, v, .int .i64 x.target.kind, .int .i64 x.target.minutes, .int .i64 x.target.calendar, .bool x.goes] 51 :: obS (α := level_Piece) 67 v x.clock.pieces :: obC b_k [v0, v1, .int .i64 lvl, v2] 38 :: M) → step x = some y →
   Ret Tryz.prog f_f (f_a ++ #[.pointer (some ⟨b, 0, none⟩)] ++ f_c) w1 fun u w' => ∃ v' : Value, ∃ A2 : Nat → Prop, u = .tuple #[] ∧ Hp B A2 w' (obC b [.int .i64 y.clock.kind, .int .i64 y.clock.level, .int .i64 y.clock.minutes, .int .i64 y.clock.start, .int .i64 y.clock.stop, .int .i64 y.clock.end_, v', .int .i64 y.target.kind, .int .i64 y.target.minutes, .int .i64 y.target.calendar, .bool y.goes] 51 :: obS (α := level_Piece) 67 v' y.clock.pieces :: obC b_k [v0, v1, .int .i64 lvl, v2] 38 :: M) ∧ Tr Dw B A1 w1 A2 w')
  {L : List Ob} (hH : Hp B A w (obC b_k [v0, v1, .int .i64 lvl, v2] 38 :: obPS (ob_level_running) 44 v2 cs :: L)) {r : List level_running} (hm : level_keeper_each step cs = some r) : Ret Tryz.prog 56 #[.pointer (some ⟨b_k, 0, none⟩), .func (.func f_f) f_a f_c] w fun v w' => ∃ A1 : Nat → Prop, v = .tuple #[] ∧ Hp B A1 w' (obC b_k [v0, v1, .int .i64 lvl, v2] 38 :: obPS (ob_level_running) 44 v2 r :: L) ∧ Tr Dw B A w A1 w' := by
 unfold level_keeper_each at hm
 refine enter Tryz.func56 rfl Tryz.ntmps56 rfl ?_
 have hl1 := Hp.psLe (f := ob_level_running) (e := 44) (v := v2) (cs := cs) hH (i := 1) rfl
 refine C_seq ?_
 refine C_region ?_
 refine V_y (Y_move rfl) rfl rfl rfl ?_
 refine V_y (Y_nilCheck rfl) rfl rfl rfl ?_
 refine V_y (Y_fieldAddrC (off2 := 3) Tryz.underlying38 rfl Tryz.sizeOf36 (by decide) rfl rfl) rfl rfl rfl ?_
 refine V_y (Y_load (Hp.cell (j := 3) hH (i := 0) rfl rfl) Tryz.isAgg36 rfl) rfl rfl rfl ?_
 refine V_y (Y_lenPS (Hp.psForm (f := ob_level_running) (e := 44) (v := v2) (cs := cs) hH (i := 1) rfl) rfl Tryz.underlying36 rfl) rfl rfl rfl ?_
 refine V_y (Y_move rfl) rfl rfl rfl ?_
 refine V_to (fun _ _ => rfl) ?_
 obtain ⟨o3, ho3, hm⟩ := Option.bind_eq_some_iff.1 hm
 refine C_cutG (ι := (List level_running × (Nat → Prop))) (fun ⟨s4, A10⟩ => []) (fun ⟨s4, A10⟩ => fun w' => o3 = .fin s4 ∧ Hp B A10 w' (obC b_k [v0, v1, .int .i64 lvl, v2] 38 :: obPS (ob_level_running) 44 v2 s4 :: L) ∧ Tr Dw B A w A10 w') ?_ ?_
 ·refine C_block ?_
  refine C_range ho3 (fun k6 s5 a w' => ∃ i : (Nat → Prop), Has ⟨25, [], none⟩ a ([(1, .func (.func f_f) f_a f_c), (9, v2), (10, .int .i64 (cs.length : Int)), (11, .int .i64 (k6 : Int))]) ∧ Hp B i w' (obC b_k [v0, v1, .int .i64 lvl, v2] 38 :: obPS (ob_level_running) 44 v2 s5 :: L) ∧ Tr Dw B A w i w') (fun a ha => ⟨A, ha.sub ⟨rfl, rfl, rfl, rfl, trivial⟩, hH, Tr.refl (Dw := Dw) hA⟩) ?_
  rintro K k6 s5 a w13 ⟨A14, ha41, hH5, hr5⟩ hle19 K22 h21
  refine C_of ?_ ha41
  have hB5 := Nat.le_trans hB hr5.ex.size
  have hA5 := hr5.new
  refine C_seq (C_region (V_y (Y_lss rfl rfl) rfl rfl rfl (V_to (fun _ _ => rfl) ?_)))
  refine C_seq ?_
  refine C_cond rfl (fun hc24 => ?_) (fun hc24 => ?_)
  ·have hlt20 := lt_of_dec hc24
   obtain ⟨x16, h17, h18⟩ := K22 hlt20
   refine C_skip_to (fun _ _ => rfl) ?_
   refine C_seq ?_
   obtain ⟨x25, hx25, h17⟩ := Option.bind_eq_some_iff.1 h17
   refine C_cutG (ι := (List level_running × (Nat → Prop))) (fun _ => [(1, .func (.func f_f) f_a f_c), (9, v2), (10, .int .i64 (cs.length : Int)), (11, .int .i64 (k6 : Int))]) (fun i => fun w' => x16 = .nx i.1 ∧ Hp B i.2 w' (obC b_k [v0, v1, .int .i64 lvl, v2] 38 :: obPS (ob_level_running) 44 v2 i.1 :: L) ∧ Tr Dw B A w i.2 w') ?_ ?_
   ·refine C_block ?_
    refine C_seq ?_
    refine C_region ?_
    refine V_indexAddrPS (f := ob_level_running) (e := 44) (v := v2) (cs := s5) hH5 (i := 1) rfl hx25 Tryz.underlying36 Tryz.sizeOf44 rfl rfl rfl ?_
    intro b22 o23 bc hk he hH6
    refine V_y (Y_load he Tryz.isAgg44 rfl) rfl rfl rfl ?_
    refine V_y (Y_assign rfl) rfl rfl rfl ?_
    refine V_to (fun _ _ => rfl) ?_
    obtain ⟨v, hH7⟩ := Hp.open (F := obF_level_running bc x25) hH6
    replace hH7 : Hp B A14 w13 (obC bc [.int .i64 x25.clock.kind, .int .i64 x25.clock.level, .int .i64 x25.clock.minutes, .int .i64 x25.clock.start, .int .i64 x25.clock.stop, .int .i64 x25.clock.end_, v, .int .i64 x25.target.kind, .int .i64 x25.target.minutes, .int .i64 x25.target.calendar, .bool x25.goes] 51 :: obS (α := level_Piece) 67 v x25.clock.pieces :: obC b_k [v0, v1, .int .i64 lvl, v2] 38 :: obPX (ob_level_running) 44 v2 s5 (Int.toNat (k6 : Int)) bc :: L) := hH7
    refine C_seq ?_
    refine C_region ?_
    refine V_y (Y_move rfl) rfl rfl rfl ?_
    refine V_y (Y_nilCheck rfl) rfl rfl rfl ?_
    refine V_y (Y_fieldAddrC (off2 := 0) Tryz.underlying51 rfl Tryz.sizeOf47 (by decide) rfl rfl) rfl rfl rfl ?_
    refine V_y (Y_fieldAddrC (off2 := 5) Tryz.underlying47 rfl Tryz.sizeOf3 (by decide) rfl rfl) rfl rfl rfl ?_
    refine V_y (Y_load (Hp.cell (j := 5) hH7 (i := 0) rfl rfl) Tryz.isAgg3 rfl) rfl rfl rfl ?_
    refine V_y (Y_eql rfl rfl) rfl rfl rfl ?_
    refine V_to (fun _ _ => rfl) ?_
    refine C_cond rfl (fun hc38 => ?_) (fun hc38 => ?_)
    ·rw [if_pos hc38] at h17
     refine C_region ?_
     refine V_y (Y_move rfl) rfl rfl rfl ?_
     refine V_y (Y_move rfl) rfl rfl rfl ?_
     obtain ⟨y, hy, h17⟩ := Option.bind_eq_some_iff.1 h17
     refine V_call f_call rfl rfl rfl rfl (f_spec w13 A14 hr5 hB5 hA5 bc x25 v _ y hH7 hy) ?_
     rintro _ w9 ⟨v9, A9, rfl, hH9, ht9⟩
     obtain rfl := Option.some.inj h17
     have hH10 := Hp.psClose (f := ob_level_running) (e := 44) (v := v2) (cs := s5) (c := x25) (c' := y) (Hp.pack (F := obF_level_running bc y) v9 hH9) (i := 1) rfl hk
     refine V_end (fun a ha => ?_)
     exact ⟨(_, A9), ha.sub ⟨rfl, rfl, rfl, rfl, trivial⟩, rfl, hH10, Tr.trans (Dw := Dw) hr5 ht9⟩
    ·rw [if_neg (nt hc38)] at h17
     obtain rfl := Option.some.inj h17
     have hH10 := Hp.psBack (f := ob_level_running) (e := 44) (v := v2) (cs := s5) (c := x25) (Hp.pack (F := obF_level_running bc x25) v hH7) (i := 1) rfl hk
     refine C_skip (fun a ha => ?_)
     exact ⟨(_, A14), ha.sub ⟨rfl, rfl, rfl, rfl, trivial⟩, rfl, hH10, hr5⟩
   rintro ⟨s6, A6⟩ w6 ⟨rfl, hH6, ht6⟩ a ha6
   refine C_at (n := ⟨25, [], none⟩) (fun _ _ => rfl) ?_ ha6
   refine C_region ?_
   refine V_y (Y_addI rfl rfl) rfl rfl rfl ?_
   refine V_y (Y_move rfl) rfl rfl rfl ?_
   refine V_end (fun a ha39 => ?_)
   exact ⟨s6, hlt20, h18, ⟨A6, ha39.sub ⟨rfl, rfl, rfl, (congrArg (fun z => some (Value.int .i64 z)) (w64_succ hlt20 hl1)), trivial⟩, hH6, ht6⟩⟩
  ·refine C_exit (fun a ha40 => ?_)
   exact ⟨(s5, A14), ha40.sub trivial, ⟨(h21 (eq_of_dec hle19 hc24)).symm, hH5, hr5⟩⟩
 rintro ⟨s4, A10⟩ w7 ⟨rfl, hH11, hk8⟩ a ha9
 rw [Lp.andThen_fin] at hm
 obtain rfl := Option.some.inj hm
 try simp only [↓inBlock_ret, ↓then_ret]
 exact normQ (retQ rfl (Res.zero Tryz.results56) ⟨A10, rfl, hH11, hk8⟩ a ha9)
set_option maxRecDepth 4000 in
set_option maxHeartbeats 4000000 in
theorem level_running_cut_c (w : World) {A : Nat → Prop} {B : Nat} (hB : B ≤ w.heap.size) (hA : ∀ b, w.heap.size ≤ b → A b) (r_ : level_running) (b_r_ : Nat) (v_r_ : Value) (at_ : Int) {L : List Ob} (hH : Hp B A w (obC b_r_ [.int .i64 r_.clock.kind, .int .i64 r_.clock.level, .int .i64 r_.clock.minutes, .int .i64 r_.clock.start, .int .i64 r_.clock.stop, .int .i64 r_.clock.end_, v_r_, .int .i64 r_.target.kind, .int .i64 r_.target.minutes, .int .i64 r_.target.calendar, .bool r_.goes] 51 :: obS (α := level_Piece) 67 v_r_ r_.clock.pieces :: L)) {r : level_running} (hm : level_running_cut r_ at_ = some r) : Ret Tryz.prog 64 #[.pointer (some ⟨b_r_, 0, none⟩), .int .i64 at_] w fun v w' => ∃ u1_0, ∃ A1 : Nat → Prop, v = .tuple #[] ∧ Hp B A1 w' (obC b_r_ [.int .i64 r.clock.kind, .int .i64 r.clock.level, .int .i64 r.clock.minutes, .int .i64 r.clock.start, .int .i64 r.clock.stop, .int .i64 r.clock.end_, u1_0, .int .i64 r.target.kind, .int .i64 r.target.minutes, .int .i64 r.target.calendar, .bool r.goes] 51 :: obS (α := level_Piece) 67 u1_0 r.clock.pieces :: L) ∧ Tr Dw B A w A1 w' := by
 unfold level_running_cut at hm
 refine enter Tryz.func64 rfl Tryz.ntmps64 rfl ?_
 have hK : Tr Dw B A w A w := Tr.refl (Dw := Dw) hA
 refine C_seq ?_
 refine C_seq ?_
 refine C_region ?_
 refine V_y (Y_move rfl) rfl rfl rfl ?_
 refine V_y (Y_nilCheck rfl) rfl rfl rfl ?_
 refine V_y (Y_fieldAddrC (off2 := 10) Tryz.underlying51 rfl Tryz.sizeOf4 (by decide) rfl rfl) rfl rfl rfl ?_
 refine V_y (Y_load (Hp.cell (j := 10) hH (i := 0) rfl rfl) Tryz.isAgg4 rfl) rfl rfl rfl ?_
 refine V_y (Y_not rfl) rfl rfl rfl ?_
 refine V_to (fun _ _ => rfl) ?_
 refine C_cond rfl (fun hc3 => ?_) (fun hc3 => ?_)
 ·rw [if_pos hc3] at hm
  obtain rfl := Option.some.inj hm
  refine C_ret ?_
  try simp only [↓inBlock_ret, ↓then_ret]
  exact retQ rfl (Res.zero Tryz.results64) ⟨v_r_, A, rfl, hH, hK⟩
 ·rw [if_neg (nt hc3)] at hm
  refine C_skip_to (fun _ _ => rfl) ?_
  refine C_seq ?_
  refine C_region_q (Dw := Dw) Tryz_mixed (by kernel_rfl) ?_
  refine VQ_y (fun w' hw' => Y_move rfl) rfl rfl rfl ?_
  refine VQ_y (fun w' hw' => Y_nilCheck rfl) rfl rfl rfl ?_
  refine VQ_y (fun w' hw' => Y_fieldAddrC (off2 := 0) Tryz.underlying51 rfl Tryz.sizeOf47 (by decide) rfl rfl) rfl rfl rfl ?_
  refine VQ_y (fun w' hw' => Y_fieldAddrC (off2 := 6) Tryz.underlying47 rfl Tryz.sizeOf45 (by decide) rfl rfl) rfl rfl rfl ?_
  refine VQ_y (fun w' hw' => Y_load ((World.cell?_of_block (hw'.block _ (World.block_lt_of_cell? _ _ (Hp.cell (j := 6) hH (i := 0) rfl rfl)))).trans (Hp.cell (j := 6) hH (i := 0) rfl rfl)) Tryz.isAgg45 rfl) rfl rfl rfl ?_
  refine VQ_y (fun w' hw' => Y_move rfl) rfl rfl rfl ?_
  refine VQ_y (fun w' hw' => Y_nilCheck rfl) rfl rfl rfl ?_
  refine VQ_y (fun w' hw' => Y_fieldAddrC (off2 := 0) Tryz.underlying51 rfl Tryz.sizeOf47 (by decide) rfl rfl) rfl rfl rfl ?_
  refine VQ_y (fun w' hw' => Y_fieldAddrC (off2 := 6) Tryz.underlying47 rfl Tryz.sizeOf45 (by decide) rfl rfl) rfl rfl rfl ?_
  refine VQ_y (fun w' hw' => Y_load ((World.cell?_of_block (hw'.block _ (World.block_lt_of_cell? _ _ (Hp.cell (j := 6) hH (i := 0) rfl rfl)))).trans (Hp.cell (j := 6) hH (i := 0) rfl rfl)) Tryz.isAgg45 rfl) rfl rfl rfl ?_
  refine VQ_y (fun w' hw' => Y_lenSl (Hp.any (α := level_Piece) (e := 67) (v := v_r_) (l := r_.clock.pieces) hH (i := 1) rfl) rfl Tryz.underlying45 rfl) rfl rfl rfl ?_
  refine VQ_y (fun w' hw' => Y_subI rfl rfl) rfl rfl rfl ?_
  obtain ⟨x4, hx4, hm⟩ := Option.bind_eq_some_iff.1 hm
  refine VQ_indexAddrH (α := level_Piece) (e := 67) (v := v_r_) (l := r_.clock.pieces) hH (i := 1) rfl hx4 Tryz.underlying45 Tryz.sizeOf67 rfl rfl rfl ?_
  intro b5 o6 h7 hl8
  refine VQ_y (fun w' hw' => Y_assign rfl) rfl rfl rfl ?_
  refine VQ_to (fun _ _ => rfl) (fun w9 hk10 => ?_)
  have ht11 := Kp.tr (Dw := Dw) hk10 hA hB
  replace hH := Hp.kp (Dw := Dw) hH hk10
  replace h7 := El.kp (Dw := Dw) h7 hk10
  replace hK := Tr.trans (Dw := Dw) hK ht11
  replace hB := Nat.le_trans hB ht11.ex.size
  replace hA := ht11.new
  refine C_seq ?_
  refine C_region ?_
  refine V_y (Y_move rfl) rfl rfl rfl ?_
  refine V_y (Y_move rfl) rfl rfl rfl ?_
  refine V_y (Y_nilCheck rfl) rfl rfl rfl ?_
  have h12 := El_level_Piece_1 h7
  refine V_y (Y_fieldAddr Tryz.underlying67 rfl Tryz.sizeOf3 (by decide) rfl) rfl rfl rfl ?_
  obtain ⟨x13, hx13, hm⟩ := Option.bind_eq_some_iff.1 hm
  refine V_storeFH (Dw := Dw) (α := level_Piece) (e := 67) (v := v_r_) (l := r_.clock.pieces) (foff := 1) hH (i := 1) rfl hl8 hx4 hx13 (fun _ h => by obtain ⟨_, _, rfl, rfl, ⟨_, _, rfl, rfl, rfl⟩⟩ := h; exact ⟨[_], _, rfl, rfl, ⟨[_], _, rfl, rfl, rfl⟩⟩) Tryz.sizeOf3 rfl (by simp [Value.cells, Value.oneCell']) (by decide) hB hA (congrArg (fun z => some (Value.pointer (some ⟨_, z, none⟩))) (by simp [Nat.add_assoc])) rfl ?_
  intro w14 hH15 ht16
  replace hK := Tr.trans (Dw := Dw) hK ht16
  replace hB := Nat.le_trans hB ht16.ex.size
  replace hA := ht16.new
  replace hH : Hp B A w14 (obC b_r_ [.int .i64 r_.clock.kind, .int .i64 r_.clock.level, .int .i64 r_.clock.minutes, .int .i64 r_.clock.start, .int .i64 r_.clock.stop, .int .i64 r_.clock.end_, v_r_, .int .i64 r_.target.kind, .int .i64 r_.target.minutes, .int .i64 r_.target.calendar, .bool r_.goes] 51 :: obS (α := level_Piece) 67 v_r_ x13 :: L) := hH15
  have h18 := idx_setI hx13
  have h17 := Hp.elNow (α := level_Piece) (e := 67) (v := v_r_) (r := x13) hH (i := 1) rfl hl8 h18
  have h20 := idx_setI hx13
  have h19 := Hp.elNow (α := level_Piece) (e := 67) (v := v_r_) (r := x13) hH (i := 1) rfl hl8 h20
  have h22 := idx_setI hx13
  have h21 := Hp.elNow (α := level_Piece) (e := 67) (v := v_r_) (r := x13) hH (i := 1) rfl hl8 h22
  refine V_to (fun _ _ => rfl) ?_
  refine C_seq ?_
  refine C_seq ?_
  refine C_region ?_
  refine V_y (Y_move rfl) rfl rfl rfl ?_
  refine V_y (Y_nilCheck rfl) rfl rfl rfl ?_
  have h23 := El_level_Piece_0 h17
  refine V_y (Y_fieldAddr Tryz.underlying67 rfl Tryz.sizeOf3 (by decide) rfl) rfl rfl rfl ?_
  refine V_y (Y_load (El.int h23) Tryz.isAgg3 rfl) rfl rfl rfl ?_
  refine V_y (Y_move rfl) rfl rfl rfl ?_
  refine V_y (Y_eql rfl rfl) rfl rfl rfl ?_
  refine V_to (fun _ _ => rfl) ?_
  obtain ⟨s25, ho24, hm⟩ := Option.bind_eq_some_iff.1 hm
  refine C_cutG (ι := (Value × (Nat → Prop))) (fun ⟨v27, A32⟩ => [(0, .pointer (some ⟨b_r_, 0, none⟩))]) (fun ⟨v27, A32⟩ => fun w' => Hp B A32 w' (obC b_r_ [.int .i64 s25.clock.kind, .int .i64 s25.clock.level, .int .i64 s25.clock.minutes, .int .i64 s25.clock.start, .int .i64 s25.clock.stop, .int .i64 s25.clock.end_, v27, .int .i64 s25.target.kind, .int .i64 s25.target.minutes, .int .i64 s25.target.calendar, .bool s25.goes] 51 :: obS (α := level_Piece) 67 v27 s25.clock.pieces :: L) ∧ Tr Dw B A w14 A32 w') ?_ ?_
  ·have hr26 : Tr Dw B A w14 A w14 := Tr.refl (Dw := Dw) hA
   refine C_cond rfl (fun hc34 => ?_) (fun hc34 => ?_)
   ·rw [if_pos hc34] at ho24
    refine C_region_qt (Dw := Dw) 17 Tryz_mixed (by kernel_rfl) ?_
    simp only [List.take, List.drop]
    refine VQ_y (fun w' hw' => Y_move rfl) rfl rfl rfl ?_
    refine VQ_y (fun w' hw' => Y_move rfl) rfl rfl rfl ?_
    refine VQ_y (fun w' hw' => Y_nilCheck rfl) rfl rfl rfl ?_
    refine VQ_y (fun w' hw' => Y_fieldAddrC (off2 := 0) Tryz.underlying51 rfl Tryz.sizeOf47 (by decide) rfl rfl) rfl rfl rfl ?_
    refine VQ_y (fun w' hw' => Y_fieldAddrC (off2 := 6) Tryz.underlying47 rfl Tryz.sizeOf45 (by decide) rfl rfl) rfl rfl rfl ?_
    refine VQ_y (fun w' hw' => Y_load ((World.cell?_of_block (hw'.block _ (World.block_lt_of_cell? _ _ (Hp.cell (j := 6) hH (i := 0) rfl rfl)))).trans (Hp.cell (j := 6) hH (i := 0) rfl rfl)) Tryz.isAgg45 rfl) rfl rfl rfl ?_
    refine VQ_y (fun w' hw' => Y_move rfl) rfl rfl rfl ?_
    refine VQ_y (fun w' hw' => Y_nilCheck rfl) rfl rfl rfl ?_
    refine VQ_y (fun w' hw' => Y_fieldAddrC (off2 := 0) Tryz.underlying51 rfl Tryz.sizeOf47 (by decide) rfl rfl) rfl rfl rfl ?_
    refine VQ_y (fun w' hw' => Y_fieldAddrC (off2 := 6) Tryz.underlying47 rfl Tryz.sizeOf45 (by decide) rfl rfl) rfl rfl rfl ?_
    refine VQ_y (fun w' hw' => Y_load ((World.cell?_of_block (hw'.block _ (World.block_lt_of_cell? _ _ (Hp.cell (j := 6) hH (i := 0) rfl rfl)))).trans (Hp.cell (j := 6) hH (i := 0) rfl rfl)) Tryz.isAgg45 rfl) rfl rfl rfl ?_
    refine VQ_y (fun w' hw' => Y_lenSl (Hp.any (α := level_Piece) (e := 67) (v := v_r_) (l := x13) hH (i := 1) rfl) rfl Tryz.underlying45 rfl) rfl rfl rfl ?_
    refine VQ_y (fun w' hw' => Y_subI rfl rfl) rfl rfl rfl ?_
    obtain ⟨x35, hx35, ho24⟩ := Option.bind_eq_some_iff.1 ho24
    refine VQ_sliceOwnH (α := level_Piece) (e := 67) (v := v_r_) (l := x13) hH (i := 1) rfl hx35 Tryz.underlying45 Tryz.sizeOf67 hA rfl rfl rfl ?_
    intro v36 hH37
    replace hH : Hp B A w14 (obC b_r_ [.int .i64 r_.clock.kind, .int .i64 r_.clock.level, .int .i64 r_.clock.minutes, .int .i64 r_.clock.start, .int .i64 r_.clock.stop, .int .i64 r_.clock.end_, v_r_, .int .i64 r_.target.kind, .int .i64 r_.target.minutes, .int .i64 r_.target.calendar, .bool r_.goes] 51 :: obS (α := level_Piece) 67 v36 x35 :: L) := hH37
    refine VQ_y (fun w' hw' => Y_nilCheck rfl) rfl rfl rfl ?_
    refine VQ_y (fun w' hw' => Y_fieldAddrC (off2 := 0) Tryz.underlying51 rfl Tryz.sizeOf47 (by decide) rfl rfl) rfl rfl rfl ?_
    refine VQ_y (fun w' hw' => Y_fieldAddrC (off2 := 6) Tryz.underlying47 rfl Tryz.sizeOf45 (by decide) rfl rfl) rfl rfl rfl ?_
    refine VQ_tail (fun w38 hk39 => ?_)
    try simp only [List.take, List.drop]
    have ht40 := Kp.tr (Dw := Dw) hk39 hA hB
    replace hH := Hp.kp (Dw := Dw) hH hk39
    replace hr26 := Tr.trans (Dw := Dw) hr26 ht40
    replace hB := Nat.le_trans hB ht40.ex.size
    replace hA := ht40.new
    have h46 : (v36).oneCell' = true := by obtain ⟨_, _, e, _⟩ := Sl.form (Hp.any (α := level_Piece) (e := 67) (v := v36) (l := x35) hH (i := 1) rfl); rw [e]; rfl
    refine V_storeC (Dw := Dw) (off := 6) (ds := [.int .i64 r_.clock.kind, .int .i64 r_.clock.level, .int .i64 r_.clock.minutes, .int .i64 r_.clock.start, .int .i64 r_.clock.stop, .int .i64 r_.clock.end_, v36, .int .i64 r_.target.kind, .int .i64 r_.target.minutes, .int .i64 r_.target.calendar, .bool r_.goes]) hH (i := 0) rfl Tryz.sizeOf45 (by rw [← Array.length_toList, Value.cells_one h46]; rfl) (Nat.le_of_ble_eq_true rfl) (by intro u hu; rw [Value.cells_one h46] at hu; simp at hu; subst hu; assumption) (by rw [Value.cells_one h46]; rfl) hB hA rfl rfl ?_
    intro w41 hH42 ht43
    replace hr26 := Tr.trans (Dw := Dw) hr26 ht43
    replace hH : Hp B A w41 (obC b_r_ [.int .i64 r_.clock.kind, .int .i64 r_.clock.level, .int .i64 r_.clock.minutes, .int .i64 r_.clock.start, .int .i64 r_.clock.stop, .int .i64 r_.clock.end_, v36, .int .i64 r_.target.kind, .int .i64 r_.target.minutes, .int .i64 r_.target.calendar, .bool r_.goes] 51 :: obS (α := level_Piece) 67 v36 x35 :: L) := hH42
    obtain rfl := Option.some.inj ho24
    refine V_end (fun a ha47 => ?_)
    exact ⟨(v36, A), ha47.sub ⟨rfl, trivial⟩, ⟨hH, hr26⟩⟩
   ·rw [if_neg (nt hc34)] at ho24
    obtain rfl := Option.some.inj ho24
    refine C_skip (fun a ha48 => ?_)
    exact ⟨(v_r_, A), ha48.sub ⟨rfl, trivial⟩, ⟨hH, hr26⟩⟩
  rintro ⟨v27, A32⟩ w29 ⟨hH33, hk30⟩ a ha31
  replace hK := Tr.trans (Dw := Dw) hK hk30
  replace hB := Nat.le_trans hB hk30.ex.size
  replace hA := hk30.new
  replace hH : Hp B A32 w29 (obC b_r_ [.int .i64 s25.clock.kind, .int .i64 s25.clock.level, .int .i64 s25.clock.minutes, .int .i64 s25.clock.start, .int .i64 s25.clock.stop, .int .i64 s25.clock.end_, v27, .int .i64 s25.target.kind, .int .i64 s25.target.minutes, .int .i64 s25.target.calendar, .bool s25.goes] 51 :: obS (α := level_Piece) 67 v27 s25.clock.pieces :: L) := hH33
  refine C_at (n := ⟨53, [], none⟩) (fun _ _ => rfl) ?_ ha31
  refine C_region ?_
  refine V_y (Y_move rfl) rfl rfl rfl ?_
  refine V_y (Y_nilCheck rfl) rfl rfl rfl ?_
  refine V_y (Y_fieldAddrC (off2 := 10) Tryz.underlying51 rfl Tryz.sizeOf4 (by decide) rfl rfl) rfl rfl rfl ?_
  refine V_storeC (Dw := Dw) (off := 10) (ds := [.int .i64 s25.clock.kind, .int .i64 s25.clock.level, .int .i64 s25.clock.minutes, .int .i64 s25.clock.start, .int .i64 s25.clock.stop, .int .i64 s25.clock.end_, v27, .int .i64 s25.target.kind, .int .i64 s25.target.minutes, .int .i64 s25.target.calendar, .bool false]) hH (i := 0) rfl Tryz.sizeOf4 rfl (Nat.le_of_ble_eq_true rfl) (by simp [Value.cells, Value.oneCell']) rfl hB hA rfl rfl ?_
  intro w49 hH50 ht51
  replace hK := Tr.trans (Dw := Dw) hK ht51
  replace hH : Hp B A32 w49 (obC b_r_ [.int .i64 s25.clock.kind, .int .i64 s25.clock.level, .int .i64 s25.clock.minutes, .int .i64 s25.clock.start, .int .i64 s25.clock.stop, .int .i64 s25.clock.end_, v27, .int .i64 s25.target.kind, .int .i64 s25.target.minutes, .int .i64 s25.target.calendar, .bool false] 51 :: obS (α := level_Piece) 67 v27 s25.clock.pieces :: L) := hH50
  refine V_end (fun a ha52 => ?_)
  obtain rfl := Option.some.inj hm
  try simp only [↓inBlock_ret, ↓then_ret]
  exact normQ (retQ rfl (Res.zero Tryz.results64) ⟨v27, A32, rfl, hH, hK⟩ a ha52)
set_option maxRecDepth 4000 in
set_option maxHeartbeats 4000000 in
theorem level_running_end_c (w : World) {A : Nat → Prop} {B : Nat} (hB : B ≤ w.heap.size) (hA : ∀ b, w.heap.size ≤ b → A b) (r_ : level_running) (b_r_ : Nat) (v_r_ : Value) (at_ : Int) (how : Int) {L : List Ob} (hH : Hp B A w (obC b_r_ [.int .i64 r_.clock.kind, .int .i64 r_.clock.level, .int .i64 r_.clock.minutes, .int .i64 r_.clock.start, .int .i64 r_.clock.stop, .int .i64 r_.clock.end_, v_r_, .int .i64 r_.target.kind, .int .i64 r_.target.minutes, .int .i64 r_.target.calendar, .bool r_.goes] 51 :: obS (α := level_Piece) 67 v_r_ r_.clock.pieces :: L)) {r : level_running} (hm : level_running_end r_ at_ how = some r) : Ret Tryz.prog 58 #[.pointer (some ⟨b_r_, 0, none⟩), .int .i64 at_, .int .i64 how] w fun v w' => ∃ u1_0, ∃ A1 : Nat → Prop, v = .tuple #[] ∧ Hp B A1 w' (obC b_r_ [.int .i64 r.clock.kind, .int .i64 r.clock.level, .int .i64 r.clock.minutes, .int .i64 r.clock.start, .int .i64 r.clock.stop, .int .i64 r.clock.end_, u1_0, .int .i64 r.target.kind, .int .i64 r.target.minutes, .int .i64 r.target.calendar, .bool r.goes] 51 :: obS (α := level_Piece) 67 u1_0 r.clock.pieces :: L) ∧ Tr Dw B A w A1 w' := by
 unfold level_running_end at hm
 refine enter Tryz.func58 rfl Tryz.ntmps58 rfl ?_
 have hK : Tr Dw B A w A w := Tr.refl (Dw := Dw) hA
 refine C_seq ?_
 refine C_region ?_
 refine V_y (Y_move rfl) rfl rfl rfl ?_
 refine V_y (Y_move rfl) rfl rfl rfl ?_
 replace hH : Hp B A w (obS (α := level_Piece) 67 v_r_ r_.clock.pieces :: obC b_r_ [.int .i64 r_.clock.kind, .int .i64 r_.clock.level, .int .i64 r_.clock.minutes, .int .i64 r_.clock.start, .int .i64 r_.clock.stop, .int .i64 r_.clock.end_, v_r_, .int .i64 r_.target.kind, .int .i64 r_.target.minutes, .int .i64 r_.target.calendar, .bool r_.goes] 51 :: L) := Hp.front hH (i := 1) rfl
 replace hH : Hp B A w (obC b_r_ [.int .i64 r_.clock.kind, .int .i64 r_.clock.level, .int .i64 r_.clock.minutes, .int .i64 r_.clock.start, .int .i64 r_.clock.stop, .int .i64 r_.clock.end_, v_r_, .int .i64 r_.target.kind, .int .i64 r_.target.minutes, .int .i64 r_.target.calendar, .bool r_.goes] 51 :: obS (α := level_Piece) 67 v_r_ r_.clock.pieces :: L) := Hp.front hH (i := 1) rfl
 obtain ⟨x3, hx3, hm⟩ := Option.bind_eq_some_iff.1 hm
 refine V_call Tryz.call64 rfl rfl rfl rfl (level_running_cut_c (Dw := Dw) w hB hA r_ b_r_ v_r_ at_ hH hx3) ?_
 rintro _ w6 ⟨v4, A7, rfl, hH8, ht9⟩
 replace hK := Tr.trans (Dw := Dw) hK ht9
 replace hB := Nat.le_trans hB ht9.ex.size
 replace hA := ht9.new
 replace hH : Hp B A7 w6 (obC b_r_ [.int .i64 x3.clock.kind, .int .i64 x3.clock.level, .int .i64 x3.clock.minutes, .int .i64 x3.clock.start, .int .i64 x3.clock.stop, .int .i64 x3.clock.end_, v4, .int .i64 x3.target.kind, .int .i64 x3.target.minutes, .int .i64 x3.target.calendar, .bool x3.goes] 51 :: obS (α := level_Piece) 67 v4 x3.clock.pieces :: L) := hH8
 refine V_to (fun _ _ => rfl) ?_
 refine C_region ?_
 refine V_y (Y_move rfl) rfl rfl rfl ?_
 refine V_y (Y_move rfl) rfl rfl rfl ?_
 refine V_y (Y_move rfl) rfl rfl rfl ?_
 refine V_y (Y_move rfl) rfl rfl rfl ?_
 refine V_y (Y_nilCheck rfl) rfl rfl rfl ?_
 refine V_y (Y_fieldAddrC (off2 := 0) Tryz.underlying51 rfl Tryz.sizeOf47 (by decide) rfl rfl) rfl rfl rfl ?_
 refine V_y (Y_fieldAddrC (off2 := 4) Tryz.underlying47 rfl Tryz.sizeOf3 (by decide) rfl rfl) rfl rfl rfl ?_
 refine V_storeC (Dw := Dw) (off := 4) (ds := [.int .i64 x3.clock.kind, .int .i64 x3.clock.level, .int .i64 x3.clock.minutes, .int .i64 x3.clock.start, .int .i64 at_, .int .i64 x3.clock.end_, v4, .int .i64 x3.target.kind, .int .i64 x3.target.minutes, .int .i64 x3.target.calendar, .bool x3.goes]) hH (i := 0) rfl Tryz.sizeOf3 rfl (Nat.le_of_ble_eq_true rfl) (by simp [Value.cells, Value.oneCell']) rfl hB hA rfl rfl ?_
 intro w10 hH11 ht12
 replace hK := Tr.trans (Dw := Dw) hK ht12
 replace hB := Nat.le_trans hB ht12.ex.size
 replace hA := ht12.new
 replace hH : Hp B A7 w10 (obC b_r_ [.int .i64 x3.clock.kind, .int .i64 x3.clock.level, .int .i64 x3.clock.minutes, .int .i64 x3.clock.start, .int .i64 at_, .int .i64 x3.clock.end_, v4, .int .i64 x3.target.kind, .int .i64 x3.target.minutes, .int .i64 x3.target.calendar, .bool x3.goes] 51 :: obS (α := level_Piece) 67 v4 x3.clock.pieces :: L) := hH11
 refine V_y (Y_nilCheck rfl) rfl rfl rfl ?_
 refine V_y (Y_fieldAddrC (off2 := 0) Tryz.underlying51 rfl Tryz.sizeOf47 (by decide) rfl rfl) rfl rfl rfl ?_
 refine V_y (Y_fieldAddrC (off2 := 5) Tryz.underlying47 rfl Tryz.sizeOf3 (by decide) rfl rfl) rfl rfl rfl ?_
 refine V_storeC (Dw := Dw) (off := 5) (ds := [.int .i64 x3.clock.kind, .int .i64 x3.clock.level, .int .i64 x3.clock.minutes, .int .i64 x3.clock.start, .int .i64 at_, .int .i64 how, v4, .int .i64 x3.target.kind, .int .i64 x3.target.minutes, .int .i64 x3.target.calendar, .bool x3.goes]) hH (i := 0) rfl Tryz.sizeOf3 rfl (Nat.le_of_ble_eq_true rfl) (by simp [Value.cells, Value.oneCell']) rfl hB hA rfl rfl ?_
 intro w13 hH14 ht15
 replace hK := Tr.trans (Dw := Dw) hK ht15
 replace hH : Hp B A7 w13 (obC b_r_ [.int .i64 x3.clock.kind, .int .i64 x3.clock.level, .int .i64 x3.clock.minutes, .int .i64 x3.clock.start, .int .i64 at_, .int .i64 how, v4, .int .i64 x3.target.kind, .int .i64 x3.target.minutes, .int .i64 x3.target.calendar, .bool x3.goes] 51 :: obS (α := level_Piece) 67 v4 x3.clock.pieces :: L) := hH14
 refine V_end (fun a ha16 => ?_)
 obtain rfl := Option.some.inj hm
 try simp only [↓inBlock_ret, ↓then_ret]
 exact normQ (retQ rfl (Res.zero Tryz.results58) ⟨v4, A7, rfl, hH, hK⟩ a ha16)
end Go.Proofs.YtfbiebageicnaaaGreatDoor.W
