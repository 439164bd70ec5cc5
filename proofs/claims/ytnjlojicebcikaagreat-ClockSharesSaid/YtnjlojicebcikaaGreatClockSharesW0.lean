/-
  Written by program (gen.py) from the IR of the dump: each function computes its model.
-/
import Derived.Test.YtnjlojicebcikaaGreatProg
import Derived.Test.YtnjlojicebcikaaGreatGe
import Derived.Test.YtnjlojicebcikaaGreatClockSharesM
import Derived.KernelRfl
import Derived.Test.YtnjlojicebcikaaGreatHq
import Derived.Test.YtnjlojicebcikaaGreatHe
import Derived.Test.YtnjlojicebcikaaGreatGz
import Derived.Shelf.Sort.Plain
import Derived.Shelf.Slices.In.SortNone
namespace Go.Proofs.YtnjlojicebcikaaGreat.W
open Go Go.RowKit Go.Pu Go.Gw Go.Proofs Go.Proofs.YtnjlojicebcikaaGreat.M
set_option linter.unusedVariables false
set_option linter.unusedSimpArgs false
variable {Dw : Prop}

theorem Tryz_info3 : Tryz.prog.info? 3 = some Tryz.t3 := by kernel_rfl
theorem Tryz_info32 : Tryz.prog.info? 32 = some Tryz.t32 := by kernel_rfl
theorem Tryz_info82 : Tryz.prog.info? 82 = some Tryz.t82 := by kernel_rfl
theorem Tryz_info118 : Tryz.prog.info? 118 = some Tryz.t118 := by kernel_rfl
theorem Tryz_info136 : Tryz.prog.info? 136 = some Tryz.t136 := by kernel_rfl
theorem Tryz_places32 : ∀ fs, Tryz.prog.underlying 32 = some (.struct fs) → ∀ w : World, (Array.mapM (fun (f : Field) => do pure (f.offset, ← Go.sizeOf f.type)) fs).run Tryz.prog w = .ok #[(0, 1), (1, 1), (2, 1), (3, 1), (4, 1), (5, 1)] w := by
  intro fs h w
  rw [Tryz.underlying32] at h
  cases h
  kernel_rfl
theorem Tryz_places81 : ∀ fs, Tryz.prog.underlying 81 = some (.struct fs) → ∀ w : World, (Array.mapM (fun (f : Field) => do pure (f.offset, ← Go.sizeOf f.type)) fs).run Tryz.prog w = .ok #[(0, 1)] w := by
  intro fs h w
  rw [Tryz.underlying81] at h
  cases h
  kernel_rfl
theorem Tryz_places94 : ∀ fs, Tryz.prog.underlying 94 = some (.struct fs) → ∀ w : World, (Array.mapM (fun (f : Field) => do pure (f.offset, ← Go.sizeOf f.type)) fs).run Tryz.prog w = .ok #[(0, 1), (1, 1)] w := by
  intro fs h w
  rw [Tryz.underlying94] at h
  cases h
  kernel_rfl
theorem Tryz_places109 : ∀ fs, Tryz.prog.underlying 109 = some (.struct fs) → ∀ w : World, (Array.mapM (fun (f : Field) => do pure (f.offset, ← Go.sizeOf f.type)) fs).run Tryz.prog w = .ok #[(0, 4), (4, 1)] w := by
  intro fs h w
  rw [Tryz.underlying109] at h
  cases h
  kernel_rfl
theorem Tryz_places118 : ∀ fs, Tryz.prog.underlying 118 = some (.struct fs) → ∀ w : World, (Array.mapM (fun (f : Field) => do pure (f.offset, ← Go.sizeOf f.type)) fs).run Tryz.prog w = .ok #[(0, 1), (1, 1), (2, 1)] w := by
  intro fs h w
  rw [Tryz.underlying118] at h
  cases h
  kernel_rfl
theorem Tryz_places136 : ∀ fs, Tryz.prog.underlying 136 = some (.struct fs) → ∀ w : World, (Array.mapM (fun (f : Field) => do pure (f.offset, ← Go.sizeOf f.type)) fs).run Tryz.prog w = .ok #[(0, 1), (1, 1), (2, 1)] w := by
  intro fs h w
  rw [Tryz.underlying136] at h
  cases h
  kernel_rfl
theorem eqFields_int {P : Program} (w : World) (d : Nat) (xs ys : Array Value) (f : Field) (fs : List Field) {k k' k2 : IntKind} {a b : Int} {r : Bool} (hn : f.name ≠ "_") (hx : (part f.type xs f.offset).run P w = .ok (.int k a) w) (hy : (part f.type ys f.offset).run P w = .ok (.int k2 b) w) (hk : k = k2) (hu : P.underlying f.type = some (.int k')) (hr : (Op.eqFields (d + 1) xs ys fs).run P w = .ok r w) : (Op.eqFields (d + 1) xs ys (f :: fs)).run P w = .ok (a == b && r) w := by
  subst hk
  rw [Op.eqFields, if_pos hn]
  simp only [Sem.run_bind, hx, hy, Result.andThen_ok, run_equalIn_int _ _ _ _ _ _ _ hu]
  cases a == b
  · rfl
  · simpa using hr
theorem Tryz_eqt32_10000 (a0 : Int) (a1 : Int) (a2 : Int) (a3 : Int) (a4 : Int) (a5 : Int) (b0 : Int) (b1 : Int) (b2 : Int) (b3 : Int) (b4 : Int) (b5 : Int) (w : World) : (Op.equalIn 10000 32 (.agg #[.int .i64 a0, .int .i64 a1, .int .i64 a2, .int .i64 a3, .int .i64 a4, .int .i64 a5]) (.agg #[.int .i64 b0, .int .i64 b1, .int .i64 b2, .int .i64 b3, .int .i64 b4, .int .i64 b5])).run Tryz.prog w = .ok (a0 == b0 && (a1 == b1 && (a2 == b2 && (a3 == b3 && (a4 == b4 && (a5 == b5)))))) w := by
  refine (run_equalIn_struct w 9999 32 _ _ (by kernel_rfl) (by kernel_rfl)).trans ?_
  rw [show Tryz.prog.fieldsOf 32 = _ from by unfold Program.fieldsOf; rw [Tryz.underlying32]]
  rw [← Bool.and_true (a5 == b5)]
  dsimp only
  refine eqFields_int (k := .i64) (k2 := .i64) w _ _ _ _ _ (by simp) (by simp [part, Tryz.isAgg3]) (by simp [part, Tryz.isAgg3]) rfl Tryz.underlying3 ?_
  refine eqFields_int (k := .i64) (k2 := .i64) w _ _ _ _ _ (by simp) (by simp [part, Tryz.isAgg3]) (by simp [part, Tryz.isAgg3]) rfl Tryz.underlying3 ?_
  refine eqFields_int (k := .i64) (k2 := .i64) w _ _ _ _ _ (by simp) (by simp [part, Tryz.isAgg3]) (by simp [part, Tryz.isAgg3]) rfl Tryz.underlying3 ?_
  refine eqFields_int (k := .i64) (k2 := .i64) w _ _ _ _ _ (by simp) (by simp [part, Tryz.isAgg3]) (by simp [part, Tryz.isAgg3]) rfl Tryz.underlying3 ?_
  refine eqFields_int (k := .i64) (k2 := .i64) w _ _ _ _ _ (by simp) (by simp [part, Tryz.isAgg3]) (by simp [part, Tryz.isAgg3]) rfl Tryz.underlying3 ?_
  refine eqFields_int (k := .i64) (k2 := .i64) w _ _ _ _ _ (by simp) (by simp [part, Tryz.isAgg3]) (by simp [part, Tryz.isAgg3]) rfl Tryz.underlying3 ?_
  rfl
theorem Tryz_eqg32 : Tryz.prog.eqGuardType Tryz.prog.depth 32 = false := by kernel_rfl
def Tryz_so_ren : Go.Shelf.Ren := ⟨fun | 125 => 40 | 128 => 65 | 129 => 66 | 189 => 20 | 215 => 34 | 216 => 62 | 257 => 39 | 294 => 56 | 295 => 57 | 296 => 58 | 297 => 59 | 298 => 60 | 299 => 61 | 300 => 63 | 301 => 64 | 328 => 81 | 329 => 82 | 330 => 83 | 331 => 84 | 332 => 85 | 343 => 98 | n => n, fun | 0 => 0 | 1 => 1 | 2 => 2 | 3 => 3 | 4 => 4 | 5 => 5 | 6 => 6 | 7 => 7 | 8 => 8 | 9 => 9 | 10 => 10 | 11 => 11 | 12 => 12 | 13 => 13 | 14 => 14 | 15 => 15 | 16 => 16 | 17 => 17 | 18 => 18 | 19 => 19 | 20 => 20 | 21 => 21 | 28 => 48 | 35 => 49 | 43 => 43 | 46 => 72 | 47 => 77 | 51 => 104 | 52 => 103 | 53 => 106 | 54 => 105 | 80 => 147 | 81 => 153 | 111 => 50 | 112 => 100 | 114 => 163 | 127 => 157 | 131 => 40 | 134 => 76 | 164 => 164 | 181 => 95 | 182 => 96 | 183 => 97 | 184 => 98 | 185 => 99 | 186 => 101 | 187 => 102 | 218 => 122 | 219 => 123 | 220 => 124 | 221 => 125 | 222 => 126 | 223 => 127 | 228 => 137 | 229 => 130 | 230 => 138 | 238 => 148 | 239 => 149 | 240 => 150 | 241 => 151 | 242 => 152 | 243 => 154 | 244 => 155 | 245 => 156 | 246 => 158 | 247 => 159 | 248 => 160 | 249 => 161 | n => n, fun n => n⟩
theorem Tryz_so : Go.Proofs.Lays.n189 Tryz.prog Tryz_so_ren := {
  mixed := by kernel_rfl,
  f125 := Tryz.func40.trans (congrArg some (by kernel_rfl)),
  f128 := Tryz.func65.trans (congrArg some (by kernel_rfl)),
  f129 := Tryz.func66.trans (congrArg some (by kernel_rfl)),
  f189 := Tryz.func20.trans (congrArg some (by kernel_rfl)),
  f215 := Tryz.func34.trans (congrArg some (by kernel_rfl)),
  f216 := Tryz.func62.trans (congrArg some (by kernel_rfl)),
  f257 := Tryz.func39.trans (congrArg some (by kernel_rfl)),
  f294 := Tryz.func56.trans (congrArg some (by kernel_rfl)),
  f295 := Tryz.func57.trans (congrArg some (by kernel_rfl)),
  f296 := Tryz.func58.trans (congrArg some (by kernel_rfl)),
  f297 := Tryz.func59.trans (congrArg some (by kernel_rfl)),
  f298 := Tryz.func60.trans (congrArg some (by kernel_rfl)),
  f299 := Tryz.func61.trans (congrArg some (by kernel_rfl)),
  f300 := Tryz.func63.trans (congrArg some (by kernel_rfl)),
  f301 := Tryz.func64.trans (congrArg some (by kernel_rfl)),
  f328 := Tryz.func81.trans (congrArg some (by kernel_rfl)),
  f329 := Tryz.func82.trans (congrArg some (by kernel_rfl)),
  f330 := Tryz.func83.trans (congrArg some (by kernel_rfl)),
  f331 := Tryz.func84.trans (congrArg some (by kernel_rfl)),
  f332 := Tryz.func85.trans (congrArg some (by kernel_rfl)),
  f343 := Tryz.func98.trans (congrArg some (by kernel_rfl)),
  t0 := Tryz.underlying0,
  a0 := Tryz.isAgg0,
  z0 := Tryz.sizeOf0,
  v0 := Tryz.zeroValue0,
  t3 := Tryz.underlying3,
  a3 := Tryz.isAgg3,
  z3 := Tryz.sizeOf3,
  v3 := Tryz.zeroValue3,
  t4 := Tryz.underlying4,
  a4 := Tryz.isAgg4,
  z4 := Tryz.sizeOf4,
  v4 := Tryz.zeroValue4,
  t5 := Tryz.underlying5,
  a5 := Tryz.isAgg5,
  z5 := Tryz.sizeOf5,
  v5 := Tryz.zeroValue5,
  t9 := Tryz.underlying9,
  a9 := Tryz.isAgg9,
  z9 := Tryz.sizeOf9,
  v9 := Tryz.zeroValue9,
  t28 := Tryz.underlying48,
  a28 := Tryz.isAgg48,
  z28 := Tryz.sizeOf48,
  v28 := Tryz.zeroValue48,
  t46 := Tryz.underlying72,
  a46 := Tryz.isAgg72,
  z46 := Tryz.sizeOf72,
  v46 := Tryz.zeroValue72,
  t51 := Tryz.underlying104,
  a51 := Tryz.isAgg104,
  z51 := Tryz.sizeOf104,
  v51 := Tryz.zeroValue104,
  t53 := Tryz.underlying106,
  a53 := Tryz.isAgg106,
  z53 := Tryz.sizeOf106,
  v53 := Tryz.zeroValue106,
  t131 := Tryz.underlying40,
  a131 := Tryz.isAgg40,
  z131 := Tryz.sizeOf40,
  v131 := Tryz.zeroValue40,
  t182 := Tryz.underlying96,
  a182 := Tryz.isAgg96,
  z182 := Tryz.sizeOf96,
  v182 := Tryz.zeroValue96,
  t183 := Tryz.underlying97,
  a183 := Tryz.isAgg97,
  z183 := Tryz.sizeOf97,
  v183 := Tryz.zeroValue97,
  t218 := Tryz.underlying122,
  a218 := Tryz.isAgg122,
  z218 := Tryz.sizeOf122,
  v218 := Tryz.zeroValue122,
  t222 := Tryz.underlying126,
  a222 := Tryz.isAgg126,
  z222 := Tryz.sizeOf126,
  v222 := Tryz.zeroValue126,
  t228 := Tryz.underlying137,
  a228 := Tryz.isAgg137,
  z228 := Tryz.sizeOf137,
  v228 := Tryz.zeroValue137,
  t229 := Tryz.underlying130,
  a229 := Tryz.isAgg130,
  z229 := Tryz.sizeOf130,
  v229 := Tryz.zeroValue130 }
theorem Tryz_sortInts {B : Nat} {A : Nat → Prop} {w : World} {L : List Ob} {i : Nat} {e : TypeId} {v : Value} {l r : List Int} (hH : Hp B A w L) (hi : L[i]? = some (obS (α := Int) e v l)) (hB : B ≤ w.heap.size) (hA : ∀ b, w.heap.size ≤ b → A b) (hr : sortIntsL l = some r) : Ret Tryz.prog 20 #[v] w fun u w' => u = .tuple #[] ∧ Hp B A w' (L.set i (obS e v r)) ∧ Tr Dw B A w A w' :=
  Hp.sortInts (Dw := Dw) (fun w => Go.Proofs.Any.slices_Sort_int_none Tryz_so none 0 w) (fun blk off cap zs w h1 h2 h3 => Go.Proofs.Any.slices_Sort_int Tryz_so blk off cap zs w h1 h2 h3) hH hi hB hA hr
theorem Tryz_mixed : Tryz.prog.follows .mixedOrders = true := by kernel_rfl

instance : GoT cal_Change := GoT.of (β := Int × Int) fun x => (x.at_, x.offset)

instance : Flat cal_Change := ⟨fun {A w A1 w1 cs x} h => Flat.flat (α := Int × Int) (x := (x.at_, x.offset)) (A := A) (w := w) h⟩

theorem El_cal_Change_ {A : Nat → Prop} {w : World} {b off : Nat} {x : cal_Change} (h : El A w b off x) : El (α := Int × Int) A w b off (x.at_, x.offset) := h

theorem El_cal_Change_0 {A : Nat → Prop} {w : World} {b off : Nat} {x : cal_Change} (h : El A w b off x) : El A w b (off + 0) x.at_ := El.fst (El_cal_Change_ h)

theorem El_cal_Change_1 {A : Nat → Prop} {w : World} {b off : Nat} {x : cal_Change} (h : El A w b off x) : El A w b (off + 1) x.offset := El.snd (El_cal_Change_ h)

theorem El_cal_Change {A : Nat → Prop} {w : World} {b off : Nat} {x : cal_Change} (h : El A w b off x) : At w b off [.int .i64 x.at_, .int .i64 x.offset] ∧ True := by
  obtain ⟨h1, h2, cs, h3, h4⟩ := h
  obtain ⟨_, _, rfl, rfl, rfl⟩ := h3
  exact ⟨h4, trivial⟩

instance : GoT cal_Zone := GoT.of (β := Int × (List cal_Change)) fun x => (x.offset, x.changes)

theorem El_cal_Zone_ {A : Nat → Prop} {w : World} {b off : Nat} {x : cal_Zone} (h : El A w b off x) : El (α := Int × (List cal_Change)) A w b off (x.offset, x.changes) := h

theorem El_cal_Zone_0 {A : Nat → Prop} {w : World} {b off : Nat} {x : cal_Zone} (h : El A w b off x) : El A w b (off + 0) x.offset := El.fst (El_cal_Zone_ h)

theorem El_cal_Zone_1 {A : Nat → Prop} {w : World} {b off : Nat} {x : cal_Zone} (h : El A w b off x) : El A w b (off + 1) x.changes := El.snd (El_cal_Zone_ h)

theorem El_cal_Zone {A : Nat → Prop} {w : World} {b off : Nat} {x : cal_Zone} (h : El A w b off x) : ∃ v1, At w b off [.int .i64 x.offset, v1] ∧ Sl A w v1 x.changes := by
  obtain ⟨h1, h2, cs, h3, h4⟩ := h
  obtain ⟨_, _, rfl, rfl, ⟨u1, rfl, g1⟩⟩ := h3
  exact ⟨u1, h4, g1⟩

instance : GoT cal_Shift := GoT.of (β := Int × Int × Int) fun x => (x.day, x.from_, x.to_)

instance : Flat cal_Shift := ⟨fun {A w A1 w1 cs x} h => Flat.flat (α := Int × Int × Int) (x := (x.day, x.from_, x.to_)) (A := A) (w := w) h⟩

theorem El_cal_Shift_ {A : Nat → Prop} {w : World} {b off : Nat} {x : cal_Shift} (h : El A w b off x) : El (α := Int × Int × Int) A w b off (x.day, x.from_, x.to_) := h

theorem El_cal_Shift_0 {A : Nat → Prop} {w : World} {b off : Nat} {x : cal_Shift} (h : El A w b off x) : El A w b (off + 0) x.day := El.fst (El_cal_Shift_ h)

theorem El_cal_Shift_1 {A : Nat → Prop} {w : World} {b off : Nat} {x : cal_Shift} (h : El A w b off x) : El A w b (off + 1) x.from_ := El.fst (El.snd (El_cal_Shift_ h))

theorem El_cal_Shift_2 {A : Nat → Prop} {w : World} {b off : Nat} {x : cal_Shift} (h : El A w b off x) : El A w b (off + 2) x.to_ := El.snd (El.snd (El_cal_Shift_ h))

theorem El_cal_Shift {A : Nat → Prop} {w : World} {b off : Nat} {x : cal_Shift} (h : El A w b off x) : At w b off [.int .i64 x.day, .int .i64 x.from_, .int .i64 x.to_] ∧ True := by
  obtain ⟨h1, h2, cs, h3, h4⟩ := h
  obtain ⟨_, _, rfl, rfl, ⟨_, _, rfl, rfl, rfl⟩⟩ := h3
  exact ⟨h4, trivial⟩

instance : GoT cal_Special := GoT.of (β := Int × (List cal_Shift)) fun x => (x.day, x.shifts)

theorem El_cal_Special_ {A : Nat → Prop} {w : World} {b off : Nat} {x : cal_Special} (h : El A w b off x) : El (α := Int × (List cal_Shift)) A w b off (x.day, x.shifts) := h

theorem El_cal_Special_0 {A : Nat → Prop} {w : World} {b off : Nat} {x : cal_Special} (h : El A w b off x) : El A w b (off + 0) x.day := El.fst (El_cal_Special_ h)

theorem El_cal_Special_1 {A : Nat → Prop} {w : World} {b off : Nat} {x : cal_Special} (h : El A w b off x) : El A w b (off + 1) x.shifts := El.snd (El_cal_Special_ h)

theorem El_cal_Special {A : Nat → Prop} {w : World} {b off : Nat} {x : cal_Special} (h : El A w b off x) : ∃ v1, At w b off [.int .i64 x.day, v1] ∧ Sl A w v1 x.shifts := by
  obtain ⟨h1, h2, cs, h3, h4⟩ := h
  obtain ⟨_, _, rfl, rfl, ⟨u1, rfl, g1⟩⟩ := h3
  exact ⟨u1, h4, g1⟩

instance : GoT cal_Calendar := GoT.of (β := cal_Zone × (List cal_Shift) × (List cal_Special)) fun x => (x.zone, x.week, x.specials)

theorem El_cal_Calendar_ {A : Nat → Prop} {w : World} {b off : Nat} {x : cal_Calendar} (h : El A w b off x) : El (α := cal_Zone × (List cal_Shift) × (List cal_Special)) A w b off (x.zone, x.week, x.specials) := h

theorem El_cal_Calendar_0 {A : Nat → Prop} {w : World} {b off : Nat} {x : cal_Calendar} (h : El A w b off x) : El A w b (off + 0) x.zone := El.fst (El_cal_Calendar_ h)

theorem El_cal_Calendar_1 {A : Nat → Prop} {w : World} {b off : Nat} {x : cal_Calendar} (h : El A w b off x) : El A w b (off + 2) x.week := El.fst (El.snd (El_cal_Calendar_ h))

theorem El_cal_Calendar_2 {A : Nat → Prop} {w : World} {b off : Nat} {x : cal_Calendar} (h : El A w b off x) : El A w b (off + 3) x.specials := El.snd (El.snd (El_cal_Calendar_ h))

theorem El_cal_Calendar {A : Nat → Prop} {w : World} {b off : Nat} {x : cal_Calendar} (h : El A w b off x) : ∃ v1 v3 v5, At w b off [.int .i64 x.zone.offset, v1, v3, v5] ∧ Sl A w v1 x.zone.changes ∧ Sl A w v3 x.week ∧ Sl A w v5 x.specials := by
  obtain ⟨h1, h2, cs, h3, h4⟩ := h
  obtain ⟨_, _, rfl, ⟨_, _, rfl, rfl, ⟨u1, rfl, g1⟩⟩, ⟨_, _, rfl, ⟨u2, rfl, g2⟩, ⟨u3, rfl, g3⟩⟩⟩ := h3
  exact ⟨u1, u2, u3, h4, g1, g2, g3⟩

theorem Rep_cal_Calendar {A : Nat → Prop} {w : World} {cs : List Value} {x : cal_Calendar} (h : GoT.rep A w cs x) : ∃ v1 v3 v5, cs = [.int .i64 x.zone.offset, v1, v3, v5] ∧ Sl A w v1 x.zone.changes ∧ Sl A w v3 x.week ∧ Sl A w v5 x.specials := by
  obtain ⟨_, _, rfl, ⟨_, _, rfl, rfl, ⟨u1, rfl, g1⟩⟩, ⟨_, _, rfl, ⟨u2, rfl, g2⟩, ⟨u3, rfl, g3⟩⟩⟩ := h
  exact ⟨u1, u2, u3, rfl, g1, g2, g3⟩

instance : GoT portref2_meter := GoT.of (β := (List cal_Calendar)) fun x => (x.clocks)

theorem El_portref2_meter_ {A : Nat → Prop} {w : World} {b off : Nat} {x : portref2_meter} (h : El A w b off x) : El (α := (List cal_Calendar)) A w b off (x.clocks) := h

theorem El_portref2_meter_0 {A : Nat → Prop} {w : World} {b off : Nat} {x : portref2_meter} (h : El A w b off x) : El A w b (off + 0) x.clocks := (El_portref2_meter_ h)

theorem El_portref2_meter {A : Nat → Prop} {w : World} {b off : Nat} {x : portref2_meter} (h : El A w b off x) : ∃ v1, At w b off [v1] ∧ Sl A w v1 x.clocks := by
  obtain ⟨h1, h2, cs, h3, h4⟩ := h
  obtain ⟨u1, rfl, g1⟩ := h3
  exact ⟨u1, h4, g1⟩

instance : GoT level_Piece := GoT.of (β := Int × Int × Int) fun x => (x.from_, x.to_, x.calendar)

instance : Flat level_Piece := ⟨fun {A w A1 w1 cs x} h => Flat.flat (α := Int × Int × Int) (x := (x.from_, x.to_, x.calendar)) (A := A) (w := w) h⟩

theorem El_level_Piece_ {A : Nat → Prop} {w : World} {b off : Nat} {x : level_Piece} (h : El A w b off x) : El (α := Int × Int × Int) A w b off (x.from_, x.to_, x.calendar) := h

theorem El_level_Piece_0 {A : Nat → Prop} {w : World} {b off : Nat} {x : level_Piece} (h : El A w b off x) : El A w b (off + 0) x.from_ := El.fst (El_level_Piece_ h)

theorem El_level_Piece_1 {A : Nat → Prop} {w : World} {b off : Nat} {x : level_Piece} (h : El A w b off x) : El A w b (off + 1) x.to_ := El.fst (El.snd (El_level_Piece_ h))

theorem El_level_Piece_2 {A : Nat → Prop} {w : World} {b off : Nat} {x : level_Piece} (h : El A w b off x) : El A w b (off + 2) x.calendar := El.snd (El.snd (El_level_Piece_ h))

theorem El_level_Piece {A : Nat → Prop} {w : World} {b off : Nat} {x : level_Piece} (h : El A w b off x) : At w b off [.int .i64 x.from_, .int .i64 x.to_, .int .i64 x.calendar] ∧ True := by
  obtain ⟨h1, h2, cs, h3, h4⟩ := h
  obtain ⟨_, _, rfl, rfl, ⟨_, _, rfl, rfl, rfl⟩⟩ := h3
  exact ⟨h4, trivial⟩

instance : GoT level_Clock := GoT.of (β := Int × Int × Int × Int × Int × Int × (List level_Piece)) fun x => (x.kind, x.level, x.minutes, x.start, x.stop, x.end_, x.pieces)

theorem El_level_Clock_ {A : Nat → Prop} {w : World} {b off : Nat} {x : level_Clock} (h : El A w b off x) : El (α := Int × Int × Int × Int × Int × Int × (List level_Piece)) A w b off (x.kind, x.level, x.minutes, x.start, x.stop, x.end_, x.pieces) := h

theorem El_level_Clock_0 {A : Nat → Prop} {w : World} {b off : Nat} {x : level_Clock} (h : El A w b off x) : El A w b (off + 0) x.kind := El.fst (El_level_Clock_ h)

theorem El_level_Clock_1 {A : Nat → Prop} {w : World} {b off : Nat} {x : level_Clock} (h : El A w b off x) : El A w b (off + 1) x.level := El.fst (El.snd (El_level_Clock_ h))

theorem El_level_Clock_2 {A : Nat → Prop} {w : World} {b off : Nat} {x : level_Clock} (h : El A w b off x) : El A w b (off + 2) x.minutes := El.fst (El.snd (El.snd (El_level_Clock_ h)))

theorem El_level_Clock_3 {A : Nat → Prop} {w : World} {b off : Nat} {x : level_Clock} (h : El A w b off x) : El A w b (off + 3) x.start := El.fst (El.snd (El.snd (El.snd (El_level_Clock_ h))))

theorem El_level_Clock_4 {A : Nat → Prop} {w : World} {b off : Nat} {x : level_Clock} (h : El A w b off x) : El A w b (off + 4) x.stop := El.fst (El.snd (El.snd (El.snd (El.snd (El_level_Clock_ h)))))

theorem El_level_Clock_5 {A : Nat → Prop} {w : World} {b off : Nat} {x : level_Clock} (h : El A w b off x) : El A w b (off + 5) x.end_ := El.fst (El.snd (El.snd (El.snd (El.snd (El.snd (El_level_Clock_ h))))))

theorem El_level_Clock_6 {A : Nat → Prop} {w : World} {b off : Nat} {x : level_Clock} (h : El A w b off x) : El A w b (off + 6) x.pieces := El.snd (El.snd (El.snd (El.snd (El.snd (El.snd (El_level_Clock_ h))))))

theorem El_level_Clock {A : Nat → Prop} {w : World} {b off : Nat} {x : level_Clock} (h : El A w b off x) : ∃ v1, At w b off [.int .i64 x.kind, .int .i64 x.level, .int .i64 x.minutes, .int .i64 x.start, .int .i64 x.stop, .int .i64 x.end_, v1] ∧ Sl A w v1 x.pieces := by
  obtain ⟨h1, h2, cs, h3, h4⟩ := h
  obtain ⟨_, _, rfl, rfl, ⟨_, _, rfl, rfl, ⟨_, _, rfl, rfl, ⟨_, _, rfl, rfl, ⟨_, _, rfl, rfl, ⟨_, _, rfl, rfl, ⟨u1, rfl, g1⟩⟩⟩⟩⟩⟩⟩ := h3
  exact ⟨u1, h4, g1⟩

instance : GoT level_Share := GoT.of (β := Int × Int × Int × Int × Int × Int) fun x => (x.level, x.kind, x.running, x.kept, x.broken, x.gone)

instance : Flat level_Share := ⟨fun {A w A1 w1 cs x} h => Flat.flat (α := Int × Int × Int × Int × Int × Int) (x := (x.level, x.kind, x.running, x.kept, x.broken, x.gone)) (A := A) (w := w) h⟩

theorem El_level_Share_ {A : Nat → Prop} {w : World} {b off : Nat} {x : level_Share} (h : El A w b off x) : El (α := Int × Int × Int × Int × Int × Int) A w b off (x.level, x.kind, x.running, x.kept, x.broken, x.gone) := h

theorem El_level_Share_0 {A : Nat → Prop} {w : World} {b off : Nat} {x : level_Share} (h : El A w b off x) : El A w b (off + 0) x.level := El.fst (El_level_Share_ h)

theorem El_level_Share_1 {A : Nat → Prop} {w : World} {b off : Nat} {x : level_Share} (h : El A w b off x) : El A w b (off + 1) x.kind := El.fst (El.snd (El_level_Share_ h))

theorem El_level_Share_2 {A : Nat → Prop} {w : World} {b off : Nat} {x : level_Share} (h : El A w b off x) : El A w b (off + 2) x.running := El.fst (El.snd (El.snd (El_level_Share_ h)))

theorem El_level_Share_3 {A : Nat → Prop} {w : World} {b off : Nat} {x : level_Share} (h : El A w b off x) : El A w b (off + 3) x.kept := El.fst (El.snd (El.snd (El.snd (El_level_Share_ h))))

theorem El_level_Share_4 {A : Nat → Prop} {w : World} {b off : Nat} {x : level_Share} (h : El A w b off x) : El A w b (off + 4) x.broken := El.fst (El.snd (El.snd (El.snd (El.snd (El_level_Share_ h)))))

theorem El_level_Share_5 {A : Nat → Prop} {w : World} {b off : Nat} {x : level_Share} (h : El A w b off x) : El A w b (off + 5) x.gone := El.snd (El.snd (El.snd (El.snd (El.snd (El_level_Share_ h)))))

theorem El_level_Share {A : Nat → Prop} {w : World} {b off : Nat} {x : level_Share} (h : El A w b off x) : At w b off [.int .i64 x.level, .int .i64 x.kind, .int .i64 x.running, .int .i64 x.kept, .int .i64 x.broken, .int .i64 x.gone] ∧ True := by
  obtain ⟨h1, h2, cs, h3, h4⟩ := h
  obtain ⟨_, _, rfl, rfl, ⟨_, _, rfl, rfl, ⟨_, _, rfl, rfl, ⟨_, _, rfl, rfl, ⟨_, _, rfl, rfl, rfl⟩⟩⟩⟩⟩ := h3
  exact ⟨h4, trivial⟩

theorem Rep_level_Share {A : Nat → Prop} {w : World} {cs : List Value} {x : level_Share} (h : GoT.rep A w cs x) : cs = [.int .i64 x.level, .int .i64 x.kind, .int .i64 x.running, .int .i64 x.kept, .int .i64 x.broken, .int .i64 x.gone] ∧ True := by
  obtain ⟨_, _, rfl, rfl, ⟨_, _, rfl, rfl, ⟨_, _, rfl, rfl, ⟨_, _, rfl, rfl, ⟨_, _, rfl, rfl, rfl⟩⟩⟩⟩⟩ := h
  exact ⟨rfl, trivial⟩

instance : GoT cal_Span := GoT.of (β := Int × Int) fun x => (x.from_, x.to_)

instance : Flat cal_Span := ⟨fun {A w A1 w1 cs x} h => Flat.flat (α := Int × Int) (x := (x.from_, x.to_)) (A := A) (w := w) h⟩

theorem El_cal_Span_ {A : Nat → Prop} {w : World} {b off : Nat} {x : cal_Span} (h : El A w b off x) : El (α := Int × Int) A w b off (x.from_, x.to_) := h

theorem El_cal_Span_0 {A : Nat → Prop} {w : World} {b off : Nat} {x : cal_Span} (h : El A w b off x) : El A w b (off + 0) x.from_ := El.fst (El_cal_Span_ h)

theorem El_cal_Span_1 {A : Nat → Prop} {w : World} {b off : Nat} {x : cal_Span} (h : El A w b off x) : El A w b (off + 1) x.to_ := El.snd (El_cal_Span_ h)

theorem El_cal_Span {A : Nat → Prop} {w : World} {b off : Nat} {x : cal_Span} (h : El A w b off x) : At w b off [.int .i64 x.from_, .int .i64 x.to_] ∧ True := by
  obtain ⟨h1, h2, cs, h3, h4⟩ := h
  obtain ⟨_, _, rfl, rfl, rfl⟩ := h3
  exact ⟨h4, trivial⟩

instance : GoT cal_part := GoT.of (β := Int × Int × Int) fun x => (x.from_, x.to_, x.offset)

instance : Flat cal_part := ⟨fun {A w A1 w1 cs x} h => Flat.flat (α := Int × Int × Int) (x := (x.from_, x.to_, x.offset)) (A := A) (w := w) h⟩

theorem El_cal_part_ {A : Nat → Prop} {w : World} {b off : Nat} {x : cal_part} (h : El A w b off x) : El (α := Int × Int × Int) A w b off (x.from_, x.to_, x.offset) := h

theorem El_cal_part_0 {A : Nat → Prop} {w : World} {b off : Nat} {x : cal_part} (h : El A w b off x) : El A w b (off + 0) x.from_ := El.fst (El_cal_part_ h)

theorem El_cal_part_1 {A : Nat → Prop} {w : World} {b off : Nat} {x : cal_part} (h : El A w b off x) : El A w b (off + 1) x.to_ := El.fst (El.snd (El_cal_part_ h))

theorem El_cal_part_2 {A : Nat → Prop} {w : World} {b off : Nat} {x : cal_part} (h : El A w b off x) : El A w b (off + 2) x.offset := El.snd (El.snd (El_cal_part_ h))

theorem El_cal_part {A : Nat → Prop} {w : World} {b off : Nat} {x : cal_part} (h : El A w b off x) : At w b off [.int .i64 x.from_, .int .i64 x.to_, .int .i64 x.offset] ∧ True := by
  obtain ⟨h1, h2, cs, h3, h4⟩ := h
  obtain ⟨_, _, rfl, rfl, ⟨_, _, rfl, rfl, rfl⟩⟩ := h3
  exact ⟨h4, trivial⟩

section
variable {P : Program} {n : Fr} {ops : Array Oper} {Q : Exit → Act → World → Prop} {E : Env} {w : World} {rest : List Oper} {v : Value} {d : Nat} {ty : TypeId} {pos : String} {af : Array Edge} {x : Operand}
theorem V_mv (hx : ev E x = some v) (hn : Nat.blt d n.sz = true) (h : V P n ops Q rest ((d, v) :: E) w) : V P n ops Q (⟨some d, .move x, ty, pos, af, none⟩ :: rest) E w := V_y (Y_move hx) rfl rfl hn h
theorem V_as (hx : ev E x = some v) (hn : Nat.blt d n.sz = true) (h : V P n ops Q rest ((d, v) :: E) w) : V P n ops Q (⟨some d, .assign x, ty, pos, af, none⟩ :: rest) E w := V_y (Y_assign hx) rfl rfl hn h
end

set_option maxRecDepth 4000 in
set_option maxHeartbeats 4000000 in
theorem level_within_c (w : World) (n : Int) (low : Int) (high : Int) : Ret Tryz.prog 18 #[.int .i64 n, .int .i64 low, .int .i64 high] w fun v w' => v = .bool (level_within n low high) ∧ w = w' := by
  generalize hm : level_within n low high = r
  unfold level_within at hm
  refine enter Tryz.func18 rfl Tryz.ntmps18 rfl ?_
  refine C_seq ?_
  refine C_region ?_
  refine V_as rfl rfl ?_
  refine V_to (fun _ _ => rfl) ?_
  refine C_seq ?_
  refine C_region ?_
  refine V_mv rfl rfl ?_
  refine V_mv rfl rfl ?_
  refine V_y (Y_geq rfl rfl) rfl rfl rfl ?_
  refine V_mv rfl rfl ?_
  refine V_cut 4 (fun _ : Unit => [(14, .bool ((decide (low ≤ n)) && (decide (n ≤ high))))]) (fun _ w' => w = w') ?_ ?_
  · simp only [List.take, List.drop]
    rcases Bool.eq_false_or_eq_true (decide (low ≤ n)) with hc1 | hc1
    · refine V_ge rfl rfl rfl hc1 ?_
      refine V_mv rfl rfl ?_
      refine V_ge rfl rfl rfl hc1 ?_
      refine V_mv rfl rfl ?_
      refine V_ge rfl rfl rfl hc1 ?_
      refine V_y (Y_leq rfl rfl) rfl rfl rfl ?_
      refine V_y (Y_pick_te rfl hc1 rfl) rfl rfl rfl ?_
      exact V_end fun a ha => ⟨(), ha.sub ⟨(by rw [hc1]; rfl), trivial⟩, rfl⟩
    · refine V_gn rfl rfl rfl hc1 rfl rfl rfl ?_
      refine V_gn rfl rfl rfl hc1 rfl rfl rfl ?_
      refine V_gn rfl rfl rfl hc1 rfl rfl rfl ?_
      refine V_y (Y_pick_fe rfl hc1 rfl) rfl rfl rfl ?_
      exact V_end fun a ha => ⟨(), ha.sub ⟨(by rw [hc1]; rfl), trivial⟩, rfl⟩
  simp only [List.take, List.drop]
  rintro _ _ rfl
  refine V_as rfl rfl ?_
  refine V_to (fun _ _ => rfl) ?_
  obtain rfl := hm
  refine C_ret ?_
  try simp only [↓inBlock_ret, ↓then_ret]
  exact retQ rfl (Res.one Tryz.results18 rfl) ⟨rfl, rfl⟩

set_option maxRecDepth 4000 in
set_option maxHeartbeats 4000000 in
theorem level_CheckClock_c (w : World) {A : Nat → Prop} (hA : ∀ b, w.heap.size ≤ b → A b) (c : level_Clock) (v_c : Value) (h_c : Sl A w v_c c.pieces) {r : Int} (hm : level_CheckClock c = some r) : Ret Tryz.prog 30 #[.agg #[.int .i64 c.kind, .int .i64 c.level, .int .i64 c.minutes, .int .i64 c.start, .int .i64 c.stop, .int .i64 c.end_, v_c]] w fun v w' => v = .int .i64 r ∧ Kp Dw w w' := by
  unfold level_CheckClock at hm
  refine enter Tryz.func30 rfl Tryz.ntmps30 rfl ?_
  have hA0 := hA
  have hB := Nat.le_refl w.heap.size
  have hK : Tr Dw w.heap.size A w A w := Tr.refl (Dw := Dw) hA
  have hH : Hp w.heap.size A w [] := Hp.nil
  refine C_seq ?_
  refine C_region ?_
  refine V_box rfl rfl ?_
  intro b3 w4 h5
  have hk7 := h5.kp (Dw := Dw)
  have h6 : El (α := level_Clock) A w4 b3 0 c := h5.el hA ⟨[.int .i64 c.kind], _, rfl, rfl, ⟨[.int .i64 c.level], _, rfl, rfl, ⟨[.int .i64 c.minutes], _, rfl, rfl, ⟨[.int .i64 c.start], _, rfl, rfl, ⟨[.int .i64 c.stop], _, rfl, rfl, ⟨[.int .i64 c.end_], _, rfl, rfl, ⟨_, rfl, h_c⟩⟩⟩⟩⟩⟩⟩
  have ht8 := Kp.tr hk7 hA hB
  replace hH := Hp.kp hH hk7
  replace h_c := Sl.tr h_c ht8
  replace hK := Tr.trans hK ht8
  replace hB := Nat.le_trans hB ht8.ex.size
  replace hA := ht8.new
  refine V_as rfl rfl ?_
  refine V_to (fun _ _ => rfl) ?_
  refine C_seq ?_
  refine C_seq ?_
  refine C_region ?_
  have h9 := El_level_Clock_0 h6
  refine V_y (Y_fieldAddr Tryz.underlying39 rfl Tryz.sizeOf3 (by decide) rfl) rfl rfl rfl ?_
  refine V_y (Y_load (El.int h9) Tryz.isAgg3 rfl) rfl rfl rfl ?_
  refine V_call Tryz.call18 rfl rfl rfl rfl (level_within_c w4 c.kind 1 3) ?_
  rintro _ _ ⟨rfl, rfl⟩
  refine V_y (Y_not rfl) rfl rfl rfl ?_
  refine V_mv rfl rfl ?_
  refine V_cut 5 (fun _ : Unit => [(1, .pointer (some ⟨b3, 0, none⟩)), (14, .bool ((!(level_within c.kind 1 3)) || (!(level_within c.level 0 19))))]) (fun _ w' => w4 = w') ?_ ?_
  · simp only [List.take, List.drop]
    rcases Bool.eq_false_or_eq_true (!(level_within c.kind 1 3)) with hc10 | hc10
    · refine V_gn rfl rfl rfl hc10 rfl rfl rfl ?_
      refine V_gn rfl rfl rfl hc10 rfl rfl rfl ?_
      refine V_gn rfl rfl rfl hc10 rfl rfl rfl ?_
      refine V_gn rfl rfl rfl hc10 rfl rfl rfl ?_
      refine V_y (Y_pick_te rfl hc10 rfl) rfl rfl rfl ?_
      exact V_end fun a ha => ⟨(), ha.sub ⟨rfl, (by rw [hc10]; rfl), trivial⟩, rfl⟩
    · refine V_ge rfl rfl rfl hc10 ?_
      have h12 := El_level_Clock_1 h6
      refine V_y (Y_fieldAddr Tryz.underlying39 rfl Tryz.sizeOf3 (by decide) rfl) rfl rfl rfl ?_
      refine V_ge rfl rfl rfl hc10 ?_
      refine V_y (Y_load (El.int h12) Tryz.isAgg3 rfl) rfl rfl rfl ?_
      refine V_ge rfl rfl rfl hc10 ?_
      refine V_call Tryz.call18 rfl rfl rfl rfl (level_within_c w4 c.level 0 19) ?_
      rintro _ _ ⟨rfl, rfl⟩
      refine V_ge rfl rfl rfl hc10 ?_
      refine V_y (Y_not rfl) rfl rfl rfl ?_
      refine V_y (Y_pick_fe rfl hc10 rfl) rfl rfl rfl ?_
      exact V_end fun a ha => ⟨(), ha.sub ⟨rfl, (by rw [hc10]; rfl), trivial⟩, rfl⟩
  simp only [List.take, List.drop]
  rintro _ _ rfl
  refine V_mv rfl rfl ?_
  refine V_cut 5 (fun _ : Unit => [(1, .pointer (some ⟨b3, 0, none⟩)), (20, .bool (((!(level_within c.kind 1 3)) || (!(level_within c.level 0 19))) || (!(level_within c.minutes 0 100000))))]) (fun _ w' => w4 = w') ?_ ?_
  · simp only [List.take, List.drop]
    rcases Bool.eq_false_or_eq_true (((!(level_within c.kind 1 3)) || (!(level_within c.level 0 19)))) with hc13 | hc13
    · refine V_gn rfl rfl rfl hc13 rfl rfl rfl ?_
      refine V_gn rfl rfl rfl hc13 rfl rfl rfl ?_
      refine V_gn rfl rfl rfl hc13 rfl rfl rfl ?_
      refine V_gn rfl rfl rfl hc13 rfl rfl rfl ?_
      refine V_y (Y_pick_te rfl hc13 rfl) rfl rfl rfl ?_
      exact V_end fun a ha => ⟨(), ha.sub ⟨rfl, (by rw [hc13]; rfl), trivial⟩, rfl⟩
    · refine V_ge rfl rfl rfl hc13 ?_
      have h15 := El_level_Clock_2 h6
      refine V_y (Y_fieldAddr Tryz.underlying39 rfl Tryz.sizeOf3 (by decide) rfl) rfl rfl rfl ?_
      refine V_ge rfl rfl rfl hc13 ?_
      refine V_y (Y_load (El.int h15) Tryz.isAgg3 rfl) rfl rfl rfl ?_
      refine V_ge rfl rfl rfl hc13 ?_
      refine V_call Tryz.call18 rfl rfl rfl rfl (level_within_c w4 c.minutes 0 100000) ?_
      rintro _ _ ⟨rfl, rfl⟩
      refine V_ge rfl rfl rfl hc13 ?_
      refine V_y (Y_not rfl) rfl rfl rfl ?_
      refine V_y (Y_pick_fe rfl hc13 rfl) rfl rfl rfl ?_
      exact V_end fun a ha => ⟨(), ha.sub ⟨rfl, (by rw [hc13]; rfl), trivial⟩, rfl⟩
  simp only [List.take, List.drop]
  rintro _ _ rfl
  refine V_mv rfl rfl ?_
  refine V_cut 5 (fun _ : Unit => [(1, .pointer (some ⟨b3, 0, none⟩)), (26, .bool ((((!(level_within c.kind 1 3)) || (!(level_within c.level 0 19))) || (!(level_within c.minutes 0 100000))) || (!(level_within c.start 0 3000000))))]) (fun _ w' => w4 = w') ?_ ?_
  · simp only [List.take, List.drop]
    rcases Bool.eq_false_or_eq_true ((((!(level_within c.kind 1 3)) || (!(level_within c.level 0 19))) || (!(level_within c.minutes 0 100000)))) with hc16 | hc16
    · refine V_gn rfl rfl rfl hc16 rfl rfl rfl ?_
      refine V_gn rfl rfl rfl hc16 rfl rfl rfl ?_
      refine V_gn rfl rfl rfl hc16 rfl rfl rfl ?_
      refine V_gn rfl rfl rfl hc16 rfl rfl rfl ?_
      refine V_y (Y_pick_te rfl hc16 rfl) rfl rfl rfl ?_
      exact V_end fun a ha => ⟨(), ha.sub ⟨rfl, (by rw [hc16]; rfl), trivial⟩, rfl⟩
    · refine V_ge rfl rfl rfl hc16 ?_
      have h18 := El_level_Clock_3 h6
      refine V_y (Y_fieldAddr Tryz.underlying39 rfl Tryz.sizeOf3 (by decide) rfl) rfl rfl rfl ?_
      refine V_ge rfl rfl rfl hc16 ?_
      refine V_y (Y_load (El.int h18) Tryz.isAgg3 rfl) rfl rfl rfl ?_
      refine V_ge rfl rfl rfl hc16 ?_
      refine V_call Tryz.call18 rfl rfl rfl rfl (level_within_c w4 c.start 0 3000000) ?_
      rintro _ _ ⟨rfl, rfl⟩
      refine V_ge rfl rfl rfl hc16 ?_
      refine V_y (Y_not rfl) rfl rfl rfl ?_
      refine V_y (Y_pick_fe rfl hc16 rfl) rfl rfl rfl ?_
      exact V_end fun a ha => ⟨(), ha.sub ⟨rfl, (by rw [hc16]; rfl), trivial⟩, rfl⟩
  simp only [List.take, List.drop]
  rintro _ _ rfl
  refine V_mv rfl rfl ?_
  refine V_cut 12 (fun _ : Unit => [(1, .pointer (some ⟨b3, 0, none⟩)), (39, .bool (((((!(level_within c.kind 1 3)) || (!(level_within c.level 0 19))) || (!(level_within c.minutes 0 100000))) || (!(level_within c.start 0 3000000))) || ((c.stop != (-1)) && (!(level_within c.stop c.start 3000000)))))]) (fun _ w' => w4 = w') ?_ ?_
  · simp only [List.take, List.drop]
    rcases Bool.eq_false_or_eq_true (((((!(level_within c.kind 1 3)) || (!(level_within c.level 0 19))) || (!(level_within c.minutes 0 100000))) || (!(level_within c.start 0 3000000)))) with hc19 | hc19
    · refine V_gn rfl rfl rfl hc19 rfl rfl rfl ?_
      refine V_gn rfl rfl rfl hc19 rfl rfl rfl ?_
      refine V_gn rfl rfl rfl hc19 rfl rfl rfl ?_
      refine V_gn rfl rfl rfl hc19 rfl rfl rfl ?_
      refine V_gu rfl rfl rfl rfl rfl ?_
      refine V_gu rfl rfl rfl rfl rfl ?_
      refine V_gu rfl rfl rfl rfl rfl ?_
      refine V_gu rfl rfl rfl rfl rfl ?_
      refine V_gu rfl rfl rfl rfl rfl ?_
      refine V_gu rfl rfl rfl rfl rfl ?_
      refine V_gn rfl rfl rfl hc19 rfl rfl rfl ?_
      refine V_y (Y_pick_te rfl hc19 rfl) rfl rfl rfl ?_
      exact V_end fun a ha => ⟨(), ha.sub ⟨rfl, (by rw [hc19]; rfl), trivial⟩, rfl⟩
    · refine V_ge rfl rfl rfl hc19 ?_
      have h21 := El_level_Clock_4 h6
      refine V_y (Y_fieldAddr Tryz.underlying39 rfl Tryz.sizeOf3 (by decide) rfl) rfl rfl rfl ?_
      refine V_ge rfl rfl rfl hc19 ?_
      refine V_y (Y_load (El.int h21) Tryz.isAgg3 rfl) rfl rfl rfl ?_
      refine V_ge rfl rfl rfl hc19 ?_
      refine V_y (Y_neq rfl rfl) rfl rfl rfl ?_
      refine V_ge rfl rfl rfl hc19 ?_
      refine V_mv rfl rfl ?_
      refine V_cut 7 (fun _ : Unit => [(1, .pointer (some ⟨b3, 0, none⟩)), (27, .bool ((((!(level_within c.kind 1 3)) || (!(level_within c.level 0 19))) || (!(level_within c.minutes 0 100000))) || (!(level_within c.start 0 3000000)))), (38, .bool ((c.stop != (-1)) && (!(level_within c.stop c.start 3000000))))]) (fun _ w' => w4 = w') ?_ ?_
      · simp only [List.take, List.drop]
        rcases Bool.eq_false_or_eq_true (c.stop != (-1)) with hc22 | hc22
        · refine V_ge rfl rfl rfl hc22 ?_
          have h24 := El_level_Clock_4 h6
          refine V_y (Y_fieldAddr Tryz.underlying39 rfl Tryz.sizeOf3 (by decide) rfl) rfl rfl rfl ?_
          refine V_ge rfl rfl rfl hc22 ?_
          refine V_y (Y_load (El.int h24) Tryz.isAgg3 rfl) rfl rfl rfl ?_
          refine V_ge rfl rfl rfl hc22 ?_
          have h25 := El_level_Clock_3 h6
          refine V_y (Y_fieldAddr Tryz.underlying39 rfl Tryz.sizeOf3 (by decide) rfl) rfl rfl rfl ?_
          refine V_ge rfl rfl rfl hc22 ?_
          refine V_y (Y_load (El.int h25) Tryz.isAgg3 rfl) rfl rfl rfl ?_
          refine V_ge rfl rfl rfl hc22 ?_
          refine V_call Tryz.call18 rfl rfl rfl rfl (level_within_c w4 c.stop c.start 3000000) ?_
          rintro _ _ ⟨rfl, rfl⟩
          refine V_ge rfl rfl rfl hc22 ?_
          refine V_y (Y_not rfl) rfl rfl rfl ?_
          refine V_ge rfl rfl rfl hc19 ?_
          refine V_y (Y_pick_te rfl hc22 rfl) rfl rfl rfl ?_
          exact V_end fun a ha => ⟨(), ha.sub ⟨rfl, rfl, (by rw [hc22]; rfl), trivial⟩, rfl⟩
        · refine V_gn rfl rfl rfl hc22 rfl rfl rfl ?_
          refine V_gn rfl rfl rfl hc22 rfl rfl rfl ?_
          refine V_gn rfl rfl rfl hc22 rfl rfl rfl ?_
          refine V_gn rfl rfl rfl hc22 rfl rfl rfl ?_
          refine V_gn rfl rfl rfl hc22 rfl rfl rfl ?_
          refine V_gn rfl rfl rfl hc22 rfl rfl rfl ?_
          refine V_ge rfl rfl rfl hc19 ?_
          refine V_y (Y_pick_fe rfl hc22 rfl) rfl rfl rfl ?_
          exact V_end fun a ha => ⟨(), ha.sub ⟨rfl, rfl, (by rw [hc22]; rfl), trivial⟩, rfl⟩
      simp only [List.take, List.drop]
      rintro _ _ rfl
      refine V_y (Y_pick_fe rfl hc19 rfl) rfl rfl rfl ?_
      exact V_end fun a ha => ⟨(), ha.sub ⟨rfl, (by rw [hc19]; rfl), trivial⟩, rfl⟩
  simp only [List.take, List.drop]
  rintro _ _ rfl
  refine V_mv rfl rfl ?_
  refine V_cut 5 (fun _ : Unit => [(1, .pointer (some ⟨b3, 0, none⟩)), (45, .bool ((((((!(level_within c.kind 1 3)) || (!(level_within c.level 0 19))) || (!(level_within c.minutes 0 100000))) || (!(level_within c.start 0 3000000))) || ((c.stop != (-1)) && (!(level_within c.stop c.start 3000000)))) || (!(level_within c.end_ 0 2))))]) (fun _ w' => w4 = w') ?_ ?_
  · simp only [List.take, List.drop]
    rcases Bool.eq_false_or_eq_true ((((((!(level_within c.kind 1 3)) || (!(level_within c.level 0 19))) || (!(level_within c.minutes 0 100000))) || (!(level_within c.start 0 3000000))) || ((c.stop != (-1)) && (!(level_within c.stop c.start 3000000))))) with hc26 | hc26
    · refine V_gn rfl rfl rfl hc26 rfl rfl rfl ?_
      refine V_gn rfl rfl rfl hc26 rfl rfl rfl ?_
      refine V_gn rfl rfl rfl hc26 rfl rfl rfl ?_
      refine V_gn rfl rfl rfl hc26 rfl rfl rfl ?_
      refine V_y (Y_pick_te rfl hc26 rfl) rfl rfl rfl ?_
      exact V_end fun a ha => ⟨(), ha.sub ⟨rfl, (by rw [hc26]; rfl), trivial⟩, rfl⟩
    · refine V_ge rfl rfl rfl hc26 ?_
      have h28 := El_level_Clock_5 h6
      refine V_y (Y_fieldAddr Tryz.underlying39 rfl Tryz.sizeOf3 (by decide) rfl) rfl rfl rfl ?_
      refine V_ge rfl rfl rfl hc26 ?_
      refine V_y (Y_load (El.int h28) Tryz.isAgg3 rfl) rfl rfl rfl ?_
      refine V_ge rfl rfl rfl hc26 ?_
      refine V_call Tryz.call18 rfl rfl rfl rfl (level_within_c w4 c.end_ 0 2) ?_
      rintro _ _ ⟨rfl, rfl⟩
      refine V_ge rfl rfl rfl hc26 ?_
      refine V_y (Y_not rfl) rfl rfl rfl ?_
      refine V_y (Y_pick_fe rfl hc26 rfl) rfl rfl rfl ?_
      exact V_end fun a ha => ⟨(), ha.sub ⟨rfl, (by rw [hc26]; rfl), trivial⟩, rfl⟩
  simp only [List.take, List.drop]
  rintro _ _ rfl
  refine V_to (fun _ _ => rfl) ?_
  refine C_cond rfl (fun hc29 => ?_) (fun hc29 => ?_)
  · rw [if_pos hc29] at hm
    refine C_seq ?_
    refine C_region ?_
    refine V_as rfl rfl ?_
    refine V_to (fun _ _ => rfl) ?_
    obtain rfl := Option.some.inj hm
    refine C_ret ?_
    try simp only [↓inBlock_ret, ↓then_ret]
    exact retQ rfl (Res.one Tryz.results30 rfl) ⟨rfl, hK.kp⟩
  · rw [if_neg (nt hc29)] at hm
    refine C_skip_to (fun _ _ => rfl) ?_
    refine C_seq ?_
    refine C_seq ?_
    refine C_region ?_
    have h30 := El_level_Clock_4 h6
    refine V_y (Y_fieldAddr Tryz.underlying39 rfl Tryz.sizeOf3 (by decide) rfl) rfl rfl rfl ?_
    refine V_y (Y_load (El.int h30) Tryz.isAgg3 rfl) rfl rfl rfl ?_
    refine V_y (Y_eql rfl rfl) rfl rfl rfl ?_
    have h31 := El_level_Clock_5 h6
    refine V_y (Y_fieldAddr Tryz.underlying39 rfl Tryz.sizeOf3 (by decide) rfl) rfl rfl rfl ?_
    refine V_y (Y_load (El.int h31) Tryz.isAgg3 rfl) rfl rfl rfl ?_
    refine V_y (Y_eql rfl rfl) rfl rfl rfl ?_
    refine V_y (Y_bneq Tryz.underlying4 rfl rfl) rfl rfl rfl ?_
    refine V_to (fun _ _ => rfl) ?_
    refine C_cond rfl (fun hc32 => ?_) (fun hc32 => ?_)
    · rw [if_pos hc32] at hm
      refine C_seq ?_
      refine C_region ?_
      refine V_as rfl rfl ?_
      refine V_to (fun _ _ => rfl) ?_
      obtain rfl := Option.some.inj hm
      refine C_ret ?_
      try simp only [↓inBlock_ret, ↓then_ret]
      exact retQ rfl (Res.one Tryz.results30 rfl) ⟨rfl, hK.kp⟩
    · rw [if_neg (nt hc32)] at hm
      refine C_skip_to (fun _ _ => rfl) ?_
      refine C_seq ?_
      refine C_seq ?_
      refine C_region ?_
      have h33 := El_level_Clock_6 h6
      refine V_y (Y_fieldAddr Tryz.underlying39 rfl Tryz.sizeOf37 (by decide) rfl) rfl rfl rfl ?_
      obtain ⟨v34, h35, h36⟩ := El.list h33
      refine V_y (Y_load h35 Tryz.isAgg37 rfl) rfl rfl rfl ?_
      refine V_y (Y_lenSl h36 rfl Tryz.underlying37 rfl) rfl rfl rfl ?_
      refine V_y (Y_gtr rfl rfl) rfl rfl rfl ?_
      refine V_to (fun _ _ => rfl) ?_
      refine C_cond rfl (fun hc37 => ?_) (fun hc37 => ?_)
      · rw [if_pos hc37] at hm
        refine C_seq ?_
        refine C_region ?_
        refine V_as rfl rfl ?_
        refine V_to (fun _ _ => rfl) ?_
        obtain rfl := Option.some.inj hm
        refine C_ret ?_
        try simp only [↓inBlock_ret, ↓then_ret]
        exact retQ rfl (Res.one Tryz.results30 rfl) ⟨rfl, hK.kp⟩
      · rw [if_neg (nt hc37)] at hm
        refine C_skip_to (fun _ _ => rfl) ?_
        refine C_seq ?_
        refine C_seq ?_
        refine C_region ?_
        have h38 := El_level_Clock_6 h6
        refine V_y (Y_fieldAddr Tryz.underlying39 rfl Tryz.sizeOf37 (by decide) rfl) rfl rfl rfl ?_
        obtain ⟨v39, h40, h41⟩ := El.list h38
        refine V_y (Y_load h40 Tryz.isAgg37 rfl) rfl rfl rfl ?_
        refine V_y (Y_lenSl h41 rfl Tryz.underlying37 rfl) rfl rfl rfl ?_
        refine V_mv rfl rfl ?_
        refine V_to (fun _ _ => rfl) ?_
        have hn62 := Sl.le h41
        obtain ⟨o42, ho42, hm⟩ := Option.bind_eq_some_iff.1 hm
        refine C_cutG (ι := (Unit × (Nat → Prop))) (fun ⟨s43, A49⟩ => []) (fun ⟨s43, A49⟩ => fun w' => o42 = .fin s43 ∧ Hp w.heap.size A49 w' ([]) ∧ Tr Dw w.heap.size A w4 A49 w') ?_ ?_
        · refine C_block ?_
          refine C_range ho42 (fun k45 _ a w' => ∃ i : (Nat → Prop), Has ⟨135, [], none⟩ a ([(1, .pointer (some ⟨b3, 0, none⟩)), (58, v39), (59, .int .i64 (c.pieces.length : Int)), (60, .int .i64 (k45 : Int))]) ∧ Hp w.heap.size i w' ([]) ∧ Tr Dw w.heap.size A w4 i w') (fun a ha => ⟨A, ha.sub ⟨rfl, rfl, rfl, rfl, trivial⟩, ⟨hH, Tr.refl (Dw := Dw) hA⟩⟩) ?_
          rintro K k45 _ a w52 ⟨A53, ha133, hH54, hr44⟩ hle58 K61 h60
          refine C_of ?_ ha133
          replace h6 := El.tr h6 hr44
          replace h41 := Sl.tr h41 hr44
          replace hK := Tr.trans hK hr44
          replace hB := Nat.le_trans hB hr44.ex.size
          replace hA := hr44.new
          replace hH : Hp w.heap.size A53 w52 ([]) := hH54
          refine C_seq (C_region (V_y (Y_lss rfl rfl) rfl rfl rfl (V_to (fun _ _ => rfl) ?_)))
          refine C_seq ?_
          refine C_cond rfl (fun hc63 => ?_) (fun hc63 => ?_)
          · have hlt59 := lt_of_dec hc63
            obtain ⟨x55, h56, h57⟩ := K61 hlt59
            refine C_skip_to (fun _ _ => rfl) ?_
            refine C_seq ?_
            refine C_block ?_
            refine C_seq ?_
            refine C_region ?_
            refine V_mv rfl rfl ?_
            obtain ⟨x64, hx64, h56⟩ := Option.bind_eq_some_iff.1 h56
            refine V_indexAddr h41 hx64 Tryz.underlying37 Tryz.sizeOf70 rfl rfl rfl ?_
            intro b65 o66 h67
            obtain ⟨h68, _⟩ := El_level_Piece h67
            refine V_y (Y_loadA h68 Tryz.isAgg70 Tryz.sizeOf70 rfl) rfl rfl rfl ?_
            refine V_alloc Tryz.zeroValue70 rfl ?_
            intro b69 w70 h71
            refine V_as rfl rfl ?_
            refine V_storeNew h71 Tryz.sizeOf70 rfl rfl rfl rfl (by exact (List.forall_mem_cons.2 ⟨rfl, (List.forall_mem_cons.2 ⟨rfl, (List.forall_mem_cons.2 ⟨rfl, (fun _ h => nomatch h)⟩)⟩)⟩)) ?_
            intro w72 h73
            have hk75 := h73.kp (Dw := Dw)
            have h74 : El (α := level_Piece) A53 w72 b69 0 x64 := h73.el hA ⟨[.int .i64 x64.from_], _, rfl, rfl, ⟨[.int .i64 x64.to_], _, rfl, rfl, rfl⟩⟩
            have ht76 := Kp.tr hk75 hA hB
            replace hH := Hp.kp hH hk75
            replace h6 := El.tr h6 ht76
            replace h41 := Sl.tr h41 ht76
            replace h67 := El.tr h67 ht76
            replace hK := Tr.trans hK ht76
            replace hr44 := Tr.trans hr44 ht76
            replace hB := Nat.le_trans hB ht76.ex.size
            replace hA := ht76.new
            refine V_to (fun _ _ => rfl) ?_
            refine C_block ?_
            refine C_seq ?_
            refine C_region ?_
            have h77 := El_level_Piece_0 h74
            refine V_y (Y_fieldAddr Tryz.underlying70 rfl Tryz.sizeOf3 (by decide) rfl) rfl rfl rfl ?_
            refine V_y (Y_load (El.int h77) Tryz.isAgg3 rfl) rfl rfl rfl ?_
            have h78 := El_level_Clock_3 h6
            refine V_y (Y_fieldAddr Tryz.underlying39 rfl Tryz.sizeOf3 (by decide) rfl) rfl rfl rfl ?_
            refine V_y (Y_load (El.int h78) Tryz.isAgg3 rfl) rfl rfl rfl ?_
            refine V_call Tryz.call18 rfl rfl rfl rfl (level_within_c w72 x64.from_ c.start 3000000) ?_
            rintro _ _ ⟨rfl, rfl⟩
            refine V_y (Y_not rfl) rfl rfl rfl ?_
            refine V_mv rfl rfl ?_
            refine V_cut 5 (fun _ : Unit => [(1, .pointer (some ⟨b3, 0, none⟩)), (3, .int .i64 (k45 : Int)), (4, .pointer (some ⟨b69, 0, none⟩)), (58, v39), (59, .int .i64 (c.pieces.length : Int)), (60, .int .i64 (k45 : Int)), (77, .bool ((!(level_within x64.from_ c.start 3000000)) || (!(level_within x64.calendar 0 19))))]) (fun _ w' => w72 = w') ?_ ?_
            · simp only [List.take, List.drop]
              rcases Bool.eq_false_or_eq_true (!(level_within x64.from_ c.start 3000000)) with hc79 | hc79
              · refine V_gn rfl rfl rfl hc79 rfl rfl rfl ?_
                refine V_gn rfl rfl rfl hc79 rfl rfl rfl ?_
                refine V_gn rfl rfl rfl hc79 rfl rfl rfl ?_
                refine V_gn rfl rfl rfl hc79 rfl rfl rfl ?_
                refine V_y (Y_pick_te rfl hc79 rfl) rfl rfl rfl ?_
                exact V_end fun a ha => ⟨(), ha.sub ⟨rfl, rfl, rfl, rfl, rfl, rfl, (by rw [hc79]; rfl), trivial⟩, rfl⟩
              · refine V_ge rfl rfl rfl hc79 ?_
                have h81 := El_level_Piece_2 h74
                refine V_y (Y_fieldAddr Tryz.underlying70 rfl Tryz.sizeOf3 (by decide) rfl) rfl rfl rfl ?_
                refine V_ge rfl rfl rfl hc79 ?_
                refine V_y (Y_load (El.int h81) Tryz.isAgg3 rfl) rfl rfl rfl ?_
                refine V_ge rfl rfl rfl hc79 ?_
                refine V_call Tryz.call18 rfl rfl rfl rfl (level_within_c w72 x64.calendar 0 19) ?_
                rintro _ _ ⟨rfl, rfl⟩
                refine V_ge rfl rfl rfl hc79 ?_
                refine V_y (Y_not rfl) rfl rfl rfl ?_
                refine V_y (Y_pick_fe rfl hc79 rfl) rfl rfl rfl ?_
                exact V_end fun a ha => ⟨(), ha.sub ⟨rfl, rfl, rfl, rfl, rfl, rfl, (by rw [hc79]; rfl), trivial⟩, rfl⟩
            simp only [List.take, List.drop]
            rintro _ _ rfl
            refine V_mv rfl rfl ?_
            refine V_cut 13 (fun _ : Unit => [(1, .pointer (some ⟨b3, 0, none⟩)), (3, .int .i64 (k45 : Int)), (4, .pointer (some ⟨b69, 0, none⟩)), (58, v39), (59, .int .i64 (c.pieces.length : Int)), (60, .int .i64 (k45 : Int)), (91, .bool (((!(level_within x64.from_ c.start 3000000)) || (!(level_within x64.calendar 0 19))) || ((x64.to_ != (-1)) && (!(level_within x64.to_ (w64 (x64.from_ + 1)) 3000000)))))]) (fun _ w' => w72 = w') ?_ ?_
            · simp only [List.take, List.drop]
              rcases Bool.eq_false_or_eq_true (((!(level_within x64.from_ c.start 3000000)) || (!(level_within x64.calendar 0 19)))) with hc82 | hc82
              · refine V_gn rfl rfl rfl hc82 rfl rfl rfl ?_
                refine V_gn rfl rfl rfl hc82 rfl rfl rfl ?_
                refine V_gn rfl rfl rfl hc82 rfl rfl rfl ?_
                refine V_gn rfl rfl rfl hc82 rfl rfl rfl ?_
                refine V_gu rfl rfl rfl rfl rfl ?_
                refine V_gu rfl rfl rfl rfl rfl ?_
                refine V_gu rfl rfl rfl rfl rfl ?_
                refine V_gu rfl rfl rfl rfl rfl ?_
                refine V_gu rfl rfl rfl rfl rfl ?_
                refine V_gu rfl rfl rfl rfl rfl ?_
                refine V_gu rfl rfl rfl rfl rfl ?_
                refine V_gn rfl rfl rfl hc82 rfl rfl rfl ?_
                refine V_y (Y_pick_te rfl hc82 rfl) rfl rfl rfl ?_
                exact V_end fun a ha => ⟨(), ha.sub ⟨rfl, rfl, rfl, rfl, rfl, rfl, (by rw [hc82]; rfl), trivial⟩, rfl⟩
              · refine V_ge rfl rfl rfl hc82 ?_
                have h84 := El_level_Piece_1 h74
                refine V_y (Y_fieldAddr Tryz.underlying70 rfl Tryz.sizeOf3 (by decide) rfl) rfl rfl rfl ?_
                refine V_ge rfl rfl rfl hc82 ?_
                refine V_y (Y_load (El.int h84) Tryz.isAgg3 rfl) rfl rfl rfl ?_
                refine V_ge rfl rfl rfl hc82 ?_
                refine V_y (Y_neq rfl rfl) rfl rfl rfl ?_
                refine V_ge rfl rfl rfl hc82 ?_
                refine V_mv rfl rfl ?_
                refine V_cut 8 (fun _ : Unit => [(1, .pointer (some ⟨b3, 0, none⟩)), (3, .int .i64 (k45 : Int)), (4, .pointer (some ⟨b69, 0, none⟩)), (58, v39), (59, .int .i64 (c.pieces.length : Int)), (60, .int .i64 (k45 : Int)), (78, .bool ((!(level_within x64.from_ c.start 3000000)) || (!(level_within x64.calendar 0 19)))), (90, .bool ((x64.to_ != (-1)) && (!(level_within x64.to_ (w64 (x64.from_ + 1)) 3000000))))]) (fun _ w' => w72 = w') ?_ ?_
                · simp only [List.take, List.drop]
                  rcases Bool.eq_false_or_eq_true (x64.to_ != (-1)) with hc85 | hc85
                  · refine V_ge rfl rfl rfl hc85 ?_
                    have h87 := El_level_Piece_1 h74
                    refine V_y (Y_fieldAddr Tryz.underlying70 rfl Tryz.sizeOf3 (by decide) rfl) rfl rfl rfl ?_
                    refine V_ge rfl rfl rfl hc85 ?_
                    refine V_y (Y_load (El.int h87) Tryz.isAgg3 rfl) rfl rfl rfl ?_
                    refine V_ge rfl rfl rfl hc85 ?_
                    have h88 := El_level_Piece_0 h74
                    refine V_y (Y_fieldAddr Tryz.underlying70 rfl Tryz.sizeOf3 (by decide) rfl) rfl rfl rfl ?_
                    refine V_ge rfl rfl rfl hc85 ?_
                    refine V_y (Y_load (El.int h88) Tryz.isAgg3 rfl) rfl rfl rfl ?_
                    refine V_ge rfl rfl rfl hc85 ?_
                    refine V_y (Y_addI rfl rfl) rfl rfl rfl ?_
                    refine V_ge rfl rfl rfl hc85 ?_
                    refine V_call Tryz.call18 rfl rfl rfl rfl (level_within_c w72 x64.to_ (w64 (x64.from_ + 1)) 3000000) ?_
                    rintro _ _ ⟨rfl, rfl⟩
                    refine V_ge rfl rfl rfl hc85 ?_
                    refine V_y (Y_not rfl) rfl rfl rfl ?_
                    refine V_ge rfl rfl rfl hc82 ?_
                    refine V_y (Y_pick_te rfl hc85 rfl) rfl rfl rfl ?_
                    exact V_end fun a ha => ⟨(), ha.sub ⟨rfl, rfl, rfl, rfl, rfl, rfl, rfl, (by rw [hc85]; rfl), trivial⟩, rfl⟩
                  · refine V_gn rfl rfl rfl hc85 rfl rfl rfl ?_
                    refine V_gn rfl rfl rfl hc85 rfl rfl rfl ?_
                    refine V_gn rfl rfl rfl hc85 rfl rfl rfl ?_
                    refine V_gn rfl rfl rfl hc85 rfl rfl rfl ?_
                    refine V_gn rfl rfl rfl hc85 rfl rfl rfl ?_
                    refine V_gn rfl rfl rfl hc85 rfl rfl rfl ?_
                    refine V_gn rfl rfl rfl hc85 rfl rfl rfl ?_
                    refine V_ge rfl rfl rfl hc82 ?_
                    refine V_y (Y_pick_fe rfl hc85 rfl) rfl rfl rfl ?_
                    exact V_end fun a ha => ⟨(), ha.sub ⟨rfl, rfl, rfl, rfl, rfl, rfl, rfl, (by rw [hc85]; rfl), trivial⟩, rfl⟩
                simp only [List.take, List.drop]
                rintro _ _ rfl
                refine V_y (Y_pick_fe rfl hc82 rfl) rfl rfl rfl ?_
                exact V_end fun a ha => ⟨(), ha.sub ⟨rfl, rfl, rfl, rfl, rfl, rfl, (by rw [hc82]; rfl), trivial⟩, rfl⟩
            simp only [List.take, List.drop]
            rintro _ _ rfl
            refine V_as rfl rfl ?_
            refine V_to (fun _ _ => rfl) ?_
            refine C_cond rfl (fun hc89 => ?_) (fun hc89 => ?_)
            · rw [if_pos hc89] at h56
              refine C_seq ?_
              refine C_region ?_
              refine V_as rfl rfl ?_
              refine V_to (fun _ _ => rfl) ?_
              obtain rfl := Option.some.inj h56
              obtain rfl := (h57 : Lp.rt _ = _)
              rw [Lp.andThen_rt] at hm
              obtain rfl := Option.some.inj hm
              refine C_ret ?_
              try simp only [↓inBlock_ret, ↓then_ret]
              exact retQ rfl (Res.one Tryz.results30 rfl) ⟨rfl, hK.kp⟩
            · rw [if_neg (nt hc89)] at h56
              refine C_seq ?_
              refine C_seq ?_
              refine C_region ?_
              have h90 := El_level_Piece_1 h74
              refine V_y (Y_fieldAddr Tryz.underlying70 rfl Tryz.sizeOf3 (by decide) rfl) rfl rfl rfl ?_
              refine V_y (Y_load (El.int h90) Tryz.isAgg3 rfl) rfl rfl rfl ?_
              refine V_y (Y_eql rfl rfl) rfl rfl rfl ?_
              refine V_mv rfl rfl ?_
              refine V_cut 12 (fun _ : Unit => [(1, .pointer (some ⟨b3, 0, none⟩)), (3, .int .i64 (k45 : Int)), (4, .pointer (some ⟨b69, 0, none⟩)), (58, v39), (59, .int .i64 (c.pieces.length : Int)), (60, .int .i64 (k45 : Int)), (108, .bool ((x64.to_ == (-1)) && ((decide ((k45 : Int) < (w64 ((c.pieces.length : Int) - 1)))) || (c.stop != (-1)))))]) (fun _ w' => w72 = w') ?_ ?_
              · simp only [List.take, List.drop]
                rcases Bool.eq_false_or_eq_true (x64.to_ == (-1)) with hc91 | hc91
                · refine V_ge rfl rfl rfl hc91 ?_
                  refine V_mv rfl rfl ?_
                  refine V_ge rfl rfl rfl hc91 ?_
                  have h93 := El_level_Clock_6 h6
                  refine V_y (Y_fieldAddr Tryz.underlying39 rfl Tryz.sizeOf37 (by decide) rfl) rfl rfl rfl ?_
                  refine V_ge rfl rfl rfl hc91 ?_
                  obtain ⟨v94, h95, h96⟩ := El.list h93
                  refine V_y (Y_load h95 Tryz.isAgg37 rfl) rfl rfl rfl ?_
                  refine V_ge rfl rfl rfl hc91 ?_
                  refine V_y (Y_lenSl h96 rfl Tryz.underlying37 rfl) rfl rfl rfl ?_
                  refine V_ge rfl rfl rfl hc91 ?_
                  refine V_y (Y_subI rfl rfl) rfl rfl rfl ?_
                  refine V_ge rfl rfl rfl hc91 ?_
                  refine V_y (Y_lss rfl rfl) rfl rfl rfl ?_
                  refine V_ge rfl rfl rfl hc91 ?_
                  refine V_mv rfl rfl ?_
                  refine V_cut 4 (fun _ : Unit => [(1, .pointer (some ⟨b3, 0, none⟩)), (3, .int .i64 (k45 : Int)), (4, .pointer (some ⟨b69, 0, none⟩)), (58, v39), (59, .int .i64 (c.pieces.length : Int)), (60, .int .i64 (k45 : Int)), (96, .bool (x64.to_ == (-1))), (107, .bool ((decide ((k45 : Int) < (w64 ((c.pieces.length : Int) - 1)))) || (c.stop != (-1))))]) (fun _ w' => w72 = w') ?_ ?_
                  · simp only [List.take, List.drop]
                    rcases Bool.eq_false_or_eq_true (decide ((k45 : Int) < (w64 ((c.pieces.length : Int) - 1)))) with hc97 | hc97
                    · refine V_gn rfl rfl rfl hc97 rfl rfl rfl ?_
                      refine V_gn rfl rfl rfl hc97 rfl rfl rfl ?_
                      refine V_gn rfl rfl rfl hc97 rfl rfl rfl ?_
                      refine V_ge rfl rfl rfl hc91 ?_
                      refine V_y (Y_pick_te rfl hc97 rfl) rfl rfl rfl ?_
                      exact V_end fun a ha => ⟨(), ha.sub ⟨rfl, rfl, rfl, rfl, rfl, rfl, rfl, (by rw [hc97]; rfl), trivial⟩, rfl⟩
                    · refine V_ge rfl rfl rfl hc97 ?_
                      have h99 := El_level_Clock_4 h6
                      refine V_y (Y_fieldAddr Tryz.underlying39 rfl Tryz.sizeOf3 (by decide) rfl) rfl rfl rfl ?_
                      refine V_ge rfl rfl rfl hc97 ?_
                      refine V_y (Y_load (El.int h99) Tryz.isAgg3 rfl) rfl rfl rfl ?_
                      refine V_ge rfl rfl rfl hc97 ?_
                      refine V_y (Y_neq rfl rfl) rfl rfl rfl ?_
                      refine V_ge rfl rfl rfl hc91 ?_
                      refine V_y (Y_pick_fe rfl hc97 rfl) rfl rfl rfl ?_
                      exact V_end fun a ha => ⟨(), ha.sub ⟨rfl, rfl, rfl, rfl, rfl, rfl, rfl, (by rw [hc97]; rfl), trivial⟩, rfl⟩
                  simp only [List.take, List.drop]
                  rintro _ _ rfl
                  refine V_y (Y_pick_te rfl hc91 rfl) rfl rfl rfl ?_
                  exact V_end fun a ha => ⟨(), ha.sub ⟨rfl, rfl, rfl, rfl, rfl, rfl, (by rw [hc91]; rfl), trivial⟩, rfl⟩
                · refine V_gn rfl rfl rfl hc91 rfl rfl rfl ?_
                  refine V_gn rfl rfl rfl hc91 rfl rfl rfl ?_
                  refine V_gn rfl rfl rfl hc91 rfl rfl rfl ?_
                  refine V_gn rfl rfl rfl hc91 rfl rfl rfl ?_
                  refine V_gn rfl rfl rfl hc91 rfl rfl rfl ?_
                  refine V_gn rfl rfl rfl hc91 rfl rfl rfl ?_
                  refine V_gn rfl rfl rfl hc91 rfl rfl rfl ?_
                  refine V_gu rfl rfl rfl rfl rfl ?_
                  refine V_gu rfl rfl rfl rfl rfl ?_
                  refine V_gu rfl rfl rfl rfl rfl ?_
                  refine V_gn rfl rfl rfl hc91 rfl rfl rfl ?_
                  refine V_y (Y_pick_fe rfl hc91 rfl) rfl rfl rfl ?_
                  exact V_end fun a ha => ⟨(), ha.sub ⟨rfl, rfl, rfl, rfl, rfl, rfl, (by rw [hc91]; rfl), trivial⟩, rfl⟩
              simp only [List.take, List.drop]
              rintro _ _ rfl
              refine V_as rfl rfl ?_
              refine V_to (fun _ _ => rfl) ?_
              obtain ⟨s101, ho100, h56⟩ := Option.bind_eq_some_iff.1 h56
              refine C_cutG (ι := Unit) (fun (_ : Unit) => [(1, .pointer (some ⟨b3, 0, none⟩)), (3, .int .i64 (k45 : Int)), (4, .pointer (some ⟨b69, 0, none⟩)), (58, v39), (59, .int .i64 (c.pieces.length : Int)), (60, .int .i64 (k45 : Int)), (92, .bool s101)]) (fun (_ : Unit) => fun w' => w72 = w') ?_ ?_
              · refine C_cond rfl (fun hc106 => ?_) (fun hc106 => ?_)
                · rw [if_pos hc106] at ho100
                  obtain rfl := Option.some.inj ho100
                  refine C_skip (fun a ha107 => ?_)
                  exact ⟨(), ha107.sub ⟨rfl, rfl, rfl, rfl, rfl, rfl, rfl, trivial⟩, rfl⟩
                · rw [if_neg (nt hc106)] at ho100
                  refine C_region ?_
                  have h108 := El_level_Clock_4 h6
                  refine V_y (Y_fieldAddr Tryz.underlying39 rfl Tryz.sizeOf3 (by decide) rfl) rfl rfl rfl ?_
                  refine V_y (Y_load (El.int h108) Tryz.isAgg3 rfl) rfl rfl rfl ?_
                  refine V_y (Y_neq rfl rfl) rfl rfl rfl ?_
                  refine V_mv rfl rfl ?_
                  refine V_cut 6 (fun _ : Unit => [(1, .pointer (some ⟨b3, 0, none⟩)), (3, .int .i64 (k45 : Int)), (4, .pointer (some ⟨b69, 0, none⟩)), (58, v39), (59, .int .i64 (c.pieces.length : Int)), (60, .int .i64 (k45 : Int)), (118, .bool ((c.stop != (-1)) && (decide (c.stop < x64.to_))))]) (fun _ w' => w72 = w') ?_ ?_
                  · simp only [List.take, List.drop]
                    rcases Bool.eq_false_or_eq_true (c.stop != (-1)) with hc109 | hc109
                    · refine V_ge rfl rfl rfl hc109 ?_
                      have h111 := El_level_Piece_1 h74
                      refine V_y (Y_fieldAddr Tryz.underlying70 rfl Tryz.sizeOf3 (by decide) rfl) rfl rfl rfl ?_
                      refine V_ge rfl rfl rfl hc109 ?_
                      refine V_y (Y_load (El.int h111) Tryz.isAgg3 rfl) rfl rfl rfl ?_
                      refine V_ge rfl rfl rfl hc109 ?_
                      have h112 := El_level_Clock_4 h6
                      refine V_y (Y_fieldAddr Tryz.underlying39 rfl Tryz.sizeOf3 (by decide) rfl) rfl rfl rfl ?_
                      refine V_ge rfl rfl rfl hc109 ?_
                      refine V_y (Y_load (El.int h112) Tryz.isAgg3 rfl) rfl rfl rfl ?_
                      refine V_ge rfl rfl rfl hc109 ?_
                      refine V_y (Y_gtr rfl rfl) rfl rfl rfl ?_
                      refine V_y (Y_pick_te rfl hc109 rfl) rfl rfl rfl ?_
                      exact V_end fun a ha => ⟨(), ha.sub ⟨rfl, rfl, rfl, rfl, rfl, rfl, (by rw [hc109]; rfl), trivial⟩, rfl⟩
                    · refine V_gn rfl rfl rfl hc109 rfl rfl rfl ?_
                      refine V_gn rfl rfl rfl hc109 rfl rfl rfl ?_
                      refine V_gn rfl rfl rfl hc109 rfl rfl rfl ?_
                      refine V_gn rfl rfl rfl hc109 rfl rfl rfl ?_
                      refine V_gn rfl rfl rfl hc109 rfl rfl rfl ?_
                      refine V_y (Y_pick_fe rfl hc109 rfl) rfl rfl rfl ?_
                      exact V_end fun a ha => ⟨(), ha.sub ⟨rfl, rfl, rfl, rfl, rfl, rfl, (by rw [hc109]; rfl), trivial⟩, rfl⟩
                  simp only [List.take, List.drop]
                  rintro _ _ rfl
                  refine V_as rfl rfl ?_
                  obtain rfl := Option.some.inj ho100
                  refine V_end (fun a ha113 => ?_)
                  exact ⟨(), ha113.sub ⟨rfl, rfl, rfl, rfl, rfl, rfl, rfl, trivial⟩, rfl⟩
              rintro _ _ rfl a ha105
              refine C_at (n := ⟨135, [], none⟩) (fun _ _ => rfl) ?_ ha105
              refine C_cond rfl (fun hc114 => ?_) (fun hc114 => ?_)
              · rw [if_pos hc114] at h56
                refine C_seq ?_
                refine C_region ?_
                refine V_as rfl rfl ?_
                refine V_to (fun _ _ => rfl) ?_
                obtain rfl := Option.some.inj h56
                obtain rfl := (h57 : Lp.rt _ = _)
                rw [Lp.andThen_rt] at hm
                obtain rfl := Option.some.inj hm
                refine C_ret ?_
                try simp only [↓inBlock_ret, ↓then_ret]
                exact retQ rfl (Res.one Tryz.results30 rfl) ⟨rfl, hK.kp⟩
              · rw [if_neg (nt hc114)] at h56
                refine C_seq ?_
                refine C_region_q (Dw := Dw) Tryz_mixed (by kernel_rfl) ?_
                refine VQ_y (fun w' hw' => Y_move rfl) rfl rfl rfl ?_
                refine VQ_y (fun w' hw' => Y_gtr rfl rfl) rfl rfl rfl ?_
                refine VQ_y (fun w' hw' => Y_move rfl) rfl rfl rfl ?_
                obtain ⟨s116, hs116, h56⟩ := Option.bind_eq_some_iff.1 h56
                refine VQ_cut 11 (fun _ : Unit => [(1, .pointer (some ⟨b3, 0, none⟩)), (58, v39), (59, .int .i64 (c.pieces.length : Int)), (60, .int .i64 (k45 : Int)), (133, .bool s116)]) (fun _ => True) ?_ ?_
                · simp only [List.take, List.drop]
                  rcases Bool.eq_false_or_eq_true (decide ((0 : Int) < (k45 : Int))) with hc115 | hc115
                  · rw [if_pos hc115] at hs116
                    refine VQ_ge rfl rfl rfl hc115 ?_
                    have h117 := El_level_Piece_0 h74
                    refine VQ_y (fun w' hw' => Y_fieldAddr Tryz.underlying70 rfl Tryz.sizeOf3 (by decide) rfl) rfl rfl rfl ?_
                    refine VQ_ge rfl rfl rfl hc115 ?_
                    refine VQ_y (fun w' hw' => Y_load (El.int (El.kp (Dw := Dw) h117 hw')) Tryz.isAgg3 rfl) rfl rfl rfl ?_
                    refine VQ_ge rfl rfl rfl hc115 ?_
                    have h118 := El_level_Clock_6 h6
                    refine VQ_y (fun w' hw' => Y_fieldAddr Tryz.underlying39 rfl Tryz.sizeOf37 (by decide) rfl) rfl rfl rfl ?_
                    refine VQ_ge rfl rfl rfl hc115 ?_
                    obtain ⟨v119, h120, h121⟩ := El.list h118
                    refine VQ_y (fun w' hw' => Y_load ((World.cell?_of_block (hw'.block _ (World.block_lt_of_cell? _ _ h120))).trans h120) Tryz.isAgg37 rfl) rfl rfl rfl ?_
                    refine VQ_ge rfl rfl rfl hc115 ?_
                    refine VQ_y (fun w' hw' => Y_move rfl) rfl rfl rfl ?_
                    refine VQ_ge rfl rfl rfl hc115 ?_
                    refine VQ_y (fun w' hw' => Y_subI rfl rfl) rfl rfl rfl ?_
                    refine VQ_ge rfl rfl rfl hc115 ?_
                    obtain ⟨x122, hx122, hs116⟩ := Option.bind_eq_some_iff.1 hs116
                    refine VQ_indexAddr h121 hx122 Tryz.underlying37 Tryz.sizeOf70 rfl rfl rfl ?_
                    intro b123 o124 h125
                    refine VQ_ge rfl rfl rfl hc115 ?_
                    have h126 := El_level_Piece_1 h125
                    refine VQ_y (fun w' hw' => Y_fieldAddr Tryz.underlying70 rfl Tryz.sizeOf3 (by decide) rfl) rfl rfl rfl ?_
                    refine VQ_ge rfl rfl rfl hc115 ?_
                    refine VQ_y (fun w' hw' => Y_load (El.int (El.kp (Dw := Dw) h126 hw')) Tryz.isAgg3 rfl) rfl rfl rfl ?_
                    refine VQ_ge rfl rfl rfl hc115 ?_
                    refine VQ_y (fun w' hw' => Y_lss rfl rfl) rfl rfl rfl ?_
                    refine VQ_y (fun _ _ => Y_pick_te rfl hc115 rfl) rfl rfl rfl ?_
                    obtain rfl := Option.some.inj hs116
                    exact VQ_end fun a ha => ⟨(), ha.sub ⟨rfl, rfl, rfl, rfl, rfl, trivial⟩, trivial⟩
                  · rw [if_neg (nt hc115)] at hs116
                    refine VQ_gn rfl rfl rfl hc115 rfl rfl rfl ?_
                    refine VQ_gn rfl rfl rfl hc115 rfl rfl rfl ?_
                    refine VQ_gn rfl rfl rfl hc115 rfl rfl rfl ?_
                    refine VQ_gn rfl rfl rfl hc115 rfl rfl rfl ?_
                    refine VQ_gn rfl rfl rfl hc115 rfl rfl rfl ?_
                    refine VQ_gn rfl rfl rfl hc115 rfl rfl rfl ?_
                    refine VQ_gn rfl rfl rfl hc115 rfl rfl rfl ?_
                    refine VQ_gn rfl rfl rfl hc115 rfl rfl rfl ?_
                    refine VQ_gn rfl rfl rfl hc115 rfl rfl rfl ?_
                    refine VQ_gn rfl rfl rfl hc115 rfl rfl rfl ?_
                    refine VQ_y (fun _ _ => Y_pick_fe rfl hc115 rfl) rfl rfl rfl ?_
                    obtain rfl := Option.some.inj hs116
                    exact VQ_end fun a ha => ⟨(), ha.sub ⟨rfl, rfl, rfl, rfl, rfl, trivial⟩, trivial⟩
                simp only [List.take, List.drop]
                rintro _ _
                refine VQ_y (fun w' hw' => Y_assign rfl) rfl rfl rfl ?_
                refine VQ_to (fun _ _ => rfl) (fun w127 hk128 => ?_)
                have ht129 := Kp.tr hk128 hA hB
                replace hH := Hp.kp hH hk128
                replace h6 := El.tr h6 ht129
                replace h41 := Sl.tr h41 ht129
                replace hK := Tr.trans hK ht129
                replace hr44 := Tr.trans hr44 ht129
                replace hB := Nat.le_trans hB ht129.ex.size
                replace hA := ht129.new
                refine C_cond rfl (fun hc130 => ?_) (fun hc130 => ?_)
                · rw [if_pos hc130] at h56
                  refine C_seq ?_
                  refine C_region ?_
                  refine V_as rfl rfl ?_
                  refine V_to (fun _ _ => rfl) ?_
                  obtain rfl := Option.some.inj h56
                  obtain rfl := (h57 : Lp.rt _ = _)
                  rw [Lp.andThen_rt] at hm
                  obtain rfl := Option.some.inj hm
                  refine C_ret ?_
                  try simp only [↓inBlock_ret, ↓then_ret]
                  exact retQ rfl (Res.one Tryz.results30 rfl) ⟨rfl, hK.kp⟩
                · rw [if_neg (nt hc130)] at h56
                  refine C_skip_to (fun _ _ => rfl) ?_
                  refine C_region ?_
                  refine V_y (Y_addI rfl rfl) rfl rfl rfl ?_
                  refine V_mv rfl rfl ?_
                  obtain rfl := Option.some.inj h56
                  refine V_end (fun a ha131 => ?_)
                  exact ⟨(), hlt59, h57, ⟨A53, ha131.sub ⟨rfl, rfl, rfl, (congrArg (fun z => some (Value.int .i64 z)) (w64_succ hlt59 hn62)), trivial⟩, ⟨hH, hr44⟩⟩⟩
          · refine C_exit (fun a ha132 => ?_)
            exact ⟨((), A53), ha132.sub trivial, ⟨(h60 (eq_of_dec hle58 hc63)).symm, hH, hr44⟩⟩
        rintro ⟨s43, A49⟩ w46 ⟨rfl, hH50, hk47⟩ a ha48
        rw [Lp.andThen_fin] at hm
        replace hK := Tr.trans hK hk47
        replace hB := Nat.le_trans hB hk47.ex.size
        replace hA := hk47.new
        replace hH : Hp w.heap.size A49 w46 ([]) := hH50
        refine C_at (n := ⟨135, [], none⟩) (fun _ _ => rfl) ?_ ha48
        refine C_seq ?_
        refine C_region ?_
        refine V_as rfl rfl ?_
        refine V_to (fun _ _ => rfl) ?_
        obtain rfl := Option.some.inj hm
        refine C_ret ?_
        try simp only [↓inBlock_ret, ↓then_ret]
        exact retQ rfl (Res.one Tryz.results30 rfl) ⟨rfl, hK.kp⟩

set_option maxRecDepth 4000 in
set_option maxHeartbeats 4000000 in
theorem cal_within_c (w : World) (n : Int) (low : Int) (high : Int) : Ret Tryz.prog 50 #[.int .i64 n, .int .i64 low, .int .i64 high] w fun v w' => v = .bool (cal_within n low high) ∧ w = w' := by
  generalize hm : cal_within n low high = r
  unfold cal_within at hm
  refine enter Tryz.func50 rfl Tryz.ntmps50 rfl ?_
  refine C_seq ?_
  refine C_region ?_
  refine V_as rfl rfl ?_
  refine V_to (fun _ _ => rfl) ?_
  refine C_seq ?_
  refine C_region ?_
  refine V_mv rfl rfl ?_
  refine V_mv rfl rfl ?_
  refine V_y (Y_geq rfl rfl) rfl rfl rfl ?_
  refine V_mv rfl rfl ?_
  refine V_cut 4 (fun _ : Unit => [(14, .bool ((decide (low ≤ n)) && (decide (n ≤ high))))]) (fun _ w' => w = w') ?_ ?_
  · simp only [List.take, List.drop]
    rcases Bool.eq_false_or_eq_true (decide (low ≤ n)) with hc1 | hc1
    · refine V_ge rfl rfl rfl hc1 ?_
      refine V_mv rfl rfl ?_
      refine V_ge rfl rfl rfl hc1 ?_
      refine V_mv rfl rfl ?_
      refine V_ge rfl rfl rfl hc1 ?_
      refine V_y (Y_leq rfl rfl) rfl rfl rfl ?_
      refine V_y (Y_pick_te rfl hc1 rfl) rfl rfl rfl ?_
      exact V_end fun a ha => ⟨(), ha.sub ⟨(by rw [hc1]; rfl), trivial⟩, rfl⟩
    · refine V_gn rfl rfl rfl hc1 rfl rfl rfl ?_
      refine V_gn rfl rfl rfl hc1 rfl rfl rfl ?_
      refine V_gn rfl rfl rfl hc1 rfl rfl rfl ?_
      refine V_y (Y_pick_fe rfl hc1 rfl) rfl rfl rfl ?_
      exact V_end fun a ha => ⟨(), ha.sub ⟨(by rw [hc1]; rfl), trivial⟩, rfl⟩
  simp only [List.take, List.drop]
  rintro _ _ rfl
  refine V_as rfl rfl ?_
  refine V_to (fun _ _ => rfl) ?_
  obtain rfl := hm
  refine C_ret ?_
  try simp only [↓inBlock_ret, ↓then_ret]
  exact retQ rfl (Res.one Tryz.results50 rfl) ⟨rfl, rfl⟩

set_option maxRecDepth 4000 in
set_option maxHeartbeats 4000000 in
theorem cal_CheckZone_c (w : World) {A : Nat → Prop} (hA : ∀ b, w.heap.size ≤ b → A b) (z : cal_Zone) (v_z : Value) (h_z : Sl A w v_z z.changes) {r : Int} (hm : cal_CheckZone z = some r) : Ret Tryz.prog 48 #[.agg #[.int .i64 z.offset, v_z]] w fun v w' => v = .int .i64 r ∧ Kp Dw w w' := by
  unfold cal_CheckZone at hm
  refine enter Tryz.func48 rfl Tryz.ntmps48 rfl ?_
  have hA0 := hA
  have hB := Nat.le_refl w.heap.size
  have hK : Tr Dw w.heap.size A w A w := Tr.refl (Dw := Dw) hA
  have hH : Hp w.heap.size A w [] := Hp.nil
  refine C_seq ?_
  refine C_region ?_
  refine V_box rfl rfl ?_
  intro b3 w4 h5
  have hk7 := h5.kp (Dw := Dw)
  have h6 : El (α := cal_Zone) A w4 b3 0 z := h5.el hA ⟨[.int .i64 z.offset], _, rfl, rfl, ⟨_, rfl, h_z⟩⟩
  have ht8 := Kp.tr hk7 hA hB
  replace hH := Hp.kp hH hk7
  replace h_z := Sl.tr h_z ht8
  replace hK := Tr.trans hK ht8
  replace hB := Nat.le_trans hB ht8.ex.size
  replace hA := ht8.new
  refine V_as rfl rfl ?_
  refine V_to (fun _ _ => rfl) ?_
  refine C_seq ?_
  refine C_seq ?_
  refine C_region ?_
  have h9 := El_cal_Zone_0 h6
  refine V_y (Y_fieldAddr Tryz.underlying62 rfl Tryz.sizeOf3 (by decide) rfl) rfl rfl rfl ?_
  refine V_y (Y_load (El.int h9) Tryz.isAgg3 rfl) rfl rfl rfl ?_
  refine V_call Tryz.call50 rfl rfl rfl rfl (cal_within_c w4 z.offset (-1440) 1440) ?_
  rintro _ _ ⟨rfl, rfl⟩
  refine V_y (Y_not rfl) rfl rfl rfl ?_
  refine V_to (fun _ _ => rfl) ?_
  refine C_cond rfl (fun hc10 => ?_) (fun hc10 => ?_)
  · rw [if_pos hc10] at hm
    refine C_seq ?_
    refine C_region ?_
    refine V_as rfl rfl ?_
    refine V_to (fun _ _ => rfl) ?_
    obtain rfl := Option.some.inj hm
    refine C_ret ?_
    try simp only [↓inBlock_ret, ↓then_ret]
    exact retQ rfl (Res.one Tryz.results48 rfl) ⟨rfl, hK.kp⟩
  · rw [if_neg (nt hc10)] at hm
    refine C_skip_to (fun _ _ => rfl) ?_
    refine C_seq ?_
    refine C_seq ?_
    refine C_region ?_
    have h11 := El_cal_Zone_1 h6
    refine V_y (Y_fieldAddr Tryz.underlying62 rfl Tryz.sizeOf60 (by decide) rfl) rfl rfl rfl ?_
    obtain ⟨v12, h13, h14⟩ := El.list h11
    refine V_y (Y_load h13 Tryz.isAgg60 rfl) rfl rfl rfl ?_
    refine V_y (Y_lenSl h14 rfl Tryz.underlying60 rfl) rfl rfl rfl ?_
    refine V_y (Y_gtr rfl rfl) rfl rfl rfl ?_
    refine V_to (fun _ _ => rfl) ?_
    refine C_cond rfl (fun hc15 => ?_) (fun hc15 => ?_)
    · rw [if_pos hc15] at hm
      refine C_seq ?_
      refine C_region ?_
      refine V_as rfl rfl ?_
      refine V_to (fun _ _ => rfl) ?_
      obtain rfl := Option.some.inj hm
      refine C_ret ?_
      try simp only [↓inBlock_ret, ↓then_ret]
      exact retQ rfl (Res.one Tryz.results48 rfl) ⟨rfl, hK.kp⟩
    · rw [if_neg (nt hc15)] at hm
      refine C_skip_to (fun _ _ => rfl) ?_
      refine C_seq ?_
      refine C_region_q (Dw := Dw) Tryz_mixed (by kernel_rfl) ?_
      have h16 := El_cal_Zone_0 h6
      refine VQ_y (fun w' hw' => Y_fieldAddr Tryz.underlying62 rfl Tryz.sizeOf3 (by decide) rfl) rfl rfl rfl ?_
      refine VQ_y (fun w' hw' => Y_load (El.int (El.kp (Dw := Dw) h16 hw')) Tryz.isAgg3 rfl) rfl rfl rfl ?_
      refine VQ_y (fun w' hw' => Y_assign rfl) rfl rfl rfl ?_
      refine VQ_y (fun w' hw' => Y_assign rfl) rfl rfl rfl ?_
      refine VQ_to (fun _ _ => rfl) (fun w17 hk18 => ?_)
      have ht19 := Kp.tr hk18 hA hB
      replace hH := Hp.kp hH hk18
      replace h6 := El.tr h6 ht19
      replace hK := Tr.trans hK ht19
      replace hB := Nat.le_trans hB ht19.ex.size
      replace hA := ht19.new
      refine C_seq ?_
      refine C_seq ?_
      refine C_region ?_
      have h20 := El_cal_Zone_1 h6
      refine V_y (Y_fieldAddr Tryz.underlying62 rfl Tryz.sizeOf60 (by decide) rfl) rfl rfl rfl ?_
      obtain ⟨v21, h22, h23⟩ := El.list h20
      refine V_y (Y_load h22 Tryz.isAgg60 rfl) rfl rfl rfl ?_
      refine V_y (Y_lenSl h23 rfl Tryz.underlying60 rfl) rfl rfl rfl ?_
      refine V_mv rfl rfl ?_
      refine V_to (fun _ _ => rfl) ?_
      have hn44 := Sl.le h23
      obtain ⟨o24, ho24, hm⟩ := Option.bind_eq_some_iff.1 hm
      refine C_cutG (ι := ((Int × Int) × (Nat → Prop))) (fun ⟨s25, A31⟩ => []) (fun ⟨s25, A31⟩ => fun w' => o24 = .fin s25 ∧ Hp w.heap.size A31 w' ([]) ∧ Tr Dw w.heap.size A w17 A31 w') ?_ ?_
      · refine C_block ?_
        refine C_range ho24 (fun k27 s33 a w' => ∃ i : (Nat → Prop), Has ⟨50, [], none⟩ a ([(3, .int .i64 s33.1), (4, .int .i64 s33.2), (18, v21), (19, .int .i64 (z.changes.length : Int)), (20, .int .i64 (k27 : Int))]) ∧ Hp w.heap.size i w' ([]) ∧ Tr Dw w.heap.size A w17 i w') (fun a ha => ⟨A, ha.sub ⟨rfl, rfl, rfl, rfl, rfl, trivial⟩, ⟨hH, Tr.refl (Dw := Dw) hA⟩⟩) ?_
        rintro K k27 s33 a w34 ⟨A35, ha75, hH36, hr26⟩ hle40 K43 h42
        refine C_of ?_ ha75
        replace h23 := Sl.tr h23 hr26
        replace hK := Tr.trans hK hr26
        replace hB := Nat.le_trans hB hr26.ex.size
        replace hA := hr26.new
        replace hH : Hp w.heap.size A35 w34 ([]) := hH36
        refine C_seq (C_region (V_y (Y_lss rfl rfl) rfl rfl rfl (V_to (fun _ _ => rfl) ?_)))
        refine C_seq ?_
        refine C_cond rfl (fun hc45 => ?_) (fun hc45 => ?_)
        · have hlt41 := lt_of_dec hc45
          obtain ⟨x37, h38, h39⟩ := K43 hlt41
          refine C_skip_to (fun _ _ => rfl) ?_
          refine C_seq ?_
          refine C_block ?_
          refine C_seq ?_
          refine C_region ?_
          obtain ⟨x46, hx46, h38⟩ := Option.bind_eq_some_iff.1 h38
          refine V_indexAddr h23 hx46 Tryz.underlying60 Tryz.sizeOf116 rfl rfl rfl ?_
          intro b47 o48 h49
          obtain ⟨h50, _⟩ := El_cal_Change h49
          refine V_y (Y_loadA h50 Tryz.isAgg116 Tryz.sizeOf116 rfl) rfl rfl rfl ?_
          refine V_alloc Tryz.zeroValue116 rfl ?_
          intro b51 w52 h53
          refine V_storeNew h53 Tryz.sizeOf116 rfl rfl rfl rfl (by exact (List.forall_mem_cons.2 ⟨rfl, (List.forall_mem_cons.2 ⟨rfl, (fun _ h => nomatch h)⟩)⟩)) ?_
          intro w54 h55
          have hk57 := h55.kp (Dw := Dw)
          have h56 : El (α := cal_Change) A35 w54 b51 0 x46 := h55.el hA ⟨[.int .i64 x46.at_], _, rfl, rfl, rfl⟩
          have ht58 := Kp.tr hk57 hA hB
          replace hH := Hp.kp hH hk57
          replace h23 := Sl.tr h23 ht58
          replace h49 := El.tr h49 ht58
          replace hK := Tr.trans hK ht58
          replace hr26 := Tr.trans hr26 ht58
          replace hB := Nat.le_trans hB ht58.ex.size
          replace hA := ht58.new
          refine V_to (fun _ _ => rfl) ?_
          refine C_seq ?_
          refine C_block ?_
          refine C_seq ?_
          refine C_region ?_
          have h59 := El_cal_Change_0 h56
          refine V_y (Y_fieldAddr Tryz.underlying116 rfl Tryz.sizeOf3 (by decide) rfl) rfl rfl rfl ?_
          refine V_y (Y_load (El.int h59) Tryz.isAgg3 rfl) rfl rfl rfl ?_
          refine V_call Tryz.call50 rfl rfl rfl rfl (cal_within_c w54 x46.at_ 1 3000000) ?_
          rintro _ _ ⟨rfl, rfl⟩
          refine V_y (Y_not rfl) rfl rfl rfl ?_
          refine V_mv rfl rfl ?_
          refine V_cut 5 (fun _ : Unit => [(3, .int .i64 s33.1), (4, .int .i64 s33.2), (6, .pointer (some ⟨b51, 0, none⟩)), (18, v21), (19, .int .i64 (z.changes.length : Int)), (20, .int .i64 (k27 : Int)), (34, .bool ((!(cal_within x46.at_ 1 3000000)) || (!(cal_within x46.offset (-1440) 1440))))]) (fun _ w' => w54 = w') ?_ ?_
          · simp only [List.take, List.drop]
            rcases Bool.eq_false_or_eq_true (!(cal_within x46.at_ 1 3000000)) with hc60 | hc60
            · refine V_gn rfl rfl rfl hc60 rfl rfl rfl ?_
              refine V_gn rfl rfl rfl hc60 rfl rfl rfl ?_
              refine V_gn rfl rfl rfl hc60 rfl rfl rfl ?_
              refine V_gn rfl rfl rfl hc60 rfl rfl rfl ?_
              refine V_y (Y_pick_te rfl hc60 rfl) rfl rfl rfl ?_
              exact V_end fun a ha => ⟨(), ha.sub ⟨rfl, rfl, rfl, rfl, rfl, rfl, (by rw [hc60]; rfl), trivial⟩, rfl⟩
            · refine V_ge rfl rfl rfl hc60 ?_
              have h62 := El_cal_Change_1 h56
              refine V_y (Y_fieldAddr Tryz.underlying116 rfl Tryz.sizeOf3 (by decide) rfl) rfl rfl rfl ?_
              refine V_ge rfl rfl rfl hc60 ?_
              refine V_y (Y_load (El.int h62) Tryz.isAgg3 rfl) rfl rfl rfl ?_
              refine V_ge rfl rfl rfl hc60 ?_
              refine V_call Tryz.call50 rfl rfl rfl rfl (cal_within_c w54 x46.offset (-1440) 1440) ?_
              rintro _ _ ⟨rfl, rfl⟩
              refine V_ge rfl rfl rfl hc60 ?_
              refine V_y (Y_not rfl) rfl rfl rfl ?_
              refine V_y (Y_pick_fe rfl hc60 rfl) rfl rfl rfl ?_
              exact V_end fun a ha => ⟨(), ha.sub ⟨rfl, rfl, rfl, rfl, rfl, rfl, (by rw [hc60]; rfl), trivial⟩, rfl⟩
          simp only [List.take, List.drop]
          rintro _ _ rfl
          refine V_as rfl rfl ?_
          refine V_to (fun _ _ => rfl) ?_
          refine C_cond rfl (fun hc63 => ?_) (fun hc63 => ?_)
          · rw [if_pos hc63] at h38
            refine C_seq ?_
            refine C_region ?_
            refine V_as rfl rfl ?_
            refine V_to (fun _ _ => rfl) ?_
            obtain rfl := Option.some.inj h38
            obtain rfl := (h39 : Lp.rt _ = _)
            rw [Lp.andThen_rt] at hm
            obtain rfl := Option.some.inj hm
            refine C_ret ?_
            try simp only [↓inBlock_ret, ↓then_ret]
            exact retQ rfl (Res.one Tryz.results48 rfl) ⟨rfl, hK.kp⟩
          · rw [if_neg (nt hc63)] at h38
            refine C_seq ?_
            refine C_region ?_
            have h64 := El_cal_Change_0 h56
            refine V_y (Y_fieldAddr Tryz.underlying116 rfl Tryz.sizeOf3 (by decide) rfl) rfl rfl rfl ?_
            refine V_y (Y_load (El.int h64) Tryz.isAgg3 rfl) rfl rfl rfl ?_
            refine V_mv rfl rfl ?_
            refine V_y (Y_leq rfl rfl) rfl rfl rfl ?_
            refine V_as rfl rfl ?_
            refine V_to (fun _ _ => rfl) ?_
            refine C_cond rfl (fun hc65 => ?_) (fun hc65 => ?_)
            · rw [if_pos hc65] at h38
              refine C_seq ?_
              refine C_region ?_
              refine V_as rfl rfl ?_
              refine V_to (fun _ _ => rfl) ?_
              obtain rfl := Option.some.inj h38
              obtain rfl := (h39 : Lp.rt _ = _)
              rw [Lp.andThen_rt] at hm
              obtain rfl := Option.some.inj hm
              refine C_ret ?_
              try simp only [↓inBlock_ret, ↓then_ret]
              exact retQ rfl (Res.one Tryz.results48 rfl) ⟨rfl, hK.kp⟩
            · rw [if_neg (nt hc65)] at h38
              refine C_seq ?_
              refine C_region ?_
              have h66 := El_cal_Change_1 h56
              refine V_y (Y_fieldAddr Tryz.underlying116 rfl Tryz.sizeOf3 (by decide) rfl) rfl rfl rfl ?_
              refine V_y (Y_load (El.int h66) Tryz.isAgg3 rfl) rfl rfl rfl ?_
              refine V_mv rfl rfl ?_
              refine V_y (Y_eql rfl rfl) rfl rfl rfl ?_
              refine V_as rfl rfl ?_
              refine V_to (fun _ _ => rfl) ?_
              refine C_cond rfl (fun hc67 => ?_) (fun hc67 => ?_)
              · rw [if_pos hc67] at h38
                refine C_seq ?_
                refine C_region ?_
                refine V_as rfl rfl ?_
                refine V_to (fun _ _ => rfl) ?_
                obtain rfl := Option.some.inj h38
                obtain rfl := (h39 : Lp.rt _ = _)
                rw [Lp.andThen_rt] at hm
                obtain rfl := Option.some.inj hm
                refine C_ret ?_
                try simp only [↓inBlock_ret, ↓then_ret]
                exact retQ rfl (Res.one Tryz.results48 rfl) ⟨rfl, hK.kp⟩
              · rw [if_neg (nt hc67)] at h38
                refine C_skip_to (fun _ _ => rfl) ?_
                refine C_region_q (Dw := Dw) Tryz_mixed (by kernel_rfl) ?_
                have h68 := El_cal_Change_0 h56
                refine VQ_y (fun w' hw' => Y_fieldAddr Tryz.underlying116 rfl Tryz.sizeOf3 (by decide) rfl) rfl rfl rfl ?_
                refine VQ_y (fun w' hw' => Y_load (El.int (El.kp (Dw := Dw) h68 hw')) Tryz.isAgg3 rfl) rfl rfl rfl ?_
                have h69 := El_cal_Change_1 h56
                refine VQ_y (fun w' hw' => Y_fieldAddr Tryz.underlying116 rfl Tryz.sizeOf3 (by decide) rfl) rfl rfl rfl ?_
                refine VQ_y (fun w' hw' => Y_load (El.int (El.kp (Dw := Dw) h69 hw')) Tryz.isAgg3 rfl) rfl rfl rfl ?_
                refine VQ_y (fun w' hw' => Y_assign rfl) rfl rfl rfl ?_
                refine VQ_y (fun w' hw' => Y_assign rfl) rfl rfl rfl ?_
                refine VQ_to (fun _ _ => rfl) (fun w70 hk71 => ?_)
                have ht72 := Kp.tr hk71 hA hB
                replace hH := Hp.kp hH hk71
                replace h23 := Sl.tr h23 ht72
                replace hK := Tr.trans hK ht72
                replace hr26 := Tr.trans hr26 ht72
                replace hB := Nat.le_trans hB ht72.ex.size
                replace hA := ht72.new
                refine C_region ?_
                refine V_y (Y_addI rfl rfl) rfl rfl rfl ?_
                refine V_mv rfl rfl ?_
                obtain rfl := Option.some.inj h38
                refine V_end (fun a ha73 => ?_)
                exact ⟨(x46.at_, x46.offset), hlt41, h39, ⟨A35, ha73.sub ⟨rfl, rfl, rfl, rfl, (congrArg (fun z => some (Value.int .i64 z)) (w64_succ hlt41 hn44)), trivial⟩, ⟨hH, hr26⟩⟩⟩
        · refine C_exit (fun a ha74 => ?_)
          exact ⟨((s33.1, s33.2), A35), ha74.sub trivial, ⟨(h42 (eq_of_dec hle40 hc45)).symm, hH, hr26⟩⟩
      rintro ⟨s25, A31⟩ w28 ⟨rfl, hH32, hk29⟩ a ha30
      rw [Lp.andThen_fin] at hm
      replace hK := Tr.trans hK hk29
      replace hB := Nat.le_trans hB hk29.ex.size
      replace hA := hk29.new
      replace hH : Hp w.heap.size A31 w28 ([]) := hH32
      refine C_at (n := ⟨50, [], none⟩) (fun _ _ => rfl) ?_ ha30
      refine C_seq ?_
      refine C_region ?_
      refine V_as rfl rfl ?_
      refine V_to (fun _ _ => rfl) ?_
      obtain rfl := Option.some.inj hm
      refine C_ret ?_
      try simp only [↓inBlock_ret, ↓then_ret]
      exact retQ rfl (Res.one Tryz.results48 rfl) ⟨rfl, hK.kp⟩

set_option maxRecDepth 4000 in
set_option maxHeartbeats 4000000 in
theorem cmp_isNaN_int_c (w : World) (x : Int) : Ret Tryz.prog 34 #[.int .i64 x] w fun v w' => v = .bool (cmp_isNaN_int x) ∧ w = w' := by
  generalize hm : cmp_isNaN_int x = r
  unfold cmp_isNaN_int at hm
  refine enter Tryz.func34 rfl Tryz.ntmps34 rfl ?_
  refine C_seq ?_
  refine C_region ?_
  refine V_as rfl rfl ?_
  refine V_to (fun _ _ => rfl) ?_
  refine C_seq ?_
  refine C_region ?_
  refine V_mv rfl rfl ?_
  refine V_mv rfl rfl ?_
  refine V_y (Y_neq rfl rfl) rfl rfl rfl ?_
  refine V_as rfl rfl ?_
  refine V_to (fun _ _ => rfl) ?_
  obtain rfl := hm
  refine C_ret ?_
  try simp only [↓inBlock_ret, ↓then_ret]
  exact retQ rfl (Res.one Tryz.results34 rfl) ⟨rfl, rfl⟩

set_option maxRecDepth 4000 in
set_option maxHeartbeats 4000000 in
theorem cmp_Compare_int_c (w : World) (x : Int) (y : Int) : Ret Tryz.prog 15 #[.int .i64 x, .int .i64 y] w fun v w' => v = .int .i64 (cmp_Compare_int x y) ∧ w = w' := by
  generalize hm : cmp_Compare_int x y = r
  unfold cmp_Compare_int at hm
  refine enter Tryz.func15 rfl Tryz.ntmps15 rfl ?_
  refine C_seq ?_
  refine C_region ?_
  refine V_as rfl rfl ?_
  refine V_to (fun _ _ => rfl) ?_
  refine C_seq ?_
  refine C_region ?_
  refine V_mv rfl rfl ?_
  refine V_call Tryz.call34 rfl rfl rfl rfl (cmp_isNaN_int_c w x) ?_
  rintro _ _ ⟨rfl, rfl⟩
  refine V_as rfl rfl ?_
  refine V_to (fun _ _ => rfl) ?_
  refine C_seq ?_
  refine C_region ?_
  refine V_mv rfl rfl ?_
  refine V_call Tryz.call34 rfl rfl rfl rfl (cmp_isNaN_int_c w y) ?_
  rintro _ _ ⟨rfl, rfl⟩
  refine V_as rfl rfl ?_
  refine V_to (fun _ _ => rfl) ?_
  refine C_seq ?_
  refine C_seq ?_
  refine C_region ?_
  refine V_mv rfl rfl ?_
  refine V_to (fun _ _ => rfl) ?_
  refine C_cond rfl (fun hc1 => ?_) (fun hc1 => ?_)
  · rw [if_pos hc1] at hm
    refine C_seq ?_
    refine C_seq ?_
    refine C_region ?_
    refine V_mv rfl rfl ?_
    refine V_to (fun _ _ => rfl) ?_
    refine C_cond rfl (fun hc2 => ?_) (fun hc2 => ?_)
    · rw [if_pos hc2] at hm
      refine C_seq ?_
      refine C_region ?_
      refine V_as rfl rfl ?_
      refine V_to (fun _ _ => rfl) ?_
      obtain rfl := hm
      refine C_ret ?_
      try simp only [↓inBlock_ret, ↓then_ret]
      exact retQ rfl (Res.one Tryz.results15 rfl) ⟨rfl, rfl⟩
    · rw [if_neg (nt hc2)] at hm
      refine C_skip_to (fun _ _ => rfl) ?_
      refine C_seq ?_
      refine C_region ?_
      refine V_as rfl rfl ?_
      refine V_to (fun _ _ => rfl) ?_
      obtain rfl := hm
      refine C_ret ?_
      try simp only [↓inBlock_ret, ↓then_ret]
      exact retQ rfl (Res.one Tryz.results15 rfl) ⟨rfl, rfl⟩
  · rw [if_neg (nt hc1)] at hm
    refine C_skip_to (fun _ _ => rfl) ?_
    refine C_seq ?_
    refine C_seq ?_
    refine C_region ?_
    refine V_mv rfl rfl ?_
    refine V_to (fun _ _ => rfl) ?_
    refine C_cond rfl (fun hc3 => ?_) (fun hc3 => ?_)
    · rw [if_pos hc3] at hm
      refine C_seq ?_
      refine C_region ?_
      refine V_as rfl rfl ?_
      refine V_to (fun _ _ => rfl) ?_
      obtain rfl := hm
      refine C_ret ?_
      try simp only [↓inBlock_ret, ↓then_ret]
      exact retQ rfl (Res.one Tryz.results15 rfl) ⟨rfl, rfl⟩
    · rw [if_neg (nt hc3)] at hm
      refine C_skip_to (fun _ _ => rfl) ?_
      refine C_seq ?_
      refine C_seq ?_
      refine C_region ?_
      refine V_mv rfl rfl ?_
      refine V_mv rfl rfl ?_
      refine V_y (Y_lss rfl rfl) rfl rfl rfl ?_
      refine V_to (fun _ _ => rfl) ?_
      refine C_cond rfl (fun hc4 => ?_) (fun hc4 => ?_)
      · rw [if_pos hc4] at hm
        refine C_seq ?_
        refine C_region ?_
        refine V_as rfl rfl ?_
        refine V_to (fun _ _ => rfl) ?_
        obtain rfl := hm
        refine C_ret ?_
        try simp only [↓inBlock_ret, ↓then_ret]
        exact retQ rfl (Res.one Tryz.results15 rfl) ⟨rfl, rfl⟩
      · rw [if_neg (nt hc4)] at hm
        refine C_skip_to (fun _ _ => rfl) ?_
        refine C_seq ?_
        refine C_seq ?_
        refine C_region ?_
        refine V_mv rfl rfl ?_
        refine V_mv rfl rfl ?_
        refine V_y (Y_gtr rfl rfl) rfl rfl rfl ?_
        refine V_to (fun _ _ => rfl) ?_
        refine C_cond rfl (fun hc5 => ?_) (fun hc5 => ?_)
        · rw [if_pos hc5] at hm
          refine C_seq ?_
          refine C_region ?_
          refine V_as rfl rfl ?_
          refine V_to (fun _ _ => rfl) ?_
          obtain rfl := hm
          refine C_ret ?_
          try simp only [↓inBlock_ret, ↓then_ret]
          exact retQ rfl (Res.one Tryz.results15 rfl) ⟨rfl, rfl⟩
        · rw [if_neg (nt hc5)] at hm
          refine C_skip_to (fun _ _ => rfl) ?_
          refine C_seq ?_
          refine C_region ?_
          refine V_as rfl rfl ?_
          refine V_to (fun _ _ => rfl) ?_
          obtain rfl := hm
          refine C_ret ?_
          try simp only [↓inBlock_ret, ↓then_ret]
          exact retQ rfl (Res.one Tryz.results15 rfl) ⟨rfl, rfl⟩

set_option maxRecDepth 4000 in
set_option maxHeartbeats 4000000 in
theorem cmp_Or_int_c (w : World) {A : Nat → Prop} (vals : (List Int)) (v_vals : Value) (h_vals : Sl A w v_vals vals) {r : Int} (hm : cmp_Or_int vals = some r) : Ret Tryz.prog 14 #[v_vals] w fun v w' => v = .int .i64 r ∧ w = w' := by
  unfold cmp_Or_int at hm
  refine enter Tryz.func14 rfl Tryz.ntmps14 rfl ?_
  refine C_seq ?_
  refine C_region ?_
  refine V_as rfl rfl ?_
  refine V_to (fun _ _ => rfl) ?_
  refine C_seq ?_
  refine C_region ?_
  refine V_as rfl rfl ?_
  refine V_to (fun _ _ => rfl) ?_
  refine C_seq ?_
  refine C_seq ?_
  refine C_region ?_
  refine V_mv rfl rfl ?_
  refine V_y (Y_lenSl h_vals rfl Tryz.underlying48 rfl) rfl rfl rfl ?_
  refine V_mv rfl rfl ?_
  refine V_to (fun _ _ => rfl) ?_
  have hn19 := Sl.le h_vals
  obtain ⟨o3, ho3, hm⟩ := Option.bind_eq_some_iff.1 hm
  refine C_cutG (ι := Unit) (fun (s4 : Unit) => [(3, .int .i64 0)]) (fun (s4 : Unit) => fun w' => o3 = .fin s4 ∧ w = w') ?_ ?_
  · refine C_block ?_
    refine C_range ho3 (fun k6 _ a w' => ∃ i : Unit, Has ⟨18, [], none⟩ a ([(3, .int .i64 0), (6, v_vals), (7, .int .i64 (vals.length : Int)), (8, .int .i64 (k6 : Int))]) ∧ w = w') (fun a ha => ⟨(), ha.sub ⟨rfl, rfl, rfl, rfl, trivial⟩, rfl⟩) ?_
    rintro K k6 _ a _ ⟨_, ha28, rfl⟩ hle15 K18 h17
    refine C_of ?_ ha28
    refine C_seq (C_region (V_y (Y_lss rfl rfl) rfl rfl rfl (V_to (fun _ _ => rfl) ?_)))
    refine C_seq ?_
    refine C_cond rfl (fun hc20 => ?_) (fun hc20 => ?_)
    · have hlt16 := lt_of_dec hc20
      obtain ⟨x12, h13, h14⟩ := K18 hlt16
      refine C_skip_to (fun _ _ => rfl) ?_
      refine C_seq ?_
      refine C_block ?_
      refine C_seq ?_
      refine C_region ?_
      obtain ⟨x21, hx21, h13⟩ := Option.bind_eq_some_iff.1 h13
      refine V_indexAddr h_vals hx21 Tryz.underlying48 Tryz.sizeOf3 rfl rfl rfl ?_
      intro b22 o23 h24
      refine V_y (Y_load (El.int h24) Tryz.isAgg3 rfl) rfl rfl rfl ?_
      refine V_as rfl rfl ?_
      refine V_to (fun _ _ => rfl) ?_
      refine C_seq ?_
      refine C_region ?_
      refine V_mv rfl rfl ?_
      refine V_mv rfl rfl ?_
      refine V_y (Y_neq rfl rfl) rfl rfl rfl ?_
      refine V_to (fun _ _ => rfl) ?_
      refine C_cond rfl (fun hc25 => ?_) (fun hc25 => ?_)
      · rw [if_pos hc25] at h13
        refine C_seq ?_
        refine C_region ?_
        refine V_mv rfl rfl ?_
        refine V_as rfl rfl ?_
        refine V_to (fun _ _ => rfl) ?_
        obtain rfl := Option.some.inj h13
        obtain rfl := (h14 : Lp.rt _ = _)
        rw [Lp.andThen_rt] at hm
        obtain rfl := Option.some.inj hm
        refine C_ret ?_
        try simp only [↓inBlock_ret, ↓then_ret]
        exact retQ rfl (Res.one Tryz.results14 rfl) ⟨rfl, rfl⟩
      · rw [if_neg (nt hc25)] at h13
        refine C_skip_to (fun _ _ => rfl) ?_
        refine C_region ?_
        refine V_y (Y_addI rfl rfl) rfl rfl rfl ?_
        refine V_mv rfl rfl ?_
        obtain rfl := Option.some.inj h13
        refine V_end (fun a ha26 => ?_)
        exact ⟨(), hlt16, h14, ⟨(), ha26.sub ⟨rfl, rfl, rfl, (congrArg (fun z => some (Value.int .i64 z)) (w64_succ hlt16 hn19)), trivial⟩, rfl⟩⟩
    · refine C_exit (fun a ha27 => ?_)
      exact ⟨(), ha27.sub ⟨rfl, trivial⟩, ⟨(h17 (eq_of_dec hle15 hc20)).symm, rfl⟩⟩
  rintro s4 _ ⟨rfl, rfl⟩ a ha9
  rw [Lp.andThen_fin] at hm
  refine C_at (n := ⟨18, [], none⟩) (fun _ _ => rfl) ?_ ha9
  refine C_seq ?_
  refine C_region ?_
  refine V_mv rfl rfl ?_
  refine V_as rfl rfl ?_
  refine V_to (fun _ _ => rfl) ?_
  obtain rfl := Option.some.inj hm
  refine C_ret ?_
  try simp only [↓inBlock_ret, ↓then_ret]
  exact retQ rfl (Res.one Tryz.results14 rfl) ⟨rfl, rfl⟩

set_option maxRecDepth 4000 in
set_option maxHeartbeats 4000000 in
theorem cal_after_c (w : World) {A : Nat → Prop} (hA : ∀ b, w.heap.size ≤ b → A b) (a_ : cal_Shift) (b : cal_Shift) {r : Bool} (hm : cal_after a_ b = some r) : Ret Tryz.prog 77 #[.agg #[.int .i64 a_.day, .int .i64 a_.from_, .int .i64 a_.to_], .agg #[.int .i64 b.day, .int .i64 b.from_, .int .i64 b.to_]] w fun v w' => v = .bool r ∧ Kp Dw w w' := by
  unfold cal_after at hm
  refine enter Tryz.func77 rfl Tryz.ntmps77 rfl ?_
  have hA0 := hA
  have hB := Nat.le_refl w.heap.size
  have hK : Tr Dw w.heap.size A w A w := Tr.refl (Dw := Dw) hA
  have hH : Hp w.heap.size A w [] := Hp.nil
  refine C_seq ?_
  refine C_region ?_
  refine V_box rfl rfl ?_
  intro b1 w2 h3
  have hk5 := h3.kp (Dw := Dw)
  have h4 : El (α := cal_Shift) A w2 b1 0 a_ := h3.el hA ⟨[.int .i64 a_.day], _, rfl, rfl, ⟨[.int .i64 a_.from_], _, rfl, rfl, rfl⟩⟩
  have ht6 := Kp.tr hk5 hA hB
  replace hH := Hp.kp hH hk5
  replace hK := Tr.trans hK ht6
  replace hB := Nat.le_trans hB ht6.ex.size
  replace hA := ht6.new
  refine V_box rfl rfl ?_
  intro b7 w9 h10
  have hk12 := h10.kp (Dw := Dw)
  have h11 : El (α := cal_Shift) A w9 b7 0 b := h10.el hA ⟨[.int .i64 b.day], _, rfl, rfl, ⟨[.int .i64 b.from_], _, rfl, rfl, rfl⟩⟩
  have ht13 := Kp.tr hk12 hA hB
  replace hH := Hp.kp hH hk12
  replace h4 := El.tr h4 ht13
  replace hK := Tr.trans hK ht13
  replace hB := Nat.le_trans hB ht13.ex.size
  replace hA := ht13.new
  refine V_as rfl rfl ?_
  refine V_to (fun _ _ => rfl) ?_
  refine C_seq ?_
  refine C_region_qt (Dw := Dw) 15 Tryz_mixed (by kernel_rfl) ?_
  simp only [List.take, List.drop]
  have h14 := El_cal_Shift_0 h4
  refine VQ_y (fun w' hw' => Y_fieldAddr Tryz.underlying118 rfl Tryz.sizeOf3 (by decide) rfl) rfl rfl rfl ?_
  refine VQ_y (fun w' hw' => Y_load (El.int (El.kp (Dw := Dw) h14 hw')) Tryz.isAgg3 rfl) rfl rfl rfl ?_
  have h15 := El_cal_Shift_0 h11
  refine VQ_y (fun w' hw' => Y_fieldAddr Tryz.underlying118 rfl Tryz.sizeOf3 (by decide) rfl) rfl rfl rfl ?_
  refine VQ_y (fun w' hw' => Y_load (El.int (El.kp (Dw := Dw) h15 hw')) Tryz.isAgg3 rfl) rfl rfl rfl ?_
  refine VQ_call (.int .i64 (cmp_Compare_int a_.day b.day)) Tryz.call15 rfl rfl rfl rfl (fun w' hw' => (cmp_Compare_int_c w' a_.day b.day).mono (fun _ _ h => ⟨h.1, h.2 ▸ hw'⟩)) ?_
  have h16 := El_cal_Shift_1 h4
  refine VQ_y (fun w' hw' => Y_fieldAddr Tryz.underlying118 rfl Tryz.sizeOf3 (by decide) rfl) rfl rfl rfl ?_
  refine VQ_y (fun w' hw' => Y_load (El.int (El.kp (Dw := Dw) h16 hw')) Tryz.isAgg3 rfl) rfl rfl rfl ?_
  have h17 := El_cal_Shift_1 h11
  refine VQ_y (fun w' hw' => Y_fieldAddr Tryz.underlying118 rfl Tryz.sizeOf3 (by decide) rfl) rfl rfl rfl ?_
  refine VQ_y (fun w' hw' => Y_load (El.int (El.kp (Dw := Dw) h17 hw')) Tryz.isAgg3 rfl) rfl rfl rfl ?_
  refine VQ_call (.int .i64 (cmp_Compare_int a_.from_ b.from_)) Tryz.call15 rfl rfl rfl rfl (fun w' hw' => (cmp_Compare_int_c w' a_.from_ b.from_).mono (fun _ _ h => ⟨h.1, h.2 ▸ hw'⟩)) ?_
  have h18 := El_cal_Shift_2 h4
  refine VQ_y (fun w' hw' => Y_fieldAddr Tryz.underlying118 rfl Tryz.sizeOf3 (by decide) rfl) rfl rfl rfl ?_
  refine VQ_y (fun w' hw' => Y_load (El.int (El.kp (Dw := Dw) h18 hw')) Tryz.isAgg3 rfl) rfl rfl rfl ?_
  have h19 := El_cal_Shift_2 h11
  refine VQ_y (fun w' hw' => Y_fieldAddr Tryz.underlying118 rfl Tryz.sizeOf3 (by decide) rfl) rfl rfl rfl ?_
  refine VQ_y (fun w' hw' => Y_load (El.int (El.kp (Dw := Dw) h19 hw')) Tryz.isAgg3 rfl) rfl rfl rfl ?_
  refine VQ_call (.int .i64 (cmp_Compare_int a_.to_ b.to_)) Tryz.call15 rfl rfl rfl rfl (fun w' hw' => (cmp_Compare_int_c w' a_.to_ b.to_).mono (fun _ _ h => ⟨h.1, h.2 ▸ hw'⟩)) ?_
  refine VQ_tail (fun w20 hk21 => ?_)
  try simp only [List.take, List.drop]
  have ht22 := Kp.tr hk21 hA hB
  replace hH := Hp.kp hH hk21
  replace h4 := El.tr h4 ht22
  replace h11 := El.tr h11 ht22
  replace h14 := El.tr h14 ht22
  replace h15 := El.tr h15 ht22
  replace h16 := El.tr h16 ht22
  replace h17 := El.tr h17 ht22
  replace h18 := El.tr h18 ht22
  replace h19 := El.tr h19 ht22
  replace hK := Tr.trans hK ht22
  replace hB := Nat.le_trans hB ht22.ex.size
  replace hA := ht22.new
  refine V_buildSlice (Dw := Dw) (cells := #[.int .i64 (cmp_Compare_int a_.day b.day), .int .i64 (cmp_Compare_int a_.from_ b.from_), .int .i64 (cmp_Compare_int a_.to_ b.to_)]) (l := ([(cmp_Compare_int a_.day b.day), (cmp_Compare_int a_.from_ b.from_), (cmp_Compare_int a_.to_ b.to_)] : List Int)) (len := 3) Tryz.underlying48 Tryz.sizeOf3 Tryz.zeroValue3 rfl (by generalize ((cmp_Compare_int a_.from_ b.from_) : Int) = z27; generalize ((cmp_Compare_int a_.day b.day) : Int) = z28; generalize ((cmp_Compare_int a_.to_ b.to_) : Int) = z29; kernel_rfl) (show (3 * 1 : Nat) ≠ 0 by decide) (show (3 * 1 : Nat) ≤ 2 ^ 24 by decide) hA ⟨[.int .i64 (cmp_Compare_int a_.day b.day)], _, rfl, rfl, ⟨[.int .i64 (cmp_Compare_int a_.from_ b.from_)], _, rfl, rfl, ⟨[.int .i64 (cmp_Compare_int a_.to_ b.to_)], _, rfl, rfl, rfl⟩⟩⟩ rfl rfl ?_
  intro v23 w24 hk26 h25
  have ht30 := Kp.tr hk26 hA hB
  replace hH := Hp.kp hH hk26
  replace h4 := El.tr h4 ht30
  replace h11 := El.tr h11 ht30
  replace h14 := El.tr h14 ht30
  replace h15 := El.tr h15 ht30
  replace h16 := El.tr h16 ht30
  replace h17 := El.tr h17 ht30
  replace h18 := El.tr h18 ht30
  replace h19 := El.tr h19 ht30
  replace hK := Tr.trans hK ht30
  replace hB := Nat.le_trans hB ht30.ex.size
  replace hA := ht30.new
  obtain ⟨x31, hx31, hm⟩ := Option.bind_eq_some_iff.1 hm
  refine V_call Tryz.call14 rfl rfl rfl rfl (cmp_Or_int_c w24 ([(cmp_Compare_int a_.day b.day), (cmp_Compare_int a_.from_ b.from_), (cmp_Compare_int a_.to_ b.to_)] : List Int) v23 h25 hx31) ?_
  rintro _ _ ⟨rfl, rfl⟩
  refine V_y (Y_gtr rfl rfl) rfl rfl rfl ?_
  refine V_as rfl rfl ?_
  refine V_to (fun _ _ => rfl) ?_
  obtain rfl := Option.some.inj hm
  refine C_ret ?_
  try simp only [↓inBlock_ret, ↓then_ret]
  exact retQ rfl (Res.one Tryz.results77 rfl) ⟨rfl, hK.kp⟩

set_option maxRecDepth 4000 in
set_option maxHeartbeats 4000000 in
theorem cal_checkShifts_c (w : World) {A : Nat → Prop} (hA : ∀ b, w.heap.size ≤ b → A b) (l : (List cal_Shift)) (v_l : Value) (h_l : Sl A w v_l l) (dated : Bool) {r : Int} (hm : cal_checkShifts l dated = some r) : Ret Tryz.prog 49 #[v_l, .bool dated] w fun v w' => v = .int .i64 r ∧ Kp Dw w w' := by
  unfold cal_checkShifts at hm
  refine enter Tryz.func49 rfl Tryz.ntmps49 rfl ?_
  have hA0 := hA
  have hB := Nat.le_refl w.heap.size
  have hK : Tr Dw w.heap.size A w A w := Tr.refl (Dw := Dw) hA
  have hH : Hp w.heap.size A w [] := Hp.nil
  refine C_seq ?_
  refine C_region ?_
  refine V_as rfl rfl ?_
  refine V_to (fun _ _ => rfl) ?_
  refine C_seq ?_
  refine C_seq ?_
  refine C_region ?_
  refine V_mv rfl rfl ?_
  refine V_y (Y_lenSl h_l rfl Tryz.underlying63 rfl) rfl rfl rfl ?_
  refine V_mv rfl rfl ?_
  refine V_to (fun _ _ => rfl) ?_
  have hn23 := Sl.le h_l
  obtain ⟨o3, ho3, hm⟩ := Option.bind_eq_some_iff.1 hm
  refine C_cutG (ι := (Unit × (Nat → Prop))) (fun ⟨s4, A10⟩ => []) (fun ⟨s4, A10⟩ => fun w' => o3 = .fin s4 ∧ Hp w.heap.size A10 w' ([]) ∧ Tr Dw w.heap.size A w A10 w') ?_ ?_
  · refine C_block ?_
    refine C_range ho3 (fun k6 _ a w' => ∃ i : (Nat → Prop), Has ⟨58, [], none⟩ a ([(0, v_l), (1, .bool dated), (7, v_l), (8, .int .i64 (l.length : Int)), (9, .int .i64 (k6 : Int))]) ∧ Hp w.heap.size i w' ([]) ∧ Tr Dw w.heap.size A w i w') (fun a ha => ⟨A, ha.sub ⟨rfl, rfl, rfl, rfl, rfl, trivial⟩, ⟨hH, Tr.refl (Dw := Dw) hA⟩⟩) ?_
    rintro K k6 _ a w13 ⟨A14, ha71, hH15, hr5⟩ hle19 K22 h21
    refine C_of ?_ ha71
    replace h_l := Sl.tr h_l hr5
    replace hK := Tr.trans hK hr5
    replace hB := Nat.le_trans hB hr5.ex.size
    replace hA := hr5.new
    replace hH : Hp w.heap.size A14 w13 ([]) := hH15
    refine C_seq (C_region (V_y (Y_lss rfl rfl) rfl rfl rfl (V_to (fun _ _ => rfl) ?_)))
    refine C_seq ?_
    refine C_cond rfl (fun hc24 => ?_) (fun hc24 => ?_)
    · have hlt20 := lt_of_dec hc24
      obtain ⟨x16, h17, h18⟩ := K22 hlt20
      refine C_skip_to (fun _ _ => rfl) ?_
      refine C_seq ?_
      refine C_block ?_
      refine C_seq ?_
      refine C_region ?_
      refine V_mv rfl rfl ?_
      obtain ⟨x25, hx25, h17⟩ := Option.bind_eq_some_iff.1 h17
      refine V_indexAddr h_l hx25 Tryz.underlying63 Tryz.sizeOf118 rfl rfl rfl ?_
      intro b26 o27 h28
      obtain ⟨h29, _⟩ := El_cal_Shift h28
      refine V_y (Y_loadA h29 Tryz.isAgg118 Tryz.sizeOf118 rfl) rfl rfl rfl ?_
      refine V_alloc Tryz.zeroValue118 rfl ?_
      intro b30 w31 h32
      refine V_as rfl rfl ?_
      refine V_storeNew h32 Tryz.sizeOf118 rfl rfl rfl rfl (by exact (List.forall_mem_cons.2 ⟨rfl, (List.forall_mem_cons.2 ⟨rfl, (List.forall_mem_cons.2 ⟨rfl, (fun _ h => nomatch h)⟩)⟩)⟩)) ?_
      intro w33 h34
      have hk36 := h34.kp (Dw := Dw)
      have h35 : El (α := cal_Shift) A14 w33 b30 0 x25 := h34.el hA ⟨[.int .i64 x25.day], _, rfl, rfl, ⟨[.int .i64 x25.from_], _, rfl, rfl, rfl⟩⟩
      have ht37 := Kp.tr hk36 hA hB
      replace hH := Hp.kp hH hk36
      replace h_l := Sl.tr h_l ht37
      replace h28 := El.tr h28 ht37
      replace hK := Tr.trans hK ht37
      replace hr5 := Tr.trans hr5 ht37
      replace hB := Nat.le_trans hB ht37.ex.size
      replace hA := ht37.new
      refine V_to (fun _ _ => rfl) ?_
      refine C_seq ?_
      refine C_seq ?_
      refine C_region ?_
      refine V_mv rfl rfl ?_
      refine V_mv rfl rfl ?_
      refine V_cut 4 (fun _ : Unit => [(0, v_l), (1, .bool dated), (5, .int .i64 (k6 : Int)), (6, .pointer (some ⟨b30, 0, none⟩)), (7, v_l), (8, .int .i64 (l.length : Int)), (9, .int .i64 (k6 : Int)), (19, .bool (dated && (x25.day != 0)))]) (fun _ w' => w33 = w') ?_ ?_
      · simp only [List.take, List.drop]
        rcases Bool.eq_false_or_eq_true (dated) with hc38 | hc38
        · refine V_ge rfl rfl rfl hc38 ?_
          have h40 := El_cal_Shift_0 h35
          refine V_y (Y_fieldAddr Tryz.underlying118 rfl Tryz.sizeOf3 (by decide) rfl) rfl rfl rfl ?_
          refine V_ge rfl rfl rfl hc38 ?_
          refine V_y (Y_load (El.int h40) Tryz.isAgg3 rfl) rfl rfl rfl ?_
          refine V_ge rfl rfl rfl hc38 ?_
          refine V_y (Y_neq rfl rfl) rfl rfl rfl ?_
          refine V_y (Y_pick_te rfl hc38 rfl) rfl rfl rfl ?_
          exact V_end fun a ha => ⟨(), ha.sub ⟨rfl, rfl, rfl, rfl, rfl, rfl, rfl, (by rw [hc38]; rfl), trivial⟩, rfl⟩
        · refine V_gn rfl rfl rfl hc38 rfl rfl rfl ?_
          refine V_gn rfl rfl rfl hc38 rfl rfl rfl ?_
          refine V_gn rfl rfl rfl hc38 rfl rfl rfl ?_
          refine V_y (Y_pick_fe rfl hc38 rfl) rfl rfl rfl ?_
          exact V_end fun a ha => ⟨(), ha.sub ⟨rfl, rfl, rfl, rfl, rfl, rfl, rfl, (by rw [hc38]; rfl), trivial⟩, rfl⟩
      simp only [List.take, List.drop]
      rintro _ _ rfl
      refine V_to (fun _ _ => rfl) ?_
      refine C_cond rfl (fun hc41 => ?_) (fun hc41 => ?_)
      · rw [if_pos hc41] at h17
        refine C_seq ?_
        refine C_region ?_
        refine V_as rfl rfl ?_
        refine V_to (fun _ _ => rfl) ?_
        obtain rfl := Option.some.inj h17
        obtain rfl := (h18 : Lp.rt _ = _)
        rw [Lp.andThen_rt] at hm
        obtain rfl := Option.some.inj hm
        refine C_ret ?_
        try simp only [↓inBlock_ret, ↓then_ret]
        exact retQ rfl (Res.one Tryz.results49 rfl) ⟨rfl, hK.kp⟩
      · rw [if_neg (nt hc41)] at h17
        refine C_skip_to (fun _ _ => rfl) ?_
        refine C_seq ?_
        refine C_seq ?_
        refine C_region ?_
        have h42 := El_cal_Shift_0 h35
        refine V_y (Y_fieldAddr Tryz.underlying118 rfl Tryz.sizeOf3 (by decide) rfl) rfl rfl rfl ?_
        refine V_y (Y_load (El.int h42) Tryz.isAgg3 rfl) rfl rfl rfl ?_
        refine V_call Tryz.call50 rfl rfl rfl rfl (cal_within_c w33 x25.day 0 6) ?_
        rintro _ _ ⟨rfl, rfl⟩
        refine V_y (Y_not rfl) rfl rfl rfl ?_
        refine V_mv rfl rfl ?_
        refine V_cut 5 (fun _ : Unit => [(0, v_l), (1, .bool dated), (5, .int .i64 (k6 : Int)), (6, .pointer (some ⟨b30, 0, none⟩)), (7, v_l), (8, .int .i64 (l.length : Int)), (9, .int .i64 (k6 : Int)), (29, .bool ((!(cal_within x25.day 0 6)) || (!(cal_within x25.from_ 0 1439))))]) (fun _ w' => w33 = w') ?_ ?_
        · simp only [List.take, List.drop]
          rcases Bool.eq_false_or_eq_true (!(cal_within x25.day 0 6)) with hc43 | hc43
          · refine V_gn rfl rfl rfl hc43 rfl rfl rfl ?_
            refine V_gn rfl rfl rfl hc43 rfl rfl rfl ?_
            refine V_gn rfl rfl rfl hc43 rfl rfl rfl ?_
            refine V_gn rfl rfl rfl hc43 rfl rfl rfl ?_
            refine V_y (Y_pick_te rfl hc43 rfl) rfl rfl rfl ?_
            exact V_end fun a ha => ⟨(), ha.sub ⟨rfl, rfl, rfl, rfl, rfl, rfl, rfl, (by rw [hc43]; rfl), trivial⟩, rfl⟩
          · refine V_ge rfl rfl rfl hc43 ?_
            have h45 := El_cal_Shift_1 h35
            refine V_y (Y_fieldAddr Tryz.underlying118 rfl Tryz.sizeOf3 (by decide) rfl) rfl rfl rfl ?_
            refine V_ge rfl rfl rfl hc43 ?_
            refine V_y (Y_load (El.int h45) Tryz.isAgg3 rfl) rfl rfl rfl ?_
            refine V_ge rfl rfl rfl hc43 ?_
            refine V_call Tryz.call50 rfl rfl rfl rfl (cal_within_c w33 x25.from_ 0 1439) ?_
            rintro _ _ ⟨rfl, rfl⟩
            refine V_ge rfl rfl rfl hc43 ?_
            refine V_y (Y_not rfl) rfl rfl rfl ?_
            refine V_y (Y_pick_fe rfl hc43 rfl) rfl rfl rfl ?_
            exact V_end fun a ha => ⟨(), ha.sub ⟨rfl, rfl, rfl, rfl, rfl, rfl, rfl, (by rw [hc43]; rfl), trivial⟩, rfl⟩
        simp only [List.take, List.drop]
        rintro _ _ rfl
        refine V_mv rfl rfl ?_
        refine V_cut 6 (fun _ : Unit => [(0, v_l), (1, .bool dated), (5, .int .i64 (k6 : Int)), (6, .pointer (some ⟨b30, 0, none⟩)), (7, v_l), (8, .int .i64 (l.length : Int)), (9, .int .i64 (k6 : Int)), (36, .bool (((!(cal_within x25.day 0 6)) || (!(cal_within x25.from_ 0 1439))) || (decide (x25.to_ ≤ x25.from_))))]) (fun _ w' => w33 = w') ?_ ?_
        · simp only [List.take, List.drop]
          rcases Bool.eq_false_or_eq_true (((!(cal_within x25.day 0 6)) || (!(cal_within x25.from_ 0 1439)))) with hc46 | hc46
          · refine V_gn rfl rfl rfl hc46 rfl rfl rfl ?_
            refine V_gn rfl rfl rfl hc46 rfl rfl rfl ?_
            refine V_gn rfl rfl rfl hc46 rfl rfl rfl ?_
            refine V_gn rfl rfl rfl hc46 rfl rfl rfl ?_
            refine V_gn rfl rfl rfl hc46 rfl rfl rfl ?_
            refine V_y (Y_pick_te rfl hc46 rfl) rfl rfl rfl ?_
            exact V_end fun a ha => ⟨(), ha.sub ⟨rfl, rfl, rfl, rfl, rfl, rfl, rfl, (by rw [hc46]; rfl), trivial⟩, rfl⟩
          · refine V_ge rfl rfl rfl hc46 ?_
            have h48 := El_cal_Shift_2 h35
            refine V_y (Y_fieldAddr Tryz.underlying118 rfl Tryz.sizeOf3 (by decide) rfl) rfl rfl rfl ?_
            refine V_ge rfl rfl rfl hc46 ?_
            refine V_y (Y_load (El.int h48) Tryz.isAgg3 rfl) rfl rfl rfl ?_
            refine V_ge rfl rfl rfl hc46 ?_
            have h49 := El_cal_Shift_1 h35
            refine V_y (Y_fieldAddr Tryz.underlying118 rfl Tryz.sizeOf3 (by decide) rfl) rfl rfl rfl ?_
            refine V_ge rfl rfl rfl hc46 ?_
            refine V_y (Y_load (El.int h49) Tryz.isAgg3 rfl) rfl rfl rfl ?_
            refine V_ge rfl rfl rfl hc46 ?_
            refine V_y (Y_leq rfl rfl) rfl rfl rfl ?_
            refine V_y (Y_pick_fe rfl hc46 rfl) rfl rfl rfl ?_
            exact V_end fun a ha => ⟨(), ha.sub ⟨rfl, rfl, rfl, rfl, rfl, rfl, rfl, (by rw [hc46]; rfl), trivial⟩, rfl⟩
        simp only [List.take, List.drop]
        rintro _ _ rfl
        refine V_mv rfl rfl ?_
        refine V_cut 7 (fun _ : Unit => [(0, v_l), (1, .bool dated), (5, .int .i64 (k6 : Int)), (6, .pointer (some ⟨b30, 0, none⟩)), (7, v_l), (8, .int .i64 (l.length : Int)), (9, .int .i64 (k6 : Int)), (44, .bool ((((!(cal_within x25.day 0 6)) || (!(cal_within x25.from_ 0 1439))) || (decide (x25.to_ ≤ x25.from_))) || (decide ((w64 (x25.from_ + 1440)) < x25.to_))))]) (fun _ w' => w33 = w') ?_ ?_
        · simp only [List.take, List.drop]
          rcases Bool.eq_false_or_eq_true ((((!(cal_within x25.day 0 6)) || (!(cal_within x25.from_ 0 1439))) || (decide (x25.to_ ≤ x25.from_)))) with hc50 | hc50
          · refine V_gn rfl rfl rfl hc50 rfl rfl rfl ?_
            refine V_gn rfl rfl rfl hc50 rfl rfl rfl ?_
            refine V_gn rfl rfl rfl hc50 rfl rfl rfl ?_
            refine V_gn rfl rfl rfl hc50 rfl rfl rfl ?_
            refine V_gn rfl rfl rfl hc50 rfl rfl rfl ?_
            refine V_gn rfl rfl rfl hc50 rfl rfl rfl ?_
            refine V_y (Y_pick_te rfl hc50 rfl) rfl rfl rfl ?_
            exact V_end fun a ha => ⟨(), ha.sub ⟨rfl, rfl, rfl, rfl, rfl, rfl, rfl, (by rw [hc50]; rfl), trivial⟩, rfl⟩
          · refine V_ge rfl rfl rfl hc50 ?_
            have h52 := El_cal_Shift_2 h35
            refine V_y (Y_fieldAddr Tryz.underlying118 rfl Tryz.sizeOf3 (by decide) rfl) rfl rfl rfl ?_
            refine V_ge rfl rfl rfl hc50 ?_
            refine V_y (Y_load (El.int h52) Tryz.isAgg3 rfl) rfl rfl rfl ?_
            refine V_ge rfl rfl rfl hc50 ?_
            have h53 := El_cal_Shift_1 h35
            refine V_y (Y_fieldAddr Tryz.underlying118 rfl Tryz.sizeOf3 (by decide) rfl) rfl rfl rfl ?_
            refine V_ge rfl rfl rfl hc50 ?_
            refine V_y (Y_load (El.int h53) Tryz.isAgg3 rfl) rfl rfl rfl ?_
            refine V_ge rfl rfl rfl hc50 ?_
            refine V_y (Y_addI rfl rfl) rfl rfl rfl ?_
            refine V_ge rfl rfl rfl hc50 ?_
            refine V_y (Y_gtr rfl rfl) rfl rfl rfl ?_
            refine V_y (Y_pick_fe rfl hc50 rfl) rfl rfl rfl ?_
            exact V_end fun a ha => ⟨(), ha.sub ⟨rfl, rfl, rfl, rfl, rfl, rfl, rfl, (by rw [hc50]; rfl), trivial⟩, rfl⟩
        simp only [List.take, List.drop]
        rintro _ _ rfl
        refine V_to (fun _ _ => rfl) ?_
        refine C_cond rfl (fun hc54 => ?_) (fun hc54 => ?_)
        · rw [if_pos hc54] at h17
          refine C_seq ?_
          refine C_region ?_
          refine V_as rfl rfl ?_
          refine V_to (fun _ _ => rfl) ?_
          obtain rfl := Option.some.inj h17
          obtain rfl := (h18 : Lp.rt _ = _)
          rw [Lp.andThen_rt] at hm
          obtain rfl := Option.some.inj hm
          refine C_ret ?_
          try simp only [↓inBlock_ret, ↓then_ret]
          exact retQ rfl (Res.one Tryz.results49 rfl) ⟨rfl, hK.kp⟩
        · rw [if_neg (nt hc54)] at h17
          refine C_skip_to (fun _ _ => rfl) ?_
          refine C_seq ?_
          refine C_region_q (Dw := Dw) Tryz_mixed (by kernel_rfl) ?_
          refine VQ_y (fun w' hw' => Y_move rfl) rfl rfl rfl ?_
          refine VQ_y (fun w' hw' => Y_gtr rfl rfl) rfl rfl rfl ?_
          refine VQ_y (fun w' hw' => Y_move rfl) rfl rfl rfl ?_
          obtain ⟨s56, hs56, h17⟩ := Option.bind_eq_some_iff.1 h17
          refine VQ_cut 9 (fun _ : Unit => [(0, v_l), (1, .bool dated), (7, v_l), (8, .int .i64 (l.length : Int)), (9, .int .i64 (k6 : Int)), (56, .bool s56)]) (fun _ => True) ?_ ?_
          · simp only [List.take, List.drop]
            rcases Bool.eq_false_or_eq_true (decide ((0 : Int) < (k6 : Int))) with hc55 | hc55
            · rw [if_pos hc55] at hs56
              refine VQ_ge rfl rfl rfl hc55 ?_
              obtain ⟨h57, _⟩ := El_cal_Shift h35
              refine VQ_y (fun w' hw' => Y_loadA (At.kp (Dw := Dw) h57 hw' h35.2.1) Tryz.isAgg118 Tryz.sizeOf118 rfl) rfl rfl rfl ?_
              refine VQ_ge rfl rfl rfl hc55 ?_
              refine VQ_y (fun w' hw' => Y_move rfl) rfl rfl rfl ?_
              refine VQ_ge rfl rfl rfl hc55 ?_
              refine VQ_y (fun w' hw' => Y_move rfl) rfl rfl rfl ?_
              refine VQ_ge rfl rfl rfl hc55 ?_
              refine VQ_y (fun w' hw' => Y_subI rfl rfl) rfl rfl rfl ?_
              refine VQ_ge rfl rfl rfl hc55 ?_
              obtain ⟨x58, hx58, hs56⟩ := Option.bind_eq_some_iff.1 hs56
              refine VQ_indexAddr h_l hx58 Tryz.underlying63 Tryz.sizeOf118 rfl rfl rfl ?_
              intro b59 o60 h61
              refine VQ_ge rfl rfl rfl hc55 ?_
              obtain ⟨h62, _⟩ := El_cal_Shift h61
              refine VQ_y (fun w' hw' => Y_loadA (At.kp (Dw := Dw) h62 hw' h61.2.1) Tryz.isAgg118 Tryz.sizeOf118 rfl) rfl rfl rfl ?_
              refine VQ_ge rfl rfl rfl hc55 ?_
              obtain ⟨x63, hx63, hs56⟩ := Option.bind_eq_some_iff.1 hs56
              refine VQ_call (.bool x63) Tryz.call77 rfl rfl rfl rfl (fun w' hw' => (cal_after_c (Dw := Dw) w' (fun b hb => hA b (Nat.le_trans hw'.size hb)) x25 x58 hx63).mono (fun _ _ h => ⟨h.1, Kp.trans (Dw := Dw) hw' h.2⟩)) ?_
              refine VQ_ge rfl rfl rfl hc55 ?_
              refine VQ_y (fun w' hw' => Y_not rfl) rfl rfl rfl ?_
              refine VQ_y (fun _ _ => Y_pick_te rfl hc55 rfl) rfl rfl rfl ?_
              obtain rfl := Option.some.inj hs56
              exact VQ_end fun a ha => ⟨(), ha.sub ⟨rfl, rfl, rfl, rfl, rfl, rfl, trivial⟩, trivial⟩
            · rw [if_neg (nt hc55)] at hs56
              refine VQ_gn rfl rfl rfl hc55 rfl rfl rfl ?_
              refine VQ_gn rfl rfl rfl hc55 rfl rfl rfl ?_
              refine VQ_gn rfl rfl rfl hc55 rfl rfl rfl ?_
              refine VQ_gn rfl rfl rfl hc55 rfl rfl rfl ?_
              refine VQ_gn rfl rfl rfl hc55 rfl rfl rfl ?_
              refine VQ_gn rfl rfl rfl hc55 rfl rfl rfl ?_
              refine VQ_gn rfl rfl rfl hc55 rfl rfl rfl ?_
              refine VQ_gn rfl rfl rfl hc55 rfl rfl rfl ?_
              refine VQ_y (fun _ _ => Y_pick_fe rfl hc55 rfl) rfl rfl rfl ?_
              obtain rfl := Option.some.inj hs56
              exact VQ_end fun a ha => ⟨(), ha.sub ⟨rfl, rfl, rfl, rfl, rfl, rfl, trivial⟩, trivial⟩
          simp only [List.take, List.drop]
          rintro _ _
          refine VQ_to (fun _ _ => rfl) (fun w65 hk66 => ?_)
          have ht67 := Kp.tr hk66 hA hB
          replace hH := Hp.kp hH hk66
          replace h_l := Sl.tr h_l ht67
          replace hK := Tr.trans hK ht67
          replace hr5 := Tr.trans hr5 ht67
          replace hB := Nat.le_trans hB ht67.ex.size
          replace hA := ht67.new
          refine C_cond rfl (fun hc68 => ?_) (fun hc68 => ?_)
          · rw [if_pos hc68] at h17
            refine C_seq ?_
            refine C_region ?_
            refine V_as rfl rfl ?_
            refine V_to (fun _ _ => rfl) ?_
            obtain rfl := Option.some.inj h17
            obtain rfl := (h18 : Lp.rt _ = _)
            rw [Lp.andThen_rt] at hm
            obtain rfl := Option.some.inj hm
            refine C_ret ?_
            try simp only [↓inBlock_ret, ↓then_ret]
            exact retQ rfl (Res.one Tryz.results49 rfl) ⟨rfl, hK.kp⟩
          · rw [if_neg (nt hc68)] at h17
            refine C_skip_to (fun _ _ => rfl) ?_
            refine C_region ?_
            refine V_y (Y_addI rfl rfl) rfl rfl rfl ?_
            refine V_mv rfl rfl ?_
            obtain rfl := Option.some.inj h17
            refine V_end (fun a ha69 => ?_)
            exact ⟨(), hlt20, h18, ⟨A14, ha69.sub ⟨rfl, rfl, rfl, rfl, (congrArg (fun z => some (Value.int .i64 z)) (w64_succ hlt20 hn23)), trivial⟩, ⟨hH, hr5⟩⟩⟩
    · refine C_exit (fun a ha70 => ?_)
      exact ⟨((), A14), ha70.sub trivial, ⟨(h21 (eq_of_dec hle19 hc24)).symm, hH, hr5⟩⟩
  rintro ⟨s4, A10⟩ w7 ⟨rfl, hH11, hk8⟩ a ha9
  rw [Lp.andThen_fin] at hm
  replace hK := Tr.trans hK hk8
  replace hB := Nat.le_trans hB hk8.ex.size
  replace hA := hk8.new
  replace hH : Hp w.heap.size A10 w7 ([]) := hH11
  refine C_at (n := ⟨58, [], none⟩) (fun _ _ => rfl) ?_ ha9
  refine C_seq ?_
  refine C_region ?_
  refine V_as rfl rfl ?_
  refine V_to (fun _ _ => rfl) ?_
  obtain rfl := Option.some.inj hm
  refine C_ret ?_
  try simp only [↓inBlock_ret, ↓then_ret]
  exact retQ rfl (Res.one Tryz.results49 rfl) ⟨rfl, hK.kp⟩

set_option maxRecDepth 4000 in
set_option maxHeartbeats 4000000 in
theorem cal_CheckCalendar_c (w : World) {A : Nat → Prop} (hA : ∀ b, w.heap.size ≤ b → A b) (c : cal_Calendar) (v_c0 : Value) (h_c0 : Sl A w v_c0 c.zone.changes) (v_c1 : Value) (h_c1 : Sl A w v_c1 c.week) (v_c2 : Value) (h_c2 : Sl A w v_c2 c.specials) {r : Int} (hm : cal_CheckCalendar c = some r) : Ret Tryz.prog 31 #[.agg #[.int .i64 c.zone.offset, v_c0, v_c1, v_c2]] w fun v w' => v = .int .i64 r ∧ Kp Dw w w' := by
  unfold cal_CheckCalendar at hm
  refine enter Tryz.func31 rfl Tryz.ntmps31 rfl ?_
  have hA0 := hA
  have hB := Nat.le_refl w.heap.size
  have hK : Tr Dw w.heap.size A w A w := Tr.refl (Dw := Dw) hA
  have hH : Hp w.heap.size A w [] := Hp.nil
  refine C_seq ?_
  refine C_region ?_
  refine V_box rfl rfl ?_
  intro b7 w9 h10
  have hk12 := h10.kp (Dw := Dw)
  have h11 : El (α := cal_Calendar) A w9 b7 0 c := h10.el hA ⟨[.int .i64 c.zone.offset, v_c0], _, rfl, ⟨[.int .i64 c.zone.offset], _, rfl, rfl, ⟨_, rfl, h_c0⟩⟩, ⟨[v_c1], _, rfl, ⟨_, rfl, h_c1⟩, ⟨_, rfl, h_c2⟩⟩⟩
  have ht13 := Kp.tr hk12 hA hB
  replace hH := Hp.kp hH hk12
  replace h_c0 := Sl.tr h_c0 ht13
  replace h_c1 := Sl.tr h_c1 ht13
  replace h_c2 := Sl.tr h_c2 ht13
  replace hK := Tr.trans hK ht13
  replace hB := Nat.le_trans hB ht13.ex.size
  replace hA := ht13.new
  refine V_as rfl rfl ?_
  refine V_to (fun _ _ => rfl) ?_
  refine C_seq ?_
  refine C_seq ?_
  refine C_region ?_
  have h14 := El_cal_Calendar_0 h11
  refine V_y (Y_fieldAddr Tryz.underlying66 rfl Tryz.sizeOf62 (by decide) rfl) rfl rfl rfl ?_
  obtain ⟨v15, h17, h16⟩ := El_cal_Zone h14
  refine V_y (Y_loadA h17 Tryz.isAgg62 Tryz.sizeOf62 rfl) rfl rfl rfl ?_
  obtain ⟨x18, hx18, hm⟩ := Option.bind_eq_some_iff.1 hm
  refine V_call Tryz.call48 rfl rfl rfl rfl (cal_CheckZone_c (Dw := Dw) w9 hA c.zone v15 h16 hx18) ?_
  rintro _ w19 ⟨rfl, hk20⟩
  have ht21 := Kp.tr hk20 hA hB
  replace hH := Hp.kp hH hk20
  replace h11 := El.tr h11 ht21
  replace h14 := El.tr h14 ht21
  replace h16 := Sl.tr h16 ht21
  replace hK := Tr.trans hK ht21
  replace hB := Nat.le_trans hB ht21.ex.size
  replace hA := ht21.new
  refine V_as rfl rfl ?_
  refine V_to (fun _ _ => rfl) ?_
  refine C_seq ?_
  refine C_region ?_
  refine V_mv rfl rfl ?_
  refine V_y (Y_neq rfl rfl) rfl rfl rfl ?_
  refine V_to (fun _ _ => rfl) ?_
  refine C_cond rfl (fun hc22 => ?_) (fun hc22 => ?_)
  · rw [if_pos hc22] at hm
    refine C_seq ?_
    refine C_region ?_
    refine V_mv rfl rfl ?_
    refine V_as rfl rfl ?_
    refine V_to (fun _ _ => rfl) ?_
    obtain rfl := Option.some.inj hm
    refine C_ret ?_
    try simp only [↓inBlock_ret, ↓then_ret]
    exact retQ rfl (Res.one Tryz.results31 rfl) ⟨rfl, hK.kp⟩
  · rw [if_neg (nt hc22)] at hm
    refine C_skip_to (fun _ _ => rfl) ?_
    refine C_seq ?_
    refine C_seq ?_
    refine C_region ?_
    have h23 := El_cal_Calendar_1 h11
    refine V_y (Y_fieldAddr Tryz.underlying66 rfl Tryz.sizeOf63 (by decide) rfl) rfl rfl rfl ?_
    obtain ⟨v24, h25, h26⟩ := El.list h23
    refine V_y (Y_load h25 Tryz.isAgg63 rfl) rfl rfl rfl ?_
    refine V_y (Y_lenSl h26 rfl Tryz.underlying63 rfl) rfl rfl rfl ?_
    refine V_y (Y_gtr rfl rfl) rfl rfl rfl ?_
    refine V_mv rfl rfl ?_
    refine V_cut 5 (fun _ : Unit => [(1, .pointer (some ⟨b7, 0, none⟩)), (23, .bool ((decide ((60 : Int) < (c.week.length : Int))) || (decide ((200 : Int) < (c.specials.length : Int)))))]) (fun _ w' => w19 = w') ?_ ?_
    · simp only [List.take, List.drop]
      rcases Bool.eq_false_or_eq_true (decide ((60 : Int) < (c.week.length : Int))) with hc27 | hc27
      · refine V_gn rfl rfl rfl hc27 rfl rfl rfl ?_
        refine V_gn rfl rfl rfl hc27 rfl rfl rfl ?_
        refine V_gn rfl rfl rfl hc27 rfl rfl rfl ?_
        refine V_gn rfl rfl rfl hc27 rfl rfl rfl ?_
        refine V_y (Y_pick_te rfl hc27 rfl) rfl rfl rfl ?_
        exact V_end fun a ha => ⟨(), ha.sub ⟨rfl, (by rw [hc27]; rfl), trivial⟩, rfl⟩
      · refine V_ge rfl rfl rfl hc27 ?_
        have h29 := El_cal_Calendar_2 h11
        refine V_y (Y_fieldAddr Tryz.underlying66 rfl Tryz.sizeOf64 (by decide) rfl) rfl rfl rfl ?_
        refine V_ge rfl rfl rfl hc27 ?_
        obtain ⟨v30, h31, h32⟩ := El.list h29
        refine V_y (Y_load h31 Tryz.isAgg64 rfl) rfl rfl rfl ?_
        refine V_ge rfl rfl rfl hc27 ?_
        refine V_y (Y_lenSl h32 rfl Tryz.underlying64 rfl) rfl rfl rfl ?_
        refine V_ge rfl rfl rfl hc27 ?_
        refine V_y (Y_gtr rfl rfl) rfl rfl rfl ?_
        refine V_y (Y_pick_fe rfl hc27 rfl) rfl rfl rfl ?_
        exact V_end fun a ha => ⟨(), ha.sub ⟨rfl, (by rw [hc27]; rfl), trivial⟩, rfl⟩
    simp only [List.take, List.drop]
    rintro _ _ rfl
    refine V_to (fun _ _ => rfl) ?_
    refine C_cond rfl (fun hc33 => ?_) (fun hc33 => ?_)
    · rw [if_pos hc33] at hm
      refine C_seq ?_
      refine C_region ?_
      refine V_as rfl rfl ?_
      refine V_to (fun _ _ => rfl) ?_
      obtain rfl := Option.some.inj hm
      refine C_ret ?_
      try simp only [↓inBlock_ret, ↓then_ret]
      exact retQ rfl (Res.one Tryz.results31 rfl) ⟨rfl, hK.kp⟩
    · rw [if_neg (nt hc33)] at hm
      refine C_skip_to (fun _ _ => rfl) ?_
      refine C_seq ?_
      refine C_seq ?_
      refine C_region ?_
      have h34 := El_cal_Calendar_1 h11
      refine V_y (Y_fieldAddr Tryz.underlying66 rfl Tryz.sizeOf63 (by decide) rfl) rfl rfl rfl ?_
      obtain ⟨v35, h36, h37⟩ := El.list h34
      refine V_y (Y_load h36 Tryz.isAgg63 rfl) rfl rfl rfl ?_
      obtain ⟨x38, hx38, hm⟩ := Option.bind_eq_some_iff.1 hm
      refine V_call Tryz.call49 rfl rfl rfl rfl (cal_checkShifts_c (Dw := Dw) w19 hA c.week v35 h37 false hx38) ?_
      rintro _ w39 ⟨rfl, hk40⟩
      have ht41 := Kp.tr hk40 hA hB
      replace hH := Hp.kp hH hk40
      replace h11 := El.tr h11 ht41
      replace h34 := El.tr h34 ht41
      replace h37 := Sl.tr h37 ht41
      replace hK := Tr.trans hK ht41
      replace hB := Nat.le_trans hB ht41.ex.size
      replace hA := ht41.new
      refine V_as rfl rfl ?_
      refine V_to (fun _ _ => rfl) ?_
      refine C_seq ?_
      refine C_region ?_
      refine V_mv rfl rfl ?_
      refine V_y (Y_neq rfl rfl) rfl rfl rfl ?_
      refine V_to (fun _ _ => rfl) ?_
      refine C_cond rfl (fun hc42 => ?_) (fun hc42 => ?_)
      · rw [if_pos hc42] at hm
        refine C_seq ?_
        refine C_region ?_
        refine V_mv rfl rfl ?_
        refine V_as rfl rfl ?_
        refine V_to (fun _ _ => rfl) ?_
        obtain rfl := Option.some.inj hm
        refine C_ret ?_
        try simp only [↓inBlock_ret, ↓then_ret]
        exact retQ rfl (Res.one Tryz.results31 rfl) ⟨rfl, hK.kp⟩
      · rw [if_neg (nt hc42)] at hm
        refine C_skip_to (fun _ _ => rfl) ?_
        refine C_seq ?_
        refine C_seq ?_
        refine C_region ?_
        have h43 := El_cal_Calendar_2 h11
        refine V_y (Y_fieldAddr Tryz.underlying66 rfl Tryz.sizeOf64 (by decide) rfl) rfl rfl rfl ?_
        obtain ⟨v44, h45, h46⟩ := El.list h43
        refine V_y (Y_load h45 Tryz.isAgg64 rfl) rfl rfl rfl ?_
        refine V_y (Y_lenSl h46 rfl Tryz.underlying64 rfl) rfl rfl rfl ?_
        refine V_mv rfl rfl ?_
        refine V_to (fun _ _ => rfl) ?_
        have hn67 := Sl.le h46
        obtain ⟨o47, ho47, hm⟩ := Option.bind_eq_some_iff.1 hm
        refine C_cutG (ι := (Unit × (Nat → Prop))) (fun ⟨s48, A54⟩ => []) (fun ⟨s48, A54⟩ => fun w' => o47 = .fin s48 ∧ Hp w.heap.size A54 w' ([]) ∧ Tr Dw w.heap.size A w39 A54 w') ?_ ?_
        · refine C_block ?_
          refine C_range ho47 (fun k50 _ a w' => ∃ i : (Nat → Prop), Has ⟨70, [], none⟩ a ([(1, .pointer (some ⟨b7, 0, none⟩)), (31, v44), (32, .int .i64 (c.specials.length : Int)), (33, .int .i64 (k50 : Int))]) ∧ Hp w.heap.size i w' ([]) ∧ Tr Dw w.heap.size A w39 i w') (fun a ha => ⟨A, ha.sub ⟨rfl, rfl, rfl, rfl, trivial⟩, ⟨hH, Tr.refl (Dw := Dw) hA⟩⟩) ?_
          rintro K k50 _ a w57 ⟨A58, ha121, hH59, hr49⟩ hle63 K66 h65
          refine C_of ?_ ha121
          replace h11 := El.tr h11 hr49
          replace h46 := Sl.tr h46 hr49
          replace hK := Tr.trans hK hr49
          replace hB := Nat.le_trans hB hr49.ex.size
          replace hA := hr49.new
          replace hH : Hp w.heap.size A58 w57 ([]) := hH59
          refine C_seq (C_region (V_y (Y_lss rfl rfl) rfl rfl rfl (V_to (fun _ _ => rfl) ?_)))
          refine C_seq ?_
          refine C_cond rfl (fun hc68 => ?_) (fun hc68 => ?_)
          · have hlt64 := lt_of_dec hc68
            obtain ⟨x60, h61, h62⟩ := K66 hlt64
            refine C_skip_to (fun _ _ => rfl) ?_
            refine C_seq ?_
            refine C_block ?_
            refine C_seq ?_
            refine C_region ?_
            refine V_mv rfl rfl ?_
            obtain ⟨x69, hx69, h61⟩ := Option.bind_eq_some_iff.1 h61
            refine V_indexAddr h46 hx69 Tryz.underlying64 Tryz.sizeOf88 rfl rfl rfl ?_
            intro b70 o71 h72
            obtain ⟨v73, h75, h74⟩ := El_cal_Special h72
            refine V_y (Y_loadA h75 Tryz.isAgg88 Tryz.sizeOf88 rfl) rfl rfl rfl ?_
            refine V_alloc Tryz.zeroValue88 rfl ?_
            intro b76 w77 h78
            refine V_as rfl rfl ?_
            have h83 : (v73).oneCell' = true := by obtain ⟨_, _, e, _⟩ := Sl.form h74; rw [e]; rfl
            refine V_storeNew h78 Tryz.sizeOf88 rfl rfl rfl rfl (by exact (List.forall_mem_cons.2 ⟨rfl, (List.forall_mem_cons.2 ⟨h83, (fun _ h => nomatch h)⟩)⟩)) ?_
            intro w79 h80
            have hk85 := h80.kp (Dw := Dw)
            have h84 : El (α := cal_Special) A58 w79 b76 0 x69 := h80.el hA ⟨[.int .i64 x69.day], _, rfl, rfl, ⟨_, rfl, h74⟩⟩
            have ht86 := Kp.tr hk85 hA hB
            replace hH := Hp.kp hH hk85
            replace h11 := El.tr h11 ht86
            replace h46 := Sl.tr h46 ht86
            replace h72 := El.tr h72 ht86
            replace h74 := Sl.tr h74 ht86
            replace hK := Tr.trans hK ht86
            replace hr49 := Tr.trans hr49 ht86
            replace hB := Nat.le_trans hB ht86.ex.size
            replace hA := ht86.new
            refine V_to (fun _ _ => rfl) ?_
            refine C_seq ?_
            refine C_block ?_
            refine C_seq ?_
            refine C_region ?_
            have h87 := El_cal_Special_0 h84
            refine V_y (Y_fieldAddr Tryz.underlying88 rfl Tryz.sizeOf3 (by decide) rfl) rfl rfl rfl ?_
            refine V_y (Y_load (El.int h87) Tryz.isAgg3 rfl) rfl rfl rfl ?_
            refine V_call Tryz.call50 rfl rfl rfl rfl (cal_within_c w79 x69.day (-1) 2084) ?_
            rintro _ _ ⟨rfl, rfl⟩
            refine V_y (Y_not rfl) rfl rfl rfl ?_
            refine V_as rfl rfl ?_
            refine V_to (fun _ _ => rfl) ?_
            refine C_cond rfl (fun hc88 => ?_) (fun hc88 => ?_)
            · rw [if_pos hc88] at h61
              refine C_seq ?_
              refine C_region ?_
              refine V_as rfl rfl ?_
              refine V_to (fun _ _ => rfl) ?_
              obtain rfl := Option.some.inj h61
              obtain rfl := (h62 : Lp.rt _ = _)
              rw [Lp.andThen_rt] at hm
              obtain rfl := Option.some.inj hm
              refine C_ret ?_
              try simp only [↓inBlock_ret, ↓then_ret]
              exact retQ rfl (Res.one Tryz.results31 rfl) ⟨rfl, hK.kp⟩
            · rw [if_neg (nt hc88)] at h61
              refine C_seq ?_
              refine C_region_q (Dw := Dw) Tryz_mixed (by kernel_rfl) ?_
              refine VQ_y (fun w' hw' => Y_move rfl) rfl rfl rfl ?_
              refine VQ_y (fun w' hw' => Y_gtr rfl rfl) rfl rfl rfl ?_
              refine VQ_y (fun w' hw' => Y_move rfl) rfl rfl rfl ?_
              obtain ⟨s90, hs90, h61⟩ := Option.bind_eq_some_iff.1 h61
              refine VQ_cut 11 (fun _ : Unit => [(1, .pointer (some ⟨b7, 0, none⟩)), (6, .pointer (some ⟨b76, 0, none⟩)), (31, v44), (32, .int .i64 (c.specials.length : Int)), (33, .int .i64 (k50 : Int)), (57, .bool s90)]) (fun _ => True) ?_ ?_
              · simp only [List.take, List.drop]
                rcases Bool.eq_false_or_eq_true (decide ((0 : Int) < (k50 : Int))) with hc89 | hc89
                · rw [if_pos hc89] at hs90
                  refine VQ_ge rfl rfl rfl hc89 ?_
                  have h91 := El_cal_Special_0 h84
                  refine VQ_y (fun w' hw' => Y_fieldAddr Tryz.underlying88 rfl Tryz.sizeOf3 (by decide) rfl) rfl rfl rfl ?_
                  refine VQ_ge rfl rfl rfl hc89 ?_
                  refine VQ_y (fun w' hw' => Y_load (El.int (El.kp (Dw := Dw) h91 hw')) Tryz.isAgg3 rfl) rfl rfl rfl ?_
                  refine VQ_ge rfl rfl rfl hc89 ?_
                  have h92 := El_cal_Calendar_2 h11
                  refine VQ_y (fun w' hw' => Y_fieldAddr Tryz.underlying66 rfl Tryz.sizeOf64 (by decide) rfl) rfl rfl rfl ?_
                  refine VQ_ge rfl rfl rfl hc89 ?_
                  obtain ⟨v93, h94, h95⟩ := El.list h92
                  refine VQ_y (fun w' hw' => Y_load ((World.cell?_of_block (hw'.block _ (World.block_lt_of_cell? _ _ h94))).trans h94) Tryz.isAgg64 rfl) rfl rfl rfl ?_
                  refine VQ_ge rfl rfl rfl hc89 ?_
                  refine VQ_y (fun w' hw' => Y_move rfl) rfl rfl rfl ?_
                  refine VQ_ge rfl rfl rfl hc89 ?_
                  refine VQ_y (fun w' hw' => Y_subI rfl rfl) rfl rfl rfl ?_
                  refine VQ_ge rfl rfl rfl hc89 ?_
                  obtain ⟨x96, hx96, hs90⟩ := Option.bind_eq_some_iff.1 hs90
                  refine VQ_indexAddr h95 hx96 Tryz.underlying64 Tryz.sizeOf88 rfl rfl rfl ?_
                  intro b97 o98 h99
                  refine VQ_ge rfl rfl rfl hc89 ?_
                  have h100 := El_cal_Special_0 h99
                  refine VQ_y (fun w' hw' => Y_fieldAddr Tryz.underlying88 rfl Tryz.sizeOf3 (by decide) rfl) rfl rfl rfl ?_
                  refine VQ_ge rfl rfl rfl hc89 ?_
                  refine VQ_y (fun w' hw' => Y_load (El.int (El.kp (Dw := Dw) h100 hw')) Tryz.isAgg3 rfl) rfl rfl rfl ?_
                  refine VQ_ge rfl rfl rfl hc89 ?_
                  refine VQ_y (fun w' hw' => Y_leq rfl rfl) rfl rfl rfl ?_
                  refine VQ_y (fun _ _ => Y_pick_te rfl hc89 rfl) rfl rfl rfl ?_
                  obtain rfl := Option.some.inj hs90
                  exact VQ_end fun a ha => ⟨(), ha.sub ⟨rfl, rfl, rfl, rfl, rfl, rfl, trivial⟩, trivial⟩
                · rw [if_neg (nt hc89)] at hs90
                  refine VQ_gn rfl rfl rfl hc89 rfl rfl rfl ?_
                  refine VQ_gn rfl rfl rfl hc89 rfl rfl rfl ?_
                  refine VQ_gn rfl rfl rfl hc89 rfl rfl rfl ?_
                  refine VQ_gn rfl rfl rfl hc89 rfl rfl rfl ?_
                  refine VQ_gn rfl rfl rfl hc89 rfl rfl rfl ?_
                  refine VQ_gn rfl rfl rfl hc89 rfl rfl rfl ?_
                  refine VQ_gn rfl rfl rfl hc89 rfl rfl rfl ?_
                  refine VQ_gn rfl rfl rfl hc89 rfl rfl rfl ?_
                  refine VQ_gn rfl rfl rfl hc89 rfl rfl rfl ?_
                  refine VQ_gn rfl rfl rfl hc89 rfl rfl rfl ?_
                  refine VQ_y (fun _ _ => Y_pick_fe rfl hc89 rfl) rfl rfl rfl ?_
                  obtain rfl := Option.some.inj hs90
                  exact VQ_end fun a ha => ⟨(), ha.sub ⟨rfl, rfl, rfl, rfl, rfl, rfl, trivial⟩, trivial⟩
              simp only [List.take, List.drop]
              rintro _ _
              refine VQ_y (fun w' hw' => Y_assign rfl) rfl rfl rfl ?_
              refine VQ_to (fun _ _ => rfl) (fun w101 hk102 => ?_)
              have ht103 := Kp.tr hk102 hA hB
              replace hH := Hp.kp hH hk102
              replace h11 := El.tr h11 ht103
              replace h46 := Sl.tr h46 ht103
              replace h84 := El.tr h84 ht103
              replace hK := Tr.trans hK ht103
              replace hr49 := Tr.trans hr49 ht103
              replace hB := Nat.le_trans hB ht103.ex.size
              replace hA := ht103.new
              refine C_cond rfl (fun hc104 => ?_) (fun hc104 => ?_)
              · rw [if_pos hc104] at h61
                refine C_seq ?_
                refine C_region ?_
                refine V_as rfl rfl ?_
                refine V_to (fun _ _ => rfl) ?_
                obtain rfl := Option.some.inj h61
                obtain rfl := (h62 : Lp.rt _ = _)
                rw [Lp.andThen_rt] at hm
                obtain rfl := Option.some.inj hm
                refine C_ret ?_
                try simp only [↓inBlock_ret, ↓then_ret]
                exact retQ rfl (Res.one Tryz.results31 rfl) ⟨rfl, hK.kp⟩
              · rw [if_neg (nt hc104)] at h61
                refine C_seq ?_
                refine C_region ?_
                have h105 := El_cal_Special_1 h84
                refine V_y (Y_fieldAddr Tryz.underlying88 rfl Tryz.sizeOf63 (by decide) rfl) rfl rfl rfl ?_
                obtain ⟨v106, h107, h108⟩ := El.list h105
                refine V_y (Y_load h107 Tryz.isAgg63 rfl) rfl rfl rfl ?_
                refine V_y (Y_lenSl h108 rfl Tryz.underlying63 rfl) rfl rfl rfl ?_
                refine V_y (Y_gtr rfl rfl) rfl rfl rfl ?_
                refine V_as rfl rfl ?_
                refine V_to (fun _ _ => rfl) ?_
                refine C_cond rfl (fun hc109 => ?_) (fun hc109 => ?_)
                · rw [if_pos hc109] at h61
                  refine C_seq ?_
                  refine C_region ?_
                  refine V_as rfl rfl ?_
                  refine V_to (fun _ _ => rfl) ?_
                  obtain rfl := Option.some.inj h61
                  obtain rfl := (h62 : Lp.rt _ = _)
                  rw [Lp.andThen_rt] at hm
                  obtain rfl := Option.some.inj hm
                  refine C_ret ?_
                  try simp only [↓inBlock_ret, ↓then_ret]
                  exact retQ rfl (Res.one Tryz.results31 rfl) ⟨rfl, hK.kp⟩
                · rw [if_neg (nt hc109)] at h61
                  refine C_skip_to (fun _ _ => rfl) ?_
                  refine C_seq ?_
                  refine C_region ?_
                  have h110 := El_cal_Special_1 h84
                  refine V_y (Y_fieldAddr Tryz.underlying88 rfl Tryz.sizeOf63 (by decide) rfl) rfl rfl rfl ?_
                  obtain ⟨v111, h112, h113⟩ := El.list h110
                  refine V_y (Y_load h112 Tryz.isAgg63 rfl) rfl rfl rfl ?_
                  obtain ⟨x114, hx114, h61⟩ := Option.bind_eq_some_iff.1 h61
                  refine V_call Tryz.call49 rfl rfl rfl rfl (cal_checkShifts_c (Dw := Dw) w101 hA x69.shifts v111 h113 true hx114) ?_
                  rintro _ w115 ⟨rfl, hk116⟩
                  have ht117 := Kp.tr hk116 hA hB
                  replace hH := Hp.kp hH hk116
                  replace h11 := El.tr h11 ht117
                  replace h46 := Sl.tr h46 ht117
                  replace h84 := El.tr h84 ht117
                  replace h110 := El.tr h110 ht117
                  replace h113 := Sl.tr h113 ht117
                  replace hK := Tr.trans hK ht117
                  replace hr49 := Tr.trans hr49 ht117
                  replace hB := Nat.le_trans hB ht117.ex.size
                  replace hA := ht117.new
                  refine V_as rfl rfl ?_
                  refine V_to (fun _ _ => rfl) ?_
                  refine C_seq ?_
                  refine C_region ?_
                  refine V_mv rfl rfl ?_
                  refine V_y (Y_neq rfl rfl) rfl rfl rfl ?_
                  refine V_to (fun _ _ => rfl) ?_
                  refine C_cond rfl (fun hc118 => ?_) (fun hc118 => ?_)
                  · rw [if_pos hc118] at h61
                    refine C_seq ?_
                    refine C_region ?_
                    refine V_mv rfl rfl ?_
                    refine V_as rfl rfl ?_
                    refine V_to (fun _ _ => rfl) ?_
                    obtain rfl := Option.some.inj h61
                    obtain rfl := (h62 : Lp.rt _ = _)
                    rw [Lp.andThen_rt] at hm
                    obtain rfl := Option.some.inj hm
                    refine C_ret ?_
                    try simp only [↓inBlock_ret, ↓then_ret]
                    exact retQ rfl (Res.one Tryz.results31 rfl) ⟨rfl, hK.kp⟩
                  · rw [if_neg (nt hc118)] at h61
                    refine C_skip_to (fun _ _ => rfl) ?_
                    refine C_region ?_
                    refine V_y (Y_addI rfl rfl) rfl rfl rfl ?_
                    refine V_mv rfl rfl ?_
                    obtain rfl := Option.some.inj h61
                    refine V_end (fun a ha119 => ?_)
                    exact ⟨(), hlt64, h62, ⟨A58, ha119.sub ⟨rfl, rfl, rfl, (congrArg (fun z => some (Value.int .i64 z)) (w64_succ hlt64 hn67)), trivial⟩, ⟨hH, hr49⟩⟩⟩
          · refine C_exit (fun a ha120 => ?_)
            exact ⟨((), A58), ha120.sub trivial, ⟨(h65 (eq_of_dec hle63 hc68)).symm, hH, hr49⟩⟩
        rintro ⟨s48, A54⟩ w51 ⟨rfl, hH55, hk52⟩ a ha53
        rw [Lp.andThen_fin] at hm
        replace hK := Tr.trans hK hk52
        replace hB := Nat.le_trans hB hk52.ex.size
        replace hA := hk52.new
        replace hH : Hp w.heap.size A54 w51 ([]) := hH55
        refine C_at (n := ⟨70, [], none⟩) (fun _ _ => rfl) ?_ ha53
        refine C_seq ?_
        refine C_region ?_
        refine V_as rfl rfl ?_
        refine V_to (fun _ _ => rfl) ?_
        obtain rfl := Option.some.inj hm
        refine C_ret ?_
        try simp only [↓inBlock_ret, ↓then_ret]
        exact retQ rfl (Res.one Tryz.results31 rfl) ⟨rfl, hK.kp⟩

set_option maxRecDepth 4000 in
set_option maxHeartbeats 4000000 in
theorem slices_IndexFunc_Llevel_Piece_level_Piece_c (w : World) {A : Nat → Prop} (hA : ∀ b, w.heap.size ≤ b → A b) (s : (List level_Piece)) (v_s : Value) (h_s : Sl A w v_s s) (f : level_Piece → Option Bool) (f_f : FuncId) (f_a f_c : Array Value) (f_call : ∀ (args : Array Value) (w : World), (callFunc f_f args).run Tryz.prog w = .ok (.enter f_f args) w) (f_spec : ∀ (w1 : World) (A1 : Nat → Prop), Tr Dw w.heap.size A w A1 w1 → (∀ b, w1.heap.size ≤ b → A1 b) → ∀ (y0 : level_Piece) (r : Bool), f y0 = some r → Ret Tryz.prog f_f (f_a ++ #[.agg #[.int .i64 y0.from_, .int .i64 y0.to_, .int .i64 y0.calendar]] ++ f_c) w1 fun v w' => v = .bool r ∧ Kp Dw w1 w') {r : Int} (hm : slices_IndexFunc_Llevel_Piece_level_Piece s f = some r) : Ret Tryz.prog 51 #[v_s, .func (.func f_f) f_a f_c] w fun v w' => v = .int .i64 r ∧ Kp Dw w w' := by
  unfold slices_IndexFunc_Llevel_Piece_level_Piece at hm
  refine enter Tryz.func51 rfl Tryz.ntmps51 rfl ?_
  have hA0 := hA
  have hB := Nat.le_refl w.heap.size
  have hK : Tr Dw w.heap.size A w A w := Tr.refl (Dw := Dw) hA
  have hH : Hp w.heap.size A w [] := Hp.nil
  refine C_seq ?_
  refine C_region ?_
  refine V_as rfl rfl ?_
  refine V_to (fun _ _ => rfl) ?_
  refine C_seq ?_
  refine C_seq ?_
  refine C_region ?_
  refine V_mv rfl rfl ?_
  refine V_y (Y_lenSl h_s rfl Tryz.underlying37 rfl) rfl rfl rfl ?_
  refine V_mv rfl rfl ?_
  refine V_to (fun _ _ => rfl) ?_
  have hn23 := Sl.le h_s
  obtain ⟨o3, ho3, hm⟩ := Option.bind_eq_some_iff.1 hm
  refine C_cutG (ι := (Unit × (Nat → Prop))) (fun ⟨s4, A10⟩ => []) (fun ⟨s4, A10⟩ => fun w' => o3 = .fin s4 ∧ Hp w.heap.size A10 w' ([]) ∧ Tr Dw w.heap.size A w A10 w') ?_ ?_
  · refine C_block ?_
    refine C_range ho3 (fun k6 _ a w' => ∃ i : (Nat → Prop), Has ⟨19, [], none⟩ a ([(0, v_s), (1, .func (.func f_f) f_a f_c), (7, .int .i64 (s.length : Int)), (8, .int .i64 (k6 : Int))]) ∧ Hp w.heap.size i w' ([]) ∧ Tr Dw w.heap.size A w i w') (fun a ha => ⟨A, ha.sub ⟨rfl, rfl, rfl, rfl, trivial⟩, ⟨hH, Tr.refl (Dw := Dw) hA⟩⟩) ?_
    rintro K k6 _ a w13 ⟨A14, ha37, hH15, hr5⟩ hle19 K22 h21
    refine C_of ?_ ha37
    replace h_s := Sl.tr h_s hr5
    replace hK := Tr.trans hK hr5
    replace hB := Nat.le_trans hB hr5.ex.size
    replace hA := hr5.new
    replace hH : Hp w.heap.size A14 w13 ([]) := hH15
    refine C_seq (C_region (V_y (Y_lss rfl rfl) rfl rfl rfl (V_to (fun _ _ => rfl) ?_)))
    refine C_seq ?_
    refine C_cond rfl (fun hc24 => ?_) (fun hc24 => ?_)
    · have hlt20 := lt_of_dec hc24
      obtain ⟨x16, h17, h18⟩ := K22 hlt20
      refine C_skip_to (fun _ _ => rfl) ?_
      refine C_seq ?_
      refine C_block ?_
      refine C_seq ?_
      refine C_region ?_
      refine V_mv rfl rfl ?_
      refine V_as rfl rfl ?_
      refine V_to (fun _ _ => rfl) ?_
      refine C_seq ?_
      refine C_region ?_
      refine V_mv rfl rfl ?_
      refine V_mv rfl rfl ?_
      refine V_mv rfl rfl ?_
      obtain ⟨x25, hx25, h17⟩ := Option.bind_eq_some_iff.1 h17
      refine V_indexAddr h_s hx25 Tryz.underlying37 Tryz.sizeOf70 rfl rfl rfl ?_
      intro b26 o27 h28
      obtain ⟨h29, _⟩ := El_level_Piece h28
      refine V_y (Y_loadA h29 Tryz.isAgg70 Tryz.sizeOf70 rfl) rfl rfl rfl ?_
      obtain ⟨x30, hx30, h17⟩ := Option.bind_eq_some_iff.1 h17
      refine V_call f_call rfl rfl rfl rfl (f_spec w13 _ hK hA x25 _ hx30) ?_
      rintro _ w31 ⟨rfl, hk32⟩
      have ht33 := Kp.tr hk32 hA hB
      replace hH := Hp.kp hH hk32
      replace h_s := Sl.tr h_s ht33
      replace h28 := El.tr h28 ht33
      replace hK := Tr.trans hK ht33
      replace hr5 := Tr.trans hr5 ht33
      replace hB := Nat.le_trans hB ht33.ex.size
      replace hA := ht33.new
      refine V_to (fun _ _ => rfl) ?_
      refine C_cond rfl (fun hc34 => ?_) (fun hc34 => ?_)
      · rw [if_pos hc34] at h17
        refine C_seq ?_
        refine C_region ?_
        refine V_mv rfl rfl ?_
        refine V_as rfl rfl ?_
        refine V_to (fun _ _ => rfl) ?_
        obtain rfl := Option.some.inj h17
        obtain rfl := (h18 : Lp.rt _ = _)
        rw [Lp.andThen_rt] at hm
        obtain rfl := Option.some.inj hm
        refine C_ret ?_
        try simp only [↓inBlock_ret, ↓then_ret]
        exact retQ rfl (Res.one Tryz.results51 rfl) ⟨rfl, hK.kp⟩
      · rw [if_neg (nt hc34)] at h17
        refine C_skip_to (fun _ _ => rfl) ?_
        refine C_region ?_
        refine V_y (Y_addI rfl rfl) rfl rfl rfl ?_
        refine V_mv rfl rfl ?_
        obtain rfl := Option.some.inj h17
        refine V_end (fun a ha35 => ?_)
        exact ⟨(), hlt20, h18, ⟨A14, ha35.sub ⟨rfl, rfl, rfl, (congrArg (fun z => some (Value.int .i64 z)) (w64_succ hlt20 hn23)), trivial⟩, ⟨hH, hr5⟩⟩⟩
    · refine C_exit (fun a ha36 => ?_)
      exact ⟨((), A14), ha36.sub trivial, ⟨(h21 (eq_of_dec hle19 hc24)).symm, hH, hr5⟩⟩
  rintro ⟨s4, A10⟩ w7 ⟨rfl, hH11, hk8⟩ a ha9
  rw [Lp.andThen_fin] at hm
  replace hK := Tr.trans hK hk8
  replace hB := Nat.le_trans hB hk8.ex.size
  replace hA := hk8.new
  replace hH : Hp w.heap.size A10 w7 ([]) := hH11
  refine C_at (n := ⟨19, [], none⟩) (fun _ _ => rfl) ?_ ha9
  refine C_seq ?_
  refine C_region ?_
  refine V_as rfl rfl ?_
  refine V_to (fun _ _ => rfl) ?_
  obtain rfl := Option.some.inj hm
  refine C_ret ?_
  try simp only [↓inBlock_ret, ↓then_ret]
  exact retQ rfl (Res.one Tryz.results51 rfl) ⟨rfl, hK.kp⟩

set_option maxRecDepth 4000 in
set_option maxHeartbeats 4000000 in
theorem slices_ContainsFunc_Llevel_Piece_level_Piece_c (w : World) {A : Nat → Prop} (hA : ∀ b, w.heap.size ≤ b → A b) (s : (List level_Piece)) (v_s : Value) (h_s : Sl A w v_s s) (f : level_Piece → Option Bool) (f_f : FuncId) (f_a f_c : Array Value) (f_call : ∀ (args : Array Value) (w : World), (callFunc f_f args).run Tryz.prog w = .ok (.enter f_f args) w) (f_spec : ∀ (w1 : World) (A1 : Nat → Prop), Tr Dw w.heap.size A w A1 w1 → (∀ b, w1.heap.size ≤ b → A1 b) → ∀ (y0 : level_Piece) (r : Bool), f y0 = some r → Ret Tryz.prog f_f (f_a ++ #[.agg #[.int .i64 y0.from_, .int .i64 y0.to_, .int .i64 y0.calendar]] ++ f_c) w1 fun v w' => v = .bool r ∧ Kp Dw w1 w') {r : Bool} (hm : slices_ContainsFunc_Llevel_Piece_level_Piece s f = some r) : Ret Tryz.prog 32 #[v_s, .func (.func f_f) f_a f_c] w fun v w' => v = .bool r ∧ Kp Dw w w' := by
  unfold slices_ContainsFunc_Llevel_Piece_level_Piece at hm
  refine enter Tryz.func32 rfl Tryz.ntmps32 rfl ?_
  have hA0 := hA
  have hB := Nat.le_refl w.heap.size
  have hK : Tr Dw w.heap.size A w A w := Tr.refl (Dw := Dw) hA
  have hH : Hp w.heap.size A w [] := Hp.nil
  refine C_seq ?_
  refine C_region ?_
  refine V_as rfl rfl ?_
  refine V_to (fun _ _ => rfl) ?_
  refine C_seq ?_
  refine C_region ?_
  refine V_mv rfl rfl ?_
  refine V_mv rfl rfl ?_
  obtain ⟨x3, hx3, hm⟩ := Option.bind_eq_some_iff.1 hm
  refine V_call Tryz.call51 rfl rfl rfl rfl (slices_IndexFunc_Llevel_Piece_level_Piece_c (Dw := Dw) w hA s v_s h_s f f_f f_a f_c f_call (fun w1 A1 ht => f_spec w1 A1 (Tr.trans hK (Tr.lower (Dw := Dw) ht hB))) hx3) ?_
  rintro _ w4 ⟨rfl, hk5⟩
  have ht6 := Kp.tr hk5 hA hB
  replace hH := Hp.kp hH hk5
  replace h_s := Sl.tr h_s ht6
  replace hK := Tr.trans hK ht6
  replace hB := Nat.le_trans hB ht6.ex.size
  replace hA := ht6.new
  refine V_y (Y_geq rfl rfl) rfl rfl rfl ?_
  refine V_as rfl rfl ?_
  refine V_to (fun _ _ => rfl) ?_
  obtain rfl := Option.some.inj hm
  refine C_ret ?_
  try simp only [↓inBlock_ret, ↓then_ret]
  exact retQ rfl (Res.one Tryz.results32 rfl) ⟨rfl, hK.kp⟩

set_option maxRecDepth 4000 in
set_option maxHeartbeats 4000000 in
theorem level_check_1_c (w : World) {A : Nat → Prop} (hA : ∀ b, w.heap.size ≤ b → A b) (p : level_Piece) (p1 : (List cal_Calendar)) (b_p1 : Nat) (h_p1 : El A w b_p1 0 p1) {r : Bool} (hm : level_check_1 p p1 = some r) : Ret Tryz.prog 33 #[.agg #[.int .i64 p.from_, .int .i64 p.to_, .int .i64 p.calendar], .pointer (some ⟨b_p1, 0, none⟩)] w fun v w' => v = .bool r ∧ Kp Dw w w' := by
  unfold level_check_1 at hm
  refine enter Tryz.func33 rfl Tryz.ntmps33 rfl ?_
  have hA0 := hA
  have hB := Nat.le_refl w.heap.size
  have hK : Tr Dw w.heap.size A w A w := Tr.refl (Dw := Dw) hA
  have hH : Hp w.heap.size A w [] := Hp.nil
  refine C_seq ?_
  refine C_region ?_
  refine V_box rfl rfl ?_
  intro b1 w2 h3
  have hk5 := h3.kp (Dw := Dw)
  have h4 : El (α := level_Piece) A w2 b1 0 p := h3.el hA ⟨[.int .i64 p.from_], _, rfl, rfl, ⟨[.int .i64 p.to_], _, rfl, rfl, rfl⟩⟩
  have ht6 := Kp.tr hk5 hA hB
  replace hH := Hp.kp hH hk5
  replace h_p1 := El.tr h_p1 ht6
  replace hK := Tr.trans hK ht6
  replace hB := Nat.le_trans hB ht6.ex.size
  replace hA := ht6.new
  refine V_as rfl rfl ?_
  refine V_to (fun _ _ => rfl) ?_
  refine C_seq ?_
  refine C_region ?_
  have h7 := El_level_Piece_2 h4
  refine V_y (Y_fieldAddr Tryz.underlying70 rfl Tryz.sizeOf3 (by decide) rfl) rfl rfl rfl ?_
  refine V_y (Y_load (El.int h7) Tryz.isAgg3 rfl) rfl rfl rfl ?_
  obtain ⟨v8, h9, h10⟩ := El.list h_p1
  refine V_y (Y_load h9 Tryz.isAgg23 rfl) rfl rfl rfl ?_
  refine V_y (Y_lenSl h10 rfl Tryz.underlying23 rfl) rfl rfl rfl ?_
  refine V_y (Y_geq rfl rfl) rfl rfl rfl ?_
  refine V_as rfl rfl ?_
  refine V_to (fun _ _ => rfl) ?_
  obtain rfl := Option.some.inj hm
  refine C_ret ?_
  try simp only [↓inBlock_ret, ↓then_ret]
  exact retQ rfl (Res.one Tryz.results33 rfl) ⟨rfl, hK.kp⟩

set_option maxRecDepth 4000 in
set_option maxHeartbeats 4000000 in
theorem level_check_c (w : World) {A : Nat → Prop} (hA : ∀ b, w.heap.size ≤ b → A b) (l : (List level_Clock)) (v_l : Value) (h_l : Sl A w v_l l) (cals : (List cal_Calendar)) (v_cals : Value) (h_cals : Sl A w v_cals cals) {r : Int} (hm : level_check l cals = some r) : Ret Tryz.prog 10 #[v_l, v_cals] w fun v w' => v = .int .i64 r ∧ Kp Dw w w' := by
  unfold level_check at hm
  refine enter Tryz.func10 rfl Tryz.ntmps10 rfl ?_
  have hA0 := hA
  have hB := Nat.le_refl w.heap.size
  have hK : Tr Dw w.heap.size A w A w := Tr.refl (Dw := Dw) hA
  have hH : Hp w.heap.size A w [] := Hp.nil
  refine C_seq ?_
  refine C_region ?_
  refine V_box rfl rfl ?_
  intro b5 w6 h7
  have h12 : (v_cals).oneCell' = true := by obtain ⟨_, _, e, _⟩ := Sl.form h_cals; rw [e]; rfl
  have hk9 := h7.kp (Dw := Dw)
  have h8 : El (α := (List cal_Calendar)) A w6 b5 0 cals := h7.el hA (by rw [Value.cells_one h12]; exact ⟨_, rfl, h_cals⟩)
  have ht13 := Kp.tr hk9 hA hB
  replace hH := Hp.kp hH hk9
  replace h_l := Sl.tr h_l ht13
  replace h_cals := Sl.tr h_cals ht13
  replace hK := Tr.trans hK ht13
  replace hB := Nat.le_trans hB ht13.ex.size
  replace hA := ht13.new
  refine V_as rfl rfl ?_
  refine V_to (fun _ _ => rfl) ?_
  refine C_seq ?_
  refine C_seq ?_
  refine C_region ?_
  refine V_mv rfl rfl ?_
  refine V_y (Y_lenSl h_l rfl Tryz.underlying22 rfl) rfl rfl rfl ?_
  refine V_y (Y_gtr rfl rfl) rfl rfl rfl ?_
  refine V_to (fun _ _ => rfl) ?_
  refine C_cond rfl (fun hc14 => ?_) (fun hc14 => ?_)
  · rw [if_pos hc14] at hm
    refine C_seq ?_
    refine C_region ?_
    refine V_as rfl rfl ?_
    refine V_to (fun _ _ => rfl) ?_
    obtain rfl := Option.some.inj hm
    refine C_ret ?_
    try simp only [↓inBlock_ret, ↓then_ret]
    exact retQ rfl (Res.one Tryz.results10 rfl) ⟨rfl, hK.kp⟩
  · rw [if_neg (nt hc14)] at hm
    refine C_skip_to (fun _ _ => rfl) ?_
    refine C_seq ?_
    refine C_seq ?_
    refine C_region ?_
    refine V_mv rfl rfl ?_
    refine V_y (Y_lenSl h_l rfl Tryz.underlying22 rfl) rfl rfl rfl ?_
    refine V_mv rfl rfl ?_
    refine V_to (fun _ _ => rfl) ?_
    have hn35 := Sl.le h_l
    obtain ⟨o15, ho15, hm⟩ := Option.bind_eq_some_iff.1 hm
    refine C_cutG (ι := (Unit × (Nat → Prop))) (fun ⟨s16, A22⟩ => [(0, v_l), (3, .pointer (some ⟨b5, 0, none⟩))]) (fun ⟨s16, A22⟩ => fun w' => o15 = .fin s16 ∧ Hp w.heap.size A22 w' ([]) ∧ Tr Dw w.heap.size A w6 A22 w') ?_ ?_
    · refine C_block ?_
      refine C_range ho15 (fun k18 _ a w' => ∃ i : (Nat → Prop), Has ⟨54, [], none⟩ a ([(0, v_l), (3, .pointer (some ⟨b5, 0, none⟩)), (16, v_l), (17, .int .i64 (l.length : Int)), (18, .int .i64 (k18 : Int))]) ∧ Hp w.heap.size i w' ([]) ∧ Tr Dw w.heap.size A w6 i w') (fun a ha => ⟨A, ha.sub ⟨rfl, rfl, rfl, rfl, rfl, trivial⟩, ⟨hH, Tr.refl (Dw := Dw) hA⟩⟩) ?_
      rintro K k18 _ a w25 ⟨A26, ha65, hH27, hr17⟩ hle31 K34 h33
      refine C_of ?_ ha65
      replace h_l := Sl.tr h_l hr17
      replace h8 := El.tr h8 hr17
      replace hK := Tr.trans hK hr17
      replace hB := Nat.le_trans hB hr17.ex.size
      replace hA := hr17.new
      replace hH : Hp w.heap.size A26 w25 ([]) := hH27
      refine C_seq (C_region (V_y (Y_lss rfl rfl) rfl rfl rfl (V_to (fun _ _ => rfl) ?_)))
      refine C_seq ?_
      refine C_cond rfl (fun hc36 => ?_) (fun hc36 => ?_)
      · have hlt32 := lt_of_dec hc36
        obtain ⟨x28, h29, h30⟩ := K34 hlt32
        refine C_skip_to (fun _ _ => rfl) ?_
        refine C_seq ?_
        refine C_block ?_
        refine C_seq ?_
        refine C_region ?_
        obtain ⟨x37, hx37, h29⟩ := Option.bind_eq_some_iff.1 h29
        refine V_indexAddr h_l hx37 Tryz.underlying22 Tryz.sizeOf39 rfl rfl rfl ?_
        intro b38 o39 h40
        obtain ⟨v41, h43, h42⟩ := El_level_Clock h40
        refine V_y (Y_loadA h43 Tryz.isAgg39 Tryz.sizeOf39 rfl) rfl rfl rfl ?_
        refine V_alloc Tryz.zeroValue39 rfl ?_
        intro b44 w45 h46
        have h51 : (v41).oneCell' = true := by obtain ⟨_, _, e, _⟩ := Sl.form h42; rw [e]; rfl
        refine V_storeNew h46 Tryz.sizeOf39 rfl rfl rfl rfl (by exact (List.forall_mem_cons.2 ⟨rfl, (List.forall_mem_cons.2 ⟨rfl, (List.forall_mem_cons.2 ⟨rfl, (List.forall_mem_cons.2 ⟨rfl, (List.forall_mem_cons.2 ⟨rfl, (List.forall_mem_cons.2 ⟨rfl, (List.forall_mem_cons.2 ⟨h51, (fun _ h => nomatch h)⟩)⟩)⟩)⟩)⟩)⟩)⟩)) ?_
        intro w47 h48
        have hk53 := h48.kp (Dw := Dw)
        have h52 : El (α := level_Clock) A26 w47 b44 0 x37 := h48.el hA ⟨[.int .i64 x37.kind], _, rfl, rfl, ⟨[.int .i64 x37.level], _, rfl, rfl, ⟨[.int .i64 x37.minutes], _, rfl, rfl, ⟨[.int .i64 x37.start], _, rfl, rfl, ⟨[.int .i64 x37.stop], _, rfl, rfl, ⟨[.int .i64 x37.end_], _, rfl, rfl, ⟨_, rfl, h42⟩⟩⟩⟩⟩⟩⟩
        have ht54 := Kp.tr hk53 hA hB
        replace hH := Hp.kp hH hk53
        replace h_l := Sl.tr h_l ht54
        replace h8 := El.tr h8 ht54
        replace h40 := El.tr h40 ht54
        replace h42 := Sl.tr h42 ht54
        replace hK := Tr.trans hK ht54
        replace hr17 := Tr.trans hr17 ht54
        replace hB := Nat.le_trans hB ht54.ex.size
        replace hA := ht54.new
        refine V_to (fun _ _ => rfl) ?_
        refine C_seq ?_
        refine C_region ?_
        obtain ⟨v55, h57, h56⟩ := El_level_Clock h52
        refine V_y (Y_loadA h57 Tryz.isAgg39 Tryz.sizeOf39 rfl) rfl rfl rfl ?_
        obtain ⟨x58, hx58, h29⟩ := Option.bind_eq_some_iff.1 h29
        refine V_call Tryz.call30 rfl rfl rfl rfl (level_CheckClock_c (Dw := Dw) w47 hA x37 v55 h56 hx58) ?_
        rintro _ w59 ⟨rfl, hk60⟩
        have ht61 := Kp.tr hk60 hA hB
        replace hH := Hp.kp hH hk60
        replace h_l := Sl.tr h_l ht61
        replace h8 := El.tr h8 ht61
        replace h52 := El.tr h52 ht61
        replace h56 := Sl.tr h56 ht61
        replace hK := Tr.trans hK ht61
        replace hr17 := Tr.trans hr17 ht61
        replace hB := Nat.le_trans hB ht61.ex.size
        replace hA := ht61.new
        refine V_as rfl rfl ?_
        refine V_to (fun _ _ => rfl) ?_
        refine C_seq ?_
        refine C_region ?_
        refine V_mv rfl rfl ?_
        refine V_y (Y_neq rfl rfl) rfl rfl rfl ?_
        refine V_to (fun _ _ => rfl) ?_
        refine C_cond rfl (fun hc62 => ?_) (fun hc62 => ?_)
        · rw [if_pos hc62] at h29
          refine C_seq ?_
          refine C_region ?_
          refine V_mv rfl rfl ?_
          refine V_as rfl rfl ?_
          refine V_to (fun _ _ => rfl) ?_
          obtain rfl := Option.some.inj h29
          obtain rfl := (h30 : Lp.rt _ = _)
          rw [Lp.andThen_rt] at hm
          obtain rfl := Option.some.inj hm
          refine C_ret ?_
          try simp only [↓inBlock_ret, ↓then_ret]
          exact retQ rfl (Res.one Tryz.results10 rfl) ⟨rfl, hK.kp⟩
        · rw [if_neg (nt hc62)] at h29
          refine C_skip_to (fun _ _ => rfl) ?_
          refine C_region ?_
          refine V_y (Y_addI rfl rfl) rfl rfl rfl ?_
          refine V_mv rfl rfl ?_
          obtain rfl := Option.some.inj h29
          refine V_end (fun a ha63 => ?_)
          exact ⟨(), hlt32, h30, ⟨A26, ha63.sub ⟨rfl, rfl, rfl, rfl, (congrArg (fun z => some (Value.int .i64 z)) (w64_succ hlt32 hn35)), trivial⟩, ⟨hH, hr17⟩⟩⟩
      · refine C_exit (fun a ha64 => ?_)
        exact ⟨((), A26), ha64.sub ⟨rfl, rfl, trivial⟩, ⟨(h33 (eq_of_dec hle31 hc36)).symm, hH, hr17⟩⟩
    rintro ⟨s16, A22⟩ w19 ⟨rfl, hH23, hk20⟩ a ha21
    rw [Lp.andThen_fin] at hm
    replace h_l := Sl.tr h_l hk20
    replace h8 := El.tr h8 hk20
    replace hK := Tr.trans hK hk20
    replace hB := Nat.le_trans hB hk20.ex.size
    replace hA := hk20.new
    replace hH : Hp w.heap.size A22 w19 ([]) := hH23
    refine C_at (n := ⟨54, [], none⟩) (fun _ _ => rfl) ?_ ha21
    refine C_seq ?_
    refine C_seq ?_
    refine C_region ?_
    obtain ⟨v66, h67, h68⟩ := El.list h8
    refine V_y (Y_load h67 Tryz.isAgg23 rfl) rfl rfl rfl ?_
    refine V_y (Y_lenSl h68 rfl Tryz.underlying23 rfl) rfl rfl rfl ?_
    refine V_y (Y_gtr rfl rfl) rfl rfl rfl ?_
    refine V_to (fun _ _ => rfl) ?_
    refine C_cond rfl (fun hc69 => ?_) (fun hc69 => ?_)
    · rw [if_pos hc69] at hm
      refine C_seq ?_
      refine C_region ?_
      refine V_as rfl rfl ?_
      refine V_to (fun _ _ => rfl) ?_
      obtain rfl := Option.some.inj hm
      refine C_ret ?_
      try simp only [↓inBlock_ret, ↓then_ret]
      exact retQ rfl (Res.one Tryz.results10 rfl) ⟨rfl, hK.kp⟩
    · rw [if_neg (nt hc69)] at hm
      refine C_skip_to (fun _ _ => rfl) ?_
      refine C_seq ?_
      refine C_seq ?_
      refine C_region ?_
      obtain ⟨v70, h71, h72⟩ := El.list h8
      refine V_y (Y_load h71 Tryz.isAgg23 rfl) rfl rfl rfl ?_
      refine V_y (Y_lenSl h72 rfl Tryz.underlying23 rfl) rfl rfl rfl ?_
      refine V_mv rfl rfl ?_
      refine V_to (fun _ _ => rfl) ?_
      have hn93 := Sl.le h72
      obtain ⟨o73, ho73, hm⟩ := Option.bind_eq_some_iff.1 hm
      refine C_cutG (ι := (Unit × (Nat → Prop))) (fun ⟨s74, A80⟩ => [(0, v_l), (3, .pointer (some ⟨b5, 0, none⟩))]) (fun ⟨s74, A80⟩ => fun w' => o73 = .fin s74 ∧ Hp w.heap.size A80 w' ([]) ∧ Tr Dw w.heap.size A22 w19 A80 w') ?_ ?_
      · refine C_block ?_
        refine C_range ho73 (fun k76 _ a w' => ∃ i : (Nat → Prop), Has ⟨54, [], none⟩ a ([(0, v_l), (3, .pointer (some ⟨b5, 0, none⟩)), (31, v70), (32, .int .i64 (cals.length : Int)), (33, .int .i64 (k76 : Int))]) ∧ Hp w.heap.size i w' ([]) ∧ Tr Dw w.heap.size A22 w19 i w') (fun a ha => ⟨A22, ha.sub ⟨rfl, rfl, rfl, rfl, rfl, trivial⟩, ⟨hH, Tr.refl (Dw := Dw) hA⟩⟩) ?_
        rintro K k76 _ a w83 ⟨A84, ha137, hH85, hr75⟩ hle89 K92 h91
        refine C_of ?_ ha137
        replace h_l := Sl.tr h_l hr75
        replace h8 := El.tr h8 hr75
        replace h72 := Sl.tr h72 hr75
        replace hK := Tr.trans hK hr75
        replace hB := Nat.le_trans hB hr75.ex.size
        replace hA := hr75.new
        replace hH : Hp w.heap.size A84 w83 ([]) := hH85
        refine C_seq (C_region (V_y (Y_lss rfl rfl) rfl rfl rfl (V_to (fun _ _ => rfl) ?_)))
        refine C_seq ?_
        refine C_cond rfl (fun hc94 => ?_) (fun hc94 => ?_)
        · have hlt90 := lt_of_dec hc94
          obtain ⟨x86, h87, h88⟩ := K92 hlt90
          refine C_skip_to (fun _ _ => rfl) ?_
          refine C_seq ?_
          refine C_block ?_
          refine C_seq ?_
          refine C_region ?_
          obtain ⟨x95, hx95, h87⟩ := Option.bind_eq_some_iff.1 h87
          refine V_indexAddr h72 hx95 Tryz.underlying23 Tryz.sizeOf66 rfl rfl rfl ?_
          intro b96 o97 h98
          obtain ⟨v99, v101, v103, h105, h100, h102, h104⟩ := El_cal_Calendar h98
          refine V_y (Y_loadA h105 Tryz.isAgg66 Tryz.sizeOf66 rfl) rfl rfl rfl ?_
          refine V_alloc Tryz.zeroValue66 rfl ?_
          intro b106 w107 h108
          have h113 : (v99).oneCell' = true := by obtain ⟨_, _, e, _⟩ := Sl.form h100; rw [e]; rfl
          have h116 : (v101).oneCell' = true := by obtain ⟨_, _, e, _⟩ := Sl.form h102; rw [e]; rfl
          have h119 : (v103).oneCell' = true := by obtain ⟨_, _, e, _⟩ := Sl.form h104; rw [e]; rfl
          refine V_storeNew h108 Tryz.sizeOf66 rfl rfl rfl rfl (by exact (List.forall_mem_cons.2 ⟨rfl, (List.forall_mem_cons.2 ⟨h113, (List.forall_mem_cons.2 ⟨h116, (List.forall_mem_cons.2 ⟨h119, (fun _ h => nomatch h)⟩)⟩)⟩)⟩)) ?_
          intro w109 h110
          have hk121 := h110.kp (Dw := Dw)
          have h120 : El (α := cal_Calendar) A84 w109 b106 0 x95 := h110.el hA ⟨[.int .i64 x95.zone.offset, v99], _, rfl, ⟨[.int .i64 x95.zone.offset], _, rfl, rfl, ⟨_, rfl, h100⟩⟩, ⟨[v101], _, rfl, ⟨_, rfl, h102⟩, ⟨_, rfl, h104⟩⟩⟩
          have ht122 := Kp.tr hk121 hA hB
          replace hH := Hp.kp hH hk121
          replace h_l := Sl.tr h_l ht122
          replace h8 := El.tr h8 ht122
          replace h72 := Sl.tr h72 ht122
          replace h98 := El.tr h98 ht122
          replace h100 := Sl.tr h100 ht122
          replace h102 := Sl.tr h102 ht122
          replace h104 := Sl.tr h104 ht122
          replace hK := Tr.trans hK ht122
          replace hr75 := Tr.trans hr75 ht122
          replace hB := Nat.le_trans hB ht122.ex.size
          replace hA := ht122.new
          refine V_to (fun _ _ => rfl) ?_
          refine C_seq ?_
          refine C_region ?_
          obtain ⟨v123, v125, v127, h129, h124, h126, h128⟩ := El_cal_Calendar h120
          refine V_y (Y_loadA h129 Tryz.isAgg66 Tryz.sizeOf66 rfl) rfl rfl rfl ?_
          obtain ⟨x130, hx130, h87⟩ := Option.bind_eq_some_iff.1 h87
          refine V_call Tryz.call31 rfl rfl rfl rfl (cal_CheckCalendar_c (Dw := Dw) w109 hA x95 v123 h124 v125 h126 v127 h128 hx130) ?_
          rintro _ w131 ⟨rfl, hk132⟩
          have ht133 := Kp.tr hk132 hA hB
          replace hH := Hp.kp hH hk132
          replace h_l := Sl.tr h_l ht133
          replace h8 := El.tr h8 ht133
          replace h72 := Sl.tr h72 ht133
          replace h120 := El.tr h120 ht133
          replace h124 := Sl.tr h124 ht133
          replace h126 := Sl.tr h126 ht133
          replace h128 := Sl.tr h128 ht133
          replace hK := Tr.trans hK ht133
          replace hr75 := Tr.trans hr75 ht133
          replace hB := Nat.le_trans hB ht133.ex.size
          replace hA := ht133.new
          refine V_as rfl rfl ?_
          refine V_to (fun _ _ => rfl) ?_
          refine C_seq ?_
          refine C_region ?_
          refine V_mv rfl rfl ?_
          refine V_y (Y_neq rfl rfl) rfl rfl rfl ?_
          refine V_to (fun _ _ => rfl) ?_
          refine C_cond rfl (fun hc134 => ?_) (fun hc134 => ?_)
          · rw [if_pos hc134] at h87
            refine C_seq ?_
            refine C_region ?_
            refine V_mv rfl rfl ?_
            refine V_as rfl rfl ?_
            refine V_to (fun _ _ => rfl) ?_
            obtain rfl := Option.some.inj h87
            obtain rfl := (h88 : Lp.rt _ = _)
            rw [Lp.andThen_rt] at hm
            obtain rfl := Option.some.inj hm
            refine C_ret ?_
            try simp only [↓inBlock_ret, ↓then_ret]
            exact retQ rfl (Res.one Tryz.results10 rfl) ⟨rfl, hK.kp⟩
          · rw [if_neg (nt hc134)] at h87
            refine C_skip_to (fun _ _ => rfl) ?_
            refine C_region ?_
            refine V_y (Y_addI rfl rfl) rfl rfl rfl ?_
            refine V_mv rfl rfl ?_
            obtain rfl := Option.some.inj h87
            refine V_end (fun a ha135 => ?_)
            exact ⟨(), hlt90, h88, ⟨A84, ha135.sub ⟨rfl, rfl, rfl, rfl, (congrArg (fun z => some (Value.int .i64 z)) (w64_succ hlt90 hn93)), trivial⟩, ⟨hH, hr75⟩⟩⟩
        · refine C_exit (fun a ha136 => ?_)
          exact ⟨((), A84), ha136.sub ⟨rfl, rfl, trivial⟩, ⟨(h91 (eq_of_dec hle89 hc94)).symm, hH, hr75⟩⟩
      rintro ⟨s74, A80⟩ w77 ⟨rfl, hH81, hk78⟩ a ha79
      rw [Lp.andThen_fin] at hm
      replace h_l := Sl.tr h_l hk78
      replace h8 := El.tr h8 hk78
      replace hK := Tr.trans hK hk78
      replace hB := Nat.le_trans hB hk78.ex.size
      replace hA := hk78.new
      replace hH : Hp w.heap.size A80 w77 ([]) := hH81
      refine C_at (n := ⟨54, [], none⟩) (fun _ _ => rfl) ?_ ha79
      refine C_seq ?_
      refine C_seq ?_
      refine C_region ?_
      refine V_mv rfl rfl ?_
      refine V_y (Y_lenSl h_l rfl Tryz.underlying22 rfl) rfl rfl rfl ?_
      refine V_mv rfl rfl ?_
      refine V_to (fun _ _ => rfl) ?_
      have hn158 := Sl.le h_l
      obtain ⟨o138, ho138, hm⟩ := Option.bind_eq_some_iff.1 hm
      refine C_cutG (ι := (Unit × (Nat → Prop))) (fun ⟨s139, A145⟩ => []) (fun ⟨s139, A145⟩ => fun w' => o138 = .fin s139 ∧ Hp w.heap.size A145 w' ([]) ∧ Tr Dw w.heap.size A80 w77 A145 w') ?_ ?_
      · refine C_block ?_
        refine C_range ho138 (fun k141 _ a w' => ∃ i : (Nat → Prop), Has ⟨54, [], none⟩ a ([(3, .pointer (some ⟨b5, 0, none⟩)), (43, v_l), (44, .int .i64 (l.length : Int)), (45, .int .i64 (k141 : Int))]) ∧ Hp w.heap.size i w' ([]) ∧ Tr Dw w.heap.size A80 w77 i w') (fun a ha => ⟨A80, ha.sub ⟨rfl, rfl, rfl, rfl, trivial⟩, ⟨hH, Tr.refl (Dw := Dw) hA⟩⟩) ?_
        rintro K k141 _ a w148 ⟨A149, ha198, hH150, hr140⟩ hle154 K157 h156
        refine C_of ?_ ha198
        replace h8 := El.tr h8 hr140
        replace h_l := Sl.tr h_l hr140
        replace hK := Tr.trans hK hr140
        replace hB := Nat.le_trans hB hr140.ex.size
        replace hA := hr140.new
        replace hH : Hp w.heap.size A149 w148 ([]) := hH150
        refine C_seq (C_region (V_y (Y_lss rfl rfl) rfl rfl rfl (V_to (fun _ _ => rfl) ?_)))
        refine C_seq ?_
        refine C_cond rfl (fun hc159 => ?_) (fun hc159 => ?_)
        · have hlt155 := lt_of_dec hc159
          obtain ⟨x151, h152, h153⟩ := K157 hlt155
          refine C_skip_to (fun _ _ => rfl) ?_
          refine C_seq ?_
          refine C_block ?_
          refine C_seq ?_
          refine C_region ?_
          obtain ⟨x160, hx160, h152⟩ := Option.bind_eq_some_iff.1 h152
          refine V_indexAddr h_l hx160 Tryz.underlying22 Tryz.sizeOf39 rfl rfl rfl ?_
          intro b161 o162 h163
          obtain ⟨v164, h166, h165⟩ := El_level_Clock h163
          refine V_y (Y_loadA h166 Tryz.isAgg39 Tryz.sizeOf39 rfl) rfl rfl rfl ?_
          refine V_alloc Tryz.zeroValue39 rfl ?_
          intro b167 w168 h169
          have h174 : (v164).oneCell' = true := by obtain ⟨_, _, e, _⟩ := Sl.form h165; rw [e]; rfl
          refine V_storeNew h169 Tryz.sizeOf39 rfl rfl rfl rfl (by exact (List.forall_mem_cons.2 ⟨rfl, (List.forall_mem_cons.2 ⟨rfl, (List.forall_mem_cons.2 ⟨rfl, (List.forall_mem_cons.2 ⟨rfl, (List.forall_mem_cons.2 ⟨rfl, (List.forall_mem_cons.2 ⟨rfl, (List.forall_mem_cons.2 ⟨h174, (fun _ h => nomatch h)⟩)⟩)⟩)⟩)⟩)⟩)⟩)) ?_
          intro w170 h171
          have hk176 := h171.kp (Dw := Dw)
          have h175 : El (α := level_Clock) A149 w170 b167 0 x160 := h171.el hA ⟨[.int .i64 x160.kind], _, rfl, rfl, ⟨[.int .i64 x160.level], _, rfl, rfl, ⟨[.int .i64 x160.minutes], _, rfl, rfl, ⟨[.int .i64 x160.start], _, rfl, rfl, ⟨[.int .i64 x160.stop], _, rfl, rfl, ⟨[.int .i64 x160.end_], _, rfl, rfl, ⟨_, rfl, h165⟩⟩⟩⟩⟩⟩⟩
          have ht177 := Kp.tr hk176 hA hB
          replace hH := Hp.kp hH hk176
          replace h8 := El.tr h8 ht177
          replace h_l := Sl.tr h_l ht177
          replace h163 := El.tr h163 ht177
          replace h165 := Sl.tr h165 ht177
          replace hK := Tr.trans hK ht177
          replace hr140 := Tr.trans hr140 ht177
          replace hB := Nat.le_trans hB ht177.ex.size
          replace hA := ht177.new
          refine V_to (fun _ _ => rfl) ?_
          refine C_seq ?_
          refine C_region ?_
          have h178 := El_level_Clock_6 h175
          refine V_y (Y_fieldAddr Tryz.underlying39 rfl Tryz.sizeOf37 (by decide) rfl) rfl rfl rfl ?_
          obtain ⟨v179, h180, h181⟩ := El.list h178
          refine V_y (Y_load h180 Tryz.isAgg37 rfl) rfl rfl rfl ?_
          refine V_y (Y_makeFunc rfl rfl) rfl rfl rfl ?_
          obtain ⟨x183, hx183, h152⟩ := Option.bind_eq_some_iff.1 h152
          refine V_call Tryz.call32 rfl rfl rfl rfl (slices_ContainsFunc_Llevel_Piece_level_Piece_c (Dw := Dw) w170 hA x160.pieces v179 h181 (fun y191 => level_check_1 y191 cals) 33 #[] #[.pointer (some ⟨b5, 0, none⟩)] Tryz.call33 (fun w187 A188 ht189 h190 y184 r185 h186 => (level_check_1_c (Dw := Dw) w187 h190 y184 cals b5 (El.tr h8 ht189) h186).mono (fun _ _ h => ⟨h.1, h.2⟩)) hx183) ?_
          rintro _ w192 ⟨rfl, hk193⟩
          have ht194 := Kp.tr hk193 hA hB
          replace hH := Hp.kp hH hk193
          replace h8 := El.tr h8 ht194
          replace h_l := Sl.tr h_l ht194
          replace h175 := El.tr h175 ht194
          replace h178 := El.tr h178 ht194
          replace h181 := Sl.tr h181 ht194
          replace hK := Tr.trans hK ht194
          replace hr140 := Tr.trans hr140 ht194
          replace hB := Nat.le_trans hB ht194.ex.size
          replace hA := ht194.new
          refine V_to (fun _ _ => rfl) ?_
          refine C_cond rfl (fun hc195 => ?_) (fun hc195 => ?_)
          · rw [if_pos hc195] at h152
            refine C_seq ?_
            refine C_region ?_
            refine V_as rfl rfl ?_
            refine V_to (fun _ _ => rfl) ?_
            obtain rfl := Option.some.inj h152
            obtain rfl := (h153 : Lp.rt _ = _)
            rw [Lp.andThen_rt] at hm
            obtain rfl := Option.some.inj hm
            refine C_ret ?_
            try simp only [↓inBlock_ret, ↓then_ret]
            exact retQ rfl (Res.one Tryz.results10 rfl) ⟨rfl, hK.kp⟩
          · rw [if_neg (nt hc195)] at h152
            refine C_skip_to (fun _ _ => rfl) ?_
            refine C_region ?_
            refine V_y (Y_addI rfl rfl) rfl rfl rfl ?_
            refine V_mv rfl rfl ?_
            obtain rfl := Option.some.inj h152
            refine V_end (fun a ha196 => ?_)
            exact ⟨(), hlt155, h153, ⟨A149, ha196.sub ⟨rfl, rfl, rfl, (congrArg (fun z => some (Value.int .i64 z)) (w64_succ hlt155 hn158)), trivial⟩, ⟨hH, hr140⟩⟩⟩
        · refine C_exit (fun a ha197 => ?_)
          exact ⟨((), A149), ha197.sub trivial, ⟨(h156 (eq_of_dec hle154 hc159)).symm, hH, hr140⟩⟩
      rintro ⟨s139, A145⟩ w142 ⟨rfl, hH146, hk143⟩ a ha144
      rw [Lp.andThen_fin] at hm
      replace hK := Tr.trans hK hk143
      replace hB := Nat.le_trans hB hk143.ex.size
      replace hA := hk143.new
      replace hH : Hp w.heap.size A145 w142 ([]) := hH146
      refine C_at (n := ⟨54, [], none⟩) (fun _ _ => rfl) ?_ ha144
      refine C_seq ?_
      refine C_region ?_
      refine V_as rfl rfl ?_
      refine V_to (fun _ _ => rfl) ?_
      obtain rfl := Option.some.inj hm
      refine C_ret ?_
      try simp only [↓inBlock_ret, ↓then_ret]
      exact retQ rfl (Res.one Tryz.results10 rfl) ⟨rfl, hK.kp⟩

set_option maxRecDepth 4000 in
set_option maxHeartbeats 4000000 in
theorem level_moment_c (w : World) (m : Int) (from_ : Int) : Ret Tryz.prog 11 #[.int .i64 m, .int .i64 from_] w fun v w' => v = .int .i64 (level_moment m from_) ∧ w = w' := by
  generalize hm : level_moment m from_ = r
  unfold level_moment at hm
  refine enter Tryz.func11 rfl Tryz.ntmps11 rfl ?_
  refine C_seq ?_
  refine C_region ?_
  refine V_as rfl rfl ?_
  refine V_to (fun _ _ => rfl) ?_
  refine C_seq ?_
  refine C_seq ?_
  refine C_region ?_
  refine V_mv rfl rfl ?_
  refine V_mv rfl rfl ?_
  refine V_call Tryz.call18 rfl rfl rfl rfl (level_within_c w m from_ 3000000) ?_
  rintro _ _ ⟨rfl, rfl⟩
  refine V_y (Y_not rfl) rfl rfl rfl ?_
  refine V_to (fun _ _ => rfl) ?_
  refine C_cond rfl (fun hc1 => ?_) (fun hc1 => ?_)
  · rw [if_pos hc1] at hm
    refine C_seq ?_
    refine C_region ?_
    refine V_as rfl rfl ?_
    refine V_to (fun _ _ => rfl) ?_
    obtain rfl := hm
    refine C_ret ?_
    try simp only [↓inBlock_ret, ↓then_ret]
    exact retQ rfl (Res.one Tryz.results11 rfl) ⟨rfl, rfl⟩
  · rw [if_neg (nt hc1)] at hm
    refine C_skip_to (fun _ _ => rfl) ?_
    refine C_seq ?_
    refine C_region ?_
    refine V_as rfl rfl ?_
    refine V_to (fun _ _ => rfl) ?_
    obtain rfl := hm
    refine C_ret ?_
    try simp only [↓inBlock_ret, ↓then_ret]
    exact retQ rfl (Res.one Tryz.results11 rfl) ⟨rfl, rfl⟩

end Go.Proofs.YtnjlojicebcikaaGreat.W
