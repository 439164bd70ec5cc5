/-
  Written by program (gen.py) from the IR of the dump: each function computes its model.
-/
import Derived.Test.YtebbjefkndfkpaaGreatDoorProg
import Derived.Test.YtebbjefkndfkpaaGreatDoorGe
import Derived.Test.YtebbjefkndfkpaaGreatDoorCalParsesM
import Derived.KernelRfl
import Derived.Shelf.Strings.Search2
import Derived.Shelf.Strconv.AtoiAll
import Derived.Lib.AtoiErrMem
import Derived.Shelf.Strconv.Itoa3
import Derived.Shelf.Strings.SlTrimAscii
import Derived.Shelf.Strings.Split
import Derived.Test.YtebbjefkndfkpaaGreatDoorGi
import Derived.Test.YtebbjefkndfkpaaGreatDoorGg
import Derived.Test.YtebbjefkndfkpaaGreatDoorHi
import Derived.Test.YtebbjefkndfkpaaGreatDoorHd
import Derived.Test.YtebbjefkndfkpaaGreatDoorGv
namespace Go.Proofs.YtebbjefkndfkpaaGreatDoor.W
open Go Go.RowKit Go.Pu Go.Gw Go.Proofs Go.Proofs.YtebbjefkndfkpaaGreatDoor.M
set_option linter.unusedVariables false
set_option linter.unusedSimpArgs false
variable {Dw : Prop}

def Tryz_FR : (Nat → Prop) → World → Prop := fun A w => Tb Tryz.prog A w ∧ Mx Tryz.prog 0 A w ∧ Er Tryz.prog 1 A w ∧ Er Tryz.prog 2 A w
instance : Keeps Tryz_FR := ⟨fun h hh hs => ⟨Keeps.to (R := Tb Tryz.prog) ((h).1) hh hs, Keeps.to (R := Mx Tryz.prog 0) ((h).2.1) hh hs, Keeps.to (R := Er Tryz.prog 1) ((h).2.2.1) hh hs, Keeps.to (R := Er Tryz.prog 2) ((h).2.2.2) hh hs⟩⟩
theorem Tryz_info3 : Tryz.prog.info? 3 = some Tryz.t3 := by kernel_rfl
theorem Tryz_info49 : Tryz.prog.info? 49 = some Tryz.t49 := by kernel_rfl
theorem Tryz_info51 : Tryz.prog.info? 51 = some Tryz.t51 := by kernel_rfl
theorem Tryz_info53 : Tryz.prog.info? 53 = some Tryz.t53 := by kernel_rfl
theorem Tryz_places28 : ∀ fs, Tryz.prog.underlying 28 = some (.struct fs) → ∀ w : World, (Array.mapM (fun (f : Field) => do pure (f.offset, ← Go.sizeOf f.type)) fs).run Tryz.prog w = .ok #[(0, 2), (2, 1), (3, 1)] w := by
  intro fs h w
  rw [Tryz.underlying28] at h
  cases h
  kernel_rfl
theorem Tryz_places49 : ∀ fs, Tryz.prog.underlying 49 = some (.struct fs) → ∀ w : World, (Array.mapM (fun (f : Field) => do pure (f.offset, ← Go.sizeOf f.type)) fs).run Tryz.prog w = .ok #[(0, 1), (1, 1)] w := by
  intro fs h w
  rw [Tryz.underlying49] at h
  cases h
  kernel_rfl
theorem Tryz_places51 : ∀ fs, Tryz.prog.underlying 51 = some (.struct fs) → ∀ w : World, (Array.mapM (fun (f : Field) => do pure (f.offset, ← Go.sizeOf f.type)) fs).run Tryz.prog w = .ok #[(0, 1), (1, 1), (2, 1)] w := by
  intro fs h w
  rw [Tryz.underlying51] at h
  cases h
  kernel_rfl
theorem Tryz_places53 : ∀ fs, Tryz.prog.underlying 53 = some (.struct fs) → ∀ w : World, (Array.mapM (fun (f : Field) => do pure (f.offset, ← Go.sizeOf f.type)) fs).run Tryz.prog w = .ok #[(0, 1), (1, 1)] w := by
  intro fs h w
  rw [Tryz.underlying53] at h
  cases h
  kernel_rfl
theorem Tryz_eqt49_10000 (a0 : Int) (a1 : Int) (b0 : Int) (b1 : Int) (w : World) : (Op.equalIn 10000 49 (.agg #[.int .i64 a0, .int .i64 a1]) (.agg #[.int .i64 b0, .int .i64 b1])).run Tryz.prog w = .ok (a0 == b0 && (a1 == b1)) w := by
  refine (run_equalIn_struct w 9999 49 _ _ (by kernel_rfl) (by kernel_rfl)).trans ?_
  rw [show Tryz.prog.fieldsOf 49 = _ from by unfold Program.fieldsOf; rw [Tryz.underlying49]]
  cases h0 : (a0 == b0) <;> cases h1 : (a1 == b1) <;> simp_all [Op.eqFields, part, strEq, Tryz.isAgg3, run_equalIn_int _ _ _ _ _ _ _ Tryz.underlying3]
theorem Tryz_eqg49 : Tryz.prog.eqGuardType Tryz.prog.depth 49 = false := by kernel_rfl
theorem Tryz_eqt51_10000 (a0 : Int) (a1 : Int) (a2 : Int) (b0 : Int) (b1 : Int) (b2 : Int) (w : World) : (Op.equalIn 10000 51 (.agg #[.int .i64 a0, .int .i64 a1, .int .i64 a2]) (.agg #[.int .i64 b0, .int .i64 b1, .int .i64 b2])).run Tryz.prog w = .ok (a0 == b0 && (a1 == b1 && (a2 == b2))) w := by
  refine (run_equalIn_struct w 9999 51 _ _ (by kernel_rfl) (by kernel_rfl)).trans ?_
  rw [show Tryz.prog.fieldsOf 51 = _ from by unfold Program.fieldsOf; rw [Tryz.underlying51]]
  cases h0 : (a0 == b0) <;> cases h1 : (a1 == b1) <;> cases h2 : (a2 == b2) <;> simp_all [Op.eqFields, part, strEq, Tryz.isAgg3, run_equalIn_int _ _ _ _ _ _ _ Tryz.underlying3]
theorem Tryz_eqg51 : Tryz.prog.eqGuardType Tryz.prog.depth 51 = false := by kernel_rfl
theorem Tryz_mixed : Tryz.prog.follows .mixedOrders = true := by kernel_rfl

instance : GoT cal_Change := GoT.of (β := Int × Int) fun x => (x.at_, x.offset)

instance : Flat cal_Change := ⟨fun {A w A1 w1 cs x} h => Flat.flat (α := Int × Int) (x := (x.at_, x.offset)) (A := A) (w := w) h⟩

theorem El_cal_Change_ {A : Nat → Prop} {w : World} {b off : Nat} {x : cal_Change} (h : El A w b off x) : El (α := Int × Int) A w b off (x.at_, x.offset) := h

theorem El_cal_Change_0 {A : Nat → Prop} {w : World} {b off : Nat} {x : cal_Change} (h : El A w b off x) : El A w b (off + 0) x.at_ := El.fst (El_cal_Change_ h)

theorem El_cal_Change_1 {A : Nat → Prop} {w : World} {b off : Nat} {x : cal_Change} (h : El A w b off x) : El A w b (off + 1) x.offset := El.snd (El_cal_Change_ h)

theorem El_cal_Change {A : Nat → Prop} {w : World} {b off : Nat} {x : cal_Change} (h : El A w b off x) : At w b off [.int .i64 x.at_, .int .i64 x.offset] ∧ True := by
  obtain ⟨h1, h2, cs, h3, h4⟩ := h
  obtain ⟨_, _, rfl, rfl, rfl⟩ := h3
  exact ⟨h4, trivial⟩

instance : GoT cal_Zone := GoT.of (β := Int × (List cal_Change)) fun x => (x.offset, x.changes)

theorem El_cal_Zone_ {A : Nat → Prop} {w : World} {b off : Nat} {x : cal_Zone} (h : El A w b off x) : El (α := Int × (List cal_Change)) A w b off (x.offset, x.changes) := h

theorem El_cal_Zone_0 {A : Nat → Prop} {w : World} {b off : Nat} {x : cal_Zone} (h : El A w b off x) : El A w b (off + 0) x.offset := El.fst (El_cal_Zone_ h)

theorem El_cal_Zone_1 {A : Nat → Prop} {w : World} {b off : Nat} {x : cal_Zone} (h : El A w b off x) : El A w b (off + 1) x.changes := El.snd (El_cal_Zone_ h)

theorem El_cal_Zone {A : Nat → Prop} {w : World} {b off : Nat} {x : cal_Zone} (h : El A w b off x) : ∃ v1, At w b off [.int .i64 x.offset, v1] ∧ Sl A w v1 x.changes := by
  obtain ⟨h1, h2, cs, h3, h4⟩ := h
  obtain ⟨_, _, rfl, rfl, ⟨u1, rfl, g1⟩⟩ := h3
  exact ⟨u1, h4, g1⟩

instance : GoT cal_Shift := GoT.of (β := Int × Int × Int) fun x => (x.day, x.from_, x.to_)

instance : Flat cal_Shift := ⟨fun {A w A1 w1 cs x} h => Flat.flat (α := Int × Int × Int) (x := (x.day, x.from_, x.to_)) (A := A) (w := w) h⟩

theorem El_cal_Shift_ {A : Nat → Prop} {w : World} {b off : Nat} {x : cal_Shift} (h : El A w b off x) : El (α := Int × Int × Int) A w b off (x.day, x.from_, x.to_) := h

theorem El_cal_Shift_0 {A : Nat → Prop} {w : World} {b off : Nat} {x : cal_Shift} (h : El A w b off x) : El A w b (off + 0) x.day := El.fst (El_cal_Shift_ h)

theorem El_cal_Shift_1 {A : Nat → Prop} {w : World} {b off : Nat} {x : cal_Shift} (h : El A w b off x) : El A w b (off + 1) x.from_ := El.fst (El.snd (El_cal_Shift_ h))

theorem El_cal_Shift_2 {A : Nat → Prop} {w : World} {b off : Nat} {x : cal_Shift} (h : El A w b off x) : El A w b (off + 2) x.to_ := El.snd (El.snd (El_cal_Shift_ h))

theorem El_cal_Shift {A : Nat → Prop} {w : World} {b off : Nat} {x : cal_Shift} (h : El A w b off x) : At w b off [.int .i64 x.day, .int .i64 x.from_, .int .i64 x.to_] ∧ True := by
  obtain ⟨h1, h2, cs, h3, h4⟩ := h
  obtain ⟨_, _, rfl, rfl, ⟨_, _, rfl, rfl, rfl⟩⟩ := h3
  exact ⟨h4, trivial⟩

instance : GoT cal_Special := GoT.of (β := Int × (List cal_Shift)) fun x => (x.day, x.shifts)

theorem El_cal_Special_ {A : Nat → Prop} {w : World} {b off : Nat} {x : cal_Special} (h : El A w b off x) : El (α := Int × (List cal_Shift)) A w b off (x.day, x.shifts) := h

theorem El_cal_Special_0 {A : Nat → Prop} {w : World} {b off : Nat} {x : cal_Special} (h : El A w b off x) : El A w b (off + 0) x.day := El.fst (El_cal_Special_ h)

theorem El_cal_Special_1 {A : Nat → Prop} {w : World} {b off : Nat} {x : cal_Special} (h : El A w b off x) : El A w b (off + 1) x.shifts := El.snd (El_cal_Special_ h)

theorem El_cal_Special {A : Nat → Prop} {w : World} {b off : Nat} {x : cal_Special} (h : El A w b off x) : ∃ v1, At w b off [.int .i64 x.day, v1] ∧ Sl A w v1 x.shifts := by
  obtain ⟨h1, h2, cs, h3, h4⟩ := h
  obtain ⟨_, _, rfl, rfl, ⟨u1, rfl, g1⟩⟩ := h3
  exact ⟨u1, h4, g1⟩

instance : GoT cal_Calendar := GoT.of (β := cal_Zone × (List cal_Shift) × (List cal_Special)) fun x => (x.zone, x.week, x.specials)

theorem El_cal_Calendar_ {A : Nat → Prop} {w : World} {b off : Nat} {x : cal_Calendar} (h : El A w b off x) : El (α := cal_Zone × (List cal_Shift) × (List cal_Special)) A w b off (x.zone, x.week, x.specials) := h

theorem El_cal_Calendar_0 {A : Nat → Prop} {w : World} {b off : Nat} {x : cal_Calendar} (h : El A w b off x) : El A w b (off + 0) x.zone := El.fst (El_cal_Calendar_ h)

theorem El_cal_Calendar_1 {A : Nat → Prop} {w : World} {b off : Nat} {x : cal_Calendar} (h : El A w b off x) : El A w b (off + 2) x.week := El.fst (El.snd (El_cal_Calendar_ h))

theorem El_cal_Calendar_2 {A : Nat → Prop} {w : World} {b off : Nat} {x : cal_Calendar} (h : El A w b off x) : El A w b (off + 3) x.specials := El.snd (El.snd (El_cal_Calendar_ h))

theorem El_cal_Calendar {A : Nat → Prop} {w : World} {b off : Nat} {x : cal_Calendar} (h : El A w b off x) : ∃ v1 v3 v5, At w b off [.int .i64 x.zone.offset, v1, v3, v5] ∧ Sl A w v1 x.zone.changes ∧ Sl A w v3 x.week ∧ Sl A w v5 x.specials := by
  obtain ⟨h1, h2, cs, h3, h4⟩ := h
  obtain ⟨_, _, rfl, ⟨_, _, rfl, rfl, ⟨u1, rfl, g1⟩⟩, ⟨_, _, rfl, ⟨u2, rfl, g2⟩, ⟨u3, rfl, g3⟩⟩⟩ := h3
  exact ⟨u1, u2, u3, h4, g1, g2, g3⟩

def Tryz_internal_stringslite_Index_lay_ren : Go.Shelf.Ren := ⟨fun | 217 => 72 | 219 => 59 | 224 => 74 | 225 => 73 | 266 => 85 | 267 => 75 | 314 => 86 | n => n, fun | 0 => 0 | 1 => 1 | 2 => 2 | 3 => 3 | 4 => 4 | 5 => 5 | 6 => 6 | 7 => 7 | 8 => 8 | 9 => 9 | 10 => 10 | 11 => 11 | 12 => 12 | 13 => 13 | 14 => 14 | 15 => 15 | 16 => 16 | 17 => 17 | 18 => 18 | 19 => 19 | 20 => 20 | 21 => 21 | 22 => 165 | 23 => 162 | 24 => 42 | 25 => 43 | 27 => 156 | 28 => 44 | 31 => 39 | 32 => 47 | 34 => 80 | 37 => 181 | 40 => 224 | 41 => 211 | 43 => 169 | 46 => 172 | 47 => 221 | 51 => 177 | 52 => 223 | 53 => 195 | 54 => 203 | 55 => 170 | 59 => 34 | 60 => 35 | 61 => 40 | 63 => 212 | 64 => 222 | 69 => 198 | 74 => 157 | 75 => 158 | 76 => 159 | 77 => 160 | 80 => 227 | 81 => 233 | 83 => 161 | 84 => 187 | 85 => 182 | 86 => 183 | 101 => 74 | 103 => 174 | 104 => 33 | 105 => 175 | 106 => 176 | 108 => 201 | 111 => 167 | 113 => 152 | 114 => 171 | 115 => 189 | 116 => 190 | 117 => 191 | 118 => 192 | 119 => 207 | 122 => 188 | 123 => 193 | 124 => 194 | 127 => 214 | 128 => 173 | 131 => 36 | 137 => 208 | 138 => 209 | 139 => 210 | 143 => 215 | 144 => 216 | 145 => 217 | 146 => 178 | 150 => 164 | 151 => 179 | 164 => 246 | 167 => 180 | 168 => 184 | 169 => 185 | 170 => 186 | 171 => 202 | 172 => 204 | 173 => 205 | 174 => 206 | 175 => 196 | 176 => 197 | 209 => 199 | 210 => 200 | 211 => 218 | 212 => 219 | 213 => 220 | 214 => 213 | 232 => 225 | 233 => 226 | 238 => 228 | 239 => 229 | 240 => 230 | 241 => 231 | 242 => 232 | 243 => 234 | 244 => 235 | 245 => 236 | 246 => 237 | 247 => 238 | 248 => 239 | 249 => 240 | n => n, fun | 1 => 0 | 3 => 3 | 4 => 4 | 15 => 1 | 16 => 2 | 17 => 5 | 18 => 6 | 19 => 7 | n => n⟩
theorem Tryz_internal_stringslite_Index_lay : Go.Proofs.Lays.n219 Tryz.prog Tryz_internal_stringslite_Index_lay_ren := {
  mixed := by kernel_rfl,
  f217 := Tryz.func72.trans (congrArg some (by kernel_rfl)),
  f219 := Tryz.func59.trans (congrArg some (by kernel_rfl)),
  f224 := Tryz.func74.trans (congrArg some (by kernel_rfl)),
  f225 := Tryz.func73.trans (congrArg some (by kernel_rfl)),
  f266 := Tryz.func85.trans (congrArg some (by kernel_rfl)),
  f267 := Tryz.func75.trans (congrArg some (by kernel_rfl)),
  f314 := Tryz.func86.trans (congrArg some (by kernel_rfl)),
  t3 := Tryz.underlying3,
  a3 := Tryz.isAgg3,
  z3 := Tryz.sizeOf3,
  v3 := Tryz.zeroValue3,
  t4 := Tryz.underlying4,
  a4 := Tryz.isAgg4,
  z4 := Tryz.sizeOf4,
  v4 := Tryz.zeroValue4,
  t5 := Tryz.underlying5,
  a5 := Tryz.isAgg5,
  z5 := Tryz.sizeOf5,
  v5 := Tryz.zeroValue5,
  t9 := Tryz.underlying9,
  a9 := Tryz.isAgg9,
  z9 := Tryz.sizeOf9,
  v9 := Tryz.zeroValue9,
  t46 := Tryz.underlying172,
  a46 := Tryz.isAgg172,
  z46 := Tryz.sizeOf172,
  v46 := Tryz.zeroValue172,
  t51 := Tryz.underlying177,
  a51 := Tryz.isAgg177,
  z51 := Tryz.sizeOf177,
  v51 := Tryz.zeroValue177,
  t146 := Tryz.underlying178,
  a146 := Tryz.isAgg178,
  z146 := Tryz.sizeOf178,
  v146 := Tryz.zeroValue178,
  g1 := by kernel_rfl }
theorem internal_stringslite_Index_c (w : World) {A : Nat → Prop} (hA : ∀ b, w.heap.size ≤ b → A b) (s : ByteArray) (substr : ByteArray) {r : Int} (hm : internal_stringslite_Index s substr = some r) : Ret Tryz.prog 59 #[.string s, .string substr] w fun v w' => v = .int .i64 r ∧ Kp Dw w w' := by
  unfold internal_stringslite_Index at hm
  split at hm
  · rename_i c hc
    obtain rfl := Option.some.inj hm
    obtain rfl : substr = ⟨#[c]⟩ := by apply ByteArray.ext; apply Array.toList_inj.1; simpa using hc
    refine Calls.mono (Go.Proofs.Any.stringslite_Index_one Tryz_internal_stringslite_Index_lay s c w) ?_
    rintro _ w' ⟨rfl, rfl⟩
    exact ⟨_, rfl, rfl, Kp.refl (Dw := Dw) _⟩
  · cases hm

set_option maxRecDepth 4000 in
set_option maxHeartbeats 4000000 in
theorem internal_stringslite_Cut_c (w : World) {A : Nat → Prop} (hA : ∀ b, w.heap.size ≤ b → A b) (s : ByteArray) (sep : ByteArray) {r : (ByteArray × ByteArray × Bool)} (hm : internal_stringslite_Cut s sep = some r) : Ret Tryz.prog 47 #[.string s, .string sep] w fun v w' => v = .tuple #[.string r.1, .string r.2.1, .bool r.2.2] ∧ Kp Dw w w' := by
  unfold internal_stringslite_Cut at hm
  refine enter Tryz.func47 rfl Tryz.ntmps47 rfl ?_
  have hA0 := hA
  have hB := Nat.le_refl w.heap.size
  have hK : Tr Dw w.heap.size A w A w := Tr.refl (Dw := Dw) hA
  have hH : Hp w.heap.size A w [] := Hp.nil
  refine C_seq ?_
  refine C_region ?_
  refine V_y (Y_assign rfl) rfl rfl rfl ?_
  refine V_y (Y_assign rfl) rfl rfl rfl ?_
  refine V_y (Y_assign rfl) rfl rfl rfl ?_
  refine V_to (fun _ _ => rfl) ?_
  refine C_seq ?_
  refine C_seq ?_
  refine C_region ?_
  refine V_y (Y_move rfl) rfl rfl rfl ?_
  refine V_y (Y_move rfl) rfl rfl rfl ?_
  obtain ⟨x1, hx1, hm⟩ := Option.bind_eq_some_iff.1 hm
  refine V_call Tryz.call59 rfl rfl rfl rfl (internal_stringslite_Index_c (Dw := Dw) w hA s sep hx1) ?_
  rintro _ w2 ⟨rfl, hk3⟩
  have ht4 := Kp.tr (Dw := Dw) hk3 hA hB
  replace hH := Hp.kp (Dw := Dw) hH hk3
  replace hK := Tr.trans (Dw := Dw) hK ht4
  replace hB := Nat.le_trans hB ht4.ex.size
  replace hA := ht4.new
  refine V_y (Y_assign rfl) rfl rfl rfl ?_
  refine V_to (fun _ _ => rfl) ?_
  refine C_seq ?_
  refine C_region ?_
  refine V_y (Y_move rfl) rfl rfl rfl ?_
  refine V_y (Y_geq rfl rfl) rfl rfl rfl ?_
  refine V_to (fun _ _ => rfl) ?_
  refine C_cond rfl (fun hc5 => ?_) (fun hc5 => ?_)
  · rw [if_pos hc5] at hm
    refine C_seq ?_
    refine C_region_q (Dw := Dw) Tryz_mixed (by kernel_rfl) ?_
    refine VQ_y (fun w' hw' => Y_move rfl) rfl rfl rfl ?_
    refine VQ_y (fun w' hw' => Y_move rfl) rfl rfl rfl ?_
    obtain ⟨x6, hx6, hm⟩ := Option.bind_eq_some_iff.1 hm
    refine VQ_y (fun w' hw' => Y_sliceSH hx6 Tryz.underlying9 rfl rfl) rfl rfl rfl ?_
    refine VQ_y (fun w' hw' => Y_move rfl) rfl rfl rfl ?_
    refine VQ_y (fun w' hw' => Y_move rfl) rfl rfl rfl ?_
    refine VQ_y (fun w' hw' => Y_move rfl) rfl rfl rfl ?_
    refine VQ_y (fun w' hw' => Y_lenStr rfl Tryz.underlying9 rfl) rfl rfl rfl ?_
    refine VQ_y (fun w' hw' => Y_addI rfl rfl) rfl rfl rfl ?_
    obtain ⟨x7, hx7, hm⟩ := Option.bind_eq_some_iff.1 hm
    refine VQ_y (fun w' hw' => Y_sliceSL hx7 Tryz.underlying9 rfl rfl) rfl rfl rfl ?_
    refine VQ_y (fun w' hw' => Y_assign rfl) rfl rfl rfl ?_
    refine VQ_y (fun w' hw' => Y_assign rfl) rfl rfl rfl ?_
    refine VQ_y (fun w' hw' => Y_assign rfl) rfl rfl rfl ?_
    refine VQ_to (fun _ _ => rfl) (fun w9 hk10 => ?_)
    have ht11 := Kp.tr (Dw := Dw) hk10 hA hB
    replace hH := Hp.kp (Dw := Dw) hH hk10
    replace hK := Tr.trans (Dw := Dw) hK ht11
    replace hB := Nat.le_trans hB ht11.ex.size
    replace hA := ht11.new
    obtain rfl := Option.some.inj hm
    refine C_ret ?_
    try simp only [↓inBlock_ret, ↓then_ret]
    exact retQ rfl (Res.three Tryz.results47 rfl rfl rfl) ⟨rfl, hK.kp⟩
  · rw [if_neg (nt hc5)] at hm
    refine C_skip_to (fun _ _ => rfl) ?_
    refine C_seq ?_
    refine C_region ?_
    refine V_y (Y_move rfl) rfl rfl rfl ?_
    refine V_y (Y_assign rfl) rfl rfl rfl ?_
    refine V_y (Y_assign rfl) rfl rfl rfl ?_
    refine V_y (Y_assign rfl) rfl rfl rfl ?_
    refine V_to (fun _ _ => rfl) ?_
    obtain rfl := Option.some.inj hm
    refine C_ret ?_
    try simp only [↓inBlock_ret, ↓then_ret]
    exact retQ rfl (Res.three Tryz.results47 rfl rfl rfl) ⟨rfl, hK.kp⟩

set_option maxRecDepth 4000 in
set_option maxHeartbeats 4000000 in
theorem strings_Cut_c (w : World) {A : Nat → Prop} (hA : ∀ b, w.heap.size ≤ b → A b) (s : ByteArray) (sep : ByteArray) {r : (ByteArray × ByteArray × Bool)} (hm : strings_Cut s sep = some r) : Ret Tryz.prog 7 #[.string s, .string sep] w fun v w' => v = .tuple #[.string r.1, .string r.2.1, .bool r.2.2] ∧ Kp Dw w w' := by
  unfold strings_Cut at hm
  refine enter Tryz.func7 rfl Tryz.ntmps7 rfl ?_
  have hA0 := hA
  have hB := Nat.le_refl w.heap.size
  have hK : Tr Dw w.heap.size A w A w := Tr.refl (Dw := Dw) hA
  have hH : Hp w.heap.size A w [] := Hp.nil
  refine C_seq ?_
  refine C_region ?_
  refine V_y (Y_assign rfl) rfl rfl rfl ?_
  refine V_y (Y_assign rfl) rfl rfl rfl ?_
  refine V_y (Y_assign rfl) rfl rfl rfl ?_
  refine V_to (fun _ _ => rfl) ?_
  refine C_seq ?_
  refine C_region ?_
  refine V_y (Y_move rfl) rfl rfl rfl ?_
  refine V_y (Y_move rfl) rfl rfl rfl ?_
  obtain ⟨x1, hx1, hm⟩ := Option.bind_eq_some_iff.1 hm
  refine V_call Tryz.call47 rfl rfl rfl rfl (internal_stringslite_Cut_c (Dw := Dw) w hA s sep hx1) ?_
  rintro _ w2 ⟨rfl, hk3⟩
  have ht4 := Kp.tr (Dw := Dw) hk3 hA hB
  replace hH := Hp.kp (Dw := Dw) hH hk3
  replace hK := Tr.trans (Dw := Dw) hK ht4
  replace hB := Nat.le_trans hB ht4.ex.size
  replace hA := ht4.new
  refine V_y (Y_extract rfl rfl) rfl rfl rfl ?_
  refine V_y (Y_extract rfl rfl) rfl rfl rfl ?_
  refine V_y (Y_extract rfl rfl) rfl rfl rfl ?_
  refine V_y (Y_assign rfl) rfl rfl rfl ?_
  refine V_y (Y_assign rfl) rfl rfl rfl ?_
  refine V_y (Y_assign rfl) rfl rfl rfl ?_
  refine V_to (fun _ _ => rfl) ?_
  obtain rfl := Option.some.inj hm
  refine C_ret ?_
  try simp only [↓inBlock_ret, ↓then_ret]
  exact retQ rfl (Res.three Tryz.results7 rfl rfl rfl) ⟨rfl, hK.kp⟩

def Tryz_strings_genSplit_lay_ren : Go.Shelf.Ren := ⟨fun | 138 => 65 | 143 => 66 | 195 => 80 | 197 => 81 | 217 => 72 | 218 => 82 | 219 => 59 | 221 => 53 | 224 => 74 | 225 => 73 | 260 => 94 | 266 => 85 | 267 => 75 | 268 => 64 | 314 => 86 | n => n, fun | 0 => 0 | 1 => 1 | 2 => 2 | 3 => 3 | 4 => 4 | 5 => 5 | 6 => 6 | 7 => 7 | 8 => 8 | 9 => 9 | 10 => 10 | 11 => 11 | 12 => 12 | 13 => 13 | 14 => 14 | 15 => 15 | 16 => 16 | 17 => 17 | 18 => 18 | 19 => 19 | 20 => 20 | 21 => 21 | 22 => 165 | 23 => 162 | 24 => 42 | 25 => 43 | 27 => 156 | 28 => 44 | 31 => 39 | 32 => 47 | 34 => 80 | 37 => 181 | 40 => 224 | 41 => 211 | 43 => 169 | 46 => 172 | 47 => 221 | 51 => 177 | 52 => 223 | 53 => 195 | 54 => 203 | 55 => 170 | 59 => 34 | 60 => 35 | 61 => 40 | 63 => 212 | 64 => 222 | 69 => 198 | 74 => 157 | 75 => 158 | 76 => 159 | 77 => 160 | 80 => 227 | 81 => 233 | 83 => 161 | 84 => 187 | 85 => 182 | 86 => 183 | 101 => 74 | 103 => 174 | 104 => 33 | 105 => 175 | 106 => 176 | 108 => 201 | 111 => 167 | 113 => 152 | 114 => 171 | 115 => 189 | 116 => 190 | 117 => 191 | 118 => 192 | 119 => 207 | 122 => 188 | 123 => 193 | 124 => 194 | 127 => 214 | 128 => 173 | 131 => 36 | 137 => 208 | 138 => 209 | 139 => 210 | 143 => 215 | 144 => 216 | 145 => 217 | 146 => 178 | 150 => 164 | 151 => 179 | 164 => 246 | 167 => 180 | 168 => 184 | 169 => 185 | 170 => 186 | 171 => 202 | 172 => 204 | 173 => 205 | 174 => 206 | 175 => 196 | 176 => 197 | 209 => 199 | 210 => 200 | 211 => 218 | 212 => 219 | 213 => 220 | 214 => 213 | 232 => 225 | 233 => 226 | 238 => 228 | 239 => 229 | 240 => 230 | 241 => 231 | 242 => 232 | 243 => 234 | 244 => 235 | 245 => 236 | 246 => 237 | 247 => 238 | 248 => 239 | 249 => 240 | n => n, fun | 1 => 0 | 3 => 3 | 4 => 4 | 15 => 1 | 16 => 2 | 17 => 5 | 18 => 6 | 19 => 7 | n => n⟩
theorem Tryz_strings_genSplit_lay : Go.Proofs.Lays.n221 Tryz.prog Tryz_strings_genSplit_lay_ren := {
  mixed := by kernel_rfl,
  f138 := Tryz.func65.trans (congrArg some (by kernel_rfl)),
  f143 := Tryz.func66.trans (congrArg some (by kernel_rfl)),
  f195 := Tryz.func80.trans (congrArg some (by kernel_rfl)),
  f197 := Tryz.func81.trans (congrArg some (by kernel_rfl)),
  f217 := Tryz.func72.trans (congrArg some (by kernel_rfl)),
  f218 := Tryz.func82.trans (congrArg some (by kernel_rfl)),
  f219 := Tryz.func59.trans (congrArg some (by kernel_rfl)),
  f221 := Tryz.func53.trans (congrArg some (by kernel_rfl)),
  f224 := Tryz.func74.trans (congrArg some (by kernel_rfl)),
  f225 := Tryz.func73.trans (congrArg some (by kernel_rfl)),
  f260 := Tryz.func94.trans (congrArg some (by kernel_rfl)),
  f266 := Tryz.func85.trans (congrArg some (by kernel_rfl)),
  f267 := Tryz.func75.trans (congrArg some (by kernel_rfl)),
  f268 := Tryz.func64.trans (congrArg some (by kernel_rfl)),
  f314 := Tryz.func86.trans (congrArg some (by kernel_rfl)),
  t0 := Tryz.underlying0,
  a0 := Tryz.isAgg0,
  z0 := Tryz.sizeOf0,
  v0 := Tryz.zeroValue0,
  t3 := Tryz.underlying3,
  a3 := Tryz.isAgg3,
  z3 := Tryz.sizeOf3,
  v3 := Tryz.zeroValue3,
  t4 := Tryz.underlying4,
  a4 := Tryz.isAgg4,
  z4 := Tryz.sizeOf4,
  v4 := Tryz.zeroValue4,
  t5 := Tryz.underlying5,
  a5 := Tryz.isAgg5,
  z5 := Tryz.sizeOf5,
  v5 := Tryz.zeroValue5,
  t9 := Tryz.underlying9,
  a9 := Tryz.isAgg9,
  z9 := Tryz.sizeOf9,
  v9 := Tryz.zeroValue9,
  t21 := Tryz.underlying21,
  a21 := Tryz.isAgg21,
  z21 := Tryz.sizeOf21,
  v21 := Tryz.zeroValue21,
  t31 := Tryz.underlying39,
  a31 := Tryz.isAgg39,
  z31 := Tryz.sizeOf39,
  v31 := Tryz.zeroValue39,
  t46 := Tryz.underlying172,
  a46 := Tryz.isAgg172,
  z46 := Tryz.sizeOf172,
  v46 := Tryz.zeroValue172,
  t51 := Tryz.underlying177,
  a51 := Tryz.isAgg177,
  z51 := Tryz.sizeOf177,
  v51 := Tryz.zeroValue177,
  t105 := Tryz.underlying175,
  a105 := Tryz.isAgg175,
  z105 := Tryz.sizeOf175,
  v105 := Tryz.zeroValue175,
  t119 := Tryz.underlying207,
  a119 := Tryz.isAgg207,
  z119 := Tryz.sizeOf207,
  t138 := Tryz.underlying209,
  a138 := Tryz.isAgg209,
  z138 := Tryz.sizeOf209,
  v138 := Tryz.zeroValue209,
  t139 := Tryz.underlying210,
  a139 := Tryz.isAgg210,
  z139 := Tryz.sizeOf210,
  v139 := Tryz.zeroValue210,
  t146 := Tryz.underlying178,
  a146 := Tryz.isAgg178,
  z146 := Tryz.sizeOf178,
  v146 := Tryz.zeroValue178,
  g1 := by kernel_rfl,
  g3 := by kernel_rfl,
  g4 := by kernel_rfl }
theorem strings_genSplit_c (w : World) {A : Nat → Prop} (hA : ∀ b, w.heap.size ≤ b → A b) (hT : Mx Tryz.prog 0 A w) (s : ByteArray) (sep : ByteArray) (sepSave : Int) (n : Int) {r : List ByteArray} (hm : strings_genSplit s sep sepSave n = some r) : Ret Tryz.prog 53 #[.string s, .string sep, .int .i64 sepSave, .int .i64 n] w fun v w' => ∃ s0, v = s0 ∧ Sl A w' s0 r ∧ Kp Dw w w' := by
  unfold strings_genSplit at hm
  split at hm
  case isFalse => cases hm
  rename_i h
  obtain ⟨h1, h2, h3, h4, rfl⟩ := h
  obtain rfl := Option.some.inj hm
  obtain ⟨⟨m, hmx⟩, _, _⟩ := hT
  obtain ⟨k, rfl⟩ := Int.eq_ofNat_of_zero_le h3
  have hlen := Go.Lib.splitB_length_le sep (k : Int).toNat (min (Go.Lib.countB s sep + 1) (s.size + 1) - 1) s
  refine split_wrap (Dw := Dw) (N := min (Go.Lib.countB s sep + 1) (s.size + 1)) (sv := k) hA (by omega) (by unfold maxLen; omega) (Go.Proofs.Any.strings_genSplit Tryz_strings_genSplit_lay (by kernel_rfl) s sep k (-1) _ m w h1 hmx h2 (by omega) (by decide) (by decide) ?_)
  rw [if_pos (by decide)]
  omega

set_option maxRecDepth 4000 in
set_option maxHeartbeats 4000000 in
theorem strings_Split_c (w : World) {A : Nat → Prop} (hA : ∀ b, w.heap.size ≤ b → A b) (hT : Fz Tryz_FR A w) (s : ByteArray) (sep : ByteArray) {r : (List ByteArray)} (hm : strings_Split s sep = some r) : Ret Tryz.prog 48 #[.string s, .string sep] w fun v w' => ∃ s0, v = s0 ∧ Sl A w' s0 r ∧ Kp Dw w w' := by
  unfold strings_Split at hm
  refine enter Tryz.func48 rfl Tryz.ntmps48 rfl ?_
  have hA0 := hA
  have hB := Nat.le_refl w.heap.size
  have hK : Tr Dw w.heap.size A w A w := Tr.refl (Dw := Dw) hA
  have hH : Hp w.heap.size A w [] := Hp.nil
  refine C_seq ?_
  refine C_region ?_
  refine V_y (Y_assign rfl) rfl rfl rfl ?_
  refine V_to (fun _ _ => rfl) ?_
  refine C_seq ?_
  refine C_region ?_
  refine V_y (Y_move rfl) rfl rfl rfl ?_
  refine V_y (Y_move rfl) rfl rfl rfl ?_
  obtain ⟨x1, hx1, hm⟩ := Option.bind_eq_some_iff.1 hm
  refine V_call Tryz.call53 rfl rfl rfl rfl (strings_genSplit_c (Dw := Dw) w hA ((Fz.tr (Dw := Dw) hT hK)).2.1 s sep 0 (-1) hx1) ?_
  rintro v2 w4 ⟨_, rfl, h3, hk5⟩
  have ht6 := Kp.tr (Dw := Dw) hk5 hA hB
  replace hH := Hp.kp (Dw := Dw) hH hk5
  replace hK := Tr.trans (Dw := Dw) hK ht6
  replace hB := Nat.le_trans hB ht6.ex.size
  replace hA := ht6.new
  refine V_y (Y_assign rfl) rfl rfl rfl ?_
  refine V_to (fun _ _ => rfl) ?_
  obtain rfl := Option.some.inj hm
  refine C_ret ?_
  try simp only [↓inBlock_ret, ↓then_ret]
  exact retQ rfl (Res.one Tryz.results48 rfl) ⟨v2, rfl, (Sl.out (Dw := Dw) h3 hA0 hK), hK.kp⟩

set_option maxRecDepth 4000 in
set_option maxHeartbeats 4000000 in
theorem slices_Index_Lstring_string_c (w : World) {A : Nat → Prop} (s : (List ByteArray)) (v_s : Value) (h_s : Sl A w v_s s) (v : ByteArray) {r : Int} (hm : slices_Index_Lstring_string s v = some r) : Ret Tryz.prog 14 #[v_s, .string v] w fun v w' => v = .int .i64 r ∧ w = w' := by
  unfold slices_Index_Lstring_string at hm
  refine enter Tryz.func14 rfl Tryz.ntmps14 rfl ?_
  refine C_seq ?_
  refine C_region ?_
  refine V_y (Y_assign rfl) rfl rfl rfl ?_
  refine V_to (fun _ _ => rfl) ?_
  refine C_seq ?_
  refine C_seq ?_
  refine C_region ?_
  refine V_y (Y_move rfl) rfl rfl rfl ?_
  refine V_y (Y_lenSl h_s rfl Tryz.underlying39 rfl) rfl rfl rfl ?_
  refine V_y (Y_move rfl) rfl rfl rfl ?_
  refine V_to (fun _ _ => rfl) ?_
  have hn19 := Sl.le h_s
  obtain ⟨o3, ho3, hm⟩ := Option.bind_eq_some_iff.1 hm
  refine C_cutG (ι := Unit) (fun (s4 : Unit) => []) (fun (s4 : Unit) => fun w' => o3 = .fin s4 ∧ w = w') ?_ ?_
  · refine C_block ?_
    refine C_range ho3 (fun k6 _ a w' => ∃ i : Unit, Has ⟨19, [], none⟩ a ([(0, v_s), (1, .string v), (7, .int .i64 (s.length : Int)), (8, .int .i64 (k6 : Int))]) ∧ w = w') (fun a ha => ⟨(), ha.sub ⟨rfl, rfl, rfl, rfl, trivial⟩, rfl⟩) ?_
    rintro K k6 _ a _ ⟨_, ha28, rfl⟩ hle15 K18 h17
    refine C_of ?_ ha28
    refine C_seq (C_region (V_y (Y_lss rfl rfl) rfl rfl rfl (V_to (fun _ _ => rfl) ?_)))
    refine C_seq ?_
    refine C_cond rfl (fun hc20 => ?_) (fun hc20 => ?_)
    · have hlt16 := lt_of_dec hc20
      obtain ⟨x12, h13, h14⟩ := K18 hlt16
      refine C_skip_to (fun _ _ => rfl) ?_
      refine C_seq ?_
      refine C_block ?_
      refine C_seq ?_
      refine C_region ?_
      refine V_y (Y_move rfl) rfl rfl rfl ?_
      refine V_y (Y_assign rfl) rfl rfl rfl ?_
      refine V_to (fun _ _ => rfl) ?_
      refine C_seq ?_
      refine C_region ?_
      refine V_y (Y_move rfl) rfl rfl rfl ?_
      refine V_y (Y_move rfl) rfl rfl rfl ?_
      refine V_y (Y_move rfl) rfl rfl rfl ?_
      obtain ⟨x21, hx21, h13⟩ := Option.bind_eq_some_iff.1 h13
      refine V_indexAddr h_s hx21 Tryz.underlying39 Tryz.sizeOf9 rfl rfl rfl ?_
      intro b22 o23 h24
      refine V_y (Y_load (El.str h24) Tryz.isAgg9 rfl) rfl rfl rfl ?_
      refine V_y (Y_seql rfl rfl) rfl rfl rfl ?_
      refine V_to (fun _ _ => rfl) ?_
      refine C_cond rfl (fun hc25 => ?_) (fun hc25 => ?_)
      · rw [if_pos hc25] at h13
        refine C_seq ?_
        refine C_region ?_
        refine V_y (Y_move rfl) rfl rfl rfl ?_
        refine V_y (Y_assign rfl) rfl rfl rfl ?_
        refine V_to (fun _ _ => rfl) ?_
        obtain rfl := Option.some.inj h13
        obtain rfl := (h14 : Lp.rt _ = _)
        rw [Lp.andThen_rt] at hm
        obtain rfl := Option.some.inj hm
        refine C_ret ?_
        try simp only [↓inBlock_ret, ↓then_ret]
        exact retQ rfl (Res.one Tryz.results14 rfl) ⟨rfl, rfl⟩
      · rw [if_neg (nt hc25)] at h13
        refine C_skip_to (fun _ _ => rfl) ?_
        refine C_region ?_
        refine V_y (Y_addI rfl rfl) rfl rfl rfl ?_
        refine V_y (Y_move rfl) rfl rfl rfl ?_
        obtain rfl := Option.some.inj h13
        refine V_end (fun a ha26 => ?_)
        exact ⟨(), hlt16, h14, ⟨(), ha26.sub ⟨rfl, rfl, rfl, (congrArg (fun z => some (Value.int .i64 z)) (w64_succ hlt16 hn19)), trivial⟩, rfl⟩⟩
    · refine C_exit (fun a ha27 => ?_)
      exact ⟨(), ha27.sub trivial, ⟨(h17 (eq_of_dec hle15 hc20)).symm, rfl⟩⟩
  rintro s4 _ ⟨rfl, rfl⟩ a ha9
  rw [Lp.andThen_fin] at hm
  refine C_at (n := ⟨19, [], none⟩) (fun _ _ => rfl) ?_ ha9
  refine C_seq ?_
  refine C_region ?_
  refine V_y (Y_assign rfl) rfl rfl rfl ?_
  refine V_to (fun _ _ => rfl) ?_
  obtain rfl := Option.some.inj hm
  refine C_ret ?_
  try simp only [↓inBlock_ret, ↓then_ret]
  exact retQ rfl (Res.one Tryz.results14 rfl) ⟨rfl, rfl⟩

def Tryz_strconv_Atoi_lay_ren : Go.Shelf.Ren := ⟨fun | 129 => 115 | 171 => 61 | 172 => 60 | 205 => 104 | 243 => 78 | 244 => 76 | 245 => 77 | 246 => 92 | 247 => 87 | 279 => 88 | 280 => 89 | 281 => 90 | 282 => 91 | 283 => 105 | 284 => 106 | 285 => 107 | 286 => 108 | 287 => 102 | 316 => 103 | 317 => 114 | 318 => 116 | 319 => 117 | 320 => 118 | 321 => 112 | 322 => 113 | 337 => 121 | 338 => 122 | n => n, fun | 0 => 0 | 1 => 1 | 2 => 2 | 3 => 3 | 4 => 4 | 5 => 5 | 6 => 6 | 7 => 7 | 8 => 8 | 9 => 9 | 10 => 10 | 11 => 11 | 12 => 12 | 13 => 13 | 14 => 14 | 15 => 15 | 16 => 16 | 17 => 17 | 18 => 18 | 19 => 19 | 20 => 20 | 21 => 21 | 22 => 165 | 23 => 162 | 24 => 42 | 25 => 43 | 27 => 156 | 28 => 44 | 31 => 39 | 32 => 47 | 34 => 80 | 37 => 181 | 40 => 224 | 41 => 211 | 43 => 169 | 46 => 172 | 47 => 221 | 51 => 177 | 52 => 223 | 53 => 195 | 54 => 203 | 55 => 170 | 59 => 34 | 60 => 35 | 61 => 40 | 63 => 212 | 64 => 222 | 69 => 198 | 74 => 157 | 75 => 158 | 76 => 159 | 77 => 160 | 80 => 227 | 81 => 233 | 83 => 161 | 84 => 187 | 85 => 182 | 86 => 183 | 101 => 74 | 103 => 174 | 104 => 33 | 105 => 175 | 106 => 176 | 108 => 201 | 111 => 167 | 113 => 152 | 114 => 171 | 115 => 189 | 116 => 190 | 117 => 191 | 118 => 192 | 119 => 207 | 122 => 188 | 123 => 193 | 124 => 194 | 127 => 214 | 128 => 173 | 131 => 36 | 137 => 208 | 138 => 209 | 139 => 210 | 143 => 215 | 144 => 216 | 145 => 217 | 146 => 178 | 150 => 164 | 151 => 179 | 164 => 246 | 167 => 180 | 168 => 184 | 169 => 185 | 170 => 186 | 171 => 202 | 172 => 204 | 173 => 205 | 174 => 206 | 175 => 196 | 176 => 197 | 209 => 199 | 210 => 200 | 211 => 218 | 212 => 219 | 213 => 220 | 214 => 213 | 232 => 225 | 233 => 226 | 238 => 228 | 239 => 229 | 240 => 230 | 241 => 231 | 242 => 232 | 243 => 234 | 244 => 235 | 245 => 236 | 246 => 237 | 247 => 238 | 248 => 239 | 249 => 240 | n => n, fun | 1 => 0 | 3 => 3 | 4 => 4 | 15 => 1 | 16 => 2 | 17 => 5 | 18 => 6 | 19 => 7 | n => n⟩
theorem Tryz_strconv_Atoi_laym0 : Go.Proofs.Lays.n172 Tryz.prog Tryz_strconv_Atoi_lay_ren := {
  mixed := by kernel_rfl,
  f129 := Tryz.func115.trans (congrArg some (by kernel_rfl)),
  f171 := Tryz.func61.trans (congrArg some (by kernel_rfl)),
  f172 := Tryz.func60.trans (congrArg some (by kernel_rfl)),
  f205 := Tryz.func104.trans (congrArg some (by kernel_rfl)),
  f243 := Tryz.func78.trans (congrArg some (by kernel_rfl)),
  f244 := Tryz.func76.trans (congrArg some (by kernel_rfl)),
  f245 := Tryz.func77.trans (congrArg some (by kernel_rfl)),
  f246 := Tryz.func92.trans (congrArg some (by kernel_rfl)),
  f247 := Tryz.func87.trans (congrArg some (by kernel_rfl)),
  f279 := Tryz.func88.trans (congrArg some (by kernel_rfl)),
  f280 := Tryz.func89.trans (congrArg some (by kernel_rfl)),
  f281 := Tryz.func90.trans (congrArg some (by kernel_rfl)),
  f282 := Tryz.func91.trans (congrArg some (by kernel_rfl)),
  f283 := Tryz.func105.trans (congrArg some (by kernel_rfl)),
  f284 := Tryz.func106.trans (congrArg some (by kernel_rfl)),
  f285 := Tryz.func107.trans (congrArg some (by kernel_rfl)),
  f286 := Tryz.func108.trans (congrArg some (by kernel_rfl)),
  f287 := Tryz.func102.trans (congrArg some (by kernel_rfl)),
  f316 := Tryz.func103.trans (congrArg some (by kernel_rfl)),
  f317 := Tryz.func114.trans (congrArg some (by kernel_rfl)),
  f318 := Tryz.func116.trans (congrArg some (by kernel_rfl)),
  f319 := Tryz.func117.trans (congrArg some (by kernel_rfl)),
  f320 := Tryz.func118.trans (congrArg some (by kernel_rfl)),
  f321 := Tryz.func112.trans (congrArg some (by kernel_rfl)),
  f322 := Tryz.func113.trans (congrArg some (by kernel_rfl)),
  f337 := Tryz.func121.trans (congrArg some (by kernel_rfl)),
  f338 := Tryz.func122.trans (congrArg some (by kernel_rfl)),
  t0 := Tryz.underlying0,
  a0 := Tryz.isAgg0,
  z0 := Tryz.sizeOf0,
  v0 := Tryz.zeroValue0,
  t2 := Tryz.underlying2,
  a2 := Tryz.isAgg2,
  z2 := Tryz.sizeOf2,
  v2 := Tryz.zeroValue2,
  t3 := Tryz.underlying3,
  a3 := Tryz.isAgg3,
  z3 := Tryz.sizeOf3,
  v3 := Tryz.zeroValue3,
  t4 := Tryz.underlying4,
  a4 := Tryz.isAgg4,
  z4 := Tryz.sizeOf4,
  v4 := Tryz.zeroValue4,
  t5 := Tryz.underlying5,
  a5 := Tryz.isAgg5,
  z5 := Tryz.sizeOf5,
  v5 := Tryz.zeroValue5,
  t9 := Tryz.underlying9,
  a9 := Tryz.isAgg9,
  z9 := Tryz.sizeOf9,
  v9 := Tryz.zeroValue9,
  t20 := Tryz.underlying20,
  a20 := Tryz.isAgg20,
  z20 := Tryz.sizeOf20,
  v20 := Tryz.zeroValue20,
  t21 := Tryz.underlying21,
  a21 := Tryz.isAgg21,
  z21 := Tryz.sizeOf21,
  v21 := Tryz.zeroValue21,
  t37 := Tryz.underlying181,
  a37 := Tryz.isAgg181,
  z37 := Tryz.sizeOf181,
  v37 := Tryz.zeroValue181,
  t46 := Tryz.underlying172,
  a46 := Tryz.isAgg172,
  z46 := Tryz.sizeOf172,
  v46 := Tryz.zeroValue172,
  t51 := Tryz.underlying177,
  a51 := Tryz.isAgg177,
  z51 := Tryz.sizeOf177,
  v51 := Tryz.zeroValue177,
  t53 := Tryz.underlying195,
  a53 := Tryz.isAgg195,
  z53 := Tryz.sizeOf195,
  v53 := Tryz.zeroValue195,
  t75 := Tryz.underlying158,
  a75 := Tryz.isAgg158,
  z75 := Tryz.sizeOf158,
  v75 := Tryz.zeroValue158,
  t76 := Tryz.underlying159,
  a76 := Tryz.isAgg159,
  z76 := Tryz.sizeOf159,
  v76 := Tryz.zeroValue159,
  t85 := Tryz.underlying182,
  a85 := Tryz.isAgg182,
  z85 := Tryz.sizeOf182,
  v85 := Tryz.zeroValue182,
  t127 := Tryz.underlying214,
  a127 := Tryz.isAgg214,
  z127 := Tryz.sizeOf214,
  v127 := Tryz.zeroValue214,
  t143 := Tryz.underlying215,
  a143 := Tryz.isAgg215,
  z143 := Tryz.sizeOf215,
  v143 := Tryz.zeroValue215,
  t145 := Tryz.underlying217,
  a145 := Tryz.isAgg217,
  z145 := Tryz.sizeOf217,
  v145 := Tryz.zeroValue217,
  t167 := Tryz.underlying180,
  a167 := Tryz.isAgg180,
  z167 := Tryz.sizeOf180,
  v167 := Tryz.zeroValue180,
  t168 := Tryz.underlying184,
  a168 := Tryz.isAgg184,
  z168 := Tryz.sizeOf184,
  v168 := Tryz.zeroValue184,
  t171 := Tryz.underlying202,
  a171 := Tryz.isAgg202,
  z171 := Tryz.sizeOf202,
  v171 := Tryz.zeroValue202,
  t173 := Tryz.underlying205,
  a173 := Tryz.isAgg205,
  z173 := Tryz.sizeOf205,
  v173 := Tryz.zeroValue205,
  t175 := Tryz.underlying196,
  a175 := Tryz.isAgg196,
  z175 := Tryz.sizeOf196,
  v175 := Tryz.zeroValue196,
  t210 := Tryz.underlying200,
  a210 := Tryz.isAgg200,
  z210 := Tryz.sizeOf200,
  v210 := Tryz.zeroValue200,
  t212 := Tryz.underlying219,
  a212 := Tryz.isAgg219,
  z212 := Tryz.sizeOf219,
  v212 := Tryz.zeroValue219,
  t213 := Tryz.underlying220,
  a213 := Tryz.isAgg220,
  z213 := Tryz.sizeOf220,
  t232 := Tryz.underlying225,
  a232 := Tryz.isAgg225,
  z232 := Tryz.sizeOf225,
  v232 := Tryz.zeroValue225,
  t233 := Tryz.underlying226,
  a233 := Tryz.isAgg226,
  z233 := Tryz.sizeOf226,
  v233 := Tryz.zeroValue226,
  g15 := by kernel_rfl,
  g16 := by kernel_rfl,
  g17 := by kernel_rfl,
  g18 := by kernel_rfl,
  g19 := by kernel_rfl }
theorem Tryz_strconv_Atoi_laym : Go.Proofs.LaysM.n172 Tryz.prog Tryz_strconv_Atoi_lay_ren := { Tryz_strconv_Atoi_laym0 with
  t80 := Tryz.underlying227,
  a80 := Tryz.isAgg227,
  z80 := Tryz.sizeOf227,
  v80 := Tryz.zeroValue227,
  i0 := by kernel_rfl,
  i2 := by kernel_rfl,
  i3 := by kernel_rfl,
  i4 := by kernel_rfl,
  i5 := by kernel_rfl,
  i9 := by kernel_rfl,
  i20 := by kernel_rfl,
  i21 := by kernel_rfl,
  i37 := by kernel_rfl,
  i46 := by kernel_rfl,
  i51 := by kernel_rfl,
  i53 := by kernel_rfl,
  i75 := by kernel_rfl,
  i76 := by kernel_rfl,
  i80 := by kernel_rfl,
  i85 := by kernel_rfl,
  i127 := by kernel_rfl,
  i143 := by kernel_rfl,
  i145 := by kernel_rfl,
  i167 := by kernel_rfl,
  i168 := by kernel_rfl,
  i171 := by kernel_rfl,
  i173 := by kernel_rfl,
  i175 := by kernel_rfl,
  i210 := by kernel_rfl,
  i212 := by kernel_rfl,
  i232 := by kernel_rfl,
  i233 := by kernel_rfl,
  m15 := by kernel_rfl,
  m16 := by kernel_rfl,
  m17 := by kernel_rfl,
  m18 := by kernel_rfl,
  m19 := by kernel_rfl }
theorem Tryz_strconv_Atoi_lay : Go.Proofs.LaysC.n172 Tryz.prog Tryz_strconv_Atoi_lay_ren := { Tryz_strconv_Atoi_laym with
  c0 := by kernel_rfl,
  c2 := by kernel_rfl,
  c3 := by kernel_rfl,
  c4 := by kernel_rfl,
  c5 := by kernel_rfl,
  c9 := by kernel_rfl,
  c20 := by kernel_rfl,
  c21 := by kernel_rfl,
  c37 := by kernel_rfl,
  c46 := by kernel_rfl,
  c51 := by kernel_rfl,
  c53 := by kernel_rfl,
  c75 := by kernel_rfl,
  c76 := by kernel_rfl,
  c80 := by kernel_rfl,
  c85 := by kernel_rfl,
  c127 := by kernel_rfl,
  c143 := by kernel_rfl,
  c145 := by kernel_rfl,
  c167 := by kernel_rfl,
  c168 := by kernel_rfl,
  c171 := by kernel_rfl,
  c173 := by kernel_rfl,
  c175 := by kernel_rfl,
  c210 := by kernel_rfl,
  c212 := by kernel_rfl,
  c213 := by kernel_rfl,
  c232 := by kernel_rfl,
  c233 := by kernel_rfl }
theorem strconv_Atoi_c (w : World) {A : Nat → Prop} (hA : ∀ b, w.heap.size ≤ b → A b) (hT : Er Tryz.prog 1 A w ∧ Er Tryz.prog 2 A w) (s : ByteArray) {r : Int × Bool} (hm : strconv_Atoi s = some r) : Ret Tryz.prog 60 #[.string s] w fun v w' => ∃ ev, v = .tuple #[.int .i64 r.1, ev] ∧ ErV ev r.2 ∧ Kp False w w' := by
  unfold strconv_Atoi at hm
  split at hm
  case isFalse => cases hm
  rename_i hs
  obtain rfl := Option.some.inj hm
  obtain ⟨⟨⟨t1, p1, hc1⟩, _, _⟩, ⟨t2, p2, hc2⟩, _, _⟩ := hT
  rcases h : Go.Lib.atoiAll s.data.toList with v | _ | _
  · refine Calls.mono (Go.Proofs.Any.strconv_Atoi_ok Tryz_strconv_Atoi_lay s (by omega) v h w) ?_
    rintro _ w' ⟨rfl, hk⟩
    refine ⟨_, rfl, _, rfl, rfl, ?_⟩
    rcases hk with rfl | ⟨t, rfl⟩
    · exact Kp.refl (Dw := False) _
    · exact .of (Go.Lib.bytesWorld_below w _ t)
  · refine Calls.mono (Go.Proofs.Any.strconv_Atoi_syntax Tryz_strconv_Atoi_lay s hs h (.iface t1 p1) w hc1 (.inr ⟨t1, p1, rfl⟩)) ?_
    rintro _ w' ⟨N, rfl, _, _, hb⟩
    exact ⟨_, rfl, _, rfl, ⟨_, _, rfl⟩, .of hb⟩
  · refine Calls.mono (Go.Proofs.Any.strconv_Atoi_range Tryz_strconv_Atoi_lay s hs h (.iface t2 p2) w hc2 (.inr ⟨t2, p2, rfl⟩)) ?_
    rintro _ w' ⟨N, rfl, _, _, hb⟩
    exact ⟨_, rfl, _, rfl, ⟨_, _, rfl⟩, .of hb⟩

def Tryz_strconv_Itoa_lay_ren : Go.Shelf.Ren := ⟨fun | 129 => 115 | 171 => 61 | 243 => 78 | 246 => 92 | 283 => 105 | 284 => 106 | 285 => 107 | 286 => 108 | 317 => 114 | 318 => 116 | 319 => 117 | 320 => 118 | 337 => 121 | 338 => 122 | n => n, fun | 0 => 0 | 1 => 1 | 2 => 2 | 3 => 3 | 4 => 4 | 5 => 5 | 6 => 6 | 7 => 7 | 8 => 8 | 9 => 9 | 10 => 10 | 11 => 11 | 12 => 12 | 13 => 13 | 14 => 14 | 15 => 15 | 16 => 16 | 17 => 17 | 18 => 18 | 19 => 19 | 20 => 20 | 21 => 21 | 22 => 165 | 23 => 162 | 24 => 42 | 25 => 43 | 27 => 156 | 28 => 44 | 31 => 39 | 32 => 47 | 34 => 80 | 37 => 181 | 40 => 224 | 41 => 211 | 43 => 169 | 46 => 172 | 47 => 221 | 51 => 177 | 52 => 223 | 53 => 195 | 54 => 203 | 55 => 170 | 59 => 34 | 60 => 35 | 61 => 40 | 63 => 212 | 64 => 222 | 69 => 198 | 74 => 157 | 75 => 158 | 76 => 159 | 77 => 160 | 80 => 227 | 81 => 233 | 83 => 161 | 84 => 187 | 85 => 182 | 86 => 183 | 101 => 74 | 103 => 174 | 104 => 33 | 105 => 175 | 106 => 176 | 108 => 201 | 111 => 167 | 113 => 152 | 114 => 171 | 115 => 189 | 116 => 190 | 117 => 191 | 118 => 192 | 119 => 207 | 122 => 188 | 123 => 193 | 124 => 194 | 127 => 214 | 128 => 173 | 131 => 36 | 137 => 208 | 138 => 209 | 139 => 210 | 143 => 215 | 144 => 216 | 145 => 217 | 146 => 178 | 150 => 164 | 151 => 179 | 164 => 246 | 167 => 180 | 168 => 184 | 169 => 185 | 170 => 186 | 171 => 202 | 172 => 204 | 173 => 205 | 174 => 206 | 175 => 196 | 176 => 197 | 209 => 199 | 210 => 200 | 211 => 218 | 212 => 219 | 213 => 220 | 214 => 213 | 232 => 225 | 233 => 226 | 238 => 228 | 239 => 229 | 240 => 230 | 241 => 231 | 242 => 232 | 243 => 234 | 244 => 235 | 245 => 236 | 246 => 237 | 247 => 238 | 248 => 239 | 249 => 240 | n => n, fun | 1 => 0 | 3 => 3 | 4 => 4 | 15 => 1 | 16 => 2 | 17 => 5 | 18 => 6 | 19 => 7 | n => n⟩
theorem Tryz_strconv_Itoa_lay0 : Go.Proofs.Lays.n171 Tryz.prog Tryz_strconv_Itoa_lay_ren := {
  mixed := by kernel_rfl,
  f129 := Tryz.func115.trans (congrArg some (by kernel_rfl)),
  f171 := Tryz.func61.trans (congrArg some (by kernel_rfl)),
  f243 := Tryz.func78.trans (congrArg some (by kernel_rfl)),
  f246 := Tryz.func92.trans (congrArg some (by kernel_rfl)),
  f283 := Tryz.func105.trans (congrArg some (by kernel_rfl)),
  f284 := Tryz.func106.trans (congrArg some (by kernel_rfl)),
  f285 := Tryz.func107.trans (congrArg some (by kernel_rfl)),
  f286 := Tryz.func108.trans (congrArg some (by kernel_rfl)),
  f317 := Tryz.func114.trans (congrArg some (by kernel_rfl)),
  f318 := Tryz.func116.trans (congrArg some (by kernel_rfl)),
  f319 := Tryz.func117.trans (congrArg some (by kernel_rfl)),
  f320 := Tryz.func118.trans (congrArg some (by kernel_rfl)),
  f337 := Tryz.func121.trans (congrArg some (by kernel_rfl)),
  f338 := Tryz.func122.trans (congrArg some (by kernel_rfl)),
  t0 := Tryz.underlying0,
  a0 := Tryz.isAgg0,
  z0 := Tryz.sizeOf0,
  v0 := Tryz.zeroValue0,
  t2 := Tryz.underlying2,
  a2 := Tryz.isAgg2,
  z2 := Tryz.sizeOf2,
  v2 := Tryz.zeroValue2,
  t3 := Tryz.underlying3,
  a3 := Tryz.isAgg3,
  z3 := Tryz.sizeOf3,
  v3 := Tryz.zeroValue3,
  t4 := Tryz.underlying4,
  a4 := Tryz.isAgg4,
  z4 := Tryz.sizeOf4,
  v4 := Tryz.zeroValue4,
  t5 := Tryz.underlying5,
  a5 := Tryz.isAgg5,
  z5 := Tryz.sizeOf5,
  v5 := Tryz.zeroValue5,
  t9 := Tryz.underlying9,
  a9 := Tryz.isAgg9,
  z9 := Tryz.sizeOf9,
  v9 := Tryz.zeroValue9,
  t20 := Tryz.underlying20,
  a20 := Tryz.isAgg20,
  z20 := Tryz.sizeOf20,
  v20 := Tryz.zeroValue20,
  t37 := Tryz.underlying181,
  a37 := Tryz.isAgg181,
  z37 := Tryz.sizeOf181,
  v37 := Tryz.zeroValue181,
  t46 := Tryz.underlying172,
  a46 := Tryz.isAgg172,
  z46 := Tryz.sizeOf172,
  v46 := Tryz.zeroValue172,
  t51 := Tryz.underlying177,
  a51 := Tryz.isAgg177,
  z51 := Tryz.sizeOf177,
  v51 := Tryz.zeroValue177,
  t53 := Tryz.underlying195,
  a53 := Tryz.isAgg195,
  z53 := Tryz.sizeOf195,
  v53 := Tryz.zeroValue195,
  t171 := Tryz.underlying202,
  a171 := Tryz.isAgg202,
  z171 := Tryz.sizeOf202,
  v171 := Tryz.zeroValue202,
  t173 := Tryz.underlying205,
  a173 := Tryz.isAgg205,
  z173 := Tryz.sizeOf205,
  v173 := Tryz.zeroValue205,
  t212 := Tryz.underlying219,
  a212 := Tryz.isAgg219,
  z212 := Tryz.sizeOf219,
  v212 := Tryz.zeroValue219,
  t213 := Tryz.underlying220,
  a213 := Tryz.isAgg220,
  z213 := Tryz.sizeOf220,
  t232 := Tryz.underlying225,
  a232 := Tryz.isAgg225,
  z232 := Tryz.sizeOf225,
  v232 := Tryz.zeroValue225,
  t233 := Tryz.underlying226,
  a233 := Tryz.isAgg226,
  z233 := Tryz.sizeOf226,
  v233 := Tryz.zeroValue226,
  g17 := by kernel_rfl,
  g18 := by kernel_rfl,
  g19 := by kernel_rfl }
theorem Tryz_strconv_Itoa_lay : Go.Proofs.LaysM.n171 Tryz.prog Tryz_strconv_Itoa_lay_ren := { Tryz_strconv_Itoa_lay0 with
  i0 := by kernel_rfl,
  i2 := by kernel_rfl,
  i3 := by kernel_rfl,
  i4 := by kernel_rfl,
  i5 := by kernel_rfl,
  i9 := by kernel_rfl,
  i20 := by kernel_rfl,
  i37 := by kernel_rfl,
  i46 := by kernel_rfl,
  i51 := by kernel_rfl,
  i53 := by kernel_rfl,
  i171 := by kernel_rfl,
  i173 := by kernel_rfl,
  i212 := by kernel_rfl,
  i232 := by kernel_rfl,
  i233 := by kernel_rfl,
  m17 := by kernel_rfl,
  m18 := by kernel_rfl,
  m19 := by kernel_rfl }
theorem strconv_Itoa_c (w : World) {A : Nat → Prop} (hA : ∀ b, w.heap.size ≤ b → A b) (hT : Tb Tryz.prog A w) (n : Int) {r : ByteArray} (hm : strconv_Itoa n = some r) : Ret Tryz.prog 61 #[.int .i64 n] w fun v w' => v = .string r ∧ Kp False w w' := by
  unfold strconv_Itoa at hm
  split at hm
  case isFalse => cases hm
  rename_i h
  obtain rfl := Option.some.inj hm
  refine Calls.mono (Go.Proofs.Any.strconv_Itoa Tryz_strconv_Itoa_lay n h.1 h.2 w hT.1) ?_
  rintro _ w' ⟨rfl, k, os, rfl⟩
  exact ⟨_, rfl, rfl, .of (Go.Lib.below_grow _ w (Nat.le_refl _) k os)⟩

set_option maxRecDepth 4000 in
set_option maxHeartbeats 4000000 in
theorem internal_stringslite_HasPrefix_c (w : World) (s : ByteArray) (prefix_ : ByteArray) {r : Bool} (hm : internal_stringslite_HasPrefix s prefix_ = some r) : Ret Tryz.prog 93 #[.string s, .string prefix_] w fun v w' => v = .bool r ∧ w = w' := by
  unfold internal_stringslite_HasPrefix at hm
  refine enter Tryz.func93 rfl Tryz.ntmps93 rfl ?_
  refine C_seq ?_
  refine C_region ?_
  refine V_y (Y_assign rfl) rfl rfl rfl ?_
  refine V_to (fun _ _ => rfl) ?_
  refine C_seq ?_
  refine C_region ?_
  refine V_y (Y_move rfl) rfl rfl rfl ?_
  refine V_y (Y_lenStr rfl Tryz.underlying9 rfl) rfl rfl rfl ?_
  refine V_y (Y_move rfl) rfl rfl rfl ?_
  refine V_y (Y_lenStr rfl Tryz.underlying9 rfl) rfl rfl rfl ?_
  refine V_y (Y_geq rfl rfl) rfl rfl rfl ?_
  refine V_y (Y_move rfl) rfl rfl rfl ?_
  obtain ⟨s2, hs2, hm⟩ := Option.bind_eq_some_iff.1 hm
  refine V_cut 7 (fun _ : Unit => [(17, .bool s2)]) (fun _ w' => w = w') ?_ ?_
  · simp only [List.take, List.drop]
    rcases Bool.eq_false_or_eq_true (decide ((prefix_.size : Int) ≤ (s.size : Int))) with hc1 | hc1
    · rw [if_pos hc1] at hs2
      refine V_ge rfl rfl rfl hc1 ?_
      refine V_y (Y_move rfl) rfl rfl rfl ?_
      refine V_ge rfl rfl rfl hc1 ?_
      refine V_y (Y_move rfl) rfl rfl rfl ?_
      refine V_ge rfl rfl rfl hc1 ?_
      refine V_y (Y_lenStr rfl Tryz.underlying9 rfl) rfl rfl rfl ?_
      refine V_ge rfl rfl rfl hc1 ?_
      obtain ⟨x3, hx3, hs2⟩ := Option.bind_eq_some_iff.1 hs2
      refine V_y (Y_sliceSH hx3 Tryz.underlying9 rfl rfl) rfl rfl rfl ?_
      refine V_ge rfl rfl rfl hc1 ?_
      refine V_y (Y_move rfl) rfl rfl rfl ?_
      refine V_ge rfl rfl rfl hc1 ?_
      refine V_y (Y_seql rfl rfl) rfl rfl rfl ?_
      refine V_y (Y_pick_te rfl hc1 rfl) rfl rfl rfl ?_
      obtain rfl := Option.some.inj hs2
      exact V_end fun a ha => ⟨(), ha.sub ⟨rfl, trivial⟩, rfl⟩
    · rw [if_neg (nt hc1)] at hs2
      refine V_gn rfl rfl rfl hc1 rfl rfl rfl ?_
      refine V_gn rfl rfl rfl hc1 rfl rfl rfl ?_
      refine V_gn rfl rfl rfl hc1 rfl rfl rfl ?_
      refine V_gn rfl rfl rfl hc1 rfl rfl rfl ?_
      refine V_gn rfl rfl rfl hc1 rfl rfl rfl ?_
      refine V_gn rfl rfl rfl hc1 rfl rfl rfl ?_
      refine V_y (Y_pick_fe rfl hc1 rfl) rfl rfl rfl ?_
      obtain rfl := Option.some.inj hs2
      exact V_end fun a ha => ⟨(), ha.sub ⟨rfl, trivial⟩, rfl⟩
  simp only [List.take, List.drop]
  rintro _ _ rfl
  refine V_y (Y_assign rfl) rfl rfl rfl ?_
  refine V_to (fun _ _ => rfl) ?_
  obtain rfl := Option.some.inj hm
  refine C_ret ?_
  try simp only [↓inBlock_ret, ↓then_ret]
  exact retQ rfl (Res.one Tryz.results93 rfl) ⟨rfl, rfl⟩

set_option maxRecDepth 4000 in
set_option maxHeartbeats 4000000 in
theorem internal_stringslite_TrimPrefix_c (w : World) (s : ByteArray) (prefix_ : ByteArray) {r : ByteArray} (hm : internal_stringslite_TrimPrefix s prefix_ = some r) : Ret Tryz.prog 79 #[.string s, .string prefix_] w fun v w' => v = .string r ∧ w = w' := by
  unfold internal_stringslite_TrimPrefix at hm
  refine enter Tryz.func79 rfl Tryz.ntmps79 rfl ?_
  refine C_seq ?_
  refine C_region ?_
  refine V_y (Y_assign rfl) rfl rfl rfl ?_
  refine V_to (fun _ _ => rfl) ?_
  refine C_seq ?_
  refine C_seq ?_
  refine C_region ?_
  refine V_y (Y_move rfl) rfl rfl rfl ?_
  refine V_y (Y_move rfl) rfl rfl rfl ?_
  obtain ⟨x1, hx1, hm⟩ := Option.bind_eq_some_iff.1 hm
  refine V_call Tryz.call93 rfl rfl rfl rfl (internal_stringslite_HasPrefix_c w s prefix_ hx1) ?_
  rintro _ _ ⟨rfl, rfl⟩
  refine V_to (fun _ _ => rfl) ?_
  refine C_cond rfl (fun hc2 => ?_) (fun hc2 => ?_)
  · rw [if_pos hc2] at hm
    refine C_seq ?_
    refine C_region ?_
    refine V_y (Y_move rfl) rfl rfl rfl ?_
    refine V_y (Y_move rfl) rfl rfl rfl ?_
    refine V_y (Y_lenStr rfl Tryz.underlying9 rfl) rfl rfl rfl ?_
    obtain ⟨x3, hx3, hm⟩ := Option.bind_eq_some_iff.1 hm
    refine V_y (Y_sliceSL hx3 Tryz.underlying9 rfl rfl) rfl rfl rfl ?_
    refine V_y (Y_assign rfl) rfl rfl rfl ?_
    refine V_to (fun _ _ => rfl) ?_
    obtain rfl := Option.some.inj hm
    refine C_ret ?_
    try simp only [↓inBlock_ret, ↓then_ret]
    exact retQ rfl (Res.one Tryz.results79 rfl) ⟨rfl, rfl⟩
  · rw [if_neg (nt hc2)] at hm
    refine C_skip_to (fun _ _ => rfl) ?_
    refine C_seq ?_
    refine C_region ?_
    refine V_y (Y_move rfl) rfl rfl rfl ?_
    refine V_y (Y_assign rfl) rfl rfl rfl ?_
    refine V_to (fun _ _ => rfl) ?_
    obtain rfl := Option.some.inj hm
    refine C_ret ?_
    try simp only [↓inBlock_ret, ↓then_ret]
    exact retQ rfl (Res.one Tryz.results79 rfl) ⟨rfl, rfl⟩

set_option maxRecDepth 4000 in
set_option maxHeartbeats 4000000 in
theorem strings_TrimPrefix_c (w : World) (s : ByteArray) (prefix_ : ByteArray) {r : ByteArray} (hm : strings_TrimPrefix s prefix_ = some r) : Ret Tryz.prog 62 #[.string s, .string prefix_] w fun v w' => v = .string r ∧ w = w' := by
  unfold strings_TrimPrefix at hm
  refine enter Tryz.func62 rfl Tryz.ntmps62 rfl ?_
  refine C_seq ?_
  refine C_region ?_
  refine V_y (Y_assign rfl) rfl rfl rfl ?_
  refine V_to (fun _ _ => rfl) ?_
  refine C_seq ?_
  refine C_region ?_
  refine V_y (Y_move rfl) rfl rfl rfl ?_
  refine V_y (Y_move rfl) rfl rfl rfl ?_
  obtain ⟨x1, hx1, hm⟩ := Option.bind_eq_some_iff.1 hm
  refine V_call Tryz.call79 rfl rfl rfl rfl (internal_stringslite_TrimPrefix_c w s prefix_ hx1) ?_
  rintro _ _ ⟨rfl, rfl⟩
  refine V_y (Y_assign rfl) rfl rfl rfl ?_
  refine V_to (fun _ _ => rfl) ?_
  obtain rfl := Option.some.inj hm
  refine C_ret ?_
  try simp only [↓inBlock_ret, ↓then_ret]
  exact retQ rfl (Res.one Tryz.results62 rfl) ⟨rfl, rfl⟩

set_option maxRecDepth 4000 in
set_option maxHeartbeats 4000000 in
theorem cal_number_c (w : World) {A : Nat → Prop} (hA : ∀ b, w.heap.size ≤ b → A b) (hT : Fz Tryz_FR A w) (s : ByteArray) (digits : Int) {r : (Int × Bool)} (hm : cal_number s digits = some r) : Ret Tryz.prog 49 #[.string s, .int .i64 digits] w fun v w' => v = .tuple #[.int .i64 r.1, .bool r.2] ∧ Kp False w w' := by
  unfold cal_number at hm
  refine enter Tryz.func49 rfl Tryz.ntmps49 rfl ?_
  have hA0 := hA
  have hB := Nat.le_refl w.heap.size
  have hK : Tr False w.heap.size A w A w := Tr.refl (Dw := False) hA
  have hH : Hp w.heap.size A w [] := Hp.nil
  refine C_seq ?_
  refine C_region ?_
  refine V_y (Y_assign rfl) rfl rfl rfl ?_
  refine V_y (Y_assign rfl) rfl rfl rfl ?_
  refine V_to (fun _ _ => rfl) ?_
  refine C_seq ?_
  refine C_region ?_
  refine V_y (Y_move rfl) rfl rfl rfl ?_
  obtain ⟨x1, hx1, hm⟩ := Option.bind_eq_some_iff.1 hm
  refine V_call Tryz.call60 rfl rfl rfl rfl (strconv_Atoi_c w hA ⟨((Fz.tr (Dw := False) hT hK)).2.2.1, ((Fz.tr (Dw := False) hT hK)).2.2.2⟩ s hx1) ?_
  rintro _ w4 ⟨v2, rfl, h3, hk5⟩
  have ht6 := Kp.tr (Dw := False) hk5 hA hB
  replace hH := Hp.kp (Dw := False) hH hk5
  replace hK := Tr.trans (Dw := False) hK ht6
  replace hB := Nat.le_trans hB ht6.ex.size
  replace hA := ht6.new
  refine V_y (Y_move rfl) rfl rfl rfl ?_
  refine V_y (Y_extract rfl rfl) rfl rfl rfl ?_
  refine V_y (Y_extract rfl rfl) rfl rfl rfl ?_
  refine V_y (Y_assign rfl) rfl rfl rfl ?_
  refine V_y (Y_assign rfl) rfl rfl rfl ?_
  refine V_to (fun _ _ => rfl) ?_
  refine C_seq ?_
  refine C_seq ?_
  obtain ⟨s8, ho7, hm⟩ := Option.bind_eq_some_iff.1 hm
  refine C_cutG (ι := (Nat → Prop)) (fun (A13 : (Nat → Prop)) => [(6, .int .i64 x1.1), (27, .bool s8)]) (fun (A13 : (Nat → Prop)) => fun w' => Hp w.heap.size A13 w' ([]) ∧ Tr False w.heap.size A w4 A13 w') ?_ ?_
  · have hr9 : Tr False w.heap.size A w4 A w4 := Tr.refl (Dw := False) hA
    refine C_region ?_
    refine V_y (Y_move rfl) rfl rfl rfl ?_
    refine V_y (Y_neqER h3 Tryz.underlying158 rfl) rfl rfl rfl ?_
    refine V_y (Y_move rfl) rfl rfl rfl ?_
    rcases Bool.eq_false_or_eq_true (x1.2) with hc15 | hc15
    · rw [if_pos hc15] at ho7
      refine V_gn rfl rfl rfl hc15 rfl rfl rfl ?_
      refine V_gn rfl rfl rfl hc15 rfl rfl rfl ?_
      refine V_gn rfl rfl rfl hc15 rfl rfl rfl ?_
      refine V_gn rfl rfl rfl hc15 rfl rfl rfl ?_
      refine V_y (Y_pick_te rfl hc15 rfl) rfl rfl rfl ?_
      refine V_y (Y_move rfl) rfl rfl rfl ?_
      rcases Bool.eq_false_or_eq_true (true) with hc16 | hc16
      · rw [if_pos hc16] at ho7
        refine V_gn rfl rfl rfl hc16 rfl rfl rfl ?_
        refine V_gn rfl rfl rfl hc16 rfl rfl rfl ?_
        refine V_gn rfl rfl rfl hc16 rfl rfl rfl ?_
        refine V_gn rfl rfl rfl hc16 rfl rfl rfl ?_
        refine V_gn rfl rfl rfl hc16 rfl rfl rfl ?_
        refine V_y (Y_pick_te rfl hc16 rfl) rfl rfl rfl ?_
        obtain rfl := Option.some.inj ho7
        refine V_end (fun a ha17 => ?_)
        exact ⟨A, ha17.sub ⟨rfl, rfl, trivial⟩, ⟨hH, hr9⟩⟩
      · rw [if_neg (nt hc16)] at ho7
        refine V_ge rfl rfl rfl hc16 ?_
        refine V_y (Y_move rfl) rfl rfl rfl ?_
        refine V_ge rfl rfl rfl hc16 ?_
        obtain ⟨x18, hx18, ho7⟩ := Option.bind_eq_some_iff.1 ho7
        refine V_call Tryz.call62 rfl rfl rfl rfl (strings_TrimPrefix_c w4 s (⟨#[45]⟩ : ByteArray) hx18) ?_
        rintro _ _ ⟨rfl, rfl⟩
        refine V_ge rfl rfl rfl hc16 ?_
        refine V_y (Y_lenStr rfl Tryz.underlying9 rfl) rfl rfl rfl ?_
        refine V_ge rfl rfl rfl hc16 ?_
        refine V_y (Y_move rfl) rfl rfl rfl ?_
        refine V_ge rfl rfl rfl hc16 ?_
        refine V_y (Y_gtr rfl rfl) rfl rfl rfl ?_
        refine V_y (Y_pick_fe rfl hc16 rfl) rfl rfl rfl ?_
        obtain rfl := Option.some.inj ho7
        refine V_end (fun a ha19 => ?_)
        exact ⟨A, ha19.sub ⟨rfl, rfl, trivial⟩, ⟨hH, hr9⟩⟩
    · rw [if_neg (nt hc15)] at ho7
      refine V_ge rfl rfl rfl hc15 ?_
      refine V_y (Y_move rfl) rfl rfl rfl ?_
      refine V_ge rfl rfl rfl hc15 ?_
      obtain ⟨x20, hx20, ho7⟩ := Option.bind_eq_some_iff.1 ho7
      refine V_call Tryz.call61 rfl rfl rfl rfl (strconv_Itoa_c w4 hA ((Fz.tr (Dw := False) hT hK)).1 x1.1 hx20) ?_
      rintro _ w21 ⟨rfl, hk22⟩
      have ht23 := Kp.tr (Dw := False) hk22 hA hB
      replace hH := Hp.kp (Dw := False) hH hk22
      replace hK := Tr.trans (Dw := False) hK ht23
      replace hr9 := Tr.trans (Dw := False) hr9 ht23
      replace hB := Nat.le_trans hB ht23.ex.size
      replace hA := ht23.new
      refine V_ge rfl rfl rfl hc15 ?_
      refine V_y (Y_move rfl) rfl rfl rfl ?_
      refine V_ge rfl rfl rfl hc15 ?_
      refine V_y (Y_sneq rfl rfl) rfl rfl rfl ?_
      refine V_y (Y_pick_fe rfl hc15 rfl) rfl rfl rfl ?_
      refine V_y (Y_move rfl) rfl rfl rfl ?_
      rcases Bool.eq_false_or_eq_true (!(strEq x20 s)) with hc24 | hc24
      · rw [if_pos hc24] at ho7
        refine V_gn rfl rfl rfl hc24 rfl rfl rfl ?_
        refine V_gn rfl rfl rfl hc24 rfl rfl rfl ?_
        refine V_gn rfl rfl rfl hc24 rfl rfl rfl ?_
        refine V_gn rfl rfl rfl hc24 rfl rfl rfl ?_
        refine V_gn rfl rfl rfl hc24 rfl rfl rfl ?_
        refine V_y (Y_pick_te rfl hc24 rfl) rfl rfl rfl ?_
        obtain rfl := Option.some.inj ho7
        refine V_end (fun a ha25 => ?_)
        exact ⟨A, ha25.sub ⟨rfl, rfl, trivial⟩, ⟨hH, hr9⟩⟩
      · rw [if_neg (nt hc24)] at ho7
        refine V_ge rfl rfl rfl hc24 ?_
        refine V_y (Y_move rfl) rfl rfl rfl ?_
        refine V_ge rfl rfl rfl hc24 ?_
        obtain ⟨x26, hx26, ho7⟩ := Option.bind_eq_some_iff.1 ho7
        refine V_call Tryz.call62 rfl rfl rfl rfl (strings_TrimPrefix_c w21 s (⟨#[45]⟩ : ByteArray) hx26) ?_
        rintro _ _ ⟨rfl, rfl⟩
        refine V_ge rfl rfl rfl hc24 ?_
        refine V_y (Y_lenStr rfl Tryz.underlying9 rfl) rfl rfl rfl ?_
        refine V_ge rfl rfl rfl hc24 ?_
        refine V_y (Y_move rfl) rfl rfl rfl ?_
        refine V_ge rfl rfl rfl hc24 ?_
        refine V_y (Y_gtr rfl rfl) rfl rfl rfl ?_
        refine V_y (Y_pick_fe rfl hc24 rfl) rfl rfl rfl ?_
        obtain rfl := Option.some.inj ho7
        refine V_end (fun a ha27 => ?_)
        exact ⟨A, ha27.sub ⟨rfl, rfl, trivial⟩, ⟨hH, hr9⟩⟩
  rintro A13 w10 ⟨hH14, hk11⟩ a ha12
  replace hK := Tr.trans (Dw := False) hK hk11
  replace hB := Nat.le_trans hB hk11.ex.size
  replace hA := hk11.new
  replace hH : Hp w.heap.size A13 w10 ([]) := hH14
  refine C_at (n := ⟨29, [], none⟩) (fun _ _ => rfl) ?_ ha12
  refine C_cond rfl (fun hc28 => ?_) (fun hc28 => ?_)
  · rw [if_pos hc28] at hm
    refine C_seq ?_
    refine C_region ?_
    refine V_y (Y_assign rfl) rfl rfl rfl ?_
    refine V_y (Y_assign rfl) rfl rfl rfl ?_
    refine V_to (fun _ _ => rfl) ?_
    obtain rfl := Option.some.inj hm
    refine C_ret ?_
    try simp only [↓inBlock_ret, ↓then_ret]
    exact retQ rfl (Res.two Tryz.results49 rfl rfl) ⟨rfl, hK.kp⟩
  · rw [if_neg (nt hc28)] at hm
    refine C_skip_to (fun _ _ => rfl) ?_
    refine C_seq ?_
    refine C_region ?_
    refine V_y (Y_move rfl) rfl rfl rfl ?_
    refine V_y (Y_assign rfl) rfl rfl rfl ?_
    refine V_y (Y_assign rfl) rfl rfl rfl ?_
    refine V_to (fun _ _ => rfl) ?_
    obtain rfl := Option.some.inj hm
    refine C_ret ?_
    try simp only [↓inBlock_ret, ↓then_ret]
    exact retQ rfl (Res.two Tryz.results49 rfl rfl) ⟨rfl, hK.kp⟩

set_option maxRecDepth 4000 in
set_option maxHeartbeats 4000000 in
theorem cal_Calendar_take_c (w : World) {A : Nat → Prop} {B : Nat} (hB : B ≤ w.heap.size) (hA : ∀ b, w.heap.size ≤ b → A b) (hT : Fz Tryz_FR A w) (c : cal_Calendar) (b_c : Nat) (v_c0 : Value) (v_c1 : Value) (v_c2 : Value) (line : ByteArray) (before : Int) {L : List Ob} (hH : Hp B A w (obC b_c [.int .i64 c.zone.offset, v_c0, v_c1, v_c2] 28 :: obS (α := cal_Change) 49 v_c0 c.zone.changes :: obS (α := cal_Shift) 51 v_c1 c.week :: obS (α := cal_Special) 53 v_c2 c.specials :: L)) {r : (Int × Bool × cal_Calendar)} (hm : cal_Calendar_take c line before = some r) : Ret Tryz.prog 8 #[.pointer (some ⟨b_c, 0, none⟩), .string line, .int .i64 before] w fun v w' => ∃ u1_0, ∃ u1_1, ∃ u1_2, ∃ A1 : Nat → Prop, v = .tuple #[.int .i64 r.1, .bool r.2.1] ∧ Hp B A1 w' (obC b_c [.int .i64 r.2.2.zone.offset, u1_0, u1_1, u1_2] 28 :: obS (α := cal_Change) 49 u1_0 r.2.2.zone.changes :: obS (α := cal_Shift) 51 u1_1 r.2.2.week :: obS (α := cal_Special) 53 u1_2 r.2.2.specials :: L) ∧ Tr False B A w A1 w' := by
  unfold cal_Calendar_take at hm
  refine enter Tryz.func8 rfl Tryz.ntmps8 rfl ?_
  have hK : Tr False B A w A w := Tr.refl (Dw := False) hA
  refine C_seq ?_
  refine C_region ?_
  refine V_y (Y_assign rfl) rfl rfl rfl ?_
  refine V_y (Y_assign rfl) rfl rfl rfl ?_
  refine V_to (fun _ _ => rfl) ?_
  refine C_seq ?_
  refine C_region ?_
  refine V_y (Y_move rfl) rfl rfl rfl ?_
  obtain ⟨x7, hx7, hm⟩ := Option.bind_eq_some_iff.1 hm
  refine V_call Tryz.call48 rfl rfl rfl rfl (strings_Split_c (Dw := False) w hA (Fz.tr (Dw := False) hT hK) line (⟨#[32]⟩ : ByteArray) hx7) ?_
  rintro v8 w10 ⟨_, rfl, h9, hk11⟩
  have ht12 := Kp.tr (Dw := False) hk11 hA hB
  replace hH := Hp.kp (Dw := False) hH hk11
  replace hK := Tr.trans (Dw := False) hK ht12
  replace hB := Nat.le_trans hB ht12.ex.size
  replace hA := ht12.new
  refine V_y (Y_assign rfl) rfl rfl rfl ?_
  refine V_to (fun _ _ => rfl) ?_
  refine C_seq ?_
  refine C_region ?_
  refine V_buildSlice (Dw := False) (l := ([(⟨#[122, 111, 110, 101]⟩ : ByteArray), (⟨#[99, 104, 97, 110, 103, 101]⟩ : ByteArray), (⟨#[115, 104, 105, 102, 116]⟩ : ByteArray), (⟨#[100, 97, 121]⟩ : ByteArray)] : List ByteArray)) (len := 4) Tryz.underlying39 Tryz.sizeOf9 Tryz.zeroValue9 rfl (by with_unfolding_all rfl) (show (4 * 1 : Nat) ≠ 0 by decide) (show (4 * 1 : Nat) ≤ 2 ^ 24 by decide) hA ⟨[.string (⟨#[122, 111, 110, 101]⟩ : ByteArray)], _, rfl, rfl, ⟨[.string (⟨#[99, 104, 97, 110, 103, 101]⟩ : ByteArray)], _, rfl, rfl, ⟨[.string (⟨#[115, 104, 105, 102, 116]⟩ : ByteArray)], _, rfl, rfl, ⟨[.string (⟨#[100, 97, 121]⟩ : ByteArray)], _, rfl, rfl, rfl⟩⟩⟩⟩ rfl rfl ?_
  intro v13 w14 hk16 h15
  have ht17 := Kp.tr (Dw := False) hk16 hA hB
  replace hH := Hp.kp (Dw := False) hH hk16
  replace h9 := Sl.tr (Dw := False) h9 ht17
  replace hK := Tr.trans (Dw := False) hK ht17
  replace hB := Nat.le_trans hB ht17.ex.size
  replace hA := ht17.new
  refine V_y (Y_move rfl) rfl rfl rfl ?_
  obtain ⟨x18, hx18, hm⟩ := Option.bind_eq_some_iff.1 hm
  refine V_indexAddr h9 hx18 Tryz.underlying39 Tryz.sizeOf9 rfl rfl rfl ?_
  intro b19 o20 h21
  refine V_y (Y_load (El.str h21) Tryz.isAgg9 rfl) rfl rfl rfl ?_
  obtain ⟨x22, hx22, hm⟩ := Option.bind_eq_some_iff.1 hm
  refine V_call Tryz.call14 rfl rfl rfl rfl (slices_Index_Lstring_string_c w14 ([(⟨#[122, 111, 110, 101]⟩ : ByteArray), (⟨#[99, 104, 97, 110, 103, 101]⟩ : ByteArray), (⟨#[115, 104, 105, 102, 116]⟩ : ByteArray), (⟨#[100, 97, 121]⟩ : ByteArray)] : List ByteArray) v13 h15 x18 hx22) ?_
  rintro _ _ ⟨rfl, rfl⟩
  refine V_y (Y_assign rfl) rfl rfl rfl ?_
  refine V_to (fun _ _ => rfl) ?_
  refine C_seq ?_
  refine C_seq ?_
  refine C_region ?_
  refine V_y (Y_move rfl) rfl rfl rfl ?_
  refine V_y (Y_lss rfl rfl) rfl rfl rfl ?_
  refine V_y (Y_move rfl) rfl rfl rfl ?_
  refine V_cut 4 (fun _ : Unit => [(0, .pointer (some ⟨b_c, 0, none⟩)), (2, .int .i64 before), (8, v8), (9, .int .i64 x22), (30, .bool ((decide (x22 < 0)) || (decide (x22 < before))))]) (fun _ w' => w14 = w') ?_ ?_
  · simp only [List.take, List.drop]
    rcases Bool.eq_false_or_eq_true (decide (x22 < 0)) with hc23 | hc23
    · refine V_gn rfl rfl rfl hc23 rfl rfl rfl ?_
      refine V_gn rfl rfl rfl hc23 rfl rfl rfl ?_
      refine V_gn rfl rfl rfl hc23 rfl rfl rfl ?_
      refine V_y (Y_pick_te rfl hc23 rfl) rfl rfl rfl ?_
      exact V_end fun a ha => ⟨(), ha.sub ⟨rfl, rfl, rfl, rfl, (by rw [hc23]; rfl), trivial⟩, rfl⟩
    · refine V_ge rfl rfl rfl hc23 ?_
      refine V_y (Y_move rfl) rfl rfl rfl ?_
      refine V_ge rfl rfl rfl hc23 ?_
      refine V_y (Y_move rfl) rfl rfl rfl ?_
      refine V_ge rfl rfl rfl hc23 ?_
      refine V_y (Y_lss rfl rfl) rfl rfl rfl ?_
      refine V_y (Y_pick_fe rfl hc23 rfl) rfl rfl rfl ?_
      exact V_end fun a ha => ⟨(), ha.sub ⟨rfl, rfl, rfl, rfl, (by rw [hc23]; rfl), trivial⟩, rfl⟩
  simp only [List.take, List.drop]
  rintro _ _ rfl
  refine V_y (Y_move rfl) rfl rfl rfl ?_
  refine V_cut 7 (fun _ : Unit => [(0, .pointer (some ⟨b_c, 0, none⟩)), (2, .int .i64 before), (8, v8), (9, .int .i64 x22), (38, .bool (((decide (x22 < 0)) || (decide (x22 < before))) || ((decide (before < 0)) && (x22 != 0))))]) (fun _ w' => w14 = w') ?_ ?_
  · simp only [List.take, List.drop]
    rcases Bool.eq_false_or_eq_true (((decide (x22 < 0)) || (decide (x22 < before)))) with hc25 | hc25
    · refine V_gn rfl rfl rfl hc25 rfl rfl rfl ?_
      refine V_gn rfl rfl rfl hc25 rfl rfl rfl ?_
      refine V_gn rfl rfl rfl hc25 rfl rfl rfl ?_
      refine V_gu rfl rfl rfl rfl rfl ?_
      refine V_gu rfl rfl rfl rfl rfl ?_
      refine V_gn rfl rfl rfl hc25 rfl rfl rfl ?_
      refine V_y (Y_pick_te rfl hc25 rfl) rfl rfl rfl ?_
      exact V_end fun a ha => ⟨(), ha.sub ⟨rfl, rfl, rfl, rfl, (by rw [hc25]; rfl), trivial⟩, rfl⟩
    · refine V_ge rfl rfl rfl hc25 ?_
      refine V_y (Y_move rfl) rfl rfl rfl ?_
      refine V_ge rfl rfl rfl hc25 ?_
      refine V_y (Y_lss rfl rfl) rfl rfl rfl ?_
      refine V_ge rfl rfl rfl hc25 ?_
      refine V_y (Y_move rfl) rfl rfl rfl ?_
      refine V_cut 3 (fun _ : Unit => [(0, .pointer (some ⟨b_c, 0, none⟩)), (2, .int .i64 before), (8, v8), (9, .int .i64 x22), (31, .bool ((decide (x22 < 0)) || (decide (x22 < before)))), (37, .bool ((decide (before < 0)) && (x22 != 0)))]) (fun _ w' => w14 = w') ?_ ?_
      · simp only [List.take, List.drop]
        rcases Bool.eq_false_or_eq_true (decide (before < 0)) with hc27 | hc27
        · refine V_ge rfl rfl rfl hc27 ?_
          refine V_y (Y_move rfl) rfl rfl rfl ?_
          refine V_ge rfl rfl rfl hc27 ?_
          refine V_y (Y_neq rfl rfl) rfl rfl rfl ?_
          refine V_ge rfl rfl rfl hc25 ?_
          refine V_y (Y_pick_te rfl hc27 rfl) rfl rfl rfl ?_
          exact V_end fun a ha => ⟨(), ha.sub ⟨rfl, rfl, rfl, rfl, rfl, (by rw [hc27]; rfl), trivial⟩, rfl⟩
        · refine V_gn rfl rfl rfl hc27 rfl rfl rfl ?_
          refine V_gn rfl rfl rfl hc27 rfl rfl rfl ?_
          refine V_ge rfl rfl rfl hc25 ?_
          refine V_y (Y_pick_fe rfl hc27 rfl) rfl rfl rfl ?_
          exact V_end fun a ha => ⟨(), ha.sub ⟨rfl, rfl, rfl, rfl, rfl, (by rw [hc27]; rfl), trivial⟩, rfl⟩
      simp only [List.take, List.drop]
      rintro _ _ rfl
      refine V_y (Y_pick_fe rfl hc25 rfl) rfl rfl rfl ?_
      exact V_end fun a ha => ⟨(), ha.sub ⟨rfl, rfl, rfl, rfl, (by rw [hc25]; rfl), trivial⟩, rfl⟩
  simp only [List.take, List.drop]
  rintro _ _ rfl
  refine V_y (Y_move rfl) rfl rfl rfl ?_
  refine V_cut 7 (fun _ : Unit => [(0, .pointer (some ⟨b_c, 0, none⟩)), (8, v8), (9, .int .i64 x22), (46, .bool ((((decide (x22 < 0)) || (decide (x22 < before))) || ((decide (before < 0)) && (x22 != 0))) || ((before == 0) && (x22 == 0))))]) (fun _ w' => w14 = w') ?_ ?_
  · simp only [List.take, List.drop]
    rcases Bool.eq_false_or_eq_true ((((decide (x22 < 0)) || (decide (x22 < before))) || ((decide (before < 0)) && (x22 != 0)))) with hc29 | hc29
    · refine V_gn rfl rfl rfl hc29 rfl rfl rfl ?_
      refine V_gn rfl rfl rfl hc29 rfl rfl rfl ?_
      refine V_gn rfl rfl rfl hc29 rfl rfl rfl ?_
      refine V_gu rfl rfl rfl rfl rfl ?_
      refine V_gu rfl rfl rfl rfl rfl ?_
      refine V_gn rfl rfl rfl hc29 rfl rfl rfl ?_
      refine V_y (Y_pick_te rfl hc29 rfl) rfl rfl rfl ?_
      exact V_end fun a ha => ⟨(), ha.sub ⟨rfl, rfl, rfl, (by rw [hc29]; rfl), trivial⟩, rfl⟩
    · refine V_ge rfl rfl rfl hc29 ?_
      refine V_y (Y_move rfl) rfl rfl rfl ?_
      refine V_ge rfl rfl rfl hc29 ?_
      refine V_y (Y_eql rfl rfl) rfl rfl rfl ?_
      refine V_ge rfl rfl rfl hc29 ?_
      refine V_y (Y_move rfl) rfl rfl rfl ?_
      refine V_cut 3 (fun _ : Unit => [(0, .pointer (some ⟨b_c, 0, none⟩)), (8, v8), (9, .int .i64 x22), (39, .bool (((decide (x22 < 0)) || (decide (x22 < before))) || ((decide (before < 0)) && (x22 != 0)))), (45, .bool ((before == 0) && (x22 == 0)))]) (fun _ w' => w14 = w') ?_ ?_
      · simp only [List.take, List.drop]
        rcases Bool.eq_false_or_eq_true (before == 0) with hc31 | hc31
        · refine V_ge rfl rfl rfl hc31 ?_
          refine V_y (Y_move rfl) rfl rfl rfl ?_
          refine V_ge rfl rfl rfl hc31 ?_
          refine V_y (Y_eql rfl rfl) rfl rfl rfl ?_
          refine V_ge rfl rfl rfl hc29 ?_
          refine V_y (Y_pick_te rfl hc31 rfl) rfl rfl rfl ?_
          exact V_end fun a ha => ⟨(), ha.sub ⟨rfl, rfl, rfl, rfl, (by rw [hc31]; rfl), trivial⟩, rfl⟩
        · refine V_gn rfl rfl rfl hc31 rfl rfl rfl ?_
          refine V_gn rfl rfl rfl hc31 rfl rfl rfl ?_
          refine V_ge rfl rfl rfl hc29 ?_
          refine V_y (Y_pick_fe rfl hc31 rfl) rfl rfl rfl ?_
          exact V_end fun a ha => ⟨(), ha.sub ⟨rfl, rfl, rfl, rfl, (by rw [hc31]; rfl), trivial⟩, rfl⟩
      simp only [List.take, List.drop]
      rintro _ _ rfl
      refine V_y (Y_pick_fe rfl hc29 rfl) rfl rfl rfl ?_
      exact V_end fun a ha => ⟨(), ha.sub ⟨rfl, rfl, rfl, (by rw [hc29]; rfl), trivial⟩, rfl⟩
  simp only [List.take, List.drop]
  rintro _ _ rfl
  refine V_to (fun _ _ => rfl) ?_
  refine C_cond rfl (fun hc33 => ?_) (fun hc33 => ?_)
  · rw [if_pos hc33] at hm
    refine C_seq ?_
    refine C_region ?_
    refine V_y (Y_assign rfl) rfl rfl rfl ?_
    refine V_y (Y_assign rfl) rfl rfl rfl ?_
    refine V_to (fun _ _ => rfl) ?_
    obtain rfl := Option.some.inj hm
    refine C_ret ?_
    try simp only [↓inBlock_ret, ↓then_ret]
    exact retQ rfl (Res.two Tryz.results8 rfl rfl) ⟨v_c0, v_c1, v_c2, A, rfl, hH, hK⟩
  · rw [if_neg (nt hc33)] at hm
    refine C_skip_to (fun _ _ => rfl) ?_
    refine C_seq ?_
    refine C_region ?_
    refine V_y (Y_assign rfl) rfl rfl rfl ?_
    refine V_to (fun _ _ => rfl) ?_
    refine C_seq ?_
    refine C_seq ?_
    refine C_region ?_
    refine V_y (Y_move rfl) rfl rfl rfl ?_
    obtain ⟨x34, hx34, hm⟩ := Option.bind_eq_some_iff.1 hm
    obtain ⟨v35, h36, h36y⟩ := sliceL_val hx34 h9
    refine V_y (Y_sliceLL h36y Tryz.underlying39 Tryz.sizeOf9 rfl rfl) rfl rfl rfl ?_
    refine V_y (Y_lenSl h36 rfl Tryz.underlying39 rfl) rfl rfl rfl ?_
    refine V_y (Y_move rfl) rfl rfl rfl ?_
    refine V_to (fun _ _ => rfl) ?_
    replace hH : Hp B A w14 (obS (α := Int) 3 (.slice none 0 0) ([] : (List Int)) :: obC b_c [.int .i64 c.zone.offset, v_c0, v_c1, v_c2] 28 :: obS (α := cal_Change) 49 v_c0 c.zone.changes :: obS (α := cal_Shift) 51 v_c1 c.week :: obS (α := cal_Special) 53 v_c2 c.specials :: L) := Hp.addNil (α := Int) (e := 3) hH
    have hn61 := Sl.le h36
    obtain ⟨o37, ho37, hm⟩ := Option.bind_eq_some_iff.1 hm
    refine C_cutG (ι := ((List Int) × Value × (Nat → Prop))) (fun ⟨s38, v44, A46⟩ => [(0, .pointer (some ⟨b_c, 0, none⟩)), (9, .int .i64 x22), (10, v44)]) (fun ⟨s38, v44, A46⟩ => fun w' => o37 = .fin s38 ∧ Hp B A46 w' (obS (α := Int) 3 v44 s38 :: obC b_c [.int .i64 c.zone.offset, v_c0, v_c1, v_c2] 28 :: obS (α := cal_Change) 49 v_c0 c.zone.changes :: obS (α := cal_Shift) 51 v_c1 c.week :: obS (α := cal_Special) 53 v_c2 c.specials :: L) ∧ Tr False B A w14 A46 w') ?_ ?_
    · refine C_block ?_
      refine C_range ho37 (fun k40 s48 a w' => ∃ i : (Value × (Nat → Prop)), Has ⟨179, [], none⟩ a ([(0, .pointer (some ⟨b_c, 0, none⟩)), (9, .int .i64 x22), (10, i.1), (48, v35), (49, .int .i64 (x34.length : Int)), (50, .int .i64 (k40 : Int))]) ∧ Hp B i.2 w' (obS (α := Int) 3 i.1 s48 :: obC b_c [.int .i64 c.zone.offset, v_c0, v_c1, v_c2] 28 :: obS (α := cal_Change) 49 v_c0 c.zone.changes :: obS (α := cal_Shift) 51 v_c1 c.week :: obS (α := cal_Special) 53 v_c2 c.specials :: L) ∧ Tr False B A w14 i.2 w') (fun a ha => ⟨(.slice none 0 0, A), ha.sub ⟨rfl, rfl, rfl, rfl, rfl, rfl, trivial⟩, ⟨hH, Tr.refl (Dw := False) hA⟩⟩) ?_
      rintro K k40 s48 a w49 ⟨⟨v50, A52⟩, ha85, hH53, hr39⟩ hle57 K60 h59
      refine C_of ?_ ha85
      replace h36 := Sl.tr (Dw := False) h36 hr39
      replace hK := Tr.trans (Dw := False) hK hr39
      replace hB := Nat.le_trans hB hr39.ex.size
      replace hA := hr39.new
      replace hH : Hp B A52 w49 (obS (α := Int) 3 v50 s48 :: obC b_c [.int .i64 c.zone.offset, v_c0, v_c1, v_c2] 28 :: obS (α := cal_Change) 49 v_c0 c.zone.changes :: obS (α := cal_Shift) 51 v_c1 c.week :: obS (α := cal_Special) 53 v_c2 c.specials :: L) := hH53
      refine C_seq (C_region (V_y (Y_lss rfl rfl) rfl rfl rfl (V_to (fun _ _ => rfl) ?_)))
      refine C_seq ?_
      refine C_cond rfl (fun hc62 => ?_) (fun hc62 => ?_)
      · have hlt58 := lt_of_dec hc62
        obtain ⟨x54, h55, h56⟩ := K60 hlt58
        refine C_skip_to (fun _ _ => rfl) ?_
        refine C_seq ?_
        refine C_block ?_
        refine C_seq ?_
        refine C_region ?_
        obtain ⟨x63, hx63, h55⟩ := Option.bind_eq_some_iff.1 h55
        refine V_indexAddr h36 hx63 Tryz.underlying39 Tryz.sizeOf9 rfl rfl rfl ?_
        intro b64 o65 h66
        refine V_y (Y_load (El.str h66) Tryz.isAgg9 rfl) rfl rfl rfl ?_
        refine V_y (Y_assign rfl) rfl rfl rfl ?_
        refine V_to (fun _ _ => rfl) ?_
        refine C_seq ?_
        refine C_region ?_
        refine V_y (Y_move rfl) rfl rfl rfl ?_
        obtain ⟨x67, hx67, h55⟩ := Option.bind_eq_some_iff.1 h55
        refine V_call Tryz.call49 rfl rfl rfl rfl (cal_number_c w49 hA (Fz.tr (Dw := False) hT hK) x63 9 hx67) ?_
        rintro _ w68 ⟨rfl, hk69⟩
        have ht70 := Kp.tr (Dw := False) hk69 hA hB
        replace hH := Hp.kp (Dw := False) hH hk69
        replace h36 := Sl.tr (Dw := False) h36 ht70
        replace hK := Tr.trans (Dw := False) hK ht70
        replace hr39 := Tr.trans (Dw := False) hr39 ht70
        replace hB := Nat.le_trans hB ht70.ex.size
        replace hA := ht70.new
        refine V_y (Y_move rfl) rfl rfl rfl ?_
        refine V_y (Y_extract rfl rfl) rfl rfl rfl ?_
        refine V_y (Y_extract rfl rfl) rfl rfl rfl ?_
        refine V_y (Y_assign rfl) rfl rfl rfl ?_
        refine V_y (Y_assign rfl) rfl rfl rfl ?_
        refine V_to (fun _ _ => rfl) ?_
        refine C_seq ?_
        refine C_seq ?_
        refine C_region ?_
        refine V_y (Y_move rfl) rfl rfl rfl ?_
        refine V_y (Y_not rfl) rfl rfl rfl ?_
        refine V_to (fun _ _ => rfl) ?_
        refine C_cond rfl (fun hc71 => ?_) (fun hc71 => ?_)
        · rw [if_pos hc71] at h55
          refine C_seq ?_
          refine C_region ?_
          refine V_y (Y_assign rfl) rfl rfl rfl ?_
          refine V_y (Y_assign rfl) rfl rfl rfl ?_
          refine V_to (fun _ _ => rfl) ?_
          obtain rfl := Option.some.inj h55
          obtain rfl := (h56 : Lp.rt _ = _)
          rw [Lp.andThen_rt] at hm
          obtain rfl := Option.some.inj hm
          replace hH : Hp B A52 w68 (obS (α := cal_Special) 53 v_c2 c.specials :: obS (α := Int) 3 v50 s48 :: obC b_c [.int .i64 c.zone.offset, v_c0, v_c1, v_c2] 28 :: obS (α := cal_Change) 49 v_c0 c.zone.changes :: obS (α := cal_Shift) 51 v_c1 c.week :: L) := Hp.front hH (i := 4) rfl
          replace hH : Hp B A52 w68 (obS (α := cal_Shift) 51 v_c1 c.week :: obS (α := cal_Special) 53 v_c2 c.specials :: obS (α := Int) 3 v50 s48 :: obC b_c [.int .i64 c.zone.offset, v_c0, v_c1, v_c2] 28 :: obS (α := cal_Change) 49 v_c0 c.zone.changes :: L) := Hp.front hH (i := 4) rfl
          replace hH : Hp B A52 w68 (obS (α := cal_Change) 49 v_c0 c.zone.changes :: obS (α := cal_Shift) 51 v_c1 c.week :: obS (α := cal_Special) 53 v_c2 c.specials :: obS (α := Int) 3 v50 s48 :: obC b_c [.int .i64 c.zone.offset, v_c0, v_c1, v_c2] 28 :: L) := Hp.front hH (i := 4) rfl
          replace hH : Hp B A52 w68 (obC b_c [.int .i64 c.zone.offset, v_c0, v_c1, v_c2] 28 :: obS (α := cal_Change) 49 v_c0 c.zone.changes :: obS (α := cal_Shift) 51 v_c1 c.week :: obS (α := cal_Special) 53 v_c2 c.specials :: obS (α := Int) 3 v50 s48 :: L) := Hp.front hH (i := 4) rfl
          replace hH : Hp B A52 w68 (obC b_c [.int .i64 c.zone.offset, v_c0, v_c1, v_c2] 28 :: obS (α := cal_Change) 49 v_c0 c.zone.changes :: obS (α := cal_Shift) 51 v_c1 c.week :: obS (α := cal_Special) 53 v_c2 c.specials :: L) := Hp.drop hH (i := 4) rfl
          refine C_ret ?_
          try simp only [↓inBlock_ret, ↓then_ret]
          exact retQ rfl (Res.two Tryz.results8 rfl rfl) ⟨v_c0, v_c1, v_c2, A52, rfl, hH, hK⟩
        · rw [if_neg (nt hc71)] at h55
          refine C_skip_to (fun _ _ => rfl) ?_
          refine C_region ?_
          refine V_y (Y_move rfl) rfl rfl rfl ?_
          refine V_y (Y_move rfl) rfl rfl rfl ?_
          refine V_buildSlice (Dw := False) (l := ([x67.1] : List Int)) (len := 1) Tryz.underlying44 Tryz.sizeOf3 Tryz.zeroValue3 rfl (by with_unfolding_all rfl) (show (1 * 1 : Nat) ≠ 0 by decide) (show (1 * 1 : Nat) ≤ 2 ^ 24 by decide) hA ⟨[.int .i64 x67.1], _, rfl, rfl, rfl⟩ rfl rfl ?_
          intro v72 w73 hk75 h74
          have ht76 := Kp.tr (Dw := False) hk75 hA hB
          replace hH := Hp.kp (Dw := False) hH hk75
          replace h36 := Sl.tr (Dw := False) h36 ht76
          replace hK := Tr.trans (Dw := False) hK ht76
          replace hr39 := Tr.trans (Dw := False) hr39 ht76
          replace hB := Nat.le_trans hB ht76.ex.size
          replace hA := ht76.new
          obtain ⟨x77, hx77, h55⟩ := Option.bind_eq_some_iff.1 h55
          refine V_appendH (Dw := False) (e := 3) (v := v50) (l := s48) (ti := Tryz.t3) (bytes := 8) (lim := 17592186044416) hH (i := 0) rfl h74 hx77 Tryz.underlying44 Tryz_info3 rfl rfl rfl rfl (by decide) (by decide) (by decide) hB hA rfl rfl rfl ?_
          intro v78 w79 A80 hH81 ht82
          replace h36 := Sl.tr (Dw := False) h36 ht82
          replace h74 := Sl.tr (Dw := False) h74 ht82
          replace hK := Tr.trans (Dw := False) hK ht82
          replace hr39 := Tr.trans (Dw := False) hr39 ht82
          replace hB := Nat.le_trans hB ht82.ex.size
          replace hA := ht82.new
          replace hH : Hp B A80 w79 (obS (α := Int) 3 v78 x77 :: obC b_c [.int .i64 c.zone.offset, v_c0, v_c1, v_c2] 28 :: obS (α := cal_Change) 49 v_c0 c.zone.changes :: obS (α := cal_Shift) 51 v_c1 c.week :: obS (α := cal_Special) 53 v_c2 c.specials :: L) := hH81
          refine V_y (Y_assign rfl) rfl rfl rfl ?_
          refine V_to (fun _ _ => rfl) ?_
          refine C_region ?_
          refine V_y (Y_addI rfl rfl) rfl rfl rfl ?_
          refine V_y (Y_move rfl) rfl rfl rfl ?_
          obtain rfl := Option.some.inj h55
          refine V_end (fun a ha83 => ?_)
          exact ⟨x77, hlt58, h56, ⟨(v78, A80), ha83.sub ⟨rfl, rfl, rfl, rfl, rfl, (congrArg (fun z => some (Value.int .i64 z)) (w64_succ hlt58 hn61)), trivial⟩, ⟨hH, hr39⟩⟩⟩
      · refine C_exit (fun a ha84 => ?_)
        exact ⟨(s48, v50, A52), ha84.sub ⟨rfl, rfl, rfl, trivial⟩, ⟨(h59 (eq_of_dec hle57 hc62)).symm, hH, hr39⟩⟩
    rintro ⟨s38, v44, A46⟩ w41 ⟨rfl, hH47, hk42⟩ a ha43
    rw [Lp.andThen_fin] at hm
    replace hK := Tr.trans (Dw := False) hK hk42
    replace hB := Nat.le_trans hB hk42.ex.size
    replace hA := hk42.new
    replace hH : Hp B A46 w41 (obS (α := Int) 3 v44 s38 :: obC b_c [.int .i64 c.zone.offset, v_c0, v_c1, v_c2] 28 :: obS (α := cal_Change) 49 v_c0 c.zone.changes :: obS (α := cal_Shift) 51 v_c1 c.week :: obS (α := cal_Special) 53 v_c2 c.specials :: L) := hH47
    refine C_at (n := ⟨179, [], none⟩) (fun _ _ => rfl) ?_ ha43
    refine C_seq ?_
    obtain ⟨o86, ho86, hm⟩ := Option.bind_eq_some_iff.1 hm
    refine C_cutG (ι := (cal_Calendar × Value × Value × Value × (Nat → Prop))) (fun ⟨s87, v89, v91, v93, A98⟩ => [(9, .int .i64 x22)]) (fun ⟨s87, v89, v91, v93, A98⟩ => fun w' => o86 = .fin s87 ∧ Hp B A98 w' (obS (α := Int) 3 v44 s38 :: obC b_c [.int .i64 s87.zone.offset, v89, v91, v93] 28 :: obS (α := cal_Change) 49 v89 s87.zone.changes :: obS (α := cal_Shift) 51 v91 s87.week :: obS (α := cal_Special) 53 v93 s87.specials :: L) ∧ Tr False B A46 w41 A98 w') ?_ ?_
    · have hr88 : Tr False B A46 w41 A46 w41 := Tr.refl (Dw := False) hA
      refine C_block ?_
      refine C_seq ?_
      refine C_region ?_
      refine V_y (Y_move rfl) rfl rfl rfl ?_
      refine V_y (Y_eql rfl rfl) rfl rfl rfl ?_
      refine V_y (Y_move rfl) rfl rfl rfl ?_
      refine V_cut 4 (fun _ : Unit => [(0, .pointer (some ⟨b_c, 0, none⟩)), (9, .int .i64 x22), (10, v44), (73, .bool ((x22 == 0) && ((s38.length : Int) == 1)))]) (fun _ w' => w41 = w') ?_ ?_
      · simp only [List.take, List.drop]
        rcases Bool.eq_false_or_eq_true (x22 == 0) with hc100 | hc100
        · refine V_ge rfl rfl rfl hc100 ?_
          refine V_y (Y_move rfl) rfl rfl rfl ?_
          refine V_ge rfl rfl rfl hc100 ?_
          refine V_y (Y_lenSl (Hp.any (α := Int) (e := 3) (v := v44) (l := s38) hH (i := 0) rfl) rfl Tryz.underlying44 rfl) rfl rfl rfl ?_
          refine V_ge rfl rfl rfl hc100 ?_
          refine V_y (Y_eql rfl rfl) rfl rfl rfl ?_
          refine V_y (Y_pick_te rfl hc100 rfl) rfl rfl rfl ?_
          exact V_end fun a ha => ⟨(), ha.sub ⟨rfl, rfl, rfl, (by rw [hc100]; rfl), trivial⟩, rfl⟩
        · refine V_gn rfl rfl rfl hc100 rfl rfl rfl ?_
          refine V_gn rfl rfl rfl hc100 rfl rfl rfl ?_
          refine V_gn rfl rfl rfl hc100 rfl rfl rfl ?_
          refine V_y (Y_pick_fe rfl hc100 rfl) rfl rfl rfl ?_
          exact V_end fun a ha => ⟨(), ha.sub ⟨rfl, rfl, rfl, (by rw [hc100]; rfl), trivial⟩, rfl⟩
      simp only [List.take, List.drop]
      rintro _ _ rfl
      refine V_y (Y_assign rfl) rfl rfl rfl ?_
      refine V_to (fun _ _ => rfl) ?_
      obtain ⟨o102, ho102, ho86⟩ := Option.bind_eq_some_iff.1 ho86
      refine C_cutG (ι := (cal_Calendar × Value × Value × Value × (Nat → Prop))) (fun ⟨s103, v105, v107, v109, A114⟩ => [(9, .int .i64 x22)]) (fun ⟨s103, v105, v107, v109, A114⟩ => fun w' => o102 = .fin s103 ∧ Hp B A114 w' (obS (α := Int) 3 v44 s38 :: obC b_c [.int .i64 s103.zone.offset, v105, v107, v109] 28 :: obS (α := cal_Change) 49 v105 s103.zone.changes :: obS (α := cal_Shift) 51 v107 s103.week :: obS (α := cal_Special) 53 v109 s103.specials :: L) ∧ Tr False B A46 w41 A114 w') ?_ ?_
      · have hr104 : Tr False B A46 w41 A46 w41 := Tr.refl (Dw := False) hA
        refine C_cond rfl (fun hc116 => ?_) (fun hc116 => ?_)
        · rw [if_pos hc116] at ho102
          refine C_region ?_
          refine V_y (Y_move rfl) rfl rfl rfl ?_
          refine V_y (Y_move rfl) rfl rfl rfl ?_
          obtain ⟨x117, hx117, ho102⟩ := Option.bind_eq_some_iff.1 ho102
          refine V_indexAddrH (α := Int) (e := 3) (v := v44) (l := s38) hH (i := 0) rfl hx117 Tryz.underlying44 Tryz.sizeOf3 rfl rfl rfl ?_
          intro b118 o119 h120 hl121
          refine V_y (Y_load (El.int h120) Tryz.isAgg3 rfl) rfl rfl rfl ?_
          refine V_y (Y_nilCheck rfl) rfl rfl rfl ?_
          refine V_y (Y_fieldAddrC (off2 := 0) Tryz.underlying28 rfl Tryz.sizeOf24 (by decide) rfl rfl) rfl rfl rfl ?_
          refine V_y (Y_fieldAddrC (off2 := 0) Tryz.underlying24 rfl Tryz.sizeOf3 (by decide) rfl rfl) rfl rfl rfl ?_
          refine V_storeC (Dw := False) (off := 0) (ds := [.int .i64 x117, v_c0, v_c1, v_c2]) hH (i := 1) rfl Tryz.sizeOf3 rfl (Nat.le_of_ble_eq_true rfl) (by simp [Value.cells, Value.oneCell']) rfl hB hA rfl rfl ?_
          intro w122 hH123 ht124
          replace hK := Tr.trans (Dw := False) hK ht124
          replace hr88 := Tr.trans (Dw := False) hr88 ht124
          replace hr104 := Tr.trans (Dw := False) hr104 ht124
          replace hB := Nat.le_trans hB ht124.ex.size
          replace hA := ht124.new
          replace hH : Hp B A46 w122 (obS (α := Int) 3 v44 s38 :: obC b_c [.int .i64 x117, v_c0, v_c1, v_c2] 28 :: obS (α := cal_Change) 49 v_c0 c.zone.changes :: obS (α := cal_Shift) 51 v_c1 c.week :: obS (α := cal_Special) 53 v_c2 c.specials :: L) := hH123
          obtain rfl := Option.some.inj ho102
          refine V_end (fun a ha125 => ?_)
          exact ⟨((⟨(⟨x117, c.zone.changes⟩ : cal_Zone), c.week, c.specials⟩ : cal_Calendar), v_c0, v_c1, v_c2, A46), ha125.sub ⟨rfl, trivial⟩, ⟨rfl, hH, hr104⟩⟩
        · rw [if_neg (nt hc116)] at ho102
          refine C_seq ?_
          refine C_region ?_
          refine V_y (Y_move rfl) rfl rfl rfl ?_
          refine V_y (Y_eql rfl rfl) rfl rfl rfl ?_
          refine V_y (Y_move rfl) rfl rfl rfl ?_
          refine V_cut 4 (fun _ : Unit => [(0, .pointer (some ⟨b_c, 0, none⟩)), (9, .int .i64 x22), (10, v44), (88, .bool ((x22 == 1) && ((s38.length : Int) == 2)))]) (fun _ w' => w41 = w') ?_ ?_
          · simp only [List.take, List.drop]
            rcases Bool.eq_false_or_eq_true (x22 == 1) with hc126 | hc126
            · refine V_ge rfl rfl rfl hc126 ?_
              refine V_y (Y_move rfl) rfl rfl rfl ?_
              refine V_ge rfl rfl rfl hc126 ?_
              refine V_y (Y_lenSl (Hp.any (α := Int) (e := 3) (v := v44) (l := s38) hH (i := 0) rfl) rfl Tryz.underlying44 rfl) rfl rfl rfl ?_
              refine V_ge rfl rfl rfl hc126 ?_
              refine V_y (Y_eql rfl rfl) rfl rfl rfl ?_
              refine V_y (Y_pick_te rfl hc126 rfl) rfl rfl rfl ?_
              exact V_end fun a ha => ⟨(), ha.sub ⟨rfl, rfl, rfl, (by rw [hc126]; rfl), trivial⟩, rfl⟩
            · refine V_gn rfl rfl rfl hc126 rfl rfl rfl ?_
              refine V_gn rfl rfl rfl hc126 rfl rfl rfl ?_
              refine V_gn rfl rfl rfl hc126 rfl rfl rfl ?_
              refine V_y (Y_pick_fe rfl hc126 rfl) rfl rfl rfl ?_
              exact V_end fun a ha => ⟨(), ha.sub ⟨rfl, rfl, rfl, (by rw [hc126]; rfl), trivial⟩, rfl⟩
          simp only [List.take, List.drop]
          rintro _ _ rfl
          refine V_y (Y_assign rfl) rfl rfl rfl ?_
          refine V_to (fun _ _ => rfl) ?_
          obtain ⟨o128, ho128, ho102⟩ := Option.bind_eq_some_iff.1 ho102
          refine C_cutG (ι := (cal_Calendar × Value × Value × Value × (Nat → Prop))) (fun ⟨s129, v131, v133, v135, A140⟩ => [(9, .int .i64 x22)]) (fun ⟨s129, v131, v133, v135, A140⟩ => fun w' => o128 = .fin s129 ∧ Hp B A140 w' (obS (α := Int) 3 v44 s38 :: obC b_c [.int .i64 s129.zone.offset, v131, v133, v135] 28 :: obS (α := cal_Change) 49 v131 s129.zone.changes :: obS (α := cal_Shift) 51 v133 s129.week :: obS (α := cal_Special) 53 v135 s129.specials :: L) ∧ Tr False B A46 w41 A140 w') ?_ ?_
          · have hr130 : Tr False B A46 w41 A46 w41 := Tr.refl (Dw := False) hA
            refine C_cond rfl (fun hc142 => ?_) (fun hc142 => ?_)
            · rw [if_pos hc142] at ho128
              refine C_region_ch (Dw := False) A46 19 [(1, 0), (1, 1), (1, 2), (1, 3), (1, 4), (0, 5), (1, 6), (0, 7), (0, 8), (1, 9), (0, 10), (0, 11), (1, 12), (2, 13), (4, 14), (1, 15), (1, 16), (1, 17), (4, 18)] Tryz_mixed (by kernel_rfl) (fun w143 hk144 => ?_)
              have ht145 := Kp.tr (Dw := False) hk144 hA hB
              replace hH := Hp.kp (Dw := False) hH hk144
              replace hK := Tr.trans (Dw := False) hK ht145
              replace hr88 := Tr.trans (Dw := False) hr88 ht145
              replace hr104 := Tr.trans (Dw := False) hr104 ht145
              replace hr130 := Tr.trans (Dw := False) hr130 ht145
              replace hB := Nat.le_trans hB ht145.ex.size
              replace hA := ht145.new
              refine CH_q2 (Dw := False) rfl ?_
              refine VQ_y (fun w' hw' => Y_move rfl) rfl rfl rfl ?_
              refine VQ_CH (Dw := False) ?_
              refine CH_q2 (Dw := False) rfl ?_
              refine VQ_y (fun w' hw' => Y_move rfl) rfl rfl rfl ?_
              refine VQ_CH (Dw := False) ?_
              refine CH_q2 (Dw := False) rfl ?_
              refine VQ_y (fun w' hw' => Y_nilCheck rfl) rfl rfl rfl ?_
              refine VQ_CH (Dw := False) ?_
              refine CH_q2 (Dw := False) rfl ?_
              refine VQ_y (fun w' hw' => Y_fieldAddrC (off2 := 0) Tryz.underlying28 rfl Tryz.sizeOf24 (by decide) rfl rfl) rfl rfl rfl ?_
              refine VQ_CH (Dw := False) ?_
              refine CH_q2 (Dw := False) rfl ?_
              refine VQ_y (fun w' hw' => Y_fieldAddrC (off2 := 1) Tryz.underlying24 rfl Tryz.sizeOf22 (by decide) rfl rfl) rfl rfl rfl ?_
              refine VQ_CH (Dw := False) ?_
              refine CH_q1 (Dw := False) rfl ?_
              refine VQ_y (fun w' hw' => Y_load ((World.cell?_of_block (hw'.block _ (World.block_lt_of_cell? _ _ (Hp.cell (j := 1) hH (i := 1) rfl rfl)))).trans (Hp.cell (j := 1) hH (i := 1) rfl rfl)) Tryz.isAgg22 rfl) rfl rfl rfl ?_
              refine VQ_CH (Dw := False) ?_
              refine CH_q2 (Dw := False) rfl ?_
              refine VQ_y (fun w' hw' => Y_move rfl) rfl rfl rfl ?_
              refine VQ_CH (Dw := False) ?_
              refine CH_q1 (Dw := False) rfl ?_
              obtain ⟨x146, hx146, ho128⟩ := Option.bind_eq_some_iff.1 ho128
              refine VQ_indexAddrH (α := Int) (e := 3) (v := v44) (l := s38) hH (i := 0) rfl hx146 Tryz.underlying44 Tryz.sizeOf3 rfl rfl rfl ?_
              intro b147 o148 h149 hl150
              refine VQ_CH (Dw := False) ?_
              refine CH_q1 (Dw := False) rfl ?_
              refine VQ_y (fun w' hw' => Y_load (El.int (El.kp (Dw := False) h149 hw')) Tryz.isAgg3 rfl) rfl rfl rfl ?_
              refine VQ_CH (Dw := False) ?_
              refine CH_q2 (Dw := False) rfl ?_
              refine VQ_y (fun w' hw' => Y_move rfl) rfl rfl rfl ?_
              refine VQ_CH (Dw := False) ?_
              refine CH_q1 (Dw := False) rfl ?_
              obtain ⟨x151, hx151, ho128⟩ := Option.bind_eq_some_iff.1 ho128
              refine VQ_indexAddrH (α := Int) (e := 3) (v := v44) (l := s38) hH (i := 0) rfl hx151 Tryz.underlying44 Tryz.sizeOf3 rfl rfl rfl ?_
              intro b152 o153 h154 hl155
              refine VQ_CH (Dw := False) ?_
              refine CH_q1 (Dw := False) rfl ?_
              refine VQ_y (fun w' hw' => Y_load (El.int (El.kp (Dw := False) h154 hw')) Tryz.isAgg3 rfl) rfl rfl rfl ?_
              refine VQ_CH (Dw := False) ?_
              refine CH_q2 (Dw := False) rfl ?_
              refine VQ_y (fun w' hw' => Y_build Tryz.underlying49 Tryz.zeroValue49 (Tryz_places49 _ Tryz.underlying49) rfl (by with_unfolding_all rfl)) rfl rfl rfl ?_
              refine VQ_CH (Dw := False) ?_
              refine CH_l1 (Dw := False) (k := 0) rfl ?_
              refine V_buildSlice (Dw := False) (cells := #[.int .i64 x146, .int .i64 x151]) (l := ([(⟨x146, x151⟩ : cal_Change)] : List cal_Change)) (len := 1) Tryz.underlying22 Tryz.sizeOf49 Tryz.zeroValue49 rfl (by kernel_rfl) (show (1 * 2 : Nat) ≠ 0 by decide) (show (1 * 2 : Nat) ≤ 2 ^ 24 by decide) hA ⟨[.int .i64 x146, .int .i64 x151], _, rfl, ⟨[.int .i64 x146], _, rfl, rfl, rfl⟩, rfl⟩ rfl rfl ?_
              intro v156 w157 hk159 h158
              have ht160 := Kp.tr (Dw := False) hk159 hA hB
              replace hH := Hp.kp (Dw := False) hH hk159
              replace h149 := El.kp (Dw := False) h149 hk159
              replace h154 := El.kp (Dw := False) h154 hk159
              replace hK := Tr.trans (Dw := False) hK ht160
              replace hr88 := Tr.trans (Dw := False) hr88 ht160
              replace hr104 := Tr.trans (Dw := False) hr104 ht160
              replace hr130 := Tr.trans (Dw := False) hr130 ht160
              replace hB := Nat.le_trans hB ht160.ex.size
              replace hA := ht160.new
              refine V_CH (Dw := False) (hk159) ?_
              refine CH_l1 (Dw := False) (k := 2) rfl ?_
              obtain ⟨x161, hx161, ho128⟩ := Option.bind_eq_some_iff.1 ho128
              refine V_appendH (Dw := False) (e := 49) (v := v_c0) (l := c.zone.changes) (ti := Tryz.t49) (bytes := 16) (lim := 8796093022208) hH (i := 2) rfl h158 hx161 Tryz.underlying22 Tryz_info49 rfl rfl rfl rfl (by decide) (by decide) (by decide) hB hA rfl rfl rfl ?_
              intro v162 w163 A164 hH165 ht166
              replace h158 := Sl.tr (Dw := False) h158 ht166
              replace hK := Tr.trans (Dw := False) hK ht166
              replace hr88 := Tr.trans (Dw := False) hr88 ht166
              replace hr104 := Tr.trans (Dw := False) hr104 ht166
              replace hr130 := Tr.trans (Dw := False) hr130 ht166
              replace hB := Nat.le_trans hB ht166.ex.size
              replace hA := ht166.new
              replace hH : Hp B A164 w163 (obS (α := Int) 3 v44 s38 :: obC b_c [.int .i64 c.zone.offset, v_c0, v_c1, v_c2] 28 :: obS (α := cal_Change) 49 v162 x161 :: obS (α := cal_Shift) 51 v_c1 c.week :: obS (α := cal_Special) 53 v_c2 c.specials :: L) := hH165
              refine V_CHw (Dw := False) ?_
              refine CH_q2 (Dw := False) rfl ?_
              refine VQ_y (fun w' hw' => Y_nilCheck rfl) rfl rfl rfl ?_
              refine VQ_CH (Dw := False) ?_
              refine CH_q2 (Dw := False) rfl ?_
              refine VQ_y (fun w' hw' => Y_fieldAddrC (off2 := 0) Tryz.underlying28 rfl Tryz.sizeOf24 (by decide) rfl rfl) rfl rfl rfl ?_
              refine VQ_CH (Dw := False) ?_
              refine CH_q2 (Dw := False) rfl ?_
              refine VQ_y (fun w' hw' => Y_fieldAddrC (off2 := 1) Tryz.underlying24 rfl Tryz.sizeOf22 (by decide) rfl rfl) rfl rfl rfl ?_
              refine VQ_CH (Dw := False) ?_
              refine CH_l1 (Dw := False) (k := 2) rfl ?_
              have h172 : (v162).oneCell' = true := by obtain ⟨_, _, e, _⟩ := Hp.form (α := cal_Change) (e := 49) (v := v162) (l := x161) hH (i := 2) rfl; rw [e]; rfl
              refine V_storeC (Dw := False) (off := 1) (ds := [.int .i64 c.zone.offset, v162, v_c1, v_c2]) hH (i := 1) rfl Tryz.sizeOf22 (by rw [← Array.length_toList, Value.cells_one h172]; rfl) (Nat.le_of_ble_eq_true rfl) (by intro u hu; rw [Value.cells_one h172] at hu; simp at hu; subst hu; assumption) (by rw [Value.cells_one h172]; rfl) hB hA rfl rfl ?_
              intro w167 hH168 ht169
              replace h158 := Sl.tr (Dw := False) h158 ht169
              replace hK := Tr.trans (Dw := False) hK ht169
              replace hr88 := Tr.trans (Dw := False) hr88 ht169
              replace hr104 := Tr.trans (Dw := False) hr104 ht169
              replace hr130 := Tr.trans (Dw := False) hr130 ht169
              replace hB := Nat.le_trans hB ht169.ex.size
              replace hA := ht169.new
              replace hH : Hp B A164 w167 (obS (α := Int) 3 v44 s38 :: obC b_c [.int .i64 c.zone.offset, v162, v_c1, v_c2] 28 :: obS (α := cal_Change) 49 v162 x161 :: obS (α := cal_Shift) 51 v_c1 c.week :: obS (α := cal_Special) 53 v_c2 c.specials :: L) := hH168
              refine V_CHw (Dw := False) ?_
              refine CH_tail (Dw := False) ?_
              show V _ _ _ _ [] _ _
              obtain rfl := Option.some.inj ho128
              refine V_end (fun a ha173 => ?_)
              exact ⟨((⟨(⟨c.zone.offset, x161⟩ : cal_Zone), c.week, c.specials⟩ : cal_Calendar), v162, v_c1, v_c2, A164), ha173.sub ⟨rfl, trivial⟩, ⟨rfl, hH, hr130⟩⟩
            · rw [if_neg (nt hc142)] at ho128
              refine C_seq ?_
              refine C_region ?_
              refine V_y (Y_move rfl) rfl rfl rfl ?_
              refine V_y (Y_eql rfl rfl) rfl rfl rfl ?_
              refine V_y (Y_move rfl) rfl rfl rfl ?_
              refine V_cut 4 (fun _ : Unit => [(0, .pointer (some ⟨b_c, 0, none⟩)), (9, .int .i64 x22), (10, v44), (114, .bool ((x22 == 2) && ((s38.length : Int) == 3)))]) (fun _ w' => w41 = w') ?_ ?_
              · simp only [List.take, List.drop]
                rcases Bool.eq_false_or_eq_true (x22 == 2) with hc174 | hc174
                · refine V_ge rfl rfl rfl hc174 ?_
                  refine V_y (Y_move rfl) rfl rfl rfl ?_
                  refine V_ge rfl rfl rfl hc174 ?_
                  refine V_y (Y_lenSl (Hp.any (α := Int) (e := 3) (v := v44) (l := s38) hH (i := 0) rfl) rfl Tryz.underlying44 rfl) rfl rfl rfl ?_
                  refine V_ge rfl rfl rfl hc174 ?_
                  refine V_y (Y_eql rfl rfl) rfl rfl rfl ?_
                  refine V_y (Y_pick_te rfl hc174 rfl) rfl rfl rfl ?_
                  exact V_end fun a ha => ⟨(), ha.sub ⟨rfl, rfl, rfl, (by rw [hc174]; rfl), trivial⟩, rfl⟩
                · refine V_gn rfl rfl rfl hc174 rfl rfl rfl ?_
                  refine V_gn rfl rfl rfl hc174 rfl rfl rfl ?_
                  refine V_gn rfl rfl rfl hc174 rfl rfl rfl ?_
                  refine V_y (Y_pick_fe rfl hc174 rfl) rfl rfl rfl ?_
                  exact V_end fun a ha => ⟨(), ha.sub ⟨rfl, rfl, rfl, (by rw [hc174]; rfl), trivial⟩, rfl⟩
              simp only [List.take, List.drop]
              rintro _ _ rfl
              refine V_y (Y_assign rfl) rfl rfl rfl ?_
              refine V_to (fun _ _ => rfl) ?_
              obtain ⟨o176, ho176, ho128⟩ := Option.bind_eq_some_iff.1 ho128
              refine C_cutG (ι := (cal_Calendar × Value × Value × Value × (Nat → Prop))) (fun ⟨s177, v179, v181, v183, A188⟩ => [(9, .int .i64 x22)]) (fun ⟨s177, v179, v181, v183, A188⟩ => fun w' => o176 = .fin s177 ∧ Hp B A188 w' (obS (α := Int) 3 v44 s38 :: obC b_c [.int .i64 s177.zone.offset, v179, v181, v183] 28 :: obS (α := cal_Change) 49 v179 s177.zone.changes :: obS (α := cal_Shift) 51 v181 s177.week :: obS (α := cal_Special) 53 v183 s177.specials :: L) ∧ Tr False B A46 w41 A188 w') ?_ ?_
              · have hr178 : Tr False B A46 w41 A46 w41 := Tr.refl (Dw := False) hA
                refine C_cond rfl (fun hc190 => ?_) (fun hc190 => ?_)
                · rw [if_pos hc190] at ho176
                  refine C_region_ch (Dw := False) A46 20 [(1, 0), (1, 1), (1, 2), (1, 3), (0, 4), (1, 5), (0, 6), (0, 7), (1, 8), (0, 9), (0, 10), (1, 11), (0, 12), (0, 13), (1, 14), (2, 15), (4, 16), (1, 17), (1, 18), (4, 19)] Tryz_mixed (by kernel_rfl) (fun w191 hk192 => ?_)
                  have ht193 := Kp.tr (Dw := False) hk192 hA hB
                  replace hH := Hp.kp (Dw := False) hH hk192
                  replace hK := Tr.trans (Dw := False) hK ht193
                  replace hr88 := Tr.trans (Dw := False) hr88 ht193
                  replace hr104 := Tr.trans (Dw := False) hr104 ht193
                  replace hr130 := Tr.trans (Dw := False) hr130 ht193
                  replace hr178 := Tr.trans (Dw := False) hr178 ht193
                  replace hB := Nat.le_trans hB ht193.ex.size
                  replace hA := ht193.new
                  refine CH_q2 (Dw := False) rfl ?_
                  refine VQ_y (fun w' hw' => Y_move rfl) rfl rfl rfl ?_
                  refine VQ_CH (Dw := False) ?_
                  refine CH_q2 (Dw := False) rfl ?_
                  refine VQ_y (fun w' hw' => Y_move rfl) rfl rfl rfl ?_
                  refine VQ_CH (Dw := False) ?_
                  refine CH_q2 (Dw := False) rfl ?_
                  refine VQ_y (fun w' hw' => Y_nilCheck rfl) rfl rfl rfl ?_
                  refine VQ_CH (Dw := False) ?_
                  refine CH_q2 (Dw := False) rfl ?_
                  refine VQ_y (fun w' hw' => Y_fieldAddrC (off2 := 2) Tryz.underlying28 rfl Tryz.sizeOf25 (by decide) rfl rfl) rfl rfl rfl ?_
                  refine VQ_CH (Dw := False) ?_
                  refine CH_q1 (Dw := False) rfl ?_
                  refine VQ_y (fun w' hw' => Y_load ((World.cell?_of_block (hw'.block _ (World.block_lt_of_cell? _ _ (Hp.cell (j := 2) hH (i := 1) rfl rfl)))).trans (Hp.cell (j := 2) hH (i := 1) rfl rfl)) Tryz.isAgg25 rfl) rfl rfl rfl ?_
                  refine VQ_CH (Dw := False) ?_
                  refine CH_q2 (Dw := False) rfl ?_
                  refine VQ_y (fun w' hw' => Y_move rfl) rfl rfl rfl ?_
                  refine VQ_CH (Dw := False) ?_
                  refine CH_q1 (Dw := False) rfl ?_
                  obtain ⟨x194, hx194, ho176⟩ := Option.bind_eq_some_iff.1 ho176
                  refine VQ_indexAddrH (α := Int) (e := 3) (v := v44) (l := s38) hH (i := 0) rfl hx194 Tryz.underlying44 Tryz.sizeOf3 rfl rfl rfl ?_
                  intro b195 o196 h197 hl198
                  refine VQ_CH (Dw := False) ?_
                  refine CH_q1 (Dw := False) rfl ?_
                  refine VQ_y (fun w' hw' => Y_load (El.int (El.kp (Dw := False) h197 hw')) Tryz.isAgg3 rfl) rfl rfl rfl ?_
                  refine VQ_CH (Dw := False) ?_
                  refine CH_q2 (Dw := False) rfl ?_
                  refine VQ_y (fun w' hw' => Y_move rfl) rfl rfl rfl ?_
                  refine VQ_CH (Dw := False) ?_
                  refine CH_q1 (Dw := False) rfl ?_
                  obtain ⟨x199, hx199, ho176⟩ := Option.bind_eq_some_iff.1 ho176
                  refine VQ_indexAddrH (α := Int) (e := 3) (v := v44) (l := s38) hH (i := 0) rfl hx199 Tryz.underlying44 Tryz.sizeOf3 rfl rfl rfl ?_
                  intro b200 o201 h202 hl203
                  refine VQ_CH (Dw := False) ?_
                  refine CH_q1 (Dw := False) rfl ?_
                  refine VQ_y (fun w' hw' => Y_load (El.int (El.kp (Dw := False) h202 hw')) Tryz.isAgg3 rfl) rfl rfl rfl ?_
                  refine VQ_CH (Dw := False) ?_
                  refine CH_q2 (Dw := False) rfl ?_
                  refine VQ_y (fun w' hw' => Y_move rfl) rfl rfl rfl ?_
                  refine VQ_CH (Dw := False) ?_
                  refine CH_q1 (Dw := False) rfl ?_
                  obtain ⟨x204, hx204, ho176⟩ := Option.bind_eq_some_iff.1 ho176
                  refine VQ_indexAddrH (α := Int) (e := 3) (v := v44) (l := s38) hH (i := 0) rfl hx204 Tryz.underlying44 Tryz.sizeOf3 rfl rfl rfl ?_
                  intro b205 o206 h207 hl208
                  refine VQ_CH (Dw := False) ?_
                  refine CH_q1 (Dw := False) rfl ?_
                  refine VQ_y (fun w' hw' => Y_load (El.int (El.kp (Dw := False) h207 hw')) Tryz.isAgg3 rfl) rfl rfl rfl ?_
                  refine VQ_CH (Dw := False) ?_
                  refine CH_q2 (Dw := False) rfl ?_
                  refine VQ_y (fun w' hw' => Y_build Tryz.underlying51 Tryz.zeroValue51 (Tryz_places51 _ Tryz.underlying51) rfl (by with_unfolding_all rfl)) rfl rfl rfl ?_
                  refine VQ_CH (Dw := False) ?_
                  refine CH_l1 (Dw := False) (k := 0) rfl ?_
                  refine V_buildSlice (Dw := False) (cells := #[.int .i64 x194, .int .i64 x199, .int .i64 x204]) (l := ([(⟨x194, x199, x204⟩ : cal_Shift)] : List cal_Shift)) (len := 1) Tryz.underlying25 Tryz.sizeOf51 Tryz.zeroValue51 rfl (by kernel_rfl) (show (1 * 3 : Nat) ≠ 0 by decide) (show (1 * 3 : Nat) ≤ 2 ^ 24 by decide) hA ⟨[.int .i64 x194, .int .i64 x199, .int .i64 x204], _, rfl, ⟨[.int .i64 x194], _, rfl, rfl, ⟨[.int .i64 x199], _, rfl, rfl, rfl⟩⟩, rfl⟩ rfl rfl ?_
                  intro v209 w210 hk212 h211
                  have ht213 := Kp.tr (Dw := False) hk212 hA hB
                  replace hH := Hp.kp (Dw := False) hH hk212
                  replace h197 := El.kp (Dw := False) h197 hk212
                  replace h202 := El.kp (Dw := False) h202 hk212
                  replace h207 := El.kp (Dw := False) h207 hk212
                  replace hK := Tr.trans (Dw := False) hK ht213
                  replace hr88 := Tr.trans (Dw := False) hr88 ht213
                  replace hr104 := Tr.trans (Dw := False) hr104 ht213
                  replace hr130 := Tr.trans (Dw := False) hr130 ht213
                  replace hr178 := Tr.trans (Dw := False) hr178 ht213
                  replace hB := Nat.le_trans hB ht213.ex.size
                  replace hA := ht213.new
                  refine V_CH (Dw := False) (hk212) ?_
                  refine CH_l1 (Dw := False) (k := 2) rfl ?_
                  obtain ⟨x214, hx214, ho176⟩ := Option.bind_eq_some_iff.1 ho176
                  refine V_appendH (Dw := False) (e := 51) (v := v_c1) (l := c.week) (ti := Tryz.t51) (bytes := 24) (lim := 5864062014805) hH (i := 3) rfl h211 hx214 Tryz.underlying25 Tryz_info51 rfl rfl rfl rfl (by decide) (by decide) (by decide) hB hA rfl rfl rfl ?_
                  intro v215 w216 A217 hH218 ht219
                  replace h211 := Sl.tr (Dw := False) h211 ht219
                  replace hK := Tr.trans (Dw := False) hK ht219
                  replace hr88 := Tr.trans (Dw := False) hr88 ht219
                  replace hr104 := Tr.trans (Dw := False) hr104 ht219
                  replace hr130 := Tr.trans (Dw := False) hr130 ht219
                  replace hr178 := Tr.trans (Dw := False) hr178 ht219
                  replace hB := Nat.le_trans hB ht219.ex.size
                  replace hA := ht219.new
                  replace hH : Hp B A217 w216 (obS (α := Int) 3 v44 s38 :: obC b_c [.int .i64 c.zone.offset, v_c0, v_c1, v_c2] 28 :: obS (α := cal_Change) 49 v_c0 c.zone.changes :: obS (α := cal_Shift) 51 v215 x214 :: obS (α := cal_Special) 53 v_c2 c.specials :: L) := hH218
                  refine V_CHw (Dw := False) ?_
                  refine CH_q2 (Dw := False) rfl ?_
                  refine VQ_y (fun w' hw' => Y_nilCheck rfl) rfl rfl rfl ?_
                  refine VQ_CH (Dw := False) ?_
                  refine CH_q2 (Dw := False) rfl ?_
                  refine VQ_y (fun w' hw' => Y_fieldAddrC (off2 := 2) Tryz.underlying28 rfl Tryz.sizeOf25 (by decide) rfl rfl) rfl rfl rfl ?_
                  refine VQ_CH (Dw := False) ?_
                  refine CH_l1 (Dw := False) (k := 2) rfl ?_
                  have h225 : (v215).oneCell' = true := by obtain ⟨_, _, e, _⟩ := Hp.form (α := cal_Shift) (e := 51) (v := v215) (l := x214) hH (i := 3) rfl; rw [e]; rfl
                  refine V_storeC (Dw := False) (off := 2) (ds := [.int .i64 c.zone.offset, v_c0, v215, v_c2]) hH (i := 1) rfl Tryz.sizeOf25 (by rw [← Array.length_toList, Value.cells_one h225]; rfl) (Nat.le_of_ble_eq_true rfl) (by intro u hu; rw [Value.cells_one h225] at hu; simp at hu; subst hu; assumption) (by rw [Value.cells_one h225]; rfl) hB hA rfl rfl ?_
                  intro w220 hH221 ht222
                  replace h211 := Sl.tr (Dw := False) h211 ht222
                  replace hK := Tr.trans (Dw := False) hK ht222
                  replace hr88 := Tr.trans (Dw := False) hr88 ht222
                  replace hr104 := Tr.trans (Dw := False) hr104 ht222
                  replace hr130 := Tr.trans (Dw := False) hr130 ht222
                  replace hr178 := Tr.trans (Dw := False) hr178 ht222
                  replace hB := Nat.le_trans hB ht222.ex.size
                  replace hA := ht222.new
                  replace hH : Hp B A217 w220 (obS (α := Int) 3 v44 s38 :: obC b_c [.int .i64 c.zone.offset, v_c0, v215, v_c2] 28 :: obS (α := cal_Change) 49 v_c0 c.zone.changes :: obS (α := cal_Shift) 51 v215 x214 :: obS (α := cal_Special) 53 v_c2 c.specials :: L) := hH221
                  refine V_CHw (Dw := False) ?_
                  refine CH_tail (Dw := False) ?_
                  show V _ _ _ _ [] _ _
                  obtain rfl := Option.some.inj ho176
                  refine V_end (fun a ha226 => ?_)
                  exact ⟨((⟨c.zone, x214, c.specials⟩ : cal_Calendar), v_c0, v215, v_c2, A217), ha226.sub ⟨rfl, trivial⟩, ⟨rfl, hH, hr178⟩⟩
                · rw [if_neg (nt hc190)] at ho176
                  refine C_seq ?_
                  refine C_region ?_
                  refine V_y (Y_move rfl) rfl rfl rfl ?_
                  refine V_y (Y_eql rfl rfl) rfl rfl rfl ?_
                  refine V_y (Y_move rfl) rfl rfl rfl ?_
                  refine V_cut 5 (fun _ : Unit => [(0, .pointer (some ⟨b_c, 0, none⟩)), (9, .int .i64 x22), (10, v44), (142, .bool ((x22 == 3) && ((Int.tmod (s38.length : Int) 2) == 1)))]) (fun _ w' => w41 = w') ?_ ?_
                  · simp only [List.take, List.drop]
                    rcases Bool.eq_false_or_eq_true (x22 == 3) with hc227 | hc227
                    · refine V_ge rfl rfl rfl hc227 ?_
                      refine V_y (Y_move rfl) rfl rfl rfl ?_
                      refine V_ge rfl rfl rfl hc227 ?_
                      refine V_y (Y_lenSl (Hp.any (α := Int) (e := 3) (v := v44) (l := s38) hH (i := 0) rfl) rfl Tryz.underlying44 rfl) rfl rfl rfl ?_
                      refine V_ge rfl rfl rfl hc227 ?_
                      refine V_y (Y_rem (by rw [rem, if_neg (by decide)]) rfl rfl) rfl rfl rfl ?_
                      refine V_ge rfl rfl rfl hc227 ?_
                      refine V_y (Y_eql rfl rfl) rfl rfl rfl ?_
                      refine V_y (Y_pick_te rfl hc227 rfl) rfl rfl rfl ?_
                      exact V_end fun a ha => ⟨(), ha.sub ⟨rfl, rfl, rfl, (by rw [hc227]; rfl), trivial⟩, rfl⟩
                    · refine V_gn rfl rfl rfl hc227 rfl rfl rfl ?_
                      refine V_gn rfl rfl rfl hc227 rfl rfl rfl ?_
                      refine V_gn rfl rfl rfl hc227 rfl rfl rfl ?_
                      refine V_gn rfl rfl rfl hc227 rfl rfl rfl ?_
                      refine V_y (Y_pick_fe rfl hc227 rfl) rfl rfl rfl ?_
                      exact V_end fun a ha => ⟨(), ha.sub ⟨rfl, rfl, rfl, (by rw [hc227]; rfl), trivial⟩, rfl⟩
                  simp only [List.take, List.drop]
                  rintro _ _ rfl
                  refine V_y (Y_assign rfl) rfl rfl rfl ?_
                  refine V_to (fun _ _ => rfl) ?_
                  refine C_cond rfl (fun hc229 => ?_) (fun hc229 => ?_)
                  · rw [if_pos hc229] at ho176
                    refine C_seq ?_
                    refine C_region ?_
                    refine V_y (Y_move rfl) rfl rfl rfl ?_
                    obtain ⟨x230, hx230, ho176⟩ := Option.bind_eq_some_iff.1 ho176
                    refine V_indexAddrH (α := Int) (e := 3) (v := v44) (l := s38) hH (i := 0) rfl hx230 Tryz.underlying44 Tryz.sizeOf3 rfl rfl rfl ?_
                    intro b231 o232 h233 hl234
                    refine V_y (Y_load (El.int h233) Tryz.isAgg3 rfl) rfl rfl rfl ?_
                    refine V_y (Y_build Tryz.underlying53 Tryz.zeroValue53 (Tryz_places53 _ Tryz.underlying53) rfl (by with_unfolding_all rfl)) rfl rfl rfl ?_
                    refine V_allocH (Dw := False) (B := B) hH Tryz.zeroValue53 hB hA rfl ?_
                    intro b235 w236 A237 hH238 ht239
                    replace hK := Tr.trans (Dw := False) hK ht239
                    replace hr88 := Tr.trans (Dw := False) hr88 ht239
                    replace hr104 := Tr.trans (Dw := False) hr104 ht239
                    replace hr130 := Tr.trans (Dw := False) hr130 ht239
                    replace hr178 := Tr.trans (Dw := False) hr178 ht239
                    replace hB := Nat.le_trans hB ht239.ex.size
                    replace hA := ht239.new
                    replace hH : Hp B A237 w236 (obC b235 [.int .i64 0, .slice none 0 0] 53 :: obS (α := Int) 3 v44 s38 :: obC b_c [.int .i64 c.zone.offset, v_c0, v_c1, v_c2] 28 :: obS (α := cal_Change) 49 v_c0 c.zone.changes :: obS (α := cal_Shift) 51 v_c1 c.week :: obS (α := cal_Special) 53 v_c2 c.specials :: L) := hH238
                    refine V_storeC (Dw := False) (off := 0) (ds := [.int .i64 x230, .slice none 0 0]) hH (i := 0) rfl Tryz.sizeOf53 rfl (Nat.le_of_ble_eq_true rfl) (by exact (List.forall_mem_cons.2 ⟨rfl, (List.forall_mem_cons.2 ⟨rfl, (fun _ h => nomatch h)⟩)⟩)) rfl hB hA rfl rfl ?_
                    intro w240 hH241 ht242
                    replace hK := Tr.trans (Dw := False) hK ht242
                    replace hr88 := Tr.trans (Dw := False) hr88 ht242
                    replace hr104 := Tr.trans (Dw := False) hr104 ht242
                    replace hr130 := Tr.trans (Dw := False) hr130 ht242
                    replace hr178 := Tr.trans (Dw := False) hr178 ht242
                    replace hB := Nat.le_trans hB ht242.ex.size
                    replace hA := ht242.new
                    replace hH : Hp B A237 w240 (obC b235 [.int .i64 x230, .slice none 0 0] 53 :: obS (α := Int) 3 v44 s38 :: obC b_c [.int .i64 c.zone.offset, v_c0, v_c1, v_c2] 28 :: obS (α := cal_Change) 49 v_c0 c.zone.changes :: obS (α := cal_Shift) 51 v_c1 c.week :: obS (α := cal_Special) 53 v_c2 c.specials :: L) := hH241
                    refine V_to (fun _ _ => rfl) ?_
                    refine C_seq ?_
                    refine C_seq ?_
                    refine C_region ?_
                    refine V_y (Y_assign rfl) rfl rfl rfl ?_
                    refine V_to (fun _ _ => rfl) ?_
                    replace hH : Hp B A237 w240 (obS (α := cal_Shift) 51 (.slice none 0 0) ([] : (List cal_Shift)) :: obC b235 [.int .i64 x230, .slice none 0 0] 53 :: obS (α := Int) 3 v44 s38 :: obC b_c [.int .i64 c.zone.offset, v_c0, v_c1, v_c2] 28 :: obS (α := cal_Change) 49 v_c0 c.zone.changes :: obS (α := cal_Shift) 51 v_c1 c.week :: obS (α := cal_Special) 53 v_c2 c.specials :: L) := Hp.addNil (α := cal_Shift) (e := 51) hH
                    obtain ⟨o243, ho243, ho176⟩ := Option.bind_eq_some_iff.1 ho176
                    refine C_cutG (ι := ((Int × cal_Special) × Value × (Nat → Prop))) (fun ⟨s244, v250, A252⟩ => [(0, .pointer (some ⟨b_c, 0, none⟩)), (9, .int .i64 x22), (15, .pointer (some ⟨b235, 0, none⟩))]) (fun ⟨s244, v250, A252⟩ => fun w' => o243 = .fin s244 ∧ Hp B A252 w' (obS (α := cal_Shift) 51 v250 s244.2.shifts :: obC b235 [.int .i64 s244.2.day, v250] 53 :: obS (α := Int) 3 v44 s38 :: obC b_c [.int .i64 c.zone.offset, v_c0, v_c1, v_c2] 28 :: obS (α := cal_Change) 49 v_c0 c.zone.changes :: obS (α := cal_Shift) 51 v_c1 c.week :: obS (α := cal_Special) 53 v_c2 c.specials :: L) ∧ Tr False B A237 w240 A252 w') ?_ ?_
                    · refine C_block ?_
                      refine C_while ho243 (fun s254 a w' => ∃ i : (Value × (Nat → Prop)), Has ⟨179, [], none⟩ a ([(0, .pointer (some ⟨b_c, 0, none⟩)), (9, .int .i64 x22), (10, v44), (15, .pointer (some ⟨b235, 0, none⟩)), (16, .int .i64 s254.1)]) ∧ Hp B i.2 w' (obS (α := cal_Shift) 51 i.1 s254.2.shifts :: obC b235 [.int .i64 s254.2.day, i.1] 53 :: obS (α := Int) 3 v44 s38 :: obC b_c [.int .i64 c.zone.offset, v_c0, v_c1, v_c2] 28 :: obS (α := cal_Change) 49 v_c0 c.zone.changes :: obS (α := cal_Shift) 51 v_c1 c.week :: obS (α := cal_Special) 53 v_c2 c.specials :: L) ∧ Tr False B A237 w240 i.2 w') (fun a ha => ⟨(.slice none 0 0, A237), ha.sub ⟨rfl, rfl, rfl, rfl, rfl, trivial⟩, ⟨hH, Tr.refl (Dw := False) hA⟩⟩) ?_
                      rintro K s254 a w255 ⟨⟨v256, A258⟩, ha300, hH259, hr245⟩ K266
                      refine C_of ?_ ha300
                      replace hK := Tr.trans (Dw := False) hK hr245
                      replace hr88 := Tr.trans (Dw := False) hr88 hr245
                      replace hr104 := Tr.trans (Dw := False) hr104 hr245
                      replace hr130 := Tr.trans (Dw := False) hr130 hr245
                      replace hr178 := Tr.trans (Dw := False) hr178 hr245
                      replace hB := Nat.le_trans hB hr245.ex.size
                      replace hA := hr245.new
                      replace hH : Hp B A258 w255 (obS (α := cal_Shift) 51 v256 s254.2.shifts :: obC b235 [.int .i64 s254.2.day, v256] 53 :: obS (α := Int) 3 v44 s38 :: obC b_c [.int .i64 c.zone.offset, v_c0, v_c1, v_c2] 28 :: obS (α := cal_Change) 49 v_c0 c.zone.changes :: obS (α := cal_Shift) 51 v_c1 c.week :: obS (α := cal_Special) 53 v_c2 c.specials :: L) := hH259
                      obtain ⟨x260, h261, h262⟩ := K266
                      refine C_seq ?_
                      refine C_seq ?_
                      refine C_region ?_
                      refine V_y (Y_move rfl) rfl rfl rfl ?_
                      refine V_y (Y_move rfl) rfl rfl rfl ?_
                      refine V_y (Y_lenSl (Hp.any (α := Int) (e := 3) (v := v44) (l := s38) hH (i := 2) rfl) rfl Tryz.underlying44 rfl) rfl rfl rfl ?_
                      refine V_y (Y_lss rfl rfl) rfl rfl rfl ?_
                      refine V_to (fun _ _ => rfl) ?_
                      refine C_cond rfl (fun hc267 => ?_) (fun hc267 => ?_)
                      · rw [if_pos hc267] at h261
                        refine C_skip_to (fun _ _ => rfl) ?_
                        refine C_seq ?_
                        refine C_block ?_
                        refine C_region_ch (Dw := False) A258 16 [(1, 0), (0, 1), (1, 2), (1, 3), (0, 4), (0, 5), (1, 6), (1, 7), (1, 8), (0, 9), (0, 10), (1, 11), (2, 12), (4, 13), (1, 14), (4, 15)] Tryz_mixed (by kernel_rfl) (fun w268 hk269 => ?_)
                        have ht270 := Kp.tr (Dw := False) hk269 hA hB
                        replace hH := Hp.kp (Dw := False) hH hk269
                        replace hK := Tr.trans (Dw := False) hK ht270
                        replace hr88 := Tr.trans (Dw := False) hr88 ht270
                        replace hr104 := Tr.trans (Dw := False) hr104 ht270
                        replace hr130 := Tr.trans (Dw := False) hr130 ht270
                        replace hr178 := Tr.trans (Dw := False) hr178 ht270
                        replace hr245 := Tr.trans (Dw := False) hr245 ht270
                        replace hB := Nat.le_trans hB ht270.ex.size
                        replace hA := ht270.new
                        refine CH_q2 (Dw := False) rfl ?_
                        refine VQ_y (fun w' hw' => Y_fieldAddrC (off2 := 1) Tryz.underlying53 rfl Tryz.sizeOf25 (by decide) rfl rfl) rfl rfl rfl ?_
                        refine VQ_CH (Dw := False) ?_
                        refine CH_q1 (Dw := False) rfl ?_
                        refine VQ_y (fun w' hw' => Y_load ((World.cell?_of_block (hw'.block _ (World.block_lt_of_cell? _ _ (Hp.cell (j := 1) hH (i := 1) rfl rfl)))).trans (Hp.cell (j := 1) hH (i := 1) rfl rfl)) Tryz.isAgg25 rfl) rfl rfl rfl ?_
                        refine VQ_CH (Dw := False) ?_
                        refine CH_q2 (Dw := False) rfl ?_
                        refine VQ_y (fun w' hw' => Y_move rfl) rfl rfl rfl ?_
                        refine VQ_CH (Dw := False) ?_
                        refine CH_q2 (Dw := False) rfl ?_
                        refine VQ_y (fun w' hw' => Y_move rfl) rfl rfl rfl ?_
                        refine VQ_CH (Dw := False) ?_
                        refine CH_q1 (Dw := False) rfl ?_
                        obtain ⟨x271, hx271, h261⟩ := Option.bind_eq_some_iff.1 h261
                        refine VQ_indexAddrH (α := Int) (e := 3) (v := v44) (l := s38) hH (i := 2) rfl hx271 Tryz.underlying44 Tryz.sizeOf3 rfl rfl rfl ?_
                        intro b272 o273 h274 hl275
                        refine VQ_CH (Dw := False) ?_
                        refine CH_q1 (Dw := False) rfl ?_
                        refine VQ_y (fun w' hw' => Y_load (El.int (El.kp (Dw := False) h274 hw')) Tryz.isAgg3 rfl) rfl rfl rfl ?_
                        refine VQ_CH (Dw := False) ?_
                        refine CH_q2 (Dw := False) rfl ?_
                        refine VQ_y (fun w' hw' => Y_move rfl) rfl rfl rfl ?_
                        refine VQ_CH (Dw := False) ?_
                        refine CH_q2 (Dw := False) rfl ?_
                        refine VQ_y (fun w' hw' => Y_move rfl) rfl rfl rfl ?_
                        refine VQ_CH (Dw := False) ?_
                        refine CH_q2 (Dw := False) rfl ?_
                        refine VQ_y (fun w' hw' => Y_addI rfl rfl) rfl rfl rfl ?_
                        refine VQ_CH (Dw := False) ?_
                        refine CH_q1 (Dw := False) rfl ?_
                        obtain ⟨x276, hx276, h261⟩ := Option.bind_eq_some_iff.1 h261
                        refine VQ_indexAddrH (α := Int) (e := 3) (v := v44) (l := s38) hH (i := 2) rfl hx276 Tryz.underlying44 Tryz.sizeOf3 rfl rfl rfl ?_
                        intro b277 o278 h279 hl280
                        refine VQ_CH (Dw := False) ?_
                        refine CH_q1 (Dw := False) rfl ?_
                        refine VQ_y (fun w' hw' => Y_load (El.int (El.kp (Dw := False) h279 hw')) Tryz.isAgg3 rfl) rfl rfl rfl ?_
                        refine VQ_CH (Dw := False) ?_
                        refine CH_q2 (Dw := False) rfl ?_
                        refine VQ_y (fun w' hw' => Y_build Tryz.underlying51 Tryz.zeroValue51 (Tryz_places51 _ Tryz.underlying51) rfl (by with_unfolding_all rfl)) rfl rfl rfl ?_
                        refine VQ_CH (Dw := False) ?_
                        refine CH_l1 (Dw := False) (k := 0) rfl ?_
                        refine V_buildSlice (Dw := False) (cells := #[.int .i64 0, .int .i64 x271, .int .i64 x276]) (l := ([(⟨0, x271, x276⟩ : cal_Shift)] : List cal_Shift)) (len := 1) Tryz.underlying25 Tryz.sizeOf51 Tryz.zeroValue51 rfl (by kernel_rfl) (show (1 * 3 : Nat) ≠ 0 by decide) (show (1 * 3 : Nat) ≤ 2 ^ 24 by decide) hA ⟨[.int .i64 0, .int .i64 x271, .int .i64 x276], _, rfl, ⟨[.int .i64 0], _, rfl, rfl, ⟨[.int .i64 x271], _, rfl, rfl, rfl⟩⟩, rfl⟩ rfl rfl ?_
                        intro v281 w282 hk284 h283
                        have ht285 := Kp.tr (Dw := False) hk284 hA hB
                        replace hH := Hp.kp (Dw := False) hH hk284
                        replace h274 := El.kp (Dw := False) h274 hk284
                        replace h279 := El.kp (Dw := False) h279 hk284
                        replace hK := Tr.trans (Dw := False) hK ht285
                        replace hr88 := Tr.trans (Dw := False) hr88 ht285
                        replace hr104 := Tr.trans (Dw := False) hr104 ht285
                        replace hr130 := Tr.trans (Dw := False) hr130 ht285
                        replace hr178 := Tr.trans (Dw := False) hr178 ht285
                        replace hr245 := Tr.trans (Dw := False) hr245 ht285
                        replace hB := Nat.le_trans hB ht285.ex.size
                        replace hA := ht285.new
                        refine V_CH (Dw := False) (hk284) ?_
                        refine CH_l1 (Dw := False) (k := 2) rfl ?_
                        obtain ⟨x286, hx286, h261⟩ := Option.bind_eq_some_iff.1 h261
                        refine V_appendH (Dw := False) (e := 51) (v := v256) (l := s254.2.shifts) (ti := Tryz.t51) (bytes := 24) (lim := 5864062014805) hH (i := 0) rfl h283 hx286 Tryz.underlying25 Tryz_info51 rfl rfl rfl rfl (by decide) (by decide) (by decide) hB hA rfl rfl rfl ?_
                        intro v287 w288 A289 hH290 ht291
                        replace h283 := Sl.tr (Dw := False) h283 ht291
                        replace hK := Tr.trans (Dw := False) hK ht291
                        replace hr88 := Tr.trans (Dw := False) hr88 ht291
                        replace hr104 := Tr.trans (Dw := False) hr104 ht291
                        replace hr130 := Tr.trans (Dw := False) hr130 ht291
                        replace hr178 := Tr.trans (Dw := False) hr178 ht291
                        replace hr245 := Tr.trans (Dw := False) hr245 ht291
                        replace hB := Nat.le_trans hB ht291.ex.size
                        replace hA := ht291.new
                        replace hH : Hp B A289 w288 (obS (α := cal_Shift) 51 v287 x286 :: obC b235 [.int .i64 s254.2.day, v256] 53 :: obS (α := Int) 3 v44 s38 :: obC b_c [.int .i64 c.zone.offset, v_c0, v_c1, v_c2] 28 :: obS (α := cal_Change) 49 v_c0 c.zone.changes :: obS (α := cal_Shift) 51 v_c1 c.week :: obS (α := cal_Special) 53 v_c2 c.specials :: L) := hH290
                        refine V_CHw (Dw := False) ?_
                        refine CH_q2 (Dw := False) rfl ?_
                        refine VQ_y (fun w' hw' => Y_fieldAddrC (off2 := 1) Tryz.underlying53 rfl Tryz.sizeOf25 (by decide) rfl rfl) rfl rfl rfl ?_
                        refine VQ_CH (Dw := False) ?_
                        refine CH_l1 (Dw := False) (k := 2) rfl ?_
                        have h297 : (v287).oneCell' = true := by obtain ⟨_, _, e, _⟩ := Hp.form (α := cal_Shift) (e := 51) (v := v287) (l := x286) hH (i := 0) rfl; rw [e]; rfl
                        refine V_storeC (Dw := False) (off := 1) (ds := [.int .i64 s254.2.day, v287]) hH (i := 1) rfl Tryz.sizeOf25 (by rw [← Array.length_toList, Value.cells_one h297]; rfl) (Nat.le_of_ble_eq_true rfl) (by intro u hu; rw [Value.cells_one h297] at hu; simp at hu; subst hu; assumption) (by rw [Value.cells_one h297]; rfl) hB hA rfl rfl ?_
                        intro w292 hH293 ht294
                        replace h283 := Sl.tr (Dw := False) h283 ht294
                        replace hK := Tr.trans (Dw := False) hK ht294
                        replace hr88 := Tr.trans (Dw := False) hr88 ht294
                        replace hr104 := Tr.trans (Dw := False) hr104 ht294
                        replace hr130 := Tr.trans (Dw := False) hr130 ht294
                        replace hr178 := Tr.trans (Dw := False) hr178 ht294
                        replace hr245 := Tr.trans (Dw := False) hr245 ht294
                        replace hB := Nat.le_trans hB ht294.ex.size
                        replace hA := ht294.new
                        replace hH : Hp B A289 w292 (obS (α := cal_Shift) 51 v287 x286 :: obC b235 [.int .i64 s254.2.day, v287] 53 :: obS (α := Int) 3 v44 s38 :: obC b_c [.int .i64 c.zone.offset, v_c0, v_c1, v_c2] 28 :: obS (α := cal_Change) 49 v_c0 c.zone.changes :: obS (α := cal_Shift) 51 v_c1 c.week :: obS (α := cal_Special) 53 v_c2 c.specials :: L) := hH293
                        refine V_CHw (Dw := False) ?_
                        refine CH_tail (Dw := False) ?_
                        show V _ _ _ _ [] _ _
                        refine V_to (fun _ _ => rfl) ?_
                        refine C_region ?_
                        refine V_y (Y_move rfl) rfl rfl rfl ?_
                        refine V_y (Y_addI rfl rfl) rfl rfl rfl ?_
                        refine V_y (Y_assign rfl) rfl rfl rfl ?_
                        obtain rfl := Option.some.inj h261
                        refine V_end (fun a ha298 => ?_)
                        exact ⟨(w64 (s254.1 + 2), (⟨s254.2.day, x286⟩ : cal_Special)), h262, ⟨(v287, A289), ha298.sub ⟨rfl, rfl, rfl, rfl, rfl, trivial⟩, ⟨hH, hr245⟩⟩⟩
                      · rw [if_neg (nt hc267)] at h261
                        obtain rfl := Option.some.inj h261
                        refine C_exit (fun a ha299 => ?_)
                        exact ⟨((s254.1, s254.2), v256, A258), ha299.sub ⟨rfl, rfl, rfl, trivial⟩, ⟨h262.symm, hH, hr245⟩⟩
                    rintro ⟨s244, v250, A252⟩ w247 ⟨rfl, hH253, hk248⟩ a ha249
                    rw [Lp.andThen_fin] at ho176
                    replace hK := Tr.trans (Dw := False) hK hk248
                    replace hr88 := Tr.trans (Dw := False) hr88 hk248
                    replace hr104 := Tr.trans (Dw := False) hr104 hk248
                    replace hr130 := Tr.trans (Dw := False) hr130 hk248
                    replace hr178 := Tr.trans (Dw := False) hr178 hk248
                    replace hB := Nat.le_trans hB hk248.ex.size
                    replace hA := hk248.new
                    replace hH : Hp B A252 w247 (obS (α := cal_Shift) 51 v250 s244.2.shifts :: obC b235 [.int .i64 s244.2.day, v250] 53 :: obS (α := Int) 3 v44 s38 :: obC b_c [.int .i64 c.zone.offset, v_c0, v_c1, v_c2] 28 :: obS (α := cal_Change) 49 v_c0 c.zone.changes :: obS (α := cal_Shift) 51 v_c1 c.week :: obS (α := cal_Special) 53 v_c2 c.specials :: L) := hH253
                    refine C_at (n := ⟨179, [], none⟩) (fun _ _ => rfl) ?_ ha249
                    refine C_region_ch (Dw := False) A252 11 [(1, 0), (1, 1), (1, 2), (1, 3), (0, 4), (0, 5), (2, 6), (4, 7), (1, 8), (1, 9), (4, 10)] Tryz_mixed (by kernel_rfl) (fun w301 hk302 => ?_)
                    have ht303 := Kp.tr (Dw := False) hk302 hA hB
                    replace hH := Hp.kp (Dw := False) hH hk302
                    replace hK := Tr.trans (Dw := False) hK ht303
                    replace hr88 := Tr.trans (Dw := False) hr88 ht303
                    replace hr104 := Tr.trans (Dw := False) hr104 ht303
                    replace hr130 := Tr.trans (Dw := False) hr130 ht303
                    replace hr178 := Tr.trans (Dw := False) hr178 ht303
                    replace hB := Nat.le_trans hB ht303.ex.size
                    replace hA := ht303.new
                    refine CH_q2 (Dw := False) rfl ?_
                    refine VQ_y (fun w' hw' => Y_move rfl) rfl rfl rfl ?_
                    refine VQ_CH (Dw := False) ?_
                    refine CH_q2 (Dw := False) rfl ?_
                    refine VQ_y (fun w' hw' => Y_move rfl) rfl rfl rfl ?_
                    refine VQ_CH (Dw := False) ?_
                    refine CH_q2 (Dw := False) rfl ?_
                    refine VQ_y (fun w' hw' => Y_nilCheck rfl) rfl rfl rfl ?_
                    refine VQ_CH (Dw := False) ?_
                    refine CH_q2 (Dw := False) rfl ?_
                    refine VQ_y (fun w' hw' => Y_fieldAddrC (off2 := 3) Tryz.underlying28 rfl Tryz.sizeOf26 (by decide) rfl rfl) rfl rfl rfl ?_
                    refine VQ_CH (Dw := False) ?_
                    refine CH_q1 (Dw := False) rfl ?_
                    refine VQ_y (fun w' hw' => Y_load ((World.cell?_of_block (hw'.block _ (World.block_lt_of_cell? _ _ (Hp.cell (j := 3) hH (i := 3) rfl rfl)))).trans (Hp.cell (j := 3) hH (i := 3) rfl rfl)) Tryz.isAgg26 rfl) rfl rfl rfl ?_
                    refine VQ_CH (Dw := False) ?_
                    refine CH_q1 (Dw := False) rfl ?_
                    refine VQ_y (fun w' hw' => Y_loadA (At.kp (Dw := False) (Hp.part (off := 0) (n := 2) (ds := [.int .i64 s244.2.day, v250]) hH (i := 1) rfl rfl) hw' (Array.getElem?_eq_some_iff.1 (Hp.cells hH (i := 1) rfl).2.1).1) Tryz.isAgg53 Tryz.sizeOf53 rfl) rfl rfl rfl ?_
                    refine VQ_CH (Dw := False) ?_
                    refine CH_l1 (Dw := False) (k := 0) rfl ?_
                    obtain ⟨A304, ht305, h306, hH307⟩ := Hp.freeze (Dw := False) (α := cal_Shift) (v := v250) (l := s244.2.shifts) hH (i := 0) rfl hA
                    replace hK := Tr.trans (Dw := False) hK ht305
                    replace hr88 := Tr.trans (Dw := False) hr88 ht305
                    replace hr104 := Tr.trans (Dw := False) hr104 ht305
                    replace hr130 := Tr.trans (Dw := False) hr130 ht305
                    replace hr178 := Tr.trans (Dw := False) hr178 ht305
                    replace hB := Nat.le_trans hB ht305.ex.size
                    replace hA := ht305.new
                    replace hH : Hp B A304 w301 (obC b235 [.int .i64 s244.2.day, v250] 53 :: obS (α := Int) 3 v44 s38 :: obC b_c [.int .i64 c.zone.offset, v_c0, v_c1, v_c2] 28 :: obS (α := cal_Change) 49 v_c0 c.zone.changes :: obS (α := cal_Shift) 51 v_c1 c.week :: obS (α := cal_Special) 53 v_c2 c.specials :: L) := hH307
                    refine V_buildSlice (Dw := False) (cells := #[.int .i64 s244.2.day, v250]) (l := ([s244.2] : List cal_Special)) (len := 1) Tryz.underlying26 Tryz.sizeOf53 Tryz.zeroValue53 rfl (by obtain ⟨a313, c314, e315, _⟩ := Sl.form h306; subst e315; kernel_rfl) (show (1 * 2 : Nat) ≠ 0 by decide) (show (1 * 2 : Nat) ≤ 2 ^ 24 by decide) hA ⟨[.int .i64 s244.2.day, v250], _, rfl, ⟨[.int .i64 s244.2.day], _, rfl, rfl, ⟨_, rfl, h306⟩⟩, rfl⟩ rfl rfl ?_
                    intro v309 w310 hk312 h311
                    have ht316 := Kp.tr (Dw := False) hk312 hA hB
                    replace hH := Hp.kp (Dw := False) hH hk312
                    replace h306 := Sl.tr (Dw := False) h306 ht316
                    replace hK := Tr.trans (Dw := False) hK ht316
                    replace hr88 := Tr.trans (Dw := False) hr88 ht316
                    replace hr104 := Tr.trans (Dw := False) hr104 ht316
                    replace hr130 := Tr.trans (Dw := False) hr130 ht316
                    replace hr178 := Tr.trans (Dw := False) hr178 ht316
                    replace hB := Nat.le_trans hB ht316.ex.size
                    replace hA := ht316.new
                    refine V_CH (Dw := False) (hk312) ?_
                    refine CH_l1 (Dw := False) (k := 2) rfl ?_
                    obtain ⟨x317, hx317, ho176⟩ := Option.bind_eq_some_iff.1 ho176
                    refine V_appendH (Dw := False) (e := 53) (v := v_c2) (l := c.specials) (ti := Tryz.t53) (bytes := 32) (lim := 4398046511104) hH (i := 5) rfl h311 hx317 Tryz.underlying26 Tryz_info53 rfl rfl rfl rfl (by decide) (by decide) (by decide) hB hA rfl rfl rfl ?_
                    intro v318 w319 A320 hH321 ht322
                    replace h306 := Sl.tr (Dw := False) h306 ht322
                    replace h311 := Sl.tr (Dw := False) h311 ht322
                    replace hK := Tr.trans (Dw := False) hK ht322
                    replace hr88 := Tr.trans (Dw := False) hr88 ht322
                    replace hr104 := Tr.trans (Dw := False) hr104 ht322
                    replace hr130 := Tr.trans (Dw := False) hr130 ht322
                    replace hr178 := Tr.trans (Dw := False) hr178 ht322
                    replace hB := Nat.le_trans hB ht322.ex.size
                    replace hA := ht322.new
                    replace hH : Hp B A320 w319 (obC b235 [.int .i64 s244.2.day, v250] 53 :: obS (α := Int) 3 v44 s38 :: obC b_c [.int .i64 c.zone.offset, v_c0, v_c1, v_c2] 28 :: obS (α := cal_Change) 49 v_c0 c.zone.changes :: obS (α := cal_Shift) 51 v_c1 c.week :: obS (α := cal_Special) 53 v318 x317 :: L) := hH321
                    refine V_CHw (Dw := False) ?_
                    refine CH_q2 (Dw := False) rfl ?_
                    refine VQ_y (fun w' hw' => Y_nilCheck rfl) rfl rfl rfl ?_
                    refine VQ_CH (Dw := False) ?_
                    refine CH_q2 (Dw := False) rfl ?_
                    refine VQ_y (fun w' hw' => Y_fieldAddrC (off2 := 3) Tryz.underlying28 rfl Tryz.sizeOf26 (by decide) rfl rfl) rfl rfl rfl ?_
                    refine VQ_CH (Dw := False) ?_
                    refine CH_l1 (Dw := False) (k := 2) rfl ?_
                    have h328 : (v318).oneCell' = true := by obtain ⟨_, _, e, _⟩ := Hp.form (α := cal_Special) (e := 53) (v := v318) (l := x317) hH (i := 5) rfl; rw [e]; rfl
                    refine V_storeC (Dw := False) (off := 3) (ds := [.int .i64 c.zone.offset, v_c0, v_c1, v318]) hH (i := 2) rfl Tryz.sizeOf26 (by rw [← Array.length_toList, Value.cells_one h328]; rfl) (Nat.le_of_ble_eq_true rfl) (by intro u hu; rw [Value.cells_one h328] at hu; simp at hu; subst hu; assumption) (by rw [Value.cells_one h328]; rfl) hB hA rfl rfl ?_
                    intro w323 hH324 ht325
                    replace h306 := Sl.tr (Dw := False) h306 ht325
                    replace h311 := Sl.tr (Dw := False) h311 ht325
                    replace hK := Tr.trans (Dw := False) hK ht325
                    replace hr88 := Tr.trans (Dw := False) hr88 ht325
                    replace hr104 := Tr.trans (Dw := False) hr104 ht325
                    replace hr130 := Tr.trans (Dw := False) hr130 ht325
                    replace hr178 := Tr.trans (Dw := False) hr178 ht325
                    replace hB := Nat.le_trans hB ht325.ex.size
                    replace hA := ht325.new
                    replace hH : Hp B A320 w323 (obC b235 [.int .i64 s244.2.day, v250] 53 :: obS (α := Int) 3 v44 s38 :: obC b_c [.int .i64 c.zone.offset, v_c0, v_c1, v318] 28 :: obS (α := cal_Change) 49 v_c0 c.zone.changes :: obS (α := cal_Shift) 51 v_c1 c.week :: obS (α := cal_Special) 53 v318 x317 :: L) := hH324
                    refine V_CHw (Dw := False) ?_
                    refine CH_tail (Dw := False) ?_
                    show V _ _ _ _ [] _ _
                    obtain rfl := Option.some.inj ho176
                    refine V_end (fun a ha329 => ?_)
                    replace hH : Hp B A320 w323 (obS (α := cal_Special) 53 v318 x317 :: obC b235 [.int .i64 s244.2.day, v250] 53 :: obS (α := Int) 3 v44 s38 :: obC b_c [.int .i64 c.zone.offset, v_c0, v_c1, v318] 28 :: obS (α := cal_Change) 49 v_c0 c.zone.changes :: obS (α := cal_Shift) 51 v_c1 c.week :: L) := Hp.front hH (i := 5) rfl
                    replace hH : Hp B A320 w323 (obS (α := cal_Shift) 51 v_c1 c.week :: obS (α := cal_Special) 53 v318 x317 :: obC b235 [.int .i64 s244.2.day, v250] 53 :: obS (α := Int) 3 v44 s38 :: obC b_c [.int .i64 c.zone.offset, v_c0, v_c1, v318] 28 :: obS (α := cal_Change) 49 v_c0 c.zone.changes :: L) := Hp.front hH (i := 5) rfl
                    replace hH : Hp B A320 w323 (obS (α := cal_Change) 49 v_c0 c.zone.changes :: obS (α := cal_Shift) 51 v_c1 c.week :: obS (α := cal_Special) 53 v318 x317 :: obC b235 [.int .i64 s244.2.day, v250] 53 :: obS (α := Int) 3 v44 s38 :: obC b_c [.int .i64 c.zone.offset, v_c0, v_c1, v318] 28 :: L) := Hp.front hH (i := 5) rfl
                    replace hH : Hp B A320 w323 (obC b_c [.int .i64 c.zone.offset, v_c0, v_c1, v318] 28 :: obS (α := cal_Change) 49 v_c0 c.zone.changes :: obS (α := cal_Shift) 51 v_c1 c.week :: obS (α := cal_Special) 53 v318 x317 :: obC b235 [.int .i64 s244.2.day, v250] 53 :: obS (α := Int) 3 v44 s38 :: L) := Hp.front hH (i := 5) rfl
                    replace hH : Hp B A320 w323 (obS (α := Int) 3 v44 s38 :: obC b_c [.int .i64 c.zone.offset, v_c0, v_c1, v318] 28 :: obS (α := cal_Change) 49 v_c0 c.zone.changes :: obS (α := cal_Shift) 51 v_c1 c.week :: obS (α := cal_Special) 53 v318 x317 :: obC b235 [.int .i64 s244.2.day, v250] 53 :: L) := Hp.front hH (i := 5) rfl
                    replace hH : Hp B A320 w323 (obS (α := Int) 3 v44 s38 :: obC b_c [.int .i64 c.zone.offset, v_c0, v_c1, v318] 28 :: obS (α := cal_Change) 49 v_c0 c.zone.changes :: obS (α := cal_Shift) 51 v_c1 c.week :: obS (α := cal_Special) 53 v318 x317 :: L) := Hp.drop hH (i := 5) rfl
                    exact ⟨((⟨c.zone, c.week, x317⟩ : cal_Calendar), v_c0, v_c1, v318, A320), ha329.sub ⟨rfl, trivial⟩, ⟨rfl, hH, hr178⟩⟩
                  · rw [if_neg (nt hc229)] at ho176
                    refine C_seq ?_
                    refine C_region ?_
                    refine V_y (Y_assign rfl) rfl rfl rfl ?_
                    refine V_y (Y_assign rfl) rfl rfl rfl ?_
                    refine V_to (fun _ _ => rfl) ?_
                    obtain rfl := Option.some.inj ho176
                    rw [Lp.andThen_rt] at ho128
                    obtain rfl := Option.some.inj ho128
                    rw [Lp.andThen_rt] at ho102
                    obtain rfl := Option.some.inj ho102
                    rw [Lp.andThen_rt] at ho86
                    obtain rfl := Option.some.inj ho86
                    rw [Lp.andThen_rt] at hm
                    obtain rfl := Option.some.inj hm
                    replace hH : Hp B A46 w41 (obS (α := cal_Special) 53 v_c2 c.specials :: obS (α := Int) 3 v44 s38 :: obC b_c [.int .i64 c.zone.offset, v_c0, v_c1, v_c2] 28 :: obS (α := cal_Change) 49 v_c0 c.zone.changes :: obS (α := cal_Shift) 51 v_c1 c.week :: L) := Hp.front hH (i := 4) rfl
                    replace hH : Hp B A46 w41 (obS (α := cal_Shift) 51 v_c1 c.week :: obS (α := cal_Special) 53 v_c2 c.specials :: obS (α := Int) 3 v44 s38 :: obC b_c [.int .i64 c.zone.offset, v_c0, v_c1, v_c2] 28 :: obS (α := cal_Change) 49 v_c0 c.zone.changes :: L) := Hp.front hH (i := 4) rfl
                    replace hH : Hp B A46 w41 (obS (α := cal_Change) 49 v_c0 c.zone.changes :: obS (α := cal_Shift) 51 v_c1 c.week :: obS (α := cal_Special) 53 v_c2 c.specials :: obS (α := Int) 3 v44 s38 :: obC b_c [.int .i64 c.zone.offset, v_c0, v_c1, v_c2] 28 :: L) := Hp.front hH (i := 4) rfl
                    replace hH : Hp B A46 w41 (obC b_c [.int .i64 c.zone.offset, v_c0, v_c1, v_c2] 28 :: obS (α := cal_Change) 49 v_c0 c.zone.changes :: obS (α := cal_Shift) 51 v_c1 c.week :: obS (α := cal_Special) 53 v_c2 c.specials :: obS (α := Int) 3 v44 s38 :: L) := Hp.front hH (i := 4) rfl
                    replace hH : Hp B A46 w41 (obC b_c [.int .i64 c.zone.offset, v_c0, v_c1, v_c2] 28 :: obS (α := cal_Change) 49 v_c0 c.zone.changes :: obS (α := cal_Shift) 51 v_c1 c.week :: obS (α := cal_Special) 53 v_c2 c.specials :: L) := Hp.drop hH (i := 4) rfl
                    refine C_ret ?_
                    try simp only [↓inBlock_ret, ↓then_ret]
                    exact retQ rfl (Res.two Tryz.results8 rfl rfl) ⟨v_c0, v_c1, v_c2, A46, rfl, hH, hK⟩
              rintro ⟨s177, v179, v181, v183, A188⟩ w185 ⟨rfl, hH189, hk186⟩ a ha187
              rw [Lp.andThen_fin] at ho128
              replace hK := Tr.trans (Dw := False) hK hk186
              replace hr88 := Tr.trans (Dw := False) hr88 hk186
              replace hr104 := Tr.trans (Dw := False) hr104 hk186
              replace hr130 := Tr.trans (Dw := False) hr130 hk186
              replace hB := Nat.le_trans hB hk186.ex.size
              replace hA := hk186.new
              replace hH : Hp B A188 w185 (obS (α := Int) 3 v44 s38 :: obC b_c [.int .i64 s177.zone.offset, v179, v181, v183] 28 :: obS (α := cal_Change) 49 v179 s177.zone.changes :: obS (α := cal_Shift) 51 v181 s177.week :: obS (α := cal_Special) 53 v183 s177.specials :: L) := hH189
              obtain rfl := Option.some.inj ho128
              exact ⟨(s177, v179, v181, v183, A188), ha187.sub ⟨rfl, trivial⟩, ⟨rfl, hH, hr130⟩⟩
          rintro ⟨s129, v131, v133, v135, A140⟩ w137 ⟨rfl, hH141, hk138⟩ a ha139
          rw [Lp.andThen_fin] at ho102
          replace hK := Tr.trans (Dw := False) hK hk138
          replace hr88 := Tr.trans (Dw := False) hr88 hk138
          replace hr104 := Tr.trans (Dw := False) hr104 hk138
          replace hB := Nat.le_trans hB hk138.ex.size
          replace hA := hk138.new
          replace hH : Hp B A140 w137 (obS (α := Int) 3 v44 s38 :: obC b_c [.int .i64 s129.zone.offset, v131, v133, v135] 28 :: obS (α := cal_Change) 49 v131 s129.zone.changes :: obS (α := cal_Shift) 51 v133 s129.week :: obS (α := cal_Special) 53 v135 s129.specials :: L) := hH141
          obtain rfl := Option.some.inj ho102
          exact ⟨(s129, v131, v133, v135, A140), ha139.sub ⟨rfl, trivial⟩, ⟨rfl, hH, hr104⟩⟩
      rintro ⟨s103, v105, v107, v109, A114⟩ w111 ⟨rfl, hH115, hk112⟩ a ha113
      rw [Lp.andThen_fin] at ho86
      replace hK := Tr.trans (Dw := False) hK hk112
      replace hr88 := Tr.trans (Dw := False) hr88 hk112
      replace hB := Nat.le_trans hB hk112.ex.size
      replace hA := hk112.new
      replace hH : Hp B A114 w111 (obS (α := Int) 3 v44 s38 :: obC b_c [.int .i64 s103.zone.offset, v105, v107, v109] 28 :: obS (α := cal_Change) 49 v105 s103.zone.changes :: obS (α := cal_Shift) 51 v107 s103.week :: obS (α := cal_Special) 53 v109 s103.specials :: L) := hH115
      obtain rfl := Option.some.inj ho86
      exact ⟨(s103, v105, v107, v109, A114), ha113.sub ⟨rfl, trivial⟩, ⟨rfl, hH, hr88⟩⟩
    rintro ⟨s87, v89, v91, v93, A98⟩ w95 ⟨rfl, hH99, hk96⟩ a ha97
    rw [Lp.andThen_fin] at hm
    replace hK := Tr.trans (Dw := False) hK hk96
    replace hB := Nat.le_trans hB hk96.ex.size
    replace hA := hk96.new
    replace hH : Hp B A98 w95 (obS (α := Int) 3 v44 s38 :: obC b_c [.int .i64 s87.zone.offset, v89, v91, v93] 28 :: obS (α := cal_Change) 49 v89 s87.zone.changes :: obS (α := cal_Shift) 51 v91 s87.week :: obS (α := cal_Special) 53 v93 s87.specials :: L) := hH99
    refine C_at (n := ⟨179, [], none⟩) (fun _ _ => rfl) ?_ ha97
    refine C_seq ?_
    refine C_region ?_
    refine V_y (Y_move rfl) rfl rfl rfl ?_
    refine V_y (Y_assign rfl) rfl rfl rfl ?_
    refine V_y (Y_assign rfl) rfl rfl rfl ?_
    refine V_to (fun _ _ => rfl) ?_
    obtain rfl := Option.some.inj hm
    replace hH : Hp B A98 w95 (obS (α := cal_Special) 53 v93 s87.specials :: obS (α := Int) 3 v44 s38 :: obC b_c [.int .i64 s87.zone.offset, v89, v91, v93] 28 :: obS (α := cal_Change) 49 v89 s87.zone.changes :: obS (α := cal_Shift) 51 v91 s87.week :: L) := Hp.front hH (i := 4) rfl
    replace hH : Hp B A98 w95 (obS (α := cal_Shift) 51 v91 s87.week :: obS (α := cal_Special) 53 v93 s87.specials :: obS (α := Int) 3 v44 s38 :: obC b_c [.int .i64 s87.zone.offset, v89, v91, v93] 28 :: obS (α := cal_Change) 49 v89 s87.zone.changes :: L) := Hp.front hH (i := 4) rfl
    replace hH : Hp B A98 w95 (obS (α := cal_Change) 49 v89 s87.zone.changes :: obS (α := cal_Shift) 51 v91 s87.week :: obS (α := cal_Special) 53 v93 s87.specials :: obS (α := Int) 3 v44 s38 :: obC b_c [.int .i64 s87.zone.offset, v89, v91, v93] 28 :: L) := Hp.front hH (i := 4) rfl
    replace hH : Hp B A98 w95 (obC b_c [.int .i64 s87.zone.offset, v89, v91, v93] 28 :: obS (α := cal_Change) 49 v89 s87.zone.changes :: obS (α := cal_Shift) 51 v91 s87.week :: obS (α := cal_Special) 53 v93 s87.specials :: obS (α := Int) 3 v44 s38 :: L) := Hp.front hH (i := 4) rfl
    replace hH : Hp B A98 w95 (obC b_c [.int .i64 s87.zone.offset, v89, v91, v93] 28 :: obS (α := cal_Change) 49 v89 s87.zone.changes :: obS (α := cal_Shift) 51 v91 s87.week :: obS (α := cal_Special) 53 v93 s87.specials :: L) := Hp.drop hH (i := 4) rfl
    refine C_ret ?_
    try simp only [↓inBlock_ret, ↓then_ret]
    exact retQ rfl (Res.two Tryz.results8 rfl rfl) ⟨v89, v91, v93, A98, rfl, hH, hK⟩

set_option maxRecDepth 4000 in
set_option maxHeartbeats 4000000 in
theorem cal_within_c (w : World) (n : Int) (low : Int) (high : Int) : Ret Tryz.prog 52 #[.int .i64 n, .int .i64 low, .int .i64 high] w fun v w' => v = .bool (cal_within n low high) ∧ w = w' := by
  generalize hm : cal_within n low high = r
  unfold cal_within at hm
  refine enter Tryz.func52 rfl Tryz.ntmps52 rfl ?_
  refine C_seq ?_
  refine C_region ?_
  refine V_y (Y_assign rfl) rfl rfl rfl ?_
  refine V_to (fun _ _ => rfl) ?_
  refine C_seq ?_
  refine C_region ?_
  refine V_y (Y_move rfl) rfl rfl rfl ?_
  refine V_y (Y_move rfl) rfl rfl rfl ?_
  refine V_y (Y_geq rfl rfl) rfl rfl rfl ?_
  refine V_y (Y_move rfl) rfl rfl rfl ?_
  refine V_cut 4 (fun _ : Unit => [(14, .bool ((decide (low ≤ n)) && (decide (n ≤ high))))]) (fun _ w' => w = w') ?_ ?_
  · simp only [List.take, List.drop]
    rcases Bool.eq_false_or_eq_true (decide (low ≤ n)) with hc1 | hc1
    · refine V_ge rfl rfl rfl hc1 ?_
      refine V_y (Y_move rfl) rfl rfl rfl ?_
      refine V_ge rfl rfl rfl hc1 ?_
      refine V_y (Y_move rfl) rfl rfl rfl ?_
      refine V_ge rfl rfl rfl hc1 ?_
      refine V_y (Y_leq rfl rfl) rfl rfl rfl ?_
      refine V_y (Y_pick_te rfl hc1 rfl) rfl rfl rfl ?_
      exact V_end fun a ha => ⟨(), ha.sub ⟨(by rw [hc1]; rfl), trivial⟩, rfl⟩
    · refine V_gn rfl rfl rfl hc1 rfl rfl rfl ?_
      refine V_gn rfl rfl rfl hc1 rfl rfl rfl ?_
      refine V_gn rfl rfl rfl hc1 rfl rfl rfl ?_
      refine V_y (Y_pick_fe rfl hc1 rfl) rfl rfl rfl ?_
      exact V_end fun a ha => ⟨(), ha.sub ⟨(by rw [hc1]; rfl), trivial⟩, rfl⟩
  simp only [List.take, List.drop]
  rintro _ _ rfl
  refine V_y (Y_assign rfl) rfl rfl rfl ?_
  refine V_to (fun _ _ => rfl) ?_
  obtain rfl := hm
  refine C_ret ?_
  try simp only [↓inBlock_ret, ↓then_ret]
  exact retQ rfl (Res.one Tryz.results52 rfl) ⟨rfl, rfl⟩

end Go.Proofs.YtebbjefkndfkpaaGreatDoor.W
