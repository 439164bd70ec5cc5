/-
  Written by program (gen.py) from the IR of the dump: each function computes its model.
-/
import Derived.Test.YtnkjmfbpkbooeaaGreatDoorProg
import Derived.Test.YtnkjmfbpkbooeaaGreatDoorGe
import Derived.Test.YtnkjmfbpkbooeaaGreatDoorClockReadsM
import Derived.KernelRfl
import Derived.Shelf.Strconv.AtoiAll
import Derived.Lib.AtoiErrMem
import Derived.Shelf.Strconv.Itoa3
import Derived.Shelf.Strings.Search3
import Derived.Shelf.Strings.SlTrimAscii
import Derived.Shelf.Strings.Split
import Derived.Test.YtnkjmfbpkbooeaaGreatDoorGi
import Derived.Test.YtnkjmfbpkbooeaaGreatDoorGg
import Derived.Test.YtnkjmfbpkbooeaaGreatDoorHi
import Derived.Test.YtnkjmfbpkbooeaaGreatDoorHd
import Derived.Test.YtnkjmfbpkbooeaaGreatDoorGv
namespace Go.Proofs.YtnkjmfbpkbooeaaGreatDoor.W
open Go Go.RowKit Go.Pu Go.Gw Go.Proofs Go.Proofs.YtnkjmfbpkbooeaaGreatDoor.M
set_option linter.unusedVariables false
set_option linter.unusedSimpArgs false
variable {Dw : Prop}

def Tryz_FR : (Nat → Prop) → World → Prop := fun A w => Tb Tryz.prog A w ∧ Mx Tryz.prog 0 A w ∧ Er Tryz.prog 3 A w ∧ Er Tryz.prog 4 A w
instance : Keeps Tryz_FR := ⟨fun h hh hs => ⟨Keeps.to (R := Tb Tryz.prog) ((h).1) hh hs, Keeps.to (R := Mx Tryz.prog 0) ((h).2.1) hh hs, Keeps.to (R := Er Tryz.prog 3) ((h).2.2.1) hh hs, Keeps.to (R := Er Tryz.prog 4) ((h).2.2.2) hh hs⟩⟩
theorem Tryz_info3 : Tryz.prog.info? 3 = some Tryz.t3 := by kernel_rfl
theorem Tryz_info38 : Tryz.prog.info? 38 = some Tryz.t38 := by kernel_rfl
theorem Tryz_places24 : ∀ fs, Tryz.prog.underlying 24 = some (.struct fs) → ∀ w : World, (Array.mapM (fun (f : Field) => do pure (f.offset, ← Go.sizeOf f.type)) fs).run Tryz.prog w = .ok #[(0, 1), (1, 1), (2, 1), (3, 1), (4, 1), (5, 1), (6, 1)] w := by
  intro fs h w
  rw [Tryz.underlying24] at h
  cases h
  kernel_rfl
theorem Tryz_places38 : ∀ fs, Tryz.prog.underlying 38 = some (.struct fs) → ∀ w : World, (Array.mapM (fun (f : Field) => do pure (f.offset, ← Go.sizeOf f.type)) fs).run Tryz.prog w = .ok #[(0, 1), (1, 1), (2, 1)] w := by
  intro fs h w
  rw [Tryz.underlying38] at h
  cases h
  kernel_rfl
theorem Tryz_eqt38_10000 (a0 : Int) (a1 : Int) (a2 : Int) (b0 : Int) (b1 : Int) (b2 : Int) (w : World) : (Op.equalIn 10000 38 (.agg #[.int .i64 a0, .int .i64 a1, .int .i64 a2]) (.agg #[.int .i64 b0, .int .i64 b1, .int .i64 b2])).run Tryz.prog w = .ok (a0 == b0 && (a1 == b1 && (a2 == b2))) w := by
  refine (run_equalIn_struct w 9999 38 _ _ (by kernel_rfl) (by kernel_rfl)).trans ?_
  rw [show Tryz.prog.fieldsOf 38 = _ from by unfold Program.fieldsOf; rw [Tryz.underlying38]]
  cases h0 : (a0 == b0) <;> cases h1 : (a1 == b1) <;> cases h2 : (a2 == b2) <;> simp_all [Op.eqFields, part, strEq, Tryz.isAgg3, run_equalIn_int _ _ _ _ _ _ _ Tryz.underlying3]
theorem Tryz_eqg38 : Tryz.prog.eqGuardType Tryz.prog.depth 38 = false := by kernel_rfl
theorem Tryz_mixed : Tryz.prog.follows .mixedOrders = true := by kernel_rfl

instance : GoT level_Piece := GoT.of (β := Int × Int × Int) fun x => (x.from_, x.to_, x.calendar)

instance : Flat level_Piece := ⟨fun {A w A1 w1 cs x} h => Flat.flat (α := Int × Int × Int) (x := (x.from_, x.to_, x.calendar)) (A := A) (w := w) h⟩

theorem El_level_Piece_ {A : Nat → Prop} {w : World} {b off : Nat} {x : level_Piece} (h : El A w b off x) : El (α := Int × Int × Int) A w b off (x.from_, x.to_, x.calendar) := h

theorem El_level_Piece_0 {A : Nat → Prop} {w : World} {b off : Nat} {x : level_Piece} (h : El A w b off x) : El A w b (off + 0) x.from_ := El.fst (El_level_Piece_ h)

theorem El_level_Piece_1 {A : Nat → Prop} {w : World} {b off : Nat} {x : level_Piece} (h : El A w b off x) : El A w b (off + 1) x.to_ := El.fst (El.snd (El_level_Piece_ h))

theorem El_level_Piece_2 {A : Nat → Prop} {w : World} {b off : Nat} {x : level_Piece} (h : El A w b off x) : El A w b (off + 2) x.calendar := El.snd (El.snd (El_level_Piece_ h))

theorem El_level_Piece {A : Nat → Prop} {w : World} {b off : Nat} {x : level_Piece} (h : El A w b off x) : At w b off [.int .i64 x.from_, .int .i64 x.to_, .int .i64 x.calendar] ∧ True := by
  obtain ⟨h1, h2, cs, h3, h4⟩ := h
  obtain ⟨_, _, rfl, rfl, ⟨_, _, rfl, rfl, rfl⟩⟩ := h3
  exact ⟨h4, trivial⟩

instance : GoT level_Clock := GoT.of (β := Int × Int × Int × Int × Int × Int × (List level_Piece)) fun x => (x.kind, x.level, x.minutes, x.start, x.stop, x.end_, x.pieces)

theorem El_level_Clock_ {A : Nat → Prop} {w : World} {b off : Nat} {x : level_Clock} (h : El A w b off x) : El (α := Int × Int × Int × Int × Int × Int × (List level_Piece)) A w b off (x.kind, x.level, x.minutes, x.start, x.stop, x.end_, x.pieces) := h

theorem El_level_Clock_0 {A : Nat → Prop} {w : World} {b off : Nat} {x : level_Clock} (h : El A w b off x) : El A w b (off + 0) x.kind := El.fst (El_level_Clock_ h)

theorem El_level_Clock_1 {A : Nat → Prop} {w : World} {b off : Nat} {x : level_Clock} (h : El A w b off x) : El A w b (off + 1) x.level := El.fst (El.snd (El_level_Clock_ h))

theorem El_level_Clock_2 {A : Nat → Prop} {w : World} {b off : Nat} {x : level_Clock} (h : El A w b off x) : El A w b (off + 2) x.minutes := El.fst (El.snd (El.snd (El_level_Clock_ h)))

theorem El_level_Clock_3 {A : Nat → Prop} {w : World} {b off : Nat} {x : level_Clock} (h : El A w b off x) : El A w b (off + 3) x.start := El.fst (El.snd (El.snd (El.snd (El_level_Clock_ h))))

theorem El_level_Clock_4 {A : Nat → Prop} {w : World} {b off : Nat} {x : level_Clock} (h : El A w b off x) : El A w b (off + 4) x.stop := El.fst (El.snd (El.snd (El.snd (El.snd (El_level_Clock_ h)))))

theorem El_level_Clock_5 {A : Nat → Prop} {w : World} {b off : Nat} {x : level_Clock} (h : El A w b off x) : El A w b (off + 5) x.end_ := El.fst (El.snd (El.snd (El.snd (El.snd (El.snd (El_level_Clock_ h))))))

theorem El_level_Clock_6 {A : Nat → Prop} {w : World} {b off : Nat} {x : level_Clock} (h : El A w b off x) : El A w b (off + 6) x.pieces := El.snd (El.snd (El.snd (El.snd (El.snd (El.snd (El_level_Clock_ h))))))

theorem El_level_Clock {A : Nat → Prop} {w : World} {b off : Nat} {x : level_Clock} (h : El A w b off x) : ∃ v1, At w b off [.int .i64 x.kind, .int .i64 x.level, .int .i64 x.minutes, .int .i64 x.start, .int .i64 x.stop, .int .i64 x.end_, v1] ∧ Sl A w v1 x.pieces := by
  obtain ⟨h1, h2, cs, h3, h4⟩ := h
  obtain ⟨_, _, rfl, rfl, ⟨_, _, rfl, rfl, ⟨_, _, rfl, rfl, ⟨_, _, rfl, rfl, ⟨_, _, rfl, rfl, ⟨_, _, rfl, rfl, ⟨u1, rfl, g1⟩⟩⟩⟩⟩⟩⟩ := h3
  exact ⟨u1, h4, g1⟩

set_option maxRecDepth 4000 in
set_option maxHeartbeats 4000000 in
theorem internal_stringslite_HasSuffix_c (w : World) (s : ByteArray) (suffix : ByteArray) {r : Bool} (hm : internal_stringslite_HasSuffix s suffix = some r) : Ret Tryz.prog 53 #[.string s, .string suffix] w fun v w' => v = .bool r ∧ w = w' := by
  unfold internal_stringslite_HasSuffix at hm
  refine enter Tryz.func53 rfl Tryz.ntmps53 rfl ?_
  refine C_seq ?_
  refine C_region ?_
  refine V_y (Y_assign rfl) rfl rfl rfl ?_
  refine V_to (fun _ _ => rfl) ?_
  refine C_seq ?_
  refine C_region ?_
  refine V_y (Y_move rfl) rfl rfl rfl ?_
  refine V_y (Y_lenStr rfl Tryz.underlying9 rfl) rfl rfl rfl ?_
  refine V_y (Y_move rfl) rfl rfl rfl ?_
  refine V_y (Y_lenStr rfl Tryz.underlying9 rfl) rfl rfl rfl ?_
  refine V_y (Y_geq rfl rfl) rfl rfl rfl ?_
  refine V_y (Y_move rfl) rfl rfl rfl ?_
  obtain ⟨s2, hs2, hm⟩ := Option.bind_eq_some_iff.1 hm
  refine V_cut 10 (fun _ : Unit => [(20, .bool s2)]) (fun _ w' => w = w') ?_ ?_
  · simp only [List.take, List.drop]
    rcases Bool.eq_false_or_eq_true (decide ((suffix.size : Int) ≤ (s.size : Int))) with hc1 | hc1
    · rw [if_pos hc1] at hs2
      refine V_ge rfl rfl rfl hc1 ?_
      refine V_y (Y_move rfl) rfl rfl rfl ?_
      refine V_ge rfl rfl rfl hc1 ?_
      refine V_y (Y_move rfl) rfl rfl rfl ?_
      refine V_ge rfl rfl rfl hc1 ?_
      refine V_y (Y_lenStr rfl Tryz.underlying9 rfl) rfl rfl rfl ?_
      refine V_ge rfl rfl rfl hc1 ?_
      refine V_y (Y_move rfl) rfl rfl rfl ?_
      refine V_ge rfl rfl rfl hc1 ?_
      refine V_y (Y_lenStr rfl Tryz.underlying9 rfl) rfl rfl rfl ?_
      refine V_ge rfl rfl rfl hc1 ?_
      refine V_y (Y_subI rfl rfl) rfl rfl rfl ?_
      refine V_ge rfl rfl rfl hc1 ?_
      obtain ⟨x3, hx3, hs2⟩ := Option.bind_eq_some_iff.1 hs2
      refine V_y (Y_sliceSL hx3 Tryz.underlying9 rfl rfl) rfl rfl rfl ?_
      refine V_ge rfl rfl rfl hc1 ?_
      refine V_y (Y_move rfl) rfl rfl rfl ?_
      refine V_ge rfl rfl rfl hc1 ?_
      refine V_y (Y_seql rfl rfl) rfl rfl rfl ?_
      refine V_y (Y_pick_te rfl hc1 rfl) rfl rfl rfl ?_
      obtain rfl := Option.some.inj hs2
      exact V_end fun a ha => ⟨(), ha.sub ⟨rfl, trivial⟩, rfl⟩
    · rw [if_neg (nt hc1)] at hs2
      refine V_gn rfl rfl rfl hc1 rfl rfl rfl ?_
      refine V_gn rfl rfl rfl hc1 rfl rfl rfl ?_
      refine V_gn rfl rfl rfl hc1 rfl rfl rfl ?_
      refine V_gn rfl rfl rfl hc1 rfl rfl rfl ?_
      refine V_gn rfl rfl rfl hc1 rfl rfl rfl ?_
      refine V_gn rfl rfl rfl hc1 rfl rfl rfl ?_
      refine V_gn rfl rfl rfl hc1 rfl rfl rfl ?_
      refine V_gn rfl rfl rfl hc1 rfl rfl rfl ?_
      refine V_gn rfl rfl rfl hc1 rfl rfl rfl ?_
      refine V_y (Y_pick_fe rfl hc1 rfl) rfl rfl rfl ?_
      obtain rfl := Option.some.inj hs2
      exact V_end fun a ha => ⟨(), ha.sub ⟨rfl, trivial⟩, rfl⟩
  simp only [List.take, List.drop]
  rintro _ _ rfl
  refine V_y (Y_assign rfl) rfl rfl rfl ?_
  refine V_to (fun _ _ => rfl) ?_
  obtain rfl := Option.some.inj hm
  refine C_ret ?_
  try simp only [↓inBlock_ret, ↓then_ret]
  exact retQ rfl (Res.one Tryz.results53 rfl) ⟨rfl, rfl⟩

set_option maxRecDepth 4000 in
set_option maxHeartbeats 4000000 in
theorem internal_stringslite_CutSuffix_c (w : World) (s : ByteArray) (suffix : ByteArray) {r : (ByteArray × Bool)} (hm : internal_stringslite_CutSuffix s suffix = some r) : Ret Tryz.prog 45 #[.string s, .string suffix] w fun v w' => v = .tuple #[.string r.1, .bool r.2] ∧ w = w' := by
  unfold internal_stringslite_CutSuffix at hm
  refine enter Tryz.func45 rfl Tryz.ntmps45 rfl ?_
  refine C_seq ?_
  refine C_region ?_
  refine V_y (Y_assign rfl) rfl rfl rfl ?_
  refine V_y (Y_assign rfl) rfl rfl rfl ?_
  refine V_to (fun _ _ => rfl) ?_
  refine C_seq ?_
  refine C_seq ?_
  refine C_region ?_
  refine V_y (Y_move rfl) rfl rfl rfl ?_
  refine V_y (Y_move rfl) rfl rfl rfl ?_
  obtain ⟨x1, hx1, hm⟩ := Option.bind_eq_some_iff.1 hm
  refine V_call Tryz.call53 rfl rfl rfl rfl (internal_stringslite_HasSuffix_c w s suffix hx1) ?_
  rintro _ _ ⟨rfl, rfl⟩
  refine V_y (Y_not rfl) rfl rfl rfl ?_
  refine V_to (fun _ _ => rfl) ?_
  refine C_cond rfl (fun hc2 => ?_) (fun hc2 => ?_)
  · rw [if_pos hc2] at hm
    refine C_seq ?_
    refine C_region ?_
    refine V_y (Y_move rfl) rfl rfl rfl ?_
    refine V_y (Y_assign rfl) rfl rfl rfl ?_
    refine V_y (Y_assign rfl) rfl rfl rfl ?_
    refine V_to (fun _ _ => rfl) ?_
    obtain rfl := Option.some.inj hm
    refine C_ret ?_
    try simp only [↓inBlock_ret, ↓then_ret]
    exact retQ rfl (Res.two Tryz.results45 rfl rfl) ⟨rfl, rfl⟩
  · rw [if_neg (nt hc2)] at hm
    refine C_skip_to (fun _ _ => rfl) ?_
    refine C_seq ?_
    refine C_region ?_
    refine V_y (Y_move rfl) rfl rfl rfl ?_
    refine V_y (Y_move rfl) rfl rfl rfl ?_
    refine V_y (Y_lenStr rfl Tryz.underlying9 rfl) rfl rfl rfl ?_
    refine V_y (Y_move rfl) rfl rfl rfl ?_
    refine V_y (Y_lenStr rfl Tryz.underlying9 rfl) rfl rfl rfl ?_
    refine V_y (Y_subI rfl rfl) rfl rfl rfl ?_
    obtain ⟨x3, hx3, hm⟩ := Option.bind_eq_some_iff.1 hm
    refine V_y (Y_sliceSH hx3 Tryz.underlying9 rfl rfl) rfl rfl rfl ?_
    refine V_y (Y_assign rfl) rfl rfl rfl ?_
    refine V_y (Y_assign rfl) rfl rfl rfl ?_
    refine V_to (fun _ _ => rfl) ?_
    obtain rfl := Option.some.inj hm
    refine C_ret ?_
    try simp only [↓inBlock_ret, ↓then_ret]
    exact retQ rfl (Res.two Tryz.results45 rfl rfl) ⟨rfl, rfl⟩

set_option maxRecDepth 4000 in
set_option maxHeartbeats 4000000 in
theorem strings_CutSuffix_c (w : World) (s : ByteArray) (suffix : ByteArray) {r : (ByteArray × Bool)} (hm : strings_CutSuffix s suffix = some r) : Ret Tryz.prog 7 #[.string s, .string suffix] w fun v w' => v = .tuple #[.string r.1, .bool r.2] ∧ w = w' := by
  unfold strings_CutSuffix at hm
  refine enter Tryz.func7 rfl Tryz.ntmps7 rfl ?_
  refine C_seq ?_
  refine C_region ?_
  refine V_y (Y_assign rfl) rfl rfl rfl ?_
  refine V_y (Y_assign rfl) rfl rfl rfl ?_
  refine V_to (fun _ _ => rfl) ?_
  refine C_seq ?_
  refine C_region ?_
  refine V_y (Y_move rfl) rfl rfl rfl ?_
  refine V_y (Y_move rfl) rfl rfl rfl ?_
  obtain ⟨x1, hx1, hm⟩ := Option.bind_eq_some_iff.1 hm
  refine V_call Tryz.call45 rfl rfl rfl rfl (internal_stringslite_CutSuffix_c w s suffix hx1) ?_
  rintro _ _ ⟨rfl, rfl⟩
  refine V_y (Y_extract rfl rfl) rfl rfl rfl ?_
  refine V_y (Y_extract rfl rfl) rfl rfl rfl ?_
  refine V_y (Y_assign rfl) rfl rfl rfl ?_
  refine V_y (Y_assign rfl) rfl rfl rfl ?_
  refine V_to (fun _ _ => rfl) ?_
  obtain rfl := Option.some.inj hm
  refine C_ret ?_
  try simp only [↓inBlock_ret, ↓then_ret]
  exact retQ rfl (Res.two Tryz.results7 rfl rfl) ⟨rfl, rfl⟩

def Tryz_strings_genSplit_lay_ren : Go.Shelf.Ren := ⟨fun | 138 => 55 | 143 => 50 | 195 => 61 | 197 => 62 | 217 => 69 | 218 => 63 | 219 => 60 | 221 => 46 | 224 => 71 | 225 => 70 | 260 => 73 | 266 => 88 | 267 => 72 | 268 => 54 | 314 => 89 | n => n, fun | 0 => 0 | 1 => 1 | 2 => 2 | 3 => 3 | 4 => 4 | 5 => 5 | 6 => 6 | 7 => 7 | 8 => 8 | 9 => 9 | 10 => 10 | 11 => 11 | 12 => 12 | 13 => 13 | 14 => 14 | 15 => 15 | 16 => 16 | 17 => 17 | 18 => 18 | 19 => 19 | 20 => 20 | 21 => 21 | 22 => 42 | 23 => 160 | 24 => 30 | 25 => 31 | 27 => 151 | 28 => 34 | 31 => 32 | 34 => 82 | 37 => 170 | 40 => 216 | 41 => 203 | 46 => 168 | 47 => 213 | 51 => 184 | 52 => 215 | 53 => 191 | 54 => 199 | 55 => 165 | 61 => 33 | 63 => 204 | 64 => 214 | 69 => 194 | 74 => 155 | 75 => 156 | 76 => 157 | 77 => 158 | 80 => 219 | 81 => 225 | 83 => 159 | 84 => 176 | 85 => 171 | 86 => 172 | 101 => 76 | 103 => 162 | 104 => 29 | 105 => 163 | 106 => 164 | 108 => 197 | 111 => 152 | 113 => 147 | 114 => 167 | 115 => 178 | 116 => 179 | 117 => 180 | 118 => 181 | 119 => 187 | 122 => 177 | 123 => 182 | 124 => 183 | 127 => 206 | 128 => 166 | 131 => 148 | 137 => 188 | 138 => 189 | 139 => 190 | 143 => 207 | 144 => 208 | 145 => 209 | 146 => 185 | 150 => 154 | 151 => 186 | 164 => 238 | 167 => 169 | 168 => 173 | 169 => 174 | 170 => 175 | 171 => 198 | 172 => 200 | 173 => 201 | 174 => 202 | 175 => 192 | 176 => 193 | 209 => 195 | 210 => 196 | 211 => 210 | 212 => 211 | 213 => 212 | 214 => 205 | 232 => 217 | 233 => 218 | 238 => 220 | 239 => 221 | 240 => 222 | 241 => 223 | 242 => 224 | 243 => 226 | 244 => 227 | 245 => 228 | 246 => 229 | 247 => 230 | 248 => 231 | 249 => 232 | n => n, fun | 1 => 0 | 3 => 1 | 4 => 2 | 15 => 3 | 16 => 4 | 17 => 5 | 18 => 6 | 19 => 7 | n => n⟩
theorem Tryz_strings_genSplit_lay : Go.Proofs.Lays.n221 Tryz.prog Tryz_strings_genSplit_lay_ren := {
  mixed := by kernel_rfl,
  f138 := Tryz.func55.trans (congrArg some (by kernel_rfl)),
  f143 := Tryz.func50.trans (congrArg some (by kernel_rfl)),
  f195 := Tryz.func61.trans (congrArg some (by kernel_rfl)),
  f197 := Tryz.func62.trans (congrArg some (by kernel_rfl)),
  f217 := Tryz.func69.trans (congrArg some (by kernel_rfl)),
  f218 := Tryz.func63.trans (congrArg some (by kernel_rfl)),
  f219 := Tryz.func60.trans (congrArg some (by kernel_rfl)),
  f221 := Tryz.func46.trans (congrArg some (by kernel_rfl)),
  f224 := Tryz.func71.trans (congrArg some (by kernel_rfl)),
  f225 := Tryz.func70.trans (congrArg some (by kernel_rfl)),
  f260 := Tryz.func73.trans (congrArg some (by kernel_rfl)),
  f266 := Tryz.func88.trans (congrArg some (by kernel_rfl)),
  f267 := Tryz.func72.trans (congrArg some (by kernel_rfl)),
  f268 := Tryz.func54.trans (congrArg some (by kernel_rfl)),
  f314 := Tryz.func89.trans (congrArg some (by kernel_rfl)),
  t0 := Tryz.underlying0,
  a0 := Tryz.isAgg0,
  z0 := Tryz.sizeOf0,
  v0 := Tryz.zeroValue0,
  t3 := Tryz.underlying3,
  a3 := Tryz.isAgg3,
  z3 := Tryz.sizeOf3,
  v3 := Tryz.zeroValue3,
  t4 := Tryz.underlying4,
  a4 := Tryz.isAgg4,
  z4 := Tryz.sizeOf4,
  v4 := Tryz.zeroValue4,
  t5 := Tryz.underlying5,
  a5 := Tryz.isAgg5,
  z5 := Tryz.sizeOf5,
  v5 := Tryz.zeroValue5,
  t9 := Tryz.underlying9,
  a9 := Tryz.isAgg9,
  z9 := Tryz.sizeOf9,
  v9 := Tryz.zeroValue9,
  t21 := Tryz.underlying21,
  a21 := Tryz.isAgg21,
  z21 := Tryz.sizeOf21,
  v21 := Tryz.zeroValue21,
  t31 := Tryz.underlying32,
  a31 := Tryz.isAgg32,
  z31 := Tryz.sizeOf32,
  v31 := Tryz.zeroValue32,
  t46 := Tryz.underlying168,
  a46 := Tryz.isAgg168,
  z46 := Tryz.sizeOf168,
  v46 := Tryz.zeroValue168,
  t51 := Tryz.underlying184,
  a51 := Tryz.isAgg184,
  z51 := Tryz.sizeOf184,
  v51 := Tryz.zeroValue184,
  t105 := Tryz.underlying163,
  a105 := Tryz.isAgg163,
  z105 := Tryz.sizeOf163,
  v105 := Tryz.zeroValue163,
  t119 := Tryz.underlying187,
  a119 := Tryz.isAgg187,
  z119 := Tryz.sizeOf187,
  t138 := Tryz.underlying189,
  a138 := Tryz.isAgg189,
  z138 := Tryz.sizeOf189,
  v138 := Tryz.zeroValue189,
  t139 := Tryz.underlying190,
  a139 := Tryz.isAgg190,
  z139 := Tryz.sizeOf190,
  v139 := Tryz.zeroValue190,
  t146 := Tryz.underlying185,
  a146 := Tryz.isAgg185,
  z146 := Tryz.sizeOf185,
  v146 := Tryz.zeroValue185,
  g1 := by kernel_rfl,
  g3 := by kernel_rfl,
  g4 := by kernel_rfl }
theorem strings_genSplit_c (w : World) {A : Nat → Prop} (hA : ∀ b, w.heap.size ≤ b → A b) (hT : Mx Tryz.prog 0 A w) (s : ByteArray) (sep : ByteArray) (sepSave : Int) (n : Int) {r : List ByteArray} (hm : strings_genSplit s sep sepSave n = some r) : Ret Tryz.prog 46 #[.string s, .string sep, .int .i64 sepSave, .int .i64 n] w fun v w' => ∃ s0, v = s0 ∧ Sl A w' s0 r ∧ Kp Dw w w' := by
  unfold strings_genSplit at hm
  split at hm
  case isFalse => cases hm
  rename_i h
  obtain ⟨h1, h2, h3, h4, rfl⟩ := h
  obtain rfl := Option.some.inj hm
  obtain ⟨⟨m, hmx⟩, _, _⟩ := hT
  obtain ⟨k, rfl⟩ := Int.eq_ofNat_of_zero_le h3
  have hlen := Go.Lib.splitB_length_le sep (k : Int).toNat (min (Go.Lib.countB s sep + 1) (s.size + 1) - 1) s
  refine split_wrap (Dw := Dw) (N := min (Go.Lib.countB s sep + 1) (s.size + 1)) (sv := k) hA (by omega) (by unfold maxLen; omega) (Go.Proofs.Any.strings_genSplit Tryz_strings_genSplit_lay (by kernel_rfl) s sep k (-1) _ m w h1 hmx h2 (by omega) (by decide) (by decide) ?_)
  rw [if_pos (by decide)]
  omega

set_option maxRecDepth 4000 in
set_option maxHeartbeats 4000000 in
theorem strings_Split_c (w : World) {A : Nat → Prop} (hA : ∀ b, w.heap.size ≤ b → A b) (hT : Fz Tryz_FR A w) (s : ByteArray) (sep : ByteArray) {r : (List ByteArray)} (hm : strings_Split s sep = some r) : Ret Tryz.prog 8 #[.string s, .string sep] w fun v w' => ∃ s0, v = s0 ∧ Sl A w' s0 r ∧ Kp Dw w w' := by
  unfold strings_Split at hm
  refine enter Tryz.func8 rfl Tryz.ntmps8 rfl ?_
  have hA0 := hA
  have hB := Nat.le_refl w.heap.size
  have hK : Tr Dw w.heap.size A w A w := Tr.refl (Dw := Dw) hA
  have hH : Hp w.heap.size A w [] := Hp.nil
  refine C_seq ?_
  refine C_region ?_
  refine V_y (Y_assign rfl) rfl rfl rfl ?_
  refine V_to (fun _ _ => rfl) ?_
  refine C_seq ?_
  refine C_region ?_
  refine V_y (Y_move rfl) rfl rfl rfl ?_
  refine V_y (Y_move rfl) rfl rfl rfl ?_
  obtain ⟨x1, hx1, hm⟩ := Option.bind_eq_some_iff.1 hm
  refine V_call Tryz.call46 rfl rfl rfl rfl (strings_genSplit_c (Dw := Dw) w hA ((Fz.tr (Dw := Dw) hT hK)).2.1 s sep 0 (-1) hx1) ?_
  rintro v2 w4 ⟨_, rfl, h3, hk5⟩
  have ht6 := Kp.tr (Dw := Dw) hk5 hA hB
  replace hH := Hp.kp (Dw := Dw) hH hk5
  replace hK := Tr.trans (Dw := Dw) hK ht6
  replace hB := Nat.le_trans hB ht6.ex.size
  replace hA := ht6.new
  refine V_y (Y_assign rfl) rfl rfl rfl ?_
  refine V_to (fun _ _ => rfl) ?_
  obtain rfl := Option.some.inj hm
  refine C_ret ?_
  try simp only [↓inBlock_ret, ↓then_ret]
  exact retQ rfl (Res.one Tryz.results8 rfl) ⟨v2, rfl, (Sl.out (Dw := Dw) h3 hA0 hK), hK.kp⟩

def Tryz_strconv_Atoi_lay_ren : Go.Shelf.Ren := ⟨fun | 129 => 103 | 171 => 57 | 172 => 56 | 205 => 92 | 243 => 66 | 244 => 64 | 245 => 65 | 246 => 79 | 247 => 74 | 279 => 75 | 280 => 76 | 281 => 77 | 282 => 78 | 283 => 93 | 284 => 94 | 285 => 95 | 286 => 96 | 287 => 90 | 316 => 91 | 317 => 102 | 318 => 104 | 319 => 105 | 320 => 106 | 321 => 100 | 322 => 101 | 337 => 109 | 338 => 110 | n => n, fun | 0 => 0 | 1 => 1 | 2 => 2 | 3 => 3 | 4 => 4 | 5 => 5 | 6 => 6 | 7 => 7 | 8 => 8 | 9 => 9 | 10 => 10 | 11 => 11 | 12 => 12 | 13 => 13 | 14 => 14 | 15 => 15 | 16 => 16 | 17 => 17 | 18 => 18 | 19 => 19 | 20 => 20 | 21 => 21 | 22 => 42 | 23 => 160 | 24 => 30 | 25 => 31 | 27 => 151 | 28 => 34 | 31 => 32 | 34 => 82 | 37 => 170 | 40 => 216 | 41 => 203 | 46 => 168 | 47 => 213 | 51 => 184 | 52 => 215 | 53 => 191 | 54 => 199 | 55 => 165 | 61 => 33 | 63 => 204 | 64 => 214 | 69 => 194 | 74 => 155 | 75 => 156 | 76 => 157 | 77 => 158 | 80 => 219 | 81 => 225 | 83 => 159 | 84 => 176 | 85 => 171 | 86 => 172 | 101 => 76 | 103 => 162 | 104 => 29 | 105 => 163 | 106 => 164 | 108 => 197 | 111 => 152 | 113 => 147 | 114 => 167 | 115 => 178 | 116 => 179 | 117 => 180 | 118 => 181 | 119 => 187 | 122 => 177 | 123 => 182 | 124 => 183 | 127 => 206 | 128 => 166 | 131 => 148 | 137 => 188 | 138 => 189 | 139 => 190 | 143 => 207 | 144 => 208 | 145 => 209 | 146 => 185 | 150 => 154 | 151 => 186 | 164 => 238 | 167 => 169 | 168 => 173 | 169 => 174 | 170 => 175 | 171 => 198 | 172 => 200 | 173 => 201 | 174 => 202 | 175 => 192 | 176 => 193 | 209 => 195 | 210 => 196 | 211 => 210 | 212 => 211 | 213 => 212 | 214 => 205 | 232 => 217 | 233 => 218 | 238 => 220 | 239 => 221 | 240 => 222 | 241 => 223 | 242 => 224 | 243 => 226 | 244 => 227 | 245 => 228 | 246 => 229 | 247 => 230 | 248 => 231 | 249 => 232 | n => n, fun | 1 => 0 | 3 => 1 | 4 => 2 | 15 => 3 | 16 => 4 | 17 => 5 | 18 => 6 | 19 => 7 | n => n⟩
theorem Tryz_strconv_Atoi_laym0 : Go.Proofs.Lays.n172 Tryz.prog Tryz_strconv_Atoi_lay_ren := {
  mixed := by kernel_rfl,
  f129 := Tryz.func103.trans (congrArg some (by kernel_rfl)),
  f171 := Tryz.func57.trans (congrArg some (by kernel_rfl)),
  f172 := Tryz.func56.trans (congrArg some (by kernel_rfl)),
  f205 := Tryz.func92.trans (congrArg some (by kernel_rfl)),
  f243 := Tryz.func66.trans (congrArg some (by kernel_rfl)),
  f244 := Tryz.func64.trans (congrArg some (by kernel_rfl)),
  f245 := Tryz.func65.trans (congrArg some (by kernel_rfl)),
  f246 := Tryz.func79.trans (congrArg some (by kernel_rfl)),
  f247 := Tryz.func74.trans (congrArg some (by kernel_rfl)),
  f279 := Tryz.func75.trans (congrArg some (by kernel_rfl)),
  f280 := Tryz.func76.trans (congrArg some (by kernel_rfl)),
  f281 := Tryz.func77.trans (congrArg some (by kernel_rfl)),
  f282 := Tryz.func78.trans (congrArg some (by kernel_rfl)),
  f283 := Tryz.func93.trans (congrArg some (by kernel_rfl)),
  f284 := Tryz.func94.trans (congrArg some (by kernel_rfl)),
  f285 := Tryz.func95.trans (congrArg some (by kernel_rfl)),
  f286 := Tryz.func96.trans (congrArg some (by kernel_rfl)),
  f287 := Tryz.func90.trans (congrArg some (by kernel_rfl)),
  f316 := Tryz.func91.trans (congrArg some (by kernel_rfl)),
  f317 := Tryz.func102.trans (congrArg some (by kernel_rfl)),
  f318 := Tryz.func104.trans (congrArg some (by kernel_rfl)),
  f319 := Tryz.func105.trans (congrArg some (by kernel_rfl)),
  f320 := Tryz.func106.trans (congrArg some (by kernel_rfl)),
  f321 := Tryz.func100.trans (congrArg some (by kernel_rfl)),
  f322 := Tryz.func101.trans (congrArg some (by kernel_rfl)),
  f337 := Tryz.func109.trans (congrArg some (by kernel_rfl)),
  f338 := Tryz.func110.trans (congrArg some (by kernel_rfl)),
  t0 := Tryz.underlying0,
  a0 := Tryz.isAgg0,
  z0 := Tryz.sizeOf0,
  v0 := Tryz.zeroValue0,
  t2 := Tryz.underlying2,
  a2 := Tryz.isAgg2,
  z2 := Tryz.sizeOf2,
  v2 := Tryz.zeroValue2,
  t3 := Tryz.underlying3,
  a3 := Tryz.isAgg3,
  z3 := Tryz.sizeOf3,
  v3 := Tryz.zeroValue3,
  t4 := Tryz.underlying4,
  a4 := Tryz.isAgg4,
  z4 := Tryz.sizeOf4,
  v4 := Tryz.zeroValue4,
  t5 := Tryz.underlying5,
  a5 := Tryz.isAgg5,
  z5 := Tryz.sizeOf5,
  v5 := Tryz.zeroValue5,
  t9 := Tryz.underlying9,
  a9 := Tryz.isAgg9,
  z9 := Tryz.sizeOf9,
  v9 := Tryz.zeroValue9,
  t20 := Tryz.underlying20,
  a20 := Tryz.isAgg20,
  z20 := Tryz.sizeOf20,
  v20 := Tryz.zeroValue20,
  t21 := Tryz.underlying21,
  a21 := Tryz.isAgg21,
  z21 := Tryz.sizeOf21,
  v21 := Tryz.zeroValue21,
  t37 := Tryz.underlying170,
  a37 := Tryz.isAgg170,
  z37 := Tryz.sizeOf170,
  v37 := Tryz.zeroValue170,
  t46 := Tryz.underlying168,
  a46 := Tryz.isAgg168,
  z46 := Tryz.sizeOf168,
  v46 := Tryz.zeroValue168,
  t51 := Tryz.underlying184,
  a51 := Tryz.isAgg184,
  z51 := Tryz.sizeOf184,
  v51 := Tryz.zeroValue184,
  t53 := Tryz.underlying191,
  a53 := Tryz.isAgg191,
  z53 := Tryz.sizeOf191,
  v53 := Tryz.zeroValue191,
  t75 := Tryz.underlying156,
  a75 := Tryz.isAgg156,
  z75 := Tryz.sizeOf156,
  v75 := Tryz.zeroValue156,
  t76 := Tryz.underlying157,
  a76 := Tryz.isAgg157,
  z76 := Tryz.sizeOf157,
  v76 := Tryz.zeroValue157,
  t85 := Tryz.underlying171,
  a85 := Tryz.isAgg171,
  z85 := Tryz.sizeOf171,
  v85 := Tryz.zeroValue171,
  t127 := Tryz.underlying206,
  a127 := Tryz.isAgg206,
  z127 := Tryz.sizeOf206,
  v127 := Tryz.zeroValue206,
  t143 := Tryz.underlying207,
  a143 := Tryz.isAgg207,
  z143 := Tryz.sizeOf207,
  v143 := Tryz.zeroValue207,
  t145 := Tryz.underlying209,
  a145 := Tryz.isAgg209,
  z145 := Tryz.sizeOf209,
  v145 := Tryz.zeroValue209,
  t167 := Tryz.underlying169,
  a167 := Tryz.isAgg169,
  z167 := Tryz.sizeOf169,
  v167 := Tryz.zeroValue169,
  t168 := Tryz.underlying173,
  a168 := Tryz.isAgg173,
  z168 := Tryz.sizeOf173,
  v168 := Tryz.zeroValue173,
  t171 := Tryz.underlying198,
  a171 := Tryz.isAgg198,
  z171 := Tryz.sizeOf198,
  v171 := Tryz.zeroValue198,
  t173 := Tryz.underlying201,
  a173 := Tryz.isAgg201,
  z173 := Tryz.sizeOf201,
  v173 := Tryz.zeroValue201,
  t175 := Tryz.underlying192,
  a175 := Tryz.isAgg192,
  z175 := Tryz.sizeOf192,
  v175 := Tryz.zeroValue192,
  t210 := Tryz.underlying196,
  a210 := Tryz.isAgg196,
  z210 := Tryz.sizeOf196,
  v210 := Tryz.zeroValue196,
  t212 := Tryz.underlying211,
  a212 := Tryz.isAgg211,
  z212 := Tryz.sizeOf211,
  v212 := Tryz.zeroValue211,
  t213 := Tryz.underlying212,
  a213 := Tryz.isAgg212,
  z213 := Tryz.sizeOf212,
  t232 := Tryz.underlying217,
  a232 := Tryz.isAgg217,
  z232 := Tryz.sizeOf217,
  v232 := Tryz.zeroValue217,
  t233 := Tryz.underlying218,
  a233 := Tryz.isAgg218,
  z233 := Tryz.sizeOf218,
  v233 := Tryz.zeroValue218,
  g15 := by kernel_rfl,
  g16 := by kernel_rfl,
  g17 := by kernel_rfl,
  g18 := by kernel_rfl,
  g19 := by kernel_rfl }
theorem Tryz_strconv_Atoi_laym : Go.Proofs.LaysM.n172 Tryz.prog Tryz_strconv_Atoi_lay_ren := { Tryz_strconv_Atoi_laym0 with
  t80 := Tryz.underlying219,
  a80 := Tryz.isAgg219,
  z80 := Tryz.sizeOf219,
  v80 := Tryz.zeroValue219,
  i0 := by kernel_rfl,
  i2 := by kernel_rfl,
  i3 := by kernel_rfl,
  i4 := by kernel_rfl,
  i5 := by kernel_rfl,
  i9 := by kernel_rfl,
  i20 := by kernel_rfl,
  i21 := by kernel_rfl,
  i37 := by kernel_rfl,
  i46 := by kernel_rfl,
  i51 := by kernel_rfl,
  i53 := by kernel_rfl,
  i75 := by kernel_rfl,
  i76 := by kernel_rfl,
  i80 := by kernel_rfl,
  i85 := by kernel_rfl,
  i127 := by kernel_rfl,
  i143 := by kernel_rfl,
  i145 := by kernel_rfl,
  i167 := by kernel_rfl,
  i168 := by kernel_rfl,
  i171 := by kernel_rfl,
  i173 := by kernel_rfl,
  i175 := by kernel_rfl,
  i210 := by kernel_rfl,
  i212 := by kernel_rfl,
  i232 := by kernel_rfl,
  i233 := by kernel_rfl,
  m15 := by kernel_rfl,
  m16 := by kernel_rfl,
  m17 := by kernel_rfl,
  m18 := by kernel_rfl,
  m19 := by kernel_rfl }
theorem Tryz_strconv_Atoi_lay : Go.Proofs.LaysC.n172 Tryz.prog Tryz_strconv_Atoi_lay_ren := { Tryz_strconv_Atoi_laym with
  c0 := by kernel_rfl,
  c2 := by kernel_rfl,
  c3 := by kernel_rfl,
  c4 := by kernel_rfl,
  c5 := by kernel_rfl,
  c9 := by kernel_rfl,
  c20 := by kernel_rfl,
  c21 := by kernel_rfl,
  c37 := by kernel_rfl,
  c46 := by kernel_rfl,
  c51 := by kernel_rfl,
  c53 := by kernel_rfl,
  c75 := by kernel_rfl,
  c76 := by kernel_rfl,
  c80 := by kernel_rfl,
  c85 := by kernel_rfl,
  c127 := by kernel_rfl,
  c143 := by kernel_rfl,
  c145 := by kernel_rfl,
  c167 := by kernel_rfl,
  c168 := by kernel_rfl,
  c171 := by kernel_rfl,
  c173 := by kernel_rfl,
  c175 := by kernel_rfl,
  c210 := by kernel_rfl,
  c212 := by kernel_rfl,
  c213 := by kernel_rfl,
  c232 := by kernel_rfl,
  c233 := by kernel_rfl }
theorem strconv_Atoi_c (w : World) {A : Nat → Prop} (hA : ∀ b, w.heap.size ≤ b → A b) (hT : Er Tryz.prog 3 A w ∧ Er Tryz.prog 4 A w) (s : ByteArray) {r : Int × Bool} (hm : strconv_Atoi s = some r) : Ret Tryz.prog 56 #[.string s] w fun v w' => ∃ ev, v = .tuple #[.int .i64 r.1, ev] ∧ ErV ev r.2 ∧ Kp False w w' := by
  unfold strconv_Atoi at hm
  split at hm
  case isFalse => cases hm
  rename_i hs
  obtain rfl := Option.some.inj hm
  obtain ⟨⟨⟨t1, p1, hc1⟩, _, _⟩, ⟨t2, p2, hc2⟩, _, _⟩ := hT
  rcases h : Go.Lib.atoiAll s.data.toList with v | _ | _
  · refine Calls.mono (Go.Proofs.Any.strconv_Atoi_ok Tryz_strconv_Atoi_lay s (by omega) v h w) ?_
    rintro _ w' ⟨rfl, hk⟩
    refine ⟨_, rfl, _, rfl, rfl, ?_⟩
    rcases hk with rfl | ⟨t, rfl⟩
    · exact Kp.refl (Dw := False) _
    · exact .of (Go.Lib.bytesWorld_below w _ t)
  · refine Calls.mono (Go.Proofs.Any.strconv_Atoi_syntax Tryz_strconv_Atoi_lay s hs h (.iface t1 p1) w hc1 (.inr ⟨t1, p1, rfl⟩)) ?_
    rintro _ w' ⟨N, rfl, _, _, hb⟩
    exact ⟨_, rfl, _, rfl, ⟨_, _, rfl⟩, .of hb⟩
  · refine Calls.mono (Go.Proofs.Any.strconv_Atoi_range Tryz_strconv_Atoi_lay s hs h (.iface t2 p2) w hc2 (.inr ⟨t2, p2, rfl⟩)) ?_
    rintro _ w' ⟨N, rfl, _, _, hb⟩
    exact ⟨_, rfl, _, rfl, ⟨_, _, rfl⟩, .of hb⟩

def Tryz_strconv_Itoa_lay_ren : Go.Shelf.Ren := ⟨fun | 129 => 103 | 171 => 57 | 243 => 66 | 246 => 79 | 283 => 93 | 284 => 94 | 285 => 95 | 286 => 96 | 317 => 102 | 318 => 104 | 319 => 105 | 320 => 106 | 337 => 109 | 338 => 110 | n => n, fun | 0 => 0 | 1 => 1 | 2 => 2 | 3 => 3 | 4 => 4 | 5 => 5 | 6 => 6 | 7 => 7 | 8 => 8 | 9 => 9 | 10 => 10 | 11 => 11 | 12 => 12 | 13 => 13 | 14 => 14 | 15 => 15 | 16 => 16 | 17 => 17 | 18 => 18 | 19 => 19 | 20 => 20 | 21 => 21 | 22 => 42 | 23 => 160 | 24 => 30 | 25 => 31 | 27 => 151 | 28 => 34 | 31 => 32 | 34 => 82 | 37 => 170 | 40 => 216 | 41 => 203 | 46 => 168 | 47 => 213 | 51 => 184 | 52 => 215 | 53 => 191 | 54 => 199 | 55 => 165 | 61 => 33 | 63 => 204 | 64 => 214 | 69 => 194 | 74 => 155 | 75 => 156 | 76 => 157 | 77 => 158 | 80 => 219 | 81 => 225 | 83 => 159 | 84 => 176 | 85 => 171 | 86 => 172 | 101 => 76 | 103 => 162 | 104 => 29 | 105 => 163 | 106 => 164 | 108 => 197 | 111 => 152 | 113 => 147 | 114 => 167 | 115 => 178 | 116 => 179 | 117 => 180 | 118 => 181 | 119 => 187 | 122 => 177 | 123 => 182 | 124 => 183 | 127 => 206 | 128 => 166 | 131 => 148 | 137 => 188 | 138 => 189 | 139 => 190 | 143 => 207 | 144 => 208 | 145 => 209 | 146 => 185 | 150 => 154 | 151 => 186 | 164 => 238 | 167 => 169 | 168 => 173 | 169 => 174 | 170 => 175 | 171 => 198 | 172 => 200 | 173 => 201 | 174 => 202 | 175 => 192 | 176 => 193 | 209 => 195 | 210 => 196 | 211 => 210 | 212 => 211 | 213 => 212 | 214 => 205 | 232 => 217 | 233 => 218 | 238 => 220 | 239 => 221 | 240 => 222 | 241 => 223 | 242 => 224 | 243 => 226 | 244 => 227 | 245 => 228 | 246 => 229 | 247 => 230 | 248 => 231 | 249 => 232 | n => n, fun | 1 => 0 | 3 => 1 | 4 => 2 | 15 => 3 | 16 => 4 | 17 => 5 | 18 => 6 | 19 => 7 | n => n⟩
theorem Tryz_strconv_Itoa_lay0 : Go.Proofs.Lays.n171 Tryz.prog Tryz_strconv_Itoa_lay_ren := {
  mixed := by kernel_rfl,
  f129 := Tryz.func103.trans (congrArg some (by kernel_rfl)),
  f171 := Tryz.func57.trans (congrArg some (by kernel_rfl)),
  f243 := Tryz.func66.trans (congrArg some (by kernel_rfl)),
  f246 := Tryz.func79.trans (congrArg some (by kernel_rfl)),
  f283 := Tryz.func93.trans (congrArg some (by kernel_rfl)),
  f284 := Tryz.func94.trans (congrArg some (by kernel_rfl)),
  f285 := Tryz.func95.trans (congrArg some (by kernel_rfl)),
  f286 := Tryz.func96.trans (congrArg some (by kernel_rfl)),
  f317 := Tryz.func102.trans (congrArg some (by kernel_rfl)),
  f318 := Tryz.func104.trans (congrArg some (by kernel_rfl)),
  f319 := Tryz.func105.trans (congrArg some (by kernel_rfl)),
  f320 := Tryz.func106.trans (congrArg some (by kernel_rfl)),
  f337 := Tryz.func109.trans (congrArg some (by kernel_rfl)),
  f338 := Tryz.func110.trans (congrArg some (by kernel_rfl)),
  t0 := Tryz.underlying0,
  a0 := Tryz.isAgg0,
  z0 := Tryz.sizeOf0,
  v0 := Tryz.zeroValue0,
  t2 := Tryz.underlying2,
  a2 := Tryz.isAgg2,
  z2 := Tryz.sizeOf2,
  v2 := Tryz.zeroValue2,
  t3 := Tryz.underlying3,
  a3 := Tryz.isAgg3,
  z3 := Tryz.sizeOf3,
  v3 := Tryz.zeroValue3,
  t4 := Tryz.underlying4,
  a4 := Tryz.isAgg4,
  z4 := Tryz.sizeOf4,
  v4 := Tryz.zeroValue4,
  t5 := Tryz.underlying5,
  a5 := Tryz.isAgg5,
  z5 := Tryz.sizeOf5,
  v5 := Tryz.zeroValue5,
  t9 := Tryz.underlying9,
  a9 := Tryz.isAgg9,
  z9 := Tryz.sizeOf9,
  v9 := Tryz.zeroValue9,
  t20 := Tryz.underlying20,
  a20 := Tryz.isAgg20,
  z20 := Tryz.sizeOf20,
  v20 := Tryz.zeroValue20,
  t37 := Tryz.underlying170,
  a37 := Tryz.isAgg170,
  z37 := Tryz.sizeOf170,
  v37 := Tryz.zeroValue170,
  t46 := Tryz.underlying168,
  a46 := Tryz.isAgg168,
  z46 := Tryz.sizeOf168,
  v46 := Tryz.zeroValue168,
  t51 := Tryz.underlying184,
  a51 := Tryz.isAgg184,
  z51 := Tryz.sizeOf184,
  v51 := Tryz.zeroValue184,
  t53 := Tryz.underlying191,
  a53 := Tryz.isAgg191,
  z53 := Tryz.sizeOf191,
  v53 := Tryz.zeroValue191,
  t171 := Tryz.underlying198,
  a171 := Tryz.isAgg198,
  z171 := Tryz.sizeOf198,
  v171 := Tryz.zeroValue198,
  t173 := Tryz.underlying201,
  a173 := Tryz.isAgg201,
  z173 := Tryz.sizeOf201,
  v173 := Tryz.zeroValue201,
  t212 := Tryz.underlying211,
  a212 := Tryz.isAgg211,
  z212 := Tryz.sizeOf211,
  v212 := Tryz.zeroValue211,
  t213 := Tryz.underlying212,
  a213 := Tryz.isAgg212,
  z213 := Tryz.sizeOf212,
  t232 := Tryz.underlying217,
  a232 := Tryz.isAgg217,
  z232 := Tryz.sizeOf217,
  v232 := Tryz.zeroValue217,
  t233 := Tryz.underlying218,
  a233 := Tryz.isAgg218,
  z233 := Tryz.sizeOf218,
  v233 := Tryz.zeroValue218,
  g17 := by kernel_rfl,
  g18 := by kernel_rfl,
  g19 := by kernel_rfl }
theorem Tryz_strconv_Itoa_lay : Go.Proofs.LaysM.n171 Tryz.prog Tryz_strconv_Itoa_lay_ren := { Tryz_strconv_Itoa_lay0 with
  i0 := by kernel_rfl,
  i2 := by kernel_rfl,
  i3 := by kernel_rfl,
  i4 := by kernel_rfl,
  i5 := by kernel_rfl,
  i9 := by kernel_rfl,
  i20 := by kernel_rfl,
  i37 := by kernel_rfl,
  i46 := by kernel_rfl,
  i51 := by kernel_rfl,
  i53 := by kernel_rfl,
  i171 := by kernel_rfl,
  i173 := by kernel_rfl,
  i212 := by kernel_rfl,
  i232 := by kernel_rfl,
  i233 := by kernel_rfl,
  m17 := by kernel_rfl,
  m18 := by kernel_rfl,
  m19 := by kernel_rfl }
theorem strconv_Itoa_c (w : World) {A : Nat → Prop} (hA : ∀ b, w.heap.size ≤ b → A b) (hT : Tb Tryz.prog A w) (n : Int) {r : ByteArray} (hm : strconv_Itoa n = some r) : Ret Tryz.prog 57 #[.int .i64 n] w fun v w' => v = .string r ∧ Kp False w w' := by
  unfold strconv_Itoa at hm
  split at hm
  case isFalse => cases hm
  rename_i h
  obtain rfl := Option.some.inj hm
  refine Calls.mono (Go.Proofs.Any.strconv_Itoa Tryz_strconv_Itoa_lay n h.1 h.2 w hT.1) ?_
  rintro _ w' ⟨rfl, k, os, rfl⟩
  exact ⟨_, rfl, rfl, .of (Go.Lib.below_grow _ w (Nat.le_refl _) k os)⟩

set_option maxRecDepth 4000 in
set_option maxHeartbeats 4000000 in
theorem internal_stringslite_HasPrefix_c (w : World) (s : ByteArray) (prefix_ : ByteArray) {r : Bool} (hm : internal_stringslite_HasPrefix s prefix_ = some r) : Ret Tryz.prog 80 #[.string s, .string prefix_] w fun v w' => v = .bool r ∧ w = w' := by
  unfold internal_stringslite_HasPrefix at hm
  refine enter Tryz.func80 rfl Tryz.ntmps80 rfl ?_
  refine C_seq ?_
  refine C_region ?_
  refine V_y (Y_assign rfl) rfl rfl rfl ?_
  refine V_to (fun _ _ => rfl) ?_
  refine C_seq ?_
  refine C_region ?_
  refine V_y (Y_move rfl) rfl rfl rfl ?_
  refine V_y (Y_lenStr rfl Tryz.underlying9 rfl) rfl rfl rfl ?_
  refine V_y (Y_move rfl) rfl rfl rfl ?_
  refine V_y (Y_lenStr rfl Tryz.underlying9 rfl) rfl rfl rfl ?_
  refine V_y (Y_geq rfl rfl) rfl rfl rfl ?_
  refine V_y (Y_move rfl) rfl rfl rfl ?_
  obtain ⟨s2, hs2, hm⟩ := Option.bind_eq_some_iff.1 hm
  refine V_cut 7 (fun _ : Unit => [(17, .bool s2)]) (fun _ w' => w = w') ?_ ?_
  · simp only [List.take, List.drop]
    rcases Bool.eq_false_or_eq_true (decide ((prefix_.size : Int) ≤ (s.size : Int))) with hc1 | hc1
    · rw [if_pos hc1] at hs2
      refine V_ge rfl rfl rfl hc1 ?_
      refine V_y (Y_move rfl) rfl rfl rfl ?_
      refine V_ge rfl rfl rfl hc1 ?_
      refine V_y (Y_move rfl) rfl rfl rfl ?_
      refine V_ge rfl rfl rfl hc1 ?_
      refine V_y (Y_lenStr rfl Tryz.underlying9 rfl) rfl rfl rfl ?_
      refine V_ge rfl rfl rfl hc1 ?_
      obtain ⟨x3, hx3, hs2⟩ := Option.bind_eq_some_iff.1 hs2
      refine V_y (Y_sliceSH hx3 Tryz.underlying9 rfl rfl) rfl rfl rfl ?_
      refine V_ge rfl rfl rfl hc1 ?_
      refine V_y (Y_move rfl) rfl rfl rfl ?_
      refine V_ge rfl rfl rfl hc1 ?_
      refine V_y (Y_seql rfl rfl) rfl rfl rfl ?_
      refine V_y (Y_pick_te rfl hc1 rfl) rfl rfl rfl ?_
      obtain rfl := Option.some.inj hs2
      exact V_end fun a ha => ⟨(), ha.sub ⟨rfl, trivial⟩, rfl⟩
    · rw [if_neg (nt hc1)] at hs2
      refine V_gn rfl rfl rfl hc1 rfl rfl rfl ?_
      refine V_gn rfl rfl rfl hc1 rfl rfl rfl ?_
      refine V_gn rfl rfl rfl hc1 rfl rfl rfl ?_
      refine V_gn rfl rfl rfl hc1 rfl rfl rfl ?_
      refine V_gn rfl rfl rfl hc1 rfl rfl rfl ?_
      refine V_gn rfl rfl rfl hc1 rfl rfl rfl ?_
      refine V_y (Y_pick_fe rfl hc1 rfl) rfl rfl rfl ?_
      obtain rfl := Option.some.inj hs2
      exact V_end fun a ha => ⟨(), ha.sub ⟨rfl, trivial⟩, rfl⟩
  simp only [List.take, List.drop]
  rintro _ _ rfl
  refine V_y (Y_assign rfl) rfl rfl rfl ?_
  refine V_to (fun _ _ => rfl) ?_
  obtain rfl := Option.some.inj hm
  refine C_ret ?_
  try simp only [↓inBlock_ret, ↓then_ret]
  exact retQ rfl (Res.one Tryz.results80 rfl) ⟨rfl, rfl⟩

set_option maxRecDepth 4000 in
set_option maxHeartbeats 4000000 in
theorem internal_stringslite_TrimPrefix_c (w : World) (s : ByteArray) (prefix_ : ByteArray) {r : ByteArray} (hm : internal_stringslite_TrimPrefix s prefix_ = some r) : Ret Tryz.prog 67 #[.string s, .string prefix_] w fun v w' => v = .string r ∧ w = w' := by
  unfold internal_stringslite_TrimPrefix at hm
  refine enter Tryz.func67 rfl Tryz.ntmps67 rfl ?_
  refine C_seq ?_
  refine C_region ?_
  refine V_y (Y_assign rfl) rfl rfl rfl ?_
  refine V_to (fun _ _ => rfl) ?_
  refine C_seq ?_
  refine C_seq ?_
  refine C_region ?_
  refine V_y (Y_move rfl) rfl rfl rfl ?_
  refine V_y (Y_move rfl) rfl rfl rfl ?_
  obtain ⟨x1, hx1, hm⟩ := Option.bind_eq_some_iff.1 hm
  refine V_call Tryz.call80 rfl rfl rfl rfl (internal_stringslite_HasPrefix_c w s prefix_ hx1) ?_
  rintro _ _ ⟨rfl, rfl⟩
  refine V_to (fun _ _ => rfl) ?_
  refine C_cond rfl (fun hc2 => ?_) (fun hc2 => ?_)
  · rw [if_pos hc2] at hm
    refine C_seq ?_
    refine C_region ?_
    refine V_y (Y_move rfl) rfl rfl rfl ?_
    refine V_y (Y_move rfl) rfl rfl rfl ?_
    refine V_y (Y_lenStr rfl Tryz.underlying9 rfl) rfl rfl rfl ?_
    obtain ⟨x3, hx3, hm⟩ := Option.bind_eq_some_iff.1 hm
    refine V_y (Y_sliceSL hx3 Tryz.underlying9 rfl rfl) rfl rfl rfl ?_
    refine V_y (Y_assign rfl) rfl rfl rfl ?_
    refine V_to (fun _ _ => rfl) ?_
    obtain rfl := Option.some.inj hm
    refine C_ret ?_
    try simp only [↓inBlock_ret, ↓then_ret]
    exact retQ rfl (Res.one Tryz.results67 rfl) ⟨rfl, rfl⟩
  · rw [if_neg (nt hc2)] at hm
    refine C_skip_to (fun _ _ => rfl) ?_
    refine C_seq ?_
    refine C_region ?_
    refine V_y (Y_move rfl) rfl rfl rfl ?_
    refine V_y (Y_assign rfl) rfl rfl rfl ?_
    refine V_to (fun _ _ => rfl) ?_
    obtain rfl := Option.some.inj hm
    refine C_ret ?_
    try simp only [↓inBlock_ret, ↓then_ret]
    exact retQ rfl (Res.one Tryz.results67 rfl) ⟨rfl, rfl⟩

set_option maxRecDepth 4000 in
set_option maxHeartbeats 4000000 in
theorem strings_TrimPrefix_c (w : World) (s : ByteArray) (prefix_ : ByteArray) {r : ByteArray} (hm : strings_TrimPrefix s prefix_ = some r) : Ret Tryz.prog 58 #[.string s, .string prefix_] w fun v w' => v = .string r ∧ w = w' := by
  unfold strings_TrimPrefix at hm
  refine enter Tryz.func58 rfl Tryz.ntmps58 rfl ?_
  refine C_seq ?_
  refine C_region ?_
  refine V_y (Y_assign rfl) rfl rfl rfl ?_
  refine V_to (fun _ _ => rfl) ?_
  refine C_seq ?_
  refine C_region ?_
  refine V_y (Y_move rfl) rfl rfl rfl ?_
  refine V_y (Y_move rfl) rfl rfl rfl ?_
  obtain ⟨x1, hx1, hm⟩ := Option.bind_eq_some_iff.1 hm
  refine V_call Tryz.call67 rfl rfl rfl rfl (internal_stringslite_TrimPrefix_c w s prefix_ hx1) ?_
  rintro _ _ ⟨rfl, rfl⟩
  refine V_y (Y_assign rfl) rfl rfl rfl ?_
  refine V_to (fun _ _ => rfl) ?_
  obtain rfl := Option.some.inj hm
  refine C_ret ?_
  try simp only [↓inBlock_ret, ↓then_ret]
  exact retQ rfl (Res.one Tryz.results58 rfl) ⟨rfl, rfl⟩

set_option maxRecDepth 4000 in
set_option maxHeartbeats 4000000 in
theorem level_number_c (w : World) {A : Nat → Prop} (hA : ∀ b, w.heap.size ≤ b → A b) (hT : Fz Tryz_FR A w) (s : ByteArray) (digits : Int) {r : (Int × Bool)} (hm : level_number s digits = some r) : Ret Tryz.prog 47 #[.string s, .int .i64 digits] w fun v w' => v = .tuple #[.int .i64 r.1, .bool r.2] ∧ Kp False w w' := by
  unfold level_number at hm
  refine enter Tryz.func47 rfl Tryz.ntmps47 rfl ?_
  have hA0 := hA
  have hB := Nat.le_refl w.heap.size
  have hK : Tr False w.heap.size A w A w := Tr.refl (Dw := False) hA
  have hH : Hp w.heap.size A w [] := Hp.nil
  refine C_seq ?_
  refine C_region ?_
  refine V_y (Y_assign rfl) rfl rfl rfl ?_
  refine V_y (Y_assign rfl) rfl rfl rfl ?_
  refine V_to (fun _ _ => rfl) ?_
  refine C_seq ?_
  refine C_region ?_
  refine V_y (Y_move rfl) rfl rfl rfl ?_
  obtain ⟨x1, hx1, hm⟩ := Option.bind_eq_some_iff.1 hm
  refine V_call Tryz.call56 rfl rfl rfl rfl (strconv_Atoi_c w hA ⟨((Fz.tr (Dw := False) hT hK)).2.2.1, ((Fz.tr (Dw := False) hT hK)).2.2.2⟩ s hx1) ?_
  rintro _ w4 ⟨v2, rfl, h3, hk5⟩
  have ht6 := Kp.tr (Dw := False) hk5 hA hB
  replace hH := Hp.kp (Dw := False) hH hk5
  replace hK := Tr.trans (Dw := False) hK ht6
  replace hB := Nat.le_trans hB ht6.ex.size
  replace hA := ht6.new
  refine V_y (Y_move rfl) rfl rfl rfl ?_
  refine V_y (Y_extract rfl rfl) rfl rfl rfl ?_
  refine V_y (Y_extract rfl rfl) rfl rfl rfl ?_
  refine V_y (Y_assign rfl) rfl rfl rfl ?_
  refine V_y (Y_assign rfl) rfl rfl rfl ?_
  refine V_to (fun _ _ => rfl) ?_
  refine C_seq ?_
  refine C_seq ?_
  obtain ⟨s8, ho7, hm⟩ := Option.bind_eq_some_iff.1 hm
  refine C_cutG (ι := (Nat → Prop)) (fun (A13 : (Nat → Prop)) => [(6, .int .i64 x1.1), (27, .bool s8)]) (fun (A13 : (Nat → Prop)) => fun w' => Hp w.heap.size A13 w' ([]) ∧ Tr False w.heap.size A w4 A13 w') ?_ ?_
  · have hr9 : Tr False w.heap.size A w4 A w4 := Tr.refl (Dw := False) hA
    refine C_region ?_
    refine V_y (Y_move rfl) rfl rfl rfl ?_
    refine V_y (Y_neqER h3 Tryz.underlying156 rfl) rfl rfl rfl ?_
    refine V_y (Y_move rfl) rfl rfl rfl ?_
    rcases Bool.eq_false_or_eq_true (x1.2) with hc15 | hc15
    · rw [if_pos hc15] at ho7
      refine V_gn rfl rfl rfl hc15 rfl rfl rfl ?_
      refine V_gn rfl rfl rfl hc15 rfl rfl rfl ?_
      refine V_gn rfl rfl rfl hc15 rfl rfl rfl ?_
      refine V_gn rfl rfl rfl hc15 rfl rfl rfl ?_
      refine V_y (Y_pick_te rfl hc15 rfl) rfl rfl rfl ?_
      refine V_y (Y_move rfl) rfl rfl rfl ?_
      rcases Bool.eq_false_or_eq_true (true) with hc16 | hc16
      · rw [if_pos hc16] at ho7
        refine V_gn rfl rfl rfl hc16 rfl rfl rfl ?_
        refine V_gn rfl rfl rfl hc16 rfl rfl rfl ?_
        refine V_gn rfl rfl rfl hc16 rfl rfl rfl ?_
        refine V_gn rfl rfl rfl hc16 rfl rfl rfl ?_
        refine V_gn rfl rfl rfl hc16 rfl rfl rfl ?_
        refine V_y (Y_pick_te rfl hc16 rfl) rfl rfl rfl ?_
        obtain rfl := Option.some.inj ho7
        refine V_end (fun a ha17 => ?_)
        exact ⟨A, ha17.sub ⟨rfl, rfl, trivial⟩, ⟨hH, hr9⟩⟩
      · rw [if_neg (nt hc16)] at ho7
        refine V_ge rfl rfl rfl hc16 ?_
        refine V_y (Y_move rfl) rfl rfl rfl ?_
        refine V_ge rfl rfl rfl hc16 ?_
        obtain ⟨x18, hx18, ho7⟩ := Option.bind_eq_some_iff.1 ho7
        refine V_call Tryz.call58 rfl rfl rfl rfl (strings_TrimPrefix_c w4 s (⟨#[45]⟩ : ByteArray) hx18) ?_
        rintro _ _ ⟨rfl, rfl⟩
        refine V_ge rfl rfl rfl hc16 ?_
        refine V_y (Y_lenStr rfl Tryz.underlying9 rfl) rfl rfl rfl ?_
        refine V_ge rfl rfl rfl hc16 ?_
        refine V_y (Y_move rfl) rfl rfl rfl ?_
        refine V_ge rfl rfl rfl hc16 ?_
        refine V_y (Y_gtr rfl rfl) rfl rfl rfl ?_
        refine V_y (Y_pick_fe rfl hc16 rfl) rfl rfl rfl ?_
        obtain rfl := Option.some.inj ho7
        refine V_end (fun a ha19 => ?_)
        exact ⟨A, ha19.sub ⟨rfl, rfl, trivial⟩, ⟨hH, hr9⟩⟩
    · rw [if_neg (nt hc15)] at ho7
      refine V_ge rfl rfl rfl hc15 ?_
      refine V_y (Y_move rfl) rfl rfl rfl ?_
      refine V_ge rfl rfl rfl hc15 ?_
      obtain ⟨x20, hx20, ho7⟩ := Option.bind_eq_some_iff.1 ho7
      refine V_call Tryz.call57 rfl rfl rfl rfl (strconv_Itoa_c w4 hA ((Fz.tr (Dw := False) hT hK)).1 x1.1 hx20) ?_
      rintro _ w21 ⟨rfl, hk22⟩
      have ht23 := Kp.tr (Dw := False) hk22 hA hB
      replace hH := Hp.kp (Dw := False) hH hk22
      replace hK := Tr.trans (Dw := False) hK ht23
      replace hr9 := Tr.trans (Dw := False) hr9 ht23
      replace hB := Nat.le_trans hB ht23.ex.size
      replace hA := ht23.new
      refine V_ge rfl rfl rfl hc15 ?_
      refine V_y (Y_move rfl) rfl rfl rfl ?_
      refine V_ge rfl rfl rfl hc15 ?_
      refine V_y (Y_sneq rfl rfl) rfl rfl rfl ?_
      refine V_y (Y_pick_fe rfl hc15 rfl) rfl rfl rfl ?_
      refine V_y (Y_move rfl) rfl rfl rfl ?_
      rcases Bool.eq_false_or_eq_true (!(strEq x20 s)) with hc24 | hc24
      · rw [if_pos hc24] at ho7
        refine V_gn rfl rfl rfl hc24 rfl rfl rfl ?_
        refine V_gn rfl rfl rfl hc24 rfl rfl rfl ?_
        refine V_gn rfl rfl rfl hc24 rfl rfl rfl ?_
        refine V_gn rfl rfl rfl hc24 rfl rfl rfl ?_
        refine V_gn rfl rfl rfl hc24 rfl rfl rfl ?_
        refine V_y (Y_pick_te rfl hc24 rfl) rfl rfl rfl ?_
        obtain rfl := Option.some.inj ho7
        refine V_end (fun a ha25 => ?_)
        exact ⟨A, ha25.sub ⟨rfl, rfl, trivial⟩, ⟨hH, hr9⟩⟩
      · rw [if_neg (nt hc24)] at ho7
        refine V_ge rfl rfl rfl hc24 ?_
        refine V_y (Y_move rfl) rfl rfl rfl ?_
        refine V_ge rfl rfl rfl hc24 ?_
        obtain ⟨x26, hx26, ho7⟩ := Option.bind_eq_some_iff.1 ho7
        refine V_call Tryz.call58 rfl rfl rfl rfl (strings_TrimPrefix_c w21 s (⟨#[45]⟩ : ByteArray) hx26) ?_
        rintro _ _ ⟨rfl, rfl⟩
        refine V_ge rfl rfl rfl hc24 ?_
        refine V_y (Y_lenStr rfl Tryz.underlying9 rfl) rfl rfl rfl ?_
        refine V_ge rfl rfl rfl hc24 ?_
        refine V_y (Y_move rfl) rfl rfl rfl ?_
        refine V_ge rfl rfl rfl hc24 ?_
        refine V_y (Y_gtr rfl rfl) rfl rfl rfl ?_
        refine V_y (Y_pick_fe rfl hc24 rfl) rfl rfl rfl ?_
        obtain rfl := Option.some.inj ho7
        refine V_end (fun a ha27 => ?_)
        exact ⟨A, ha27.sub ⟨rfl, rfl, trivial⟩, ⟨hH, hr9⟩⟩
  rintro A13 w10 ⟨hH14, hk11⟩ a ha12
  replace hK := Tr.trans (Dw := False) hK hk11
  replace hB := Nat.le_trans hB hk11.ex.size
  replace hA := hk11.new
  replace hH : Hp w.heap.size A13 w10 ([]) := hH14
  refine C_at (n := ⟨29, [], none⟩) (fun _ _ => rfl) ?_ ha12
  refine C_cond rfl (fun hc28 => ?_) (fun hc28 => ?_)
  · rw [if_pos hc28] at hm
    refine C_seq ?_
    refine C_region ?_
    refine V_y (Y_assign rfl) rfl rfl rfl ?_
    refine V_y (Y_assign rfl) rfl rfl rfl ?_
    refine V_to (fun _ _ => rfl) ?_
    obtain rfl := Option.some.inj hm
    refine C_ret ?_
    try simp only [↓inBlock_ret, ↓then_ret]
    exact retQ rfl (Res.two Tryz.results47 rfl rfl) ⟨rfl, hK.kp⟩
  · rw [if_neg (nt hc28)] at hm
    refine C_skip_to (fun _ _ => rfl) ?_
    refine C_seq ?_
    refine C_region ?_
    refine V_y (Y_move rfl) rfl rfl rfl ?_
    refine V_y (Y_assign rfl) rfl rfl rfl ?_
    refine V_y (Y_assign rfl) rfl rfl rfl ?_
    refine V_to (fun _ _ => rfl) ?_
    obtain rfl := Option.some.inj hm
    refine C_ret ?_
    try simp only [↓inBlock_ret, ↓then_ret]
    exact retQ rfl (Res.two Tryz.results47 rfl rfl) ⟨rfl, hK.kp⟩

set_option maxRecDepth 4000 in
set_option maxHeartbeats 4000000 in
theorem level_numbers_c (w : World) {A : Nat → Prop} (hA : ∀ b, w.heap.size ≤ b → A b) (hT : Fz Tryz_FR A w) (words : (List ByteArray)) (v_words : Value) (h_words : Sl A w v_words words) (digits : Int) {r : ((List Int) × Bool)} (hm : level_numbers words digits = some r) : Ret Tryz.prog 9 #[v_words, .int .i64 digits] w fun v w' => ∃ s0, v = .tuple #[s0, .bool r.2] ∧ Ownd 3 w w' s0 r.1 ∧ Kp False w w' := by
  unfold level_numbers at hm
  refine enter Tryz.func9 rfl Tryz.ntmps9 rfl ?_
  have hA0 := hA
  have hB := Nat.le_refl w.heap.size
  have hK : Tr False w.heap.size A w A w := Tr.refl (Dw := False) hA
  have hH : Hp w.heap.size A w [] := Hp.nil
  refine C_seq ?_
  refine C_region ?_
  refine V_y (Y_assign rfl) rfl rfl rfl ?_
  refine V_y (Y_assign rfl) rfl rfl rfl ?_
  refine V_to (fun _ _ => rfl) ?_
  refine C_seq ?_
  refine C_region ?_
  refine V_y (Y_assign rfl) rfl rfl rfl ?_
  refine V_to (fun _ _ => rfl) ?_
  refine C_seq ?_
  refine C_seq ?_
  refine C_region ?_
  refine V_y (Y_move rfl) rfl rfl rfl ?_
  refine V_y (Y_lenSl h_words rfl Tryz.underlying32 rfl) rfl rfl rfl ?_
  refine V_y (Y_move rfl) rfl rfl rfl ?_
  refine V_to (fun _ _ => rfl) ?_
  replace hH : Hp w.heap.size A w (obS (α := Int) 3 (.slice none 0 0) ([] : (List Int)) :: []) := Hp.addNil (α := Int) (e := 3) hH
  have hn27 := Sl.le h_words
  obtain ⟨o3, ho3, hm⟩ := Option.bind_eq_some_iff.1 hm
  refine C_cutG (ι := ((List Int) × Value × (Nat → Prop))) (fun ⟨s4, v10, A12⟩ => [(6, v10)]) (fun ⟨s4, v10, A12⟩ => fun w' => o3 = .fin s4 ∧ Hp w.heap.size A12 w' (obS (α := Int) 3 v10 s4 :: []) ∧ Tr False w.heap.size A w A12 w') ?_ ?_
  · refine C_block ?_
    refine C_range ho3 (fun k6 s14 a w' => ∃ i : (Value × (Nat → Prop)), Has ⟨31, [], none⟩ a ([(1, .int .i64 digits), (6, i.1), (11, v_words), (12, .int .i64 (words.length : Int)), (13, .int .i64 (k6 : Int))]) ∧ Hp w.heap.size i.2 w' (obS (α := Int) 3 i.1 s14 :: []) ∧ Tr False w.heap.size A w i.2 w') (fun a ha => ⟨(.slice none 0 0, A), ha.sub ⟨rfl, rfl, rfl, rfl, rfl, trivial⟩, ⟨hH, Tr.refl (Dw := False) hA⟩⟩) ?_
    rintro K k6 s14 a w15 ⟨⟨v16, A18⟩, ha51, hH19, hr5⟩ hle23 K26 h25
    refine C_of ?_ ha51
    replace h_words := Sl.tr (Dw := False) h_words hr5
    replace hK := Tr.trans (Dw := False) hK hr5
    replace hB := Nat.le_trans hB hr5.ex.size
    replace hA := hr5.new
    replace hH : Hp w.heap.size A18 w15 (obS (α := Int) 3 v16 s14 :: []) := hH19
    refine C_seq (C_region (V_y (Y_lss rfl rfl) rfl rfl rfl (V_to (fun _ _ => rfl) ?_)))
    refine C_seq ?_
    refine C_cond rfl (fun hc28 => ?_) (fun hc28 => ?_)
    · have hlt24 := lt_of_dec hc28
      obtain ⟨x20, h21, h22⟩ := K26 hlt24
      refine C_skip_to (fun _ _ => rfl) ?_
      refine C_seq ?_
      refine C_block ?_
      refine C_seq ?_
      refine C_region ?_
      obtain ⟨x29, hx29, h21⟩ := Option.bind_eq_some_iff.1 h21
      refine V_indexAddr h_words hx29 Tryz.underlying32 Tryz.sizeOf9 rfl rfl rfl ?_
      intro b30 o31 h32
      refine V_y (Y_load (El.str h32) Tryz.isAgg9 rfl) rfl rfl rfl ?_
      refine V_y (Y_assign rfl) rfl rfl rfl ?_
      refine V_to (fun _ _ => rfl) ?_
      refine C_seq ?_
      refine C_region ?_
      refine V_y (Y_move rfl) rfl rfl rfl ?_
      refine V_y (Y_move rfl) rfl rfl rfl ?_
      obtain ⟨x33, hx33, h21⟩ := Option.bind_eq_some_iff.1 h21
      refine V_call Tryz.call47 rfl rfl rfl rfl (level_number_c w15 hA (Fz.tr (Dw := False) hT hK) x29 digits hx33) ?_
      rintro _ w34 ⟨rfl, hk35⟩
      have ht36 := Kp.tr (Dw := False) hk35 hA hB
      replace hH := Hp.kp (Dw := False) hH hk35
      replace h_words := Sl.tr (Dw := False) h_words ht36
      replace hK := Tr.trans (Dw := False) hK ht36
      replace hr5 := Tr.trans (Dw := False) hr5 ht36
      replace hB := Nat.le_trans hB ht36.ex.size
      replace hA := ht36.new
      refine V_y (Y_move rfl) rfl rfl rfl ?_
      refine V_y (Y_extract rfl rfl) rfl rfl rfl ?_
      refine V_y (Y_extract rfl rfl) rfl rfl rfl ?_
      refine V_y (Y_assign rfl) rfl rfl rfl ?_
      refine V_y (Y_assign rfl) rfl rfl rfl ?_
      refine V_to (fun _ _ => rfl) ?_
      refine C_seq ?_
      refine C_seq ?_
      refine C_region ?_
      refine V_y (Y_move rfl) rfl rfl rfl ?_
      refine V_y (Y_not rfl) rfl rfl rfl ?_
      refine V_to (fun _ _ => rfl) ?_
      refine C_cond rfl (fun hc37 => ?_) (fun hc37 => ?_)
      · rw [if_pos hc37] at h21
        refine C_seq ?_
        refine C_region ?_
        refine V_y (Y_assign rfl) rfl rfl rfl ?_
        refine V_y (Y_assign rfl) rfl rfl rfl ?_
        refine V_to (fun _ _ => rfl) ?_
        obtain rfl := Option.some.inj h21
        obtain rfl := (h22 : Lp.rt _ = _)
        rw [Lp.andThen_rt] at hm
        obtain rfl := Option.some.inj hm
        replace hH : Hp w.heap.size A18 w34 (obS (α := Int) 3 (.slice none 0 0) ([] : (List Int)) :: obS (α := Int) 3 v16 s14 :: []) := Hp.addNil (α := Int) (e := 3) hH
        refine C_ret ?_
        try simp only [↓inBlock_ret, ↓then_ret]
        exact retQ rfl (Res.two Tryz.results9 rfl rfl) ⟨.slice none 0 0, rfl, (Hp.ownd hH (i := 0) rfl), hK.kp⟩
      · rw [if_neg (nt hc37)] at h21
        refine C_skip_to (fun _ _ => rfl) ?_
        refine C_region ?_
        refine V_y (Y_move rfl) rfl rfl rfl ?_
        refine V_y (Y_move rfl) rfl rfl rfl ?_
        refine V_buildSlice (Dw := False) (l := ([x33.1] : List Int)) (len := 1) Tryz.underlying34 Tryz.sizeOf3 Tryz.zeroValue3 rfl (by with_unfolding_all rfl) (show (1 * 1 : Nat) ≠ 0 by decide) (show (1 * 1 : Nat) ≤ 2 ^ 24 by decide) hA ⟨[.int .i64 x33.1], _, rfl, rfl, rfl⟩ rfl rfl ?_
        intro v38 w39 hk41 h40
        have ht42 := Kp.tr (Dw := False) hk41 hA hB
        replace hH := Hp.kp (Dw := False) hH hk41
        replace h_words := Sl.tr (Dw := False) h_words ht42
        replace hK := Tr.trans (Dw := False) hK ht42
        replace hr5 := Tr.trans (Dw := False) hr5 ht42
        replace hB := Nat.le_trans hB ht42.ex.size
        replace hA := ht42.new
        obtain ⟨x43, hx43, h21⟩ := Option.bind_eq_some_iff.1 h21
        refine V_appendH (Dw := False) (e := 3) (v := v16) (l := s14) (ti := Tryz.t3) (bytes := 8) (lim := 17592186044416) hH (i := 0) rfl h40 hx43 Tryz.underlying34 Tryz_info3 rfl rfl rfl rfl (by decide) (by decide) (by decide) hB hA rfl rfl rfl ?_
        intro v44 w45 A46 hH47 ht48
        replace h_words := Sl.tr (Dw := False) h_words ht48
        replace h40 := Sl.tr (Dw := False) h40 ht48
        replace hK := Tr.trans (Dw := False) hK ht48
        replace hr5 := Tr.trans (Dw := False) hr5 ht48
        replace hB := Nat.le_trans hB ht48.ex.size
        replace hA := ht48.new
        replace hH : Hp w.heap.size A46 w45 (obS (α := Int) 3 v44 x43 :: []) := hH47
        refine V_y (Y_assign rfl) rfl rfl rfl ?_
        refine V_to (fun _ _ => rfl) ?_
        refine C_region ?_
        refine V_y (Y_addI rfl rfl) rfl rfl rfl ?_
        refine V_y (Y_move rfl) rfl rfl rfl ?_
        obtain rfl := Option.some.inj h21
        refine V_end (fun a ha49 => ?_)
        exact ⟨x43, hlt24, h22, ⟨(v44, A46), ha49.sub ⟨rfl, rfl, rfl, rfl, (congrArg (fun z => some (Value.int .i64 z)) (w64_succ hlt24 hn27)), trivial⟩, ⟨hH, hr5⟩⟩⟩
    · refine C_exit (fun a ha50 => ?_)
      exact ⟨(s14, v16, A18), ha50.sub ⟨rfl, trivial⟩, ⟨(h25 (eq_of_dec hle23 hc28)).symm, hH, hr5⟩⟩
  rintro ⟨s4, v10, A12⟩ w7 ⟨rfl, hH13, hk8⟩ a ha9
  rw [Lp.andThen_fin] at hm
  replace hK := Tr.trans (Dw := False) hK hk8
  replace hB := Nat.le_trans hB hk8.ex.size
  replace hA := hk8.new
  replace hH : Hp w.heap.size A12 w7 (obS (α := Int) 3 v10 s4 :: []) := hH13
  refine C_at (n := ⟨31, [], none⟩) (fun _ _ => rfl) ?_ ha9
  refine C_seq ?_
  refine C_region ?_
  refine V_y (Y_move rfl) rfl rfl rfl ?_
  refine V_y (Y_assign rfl) rfl rfl rfl ?_
  refine V_y (Y_assign rfl) rfl rfl rfl ?_
  refine V_to (fun _ _ => rfl) ?_
  obtain rfl := Option.some.inj hm
  refine C_ret ?_
  try simp only [↓inBlock_ret, ↓then_ret]
  exact retQ rfl (Res.two Tryz.results9 rfl rfl) ⟨v10, rfl, (Hp.ownd hH (i := 0) rfl), hK.kp⟩

set_option maxRecDepth 4000 in
set_option maxHeartbeats 4000000 in
theorem level_within_c (w : World) (n : Int) (low : Int) (high : Int) : Ret Tryz.prog 48 #[.int .i64 n, .int .i64 low, .int .i64 high] w fun v w' => v = .bool (level_within n low high) ∧ w = w' := by
  generalize hm : level_within n low high = r
  unfold level_within at hm
  refine enter Tryz.func48 rfl Tryz.ntmps48 rfl ?_
  refine C_seq ?_
  refine C_region ?_
  refine V_y (Y_assign rfl) rfl rfl rfl ?_
  refine V_to (fun _ _ => rfl) ?_
  refine C_seq ?_
  refine C_region ?_
  refine V_y (Y_move rfl) rfl rfl rfl ?_
  refine V_y (Y_move rfl) rfl rfl rfl ?_
  refine V_y (Y_geq rfl rfl) rfl rfl rfl ?_
  refine V_y (Y_move rfl) rfl rfl rfl ?_
  refine V_cut 4 (fun _ : Unit => [(14, .bool ((decide (low ≤ n)) && (decide (n ≤ high))))]) (fun _ w' => w = w') ?_ ?_
  · simp only [List.take, List.drop]
    rcases Bool.eq_false_or_eq_true (decide (low ≤ n)) with hc1 | hc1
    · refine V_ge rfl rfl rfl hc1 ?_
      refine V_y (Y_move rfl) rfl rfl rfl ?_
      refine V_ge rfl rfl rfl hc1 ?_
      refine V_y (Y_move rfl) rfl rfl rfl ?_
      refine V_ge rfl rfl rfl hc1 ?_
      refine V_y (Y_leq rfl rfl) rfl rfl rfl ?_
      refine V_y (Y_pick_te rfl hc1 rfl) rfl rfl rfl ?_
      exact V_end fun a ha => ⟨(), ha.sub ⟨(by rw [hc1]; rfl), trivial⟩, rfl⟩
    · refine V_gn rfl rfl rfl hc1 rfl rfl rfl ?_
      refine V_gn rfl rfl rfl hc1 rfl rfl rfl ?_
      refine V_gn rfl rfl rfl hc1 rfl rfl rfl ?_
      refine V_y (Y_pick_fe rfl hc1 rfl) rfl rfl rfl ?_
      exact V_end fun a ha => ⟨(), ha.sub ⟨(by rw [hc1]; rfl), trivial⟩, rfl⟩
  simp only [List.take, List.drop]
  rintro _ _ rfl
  refine V_y (Y_assign rfl) rfl rfl rfl ?_
  refine V_to (fun _ _ => rfl) ?_
  obtain rfl := hm
  refine C_ret ?_
  try simp only [↓inBlock_ret, ↓then_ret]
  exact retQ rfl (Res.one Tryz.results48 rfl) ⟨rfl, rfl⟩

set_option maxRecDepth 4000 in
set_option maxHeartbeats 4000000 in
theorem level_CheckClock_c (w : World) {A : Nat → Prop} (hA : ∀ b, w.heap.size ≤ b → A b) (c : level_Clock) (v_c : Value) (h_c : Sl A w v_c c.pieces) {r : Int} (hm : level_CheckClock c = some r) : Ret Tryz.prog 10 #[.agg #[.int .i64 c.kind, .int .i64 c.level, .int .i64 c.minutes, .int .i64 c.start, .int .i64 c.stop, .int .i64 c.end_, v_c]] w fun v w' => v = .int .i64 r ∧ Kp Dw w w' := by
  unfold level_CheckClock at hm
  refine enter Tryz.func10 rfl Tryz.ntmps10 rfl ?_
  have hA0 := hA
  have hB := Nat.le_refl w.heap.size
  have hK : Tr Dw w.heap.size A w A w := Tr.refl (Dw := Dw) hA
  have hH : Hp w.heap.size A w [] := Hp.nil
  refine C_seq ?_
  refine C_region ?_
  refine V_box rfl rfl ?_
  intro b3 w4 h5
  have hk7 := h5.kp (Dw := Dw)
  have h6 : El (α := level_Clock) A w4 b3 0 c := h5.el hA ⟨[.int .i64 c.kind], _, rfl, rfl, ⟨[.int .i64 c.level], _, rfl, rfl, ⟨[.int .i64 c.minutes], _, rfl, rfl, ⟨[.int .i64 c.start], _, rfl, rfl, ⟨[.int .i64 c.stop], _, rfl, rfl, ⟨[.int .i64 c.end_], _, rfl, rfl, ⟨_, rfl, h_c⟩⟩⟩⟩⟩⟩⟩
  have ht8 := Kp.tr (Dw := Dw) hk7 hA hB
  replace hH := Hp.kp (Dw := Dw) hH hk7
  replace h_c := Sl.tr (Dw := Dw) h_c ht8
  replace hK := Tr.trans (Dw := Dw) hK ht8
  replace hB := Nat.le_trans hB ht8.ex.size
  replace hA := ht8.new
  refine V_y (Y_assign rfl) rfl rfl rfl ?_
  refine V_to (fun _ _ => rfl) ?_
  refine C_seq ?_
  refine C_seq ?_
  refine C_region ?_
  have h9 := El_level_Clock_0 h6
  refine V_y (Y_fieldAddr Tryz.underlying24 rfl Tryz.sizeOf3 (by decide) rfl) rfl rfl rfl ?_
  refine V_y (Y_load (El.int h9) Tryz.isAgg3 rfl) rfl rfl rfl ?_
  refine V_call Tryz.call48 rfl rfl rfl rfl (level_within_c w4 c.kind 1 3) ?_
  rintro _ _ ⟨rfl, rfl⟩
  refine V_y (Y_not rfl) rfl rfl rfl ?_
  refine V_y (Y_move rfl) rfl rfl rfl ?_
  refine V_cut 5 (fun _ : Unit => [(1, .pointer (some ⟨b3, 0, none⟩)), (14, .bool ((!(level_within c.kind 1 3)) || (!(level_within c.level 0 19))))]) (fun _ w' => w4 = w') ?_ ?_
  · simp only [List.take, List.drop]
    rcases Bool.eq_false_or_eq_true (!(level_within c.kind 1 3)) with hc10 | hc10
    · refine V_gn rfl rfl rfl hc10 rfl rfl rfl ?_
      refine V_gn rfl rfl rfl hc10 rfl rfl rfl ?_
      refine V_gn rfl rfl rfl hc10 rfl rfl rfl ?_
      refine V_gn rfl rfl rfl hc10 rfl rfl rfl ?_
      refine V_y (Y_pick_te rfl hc10 rfl) rfl rfl rfl ?_
      exact V_end fun a ha => ⟨(), ha.sub ⟨rfl, (by rw [hc10]; rfl), trivial⟩, rfl⟩
    · refine V_ge rfl rfl rfl hc10 ?_
      have h12 := El_level_Clock_1 h6
      refine V_y (Y_fieldAddr Tryz.underlying24 rfl Tryz.sizeOf3 (by decide) rfl) rfl rfl rfl ?_
      refine V_ge rfl rfl rfl hc10 ?_
      refine V_y (Y_load (El.int h12) Tryz.isAgg3 rfl) rfl rfl rfl ?_
      refine V_ge rfl rfl rfl hc10 ?_
      refine V_call Tryz.call48 rfl rfl rfl rfl (level_within_c w4 c.level 0 19) ?_
      rintro _ _ ⟨rfl, rfl⟩
      refine V_ge rfl rfl rfl hc10 ?_
      refine V_y (Y_not rfl) rfl rfl rfl ?_
      refine V_y (Y_pick_fe rfl hc10 rfl) rfl rfl rfl ?_
      exact V_end fun a ha => ⟨(), ha.sub ⟨rfl, (by rw [hc10]; rfl), trivial⟩, rfl⟩
  simp only [List.take, List.drop]
  rintro _ _ rfl
  refine V_y (Y_move rfl) rfl rfl rfl ?_
  refine V_cut 5 (fun _ : Unit => [(1, .pointer (some ⟨b3, 0, none⟩)), (20, .bool (((!(level_within c.kind 1 3)) || (!(level_within c.level 0 19))) || (!(level_within c.minutes 0 100000))))]) (fun _ w' => w4 = w') ?_ ?_
  · simp only [List.take, List.drop]
    rcases Bool.eq_false_or_eq_true (((!(level_within c.kind 1 3)) || (!(level_within c.level 0 19)))) with hc13 | hc13
    · refine V_gn rfl rfl rfl hc13 rfl rfl rfl ?_
      refine V_gn rfl rfl rfl hc13 rfl rfl rfl ?_
      refine V_gn rfl rfl rfl hc13 rfl rfl rfl ?_
      refine V_gn rfl rfl rfl hc13 rfl rfl rfl ?_
      refine V_y (Y_pick_te rfl hc13 rfl) rfl rfl rfl ?_
      exact V_end fun a ha => ⟨(), ha.sub ⟨rfl, (by rw [hc13]; rfl), trivial⟩, rfl⟩
    · refine V_ge rfl rfl rfl hc13 ?_
      have h15 := El_level_Clock_2 h6
      refine V_y (Y_fieldAddr Tryz.underlying24 rfl Tryz.sizeOf3 (by decide) rfl) rfl rfl rfl ?_
      refine V_ge rfl rfl rfl hc13 ?_
      refine V_y (Y_load (El.int h15) Tryz.isAgg3 rfl) rfl rfl rfl ?_
      refine V_ge rfl rfl rfl hc13 ?_
      refine V_call Tryz.call48 rfl rfl rfl rfl (level_within_c w4 c.minutes 0 100000) ?_
      rintro _ _ ⟨rfl, rfl⟩
      refine V_ge rfl rfl rfl hc13 ?_
      refine V_y (Y_not rfl) rfl rfl rfl ?_
      refine V_y (Y_pick_fe rfl hc13 rfl) rfl rfl rfl ?_
      exact V_end fun a ha => ⟨(), ha.sub ⟨rfl, (by rw [hc13]; rfl), trivial⟩, rfl⟩
  simp only [List.take, List.drop]
  rintro _ _ rfl
  refine V_y (Y_move rfl) rfl rfl rfl ?_
  refine V_cut 5 (fun _ : Unit => [(1, .pointer (some ⟨b3, 0, none⟩)), (26, .bool ((((!(level_within c.kind 1 3)) || (!(level_within c.level 0 19))) || (!(level_within c.minutes 0 100000))) || (!(level_within c.start 0 3000000))))]) (fun _ w' => w4 = w') ?_ ?_
  · simp only [List.take, List.drop]
    rcases Bool.eq_false_or_eq_true ((((!(level_within c.kind 1 3)) || (!(level_within c.level 0 19))) || (!(level_within c.minutes 0 100000)))) with hc16 | hc16
    · refine V_gn rfl rfl rfl hc16 rfl rfl rfl ?_
      refine V_gn rfl rfl rfl hc16 rfl rfl rfl ?_
      refine V_gn rfl rfl rfl hc16 rfl rfl rfl ?_
      refine V_gn rfl rfl rfl hc16 rfl rfl rfl ?_
      refine V_y (Y_pick_te rfl hc16 rfl) rfl rfl rfl ?_
      exact V_end fun a ha => ⟨(), ha.sub ⟨rfl, (by rw [hc16]; rfl), trivial⟩, rfl⟩
    · refine V_ge rfl rfl rfl hc16 ?_
      have h18 := El_level_Clock_3 h6
      refine V_y (Y_fieldAddr Tryz.underlying24 rfl Tryz.sizeOf3 (by decide) rfl) rfl rfl rfl ?_
      refine V_ge rfl rfl rfl hc16 ?_
      refine V_y (Y_load (El.int h18) Tryz.isAgg3 rfl) rfl rfl rfl ?_
      refine V_ge rfl rfl rfl hc16 ?_
      refine V_call Tryz.call48 rfl rfl rfl rfl (level_within_c w4 c.start 0 3000000) ?_
      rintro _ _ ⟨rfl, rfl⟩
      refine V_ge rfl rfl rfl hc16 ?_
      refine V_y (Y_not rfl) rfl rfl rfl ?_
      refine V_y (Y_pick_fe rfl hc16 rfl) rfl rfl rfl ?_
      exact V_end fun a ha => ⟨(), ha.sub ⟨rfl, (by rw [hc16]; rfl), trivial⟩, rfl⟩
  simp only [List.take, List.drop]
  rintro _ _ rfl
  refine V_y (Y_move rfl) rfl rfl rfl ?_
  refine V_cut 12 (fun _ : Unit => [(1, .pointer (some ⟨b3, 0, none⟩)), (39, .bool (((((!(level_within c.kind 1 3)) || (!(level_within c.level 0 19))) || (!(level_within c.minutes 0 100000))) || (!(level_within c.start 0 3000000))) || ((c.stop != (-1)) && (!(level_within c.stop c.start 3000000)))))]) (fun _ w' => w4 = w') ?_ ?_
  · simp only [List.take, List.drop]
    rcases Bool.eq_false_or_eq_true (((((!(level_within c.kind 1 3)) || (!(level_within c.level 0 19))) || (!(level_within c.minutes 0 100000))) || (!(level_within c.start 0 3000000)))) with hc19 | hc19
    · refine V_gn rfl rfl rfl hc19 rfl rfl rfl ?_
      refine V_gn rfl rfl rfl hc19 rfl rfl rfl ?_
      refine V_gn rfl rfl rfl hc19 rfl rfl rfl ?_
      refine V_gn rfl rfl rfl hc19 rfl rfl rfl ?_
      refine V_gu rfl rfl rfl rfl rfl ?_
      refine V_gu rfl rfl rfl rfl rfl ?_
      refine V_gu rfl rfl rfl rfl rfl ?_
      refine V_gu rfl rfl rfl rfl rfl ?_
      refine V_gu rfl rfl rfl rfl rfl ?_
      refine V_gu rfl rfl rfl rfl rfl ?_
      refine V_gn rfl rfl rfl hc19 rfl rfl rfl ?_
      refine V_y (Y_pick_te rfl hc19 rfl) rfl rfl rfl ?_
      exact V_end fun a ha => ⟨(), ha.sub ⟨rfl, (by rw [hc19]; rfl), trivial⟩, rfl⟩
    · refine V_ge rfl rfl rfl hc19 ?_
      have h21 := El_level_Clock_4 h6
      refine V_y (Y_fieldAddr Tryz.underlying24 rfl Tryz.sizeOf3 (by decide) rfl) rfl rfl rfl ?_
      refine V_ge rfl rfl rfl hc19 ?_
      refine V_y (Y_load (El.int h21) Tryz.isAgg3 rfl) rfl rfl rfl ?_
      refine V_ge rfl rfl rfl hc19 ?_
      refine V_y (Y_neq rfl rfl) rfl rfl rfl ?_
      refine V_ge rfl rfl rfl hc19 ?_
      refine V_y (Y_move rfl) rfl rfl rfl ?_
      refine V_cut 7 (fun _ : Unit => [(1, .pointer (some ⟨b3, 0, none⟩)), (27, .bool ((((!(level_within c.kind 1 3)) || (!(level_within c.level 0 19))) || (!(level_within c.minutes 0 100000))) || (!(level_within c.start 0 3000000)))), (38, .bool ((c.stop != (-1)) && (!(level_within c.stop c.start 3000000))))]) (fun _ w' => w4 = w') ?_ ?_
      · simp only [List.take, List.drop]
        rcases Bool.eq_false_or_eq_true (c.stop != (-1)) with hc22 | hc22
        · refine V_ge rfl rfl rfl hc22 ?_
          have h24 := El_level_Clock_4 h6
          refine V_y (Y_fieldAddr Tryz.underlying24 rfl Tryz.sizeOf3 (by decide) rfl) rfl rfl rfl ?_
          refine V_ge rfl rfl rfl hc22 ?_
          refine V_y (Y_load (El.int h24) Tryz.isAgg3 rfl) rfl rfl rfl ?_
          refine V_ge rfl rfl rfl hc22 ?_
          have h25 := El_level_Clock_3 h6
          refine V_y (Y_fieldAddr Tryz.underlying24 rfl Tryz.sizeOf3 (by decide) rfl) rfl rfl rfl ?_
          refine V_ge rfl rfl rfl hc22 ?_
          refine V_y (Y_load (El.int h25) Tryz.isAgg3 rfl) rfl rfl rfl ?_
          refine V_ge rfl rfl rfl hc22 ?_
          refine V_call Tryz.call48 rfl rfl rfl rfl (level_within_c w4 c.stop c.start 3000000) ?_
          rintro _ _ ⟨rfl, rfl⟩
          refine V_ge rfl rfl rfl hc22 ?_
          refine V_y (Y_not rfl) rfl rfl rfl ?_
          refine V_ge rfl rfl rfl hc19 ?_
          refine V_y (Y_pick_te rfl hc22 rfl) rfl rfl rfl ?_
          exact V_end fun a ha => ⟨(), ha.sub ⟨rfl, rfl, (by rw [hc22]; rfl), trivial⟩, rfl⟩
        · refine V_gn rfl rfl rfl hc22 rfl rfl rfl ?_
          refine V_gn rfl rfl rfl hc22 rfl rfl rfl ?_
          refine V_gn rfl rfl rfl hc22 rfl rfl rfl ?_
          refine V_gn rfl rfl rfl hc22 rfl rfl rfl ?_
          refine V_gn rfl rfl rfl hc22 rfl rfl rfl ?_
          refine V_gn rfl rfl rfl hc22 rfl rfl rfl ?_
          refine V_ge rfl rfl rfl hc19 ?_
          refine V_y (Y_pick_fe rfl hc22 rfl) rfl rfl rfl ?_
          exact V_end fun a ha => ⟨(), ha.sub ⟨rfl, rfl, (by rw [hc22]; rfl), trivial⟩, rfl⟩
      simp only [List.take, List.drop]
      rintro _ _ rfl
      refine V_y (Y_pick_fe rfl hc19 rfl) rfl rfl rfl ?_
      exact V_end fun a ha => ⟨(), ha.sub ⟨rfl, (by rw [hc19]; rfl), trivial⟩, rfl⟩
  simp only [List.take, List.drop]
  rintro _ _ rfl
  refine V_y (Y_move rfl) rfl rfl rfl ?_
  refine V_cut 5 (fun _ : Unit => [(1, .pointer (some ⟨b3, 0, none⟩)), (45, .bool ((((((!(level_within c.kind 1 3)) || (!(level_within c.level 0 19))) || (!(level_within c.minutes 0 100000))) || (!(level_within c.start 0 3000000))) || ((c.stop != (-1)) && (!(level_within c.stop c.start 3000000)))) || (!(level_within c.end_ 0 2))))]) (fun _ w' => w4 = w') ?_ ?_
  · simp only [List.take, List.drop]
    rcases Bool.eq_false_or_eq_true ((((((!(level_within c.kind 1 3)) || (!(level_within c.level 0 19))) || (!(level_within c.minutes 0 100000))) || (!(level_within c.start 0 3000000))) || ((c.stop != (-1)) && (!(level_within c.stop c.start 3000000))))) with hc26 | hc26
    · refine V_gn rfl rfl rfl hc26 rfl rfl rfl ?_
      refine V_gn rfl rfl rfl hc26 rfl rfl rfl ?_
      refine V_gn rfl rfl rfl hc26 rfl rfl rfl ?_
      refine V_gn rfl rfl rfl hc26 rfl rfl rfl ?_
      refine V_y (Y_pick_te rfl hc26 rfl) rfl rfl rfl ?_
      exact V_end fun a ha => ⟨(), ha.sub ⟨rfl, (by rw [hc26]; rfl), trivial⟩, rfl⟩
    · refine V_ge rfl rfl rfl hc26 ?_
      have h28 := El_level_Clock_5 h6
      refine V_y (Y_fieldAddr Tryz.underlying24 rfl Tryz.sizeOf3 (by decide) rfl) rfl rfl rfl ?_
      refine V_ge rfl rfl rfl hc26 ?_
      refine V_y (Y_load (El.int h28) Tryz.isAgg3 rfl) rfl rfl rfl ?_
      refine V_ge rfl rfl rfl hc26 ?_
      refine V_call Tryz.call48 rfl rfl rfl rfl (level_within_c w4 c.end_ 0 2) ?_
      rintro _ _ ⟨rfl, rfl⟩
      refine V_ge rfl rfl rfl hc26 ?_
      refine V_y (Y_not rfl) rfl rfl rfl ?_
      refine V_y (Y_pick_fe rfl hc26 rfl) rfl rfl rfl ?_
      exact V_end fun a ha => ⟨(), ha.sub ⟨rfl, (by rw [hc26]; rfl), trivial⟩, rfl⟩
  simp only [List.take, List.drop]
  rintro _ _ rfl
  refine V_to (fun _ _ => rfl) ?_
  refine C_cond rfl (fun hc29 => ?_) (fun hc29 => ?_)
  · rw [if_pos hc29] at hm
    refine C_seq ?_
    refine C_region ?_
    refine V_y (Y_assign rfl) rfl rfl rfl ?_
    refine V_to (fun _ _ => rfl) ?_
    obtain rfl := Option.some.inj hm
    refine C_ret ?_
    try simp only [↓inBlock_ret, ↓then_ret]
    exact retQ rfl (Res.one Tryz.results10 rfl) ⟨rfl, hK.kp⟩
  · rw [if_neg (nt hc29)] at hm
    refine C_skip_to (fun _ _ => rfl) ?_
    refine C_seq ?_
    refine C_seq ?_
    refine C_region ?_
    have h30 := El_level_Clock_4 h6
    refine V_y (Y_fieldAddr Tryz.underlying24 rfl Tryz.sizeOf3 (by decide) rfl) rfl rfl rfl ?_
    refine V_y (Y_load (El.int h30) Tryz.isAgg3 rfl) rfl rfl rfl ?_
    refine V_y (Y_eql rfl rfl) rfl rfl rfl ?_
    have h31 := El_level_Clock_5 h6
    refine V_y (Y_fieldAddr Tryz.underlying24 rfl Tryz.sizeOf3 (by decide) rfl) rfl rfl rfl ?_
    refine V_y (Y_load (El.int h31) Tryz.isAgg3 rfl) rfl rfl rfl ?_
    refine V_y (Y_eql rfl rfl) rfl rfl rfl ?_
    refine V_y (Y_bneq Tryz.underlying4 rfl rfl) rfl rfl rfl ?_
    refine V_to (fun _ _ => rfl) ?_
    refine C_cond rfl (fun hc32 => ?_) (fun hc32 => ?_)
    · rw [if_pos hc32] at hm
      refine C_seq ?_
      refine C_region ?_
      refine V_y (Y_assign rfl) rfl rfl rfl ?_
      refine V_to (fun _ _ => rfl) ?_
      obtain rfl := Option.some.inj hm
      refine C_ret ?_
      try simp only [↓inBlock_ret, ↓then_ret]
      exact retQ rfl (Res.one Tryz.results10 rfl) ⟨rfl, hK.kp⟩
    · rw [if_neg (nt hc32)] at hm
      refine C_skip_to (fun _ _ => rfl) ?_
      refine C_seq ?_
      refine C_seq ?_
      refine C_region ?_
      have h33 := El_level_Clock_6 h6
      refine V_y (Y_fieldAddr Tryz.underlying24 rfl Tryz.sizeOf22 (by decide) rfl) rfl rfl rfl ?_
      obtain ⟨v34, h35, h36⟩ := El.list h33
      refine V_y (Y_load h35 Tryz.isAgg22 rfl) rfl rfl rfl ?_
      refine V_y (Y_lenSl h36 rfl Tryz.underlying22 rfl) rfl rfl rfl ?_
      refine V_y (Y_gtr rfl rfl) rfl rfl rfl ?_
      refine V_to (fun _ _ => rfl) ?_
      refine C_cond rfl (fun hc37 => ?_) (fun hc37 => ?_)
      · rw [if_pos hc37] at hm
        refine C_seq ?_
        refine C_region ?_
        refine V_y (Y_assign rfl) rfl rfl rfl ?_
        refine V_to (fun _ _ => rfl) ?_
        obtain rfl := Option.some.inj hm
        refine C_ret ?_
        try simp only [↓inBlock_ret, ↓then_ret]
        exact retQ rfl (Res.one Tryz.results10 rfl) ⟨rfl, hK.kp⟩
      · rw [if_neg (nt hc37)] at hm
        refine C_skip_to (fun _ _ => rfl) ?_
        refine C_seq ?_
        refine C_seq ?_
        refine C_region ?_
        have h38 := El_level_Clock_6 h6
        refine V_y (Y_fieldAddr Tryz.underlying24 rfl Tryz.sizeOf22 (by decide) rfl) rfl rfl rfl ?_
        obtain ⟨v39, h40, h41⟩ := El.list h38
        refine V_y (Y_load h40 Tryz.isAgg22 rfl) rfl rfl rfl ?_
        refine V_y (Y_lenSl h41 rfl Tryz.underlying22 rfl) rfl rfl rfl ?_
        refine V_y (Y_move rfl) rfl rfl rfl ?_
        refine V_to (fun _ _ => rfl) ?_
        have hn62 := Sl.le h41
        obtain ⟨o42, ho42, hm⟩ := Option.bind_eq_some_iff.1 hm
        refine C_cutG (ι := (Unit × (Nat → Prop))) (fun ⟨s43, A49⟩ => []) (fun ⟨s43, A49⟩ => fun w' => o42 = .fin s43 ∧ Hp w.heap.size A49 w' ([]) ∧ Tr Dw w.heap.size A w4 A49 w') ?_ ?_
        · refine C_block ?_
          refine C_range ho42 (fun k45 _ a w' => ∃ i : (Nat → Prop), Has ⟨135, [], none⟩ a ([(1, .pointer (some ⟨b3, 0, none⟩)), (58, v39), (59, .int .i64 (c.pieces.length : Int)), (60, .int .i64 (k45 : Int))]) ∧ Hp w.heap.size i w' ([]) ∧ Tr Dw w.heap.size A w4 i w') (fun a ha => ⟨A, ha.sub ⟨rfl, rfl, rfl, rfl, trivial⟩, ⟨hH, Tr.refl (Dw := Dw) hA⟩⟩) ?_
          rintro K k45 _ a w52 ⟨A53, ha133, hH54, hr44⟩ hle58 K61 h60
          refine C_of ?_ ha133
          replace h6 := El.tr (Dw := Dw) h6 hr44
          replace h41 := Sl.tr (Dw := Dw) h41 hr44
          replace hK := Tr.trans (Dw := Dw) hK hr44
          replace hB := Nat.le_trans hB hr44.ex.size
          replace hA := hr44.new
          replace hH : Hp w.heap.size A53 w52 ([]) := hH54
          refine C_seq (C_region (V_y (Y_lss rfl rfl) rfl rfl rfl (V_to (fun _ _ => rfl) ?_)))
          refine C_seq ?_
          refine C_cond rfl (fun hc63 => ?_) (fun hc63 => ?_)
          · have hlt59 := lt_of_dec hc63
            obtain ⟨x55, h56, h57⟩ := K61 hlt59
            refine C_skip_to (fun _ _ => rfl) ?_
            refine C_seq ?_
            refine C_block ?_
            refine C_seq ?_
            refine C_region ?_
            refine V_y (Y_move rfl) rfl rfl rfl ?_
            obtain ⟨x64, hx64, h56⟩ := Option.bind_eq_some_iff.1 h56
            refine V_indexAddr h41 hx64 Tryz.underlying22 Tryz.sizeOf38 rfl rfl rfl ?_
            intro b65 o66 h67
            obtain ⟨h68, _⟩ := El_level_Piece h67
            refine V_y (Y_loadA h68 Tryz.isAgg38 Tryz.sizeOf38 rfl) rfl rfl rfl ?_
            refine V_alloc Tryz.zeroValue38 rfl ?_
            intro b69 w70 h71
            refine V_y (Y_assign rfl) rfl rfl rfl ?_
            refine V_storeNew h71 Tryz.sizeOf38 rfl rfl rfl rfl (by exact (List.forall_mem_cons.2 ⟨rfl, (List.forall_mem_cons.2 ⟨rfl, (List.forall_mem_cons.2 ⟨rfl, (fun _ h => nomatch h)⟩)⟩)⟩)) ?_
            intro w72 h73
            have hk75 := h73.kp (Dw := Dw)
            have h74 : El (α := level_Piece) A53 w72 b69 0 x64 := h73.el hA ⟨[.int .i64 x64.from_], _, rfl, rfl, ⟨[.int .i64 x64.to_], _, rfl, rfl, rfl⟩⟩
            have ht76 := Kp.tr (Dw := Dw) hk75 hA hB
            replace hH := Hp.kp (Dw := Dw) hH hk75
            replace h6 := El.tr (Dw := Dw) h6 ht76
            replace h41 := Sl.tr (Dw := Dw) h41 ht76
            replace h67 := El.tr (Dw := Dw) h67 ht76
            replace hK := Tr.trans (Dw := Dw) hK ht76
            replace hr44 := Tr.trans (Dw := Dw) hr44 ht76
            replace hB := Nat.le_trans hB ht76.ex.size
            replace hA := ht76.new
            refine V_to (fun _ _ => rfl) ?_
            refine C_block ?_
            refine C_seq ?_
            refine C_region ?_
            have h77 := El_level_Piece_0 h74
            refine V_y (Y_fieldAddr Tryz.underlying38 rfl Tryz.sizeOf3 (by decide) rfl) rfl rfl rfl ?_
            refine V_y (Y_load (El.int h77) Tryz.isAgg3 rfl) rfl rfl rfl ?_
            have h78 := El_level_Clock_3 h6
            refine V_y (Y_fieldAddr Tryz.underlying24 rfl Tryz.sizeOf3 (by decide) rfl) rfl rfl rfl ?_
            refine V_y (Y_load (El.int h78) Tryz.isAgg3 rfl) rfl rfl rfl ?_
            refine V_call Tryz.call48 rfl rfl rfl rfl (level_within_c w72 x64.from_ c.start 3000000) ?_
            rintro _ _ ⟨rfl, rfl⟩
            refine V_y (Y_not rfl) rfl rfl rfl ?_
            refine V_y (Y_move rfl) rfl rfl rfl ?_
            refine V_cut 5 (fun _ : Unit => [(1, .pointer (some ⟨b3, 0, none⟩)), (3, .int .i64 (k45 : Int)), (4, .pointer (some ⟨b69, 0, none⟩)), (58, v39), (59, .int .i64 (c.pieces.length : Int)), (60, .int .i64 (k45 : Int)), (77, .bool ((!(level_within x64.from_ c.start 3000000)) || (!(level_within x64.calendar 0 19))))]) (fun _ w' => w72 = w') ?_ ?_
            · simp only [List.take, List.drop]
              rcases Bool.eq_false_or_eq_true (!(level_within x64.from_ c.start 3000000)) with hc79 | hc79
              · refine V_gn rfl rfl rfl hc79 rfl rfl rfl ?_
                refine V_gn rfl rfl rfl hc79 rfl rfl rfl ?_
                refine V_gn rfl rfl rfl hc79 rfl rfl rfl ?_
                refine V_gn rfl rfl rfl hc79 rfl rfl rfl ?_
                refine V_y (Y_pick_te rfl hc79 rfl) rfl rfl rfl ?_
                exact V_end fun a ha => ⟨(), ha.sub ⟨rfl, rfl, rfl, rfl, rfl, rfl, (by rw [hc79]; rfl), trivial⟩, rfl⟩
              · refine V_ge rfl rfl rfl hc79 ?_
                have h81 := El_level_Piece_2 h74
                refine V_y (Y_fieldAddr Tryz.underlying38 rfl Tryz.sizeOf3 (by decide) rfl) rfl rfl rfl ?_
                refine V_ge rfl rfl rfl hc79 ?_
                refine V_y (Y_load (El.int h81) Tryz.isAgg3 rfl) rfl rfl rfl ?_
                refine V_ge rfl rfl rfl hc79 ?_
                refine V_call Tryz.call48 rfl rfl rfl rfl (level_within_c w72 x64.calendar 0 19) ?_
                rintro _ _ ⟨rfl, rfl⟩
                refine V_ge rfl rfl rfl hc79 ?_
                refine V_y (Y_not rfl) rfl rfl rfl ?_
                refine V_y (Y_pick_fe rfl hc79 rfl) rfl rfl rfl ?_
                exact V_end fun a ha => ⟨(), ha.sub ⟨rfl, rfl, rfl, rfl, rfl, rfl, (by rw [hc79]; rfl), trivial⟩, rfl⟩
            simp only [List.take, List.drop]
            rintro _ _ rfl
            refine V_y (Y_move rfl) rfl rfl rfl ?_
            refine V_cut 13 (fun _ : Unit => [(1, .pointer (some ⟨b3, 0, none⟩)), (3, .int .i64 (k45 : Int)), (4, .pointer (some ⟨b69, 0, none⟩)), (58, v39), (59, .int .i64 (c.pieces.length : Int)), (60, .int .i64 (k45 : Int)), (91, .bool (((!(level_within x64.from_ c.start 3000000)) || (!(level_within x64.calendar 0 19))) || ((x64.to_ != (-1)) && (!(level_within x64.to_ (w64 (x64.from_ + 1)) 3000000)))))]) (fun _ w' => w72 = w') ?_ ?_
            · simp only [List.take, List.drop]
              rcases Bool.eq_false_or_eq_true (((!(level_within x64.from_ c.start 3000000)) || (!(level_within x64.calendar 0 19)))) with hc82 | hc82
              · refine V_gn rfl rfl rfl hc82 rfl rfl rfl ?_
                refine V_gn rfl rfl rfl hc82 rfl rfl rfl ?_
                refine V_gn rfl rfl rfl hc82 rfl rfl rfl ?_
                refine V_gn rfl rfl rfl hc82 rfl rfl rfl ?_
                refine V_gu rfl rfl rfl rfl rfl ?_
                refine V_gu rfl rfl rfl rfl rfl ?_
                refine V_gu rfl rfl rfl rfl rfl ?_
                refine V_gu rfl rfl rfl rfl rfl ?_
                refine V_gu rfl rfl rfl rfl rfl ?_
                refine V_gu rfl rfl rfl rfl rfl ?_
                refine V_gu rfl rfl rfl rfl rfl ?_
                refine V_gn rfl rfl rfl hc82 rfl rfl rfl ?_
                refine V_y (Y_pick_te rfl hc82 rfl) rfl rfl rfl ?_
                exact V_end fun a ha => ⟨(), ha.sub ⟨rfl, rfl, rfl, rfl, rfl, rfl, (by rw [hc82]; rfl), trivial⟩, rfl⟩
              · refine V_ge rfl rfl rfl hc82 ?_
                have h84 := El_level_Piece_1 h74
                refine V_y (Y_fieldAddr Tryz.underlying38 rfl Tryz.sizeOf3 (by decide) rfl) rfl rfl rfl ?_
                refine V_ge rfl rfl rfl hc82 ?_
                refine V_y (Y_load (El.int h84) Tryz.isAgg3 rfl) rfl rfl rfl ?_
                refine V_ge rfl rfl rfl hc82 ?_
                refine V_y (Y_neq rfl rfl) rfl rfl rfl ?_
                refine V_ge rfl rfl rfl hc82 ?_
                refine V_y (Y_move rfl) rfl rfl rfl ?_
                refine V_cut 8 (fun _ : Unit => [(1, .pointer (some ⟨b3, 0, none⟩)), (3, .int .i64 (k45 : Int)), (4, .pointer (some ⟨b69, 0, none⟩)), (58, v39), (59, .int .i64 (c.pieces.length : Int)), (60, .int .i64 (k45 : Int)), (78, .bool ((!(level_within x64.from_ c.start 3000000)) || (!(level_within x64.calendar 0 19)))), (90, .bool ((x64.to_ != (-1)) && (!(level_within x64.to_ (w64 (x64.from_ + 1)) 3000000))))]) (fun _ w' => w72 = w') ?_ ?_
                · simp only [List.take, List.drop]
                  rcases Bool.eq_false_or_eq_true (x64.to_ != (-1)) with hc85 | hc85
                  · refine V_ge rfl rfl rfl hc85 ?_
                    have h87 := El_level_Piece_1 h74
                    refine V_y (Y_fieldAddr Tryz.underlying38 rfl Tryz.sizeOf3 (by decide) rfl) rfl rfl rfl ?_
                    refine V_ge rfl rfl rfl hc85 ?_
                    refine V_y (Y_load (El.int h87) Tryz.isAgg3 rfl) rfl rfl rfl ?_
                    refine V_ge rfl rfl rfl hc85 ?_
                    have h88 := El_level_Piece_0 h74
                    refine V_y (Y_fieldAddr Tryz.underlying38 rfl Tryz.sizeOf3 (by decide) rfl) rfl rfl rfl ?_
                    refine V_ge rfl rfl rfl hc85 ?_
                    refine V_y (Y_load (El.int h88) Tryz.isAgg3 rfl) rfl rfl rfl ?_
                    refine V_ge rfl rfl rfl hc85 ?_
                    refine V_y (Y_addI rfl rfl) rfl rfl rfl ?_
                    refine V_ge rfl rfl rfl hc85 ?_
                    refine V_call Tryz.call48 rfl rfl rfl rfl (level_within_c w72 x64.to_ (w64 (x64.from_ + 1)) 3000000) ?_
                    rintro _ _ ⟨rfl, rfl⟩
                    refine V_ge rfl rfl rfl hc85 ?_
                    refine V_y (Y_not rfl) rfl rfl rfl ?_
                    refine V_ge rfl rfl rfl hc82 ?_
                    refine V_y (Y_pick_te rfl hc85 rfl) rfl rfl rfl ?_
                    exact V_end fun a ha => ⟨(), ha.sub ⟨rfl, rfl, rfl, rfl, rfl, rfl, rfl, (by rw [hc85]; rfl), trivial⟩, rfl⟩
                  · refine V_gn rfl rfl rfl hc85 rfl rfl rfl ?_
                    refine V_gn rfl rfl rfl hc85 rfl rfl rfl ?_
                    refine V_gn rfl rfl rfl hc85 rfl rfl rfl ?_
                    refine V_gn rfl rfl rfl hc85 rfl rfl rfl ?_
                    refine V_gn rfl rfl rfl hc85 rfl rfl rfl ?_
                    refine V_gn rfl rfl rfl hc85 rfl rfl rfl ?_
                    refine V_gn rfl rfl rfl hc85 rfl rfl rfl ?_
                    refine V_ge rfl rfl rfl hc82 ?_
                    refine V_y (Y_pick_fe rfl hc85 rfl) rfl rfl rfl ?_
                    exact V_end fun a ha => ⟨(), ha.sub ⟨rfl, rfl, rfl, rfl, rfl, rfl, rfl, (by rw [hc85]; rfl), trivial⟩, rfl⟩
                simp only [List.take, List.drop]
                rintro _ _ rfl
                refine V_y (Y_pick_fe rfl hc82 rfl) rfl rfl rfl ?_
                exact V_end fun a ha => ⟨(), ha.sub ⟨rfl, rfl, rfl, rfl, rfl, rfl, (by rw [hc82]; rfl), trivial⟩, rfl⟩
            simp only [List.take, List.drop]
            rintro _ _ rfl
            refine V_y (Y_assign rfl) rfl rfl rfl ?_
            refine V_to (fun _ _ => rfl) ?_
            refine C_cond rfl (fun hc89 => ?_) (fun hc89 => ?_)
            · rw [if_pos hc89] at h56
              refine C_seq ?_
              refine C_region ?_
              refine V_y (Y_assign rfl) rfl rfl rfl ?_
              refine V_to (fun _ _ => rfl) ?_
              obtain rfl := Option.some.inj h56
              obtain rfl := (h57 : Lp.rt _ = _)
              rw [Lp.andThen_rt] at hm
              obtain rfl := Option.some.inj hm
              refine C_ret ?_
              try simp only [↓inBlock_ret, ↓then_ret]
              exact retQ rfl (Res.one Tryz.results10 rfl) ⟨rfl, hK.kp⟩
            · rw [if_neg (nt hc89)] at h56
              refine C_seq ?_
              refine C_seq ?_
              refine C_region ?_
              have h90 := El_level_Piece_1 h74
              refine V_y (Y_fieldAddr Tryz.underlying38 rfl Tryz.sizeOf3 (by decide) rfl) rfl rfl rfl ?_
              refine V_y (Y_load (El.int h90) Tryz.isAgg3 rfl) rfl rfl rfl ?_
              refine V_y (Y_eql rfl rfl) rfl rfl rfl ?_
              refine V_y (Y_move rfl) rfl rfl rfl ?_
              refine V_cut 12 (fun _ : Unit => [(1, .pointer (some ⟨b3, 0, none⟩)), (3, .int .i64 (k45 : Int)), (4, .pointer (some ⟨b69, 0, none⟩)), (58, v39), (59, .int .i64 (c.pieces.length : Int)), (60, .int .i64 (k45 : Int)), (108, .bool ((x64.to_ == (-1)) && ((decide ((k45 : Int) < (w64 ((c.pieces.length : Int) - 1)))) || (c.stop != (-1)))))]) (fun _ w' => w72 = w') ?_ ?_
              · simp only [List.take, List.drop]
                rcases Bool.eq_false_or_eq_true (x64.to_ == (-1)) with hc91 | hc91
                · refine V_ge rfl rfl rfl hc91 ?_
                  refine V_y (Y_move rfl) rfl rfl rfl ?_
                  refine V_ge rfl rfl rfl hc91 ?_
                  have h93 := El_level_Clock_6 h6
                  refine V_y (Y_fieldAddr Tryz.underlying24 rfl Tryz.sizeOf22 (by decide) rfl) rfl rfl rfl ?_
                  refine V_ge rfl rfl rfl hc91 ?_
                  obtain ⟨v94, h95, h96⟩ := El.list h93
                  refine V_y (Y_load h95 Tryz.isAgg22 rfl) rfl rfl rfl ?_
                  refine V_ge rfl rfl rfl hc91 ?_
                  refine V_y (Y_lenSl h96 rfl Tryz.underlying22 rfl) rfl rfl rfl ?_
                  refine V_ge rfl rfl rfl hc91 ?_
                  refine V_y (Y_subI rfl rfl) rfl rfl rfl ?_
                  refine V_ge rfl rfl rfl hc91 ?_
                  refine V_y (Y_lss rfl rfl) rfl rfl rfl ?_
                  refine V_ge rfl rfl rfl hc91 ?_
                  refine V_y (Y_move rfl) rfl rfl rfl ?_
                  refine V_cut 4 (fun _ : Unit => [(1, .pointer (some ⟨b3, 0, none⟩)), (3, .int .i64 (k45 : Int)), (4, .pointer (some ⟨b69, 0, none⟩)), (58, v39), (59, .int .i64 (c.pieces.length : Int)), (60, .int .i64 (k45 : Int)), (96, .bool (x64.to_ == (-1))), (107, .bool ((decide ((k45 : Int) < (w64 ((c.pieces.length : Int) - 1)))) || (c.stop != (-1))))]) (fun _ w' => w72 = w') ?_ ?_
                  · simp only [List.take, List.drop]
                    rcases Bool.eq_false_or_eq_true (decide ((k45 : Int) < (w64 ((c.pieces.length : Int) - 1)))) with hc97 | hc97
                    · refine V_gn rfl rfl rfl hc97 rfl rfl rfl ?_
                      refine V_gn rfl rfl rfl hc97 rfl rfl rfl ?_
                      refine V_gn rfl rfl rfl hc97 rfl rfl rfl ?_
                      refine V_ge rfl rfl rfl hc91 ?_
                      refine V_y (Y_pick_te rfl hc97 rfl) rfl rfl rfl ?_
                      exact V_end fun a ha => ⟨(), ha.sub ⟨rfl, rfl, rfl, rfl, rfl, rfl, rfl, (by rw [hc97]; rfl), trivial⟩, rfl⟩
                    · refine V_ge rfl rfl rfl hc97 ?_
                      have h99 := El_level_Clock_4 h6
                      refine V_y (Y_fieldAddr Tryz.underlying24 rfl Tryz.sizeOf3 (by decide) rfl) rfl rfl rfl ?_
                      refine V_ge rfl rfl rfl hc97 ?_
                      refine V_y (Y_load (El.int h99) Tryz.isAgg3 rfl) rfl rfl rfl ?_
                      refine V_ge rfl rfl rfl hc97 ?_
                      refine V_y (Y_neq rfl rfl) rfl rfl rfl ?_
                      refine V_ge rfl rfl rfl hc91 ?_
                      refine V_y (Y_pick_fe rfl hc97 rfl) rfl rfl rfl ?_
                      exact V_end fun a ha => ⟨(), ha.sub ⟨rfl, rfl, rfl, rfl, rfl, rfl, rfl, (by rw [hc97]; rfl), trivial⟩, rfl⟩
                  simp only [List.take, List.drop]
                  rintro _ _ rfl
                  refine V_y (Y_pick_te rfl hc91 rfl) rfl rfl rfl ?_
                  exact V_end fun a ha => ⟨(), ha.sub ⟨rfl, rfl, rfl, rfl, rfl, rfl, (by rw [hc91]; rfl), trivial⟩, rfl⟩
                · refine V_gn rfl rfl rfl hc91 rfl rfl rfl ?_
                  refine V_gn rfl rfl rfl hc91 rfl rfl rfl ?_
                  refine V_gn rfl rfl rfl hc91 rfl rfl rfl ?_
                  refine V_gn rfl rfl rfl hc91 rfl rfl rfl ?_
                  refine V_gn rfl rfl rfl hc91 rfl rfl rfl ?_
                  refine V_gn rfl rfl rfl hc91 rfl rfl rfl ?_
                  refine V_gn rfl rfl rfl hc91 rfl rfl rfl ?_
                  refine V_gu rfl rfl rfl rfl rfl ?_
                  refine V_gu rfl rfl rfl rfl rfl ?_
                  refine V_gu rfl rfl rfl rfl rfl ?_
                  refine V_gn rfl rfl rfl hc91 rfl rfl rfl ?_
                  refine V_y (Y_pick_fe rfl hc91 rfl) rfl rfl rfl ?_
                  exact V_end fun a ha => ⟨(), ha.sub ⟨rfl, rfl, rfl, rfl, rfl, rfl, (by rw [hc91]; rfl), trivial⟩, rfl⟩
              simp only [List.take, List.drop]
              rintro _ _ rfl
              refine V_y (Y_assign rfl) rfl rfl rfl ?_
              refine V_to (fun _ _ => rfl) ?_
              obtain ⟨s101, ho100, h56⟩ := Option.bind_eq_some_iff.1 h56
              refine C_cutG (ι := Unit) (fun (_ : Unit) => [(1, .pointer (some ⟨b3, 0, none⟩)), (3, .int .i64 (k45 : Int)), (4, .pointer (some ⟨b69, 0, none⟩)), (58, v39), (59, .int .i64 (c.pieces.length : Int)), (60, .int .i64 (k45 : Int)), (92, .bool s101)]) (fun (_ : Unit) => fun w' => w72 = w') ?_ ?_
              · refine C_cond rfl (fun hc106 => ?_) (fun hc106 => ?_)
                · rw [if_pos hc106] at ho100
                  obtain rfl := Option.some.inj ho100
                  refine C_skip (fun a ha107 => ?_)
                  exact ⟨(), ha107.sub ⟨rfl, rfl, rfl, rfl, rfl, rfl, rfl, trivial⟩, rfl⟩
                · rw [if_neg (nt hc106)] at ho100
                  refine C_region ?_
                  have h108 := El_level_Clock_4 h6
                  refine V_y (Y_fieldAddr Tryz.underlying24 rfl Tryz.sizeOf3 (by decide) rfl) rfl rfl rfl ?_
                  refine V_y (Y_load (El.int h108) Tryz.isAgg3 rfl) rfl rfl rfl ?_
                  refine V_y (Y_neq rfl rfl) rfl rfl rfl ?_
                  refine V_y (Y_move rfl) rfl rfl rfl ?_
                  refine V_cut 6 (fun _ : Unit => [(1, .pointer (some ⟨b3, 0, none⟩)), (3, .int .i64 (k45 : Int)), (4, .pointer (some ⟨b69, 0, none⟩)), (58, v39), (59, .int .i64 (c.pieces.length : Int)), (60, .int .i64 (k45 : Int)), (118, .bool ((c.stop != (-1)) && (decide (c.stop < x64.to_))))]) (fun _ w' => w72 = w') ?_ ?_
                  · simp only [List.take, List.drop]
                    rcases Bool.eq_false_or_eq_true (c.stop != (-1)) with hc109 | hc109
                    · refine V_ge rfl rfl rfl hc109 ?_
                      have h111 := El_level_Piece_1 h74
                      refine V_y (Y_fieldAddr Tryz.underlying38 rfl Tryz.sizeOf3 (by decide) rfl) rfl rfl rfl ?_
                      refine V_ge rfl rfl rfl hc109 ?_
                      refine V_y (Y_load (El.int h111) Tryz.isAgg3 rfl) rfl rfl rfl ?_
                      refine V_ge rfl rfl rfl hc109 ?_
                      have h112 := El_level_Clock_4 h6
                      refine V_y (Y_fieldAddr Tryz.underlying24 rfl Tryz.sizeOf3 (by decide) rfl) rfl rfl rfl ?_
                      refine V_ge rfl rfl rfl hc109 ?_
                      refine V_y (Y_load (El.int h112) Tryz.isAgg3 rfl) rfl rfl rfl ?_
                      refine V_ge rfl rfl rfl hc109 ?_
                      refine V_y (Y_gtr rfl rfl) rfl rfl rfl ?_
                      refine V_y (Y_pick_te rfl hc109 rfl) rfl rfl rfl ?_
                      exact V_end fun a ha => ⟨(), ha.sub ⟨rfl, rfl, rfl, rfl, rfl, rfl, (by rw [hc109]; rfl), trivial⟩, rfl⟩
                    · refine V_gn rfl rfl rfl hc109 rfl rfl rfl ?_
                      refine V_gn rfl rfl rfl hc109 rfl rfl rfl ?_
                      refine V_gn rfl rfl rfl hc109 rfl rfl rfl ?_
                      refine V_gn rfl rfl rfl hc109 rfl rfl rfl ?_
                      refine V_gn rfl rfl rfl hc109 rfl rfl rfl ?_
                      refine V_y (Y_pick_fe rfl hc109 rfl) rfl rfl rfl ?_
                      exact V_end fun a ha => ⟨(), ha.sub ⟨rfl, rfl, rfl, rfl, rfl, rfl, (by rw [hc109]; rfl), trivial⟩, rfl⟩
                  simp only [List.take, List.drop]
                  rintro _ _ rfl
                  refine V_y (Y_assign rfl) rfl rfl rfl ?_
                  obtain rfl := Option.some.inj ho100
                  refine V_end (fun a ha113 => ?_)
                  exact ⟨(), ha113.sub ⟨rfl, rfl, rfl, rfl, rfl, rfl, rfl, trivial⟩, rfl⟩
              rintro _ _ rfl a ha105
              refine C_at (n := ⟨135, [], none⟩) (fun _ _ => rfl) ?_ ha105
              refine C_cond rfl (fun hc114 => ?_) (fun hc114 => ?_)
              · rw [if_pos hc114] at h56
                refine C_seq ?_
                refine C_region ?_
                refine V_y (Y_assign rfl) rfl rfl rfl ?_
                refine V_to (fun _ _ => rfl) ?_
                obtain rfl := Option.some.inj h56
                obtain rfl := (h57 : Lp.rt _ = _)
                rw [Lp.andThen_rt] at hm
                obtain rfl := Option.some.inj hm
                refine C_ret ?_
                try simp only [↓inBlock_ret, ↓then_ret]
                exact retQ rfl (Res.one Tryz.results10 rfl) ⟨rfl, hK.kp⟩
              · rw [if_neg (nt hc114)] at h56
                refine C_seq ?_
                refine C_region_q (Dw := Dw) Tryz_mixed (by kernel_rfl) ?_
                refine VQ_y (fun w' hw' => Y_move rfl) rfl rfl rfl ?_
                refine VQ_y (fun w' hw' => Y_gtr rfl rfl) rfl rfl rfl ?_
                refine VQ_y (fun w' hw' => Y_move rfl) rfl rfl rfl ?_
                obtain ⟨s116, hs116, h56⟩ := Option.bind_eq_some_iff.1 h56
                refine VQ_cut 11 (fun _ : Unit => [(1, .pointer (some ⟨b3, 0, none⟩)), (58, v39), (59, .int .i64 (c.pieces.length : Int)), (60, .int .i64 (k45 : Int)), (133, .bool s116)]) (fun _ => True) ?_ ?_
                · simp only [List.take, List.drop]
                  rcases Bool.eq_false_or_eq_true (decide ((0 : Int) < (k45 : Int))) with hc115 | hc115
                  · rw [if_pos hc115] at hs116
                    refine VQ_ge rfl rfl rfl hc115 ?_
                    have h117 := El_level_Piece_0 h74
                    refine VQ_y (fun w' hw' => Y_fieldAddr Tryz.underlying38 rfl Tryz.sizeOf3 (by decide) rfl) rfl rfl rfl ?_
                    refine VQ_ge rfl rfl rfl hc115 ?_
                    refine VQ_y (fun w' hw' => Y_load (El.int (El.kp (Dw := Dw) h117 hw')) Tryz.isAgg3 rfl) rfl rfl rfl ?_
                    refine VQ_ge rfl rfl rfl hc115 ?_
                    have h118 := El_level_Clock_6 h6
                    refine VQ_y (fun w' hw' => Y_fieldAddr Tryz.underlying24 rfl Tryz.sizeOf22 (by decide) rfl) rfl rfl rfl ?_
                    refine VQ_ge rfl rfl rfl hc115 ?_
                    obtain ⟨v119, h120, h121⟩ := El.list h118
                    refine VQ_y (fun w' hw' => Y_load ((World.cell?_of_block (hw'.block _ (World.block_lt_of_cell? _ _ h120))).trans h120) Tryz.isAgg22 rfl) rfl rfl rfl ?_
                    refine VQ_ge rfl rfl rfl hc115 ?_
                    refine VQ_y (fun w' hw' => Y_move rfl) rfl rfl rfl ?_
                    refine VQ_ge rfl rfl rfl hc115 ?_
                    refine VQ_y (fun w' hw' => Y_subI rfl rfl) rfl rfl rfl ?_
                    refine VQ_ge rfl rfl rfl hc115 ?_
                    obtain ⟨x122, hx122, hs116⟩ := Option.bind_eq_some_iff.1 hs116
                    refine VQ_indexAddr h121 hx122 Tryz.underlying22 Tryz.sizeOf38 rfl rfl rfl ?_
                    intro b123 o124 h125
                    refine VQ_ge rfl rfl rfl hc115 ?_
                    have h126 := El_level_Piece_1 h125
                    refine VQ_y (fun w' hw' => Y_fieldAddr Tryz.underlying38 rfl Tryz.sizeOf3 (by decide) rfl) rfl rfl rfl ?_
                    refine VQ_ge rfl rfl rfl hc115 ?_
                    refine VQ_y (fun w' hw' => Y_load (El.int (El.kp (Dw := Dw) h126 hw')) Tryz.isAgg3 rfl) rfl rfl rfl ?_
                    refine VQ_ge rfl rfl rfl hc115 ?_
                    refine VQ_y (fun w' hw' => Y_lss rfl rfl) rfl rfl rfl ?_
                    refine VQ_y (fun _ _ => Y_pick_te rfl hc115 rfl) rfl rfl rfl ?_
                    obtain rfl := Option.some.inj hs116
                    exact VQ_end fun a ha => ⟨(), ha.sub ⟨rfl, rfl, rfl, rfl, rfl, trivial⟩, trivial⟩
                  · rw [if_neg (nt hc115)] at hs116
                    refine VQ_gn rfl rfl rfl hc115 rfl rfl rfl ?_
                    refine VQ_gn rfl rfl rfl hc115 rfl rfl rfl ?_
                    refine VQ_gn rfl rfl rfl hc115 rfl rfl rfl ?_
                    refine VQ_gn rfl rfl rfl hc115 rfl rfl rfl ?_
                    refine VQ_gn rfl rfl rfl hc115 rfl rfl rfl ?_
                    refine VQ_gn rfl rfl rfl hc115 rfl rfl rfl ?_
                    refine VQ_gn rfl rfl rfl hc115 rfl rfl rfl ?_
                    refine VQ_gn rfl rfl rfl hc115 rfl rfl rfl ?_
                    refine VQ_gn rfl rfl rfl hc115 rfl rfl rfl ?_
                    refine VQ_gn rfl rfl rfl hc115 rfl rfl rfl ?_
                    refine VQ_y (fun _ _ => Y_pick_fe rfl hc115 rfl) rfl rfl rfl ?_
                    obtain rfl := Option.some.inj hs116
                    exact VQ_end fun a ha => ⟨(), ha.sub ⟨rfl, rfl, rfl, rfl, rfl, trivial⟩, trivial⟩
                simp only [List.take, List.drop]
                rintro _ _
                refine VQ_y (fun w' hw' => Y_assign rfl) rfl rfl rfl ?_
                refine VQ_to (fun _ _ => rfl) (fun w127 hk128 => ?_)
                have ht129 := Kp.tr (Dw := Dw) hk128 hA hB
                replace hH := Hp.kp (Dw := Dw) hH hk128
                replace h6 := El.tr (Dw := Dw) h6 ht129
                replace h41 := Sl.tr (Dw := Dw) h41 ht129
                replace hK := Tr.trans (Dw := Dw) hK ht129
                replace hr44 := Tr.trans (Dw := Dw) hr44 ht129
                replace hB := Nat.le_trans hB ht129.ex.size
                replace hA := ht129.new
                refine C_cond rfl (fun hc130 => ?_) (fun hc130 => ?_)
                · rw [if_pos hc130] at h56
                  refine C_seq ?_
                  refine C_region ?_
                  refine V_y (Y_assign rfl) rfl rfl rfl ?_
                  refine V_to (fun _ _ => rfl) ?_
                  obtain rfl := Option.some.inj h56
                  obtain rfl := (h57 : Lp.rt _ = _)
                  rw [Lp.andThen_rt] at hm
                  obtain rfl := Option.some.inj hm
                  refine C_ret ?_
                  try simp only [↓inBlock_ret, ↓then_ret]
                  exact retQ rfl (Res.one Tryz.results10 rfl) ⟨rfl, hK.kp⟩
                · rw [if_neg (nt hc130)] at h56
                  refine C_skip_to (fun _ _ => rfl) ?_
                  refine C_region ?_
                  refine V_y (Y_addI rfl rfl) rfl rfl rfl ?_
                  refine V_y (Y_move rfl) rfl rfl rfl ?_
                  obtain rfl := Option.some.inj h56
                  refine V_end (fun a ha131 => ?_)
                  exact ⟨(), hlt59, h57, ⟨A53, ha131.sub ⟨rfl, rfl, rfl, (congrArg (fun z => some (Value.int .i64 z)) (w64_succ hlt59 hn62)), trivial⟩, ⟨hH, hr44⟩⟩⟩
          · refine C_exit (fun a ha132 => ?_)
            exact ⟨((), A53), ha132.sub trivial, ⟨(h60 (eq_of_dec hle58 hc63)).symm, hH, hr44⟩⟩
        rintro ⟨s43, A49⟩ w46 ⟨rfl, hH50, hk47⟩ a ha48
        rw [Lp.andThen_fin] at hm
        replace hK := Tr.trans (Dw := Dw) hK hk47
        replace hB := Nat.le_trans hB hk47.ex.size
        replace hA := hk47.new
        replace hH : Hp w.heap.size A49 w46 ([]) := hH50
        refine C_at (n := ⟨135, [], none⟩) (fun _ _ => rfl) ?_ ha48
        refine C_seq ?_
        refine C_region ?_
        refine V_y (Y_assign rfl) rfl rfl rfl ?_
        refine V_to (fun _ _ => rfl) ?_
        obtain rfl := Option.some.inj hm
        refine C_ret ?_
        try simp only [↓inBlock_ret, ↓then_ret]
        exact retQ rfl (Res.one Tryz.results10 rfl) ⟨rfl, hK.kp⟩

set_option maxRecDepth 4000 in
set_option maxHeartbeats 4000000 in
theorem level_ReadClock_c (w : World) {A : Nat → Prop} (hA : ∀ b, w.heap.size ≤ b → A b) (hT : Fz Tryz_FR A w) (s : ByteArray) {r : (level_Clock × Int)} (hm : level_ReadClock s = some r) : Ret Tryz.prog 4 #[.string s] w fun v w' => ∃ s0, v = .tuple #[.agg #[.int .i64 r.1.kind, .int .i64 r.1.level, .int .i64 r.1.minutes, .int .i64 r.1.start, .int .i64 r.1.stop, .int .i64 r.1.end_, s0], .int .i64 r.2] ∧ Sl A w' s0 r.1.pieces ∧ Kp False w w' := by
  unfold level_ReadClock at hm
  refine enter Tryz.func4 rfl Tryz.ntmps4 rfl ?_
  have hA0 := hA
  have hB := Nat.le_refl w.heap.size
  have hK : Tr False w.heap.size A w A w := Tr.refl (Dw := False) hA
  have hH : Hp w.heap.size A w [] := Hp.nil
  refine C_seq ?_
  refine C_region ?_
  refine V_allocH (Dw := False) (B := w.heap.size) hH Tryz.zeroValue24 hB hA rfl ?_
  intro b1 w2 A3 hH4 ht5
  replace hK := Tr.trans (Dw := False) hK ht5
  replace hB := Nat.le_trans hB ht5.ex.size
  replace hA := ht5.new
  replace hH : Hp w.heap.size A3 w2 (obC b1 [.int .i64 0, .int .i64 0, .int .i64 0, .int .i64 0, .int .i64 0, .int .i64 0, .slice none 0 0] 24 :: []) := hH4
  refine V_y (Y_assign rfl) rfl rfl rfl ?_
  refine V_to (fun _ _ => rfl) ?_
  refine C_seq ?_
  refine C_seq ?_
  refine C_region ?_
  refine V_y (Y_move rfl) rfl rfl rfl ?_
  refine V_y (Y_lenStr rfl Tryz.underlying9 rfl) rfl rfl rfl ?_
  refine V_y (Y_gtr rfl rfl) rfl rfl rfl ?_
  refine V_to (fun _ _ => rfl) ?_
  refine C_cond rfl (fun hc6 => ?_) (fun hc6 => ?_)
  · rw [if_pos hc6] at hm
    refine C_seq ?_
    refine C_region ?_
    refine V_y (Y_build Tryz.underlying24 Tryz.zeroValue24 (Tryz_places24 _ Tryz.underlying24) rfl (by with_unfolding_all rfl)) rfl rfl rfl ?_
    refine V_storeC (Dw := False) (off := 0) (ds := [.int .i64 0, .int .i64 0, .int .i64 0, .int .i64 0, .int .i64 0, .int .i64 0, .slice none 0 0]) hH (i := 0) rfl Tryz.sizeOf24 rfl (Nat.le_of_ble_eq_true rfl) (by exact (List.forall_mem_cons.2 ⟨rfl, (List.forall_mem_cons.2 ⟨rfl, (List.forall_mem_cons.2 ⟨rfl, (List.forall_mem_cons.2 ⟨rfl, (List.forall_mem_cons.2 ⟨rfl, (List.forall_mem_cons.2 ⟨rfl, (List.forall_mem_cons.2 ⟨rfl, (fun _ h => nomatch h)⟩)⟩)⟩)⟩)⟩)⟩)⟩)) rfl hB hA rfl rfl ?_
    intro w7 hH8 ht9
    replace hK := Tr.trans (Dw := False) hK ht9
    replace hB := Nat.le_trans hB ht9.ex.size
    replace hA := ht9.new
    replace hH : Hp w.heap.size A3 w7 (obC b1 [.int .i64 0, .int .i64 0, .int .i64 0, .int .i64 0, .int .i64 0, .int .i64 0, .slice none 0 0] 24 :: []) := hH8
    refine V_y (Y_assign rfl) rfl rfl rfl ?_
    refine V_to (fun _ _ => rfl) ?_
    obtain rfl := Option.some.inj hm
    refine C_ret ?_
    try simp only [↓inBlock_ret, ↓then_ret]
    exact retQ rfl (Res.l2 Tryz.results4 (RL.cell rfl (loadVar_agg (Hp.part (off := 0) (n := 7) (ds := [.int .i64 0, .int .i64 0, .int .i64 0, .int .i64 0, .int .i64 0, .int .i64 0, .slice none 0 0]) hH (i := 0) rfl rfl) Tryz.isAgg24 Tryz.sizeOf24)) (RL.tmp rfl)) ⟨.slice none 0 0, rfl, Sl.nil, hK.kp⟩
  · rw [if_neg (nt hc6)] at hm
    refine C_skip_to (fun _ _ => rfl) ?_
    refine C_seq ?_
    refine C_region ?_
    refine V_y (Y_move rfl) rfl rfl rfl ?_
    obtain ⟨x10, hx10, hm⟩ := Option.bind_eq_some_iff.1 hm
    refine V_call Tryz.call7 rfl rfl rfl rfl (strings_CutSuffix_c w2 s (⟨#[10]⟩ : ByteArray) hx10) ?_
    rintro _ _ ⟨rfl, rfl⟩
    refine V_y (Y_move rfl) rfl rfl rfl ?_
    refine V_y (Y_extract rfl rfl) rfl rfl rfl ?_
    refine V_y (Y_extract rfl rfl) rfl rfl rfl ?_
    refine V_y (Y_assign rfl) rfl rfl rfl ?_
    refine V_y (Y_assign rfl) rfl rfl rfl ?_
    refine V_to (fun _ _ => rfl) ?_
    refine C_seq ?_
    refine C_region ?_
    refine V_y (Y_move rfl) rfl rfl rfl ?_
    obtain ⟨x11, hx11, hm⟩ := Option.bind_eq_some_iff.1 hm
    refine V_call Tryz.call8 rfl rfl rfl rfl (strings_Split_c (Dw := False) w2 hA (Fz.tr (Dw := False) hT hK) x10.1 (⟨#[32]⟩ : ByteArray) hx11) ?_
    rintro v12 w14 ⟨_, rfl, h13, hk15⟩
    have ht16 := Kp.tr (Dw := False) hk15 hA hB
    replace hH := Hp.kp (Dw := False) hH hk15
    replace hK := Tr.trans (Dw := False) hK ht16
    replace hB := Nat.le_trans hB ht16.ex.size
    replace hA := ht16.new
    refine V_y (Y_assign rfl) rfl rfl rfl ?_
    refine V_to (fun _ _ => rfl) ?_
    refine C_seq ?_
    refine C_region ?_
    refine V_y (Y_move rfl) rfl rfl rfl ?_
    obtain ⟨x17, hx17, hm⟩ := Option.bind_eq_some_iff.1 hm
    obtain ⟨v18, h19, h19y⟩ := sliceL_val hx17 h13
    refine V_y (Y_sliceLL h19y Tryz.underlying32 Tryz.sizeOf9 rfl rfl) rfl rfl rfl ?_
    obtain ⟨x20, hx20, hm⟩ := Option.bind_eq_some_iff.1 hm
    refine V_call Tryz.call9 rfl rfl rfl rfl (level_numbers_c w14 hA (Fz.tr (Dw := False) hT hK) x17 v18 h19 9 hx20) ?_
    rintro _ w23 ⟨v21, rfl, h22, hk24⟩
    obtain ⟨A25, ht26, hH27⟩ := Hp.addOwnd (Dw := False) hH hB hA hk24 h22
    replace h13 := Sl.tr (Dw := False) h13 ht26
    replace h19 := Sl.tr (Dw := False) h19 ht26
    replace hK := Tr.trans (Dw := False) hK ht26
    replace hB := Nat.le_trans hB ht26.ex.size
    replace hA := ht26.new
    replace hH : Hp w.heap.size A25 w23 (obS (α := Int) 3 v21 x20.1 :: obC b1 [.int .i64 0, .int .i64 0, .int .i64 0, .int .i64 0, .int .i64 0, .int .i64 0, .slice none 0 0] 24 :: []) := hH27
    refine V_y (Y_move rfl) rfl rfl rfl ?_
    refine V_y (Y_extract rfl rfl) rfl rfl rfl ?_
    refine V_y (Y_extract rfl rfl) rfl rfl rfl ?_
    refine V_y (Y_assign rfl) rfl rfl rfl ?_
    refine V_y (Y_assign rfl) rfl rfl rfl ?_
    refine V_to (fun _ _ => rfl) ?_
    refine C_seq ?_
    refine C_seq ?_
    refine C_region ?_
    refine V_y (Y_move rfl) rfl rfl rfl ?_
    refine V_y (Y_not rfl) rfl rfl rfl ?_
    refine V_y (Y_move rfl) rfl rfl rfl ?_
    obtain ⟨s29, hs29, hm⟩ := Option.bind_eq_some_iff.1 hm
    refine V_cut 5 (fun _ : Unit => [(2, .pointer (some ⟨b1, 0, none⟩)), (7, v21), (8, .bool x20.2), (36, .bool s29)]) (fun _ w' => w23 = w') ?_ ?_
    · simp only [List.take, List.drop]
      rcases Bool.eq_false_or_eq_true (!x10.2) with hc28 | hc28
      · rw [if_pos hc28] at hs29
        refine V_gn rfl rfl rfl hc28 rfl rfl rfl ?_
        refine V_gn rfl rfl rfl hc28 rfl rfl rfl ?_
        refine V_gn rfl rfl rfl hc28 rfl rfl rfl ?_
        refine V_gn rfl rfl rfl hc28 rfl rfl rfl ?_
        refine V_y (Y_pick_te rfl hc28 rfl) rfl rfl rfl ?_
        obtain rfl := Option.some.inj hs29
        exact V_end fun a ha => ⟨(), ha.sub ⟨rfl, rfl, rfl, rfl, trivial⟩, rfl⟩
      · rw [if_neg (nt hc28)] at hs29
        refine V_ge rfl rfl rfl hc28 ?_
        refine V_y (Y_move rfl) rfl rfl rfl ?_
        refine V_ge rfl rfl rfl hc28 ?_
        obtain ⟨x30, hx30, hs29⟩ := Option.bind_eq_some_iff.1 hs29
        refine V_indexAddr h13 hx30 Tryz.underlying32 Tryz.sizeOf9 rfl rfl rfl ?_
        intro b31 o32 h33
        refine V_ge rfl rfl rfl hc28 ?_
        refine V_y (Y_load (El.str h33) Tryz.isAgg9 rfl) rfl rfl rfl ?_
        refine V_ge rfl rfl rfl hc28 ?_
        refine V_y (Y_sneq rfl rfl) rfl rfl rfl ?_
        refine V_y (Y_pick_fe rfl hc28 rfl) rfl rfl rfl ?_
        obtain rfl := Option.some.inj hs29
        exact V_end fun a ha => ⟨(), ha.sub ⟨rfl, rfl, rfl, rfl, trivial⟩, rfl⟩
    simp only [List.take, List.drop]
    rintro _ _ rfl
    refine V_y (Y_move rfl) rfl rfl rfl ?_
    refine V_cut 3 (fun _ : Unit => [(2, .pointer (some ⟨b1, 0, none⟩)), (7, v21), (40, .bool (s29 || (!x20.2)))]) (fun _ w' => w23 = w') ?_ ?_
    · simp only [List.take, List.drop]
      rcases Bool.eq_false_or_eq_true (s29) with hc34 | hc34
      · refine V_gn rfl rfl rfl hc34 rfl rfl rfl ?_
        refine V_gn rfl rfl rfl hc34 rfl rfl rfl ?_
        refine V_y (Y_pick_te rfl hc34 rfl) rfl rfl rfl ?_
        exact V_end fun a ha => ⟨(), ha.sub ⟨rfl, rfl, (by rw [hc34]; rfl), trivial⟩, rfl⟩
      · refine V_ge rfl rfl rfl hc34 ?_
        refine V_y (Y_move rfl) rfl rfl rfl ?_
        refine V_ge rfl rfl rfl hc34 ?_
        refine V_y (Y_not rfl) rfl rfl rfl ?_
        refine V_y (Y_pick_fe rfl hc34 rfl) rfl rfl rfl ?_
        exact V_end fun a ha => ⟨(), ha.sub ⟨rfl, rfl, (by rw [hc34]; rfl), trivial⟩, rfl⟩
    simp only [List.take, List.drop]
    rintro _ _ rfl
    refine V_y (Y_move rfl) rfl rfl rfl ?_
    refine V_cut 4 (fun _ : Unit => [(2, .pointer (some ⟨b1, 0, none⟩)), (7, v21), (45, .bool ((s29 || (!x20.2)) || (decide ((x20.1.length : Int) < 6))))]) (fun _ w' => w23 = w') ?_ ?_
    · simp only [List.take, List.drop]
      rcases Bool.eq_false_or_eq_true ((s29 || (!x20.2))) with hc36 | hc36
      · refine V_gn rfl rfl rfl hc36 rfl rfl rfl ?_
        refine V_gn rfl rfl rfl hc36 rfl rfl rfl ?_
        refine V_gn rfl rfl rfl hc36 rfl rfl rfl ?_
        refine V_y (Y_pick_te rfl hc36 rfl) rfl rfl rfl ?_
        exact V_end fun a ha => ⟨(), ha.sub ⟨rfl, rfl, (by rw [hc36]; rfl), trivial⟩, rfl⟩
      · refine V_ge rfl rfl rfl hc36 ?_
        refine V_y (Y_move rfl) rfl rfl rfl ?_
        refine V_ge rfl rfl rfl hc36 ?_
        refine V_y (Y_lenSl (Hp.any (α := Int) (e := 3) (v := v21) (l := x20.1) hH (i := 0) rfl) rfl Tryz.underlying34 rfl) rfl rfl rfl ?_
        refine V_ge rfl rfl rfl hc36 ?_
        refine V_y (Y_lss rfl rfl) rfl rfl rfl ?_
        refine V_y (Y_pick_fe rfl hc36 rfl) rfl rfl rfl ?_
        exact V_end fun a ha => ⟨(), ha.sub ⟨rfl, rfl, (by rw [hc36]; rfl), trivial⟩, rfl⟩
    simp only [List.take, List.drop]
    rintro _ _ rfl
    refine V_y (Y_move rfl) rfl rfl rfl ?_
    refine V_cut 5 (fun _ : Unit => [(2, .pointer (some ⟨b1, 0, none⟩)), (7, v21), (51, .bool (((s29 || (!x20.2)) || (decide ((x20.1.length : Int) < 6))) || ((Int.tmod (x20.1.length : Int) 3) != 0)))]) (fun _ w' => w23 = w') ?_ ?_
    · simp only [List.take, List.drop]
      rcases Bool.eq_false_or_eq_true (((s29 || (!x20.2)) || (decide ((x20.1.length : Int) < 6)))) with hc38 | hc38
      · refine V_gn rfl rfl rfl hc38 rfl rfl rfl ?_
        refine V_gn rfl rfl rfl hc38 rfl rfl rfl ?_
        refine V_gn rfl rfl rfl hc38 rfl rfl rfl ?_
        refine V_gn rfl rfl rfl hc38 rfl rfl rfl ?_
        refine V_y (Y_pick_te rfl hc38 rfl) rfl rfl rfl ?_
        exact V_end fun a ha => ⟨(), ha.sub ⟨rfl, rfl, (by rw [hc38]; rfl), trivial⟩, rfl⟩
      · refine V_ge rfl rfl rfl hc38 ?_
        refine V_y (Y_move rfl) rfl rfl rfl ?_
        refine V_ge rfl rfl rfl hc38 ?_
        refine V_y (Y_lenSl (Hp.any (α := Int) (e := 3) (v := v21) (l := x20.1) hH (i := 0) rfl) rfl Tryz.underlying34 rfl) rfl rfl rfl ?_
        refine V_ge rfl rfl rfl hc38 ?_
        refine V_y (Y_rem (by rw [rem, if_neg (by decide)]) rfl rfl) rfl rfl rfl ?_
        refine V_ge rfl rfl rfl hc38 ?_
        refine V_y (Y_neq rfl rfl) rfl rfl rfl ?_
        refine V_y (Y_pick_fe rfl hc38 rfl) rfl rfl rfl ?_
        exact V_end fun a ha => ⟨(), ha.sub ⟨rfl, rfl, (by rw [hc38]; rfl), trivial⟩, rfl⟩
    simp only [List.take, List.drop]
    rintro _ _ rfl
    refine V_to (fun _ _ => rfl) ?_
    refine C_cond rfl (fun hc40 => ?_) (fun hc40 => ?_)
    · rw [if_pos hc40] at hm
      refine C_seq ?_
      refine C_region ?_
      refine V_y (Y_build Tryz.underlying24 Tryz.zeroValue24 (Tryz_places24 _ Tryz.underlying24) rfl (by with_unfolding_all rfl)) rfl rfl rfl ?_
      refine V_storeC (Dw := False) (off := 0) (ds := [.int .i64 0, .int .i64 0, .int .i64 0, .int .i64 0, .int .i64 0, .int .i64 0, .slice none 0 0]) hH (i := 1) rfl Tryz.sizeOf24 rfl (Nat.le_of_ble_eq_true rfl) (by exact (List.forall_mem_cons.2 ⟨rfl, (List.forall_mem_cons.2 ⟨rfl, (List.forall_mem_cons.2 ⟨rfl, (List.forall_mem_cons.2 ⟨rfl, (List.forall_mem_cons.2 ⟨rfl, (List.forall_mem_cons.2 ⟨rfl, (List.forall_mem_cons.2 ⟨rfl, (fun _ h => nomatch h)⟩)⟩)⟩)⟩)⟩)⟩)⟩)) rfl hB hA rfl rfl ?_
      intro w41 hH42 ht43
      replace hK := Tr.trans (Dw := False) hK ht43
      replace hB := Nat.le_trans hB ht43.ex.size
      replace hA := ht43.new
      replace hH : Hp w.heap.size A25 w41 (obS (α := Int) 3 v21 x20.1 :: obC b1 [.int .i64 0, .int .i64 0, .int .i64 0, .int .i64 0, .int .i64 0, .int .i64 0, .slice none 0 0] 24 :: []) := hH42
      refine V_y (Y_assign rfl) rfl rfl rfl ?_
      refine V_to (fun _ _ => rfl) ?_
      obtain rfl := Option.some.inj hm
      refine C_ret ?_
      try simp only [↓inBlock_ret, ↓then_ret]
      exact retQ rfl (Res.l2 Tryz.results4 (RL.cell rfl (loadVar_agg (Hp.part (off := 0) (n := 7) (ds := [.int .i64 0, .int .i64 0, .int .i64 0, .int .i64 0, .int .i64 0, .int .i64 0, .slice none 0 0]) hH (i := 1) rfl rfl) Tryz.isAgg24 Tryz.sizeOf24)) (RL.tmp rfl)) ⟨.slice none 0 0, rfl, Sl.nil, hK.kp⟩
    · rw [if_neg (nt hc40)] at hm
      refine C_skip_to (fun _ _ => rfl) ?_
      refine C_seq ?_
      refine C_region_def (Dw := False) (B := w.heap.size) (k := 19) [(9, 24, .agg #[.int .i64 0, .int .i64 0, .int .i64 0, .int .i64 0, .int .i64 0, .int .i64 0, .slice none 0 0])] [(71, 18)] Tryz_mixed (by kernel_rfl) rfl ⟨⟨_, _, _, rfl, by simp⟩, Tryz.zeroValue24, trivial⟩ ⟨⟨_, _, _, rfl, by decide, by decide⟩, by decide, rfl, Tryz.sizeOf24, trivial⟩ rfl rfl (by decide) hH hB hA ?_
      simp only [List.take]
      refine VQ_y (fun w' hw' => Y_move rfl) rfl rfl rfl ?_
      obtain ⟨x50, hx50, hm⟩ := Option.bind_eq_some_iff.1 hm
      refine VQ_indexAddrH (α := Int) (e := 3) (v := v21) (l := x20.1) hH (i := 0) rfl hx50 Tryz.underlying34 Tryz.sizeOf3 rfl rfl rfl ?_
      intro b51 o52 h53 hl54
      refine VQ_y (fun w' hw' => Y_load (El.int (El.kp (Dw := False) h53 hw')) Tryz.isAgg3 rfl) rfl rfl rfl ?_
      refine VQ_y (fun w' hw' => Y_move rfl) rfl rfl rfl ?_
      obtain ⟨x55, hx55, hm⟩ := Option.bind_eq_some_iff.1 hm
      refine VQ_indexAddrH (α := Int) (e := 3) (v := v21) (l := x20.1) hH (i := 0) rfl hx55 Tryz.underlying34 Tryz.sizeOf3 rfl rfl rfl ?_
      intro b56 o57 h58 hl59
      refine VQ_y (fun w' hw' => Y_load (El.int (El.kp (Dw := False) h58 hw')) Tryz.isAgg3 rfl) rfl rfl rfl ?_
      refine VQ_y (fun w' hw' => Y_move rfl) rfl rfl rfl ?_
      obtain ⟨x60, hx60, hm⟩ := Option.bind_eq_some_iff.1 hm
      refine VQ_indexAddrH (α := Int) (e := 3) (v := v21) (l := x20.1) hH (i := 0) rfl hx60 Tryz.underlying34 Tryz.sizeOf3 rfl rfl rfl ?_
      intro b61 o62 h63 hl64
      refine VQ_y (fun w' hw' => Y_load (El.int (El.kp (Dw := False) h63 hw')) Tryz.isAgg3 rfl) rfl rfl rfl ?_
      refine VQ_y (fun w' hw' => Y_move rfl) rfl rfl rfl ?_
      obtain ⟨x65, hx65, hm⟩ := Option.bind_eq_some_iff.1 hm
      refine VQ_indexAddrH (α := Int) (e := 3) (v := v21) (l := x20.1) hH (i := 0) rfl hx65 Tryz.underlying34 Tryz.sizeOf3 rfl rfl rfl ?_
      intro b66 o67 h68 hl69
      refine VQ_y (fun w' hw' => Y_load (El.int (El.kp (Dw := False) h68 hw')) Tryz.isAgg3 rfl) rfl rfl rfl ?_
      refine VQ_y (fun w' hw' => Y_move rfl) rfl rfl rfl ?_
      obtain ⟨x70, hx70, hm⟩ := Option.bind_eq_some_iff.1 hm
      refine VQ_indexAddrH (α := Int) (e := 3) (v := v21) (l := x20.1) hH (i := 0) rfl hx70 Tryz.underlying34 Tryz.sizeOf3 rfl rfl rfl ?_
      intro b71 o72 h73 hl74
      refine VQ_y (fun w' hw' => Y_load (El.int (El.kp (Dw := False) h73 hw')) Tryz.isAgg3 rfl) rfl rfl rfl ?_
      refine VQ_y (fun w' hw' => Y_move rfl) rfl rfl rfl ?_
      obtain ⟨x75, hx75, hm⟩ := Option.bind_eq_some_iff.1 hm
      refine VQ_indexAddrH (α := Int) (e := 3) (v := v21) (l := x20.1) hH (i := 0) rfl hx75 Tryz.underlying34 Tryz.sizeOf3 rfl rfl rfl ?_
      intro b76 o77 h78 hl79
      refine VQ_y (fun w' hw' => Y_load (El.int (El.kp (Dw := False) h78 hw')) Tryz.isAgg3 rfl) rfl rfl rfl ?_
      refine VQ_y (fun w' hw' => Y_build Tryz.underlying24 Tryz.zeroValue24 (Tryz_places24 _ Tryz.underlying24) rfl (by with_unfolding_all rfl)) rfl rfl rfl ?_
      refine VQ_end fun a ha => ⟨_, [.agg #[.int .i64 x50, .int .i64 x55, .int .i64 x60, .int .i64 x65, .int .i64 x70, .int .i64 x75, .slice none 0 0]], ha, rfl, rfl, ⟨rfl, (by exact (List.forall_mem_cons.2 ⟨rfl, (List.forall_mem_cons.2 ⟨rfl, (List.forall_mem_cons.2 ⟨rfl, (List.forall_mem_cons.2 ⟨rfl, (List.forall_mem_cons.2 ⟨rfl, (List.forall_mem_cons.2 ⟨rfl, (List.forall_mem_cons.2 ⟨rfl, (fun _ h => nomatch h)⟩)⟩)⟩)⟩)⟩)⟩)⟩)), trivial⟩, fun b44 w45 A46 hH47 ht48 a ha49 => ?_⟩
      replace hK := Tr.trans (Dw := False) hK ht48
      replace hB := Nat.le_trans hB ht48.ex.size
      replace hA := ht48.new
      replace hH : Hp w.heap.size A46 w45 (obC (b44 0) [.int .i64 x50, .int .i64 x55, .int .i64 x60, .int .i64 x65, .int .i64 x70, .int .i64 x75, .slice none 0 0] 24 :: obS (α := Int) 3 v21 x20.1 :: obC b1 [.int .i64 0, .int .i64 0, .int .i64 0, .int .i64 0, .int .i64 0, .int .i64 0, .slice none 0 0] 24 :: []) := hH47
      refine C_at (n := ⟨105, [], none⟩) (fun _ _ => rfl) ?_ ha49
      refine C_seq ?_
      refine C_seq ?_
      refine C_region ?_
      refine V_y (Y_assign rfl) rfl rfl rfl ?_
      refine V_to (fun _ _ => rfl) ?_
      replace hH : Hp w.heap.size A46 w45 (obS (α := level_Piece) 38 (.slice none 0 0) ([] : (List level_Piece)) :: obC (b44 0) [.int .i64 x50, .int .i64 x55, .int .i64 x60, .int .i64 x65, .int .i64 x70, .int .i64 x75, .slice none 0 0] 24 :: obS (α := Int) 3 v21 x20.1 :: obC b1 [.int .i64 0, .int .i64 0, .int .i64 0, .int .i64 0, .int .i64 0, .int .i64 0, .slice none 0 0] 24 :: []) := Hp.addNil (α := level_Piece) (e := 38) hH
      obtain ⟨o80, ho80, hm⟩ := Option.bind_eq_some_iff.1 hm
      refine C_cutG (ι := ((Int × level_Clock) × Value × (Nat → Prop))) (fun ⟨s81, v87, A89⟩ => [(2, .pointer (some ⟨b1, 0, none⟩)), (9, .pointer (some ⟨(b44 0), 0, none⟩))]) (fun ⟨s81, v87, A89⟩ => fun w' => o80 = .fin s81 ∧ Hp w.heap.size A89 w' (obS (α := level_Piece) 38 v87 s81.2.pieces :: obC (b44 0) [.int .i64 s81.2.kind, .int .i64 s81.2.level, .int .i64 s81.2.minutes, .int .i64 s81.2.start, .int .i64 s81.2.stop, .int .i64 s81.2.end_, v87] 24 :: obS (α := Int) 3 v21 x20.1 :: obC b1 [.int .i64 0, .int .i64 0, .int .i64 0, .int .i64 0, .int .i64 0, .int .i64 0, .slice none 0 0] 24 :: []) ∧ Tr False w.heap.size A46 w45 A89 w') ?_ ?_
      · refine C_block ?_
        refine C_while ho80 (fun s91 a w' => ∃ i : (Value × (Nat → Prop)), Has ⟨105, [], none⟩ a ([(2, .pointer (some ⟨b1, 0, none⟩)), (7, v21), (9, .pointer (some ⟨(b44 0), 0, none⟩)), (10, .int .i64 s91.1)]) ∧ Hp w.heap.size i.2 w' (obS (α := level_Piece) 38 i.1 s91.2.pieces :: obC (b44 0) [.int .i64 s91.2.kind, .int .i64 s91.2.level, .int .i64 s91.2.minutes, .int .i64 s91.2.start, .int .i64 s91.2.stop, .int .i64 s91.2.end_, i.1] 24 :: obS (α := Int) 3 v21 x20.1 :: obC b1 [.int .i64 0, .int .i64 0, .int .i64 0, .int .i64 0, .int .i64 0, .int .i64 0, .slice none 0 0] 24 :: []) ∧ Tr False w.heap.size A46 w45 i.2 w') (fun a ha => ⟨(.slice none 0 0, A46), ha.sub ⟨rfl, rfl, rfl, rfl, trivial⟩, ⟨hH, Tr.refl (Dw := False) hA⟩⟩) ?_
        rintro K s91 a w92 ⟨⟨v93, A95⟩, ha142, hH96, hr82⟩ K103
        refine C_of ?_ ha142
        replace hK := Tr.trans (Dw := False) hK hr82
        replace hB := Nat.le_trans hB hr82.ex.size
        replace hA := hr82.new
        replace hH : Hp w.heap.size A95 w92 (obS (α := level_Piece) 38 v93 s91.2.pieces :: obC (b44 0) [.int .i64 s91.2.kind, .int .i64 s91.2.level, .int .i64 s91.2.minutes, .int .i64 s91.2.start, .int .i64 s91.2.stop, .int .i64 s91.2.end_, v93] 24 :: obS (α := Int) 3 v21 x20.1 :: obC b1 [.int .i64 0, .int .i64 0, .int .i64 0, .int .i64 0, .int .i64 0, .int .i64 0, .slice none 0 0] 24 :: []) := hH96
        obtain ⟨x97, h98, h99⟩ := K103
        refine C_seq ?_
        refine C_seq ?_
        refine C_region ?_
        refine V_y (Y_move rfl) rfl rfl rfl ?_
        refine V_y (Y_move rfl) rfl rfl rfl ?_
        refine V_y (Y_lenSl (Hp.any (α := Int) (e := 3) (v := v21) (l := x20.1) hH (i := 2) rfl) rfl Tryz.underlying34 rfl) rfl rfl rfl ?_
        refine V_y (Y_lss rfl rfl) rfl rfl rfl ?_
        refine V_to (fun _ _ => rfl) ?_
        refine C_cond rfl (fun hc104 => ?_) (fun hc104 => ?_)
        · rw [if_pos hc104] at h98
          refine C_skip_to (fun _ _ => rfl) ?_
          refine C_seq ?_
          refine C_block ?_
          refine C_region_ch (Dw := False) A95 21 [(1, 0), (0, 1), (1, 2), (1, 3), (0, 4), (0, 5), (1, 6), (1, 7), (1, 8), (0, 9), (0, 10), (1, 11), (1, 12), (1, 13), (0, 14), (0, 15), (1, 16), (2, 17), (4, 18), (1, 19), (4, 20)] Tryz_mixed (by kernel_rfl) (fun w105 hk106 => ?_)
          have ht107 := Kp.tr (Dw := False) hk106 hA hB
          replace hH := Hp.kp (Dw := False) hH hk106
          replace hK := Tr.trans (Dw := False) hK ht107
          replace hr82 := Tr.trans (Dw := False) hr82 ht107
          replace hB := Nat.le_trans hB ht107.ex.size
          replace hA := ht107.new
          refine CH_q2 (Dw := False) rfl ?_
          refine VQ_y (fun w' hw' => Y_fieldAddrC (off2 := 6) Tryz.underlying24 rfl Tryz.sizeOf22 (by decide) rfl rfl) rfl rfl rfl ?_
          refine VQ_CH (Dw := False) ?_
          refine CH_q1 (Dw := False) rfl ?_
          refine VQ_y (fun w' hw' => Y_load ((World.cell?_of_block (hw'.block _ (World.block_lt_of_cell? _ _ (Hp.cell (j := 6) hH (i := 1) rfl rfl)))).trans (Hp.cell (j := 6) hH (i := 1) rfl rfl)) Tryz.isAgg22 rfl) rfl rfl rfl ?_
          refine VQ_CH (Dw := False) ?_
          refine CH_q2 (Dw := False) rfl ?_
          refine VQ_y (fun w' hw' => Y_move rfl) rfl rfl rfl ?_
          refine VQ_CH (Dw := False) ?_
          refine CH_q2 (Dw := False) rfl ?_
          refine VQ_y (fun w' hw' => Y_move rfl) rfl rfl rfl ?_
          refine VQ_CH (Dw := False) ?_
          refine CH_q1 (Dw := False) rfl ?_
          obtain ⟨x108, hx108, h98⟩ := Option.bind_eq_some_iff.1 h98
          refine VQ_indexAddrH (α := Int) (e := 3) (v := v21) (l := x20.1) hH (i := 2) rfl hx108 Tryz.underlying34 Tryz.sizeOf3 rfl rfl rfl ?_
          intro b109 o110 h111 hl112
          refine VQ_CH (Dw := False) ?_
          refine CH_q1 (Dw := False) rfl ?_
          refine VQ_y (fun w' hw' => Y_load (El.int (El.kp (Dw := False) h111 hw')) Tryz.isAgg3 rfl) rfl rfl rfl ?_
          refine VQ_CH (Dw := False) ?_
          refine CH_q2 (Dw := False) rfl ?_
          refine VQ_y (fun w' hw' => Y_move rfl) rfl rfl rfl ?_
          refine VQ_CH (Dw := False) ?_
          refine CH_q2 (Dw := False) rfl ?_
          refine VQ_y (fun w' hw' => Y_move rfl) rfl rfl rfl ?_
          refine VQ_CH (Dw := False) ?_
          refine CH_q2 (Dw := False) rfl ?_
          refine VQ_y (fun w' hw' => Y_addI rfl rfl) rfl rfl rfl ?_
          refine VQ_CH (Dw := False) ?_
          refine CH_q1 (Dw := False) rfl ?_
          obtain ⟨x113, hx113, h98⟩ := Option.bind_eq_some_iff.1 h98
          refine VQ_indexAddrH (α := Int) (e := 3) (v := v21) (l := x20.1) hH (i := 2) rfl hx113 Tryz.underlying34 Tryz.sizeOf3 rfl rfl rfl ?_
          intro b114 o115 h116 hl117
          refine VQ_CH (Dw := False) ?_
          refine CH_q1 (Dw := False) rfl ?_
          refine VQ_y (fun w' hw' => Y_load (El.int (El.kp (Dw := False) h116 hw')) Tryz.isAgg3 rfl) rfl rfl rfl ?_
          refine VQ_CH (Dw := False) ?_
          refine CH_q2 (Dw := False) rfl ?_
          refine VQ_y (fun w' hw' => Y_move rfl) rfl rfl rfl ?_
          refine VQ_CH (Dw := False) ?_
          refine CH_q2 (Dw := False) rfl ?_
          refine VQ_y (fun w' hw' => Y_move rfl) rfl rfl rfl ?_
          refine VQ_CH (Dw := False) ?_
          refine CH_q2 (Dw := False) rfl ?_
          refine VQ_y (fun w' hw' => Y_addI rfl rfl) rfl rfl rfl ?_
          refine VQ_CH (Dw := False) ?_
          refine CH_q1 (Dw := False) rfl ?_
          obtain ⟨x118, hx118, h98⟩ := Option.bind_eq_some_iff.1 h98
          refine VQ_indexAddrH (α := Int) (e := 3) (v := v21) (l := x20.1) hH (i := 2) rfl hx118 Tryz.underlying34 Tryz.sizeOf3 rfl rfl rfl ?_
          intro b119 o120 h121 hl122
          refine VQ_CH (Dw := False) ?_
          refine CH_q1 (Dw := False) rfl ?_
          refine VQ_y (fun w' hw' => Y_load (El.int (El.kp (Dw := False) h121 hw')) Tryz.isAgg3 rfl) rfl rfl rfl ?_
          refine VQ_CH (Dw := False) ?_
          refine CH_q2 (Dw := False) rfl ?_
          refine VQ_y (fun w' hw' => Y_build Tryz.underlying38 Tryz.zeroValue38 (Tryz_places38 _ Tryz.underlying38) rfl (by with_unfolding_all rfl)) rfl rfl rfl ?_
          refine VQ_CH (Dw := False) ?_
          refine CH_l1 (Dw := False) (k := 0) rfl ?_
          refine V_buildSlice (Dw := False) (cells := #[.int .i64 x108, .int .i64 x113, .int .i64 x118]) (l := ([(⟨x108, x113, x118⟩ : level_Piece)] : List level_Piece)) (len := 1) Tryz.underlying22 Tryz.sizeOf38 Tryz.zeroValue38 rfl (by kernel_rfl) (show (1 * 3 : Nat) ≠ 0 by decide) (show (1 * 3 : Nat) ≤ 2 ^ 24 by decide) hA ⟨[.int .i64 x108, .int .i64 x113, .int .i64 x118], _, rfl, ⟨[.int .i64 x108], _, rfl, rfl, ⟨[.int .i64 x113], _, rfl, rfl, rfl⟩⟩, rfl⟩ rfl rfl ?_
          intro v123 w124 hk126 h125
          have ht127 := Kp.tr (Dw := False) hk126 hA hB
          replace hH := Hp.kp (Dw := False) hH hk126
          replace h111 := El.kp (Dw := False) h111 hk126
          replace h116 := El.kp (Dw := False) h116 hk126
          replace h121 := El.kp (Dw := False) h121 hk126
          replace hK := Tr.trans (Dw := False) hK ht127
          replace hr82 := Tr.trans (Dw := False) hr82 ht127
          replace hB := Nat.le_trans hB ht127.ex.size
          replace hA := ht127.new
          refine V_CH (Dw := False) (hk126) ?_
          refine CH_l1 (Dw := False) (k := 2) rfl ?_
          obtain ⟨x128, hx128, h98⟩ := Option.bind_eq_some_iff.1 h98
          refine V_appendH (Dw := False) (e := 38) (v := v93) (l := s91.2.pieces) (ti := Tryz.t38) (bytes := 24) (lim := 5864062014805) hH (i := 0) rfl h125 hx128 Tryz.underlying22 Tryz_info38 rfl rfl rfl rfl (by decide) (by decide) (by decide) hB hA rfl rfl rfl ?_
          intro v129 w130 A131 hH132 ht133
          replace h125 := Sl.tr (Dw := False) h125 ht133
          replace hK := Tr.trans (Dw := False) hK ht133
          replace hr82 := Tr.trans (Dw := False) hr82 ht133
          replace hB := Nat.le_trans hB ht133.ex.size
          replace hA := ht133.new
          replace hH : Hp w.heap.size A131 w130 (obS (α := level_Piece) 38 v129 x128 :: obC (b44 0) [.int .i64 s91.2.kind, .int .i64 s91.2.level, .int .i64 s91.2.minutes, .int .i64 s91.2.start, .int .i64 s91.2.stop, .int .i64 s91.2.end_, v93] 24 :: obS (α := Int) 3 v21 x20.1 :: obC b1 [.int .i64 0, .int .i64 0, .int .i64 0, .int .i64 0, .int .i64 0, .int .i64 0, .slice none 0 0] 24 :: []) := hH132
          refine V_CHw (Dw := False) ?_
          refine CH_q2 (Dw := False) rfl ?_
          refine VQ_y (fun w' hw' => Y_fieldAddrC (off2 := 6) Tryz.underlying24 rfl Tryz.sizeOf22 (by decide) rfl rfl) rfl rfl rfl ?_
          refine VQ_CH (Dw := False) ?_
          refine CH_l1 (Dw := False) (k := 2) rfl ?_
          have h139 : (v129).oneCell' = true := by obtain ⟨_, _, e, _⟩ := Hp.form (α := level_Piece) (e := 38) (v := v129) (l := x128) hH (i := 0) rfl; rw [e]; rfl
          refine V_storeC (Dw := False) (off := 6) (ds := [.int .i64 s91.2.kind, .int .i64 s91.2.level, .int .i64 s91.2.minutes, .int .i64 s91.2.start, .int .i64 s91.2.stop, .int .i64 s91.2.end_, v129]) hH (i := 1) rfl Tryz.sizeOf22 (by rw [← Array.length_toList, Value.cells_one h139]; rfl) (Nat.le_of_ble_eq_true rfl) (by intro u hu; rw [Value.cells_one h139] at hu; simp at hu; subst hu; assumption) (by rw [Value.cells_one h139]; rfl) hB hA rfl rfl ?_
          intro w134 hH135 ht136
          replace h125 := Sl.tr (Dw := False) h125 ht136
          replace hK := Tr.trans (Dw := False) hK ht136
          replace hr82 := Tr.trans (Dw := False) hr82 ht136
          replace hB := Nat.le_trans hB ht136.ex.size
          replace hA := ht136.new
          replace hH : Hp w.heap.size A131 w134 (obS (α := level_Piece) 38 v129 x128 :: obC (b44 0) [.int .i64 s91.2.kind, .int .i64 s91.2.level, .int .i64 s91.2.minutes, .int .i64 s91.2.start, .int .i64 s91.2.stop, .int .i64 s91.2.end_, v129] 24 :: obS (α := Int) 3 v21 x20.1 :: obC b1 [.int .i64 0, .int .i64 0, .int .i64 0, .int .i64 0, .int .i64 0, .int .i64 0, .slice none 0 0] 24 :: []) := hH135
          refine V_CHw (Dw := False) ?_
          refine CH_tail (Dw := False) ?_
          show V _ _ _ _ [] _ _
          refine V_to (fun _ _ => rfl) ?_
          refine C_region ?_
          refine V_y (Y_move rfl) rfl rfl rfl ?_
          refine V_y (Y_addI rfl rfl) rfl rfl rfl ?_
          refine V_y (Y_assign rfl) rfl rfl rfl ?_
          obtain rfl := Option.some.inj h98
          refine V_end (fun a ha140 => ?_)
          exact ⟨(w64 (s91.1 + 3), (⟨s91.2.kind, s91.2.level, s91.2.minutes, s91.2.start, s91.2.stop, s91.2.end_, x128⟩ : level_Clock)), h99, ⟨(v129, A131), ha140.sub ⟨rfl, rfl, rfl, rfl, trivial⟩, ⟨hH, hr82⟩⟩⟩
        · rw [if_neg (nt hc104)] at h98
          obtain rfl := Option.some.inj h98
          refine C_exit (fun a ha141 => ?_)
          exact ⟨((s91.1, s91.2), v93, A95), ha141.sub ⟨rfl, rfl, trivial⟩, ⟨h99.symm, hH, hr82⟩⟩
      rintro ⟨s81, v87, A89⟩ w84 ⟨rfl, hH90, hk85⟩ a ha86
      rw [Lp.andThen_fin] at hm
      replace hK := Tr.trans (Dw := False) hK hk85
      replace hB := Nat.le_trans hB hk85.ex.size
      replace hA := hk85.new
      replace hH : Hp w.heap.size A89 w84 (obS (α := level_Piece) 38 v87 s81.2.pieces :: obC (b44 0) [.int .i64 s81.2.kind, .int .i64 s81.2.level, .int .i64 s81.2.minutes, .int .i64 s81.2.start, .int .i64 s81.2.stop, .int .i64 s81.2.end_, v87] 24 :: obS (α := Int) 3 v21 x20.1 :: obC b1 [.int .i64 0, .int .i64 0, .int .i64 0, .int .i64 0, .int .i64 0, .int .i64 0, .slice none 0 0] 24 :: []) := hH90
      refine C_at (n := ⟨105, [], none⟩) (fun _ _ => rfl) ?_ ha86
      refine C_seq ?_
      refine C_seq ?_
      refine C_region ?_
      refine V_y (Y_loadA (Hp.part (off := 0) (n := 7) (ds := [.int .i64 s81.2.kind, .int .i64 s81.2.level, .int .i64 s81.2.minutes, .int .i64 s81.2.start, .int .i64 s81.2.stop, .int .i64 s81.2.end_, v87]) hH (i := 1) rfl rfl) Tryz.isAgg24 Tryz.sizeOf24 rfl) rfl rfl rfl ?_
      obtain ⟨x143, hx143, hm⟩ := Option.bind_eq_some_iff.1 hm
      refine V_call Tryz.call10 rfl rfl rfl rfl (level_CheckClock_c (Dw := False) w84 (A := fun _ => True) (fun _ _ => trivial) s81.2 v87 (Hp.any (α := level_Piece) (e := 38) (v := v87) (l := s81.2.pieces) hH (i := 0) rfl) hx143) ?_
      rintro _ w144 ⟨rfl, hk145⟩
      have ht146 := Kp.tr (Dw := False) hk145 hA hB
      replace hH := Hp.kp (Dw := False) hH hk145
      replace hK := Tr.trans (Dw := False) hK ht146
      replace hB := Nat.le_trans hB ht146.ex.size
      replace hA := ht146.new
      refine V_y (Y_assign rfl) rfl rfl rfl ?_
      refine V_to (fun _ _ => rfl) ?_
      refine C_seq ?_
      refine C_region ?_
      refine V_y (Y_move rfl) rfl rfl rfl ?_
      refine V_y (Y_neq rfl rfl) rfl rfl rfl ?_
      refine V_to (fun _ _ => rfl) ?_
      refine C_cond rfl (fun hc147 => ?_) (fun hc147 => ?_)
      · rw [if_pos hc147] at hm
        refine C_seq ?_
        refine C_region ?_
        refine V_y (Y_build Tryz.underlying24 Tryz.zeroValue24 (Tryz_places24 _ Tryz.underlying24) rfl (by with_unfolding_all rfl)) rfl rfl rfl ?_
        refine V_y (Y_move rfl) rfl rfl rfl ?_
        refine V_storeC (Dw := False) (off := 0) (ds := [.int .i64 0, .int .i64 0, .int .i64 0, .int .i64 0, .int .i64 0, .int .i64 0, .slice none 0 0]) hH (i := 3) rfl Tryz.sizeOf24 rfl (Nat.le_of_ble_eq_true rfl) (by exact (List.forall_mem_cons.2 ⟨rfl, (List.forall_mem_cons.2 ⟨rfl, (List.forall_mem_cons.2 ⟨rfl, (List.forall_mem_cons.2 ⟨rfl, (List.forall_mem_cons.2 ⟨rfl, (List.forall_mem_cons.2 ⟨rfl, (List.forall_mem_cons.2 ⟨rfl, (fun _ h => nomatch h)⟩)⟩)⟩)⟩)⟩)⟩)⟩)) rfl hB hA rfl rfl ?_
        intro w148 hH149 ht150
        replace hK := Tr.trans (Dw := False) hK ht150
        replace hB := Nat.le_trans hB ht150.ex.size
        replace hA := ht150.new
        replace hH : Hp w.heap.size A89 w148 (obS (α := level_Piece) 38 v87 s81.2.pieces :: obC (b44 0) [.int .i64 s81.2.kind, .int .i64 s81.2.level, .int .i64 s81.2.minutes, .int .i64 s81.2.start, .int .i64 s81.2.stop, .int .i64 s81.2.end_, v87] 24 :: obS (α := Int) 3 v21 x20.1 :: obC b1 [.int .i64 0, .int .i64 0, .int .i64 0, .int .i64 0, .int .i64 0, .int .i64 0, .slice none 0 0] 24 :: []) := hH149
        refine V_y (Y_assign rfl) rfl rfl rfl ?_
        refine V_to (fun _ _ => rfl) ?_
        obtain rfl := Option.some.inj hm
        refine C_ret ?_
        try simp only [↓inBlock_ret, ↓then_ret]
        exact retQ rfl (Res.l2 Tryz.results4 (RL.cell rfl (loadVar_agg (Hp.part (off := 0) (n := 7) (ds := [.int .i64 0, .int .i64 0, .int .i64 0, .int .i64 0, .int .i64 0, .int .i64 0, .slice none 0 0]) hH (i := 3) rfl rfl) Tryz.isAgg24 Tryz.sizeOf24)) (RL.tmp rfl)) ⟨.slice none 0 0, rfl, Sl.nil, hK.kp⟩
      · rw [if_neg (nt hc147)] at hm
        refine C_skip_to (fun _ _ => rfl) ?_
        refine C_seq ?_
        refine C_region ?_
        refine V_y (Y_loadA (Hp.part (off := 0) (n := 7) (ds := [.int .i64 s81.2.kind, .int .i64 s81.2.level, .int .i64 s81.2.minutes, .int .i64 s81.2.start, .int .i64 s81.2.stop, .int .i64 s81.2.end_, v87]) hH (i := 1) rfl rfl) Tryz.isAgg24 Tryz.sizeOf24 rfl) rfl rfl rfl ?_
        obtain ⟨A151, ht152, h153, hH154⟩ := Hp.freeze (Dw := False) (α := level_Piece) (v := v87) (l := s81.2.pieces) hH (i := 0) rfl hA
        replace hK := Tr.trans (Dw := False) hK ht152
        replace hB := Nat.le_trans hB ht152.ex.size
        replace hA := ht152.new
        replace hH : Hp w.heap.size A151 w144 (obC (b44 0) [.int .i64 s81.2.kind, .int .i64 s81.2.level, .int .i64 s81.2.minutes, .int .i64 s81.2.start, .int .i64 s81.2.stop, .int .i64 s81.2.end_, v87] 24 :: obS (α := Int) 3 v21 x20.1 :: obC b1 [.int .i64 0, .int .i64 0, .int .i64 0, .int .i64 0, .int .i64 0, .int .i64 0, .slice none 0 0] 24 :: []) := hH154
        have h161 : (v87).oneCell' = true := by obtain ⟨_, _, e, _⟩ := Sl.form h153; rw [e]; rfl
        refine V_storeC (Dw := False) (off := 0) (ds := [.int .i64 s81.2.kind, .int .i64 s81.2.level, .int .i64 s81.2.minutes, .int .i64 s81.2.start, .int .i64 s81.2.stop, .int .i64 s81.2.end_, v87]) hH (i := 2) rfl Tryz.sizeOf24 rfl (Nat.le_of_ble_eq_true rfl) (by exact (List.forall_mem_cons.2 ⟨rfl, (List.forall_mem_cons.2 ⟨rfl, (List.forall_mem_cons.2 ⟨rfl, (List.forall_mem_cons.2 ⟨rfl, (List.forall_mem_cons.2 ⟨rfl, (List.forall_mem_cons.2 ⟨rfl, (List.forall_mem_cons.2 ⟨h161, (fun _ h => nomatch h)⟩)⟩)⟩)⟩)⟩)⟩)⟩)) rfl hB hA rfl rfl ?_
        intro w156 hH157 ht158
        replace h153 := Sl.tr (Dw := False) h153 ht158
        replace hK := Tr.trans (Dw := False) hK ht158
        replace hB := Nat.le_trans hB ht158.ex.size
        replace hA := ht158.new
        replace hH : Hp w.heap.size A151 w156 (obC (b44 0) [.int .i64 s81.2.kind, .int .i64 s81.2.level, .int .i64 s81.2.minutes, .int .i64 s81.2.start, .int .i64 s81.2.stop, .int .i64 s81.2.end_, v87] 24 :: obS (α := Int) 3 v21 x20.1 :: obC b1 [.int .i64 s81.2.kind, .int .i64 s81.2.level, .int .i64 s81.2.minutes, .int .i64 s81.2.start, .int .i64 s81.2.stop, .int .i64 s81.2.end_, v87] 24 :: []) := hH157
        refine V_y (Y_assign rfl) rfl rfl rfl ?_
        refine V_to (fun _ _ => rfl) ?_
        obtain rfl := Option.some.inj hm
        refine C_ret ?_
        try simp only [↓inBlock_ret, ↓then_ret]
        exact retQ rfl (Res.l2 Tryz.results4 (RL.cell rfl (loadVar_agg (Hp.part (off := 0) (n := 7) (ds := [.int .i64 s81.2.kind, .int .i64 s81.2.level, .int .i64 s81.2.minutes, .int .i64 s81.2.start, .int .i64 s81.2.stop, .int .i64 s81.2.end_, v87]) hH (i := 2) rfl rfl) Tryz.isAgg24 Tryz.sizeOf24)) (RL.tmp rfl)) ⟨v87, rfl, (Sl.out (Dw := False) h153 hA0 hK), hK.kp⟩

def Tryz_strings_Trim_lay_ren : Go.Shelf.Ren := ⟨fun | 119 => 112 | 120 => 108 | 137 => 111 | 151 => 98 | 152 => 107 | 160 => 68 | 197 => 62 | 217 => 69 | 224 => 71 | 225 => 70 | 227 => 83 | 228 => 97 | 231 => 81 | 232 => 82 | 233 => 84 | 234 => 85 | 235 => 86 | 236 => 87 | 260 => 73 | 266 => 88 | 271 => 99 | n => n, fun | 0 => 0 | 1 => 1 | 2 => 2 | 3 => 3 | 4 => 4 | 5 => 5 | 6 => 6 | 7 => 7 | 8 => 8 | 9 => 9 | 10 => 10 | 11 => 11 | 12 => 12 | 13 => 13 | 14 => 14 | 15 => 15 | 16 => 16 | 17 => 17 | 18 => 18 | 19 => 19 | 20 => 20 | 21 => 21 | 22 => 42 | 23 => 160 | 24 => 30 | 25 => 31 | 27 => 151 | 28 => 34 | 31 => 32 | 34 => 82 | 37 => 170 | 40 => 216 | 41 => 203 | 46 => 168 | 47 => 213 | 51 => 184 | 52 => 215 | 53 => 191 | 54 => 199 | 55 => 165 | 61 => 33 | 63 => 204 | 64 => 214 | 69 => 194 | 74 => 155 | 75 => 156 | 76 => 157 | 77 => 158 | 80 => 219 | 81 => 225 | 83 => 159 | 84 => 176 | 85 => 171 | 86 => 172 | 101 => 76 | 103 => 162 | 104 => 29 | 105 => 163 | 106 => 164 | 108 => 197 | 111 => 152 | 113 => 147 | 114 => 167 | 115 => 178 | 116 => 179 | 117 => 180 | 118 => 181 | 119 => 187 | 122 => 177 | 123 => 182 | 124 => 183 | 127 => 206 | 128 => 166 | 131 => 148 | 137 => 188 | 138 => 189 | 139 => 190 | 143 => 207 | 144 => 208 | 145 => 209 | 146 => 185 | 150 => 154 | 151 => 186 | 164 => 238 | 167 => 169 | 168 => 173 | 169 => 174 | 170 => 175 | 171 => 198 | 172 => 200 | 173 => 201 | 174 => 202 | 175 => 192 | 176 => 193 | 209 => 195 | 210 => 196 | 211 => 210 | 212 => 211 | 213 => 212 | 214 => 205 | 232 => 217 | 233 => 218 | 238 => 220 | 239 => 221 | 240 => 222 | 241 => 223 | 242 => 224 | 243 => 226 | 244 => 227 | 245 => 228 | 246 => 229 | 247 => 230 | 248 => 231 | 249 => 232 | n => n, fun | 1 => 0 | 3 => 1 | 4 => 2 | 15 => 3 | 16 => 4 | 17 => 5 | 18 => 6 | 19 => 7 | n => n⟩
theorem Tryz_strings_Trim_lay : Go.Proofs.Lays.n160 Tryz.prog Tryz_strings_Trim_lay_ren := {
  mixed := by kernel_rfl,
  f119 := Tryz.func112.trans (congrArg some (by kernel_rfl)),
  f120 := Tryz.func108.trans (congrArg some (by kernel_rfl)),
  f137 := Tryz.func111.trans (congrArg some (by kernel_rfl)),
  f151 := Tryz.func98.trans (congrArg some (by kernel_rfl)),
  f152 := Tryz.func107.trans (congrArg some (by kernel_rfl)),
  f160 := Tryz.func68.trans (congrArg some (by kernel_rfl)),
  f197 := Tryz.func62.trans (congrArg some (by kernel_rfl)),
  f217 := Tryz.func69.trans (congrArg some (by kernel_rfl)),
  f224 := Tryz.func71.trans (congrArg some (by kernel_rfl)),
  f225 := Tryz.func70.trans (congrArg some (by kernel_rfl)),
  f227 := Tryz.func83.trans (congrArg some (by kernel_rfl)),
  f228 := Tryz.func97.trans (congrArg some (by kernel_rfl)),
  f231 := Tryz.func81.trans (congrArg some (by kernel_rfl)),
  f232 := Tryz.func82.trans (congrArg some (by kernel_rfl)),
  f233 := Tryz.func84.trans (congrArg some (by kernel_rfl)),
  f234 := Tryz.func85.trans (congrArg some (by kernel_rfl)),
  f235 := Tryz.func86.trans (congrArg some (by kernel_rfl)),
  f236 := Tryz.func87.trans (congrArg some (by kernel_rfl)),
  f260 := Tryz.func73.trans (congrArg some (by kernel_rfl)),
  f266 := Tryz.func88.trans (congrArg some (by kernel_rfl)),
  f271 := Tryz.func99.trans (congrArg some (by kernel_rfl)),
  t0 := Tryz.underlying0,
  a0 := Tryz.isAgg0,
  z0 := Tryz.sizeOf0,
  v0 := Tryz.zeroValue0,
  t3 := Tryz.underlying3,
  a3 := Tryz.isAgg3,
  z3 := Tryz.sizeOf3,
  v3 := Tryz.zeroValue3,
  t4 := Tryz.underlying4,
  a4 := Tryz.isAgg4,
  z4 := Tryz.sizeOf4,
  v4 := Tryz.zeroValue4,
  t5 := Tryz.underlying5,
  a5 := Tryz.isAgg5,
  z5 := Tryz.sizeOf5,
  v5 := Tryz.zeroValue5,
  t9 := Tryz.underlying9,
  a9 := Tryz.isAgg9,
  z9 := Tryz.sizeOf9,
  v9 := Tryz.zeroValue9,
  t21 := Tryz.underlying21,
  a21 := Tryz.isAgg21,
  z21 := Tryz.sizeOf21,
  v21 := Tryz.zeroValue21,
  t46 := Tryz.underlying168,
  a46 := Tryz.isAgg168,
  z46 := Tryz.sizeOf168,
  v46 := Tryz.zeroValue168,
  t105 := Tryz.underlying163,
  a105 := Tryz.isAgg163,
  z105 := Tryz.sizeOf163,
  v105 := Tryz.zeroValue163,
  t116 := Tryz.underlying179,
  a116 := Tryz.isAgg179,
  z116 := Tryz.sizeOf179,
  t117 := Tryz.underlying180,
  a117 := Tryz.isAgg180,
  z117 := Tryz.sizeOf180,
  v117 := Tryz.zeroValue180,
  t119 := Tryz.underlying187,
  a119 := Tryz.isAgg187,
  z119 := Tryz.sizeOf187,
  t124 := Tryz.underlying183,
  a124 := Tryz.isAgg183,
  z124 := Tryz.sizeOf183,
  v124 := Tryz.zeroValue183,
  t138 := Tryz.underlying189,
  a138 := Tryz.isAgg189,
  z138 := Tryz.sizeOf189,
  v138 := Tryz.zeroValue189,
  t139 := Tryz.underlying190,
  a139 := Tryz.isAgg190,
  z139 := Tryz.sizeOf190,
  v139 := Tryz.zeroValue190,
  g3 := by kernel_rfl,
  g4 := by kernel_rfl }
theorem strings_Trim_c (w : World) {A : Nat → Prop} (hA : ∀ b, w.heap.size ≤ b → A b) (s : ByteArray) (cutset : ByteArray) {r : ByteArray} (hm : strings_Trim s cutset = some r) : Ret Tryz.prog 68 #[.string s, .string cutset] w fun v w' => v = .string r ∧ Kp False w w' := by
  unfold strings_Trim at hm
  split at hm
  case isFalse => cases hm
  rename_i h
  obtain rfl := Option.some.inj hm
  refine Calls.mono (Go.Proofs.Any.strings_Trim_laid Tryz_strings_Trim_lay (by kernel_rfl) s cutset w h.1 h.2.1 (Go.Proofs.ascii_of_all h.2.2)) ?_
  rintro _ w' ⟨rfl, hk⟩
  exact ⟨_, rfl, rfl, .of hk⟩

end Go.Proofs.YtnkjmfbpkbooeaaGreatDoor.W
