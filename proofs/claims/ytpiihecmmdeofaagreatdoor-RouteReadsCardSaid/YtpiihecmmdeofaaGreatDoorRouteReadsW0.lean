/-
  Written by program (gen.py) from the IR of the dump: each function computes its model.
-/
import Derived.Test.YtpiihecmmdeofaaGreatDoorProg
import Derived.Test.YtpiihecmmdeofaaGreatDoorGe
import Derived.Test.YtpiihecmmdeofaaGreatDoorRouteReadsM
import Derived.KernelRfl
import Derived.Shelf.Strings.Search2
import Derived.Shelf.Strconv.AtoiAll
import Derived.Lib.AtoiErrMem
import Derived.Shelf.Strconv.Itoa3
import Derived.Shelf.Strings.SlTrimAscii
import Derived.Shelf.Strings.Split
import Derived.Test.YtpiihecmmdeofaaGreatDoorGi
import Derived.Test.YtpiihecmmdeofaaGreatDoorGg
import Derived.Test.YtpiihecmmdeofaaGreatDoorHi
import Derived.Test.YtpiihecmmdeofaaGreatDoorHd
import Derived.Test.YtpiihecmmdeofaaGreatDoorGy
namespace Go.Proofs.YtpiihecmmdeofaaGreatDoor.W
open Go Go.RowKit Go.Pu Go.Gw Go.Proofs Go.Proofs.YtpiihecmmdeofaaGreatDoor.M
set_option linter.unusedVariables false
set_option linter.unusedSimpArgs false
variable {Dw : Prop}

def Tryz_FR : (Nat → Prop) → World → Prop := fun A w => Tb Tryz.prog A w ∧ Mx Tryz.prog 0 A w ∧ Er Tryz.prog 1 A w ∧ Er Tryz.prog 2 A w
instance : Keeps Tryz_FR := ⟨fun h hh hs => ⟨Keeps.to (R := Tb Tryz.prog) ((h).1) hh hs, Keeps.to (R := Mx Tryz.prog 0) ((h).2.1) hh hs, Keeps.to (R := Er Tryz.prog 1) ((h).2.2.1) hh hs, Keeps.to (R := Er Tryz.prog 2) ((h).2.2.2) hh hs⟩⟩
theorem Tryz_info32 : Tryz.prog.info? 32 = some Tryz.t32 := by kernel_rfl
theorem Tryz_info102 : Tryz.prog.info? 102 = some Tryz.t102 := by kernel_rfl
theorem Tryz_places32 : ∀ fs, Tryz.prog.underlying 32 = some (.struct fs) → ∀ w : World, (Array.mapM (fun (f : Field) => do pure (f.offset, ← Go.sizeOf f.type)) fs).run Tryz.prog w = .ok #[(0, 1), (1, 1), (2, 1), (3, 1)] w := by
  intro fs h w
  rw [Tryz.underlying32] at h
  cases h
  kernel_rfl
theorem Tryz_places102 : ∀ fs, Tryz.prog.underlying 102 = some (.struct fs) → ∀ w : World, (Array.mapM (fun (f : Field) => do pure (f.offset, ← Go.sizeOf f.type)) fs).run Tryz.prog w = .ok #[(0, 1), (1, 1)] w := by
  intro fs h w
  rw [Tryz.underlying102] at h
  cases h
  kernel_rfl
theorem Tryz_eqt102_10000 (a0 : ByteArray) (a1 : Int) (b0 : ByteArray) (b1 : Int) (w : World) : (Op.equalIn 10000 102 (.agg #[.string a0, .int .i64 a1]) (.agg #[.string b0, .int .i64 b1])).run Tryz.prog w = .ok (strEq a0 b0 && (a1 == b1)) w := by
  refine (run_equalIn_struct w 9999 102 _ _ (by kernel_rfl) (by kernel_rfl)).trans ?_
  rw [show Tryz.prog.fieldsOf 102 = _ from by unfold Program.fieldsOf; rw [Tryz.underlying102]]
  cases h0 : (strEq a0 b0) <;> cases h1 : (a1 == b1) <;> simp_all [Op.eqFields, part, strEq, Tryz.isAgg3, Tryz.isAgg9, run_equalIn_int _ _ _ _ _ _ _ Tryz.underlying3, run_equalIn_string _ _ _ _ _ Tryz.underlying9]
theorem Tryz_eqg102 : Tryz.prog.eqGuardType Tryz.prog.depth 102 = false := by kernel_rfl
theorem Tryz_mixed : Tryz.prog.follows .mixedOrders = true := by kernel_rfl

instance : GoT route_Skill := GoT.of (β := ByteArray × Int) fun x => (x.name, x.rank)

instance : Flat route_Skill := ⟨fun {A w A1 w1 cs x} h => Flat.flat (α := ByteArray × Int) (x := (x.name, x.rank)) (A := A) (w := w) h⟩

theorem El_route_Skill_ {A : Nat → Prop} {w : World} {b off : Nat} {x : route_Skill} (h : El A w b off x) : El (α := ByteArray × Int) A w b off (x.name, x.rank) := h

theorem El_route_Skill_0 {A : Nat → Prop} {w : World} {b off : Nat} {x : route_Skill} (h : El A w b off x) : El A w b (off + 0) x.name := El.fst (El_route_Skill_ h)

theorem El_route_Skill_1 {A : Nat → Prop} {w : World} {b off : Nat} {x : route_Skill} (h : El A w b off x) : El A w b (off + 1) x.rank := El.snd (El_route_Skill_ h)

theorem El_route_Skill {A : Nat → Prop} {w : World} {b off : Nat} {x : route_Skill} (h : El A w b off x) : At w b off [.string x.name, .int .i64 x.rank] ∧ True := by
  obtain ⟨h1, h2, cs, h3, h4⟩ := h
  obtain ⟨_, _, rfl, rfl, rfl⟩ := h3
  exact ⟨h4, trivial⟩

instance : GoT route_Person := GoT.of (β := Int × Int × Int × (List route_Skill)) fun x => (x.no, x.capacity, x.calendar, x.skills)

theorem El_route_Person_ {A : Nat → Prop} {w : World} {b off : Nat} {x : route_Person} (h : El A w b off x) : El (α := Int × Int × Int × (List route_Skill)) A w b off (x.no, x.capacity, x.calendar, x.skills) := h

theorem El_route_Person_0 {A : Nat → Prop} {w : World} {b off : Nat} {x : route_Person} (h : El A w b off x) : El A w b (off + 0) x.no := El.fst (El_route_Person_ h)

theorem El_route_Person_1 {A : Nat → Prop} {w : World} {b off : Nat} {x : route_Person} (h : El A w b off x) : El A w b (off + 1) x.capacity := El.fst (El.snd (El_route_Person_ h))

theorem El_route_Person_2 {A : Nat → Prop} {w : World} {b off : Nat} {x : route_Person} (h : El A w b off x) : El A w b (off + 2) x.calendar := El.fst (El.snd (El.snd (El_route_Person_ h)))

theorem El_route_Person_3 {A : Nat → Prop} {w : World} {b off : Nat} {x : route_Person} (h : El A w b off x) : El A w b (off + 3) x.skills := El.snd (El.snd (El.snd (El_route_Person_ h)))

theorem El_route_Person {A : Nat → Prop} {w : World} {b off : Nat} {x : route_Person} (h : El A w b off x) : ∃ v1, At w b off [.int .i64 x.no, .int .i64 x.capacity, .int .i64 x.calendar, v1] ∧ Sl A w v1 x.skills := by
  obtain ⟨h1, h2, cs, h3, h4⟩ := h
  obtain ⟨_, _, rfl, rfl, ⟨_, _, rfl, rfl, ⟨_, _, rfl, rfl, ⟨u1, rfl, g1⟩⟩⟩⟩ := h3
  exact ⟨u1, h4, g1⟩

def Tryz_internal_stringslite_Index_lay_ren : Go.Shelf.Ren := ⟨fun | 217 => 66 | 219 => 55 | 224 => 68 | 225 => 67 | 266 => 78 | 267 => 69 | 314 => 79 | n => n, fun | 0 => 0 | 1 => 1 | 2 => 2 | 3 => 3 | 4 => 4 | 5 => 5 | 6 => 6 | 7 => 7 | 8 => 8 | 9 => 9 | 10 => 10 | 11 => 11 | 12 => 12 | 13 => 13 | 14 => 14 | 15 => 15 | 16 => 16 | 17 => 17 | 18 => 18 | 19 => 19 | 20 => 20 | 21 => 21 | 22 => 163 | 23 => 161 | 24 => 38 | 25 => 39 | 27 => 155 | 28 => 75 | 31 => 36 | 34 => 80 | 37 => 176 | 40 => 220 | 41 => 206 | 46 => 167 | 47 => 217 | 51 => 172 | 52 => 219 | 53 => 190 | 54 => 198 | 55 => 165 | 59 => 28 | 60 => 29 | 61 => 37 | 63 => 207 | 64 => 218 | 69 => 193 | 74 => 156 | 75 => 157 | 76 => 158 | 77 => 159 | 80 => 223 | 81 => 229 | 83 => 160 | 84 => 182 | 85 => 177 | 86 => 178 | 101 => 73 | 103 => 169 | 104 => 27 | 105 => 170 | 106 => 171 | 108 => 196 | 111 => 216 | 113 => 150 | 114 => 166 | 115 => 184 | 116 => 185 | 117 => 186 | 118 => 187 | 119 => 202 | 122 => 183 | 123 => 188 | 124 => 189 | 127 => 209 | 128 => 168 | 131 => 146 | 137 => 203 | 138 => 204 | 139 => 205 | 143 => 210 | 144 => 211 | 145 => 212 | 146 => 173 | 150 => 162 | 151 => 174 | 164 => 242 | 167 => 175 | 168 => 179 | 169 => 180 | 170 => 181 | 171 => 197 | 172 => 199 | 173 => 200 | 174 => 201 | 175 => 191 | 176 => 192 | 209 => 194 | 210 => 195 | 211 => 213 | 212 => 214 | 213 => 215 | 214 => 208 | 222 => 144 | 232 => 221 | 233 => 222 | 238 => 224 | 239 => 225 | 240 => 226 | 241 => 227 | 242 => 228 | 243 => 230 | 244 => 231 | 245 => 232 | 246 => 233 | 247 => 234 | 248 => 235 | 249 => 236 | n => n, fun | 1 => 0 | 3 => 3 | 4 => 4 | 15 => 1 | 16 => 2 | 17 => 5 | 18 => 6 | 19 => 7 | n => n⟩
theorem Tryz_internal_stringslite_Index_lay : Go.Proofs.Lays.n219 Tryz.prog Tryz_internal_stringslite_Index_lay_ren := {
  mixed := by kernel_rfl,
  f217 := Tryz.func66.trans (congrArg some (by kernel_rfl)),
  f219 := Tryz.func55.trans (congrArg some (by kernel_rfl)),
  f224 := Tryz.func68.trans (congrArg some (by kernel_rfl)),
  f225 := Tryz.func67.trans (congrArg some (by kernel_rfl)),
  f266 := Tryz.func78.trans (congrArg some (by kernel_rfl)),
  f267 := Tryz.func69.trans (congrArg some (by kernel_rfl)),
  f314 := Tryz.func79.trans (congrArg some (by kernel_rfl)),
  t3 := Tryz.underlying3,
  a3 := Tryz.isAgg3,
  z3 := Tryz.sizeOf3,
  v3 := Tryz.zeroValue3,
  t4 := Tryz.underlying4,
  a4 := Tryz.isAgg4,
  z4 := Tryz.sizeOf4,
  v4 := Tryz.zeroValue4,
  t5 := Tryz.underlying5,
  a5 := Tryz.isAgg5,
  z5 := Tryz.sizeOf5,
  v5 := Tryz.zeroValue5,
  t9 := Tryz.underlying9,
  a9 := Tryz.isAgg9,
  z9 := Tryz.sizeOf9,
  v9 := Tryz.zeroValue9,
  t46 := Tryz.underlying167,
  a46 := Tryz.isAgg167,
  z46 := Tryz.sizeOf167,
  v46 := Tryz.zeroValue167,
  t51 := Tryz.underlying172,
  a51 := Tryz.isAgg172,
  z51 := Tryz.sizeOf172,
  v51 := Tryz.zeroValue172,
  t146 := Tryz.underlying173,
  a146 := Tryz.isAgg173,
  z146 := Tryz.sizeOf173,
  v146 := Tryz.zeroValue173,
  g1 := by kernel_rfl }
theorem internal_stringslite_Index_c (w : World) {A : Nat → Prop} (hA : ∀ b, w.heap.size ≤ b → A b) (s : ByteArray) (substr : ByteArray) {r : Int} (hm : internal_stringslite_Index s substr = some r) : Ret Tryz.prog 55 #[.string s, .string substr] w fun v w' => v = .int .i64 r ∧ Kp Dw w w' := by
  unfold internal_stringslite_Index at hm
  split at hm
  · rename_i c hc
    obtain rfl := Option.some.inj hm
    obtain rfl : substr = ⟨#[c]⟩ := by apply ByteArray.ext; apply Array.toList_inj.1; simpa using hc
    refine Calls.mono (Go.Proofs.Any.stringslite_Index_one Tryz_internal_stringslite_Index_lay s c w) ?_
    rintro _ w' ⟨rfl, rfl⟩
    exact ⟨_, rfl, rfl, Kp.refl (Dw := Dw) _⟩
  · cases hm

set_option maxRecDepth 4000 in
set_option maxHeartbeats 4000000 in
theorem internal_stringslite_Cut_c (w : World) {A : Nat → Prop} (hA : ∀ b, w.heap.size ≤ b → A b) (s : ByteArray) (sep : ByteArray) {r : (ByteArray × ByteArray × Bool)} (hm : internal_stringslite_Cut s sep = some r) : Ret Tryz.prog 45 #[.string s, .string sep] w fun v w' => v = .tuple #[.string r.1, .string r.2.1, .bool r.2.2] ∧ Kp Dw w w' := by
  unfold internal_stringslite_Cut at hm
  refine enter Tryz.func45 rfl Tryz.ntmps45 rfl ?_
  have hA0 := hA
  have hB := Nat.le_refl w.heap.size
  have hK : Tr Dw w.heap.size A w A w := Tr.refl (Dw := Dw) hA
  have hH : Hp w.heap.size A w [] := Hp.nil
  refine C_seq ?_
  refine C_region ?_
  refine V_y (Y_assign rfl) rfl rfl rfl ?_
  refine V_y (Y_assign rfl) rfl rfl rfl ?_
  refine V_y (Y_assign rfl) rfl rfl rfl ?_
  refine V_to (fun _ _ => rfl) ?_
  refine C_seq ?_
  refine C_seq ?_
  refine C_region ?_
  refine V_y (Y_move rfl) rfl rfl rfl ?_
  refine V_y (Y_move rfl) rfl rfl rfl ?_
  obtain ⟨x1, hx1, hm⟩ := Option.bind_eq_some_iff.1 hm
  refine V_call Tryz.call55 rfl rfl rfl rfl (internal_stringslite_Index_c (Dw := Dw) w hA s sep hx1) ?_
  rintro _ w2 ⟨rfl, hk3⟩
  have ht4 := Kp.tr (Dw := Dw) hk3 hA hB
  replace hH := Hp.kp (Dw := Dw) hH hk3
  replace hK := Tr.trans (Dw := Dw) hK ht4
  replace hB := Nat.le_trans hB ht4.ex.size
  replace hA := ht4.new
  refine V_y (Y_assign rfl) rfl rfl rfl ?_
  refine V_to (fun _ _ => rfl) ?_
  refine C_seq ?_
  refine C_region ?_
  refine V_y (Y_move rfl) rfl rfl rfl ?_
  refine V_y (Y_geq rfl rfl) rfl rfl rfl ?_
  refine V_to (fun _ _ => rfl) ?_
  refine C_cond rfl (fun hc5 => ?_) (fun hc5 => ?_)
  · rw [if_pos hc5] at hm
    refine C_seq ?_
    refine C_region_q (Dw := Dw) Tryz_mixed (by kernel_rfl) ?_
    refine VQ_y (fun w' hw' => Y_move rfl) rfl rfl rfl ?_
    refine VQ_y (fun w' hw' => Y_move rfl) rfl rfl rfl ?_
    obtain ⟨x6, hx6, hm⟩ := Option.bind_eq_some_iff.1 hm
    refine VQ_y (fun w' hw' => Y_sliceSH hx6 Tryz.underlying9 rfl rfl) rfl rfl rfl ?_
    refine VQ_y (fun w' hw' => Y_move rfl) rfl rfl rfl ?_
    refine VQ_y (fun w' hw' => Y_move rfl) rfl rfl rfl ?_
    refine VQ_y (fun w' hw' => Y_move rfl) rfl rfl rfl ?_
    refine VQ_y (fun w' hw' => Y_lenStr rfl Tryz.underlying9 rfl) rfl rfl rfl ?_
    refine VQ_y (fun w' hw' => Y_addI rfl rfl) rfl rfl rfl ?_
    obtain ⟨x7, hx7, hm⟩ := Option.bind_eq_some_iff.1 hm
    refine VQ_y (fun w' hw' => Y_sliceSL hx7 Tryz.underlying9 rfl rfl) rfl rfl rfl ?_
    refine VQ_y (fun w' hw' => Y_assign rfl) rfl rfl rfl ?_
    refine VQ_y (fun w' hw' => Y_assign rfl) rfl rfl rfl ?_
    refine VQ_y (fun w' hw' => Y_assign rfl) rfl rfl rfl ?_
    refine VQ_to (fun _ _ => rfl) (fun w9 hk10 => ?_)
    have ht11 := Kp.tr (Dw := Dw) hk10 hA hB
    replace hH := Hp.kp (Dw := Dw) hH hk10
    replace hK := Tr.trans (Dw := Dw) hK ht11
    replace hB := Nat.le_trans hB ht11.ex.size
    replace hA := ht11.new
    obtain rfl := Option.some.inj hm
    refine C_ret ?_
    try simp only [↓inBlock_ret, ↓then_ret]
    exact retQ rfl (Res.three Tryz.results45 rfl rfl rfl) ⟨rfl, hK.kp⟩
  · rw [if_neg (nt hc5)] at hm
    refine C_skip_to (fun _ _ => rfl) ?_
    refine C_seq ?_
    refine C_region ?_
    refine V_y (Y_move rfl) rfl rfl rfl ?_
    refine V_y (Y_assign rfl) rfl rfl rfl ?_
    refine V_y (Y_assign rfl) rfl rfl rfl ?_
    refine V_y (Y_assign rfl) rfl rfl rfl ?_
    refine V_to (fun _ _ => rfl) ?_
    obtain rfl := Option.some.inj hm
    refine C_ret ?_
    try simp only [↓inBlock_ret, ↓then_ret]
    exact retQ rfl (Res.three Tryz.results45 rfl rfl rfl) ⟨rfl, hK.kp⟩

set_option maxRecDepth 4000 in
set_option maxHeartbeats 4000000 in
theorem strings_Cut_c (w : World) {A : Nat → Prop} (hA : ∀ b, w.heap.size ≤ b → A b) (s : ByteArray) (sep : ByteArray) {r : (ByteArray × ByteArray × Bool)} (hm : strings_Cut s sep = some r) : Ret Tryz.prog 7 #[.string s, .string sep] w fun v w' => v = .tuple #[.string r.1, .string r.2.1, .bool r.2.2] ∧ Kp Dw w w' := by
  unfold strings_Cut at hm
  refine enter Tryz.func7 rfl Tryz.ntmps7 rfl ?_
  have hA0 := hA
  have hB := Nat.le_refl w.heap.size
  have hK : Tr Dw w.heap.size A w A w := Tr.refl (Dw := Dw) hA
  have hH : Hp w.heap.size A w [] := Hp.nil
  refine C_seq ?_
  refine C_region ?_
  refine V_y (Y_assign rfl) rfl rfl rfl ?_
  refine V_y (Y_assign rfl) rfl rfl rfl ?_
  refine V_y (Y_assign rfl) rfl rfl rfl ?_
  refine V_to (fun _ _ => rfl) ?_
  refine C_seq ?_
  refine C_region ?_
  refine V_y (Y_move rfl) rfl rfl rfl ?_
  refine V_y (Y_move rfl) rfl rfl rfl ?_
  obtain ⟨x1, hx1, hm⟩ := Option.bind_eq_some_iff.1 hm
  refine V_call Tryz.call45 rfl rfl rfl rfl (internal_stringslite_Cut_c (Dw := Dw) w hA s sep hx1) ?_
  rintro _ w2 ⟨rfl, hk3⟩
  have ht4 := Kp.tr (Dw := Dw) hk3 hA hB
  replace hH := Hp.kp (Dw := Dw) hH hk3
  replace hK := Tr.trans (Dw := Dw) hK ht4
  replace hB := Nat.le_trans hB ht4.ex.size
  replace hA := ht4.new
  refine V_y (Y_extract rfl rfl) rfl rfl rfl ?_
  refine V_y (Y_extract rfl rfl) rfl rfl rfl ?_
  refine V_y (Y_extract rfl rfl) rfl rfl rfl ?_
  refine V_y (Y_assign rfl) rfl rfl rfl ?_
  refine V_y (Y_assign rfl) rfl rfl rfl ?_
  refine V_y (Y_assign rfl) rfl rfl rfl ?_
  refine V_to (fun _ _ => rfl) ?_
  obtain rfl := Option.some.inj hm
  refine C_ret ?_
  try simp only [↓inBlock_ret, ↓then_ret]
  exact retQ rfl (Res.three Tryz.results7 rfl rfl rfl) ⟨rfl, hK.kp⟩

def Tryz_strings_genSplit_lay_ren : Go.Shelf.Ren := ⟨fun | 138 => 61 | 143 => 62 | 195 => 74 | 197 => 75 | 217 => 66 | 218 => 76 | 219 => 55 | 221 => 50 | 224 => 68 | 225 => 67 | 260 => 87 | 266 => 78 | 267 => 69 | 268 => 60 | 314 => 79 | n => n, fun | 0 => 0 | 1 => 1 | 2 => 2 | 3 => 3 | 4 => 4 | 5 => 5 | 6 => 6 | 7 => 7 | 8 => 8 | 9 => 9 | 10 => 10 | 11 => 11 | 12 => 12 | 13 => 13 | 14 => 14 | 15 => 15 | 16 => 16 | 17 => 17 | 18 => 18 | 19 => 19 | 20 => 20 | 21 => 21 | 22 => 163 | 23 => 161 | 24 => 38 | 25 => 39 | 27 => 155 | 28 => 75 | 31 => 36 | 34 => 80 | 37 => 176 | 40 => 220 | 41 => 206 | 46 => 167 | 47 => 217 | 51 => 172 | 52 => 219 | 53 => 190 | 54 => 198 | 55 => 165 | 59 => 28 | 60 => 29 | 61 => 37 | 63 => 207 | 64 => 218 | 69 => 193 | 74 => 156 | 75 => 157 | 76 => 158 | 77 => 159 | 80 => 223 | 81 => 229 | 83 => 160 | 84 => 182 | 85 => 177 | 86 => 178 | 101 => 73 | 103 => 169 | 104 => 27 | 105 => 170 | 106 => 171 | 108 => 196 | 111 => 216 | 113 => 150 | 114 => 166 | 115 => 184 | 116 => 185 | 117 => 186 | 118 => 187 | 119 => 202 | 122 => 183 | 123 => 188 | 124 => 189 | 127 => 209 | 128 => 168 | 131 => 146 | 137 => 203 | 138 => 204 | 139 => 205 | 143 => 210 | 144 => 211 | 145 => 212 | 146 => 173 | 150 => 162 | 151 => 174 | 164 => 242 | 167 => 175 | 168 => 179 | 169 => 180 | 170 => 181 | 171 => 197 | 172 => 199 | 173 => 200 | 174 => 201 | 175 => 191 | 176 => 192 | 209 => 194 | 210 => 195 | 211 => 213 | 212 => 214 | 213 => 215 | 214 => 208 | 222 => 144 | 232 => 221 | 233 => 222 | 238 => 224 | 239 => 225 | 240 => 226 | 241 => 227 | 242 => 228 | 243 => 230 | 244 => 231 | 245 => 232 | 246 => 233 | 247 => 234 | 248 => 235 | 249 => 236 | n => n, fun | 1 => 0 | 3 => 3 | 4 => 4 | 15 => 1 | 16 => 2 | 17 => 5 | 18 => 6 | 19 => 7 | n => n⟩
theorem Tryz_strings_genSplit_lay : Go.Proofs.Lays.n221 Tryz.prog Tryz_strings_genSplit_lay_ren := {
  mixed := by kernel_rfl,
  f138 := Tryz.func61.trans (congrArg some (by kernel_rfl)),
  f143 := Tryz.func62.trans (congrArg some (by kernel_rfl)),
  f195 := Tryz.func74.trans (congrArg some (by kernel_rfl)),
  f197 := Tryz.func75.trans (congrArg some (by kernel_rfl)),
  f217 := Tryz.func66.trans (congrArg some (by kernel_rfl)),
  f218 := Tryz.func76.trans (congrArg some (by kernel_rfl)),
  f219 := Tryz.func55.trans (congrArg some (by kernel_rfl)),
  f221 := Tryz.func50.trans (congrArg some (by kernel_rfl)),
  f224 := Tryz.func68.trans (congrArg some (by kernel_rfl)),
  f225 := Tryz.func67.trans (congrArg some (by kernel_rfl)),
  f260 := Tryz.func87.trans (congrArg some (by kernel_rfl)),
  f266 := Tryz.func78.trans (congrArg some (by kernel_rfl)),
  f267 := Tryz.func69.trans (congrArg some (by kernel_rfl)),
  f268 := Tryz.func60.trans (congrArg some (by kernel_rfl)),
  f314 := Tryz.func79.trans (congrArg some (by kernel_rfl)),
  t0 := Tryz.underlying0,
  a0 := Tryz.isAgg0,
  z0 := Tryz.sizeOf0,
  v0 := Tryz.zeroValue0,
  t3 := Tryz.underlying3,
  a3 := Tryz.isAgg3,
  z3 := Tryz.sizeOf3,
  v3 := Tryz.zeroValue3,
  t4 := Tryz.underlying4,
  a4 := Tryz.isAgg4,
  z4 := Tryz.sizeOf4,
  v4 := Tryz.zeroValue4,
  t5 := Tryz.underlying5,
  a5 := Tryz.isAgg5,
  z5 := Tryz.sizeOf5,
  v5 := Tryz.zeroValue5,
  t9 := Tryz.underlying9,
  a9 := Tryz.isAgg9,
  z9 := Tryz.sizeOf9,
  v9 := Tryz.zeroValue9,
  t21 := Tryz.underlying21,
  a21 := Tryz.isAgg21,
  z21 := Tryz.sizeOf21,
  v21 := Tryz.zeroValue21,
  t31 := Tryz.underlying36,
  a31 := Tryz.isAgg36,
  z31 := Tryz.sizeOf36,
  v31 := Tryz.zeroValue36,
  t46 := Tryz.underlying167,
  a46 := Tryz.isAgg167,
  z46 := Tryz.sizeOf167,
  v46 := Tryz.zeroValue167,
  t51 := Tryz.underlying172,
  a51 := Tryz.isAgg172,
  z51 := Tryz.sizeOf172,
  v51 := Tryz.zeroValue172,
  t105 := Tryz.underlying170,
  a105 := Tryz.isAgg170,
  z105 := Tryz.sizeOf170,
  v105 := Tryz.zeroValue170,
  t119 := Tryz.underlying202,
  a119 := Tryz.isAgg202,
  z119 := Tryz.sizeOf202,
  t138 := Tryz.underlying204,
  a138 := Tryz.isAgg204,
  z138 := Tryz.sizeOf204,
  v138 := Tryz.zeroValue204,
  t139 := Tryz.underlying205,
  a139 := Tryz.isAgg205,
  z139 := Tryz.sizeOf205,
  v139 := Tryz.zeroValue205,
  t146 := Tryz.underlying173,
  a146 := Tryz.isAgg173,
  z146 := Tryz.sizeOf173,
  v146 := Tryz.zeroValue173,
  g1 := by kernel_rfl,
  g3 := by kernel_rfl,
  g4 := by kernel_rfl }
theorem strings_genSplit_c (w : World) {A : Nat → Prop} (hA : ∀ b, w.heap.size ≤ b → A b) (hT : Mx Tryz.prog 0 A w) (s : ByteArray) (sep : ByteArray) (sepSave : Int) (n : Int) {r : List ByteArray} (hm : strings_genSplit s sep sepSave n = some r) : Ret Tryz.prog 50 #[.string s, .string sep, .int .i64 sepSave, .int .i64 n] w fun v w' => ∃ s0, v = s0 ∧ Sl A w' s0 r ∧ Kp Dw w w' := by
  unfold strings_genSplit at hm
  split at hm
  case isFalse => cases hm
  rename_i h
  obtain ⟨h1, h2, h3, h4, rfl⟩ := h
  obtain rfl := Option.some.inj hm
  obtain ⟨⟨m, hmx⟩, _, _⟩ := hT
  obtain ⟨k, rfl⟩ := Int.eq_ofNat_of_zero_le h3
  have hlen := Go.Lib.splitB_length_le sep (k : Int).toNat (min (Go.Lib.countB s sep + 1) (s.size + 1) - 1) s
  refine split_wrap (Dw := Dw) (N := min (Go.Lib.countB s sep + 1) (s.size + 1)) (sv := k) hA (by omega) (by unfold maxLen; omega) (Go.Proofs.Any.strings_genSplit Tryz_strings_genSplit_lay (by kernel_rfl) s sep k (-1) _ m w h1 hmx h2 (by omega) (by decide) (by decide) ?_)
  rw [if_pos (by decide)]
  omega

set_option maxRecDepth 4000 in
set_option maxHeartbeats 4000000 in
theorem strings_Split_c (w : World) {A : Nat → Prop} (hA : ∀ b, w.heap.size ≤ b → A b) (hT : Fz Tryz_FR A w) (s : ByteArray) (sep : ByteArray) {r : (List ByteArray)} (hm : strings_Split s sep = some r) : Ret Tryz.prog 46 #[.string s, .string sep] w fun v w' => ∃ s0, v = s0 ∧ Sl A w' s0 r ∧ Kp Dw w w' := by
  unfold strings_Split at hm
  refine enter Tryz.func46 rfl Tryz.ntmps46 rfl ?_
  have hA0 := hA
  have hB := Nat.le_refl w.heap.size
  have hK : Tr Dw w.heap.size A w A w := Tr.refl (Dw := Dw) hA
  have hH : Hp w.heap.size A w [] := Hp.nil
  refine C_seq ?_
  refine C_region ?_
  refine V_y (Y_assign rfl) rfl rfl rfl ?_
  refine V_to (fun _ _ => rfl) ?_
  refine C_seq ?_
  refine C_region ?_
  refine V_y (Y_move rfl) rfl rfl rfl ?_
  refine V_y (Y_move rfl) rfl rfl rfl ?_
  obtain ⟨x1, hx1, hm⟩ := Option.bind_eq_some_iff.1 hm
  refine V_call Tryz.call50 rfl rfl rfl rfl (strings_genSplit_c (Dw := Dw) w hA ((Fz.tr (Dw := Dw) hT hK)).2.1 s sep 0 (-1) hx1) ?_
  rintro v2 w4 ⟨_, rfl, h3, hk5⟩
  have ht6 := Kp.tr (Dw := Dw) hk5 hA hB
  replace hH := Hp.kp (Dw := Dw) hH hk5
  replace hK := Tr.trans (Dw := Dw) hK ht6
  replace hB := Nat.le_trans hB ht6.ex.size
  replace hA := ht6.new
  refine V_y (Y_assign rfl) rfl rfl rfl ?_
  refine V_to (fun _ _ => rfl) ?_
  obtain rfl := Option.some.inj hm
  refine C_ret ?_
  try simp only [↓inBlock_ret, ↓then_ret]
  exact retQ rfl (Res.one Tryz.results46 rfl) ⟨v2, rfl, (Sl.out (Dw := Dw) h3 hA0 hK), hK.kp⟩

def Tryz_strconv_Atoi_lay_ren : Go.Shelf.Ren := ⟨fun | 129 => 108 | 171 => 57 | 172 => 56 | 205 => 97 | 243 => 72 | 244 => 70 | 245 => 71 | 246 => 85 | 247 => 80 | 279 => 81 | 280 => 82 | 281 => 83 | 282 => 84 | 283 => 98 | 284 => 99 | 285 => 100 | 286 => 101 | 287 => 95 | 316 => 96 | 317 => 107 | 318 => 109 | 319 => 110 | 320 => 111 | 321 => 105 | 322 => 106 | 337 => 114 | 338 => 115 | n => n, fun | 0 => 0 | 1 => 1 | 2 => 2 | 3 => 3 | 4 => 4 | 5 => 5 | 6 => 6 | 7 => 7 | 8 => 8 | 9 => 9 | 10 => 10 | 11 => 11 | 12 => 12 | 13 => 13 | 14 => 14 | 15 => 15 | 16 => 16 | 17 => 17 | 18 => 18 | 19 => 19 | 20 => 20 | 21 => 21 | 22 => 163 | 23 => 161 | 24 => 38 | 25 => 39 | 27 => 155 | 28 => 75 | 31 => 36 | 34 => 80 | 37 => 176 | 40 => 220 | 41 => 206 | 46 => 167 | 47 => 217 | 51 => 172 | 52 => 219 | 53 => 190 | 54 => 198 | 55 => 165 | 59 => 28 | 60 => 29 | 61 => 37 | 63 => 207 | 64 => 218 | 69 => 193 | 74 => 156 | 75 => 157 | 76 => 158 | 77 => 159 | 80 => 223 | 81 => 229 | 83 => 160 | 84 => 182 | 85 => 177 | 86 => 178 | 101 => 73 | 103 => 169 | 104 => 27 | 105 => 170 | 106 => 171 | 108 => 196 | 111 => 216 | 113 => 150 | 114 => 166 | 115 => 184 | 116 => 185 | 117 => 186 | 118 => 187 | 119 => 202 | 122 => 183 | 123 => 188 | 124 => 189 | 127 => 209 | 128 => 168 | 131 => 146 | 137 => 203 | 138 => 204 | 139 => 205 | 143 => 210 | 144 => 211 | 145 => 212 | 146 => 173 | 150 => 162 | 151 => 174 | 164 => 242 | 167 => 175 | 168 => 179 | 169 => 180 | 170 => 181 | 171 => 197 | 172 => 199 | 173 => 200 | 174 => 201 | 175 => 191 | 176 => 192 | 209 => 194 | 210 => 195 | 211 => 213 | 212 => 214 | 213 => 215 | 214 => 208 | 222 => 144 | 232 => 221 | 233 => 222 | 238 => 224 | 239 => 225 | 240 => 226 | 241 => 227 | 242 => 228 | 243 => 230 | 244 => 231 | 245 => 232 | 246 => 233 | 247 => 234 | 248 => 235 | 249 => 236 | n => n, fun | 1 => 0 | 3 => 3 | 4 => 4 | 15 => 1 | 16 => 2 | 17 => 5 | 18 => 6 | 19 => 7 | n => n⟩
theorem Tryz_strconv_Atoi_laym0 : Go.Proofs.Lays.n172 Tryz.prog Tryz_strconv_Atoi_lay_ren := {
  mixed := by kernel_rfl,
  f129 := Tryz.func108.trans (congrArg some (by kernel_rfl)),
  f171 := Tryz.func57.trans (congrArg some (by kernel_rfl)),
  f172 := Tryz.func56.trans (congrArg some (by kernel_rfl)),
  f205 := Tryz.func97.trans (congrArg some (by kernel_rfl)),
  f243 := Tryz.func72.trans (congrArg some (by kernel_rfl)),
  f244 := Tryz.func70.trans (congrArg some (by kernel_rfl)),
  f245 := Tryz.func71.trans (congrArg some (by kernel_rfl)),
  f246 := Tryz.func85.trans (congrArg some (by kernel_rfl)),
  f247 := Tryz.func80.trans (congrArg some (by kernel_rfl)),
  f279 := Tryz.func81.trans (congrArg some (by kernel_rfl)),
  f280 := Tryz.func82.trans (congrArg some (by kernel_rfl)),
  f281 := Tryz.func83.trans (congrArg some (by kernel_rfl)),
  f282 := Tryz.func84.trans (congrArg some (by kernel_rfl)),
  f283 := Tryz.func98.trans (congrArg some (by kernel_rfl)),
  f284 := Tryz.func99.trans (congrArg some (by kernel_rfl)),
  f285 := Tryz.func100.trans (congrArg some (by kernel_rfl)),
  f286 := Tryz.func101.trans (congrArg some (by kernel_rfl)),
  f287 := Tryz.func95.trans (congrArg some (by kernel_rfl)),
  f316 := Tryz.func96.trans (congrArg some (by kernel_rfl)),
  f317 := Tryz.func107.trans (congrArg some (by kernel_rfl)),
  f318 := Tryz.func109.trans (congrArg some (by kernel_rfl)),
  f319 := Tryz.func110.trans (congrArg some (by kernel_rfl)),
  f320 := Tryz.func111.trans (congrArg some (by kernel_rfl)),
  f321 := Tryz.func105.trans (congrArg some (by kernel_rfl)),
  f322 := Tryz.func106.trans (congrArg some (by kernel_rfl)),
  f337 := Tryz.func114.trans (congrArg some (by kernel_rfl)),
  f338 := Tryz.func115.trans (congrArg some (by kernel_rfl)),
  t0 := Tryz.underlying0,
  a0 := Tryz.isAgg0,
  z0 := Tryz.sizeOf0,
  v0 := Tryz.zeroValue0,
  t2 := Tryz.underlying2,
  a2 := Tryz.isAgg2,
  z2 := Tryz.sizeOf2,
  v2 := Tryz.zeroValue2,
  t3 := Tryz.underlying3,
  a3 := Tryz.isAgg3,
  z3 := Tryz.sizeOf3,
  v3 := Tryz.zeroValue3,
  t4 := Tryz.underlying4,
  a4 := Tryz.isAgg4,
  z4 := Tryz.sizeOf4,
  v4 := Tryz.zeroValue4,
  t5 := Tryz.underlying5,
  a5 := Tryz.isAgg5,
  z5 := Tryz.sizeOf5,
  v5 := Tryz.zeroValue5,
  t9 := Tryz.underlying9,
  a9 := Tryz.isAgg9,
  z9 := Tryz.sizeOf9,
  v9 := Tryz.zeroValue9,
  t20 := Tryz.underlying20,
  a20 := Tryz.isAgg20,
  z20 := Tryz.sizeOf20,
  v20 := Tryz.zeroValue20,
  t21 := Tryz.underlying21,
  a21 := Tryz.isAgg21,
  z21 := Tryz.sizeOf21,
  v21 := Tryz.zeroValue21,
  t37 := Tryz.underlying176,
  a37 := Tryz.isAgg176,
  z37 := Tryz.sizeOf176,
  v37 := Tryz.zeroValue176,
  t46 := Tryz.underlying167,
  a46 := Tryz.isAgg167,
  z46 := Tryz.sizeOf167,
  v46 := Tryz.zeroValue167,
  t51 := Tryz.underlying172,
  a51 := Tryz.isAgg172,
  z51 := Tryz.sizeOf172,
  v51 := Tryz.zeroValue172,
  t53 := Tryz.underlying190,
  a53 := Tryz.isAgg190,
  z53 := Tryz.sizeOf190,
  v53 := Tryz.zeroValue190,
  t75 := Tryz.underlying157,
  a75 := Tryz.isAgg157,
  z75 := Tryz.sizeOf157,
  v75 := Tryz.zeroValue157,
  t76 := Tryz.underlying158,
  a76 := Tryz.isAgg158,
  z76 := Tryz.sizeOf158,
  v76 := Tryz.zeroValue158,
  t85 := Tryz.underlying177,
  a85 := Tryz.isAgg177,
  z85 := Tryz.sizeOf177,
  v85 := Tryz.zeroValue177,
  t127 := Tryz.underlying209,
  a127 := Tryz.isAgg209,
  z127 := Tryz.sizeOf209,
  v127 := Tryz.zeroValue209,
  t143 := Tryz.underlying210,
  a143 := Tryz.isAgg210,
  z143 := Tryz.sizeOf210,
  v143 := Tryz.zeroValue210,
  t145 := Tryz.underlying212,
  a145 := Tryz.isAgg212,
  z145 := Tryz.sizeOf212,
  v145 := Tryz.zeroValue212,
  t167 := Tryz.underlying175,
  a167 := Tryz.isAgg175,
  z167 := Tryz.sizeOf175,
  v167 := Tryz.zeroValue175,
  t168 := Tryz.underlying179,
  a168 := Tryz.isAgg179,
  z168 := Tryz.sizeOf179,
  v168 := Tryz.zeroValue179,
  t171 := Tryz.underlying197,
  a171 := Tryz.isAgg197,
  z171 := Tryz.sizeOf197,
  v171 := Tryz.zeroValue197,
  t173 := Tryz.underlying200,
  a173 := Tryz.isAgg200,
  z173 := Tryz.sizeOf200,
  v173 := Tryz.zeroValue200,
  t175 := Tryz.underlying191,
  a175 := Tryz.isAgg191,
  z175 := Tryz.sizeOf191,
  v175 := Tryz.zeroValue191,
  t210 := Tryz.underlying195,
  a210 := Tryz.isAgg195,
  z210 := Tryz.sizeOf195,
  v210 := Tryz.zeroValue195,
  t212 := Tryz.underlying214,
  a212 := Tryz.isAgg214,
  z212 := Tryz.sizeOf214,
  v212 := Tryz.zeroValue214,
  t213 := Tryz.underlying215,
  a213 := Tryz.isAgg215,
  z213 := Tryz.sizeOf215,
  t232 := Tryz.underlying221,
  a232 := Tryz.isAgg221,
  z232 := Tryz.sizeOf221,
  v232 := Tryz.zeroValue221,
  t233 := Tryz.underlying222,
  a233 := Tryz.isAgg222,
  z233 := Tryz.sizeOf222,
  v233 := Tryz.zeroValue222,
  g15 := by kernel_rfl,
  g16 := by kernel_rfl,
  g17 := by kernel_rfl,
  g18 := by kernel_rfl,
  g19 := by kernel_rfl }
theorem Tryz_strconv_Atoi_laym : Go.Proofs.LaysM.n172 Tryz.prog Tryz_strconv_Atoi_lay_ren := { Tryz_strconv_Atoi_laym0 with
  t80 := Tryz.underlying223,
  a80 := Tryz.isAgg223,
  z80 := Tryz.sizeOf223,
  v80 := Tryz.zeroValue223,
  i0 := by kernel_rfl,
  i2 := by kernel_rfl,
  i3 := by kernel_rfl,
  i4 := by kernel_rfl,
  i5 := by kernel_rfl,
  i9 := by kernel_rfl,
  i20 := by kernel_rfl,
  i21 := by kernel_rfl,
  i37 := by kernel_rfl,
  i46 := by kernel_rfl,
  i51 := by kernel_rfl,
  i53 := by kernel_rfl,
  i75 := by kernel_rfl,
  i76 := by kernel_rfl,
  i80 := by kernel_rfl,
  i85 := by kernel_rfl,
  i127 := by kernel_rfl,
  i143 := by kernel_rfl,
  i145 := by kernel_rfl,
  i167 := by kernel_rfl,
  i168 := by kernel_rfl,
  i171 := by kernel_rfl,
  i173 := by kernel_rfl,
  i175 := by kernel_rfl,
  i210 := by kernel_rfl,
  i212 := by kernel_rfl,
  i232 := by kernel_rfl,
  i233 := by kernel_rfl,
  m15 := by kernel_rfl,
  m16 := by kernel_rfl,
  m17 := by kernel_rfl,
  m18 := by kernel_rfl,
  m19 := by kernel_rfl }
theorem Tryz_strconv_Atoi_lay : Go.Proofs.LaysC.n172 Tryz.prog Tryz_strconv_Atoi_lay_ren := { Tryz_strconv_Atoi_laym with
  c0 := by kernel_rfl,
  c2 := by kernel_rfl,
  c3 := by kernel_rfl,
  c4 := by kernel_rfl,
  c5 := by kernel_rfl,
  c9 := by kernel_rfl,
  c20 := by kernel_rfl,
  c21 := by kernel_rfl,
  c37 := by kernel_rfl,
  c46 := by kernel_rfl,
  c51 := by kernel_rfl,
  c53 := by kernel_rfl,
  c75 := by kernel_rfl,
  c76 := by kernel_rfl,
  c80 := by kernel_rfl,
  c85 := by kernel_rfl,
  c127 := by kernel_rfl,
  c143 := by kernel_rfl,
  c145 := by kernel_rfl,
  c167 := by kernel_rfl,
  c168 := by kernel_rfl,
  c171 := by kernel_rfl,
  c173 := by kernel_rfl,
  c175 := by kernel_rfl,
  c210 := by kernel_rfl,
  c212 := by kernel_rfl,
  c213 := by kernel_rfl,
  c232 := by kernel_rfl,
  c233 := by kernel_rfl }
theorem strconv_Atoi_c (w : World) {A : Nat → Prop} (hA : ∀ b, w.heap.size ≤ b → A b) (hT : Er Tryz.prog 1 A w ∧ Er Tryz.prog 2 A w) (s : ByteArray) {r : Int × Bool} (hm : strconv_Atoi s = some r) : Ret Tryz.prog 56 #[.string s] w fun v w' => ∃ ev, v = .tuple #[.int .i64 r.1, ev] ∧ ErV ev r.2 ∧ Kp False w w' := by
  unfold strconv_Atoi at hm
  split at hm
  case isFalse => cases hm
  rename_i hs
  obtain rfl := Option.some.inj hm
  obtain ⟨⟨⟨t1, p1, hc1⟩, _, _⟩, ⟨t2, p2, hc2⟩, _, _⟩ := hT
  rcases h : Go.Lib.atoiAll s.data.toList with v | _ | _
  · refine Calls.mono (Go.Proofs.Any.strconv_Atoi_ok Tryz_strconv_Atoi_lay s (by omega) v h w) ?_
    rintro _ w' ⟨rfl, hk⟩
    refine ⟨_, rfl, _, rfl, rfl, ?_⟩
    rcases hk with rfl | ⟨t, rfl⟩
    · exact Kp.refl (Dw := False) _
    · exact .of (Go.Lib.bytesWorld_below w _ t)
  · refine Calls.mono (Go.Proofs.Any.strconv_Atoi_syntax Tryz_strconv_Atoi_lay s hs h (.iface t1 p1) w hc1 (.inr ⟨t1, p1, rfl⟩)) ?_
    rintro _ w' ⟨N, rfl, _, _, hb⟩
    exact ⟨_, rfl, _, rfl, ⟨_, _, rfl⟩, .of hb⟩
  · refine Calls.mono (Go.Proofs.Any.strconv_Atoi_range Tryz_strconv_Atoi_lay s hs h (.iface t2 p2) w hc2 (.inr ⟨t2, p2, rfl⟩)) ?_
    rintro _ w' ⟨N, rfl, _, _, hb⟩
    exact ⟨_, rfl, _, rfl, ⟨_, _, rfl⟩, .of hb⟩

def Tryz_strconv_Itoa_lay_ren : Go.Shelf.Ren := ⟨fun | 129 => 108 | 171 => 57 | 243 => 72 | 246 => 85 | 283 => 98 | 284 => 99 | 285 => 100 | 286 => 101 | 317 => 107 | 318 => 109 | 319 => 110 | 320 => 111 | 337 => 114 | 338 => 115 | n => n, fun | 0 => 0 | 1 => 1 | 2 => 2 | 3 => 3 | 4 => 4 | 5 => 5 | 6 => 6 | 7 => 7 | 8 => 8 | 9 => 9 | 10 => 10 | 11 => 11 | 12 => 12 | 13 => 13 | 14 => 14 | 15 => 15 | 16 => 16 | 17 => 17 | 18 => 18 | 19 => 19 | 20 => 20 | 21 => 21 | 22 => 163 | 23 => 161 | 24 => 38 | 25 => 39 | 27 => 155 | 28 => 75 | 31 => 36 | 34 => 80 | 37 => 176 | 40 => 220 | 41 => 206 | 46 => 167 | 47 => 217 | 51 => 172 | 52 => 219 | 53 => 190 | 54 => 198 | 55 => 165 | 59 => 28 | 60 => 29 | 61 => 37 | 63 => 207 | 64 => 218 | 69 => 193 | 74 => 156 | 75 => 157 | 76 => 158 | 77 => 159 | 80 => 223 | 81 => 229 | 83 => 160 | 84 => 182 | 85 => 177 | 86 => 178 | 101 => 73 | 103 => 169 | 104 => 27 | 105 => 170 | 106 => 171 | 108 => 196 | 111 => 216 | 113 => 150 | 114 => 166 | 115 => 184 | 116 => 185 | 117 => 186 | 118 => 187 | 119 => 202 | 122 => 183 | 123 => 188 | 124 => 189 | 127 => 209 | 128 => 168 | 131 => 146 | 137 => 203 | 138 => 204 | 139 => 205 | 143 => 210 | 144 => 211 | 145 => 212 | 146 => 173 | 150 => 162 | 151 => 174 | 164 => 242 | 167 => 175 | 168 => 179 | 169 => 180 | 170 => 181 | 171 => 197 | 172 => 199 | 173 => 200 | 174 => 201 | 175 => 191 | 176 => 192 | 209 => 194 | 210 => 195 | 211 => 213 | 212 => 214 | 213 => 215 | 214 => 208 | 222 => 144 | 232 => 221 | 233 => 222 | 238 => 224 | 239 => 225 | 240 => 226 | 241 => 227 | 242 => 228 | 243 => 230 | 244 => 231 | 245 => 232 | 246 => 233 | 247 => 234 | 248 => 235 | 249 => 236 | n => n, fun | 1 => 0 | 3 => 3 | 4 => 4 | 15 => 1 | 16 => 2 | 17 => 5 | 18 => 6 | 19 => 7 | n => n⟩
theorem Tryz_strconv_Itoa_lay0 : Go.Proofs.Lays.n171 Tryz.prog Tryz_strconv_Itoa_lay_ren := {
  mixed := by kernel_rfl,
  f129 := Tryz.func108.trans (congrArg some (by kernel_rfl)),
  f171 := Tryz.func57.trans (congrArg some (by kernel_rfl)),
  f243 := Tryz.func72.trans (congrArg some (by kernel_rfl)),
  f246 := Tryz.func85.trans (congrArg some (by kernel_rfl)),
  f283 := Tryz.func98.trans (congrArg some (by kernel_rfl)),
  f284 := Tryz.func99.trans (congrArg some (by kernel_rfl)),
  f285 := Tryz.func100.trans (congrArg some (by kernel_rfl)),
  f286 := Tryz.func101.trans (congrArg some (by kernel_rfl)),
  f317 := Tryz.func107.trans (congrArg some (by kernel_rfl)),
  f318 := Tryz.func109.trans (congrArg some (by kernel_rfl)),
  f319 := Tryz.func110.trans (congrArg some (by kernel_rfl)),
  f320 := Tryz.func111.trans (congrArg some (by kernel_rfl)),
  f337 := Tryz.func114.trans (congrArg some (by kernel_rfl)),
  f338 := Tryz.func115.trans (congrArg some (by kernel_rfl)),
  t0 := Tryz.underlying0,
  a0 := Tryz.isAgg0,
  z0 := Tryz.sizeOf0,
  v0 := Tryz.zeroValue0,
  t2 := Tryz.underlying2,
  a2 := Tryz.isAgg2,
  z2 := Tryz.sizeOf2,
  v2 := Tryz.zeroValue2,
  t3 := Tryz.underlying3,
  a3 := Tryz.isAgg3,
  z3 := Tryz.sizeOf3,
  v3 := Tryz.zeroValue3,
  t4 := Tryz.underlying4,
  a4 := Tryz.isAgg4,
  z4 := Tryz.sizeOf4,
  v4 := Tryz.zeroValue4,
  t5 := Tryz.underlying5,
  a5 := Tryz.isAgg5,
  z5 := Tryz.sizeOf5,
  v5 := Tryz.zeroValue5,
  t9 := Tryz.underlying9,
  a9 := Tryz.isAgg9,
  z9 := Tryz.sizeOf9,
  v9 := Tryz.zeroValue9,
  t20 := Tryz.underlying20,
  a20 := Tryz.isAgg20,
  z20 := Tryz.sizeOf20,
  v20 := Tryz.zeroValue20,
  t37 := Tryz.underlying176,
  a37 := Tryz.isAgg176,
  z37 := Tryz.sizeOf176,
  v37 := Tryz.zeroValue176,
  t46 := Tryz.underlying167,
  a46 := Tryz.isAgg167,
  z46 := Tryz.sizeOf167,
  v46 := Tryz.zeroValue167,
  t51 := Tryz.underlying172,
  a51 := Tryz.isAgg172,
  z51 := Tryz.sizeOf172,
  v51 := Tryz.zeroValue172,
  t53 := Tryz.underlying190,
  a53 := Tryz.isAgg190,
  z53 := Tryz.sizeOf190,
  v53 := Tryz.zeroValue190,
  t171 := Tryz.underlying197,
  a171 := Tryz.isAgg197,
  z171 := Tryz.sizeOf197,
  v171 := Tryz.zeroValue197,
  t173 := Tryz.underlying200,
  a173 := Tryz.isAgg200,
  z173 := Tryz.sizeOf200,
  v173 := Tryz.zeroValue200,
  t212 := Tryz.underlying214,
  a212 := Tryz.isAgg214,
  z212 := Tryz.sizeOf214,
  v212 := Tryz.zeroValue214,
  t213 := Tryz.underlying215,
  a213 := Tryz.isAgg215,
  z213 := Tryz.sizeOf215,
  t232 := Tryz.underlying221,
  a232 := Tryz.isAgg221,
  z232 := Tryz.sizeOf221,
  v232 := Tryz.zeroValue221,
  t233 := Tryz.underlying222,
  a233 := Tryz.isAgg222,
  z233 := Tryz.sizeOf222,
  v233 := Tryz.zeroValue222,
  g17 := by kernel_rfl,
  g18 := by kernel_rfl,
  g19 := by kernel_rfl }
theorem Tryz_strconv_Itoa_lay : Go.Proofs.LaysM.n171 Tryz.prog Tryz_strconv_Itoa_lay_ren := { Tryz_strconv_Itoa_lay0 with
  i0 := by kernel_rfl,
  i2 := by kernel_rfl,
  i3 := by kernel_rfl,
  i4 := by kernel_rfl,
  i5 := by kernel_rfl,
  i9 := by kernel_rfl,
  i20 := by kernel_rfl,
  i37 := by kernel_rfl,
  i46 := by kernel_rfl,
  i51 := by kernel_rfl,
  i53 := by kernel_rfl,
  i171 := by kernel_rfl,
  i173 := by kernel_rfl,
  i212 := by kernel_rfl,
  i232 := by kernel_rfl,
  i233 := by kernel_rfl,
  m17 := by kernel_rfl,
  m18 := by kernel_rfl,
  m19 := by kernel_rfl }
theorem strconv_Itoa_c (w : World) {A : Nat → Prop} (hA : ∀ b, w.heap.size ≤ b → A b) (hT : Tb Tryz.prog A w) (n : Int) {r : ByteArray} (hm : strconv_Itoa n = some r) : Ret Tryz.prog 57 #[.int .i64 n] w fun v w' => v = .string r ∧ Kp False w w' := by
  unfold strconv_Itoa at hm
  split at hm
  case isFalse => cases hm
  rename_i h
  obtain rfl := Option.some.inj hm
  refine Calls.mono (Go.Proofs.Any.strconv_Itoa Tryz_strconv_Itoa_lay n h.1 h.2 w hT.1) ?_
  rintro _ w' ⟨rfl, k, os, rfl⟩
  exact ⟨_, rfl, rfl, .of (Go.Lib.below_grow _ w (Nat.le_refl _) k os)⟩

set_option maxRecDepth 4000 in
set_option maxHeartbeats 4000000 in
theorem internal_stringslite_HasPrefix_c (w : World) (s : ByteArray) (prefix_ : ByteArray) {r : Bool} (hm : internal_stringslite_HasPrefix s prefix_ = some r) : Ret Tryz.prog 86 #[.string s, .string prefix_] w fun v w' => v = .bool r ∧ w = w' := by
  unfold internal_stringslite_HasPrefix at hm
  refine enter Tryz.func86 rfl Tryz.ntmps86 rfl ?_
  refine C_seq ?_
  refine C_region ?_
  refine V_y (Y_assign rfl) rfl rfl rfl ?_
  refine V_to (fun _ _ => rfl) ?_
  refine C_seq ?_
  refine C_region ?_
  refine V_y (Y_move rfl) rfl rfl rfl ?_
  refine V_y (Y_lenStr rfl Tryz.underlying9 rfl) rfl rfl rfl ?_
  refine V_y (Y_move rfl) rfl rfl rfl ?_
  refine V_y (Y_lenStr rfl Tryz.underlying9 rfl) rfl rfl rfl ?_
  refine V_y (Y_geq rfl rfl) rfl rfl rfl ?_
  refine V_y (Y_move rfl) rfl rfl rfl ?_
  obtain ⟨s2, hs2, hm⟩ := Option.bind_eq_some_iff.1 hm
  refine V_cut 7 (fun _ : Unit => [(17, .bool s2)]) (fun _ w' => w = w') ?_ ?_
  · simp only [List.take, List.drop]
    rcases Bool.eq_false_or_eq_true (decide ((prefix_.size : Int) ≤ (s.size : Int))) with hc1 | hc1
    · rw [if_pos hc1] at hs2
      refine V_ge rfl rfl rfl hc1 ?_
      refine V_y (Y_move rfl) rfl rfl rfl ?_
      refine V_ge rfl rfl rfl hc1 ?_
      refine V_y (Y_move rfl) rfl rfl rfl ?_
      refine V_ge rfl rfl rfl hc1 ?_
      refine V_y (Y_lenStr rfl Tryz.underlying9 rfl) rfl rfl rfl ?_
      refine V_ge rfl rfl rfl hc1 ?_
      obtain ⟨x3, hx3, hs2⟩ := Option.bind_eq_some_iff.1 hs2
      refine V_y (Y_sliceSH hx3 Tryz.underlying9 rfl rfl) rfl rfl rfl ?_
      refine V_ge rfl rfl rfl hc1 ?_
      refine V_y (Y_move rfl) rfl rfl rfl ?_
      refine V_ge rfl rfl rfl hc1 ?_
      refine V_y (Y_seql rfl rfl) rfl rfl rfl ?_
      refine V_y (Y_pick_te rfl hc1 rfl) rfl rfl rfl ?_
      obtain rfl := Option.some.inj hs2
      exact V_end fun a ha => ⟨(), ha.sub ⟨rfl, trivial⟩, rfl⟩
    · rw [if_neg (nt hc1)] at hs2
      refine V_gn rfl rfl rfl hc1 rfl rfl rfl ?_
      refine V_gn rfl rfl rfl hc1 rfl rfl rfl ?_
      refine V_gn rfl rfl rfl hc1 rfl rfl rfl ?_
      refine V_gn rfl rfl rfl hc1 rfl rfl rfl ?_
      refine V_gn rfl rfl rfl hc1 rfl rfl rfl ?_
      refine V_gn rfl rfl rfl hc1 rfl rfl rfl ?_
      refine V_y (Y_pick_fe rfl hc1 rfl) rfl rfl rfl ?_
      obtain rfl := Option.some.inj hs2
      exact V_end fun a ha => ⟨(), ha.sub ⟨rfl, trivial⟩, rfl⟩
  simp only [List.take, List.drop]
  rintro _ _ rfl
  refine V_y (Y_assign rfl) rfl rfl rfl ?_
  refine V_to (fun _ _ => rfl) ?_
  obtain rfl := Option.some.inj hm
  refine C_ret ?_
  try simp only [↓inBlock_ret, ↓then_ret]
  exact retQ rfl (Res.one Tryz.results86 rfl) ⟨rfl, rfl⟩

set_option maxRecDepth 4000 in
set_option maxHeartbeats 4000000 in
theorem internal_stringslite_TrimPrefix_c (w : World) (s : ByteArray) (prefix_ : ByteArray) {r : ByteArray} (hm : internal_stringslite_TrimPrefix s prefix_ = some r) : Ret Tryz.prog 73 #[.string s, .string prefix_] w fun v w' => v = .string r ∧ w = w' := by
  unfold internal_stringslite_TrimPrefix at hm
  refine enter Tryz.func73 rfl Tryz.ntmps73 rfl ?_
  refine C_seq ?_
  refine C_region ?_
  refine V_y (Y_assign rfl) rfl rfl rfl ?_
  refine V_to (fun _ _ => rfl) ?_
  refine C_seq ?_
  refine C_seq ?_
  refine C_region ?_
  refine V_y (Y_move rfl) rfl rfl rfl ?_
  refine V_y (Y_move rfl) rfl rfl rfl ?_
  obtain ⟨x1, hx1, hm⟩ := Option.bind_eq_some_iff.1 hm
  refine V_call Tryz.call86 rfl rfl rfl rfl (internal_stringslite_HasPrefix_c w s prefix_ hx1) ?_
  rintro _ _ ⟨rfl, rfl⟩
  refine V_to (fun _ _ => rfl) ?_
  refine C_cond rfl (fun hc2 => ?_) (fun hc2 => ?_)
  · rw [if_pos hc2] at hm
    refine C_seq ?_
    refine C_region ?_
    refine V_y (Y_move rfl) rfl rfl rfl ?_
    refine V_y (Y_move rfl) rfl rfl rfl ?_
    refine V_y (Y_lenStr rfl Tryz.underlying9 rfl) rfl rfl rfl ?_
    obtain ⟨x3, hx3, hm⟩ := Option.bind_eq_some_iff.1 hm
    refine V_y (Y_sliceSL hx3 Tryz.underlying9 rfl rfl) rfl rfl rfl ?_
    refine V_y (Y_assign rfl) rfl rfl rfl ?_
    refine V_to (fun _ _ => rfl) ?_
    obtain rfl := Option.some.inj hm
    refine C_ret ?_
    try simp only [↓inBlock_ret, ↓then_ret]
    exact retQ rfl (Res.one Tryz.results73 rfl) ⟨rfl, rfl⟩
  · rw [if_neg (nt hc2)] at hm
    refine C_skip_to (fun _ _ => rfl) ?_
    refine C_seq ?_
    refine C_region ?_
    refine V_y (Y_move rfl) rfl rfl rfl ?_
    refine V_y (Y_assign rfl) rfl rfl rfl ?_
    refine V_to (fun _ _ => rfl) ?_
    obtain rfl := Option.some.inj hm
    refine C_ret ?_
    try simp only [↓inBlock_ret, ↓then_ret]
    exact retQ rfl (Res.one Tryz.results73 rfl) ⟨rfl, rfl⟩

set_option maxRecDepth 4000 in
set_option maxHeartbeats 4000000 in
theorem strings_TrimPrefix_c (w : World) (s : ByteArray) (prefix_ : ByteArray) {r : ByteArray} (hm : strings_TrimPrefix s prefix_ = some r) : Ret Tryz.prog 58 #[.string s, .string prefix_] w fun v w' => v = .string r ∧ w = w' := by
  unfold strings_TrimPrefix at hm
  refine enter Tryz.func58 rfl Tryz.ntmps58 rfl ?_
  refine C_seq ?_
  refine C_region ?_
  refine V_y (Y_assign rfl) rfl rfl rfl ?_
  refine V_to (fun _ _ => rfl) ?_
  refine C_seq ?_
  refine C_region ?_
  refine V_y (Y_move rfl) rfl rfl rfl ?_
  refine V_y (Y_move rfl) rfl rfl rfl ?_
  obtain ⟨x1, hx1, hm⟩ := Option.bind_eq_some_iff.1 hm
  refine V_call Tryz.call73 rfl rfl rfl rfl (internal_stringslite_TrimPrefix_c w s prefix_ hx1) ?_
  rintro _ _ ⟨rfl, rfl⟩
  refine V_y (Y_assign rfl) rfl rfl rfl ?_
  refine V_to (fun _ _ => rfl) ?_
  obtain rfl := Option.some.inj hm
  refine C_ret ?_
  try simp only [↓inBlock_ret, ↓then_ret]
  exact retQ rfl (Res.one Tryz.results58 rfl) ⟨rfl, rfl⟩

set_option maxRecDepth 4000 in
set_option maxHeartbeats 4000000 in
theorem route_number_c (w : World) {A : Nat → Prop} (hA : ∀ b, w.heap.size ≤ b → A b) (hT : Fz Tryz_FR A w) (s : ByteArray) {r : (Int × Bool)} (hm : route_number s = some r) : Ret Tryz.prog 47 #[.string s] w fun v w' => v = .tuple #[.int .i64 r.1, .bool r.2] ∧ Kp False w w' := by
  unfold route_number at hm
  refine enter Tryz.func47 rfl Tryz.ntmps47 rfl ?_
  have hA0 := hA
  have hB := Nat.le_refl w.heap.size
  have hK : Tr False w.heap.size A w A w := Tr.refl (Dw := False) hA
  have hH : Hp w.heap.size A w [] := Hp.nil
  refine C_seq ?_
  refine C_region ?_
  refine V_y (Y_assign rfl) rfl rfl rfl ?_
  refine V_y (Y_assign rfl) rfl rfl rfl ?_
  refine V_to (fun _ _ => rfl) ?_
  refine C_seq ?_
  refine C_region ?_
  refine V_y (Y_move rfl) rfl rfl rfl ?_
  obtain ⟨x1, hx1, hm⟩ := Option.bind_eq_some_iff.1 hm
  refine V_call Tryz.call56 rfl rfl rfl rfl (strconv_Atoi_c w hA ⟨((Fz.tr (Dw := False) hT hK)).2.2.1, ((Fz.tr (Dw := False) hT hK)).2.2.2⟩ s hx1) ?_
  rintro _ w4 ⟨v2, rfl, h3, hk5⟩
  have ht6 := Kp.tr (Dw := False) hk5 hA hB
  replace hH := Hp.kp (Dw := False) hH hk5
  replace hK := Tr.trans (Dw := False) hK ht6
  replace hB := Nat.le_trans hB ht6.ex.size
  replace hA := ht6.new
  refine V_y (Y_move rfl) rfl rfl rfl ?_
  refine V_y (Y_extract rfl rfl) rfl rfl rfl ?_
  refine V_y (Y_extract rfl rfl) rfl rfl rfl ?_
  refine V_y (Y_assign rfl) rfl rfl rfl ?_
  refine V_y (Y_assign rfl) rfl rfl rfl ?_
  refine V_to (fun _ _ => rfl) ?_
  refine C_seq ?_
  refine C_seq ?_
  obtain ⟨s8, ho7, hm⟩ := Option.bind_eq_some_iff.1 hm
  refine C_cutG (ι := (Nat → Prop)) (fun (A13 : (Nat → Prop)) => [(4, .int .i64 x1.1), (24, .bool s8)]) (fun (A13 : (Nat → Prop)) => fun w' => Hp w.heap.size A13 w' ([]) ∧ Tr False w.heap.size A w4 A13 w') ?_ ?_
  · have hr9 : Tr False w.heap.size A w4 A w4 := Tr.refl (Dw := False) hA
    refine C_region ?_
    refine V_y (Y_move rfl) rfl rfl rfl ?_
    refine V_y (Y_neqER h3 Tryz.underlying157 rfl) rfl rfl rfl ?_
    refine V_y (Y_move rfl) rfl rfl rfl ?_
    rcases Bool.eq_false_or_eq_true (x1.2) with hc15 | hc15
    · rw [if_pos hc15] at ho7
      refine V_gn rfl rfl rfl hc15 rfl rfl rfl ?_
      refine V_gn rfl rfl rfl hc15 rfl rfl rfl ?_
      refine V_gn rfl rfl rfl hc15 rfl rfl rfl ?_
      refine V_gn rfl rfl rfl hc15 rfl rfl rfl ?_
      refine V_y (Y_pick_te rfl hc15 rfl) rfl rfl rfl ?_
      refine V_y (Y_move rfl) rfl rfl rfl ?_
      rcases Bool.eq_false_or_eq_true (true) with hc16 | hc16
      · rw [if_pos hc16] at ho7
        refine V_gn rfl rfl rfl hc16 rfl rfl rfl ?_
        refine V_gn rfl rfl rfl hc16 rfl rfl rfl ?_
        refine V_gn rfl rfl rfl hc16 rfl rfl rfl ?_
        refine V_gn rfl rfl rfl hc16 rfl rfl rfl ?_
        refine V_y (Y_pick_te rfl hc16 rfl) rfl rfl rfl ?_
        obtain rfl := Option.some.inj ho7
        refine V_end (fun a ha17 => ?_)
        exact ⟨A, ha17.sub ⟨rfl, rfl, trivial⟩, ⟨hH, hr9⟩⟩
      · rw [if_neg (nt hc16)] at ho7
        refine V_ge rfl rfl rfl hc16 ?_
        refine V_y (Y_move rfl) rfl rfl rfl ?_
        refine V_ge rfl rfl rfl hc16 ?_
        obtain ⟨x18, hx18, ho7⟩ := Option.bind_eq_some_iff.1 ho7
        refine V_call Tryz.call58 rfl rfl rfl rfl (strings_TrimPrefix_c w4 s (⟨#[45]⟩ : ByteArray) hx18) ?_
        rintro _ _ ⟨rfl, rfl⟩
        refine V_ge rfl rfl rfl hc16 ?_
        refine V_y (Y_lenStr rfl Tryz.underlying9 rfl) rfl rfl rfl ?_
        refine V_ge rfl rfl rfl hc16 ?_
        refine V_y (Y_gtr rfl rfl) rfl rfl rfl ?_
        refine V_y (Y_pick_fe rfl hc16 rfl) rfl rfl rfl ?_
        obtain rfl := Option.some.inj ho7
        refine V_end (fun a ha19 => ?_)
        exact ⟨A, ha19.sub ⟨rfl, rfl, trivial⟩, ⟨hH, hr9⟩⟩
    · rw [if_neg (nt hc15)] at ho7
      refine V_ge rfl rfl rfl hc15 ?_
      refine V_y (Y_move rfl) rfl rfl rfl ?_
      refine V_ge rfl rfl rfl hc15 ?_
      obtain ⟨x20, hx20, ho7⟩ := Option.bind_eq_some_iff.1 ho7
      refine V_call Tryz.call57 rfl rfl rfl rfl (strconv_Itoa_c w4 hA ((Fz.tr (Dw := False) hT hK)).1 x1.1 hx20) ?_
      rintro _ w21 ⟨rfl, hk22⟩
      have ht23 := Kp.tr (Dw := False) hk22 hA hB
      replace hH := Hp.kp (Dw := False) hH hk22
      replace hK := Tr.trans (Dw := False) hK ht23
      replace hr9 := Tr.trans (Dw := False) hr9 ht23
      replace hB := Nat.le_trans hB ht23.ex.size
      replace hA := ht23.new
      refine V_ge rfl rfl rfl hc15 ?_
      refine V_y (Y_move rfl) rfl rfl rfl ?_
      refine V_ge rfl rfl rfl hc15 ?_
      refine V_y (Y_sneq rfl rfl) rfl rfl rfl ?_
      refine V_y (Y_pick_fe rfl hc15 rfl) rfl rfl rfl ?_
      refine V_y (Y_move rfl) rfl rfl rfl ?_
      rcases Bool.eq_false_or_eq_true (!(strEq x20 s)) with hc24 | hc24
      · rw [if_pos hc24] at ho7
        refine V_gn rfl rfl rfl hc24 rfl rfl rfl ?_
        refine V_gn rfl rfl rfl hc24 rfl rfl rfl ?_
        refine V_gn rfl rfl rfl hc24 rfl rfl rfl ?_
        refine V_gn rfl rfl rfl hc24 rfl rfl rfl ?_
        refine V_y (Y_pick_te rfl hc24 rfl) rfl rfl rfl ?_
        obtain rfl := Option.some.inj ho7
        refine V_end (fun a ha25 => ?_)
        exact ⟨A, ha25.sub ⟨rfl, rfl, trivial⟩, ⟨hH, hr9⟩⟩
      · rw [if_neg (nt hc24)] at ho7
        refine V_ge rfl rfl rfl hc24 ?_
        refine V_y (Y_move rfl) rfl rfl rfl ?_
        refine V_ge rfl rfl rfl hc24 ?_
        obtain ⟨x26, hx26, ho7⟩ := Option.bind_eq_some_iff.1 ho7
        refine V_call Tryz.call58 rfl rfl rfl rfl (strings_TrimPrefix_c w21 s (⟨#[45]⟩ : ByteArray) hx26) ?_
        rintro _ _ ⟨rfl, rfl⟩
        refine V_ge rfl rfl rfl hc24 ?_
        refine V_y (Y_lenStr rfl Tryz.underlying9 rfl) rfl rfl rfl ?_
        refine V_ge rfl rfl rfl hc24 ?_
        refine V_y (Y_gtr rfl rfl) rfl rfl rfl ?_
        refine V_y (Y_pick_fe rfl hc24 rfl) rfl rfl rfl ?_
        obtain rfl := Option.some.inj ho7
        refine V_end (fun a ha27 => ?_)
        exact ⟨A, ha27.sub ⟨rfl, rfl, trivial⟩, ⟨hH, hr9⟩⟩
  rintro A13 w10 ⟨hH14, hk11⟩ a ha12
  replace hK := Tr.trans (Dw := False) hK hk11
  replace hB := Nat.le_trans hB hk11.ex.size
  replace hA := hk11.new
  replace hH : Hp w.heap.size A13 w10 ([]) := hH14
  refine C_at (n := ⟨26, [], none⟩) (fun _ _ => rfl) ?_ ha12
  refine C_cond rfl (fun hc28 => ?_) (fun hc28 => ?_)
  · rw [if_pos hc28] at hm
    refine C_seq ?_
    refine C_region ?_
    refine V_y (Y_assign rfl) rfl rfl rfl ?_
    refine V_y (Y_assign rfl) rfl rfl rfl ?_
    refine V_to (fun _ _ => rfl) ?_
    obtain rfl := Option.some.inj hm
    refine C_ret ?_
    try simp only [↓inBlock_ret, ↓then_ret]
    exact retQ rfl (Res.two Tryz.results47 rfl rfl) ⟨rfl, hK.kp⟩
  · rw [if_neg (nt hc28)] at hm
    refine C_skip_to (fun _ _ => rfl) ?_
    refine C_seq ?_
    refine C_region ?_
    refine V_y (Y_move rfl) rfl rfl rfl ?_
    refine V_y (Y_assign rfl) rfl rfl rfl ?_
    refine V_y (Y_assign rfl) rfl rfl rfl ?_
    refine V_to (fun _ _ => rfl) ?_
    obtain rfl := Option.some.inj hm
    refine C_ret ?_
    try simp only [↓inBlock_ret, ↓then_ret]
    exact retQ rfl (Res.two Tryz.results47 rfl rfl) ⟨rfl, hK.kp⟩

set_option maxRecDepth 4000 in
set_option maxHeartbeats 4000000 in
theorem route_readPerson_c (w : World) {A : Nat → Prop} (hA : ∀ b, w.heap.size ≤ b → A b) (hT : Fz Tryz_FR A w) (line : ByteArray) {r : (route_Person × Bool)} (hm : route_readPerson line = some r) : Ret Tryz.prog 8 #[.string line] w fun v w' => ∃ s0, v = .tuple #[.agg #[.int .i64 r.1.no, .int .i64 r.1.capacity, .int .i64 r.1.calendar, s0], .bool r.2] ∧ Sl A w' s0 r.1.skills ∧ Kp False w w' := by
  unfold route_readPerson at hm
  refine enter Tryz.func8 rfl Tryz.ntmps8 rfl ?_
  have hA0 := hA
  have hB := Nat.le_refl w.heap.size
  have hK : Tr False w.heap.size A w A w := Tr.refl (Dw := False) hA
  have hH : Hp w.heap.size A w [] := Hp.nil
  refine C_seq ?_
  refine C_region ?_
  refine V_allocH (Dw := False) (B := w.heap.size) hH Tryz.zeroValue32 hB hA rfl ?_
  intro b1 w2 A3 hH4 ht5
  replace hK := Tr.trans (Dw := False) hK ht5
  replace hB := Nat.le_trans hB ht5.ex.size
  replace hA := ht5.new
  replace hH : Hp w.heap.size A3 w2 (obC b1 [.int .i64 0, .int .i64 0, .int .i64 0, .slice none 0 0] 32 :: []) := hH4
  refine V_y (Y_assign rfl) rfl rfl rfl ?_
  refine V_to (fun _ _ => rfl) ?_
  refine C_seq ?_
  refine C_region ?_
  refine V_allocH (Dw := False) (B := w.heap.size) hH Tryz.zeroValue32 hB hA rfl ?_
  intro b6 w7 A8 hH9 ht10
  replace hK := Tr.trans (Dw := False) hK ht10
  replace hB := Nat.le_trans hB ht10.ex.size
  replace hA := ht10.new
  replace hH : Hp w.heap.size A8 w7 (obC b6 [.int .i64 0, .int .i64 0, .int .i64 0, .slice none 0 0] 32 :: obC b1 [.int .i64 0, .int .i64 0, .int .i64 0, .slice none 0 0] 32 :: []) := hH9
  refine V_to (fun _ _ => rfl) ?_
  refine C_seq ?_
  refine C_region ?_
  refine V_y (Y_move rfl) rfl rfl rfl ?_
  obtain ⟨x11, hx11, hm⟩ := Option.bind_eq_some_iff.1 hm
  refine V_call Tryz.call46 rfl rfl rfl rfl (strings_Split_c (Dw := False) w7 hA (Fz.tr (Dw := False) hT hK) line (⟨#[32]⟩ : ByteArray) hx11) ?_
  rintro v12 w14 ⟨_, rfl, h13, hk15⟩
  have ht16 := Kp.tr (Dw := False) hk15 hA hB
  replace hH := Hp.kp (Dw := False) hH hk15
  replace hK := Tr.trans (Dw := False) hK ht16
  replace hB := Nat.le_trans hB ht16.ex.size
  replace hA := ht16.new
  refine V_y (Y_assign rfl) rfl rfl rfl ?_
  refine V_to (fun _ _ => rfl) ?_
  refine C_seq ?_
  refine C_seq ?_
  refine C_region ?_
  refine V_y (Y_move rfl) rfl rfl rfl ?_
  refine V_y (Y_lenSl h13 rfl Tryz.underlying36 rfl) rfl rfl rfl ?_
  refine V_y (Y_lss rfl rfl) rfl rfl rfl ?_
  refine V_y (Y_move rfl) rfl rfl rfl ?_
  refine V_cut 5 (fun _ : Unit => [(2, .pointer (some ⟨b1, 0, none⟩)), (4, .pointer (some ⟨b6, 0, none⟩)), (5, v12), (23, .bool ((decide ((x11.length : Int) < 4)) || ((Int.tmod (x11.length : Int) 2) != 0)))]) (fun _ w' => w14 = w') ?_ ?_
  · simp only [List.take, List.drop]
    rcases Bool.eq_false_or_eq_true (decide ((x11.length : Int) < 4)) with hc17 | hc17
    · refine V_gn rfl rfl rfl hc17 rfl rfl rfl ?_
      refine V_gn rfl rfl rfl hc17 rfl rfl rfl ?_
      refine V_gn rfl rfl rfl hc17 rfl rfl rfl ?_
      refine V_gn rfl rfl rfl hc17 rfl rfl rfl ?_
      refine V_y (Y_pick_te rfl hc17 rfl) rfl rfl rfl ?_
      exact V_end fun a ha => ⟨(), ha.sub ⟨rfl, rfl, rfl, (by rw [hc17]; rfl), trivial⟩, rfl⟩
    · refine V_ge rfl rfl rfl hc17 ?_
      refine V_y (Y_move rfl) rfl rfl rfl ?_
      refine V_ge rfl rfl rfl hc17 ?_
      refine V_y (Y_lenSl h13 rfl Tryz.underlying36 rfl) rfl rfl rfl ?_
      refine V_ge rfl rfl rfl hc17 ?_
      refine V_y (Y_rem (by rw [rem, if_neg (by decide)]) rfl rfl) rfl rfl rfl ?_
      refine V_ge rfl rfl rfl hc17 ?_
      refine V_y (Y_neq rfl rfl) rfl rfl rfl ?_
      refine V_y (Y_pick_fe rfl hc17 rfl) rfl rfl rfl ?_
      exact V_end fun a ha => ⟨(), ha.sub ⟨rfl, rfl, rfl, (by rw [hc17]; rfl), trivial⟩, rfl⟩
  simp only [List.take, List.drop]
  rintro _ _ rfl
  refine V_y (Y_move rfl) rfl rfl rfl ?_
  obtain ⟨s20, hs20, hm⟩ := Option.bind_eq_some_iff.1 hm
  refine V_cut 5 (fun _ : Unit => [(2, .pointer (some ⟨b1, 0, none⟩)), (4, .pointer (some ⟨b6, 0, none⟩)), (5, v12), (29, .bool s20)]) (fun _ w' => w14 = w') ?_ ?_
  · simp only [List.take, List.drop]
    rcases Bool.eq_false_or_eq_true (((decide ((x11.length : Int) < 4)) || ((Int.tmod (x11.length : Int) 2) != 0))) with hc19 | hc19
    · rw [if_pos hc19] at hs20
      refine V_gn rfl rfl rfl hc19 rfl rfl rfl ?_
      refine V_gn rfl rfl rfl hc19 rfl rfl rfl ?_
      refine V_gn rfl rfl rfl hc19 rfl rfl rfl ?_
      refine V_gn rfl rfl rfl hc19 rfl rfl rfl ?_
      refine V_y (Y_pick_te rfl hc19 rfl) rfl rfl rfl ?_
      obtain rfl := Option.some.inj hs20
      exact V_end fun a ha => ⟨(), ha.sub ⟨rfl, rfl, rfl, rfl, trivial⟩, rfl⟩
    · rw [if_neg (nt hc19)] at hs20
      refine V_ge rfl rfl rfl hc19 ?_
      refine V_y (Y_move rfl) rfl rfl rfl ?_
      refine V_ge rfl rfl rfl hc19 ?_
      obtain ⟨x21, hx21, hs20⟩ := Option.bind_eq_some_iff.1 hs20
      refine V_indexAddr h13 hx21 Tryz.underlying36 Tryz.sizeOf9 rfl rfl rfl ?_
      intro b22 o23 h24
      refine V_ge rfl rfl rfl hc19 ?_
      refine V_y (Y_load (El.str h24) Tryz.isAgg9 rfl) rfl rfl rfl ?_
      refine V_ge rfl rfl rfl hc19 ?_
      refine V_y (Y_sneq rfl rfl) rfl rfl rfl ?_
      refine V_y (Y_pick_fe rfl hc19 rfl) rfl rfl rfl ?_
      obtain rfl := Option.some.inj hs20
      exact V_end fun a ha => ⟨(), ha.sub ⟨rfl, rfl, rfl, rfl, trivial⟩, rfl⟩
  simp only [List.take, List.drop]
  rintro _ _ rfl
  refine V_to (fun _ _ => rfl) ?_
  refine C_cond rfl (fun hc25 => ?_) (fun hc25 => ?_)
  · rw [if_pos hc25] at hm
    refine C_seq ?_
    refine C_region ?_
    refine V_y (Y_loadA (Hp.part (off := 0) (n := 4) (ds := [.int .i64 0, .int .i64 0, .int .i64 0, .slice none 0 0]) hH (i := 0) rfl rfl) Tryz.isAgg32 Tryz.sizeOf32 rfl) rfl rfl rfl ?_
    refine V_storeC (Dw := False) (off := 0) (ds := [.int .i64 0, .int .i64 0, .int .i64 0, .slice none 0 0]) hH (i := 1) rfl Tryz.sizeOf32 rfl (Nat.le_of_ble_eq_true rfl) (by exact (List.forall_mem_cons.2 ⟨rfl, (List.forall_mem_cons.2 ⟨rfl, (List.forall_mem_cons.2 ⟨rfl, (List.forall_mem_cons.2 ⟨rfl, (fun _ h => nomatch h)⟩)⟩)⟩)⟩)) rfl hB hA rfl rfl ?_
    intro w26 hH27 ht28
    replace h13 := Sl.tr (Dw := False) h13 ht28
    replace hK := Tr.trans (Dw := False) hK ht28
    replace hB := Nat.le_trans hB ht28.ex.size
    replace hA := ht28.new
    replace hH : Hp w.heap.size A8 w26 (obC b6 [.int .i64 0, .int .i64 0, .int .i64 0, .slice none 0 0] 32 :: obC b1 [.int .i64 0, .int .i64 0, .int .i64 0, .slice none 0 0] 32 :: []) := hH27
    refine V_y (Y_assign rfl) rfl rfl rfl ?_
    refine V_to (fun _ _ => rfl) ?_
    obtain rfl := Option.some.inj hm
    refine C_ret ?_
    try simp only [↓inBlock_ret, ↓then_ret]
    exact retQ rfl (Res.l2 Tryz.results8 (RL.cell rfl (loadVar_agg (Hp.part (off := 0) (n := 4) (ds := [.int .i64 0, .int .i64 0, .int .i64 0, .slice none 0 0]) hH (i := 1) rfl rfl) Tryz.isAgg32 Tryz.sizeOf32)) (RL.tmp rfl)) ⟨.slice none 0 0, rfl, Sl.nil, hK.kp⟩
  · rw [if_neg (nt hc25)] at hm
    refine C_skip_to (fun _ _ => rfl) ?_
    refine C_seq ?_
    refine C_seq ?_
    refine C_region ?_
    refine V_y (Y_fieldAddrC (off2 := 0) Tryz.underlying32 rfl Tryz.sizeOf3 (by decide) rfl rfl) rfl rfl rfl ?_
    refine V_y (Y_fieldAddrC (off2 := 1) Tryz.underlying32 rfl Tryz.sizeOf3 (by decide) rfl rfl) rfl rfl rfl ?_
    refine V_y (Y_fieldAddrC (off2 := 2) Tryz.underlying32 rfl Tryz.sizeOf3 (by decide) rfl rfl) rfl rfl rfl ?_
    refine V_buildSlice (Dw := False) (cells := #[.pointer (some ⟨b6, 0, none⟩), .pointer (some ⟨b6, 1, none⟩), .pointer (some ⟨b6, 2, none⟩)]) (l := ([⟨.pointer (some ⟨b6, 0, none⟩), rfl⟩, ⟨.pointer (some ⟨b6, 1, none⟩), rfl⟩, ⟨.pointer (some ⟨b6, 2, none⟩), rfl⟩] : List Sv)) (len := 3) Tryz.underlying145 Tryz.sizeOf144 Tryz.zeroValue144 rfl (by kernel_rfl) (show (3 * 1 : Nat) ≠ 0 by decide) (show (3 * 1 : Nat) ≤ 2 ^ 24 by decide) hA ⟨[.pointer (some ⟨b6, 0, none⟩)], _, rfl, rfl, [.pointer (some ⟨b6, 1, none⟩)], _, rfl, rfl, [.pointer (some ⟨b6, 2, none⟩)], _, rfl, rfl, rfl⟩ rfl rfl ?_
    intro v29 w30 hk32 h31
    have ht33 := Kp.tr (Dw := False) hk32 hA hB
    replace hH := Hp.kp (Dw := False) hH hk32
    replace h13 := Sl.tr (Dw := False) h13 ht33
    replace hK := Tr.trans (Dw := False) hK ht33
    replace hB := Nat.le_trans hB ht33.ex.size
    replace hA := ht33.new
    refine V_y (Y_lenSl h31 rfl Tryz.underlying145 rfl) rfl rfl rfl ?_
    refine V_y (Y_move rfl) rfl rfl rfl ?_
    refine V_to (fun _ _ => rfl) ?_
    replace hH : Hp w.heap.size A8 w30 (obS (α := route_Skill) 102 (.slice none 0 0) ([] : (List route_Skill)) :: obC b6 [.int .i64 0, .int .i64 0, .int .i64 0, .slice none 0 0] 32 :: obC b1 [.int .i64 0, .int .i64 0, .int .i64 0, .slice none 0 0] 32 :: []) := Hp.addNil (α := route_Skill) (e := 102) hH
    have hn62 : ([(), (), ()] : List Unit).length ≤ maxLen := by decide
    obtain ⟨o34, ho34, hm⟩ := Option.bind_eq_some_iff.1 hm
    refine C_cutG (ι := ((route_Person × route_Person) × Value × Value × (Nat → Prop))) (fun ⟨s35, v41, v43, A45⟩ => [(2, .pointer (some ⟨b1, 0, none⟩)), (4, .pointer (some ⟨b6, 0, none⟩)), (5, v12)]) (fun ⟨s35, v41, v43, A45⟩ => fun w' => o34 = .fin s35 ∧ Sl A45 w' v43 s35.2.skills ∧ Hp w.heap.size A45 w' (obS (α := route_Skill) 102 v41 s35.1.skills :: obC b6 [.int .i64 s35.1.no, .int .i64 s35.1.capacity, .int .i64 s35.1.calendar, v41] 32 :: obC b1 [.int .i64 s35.2.no, .int .i64 s35.2.capacity, .int .i64 s35.2.calendar, v43] 32 :: []) ∧ Tr False w.heap.size A8 w30 A45 w') ?_ ?_
    · refine C_block ?_
      refine C_range ho34 (fun k37 s47 a w' => ∃ i : (Value × Value × (Nat → Prop)), Has ⟨94, [], none⟩ a ([(2, .pointer (some ⟨b1, 0, none⟩)), (4, .pointer (some ⟨b6, 0, none⟩)), (5, v12), (34, v29), (35, .int .i64 (([(), (), ()] : List Unit).length : Int)), (36, .int .i64 (k37 : Int))]) ∧ Sl i.2.2 w' i.2.1 s47.2.skills ∧ Hp w.heap.size i.2.2 w' (obS (α := route_Skill) 102 i.1 s47.1.skills :: obC b6 [.int .i64 s47.1.no, .int .i64 s47.1.capacity, .int .i64 s47.1.calendar, i.1] 32 :: obC b1 [.int .i64 s47.2.no, .int .i64 s47.2.capacity, .int .i64 s47.2.calendar, i.2.1] 32 :: []) ∧ Tr False w.heap.size A8 w30 i.2.2 w') (fun a ha => ⟨(.slice none 0 0, .slice none 0 0, A8), ha.sub ⟨rfl, rfl, rfl, rfl, rfl, rfl, trivial⟩, ⟨Sl.nil, hH, Tr.refl (Dw := False) hA⟩⟩) ?_
      rintro K k37 s47 a w48 ⟨⟨v49, v51, A53⟩, ha152, h52, hH54, hr36⟩ hle58 K61 h60
      refine C_of ?_ ha152
      replace h13 := Sl.tr (Dw := False) h13 hr36
      replace h31 := Sl.tr (Dw := False) h31 hr36
      replace hK := Tr.trans (Dw := False) hK hr36
      replace hB := Nat.le_trans hB hr36.ex.size
      replace hA := hr36.new
      replace hH : Hp w.heap.size A53 w48 (obS (α := route_Skill) 102 v49 s47.1.skills :: obC b6 [.int .i64 s47.1.no, .int .i64 s47.1.capacity, .int .i64 s47.1.calendar, v49] 32 :: obC b1 [.int .i64 s47.2.no, .int .i64 s47.2.capacity, .int .i64 s47.2.calendar, v51] 32 :: []) := hH54
      refine C_seq (C_region (V_y (Y_lss rfl rfl) rfl rfl rfl (V_to (fun _ _ => rfl) ?_)))
      refine C_seq ?_
      refine C_cond rfl (fun hc63 => ?_) (fun hc63 => ?_)
      · have hlt59 := lt_of_dec hc63
        obtain ⟨x55, h56, h57⟩ := K61 hlt59
        refine C_skip_to (fun _ _ => rfl) ?_
        refine C_seq ?_
        refine C_block ?_
        refine C_seq ?_
        refine C_region ?_
        refine V_y (Y_move rfl) rfl rfl rfl ?_
        rcases Bool.eq_false_or_eq_true (decide ((k37 : Int) = 0)) with hc64 | hc64
        · rw [if_pos hc64] at h56
          have hx65 : idx ([⟨.pointer (some ⟨b6, 0, none⟩), rfl⟩, ⟨.pointer (some ⟨b6, 1, none⟩), rfl⟩, ⟨.pointer (some ⟨b6, 2, none⟩), rfl⟩] : List Sv) (k37 : Int) = some ⟨.pointer (some ⟨b6, 0, none⟩), rfl⟩ := by rw [of_decide_eq_true hc64]; rfl
          refine V_indexAddr (α := Sv) h31 hx65 Tryz.underlying145 Tryz.sizeOf144 rfl rfl rfl ?_
          intro b66 o67 h68
          refine V_y (Y_load (El.sv h68) Tryz.isAgg144 rfl) rfl rfl rfl ?_
          refine V_y (Y_assign rfl) rfl rfl rfl ?_
          refine V_y (Y_assign rfl) rfl rfl rfl ?_
          refine V_to (fun _ _ => rfl) ?_
          refine C_seq ?_
          refine C_region ?_
          refine V_y (Y_move rfl) rfl rfl rfl ?_
          refine V_y (Y_move rfl) rfl rfl rfl ?_
          refine V_y (Y_addI rfl rfl) rfl rfl rfl ?_
          obtain ⟨x69, hx69, h56⟩ := Option.bind_eq_some_iff.1 h56
          refine V_indexAddr h13 hx69 Tryz.underlying36 Tryz.sizeOf9 rfl rfl rfl ?_
          intro b70 o71 h72
          refine V_y (Y_load (El.str h72) Tryz.isAgg9 rfl) rfl rfl rfl ?_
          obtain ⟨x73, hx73, h56⟩ := Option.bind_eq_some_iff.1 h56
          refine V_call Tryz.call47 rfl rfl rfl rfl (route_number_c w48 hA (Fz.tr (Dw := False) hT hK) x69 hx73) ?_
          rintro _ w74 ⟨rfl, hk75⟩
          have ht76 := Kp.tr (Dw := False) hk75 hA hB
          replace hH := Hp.kp (Dw := False) hH hk75
          replace h13 := Sl.tr (Dw := False) h13 ht76
          replace h31 := Sl.kp (Dw := False) h31 hk75
          replace h72 := El.tr (Dw := False) h72 ht76
          replace h52 := Sl.tr (Dw := False) h52 ht76
          replace hK := Tr.trans (Dw := False) hK ht76
          replace hr36 := Tr.trans (Dw := False) hr36 ht76
          replace hB := Nat.le_trans hB ht76.ex.size
          replace hA := ht76.new
          refine V_y (Y_move rfl) rfl rfl rfl ?_
          refine V_y (Y_extract rfl rfl) rfl rfl rfl ?_
          refine V_y (Y_extract rfl rfl) rfl rfl rfl ?_
          refine V_y (Y_assign rfl) rfl rfl rfl ?_
          refine V_y (Y_assign rfl) rfl rfl rfl ?_
          refine V_to (fun _ _ => rfl) ?_
          refine C_seq ?_
          refine C_seq ?_
          refine C_region ?_
          refine V_y (Y_move rfl) rfl rfl rfl ?_
          refine V_y (Y_not rfl) rfl rfl rfl ?_
          refine V_to (fun _ _ => rfl) ?_
          refine C_cond rfl (fun hc77 => ?_) (fun hc77 => ?_)
          · rw [if_pos hc77] at h56
            refine C_seq ?_
            refine C_region ?_
            refine V_y (Y_loadA (Hp.part (off := 0) (n := 4) (ds := [.int .i64 s47.1.no, .int .i64 s47.1.capacity, .int .i64 s47.1.calendar, v49]) hH (i := 1) rfl rfl) Tryz.isAgg32 Tryz.sizeOf32 rfl) rfl rfl rfl ?_
            obtain ⟨A78, ht79, h80, hH81⟩ := Hp.freeze (Dw := False) (α := route_Skill) (v := v49) (l := s47.1.skills) hH (i := 0) rfl hA
            replace h13 := Sl.tr (Dw := False) h13 ht79
            replace h31 := Sl.tr (Dw := False) h31 ht79
            replace h52 := Sl.tr (Dw := False) h52 ht79
            replace hK := Tr.trans (Dw := False) hK ht79
            replace hr36 := Tr.trans (Dw := False) hr36 ht79
            replace hB := Nat.le_trans hB ht79.ex.size
            replace hA := ht79.new
            replace hH : Hp w.heap.size A78 w74 (obC b6 [.int .i64 s47.1.no, .int .i64 s47.1.capacity, .int .i64 s47.1.calendar, v49] 32 :: obC b1 [.int .i64 s47.2.no, .int .i64 s47.2.capacity, .int .i64 s47.2.calendar, v51] 32 :: []) := hH81
            have h88 : (v49).oneCell' = true := by obtain ⟨_, _, e, _⟩ := Sl.form h80; rw [e]; rfl
            refine V_storeC (Dw := False) (off := 0) (ds := [.int .i64 s47.1.no, .int .i64 s47.1.capacity, .int .i64 s47.1.calendar, v49]) hH (i := 1) rfl Tryz.sizeOf32 rfl (Nat.le_of_ble_eq_true rfl) (by exact (List.forall_mem_cons.2 ⟨rfl, (List.forall_mem_cons.2 ⟨rfl, (List.forall_mem_cons.2 ⟨rfl, (List.forall_mem_cons.2 ⟨h88, (fun _ h => nomatch h)⟩)⟩)⟩)⟩)) rfl hB hA rfl rfl ?_
            intro w83 hH84 ht85
            replace h13 := Sl.tr (Dw := False) h13 ht85
            replace h31 := Sl.tr (Dw := False) h31 ht85
            replace h80 := Sl.tr (Dw := False) h80 ht85
            replace h52 := Sl.tr (Dw := False) h52 ht85
            replace hK := Tr.trans (Dw := False) hK ht85
            replace hr36 := Tr.trans (Dw := False) hr36 ht85
            replace hB := Nat.le_trans hB ht85.ex.size
            replace hA := ht85.new
            replace hH : Hp w.heap.size A78 w83 (obC b6 [.int .i64 s47.1.no, .int .i64 s47.1.capacity, .int .i64 s47.1.calendar, v49] 32 :: obC b1 [.int .i64 s47.1.no, .int .i64 s47.1.capacity, .int .i64 s47.1.calendar, v49] 32 :: []) := hH84
            refine V_y (Y_assign rfl) rfl rfl rfl ?_
            refine V_to (fun _ _ => rfl) ?_
            obtain rfl := Option.some.inj h56
            obtain rfl := (h57 : Lp.rt _ = _)
            rw [Lp.andThen_rt] at hm
            obtain rfl := Option.some.inj hm
            refine C_ret ?_
            try simp only [↓inBlock_ret, ↓then_ret]
            exact retQ rfl (Res.l2 Tryz.results8 (RL.cell rfl (loadVar_agg (Hp.part (off := 0) (n := 4) (ds := [.int .i64 s47.1.no, .int .i64 s47.1.capacity, .int .i64 s47.1.calendar, v49]) hH (i := 1) rfl rfl) Tryz.isAgg32 Tryz.sizeOf32)) (RL.tmp rfl)) ⟨v49, rfl, (Sl.out (Dw := False) h80 hA0 hK), hK.kp⟩
          · rw [if_neg (nt hc77)] at h56
            refine C_skip_to (fun _ _ => rfl) ?_
            refine C_region ?_
            refine V_y (Y_move rfl) rfl rfl rfl ?_
            refine V_y (Y_move rfl) rfl rfl rfl ?_
            refine V_y (Y_nilCheck rfl) rfl rfl rfl ?_
            refine V_storeC (Dw := False) (off := 0) (ds := [.int .i64 x73.1, .int .i64 s47.1.capacity, .int .i64 s47.1.calendar, v49]) hH (i := 1) rfl Tryz.sizeOf3 rfl (Nat.le_of_ble_eq_true rfl) (by simp [Value.cells, Value.oneCell']) rfl hB hA rfl rfl ?_
            intro w89 hH90 ht91
            replace h13 := Sl.tr (Dw := False) h13 ht91
            replace h31 := Sl.tr (Dw := False) h31 ht91
            replace h52 := Sl.tr (Dw := False) h52 ht91
            replace hK := Tr.trans (Dw := False) hK ht91
            replace hr36 := Tr.trans (Dw := False) hr36 ht91
            replace hB := Nat.le_trans hB ht91.ex.size
            replace hA := ht91.new
            replace hH : Hp w.heap.size A53 w89 (obS (α := route_Skill) 102 v49 s47.1.skills :: obC b6 [.int .i64 x73.1, .int .i64 s47.1.capacity, .int .i64 s47.1.calendar, v49] 32 :: obC b1 [.int .i64 s47.2.no, .int .i64 s47.2.capacity, .int .i64 s47.2.calendar, v51] 32 :: []) := hH90
            refine V_to (fun _ _ => rfl) ?_
            refine C_region ?_
            refine V_y (Y_addI rfl rfl) rfl rfl rfl ?_
            refine V_y (Y_move rfl) rfl rfl rfl ?_
            obtain rfl := Option.some.inj h56
            refine V_end (fun a ha92 => ?_)
            exact ⟨((⟨x73.1, s47.1.capacity, s47.1.calendar, s47.1.skills⟩ : route_Person), s47.2), hlt59, h57, ⟨(v49, v51, A53), ha92.sub ⟨rfl, rfl, rfl, rfl, rfl, (congrArg (fun z => some (Value.int .i64 z)) (w64_succ hlt59 hn62)), trivial⟩, ⟨h52, hH, hr36⟩⟩⟩
        · rw [if_neg (nt hc64)] at h56
          rcases Bool.eq_false_or_eq_true (decide ((k37 : Int) = 1)) with hc93 | hc93
          · rw [if_pos hc93] at h56
            have hx94 : idx ([⟨.pointer (some ⟨b6, 0, none⟩), rfl⟩, ⟨.pointer (some ⟨b6, 1, none⟩), rfl⟩, ⟨.pointer (some ⟨b6, 2, none⟩), rfl⟩] : List Sv) (k37 : Int) = some ⟨.pointer (some ⟨b6, 1, none⟩), rfl⟩ := by rw [of_decide_eq_true hc93]; rfl
            refine V_indexAddr (α := Sv) h31 hx94 Tryz.underlying145 Tryz.sizeOf144 rfl rfl rfl ?_
            intro b95 o96 h97
            refine V_y (Y_load (El.sv h97) Tryz.isAgg144 rfl) rfl rfl rfl ?_
            refine V_y (Y_assign rfl) rfl rfl rfl ?_
            refine V_y (Y_assign rfl) rfl rfl rfl ?_
            refine V_to (fun _ _ => rfl) ?_
            refine C_seq ?_
            refine C_region ?_
            refine V_y (Y_move rfl) rfl rfl rfl ?_
            refine V_y (Y_move rfl) rfl rfl rfl ?_
            refine V_y (Y_addI rfl rfl) rfl rfl rfl ?_
            obtain ⟨x98, hx98, h56⟩ := Option.bind_eq_some_iff.1 h56
            refine V_indexAddr h13 hx98 Tryz.underlying36 Tryz.sizeOf9 rfl rfl rfl ?_
            intro b99 o100 h101
            refine V_y (Y_load (El.str h101) Tryz.isAgg9 rfl) rfl rfl rfl ?_
            obtain ⟨x102, hx102, h56⟩ := Option.bind_eq_some_iff.1 h56
            refine V_call Tryz.call47 rfl rfl rfl rfl (route_number_c w48 hA (Fz.tr (Dw := False) hT hK) x98 hx102) ?_
            rintro _ w103 ⟨rfl, hk104⟩
            have ht105 := Kp.tr (Dw := False) hk104 hA hB
            replace hH := Hp.kp (Dw := False) hH hk104
            replace h13 := Sl.tr (Dw := False) h13 ht105
            replace h31 := Sl.kp (Dw := False) h31 hk104
            replace h101 := El.tr (Dw := False) h101 ht105
            replace h52 := Sl.tr (Dw := False) h52 ht105
            replace hK := Tr.trans (Dw := False) hK ht105
            replace hr36 := Tr.trans (Dw := False) hr36 ht105
            replace hB := Nat.le_trans hB ht105.ex.size
            replace hA := ht105.new
            refine V_y (Y_move rfl) rfl rfl rfl ?_
            refine V_y (Y_extract rfl rfl) rfl rfl rfl ?_
            refine V_y (Y_extract rfl rfl) rfl rfl rfl ?_
            refine V_y (Y_assign rfl) rfl rfl rfl ?_
            refine V_y (Y_assign rfl) rfl rfl rfl ?_
            refine V_to (fun _ _ => rfl) ?_
            refine C_seq ?_
            refine C_seq ?_
            refine C_region ?_
            refine V_y (Y_move rfl) rfl rfl rfl ?_
            refine V_y (Y_not rfl) rfl rfl rfl ?_
            refine V_to (fun _ _ => rfl) ?_
            refine C_cond rfl (fun hc106 => ?_) (fun hc106 => ?_)
            · rw [if_pos hc106] at h56
              refine C_seq ?_
              refine C_region ?_
              refine V_y (Y_loadA (Hp.part (off := 0) (n := 4) (ds := [.int .i64 s47.1.no, .int .i64 s47.1.capacity, .int .i64 s47.1.calendar, v49]) hH (i := 1) rfl rfl) Tryz.isAgg32 Tryz.sizeOf32 rfl) rfl rfl rfl ?_
              obtain ⟨A107, ht108, h109, hH110⟩ := Hp.freeze (Dw := False) (α := route_Skill) (v := v49) (l := s47.1.skills) hH (i := 0) rfl hA
              replace h13 := Sl.tr (Dw := False) h13 ht108
              replace h31 := Sl.tr (Dw := False) h31 ht108
              replace h52 := Sl.tr (Dw := False) h52 ht108
              replace hK := Tr.trans (Dw := False) hK ht108
              replace hr36 := Tr.trans (Dw := False) hr36 ht108
              replace hB := Nat.le_trans hB ht108.ex.size
              replace hA := ht108.new
              replace hH : Hp w.heap.size A107 w103 (obC b6 [.int .i64 s47.1.no, .int .i64 s47.1.capacity, .int .i64 s47.1.calendar, v49] 32 :: obC b1 [.int .i64 s47.2.no, .int .i64 s47.2.capacity, .int .i64 s47.2.calendar, v51] 32 :: []) := hH110
              have h117 : (v49).oneCell' = true := by obtain ⟨_, _, e, _⟩ := Sl.form h109; rw [e]; rfl
              refine V_storeC (Dw := False) (off := 0) (ds := [.int .i64 s47.1.no, .int .i64 s47.1.capacity, .int .i64 s47.1.calendar, v49]) hH (i := 1) rfl Tryz.sizeOf32 rfl (Nat.le_of_ble_eq_true rfl) (by exact (List.forall_mem_cons.2 ⟨rfl, (List.forall_mem_cons.2 ⟨rfl, (List.forall_mem_cons.2 ⟨rfl, (List.forall_mem_cons.2 ⟨h117, (fun _ h => nomatch h)⟩)⟩)⟩)⟩)) rfl hB hA rfl rfl ?_
              intro w112 hH113 ht114
              replace h13 := Sl.tr (Dw := False) h13 ht114
              replace h31 := Sl.tr (Dw := False) h31 ht114
              replace h109 := Sl.tr (Dw := False) h109 ht114
              replace h52 := Sl.tr (Dw := False) h52 ht114
              replace hK := Tr.trans (Dw := False) hK ht114
              replace hr36 := Tr.trans (Dw := False) hr36 ht114
              replace hB := Nat.le_trans hB ht114.ex.size
              replace hA := ht114.new
              replace hH : Hp w.heap.size A107 w112 (obC b6 [.int .i64 s47.1.no, .int .i64 s47.1.capacity, .int .i64 s47.1.calendar, v49] 32 :: obC b1 [.int .i64 s47.1.no, .int .i64 s47.1.capacity, .int .i64 s47.1.calendar, v49] 32 :: []) := hH113
              refine V_y (Y_assign rfl) rfl rfl rfl ?_
              refine V_to (fun _ _ => rfl) ?_
              obtain rfl := Option.some.inj h56
              obtain rfl := (h57 : Lp.rt _ = _)
              rw [Lp.andThen_rt] at hm
              obtain rfl := Option.some.inj hm
              refine C_ret ?_
              try simp only [↓inBlock_ret, ↓then_ret]
              exact retQ rfl (Res.l2 Tryz.results8 (RL.cell rfl (loadVar_agg (Hp.part (off := 0) (n := 4) (ds := [.int .i64 s47.1.no, .int .i64 s47.1.capacity, .int .i64 s47.1.calendar, v49]) hH (i := 1) rfl rfl) Tryz.isAgg32 Tryz.sizeOf32)) (RL.tmp rfl)) ⟨v49, rfl, (Sl.out (Dw := False) h109 hA0 hK), hK.kp⟩
            · rw [if_neg (nt hc106)] at h56
              refine C_skip_to (fun _ _ => rfl) ?_
              refine C_region ?_
              refine V_y (Y_move rfl) rfl rfl rfl ?_
              refine V_y (Y_move rfl) rfl rfl rfl ?_
              refine V_y (Y_nilCheck rfl) rfl rfl rfl ?_
              refine V_storeC (Dw := False) (off := 1) (ds := [.int .i64 s47.1.no, .int .i64 x102.1, .int .i64 s47.1.calendar, v49]) hH (i := 1) rfl Tryz.sizeOf3 rfl (Nat.le_of_ble_eq_true rfl) (by simp [Value.cells, Value.oneCell']) rfl hB hA rfl rfl ?_
              intro w118 hH119 ht120
              replace h13 := Sl.tr (Dw := False) h13 ht120
              replace h31 := Sl.tr (Dw := False) h31 ht120
              replace h52 := Sl.tr (Dw := False) h52 ht120
              replace hK := Tr.trans (Dw := False) hK ht120
              replace hr36 := Tr.trans (Dw := False) hr36 ht120
              replace hB := Nat.le_trans hB ht120.ex.size
              replace hA := ht120.new
              replace hH : Hp w.heap.size A53 w118 (obS (α := route_Skill) 102 v49 s47.1.skills :: obC b6 [.int .i64 s47.1.no, .int .i64 x102.1, .int .i64 s47.1.calendar, v49] 32 :: obC b1 [.int .i64 s47.2.no, .int .i64 s47.2.capacity, .int .i64 s47.2.calendar, v51] 32 :: []) := hH119
              refine V_to (fun _ _ => rfl) ?_
              refine C_region ?_
              refine V_y (Y_addI rfl rfl) rfl rfl rfl ?_
              refine V_y (Y_move rfl) rfl rfl rfl ?_
              obtain rfl := Option.some.inj h56
              refine V_end (fun a ha121 => ?_)
              exact ⟨((⟨s47.1.no, x102.1, s47.1.calendar, s47.1.skills⟩ : route_Person), s47.2), hlt59, h57, ⟨(v49, v51, A53), ha121.sub ⟨rfl, rfl, rfl, rfl, rfl, (congrArg (fun z => some (Value.int .i64 z)) (w64_succ hlt59 hn62)), trivial⟩, ⟨h52, hH, hr36⟩⟩⟩
          · rw [if_neg (nt hc93)] at h56
            have h126 : (k37 : Int) = 2 := by have h3 : k37 < 3 := hlt59; have h3a := of_decide_eq_false hc64; have h3b := of_decide_eq_false hc93; omega
            have hx122 : idx ([⟨.pointer (some ⟨b6, 0, none⟩), rfl⟩, ⟨.pointer (some ⟨b6, 1, none⟩), rfl⟩, ⟨.pointer (some ⟨b6, 2, none⟩), rfl⟩] : List Sv) (k37 : Int) = some ⟨.pointer (some ⟨b6, 2, none⟩), rfl⟩ := by rw [h126]; rfl
            refine V_indexAddr (α := Sv) h31 hx122 Tryz.underlying145 Tryz.sizeOf144 rfl rfl rfl ?_
            intro b123 o124 h125
            refine V_y (Y_load (El.sv h125) Tryz.isAgg144 rfl) rfl rfl rfl ?_
            refine V_y (Y_assign rfl) rfl rfl rfl ?_
            refine V_y (Y_assign rfl) rfl rfl rfl ?_
            refine V_to (fun _ _ => rfl) ?_
            refine C_seq ?_
            refine C_region ?_
            refine V_y (Y_move rfl) rfl rfl rfl ?_
            refine V_y (Y_move rfl) rfl rfl rfl ?_
            refine V_y (Y_addI rfl rfl) rfl rfl rfl ?_
            obtain ⟨x127, hx127, h56⟩ := Option.bind_eq_some_iff.1 h56
            refine V_indexAddr h13 hx127 Tryz.underlying36 Tryz.sizeOf9 rfl rfl rfl ?_
            intro b128 o129 h130
            refine V_y (Y_load (El.str h130) Tryz.isAgg9 rfl) rfl rfl rfl ?_
            obtain ⟨x131, hx131, h56⟩ := Option.bind_eq_some_iff.1 h56
            refine V_call Tryz.call47 rfl rfl rfl rfl (route_number_c w48 hA (Fz.tr (Dw := False) hT hK) x127 hx131) ?_
            rintro _ w132 ⟨rfl, hk133⟩
            have ht134 := Kp.tr (Dw := False) hk133 hA hB
            replace hH := Hp.kp (Dw := False) hH hk133
            replace h13 := Sl.tr (Dw := False) h13 ht134
            replace h31 := Sl.kp (Dw := False) h31 hk133
            replace h130 := El.tr (Dw := False) h130 ht134
            replace h52 := Sl.tr (Dw := False) h52 ht134
            replace hK := Tr.trans (Dw := False) hK ht134
            replace hr36 := Tr.trans (Dw := False) hr36 ht134
            replace hB := Nat.le_trans hB ht134.ex.size
            replace hA := ht134.new
            refine V_y (Y_move rfl) rfl rfl rfl ?_
            refine V_y (Y_extract rfl rfl) rfl rfl rfl ?_
            refine V_y (Y_extract rfl rfl) rfl rfl rfl ?_
            refine V_y (Y_assign rfl) rfl rfl rfl ?_
            refine V_y (Y_assign rfl) rfl rfl rfl ?_
            refine V_to (fun _ _ => rfl) ?_
            refine C_seq ?_
            refine C_seq ?_
            refine C_region ?_
            refine V_y (Y_move rfl) rfl rfl rfl ?_
            refine V_y (Y_not rfl) rfl rfl rfl ?_
            refine V_to (fun _ _ => rfl) ?_
            refine C_cond rfl (fun hc135 => ?_) (fun hc135 => ?_)
            · rw [if_pos hc135] at h56
              refine C_seq ?_
              refine C_region ?_
              refine V_y (Y_loadA (Hp.part (off := 0) (n := 4) (ds := [.int .i64 s47.1.no, .int .i64 s47.1.capacity, .int .i64 s47.1.calendar, v49]) hH (i := 1) rfl rfl) Tryz.isAgg32 Tryz.sizeOf32 rfl) rfl rfl rfl ?_
              obtain ⟨A136, ht137, h138, hH139⟩ := Hp.freeze (Dw := False) (α := route_Skill) (v := v49) (l := s47.1.skills) hH (i := 0) rfl hA
              replace h13 := Sl.tr (Dw := False) h13 ht137
              replace h31 := Sl.tr (Dw := False) h31 ht137
              replace h52 := Sl.tr (Dw := False) h52 ht137
              replace hK := Tr.trans (Dw := False) hK ht137
              replace hr36 := Tr.trans (Dw := False) hr36 ht137
              replace hB := Nat.le_trans hB ht137.ex.size
              replace hA := ht137.new
              replace hH : Hp w.heap.size A136 w132 (obC b6 [.int .i64 s47.1.no, .int .i64 s47.1.capacity, .int .i64 s47.1.calendar, v49] 32 :: obC b1 [.int .i64 s47.2.no, .int .i64 s47.2.capacity, .int .i64 s47.2.calendar, v51] 32 :: []) := hH139
              have h146 : (v49).oneCell' = true := by obtain ⟨_, _, e, _⟩ := Sl.form h138; rw [e]; rfl
              refine V_storeC (Dw := False) (off := 0) (ds := [.int .i64 s47.1.no, .int .i64 s47.1.capacity, .int .i64 s47.1.calendar, v49]) hH (i := 1) rfl Tryz.sizeOf32 rfl (Nat.le_of_ble_eq_true rfl) (by exact (List.forall_mem_cons.2 ⟨rfl, (List.forall_mem_cons.2 ⟨rfl, (List.forall_mem_cons.2 ⟨rfl, (List.forall_mem_cons.2 ⟨h146, (fun _ h => nomatch h)⟩)⟩)⟩)⟩)) rfl hB hA rfl rfl ?_
              intro w141 hH142 ht143
              replace h13 := Sl.tr (Dw := False) h13 ht143
              replace h31 := Sl.tr (Dw := False) h31 ht143
              replace h138 := Sl.tr (Dw := False) h138 ht143
              replace h52 := Sl.tr (Dw := False) h52 ht143
              replace hK := Tr.trans (Dw := False) hK ht143
              replace hr36 := Tr.trans (Dw := False) hr36 ht143
              replace hB := Nat.le_trans hB ht143.ex.size
              replace hA := ht143.new
              replace hH : Hp w.heap.size A136 w141 (obC b6 [.int .i64 s47.1.no, .int .i64 s47.1.capacity, .int .i64 s47.1.calendar, v49] 32 :: obC b1 [.int .i64 s47.1.no, .int .i64 s47.1.capacity, .int .i64 s47.1.calendar, v49] 32 :: []) := hH142
              refine V_y (Y_assign rfl) rfl rfl rfl ?_
              refine V_to (fun _ _ => rfl) ?_
              obtain rfl := Option.some.inj h56
              obtain rfl := (h57 : Lp.rt _ = _)
              rw [Lp.andThen_rt] at hm
              obtain rfl := Option.some.inj hm
              refine C_ret ?_
              try simp only [↓inBlock_ret, ↓then_ret]
              exact retQ rfl (Res.l2 Tryz.results8 (RL.cell rfl (loadVar_agg (Hp.part (off := 0) (n := 4) (ds := [.int .i64 s47.1.no, .int .i64 s47.1.capacity, .int .i64 s47.1.calendar, v49]) hH (i := 1) rfl rfl) Tryz.isAgg32 Tryz.sizeOf32)) (RL.tmp rfl)) ⟨v49, rfl, (Sl.out (Dw := False) h138 hA0 hK), hK.kp⟩
            · rw [if_neg (nt hc135)] at h56
              refine C_skip_to (fun _ _ => rfl) ?_
              refine C_region ?_
              refine V_y (Y_move rfl) rfl rfl rfl ?_
              refine V_y (Y_move rfl) rfl rfl rfl ?_
              refine V_y (Y_nilCheck rfl) rfl rfl rfl ?_
              refine V_storeC (Dw := False) (off := 2) (ds := [.int .i64 s47.1.no, .int .i64 s47.1.capacity, .int .i64 x131.1, v49]) hH (i := 1) rfl Tryz.sizeOf3 rfl (Nat.le_of_ble_eq_true rfl) (by simp [Value.cells, Value.oneCell']) rfl hB hA rfl rfl ?_
              intro w147 hH148 ht149
              replace h13 := Sl.tr (Dw := False) h13 ht149
              replace h31 := Sl.tr (Dw := False) h31 ht149
              replace h52 := Sl.tr (Dw := False) h52 ht149
              replace hK := Tr.trans (Dw := False) hK ht149
              replace hr36 := Tr.trans (Dw := False) hr36 ht149
              replace hB := Nat.le_trans hB ht149.ex.size
              replace hA := ht149.new
              replace hH : Hp w.heap.size A53 w147 (obS (α := route_Skill) 102 v49 s47.1.skills :: obC b6 [.int .i64 s47.1.no, .int .i64 s47.1.capacity, .int .i64 x131.1, v49] 32 :: obC b1 [.int .i64 s47.2.no, .int .i64 s47.2.capacity, .int .i64 s47.2.calendar, v51] 32 :: []) := hH148
              refine V_to (fun _ _ => rfl) ?_
              refine C_region ?_
              refine V_y (Y_addI rfl rfl) rfl rfl rfl ?_
              refine V_y (Y_move rfl) rfl rfl rfl ?_
              obtain rfl := Option.some.inj h56
              refine V_end (fun a ha150 => ?_)
              exact ⟨((⟨s47.1.no, s47.1.capacity, x131.1, s47.1.skills⟩ : route_Person), s47.2), hlt59, h57, ⟨(v49, v51, A53), ha150.sub ⟨rfl, rfl, rfl, rfl, rfl, (congrArg (fun z => some (Value.int .i64 z)) (w64_succ hlt59 hn62)), trivial⟩, ⟨h52, hH, hr36⟩⟩⟩
      · refine C_exit (fun a ha151 => ?_)
        exact ⟨((s47.1, s47.2), v49, v51, A53), ha151.sub ⟨rfl, rfl, rfl, trivial⟩, ⟨(h60 (eq_of_dec hle58 hc63)).symm, h52, hH, hr36⟩⟩
    rintro ⟨s35, v41, v43, A45⟩ w38 ⟨rfl, h44, hH46, hk39⟩ a ha40
    rw [Lp.andThen_fin] at hm
    replace h13 := Sl.tr (Dw := False) h13 hk39
    replace hK := Tr.trans (Dw := False) hK hk39
    replace hB := Nat.le_trans hB hk39.ex.size
    replace hA := hk39.new
    replace hH : Hp w.heap.size A45 w38 (obS (α := route_Skill) 102 v41 s35.1.skills :: obC b6 [.int .i64 s35.1.no, .int .i64 s35.1.capacity, .int .i64 s35.1.calendar, v41] 32 :: obC b1 [.int .i64 s35.2.no, .int .i64 s35.2.capacity, .int .i64 s35.2.calendar, v43] 32 :: []) := hH46
    refine C_at (n := ⟨94, [], none⟩) (fun _ _ => rfl) ?_ ha40
    refine C_seq ?_
    refine C_seq ?_
    refine C_region ?_
    refine V_y (Y_assign rfl) rfl rfl rfl ?_
    refine V_to (fun _ _ => rfl) ?_
    obtain ⟨o153, ho153, hm⟩ := Option.bind_eq_some_iff.1 hm
    refine C_cutG (ι := ((Int × route_Person × route_Person) × Value × Value × (Nat → Prop))) (fun ⟨s154, v160, v162, A164⟩ => [(2, .pointer (some ⟨b1, 0, none⟩)), (4, .pointer (some ⟨b6, 0, none⟩))]) (fun ⟨s154, v160, v162, A164⟩ => fun w' => o153 = .fin s154 ∧ Sl A164 w' v162 s154.2.2.skills ∧ Hp w.heap.size A164 w' (obS (α := route_Skill) 102 v160 s154.2.1.skills :: obC b6 [.int .i64 s154.2.1.no, .int .i64 s154.2.1.capacity, .int .i64 s154.2.1.calendar, v160] 32 :: obC b1 [.int .i64 s154.2.2.no, .int .i64 s154.2.2.capacity, .int .i64 s154.2.2.calendar, v162] 32 :: []) ∧ Tr False w.heap.size A45 w38 A164 w') ?_ ?_
    · refine C_block ?_
      refine C_while ho153 (fun s166 a w' => ∃ i : (Value × Value × (Nat → Prop)), Has ⟨94, [], none⟩ a ([(2, .pointer (some ⟨b1, 0, none⟩)), (4, .pointer (some ⟨b6, 0, none⟩)), (5, v12), (10, .int .i64 s166.1)]) ∧ Sl i.2.2 w' i.2.1 s166.2.2.skills ∧ Hp w.heap.size i.2.2 w' (obS (α := route_Skill) 102 i.1 s166.2.1.skills :: obC b6 [.int .i64 s166.2.1.no, .int .i64 s166.2.1.capacity, .int .i64 s166.2.1.calendar, i.1] 32 :: obC b1 [.int .i64 s166.2.2.no, .int .i64 s166.2.2.capacity, .int .i64 s166.2.2.calendar, i.2.1] 32 :: []) ∧ Tr False w.heap.size A45 w38 i.2.2 w') (fun a ha => ⟨(v41, v43, A45), ha.sub ⟨rfl, rfl, rfl, rfl, trivial⟩, ⟨h44, hH, Tr.refl (Dw := False) hA⟩⟩) ?_
      rintro K s166 a w167 ⟨⟨v168, v170, A172⟩, ha234, h171, hH173, hr155⟩ K180
      refine C_of ?_ ha234
      replace h13 := Sl.tr (Dw := False) h13 hr155
      replace hK := Tr.trans (Dw := False) hK hr155
      replace hB := Nat.le_trans hB hr155.ex.size
      replace hA := hr155.new
      replace hH : Hp w.heap.size A172 w167 (obS (α := route_Skill) 102 v168 s166.2.1.skills :: obC b6 [.int .i64 s166.2.1.no, .int .i64 s166.2.1.capacity, .int .i64 s166.2.1.calendar, v168] 32 :: obC b1 [.int .i64 s166.2.2.no, .int .i64 s166.2.2.capacity, .int .i64 s166.2.2.calendar, v170] 32 :: []) := hH173
      obtain ⟨x174, h175, h176⟩ := K180
      refine C_seq ?_
      refine C_seq ?_
      refine C_region ?_
      refine V_y (Y_move rfl) rfl rfl rfl ?_
      refine V_y (Y_move rfl) rfl rfl rfl ?_
      refine V_y (Y_lenSl h13 rfl Tryz.underlying36 rfl) rfl rfl rfl ?_
      refine V_y (Y_lss rfl rfl) rfl rfl rfl ?_
      refine V_to (fun _ _ => rfl) ?_
      refine C_cond rfl (fun hc181 => ?_) (fun hc181 => ?_)
      · rw [if_pos hc181] at h175
        refine C_skip_to (fun _ _ => rfl) ?_
        refine C_seq ?_
        refine C_block ?_
        refine C_seq ?_
        refine C_region ?_
        refine V_y (Y_move rfl) rfl rfl rfl ?_
        refine V_y (Y_move rfl) rfl rfl rfl ?_
        refine V_y (Y_addI rfl rfl) rfl rfl rfl ?_
        obtain ⟨x182, hx182, h175⟩ := Option.bind_eq_some_iff.1 h175
        refine V_indexAddr h13 hx182 Tryz.underlying36 Tryz.sizeOf9 rfl rfl rfl ?_
        intro b183 o184 h185
        refine V_y (Y_load (El.str h185) Tryz.isAgg9 rfl) rfl rfl rfl ?_
        obtain ⟨x186, hx186, h175⟩ := Option.bind_eq_some_iff.1 h175
        refine V_call Tryz.call47 rfl rfl rfl rfl (route_number_c w167 hA (Fz.tr (Dw := False) hT hK) x182 hx186) ?_
        rintro _ w187 ⟨rfl, hk188⟩
        have ht189 := Kp.tr (Dw := False) hk188 hA hB
        replace hH := Hp.kp (Dw := False) hH hk188
        replace h13 := Sl.tr (Dw := False) h13 ht189
        replace h185 := El.tr (Dw := False) h185 ht189
        replace h171 := Sl.tr (Dw := False) h171 ht189
        replace hK := Tr.trans (Dw := False) hK ht189
        replace hr155 := Tr.trans (Dw := False) hr155 ht189
        replace hB := Nat.le_trans hB ht189.ex.size
        replace hA := ht189.new
        refine V_y (Y_move rfl) rfl rfl rfl ?_
        refine V_y (Y_extract rfl rfl) rfl rfl rfl ?_
        refine V_y (Y_extract rfl rfl) rfl rfl rfl ?_
        refine V_y (Y_assign rfl) rfl rfl rfl ?_
        refine V_y (Y_assign rfl) rfl rfl rfl ?_
        refine V_to (fun _ _ => rfl) ?_
        refine C_seq ?_
        refine C_seq ?_
        refine C_region ?_
        refine V_y (Y_move rfl) rfl rfl rfl ?_
        refine V_y (Y_not rfl) rfl rfl rfl ?_
        refine V_y (Y_move rfl) rfl rfl rfl ?_
        obtain ⟨s191, hs191, h175⟩ := Option.bind_eq_some_iff.1 h175
        refine V_cut 6 (fun _ : Unit => [(2, .pointer (some ⟨b1, 0, none⟩)), (4, .pointer (some ⟨b6, 0, none⟩)), (5, v12), (10, .int .i64 s166.1), (11, .int .i64 x186.1), (80, .bool s191)]) (fun _ w' => w187 = w') ?_ ?_
        · simp only [List.take, List.drop]
          rcases Bool.eq_false_or_eq_true (!x186.2) with hc190 | hc190
          · rw [if_pos hc190] at hs191
            refine V_gn rfl rfl rfl hc190 rfl rfl rfl ?_
            refine V_gn rfl rfl rfl hc190 rfl rfl rfl ?_
            refine V_gn rfl rfl rfl hc190 rfl rfl rfl ?_
            refine V_gn rfl rfl rfl hc190 rfl rfl rfl ?_
            refine V_gn rfl rfl rfl hc190 rfl rfl rfl ?_
            refine V_y (Y_pick_te rfl hc190 rfl) rfl rfl rfl ?_
            obtain rfl := Option.some.inj hs191
            exact V_end fun a ha => ⟨(), ha.sub ⟨rfl, rfl, rfl, rfl, rfl, rfl, trivial⟩, rfl⟩
          · rw [if_neg (nt hc190)] at hs191
            refine V_ge rfl rfl rfl hc190 ?_
            refine V_y (Y_move rfl) rfl rfl rfl ?_
            refine V_ge rfl rfl rfl hc190 ?_
            refine V_y (Y_move rfl) rfl rfl rfl ?_
            refine V_ge rfl rfl rfl hc190 ?_
            obtain ⟨x192, hx192, hs191⟩ := Option.bind_eq_some_iff.1 hs191
            refine V_indexAddr h13 hx192 Tryz.underlying36 Tryz.sizeOf9 rfl rfl rfl ?_
            intro b193 o194 h195
            refine V_ge rfl rfl rfl hc190 ?_
            refine V_y (Y_load (El.str h195) Tryz.isAgg9 rfl) rfl rfl rfl ?_
            refine V_ge rfl rfl rfl hc190 ?_
            refine V_y (Y_seql rfl rfl) rfl rfl rfl ?_
            refine V_y (Y_pick_fe rfl hc190 rfl) rfl rfl rfl ?_
            obtain rfl := Option.some.inj hs191
            exact V_end fun a ha => ⟨(), ha.sub ⟨rfl, rfl, rfl, rfl, rfl, rfl, trivial⟩, rfl⟩
        simp only [List.take, List.drop]
        rintro _ _ rfl
        refine V_to (fun _ _ => rfl) ?_
        refine C_cond rfl (fun hc196 => ?_) (fun hc196 => ?_)
        · rw [if_pos hc196] at h175
          refine C_seq ?_
          refine C_region ?_
          refine V_y (Y_loadA (Hp.part (off := 0) (n := 4) (ds := [.int .i64 s166.2.1.no, .int .i64 s166.2.1.capacity, .int .i64 s166.2.1.calendar, v168]) hH (i := 1) rfl rfl) Tryz.isAgg32 Tryz.sizeOf32 rfl) rfl rfl rfl ?_
          obtain ⟨A197, ht198, h199, hH200⟩ := Hp.freeze (Dw := False) (α := route_Skill) (v := v168) (l := s166.2.1.skills) hH (i := 0) rfl hA
          replace h13 := Sl.tr (Dw := False) h13 ht198
          replace h171 := Sl.tr (Dw := False) h171 ht198
          replace hK := Tr.trans (Dw := False) hK ht198
          replace hr155 := Tr.trans (Dw := False) hr155 ht198
          replace hB := Nat.le_trans hB ht198.ex.size
          replace hA := ht198.new
          replace hH : Hp w.heap.size A197 w187 (obC b6 [.int .i64 s166.2.1.no, .int .i64 s166.2.1.capacity, .int .i64 s166.2.1.calendar, v168] 32 :: obC b1 [.int .i64 s166.2.2.no, .int .i64 s166.2.2.capacity, .int .i64 s166.2.2.calendar, v170] 32 :: []) := hH200
          have h207 : (v168).oneCell' = true := by obtain ⟨_, _, e, _⟩ := Sl.form h199; rw [e]; rfl
          refine V_storeC (Dw := False) (off := 0) (ds := [.int .i64 s166.2.1.no, .int .i64 s166.2.1.capacity, .int .i64 s166.2.1.calendar, v168]) hH (i := 1) rfl Tryz.sizeOf32 rfl (Nat.le_of_ble_eq_true rfl) (by exact (List.forall_mem_cons.2 ⟨rfl, (List.forall_mem_cons.2 ⟨rfl, (List.forall_mem_cons.2 ⟨rfl, (List.forall_mem_cons.2 ⟨h207, (fun _ h => nomatch h)⟩)⟩)⟩)⟩)) rfl hB hA rfl rfl ?_
          intro w202 hH203 ht204
          replace h13 := Sl.tr (Dw := False) h13 ht204
          replace h199 := Sl.tr (Dw := False) h199 ht204
          replace h171 := Sl.tr (Dw := False) h171 ht204
          replace hK := Tr.trans (Dw := False) hK ht204
          replace hr155 := Tr.trans (Dw := False) hr155 ht204
          replace hB := Nat.le_trans hB ht204.ex.size
          replace hA := ht204.new
          replace hH : Hp w.heap.size A197 w202 (obC b6 [.int .i64 s166.2.1.no, .int .i64 s166.2.1.capacity, .int .i64 s166.2.1.calendar, v168] 32 :: obC b1 [.int .i64 s166.2.1.no, .int .i64 s166.2.1.capacity, .int .i64 s166.2.1.calendar, v168] 32 :: []) := hH203
          refine V_y (Y_assign rfl) rfl rfl rfl ?_
          refine V_to (fun _ _ => rfl) ?_
          obtain rfl := Option.some.inj h175
          obtain rfl := (h176 : Lp.rt _ = _)
          rw [Lp.andThen_rt] at hm
          obtain rfl := Option.some.inj hm
          refine C_ret ?_
          try simp only [↓inBlock_ret, ↓then_ret]
          exact retQ rfl (Res.l2 Tryz.results8 (RL.cell rfl (loadVar_agg (Hp.part (off := 0) (n := 4) (ds := [.int .i64 s166.2.1.no, .int .i64 s166.2.1.capacity, .int .i64 s166.2.1.calendar, v168]) hH (i := 1) rfl rfl) Tryz.isAgg32 Tryz.sizeOf32)) (RL.tmp rfl)) ⟨v168, rfl, (Sl.out (Dw := False) h199 hA0 hK), hK.kp⟩
        · rw [if_neg (nt hc196)] at h175
          refine C_skip_to (fun _ _ => rfl) ?_
          refine C_region_ch (Dw := False) A172 12 [(1, 0), (0, 1), (1, 2), (1, 3), (1, 4), (1, 5), (1, 6), (1, 7), (2, 8), (4, 9), (1, 10), (4, 11)] Tryz_mixed (by kernel_rfl) (fun w208 hk209 => ?_)
          have ht210 := Kp.tr (Dw := False) hk209 hA hB
          replace hH := Hp.kp (Dw := False) hH hk209
          replace h13 := Sl.tr (Dw := False) h13 ht210
          replace h171 := Sl.tr (Dw := False) h171 ht210
          replace hK := Tr.trans (Dw := False) hK ht210
          replace hr155 := Tr.trans (Dw := False) hr155 ht210
          replace hB := Nat.le_trans hB ht210.ex.size
          replace hA := ht210.new
          refine CH_q2 (Dw := False) rfl ?_
          refine VQ_y (fun w' hw' => Y_fieldAddrC (off2 := 3) Tryz.underlying32 rfl Tryz.sizeOf30 (by decide) rfl rfl) rfl rfl rfl ?_
          refine VQ_CH (Dw := False) ?_
          refine CH_q1 (Dw := False) rfl ?_
          refine VQ_y (fun w' hw' => Y_load ((World.cell?_of_block (hw'.block _ (World.block_lt_of_cell? _ _ (Hp.cell (j := 3) hH (i := 1) rfl rfl)))).trans (Hp.cell (j := 3) hH (i := 1) rfl rfl)) Tryz.isAgg30 rfl) rfl rfl rfl ?_
          refine VQ_CH (Dw := False) ?_
          refine CH_q2 (Dw := False) rfl ?_
          refine VQ_y (fun w' hw' => Y_move rfl) rfl rfl rfl ?_
          refine VQ_CH (Dw := False) ?_
          refine CH_q2 (Dw := False) rfl ?_
          refine VQ_y (fun w' hw' => Y_move rfl) rfl rfl rfl ?_
          refine VQ_CH (Dw := False) ?_
          refine CH_q2 (Dw := False) rfl ?_
          obtain ⟨x211, hx211, h175⟩ := Option.bind_eq_some_iff.1 h175
          refine VQ_indexAddr h13 hx211 Tryz.underlying36 Tryz.sizeOf9 rfl rfl rfl ?_
          intro b212 o213 h214
          refine VQ_CH (Dw := False) ?_
          refine CH_q2 (Dw := False) rfl ?_
          refine VQ_y (fun w' hw' => Y_load (El.str (El.keep h214 (XA.ex hw'))) Tryz.isAgg9 rfl) rfl rfl rfl ?_
          refine VQ_CH (Dw := False) ?_
          refine CH_q2 (Dw := False) rfl ?_
          refine VQ_y (fun w' hw' => Y_move rfl) rfl rfl rfl ?_
          refine VQ_CH (Dw := False) ?_
          refine CH_q2 (Dw := False) rfl ?_
          refine VQ_y (fun w' hw' => Y_build Tryz.underlying102 Tryz.zeroValue102 (Tryz_places102 _ Tryz.underlying102) rfl (by with_unfolding_all rfl)) rfl rfl rfl ?_
          refine VQ_CH (Dw := False) ?_
          refine CH_l1 (Dw := False) (k := 0) rfl ?_
          refine V_buildSlice (Dw := False) (cells := #[.string x211, .int .i64 x186.1]) (l := ([(⟨x211, x186.1⟩ : route_Skill)] : List route_Skill)) (len := 1) Tryz.underlying30 Tryz.sizeOf102 Tryz.zeroValue102 rfl (by kernel_rfl) (show (1 * 2 : Nat) ≠ 0 by decide) (show (1 * 2 : Nat) ≤ 2 ^ 24 by decide) hA ⟨[.string x211, .int .i64 x186.1], _, rfl, ⟨[.string x211], _, rfl, rfl, rfl⟩, rfl⟩ rfl rfl ?_
          intro v215 w216 hk218 h217
          have ht219 := Kp.tr (Dw := False) hk218 hA hB
          replace hH := Hp.kp (Dw := False) hH hk218
          replace h13 := Sl.tr (Dw := False) h13 ht219
          replace h214 := El.tr (Dw := False) h214 ht219
          replace h171 := Sl.tr (Dw := False) h171 ht219
          replace hK := Tr.trans (Dw := False) hK ht219
          replace hr155 := Tr.trans (Dw := False) hr155 ht219
          replace hB := Nat.le_trans hB ht219.ex.size
          replace hA := ht219.new
          refine V_CH (Dw := False) (hk218) ?_
          refine CH_l1 (Dw := False) (k := 2) rfl ?_
          obtain ⟨x220, hx220, h175⟩ := Option.bind_eq_some_iff.1 h175
          refine V_appendH (Dw := False) (e := 102) (v := v168) (l := s166.2.1.skills) (ti := Tryz.t102) (bytes := 24) (lim := 5864062014805) hH (i := 0) rfl h217 hx220 Tryz.underlying30 Tryz_info102 rfl rfl rfl rfl (by decide) (by decide) (by decide) hB hA rfl rfl rfl ?_
          intro v221 w222 A223 hH224 ht225
          replace h13 := Sl.tr (Dw := False) h13 ht225
          replace h214 := El.tr (Dw := False) h214 ht225
          replace h217 := Sl.tr (Dw := False) h217 ht225
          replace h171 := Sl.tr (Dw := False) h171 ht225
          replace hK := Tr.trans (Dw := False) hK ht225
          replace hr155 := Tr.trans (Dw := False) hr155 ht225
          replace hB := Nat.le_trans hB ht225.ex.size
          replace hA := ht225.new
          replace hH : Hp w.heap.size A223 w222 (obS (α := route_Skill) 102 v221 x220 :: obC b6 [.int .i64 s166.2.1.no, .int .i64 s166.2.1.capacity, .int .i64 s166.2.1.calendar, v168] 32 :: obC b1 [.int .i64 s166.2.2.no, .int .i64 s166.2.2.capacity, .int .i64 s166.2.2.calendar, v170] 32 :: []) := hH224
          refine V_CHw (Dw := False) ?_
          refine CH_q2 (Dw := False) rfl ?_
          refine VQ_y (fun w' hw' => Y_fieldAddrC (off2 := 3) Tryz.underlying32 rfl Tryz.sizeOf30 (by decide) rfl rfl) rfl rfl rfl ?_
          refine VQ_CH (Dw := False) ?_
          refine CH_l1 (Dw := False) (k := 2) rfl ?_
          have h231 : (v221).oneCell' = true := by obtain ⟨_, _, e, _⟩ := Hp.form (α := route_Skill) (e := 102) (v := v221) (l := x220) hH (i := 0) rfl; rw [e]; rfl
          refine V_storeC (Dw := False) (off := 3) (ds := [.int .i64 s166.2.1.no, .int .i64 s166.2.1.capacity, .int .i64 s166.2.1.calendar, v221]) hH (i := 1) rfl Tryz.sizeOf30 (by rw [← Array.length_toList, Value.cells_one h231]; rfl) (Nat.le_of_ble_eq_true rfl) (by intro u hu; rw [Value.cells_one h231] at hu; simp at hu; subst hu; assumption) (by rw [Value.cells_one h231]; rfl) hB hA rfl rfl ?_
          intro w226 hH227 ht228
          replace h13 := Sl.tr (Dw := False) h13 ht228
          replace h214 := El.tr (Dw := False) h214 ht228
          replace h217 := Sl.tr (Dw := False) h217 ht228
          replace h171 := Sl.tr (Dw := False) h171 ht228
          replace hK := Tr.trans (Dw := False) hK ht228
          replace hr155 := Tr.trans (Dw := False) hr155 ht228
          replace hB := Nat.le_trans hB ht228.ex.size
          replace hA := ht228.new
          replace hH : Hp w.heap.size A223 w226 (obS (α := route_Skill) 102 v221 x220 :: obC b6 [.int .i64 s166.2.1.no, .int .i64 s166.2.1.capacity, .int .i64 s166.2.1.calendar, v221] 32 :: obC b1 [.int .i64 s166.2.2.no, .int .i64 s166.2.2.capacity, .int .i64 s166.2.2.calendar, v170] 32 :: []) := hH227
          refine V_CHw (Dw := False) ?_
          refine CH_tail (Dw := False) ?_
          show V _ _ _ _ [] _ _
          refine V_to (fun _ _ => rfl) ?_
          refine C_region ?_
          refine V_y (Y_move rfl) rfl rfl rfl ?_
          refine V_y (Y_addI rfl rfl) rfl rfl rfl ?_
          refine V_y (Y_assign rfl) rfl rfl rfl ?_
          obtain rfl := Option.some.inj h175
          refine V_end (fun a ha232 => ?_)
          exact ⟨(w64 (s166.1 + 2), (⟨s166.2.1.no, s166.2.1.capacity, s166.2.1.calendar, x220⟩ : route_Person), s166.2.2), h176, ⟨(v221, v170, A223), ha232.sub ⟨rfl, rfl, rfl, rfl, trivial⟩, ⟨h171, hH, hr155⟩⟩⟩
      · rw [if_neg (nt hc181)] at h175
        obtain rfl := Option.some.inj h175
        refine C_exit (fun a ha233 => ?_)
        exact ⟨((s166.1, s166.2.1, s166.2.2), v168, v170, A172), ha233.sub ⟨rfl, rfl, trivial⟩, ⟨h176.symm, h171, hH, hr155⟩⟩
    rintro ⟨s154, v160, v162, A164⟩ w157 ⟨rfl, h163, hH165, hk158⟩ a ha159
    rw [Lp.andThen_fin] at hm
    replace hK := Tr.trans (Dw := False) hK hk158
    replace hB := Nat.le_trans hB hk158.ex.size
    replace hA := hk158.new
    replace hH : Hp w.heap.size A164 w157 (obS (α := route_Skill) 102 v160 s154.2.1.skills :: obC b6 [.int .i64 s154.2.1.no, .int .i64 s154.2.1.capacity, .int .i64 s154.2.1.calendar, v160] 32 :: obC b1 [.int .i64 s154.2.2.no, .int .i64 s154.2.2.capacity, .int .i64 s154.2.2.calendar, v162] 32 :: []) := hH165
    refine C_at (n := ⟨94, [], none⟩) (fun _ _ => rfl) ?_ ha159
    refine C_seq ?_
    refine C_region ?_
    refine V_y (Y_loadA (Hp.part (off := 0) (n := 4) (ds := [.int .i64 s154.2.1.no, .int .i64 s154.2.1.capacity, .int .i64 s154.2.1.calendar, v160]) hH (i := 1) rfl rfl) Tryz.isAgg32 Tryz.sizeOf32 rfl) rfl rfl rfl ?_
    obtain ⟨A235, ht236, h237, hH238⟩ := Hp.freeze (Dw := False) (α := route_Skill) (v := v160) (l := s154.2.1.skills) hH (i := 0) rfl hA
    replace h163 := Sl.tr (Dw := False) h163 ht236
    replace hK := Tr.trans (Dw := False) hK ht236
    replace hB := Nat.le_trans hB ht236.ex.size
    replace hA := ht236.new
    replace hH : Hp w.heap.size A235 w157 (obC b6 [.int .i64 s154.2.1.no, .int .i64 s154.2.1.capacity, .int .i64 s154.2.1.calendar, v160] 32 :: obC b1 [.int .i64 s154.2.2.no, .int .i64 s154.2.2.capacity, .int .i64 s154.2.2.calendar, v162] 32 :: []) := hH238
    have h245 : (v160).oneCell' = true := by obtain ⟨_, _, e, _⟩ := Sl.form h237; rw [e]; rfl
    refine V_storeC (Dw := False) (off := 0) (ds := [.int .i64 s154.2.1.no, .int .i64 s154.2.1.capacity, .int .i64 s154.2.1.calendar, v160]) hH (i := 1) rfl Tryz.sizeOf32 rfl (Nat.le_of_ble_eq_true rfl) (by exact (List.forall_mem_cons.2 ⟨rfl, (List.forall_mem_cons.2 ⟨rfl, (List.forall_mem_cons.2 ⟨rfl, (List.forall_mem_cons.2 ⟨h245, (fun _ h => nomatch h)⟩)⟩)⟩)⟩)) rfl hB hA rfl rfl ?_
    intro w240 hH241 ht242
    replace h237 := Sl.tr (Dw := False) h237 ht242
    replace h163 := Sl.tr (Dw := False) h163 ht242
    replace hK := Tr.trans (Dw := False) hK ht242
    replace hB := Nat.le_trans hB ht242.ex.size
    replace hA := ht242.new
    replace hH : Hp w.heap.size A235 w240 (obC b6 [.int .i64 s154.2.1.no, .int .i64 s154.2.1.capacity, .int .i64 s154.2.1.calendar, v160] 32 :: obC b1 [.int .i64 s154.2.1.no, .int .i64 s154.2.1.capacity, .int .i64 s154.2.1.calendar, v160] 32 :: []) := hH241
    refine V_y (Y_assign rfl) rfl rfl rfl ?_
    refine V_to (fun _ _ => rfl) ?_
    obtain rfl := Option.some.inj hm
    refine C_ret ?_
    try simp only [↓inBlock_ret, ↓then_ret]
    exact retQ rfl (Res.l2 Tryz.results8 (RL.cell rfl (loadVar_agg (Hp.part (off := 0) (n := 4) (ds := [.int .i64 s154.2.1.no, .int .i64 s154.2.1.capacity, .int .i64 s154.2.1.calendar, v160]) hH (i := 1) rfl rfl) Tryz.isAgg32 Tryz.sizeOf32)) (RL.tmp rfl)) ⟨v160, rfl, (Sl.out (Dw := False) h237 hA0 hK), hK.kp⟩

set_option maxRecDepth 4000 in
set_option maxHeartbeats 4000000 in
theorem route_within_c (w : World) (n : Int) (low : Int) (high : Int) : Ret Tryz.prog 48 #[.int .i64 n, .int .i64 low, .int .i64 high] w fun v w' => v = .bool (route_within n low high) ∧ w = w' := by
  generalize hm : route_within n low high = r
  unfold route_within at hm
  refine enter Tryz.func48 rfl Tryz.ntmps48 rfl ?_
  refine C_seq ?_
  refine C_region ?_
  refine V_y (Y_assign rfl) rfl rfl rfl ?_
  refine V_to (fun _ _ => rfl) ?_
  refine C_seq ?_
  refine C_region ?_
  refine V_y (Y_move rfl) rfl rfl rfl ?_
  refine V_y (Y_move rfl) rfl rfl rfl ?_
  refine V_y (Y_geq rfl rfl) rfl rfl rfl ?_
  refine V_y (Y_move rfl) rfl rfl rfl ?_
  refine V_cut 4 (fun _ : Unit => [(14, .bool ((decide (low ≤ n)) && (decide (n ≤ high))))]) (fun _ w' => w = w') ?_ ?_
  · simp only [List.take, List.drop]
    rcases Bool.eq_false_or_eq_true (decide (low ≤ n)) with hc1 | hc1
    · refine V_ge rfl rfl rfl hc1 ?_
      refine V_y (Y_move rfl) rfl rfl rfl ?_
      refine V_ge rfl rfl rfl hc1 ?_
      refine V_y (Y_move rfl) rfl rfl rfl ?_
      refine V_ge rfl rfl rfl hc1 ?_
      refine V_y (Y_leq rfl rfl) rfl rfl rfl ?_
      refine V_y (Y_pick_te rfl hc1 rfl) rfl rfl rfl ?_
      exact V_end fun a ha => ⟨(), ha.sub ⟨(by rw [hc1]; rfl), trivial⟩, rfl⟩
    · refine V_gn rfl rfl rfl hc1 rfl rfl rfl ?_
      refine V_gn rfl rfl rfl hc1 rfl rfl rfl ?_
      refine V_gn rfl rfl rfl hc1 rfl rfl rfl ?_
      refine V_y (Y_pick_fe rfl hc1 rfl) rfl rfl rfl ?_
      exact V_end fun a ha => ⟨(), ha.sub ⟨(by rw [hc1]; rfl), trivial⟩, rfl⟩
  simp only [List.take, List.drop]
  rintro _ _ rfl
  refine V_y (Y_assign rfl) rfl rfl rfl ?_
  refine V_to (fun _ _ => rfl) ?_
  obtain rfl := hm
  refine C_ret ?_
  try simp only [↓inBlock_ret, ↓then_ret]
  exact retQ rfl (Res.one Tryz.results48 rfl) ⟨rfl, rfl⟩

set_option maxRecDepth 4000 in
set_option maxHeartbeats 4000000 in
theorem route_name_c (w : World) (s : ByteArray) {r : Bool} (hm : route_name s = some r) : Ret Tryz.prog 59 #[.string s] w fun v w' => v = .bool r ∧ w = w' := by
  unfold route_name at hm
  refine enter Tryz.func59 rfl Tryz.ntmps59 rfl ?_
  refine C_seq ?_
  refine C_region ?_
  refine V_y (Y_assign rfl) rfl rfl rfl ?_
  refine V_to (fun _ _ => rfl) ?_
  refine C_seq ?_
  refine C_seq ?_
  refine C_region ?_
  refine V_y (Y_move rfl) rfl rfl rfl ?_
  refine V_y (Y_lenStr rfl Tryz.underlying9 rfl) rfl rfl rfl ?_
  refine V_y (Y_move rfl) rfl rfl rfl ?_
  refine V_to (fun _ _ => rfl) ?_
  obtain ⟨o1, ho1, hm⟩ := Option.bind_eq_some_iff.1 hm
  refine C_cutG (ι := Int) (fun (s2 : Int) => [(0, .string s)]) (fun (s2 : Int) => fun w' => o1 = .fin s2 ∧ w = w') ?_ ?_
  · refine C_block ?_
    refine C_while ho1 (fun s8 a w' => ∃ i : Unit, Has ⟨41, [], none⟩ a ([(0, .string s), (6, .int .i64 (s.size : Int)), (7, .int .i64 s8)]) ∧ w = w') (fun a ha => ⟨(), ha.sub ⟨rfl, rfl, rfl, trivial⟩, rfl⟩) ?_
    rintro K s8 a _ ⟨_, ha30, rfl⟩ K16
    refine C_of ?_ ha30
    obtain ⟨x10, h11, h12⟩ := K16
    refine C_seq ?_
    refine C_region ?_
    refine V_y (Y_lss rfl rfl) rfl rfl rfl ?_
    refine V_to (fun _ _ => rfl) ?_
    refine C_seq ?_
    refine C_cond rfl (fun hc17 => ?_) (fun hc17 => ?_)
    · rw [if_pos hc17] at h11
      refine C_skip_to (fun _ _ => rfl) ?_
      refine C_seq ?_
      refine C_block ?_
      refine C_seq ?_
      refine C_region ?_
      refine V_y (Y_move rfl) rfl rfl rfl ?_
      refine V_y (Y_assign rfl) rfl rfl rfl ?_
      refine V_to (fun _ _ => rfl) ?_
      refine C_seq ?_
      refine C_region ?_
      refine V_y (Y_move rfl) rfl rfl rfl ?_
      refine V_y (Y_move rfl) rfl rfl rfl ?_
      obtain ⟨x18, hx18, h11⟩ := Option.bind_eq_some_iff.1 h11
      refine V_y (Y_indexS hx18 Tryz.underlying9 rfl rfl) rfl rfl rfl ?_
      refine V_y (Y_assign rfl) rfl rfl rfl ?_
      refine V_to (fun _ _ => rfl) ?_
      refine C_seq ?_
      refine C_region ?_
      refine V_y (Y_move rfl) rfl rfl rfl ?_
      refine V_y (Y_geq rfl rfl) rfl rfl rfl ?_
      refine V_y (Y_move rfl) rfl rfl rfl ?_
      refine V_cut 3 (fun _ : Unit => [(0, .string s), (4, .int .u8 (x18.toNat : Int)), (6, .int .i64 (s.size : Int)), (7, .int .i64 s8), (18, .bool ((decide ((97 : Int) ≤ (x18.toNat : Int))) && (decide ((x18.toNat : Int) ≤ 122))))]) (fun _ w' => w = w') ?_ ?_
      · simp only [List.take, List.drop]
        rcases Bool.eq_false_or_eq_true (decide ((97 : Int) ≤ (x18.toNat : Int))) with hc19 | hc19
        · refine V_ge rfl rfl rfl hc19 ?_
          refine V_y (Y_move rfl) rfl rfl rfl ?_
          refine V_ge rfl rfl rfl hc19 ?_
          refine V_y (Y_leq rfl rfl) rfl rfl rfl ?_
          refine V_y (Y_pick_te rfl hc19 rfl) rfl rfl rfl ?_
          exact V_end fun a ha => ⟨(), ha.sub ⟨rfl, rfl, rfl, rfl, (by rw [hc19]; rfl), trivial⟩, rfl⟩
        · refine V_gn rfl rfl rfl hc19 rfl rfl rfl ?_
          refine V_gn rfl rfl rfl hc19 rfl rfl rfl ?_
          refine V_y (Y_pick_fe rfl hc19 rfl) rfl rfl rfl ?_
          exact V_end fun a ha => ⟨(), ha.sub ⟨rfl, rfl, rfl, rfl, (by rw [hc19]; rfl), trivial⟩, rfl⟩
      simp only [List.take, List.drop]
      rintro _ _ rfl
      refine V_y (Y_not rfl) rfl rfl rfl ?_
      refine V_y (Y_move rfl) rfl rfl rfl ?_
      refine V_cut 8 (fun _ : Unit => [(0, .string s), (4, .int .u8 (x18.toNat : Int)), (6, .int .i64 (s.size : Int)), (7, .int .i64 s8), (28, .bool ((!((decide ((97 : Int) ≤ (x18.toNat : Int))) && (decide ((x18.toNat : Int) ≤ 122)))) && (!((decide ((48 : Int) ≤ (x18.toNat : Int))) && (decide ((x18.toNat : Int) ≤ 57))))))]) (fun _ w' => w = w') ?_ ?_
      · simp only [List.take, List.drop]
        rcases Bool.eq_false_or_eq_true (!((decide ((97 : Int) ≤ (x18.toNat : Int))) && (decide ((x18.toNat : Int) ≤ 122)))) with hc21 | hc21
        · refine V_ge rfl rfl rfl hc21 ?_
          refine V_y (Y_move rfl) rfl rfl rfl ?_
          refine V_ge rfl rfl rfl hc21 ?_
          refine V_y (Y_geq rfl rfl) rfl rfl rfl ?_
          refine V_ge rfl rfl rfl hc21 ?_
          refine V_y (Y_move rfl) rfl rfl rfl ?_
          refine V_cut 3 (fun _ : Unit => [(0, .string s), (4, .int .u8 (x18.toNat : Int)), (6, .int .i64 (s.size : Int)), (7, .int .i64 s8), (20, .bool (!((decide ((97 : Int) ≤ (x18.toNat : Int))) && (decide ((x18.toNat : Int) ≤ 122))))), (26, .bool ((decide ((48 : Int) ≤ (x18.toNat : Int))) && (decide ((x18.toNat : Int) ≤ 57))))]) (fun _ w' => w = w') ?_ ?_
          · simp only [List.take, List.drop]
            rcases Bool.eq_false_or_eq_true (decide ((48 : Int) ≤ (x18.toNat : Int))) with hc23 | hc23
            · refine V_ge rfl rfl rfl hc23 ?_
              refine V_y (Y_move rfl) rfl rfl rfl ?_
              refine V_ge rfl rfl rfl hc23 ?_
              refine V_y (Y_leq rfl rfl) rfl rfl rfl ?_
              refine V_ge rfl rfl rfl hc21 ?_
              refine V_y (Y_pick_te rfl hc23 rfl) rfl rfl rfl ?_
              exact V_end fun a ha => ⟨(), ha.sub ⟨rfl, rfl, rfl, rfl, rfl, (by rw [hc23]; rfl), trivial⟩, rfl⟩
            · refine V_gn rfl rfl rfl hc23 rfl rfl rfl ?_
              refine V_gn rfl rfl rfl hc23 rfl rfl rfl ?_
              refine V_ge rfl rfl rfl hc21 ?_
              refine V_y (Y_pick_fe rfl hc23 rfl) rfl rfl rfl ?_
              exact V_end fun a ha => ⟨(), ha.sub ⟨rfl, rfl, rfl, rfl, rfl, (by rw [hc23]; rfl), trivial⟩, rfl⟩
          simp only [List.take, List.drop]
          rintro _ _ rfl
          refine V_ge rfl rfl rfl hc21 ?_
          refine V_y (Y_not rfl) rfl rfl rfl ?_
          refine V_y (Y_pick_te rfl hc21 rfl) rfl rfl rfl ?_
          exact V_end fun a ha => ⟨(), ha.sub ⟨rfl, rfl, rfl, rfl, (by rw [hc21]; rfl), trivial⟩, rfl⟩
        · refine V_gn rfl rfl rfl hc21 rfl rfl rfl ?_
          refine V_gn rfl rfl rfl hc21 rfl rfl rfl ?_
          refine V_gn rfl rfl rfl hc21 rfl rfl rfl ?_
          refine V_gu rfl rfl rfl rfl rfl ?_
          refine V_gu rfl rfl rfl rfl rfl ?_
          refine V_gn rfl rfl rfl hc21 rfl rfl rfl ?_
          refine V_gn rfl rfl rfl hc21 rfl rfl rfl ?_
          refine V_y (Y_pick_fe rfl hc21 rfl) rfl rfl rfl ?_
          exact V_end fun a ha => ⟨(), ha.sub ⟨rfl, rfl, rfl, rfl, (by rw [hc21]; rfl), trivial⟩, rfl⟩
      simp only [List.take, List.drop]
      rintro _ _ rfl
      refine V_y (Y_move rfl) rfl rfl rfl ?_
      refine V_cut 3 (fun _ : Unit => [(0, .string s), (6, .int .i64 (s.size : Int)), (7, .int .i64 s8), (32, .bool (((!((decide ((97 : Int) ≤ (x18.toNat : Int))) && (decide ((x18.toNat : Int) ≤ 122)))) && (!((decide ((48 : Int) ≤ (x18.toNat : Int))) && (decide ((x18.toNat : Int) ≤ 57))))) && ((x18.toNat : Int) != 95)))]) (fun _ w' => w = w') ?_ ?_
      · simp only [List.take, List.drop]
        rcases Bool.eq_false_or_eq_true (((!((decide ((97 : Int) ≤ (x18.toNat : Int))) && (decide ((x18.toNat : Int) ≤ 122)))) && (!((decide ((48 : Int) ≤ (x18.toNat : Int))) && (decide ((x18.toNat : Int) ≤ 57)))))) with hc25 | hc25
        · refine V_ge rfl rfl rfl hc25 ?_
          refine V_y (Y_move rfl) rfl rfl rfl ?_
          refine V_ge rfl rfl rfl hc25 ?_
          refine V_y (Y_neq rfl rfl) rfl rfl rfl ?_
          refine V_y (Y_pick_te rfl hc25 rfl) rfl rfl rfl ?_
          exact V_end fun a ha => ⟨(), ha.sub ⟨rfl, rfl, rfl, (by rw [hc25]; rfl), trivial⟩, rfl⟩
        · refine V_gn rfl rfl rfl hc25 rfl rfl rfl ?_
          refine V_gn rfl rfl rfl hc25 rfl rfl rfl ?_
          refine V_y (Y_pick_fe rfl hc25 rfl) rfl rfl rfl ?_
          exact V_end fun a ha => ⟨(), ha.sub ⟨rfl, rfl, rfl, (by rw [hc25]; rfl), trivial⟩, rfl⟩
      simp only [List.take, List.drop]
      rintro _ _ rfl
      refine V_to (fun _ _ => rfl) ?_
      refine C_cond rfl (fun hc27 => ?_) (fun hc27 => ?_)
      · rw [if_pos hc27] at h11
        refine C_seq ?_
        refine C_region ?_
        refine V_y (Y_assign rfl) rfl rfl rfl ?_
        refine V_to (fun _ _ => rfl) ?_
        obtain rfl := Option.some.inj h11
        obtain rfl := (h12 : Lp.rt _ = _)
        rw [Lp.andThen_rt] at hm
        obtain rfl := Option.some.inj hm
        refine C_ret ?_
        try simp only [↓inBlock_ret, ↓then_ret]
        exact retQ rfl (Res.one Tryz.results59 rfl) ⟨rfl, rfl⟩
      · rw [if_neg (nt hc27)] at h11
        refine C_skip_to (fun _ _ => rfl) ?_
        refine C_region ?_
        refine V_y (Y_addI rfl rfl) rfl rfl rfl ?_
        refine V_y (Y_move rfl) rfl rfl rfl ?_
        obtain rfl := Option.some.inj h11
        refine V_end (fun a ha28 => ?_)
        exact ⟨w64 (s8 + 1), h12, ⟨(), ha28.sub ⟨rfl, rfl, rfl, trivial⟩, rfl⟩⟩
    · rw [if_neg (nt hc17)] at h11
      obtain rfl := Option.some.inj h11
      refine C_exit (fun a ha29 => ?_)
      exact ⟨s8, ha29.sub ⟨rfl, trivial⟩, ⟨h12.symm, rfl⟩⟩
  rintro s2 _ ⟨rfl, rfl⟩ a ha7
  rw [Lp.andThen_fin] at hm
  refine C_at (n := ⟨41, [], none⟩) (fun _ _ => rfl) ?_ ha7
  refine C_seq ?_
  refine C_region ?_
  refine V_y (Y_move rfl) rfl rfl rfl ?_
  refine V_y (Y_sneq rfl rfl) rfl rfl rfl ?_
  refine V_y (Y_move rfl) rfl rfl rfl ?_
  refine V_cut 4 (fun _ : Unit => [(40, .bool ((!(strEq s (⟨#[]⟩ : ByteArray))) && (decide ((s.size : Int) ≤ 20))))]) (fun _ w' => w = w') ?_ ?_
  · simp only [List.take, List.drop]
    rcases Bool.eq_false_or_eq_true (!(strEq s (⟨#[]⟩ : ByteArray))) with hc31 | hc31
    · refine V_ge rfl rfl rfl hc31 ?_
      refine V_y (Y_move rfl) rfl rfl rfl ?_
      refine V_ge rfl rfl rfl hc31 ?_
      refine V_y (Y_lenStr rfl Tryz.underlying9 rfl) rfl rfl rfl ?_
      refine V_ge rfl rfl rfl hc31 ?_
      refine V_y (Y_leq rfl rfl) rfl rfl rfl ?_
      refine V_y (Y_pick_te rfl hc31 rfl) rfl rfl rfl ?_
      exact V_end fun a ha => ⟨(), ha.sub ⟨(by rw [hc31]; rfl), trivial⟩, rfl⟩
    · refine V_gn rfl rfl rfl hc31 rfl rfl rfl ?_
      refine V_gn rfl rfl rfl hc31 rfl rfl rfl ?_
      refine V_gn rfl rfl rfl hc31 rfl rfl rfl ?_
      refine V_y (Y_pick_fe rfl hc31 rfl) rfl rfl rfl ?_
      exact V_end fun a ha => ⟨(), ha.sub ⟨(by rw [hc31]; rfl), trivial⟩, rfl⟩
  simp only [List.take, List.drop]
  rintro _ _ rfl
  refine V_y (Y_assign rfl) rfl rfl rfl ?_
  refine V_to (fun _ _ => rfl) ?_
  obtain rfl := Option.some.inj hm
  refine C_ret ?_
  try simp only [↓inBlock_ret, ↓then_ret]
  exact retQ rfl (Res.one Tryz.results59 rfl) ⟨rfl, rfl⟩

set_option maxRecDepth 4000 in
set_option maxHeartbeats 4000000 in
theorem route_checkSkills_c (w : World) {A : Nat → Prop} (hA : ∀ b, w.heap.size ≤ b → A b) (l : (List route_Skill)) (v_l : Value) (h_l : Sl A w v_l l) {r : Int} (hm : route_checkSkills l = some r) : Ret Tryz.prog 49 #[v_l] w fun v w' => v = .int .i64 r ∧ Kp Dw w w' := by
  unfold route_checkSkills at hm
  refine enter Tryz.func49 rfl Tryz.ntmps49 rfl ?_
  have hA0 := hA
  have hB := Nat.le_refl w.heap.size
  have hK : Tr Dw w.heap.size A w A w := Tr.refl (Dw := Dw) hA
  have hH : Hp w.heap.size A w [] := Hp.nil
  refine C_seq ?_
  refine C_region ?_
  refine V_y (Y_assign rfl) rfl rfl rfl ?_
  refine V_to (fun _ _ => rfl) ?_
  refine C_seq ?_
  refine C_seq ?_
  refine C_region ?_
  refine V_y (Y_move rfl) rfl rfl rfl ?_
  refine V_y (Y_lenSl h_l rfl Tryz.underlying30 rfl) rfl rfl rfl ?_
  refine V_y (Y_gtr rfl rfl) rfl rfl rfl ?_
  refine V_to (fun _ _ => rfl) ?_
  refine C_cond rfl (fun hc3 => ?_) (fun hc3 => ?_)
  · rw [if_pos hc3] at hm
    refine C_seq ?_
    refine C_region ?_
    refine V_y (Y_assign rfl) rfl rfl rfl ?_
    refine V_to (fun _ _ => rfl) ?_
    obtain rfl := Option.some.inj hm
    refine C_ret ?_
    try simp only [↓inBlock_ret, ↓then_ret]
    exact retQ rfl (Res.one Tryz.results49 rfl) ⟨rfl, hK.kp⟩
  · rw [if_neg (nt hc3)] at hm
    refine C_skip_to (fun _ _ => rfl) ?_
    refine C_seq ?_
    refine C_seq ?_
    refine C_region ?_
    refine V_y (Y_move rfl) rfl rfl rfl ?_
    refine V_y (Y_lenSl h_l rfl Tryz.underlying30 rfl) rfl rfl rfl ?_
    refine V_y (Y_move rfl) rfl rfl rfl ?_
    refine V_to (fun _ _ => rfl) ?_
    have hn25 := Sl.le h_l
    obtain ⟨o4, ho4, hm⟩ := Option.bind_eq_some_iff.1 hm
    refine C_cutG (ι := (Unit × (Nat → Prop))) (fun ⟨s5, A12⟩ => []) (fun ⟨s5, A12⟩ => fun w' => o4 = .fin s5 ∧ Hp w.heap.size A12 w' ([]) ∧ Tr Dw w.heap.size A w A12 w') ?_ ?_
    · refine C_block ?_
      refine C_range ho4 (fun k7 _ a w' => ∃ i : (Nat → Prop), Has ⟨40, [], none⟩ a ([(0, v_l), (8, v_l), (9, .int .i64 (l.length : Int)), (10, .int .i64 (k7 : Int))]) ∧ Hp w.heap.size i w' ([]) ∧ Tr Dw w.heap.size A w i w') (fun a ha => ⟨A, ha.sub ⟨rfl, rfl, rfl, rfl, trivial⟩, ⟨hH, Tr.refl (Dw := Dw) hA⟩⟩) ?_
      rintro K k7 _ a w15 ⟨A16, ha59, hH17, hr6⟩ hle21 K24 h23
      refine C_of ?_ ha59
      replace h_l := Sl.tr (Dw := Dw) h_l hr6
      replace hK := Tr.trans (Dw := Dw) hK hr6
      replace hB := Nat.le_trans hB hr6.ex.size
      replace hA := hr6.new
      replace hH : Hp w.heap.size A16 w15 ([]) := hH17
      refine C_seq (C_region (V_y (Y_lss rfl rfl) rfl rfl rfl (V_to (fun _ _ => rfl) ?_)))
      refine C_seq ?_
      refine C_cond rfl (fun hc26 => ?_) (fun hc26 => ?_)
      · have hlt22 := lt_of_dec hc26
        obtain ⟨x18, h19, h20⟩ := K24 hlt22
        refine C_skip_to (fun _ _ => rfl) ?_
        refine C_seq ?_
        refine C_block ?_
        refine C_seq ?_
        refine C_region ?_
        refine V_y (Y_move rfl) rfl rfl rfl ?_
        obtain ⟨x27, hx27, h19⟩ := Option.bind_eq_some_iff.1 h19
        refine V_indexAddr h_l hx27 Tryz.underlying30 Tryz.sizeOf102 rfl rfl rfl ?_
        intro b28 o29 h30
        obtain ⟨h31, _⟩ := El_route_Skill h30
        refine V_y (Y_loadA h31 Tryz.isAgg102 Tryz.sizeOf102 rfl) rfl rfl rfl ?_
        refine V_alloc Tryz.zeroValue102 rfl ?_
        intro b32 w33 h34
        refine V_y (Y_assign rfl) rfl rfl rfl ?_
        refine V_storeNew h34 Tryz.sizeOf102 rfl rfl rfl rfl (by exact (List.forall_mem_cons.2 ⟨rfl, (List.forall_mem_cons.2 ⟨rfl, (fun _ h => nomatch h)⟩)⟩)) ?_
        intro w35 h36
        have hk38 := h36.kp (Dw := Dw)
        have h37 : El (α := route_Skill) A16 w35 b32 0 x27 := h36.el hA ⟨[.string x27.name], _, rfl, rfl, rfl⟩
        have ht39 := Kp.tr (Dw := Dw) hk38 hA hB
        replace hH := Hp.kp (Dw := Dw) hH hk38
        replace h_l := Sl.tr (Dw := Dw) h_l ht39
        replace h30 := El.tr (Dw := Dw) h30 ht39
        replace hK := Tr.trans (Dw := Dw) hK ht39
        replace hr6 := Tr.trans (Dw := Dw) hr6 ht39
        replace hB := Nat.le_trans hB ht39.ex.size
        replace hA := ht39.new
        refine V_to (fun _ _ => rfl) ?_
        refine C_block ?_
        refine C_seq ?_
        refine C_region ?_
        have h40 := El_route_Skill_0 h37
        refine V_y (Y_fieldAddr Tryz.underlying102 rfl Tryz.sizeOf9 (by decide) rfl) rfl rfl rfl ?_
        refine V_y (Y_load (El.str h40) Tryz.isAgg9 rfl) rfl rfl rfl ?_
        obtain ⟨x41, hx41, h19⟩ := Option.bind_eq_some_iff.1 h19
        refine V_call Tryz.call59 rfl rfl rfl rfl (route_name_c w35 x27.name hx41) ?_
        rintro _ _ ⟨rfl, rfl⟩
        refine V_y (Y_not rfl) rfl rfl rfl ?_
        refine V_y (Y_assign rfl) rfl rfl rfl ?_
        refine V_to (fun _ _ => rfl) ?_
        refine C_cond rfl (fun hc42 => ?_) (fun hc42 => ?_)
        · rw [if_pos hc42] at h19
          refine C_seq ?_
          refine C_region ?_
          refine V_y (Y_assign rfl) rfl rfl rfl ?_
          refine V_to (fun _ _ => rfl) ?_
          obtain rfl := Option.some.inj h19
          obtain rfl := (h20 : Lp.rt _ = _)
          rw [Lp.andThen_rt] at hm
          obtain rfl := Option.some.inj hm
          refine C_ret ?_
          try simp only [↓inBlock_ret, ↓then_ret]
          exact retQ rfl (Res.one Tryz.results49 rfl) ⟨rfl, hK.kp⟩
        · rw [if_neg (nt hc42)] at h19
          refine C_seq ?_
          refine C_region_q (Dw := Dw) Tryz_mixed (by kernel_rfl) ?_
          refine VQ_y (fun w' hw' => Y_move rfl) rfl rfl rfl ?_
          refine VQ_y (fun w' hw' => Y_gtr rfl rfl) rfl rfl rfl ?_
          refine VQ_y (fun w' hw' => Y_move rfl) rfl rfl rfl ?_
          obtain ⟨s44, hs44, h19⟩ := Option.bind_eq_some_iff.1 h19
          refine VQ_cut 10 (fun _ : Unit => [(0, v_l), (4, .pointer (some ⟨b32, 0, none⟩)), (8, v_l), (9, .int .i64 (l.length : Int)), (10, .int .i64 (k7 : Int)), (33, .bool s44)]) (fun _ => True) ?_ ?_
          · simp only [List.take, List.drop]
            rcases Bool.eq_false_or_eq_true (decide ((0 : Int) < (k7 : Int))) with hc43 | hc43
            · rw [if_pos hc43] at hs44
              refine VQ_ge rfl rfl rfl hc43 ?_
              have h45 := El_route_Skill_0 h37
              refine VQ_y (fun w' hw' => Y_fieldAddr Tryz.underlying102 rfl Tryz.sizeOf9 (by decide) rfl) rfl rfl rfl ?_
              refine VQ_ge rfl rfl rfl hc43 ?_
              refine VQ_y (fun w' hw' => Y_load (El.str (El.kp (Dw := Dw) h45 hw')) Tryz.isAgg9 rfl) rfl rfl rfl ?_
              refine VQ_ge rfl rfl rfl hc43 ?_
              refine VQ_y (fun w' hw' => Y_move rfl) rfl rfl rfl ?_
              refine VQ_ge rfl rfl rfl hc43 ?_
              refine VQ_y (fun w' hw' => Y_move rfl) rfl rfl rfl ?_
              refine VQ_ge rfl rfl rfl hc43 ?_
              refine VQ_y (fun w' hw' => Y_subI rfl rfl) rfl rfl rfl ?_
              refine VQ_ge rfl rfl rfl hc43 ?_
              obtain ⟨x46, hx46, hs44⟩ := Option.bind_eq_some_iff.1 hs44
              refine VQ_indexAddr h_l hx46 Tryz.underlying30 Tryz.sizeOf102 rfl rfl rfl ?_
              intro b47 o48 h49
              refine VQ_ge rfl rfl rfl hc43 ?_
              have h50 := El_route_Skill_0 h49
              refine VQ_y (fun w' hw' => Y_fieldAddr Tryz.underlying102 rfl Tryz.sizeOf9 (by decide) rfl) rfl rfl rfl ?_
              refine VQ_ge rfl rfl rfl hc43 ?_
              refine VQ_y (fun w' hw' => Y_load (El.str (El.kp (Dw := Dw) h50 hw')) Tryz.isAgg9 rfl) rfl rfl rfl ?_
              refine VQ_ge rfl rfl rfl hc43 ?_
              refine VQ_y (fun w' hw' => Y_sleq rfl rfl) rfl rfl rfl ?_
              refine VQ_y (fun _ _ => Y_pick_te rfl hc43 rfl) rfl rfl rfl ?_
              obtain rfl := Option.some.inj hs44
              exact VQ_end fun a ha => ⟨(), ha.sub ⟨rfl, rfl, rfl, rfl, rfl, rfl, trivial⟩, trivial⟩
            · rw [if_neg (nt hc43)] at hs44
              refine VQ_gn rfl rfl rfl hc43 rfl rfl rfl ?_
              refine VQ_gn rfl rfl rfl hc43 rfl rfl rfl ?_
              refine VQ_gn rfl rfl rfl hc43 rfl rfl rfl ?_
              refine VQ_gn rfl rfl rfl hc43 rfl rfl rfl ?_
              refine VQ_gn rfl rfl rfl hc43 rfl rfl rfl ?_
              refine VQ_gn rfl rfl rfl hc43 rfl rfl rfl ?_
              refine VQ_gn rfl rfl rfl hc43 rfl rfl rfl ?_
              refine VQ_gn rfl rfl rfl hc43 rfl rfl rfl ?_
              refine VQ_gn rfl rfl rfl hc43 rfl rfl rfl ?_
              refine VQ_y (fun _ _ => Y_pick_fe rfl hc43 rfl) rfl rfl rfl ?_
              obtain rfl := Option.some.inj hs44
              exact VQ_end fun a ha => ⟨(), ha.sub ⟨rfl, rfl, rfl, rfl, rfl, rfl, trivial⟩, trivial⟩
          simp only [List.take, List.drop]
          rintro _ _
          refine VQ_y (fun w' hw' => Y_assign rfl) rfl rfl rfl ?_
          refine VQ_to (fun _ _ => rfl) (fun w51 hk52 => ?_)
          have ht53 := Kp.tr (Dw := Dw) hk52 hA hB
          replace hH := Hp.kp (Dw := Dw) hH hk52
          replace h_l := Sl.tr (Dw := Dw) h_l ht53
          replace h37 := El.tr (Dw := Dw) h37 ht53
          replace hK := Tr.trans (Dw := Dw) hK ht53
          replace hr6 := Tr.trans (Dw := Dw) hr6 ht53
          replace hB := Nat.le_trans hB ht53.ex.size
          replace hA := ht53.new
          refine C_cond rfl (fun hc54 => ?_) (fun hc54 => ?_)
          · rw [if_pos hc54] at h19
            refine C_seq ?_
            refine C_region ?_
            refine V_y (Y_assign rfl) rfl rfl rfl ?_
            refine V_to (fun _ _ => rfl) ?_
            obtain rfl := Option.some.inj h19
            obtain rfl := (h20 : Lp.rt _ = _)
            rw [Lp.andThen_rt] at hm
            obtain rfl := Option.some.inj hm
            refine C_ret ?_
            try simp only [↓inBlock_ret, ↓then_ret]
            exact retQ rfl (Res.one Tryz.results49 rfl) ⟨rfl, hK.kp⟩
          · rw [if_neg (nt hc54)] at h19
            refine C_seq ?_
            refine C_region ?_
            have h55 := El_route_Skill_1 h37
            refine V_y (Y_fieldAddr Tryz.underlying102 rfl Tryz.sizeOf3 (by decide) rfl) rfl rfl rfl ?_
            refine V_y (Y_load (El.int h55) Tryz.isAgg3 rfl) rfl rfl rfl ?_
            refine V_call Tryz.call48 rfl rfl rfl rfl (route_within_c w51 x27.rank 1 9) ?_
            rintro _ _ ⟨rfl, rfl⟩
            refine V_y (Y_not rfl) rfl rfl rfl ?_
            refine V_y (Y_assign rfl) rfl rfl rfl ?_
            refine V_to (fun _ _ => rfl) ?_
            refine C_cond rfl (fun hc56 => ?_) (fun hc56 => ?_)
            · rw [if_pos hc56] at h19
              refine C_seq ?_
              refine C_region ?_
              refine V_y (Y_assign rfl) rfl rfl rfl ?_
              refine V_to (fun _ _ => rfl) ?_
              obtain rfl := Option.some.inj h19
              obtain rfl := (h20 : Lp.rt _ = _)
              rw [Lp.andThen_rt] at hm
              obtain rfl := Option.some.inj hm
              refine C_ret ?_
              try simp only [↓inBlock_ret, ↓then_ret]
              exact retQ rfl (Res.one Tryz.results49 rfl) ⟨rfl, hK.kp⟩
            · rw [if_neg (nt hc56)] at h19
              refine C_skip_to (fun _ _ => rfl) ?_
              refine C_region ?_
              refine V_y (Y_addI rfl rfl) rfl rfl rfl ?_
              refine V_y (Y_move rfl) rfl rfl rfl ?_
              obtain rfl := Option.some.inj h19
              refine V_end (fun a ha57 => ?_)
              exact ⟨(), hlt22, h20, ⟨A16, ha57.sub ⟨rfl, rfl, rfl, (congrArg (fun z => some (Value.int .i64 z)) (w64_succ hlt22 hn25)), trivial⟩, ⟨hH, hr6⟩⟩⟩
      · refine C_exit (fun a ha58 => ?_)
        exact ⟨((), A16), ha58.sub trivial, ⟨(h23 (eq_of_dec hle21 hc26)).symm, hH, hr6⟩⟩
    rintro ⟨s5, A12⟩ w9 ⟨rfl, hH13, hk10⟩ a ha11
    rw [Lp.andThen_fin] at hm
    replace hK := Tr.trans (Dw := Dw) hK hk10
    replace hB := Nat.le_trans hB hk10.ex.size
    replace hA := hk10.new
    replace hH : Hp w.heap.size A12 w9 ([]) := hH13
    refine C_at (n := ⟨40, [], none⟩) (fun _ _ => rfl) ?_ ha11
    refine C_seq ?_
    refine C_region ?_
    refine V_y (Y_assign rfl) rfl rfl rfl ?_
    refine V_to (fun _ _ => rfl) ?_
    obtain rfl := Option.some.inj hm
    refine C_ret ?_
    try simp only [↓inBlock_ret, ↓then_ret]
    exact retQ rfl (Res.one Tryz.results49 rfl) ⟨rfl, hK.kp⟩

set_option maxRecDepth 4000 in
set_option maxHeartbeats 4000000 in
theorem route_CheckPeople_c (w : World) {A : Nat → Prop} (hA : ∀ b, w.heap.size ≤ b → A b) (l : (List route_Person)) (v_l : Value) (h_l : Sl A w v_l l) {r : Int} (hm : route_CheckPeople l = some r) : Ret Tryz.prog 9 #[v_l] w fun v w' => v = .int .i64 r ∧ Kp Dw w w' := by
  unfold route_CheckPeople at hm
  refine enter Tryz.func9 rfl Tryz.ntmps9 rfl ?_
  have hA0 := hA
  have hB := Nat.le_refl w.heap.size
  have hK : Tr Dw w.heap.size A w A w := Tr.refl (Dw := Dw) hA
  have hH : Hp w.heap.size A w [] := Hp.nil
  refine C_seq ?_
  refine C_region ?_
  refine V_y (Y_assign rfl) rfl rfl rfl ?_
  refine V_to (fun _ _ => rfl) ?_
  refine C_seq ?_
  refine C_seq ?_
  refine C_region ?_
  refine V_y (Y_move rfl) rfl rfl rfl ?_
  refine V_y (Y_lenSl h_l rfl Tryz.underlying22 rfl) rfl rfl rfl ?_
  refine V_y (Y_gtr rfl rfl) rfl rfl rfl ?_
  refine V_to (fun _ _ => rfl) ?_
  refine C_cond rfl (fun hc3 => ?_) (fun hc3 => ?_)
  · rw [if_pos hc3] at hm
    refine C_seq ?_
    refine C_region ?_
    refine V_y (Y_assign rfl) rfl rfl rfl ?_
    refine V_to (fun _ _ => rfl) ?_
    obtain rfl := Option.some.inj hm
    refine C_ret ?_
    try simp only [↓inBlock_ret, ↓then_ret]
    exact retQ rfl (Res.one Tryz.results9 rfl) ⟨rfl, hK.kp⟩
  · rw [if_neg (nt hc3)] at hm
    refine C_skip_to (fun _ _ => rfl) ?_
    refine C_seq ?_
    refine C_seq ?_
    refine C_region ?_
    refine V_y (Y_move rfl) rfl rfl rfl ?_
    refine V_y (Y_lenSl h_l rfl Tryz.underlying22 rfl) rfl rfl rfl ?_
    refine V_y (Y_move rfl) rfl rfl rfl ?_
    refine V_to (fun _ _ => rfl) ?_
    have hn25 := Sl.le h_l
    obtain ⟨o4, ho4, hm⟩ := Option.bind_eq_some_iff.1 hm
    refine C_cutG (ι := (Unit × (Nat → Prop))) (fun ⟨s5, A12⟩ => []) (fun ⟨s5, A12⟩ => fun w' => o4 = .fin s5 ∧ Hp w.heap.size A12 w' ([]) ∧ Tr Dw w.heap.size A w A12 w') ?_ ?_
    · refine C_block ?_
      refine C_range ho4 (fun k7 _ a w' => ∃ i : (Nat → Prop), Has ⟨53, [], none⟩ a ([(0, v_l), (9, v_l), (10, .int .i64 (l.length : Int)), (11, .int .i64 (k7 : Int))]) ∧ Hp w.heap.size i w' ([]) ∧ Tr Dw w.heap.size A w i w') (fun a ha => ⟨A, ha.sub ⟨rfl, rfl, rfl, rfl, trivial⟩, ⟨hH, Tr.refl (Dw := Dw) hA⟩⟩) ?_
      rintro K k7 _ a w15 ⟨A16, ha75, hH17, hr6⟩ hle21 K24 h23
      refine C_of ?_ ha75
      replace h_l := Sl.tr (Dw := Dw) h_l hr6
      replace hK := Tr.trans (Dw := Dw) hK hr6
      replace hB := Nat.le_trans hB hr6.ex.size
      replace hA := hr6.new
      replace hH : Hp w.heap.size A16 w15 ([]) := hH17
      refine C_seq (C_region (V_y (Y_lss rfl rfl) rfl rfl rfl (V_to (fun _ _ => rfl) ?_)))
      refine C_seq ?_
      refine C_cond rfl (fun hc26 => ?_) (fun hc26 => ?_)
      · have hlt22 := lt_of_dec hc26
        obtain ⟨x18, h19, h20⟩ := K24 hlt22
        refine C_skip_to (fun _ _ => rfl) ?_
        refine C_seq ?_
        refine C_block ?_
        refine C_seq ?_
        refine C_region ?_
        refine V_y (Y_move rfl) rfl rfl rfl ?_
        obtain ⟨x27, hx27, h19⟩ := Option.bind_eq_some_iff.1 h19
        refine V_indexAddr h_l hx27 Tryz.underlying22 Tryz.sizeOf32 rfl rfl rfl ?_
        intro b28 o29 h30
        obtain ⟨v31, h33, h32⟩ := El_route_Person h30
        refine V_y (Y_loadA h33 Tryz.isAgg32 Tryz.sizeOf32 rfl) rfl rfl rfl ?_
        refine V_alloc Tryz.zeroValue32 rfl ?_
        intro b34 w35 h36
        refine V_y (Y_assign rfl) rfl rfl rfl ?_
        have h41 : (v31).oneCell' = true := by obtain ⟨_, _, e, _⟩ := Sl.form h32; rw [e]; rfl
        refine V_storeNew h36 Tryz.sizeOf32 rfl rfl rfl rfl (by exact (List.forall_mem_cons.2 ⟨rfl, (List.forall_mem_cons.2 ⟨rfl, (List.forall_mem_cons.2 ⟨rfl, (List.forall_mem_cons.2 ⟨h41, (fun _ h => nomatch h)⟩)⟩)⟩)⟩)) ?_
        intro w37 h38
        have hk43 := h38.kp (Dw := Dw)
        have h42 : El (α := route_Person) A16 w37 b34 0 x27 := h38.el hA ⟨[.int .i64 x27.no], _, rfl, rfl, ⟨[.int .i64 x27.capacity], _, rfl, rfl, ⟨[.int .i64 x27.calendar], _, rfl, rfl, ⟨_, rfl, h32⟩⟩⟩⟩
        have ht44 := Kp.tr (Dw := Dw) hk43 hA hB
        replace hH := Hp.kp (Dw := Dw) hH hk43
        replace h_l := Sl.tr (Dw := Dw) h_l ht44
        replace h30 := El.tr (Dw := Dw) h30 ht44
        replace h32 := Sl.tr (Dw := Dw) h32 ht44
        replace hK := Tr.trans (Dw := Dw) hK ht44
        replace hr6 := Tr.trans (Dw := Dw) hr6 ht44
        replace hB := Nat.le_trans hB ht44.ex.size
        replace hA := ht44.new
        refine V_to (fun _ _ => rfl) ?_
        refine C_seq ?_
        refine C_block ?_
        refine C_seq ?_
        refine C_region ?_
        have h45 := El_route_Person_0 h42
        refine V_y (Y_fieldAddr Tryz.underlying32 rfl Tryz.sizeOf3 (by decide) rfl) rfl rfl rfl ?_
        refine V_y (Y_load (El.int h45) Tryz.isAgg3 rfl) rfl rfl rfl ?_
        refine V_call Tryz.call48 rfl rfl rfl rfl (route_within_c w37 x27.no 1 40) ?_
        rintro _ _ ⟨rfl, rfl⟩
        refine V_y (Y_not rfl) rfl rfl rfl ?_
        refine V_y (Y_assign rfl) rfl rfl rfl ?_
        refine V_to (fun _ _ => rfl) ?_
        refine C_cond rfl (fun hc46 => ?_) (fun hc46 => ?_)
        · rw [if_pos hc46] at h19
          refine C_seq ?_
          refine C_region ?_
          refine V_y (Y_assign rfl) rfl rfl rfl ?_
          refine V_to (fun _ _ => rfl) ?_
          obtain rfl := Option.some.inj h19
          obtain rfl := (h20 : Lp.rt _ = _)
          rw [Lp.andThen_rt] at hm
          obtain rfl := Option.some.inj hm
          refine C_ret ?_
          try simp only [↓inBlock_ret, ↓then_ret]
          exact retQ rfl (Res.one Tryz.results9 rfl) ⟨rfl, hK.kp⟩
        · rw [if_neg (nt hc46)] at h19
          refine C_seq ?_
          refine C_region_q (Dw := Dw) Tryz_mixed (by kernel_rfl) ?_
          refine VQ_y (fun w' hw' => Y_move rfl) rfl rfl rfl ?_
          refine VQ_y (fun w' hw' => Y_gtr rfl rfl) rfl rfl rfl ?_
          refine VQ_y (fun w' hw' => Y_move rfl) rfl rfl rfl ?_
          obtain ⟨s48, hs48, h19⟩ := Option.bind_eq_some_iff.1 h19
          refine VQ_cut 10 (fun _ : Unit => [(0, v_l), (4, .pointer (some ⟨b34, 0, none⟩)), (9, v_l), (10, .int .i64 (l.length : Int)), (11, .int .i64 (k7 : Int)), (34, .bool s48)]) (fun _ => True) ?_ ?_
          · simp only [List.take, List.drop]
            rcases Bool.eq_false_or_eq_true (decide ((0 : Int) < (k7 : Int))) with hc47 | hc47
            · rw [if_pos hc47] at hs48
              refine VQ_ge rfl rfl rfl hc47 ?_
              have h49 := El_route_Person_0 h42
              refine VQ_y (fun w' hw' => Y_fieldAddr Tryz.underlying32 rfl Tryz.sizeOf3 (by decide) rfl) rfl rfl rfl ?_
              refine VQ_ge rfl rfl rfl hc47 ?_
              refine VQ_y (fun w' hw' => Y_load (El.int (El.kp (Dw := Dw) h49 hw')) Tryz.isAgg3 rfl) rfl rfl rfl ?_
              refine VQ_ge rfl rfl rfl hc47 ?_
              refine VQ_y (fun w' hw' => Y_move rfl) rfl rfl rfl ?_
              refine VQ_ge rfl rfl rfl hc47 ?_
              refine VQ_y (fun w' hw' => Y_move rfl) rfl rfl rfl ?_
              refine VQ_ge rfl rfl rfl hc47 ?_
              refine VQ_y (fun w' hw' => Y_subI rfl rfl) rfl rfl rfl ?_
              refine VQ_ge rfl rfl rfl hc47 ?_
              obtain ⟨x50, hx50, hs48⟩ := Option.bind_eq_some_iff.1 hs48
              refine VQ_indexAddr h_l hx50 Tryz.underlying22 Tryz.sizeOf32 rfl rfl rfl ?_
              intro b51 o52 h53
              refine VQ_ge rfl rfl rfl hc47 ?_
              have h54 := El_route_Person_0 h53
              refine VQ_y (fun w' hw' => Y_fieldAddr Tryz.underlying32 rfl Tryz.sizeOf3 (by decide) rfl) rfl rfl rfl ?_
              refine VQ_ge rfl rfl rfl hc47 ?_
              refine VQ_y (fun w' hw' => Y_load (El.int (El.kp (Dw := Dw) h54 hw')) Tryz.isAgg3 rfl) rfl rfl rfl ?_
              refine VQ_ge rfl rfl rfl hc47 ?_
              refine VQ_y (fun w' hw' => Y_leq rfl rfl) rfl rfl rfl ?_
              refine VQ_y (fun _ _ => Y_pick_te rfl hc47 rfl) rfl rfl rfl ?_
              obtain rfl := Option.some.inj hs48
              exact VQ_end fun a ha => ⟨(), ha.sub ⟨rfl, rfl, rfl, rfl, rfl, rfl, trivial⟩, trivial⟩
            · rw [if_neg (nt hc47)] at hs48
              refine VQ_gn rfl rfl rfl hc47 rfl rfl rfl ?_
              refine VQ_gn rfl rfl rfl hc47 rfl rfl rfl ?_
              refine VQ_gn rfl rfl rfl hc47 rfl rfl rfl ?_
              refine VQ_gn rfl rfl rfl hc47 rfl rfl rfl ?_
              refine VQ_gn rfl rfl rfl hc47 rfl rfl rfl ?_
              refine VQ_gn rfl rfl rfl hc47 rfl rfl rfl ?_
              refine VQ_gn rfl rfl rfl hc47 rfl rfl rfl ?_
              refine VQ_gn rfl rfl rfl hc47 rfl rfl rfl ?_
              refine VQ_gn rfl rfl rfl hc47 rfl rfl rfl ?_
              refine VQ_y (fun _ _ => Y_pick_fe rfl hc47 rfl) rfl rfl rfl ?_
              obtain rfl := Option.some.inj hs48
              exact VQ_end fun a ha => ⟨(), ha.sub ⟨rfl, rfl, rfl, rfl, rfl, rfl, trivial⟩, trivial⟩
          simp only [List.take, List.drop]
          rintro _ _
          refine VQ_y (fun w' hw' => Y_assign rfl) rfl rfl rfl ?_
          refine VQ_to (fun _ _ => rfl) (fun w55 hk56 => ?_)
          have ht57 := Kp.tr (Dw := Dw) hk56 hA hB
          replace hH := Hp.kp (Dw := Dw) hH hk56
          replace h_l := Sl.tr (Dw := Dw) h_l ht57
          replace h42 := El.tr (Dw := Dw) h42 ht57
          replace hK := Tr.trans (Dw := Dw) hK ht57
          replace hr6 := Tr.trans (Dw := Dw) hr6 ht57
          replace hB := Nat.le_trans hB ht57.ex.size
          replace hA := ht57.new
          refine C_cond rfl (fun hc58 => ?_) (fun hc58 => ?_)
          · rw [if_pos hc58] at h19
            refine C_seq ?_
            refine C_region ?_
            refine V_y (Y_assign rfl) rfl rfl rfl ?_
            refine V_to (fun _ _ => rfl) ?_
            obtain rfl := Option.some.inj h19
            obtain rfl := (h20 : Lp.rt _ = _)
            rw [Lp.andThen_rt] at hm
            obtain rfl := Option.some.inj hm
            refine C_ret ?_
            try simp only [↓inBlock_ret, ↓then_ret]
            exact retQ rfl (Res.one Tryz.results9 rfl) ⟨rfl, hK.kp⟩
          · rw [if_neg (nt hc58)] at h19
            refine C_seq ?_
            refine C_region ?_
            have h59 := El_route_Person_1 h42
            refine V_y (Y_fieldAddr Tryz.underlying32 rfl Tryz.sizeOf3 (by decide) rfl) rfl rfl rfl ?_
            refine V_y (Y_load (El.int h59) Tryz.isAgg3 rfl) rfl rfl rfl ?_
            refine V_call Tryz.call48 rfl rfl rfl rfl (route_within_c w55 x27.capacity 0 100) ?_
            rintro _ _ ⟨rfl, rfl⟩
            refine V_y (Y_not rfl) rfl rfl rfl ?_
            refine V_y (Y_move rfl) rfl rfl rfl ?_
            refine V_cut 5 (fun _ : Unit => [(0, v_l), (4, .pointer (some ⟨b34, 0, none⟩)), (9, v_l), (10, .int .i64 (l.length : Int)), (11, .int .i64 (k7 : Int)), (45, .bool ((!(route_within x27.capacity 0 100)) || (!(route_within x27.calendar 0 19))))]) (fun _ w' => w55 = w') ?_ ?_
            · simp only [List.take, List.drop]
              rcases Bool.eq_false_or_eq_true (!(route_within x27.capacity 0 100)) with hc60 | hc60
              · refine V_gn rfl rfl rfl hc60 rfl rfl rfl ?_
                refine V_gn rfl rfl rfl hc60 rfl rfl rfl ?_
                refine V_gn rfl rfl rfl hc60 rfl rfl rfl ?_
                refine V_gn rfl rfl rfl hc60 rfl rfl rfl ?_
                refine V_y (Y_pick_te rfl hc60 rfl) rfl rfl rfl ?_
                exact V_end fun a ha => ⟨(), ha.sub ⟨rfl, rfl, rfl, rfl, rfl, (by rw [hc60]; rfl), trivial⟩, rfl⟩
              · refine V_ge rfl rfl rfl hc60 ?_
                have h62 := El_route_Person_2 h42
                refine V_y (Y_fieldAddr Tryz.underlying32 rfl Tryz.sizeOf3 (by decide) rfl) rfl rfl rfl ?_
                refine V_ge rfl rfl rfl hc60 ?_
                refine V_y (Y_load (El.int h62) Tryz.isAgg3 rfl) rfl rfl rfl ?_
                refine V_ge rfl rfl rfl hc60 ?_
                refine V_call Tryz.call48 rfl rfl rfl rfl (route_within_c w55 x27.calendar 0 19) ?_
                rintro _ _ ⟨rfl, rfl⟩
                refine V_ge rfl rfl rfl hc60 ?_
                refine V_y (Y_not rfl) rfl rfl rfl ?_
                refine V_y (Y_pick_fe rfl hc60 rfl) rfl rfl rfl ?_
                exact V_end fun a ha => ⟨(), ha.sub ⟨rfl, rfl, rfl, rfl, rfl, (by rw [hc60]; rfl), trivial⟩, rfl⟩
            simp only [List.take, List.drop]
            rintro _ _ rfl
            refine V_y (Y_assign rfl) rfl rfl rfl ?_
            refine V_to (fun _ _ => rfl) ?_
            refine C_cond rfl (fun hc63 => ?_) (fun hc63 => ?_)
            · rw [if_pos hc63] at h19
              refine C_seq ?_
              refine C_region ?_
              refine V_y (Y_assign rfl) rfl rfl rfl ?_
              refine V_to (fun _ _ => rfl) ?_
              obtain rfl := Option.some.inj h19
              obtain rfl := (h20 : Lp.rt _ = _)
              rw [Lp.andThen_rt] at hm
              obtain rfl := Option.some.inj hm
              refine C_ret ?_
              try simp only [↓inBlock_ret, ↓then_ret]
              exact retQ rfl (Res.one Tryz.results9 rfl) ⟨rfl, hK.kp⟩
            · rw [if_neg (nt hc63)] at h19
              refine C_skip_to (fun _ _ => rfl) ?_
              refine C_seq ?_
              refine C_region ?_
              have h64 := El_route_Person_3 h42
              refine V_y (Y_fieldAddr Tryz.underlying32 rfl Tryz.sizeOf30 (by decide) rfl) rfl rfl rfl ?_
              obtain ⟨v65, h66, h67⟩ := El.list h64
              refine V_y (Y_load h66 Tryz.isAgg30 rfl) rfl rfl rfl ?_
              obtain ⟨x68, hx68, h19⟩ := Option.bind_eq_some_iff.1 h19
              refine V_call Tryz.call49 rfl rfl rfl rfl (route_checkSkills_c (Dw := Dw) w55 hA x27.skills v65 h67 hx68) ?_
              rintro _ w69 ⟨rfl, hk70⟩
              have ht71 := Kp.tr (Dw := Dw) hk70 hA hB
              replace hH := Hp.kp (Dw := Dw) hH hk70
              replace h_l := Sl.tr (Dw := Dw) h_l ht71
              replace h42 := El.tr (Dw := Dw) h42 ht71
              replace h64 := El.tr (Dw := Dw) h64 ht71
              replace h67 := Sl.tr (Dw := Dw) h67 ht71
              replace hK := Tr.trans (Dw := Dw) hK ht71
              replace hr6 := Tr.trans (Dw := Dw) hr6 ht71
              replace hB := Nat.le_trans hB ht71.ex.size
              replace hA := ht71.new
              refine V_y (Y_assign rfl) rfl rfl rfl ?_
              refine V_to (fun _ _ => rfl) ?_
              refine C_seq ?_
              refine C_region ?_
              refine V_y (Y_move rfl) rfl rfl rfl ?_
              refine V_y (Y_neq rfl rfl) rfl rfl rfl ?_
              refine V_to (fun _ _ => rfl) ?_
              refine C_cond rfl (fun hc72 => ?_) (fun hc72 => ?_)
              · rw [if_pos hc72] at h19
                refine C_seq ?_
                refine C_region ?_
                refine V_y (Y_move rfl) rfl rfl rfl ?_
                refine V_y (Y_assign rfl) rfl rfl rfl ?_
                refine V_to (fun _ _ => rfl) ?_
                obtain rfl := Option.some.inj h19
                obtain rfl := (h20 : Lp.rt _ = _)
                rw [Lp.andThen_rt] at hm
                obtain rfl := Option.some.inj hm
                refine C_ret ?_
                try simp only [↓inBlock_ret, ↓then_ret]
                exact retQ rfl (Res.one Tryz.results9 rfl) ⟨rfl, hK.kp⟩
              · rw [if_neg (nt hc72)] at h19
                refine C_skip_to (fun _ _ => rfl) ?_
                refine C_region ?_
                refine V_y (Y_addI rfl rfl) rfl rfl rfl ?_
                refine V_y (Y_move rfl) rfl rfl rfl ?_
                obtain rfl := Option.some.inj h19
                refine V_end (fun a ha73 => ?_)
                exact ⟨(), hlt22, h20, ⟨A16, ha73.sub ⟨rfl, rfl, rfl, (congrArg (fun z => some (Value.int .i64 z)) (w64_succ hlt22 hn25)), trivial⟩, ⟨hH, hr6⟩⟩⟩
      · refine C_exit (fun a ha74 => ?_)
        exact ⟨((), A16), ha74.sub trivial, ⟨(h23 (eq_of_dec hle21 hc26)).symm, hH, hr6⟩⟩
    rintro ⟨s5, A12⟩ w9 ⟨rfl, hH13, hk10⟩ a ha11
    rw [Lp.andThen_fin] at hm
    replace hK := Tr.trans (Dw := Dw) hK hk10
    replace hB := Nat.le_trans hB hk10.ex.size
    replace hA := hk10.new
    replace hH : Hp w.heap.size A12 w9 ([]) := hH13
    refine C_at (n := ⟨53, [], none⟩) (fun _ _ => rfl) ?_ ha11
    refine C_seq ?_
    refine C_region ?_
    refine V_y (Y_assign rfl) rfl rfl rfl ?_
    refine V_to (fun _ _ => rfl) ?_
    obtain rfl := Option.some.inj hm
    refine C_ret ?_
    try simp only [↓inBlock_ret, ↓then_ret]
    exact retQ rfl (Res.one Tryz.results9 rfl) ⟨rfl, hK.kp⟩

end Go.Proofs.YtpiihecmmdeofaaGreatDoor.W
