/-
  Written by program (gen.py) from the IR of the dump: each function computes its model.
-/
import Derived.Test.YtcokjipcmpfgbaaDoorProg
import Derived.Test.YtcokjipcmpfgbaaDoorGe
import Derived.Test.YtcokjipcmpfgbaaDoorKnowChecksM
import Derived.KernelRfl
import Derived.Shelf.Strings.Replace
import Derived.Shelf.Strings.Split
import Derived.Test.YtcokjipcmpfgbaaDoorGg
import Derived.Test.YtcokjipcmpfgbaaDoorGv
namespace Go.Proofs.YtcokjipcmpfgbaaDoor.W
open Go Go.RowKit Go.Pu Go.Gw Go.Proofs Go.Proofs.YtcokjipcmpfgbaaDoor.M
set_option linter.unusedVariables false
set_option linter.unusedSimpArgs false

theorem Tryd_info34 : Tryd.prog.info? 34 = some Tryd.t34 := by kernel_rfl
theorem Tryd_info71 : Tryd.prog.info? 71 = some Tryd.t71 := by kernel_rfl
theorem Tryd_places34 : ∀ fs, Tryd.prog.underlying 34 = some (.struct fs) → ∀ w : World, (Array.mapM (fun (f : Field) => do pure (f.offset, ← Go.sizeOf f.type)) fs).run Tryd.prog w = .ok #[(0, 1), (1, 1), (2, 1)] w := by
  intro fs h w
  rw [Tryd.underlying34] at h
  cases h
  kernel_rfl
theorem Tryd_eqt34_10000 (a0 : Int) (a1 : ByteArray) (a2 : ByteArray) (b0 : Int) (b1 : ByteArray) (b2 : ByteArray) (w : World) : (Op.equalIn 10000 34 (.agg #[.int .i64 a0, .string a1, .string a2]) (.agg #[.int .i64 b0, .string b1, .string b2])).run Tryd.prog w = .ok (a0 == b0 && (strEq a1 b1 && (strEq a2 b2))) w := by
  refine (run_equalIn_struct w 9999 34 _ _ (by kernel_rfl) (by kernel_rfl)).trans ?_
  rw [show Tryd.prog.fieldsOf 34 = _ from by unfold Program.fieldsOf; rw [Tryd.underlying34]]
  cases h0 : (a0 == b0) <;> cases h1 : (strEq a1 b1) <;> cases h2 : (strEq a2 b2) <;> simp_all [Op.eqFields, part, strEq, Tryd.isAgg3, Tryd.isAgg9, run_equalIn_int _ _ _ _ _ _ _ Tryd.underlying3, run_equalIn_string _ _ _ _ _ Tryd.underlying9]
theorem Tryd_eqg34 : Tryd.prog.eqGuardType Tryd.prog.depth 34 = false := by kernel_rfl
theorem Tryd_mixed : Tryd.prog.follows .mixedOrders = true := by kernel_rfl

instance : GoT know_Version := GoT.of (β := Int × ByteArray × ByteArray) fun x => (x.at_, x.title, x.body)

instance : Flat know_Version := ⟨fun {A w A1 w1 cs x} h => Flat.flat (α := Int × ByteArray × ByteArray) (x := (x.at_, x.title, x.body)) (A := A) (w := w) h⟩

theorem El_know_Version_ {A : Nat → Prop} {w : World} {b off : Nat} {x : know_Version} (h : El A w b off x) : El (α := Int × ByteArray × ByteArray) A w b off (x.at_, x.title, x.body) := h

theorem El_know_Version_0 {A : Nat → Prop} {w : World} {b off : Nat} {x : know_Version} (h : El A w b off x) : El A w b (off + 0) x.at_ := El.fst (El_know_Version_ h)

theorem El_know_Version_1 {A : Nat → Prop} {w : World} {b off : Nat} {x : know_Version} (h : El A w b off x) : El A w b (off + 1) x.title := El.fst (El.snd (El_know_Version_ h))

theorem El_know_Version_2 {A : Nat → Prop} {w : World} {b off : Nat} {x : know_Version} (h : El A w b off x) : El A w b (off + 2) x.body := El.snd (El.snd (El_know_Version_ h))

theorem El_know_Version {A : Nat → Prop} {w : World} {b off : Nat} {x : know_Version} (h : El A w b off x) : At w b off [.int .i64 x.at_, .string x.title, .string x.body] ∧ True := by
  obtain ⟨h1, h2, cs, h3, h4⟩ := h
  obtain ⟨_, _, rfl, rfl, ⟨_, _, rfl, rfl, rfl⟩⟩ := h3
  exact ⟨h4, trivial⟩

instance : GoT know_Article := GoT.of (β := Int × Int × (List know_Version)) fun x => (x.id, x.group, x.versions)

theorem El_know_Article_ {A : Nat → Prop} {w : World} {b off : Nat} {x : know_Article} (h : El A w b off x) : El (α := Int × Int × (List know_Version)) A w b off (x.id, x.group, x.versions) := h

theorem El_know_Article_0 {A : Nat → Prop} {w : World} {b off : Nat} {x : know_Article} (h : El A w b off x) : El A w b (off + 0) x.id := El.fst (El_know_Article_ h)

theorem El_know_Article_1 {A : Nat → Prop} {w : World} {b off : Nat} {x : know_Article} (h : El A w b off x) : El A w b (off + 1) x.group := El.fst (El.snd (El_know_Article_ h))

theorem El_know_Article_2 {A : Nat → Prop} {w : World} {b off : Nat} {x : know_Article} (h : El A w b off x) : El A w b (off + 2) x.versions := El.snd (El.snd (El_know_Article_ h))

theorem El_know_Article {A : Nat → Prop} {w : World} {b off : Nat} {x : know_Article} (h : El A w b off x) : ∃ v1, At w b off [.int .i64 x.id, .int .i64 x.group, v1] ∧ Sl A w v1 x.versions := by
  obtain ⟨h1, h2, cs, h3, h4⟩ := h
  obtain ⟨_, _, rfl, rfl, ⟨_, _, rfl, rfl, ⟨u1, rfl, g1⟩⟩⟩ := h3
  exact ⟨u1, h4, g1⟩

instance : GoT know_Entry := GoT.of (β := Int × ByteArray × ByteArray) fun x => (x.id, x.title, x.body)

instance : Flat know_Entry := ⟨fun {A w A1 w1 cs x} h => Flat.flat (α := Int × ByteArray × ByteArray) (x := (x.id, x.title, x.body)) (A := A) (w := w) h⟩

theorem El_know_Entry_ {A : Nat → Prop} {w : World} {b off : Nat} {x : know_Entry} (h : El A w b off x) : El (α := Int × ByteArray × ByteArray) A w b off (x.id, x.title, x.body) := h

theorem El_know_Entry_0 {A : Nat → Prop} {w : World} {b off : Nat} {x : know_Entry} (h : El A w b off x) : El A w b (off + 0) x.id := El.fst (El_know_Entry_ h)

theorem El_know_Entry_1 {A : Nat → Prop} {w : World} {b off : Nat} {x : know_Entry} (h : El A w b off x) : El A w b (off + 1) x.title := El.fst (El.snd (El_know_Entry_ h))

theorem El_know_Entry_2 {A : Nat → Prop} {w : World} {b off : Nat} {x : know_Entry} (h : El A w b off x) : El A w b (off + 2) x.body := El.snd (El.snd (El_know_Entry_ h))

theorem El_know_Entry {A : Nat → Prop} {w : World} {b off : Nat} {x : know_Entry} (h : El A w b off x) : At w b off [.int .i64 x.id, .string x.title, .string x.body] ∧ True := by
  obtain ⟨h1, h2, cs, h3, h4⟩ := h
  obtain ⟨_, _, rfl, rfl, ⟨_, _, rfl, rfl, rfl⟩⟩ := h3
  exact ⟨h4, trivial⟩

def Tryd_contains_lay_ren : Go.Shelf.Ren := ⟨fun | 15 => 117 | 17 => 98 | 20 => 143 | n => n, fun | 0 => 0 | 1 => 1 | 2 => 2 | 3 => 3 | 4 => 4 | 5 => 5 | 6 => 6 | 7 => 7 | 8 => 8 | 9 => 9 | 10 => 10 | 11 => 11 | 12 => 12 | 13 => 13 | 14 => 14 | 15 => 15 | 16 => 16 | 17 => 17 | 18 => 18 | 19 => 19 | 20 => 20 | 21 => 21 | 23 => 136 | 26 => 151 | 27 => 177 | 28 => 135 | 29 => 191 | 30 => 180 | 31 => 152 | 32 => 153 | 33 => 190 | 34 => 192 | 35 => 144 | 36 => 193 | 37 => 194 | 38 => 195 | 39 => 102 | 40 => 202 | 41 => 203 | 42 => 204 | 43 => 205 | 44 => 206 | 45 => 207 | 46 => 163 | 47 => 208 | 48 => 209 | 49 => 210 | 50 => 128 | 51 => 211 | 52 => 212 | 53 => 213 | 54 => 214 | 55 => 145 | n => n, fun | 0 => 4 | 1 => 5 | n => n⟩
theorem Tryd_contains_lay : Go.Proofs.LaysGw.n17 Tryd.prog Tryd_contains_lay_ren := {
  mixed := by kernel_rfl,
  f15 := Tryd.func117.trans (congrArg some (by kernel_rfl)),
  f17 := Tryd.func98.trans (congrArg some (by kernel_rfl)),
  f20 := Tryd.func143.trans (congrArg some (by kernel_rfl)),
  t0 := Tryd.underlying0,
  a0 := Tryd.isAgg0,
  z0 := Tryd.sizeOf0,
  v0 := Tryd.zeroValue0,
  i0 := by kernel_rfl,
  t3 := Tryd.underlying3,
  a3 := Tryd.isAgg3,
  z3 := Tryd.sizeOf3,
  v3 := Tryd.zeroValue3,
  i3 := by kernel_rfl,
  t4 := Tryd.underlying4,
  a4 := Tryd.isAgg4,
  z4 := Tryd.sizeOf4,
  v4 := Tryd.zeroValue4,
  i4 := by kernel_rfl,
  t9 := Tryd.underlying9,
  a9 := Tryd.isAgg9,
  z9 := Tryd.sizeOf9,
  v9 := Tryd.zeroValue9,
  i9 := by kernel_rfl,
  t21 := Tryd.underlying21,
  a21 := Tryd.isAgg21,
  z21 := Tryd.sizeOf21,
  v21 := Tryd.zeroValue21,
  i21 := by kernel_rfl,
  t23 := Tryd.underlying136,
  a23 := Tryd.isAgg136,
  z23 := Tryd.sizeOf136,
  v23 := Tryd.zeroValue136,
  i23 := by kernel_rfl }

set_option maxRecDepth 4000 in
set_option maxHeartbeats 4000000 in
theorem know_within_c (w : World) (n : Int) (low : Int) (high : Int) : Ret Tryd.prog 33 #[.int .i64 n, .int .i64 low, .int .i64 high] w fun v w' => v = .bool (know_within n low high) ∧ w = w' := by
  generalize hm : know_within n low high = r
  unfold know_within at hm
  refine enter Tryd.func33 rfl Tryd.ntmps33 rfl ?_
  refine C_seq ?_
  refine C_region ?_
  refine V_y (Y_assign rfl) rfl rfl rfl ?_
  refine V_to (fun _ _ => rfl) ?_
  refine C_seq ?_
  refine C_region ?_
  refine V_y (Y_move rfl) rfl rfl rfl ?_
  refine V_y (Y_move rfl) rfl rfl rfl ?_
  refine V_y (Y_geq rfl rfl) rfl rfl rfl ?_
  refine V_y (Y_move rfl) rfl rfl rfl ?_
  refine V_cut 4 (fun _ : Unit => [(14, .bool ((decide (low ≤ n)) && (decide (n ≤ high))))]) (fun _ w' => w = w') ?_ ?_
  · simp only [List.take, List.drop]
    rcases Bool.eq_false_or_eq_true (decide (low ≤ n)) with hc1 | hc1
    · refine V_ge rfl rfl rfl hc1 ?_
      refine V_y (Y_move rfl) rfl rfl rfl ?_
      refine V_ge rfl rfl rfl hc1 ?_
      refine V_y (Y_move rfl) rfl rfl rfl ?_
      refine V_ge rfl rfl rfl hc1 ?_
      refine V_y (Y_leq rfl rfl) rfl rfl rfl ?_
      refine V_y (Y_pick_te rfl hc1 rfl) rfl rfl rfl ?_
      exact V_end fun a ha => ⟨(), ha.sub ⟨(by rw [hc1]; rfl), trivial⟩, rfl⟩
    · refine V_gn rfl rfl rfl hc1 rfl rfl rfl ?_
      refine V_gn rfl rfl rfl hc1 rfl rfl rfl ?_
      refine V_gn rfl rfl rfl hc1 rfl rfl rfl ?_
      refine V_y (Y_pick_fe rfl hc1 rfl) rfl rfl rfl ?_
      exact V_end fun a ha => ⟨(), ha.sub ⟨(by rw [hc1]; rfl), trivial⟩, rfl⟩
  simp only [List.take, List.drop]
  rintro _ _ rfl
  refine V_y (Y_assign rfl) rfl rfl rfl ?_
  refine V_to (fun _ _ => rfl) ?_
  obtain rfl := hm
  refine C_ret ?_
  try simp only [↓inBlock_ret, ↓then_ret]
  exact retQ rfl (Res.one Tryd.results33 rfl) ⟨rfl, rfl⟩

def Tryd_strings_genSplit_lay_ren : Go.Shelf.Ren := ⟨fun | 138 => 111 | 143 => 62 | 195 => 140 | 197 => 118 | 217 => 94 | 218 => 141 | 219 => 96 | 221 => 93 | 224 => 115 | 225 => 114 | 260 => 144 | 266 => 112 | 267 => 116 | 268 => 110 | 314 => 142 | n => n, fun | 0 => 0 | 1 => 1 | 2 => 2 | 3 => 3 | 4 => 4 | 5 => 5 | 6 => 6 | 7 => 7 | 8 => 8 | 9 => 9 | 10 => 10 | 11 => 11 | 12 => 12 | 13 => 13 | 14 => 14 | 15 => 15 | 16 => 16 | 17 => 17 | 18 => 18 | 19 => 19 | 20 => 20 | 21 => 21 | 22 => 59 | 23 => 61 | 27 => 111 | 28 => 28 | 29 => 66 | 30 => 112 | 31 => 53 | 34 => 47 | 37 => 81 | 40 => 136 | 41 => 190 | 43 => 127 | 46 => 144 | 47 => 143 | 51 => 163 | 52 => 162 | 53 => 165 | 54 => 164 | 55 => 109 | 61 => 108 | 63 => 191 | 64 => 199 | 65 => 137 | 66 => 114 | 67 => 60 | 68 => 54 | 70 => 80 | 71 => 82 | 72 => 83 | 73 => 110 | 74 => 84 | 75 => 85 | 76 => 86 | 77 => 87 | 78 => 89 | 80 => 102 | 81 => 207 | 83 => 88 | 84 => 147 | 103 => 177 | 104 => 105 | 105 => 152 | 106 => 153 | 111 => 67 | 113 => 133 | 114 => 150 | 115 => 171 | 116 => 172 | 117 => 173 | 118 => 174 | 119 => 192 | 122 => 170 | 123 => 175 | 124 => 176 | 127 => 128 | 131 => 160 | 137 => 193 | 138 => 194 | 139 => 195 | 146 => 178 | 150 => 148 | 151 => 179 | 155 => 180 | 164 => 145 | 165 => 146 | 166 => 149 | 171 => 166 | 172 => 167 | 173 => 168 | 174 => 169 | 182 => 155 | 183 => 156 | 211 => 187 | 212 => 188 | 213 => 189 | 218 => 181 | 219 => 182 | 220 => 183 | 222 => 185 | 228 => 196 | 229 => 197 | 232 => 200 | 233 => 201 | 238 => 202 | 239 => 203 | 240 => 204 | 241 => 205 | 242 => 206 | 243 => 208 | 244 => 209 | 245 => 210 | 246 => 211 | 247 => 212 | 248 => 213 | 249 => 214 | n => n, fun | 1 => 2 | 3 => 4 | 4 => 5 | 17 => 3 | 18 => 6 | 19 => 7 | n => n⟩
theorem Tryd_strings_genSplit_lay : Go.Proofs.Lays.n221 Tryd.prog Tryd_strings_genSplit_lay_ren := {
  mixed := by kernel_rfl,
  f138 := Tryd.func111.trans (congrArg some (by kernel_rfl)),
  f143 := Tryd.func62.trans (congrArg some (by kernel_rfl)),
  f195 := Tryd.func140.trans (congrArg some (by kernel_rfl)),
  f197 := Tryd.func118.trans (congrArg some (by kernel_rfl)),
  f217 := Tryd.func94.trans (congrArg some (by kernel_rfl)),
  f218 := Tryd.func141.trans (congrArg some (by kernel_rfl)),
  f219 := Tryd.func96.trans (congrArg some (by kernel_rfl)),
  f221 := Tryd.func93.trans (congrArg some (by kernel_rfl)),
  f224 := Tryd.func115.trans (congrArg some (by kernel_rfl)),
  f225 := Tryd.func114.trans (congrArg some (by kernel_rfl)),
  f260 := Tryd.func144.trans (congrArg some (by kernel_rfl)),
  f266 := Tryd.func112.trans (congrArg some (by kernel_rfl)),
  f267 := Tryd.func116.trans (congrArg some (by kernel_rfl)),
  f268 := Tryd.func110.trans (congrArg some (by kernel_rfl)),
  f314 := Tryd.func142.trans (congrArg some (by kernel_rfl)),
  t0 := Tryd.underlying0,
  a0 := Tryd.isAgg0,
  z0 := Tryd.sizeOf0,
  v0 := Tryd.zeroValue0,
  t3 := Tryd.underlying3,
  a3 := Tryd.isAgg3,
  z3 := Tryd.sizeOf3,
  v3 := Tryd.zeroValue3,
  t4 := Tryd.underlying4,
  a4 := Tryd.isAgg4,
  z4 := Tryd.sizeOf4,
  v4 := Tryd.zeroValue4,
  t5 := Tryd.underlying5,
  a5 := Tryd.isAgg5,
  z5 := Tryd.sizeOf5,
  v5 := Tryd.zeroValue5,
  t9 := Tryd.underlying9,
  a9 := Tryd.isAgg9,
  z9 := Tryd.sizeOf9,
  v9 := Tryd.zeroValue9,
  t21 := Tryd.underlying21,
  a21 := Tryd.isAgg21,
  z21 := Tryd.sizeOf21,
  v21 := Tryd.zeroValue21,
  t31 := Tryd.underlying53,
  a31 := Tryd.isAgg53,
  z31 := Tryd.sizeOf53,
  v31 := Tryd.zeroValue53,
  t46 := Tryd.underlying144,
  a46 := Tryd.isAgg144,
  z46 := Tryd.sizeOf144,
  v46 := Tryd.zeroValue144,
  t51 := Tryd.underlying163,
  a51 := Tryd.isAgg163,
  z51 := Tryd.sizeOf163,
  v51 := Tryd.zeroValue163,
  t105 := Tryd.underlying152,
  a105 := Tryd.isAgg152,
  z105 := Tryd.sizeOf152,
  v105 := Tryd.zeroValue152,
  t119 := Tryd.underlying192,
  a119 := Tryd.isAgg192,
  z119 := Tryd.sizeOf192,
  t138 := Tryd.underlying194,
  a138 := Tryd.isAgg194,
  z138 := Tryd.sizeOf194,
  v138 := Tryd.zeroValue194,
  t139 := Tryd.underlying195,
  a139 := Tryd.isAgg195,
  z139 := Tryd.sizeOf195,
  v139 := Tryd.zeroValue195,
  t146 := Tryd.underlying178,
  a146 := Tryd.isAgg178,
  z146 := Tryd.sizeOf178,
  v146 := Tryd.zeroValue178,
  g1 := by kernel_rfl,
  g3 := by kernel_rfl,
  g4 := by kernel_rfl }
theorem strings_genSplit_c (w : World) {A : Nat → Prop} (hA : ∀ b, w.heap.size ≤ b → A b) (hT : Mx Tryd.prog 2 A w) (s : ByteArray) (sep : ByteArray) (sepSave : Int) (n : Int) {r : List ByteArray} (hm : strings_genSplit s sep sepSave n = some r) : Ret Tryd.prog 93 #[.string s, .string sep, .int .i64 sepSave, .int .i64 n] w fun v w' => ∃ s0, v = s0 ∧ Sl A w' s0 r ∧ Kp w w' := by
  unfold strings_genSplit at hm
  split at hm
  case isFalse => cases hm
  rename_i h
  obtain ⟨h1, h2, h3, h4, rfl⟩ := h
  obtain rfl := Option.some.inj hm
  obtain ⟨⟨m, hmx⟩, _, _⟩ := hT
  obtain ⟨k, rfl⟩ := Int.eq_ofNat_of_zero_le h3
  have hlen := Go.Lib.splitB_length_le sep (k : Int).toNat (min (Go.Lib.countB s sep + 1) (s.size + 1) - 1) s
  refine split_wrap (N := min (Go.Lib.countB s sep + 1) (s.size + 1)) (sv := k) hA (by omega) (by unfold maxLen; omega) (Go.Proofs.Any.strings_genSplit Tryd_strings_genSplit_lay (by kernel_rfl) s sep k (-1) _ m w h1 hmx h2 (by omega) (by decide) (by decide) ?_)
  rw [if_pos (by decide)]
  omega

set_option maxRecDepth 4000 in
set_option maxHeartbeats 4000000 in
theorem strings_SplitAfter_c (w : World) {A : Nat → Prop} (hA : ∀ b, w.heap.size ≤ b → A b) (hT : Mx Tryd.prog 2 A w) (s : ByteArray) (sep : ByteArray) {r : (List ByteArray)} (hm : strings_SplitAfter s sep = some r) : Ret Tryd.prog 58 #[.string s, .string sep] w fun v w' => ∃ s0, v = s0 ∧ Sl A w' s0 r ∧ Kp w w' := by
  unfold strings_SplitAfter at hm
  refine enter Tryd.func58 rfl Tryd.ntmps58 rfl ?_
  have hA0 := hA
  have hB := Nat.le_refl w.heap.size
  have hK : Tr w.heap.size A w A w := Tr.refl hA
  have hH : Hp w.heap.size A w [] := Hp.nil
  refine C_seq ?_
  refine C_region ?_
  refine V_y (Y_assign rfl) rfl rfl rfl ?_
  refine V_to (fun _ _ => rfl) ?_
  refine C_seq ?_
  refine C_region ?_
  refine V_y (Y_move rfl) rfl rfl rfl ?_
  refine V_y (Y_move rfl) rfl rfl rfl ?_
  refine V_y (Y_move rfl) rfl rfl rfl ?_
  refine V_y (Y_lenStr rfl Tryd.underlying9 rfl) rfl rfl rfl ?_
  obtain ⟨x1, hx1, hm⟩ := Option.bind_eq_some_iff.1 hm
  refine V_call Tryd.call93 rfl rfl rfl rfl (strings_genSplit_c w hA (Mx.tr hT hK) s sep (sep.size : Int) (-1) hx1) ?_
  rintro v2 w4 ⟨_, rfl, h3, hk5⟩
  have ht6 := Kp.tr hk5 hA hB
  replace hH := Hp.kp hH hk5
  replace hK := Tr.trans hK ht6
  replace hB := Nat.le_trans hB ht6.ex.size
  replace hA := ht6.new
  refine V_y (Y_assign rfl) rfl rfl rfl ?_
  refine V_to (fun _ _ => rfl) ?_
  obtain rfl := Option.some.inj hm
  refine C_ret ?_
  try simp only [↓inBlock_ret, ↓then_ret]
  exact retQ rfl (Res.one Tryd.results58 rfl) ⟨v2, rfl, (Sl.out h3 hA0 hK), hK.kp⟩

set_option maxRecDepth 4000 in
set_option maxHeartbeats 4000000 in
theorem know_lines_c (w : World) {A : Nat → Prop} (hA : ∀ b, w.heap.size ≤ b → A b) (hT : Mx Tryd.prog 2 A w) (body : ByteArray) {r : (List ByteArray)} (hm : know_lines body = some r) : Ret Tryd.prog 25 #[.string body] w fun v w' => ∃ s0, v = s0 ∧ Sl A w' s0 r ∧ Kp w w' := by
  unfold know_lines at hm
  refine enter Tryd.func25 rfl Tryd.ntmps25 rfl ?_
  have hA0 := hA
  have hB := Nat.le_refl w.heap.size
  have hK : Tr w.heap.size A w A w := Tr.refl hA
  have hH : Hp w.heap.size A w [] := Hp.nil
  refine C_seq ?_
  refine C_region ?_
  refine V_y (Y_assign rfl) rfl rfl rfl ?_
  refine V_to (fun _ _ => rfl) ?_
  refine C_seq ?_
  refine C_region ?_
  refine V_y (Y_move rfl) rfl rfl rfl ?_
  obtain ⟨x1, hx1, hm⟩ := Option.bind_eq_some_iff.1 hm
  refine V_call Tryd.call58 rfl rfl rfl rfl (strings_SplitAfter_c w hA (Mx.tr hT hK) body (⟨#[10]⟩ : ByteArray) hx1) ?_
  rintro v2 w4 ⟨_, rfl, h3, hk5⟩
  have ht6 := Kp.tr hk5 hA hB
  replace hH := Hp.kp hH hk5
  replace hK := Tr.trans hK ht6
  replace hB := Nat.le_trans hB ht6.ex.size
  replace hA := ht6.new
  refine V_y (Y_assign rfl) rfl rfl rfl ?_
  refine V_to (fun _ _ => rfl) ?_
  refine C_seq ?_
  refine C_seq ?_
  refine C_region ?_
  refine V_y (Y_move rfl) rfl rfl rfl ?_
  refine V_y (Y_move rfl) rfl rfl rfl ?_
  refine V_y (Y_lenSl h3 rfl Tryd.underlying53 rfl) rfl rfl rfl ?_
  refine V_y (Y_subI rfl rfl) rfl rfl rfl ?_
  obtain ⟨x7, hx7, hm⟩ := Option.bind_eq_some_iff.1 hm
  refine V_indexAddr h3 hx7 Tryd.underlying53 Tryd.sizeOf9 rfl rfl rfl ?_
  intro b8 o9 h10
  refine V_y (Y_load (El.str h10) Tryd.isAgg9 rfl) rfl rfl rfl ?_
  refine V_y (Y_seql rfl rfl) rfl rfl rfl ?_
  refine V_to (fun _ _ => rfl) ?_
  obtain ⟨s12, ho11, hm⟩ := Option.bind_eq_some_iff.1 hm
  refine C_cutG (ι := Value) (fun (v14 : Value) => [(3, v14)]) (fun (v14 : Value) => fun w' => Sl A w' v14 s12 ∧ w4 = w') ?_ ?_
  · refine C_cond rfl (fun hc20 => ?_) (fun hc20 => ?_)
    · rw [if_pos hc20] at ho11
      refine C_region ?_
      refine V_y (Y_move rfl) rfl rfl rfl ?_
      refine V_y (Y_move rfl) rfl rfl rfl ?_
      refine V_y (Y_lenSl h3 rfl Tryd.underlying53 rfl) rfl rfl rfl ?_
      refine V_y (Y_subI rfl rfl) rfl rfl rfl ?_
      obtain ⟨x21, hx21, ho11⟩ := Option.bind_eq_some_iff.1 ho11
      obtain ⟨v22, h23, h23y⟩ := sliceL_val hx21 h3
      refine V_y (Y_sliceLH h23y Tryd.underlying53 Tryd.sizeOf9 rfl rfl) rfl rfl rfl ?_
      refine V_y (Y_assign rfl) rfl rfl rfl ?_
      obtain rfl := Option.some.inj ho11
      refine V_end (fun a ha24 => ?_)
      exact ⟨v22, ha24.sub ⟨rfl, trivial⟩, ⟨h23, rfl⟩⟩
    · rw [if_neg (nt hc20)] at ho11
      obtain rfl := Option.some.inj ho11
      refine C_skip (fun a ha25 => ?_)
      exact ⟨v2, ha25.sub ⟨rfl, trivial⟩, ⟨h3, rfl⟩⟩
  rintro v14 _ ⟨h15, rfl⟩ a ha19
  refine C_at (n := ⟨19, [], none⟩) (fun _ _ => rfl) ?_ ha19
  refine C_seq ?_
  refine C_region ?_
  refine V_y (Y_move rfl) rfl rfl rfl ?_
  refine V_y (Y_assign rfl) rfl rfl rfl ?_
  refine V_to (fun _ _ => rfl) ?_
  obtain rfl := Option.some.inj hm
  refine C_ret ?_
  try simp only [↓inBlock_ret, ↓then_ret]
  exact retQ rfl (Res.one Tryd.results25 rfl) ⟨v14, rfl, (Sl.out h15 hA0 hK), hK.kp⟩

set_option maxRecDepth 4000 in
set_option maxHeartbeats 4000000 in
theorem know_plain_c (w : World) (s : ByteArray) (feeds : Bool) {r : Bool} (hm : know_plain s feeds = some r) : Ret Tryd.prog 97 #[.string s, .bool feeds] w fun v w' => v = .bool r ∧ w = w' := by
  unfold know_plain at hm
  refine enter Tryd.func97 rfl Tryd.ntmps97 rfl ?_
  refine C_seq ?_
  refine C_region ?_
  refine V_y (Y_assign rfl) rfl rfl rfl ?_
  refine V_to (fun _ _ => rfl) ?_
  refine C_seq ?_
  refine C_seq ?_
  refine C_region ?_
  refine V_y (Y_move rfl) rfl rfl rfl ?_
  refine V_y (Y_lenStr rfl Tryd.underlying9 rfl) rfl rfl rfl ?_
  refine V_y (Y_move rfl) rfl rfl rfl ?_
  refine V_to (fun _ _ => rfl) ?_
  obtain ⟨o1, ho1, hm⟩ := Option.bind_eq_some_iff.1 hm
  refine C_cutG (ι := Int) (fun (s2 : Int) => []) (fun (s2 : Int) => fun w' => o1 = .fin s2 ∧ w = w') ?_ ?_
  · refine C_block ?_
    refine C_while ho1 (fun s8 a w' => ∃ i : Unit, Has ⟨32, [], none⟩ a ([(0, .string s), (1, .bool feeds), (7, .int .i64 (s.size : Int)), (8, .int .i64 s8)]) ∧ w = w') (fun a ha => ⟨(), ha.sub ⟨rfl, rfl, rfl, rfl, trivial⟩, rfl⟩) ?_
    rintro K s8 a _ ⟨_, ha28, rfl⟩ K16
    refine C_of ?_ ha28
    obtain ⟨x10, h11, h12⟩ := K16
    refine C_seq ?_
    refine C_region ?_
    refine V_y (Y_lss rfl rfl) rfl rfl rfl ?_
    refine V_to (fun _ _ => rfl) ?_
    refine C_seq ?_
    refine C_cond rfl (fun hc17 => ?_) (fun hc17 => ?_)
    · rw [if_pos hc17] at h11
      refine C_skip_to (fun _ _ => rfl) ?_
      refine C_seq ?_
      refine C_block ?_
      refine C_seq ?_
      refine C_region ?_
      refine V_y (Y_move rfl) rfl rfl rfl ?_
      refine V_y (Y_assign rfl) rfl rfl rfl ?_
      refine V_to (fun _ _ => rfl) ?_
      refine C_seq ?_
      refine C_region ?_
      refine V_y (Y_move rfl) rfl rfl rfl ?_
      refine V_y (Y_move rfl) rfl rfl rfl ?_
      obtain ⟨x18, hx18, h11⟩ := Option.bind_eq_some_iff.1 h11
      refine V_y (Y_indexS hx18 Tryd.underlying9 rfl rfl) rfl rfl rfl ?_
      refine V_y (Y_lss rfl rfl) rfl rfl rfl ?_
      refine V_y (Y_move rfl) rfl rfl rfl ?_
      obtain ⟨s20, hs20, h11⟩ := Option.bind_eq_some_iff.1 h11
      refine V_cut 5 (fun _ : Unit => [(0, .string s), (1, .bool feeds), (5, .int .i64 s8), (7, .int .i64 (s.size : Int)), (8, .int .i64 s8), (20, .bool s20)]) (fun _ w' => w = w') ?_ ?_
      · simp only [List.take, List.drop]
        rcases Bool.eq_false_or_eq_true (decide ((x18.toNat : Int) < 32)) with hc19 | hc19
        · rw [if_pos hc19] at hs20
          refine V_gn rfl rfl rfl hc19 rfl rfl rfl ?_
          refine V_gn rfl rfl rfl hc19 rfl rfl rfl ?_
          refine V_gn rfl rfl rfl hc19 rfl rfl rfl ?_
          refine V_gn rfl rfl rfl hc19 rfl rfl rfl ?_
          refine V_y (Y_pick_te rfl hc19 rfl) rfl rfl rfl ?_
          obtain rfl := Option.some.inj hs20
          exact V_end fun a ha => ⟨(), ha.sub ⟨rfl, rfl, rfl, rfl, rfl, rfl, trivial⟩, rfl⟩
        · rw [if_neg (nt hc19)] at hs20
          refine V_ge rfl rfl rfl hc19 ?_
          refine V_y (Y_move rfl) rfl rfl rfl ?_
          refine V_ge rfl rfl rfl hc19 ?_
          refine V_y (Y_move rfl) rfl rfl rfl ?_
          refine V_ge rfl rfl rfl hc19 ?_
          refine V_y (Y_indexS hx18 Tryd.underlying9 rfl rfl) rfl rfl rfl ?_
          refine V_ge rfl rfl rfl hc19 ?_
          refine V_y (Y_eql rfl rfl) rfl rfl rfl ?_
          refine V_y (Y_pick_fe rfl hc19 rfl) rfl rfl rfl ?_
          obtain rfl := Option.some.inj hs20
          exact V_end fun a ha => ⟨(), ha.sub ⟨rfl, rfl, rfl, rfl, rfl, rfl, trivial⟩, rfl⟩
      simp only [List.take, List.drop]
      rintro _ _ rfl
      refine V_y (Y_move rfl) rfl rfl rfl ?_
      obtain ⟨s22, hs22, h11⟩ := Option.bind_eq_some_iff.1 h11
      refine V_cut 9 (fun _ : Unit => [(0, .string s), (1, .bool feeds), (7, .int .i64 (s.size : Int)), (8, .int .i64 s8), (30, .bool s22)]) (fun _ w' => w = w') ?_ ?_
      · simp only [List.take, List.drop]
        rcases Bool.eq_false_or_eq_true (s20) with hc21 | hc21
        · rw [if_pos hc21] at hs22
          refine V_ge rfl rfl rfl hc21 ?_
          refine V_y (Y_move rfl) rfl rfl rfl ?_
          refine V_ge rfl rfl rfl hc21 ?_
          refine V_y (Y_move rfl) rfl rfl rfl ?_
          refine V_ge rfl rfl rfl hc21 ?_
          refine V_y (Y_indexS hx18 Tryd.underlying9 rfl rfl) rfl rfl rfl ?_
          refine V_ge rfl rfl rfl hc21 ?_
          refine V_y (Y_neq rfl rfl) rfl rfl rfl ?_
          refine V_ge rfl rfl rfl hc21 ?_
          refine V_y (Y_move rfl) rfl rfl rfl ?_
          refine V_cut 3 (fun _ : Unit => [(0, .string s), (1, .bool feeds), (7, .int .i64 (s.size : Int)), (8, .int .i64 s8), (21, .bool s20), (29, .bool (((x18.toNat : Int) != 10) || (!feeds)))]) (fun _ w' => w = w') ?_ ?_
          · simp only [List.take, List.drop]
            rcases Bool.eq_false_or_eq_true ((x18.toNat : Int) != 10) with hc23 | hc23
            · refine V_gn rfl rfl rfl hc23 rfl rfl rfl ?_
              refine V_gn rfl rfl rfl hc23 rfl rfl rfl ?_
              refine V_ge rfl rfl rfl hc21 ?_
              refine V_y (Y_pick_te rfl hc23 rfl) rfl rfl rfl ?_
              exact V_end fun a ha => ⟨(), ha.sub ⟨rfl, rfl, rfl, rfl, rfl, (by rw [hc23]; rfl), trivial⟩, rfl⟩
            · refine V_ge rfl rfl rfl hc23 ?_
              refine V_y (Y_move rfl) rfl rfl rfl ?_
              refine V_ge rfl rfl rfl hc23 ?_
              refine V_y (Y_not rfl) rfl rfl rfl ?_
              refine V_ge rfl rfl rfl hc21 ?_
              refine V_y (Y_pick_fe rfl hc23 rfl) rfl rfl rfl ?_
              exact V_end fun a ha => ⟨(), ha.sub ⟨rfl, rfl, rfl, rfl, rfl, (by rw [hc23]; rfl), trivial⟩, rfl⟩
          simp only [List.take, List.drop]
          rintro _ _ rfl
          refine V_y (Y_pick_te rfl hc21 rfl) rfl rfl rfl ?_
          obtain rfl := Option.some.inj hs22
          exact V_end fun a ha => ⟨(), ha.sub ⟨rfl, rfl, rfl, rfl, rfl, trivial⟩, rfl⟩
        · rw [if_neg (nt hc21)] at hs22
          refine V_gn rfl rfl rfl hc21 rfl rfl rfl ?_
          refine V_gn rfl rfl rfl hc21 rfl rfl rfl ?_
          refine V_gn rfl rfl rfl hc21 rfl rfl rfl ?_
          refine V_gn rfl rfl rfl hc21 rfl rfl rfl ?_
          refine V_gn rfl rfl rfl hc21 rfl rfl rfl ?_
          refine V_gu rfl rfl rfl rfl rfl ?_
          refine V_gu rfl rfl rfl rfl rfl ?_
          refine V_gn rfl rfl rfl hc21 rfl rfl rfl ?_
          refine V_y (Y_pick_fe rfl hc21 rfl) rfl rfl rfl ?_
          obtain rfl := Option.some.inj hs22
          exact V_end fun a ha => ⟨(), ha.sub ⟨rfl, rfl, rfl, rfl, rfl, trivial⟩, rfl⟩
      simp only [List.take, List.drop]
      rintro _ _ rfl
      refine V_to (fun _ _ => rfl) ?_
      refine C_cond rfl (fun hc25 => ?_) (fun hc25 => ?_)
      · rw [if_pos hc25] at h11
        refine C_seq ?_
        refine C_region ?_
        refine V_y (Y_assign rfl) rfl rfl rfl ?_
        refine V_to (fun _ _ => rfl) ?_
        obtain rfl := Option.some.inj h11
        obtain rfl := (h12 : Lp.rt _ = _)
        rw [Lp.andThen_rt] at hm
        obtain rfl := Option.some.inj hm
        refine C_ret ?_
        try simp only [↓inBlock_ret, ↓then_ret]
        exact retQ rfl (Res.one Tryd.results97 rfl) ⟨rfl, rfl⟩
      · rw [if_neg (nt hc25)] at h11
        refine C_skip_to (fun _ _ => rfl) ?_
        refine C_region ?_
        refine V_y (Y_addI rfl rfl) rfl rfl rfl ?_
        refine V_y (Y_move rfl) rfl rfl rfl ?_
        obtain rfl := Option.some.inj h11
        refine V_end (fun a ha26 => ?_)
        exact ⟨w64 (s8 + 1), h12, ⟨(), ha26.sub ⟨rfl, rfl, rfl, rfl, trivial⟩, rfl⟩⟩
    · rw [if_neg (nt hc17)] at h11
      obtain rfl := Option.some.inj h11
      refine C_exit (fun a ha27 => ?_)
      exact ⟨s8, ha27.sub trivial, ⟨h12.symm, rfl⟩⟩
  rintro s2 _ ⟨rfl, rfl⟩ a ha7
  rw [Lp.andThen_fin] at hm
  refine C_at (n := ⟨32, [], none⟩) (fun _ _ => rfl) ?_ ha7
  refine C_seq ?_
  refine C_region ?_
  refine V_y (Y_assign rfl) rfl rfl rfl ?_
  refine V_to (fun _ _ => rfl) ?_
  obtain rfl := Option.some.inj hm
  refine C_ret ?_
  try simp only [↓inBlock_ret, ↓then_ret]
  exact retQ rfl (Res.one Tryd.results97 rfl) ⟨rfl, rfl⟩

set_option maxRecDepth 4000 in
set_option maxHeartbeats 4000000 in
theorem know_checkText_c (w : World) (title : ByteArray) (body : ByteArray) {r : Int} (hm : know_checkText title body = some r) : Ret Tryd.prog 65 #[.string title, .string body] w fun v w' => v = .int .i64 r ∧ w = w' := by
  unfold know_checkText at hm
  refine enter Tryd.func65 rfl Tryd.ntmps65 rfl ?_
  refine C_seq ?_
  refine C_region ?_
  refine V_y (Y_assign rfl) rfl rfl rfl ?_
  refine V_to (fun _ _ => rfl) ?_
  refine C_seq ?_
  refine C_seq ?_
  refine C_region ?_
  refine V_y (Y_move rfl) rfl rfl rfl ?_
  refine V_y (Y_lenStr rfl Tryd.underlying9 rfl) rfl rfl rfl ?_
  refine V_y (Y_gtr rfl rfl) rfl rfl rfl ?_
  refine V_y (Y_move rfl) rfl rfl rfl ?_
  refine V_cut 4 (fun _ : Unit => [(0, .string title), (1, .string body), (12, .bool ((decide ((200 : Int) < (title.size : Int))) || (decide ((20000 : Int) < (body.size : Int)))))]) (fun _ w' => w = w') ?_ ?_
  · simp only [List.take, List.drop]
    rcases Bool.eq_false_or_eq_true (decide ((200 : Int) < (title.size : Int))) with hc1 | hc1
    · refine V_gn rfl rfl rfl hc1 rfl rfl rfl ?_
      refine V_gn rfl rfl rfl hc1 rfl rfl rfl ?_
      refine V_gn rfl rfl rfl hc1 rfl rfl rfl ?_
      refine V_y (Y_pick_te rfl hc1 rfl) rfl rfl rfl ?_
      exact V_end fun a ha => ⟨(), ha.sub ⟨rfl, rfl, (by rw [hc1]; rfl), trivial⟩, rfl⟩
    · refine V_ge rfl rfl rfl hc1 ?_
      refine V_y (Y_move rfl) rfl rfl rfl ?_
      refine V_ge rfl rfl rfl hc1 ?_
      refine V_y (Y_lenStr rfl Tryd.underlying9 rfl) rfl rfl rfl ?_
      refine V_ge rfl rfl rfl hc1 ?_
      refine V_y (Y_gtr rfl rfl) rfl rfl rfl ?_
      refine V_y (Y_pick_fe rfl hc1 rfl) rfl rfl rfl ?_
      exact V_end fun a ha => ⟨(), ha.sub ⟨rfl, rfl, (by rw [hc1]; rfl), trivial⟩, rfl⟩
  simp only [List.take, List.drop]
  rintro _ _ rfl
  refine V_to (fun _ _ => rfl) ?_
  refine C_cond rfl (fun hc3 => ?_) (fun hc3 => ?_)
  · rw [if_pos hc3] at hm
    refine C_seq ?_
    refine C_region ?_
    refine V_y (Y_assign rfl) rfl rfl rfl ?_
    refine V_to (fun _ _ => rfl) ?_
    obtain rfl := Option.some.inj hm
    refine C_ret ?_
    try simp only [↓inBlock_ret, ↓then_ret]
    exact retQ rfl (Res.one Tryd.results65 rfl) ⟨rfl, rfl⟩
  · rw [if_neg (nt hc3)] at hm
    refine C_skip_to (fun _ _ => rfl) ?_
    refine C_seq ?_
    refine C_seq ?_
    refine C_region ?_
    refine V_y (Y_move rfl) rfl rfl rfl ?_
    obtain ⟨x4, hx4, hm⟩ := Option.bind_eq_some_iff.1 hm
    refine V_call Tryd.call97 rfl rfl rfl rfl (know_plain_c w title false hx4) ?_
    rintro _ _ ⟨rfl, rfl⟩
    refine V_y (Y_not rfl) rfl rfl rfl ?_
    refine V_y (Y_move rfl) rfl rfl rfl ?_
    obtain ⟨s6, hs6, hm⟩ := Option.bind_eq_some_iff.1 hm
    refine V_cut 4 (fun _ : Unit => [(20, .bool s6)]) (fun _ w' => w = w') ?_ ?_
    · simp only [List.take, List.drop]
      rcases Bool.eq_false_or_eq_true (!x4) with hc5 | hc5
      · rw [if_pos hc5] at hs6
        refine V_gn rfl rfl rfl hc5 rfl rfl rfl ?_
        refine V_gn rfl rfl rfl hc5 rfl rfl rfl ?_
        refine V_gn rfl rfl rfl hc5 rfl rfl rfl ?_
        refine V_y (Y_pick_te rfl hc5 rfl) rfl rfl rfl ?_
        obtain rfl := Option.some.inj hs6
        exact V_end fun a ha => ⟨(), ha.sub ⟨rfl, trivial⟩, rfl⟩
      · rw [if_neg (nt hc5)] at hs6
        refine V_ge rfl rfl rfl hc5 ?_
        refine V_y (Y_move rfl) rfl rfl rfl ?_
        refine V_ge rfl rfl rfl hc5 ?_
        obtain ⟨x7, hx7, hs6⟩ := Option.bind_eq_some_iff.1 hs6
        refine V_call Tryd.call97 rfl rfl rfl rfl (know_plain_c w body true hx7) ?_
        rintro _ _ ⟨rfl, rfl⟩
        refine V_ge rfl rfl rfl hc5 ?_
        refine V_y (Y_not rfl) rfl rfl rfl ?_
        refine V_y (Y_pick_fe rfl hc5 rfl) rfl rfl rfl ?_
        obtain rfl := Option.some.inj hs6
        exact V_end fun a ha => ⟨(), ha.sub ⟨rfl, trivial⟩, rfl⟩
    simp only [List.take, List.drop]
    rintro _ _ rfl
    refine V_to (fun _ _ => rfl) ?_
    refine C_cond rfl (fun hc8 => ?_) (fun hc8 => ?_)
    · rw [if_pos hc8] at hm
      refine C_seq ?_
      refine C_region ?_
      refine V_y (Y_assign rfl) rfl rfl rfl ?_
      refine V_to (fun _ _ => rfl) ?_
      obtain rfl := Option.some.inj hm
      refine C_ret ?_
      try simp only [↓inBlock_ret, ↓then_ret]
      exact retQ rfl (Res.one Tryd.results65 rfl) ⟨rfl, rfl⟩
    · rw [if_neg (nt hc8)] at hm
      refine C_skip_to (fun _ _ => rfl) ?_
      refine C_seq ?_
      refine C_region ?_
      refine V_y (Y_assign rfl) rfl rfl rfl ?_
      refine V_to (fun _ _ => rfl) ?_
      obtain rfl := Option.some.inj hm
      refine C_ret ?_
      try simp only [↓inBlock_ret, ↓then_ret]
      exact retQ rfl (Res.one Tryd.results65 rfl) ⟨rfl, rfl⟩

set_option maxRecDepth 4000 in
set_option maxHeartbeats 4000000 in
theorem know_checkVersion_c (w : World) {A : Nat → Prop} (hA : ∀ b, w.heap.size ≤ b → A b) (hT : Mx Tryd.prog 2 A w) (v : know_Version) (before : Int) {r : Int} (hm : know_checkVersion v before = some r) : Ret Tryd.prog 39 #[.agg #[.int .i64 v.at_, .string v.title, .string v.body], .int .i64 before] w fun v w' => v = .int .i64 r ∧ Kp w w' := by
  unfold know_checkVersion at hm
  refine enter Tryd.func39 rfl Tryd.ntmps39 rfl ?_
  have hA0 := hA
  have hB := Nat.le_refl w.heap.size
  have hK : Tr w.heap.size A w A w := Tr.refl hA
  have hH : Hp w.heap.size A w [] := Hp.nil
  refine C_seq ?_
  refine C_region ?_
  refine V_box rfl rfl ?_
  intro b1 w2 h3
  have hk5 := h3.kp
  have h4 : El (α := know_Version) A w2 b1 0 v := h3.el hA ⟨[.int .i64 v.at_], _, rfl, rfl, ⟨[.string v.title], _, rfl, rfl, rfl⟩⟩
  have ht6 := Kp.tr hk5 hA hB
  replace hH := Hp.kp hH hk5
  replace hK := Tr.trans hK ht6
  replace hB := Nat.le_trans hB ht6.ex.size
  replace hA := ht6.new
  refine V_y (Y_assign rfl) rfl rfl rfl ?_
  refine V_to (fun _ _ => rfl) ?_
  refine C_seq ?_
  refine C_block ?_
  refine C_seq ?_
  refine C_region ?_
  have h7 := El_know_Version_0 h4
  refine V_y (Y_fieldAddr Tryd.underlying71 rfl Tryd.sizeOf3 (by decide) rfl) rfl rfl rfl ?_
  refine V_y (Y_load (El.int h7) Tryd.isAgg3 rfl) rfl rfl rfl ?_
  refine V_call Tryd.call33 rfl rfl rfl rfl (know_within_c w2 v.at_ 0 3000000) ?_
  rintro _ _ ⟨rfl, rfl⟩
  refine V_y (Y_not rfl) rfl rfl rfl ?_
  refine V_y (Y_assign rfl) rfl rfl rfl ?_
  refine V_to (fun _ _ => rfl) ?_
  refine C_cond rfl (fun hc8 => ?_) (fun hc8 => ?_)
  · rw [if_pos hc8] at hm
    refine C_seq ?_
    refine C_region ?_
    refine V_y (Y_assign rfl) rfl rfl rfl ?_
    refine V_to (fun _ _ => rfl) ?_
    obtain rfl := Option.some.inj hm
    refine C_ret ?_
    try simp only [↓inBlock_ret, ↓then_ret]
    exact retQ rfl (Res.one Tryd.results39 rfl) ⟨rfl, hK.kp⟩
  · rw [if_neg (nt hc8)] at hm
    refine C_seq ?_
    refine C_region ?_
    have h9 := El_know_Version_0 h4
    refine V_y (Y_fieldAddr Tryd.underlying71 rfl Tryd.sizeOf3 (by decide) rfl) rfl rfl rfl ?_
    refine V_y (Y_load (El.int h9) Tryd.isAgg3 rfl) rfl rfl rfl ?_
    refine V_y (Y_move rfl) rfl rfl rfl ?_
    refine V_y (Y_lss rfl rfl) rfl rfl rfl ?_
    refine V_y (Y_assign rfl) rfl rfl rfl ?_
    refine V_to (fun _ _ => rfl) ?_
    refine C_cond rfl (fun hc10 => ?_) (fun hc10 => ?_)
    · rw [if_pos hc10] at hm
      refine C_seq ?_
      refine C_region ?_
      refine V_y (Y_assign rfl) rfl rfl rfl ?_
      refine V_to (fun _ _ => rfl) ?_
      obtain rfl := Option.some.inj hm
      refine C_ret ?_
      try simp only [↓inBlock_ret, ↓then_ret]
      exact retQ rfl (Res.one Tryd.results39 rfl) ⟨rfl, hK.kp⟩
    · rw [if_neg (nt hc10)] at hm
      refine C_seq ?_
      obtain ⟨s12, ho11, hm⟩ := Option.bind_eq_some_iff.1 hm
      refine C_cutG (ι := (Nat → Prop)) (fun (A17 : (Nat → Prop)) => [(2, .pointer (some ⟨b1, 0, none⟩)), (16, .bool s12)]) (fun (A17 : (Nat → Prop)) => fun w' => Hp w.heap.size A17 w' ([]) ∧ Tr w.heap.size A w2 A17 w') ?_ ?_
      · have hr13 : Tr w.heap.size A w2 A w2 := Tr.refl hA
        refine C_region ?_
        have h19 := El_know_Version_2 h4
        refine V_y (Y_fieldAddr Tryd.underlying71 rfl Tryd.sizeOf9 (by decide) rfl) rfl rfl rfl ?_
        refine V_y (Y_load (El.str h19) Tryd.isAgg9 rfl) rfl rfl rfl ?_
        refine V_y (Y_lenStr rfl Tryd.underlying9 rfl) rfl rfl rfl ?_
        refine V_y (Y_leq rfl rfl) rfl rfl rfl ?_
        refine V_y (Y_move rfl) rfl rfl rfl ?_
        rcases Bool.eq_false_or_eq_true (decide ((v.body.size : Int) ≤ 20000)) with hc20 | hc20
        · rw [if_pos hc20] at ho11
          refine V_ge rfl rfl rfl hc20 ?_
          have h21 := El_know_Version_2 h4
          refine V_y (Y_fieldAddr Tryd.underlying71 rfl Tryd.sizeOf9 (by decide) rfl) rfl rfl rfl ?_
          refine V_ge rfl rfl rfl hc20 ?_
          refine V_y (Y_load (El.str h21) Tryd.isAgg9 rfl) rfl rfl rfl ?_
          refine V_ge rfl rfl rfl hc20 ?_
          obtain ⟨x22, hx22, ho11⟩ := Option.bind_eq_some_iff.1 ho11
          refine V_call Tryd.call25 rfl rfl rfl rfl (know_lines_c w2 hA (Mx.tr hT hK) v.body hx22) ?_
          rintro v23 w25 ⟨_, rfl, h24, hk26⟩
          have ht27 := Kp.tr hk26 hA hB
          replace hH := Hp.kp hH hk26
          replace h4 := El.tr h4 ht27
          replace h19 := El.tr h19 ht27
          replace h21 := El.tr h21 ht27
          replace hK := Tr.trans hK ht27
          replace hr13 := Tr.trans hr13 ht27
          replace hB := Nat.le_trans hB ht27.ex.size
          replace hA := ht27.new
          refine V_ge rfl rfl rfl hc20 ?_
          refine V_y (Y_lenSl h24 rfl Tryd.underlying53 rfl) rfl rfl rfl ?_
          refine V_ge rfl rfl rfl hc20 ?_
          refine V_y (Y_gtr rfl rfl) rfl rfl rfl ?_
          refine V_y (Y_pick_te rfl hc20 rfl) rfl rfl rfl ?_
          refine V_y (Y_assign rfl) rfl rfl rfl ?_
          obtain rfl := Option.some.inj ho11
          refine V_end (fun a ha28 => ?_)
          exact ⟨A, ha28.sub ⟨rfl, rfl, trivial⟩, ⟨hH, hr13⟩⟩
        · rw [if_neg (nt hc20)] at ho11
          refine V_gn rfl rfl rfl hc20 rfl rfl rfl ?_
          refine V_gn rfl rfl rfl hc20 rfl rfl rfl ?_
          refine V_gn rfl rfl rfl hc20 rfl rfl rfl ?_
          refine V_gn rfl rfl rfl hc20 rfl rfl rfl ?_
          refine V_gn rfl rfl rfl hc20 rfl rfl rfl ?_
          refine V_y (Y_pick_fe rfl hc20 rfl) rfl rfl rfl ?_
          refine V_y (Y_assign rfl) rfl rfl rfl ?_
          obtain rfl := Option.some.inj ho11
          refine V_end (fun a ha29 => ?_)
          exact ⟨A, ha29.sub ⟨rfl, rfl, trivial⟩, ⟨hH, hr13⟩⟩
      rintro A17 w14 ⟨hH18, hk15⟩ a ha16
      replace h4 := El.tr h4 hk15
      replace hK := Tr.trans hK hk15
      replace hB := Nat.le_trans hB hk15.ex.size
      replace hA := hk15.new
      replace hH : Hp w.heap.size A17 w14 ([]) := hH18
      refine C_at (n := ⟨44, [], none⟩) (fun _ _ => rfl) ?_ ha16
      refine C_cond rfl (fun hc30 => ?_) (fun hc30 => ?_)
      · rw [if_pos hc30] at hm
        refine C_seq ?_
        refine C_region ?_
        refine V_y (Y_assign rfl) rfl rfl rfl ?_
        refine V_to (fun _ _ => rfl) ?_
        obtain rfl := Option.some.inj hm
        refine C_ret ?_
        try simp only [↓inBlock_ret, ↓then_ret]
        exact retQ rfl (Res.one Tryd.results39 rfl) ⟨rfl, hK.kp⟩
      · rw [if_neg (nt hc30)] at hm
        refine C_skip_to (fun _ _ => rfl) ?_
        refine C_seq ?_
        refine C_seq ?_
        refine C_region ?_
        have h31 := El_know_Version_1 h4
        refine V_y (Y_fieldAddr Tryd.underlying71 rfl Tryd.sizeOf9 (by decide) rfl) rfl rfl rfl ?_
        refine V_y (Y_load (El.str h31) Tryd.isAgg9 rfl) rfl rfl rfl ?_
        have h32 := El_know_Version_2 h4
        refine V_y (Y_fieldAddr Tryd.underlying71 rfl Tryd.sizeOf9 (by decide) rfl) rfl rfl rfl ?_
        refine V_y (Y_load (El.str h32) Tryd.isAgg9 rfl) rfl rfl rfl ?_
        obtain ⟨x33, hx33, hm⟩ := Option.bind_eq_some_iff.1 hm
        refine V_call Tryd.call65 rfl rfl rfl rfl (know_checkText_c w14 v.title v.body hx33) ?_
        rintro _ _ ⟨rfl, rfl⟩
        refine V_y (Y_assign rfl) rfl rfl rfl ?_
        refine V_to (fun _ _ => rfl) ?_
        refine C_seq ?_
        refine C_region ?_
        refine V_y (Y_move rfl) rfl rfl rfl ?_
        refine V_y (Y_neq rfl rfl) rfl rfl rfl ?_
        refine V_to (fun _ _ => rfl) ?_
        refine C_cond rfl (fun hc34 => ?_) (fun hc34 => ?_)
        · rw [if_pos hc34] at hm
          refine C_seq ?_
          refine C_region ?_
          refine V_y (Y_move rfl) rfl rfl rfl ?_
          refine V_y (Y_assign rfl) rfl rfl rfl ?_
          refine V_to (fun _ _ => rfl) ?_
          obtain rfl := Option.some.inj hm
          refine C_ret ?_
          try simp only [↓inBlock_ret, ↓then_ret]
          exact retQ rfl (Res.one Tryd.results39 rfl) ⟨rfl, hK.kp⟩
        · rw [if_neg (nt hc34)] at hm
          refine C_skip_to (fun _ _ => rfl) ?_
          refine C_seq ?_
          refine C_seq ?_
          refine C_region ?_
          have h35 := El_know_Version_1 h4
          refine V_y (Y_fieldAddr Tryd.underlying71 rfl Tryd.sizeOf9 (by decide) rfl) rfl rfl rfl ?_
          refine V_y (Y_load (El.str h35) Tryd.isAgg9 rfl) rfl rfl rfl ?_
          refine V_y (Y_seql rfl rfl) rfl rfl rfl ?_
          refine V_y (Y_move rfl) rfl rfl rfl ?_
          refine V_cut 4 (fun _ : Unit => [(43, .bool ((strEq v.title (⟨#[]⟩ : ByteArray)) && (!(strEq v.body (⟨#[]⟩ : ByteArray)))))]) (fun _ w' => w14 = w') ?_ ?_
          · simp only [List.take, List.drop]
            rcases Bool.eq_false_or_eq_true (strEq v.title (⟨#[]⟩ : ByteArray)) with hc36 | hc36
            · refine V_ge rfl rfl rfl hc36 ?_
              have h38 := El_know_Version_2 h4
              refine V_y (Y_fieldAddr Tryd.underlying71 rfl Tryd.sizeOf9 (by decide) rfl) rfl rfl rfl ?_
              refine V_ge rfl rfl rfl hc36 ?_
              refine V_y (Y_load (El.str h38) Tryd.isAgg9 rfl) rfl rfl rfl ?_
              refine V_ge rfl rfl rfl hc36 ?_
              refine V_y (Y_sneq rfl rfl) rfl rfl rfl ?_
              refine V_y (Y_pick_te rfl hc36 rfl) rfl rfl rfl ?_
              exact V_end fun a ha => ⟨(), ha.sub ⟨(by rw [hc36]; rfl), trivial⟩, rfl⟩
            · refine V_gn rfl rfl rfl hc36 rfl rfl rfl ?_
              refine V_gn rfl rfl rfl hc36 rfl rfl rfl ?_
              refine V_gn rfl rfl rfl hc36 rfl rfl rfl ?_
              refine V_y (Y_pick_fe rfl hc36 rfl) rfl rfl rfl ?_
              exact V_end fun a ha => ⟨(), ha.sub ⟨(by rw [hc36]; rfl), trivial⟩, rfl⟩
          simp only [List.take, List.drop]
          rintro _ _ rfl
          refine V_to (fun _ _ => rfl) ?_
          refine C_cond rfl (fun hc39 => ?_) (fun hc39 => ?_)
          · rw [if_pos hc39] at hm
            refine C_seq ?_
            refine C_region ?_
            refine V_y (Y_assign rfl) rfl rfl rfl ?_
            refine V_to (fun _ _ => rfl) ?_
            obtain rfl := Option.some.inj hm
            refine C_ret ?_
            try simp only [↓inBlock_ret, ↓then_ret]
            exact retQ rfl (Res.one Tryd.results39 rfl) ⟨rfl, hK.kp⟩
          · rw [if_neg (nt hc39)] at hm
            refine C_skip_to (fun _ _ => rfl) ?_
            refine C_seq ?_
            refine C_region ?_
            refine V_y (Y_assign rfl) rfl rfl rfl ?_
            refine V_to (fun _ _ => rfl) ?_
            obtain rfl := Option.some.inj hm
            refine C_ret ?_
            try simp only [↓inBlock_ret, ↓then_ret]
            exact retQ rfl (Res.one Tryd.results39 rfl) ⟨rfl, hK.kp⟩

set_option maxRecDepth 4000 in
set_option maxHeartbeats 4000000 in
theorem know_CheckArticles_c (w : World) {A : Nat → Prop} (hA : ∀ b, w.heap.size ≤ b → A b) (hT : Mx Tryd.prog 2 A w) (l : (List know_Article)) (v_l : Value) (h_l : Sl A w v_l l) {r : Int} (hm : know_CheckArticles l = some r) : Ret Tryd.prog 13 #[v_l] w fun v w' => v = .int .i64 r ∧ Kp w w' := by
  unfold know_CheckArticles at hm
  refine enter Tryd.func13 rfl Tryd.ntmps13 rfl ?_
  have hA0 := hA
  have hB := Nat.le_refl w.heap.size
  have hK : Tr w.heap.size A w A w := Tr.refl hA
  have hH : Hp w.heap.size A w [] := Hp.nil
  refine C_seq ?_
  refine C_region ?_
  refine V_y (Y_assign rfl) rfl rfl rfl ?_
  refine V_to (fun _ _ => rfl) ?_
  refine C_seq ?_
  refine C_seq ?_
  refine C_region ?_
  refine V_y (Y_move rfl) rfl rfl rfl ?_
  refine V_y (Y_lenSl h_l rfl Tryd.underlying27 rfl) rfl rfl rfl ?_
  refine V_y (Y_gtr rfl rfl) rfl rfl rfl ?_
  refine V_to (fun _ _ => rfl) ?_
  refine C_cond rfl (fun hc3 => ?_) (fun hc3 => ?_)
  · rw [if_pos hc3] at hm
    refine C_seq ?_
    refine C_region ?_
    refine V_y (Y_assign rfl) rfl rfl rfl ?_
    refine V_to (fun _ _ => rfl) ?_
    obtain rfl := Option.some.inj hm
    refine C_ret ?_
    try simp only [↓inBlock_ret, ↓then_ret]
    exact retQ rfl (Res.one Tryd.results13 rfl) ⟨rfl, hK.kp⟩
  · rw [if_neg (nt hc3)] at hm
    refine C_skip_to (fun _ _ => rfl) ?_
    refine C_seq ?_
    refine C_seq ?_
    refine C_region ?_
    refine V_y (Y_move rfl) rfl rfl rfl ?_
    refine V_y (Y_lenSl h_l rfl Tryd.underlying27 rfl) rfl rfl rfl ?_
    refine V_y (Y_move rfl) rfl rfl rfl ?_
    refine V_to (fun _ _ => rfl) ?_
    have hn25 := Sl.le h_l
    obtain ⟨o4, ho4, hm⟩ := Option.bind_eq_some_iff.1 hm
    refine C_cutG (ι := (Unit × (Nat → Prop))) (fun ⟨s5, A12⟩ => []) (fun ⟨s5, A12⟩ => fun w' => o4 = .fin s5 ∧ Hp w.heap.size A12 w' ([]) ∧ Tr w.heap.size A w A12 w') ?_ ?_
    · refine C_block ?_
      refine C_range ho4 (fun k7 _ a w' => ∃ i : (Nat → Prop), Has ⟨66, [], none⟩ a ([(0, v_l), (12, v_l), (13, .int .i64 (l.length : Int)), (14, .int .i64 (k7 : Int))]) ∧ Hp w.heap.size i w' ([]) ∧ Tr w.heap.size A w i w') (fun a ha => ⟨A, ha.sub ⟨rfl, rfl, rfl, rfl, trivial⟩, ⟨hH, Tr.refl hA⟩⟩) ?_
      rintro K k7 _ a w15 ⟨A16, ha126, hH17, hr6⟩ hle21 K24 h23
      refine C_of ?_ ha126
      replace h_l := Sl.tr h_l hr6
      replace hK := Tr.trans hK hr6
      replace hB := Nat.le_trans hB hr6.ex.size
      replace hA := hr6.new
      replace hH : Hp w.heap.size A16 w15 ([]) := hH17
      refine C_seq (C_region (V_y (Y_lss rfl rfl) rfl rfl rfl (V_to (fun _ _ => rfl) ?_)))
      refine C_seq ?_
      refine C_cond rfl (fun hc26 => ?_) (fun hc26 => ?_)
      · have hlt22 := lt_of_dec hc26
        obtain ⟨x18, h19, h20⟩ := K24 hlt22
        refine C_skip_to (fun _ _ => rfl) ?_
        refine C_seq ?_
        obtain ⟨o27, ho27, h19⟩ := Option.bind_eq_some_iff.1 h19
        refine C_cutG (ι := (Unit × (Nat → Prop))) (fun ⟨s28, A33⟩ => [(0, v_l), (12, v_l), (13, .int .i64 (l.length : Int)), (14, .int .i64 (k7 : Int))]) (fun ⟨s28, A33⟩ => fun w' => o27 = .fin s28 ∧ Hp w.heap.size A33 w' ([]) ∧ Tr w.heap.size A16 w15 A33 w') ?_ ?_
        · have hr29 : Tr w.heap.size A16 w15 A16 w15 := Tr.refl hA
          refine C_block ?_
          refine C_seq ?_
          refine C_region ?_
          refine V_y (Y_move rfl) rfl rfl rfl ?_
          obtain ⟨x35, hx35, ho27⟩ := Option.bind_eq_some_iff.1 ho27
          refine V_indexAddr h_l hx35 Tryd.underlying27 Tryd.sizeOf69 rfl rfl rfl ?_
          intro b36 o37 h38
          obtain ⟨v39, h41, h40⟩ := El_know_Article h38
          refine V_y (Y_loadA h41 Tryd.isAgg69 Tryd.sizeOf69 rfl) rfl rfl rfl ?_
          refine V_alloc Tryd.zeroValue69 rfl ?_
          intro b42 w43 h44
          refine V_y (Y_assign rfl) rfl rfl rfl ?_
          have h49 : (v39).oneCell' = true := by obtain ⟨_, _, e, _⟩ := Sl.form h40; rw [e]; rfl
          refine V_storeNew h44 Tryd.sizeOf69 rfl rfl rfl rfl (by exact (List.forall_mem_cons.2 ⟨rfl, (List.forall_mem_cons.2 ⟨rfl, (List.forall_mem_cons.2 ⟨h49, (fun _ h => nomatch h)⟩)⟩)⟩)) ?_
          intro w45 h46
          have hk51 := h46.kp
          have h50 : El (α := know_Article) A16 w45 b42 0 x35 := h46.el hA ⟨[.int .i64 x35.id], _, rfl, rfl, ⟨[.int .i64 x35.group], _, rfl, rfl, ⟨_, rfl, h40⟩⟩⟩
          have ht52 := Kp.tr hk51 hA hB
          replace hH := Hp.kp hH hk51
          replace h_l := Sl.tr h_l ht52
          replace h38 := El.tr h38 ht52
          replace h40 := Sl.tr h40 ht52
          replace hK := Tr.trans hK ht52
          replace hr6 := Tr.trans hr6 ht52
          replace hr29 := Tr.trans hr29 ht52
          replace hB := Nat.le_trans hB ht52.ex.size
          replace hA := ht52.new
          refine V_to (fun _ _ => rfl) ?_
          refine C_seq ?_
          refine C_block ?_
          refine C_seq ?_
          refine C_region ?_
          have h53 := El_know_Article_0 h50
          refine V_y (Y_fieldAddr Tryd.underlying69 rfl Tryd.sizeOf3 (by decide) rfl) rfl rfl rfl ?_
          refine V_y (Y_load (El.int h53) Tryd.isAgg3 rfl) rfl rfl rfl ?_
          refine V_call Tryd.call33 rfl rfl rfl rfl (know_within_c w45 x35.id 1 3000000) ?_
          rintro _ _ ⟨rfl, rfl⟩
          refine V_y (Y_not rfl) rfl rfl rfl ?_
          refine V_y (Y_assign rfl) rfl rfl rfl ?_
          refine V_to (fun _ _ => rfl) ?_
          refine C_cond rfl (fun hc54 => ?_) (fun hc54 => ?_)
          · rw [if_pos hc54] at ho27
            refine C_seq ?_
            refine C_region ?_
            refine V_y (Y_assign rfl) rfl rfl rfl ?_
            refine V_to (fun _ _ => rfl) ?_
            obtain rfl := Option.some.inj ho27
            rw [Lp.andThen_rt] at h19
            obtain rfl := Option.some.inj h19
            obtain rfl := (h20 : Lp.rt _ = _)
            rw [Lp.andThen_rt] at hm
            obtain rfl := Option.some.inj hm
            refine C_ret ?_
            try simp only [↓inBlock_ret, ↓then_ret]
            exact retQ rfl (Res.one Tryd.results13 rfl) ⟨rfl, hK.kp⟩
          · rw [if_neg (nt hc54)] at ho27
            refine C_seq ?_
            refine C_region_q Tryd_mixed (by kernel_rfl) ?_
            refine VQ_y (fun w' hw' => Y_move rfl) rfl rfl rfl ?_
            refine VQ_y (fun w' hw' => Y_gtr rfl rfl) rfl rfl rfl ?_
            refine VQ_y (fun w' hw' => Y_move rfl) rfl rfl rfl ?_
            obtain ⟨s56, hs56, ho27⟩ := Option.bind_eq_some_iff.1 ho27
            refine VQ_cut 10 (fun _ : Unit => [(0, v_l), (4, .pointer (some ⟨b42, 0, none⟩)), (12, v_l), (13, .int .i64 (l.length : Int)), (14, .int .i64 (k7 : Int)), (37, .bool s56)]) (fun _ => True) ?_ ?_
            · simp only [List.take, List.drop]
              rcases Bool.eq_false_or_eq_true (decide ((0 : Int) < (k7 : Int))) with hc55 | hc55
              · rw [if_pos hc55] at hs56
                refine VQ_ge rfl rfl rfl hc55 ?_
                have h57 := El_know_Article_0 h50
                refine VQ_y (fun w' hw' => Y_fieldAddr Tryd.underlying69 rfl Tryd.sizeOf3 (by decide) rfl) rfl rfl rfl ?_
                refine VQ_ge rfl rfl rfl hc55 ?_
                refine VQ_y (fun w' hw' => Y_load (El.int (El.kp h57 hw')) Tryd.isAgg3 rfl) rfl rfl rfl ?_
                refine VQ_ge rfl rfl rfl hc55 ?_
                refine VQ_y (fun w' hw' => Y_move rfl) rfl rfl rfl ?_
                refine VQ_ge rfl rfl rfl hc55 ?_
                refine VQ_y (fun w' hw' => Y_move rfl) rfl rfl rfl ?_
                refine VQ_ge rfl rfl rfl hc55 ?_
                refine VQ_y (fun w' hw' => Y_subI rfl rfl) rfl rfl rfl ?_
                refine VQ_ge rfl rfl rfl hc55 ?_
                obtain ⟨x58, hx58, hs56⟩ := Option.bind_eq_some_iff.1 hs56
                refine VQ_indexAddr h_l hx58 Tryd.underlying27 Tryd.sizeOf69 rfl rfl rfl ?_
                intro b59 o60 h61
                refine VQ_ge rfl rfl rfl hc55 ?_
                have h62 := El_know_Article_0 h61
                refine VQ_y (fun w' hw' => Y_fieldAddr Tryd.underlying69 rfl Tryd.sizeOf3 (by decide) rfl) rfl rfl rfl ?_
                refine VQ_ge rfl rfl rfl hc55 ?_
                refine VQ_y (fun w' hw' => Y_load (El.int (El.kp h62 hw')) Tryd.isAgg3 rfl) rfl rfl rfl ?_
                refine VQ_ge rfl rfl rfl hc55 ?_
                refine VQ_y (fun w' hw' => Y_leq rfl rfl) rfl rfl rfl ?_
                refine VQ_y (fun _ _ => Y_pick_te rfl hc55 rfl) rfl rfl rfl ?_
                obtain rfl := Option.some.inj hs56
                exact VQ_end fun a ha => ⟨(), ha.sub ⟨rfl, rfl, rfl, rfl, rfl, rfl, trivial⟩, trivial⟩
              · rw [if_neg (nt hc55)] at hs56
                refine VQ_gn rfl rfl rfl hc55 rfl rfl rfl ?_
                refine VQ_gn rfl rfl rfl hc55 rfl rfl rfl ?_
                refine VQ_gn rfl rfl rfl hc55 rfl rfl rfl ?_
                refine VQ_gn rfl rfl rfl hc55 rfl rfl rfl ?_
                refine VQ_gn rfl rfl rfl hc55 rfl rfl rfl ?_
                refine VQ_gn rfl rfl rfl hc55 rfl rfl rfl ?_
                refine VQ_gn rfl rfl rfl hc55 rfl rfl rfl ?_
                refine VQ_gn rfl rfl rfl hc55 rfl rfl rfl ?_
                refine VQ_gn rfl rfl rfl hc55 rfl rfl rfl ?_
                refine VQ_y (fun _ _ => Y_pick_fe rfl hc55 rfl) rfl rfl rfl ?_
                obtain rfl := Option.some.inj hs56
                exact VQ_end fun a ha => ⟨(), ha.sub ⟨rfl, rfl, rfl, rfl, rfl, rfl, trivial⟩, trivial⟩
            simp only [List.take, List.drop]
            rintro _ _
            refine VQ_y (fun w' hw' => Y_assign rfl) rfl rfl rfl ?_
            refine VQ_to (fun _ _ => rfl) (fun w63 hk64 => ?_)
            have ht65 := Kp.tr hk64 hA hB
            replace hH := Hp.kp hH hk64
            replace h_l := Sl.tr h_l ht65
            replace h50 := El.tr h50 ht65
            replace hK := Tr.trans hK ht65
            replace hr6 := Tr.trans hr6 ht65
            replace hr29 := Tr.trans hr29 ht65
            replace hB := Nat.le_trans hB ht65.ex.size
            replace hA := ht65.new
            refine C_cond rfl (fun hc66 => ?_) (fun hc66 => ?_)
            · rw [if_pos hc66] at ho27
              refine C_seq ?_
              refine C_region ?_
              refine V_y (Y_assign rfl) rfl rfl rfl ?_
              refine V_to (fun _ _ => rfl) ?_
              obtain rfl := Option.some.inj ho27
              rw [Lp.andThen_rt] at h19
              obtain rfl := Option.some.inj h19
              obtain rfl := (h20 : Lp.rt _ = _)
              rw [Lp.andThen_rt] at hm
              obtain rfl := Option.some.inj hm
              refine C_ret ?_
              try simp only [↓inBlock_ret, ↓then_ret]
              exact retQ rfl (Res.one Tryd.results13 rfl) ⟨rfl, hK.kp⟩
            · rw [if_neg (nt hc66)] at ho27
              refine C_seq ?_
              refine C_region ?_
              have h67 := El_know_Article_1 h50
              refine V_y (Y_fieldAddr Tryd.underlying69 rfl Tryd.sizeOf3 (by decide) rfl) rfl rfl rfl ?_
              refine V_y (Y_load (El.int h67) Tryd.isAgg3 rfl) rfl rfl rfl ?_
              refine V_call Tryd.call33 rfl rfl rfl rfl (know_within_c w63 x35.group 0 40) ?_
              rintro _ _ ⟨rfl, rfl⟩
              refine V_y (Y_not rfl) rfl rfl rfl ?_
              refine V_y (Y_assign rfl) rfl rfl rfl ?_
              refine V_to (fun _ _ => rfl) ?_
              refine C_cond rfl (fun hc68 => ?_) (fun hc68 => ?_)
              · rw [if_pos hc68] at ho27
                refine C_seq ?_
                refine C_region ?_
                refine V_y (Y_assign rfl) rfl rfl rfl ?_
                refine V_to (fun _ _ => rfl) ?_
                obtain rfl := Option.some.inj ho27
                rw [Lp.andThen_rt] at h19
                obtain rfl := Option.some.inj h19
                obtain rfl := (h20 : Lp.rt _ = _)
                rw [Lp.andThen_rt] at hm
                obtain rfl := Option.some.inj hm
                refine C_ret ?_
                try simp only [↓inBlock_ret, ↓then_ret]
                exact retQ rfl (Res.one Tryd.results13 rfl) ⟨rfl, hK.kp⟩
              · rw [if_neg (nt hc68)] at ho27
                refine C_seq ?_
                refine C_region ?_
                have h69 := El_know_Article_2 h50
                refine V_y (Y_fieldAddr Tryd.underlying69 rfl Tryd.sizeOf63 (by decide) rfl) rfl rfl rfl ?_
                obtain ⟨v70, h71, h72⟩ := El.list h69
                refine V_y (Y_load h71 Tryd.isAgg63 rfl) rfl rfl rfl ?_
                refine V_y (Y_lenSl h72 rfl Tryd.underlying63 rfl) rfl rfl rfl ?_
                refine V_call Tryd.call33 rfl rfl rfl rfl (know_within_c w63 (x35.versions.length : Int) 1 40) ?_
                rintro _ _ ⟨rfl, rfl⟩
                refine V_y (Y_not rfl) rfl rfl rfl ?_
                refine V_y (Y_assign rfl) rfl rfl rfl ?_
                refine V_to (fun _ _ => rfl) ?_
                refine C_cond rfl (fun hc73 => ?_) (fun hc73 => ?_)
                · rw [if_pos hc73] at ho27
                  refine C_seq ?_
                  refine C_region ?_
                  refine V_y (Y_assign rfl) rfl rfl rfl ?_
                  refine V_to (fun _ _ => rfl) ?_
                  obtain rfl := Option.some.inj ho27
                  rw [Lp.andThen_rt] at h19
                  obtain rfl := Option.some.inj h19
                  obtain rfl := (h20 : Lp.rt _ = _)
                  rw [Lp.andThen_rt] at hm
                  obtain rfl := Option.some.inj hm
                  refine C_ret ?_
                  try simp only [↓inBlock_ret, ↓then_ret]
                  exact retQ rfl (Res.one Tryd.results13 rfl) ⟨rfl, hK.kp⟩
                · rw [if_neg (nt hc73)] at ho27
                  refine C_skip_to (fun _ _ => rfl) ?_
                  refine C_seq ?_
                  refine C_region ?_
                  refine V_y (Y_assign rfl) rfl rfl rfl ?_
                  refine V_to (fun _ _ => rfl) ?_
                  refine C_seq ?_
                  refine C_region ?_
                  have h74 := El_know_Article_2 h50
                  refine V_y (Y_fieldAddr Tryd.underlying69 rfl Tryd.sizeOf63 (by decide) rfl) rfl rfl rfl ?_
                  obtain ⟨v75, h76, h77⟩ := El.list h74
                  refine V_y (Y_load h76 Tryd.isAgg63 rfl) rfl rfl rfl ?_
                  refine V_y (Y_lenSl h77 rfl Tryd.underlying63 rfl) rfl rfl rfl ?_
                  refine V_y (Y_move rfl) rfl rfl rfl ?_
                  refine V_to (fun _ _ => rfl) ?_
                  have hn98 := Sl.le h77
                  obtain ⟨o78, ho78, ho27⟩ := Option.bind_eq_some_iff.1 ho27
                  refine C_cutG (ι := (Int × (Nat → Prop))) (fun ⟨s79, A85⟩ => [(0, v_l), (12, v_l), (13, .int .i64 (l.length : Int)), (14, .int .i64 (k7 : Int))]) (fun ⟨s79, A85⟩ => fun w' => o78 = .fin s79 ∧ Hp w.heap.size A85 w' ([]) ∧ Tr w.heap.size A16 w63 A85 w') ?_ ?_
                  · refine C_block ?_
                    refine C_range ho78 (fun k81 s87 a w' => ∃ i : (Nat → Prop), Has ⟨66, [], none⟩ a ([(0, v_l), (5, .int .i64 s87), (12, v_l), (13, .int .i64 (l.length : Int)), (14, .int .i64 (k7 : Int)), (50, v75), (51, .int .i64 (x35.versions.length : Int)), (52, .int .i64 (k81 : Int))]) ∧ Hp w.heap.size i w' ([]) ∧ Tr w.heap.size A16 w63 i w') (fun a ha => ⟨A16, ha.sub ⟨rfl, rfl, rfl, rfl, rfl, rfl, rfl, rfl, trivial⟩, ⟨hH, Tr.refl hA⟩⟩) ?_
                    rintro K k81 s87 a w88 ⟨A89, ha122, hH90, hr80⟩ hle94 K97 h96
                    refine C_of ?_ ha122
                    replace h_l := Sl.tr h_l hr80
                    replace h77 := Sl.tr h77 hr80
                    replace hK := Tr.trans hK hr80
                    replace hr6 := Tr.trans hr6 hr80
                    replace hr29 := Tr.trans hr29 hr80
                    replace hB := Nat.le_trans hB hr80.ex.size
                    replace hA := hr80.new
                    replace hH : Hp w.heap.size A89 w88 ([]) := hH90
                    refine C_seq (C_region (V_y (Y_lss rfl rfl) rfl rfl rfl (V_to (fun _ _ => rfl) ?_)))
                    refine C_seq ?_
                    refine C_cond rfl (fun hc99 => ?_) (fun hc99 => ?_)
                    · have hlt95 := lt_of_dec hc99
                      obtain ⟨x91, h92, h93⟩ := K97 hlt95
                      refine C_skip_to (fun _ _ => rfl) ?_
                      refine C_seq ?_
                      refine C_block ?_
                      refine C_seq ?_
                      refine C_region ?_
                      obtain ⟨x100, hx100, h92⟩ := Option.bind_eq_some_iff.1 h92
                      refine V_indexAddr h77 hx100 Tryd.underlying63 Tryd.sizeOf71 rfl rfl rfl ?_
                      intro b101 o102 h103
                      obtain ⟨h104, _⟩ := El_know_Version h103
                      refine V_y (Y_loadA h104 Tryd.isAgg71 Tryd.sizeOf71 rfl) rfl rfl rfl ?_
                      refine V_alloc Tryd.zeroValue71 rfl ?_
                      intro b105 w106 h107
                      refine V_storeNew h107 Tryd.sizeOf71 rfl rfl rfl rfl (by exact (List.forall_mem_cons.2 ⟨rfl, (List.forall_mem_cons.2 ⟨rfl, (List.forall_mem_cons.2 ⟨rfl, (fun _ h => nomatch h)⟩)⟩)⟩)) ?_
                      intro w108 h109
                      have hk111 := h109.kp
                      have h110 : El (α := know_Version) A89 w108 b105 0 x100 := h109.el hA ⟨[.int .i64 x100.at_], _, rfl, rfl, ⟨[.string x100.title], _, rfl, rfl, rfl⟩⟩
                      have ht112 := Kp.tr hk111 hA hB
                      replace hH := Hp.kp hH hk111
                      replace h_l := Sl.tr h_l ht112
                      replace h77 := Sl.tr h77 ht112
                      replace h103 := El.tr h103 ht112
                      replace hK := Tr.trans hK ht112
                      replace hr6 := Tr.trans hr6 ht112
                      replace hr29 := Tr.trans hr29 ht112
                      replace hr80 := Tr.trans hr80 ht112
                      replace hB := Nat.le_trans hB ht112.ex.size
                      replace hA := ht112.new
                      refine V_to (fun _ _ => rfl) ?_
                      refine C_seq ?_
                      refine C_seq ?_
                      refine C_region ?_
                      obtain ⟨h113, _⟩ := El_know_Version h110
                      refine V_y (Y_loadA h113 Tryd.isAgg71 Tryd.sizeOf71 rfl) rfl rfl rfl ?_
                      refine V_y (Y_move rfl) rfl rfl rfl ?_
                      obtain ⟨x114, hx114, h92⟩ := Option.bind_eq_some_iff.1 h92
                      refine V_call Tryd.call39 rfl rfl rfl rfl (know_checkVersion_c w108 hA (Mx.tr hT hK) x100 s87 hx114) ?_
                      rintro _ w115 ⟨rfl, hk116⟩
                      have ht117 := Kp.tr hk116 hA hB
                      replace hH := Hp.kp hH hk116
                      replace h_l := Sl.tr h_l ht117
                      replace h77 := Sl.tr h77 ht117
                      replace h110 := El.tr h110 ht117
                      replace hK := Tr.trans hK ht117
                      replace hr6 := Tr.trans hr6 ht117
                      replace hr29 := Tr.trans hr29 ht117
                      replace hr80 := Tr.trans hr80 ht117
                      replace hB := Nat.le_trans hB ht117.ex.size
                      replace hA := ht117.new
                      refine V_y (Y_assign rfl) rfl rfl rfl ?_
                      refine V_to (fun _ _ => rfl) ?_
                      refine C_seq ?_
                      refine C_region ?_
                      refine V_y (Y_move rfl) rfl rfl rfl ?_
                      refine V_y (Y_neq rfl rfl) rfl rfl rfl ?_
                      refine V_to (fun _ _ => rfl) ?_
                      refine C_cond rfl (fun hc118 => ?_) (fun hc118 => ?_)
                      · rw [if_pos hc118] at h92
                        refine C_seq ?_
                        refine C_region ?_
                        refine V_y (Y_move rfl) rfl rfl rfl ?_
                        refine V_y (Y_assign rfl) rfl rfl rfl ?_
                        refine V_to (fun _ _ => rfl) ?_
                        obtain rfl := Option.some.inj h92
                        obtain rfl := (h93 : Lp.rt _ = _)
                        rw [Lp.andThen_rt] at ho27
                        obtain rfl := Option.some.inj ho27
                        rw [Lp.andThen_rt] at h19
                        obtain rfl := Option.some.inj h19
                        obtain rfl := (h20 : Lp.rt _ = _)
                        rw [Lp.andThen_rt] at hm
                        obtain rfl := Option.some.inj hm
                        refine C_ret ?_
                        try simp only [↓inBlock_ret, ↓then_ret]
                        exact retQ rfl (Res.one Tryd.results13 rfl) ⟨rfl, hK.kp⟩
                      · rw [if_neg (nt hc118)] at h92
                        refine C_skip_to (fun _ _ => rfl) ?_
                        refine C_region ?_
                        have h119 := El_know_Version_0 h110
                        refine V_y (Y_fieldAddr Tryd.underlying71 rfl Tryd.sizeOf3 (by decide) rfl) rfl rfl rfl ?_
                        refine V_y (Y_load (El.int h119) Tryd.isAgg3 rfl) rfl rfl rfl ?_
                        refine V_y (Y_assign rfl) rfl rfl rfl ?_
                        refine V_to (fun _ _ => rfl) ?_
                        refine C_region ?_
                        refine V_y (Y_addI rfl rfl) rfl rfl rfl ?_
                        refine V_y (Y_move rfl) rfl rfl rfl ?_
                        obtain rfl := Option.some.inj h92
                        refine V_end (fun a ha120 => ?_)
                        exact ⟨x100.at_, hlt95, h93, ⟨A89, ha120.sub ⟨rfl, rfl, rfl, rfl, rfl, rfl, rfl, (congrArg (fun z => some (Value.int .i64 z)) (w64_succ hlt95 hn98)), trivial⟩, ⟨hH, hr80⟩⟩⟩
                    · refine C_exit (fun a ha121 => ?_)
                      exact ⟨(s87, A89), ha121.sub ⟨rfl, rfl, rfl, rfl, trivial⟩, ⟨(h96 (eq_of_dec hle94 hc99)).symm, hH, hr80⟩⟩
                  rintro ⟨s79, A85⟩ w82 ⟨rfl, hH86, hk83⟩ a ha84
                  rw [Lp.andThen_fin] at ho27
                  replace h_l := Sl.tr h_l hk83
                  replace hK := Tr.trans hK hk83
                  replace hr6 := Tr.trans hr6 hk83
                  replace hr29 := Tr.trans hr29 hk83
                  replace hB := Nat.le_trans hB hk83.ex.size
                  replace hA := hk83.new
                  replace hH : Hp w.heap.size A85 w82 ([]) := hH86
                  obtain rfl := Option.some.inj ho27
                  exact ⟨((), A85), ha84.sub ⟨rfl, rfl, rfl, rfl, trivial⟩, ⟨rfl, hH, hr29⟩⟩
        rintro ⟨s28, A33⟩ w30 ⟨rfl, hH34, hk31⟩ a ha32
        rw [Lp.andThen_fin] at h19
        replace h_l := Sl.tr h_l hk31
        replace hK := Tr.trans hK hk31
        replace hr6 := Tr.trans hr6 hk31
        replace hB := Nat.le_trans hB hk31.ex.size
        replace hA := hk31.new
        replace hH : Hp w.heap.size A33 w30 ([]) := hH34
        refine C_at (n := ⟨66, [], none⟩) (fun _ _ => rfl) ?_ ha32
        refine C_region ?_
        refine V_y (Y_addI rfl rfl) rfl rfl rfl ?_
        refine V_y (Y_move rfl) rfl rfl rfl ?_
        obtain rfl := Option.some.inj h19
        refine V_end (fun a ha124 => ?_)
        exact ⟨(), hlt22, h20, ⟨A33, ha124.sub ⟨rfl, rfl, rfl, (congrArg (fun z => some (Value.int .i64 z)) (w64_succ hlt22 hn25)), trivial⟩, ⟨hH, hr6⟩⟩⟩
      · refine C_exit (fun a ha125 => ?_)
        exact ⟨((), A16), ha125.sub trivial, ⟨(h23 (eq_of_dec hle21 hc26)).symm, hH, hr6⟩⟩
    rintro ⟨s5, A12⟩ w9 ⟨rfl, hH13, hk10⟩ a ha11
    rw [Lp.andThen_fin] at hm
    replace hK := Tr.trans hK hk10
    replace hB := Nat.le_trans hB hk10.ex.size
    replace hA := hk10.new
    replace hH : Hp w.heap.size A12 w9 ([]) := hH13
    refine C_at (n := ⟨66, [], none⟩) (fun _ _ => rfl) ?_ ha11
    refine C_seq ?_
    refine C_region ?_
    refine V_y (Y_assign rfl) rfl rfl rfl ?_
    refine V_to (fun _ _ => rfl) ?_
    obtain rfl := Option.some.inj hm
    refine C_ret ?_
    try simp only [↓inBlock_ret, ↓then_ret]
    exact retQ rfl (Res.one Tryd.results13 rfl) ⟨rfl, hK.kp⟩

set_option maxRecDepth 4000 in
set_option maxHeartbeats 4000000 in
theorem know_current_c (w : World) {A : Nat → Prop} {B : Nat} (hB : B ≤ w.heap.size) (hA : ∀ b, w.heap.size ≤ b → A b) (l : (List know_Article)) (v_l : Value) (h_l : Sl A w v_l l) (m : Int) (wanted : Int → Option Bool) (wanted_f : FuncId) (wanted_a wanted_c : Array Value) (wanted_call : ∀ (args : Array Value) (w : World), (callFunc wanted_f args).run Tryd.prog w = .ok (.enter wanted_f args) w) (wanted_spec : ∀ (w1 : World) (A1 : Nat → Prop), Tr B A w A1 w1 → (∀ b, w1.heap.size ≤ b → A1 b) → ∀ (y0 : Int) (r : Bool), wanted y0 = some r → Ret Tryd.prog wanted_f (wanted_a ++ #[.int .i64 y0] ++ wanted_c) w1 fun v w' => v = .bool r ∧ Kp w1 w') {L : List Ob} (hH : Hp B A w (L)) {r : ((List know_Entry) × (List know_Version))} (hm : know_current l m wanted = some r) : Ret Tryd.prog 34 #[v_l, .int .i64 m, .func (.func wanted_f) wanted_a wanted_c] w fun v w' => ∃ s0, ∃ s1, ∃ A1 : Nat → Prop, v = .tuple #[s0, s1] ∧ Hp B A1 w' (obS (α := know_Entry) 34 s0 r.1 :: obS (α := know_Version) 71 s1 r.2 :: L) ∧ Tr B A w A1 w' := by
  unfold know_current at hm
  refine enter Tryd.func34 rfl Tryd.ntmps34 rfl ?_
  have hK : Tr B A w A w := Tr.refl hA
  refine C_seq ?_
  refine C_region ?_
  refine V_y (Y_assign rfl) rfl rfl rfl ?_
  refine V_y (Y_assign rfl) rfl rfl rfl ?_
  refine V_to (fun _ _ => rfl) ?_
  refine C_seq ?_
  refine C_region ?_
  refine V_y (Y_assign rfl) rfl rfl rfl ?_
  refine V_to (fun _ _ => rfl) ?_
  refine C_seq ?_
  refine C_region ?_
  refine V_y (Y_assign rfl) rfl rfl rfl ?_
  refine V_to (fun _ _ => rfl) ?_
  refine C_seq ?_
  refine C_seq ?_
  refine C_region ?_
  refine V_y (Y_move rfl) rfl rfl rfl ?_
  refine V_y (Y_lenSl h_l rfl Tryd.underlying27 rfl) rfl rfl rfl ?_
  refine V_y (Y_move rfl) rfl rfl rfl ?_
  refine V_to (fun _ _ => rfl) ?_
  replace hH : Hp B A w (obS (α := know_Entry) 34 (.slice none 0 0) ([] : (List know_Entry)) :: L) := Hp.addNil (α := know_Entry) (e := 34) hH
  replace hH : Hp B A w (obS (α := know_Version) 71 (.slice none 0 0) ([] : (List know_Version)) :: obS (α := know_Entry) 34 (.slice none 0 0) ([] : (List know_Entry)) :: L) := Hp.addNil (α := know_Version) (e := 71) hH
  have hn31 := Sl.le h_l
  obtain ⟨o3, ho3, hm⟩ := Option.bind_eq_some_iff.1 hm
  refine C_cutG (ι := (((List know_Entry) × (List know_Version)) × Value × Value × (Nat → Prop))) (fun ⟨s4, v10, v12, A14⟩ => [(8, v10), (9, v12)]) (fun ⟨s4, v10, v12, A14⟩ => fun w' => o3 = .fin s4 ∧ Hp B A14 w' (obS (α := know_Version) 71 v12 s4.2 :: obS (α := know_Entry) 34 v10 s4.1 :: L) ∧ Tr B A w A14 w') ?_ ?_
  · refine C_block ?_
    refine C_range ho3 (fun k6 s16 a w' => ∃ i : (Value × Value × (Nat → Prop)), Has ⟨76, [], none⟩ a ([(1, .int .i64 m), (2, .func (.func wanted_f) wanted_a wanted_c), (8, i.1), (9, i.2.1), (16, v_l), (17, .int .i64 (l.length : Int)), (18, .int .i64 (k6 : Int))]) ∧ Hp B i.2.2 w' (obS (α := know_Version) 71 i.2.1 s16.2 :: obS (α := know_Entry) 34 i.1 s16.1 :: L) ∧ Tr B A w i.2.2 w') (fun a ha => ⟨(.slice none 0 0, .slice none 0 0, A), ha.sub ⟨rfl, rfl, rfl, rfl, rfl, rfl, rfl, trivial⟩, ⟨hH, Tr.refl hA⟩⟩) ?_
    rintro K k6 s16 a w17 ⟨⟨v18, v20, A22⟩, ha190, hH23, hr5⟩ hle27 K30 h29
    refine C_of ?_ ha190
    replace h_l := Sl.tr h_l hr5
    replace hK := Tr.trans hK hr5
    replace hB := Nat.le_trans hB hr5.ex.size
    replace hA := hr5.new
    replace hH : Hp B A22 w17 (obS (α := know_Version) 71 v20 s16.2 :: obS (α := know_Entry) 34 v18 s16.1 :: L) := hH23
    refine C_seq (C_region (V_y (Y_lss rfl rfl) rfl rfl rfl (V_to (fun _ _ => rfl) ?_)))
    refine C_seq ?_
    refine C_cond rfl (fun hc32 => ?_) (fun hc32 => ?_)
    · have hlt28 := lt_of_dec hc32
      obtain ⟨x24, h25, h26⟩ := K30 hlt28
      refine C_skip_to (fun _ _ => rfl) ?_
      refine C_seq ?_
      obtain ⟨s34, ho33, h25⟩ := Option.bind_eq_some_iff.1 h25
      refine C_cutG (ι := (Value × Value × (Nat → Prop))) (fun ⟨v36, v38, A43⟩ => [(1, .int .i64 m), (2, .func (.func wanted_f) wanted_a wanted_c), (8, v36), (9, v38), (16, v_l), (17, .int .i64 (l.length : Int)), (18, .int .i64 (k6 : Int))]) (fun ⟨v36, v38, A43⟩ => fun w' => Hp B A43 w' (obS (α := know_Version) 71 v38 s34.2 :: obS (α := know_Entry) 34 v36 s34.1 :: L) ∧ Tr B A22 w17 A43 w') ?_ ?_
      · have hr35 : Tr B A22 w17 A22 w17 := Tr.refl hA
        refine C_block ?_
        refine C_seq ?_
        refine C_region ?_
        obtain ⟨x45, hx45, ho33⟩ := Option.bind_eq_some_iff.1 ho33
        refine V_indexAddr h_l hx45 Tryd.underlying27 Tryd.sizeOf69 rfl rfl rfl ?_
        intro b46 o47 h48
        obtain ⟨v49, h51, h50⟩ := El_know_Article h48
        refine V_y (Y_loadA h51 Tryd.isAgg69 Tryd.sizeOf69 rfl) rfl rfl rfl ?_
        refine V_alloc Tryd.zeroValue69 rfl ?_
        intro b52 w53 h54
        have h59 : (v49).oneCell' = true := by obtain ⟨_, _, e, _⟩ := Sl.form h50; rw [e]; rfl
        refine V_storeNew h54 Tryd.sizeOf69 rfl rfl rfl rfl (by exact (List.forall_mem_cons.2 ⟨rfl, (List.forall_mem_cons.2 ⟨rfl, (List.forall_mem_cons.2 ⟨h59, (fun _ h => nomatch h)⟩)⟩)⟩)) ?_
        intro w55 h56
        have hk61 := h56.kp
        have h60 : El (α := know_Article) A22 w55 b52 0 x45 := h56.el hA ⟨[.int .i64 x45.id], _, rfl, rfl, ⟨[.int .i64 x45.group], _, rfl, rfl, ⟨_, rfl, h50⟩⟩⟩
        have ht62 := Kp.tr hk61 hA hB
        replace hH := Hp.kp hH hk61
        replace h_l := Sl.tr h_l ht62
        replace h48 := El.tr h48 ht62
        replace h50 := Sl.tr h50 ht62
        replace hK := Tr.trans hK ht62
        replace hr5 := Tr.trans hr5 ht62
        replace hr35 := Tr.trans hr35 ht62
        replace hB := Nat.le_trans hB ht62.ex.size
        replace hA := ht62.new
        refine V_to (fun _ _ => rfl) ?_
        refine C_seq ?_
        refine C_region ?_
        refine V_y (Y_assign rfl) rfl rfl rfl ?_
        refine V_to (fun _ _ => rfl) ?_
        refine C_seq ?_
        refine C_seq ?_
        refine C_region ?_
        have h63 := El_know_Article_2 h60
        refine V_y (Y_fieldAddr Tryd.underlying69 rfl Tryd.sizeOf63 (by decide) rfl) rfl rfl rfl ?_
        obtain ⟨v64, h65, h66⟩ := El.list h63
        refine V_y (Y_load h65 Tryd.isAgg63 rfl) rfl rfl rfl ?_
        refine V_y (Y_lenSl h66 rfl Tryd.underlying63 rfl) rfl rfl rfl ?_
        refine V_y (Y_move rfl) rfl rfl rfl ?_
        refine V_to (fun _ _ => rfl) ?_
        have hn87 := Sl.le h66
        obtain ⟨o67, ho67, ho33⟩ := Option.bind_eq_some_iff.1 ho33
        refine C_cutG (ι := (Int × (Nat → Prop))) (fun ⟨s68, A74⟩ => [(1, .int .i64 m), (2, .func (.func wanted_f) wanted_a wanted_c), (8, v18), (9, v20), (11, .pointer (some ⟨b52, 0, none⟩)), (12, .int .i64 s68), (16, v_l), (17, .int .i64 (l.length : Int)), (18, .int .i64 (k6 : Int))]) (fun ⟨s68, A74⟩ => fun w' => o67 = .fin s68 ∧ Hp B A74 w' (obS (α := know_Version) 71 v20 s16.2 :: obS (α := know_Entry) 34 v18 s16.1 :: L) ∧ Tr B A22 w55 A74 w') ?_ ?_
        · refine C_block ?_
          refine C_range ho67 (fun k70 s76 a w' => ∃ i : (Nat → Prop), Has ⟨76, [], none⟩ a ([(1, .int .i64 m), (2, .func (.func wanted_f) wanted_a wanted_c), (8, v18), (9, v20), (11, .pointer (some ⟨b52, 0, none⟩)), (12, .int .i64 s76), (16, v_l), (17, .int .i64 (l.length : Int)), (18, .int .i64 (k6 : Int)), (23, v64), (24, .int .i64 (x45.versions.length : Int)), (25, .int .i64 (k70 : Int))]) ∧ Hp B i w' (obS (α := know_Version) 71 v20 s16.2 :: obS (α := know_Entry) 34 v18 s16.1 :: L) ∧ Tr B A22 w55 i w') (fun a ha => ⟨A22, ha.sub ⟨rfl, rfl, rfl, rfl, rfl, rfl, rfl, rfl, rfl, rfl, rfl, rfl, trivial⟩, ⟨hH, Tr.refl hA⟩⟩) ?_
          rintro K k70 s76 a w77 ⟨A78, ha123, hH79, hr69⟩ hle83 K86 h85
          refine C_of ?_ ha123
          replace h_l := Sl.tr h_l hr69
          replace h60 := El.tr h60 hr69
          replace h66 := Sl.tr h66 hr69
          replace hK := Tr.trans hK hr69
          replace hr5 := Tr.trans hr5 hr69
          replace hr35 := Tr.trans hr35 hr69
          replace hB := Nat.le_trans hB hr69.ex.size
          replace hA := hr69.new
          replace hH : Hp B A78 w77 (obS (α := know_Version) 71 v20 s16.2 :: obS (α := know_Entry) 34 v18 s16.1 :: L) := hH79
          refine C_seq (C_region (V_y (Y_lss rfl rfl) rfl rfl rfl (V_to (fun _ _ => rfl) ?_)))
          refine C_seq ?_
          refine C_cond rfl (fun hc88 => ?_) (fun hc88 => ?_)
          · have hlt84 := lt_of_dec hc88
            obtain ⟨x80, h81, h82⟩ := K86 hlt84
            refine C_skip_to (fun _ _ => rfl) ?_
            refine C_seq ?_
            obtain ⟨s90, ho89, h81⟩ := Option.bind_eq_some_iff.1 h81
            refine C_cutG (ι := (Nat → Prop)) (fun (A95 : (Nat → Prop)) => [(1, .int .i64 m), (2, .func (.func wanted_f) wanted_a wanted_c), (8, v18), (9, v20), (11, .pointer (some ⟨b52, 0, none⟩)), (12, .int .i64 s90), (16, v_l), (17, .int .i64 (l.length : Int)), (18, .int .i64 (k6 : Int)), (23, v64), (24, .int .i64 (x45.versions.length : Int)), (25, .int .i64 (k70 : Int))]) (fun (A95 : (Nat → Prop)) => fun w' => Hp B A95 w' (obS (α := know_Version) 71 v20 s16.2 :: obS (α := know_Entry) 34 v18 s16.1 :: L) ∧ Tr B A78 w77 A95 w') ?_ ?_
            · have hr91 : Tr B A78 w77 A78 w77 := Tr.refl hA
              refine C_block ?_
              refine C_seq ?_
              refine C_region ?_
              refine V_y (Y_move rfl) rfl rfl rfl ?_
              obtain ⟨x97, hx97, ho89⟩ := Option.bind_eq_some_iff.1 ho89
              refine V_indexAddr h66 hx97 Tryd.underlying63 Tryd.sizeOf71 rfl rfl rfl ?_
              intro b98 o99 h100
              obtain ⟨h101, _⟩ := El_know_Version h100
              refine V_y (Y_loadA h101 Tryd.isAgg71 Tryd.sizeOf71 rfl) rfl rfl rfl ?_
              refine V_alloc Tryd.zeroValue71 rfl ?_
              intro b102 w103 h104
              refine V_y (Y_assign rfl) rfl rfl rfl ?_
              refine V_storeNew h104 Tryd.sizeOf71 rfl rfl rfl rfl (by exact (List.forall_mem_cons.2 ⟨rfl, (List.forall_mem_cons.2 ⟨rfl, (List.forall_mem_cons.2 ⟨rfl, (fun _ h => nomatch h)⟩)⟩)⟩)) ?_
              intro w105 h106
              have hk108 := h106.kp
              have h107 : El (α := know_Version) A78 w105 b102 0 x97 := h106.el hA ⟨[.int .i64 x97.at_], _, rfl, rfl, ⟨[.string x97.title], _, rfl, rfl, rfl⟩⟩
              have ht109 := Kp.tr hk108 hA hB
              replace hH := Hp.kp hH hk108
              replace h_l := Sl.tr h_l ht109
              replace h60 := El.tr h60 ht109
              replace h66 := Sl.tr h66 ht109
              replace h100 := El.tr h100 ht109
              replace hK := Tr.trans hK ht109
              replace hr5 := Tr.trans hr5 ht109
              replace hr35 := Tr.trans hr35 ht109
              replace hr69 := Tr.trans hr69 ht109
              replace hr91 := Tr.trans hr91 ht109
              replace hB := Nat.le_trans hB ht109.ex.size
              replace hA := ht109.new
              refine V_to (fun _ _ => rfl) ?_
              refine C_seq ?_
              refine C_region ?_
              have h110 := El_know_Version_0 h107
              refine V_y (Y_fieldAddr Tryd.underlying71 rfl Tryd.sizeOf3 (by decide) rfl) rfl rfl rfl ?_
              refine V_y (Y_load (El.int h110) Tryd.isAgg3 rfl) rfl rfl rfl ?_
              refine V_y (Y_move rfl) rfl rfl rfl ?_
              refine V_y (Y_leq rfl rfl) rfl rfl rfl ?_
              refine V_to (fun _ _ => rfl) ?_
              obtain ⟨s112, ho111, ho89⟩ := Option.bind_eq_some_iff.1 ho89
              refine C_cutG (ι := Unit) (fun (_ : Unit) => [(1, .int .i64 m), (2, .func (.func wanted_f) wanted_a wanted_c), (8, v18), (9, v20), (11, .pointer (some ⟨b52, 0, none⟩)), (12, .int .i64 s112), (16, v_l), (17, .int .i64 (l.length : Int)), (18, .int .i64 (k6 : Int)), (23, v64), (24, .int .i64 (x45.versions.length : Int)), (25, .int .i64 (k70 : Int))]) (fun (_ : Unit) => fun w' => w105 = w') ?_ ?_
              · refine C_cond rfl (fun hc117 => ?_) (fun hc117 => ?_)
                · rw [if_pos hc117] at ho111
                  refine C_region ?_
                  refine V_y (Y_move rfl) rfl rfl rfl ?_
                  refine V_y (Y_assign rfl) rfl rfl rfl ?_
                  obtain rfl := Option.some.inj ho111
                  refine V_end (fun a ha118 => ?_)
                  exact ⟨(), ha118.sub ⟨rfl, rfl, rfl, rfl, rfl, rfl, rfl, rfl, rfl, rfl, rfl, rfl, trivial⟩, rfl⟩
                · rw [if_neg (nt hc117)] at ho111
                  obtain rfl := Option.some.inj ho111
                  refine C_skip (fun a ha119 => ?_)
                  exact ⟨(), ha119.sub ⟨rfl, rfl, rfl, rfl, rfl, rfl, rfl, rfl, rfl, rfl, rfl, rfl, trivial⟩, rfl⟩
              rintro _ _ rfl a ha116
              obtain rfl := Option.some.inj ho89
              exact ⟨A78, ha116.sub ⟨rfl, rfl, rfl, rfl, rfl, rfl, rfl, rfl, rfl, rfl, rfl, rfl, trivial⟩, ⟨hH, hr91⟩⟩
            rintro A95 w92 ⟨hH96, hk93⟩ a ha94
            replace h_l := Sl.tr h_l hk93
            replace h60 := El.tr h60 hk93
            replace h66 := Sl.tr h66 hk93
            replace hK := Tr.trans hK hk93
            replace hr5 := Tr.trans hr5 hk93
            replace hr35 := Tr.trans hr35 hk93
            replace hr69 := Tr.trans hr69 hk93
            replace hB := Nat.le_trans hB hk93.ex.size
            replace hA := hk93.new
            replace hH : Hp B A95 w92 (obS (α := know_Version) 71 v20 s16.2 :: obS (α := know_Entry) 34 v18 s16.1 :: L) := hH96
            refine C_at (n := ⟨76, [], none⟩) (fun _ _ => rfl) ?_ ha94
            refine C_region ?_
            refine V_y (Y_addI rfl rfl) rfl rfl rfl ?_
            refine V_y (Y_move rfl) rfl rfl rfl ?_
            obtain rfl := Option.some.inj h81
            refine V_end (fun a ha121 => ?_)
            exact ⟨s90, hlt84, h82, ⟨A95, ha121.sub ⟨rfl, rfl, rfl, rfl, rfl, rfl, rfl, rfl, rfl, rfl, rfl, (congrArg (fun z => some (Value.int .i64 z)) (w64_succ hlt84 hn87)), trivial⟩, ⟨hH, hr69⟩⟩⟩
          · refine C_exit (fun a ha122 => ?_)
            exact ⟨(s76, A78), ha122.sub ⟨rfl, rfl, rfl, rfl, rfl, rfl, rfl, rfl, rfl, trivial⟩, ⟨(h85 (eq_of_dec hle83 hc88)).symm, hH, hr69⟩⟩
        rintro ⟨s68, A74⟩ w71 ⟨rfl, hH75, hk72⟩ a ha73
        rw [Lp.andThen_fin] at ho33
        replace h_l := Sl.tr h_l hk72
        replace h60 := El.tr h60 hk72
        replace hK := Tr.trans hK hk72
        replace hr5 := Tr.trans hr5 hk72
        replace hr35 := Tr.trans hr35 hk72
        replace hB := Nat.le_trans hB hk72.ex.size
        replace hA := hk72.new
        replace hH : Hp B A74 w71 (obS (α := know_Version) 71 v20 s16.2 :: obS (α := know_Entry) 34 v18 s16.1 :: L) := hH75
        refine C_at (n := ⟨76, [], none⟩) (fun _ _ => rfl) ?_ ha73
        refine C_seq ?_
        refine C_seq ?_
        refine C_region ?_
        refine V_y (Y_move rfl) rfl rfl rfl ?_
        have h124 := El_know_Article_1 h60
        refine V_y (Y_fieldAddr Tryd.underlying69 rfl Tryd.sizeOf3 (by decide) rfl) rfl rfl rfl ?_
        refine V_y (Y_load (El.int h124) Tryd.isAgg3 rfl) rfl rfl rfl ?_
        obtain ⟨x125, hx125, ho33⟩ := Option.bind_eq_some_iff.1 ho33
        refine V_call wanted_call rfl rfl rfl rfl (wanted_spec w71 _ hK hA x45.group _ hx125) ?_
        rintro _ w126 ⟨rfl, hk127⟩
        have ht128 := Kp.tr hk127 hA hB
        replace hH := Hp.kp hH hk127
        replace h_l := Sl.tr h_l ht128
        replace h60 := El.tr h60 ht128
        replace h124 := El.tr h124 ht128
        replace hK := Tr.trans hK ht128
        replace hr5 := Tr.trans hr5 ht128
        replace hr35 := Tr.trans hr35 ht128
        replace hB := Nat.le_trans hB ht128.ex.size
        replace hA := ht128.new
        refine V_y (Y_not rfl) rfl rfl rfl ?_
        refine V_y (Y_move rfl) rfl rfl rfl ?_
        refine V_cut 3 (fun _ : Unit => [(1, .int .i64 m), (2, .func (.func wanted_f) wanted_a wanted_c), (8, v18), (9, v20), (11, .pointer (some ⟨b52, 0, none⟩)), (12, .int .i64 s68), (16, v_l), (17, .int .i64 (l.length : Int)), (18, .int .i64 (k6 : Int)), (44, .bool ((!x125) || (decide (s68 < 0))))]) (fun _ w' => w126 = w') ?_ ?_
        · simp only [List.take, List.drop]
          rcases Bool.eq_false_or_eq_true (!x125) with hc129 | hc129
          · refine V_gn rfl rfl rfl hc129 rfl rfl rfl ?_
            refine V_gn rfl rfl rfl hc129 rfl rfl rfl ?_
            refine V_y (Y_pick_te rfl hc129 rfl) rfl rfl rfl ?_
            exact V_end fun a ha => ⟨(), ha.sub ⟨rfl, rfl, rfl, rfl, rfl, rfl, rfl, rfl, rfl, (by rw [hc129]; rfl), trivial⟩, rfl⟩
          · refine V_ge rfl rfl rfl hc129 ?_
            refine V_y (Y_move rfl) rfl rfl rfl ?_
            refine V_ge rfl rfl rfl hc129 ?_
            refine V_y (Y_lss rfl rfl) rfl rfl rfl ?_
            refine V_y (Y_pick_fe rfl hc129 rfl) rfl rfl rfl ?_
            exact V_end fun a ha => ⟨(), ha.sub ⟨rfl, rfl, rfl, rfl, rfl, rfl, rfl, rfl, rfl, (by rw [hc129]; rfl), trivial⟩, rfl⟩
        simp only [List.take, List.drop]
        rintro _ _ rfl
        refine V_y (Y_move rfl) rfl rfl rfl ?_
        obtain ⟨s132, hs132, ho33⟩ := Option.bind_eq_some_iff.1 ho33
        refine V_cut 8 (fun _ : Unit => [(1, .int .i64 m), (2, .func (.func wanted_f) wanted_a wanted_c), (8, v18), (9, v20), (11, .pointer (some ⟨b52, 0, none⟩)), (12, .int .i64 s68), (16, v_l), (17, .int .i64 (l.length : Int)), (18, .int .i64 (k6 : Int)), (53, .bool s132)]) (fun _ w' => w126 = w') ?_ ?_
        · simp only [List.take, List.drop]
          rcases Bool.eq_false_or_eq_true (((!x125) || (decide (s68 < 0)))) with hc131 | hc131
          · rw [if_pos hc131] at hs132
            refine V_gn rfl rfl rfl hc131 rfl rfl rfl ?_
            refine V_gn rfl rfl rfl hc131 rfl rfl rfl ?_
            refine V_gn rfl rfl rfl hc131 rfl rfl rfl ?_
            refine V_gn rfl rfl rfl hc131 rfl rfl rfl ?_
            refine V_gn rfl rfl rfl hc131 rfl rfl rfl ?_
            refine V_gn rfl rfl rfl hc131 rfl rfl rfl ?_
            refine V_gn rfl rfl rfl hc131 rfl rfl rfl ?_
            refine V_y (Y_pick_te rfl hc131 rfl) rfl rfl rfl ?_
            obtain rfl := Option.some.inj hs132
            exact V_end fun a ha => ⟨(), ha.sub ⟨rfl, rfl, rfl, rfl, rfl, rfl, rfl, rfl, rfl, rfl, trivial⟩, rfl⟩
          · rw [if_neg (nt hc131)] at hs132
            refine V_ge rfl rfl rfl hc131 ?_
            have h133 := El_know_Article_2 h60
            refine V_y (Y_fieldAddr Tryd.underlying69 rfl Tryd.sizeOf63 (by decide) rfl) rfl rfl rfl ?_
            refine V_ge rfl rfl rfl hc131 ?_
            obtain ⟨v134, h135, h136⟩ := El.list h133
            refine V_y (Y_load h135 Tryd.isAgg63 rfl) rfl rfl rfl ?_
            refine V_ge rfl rfl rfl hc131 ?_
            refine V_y (Y_move rfl) rfl rfl rfl ?_
            refine V_ge rfl rfl rfl hc131 ?_
            obtain ⟨x137, hx137, hs132⟩ := Option.bind_eq_some_iff.1 hs132
            refine V_indexAddr h136 hx137 Tryd.underlying63 Tryd.sizeOf71 rfl rfl rfl ?_
            intro b138 o139 h140
            refine V_ge rfl rfl rfl hc131 ?_
            have h141 := El_know_Version_1 h140
            refine V_y (Y_fieldAddr Tryd.underlying71 rfl Tryd.sizeOf9 (by decide) rfl) rfl rfl rfl ?_
            refine V_ge rfl rfl rfl hc131 ?_
            refine V_y (Y_load (El.str h141) Tryd.isAgg9 rfl) rfl rfl rfl ?_
            refine V_ge rfl rfl rfl hc131 ?_
            refine V_y (Y_seql rfl rfl) rfl rfl rfl ?_
            refine V_y (Y_pick_fe rfl hc131 rfl) rfl rfl rfl ?_
            obtain rfl := Option.some.inj hs132
            exact V_end fun a ha => ⟨(), ha.sub ⟨rfl, rfl, rfl, rfl, rfl, rfl, rfl, rfl, rfl, rfl, trivial⟩, rfl⟩
        simp only [List.take, List.drop]
        rintro _ _ rfl
        refine V_to (fun _ _ => rfl) ?_
        refine C_cond rfl (fun hc142 => ?_) (fun hc142 => ?_)
        · rw [if_pos hc142] at ho33
          obtain rfl := Option.some.inj ho33
          refine C_exit (fun a ha143 => ?_)
          exact ⟨(v18, v20, A74), ha143.sub ⟨rfl, rfl, rfl, rfl, rfl, rfl, rfl, trivial⟩, ⟨hH, hr35⟩⟩
        · rw [if_neg (nt hc142)] at ho33
          refine C_skip_to (fun _ _ => rfl) ?_
          refine C_seq ?_
          refine C_region ?_
          have h144 := El_know_Article_2 h60
          refine V_y (Y_fieldAddr Tryd.underlying69 rfl Tryd.sizeOf63 (by decide) rfl) rfl rfl rfl ?_
          obtain ⟨v145, h146, h147⟩ := El.list h144
          refine V_y (Y_load h146 Tryd.isAgg63 rfl) rfl rfl rfl ?_
          refine V_y (Y_move rfl) rfl rfl rfl ?_
          obtain ⟨x148, hx148, ho33⟩ := Option.bind_eq_some_iff.1 ho33
          refine V_indexAddr h147 hx148 Tryd.underlying63 Tryd.sizeOf71 rfl rfl rfl ?_
          intro b149 o150 h151
          obtain ⟨h152, _⟩ := El_know_Version h151
          refine V_y (Y_loadA h152 Tryd.isAgg71 Tryd.sizeOf71 rfl) rfl rfl rfl ?_
          refine V_alloc Tryd.zeroValue71 rfl ?_
          intro b153 w154 h155
          refine V_storeNew h155 Tryd.sizeOf71 rfl rfl rfl rfl (by exact (List.forall_mem_cons.2 ⟨rfl, (List.forall_mem_cons.2 ⟨rfl, (List.forall_mem_cons.2 ⟨rfl, (fun _ h => nomatch h)⟩)⟩)⟩)) ?_
          intro w156 h157
          have hk159 := h157.kp
          have h158 : El (α := know_Version) A74 w156 b153 0 x148 := h157.el hA ⟨[.int .i64 x148.at_], _, rfl, rfl, ⟨[.string x148.title], _, rfl, rfl, rfl⟩⟩
          have ht160 := Kp.tr hk159 hA hB
          replace hH := Hp.kp hH hk159
          replace h_l := Sl.tr h_l ht160
          replace h60 := El.tr h60 ht160
          replace h144 := El.tr h144 ht160
          replace h147 := Sl.tr h147 ht160
          replace h151 := El.tr h151 ht160
          replace hK := Tr.trans hK ht160
          replace hr5 := Tr.trans hr5 ht160
          replace hr35 := Tr.trans hr35 ht160
          replace hB := Nat.le_trans hB ht160.ex.size
          replace hA := ht160.new
          refine V_to (fun _ _ => rfl) ?_
          refine C_seq ?_
          refine C_region ?_
          refine V_y (Y_move rfl) rfl rfl rfl ?_
          have h161 := El_know_Article_0 h60
          refine V_y (Y_fieldAddr Tryd.underlying69 rfl Tryd.sizeOf3 (by decide) rfl) rfl rfl rfl ?_
          refine V_y (Y_load (El.int h161) Tryd.isAgg3 rfl) rfl rfl rfl ?_
          have h162 := El_know_Version_1 h158
          refine V_y (Y_fieldAddr Tryd.underlying71 rfl Tryd.sizeOf9 (by decide) rfl) rfl rfl rfl ?_
          refine V_y (Y_load (El.str h162) Tryd.isAgg9 rfl) rfl rfl rfl ?_
          have h163 := El_know_Version_2 h158
          refine V_y (Y_fieldAddr Tryd.underlying71 rfl Tryd.sizeOf9 (by decide) rfl) rfl rfl rfl ?_
          refine V_y (Y_load (El.str h163) Tryd.isAgg9 rfl) rfl rfl rfl ?_
          refine V_y (Y_build Tryd.underlying34 Tryd.zeroValue34 (Tryd_places34 _ Tryd.underlying34) rfl (by with_unfolding_all rfl)) rfl rfl rfl ?_
          refine V_buildSlice (l := ([(⟨x45.id, x148.title, x148.body⟩ : know_Entry)] : List know_Entry)) (len := 1) Tryd.underlying29 Tryd.sizeOf34 Tryd.zeroValue34 rfl (by with_unfolding_all rfl) (by decide) (by decide) hA ⟨[.int .i64 x45.id, .string x148.title, .string x148.body], _, rfl, ⟨[.int .i64 x45.id], _, rfl, rfl, ⟨[.string x148.title], _, rfl, rfl, rfl⟩⟩, rfl⟩ rfl rfl ?_
          intro v164 w165 hk167 h166
          have ht168 := Kp.tr hk167 hA hB
          replace hH := Hp.kp hH hk167
          replace h_l := Sl.tr h_l ht168
          replace h60 := El.tr h60 ht168
          replace h158 := El.tr h158 ht168
          replace h161 := El.tr h161 ht168
          replace h162 := El.tr h162 ht168
          replace h163 := El.tr h163 ht168
          replace hK := Tr.trans hK ht168
          replace hr5 := Tr.trans hr5 ht168
          replace hr35 := Tr.trans hr35 ht168
          replace hB := Nat.le_trans hB ht168.ex.size
          replace hA := ht168.new
          obtain ⟨x169, hx169, ho33⟩ := Option.bind_eq_some_iff.1 ho33
          refine V_appendH (e := 34) (v := v18) (l := s16.1) (ti := Tryd.t34) (bytes := 40) (lim := 3518437208883) hH (i := 1) rfl h166 hx169 Tryd.underlying29 Tryd_info34 rfl rfl rfl rfl (by decide) (by decide) (by decide) hB hA rfl rfl rfl ?_
          intro v170 w171 A172 hH173 ht174
          replace h_l := Sl.tr h_l ht174
          replace h60 := El.tr h60 ht174
          replace h158 := El.tr h158 ht174
          replace h161 := El.tr h161 ht174
          replace h162 := El.tr h162 ht174
          replace h163 := El.tr h163 ht174
          replace h166 := Sl.tr h166 ht174
          replace hK := Tr.trans hK ht174
          replace hr5 := Tr.trans hr5 ht174
          replace hr35 := Tr.trans hr35 ht174
          replace hB := Nat.le_trans hB ht174.ex.size
          replace hA := ht174.new
          replace hH : Hp B A172 w171 (obS (α := know_Version) 71 v20 s16.2 :: obS (α := know_Entry) 34 v170 x169 :: L) := hH173
          refine V_y (Y_assign rfl) rfl rfl rfl ?_
          refine V_to (fun _ _ => rfl) ?_
          refine C_region ?_
          refine V_y (Y_move rfl) rfl rfl rfl ?_
          obtain ⟨h175, _⟩ := El_know_Version h158
          refine V_y (Y_loadA h175 Tryd.isAgg71 Tryd.sizeOf71 rfl) rfl rfl rfl ?_
          refine V_buildSlice (l := ([x148] : List know_Version)) (len := 1) Tryd.underlying63 Tryd.sizeOf71 Tryd.zeroValue71 rfl (by with_unfolding_all rfl) (by decide) (by decide) hA ⟨[.int .i64 x148.at_, .string x148.title, .string x148.body], _, rfl, ⟨[.int .i64 x148.at_], _, rfl, rfl, ⟨[.string x148.title], _, rfl, rfl, rfl⟩⟩, rfl⟩ rfl rfl ?_
          intro v176 w177 hk179 h178
          have ht180 := Kp.tr hk179 hA hB
          replace hH := Hp.kp hH hk179
          replace h_l := Sl.tr h_l ht180
          replace h158 := El.tr h158 ht180
          replace hK := Tr.trans hK ht180
          replace hr5 := Tr.trans hr5 ht180
          replace hr35 := Tr.trans hr35 ht180
          replace hB := Nat.le_trans hB ht180.ex.size
          replace hA := ht180.new
          obtain ⟨x181, hx181, ho33⟩ := Option.bind_eq_some_iff.1 ho33
          refine V_appendH (e := 71) (v := v20) (l := s16.2) (ti := Tryd.t71) (bytes := 40) (lim := 3518437208883) hH (i := 0) rfl h178 hx181 Tryd.underlying63 Tryd_info71 rfl rfl rfl rfl (by decide) (by decide) (by decide) hB hA rfl rfl rfl ?_
          intro v182 w183 A184 hH185 ht186
          replace h_l := Sl.tr h_l ht186
          replace h158 := El.tr h158 ht186
          replace h178 := Sl.tr h178 ht186
          replace hK := Tr.trans hK ht186
          replace hr5 := Tr.trans hr5 ht186
          replace hr35 := Tr.trans hr35 ht186
          replace hB := Nat.le_trans hB ht186.ex.size
          replace hA := ht186.new
          replace hH : Hp B A184 w183 (obS (α := know_Version) 71 v182 x181 :: obS (α := know_Entry) 34 v170 x169 :: L) := hH185
          refine V_y (Y_assign rfl) rfl rfl rfl ?_
          obtain rfl := Option.some.inj ho33
          refine V_end (fun a ha187 => ?_)
          exact ⟨(v170, v182, A184), ha187.sub ⟨rfl, rfl, rfl, rfl, rfl, rfl, rfl, trivial⟩, ⟨hH, hr35⟩⟩
      rintro ⟨v36, v38, A43⟩ w40 ⟨hH44, hk41⟩ a ha42
      replace h_l := Sl.tr h_l hk41
      replace hK := Tr.trans hK hk41
      replace hr5 := Tr.trans hr5 hk41
      replace hB := Nat.le_trans hB hk41.ex.size
      replace hA := hk41.new
      replace hH : Hp B A43 w40 (obS (α := know_Version) 71 v38 s34.2 :: obS (α := know_Entry) 34 v36 s34.1 :: L) := hH44
      refine C_at (n := ⟨76, [], none⟩) (fun _ _ => rfl) ?_ ha42
      refine C_region ?_
      refine V_y (Y_addI rfl rfl) rfl rfl rfl ?_
      refine V_y (Y_move rfl) rfl rfl rfl ?_
      obtain rfl := Option.some.inj h25
      refine V_end (fun a ha188 => ?_)
      exact ⟨(s34.1, s34.2), hlt28, h26, ⟨(v36, v38, A43), ha188.sub ⟨rfl, rfl, rfl, rfl, rfl, rfl, (congrArg (fun z => some (Value.int .i64 z)) (w64_succ hlt28 hn31)), trivial⟩, ⟨hH, hr5⟩⟩⟩
    · refine C_exit (fun a ha189 => ?_)
      exact ⟨((s16.1, s16.2), v18, v20, A22), ha189.sub ⟨rfl, rfl, trivial⟩, ⟨(h29 (eq_of_dec hle27 hc32)).symm, hH, hr5⟩⟩
  rintro ⟨s4, v10, v12, A14⟩ w7 ⟨rfl, hH15, hk8⟩ a ha9
  rw [Lp.andThen_fin] at hm
  replace hK := Tr.trans hK hk8
  replace hB := Nat.le_trans hB hk8.ex.size
  replace hA := hk8.new
  replace hH : Hp B A14 w7 (obS (α := know_Version) 71 v12 s4.2 :: obS (α := know_Entry) 34 v10 s4.1 :: L) := hH15
  refine C_at (n := ⟨76, [], none⟩) (fun _ _ => rfl) ?_ ha9
  refine C_seq ?_
  refine C_region ?_
  refine V_y (Y_move rfl) rfl rfl rfl ?_
  refine V_y (Y_move rfl) rfl rfl rfl ?_
  refine V_y (Y_assign rfl) rfl rfl rfl ?_
  refine V_y (Y_assign rfl) rfl rfl rfl ?_
  refine V_to (fun _ _ => rfl) ?_
  obtain rfl := Option.some.inj hm
  replace hH : Hp B A14 w7 (obS (α := know_Entry) 34 v10 s4.1 :: obS (α := know_Version) 71 v12 s4.2 :: L) := Hp.front hH (i := 1) rfl
  refine C_ret ?_
  try simp only [↓inBlock_ret, ↓then_ret]
  exact retQ rfl (Res.two Tryd.results34 rfl rfl) ⟨v10, v12, A14, rfl, hH, hK⟩

set_option maxRecDepth 4000 in
set_option maxHeartbeats 4000000 in
theorem slices_Index_Lint_int_c (w : World) {A : Nat → Prop} (s : (List Int)) (v_s : Value) (h_s : Sl A w v_s s) (v : Int) {r : Int} (hm : slices_Index_Lint_int s v = some r) : Ret Tryd.prog 64 #[v_s, .int .i64 v] w fun v w' => v = .int .i64 r ∧ w = w' := by
  unfold slices_Index_Lint_int at hm
  refine enter Tryd.func64 rfl Tryd.ntmps64 rfl ?_
  refine C_seq ?_
  refine C_region ?_
  refine V_y (Y_assign rfl) rfl rfl rfl ?_
  refine V_to (fun _ _ => rfl) ?_
  refine C_seq ?_
  refine C_seq ?_
  refine C_region ?_
  refine V_y (Y_move rfl) rfl rfl rfl ?_
  refine V_y (Y_lenSl h_s rfl Tryd.underlying28 rfl) rfl rfl rfl ?_
  refine V_y (Y_move rfl) rfl rfl rfl ?_
  refine V_to (fun _ _ => rfl) ?_
  have hn19 := Sl.le h_s
  obtain ⟨o3, ho3, hm⟩ := Option.bind_eq_some_iff.1 hm
  refine C_cutG (ι := Unit) (fun (s4 : Unit) => []) (fun (s4 : Unit) => fun w' => o3 = .fin s4 ∧ w = w') ?_ ?_
  · refine C_block ?_
    refine C_range ho3 (fun k6 _ a w' => ∃ i : Unit, Has ⟨19, [], none⟩ a ([(0, v_s), (1, .int .i64 v), (7, .int .i64 (s.length : Int)), (8, .int .i64 (k6 : Int))]) ∧ w = w') (fun a ha => ⟨(), ha.sub ⟨rfl, rfl, rfl, rfl, trivial⟩, rfl⟩) ?_
    rintro K k6 _ a _ ⟨_, ha28, rfl⟩ hle15 K18 h17
    refine C_of ?_ ha28
    refine C_seq (C_region (V_y (Y_lss rfl rfl) rfl rfl rfl (V_to (fun _ _ => rfl) ?_)))
    refine C_seq ?_
    refine C_cond rfl (fun hc20 => ?_) (fun hc20 => ?_)
    · have hlt16 := lt_of_dec hc20
      obtain ⟨x12, h13, h14⟩ := K18 hlt16
      refine C_skip_to (fun _ _ => rfl) ?_
      refine C_seq ?_
      refine C_block ?_
      refine C_seq ?_
      refine C_region ?_
      refine V_y (Y_move rfl) rfl rfl rfl ?_
      refine V_y (Y_assign rfl) rfl rfl rfl ?_
      refine V_to (fun _ _ => rfl) ?_
      refine C_seq ?_
      refine C_region ?_
      refine V_y (Y_move rfl) rfl rfl rfl ?_
      refine V_y (Y_move rfl) rfl rfl rfl ?_
      refine V_y (Y_move rfl) rfl rfl rfl ?_
      obtain ⟨x21, hx21, h13⟩ := Option.bind_eq_some_iff.1 h13
      refine V_indexAddr h_s hx21 Tryd.underlying28 Tryd.sizeOf3 rfl rfl rfl ?_
      intro b22 o23 h24
      refine V_y (Y_load (El.int h24) Tryd.isAgg3 rfl) rfl rfl rfl ?_
      refine V_y (Y_eql rfl rfl) rfl rfl rfl ?_
      refine V_to (fun _ _ => rfl) ?_
      refine C_cond rfl (fun hc25 => ?_) (fun hc25 => ?_)
      · rw [if_pos hc25] at h13
        refine C_seq ?_
        refine C_region ?_
        refine V_y (Y_move rfl) rfl rfl rfl ?_
        refine V_y (Y_assign rfl) rfl rfl rfl ?_
        refine V_to (fun _ _ => rfl) ?_
        obtain rfl := Option.some.inj h13
        obtain rfl := (h14 : Lp.rt _ = _)
        rw [Lp.andThen_rt] at hm
        obtain rfl := Option.some.inj hm
        refine C_ret ?_
        try simp only [↓inBlock_ret, ↓then_ret]
        exact retQ rfl (Res.one Tryd.results64 rfl) ⟨rfl, rfl⟩
      · rw [if_neg (nt hc25)] at h13
        refine C_skip_to (fun _ _ => rfl) ?_
        refine C_region ?_
        refine V_y (Y_addI rfl rfl) rfl rfl rfl ?_
        refine V_y (Y_move rfl) rfl rfl rfl ?_
        obtain rfl := Option.some.inj h13
        refine V_end (fun a ha26 => ?_)
        exact ⟨(), hlt16, h14, ⟨(), ha26.sub ⟨rfl, rfl, rfl, (congrArg (fun z => some (Value.int .i64 z)) (w64_succ hlt16 hn19)), trivial⟩, rfl⟩⟩
    · refine C_exit (fun a ha27 => ?_)
      exact ⟨(), ha27.sub trivial, ⟨(h17 (eq_of_dec hle15 hc20)).symm, rfl⟩⟩
  rintro s4 _ ⟨rfl, rfl⟩ a ha9
  rw [Lp.andThen_fin] at hm
  refine C_at (n := ⟨19, [], none⟩) (fun _ _ => rfl) ?_ ha9
  refine C_seq ?_
  refine C_region ?_
  refine V_y (Y_assign rfl) rfl rfl rfl ?_
  refine V_to (fun _ _ => rfl) ?_
  obtain rfl := Option.some.inj hm
  refine C_ret ?_
  try simp only [↓inBlock_ret, ↓then_ret]
  exact retQ rfl (Res.one Tryd.results64 rfl) ⟨rfl, rfl⟩

set_option maxRecDepth 4000 in
set_option maxHeartbeats 4000000 in
theorem slices_Contains_Lint_int_c (w : World) {A : Nat → Prop} (s : (List Int)) (v_s : Value) (h_s : Sl A w v_s s) (v : Int) {r : Bool} (hm : slices_Contains_Lint_int s v = some r) : Ret Tryd.prog 36 #[v_s, .int .i64 v] w fun v w' => v = .bool r ∧ w = w' := by
  unfold slices_Contains_Lint_int at hm
  refine enter Tryd.func36 rfl Tryd.ntmps36 rfl ?_
  refine C_seq ?_
  refine C_region ?_
  refine V_y (Y_assign rfl) rfl rfl rfl ?_
  refine V_to (fun _ _ => rfl) ?_
  refine C_seq ?_
  refine C_region ?_
  refine V_y (Y_move rfl) rfl rfl rfl ?_
  refine V_y (Y_move rfl) rfl rfl rfl ?_
  obtain ⟨x3, hx3, hm⟩ := Option.bind_eq_some_iff.1 hm
  refine V_call Tryd.call64 rfl rfl rfl rfl (slices_Index_Lint_int_c w s v_s h_s v hx3) ?_
  rintro _ _ ⟨rfl, rfl⟩
  refine V_y (Y_geq rfl rfl) rfl rfl rfl ?_
  refine V_y (Y_assign rfl) rfl rfl rfl ?_
  refine V_to (fun _ _ => rfl) ?_
  obtain rfl := Option.some.inj hm
  refine C_ret ?_
  try simp only [↓inBlock_ret, ↓then_ret]
  exact retQ rfl (Res.one Tryd.results36 rfl) ⟨rfl, rfl⟩

set_option maxRecDepth 4000 in
set_option maxHeartbeats 4000000 in
theorem know_Current_1_c (w : World) {A : Nat → Prop} (group : Int) (p1 : (List Int)) (b_p1 : Nat) (h_p1 : El A w b_p1 0 p1) {r : Bool} (hm : know_Current_1 group p1 = some r) : Ret Tryd.prog 35 #[.int .i64 group, .pointer (some ⟨b_p1, 0, none⟩)] w fun v w' => v = .bool r ∧ w = w' := by
  unfold know_Current_1 at hm
  refine enter Tryd.func35 rfl Tryd.ntmps35 rfl ?_
  refine C_seq ?_
  refine C_region ?_
  refine V_y (Y_assign rfl) rfl rfl rfl ?_
  refine V_to (fun _ _ => rfl) ?_
  refine C_seq ?_
  refine C_region ?_
  obtain ⟨v1, h2, h3⟩ := El.list h_p1
  refine V_y (Y_load h2 Tryd.isAgg28 rfl) rfl rfl rfl ?_
  refine V_y (Y_move rfl) rfl rfl rfl ?_
  obtain ⟨x4, hx4, hm⟩ := Option.bind_eq_some_iff.1 hm
  refine V_call Tryd.call36 rfl rfl rfl rfl (slices_Contains_Lint_int_c w p1 v1 h3 group hx4) ?_
  rintro _ _ ⟨rfl, rfl⟩
  refine V_y (Y_assign rfl) rfl rfl rfl ?_
  refine V_to (fun _ _ => rfl) ?_
  obtain rfl := Option.some.inj hm
  refine C_ret ?_
  try simp only [↓inBlock_ret, ↓then_ret]
  exact retQ rfl (Res.one Tryd.results35 rfl) ⟨rfl, rfl⟩

set_option maxRecDepth 4000 in
set_option maxHeartbeats 4000000 in
theorem know_Current_c (w : World) {A : Nat → Prop} (hA : ∀ b, w.heap.size ≤ b → A b) (hT : Mx Tryd.prog 2 A w) (l : (List know_Article)) (v_l : Value) (h_l : Sl A w v_l l) (groups : (List Int)) (v_groups : Value) (h_groups : Sl A w v_groups groups) (m : Int) {r : ((List know_Entry) × Int)} (hm : know_Current l groups m = some r) : Ret Tryd.prog 10 #[v_l, v_groups, .int .i64 m] w fun v w' => ∃ s0, v = .tuple #[s0, .int .i64 r.2] ∧ Sl A w' s0 r.1 ∧ Kp w w' := by
  unfold know_Current at hm
  refine enter Tryd.func10 rfl Tryd.ntmps10 rfl ?_
  have hA0 := hA
  have hB := Nat.le_refl w.heap.size
  have hK : Tr w.heap.size A w A w := Tr.refl hA
  have hH : Hp w.heap.size A w [] := Hp.nil
  refine C_seq ?_
  refine C_region ?_
  refine V_box rfl rfl ?_
  intro b5 w6 h7
  have h12 : (v_groups).oneCell' = true := by obtain ⟨_, _, e, _⟩ := Sl.form h_groups; rw [e]; rfl
  have hk9 := h7.kp
  have h8 : El (α := (List Int)) A w6 b5 0 groups := h7.el hA (by rw [Value.cells_one h12]; exact ⟨_, rfl, h_groups⟩)
  have ht13 := Kp.tr hk9 hA hB
  replace hH := Hp.kp hH hk9
  replace h_l := Sl.tr h_l ht13
  replace h_groups := Sl.tr h_groups ht13
  replace hK := Tr.trans hK ht13
  replace hB := Nat.le_trans hB ht13.ex.size
  replace hA := ht13.new
  refine V_y (Y_assign rfl) rfl rfl rfl ?_
  refine V_y (Y_assign rfl) rfl rfl rfl ?_
  refine V_to (fun _ _ => rfl) ?_
  refine C_seq ?_
  refine C_seq ?_
  refine C_region ?_
  refine V_y (Y_move rfl) rfl rfl rfl ?_
  obtain ⟨x14, hx14, hm⟩ := Option.bind_eq_some_iff.1 hm
  refine V_call Tryd.call13 rfl rfl rfl rfl (know_CheckArticles_c w6 hA (Mx.tr hT hK) l v_l h_l hx14) ?_
  rintro _ w15 ⟨rfl, hk16⟩
  have ht17 := Kp.tr hk16 hA hB
  replace hH := Hp.kp hH hk16
  replace h_l := Sl.tr h_l ht17
  replace h8 := El.tr h8 ht17
  replace hK := Tr.trans hK ht17
  replace hB := Nat.le_trans hB ht17.ex.size
  replace hA := ht17.new
  refine V_y (Y_assign rfl) rfl rfl rfl ?_
  refine V_to (fun _ _ => rfl) ?_
  refine C_seq ?_
  refine C_region ?_
  refine V_y (Y_move rfl) rfl rfl rfl ?_
  refine V_y (Y_neq rfl rfl) rfl rfl rfl ?_
  refine V_to (fun _ _ => rfl) ?_
  refine C_cond rfl (fun hc18 => ?_) (fun hc18 => ?_)
  · rw [if_pos hc18] at hm
    refine C_seq ?_
    refine C_region ?_
    refine V_y (Y_move rfl) rfl rfl rfl ?_
    refine V_y (Y_assign rfl) rfl rfl rfl ?_
    refine V_y (Y_assign rfl) rfl rfl rfl ?_
    refine V_to (fun _ _ => rfl) ?_
    obtain rfl := Option.some.inj hm
    refine C_ret ?_
    try simp only [↓inBlock_ret, ↓then_ret]
    exact retQ rfl (Res.two Tryd.results10 rfl rfl) ⟨.slice none 0 0, rfl, Sl.nil, hK.kp⟩
  · rw [if_neg (nt hc18)] at hm
    refine C_skip_to (fun _ _ => rfl) ?_
    refine C_seq ?_
    refine C_seq ?_
    refine C_region ?_
    refine V_y (Y_move rfl) rfl rfl rfl ?_
    refine V_call Tryd.call33 rfl rfl rfl rfl (know_within_c w15 m 0 3000000) ?_
    rintro _ _ ⟨rfl, rfl⟩
    refine V_y (Y_not rfl) rfl rfl rfl ?_
    refine V_to (fun _ _ => rfl) ?_
    refine C_cond rfl (fun hc19 => ?_) (fun hc19 => ?_)
    · rw [if_pos hc19] at hm
      refine C_seq ?_
      refine C_region ?_
      refine V_y (Y_assign rfl) rfl rfl rfl ?_
      refine V_y (Y_assign rfl) rfl rfl rfl ?_
      refine V_to (fun _ _ => rfl) ?_
      obtain rfl := Option.some.inj hm
      refine C_ret ?_
      try simp only [↓inBlock_ret, ↓then_ret]
      exact retQ rfl (Res.two Tryd.results10 rfl rfl) ⟨.slice none 0 0, rfl, Sl.nil, hK.kp⟩
    · rw [if_neg (nt hc19)] at hm
      refine C_skip_to (fun _ _ => rfl) ?_
      refine C_seq ?_
      refine C_seq ?_
      refine C_region ?_
      obtain ⟨v20, h21, h22⟩ := El.list h8
      refine V_y (Y_load h21 Tryd.isAgg28 rfl) rfl rfl rfl ?_
      refine V_y (Y_lenSl h22 rfl Tryd.underlying28 rfl) rfl rfl rfl ?_
      refine V_y (Y_gtr rfl rfl) rfl rfl rfl ?_
      refine V_to (fun _ _ => rfl) ?_
      refine C_cond rfl (fun hc23 => ?_) (fun hc23 => ?_)
      · rw [if_pos hc23] at hm
        refine C_seq ?_
        refine C_region ?_
        refine V_y (Y_assign rfl) rfl rfl rfl ?_
        refine V_y (Y_assign rfl) rfl rfl rfl ?_
        refine V_to (fun _ _ => rfl) ?_
        obtain rfl := Option.some.inj hm
        refine C_ret ?_
        try simp only [↓inBlock_ret, ↓then_ret]
        exact retQ rfl (Res.two Tryd.results10 rfl rfl) ⟨.slice none 0 0, rfl, Sl.nil, hK.kp⟩
      · rw [if_neg (nt hc23)] at hm
        refine C_skip_to (fun _ _ => rfl) ?_
        refine C_seq ?_
        refine C_region ?_
        refine V_y (Y_move rfl) rfl rfl rfl ?_
        refine V_y (Y_move rfl) rfl rfl rfl ?_
        refine V_y (Y_makeFunc rfl rfl) rfl rfl rfl ?_
        obtain ⟨x25, hx25, hm⟩ := Option.bind_eq_some_iff.1 hm
        refine V_call Tryd.call34 rfl rfl rfl rfl (know_current_c w15 hB hA l v_l h_l m (fun y37 => know_Current_1 y37 groups) 35 #[] #[.pointer (some ⟨b5, 0, none⟩)] Tryd.call35 (fun w33 A34 ht35 h36 y30 r31 h32 => (know_Current_1_c w33  y30 groups b5 (El.tr h8 ht35) h32).mono (fun _ _ h => ⟨h.1, h.2 ▸ Kp.refl _⟩)) hH hx25) ?_
        rintro _ w38 ⟨v26, v28, A39, rfl, hH40, ht41⟩
        replace h_l := Sl.tr h_l ht41
        replace h8 := El.tr h8 ht41
        replace hK := Tr.trans hK ht41
        replace hB := Nat.le_trans hB ht41.ex.size
        replace hA := ht41.new
        replace hH : Hp w.heap.size A39 w38 (obS (α := know_Entry) 34 v26 x25.1 :: obS (α := know_Version) 71 v28 x25.2 :: []) := hH40
        refine V_y (Y_move rfl) rfl rfl rfl ?_
        refine V_y (Y_extract rfl rfl) rfl rfl rfl ?_
        refine V_y (Y_extract rfl rfl) rfl rfl rfl ?_
        refine V_y (Y_assign rfl) rfl rfl rfl ?_
        refine V_y (Y_assign rfl) rfl rfl rfl ?_
        refine V_to (fun _ _ => rfl) ?_
        refine C_seq ?_
        refine C_region ?_
        refine V_y (Y_move rfl) rfl rfl rfl ?_
        refine V_y (Y_assign rfl) rfl rfl rfl ?_
        refine V_y (Y_assign rfl) rfl rfl rfl ?_
        refine V_to (fun _ _ => rfl) ?_
        obtain rfl := Option.some.inj hm
        obtain ⟨A42, ht43, h44, hH45⟩ := Hp.freeze (α := know_Entry) (v := v26) (l := x25.1) hH (i := 0) rfl hA
        replace hK := Tr.trans hK ht43
        replace hB := Nat.le_trans hB ht43.ex.size
        replace hA := ht43.new
        replace hH : Hp w.heap.size A42 w38 (obS (α := know_Version) 71 v28 x25.2 :: []) := hH45
        refine C_ret ?_
        try simp only [↓inBlock_ret, ↓then_ret]
        exact retQ rfl (Res.two Tryd.results10 rfl rfl) ⟨v26, rfl, (Sl.out h44 hA0 hK), hK.kp⟩

set_option maxRecDepth 4000 in
set_option maxHeartbeats 4000000 in
theorem portref2_IsMoment_c (w : World) (m : Int) : Ret Tryd.prog 37 #[.int .i64 m] w fun v w' => v = .bool (portref2_IsMoment m) ∧ w = w' := by
  generalize hm : portref2_IsMoment m = r
  unfold portref2_IsMoment at hm
  refine enter Tryd.func37 rfl Tryd.ntmps37 rfl ?_
  refine C_seq ?_
  refine C_region ?_
  refine V_y (Y_assign rfl) rfl rfl rfl ?_
  refine V_to (fun _ _ => rfl) ?_
  refine C_seq ?_
  refine C_region ?_
  refine V_y (Y_move rfl) rfl rfl rfl ?_
  refine V_y (Y_geq rfl rfl) rfl rfl rfl ?_
  refine V_y (Y_move rfl) rfl rfl rfl ?_
  refine V_cut 3 (fun _ : Unit => [(8, .bool ((decide ((0 : Int) ≤ m)) && (decide (m ≤ 3000000))))]) (fun _ w' => w = w') ?_ ?_
  · simp only [List.take, List.drop]
    rcases Bool.eq_false_or_eq_true (decide ((0 : Int) ≤ m)) with hc1 | hc1
    · refine V_ge rfl rfl rfl hc1 ?_
      refine V_y (Y_move rfl) rfl rfl rfl ?_
      refine V_ge rfl rfl rfl hc1 ?_
      refine V_y (Y_leq rfl rfl) rfl rfl rfl ?_
      refine V_y (Y_pick_te rfl hc1 rfl) rfl rfl rfl ?_
      exact V_end fun a ha => ⟨(), ha.sub ⟨(by rw [hc1]; rfl), trivial⟩, rfl⟩
    · refine V_gn rfl rfl rfl hc1 rfl rfl rfl ?_
      refine V_gn rfl rfl rfl hc1 rfl rfl rfl ?_
      refine V_y (Y_pick_fe rfl hc1 rfl) rfl rfl rfl ?_
      exact V_end fun a ha => ⟨(), ha.sub ⟨(by rw [hc1]; rfl), trivial⟩, rfl⟩
  simp only [List.take, List.drop]
  rintro _ _ rfl
  refine V_y (Y_assign rfl) rfl rfl rfl ?_
  refine V_to (fun _ _ => rfl) ?_
  obtain rfl := hm
  refine C_ret ?_
  try simp only [↓inBlock_ret, ↓then_ret]
  exact retQ rfl (Res.one Tryd.results37 rfl) ⟨rfl, rfl⟩

set_option maxRecDepth 4000 in
set_option maxHeartbeats 4000000 in
theorem portref2_bodyLines_c (w : World) {A : Nat → Prop} (hA : ∀ b, w.heap.size ≤ b → A b) (hT : Mx Tryd.prog 2 A w) (s : ByteArray) {r : (List ByteArray)} (hm : portref2_bodyLines s = some r) : Ret Tryd.prog 30 #[.string s] w fun v w' => ∃ s0, v = s0 ∧ Sl A w' s0 r ∧ Kp w w' := by
  unfold portref2_bodyLines at hm
  refine enter Tryd.func30 rfl Tryd.ntmps30 rfl ?_
  have hA0 := hA
  have hB := Nat.le_refl w.heap.size
  have hK : Tr w.heap.size A w A w := Tr.refl hA
  have hH : Hp w.heap.size A w [] := Hp.nil
  refine C_seq ?_
  refine C_region ?_
  refine V_y (Y_assign rfl) rfl rfl rfl ?_
  refine V_to (fun _ _ => rfl) ?_
  refine C_seq ?_
  refine C_region ?_
  refine V_y (Y_move rfl) rfl rfl rfl ?_
  obtain ⟨x1, hx1, hm⟩ := Option.bind_eq_some_iff.1 hm
  refine V_call Tryd.call58 rfl rfl rfl rfl (strings_SplitAfter_c w hA (Mx.tr hT hK) s (⟨#[10]⟩ : ByteArray) hx1) ?_
  rintro v2 w4 ⟨_, rfl, h3, hk5⟩
  have ht6 := Kp.tr hk5 hA hB
  replace hH := Hp.kp hH hk5
  replace hK := Tr.trans hK ht6
  replace hB := Nat.le_trans hB ht6.ex.size
  replace hA := ht6.new
  refine V_y (Y_assign rfl) rfl rfl rfl ?_
  refine V_to (fun _ _ => rfl) ?_
  refine C_seq ?_
  refine C_seq ?_
  refine C_region ?_
  refine V_y (Y_move rfl) rfl rfl rfl ?_
  refine V_y (Y_move rfl) rfl rfl rfl ?_
  refine V_y (Y_lenSl h3 rfl Tryd.underlying53 rfl) rfl rfl rfl ?_
  refine V_y (Y_subI rfl rfl) rfl rfl rfl ?_
  obtain ⟨x7, hx7, hm⟩ := Option.bind_eq_some_iff.1 hm
  refine V_indexAddr h3 hx7 Tryd.underlying53 Tryd.sizeOf9 rfl rfl rfl ?_
  intro b8 o9 h10
  refine V_y (Y_load (El.str h10) Tryd.isAgg9 rfl) rfl rfl rfl ?_
  refine V_y (Y_seql rfl rfl) rfl rfl rfl ?_
  refine V_to (fun _ _ => rfl) ?_
  obtain ⟨s12, ho11, hm⟩ := Option.bind_eq_some_iff.1 hm
  refine C_cutG (ι := Value) (fun (v14 : Value) => [(3, v14)]) (fun (v14 : Value) => fun w' => Sl A w' v14 s12 ∧ w4 = w') ?_ ?_
  · refine C_cond rfl (fun hc20 => ?_) (fun hc20 => ?_)
    · rw [if_pos hc20] at ho11
      refine C_region ?_
      refine V_y (Y_move rfl) rfl rfl rfl ?_
      refine V_y (Y_move rfl) rfl rfl rfl ?_
      refine V_y (Y_lenSl h3 rfl Tryd.underlying53 rfl) rfl rfl rfl ?_
      refine V_y (Y_subI rfl rfl) rfl rfl rfl ?_
      obtain ⟨x21, hx21, ho11⟩ := Option.bind_eq_some_iff.1 ho11
      obtain ⟨v22, h23, h23y⟩ := sliceL_val hx21 h3
      refine V_y (Y_sliceLH h23y Tryd.underlying53 Tryd.sizeOf9 rfl rfl) rfl rfl rfl ?_
      refine V_y (Y_assign rfl) rfl rfl rfl ?_
      obtain rfl := Option.some.inj ho11
      refine V_end (fun a ha24 => ?_)
      exact ⟨v22, ha24.sub ⟨rfl, trivial⟩, ⟨h23, rfl⟩⟩
    · rw [if_neg (nt hc20)] at ho11
      obtain rfl := Option.some.inj ho11
      refine C_skip (fun a ha25 => ?_)
      exact ⟨v2, ha25.sub ⟨rfl, trivial⟩, ⟨h3, rfl⟩⟩
  rintro v14 _ ⟨h15, rfl⟩ a ha19
  refine C_at (n := ⟨19, [], none⟩) (fun _ _ => rfl) ?_ ha19
  refine C_seq ?_
  refine C_region ?_
  refine V_y (Y_move rfl) rfl rfl rfl ?_
  refine V_y (Y_assign rfl) rfl rfl rfl ?_
  refine V_to (fun _ _ => rfl) ?_
  obtain rfl := Option.some.inj hm
  refine C_ret ?_
  try simp only [↓inBlock_ret, ↓then_ret]
  exact retQ rfl (Res.one Tryd.results30 rfl) ⟨v14, rfl, (Sl.out h15 hA0 hK), hK.kp⟩

def Tryd_strings_ReplaceAll_lay_ren : Go.Shelf.Ren := ⟨fun | 138 => 111 | 143 => 62 | 154 => 100 | 155 => 67 | 165 => 61 | 166 => 47 | 169 => 53 | 195 => 140 | 197 => 118 | 217 => 94 | 218 => 141 | 219 => 96 | 224 => 115 | 225 => 114 | 240 => 85 | 241 => 95 | 260 => 144 | 266 => 112 | 267 => 116 | 276 => 107 | 277 => 113 | 314 => 142 | n => n, fun | 0 => 0 | 1 => 1 | 2 => 2 | 3 => 3 | 4 => 4 | 5 => 5 | 6 => 6 | 7 => 7 | 8 => 8 | 9 => 9 | 10 => 10 | 11 => 11 | 12 => 12 | 13 => 13 | 14 => 14 | 15 => 15 | 16 => 16 | 17 => 17 | 18 => 18 | 19 => 19 | 20 => 20 | 21 => 21 | 22 => 59 | 23 => 61 | 27 => 111 | 28 => 28 | 29 => 66 | 30 => 112 | 31 => 53 | 34 => 47 | 37 => 81 | 40 => 136 | 41 => 190 | 43 => 127 | 46 => 144 | 47 => 143 | 51 => 163 | 52 => 162 | 53 => 165 | 54 => 164 | 55 => 109 | 61 => 108 | 63 => 191 | 64 => 199 | 65 => 137 | 66 => 114 | 67 => 60 | 68 => 54 | 70 => 80 | 71 => 82 | 72 => 83 | 73 => 110 | 74 => 84 | 75 => 85 | 76 => 86 | 77 => 87 | 78 => 89 | 80 => 102 | 81 => 207 | 83 => 88 | 84 => 147 | 103 => 177 | 104 => 105 | 105 => 152 | 106 => 153 | 111 => 67 | 113 => 133 | 114 => 150 | 115 => 171 | 116 => 172 | 117 => 173 | 118 => 174 | 119 => 192 | 122 => 170 | 123 => 175 | 124 => 176 | 127 => 128 | 131 => 160 | 137 => 193 | 138 => 194 | 139 => 195 | 146 => 178 | 150 => 148 | 151 => 179 | 155 => 180 | 164 => 145 | 165 => 146 | 166 => 149 | 171 => 166 | 172 => 167 | 173 => 168 | 174 => 169 | 182 => 155 | 183 => 156 | 211 => 187 | 212 => 188 | 213 => 189 | 218 => 181 | 219 => 182 | 220 => 183 | 222 => 185 | 228 => 196 | 229 => 197 | 232 => 200 | 233 => 201 | 238 => 202 | 239 => 203 | 240 => 204 | 241 => 205 | 242 => 206 | 243 => 208 | 244 => 209 | 245 => 210 | 246 => 211 | 247 => 212 | 248 => 213 | 249 => 214 | n => n, fun | 1 => 2 | 3 => 4 | 4 => 5 | 17 => 3 | 18 => 6 | 19 => 7 | n => n⟩
theorem Tryd_strings_ReplaceAll_lay : Go.Proofs.Lays.n155 Tryd.prog Tryd_strings_ReplaceAll_lay_ren := {
  mixed := by kernel_rfl,
  f138 := Tryd.func111.trans (congrArg some (by kernel_rfl)),
  f143 := Tryd.func62.trans (congrArg some (by kernel_rfl)),
  f154 := Tryd.func100.trans (congrArg some (by kernel_rfl)),
  f155 := Tryd.func67.trans (congrArg some (by kernel_rfl)),
  f165 := Tryd.func61.trans (congrArg some (by kernel_rfl)),
  f166 := Tryd.func47.trans (congrArg some (by kernel_rfl)),
  f169 := Tryd.func53.trans (congrArg some (by kernel_rfl)),
  f195 := Tryd.func140.trans (congrArg some (by kernel_rfl)),
  f197 := Tryd.func118.trans (congrArg some (by kernel_rfl)),
  f217 := Tryd.func94.trans (congrArg some (by kernel_rfl)),
  f218 := Tryd.func141.trans (congrArg some (by kernel_rfl)),
  f219 := Tryd.func96.trans (congrArg some (by kernel_rfl)),
  f224 := Tryd.func115.trans (congrArg some (by kernel_rfl)),
  f225 := Tryd.func114.trans (congrArg some (by kernel_rfl)),
  f240 := Tryd.func85.trans (congrArg some (by kernel_rfl)),
  f241 := Tryd.func95.trans (congrArg some (by kernel_rfl)),
  f260 := Tryd.func144.trans (congrArg some (by kernel_rfl)),
  f266 := Tryd.func112.trans (congrArg some (by kernel_rfl)),
  f267 := Tryd.func116.trans (congrArg some (by kernel_rfl)),
  f276 := Tryd.func107.trans (congrArg some (by kernel_rfl)),
  f277 := Tryd.func113.trans (congrArg some (by kernel_rfl)),
  f314 := Tryd.func142.trans (congrArg some (by kernel_rfl)),
  t0 := Tryd.underlying0,
  a0 := Tryd.isAgg0,
  z0 := Tryd.sizeOf0,
  v0 := Tryd.zeroValue0,
  t3 := Tryd.underlying3,
  a3 := Tryd.isAgg3,
  z3 := Tryd.sizeOf3,
  v3 := Tryd.zeroValue3,
  t4 := Tryd.underlying4,
  a4 := Tryd.isAgg4,
  z4 := Tryd.sizeOf4,
  v4 := Tryd.zeroValue4,
  t5 := Tryd.underlying5,
  a5 := Tryd.isAgg5,
  z5 := Tryd.sizeOf5,
  v5 := Tryd.zeroValue5,
  t9 := Tryd.underlying9,
  a9 := Tryd.isAgg9,
  z9 := Tryd.sizeOf9,
  v9 := Tryd.zeroValue9,
  t20 := Tryd.underlying20,
  a20 := Tryd.isAgg20,
  z20 := Tryd.sizeOf20,
  v20 := Tryd.zeroValue20,
  t21 := Tryd.underlying21,
  a21 := Tryd.isAgg21,
  z21 := Tryd.sizeOf21,
  v21 := Tryd.zeroValue21,
  t37 := Tryd.underlying81,
  a37 := Tryd.isAgg81,
  z37 := Tryd.sizeOf81,
  v37 := Tryd.zeroValue81,
  t46 := Tryd.underlying144,
  a46 := Tryd.isAgg144,
  z46 := Tryd.sizeOf144,
  v46 := Tryd.zeroValue144,
  t51 := Tryd.underlying163,
  a51 := Tryd.isAgg163,
  z51 := Tryd.sizeOf163,
  v51 := Tryd.zeroValue163,
  t70 := Tryd.underlying80,
  a70 := Tryd.isAgg80,
  z70 := Tryd.sizeOf80,
  v70 := Tryd.zeroValue80,
  t72 := Tryd.underlying83,
  a72 := Tryd.isAgg83,
  z72 := Tryd.sizeOf83,
  v72 := Tryd.zeroValue83,
  t75 := Tryd.underlying85,
  a75 := Tryd.isAgg85,
  z75 := Tryd.sizeOf85,
  v75 := Tryd.zeroValue85,
  t76 := Tryd.underlying86,
  a76 := Tryd.isAgg86,
  z76 := Tryd.sizeOf86,
  v76 := Tryd.zeroValue86,
  t105 := Tryd.underlying152,
  a105 := Tryd.isAgg152,
  z105 := Tryd.sizeOf152,
  v105 := Tryd.zeroValue152,
  t119 := Tryd.underlying192,
  a119 := Tryd.isAgg192,
  z119 := Tryd.sizeOf192,
  t127 := Tryd.underlying128,
  a127 := Tryd.isAgg128,
  z127 := Tryd.sizeOf128,
  v127 := Tryd.zeroValue128,
  t138 := Tryd.underlying194,
  a138 := Tryd.isAgg194,
  z138 := Tryd.sizeOf194,
  v138 := Tryd.zeroValue194,
  t139 := Tryd.underlying195,
  a139 := Tryd.isAgg195,
  z139 := Tryd.sizeOf195,
  v139 := Tryd.zeroValue195,
  t146 := Tryd.underlying178,
  a146 := Tryd.isAgg178,
  z146 := Tryd.sizeOf178,
  v146 := Tryd.zeroValue178,
  t164 := Tryd.underlying145,
  a164 := Tryd.isAgg145,
  z164 := Tryd.sizeOf145,
  v164 := Tryd.zeroValue145,
  g1 := by kernel_rfl,
  g3 := by kernel_rfl,
  g4 := by kernel_rfl }
theorem Tryd_strings_ReplaceAll_lay_x : Go.Proofs.Builder.Extra Tryd.prog Tryd_strings_ReplaceAll_lay_ren := {
  sizeBuilder := by kernel_rfl
  liesBuilder := by kernel_rfl
  t5 := Tryd.underlying5
  a5 := Tryd.isAgg5
  z5 := Tryd.sizeOf5
  v5 := Tryd.zeroValue5
  infoByte := by kernel_rfl
  cellsByte := by kernel_rfl
  sizeByte := by kernel_rfl
  neB5 := (by decide : (83 : Nat) ≠ 5) }
theorem strings_ReplaceAll_c (w : World) {A : Nat → Prop} (hA : ∀ b, w.heap.size ≤ b → A b) (hT : Mx Tryd.prog 2 A w) (s : ByteArray) (old : ByteArray) (new : ByteArray) {r : ByteArray} (hm : strings_ReplaceAll s old new = some r) : Ret Tryd.prog 67 #[.string s, .string old, .string new] w fun v w' => v = .string r ∧ Kp w w' := by
  unfold strings_ReplaceAll at hm
  split at hm
  case isFalse => cases hm
  rename_i h
  obtain rfl := Option.some.inj hm
  obtain ⟨⟨m, hmx⟩, _, _⟩ := hT
  refine Calls.mono (Go.Proofs.Any.strings_ReplaceAll Tryd_strings_ReplaceAll_lay Tryd_strings_ReplaceAll_lay_x s old new m w h.1 hmx h.2.1 h.2.2) ?_
  rintro _ w' ⟨rfl, hk⟩
  exact ⟨_, rfl, rfl, hk⟩

set_option maxRecDepth 4000 in
set_option maxHeartbeats 4000000 in
theorem portref2_lowByte_1_c (w : World) (r_ : Int) : Ret Tryd.prog 99 #[.int .i32 r_] w fun v w' => v = .bool (portref2_lowByte_1 r_) ∧ w = w' := by
  generalize hm : portref2_lowByte_1 r_ = r
  unfold portref2_lowByte_1 at hm
  refine enter Tryd.func99 rfl Tryd.ntmps99 rfl ?_
  refine C_seq ?_
  refine C_region ?_
  refine V_y (Y_assign rfl) rfl rfl rfl ?_
  refine V_to (fun _ _ => rfl) ?_
  refine C_seq ?_
  refine C_region ?_
  refine V_y (Y_move rfl) rfl rfl rfl ?_
  refine V_y (Y_lss rfl rfl) rfl rfl rfl ?_
  refine V_y (Y_move rfl) rfl rfl rfl ?_
  refine V_cut 3 (fun _ : Unit => [(8, .bool ((decide (r_ < 32)) || (r_ == 127)))]) (fun _ w' => w = w') ?_ ?_
  · simp only [List.take, List.drop]
    rcases Bool.eq_false_or_eq_true (decide (r_ < 32)) with hc1 | hc1
    · refine V_gn rfl rfl rfl hc1 rfl rfl rfl ?_
      refine V_gn rfl rfl rfl hc1 rfl rfl rfl ?_
      refine V_y (Y_pick_te rfl hc1 rfl) rfl rfl rfl ?_
      exact V_end fun a ha => ⟨(), ha.sub ⟨(by rw [hc1]; rfl), trivial⟩, rfl⟩
    · refine V_ge rfl rfl rfl hc1 ?_
      refine V_y (Y_move rfl) rfl rfl rfl ?_
      refine V_ge rfl rfl rfl hc1 ?_
      refine V_y (Y_eql rfl rfl) rfl rfl rfl ?_
      refine V_y (Y_pick_fe rfl hc1 rfl) rfl rfl rfl ?_
      exact V_end fun a ha => ⟨(), ha.sub ⟨(by rw [hc1]; rfl), trivial⟩, rfl⟩
  simp only [List.take, List.drop]
  rintro _ _ rfl
  refine V_y (Y_assign rfl) rfl rfl rfl ?_
  refine V_to (fun _ _ => rfl) ?_
  obtain rfl := hm
  refine C_ret ?_
  try simp only [↓inBlock_ret, ↓then_ret]
  exact retQ rfl (Res.one Tryd.results99 rfl) ⟨rfl, rfl⟩

set_option maxRecDepth 4000 in
set_option maxHeartbeats 4000000 in
theorem portref2_lowByte_c (w : World) {A : Nat → Prop} (hA : ∀ b, w.heap.size ≤ b → A b) (s : ByteArray) {r : Bool} (hm : portref2_lowByte s = some r) : Ret Tryd.prog 66 #[.string s] w fun v w' => v = .bool r ∧ Kp w w' := by
  unfold portref2_lowByte at hm
  refine enter Tryd.func66 rfl Tryd.ntmps66 rfl ?_
  have hA0 := hA
  have hB := Nat.le_refl w.heap.size
  have hK : Tr w.heap.size A w A w := Tr.refl hA
  have hH : Hp w.heap.size A w [] := Hp.nil
  refine C_seq ?_
  refine C_region ?_
  refine V_y (Y_assign rfl) rfl rfl rfl ?_
  refine V_to (fun _ _ => rfl) ?_
  refine C_seq ?_
  refine C_region ?_
  refine V_y (Y_move rfl) rfl rfl rfl ?_
  refine V_call Tryd.call98 rfl rfl rfl rfl (contains_wrap (Go.Proofs.Any.strings_ContainsFunc_grows Tryd_contains_lay 99 #[] (fun args w => Tryd.call99 args w) (fun y => portref2_lowByte_1 (y : Int)) s w (fun W x _ _ => Calls.mono (portref2_lowByte_1_c W (x : Int)) fun _ _ h => contains_fn h))) ?_
  rintro _ w1 ⟨rfl, hk2⟩
  have ht3 := Kp.tr hk2 hA hB
  replace hH := Hp.kp hH hk2
  replace hK := Tr.trans hK ht3
  replace hB := Nat.le_trans hB ht3.ex.size
  replace hA := ht3.new
  refine V_y (Y_assign rfl) rfl rfl rfl ?_
  refine V_to (fun _ _ => rfl) ?_
  obtain rfl := Option.some.inj hm
  refine C_ret ?_
  try simp only [↓inBlock_ret, ↓then_ret]
  exact retQ rfl (Res.one Tryd.results66 rfl) ⟨rfl, hK.kp⟩

set_option maxRecDepth 4000 in
set_option maxHeartbeats 4000000 in
theorem portref2_versionFault_c (w : World) {A : Nat → Prop} (hA : ∀ b, w.heap.size ≤ b → A b) (hT : Mx Tryd.prog 2 A w) (v : know_Version) {r : Int} (hm : portref2_versionFault v = some r) : Ret Tryd.prog 40 #[.agg #[.int .i64 v.at_, .string v.title, .string v.body]] w fun v w' => v = .int .i64 r ∧ Kp w w' := by
  unfold portref2_versionFault at hm
  refine enter Tryd.func40 rfl Tryd.ntmps40 rfl ?_
  have hA0 := hA
  have hB := Nat.le_refl w.heap.size
  have hK : Tr w.heap.size A w A w := Tr.refl hA
  have hH : Hp w.heap.size A w [] := Hp.nil
  refine C_seq ?_
  refine C_region ?_
  refine V_box rfl rfl ?_
  intro b1 w2 h3
  have hk5 := h3.kp
  have h4 : El (α := know_Version) A w2 b1 0 v := h3.el hA ⟨[.int .i64 v.at_], _, rfl, rfl, ⟨[.string v.title], _, rfl, rfl, rfl⟩⟩
  have ht6 := Kp.tr hk5 hA hB
  replace hH := Hp.kp hH hk5
  replace hK := Tr.trans hK ht6
  replace hB := Nat.le_trans hB ht6.ex.size
  replace hA := ht6.new
  refine V_y (Y_assign rfl) rfl rfl rfl ?_
  refine V_to (fun _ _ => rfl) ?_
  refine C_seq ?_
  refine C_block ?_
  refine C_seq ?_
  obtain ⟨s8, ho7, hm⟩ := Option.bind_eq_some_iff.1 hm
  refine C_cutG (ι := (Nat → Prop)) (fun (A13 : (Nat → Prop)) => [(1, .pointer (some ⟨b1, 0, none⟩)), (3, .bool s8)]) (fun (A13 : (Nat → Prop)) => fun w' => Hp w.heap.size A13 w' ([]) ∧ Tr w.heap.size A w2 A13 w') ?_ ?_
  · have hr9 : Tr w.heap.size A w2 A w2 := Tr.refl hA
    refine C_region ?_
    have h15 := El_know_Version_1 h4
    refine V_y (Y_fieldAddr Tryd.underlying71 rfl Tryd.sizeOf9 (by decide) rfl) rfl rfl rfl ?_
    refine V_y (Y_load (El.str h15) Tryd.isAgg9 rfl) rfl rfl rfl ?_
    refine V_y (Y_lenStr rfl Tryd.underlying9 rfl) rfl rfl rfl ?_
    refine V_y (Y_gtr rfl rfl) rfl rfl rfl ?_
    refine V_y (Y_move rfl) rfl rfl rfl ?_
    rcases Bool.eq_false_or_eq_true (decide ((200 : Int) < (v.title.size : Int))) with hc16 | hc16
    · rw [if_pos hc16] at ho7
      refine V_gn rfl rfl rfl hc16 rfl rfl rfl ?_
      refine V_gn rfl rfl rfl hc16 rfl rfl rfl ?_
      refine V_gn rfl rfl rfl hc16 rfl rfl rfl ?_
      refine V_gn rfl rfl rfl hc16 rfl rfl rfl ?_
      refine V_y (Y_pick_te rfl hc16 rfl) rfl rfl rfl ?_
      refine V_y (Y_move rfl) rfl rfl rfl ?_
      rcases Bool.eq_false_or_eq_true (true) with hc17 | hc17
      · rw [if_pos hc17] at ho7
        refine V_gn rfl rfl rfl hc17 rfl rfl rfl ?_
        refine V_gn rfl rfl rfl hc17 rfl rfl rfl ?_
        refine V_gn rfl rfl rfl hc17 rfl rfl rfl ?_
        refine V_gn rfl rfl rfl hc17 rfl rfl rfl ?_
        refine V_gn rfl rfl rfl hc17 rfl rfl rfl ?_
        refine V_y (Y_pick_te rfl hc17 rfl) rfl rfl rfl ?_
        refine V_y (Y_assign rfl) rfl rfl rfl ?_
        obtain rfl := Option.some.inj ho7
        refine V_end (fun a ha18 => ?_)
        exact ⟨A, ha18.sub ⟨rfl, rfl, trivial⟩, ⟨hH, hr9⟩⟩
      · rw [if_neg (nt hc17)] at ho7
        refine V_ge rfl rfl rfl hc17 ?_
        have h19 := El_know_Version_2 h4
        refine V_y (Y_fieldAddr Tryd.underlying71 rfl Tryd.sizeOf9 (by decide) rfl) rfl rfl rfl ?_
        refine V_ge rfl rfl rfl hc17 ?_
        refine V_y (Y_load (El.str h19) Tryd.isAgg9 rfl) rfl rfl rfl ?_
        refine V_ge rfl rfl rfl hc17 ?_
        obtain ⟨x20, hx20, ho7⟩ := Option.bind_eq_some_iff.1 ho7
        refine V_call Tryd.call30 rfl rfl rfl rfl (portref2_bodyLines_c w2 hA (Mx.tr hT hK) v.body hx20) ?_
        rintro v21 w23 ⟨_, rfl, h22, hk24⟩
        have ht25 := Kp.tr hk24 hA hB
        replace hH := Hp.kp hH hk24
        replace h4 := El.tr h4 ht25
        replace h15 := El.tr h15 ht25
        replace h19 := El.tr h19 ht25
        replace hK := Tr.trans hK ht25
        replace hr9 := Tr.trans hr9 ht25
        replace hB := Nat.le_trans hB ht25.ex.size
        replace hA := ht25.new
        refine V_ge rfl rfl rfl hc17 ?_
        refine V_y (Y_lenSl h22 rfl Tryd.underlying53 rfl) rfl rfl rfl ?_
        refine V_ge rfl rfl rfl hc17 ?_
        refine V_y (Y_gtr rfl rfl) rfl rfl rfl ?_
        refine V_y (Y_pick_fe rfl hc17 rfl) rfl rfl rfl ?_
        refine V_y (Y_assign rfl) rfl rfl rfl ?_
        obtain rfl := Option.some.inj ho7
        refine V_end (fun a ha26 => ?_)
        exact ⟨A, ha26.sub ⟨rfl, rfl, trivial⟩, ⟨hH, hr9⟩⟩
    · rw [if_neg (nt hc16)] at ho7
      refine V_ge rfl rfl rfl hc16 ?_
      have h27 := El_know_Version_2 h4
      refine V_y (Y_fieldAddr Tryd.underlying71 rfl Tryd.sizeOf9 (by decide) rfl) rfl rfl rfl ?_
      refine V_ge rfl rfl rfl hc16 ?_
      refine V_y (Y_load (El.str h27) Tryd.isAgg9 rfl) rfl rfl rfl ?_
      refine V_ge rfl rfl rfl hc16 ?_
      refine V_y (Y_lenStr rfl Tryd.underlying9 rfl) rfl rfl rfl ?_
      refine V_ge rfl rfl rfl hc16 ?_
      refine V_y (Y_gtr rfl rfl) rfl rfl rfl ?_
      refine V_y (Y_pick_fe rfl hc16 rfl) rfl rfl rfl ?_
      refine V_y (Y_move rfl) rfl rfl rfl ?_
      rcases Bool.eq_false_or_eq_true (decide ((20000 : Int) < (v.body.size : Int))) with hc28 | hc28
      · rw [if_pos hc28] at ho7
        refine V_gn rfl rfl rfl hc28 rfl rfl rfl ?_
        refine V_gn rfl rfl rfl hc28 rfl rfl rfl ?_
        refine V_gn rfl rfl rfl hc28 rfl rfl rfl ?_
        refine V_gn rfl rfl rfl hc28 rfl rfl rfl ?_
        refine V_gn rfl rfl rfl hc28 rfl rfl rfl ?_
        refine V_y (Y_pick_te rfl hc28 rfl) rfl rfl rfl ?_
        refine V_y (Y_assign rfl) rfl rfl rfl ?_
        obtain rfl := Option.some.inj ho7
        refine V_end (fun a ha29 => ?_)
        exact ⟨A, ha29.sub ⟨rfl, rfl, trivial⟩, ⟨hH, hr9⟩⟩
      · rw [if_neg (nt hc28)] at ho7
        refine V_ge rfl rfl rfl hc28 ?_
        have h30 := El_know_Version_2 h4
        refine V_y (Y_fieldAddr Tryd.underlying71 rfl Tryd.sizeOf9 (by decide) rfl) rfl rfl rfl ?_
        refine V_ge rfl rfl rfl hc28 ?_
        refine V_y (Y_load (El.str h30) Tryd.isAgg9 rfl) rfl rfl rfl ?_
        refine V_ge rfl rfl rfl hc28 ?_
        obtain ⟨x31, hx31, ho7⟩ := Option.bind_eq_some_iff.1 ho7
        refine V_call Tryd.call30 rfl rfl rfl rfl (portref2_bodyLines_c w2 hA (Mx.tr hT hK) v.body hx31) ?_
        rintro v32 w34 ⟨_, rfl, h33, hk35⟩
        have ht36 := Kp.tr hk35 hA hB
        replace hH := Hp.kp hH hk35
        replace h4 := El.tr h4 ht36
        replace h15 := El.tr h15 ht36
        replace h27 := El.tr h27 ht36
        replace h30 := El.tr h30 ht36
        replace hK := Tr.trans hK ht36
        replace hr9 := Tr.trans hr9 ht36
        replace hB := Nat.le_trans hB ht36.ex.size
        replace hA := ht36.new
        refine V_ge rfl rfl rfl hc28 ?_
        refine V_y (Y_lenSl h33 rfl Tryd.underlying53 rfl) rfl rfl rfl ?_
        refine V_ge rfl rfl rfl hc28 ?_
        refine V_y (Y_gtr rfl rfl) rfl rfl rfl ?_
        refine V_y (Y_pick_fe rfl hc28 rfl) rfl rfl rfl ?_
        refine V_y (Y_assign rfl) rfl rfl rfl ?_
        obtain rfl := Option.some.inj ho7
        refine V_end (fun a ha37 => ?_)
        exact ⟨A, ha37.sub ⟨rfl, rfl, trivial⟩, ⟨hH, hr9⟩⟩
  rintro A13 w10 ⟨hH14, hk11⟩ a ha12
  replace h4 := El.tr h4 hk11
  replace hK := Tr.trans hK hk11
  replace hB := Nat.le_trans hB hk11.ex.size
  replace hA := hk11.new
  replace hH : Hp w.heap.size A13 w10 ([]) := hH14
  refine C_at (n := ⟨40, [], none⟩) (fun _ _ => rfl) ?_ ha12
  refine C_cond rfl (fun hc38 => ?_) (fun hc38 => ?_)
  · rw [if_pos hc38] at hm
    refine C_seq ?_
    refine C_region ?_
    refine V_y (Y_assign rfl) rfl rfl rfl ?_
    refine V_to (fun _ _ => rfl) ?_
    obtain rfl := Option.some.inj hm
    refine C_ret ?_
    try simp only [↓inBlock_ret, ↓then_ret]
    exact retQ rfl (Res.one Tryd.results40 rfl) ⟨rfl, hK.kp⟩
  · rw [if_neg (nt hc38)] at hm
    refine C_seq ?_
    obtain ⟨s40, ho39, hm⟩ := Option.bind_eq_some_iff.1 hm
    refine C_cutG (ι := (Nat → Prop)) (fun (A45 : (Nat → Prop)) => [(1, .pointer (some ⟨b1, 0, none⟩)), (21, .bool s40)]) (fun (A45 : (Nat → Prop)) => fun w' => Hp w.heap.size A45 w' ([]) ∧ Tr w.heap.size A13 w10 A45 w') ?_ ?_
    · have hr41 : Tr w.heap.size A13 w10 A13 w10 := Tr.refl hA
      refine C_region ?_
      have h47 := El_know_Version_1 h4
      refine V_y (Y_fieldAddr Tryd.underlying71 rfl Tryd.sizeOf9 (by decide) rfl) rfl rfl rfl ?_
      refine V_y (Y_load (El.str h47) Tryd.isAgg9 rfl) rfl rfl rfl ?_
      obtain ⟨x48, hx48, ho39⟩ := Option.bind_eq_some_iff.1 ho39
      refine V_call Tryd.call66 rfl rfl rfl rfl (portref2_lowByte_c w10 hA v.title hx48) ?_
      rintro _ w49 ⟨rfl, hk50⟩
      have ht51 := Kp.tr hk50 hA hB
      replace hH := Hp.kp hH hk50
      replace h4 := El.tr h4 ht51
      replace h47 := El.tr h47 ht51
      replace hK := Tr.trans hK ht51
      replace hr41 := Tr.trans hr41 ht51
      replace hB := Nat.le_trans hB ht51.ex.size
      replace hA := ht51.new
      refine V_y (Y_move rfl) rfl rfl rfl ?_
      rcases Bool.eq_false_or_eq_true (x48) with hc52 | hc52
      · rw [if_pos hc52] at ho39
        refine V_gn rfl rfl rfl hc52 rfl rfl rfl ?_
        refine V_gn rfl rfl rfl hc52 rfl rfl rfl ?_
        refine V_gn rfl rfl rfl hc52 rfl rfl rfl ?_
        refine V_gn rfl rfl rfl hc52 rfl rfl rfl ?_
        refine V_y (Y_pick_te rfl hc52 rfl) rfl rfl rfl ?_
        refine V_y (Y_assign rfl) rfl rfl rfl ?_
        obtain rfl := Option.some.inj ho39
        refine V_end (fun a ha53 => ?_)
        exact ⟨A13, ha53.sub ⟨rfl, rfl, trivial⟩, ⟨hH, hr41⟩⟩
      · rw [if_neg (nt hc52)] at ho39
        refine V_ge rfl rfl rfl hc52 ?_
        have h54 := El_know_Version_2 h4
        refine V_y (Y_fieldAddr Tryd.underlying71 rfl Tryd.sizeOf9 (by decide) rfl) rfl rfl rfl ?_
        refine V_ge rfl rfl rfl hc52 ?_
        refine V_y (Y_load (El.str h54) Tryd.isAgg9 rfl) rfl rfl rfl ?_
        refine V_ge rfl rfl rfl hc52 ?_
        obtain ⟨x55, hx55, ho39⟩ := Option.bind_eq_some_iff.1 ho39
        refine V_call Tryd.call67 rfl rfl rfl rfl (strings_ReplaceAll_c w49 hA (Mx.tr hT hK) v.body (⟨#[10]⟩ : ByteArray) (⟨#[]⟩ : ByteArray) hx55) ?_
        rintro _ w56 ⟨rfl, hk57⟩
        have ht58 := Kp.tr hk57 hA hB
        replace hH := Hp.kp hH hk57
        replace h4 := El.tr h4 ht58
        replace h47 := El.tr h47 ht58
        replace h54 := El.tr h54 ht58
        replace hK := Tr.trans hK ht58
        replace hr41 := Tr.trans hr41 ht58
        replace hB := Nat.le_trans hB ht58.ex.size
        replace hA := ht58.new
        refine V_ge rfl rfl rfl hc52 ?_
        obtain ⟨x59, hx59, ho39⟩ := Option.bind_eq_some_iff.1 ho39
        refine V_call Tryd.call66 rfl rfl rfl rfl (portref2_lowByte_c w56 hA x55 hx59) ?_
        rintro _ w60 ⟨rfl, hk61⟩
        have ht62 := Kp.tr hk61 hA hB
        replace hH := Hp.kp hH hk61
        replace h4 := El.tr h4 ht62
        replace h47 := El.tr h47 ht62
        replace h54 := El.tr h54 ht62
        replace hK := Tr.trans hK ht62
        replace hr41 := Tr.trans hr41 ht62
        replace hB := Nat.le_trans hB ht62.ex.size
        replace hA := ht62.new
        refine V_y (Y_pick_fe rfl hc52 rfl) rfl rfl rfl ?_
        refine V_y (Y_assign rfl) rfl rfl rfl ?_
        obtain rfl := Option.some.inj ho39
        refine V_end (fun a ha63 => ?_)
        exact ⟨A13, ha63.sub ⟨rfl, rfl, trivial⟩, ⟨hH, hr41⟩⟩
    rintro A45 w42 ⟨hH46, hk43⟩ a ha44
    replace h4 := El.tr h4 hk43
    replace hK := Tr.trans hK hk43
    replace hB := Nat.le_trans hB hk43.ex.size
    replace hA := hk43.new
    replace hH : Hp w.heap.size A45 w42 ([]) := hH46
    refine C_at (n := ⟨40, [], none⟩) (fun _ _ => rfl) ?_ ha44
    refine C_cond rfl (fun hc64 => ?_) (fun hc64 => ?_)
    · rw [if_pos hc64] at hm
      refine C_seq ?_
      refine C_region ?_
      refine V_y (Y_assign rfl) rfl rfl rfl ?_
      refine V_to (fun _ _ => rfl) ?_
      obtain rfl := Option.some.inj hm
      refine C_ret ?_
      try simp only [↓inBlock_ret, ↓then_ret]
      exact retQ rfl (Res.one Tryd.results40 rfl) ⟨rfl, hK.kp⟩
    · rw [if_neg (nt hc64)] at hm
      refine C_seq ?_
      refine C_region ?_
      have h65 := El_know_Version_1 h4
      refine V_y (Y_fieldAddr Tryd.underlying71 rfl Tryd.sizeOf9 (by decide) rfl) rfl rfl rfl ?_
      refine V_y (Y_load (El.str h65) Tryd.isAgg9 rfl) rfl rfl rfl ?_
      refine V_y (Y_seql rfl rfl) rfl rfl rfl ?_
      refine V_y (Y_move rfl) rfl rfl rfl ?_
      refine V_cut 4 (fun _ : Unit => [(39, .bool ((strEq v.title (⟨#[]⟩ : ByteArray)) && (!(strEq v.body (⟨#[]⟩ : ByteArray)))))]) (fun _ w' => w42 = w') ?_ ?_
      · simp only [List.take, List.drop]
        rcases Bool.eq_false_or_eq_true (strEq v.title (⟨#[]⟩ : ByteArray)) with hc66 | hc66
        · refine V_ge rfl rfl rfl hc66 ?_
          have h68 := El_know_Version_2 h4
          refine V_y (Y_fieldAddr Tryd.underlying71 rfl Tryd.sizeOf9 (by decide) rfl) rfl rfl rfl ?_
          refine V_ge rfl rfl rfl hc66 ?_
          refine V_y (Y_load (El.str h68) Tryd.isAgg9 rfl) rfl rfl rfl ?_
          refine V_ge rfl rfl rfl hc66 ?_
          refine V_y (Y_sneq rfl rfl) rfl rfl rfl ?_
          refine V_y (Y_pick_te rfl hc66 rfl) rfl rfl rfl ?_
          exact V_end fun a ha => ⟨(), ha.sub ⟨(by rw [hc66]; rfl), trivial⟩, rfl⟩
        · refine V_gn rfl rfl rfl hc66 rfl rfl rfl ?_
          refine V_gn rfl rfl rfl hc66 rfl rfl rfl ?_
          refine V_gn rfl rfl rfl hc66 rfl rfl rfl ?_
          refine V_y (Y_pick_fe rfl hc66 rfl) rfl rfl rfl ?_
          exact V_end fun a ha => ⟨(), ha.sub ⟨(by rw [hc66]; rfl), trivial⟩, rfl⟩
      simp only [List.take, List.drop]
      rintro _ _ rfl
      refine V_y (Y_assign rfl) rfl rfl rfl ?_
      refine V_to (fun _ _ => rfl) ?_
      refine C_cond rfl (fun hc69 => ?_) (fun hc69 => ?_)
      · rw [if_pos hc69] at hm
        refine C_seq ?_
        refine C_region ?_
        refine V_y (Y_assign rfl) rfl rfl rfl ?_
        refine V_to (fun _ _ => rfl) ?_
        obtain rfl := Option.some.inj hm
        refine C_ret ?_
        try simp only [↓inBlock_ret, ↓then_ret]
        exact retQ rfl (Res.one Tryd.results40 rfl) ⟨rfl, hK.kp⟩
      · rw [if_neg (nt hc69)] at hm
        refine C_skip_to (fun _ _ => rfl) ?_
        refine C_seq ?_
        refine C_region ?_
        refine V_y (Y_assign rfl) rfl rfl rfl ?_
        refine V_to (fun _ _ => rfl) ?_
        obtain rfl := Option.some.inj hm
        refine C_ret ?_
        try simp only [↓inBlock_ret, ↓then_ret]
        exact retQ rfl (Res.one Tryd.results40 rfl) ⟨rfl, hK.kp⟩

end Go.Proofs.YtcokjipcmpfgbaaDoor.W
