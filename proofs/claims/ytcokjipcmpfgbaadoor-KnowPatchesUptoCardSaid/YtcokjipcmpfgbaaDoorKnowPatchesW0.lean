/-
  Written by program (gen.py) from the IR of the dump: each function computes its model.
-/
import Derived.Test.YtcokjipcmpfgbaaDoorProg
import Derived.Test.YtcokjipcmpfgbaaDoorGe
import Derived.Test.YtcokjipcmpfgbaaDoorKnowPatchesM
import Derived.KernelRfl
import Derived.Shelf.Strings.Search3
import Derived.Shelf.Strings.OnBuilder
import Derived.Shelf.Strings.Split
import Derived.Test.YtcokjipcmpfgbaaDoorGi
import Derived.Test.YtcokjipcmpfgbaaDoorGj
import Derived.Test.YtcokjipcmpfgbaaDoorGg
import Derived.Test.YtcokjipcmpfgbaaDoorGp
import Derived.Test.YtcokjipcmpfgbaaDoorGv
namespace Go.Proofs.YtcokjipcmpfgbaaDoor.W
open Go Go.RowKit Go.Pu Go.Gw Go.Proofs Go.Proofs.YtcokjipcmpfgbaaDoor.M
set_option linter.unusedVariables false
set_option linter.unusedSimpArgs false

theorem Tryd_info9 : Tryd.prog.info? 9 = some Tryd.t9 := by kernel_rfl
theorem Tryd_ext112 : Tryd.prog.funcs[112]? = some Tryd.f112 := by kernel_rfl
theorem Tryd_extn112 : Extern.findNext Tryd.f112 = none := by kernel_rfl
theorem Tryd_extf112 : Extern.find Tryd.f112 = some Extern.BytealgIndexByte.indexByte := by kernel_rfl
theorem Tryd_extb112 : (Tryd.f112.name == "runtime.NumGoroutine") = false ∧ Tryd.f112.body.isNone = true := by constructor <;> kernel_rfl
theorem Tryd_mixed : Tryd.prog.follows .mixedOrders = true := by kernel_rfl

instance : GoT know_Edit := GoT.of (β := Int × Int × (List ByteArray)) fun x => (x.at_, x.drop, x.add)

theorem El_know_Edit_ {A : Nat → Prop} {w : World} {b off : Nat} {x : know_Edit} (h : El A w b off x) : El (α := Int × Int × (List ByteArray)) A w b off (x.at_, x.drop, x.add) := h

theorem El_know_Edit_0 {A : Nat → Prop} {w : World} {b off : Nat} {x : know_Edit} (h : El A w b off x) : El A w b (off + 0) x.at_ := El.fst (El_know_Edit_ h)

theorem El_know_Edit_1 {A : Nat → Prop} {w : World} {b off : Nat} {x : know_Edit} (h : El A w b off x) : El A w b (off + 1) x.drop := El.fst (El.snd (El_know_Edit_ h))

theorem El_know_Edit_2 {A : Nat → Prop} {w : World} {b off : Nat} {x : know_Edit} (h : El A w b off x) : El A w b (off + 2) x.add := El.snd (El.snd (El_know_Edit_ h))

theorem El_know_Edit {A : Nat → Prop} {w : World} {b off : Nat} {x : know_Edit} (h : El A w b off x) : ∃ v1, At w b off [.int .i64 x.at_, .int .i64 x.drop, v1] ∧ Sl A w v1 x.add := by
  obtain ⟨h1, h2, cs, h3, h4⟩ := h
  obtain ⟨_, _, rfl, rfl, ⟨_, _, rfl, rfl, ⟨u1, rfl, g1⟩⟩⟩ := h3
  exact ⟨u1, h4, g1⟩

def Tryd_strings_genSplit_lay_ren : Go.Shelf.Ren := ⟨fun | 138 => 111 | 143 => 62 | 195 => 140 | 197 => 118 | 217 => 94 | 218 => 141 | 219 => 96 | 221 => 93 | 224 => 115 | 225 => 114 | 260 => 144 | 266 => 112 | 267 => 116 | 268 => 110 | 314 => 142 | n => n, fun | 0 => 0 | 1 => 1 | 2 => 2 | 3 => 3 | 4 => 4 | 5 => 5 | 6 => 6 | 7 => 7 | 8 => 8 | 9 => 9 | 10 => 10 | 11 => 11 | 12 => 12 | 13 => 13 | 14 => 14 | 15 => 15 | 16 => 16 | 17 => 17 | 18 => 18 | 19 => 19 | 20 => 20 | 21 => 21 | 22 => 59 | 23 => 61 | 27 => 111 | 28 => 28 | 29 => 66 | 30 => 112 | 31 => 53 | 34 => 47 | 37 => 81 | 40 => 136 | 41 => 190 | 43 => 127 | 46 => 144 | 47 => 143 | 51 => 163 | 52 => 162 | 53 => 165 | 54 => 164 | 55 => 109 | 61 => 108 | 63 => 191 | 64 => 199 | 65 => 137 | 66 => 114 | 67 => 60 | 68 => 54 | 70 => 80 | 71 => 82 | 72 => 83 | 73 => 110 | 74 => 84 | 75 => 85 | 76 => 86 | 77 => 87 | 78 => 89 | 80 => 102 | 81 => 207 | 83 => 88 | 84 => 147 | 103 => 177 | 104 => 105 | 105 => 152 | 106 => 153 | 111 => 67 | 113 => 133 | 114 => 150 | 115 => 171 | 116 => 172 | 117 => 173 | 118 => 174 | 119 => 192 | 122 => 170 | 123 => 175 | 124 => 176 | 127 => 128 | 131 => 160 | 137 => 193 | 138 => 194 | 139 => 195 | 146 => 178 | 150 => 148 | 151 => 179 | 155 => 180 | 164 => 145 | 165 => 146 | 166 => 149 | 171 => 166 | 172 => 167 | 173 => 168 | 174 => 169 | 182 => 155 | 183 => 156 | 211 => 187 | 212 => 188 | 213 => 189 | 218 => 181 | 219 => 182 | 220 => 183 | 222 => 185 | 228 => 196 | 229 => 197 | 232 => 200 | 233 => 201 | 238 => 202 | 239 => 203 | 240 => 204 | 241 => 205 | 242 => 206 | 243 => 208 | 244 => 209 | 245 => 210 | 246 => 211 | 247 => 212 | 248 => 213 | 249 => 214 | n => n, fun | 1 => 2 | 3 => 4 | 4 => 5 | 17 => 3 | 18 => 6 | 19 => 7 | n => n⟩
theorem Tryd_strings_genSplit_lay : Go.Proofs.Lays.n221 Tryd.prog Tryd_strings_genSplit_lay_ren := {
  mixed := by kernel_rfl,
  f138 := Tryd.func111.trans (congrArg some (by kernel_rfl)),
  f143 := Tryd.func62.trans (congrArg some (by kernel_rfl)),
  f195 := Tryd.func140.trans (congrArg some (by kernel_rfl)),
  f197 := Tryd.func118.trans (congrArg some (by kernel_rfl)),
  f217 := Tryd.func94.trans (congrArg some (by kernel_rfl)),
  f218 := Tryd.func141.trans (congrArg some (by kernel_rfl)),
  f219 := Tryd.func96.trans (congrArg some (by kernel_rfl)),
  f221 := Tryd.func93.trans (congrArg some (by kernel_rfl)),
  f224 := Tryd.func115.trans (congrArg some (by kernel_rfl)),
  f225 := Tryd.func114.trans (congrArg some (by kernel_rfl)),
  f260 := Tryd.func144.trans (congrArg some (by kernel_rfl)),
  f266 := Tryd.func112.trans (congrArg some (by kernel_rfl)),
  f267 := Tryd.func116.trans (congrArg some (by kernel_rfl)),
  f268 := Tryd.func110.trans (congrArg some (by kernel_rfl)),
  f314 := Tryd.func142.trans (congrArg some (by kernel_rfl)),
  t0 := Tryd.underlying0,
  a0 := Tryd.isAgg0,
  z0 := Tryd.sizeOf0,
  v0 := Tryd.zeroValue0,
  t3 := Tryd.underlying3,
  a3 := Tryd.isAgg3,
  z3 := Tryd.sizeOf3,
  v3 := Tryd.zeroValue3,
  t4 := Tryd.underlying4,
  a4 := Tryd.isAgg4,
  z4 := Tryd.sizeOf4,
  v4 := Tryd.zeroValue4,
  t5 := Tryd.underlying5,
  a5 := Tryd.isAgg5,
  z5 := Tryd.sizeOf5,
  v5 := Tryd.zeroValue5,
  t9 := Tryd.underlying9,
  a9 := Tryd.isAgg9,
  z9 := Tryd.sizeOf9,
  v9 := Tryd.zeroValue9,
  t21 := Tryd.underlying21,
  a21 := Tryd.isAgg21,
  z21 := Tryd.sizeOf21,
  v21 := Tryd.zeroValue21,
  t31 := Tryd.underlying53,
  a31 := Tryd.isAgg53,
  z31 := Tryd.sizeOf53,
  v31 := Tryd.zeroValue53,
  t46 := Tryd.underlying144,
  a46 := Tryd.isAgg144,
  z46 := Tryd.sizeOf144,
  v46 := Tryd.zeroValue144,
  t51 := Tryd.underlying163,
  a51 := Tryd.isAgg163,
  z51 := Tryd.sizeOf163,
  v51 := Tryd.zeroValue163,
  t105 := Tryd.underlying152,
  a105 := Tryd.isAgg152,
  z105 := Tryd.sizeOf152,
  v105 := Tryd.zeroValue152,
  t119 := Tryd.underlying192,
  a119 := Tryd.isAgg192,
  z119 := Tryd.sizeOf192,
  t138 := Tryd.underlying194,
  a138 := Tryd.isAgg194,
  z138 := Tryd.sizeOf194,
  v138 := Tryd.zeroValue194,
  t139 := Tryd.underlying195,
  a139 := Tryd.isAgg195,
  z139 := Tryd.sizeOf195,
  v139 := Tryd.zeroValue195,
  t146 := Tryd.underlying178,
  a146 := Tryd.isAgg178,
  z146 := Tryd.sizeOf178,
  v146 := Tryd.zeroValue178,
  g1 := by kernel_rfl,
  g3 := by kernel_rfl,
  g4 := by kernel_rfl }
theorem strings_genSplit_c (w : World) {A : Nat → Prop} (hA : ∀ b, w.heap.size ≤ b → A b) (hT : Mx Tryd.prog 2 A w) (s : ByteArray) (sep : ByteArray) (sepSave : Int) (n : Int) {r : List ByteArray} (hm : strings_genSplit s sep sepSave n = some r) : Ret Tryd.prog 93 #[.string s, .string sep, .int .i64 sepSave, .int .i64 n] w fun v w' => ∃ s0, v = s0 ∧ Sl A w' s0 r ∧ Kp w w' := by
  unfold strings_genSplit at hm
  split at hm
  case isFalse => cases hm
  rename_i h
  obtain ⟨h1, h2, h3, h4, rfl⟩ := h
  obtain rfl := Option.some.inj hm
  obtain ⟨⟨m, hmx⟩, _, _⟩ := hT
  obtain ⟨k, rfl⟩ := Int.eq_ofNat_of_zero_le h3
  have hlen := Go.Lib.splitB_length_le sep (k : Int).toNat (min (Go.Lib.countB s sep + 1) (s.size + 1) - 1) s
  refine split_wrap (N := min (Go.Lib.countB s sep + 1) (s.size + 1)) (sv := k) hA (by omega) (by unfold maxLen; omega) (Go.Proofs.Any.strings_genSplit Tryd_strings_genSplit_lay (by kernel_rfl) s sep k (-1) _ m w h1 hmx h2 (by omega) (by decide) (by decide) ?_)
  rw [if_pos (by decide)]
  omega

set_option maxRecDepth 4000 in
set_option maxHeartbeats 4000000 in
theorem strings_SplitAfter_c (w : World) {A : Nat → Prop} (hA : ∀ b, w.heap.size ≤ b → A b) (hT : Mx Tryd.prog 2 A w) (s : ByteArray) (sep : ByteArray) {r : (List ByteArray)} (hm : strings_SplitAfter s sep = some r) : Ret Tryd.prog 58 #[.string s, .string sep] w fun v w' => ∃ s0, v = s0 ∧ Sl A w' s0 r ∧ Kp w w' := by
  unfold strings_SplitAfter at hm
  refine enter Tryd.func58 rfl Tryd.ntmps58 rfl ?_
  have hA0 := hA
  have hB := Nat.le_refl w.heap.size
  have hK : Tr w.heap.size A w A w := Tr.refl hA
  have hH : Hp w.heap.size A w [] := Hp.nil
  refine C_seq ?_
  refine C_region ?_
  refine V_y (Y_assign rfl) rfl rfl rfl ?_
  refine V_to (fun _ _ => rfl) ?_
  refine C_seq ?_
  refine C_region ?_
  refine V_y (Y_move rfl) rfl rfl rfl ?_
  refine V_y (Y_move rfl) rfl rfl rfl ?_
  refine V_y (Y_move rfl) rfl rfl rfl ?_
  refine V_y (Y_lenStr rfl Tryd.underlying9 rfl) rfl rfl rfl ?_
  obtain ⟨x1, hx1, hm⟩ := Option.bind_eq_some_iff.1 hm
  refine V_call Tryd.call93 rfl rfl rfl rfl (strings_genSplit_c w hA (Mx.tr hT hK) s sep (sep.size : Int) (-1) hx1) ?_
  rintro v2 w4 ⟨_, rfl, h3, hk5⟩
  have ht6 := Kp.tr hk5 hA hB
  replace hH := Hp.kp hH hk5
  replace hK := Tr.trans hK ht6
  replace hB := Nat.le_trans hB ht6.ex.size
  replace hA := ht6.new
  refine V_y (Y_assign rfl) rfl rfl rfl ?_
  refine V_to (fun _ _ => rfl) ?_
  obtain rfl := Option.some.inj hm
  refine C_ret ?_
  try simp only [↓inBlock_ret, ↓then_ret]
  exact retQ rfl (Res.one Tryd.results58 rfl) ⟨v2, rfl, (Sl.out h3 hA0 hK), hK.kp⟩

set_option maxRecDepth 4000 in
set_option maxHeartbeats 4000000 in
theorem know_lines_c (w : World) {A : Nat → Prop} (hA : ∀ b, w.heap.size ≤ b → A b) (hT : Mx Tryd.prog 2 A w) (body : ByteArray) {r : (List ByteArray)} (hm : know_lines body = some r) : Ret Tryd.prog 25 #[.string body] w fun v w' => ∃ s0, v = s0 ∧ Sl A w' s0 r ∧ Kp w w' := by
  unfold know_lines at hm
  refine enter Tryd.func25 rfl Tryd.ntmps25 rfl ?_
  have hA0 := hA
  have hB := Nat.le_refl w.heap.size
  have hK : Tr w.heap.size A w A w := Tr.refl hA
  have hH : Hp w.heap.size A w [] := Hp.nil
  refine C_seq ?_
  refine C_region ?_
  refine V_y (Y_assign rfl) rfl rfl rfl ?_
  refine V_to (fun _ _ => rfl) ?_
  refine C_seq ?_
  refine C_region ?_
  refine V_y (Y_move rfl) rfl rfl rfl ?_
  obtain ⟨x1, hx1, hm⟩ := Option.bind_eq_some_iff.1 hm
  refine V_call Tryd.call58 rfl rfl rfl rfl (strings_SplitAfter_c w hA (Mx.tr hT hK) body (⟨#[10]⟩ : ByteArray) hx1) ?_
  rintro v2 w4 ⟨_, rfl, h3, hk5⟩
  have ht6 := Kp.tr hk5 hA hB
  replace hH := Hp.kp hH hk5
  replace hK := Tr.trans hK ht6
  replace hB := Nat.le_trans hB ht6.ex.size
  replace hA := ht6.new
  refine V_y (Y_assign rfl) rfl rfl rfl ?_
  refine V_to (fun _ _ => rfl) ?_
  refine C_seq ?_
  refine C_seq ?_
  refine C_region ?_
  refine V_y (Y_move rfl) rfl rfl rfl ?_
  refine V_y (Y_move rfl) rfl rfl rfl ?_
  refine V_y (Y_lenSl h3 rfl Tryd.underlying53 rfl) rfl rfl rfl ?_
  refine V_y (Y_subI rfl rfl) rfl rfl rfl ?_
  obtain ⟨x7, hx7, hm⟩ := Option.bind_eq_some_iff.1 hm
  refine V_indexAddr h3 hx7 Tryd.underlying53 Tryd.sizeOf9 rfl rfl rfl ?_
  intro b8 o9 h10
  refine V_y (Y_load (El.str h10) Tryd.isAgg9 rfl) rfl rfl rfl ?_
  refine V_y (Y_seql rfl rfl) rfl rfl rfl ?_
  refine V_to (fun _ _ => rfl) ?_
  obtain ⟨s12, ho11, hm⟩ := Option.bind_eq_some_iff.1 hm
  refine C_cutG (ι := Value) (fun (v14 : Value) => [(3, v14)]) (fun (v14 : Value) => fun w' => Sl A w' v14 s12 ∧ w4 = w') ?_ ?_
  · refine C_cond rfl (fun hc20 => ?_) (fun hc20 => ?_)
    · rw [if_pos hc20] at ho11
      refine C_region ?_
      refine V_y (Y_move rfl) rfl rfl rfl ?_
      refine V_y (Y_move rfl) rfl rfl rfl ?_
      refine V_y (Y_lenSl h3 rfl Tryd.underlying53 rfl) rfl rfl rfl ?_
      refine V_y (Y_subI rfl rfl) rfl rfl rfl ?_
      obtain ⟨x21, hx21, ho11⟩ := Option.bind_eq_some_iff.1 ho11
      obtain ⟨v22, h23, h23y⟩ := sliceL_val hx21 h3
      refine V_y (Y_sliceLH h23y Tryd.underlying53 Tryd.sizeOf9 rfl rfl) rfl rfl rfl ?_
      refine V_y (Y_assign rfl) rfl rfl rfl ?_
      obtain rfl := Option.some.inj ho11
      refine V_end (fun a ha24 => ?_)
      exact ⟨v22, ha24.sub ⟨rfl, trivial⟩, ⟨h23, rfl⟩⟩
    · rw [if_neg (nt hc20)] at ho11
      obtain rfl := Option.some.inj ho11
      refine C_skip (fun a ha25 => ?_)
      exact ⟨v2, ha25.sub ⟨rfl, trivial⟩, ⟨h3, rfl⟩⟩
  rintro v14 _ ⟨h15, rfl⟩ a ha19
  refine C_at (n := ⟨19, [], none⟩) (fun _ _ => rfl) ?_ ha19
  refine C_seq ?_
  refine C_region ?_
  refine V_y (Y_move rfl) rfl rfl rfl ?_
  refine V_y (Y_assign rfl) rfl rfl rfl ?_
  refine V_to (fun _ _ => rfl) ?_
  obtain rfl := Option.some.inj hm
  refine C_ret ?_
  try simp only [↓inBlock_ret, ↓then_ret]
  exact retQ rfl (Res.one Tryd.results25 rfl) ⟨v14, rfl, (Sl.out h15 hA0 hK), hK.kp⟩

set_option maxRecDepth 4000 in
set_option maxHeartbeats 4000000 in
theorem know_checkBody_c (w : World) {A : Nat → Prop} (hA : ∀ b, w.heap.size ≤ b → A b) (hT : Mx Tryd.prog 2 A w) (s : ByteArray) {r : Int} (hm : know_checkBody s = some r) : Ret Tryd.prog 24 #[.string s] w fun v w' => v = .int .i64 r ∧ Kp w w' := by
  unfold know_checkBody at hm
  refine enter Tryd.func24 rfl Tryd.ntmps24 rfl ?_
  have hA0 := hA
  have hB := Nat.le_refl w.heap.size
  have hK : Tr w.heap.size A w A w := Tr.refl hA
  have hH : Hp w.heap.size A w [] := Hp.nil
  refine C_seq ?_
  refine C_region ?_
  refine V_y (Y_assign rfl) rfl rfl rfl ?_
  refine V_to (fun _ _ => rfl) ?_
  refine C_seq ?_
  refine C_seq ?_
  obtain ⟨s2, ho1, hm⟩ := Option.bind_eq_some_iff.1 hm
  refine C_cutG (ι := (Nat → Prop)) (fun (A7 : (Nat → Prop)) => [(11, .bool s2)]) (fun (A7 : (Nat → Prop)) => fun w' => Hp w.heap.size A7 w' ([]) ∧ Tr w.heap.size A w A7 w') ?_ ?_
  · have hr3 : Tr w.heap.size A w A w := Tr.refl hA
    refine C_region ?_
    refine V_y (Y_move rfl) rfl rfl rfl ?_
    refine V_y (Y_lenStr rfl Tryd.underlying9 rfl) rfl rfl rfl ?_
    refine V_y (Y_gtr rfl rfl) rfl rfl rfl ?_
    refine V_y (Y_move rfl) rfl rfl rfl ?_
    rcases Bool.eq_false_or_eq_true (decide ((20000 : Int) < (s.size : Int))) with hc9 | hc9
    · rw [if_pos hc9] at ho1
      refine V_gn rfl rfl rfl hc9 rfl rfl rfl ?_
      refine V_gn rfl rfl rfl hc9 rfl rfl rfl ?_
      refine V_gn rfl rfl rfl hc9 rfl rfl rfl ?_
      refine V_gn rfl rfl rfl hc9 rfl rfl rfl ?_
      refine V_y (Y_pick_te rfl hc9 rfl) rfl rfl rfl ?_
      obtain rfl := Option.some.inj ho1
      refine V_end (fun a ha10 => ?_)
      exact ⟨A, ha10.sub ⟨rfl, trivial⟩, ⟨hH, hr3⟩⟩
    · rw [if_neg (nt hc9)] at ho1
      refine V_ge rfl rfl rfl hc9 ?_
      refine V_y (Y_move rfl) rfl rfl rfl ?_
      refine V_ge rfl rfl rfl hc9 ?_
      obtain ⟨x11, hx11, ho1⟩ := Option.bind_eq_some_iff.1 ho1
      refine V_call Tryd.call25 rfl rfl rfl rfl (know_lines_c w hA (Mx.tr hT hK) s hx11) ?_
      rintro v12 w14 ⟨_, rfl, h13, hk15⟩
      have ht16 := Kp.tr hk15 hA hB
      replace hH := Hp.kp hH hk15
      replace hK := Tr.trans hK ht16
      replace hr3 := Tr.trans hr3 ht16
      replace hB := Nat.le_trans hB ht16.ex.size
      replace hA := ht16.new
      refine V_ge rfl rfl rfl hc9 ?_
      refine V_y (Y_lenSl h13 rfl Tryd.underlying53 rfl) rfl rfl rfl ?_
      refine V_ge rfl rfl rfl hc9 ?_
      refine V_y (Y_gtr rfl rfl) rfl rfl rfl ?_
      refine V_y (Y_pick_fe rfl hc9 rfl) rfl rfl rfl ?_
      obtain rfl := Option.some.inj ho1
      refine V_end (fun a ha17 => ?_)
      exact ⟨A, ha17.sub ⟨rfl, trivial⟩, ⟨hH, hr3⟩⟩
  rintro A7 w4 ⟨hH8, hk5⟩ a ha6
  replace hK := Tr.trans hK hk5
  replace hB := Nat.le_trans hB hk5.ex.size
  replace hA := hk5.new
  replace hH : Hp w.heap.size A7 w4 ([]) := hH8
  refine C_at (n := ⟨12, [], none⟩) (fun _ _ => rfl) ?_ ha6
  refine C_cond rfl (fun hc18 => ?_) (fun hc18 => ?_)
  · rw [if_pos hc18] at hm
    refine C_seq ?_
    refine C_region ?_
    refine V_y (Y_assign rfl) rfl rfl rfl ?_
    refine V_to (fun _ _ => rfl) ?_
    obtain rfl := Option.some.inj hm
    refine C_ret ?_
    try simp only [↓inBlock_ret, ↓then_ret]
    exact retQ rfl (Res.one Tryd.results24 rfl) ⟨rfl, hK.kp⟩
  · rw [if_neg (nt hc18)] at hm
    refine C_skip_to (fun _ _ => rfl) ?_
    refine C_seq ?_
    refine C_region ?_
    refine V_y (Y_assign rfl) rfl rfl rfl ?_
    refine V_to (fun _ _ => rfl) ?_
    obtain rfl := Option.some.inj hm
    refine C_ret ?_
    try simp only [↓inBlock_ret, ↓then_ret]
    exact retQ rfl (Res.one Tryd.results24 rfl) ⟨rfl, hK.kp⟩

set_option maxRecDepth 4000 in
set_option maxHeartbeats 4000000 in
theorem know_within_c (w : World) (n : Int) (low : Int) (high : Int) : Ret Tryd.prog 33 #[.int .i64 n, .int .i64 low, .int .i64 high] w fun v w' => v = .bool (know_within n low high) ∧ w = w' := by
  generalize hm : know_within n low high = r
  unfold know_within at hm
  refine enter Tryd.func33 rfl Tryd.ntmps33 rfl ?_
  refine C_seq ?_
  refine C_region ?_
  refine V_y (Y_assign rfl) rfl rfl rfl ?_
  refine V_to (fun _ _ => rfl) ?_
  refine C_seq ?_
  refine C_region ?_
  refine V_y (Y_move rfl) rfl rfl rfl ?_
  refine V_y (Y_move rfl) rfl rfl rfl ?_
  refine V_y (Y_geq rfl rfl) rfl rfl rfl ?_
  refine V_y (Y_move rfl) rfl rfl rfl ?_
  refine V_cut 4 (fun _ : Unit => [(14, .bool ((decide (low ≤ n)) && (decide (n ≤ high))))]) (fun _ w' => w = w') ?_ ?_
  · simp only [List.take, List.drop]
    rcases Bool.eq_false_or_eq_true (decide (low ≤ n)) with hc1 | hc1
    · refine V_ge rfl rfl rfl hc1 ?_
      refine V_y (Y_move rfl) rfl rfl rfl ?_
      refine V_ge rfl rfl rfl hc1 ?_
      refine V_y (Y_move rfl) rfl rfl rfl ?_
      refine V_ge rfl rfl rfl hc1 ?_
      refine V_y (Y_leq rfl rfl) rfl rfl rfl ?_
      refine V_y (Y_pick_te rfl hc1 rfl) rfl rfl rfl ?_
      exact V_end fun a ha => ⟨(), ha.sub ⟨(by rw [hc1]; rfl), trivial⟩, rfl⟩
    · refine V_gn rfl rfl rfl hc1 rfl rfl rfl ?_
      refine V_gn rfl rfl rfl hc1 rfl rfl rfl ?_
      refine V_gn rfl rfl rfl hc1 rfl rfl rfl ?_
      refine V_y (Y_pick_fe rfl hc1 rfl) rfl rfl rfl ?_
      exact V_end fun a ha => ⟨(), ha.sub ⟨(by rw [hc1]; rfl), trivial⟩, rfl⟩
  simp only [List.take, List.drop]
  rintro _ _ rfl
  refine V_y (Y_assign rfl) rfl rfl rfl ?_
  refine V_to (fun _ _ => rfl) ?_
  obtain rfl := hm
  refine C_ret ?_
  try simp only [↓inBlock_ret, ↓then_ret]
  exact retQ rfl (Res.one Tryd.results33 rfl) ⟨rfl, rfl⟩

set_option maxRecDepth 4000 in
set_option maxHeartbeats 4000000 in
theorem internal_stringslite_IndexByte_c (w : World) (s : ByteArray) (c : Int) : Ret Tryd.prog 94 #[.string s, .int .u8 c] w fun v w' => v = .int .i64 (internal_stringslite_IndexByte s c) ∧ w = w' := by
  generalize hm : internal_stringslite_IndexByte s c = r
  unfold internal_stringslite_IndexByte at hm
  refine enter Tryd.func94 rfl Tryd.ntmps94 rfl ?_
  refine C_seq ?_
  refine C_region ?_
  refine V_y (Y_assign rfl) rfl rfl rfl ?_
  refine V_to (fun _ _ => rfl) ?_
  refine C_seq ?_
  refine C_region ?_
  refine V_y (Y_move rfl) rfl rfl rfl ?_
  refine V_y (Y_move rfl) rfl rfl rfl ?_
  refine V_y (Y_ext Tryd_ext112 Tryd_extb112.1 Tryd_extb112.2 Tryd_extn112 Tryd_extf112 rfl rfl (run_indexByteS _ _ _)) rfl rfl rfl ?_
  refine V_y (Y_assign rfl) rfl rfl rfl ?_
  refine V_to (fun _ _ => rfl) ?_
  obtain rfl := hm
  refine C_ret ?_
  try simp only [↓inBlock_ret, ↓then_ret]
  exact retQ rfl (Res.one Tryd.results94 rfl) ⟨rfl, rfl⟩

set_option maxRecDepth 4000 in
set_option maxHeartbeats 4000000 in
theorem strings_IndexByte_c (w : World) (s : ByteArray) (c : Int) : Ret Tryd.prog 59 #[.string s, .int .u8 c] w fun v w' => v = .int .i64 (strings_IndexByte s c) ∧ w = w' := by
  generalize hm : strings_IndexByte s c = r
  unfold strings_IndexByte at hm
  refine enter Tryd.func59 rfl Tryd.ntmps59 rfl ?_
  refine C_seq ?_
  refine C_region ?_
  refine V_y (Y_assign rfl) rfl rfl rfl ?_
  refine V_to (fun _ _ => rfl) ?_
  refine C_seq ?_
  refine C_region ?_
  refine V_y (Y_move rfl) rfl rfl rfl ?_
  refine V_y (Y_move rfl) rfl rfl rfl ?_
  refine V_call Tryd.call94 rfl rfl rfl rfl (internal_stringslite_IndexByte_c w s c) ?_
  rintro _ _ ⟨rfl, rfl⟩
  refine V_y (Y_assign rfl) rfl rfl rfl ?_
  refine V_to (fun _ _ => rfl) ?_
  obtain rfl := hm
  refine C_ret ?_
  try simp only [↓inBlock_ret, ↓then_ret]
  exact retQ rfl (Res.one Tryd.results59 rfl) ⟨rfl, rfl⟩

set_option maxRecDepth 4000 in
set_option maxHeartbeats 4000000 in
theorem know_checkEdit_c (w : World) {A : Nat → Prop} (hA : ∀ b, w.heap.size ≤ b → A b) (x : know_Edit) (v_x : Value) (h_x : Sl A w v_x x.add) (before : Option know_Edit) (v_before : Value) (h_before : OEl A w v_before before) (many : Int) {r : Int} (hm : know_checkEdit x before many = some r) : Ret Tryd.prog 26 #[.agg #[.int .i64 x.at_, .int .i64 x.drop, v_x], v_before, .int .i64 many] w fun v w' => v = .int .i64 r ∧ Kp w w' := by
  unfold know_checkEdit at hm
  refine enter Tryd.func26 rfl Tryd.ntmps26 rfl ?_
  have hA0 := hA
  have hB := Nat.le_refl w.heap.size
  have hK : Tr w.heap.size A w A w := Tr.refl hA
  have hH : Hp w.heap.size A w [] := Hp.nil
  refine C_seq ?_
  refine C_region ?_
  refine V_box rfl rfl ?_
  intro b3 w4 h5
  have hk7 := h5.kp
  have h6 : El (α := know_Edit) A w4 b3 0 x := h5.el hA ⟨[.int .i64 x.at_], _, rfl, rfl, ⟨[.int .i64 x.drop], _, rfl, rfl, ⟨_, rfl, h_x⟩⟩⟩
  have ht8 := Kp.tr hk7 hA hB
  replace hH := Hp.kp hH hk7
  replace h_x := Sl.tr h_x ht8
  replace h_before := OEl.tr h_before ht8
  replace hK := Tr.trans hK ht8
  replace hB := Nat.le_trans hB ht8.ex.size
  replace hA := ht8.new
  refine V_y (Y_assign rfl) rfl rfl rfl ?_
  refine V_to (fun _ _ => rfl) ?_
  refine C_seq ?_
  refine C_seq ?_
  refine C_region ?_
  have h9 := El_know_Edit_0 h6
  refine V_y (Y_fieldAddr Tryd.underlying56 rfl Tryd.sizeOf3 (by decide) rfl) rfl rfl rfl ?_
  refine V_y (Y_load (El.int h9) Tryd.isAgg3 rfl) rfl rfl rfl ?_
  refine V_y (Y_move rfl) rfl rfl rfl ?_
  refine V_call Tryd.call33 rfl rfl rfl rfl (know_within_c w4 x.at_ 0 many) ?_
  rintro _ _ ⟨rfl, rfl⟩
  refine V_y (Y_not rfl) rfl rfl rfl ?_
  refine V_y (Y_move rfl) rfl rfl rfl ?_
  refine V_cut 9 (fun _ : Unit => [(1, v_before), (3, .pointer (some ⟨b3, 0, none⟩)), (24, .bool ((!(know_within x.at_ 0 many)) || (!(know_within x.drop 0 (w64 (many - x.at_))))))]) (fun _ w' => w4 = w') ?_ ?_
  · simp only [List.take, List.drop]
    rcases Bool.eq_false_or_eq_true (!(know_within x.at_ 0 many)) with hc10 | hc10
    · refine V_gn rfl rfl rfl hc10 rfl rfl rfl ?_
      refine V_gn rfl rfl rfl hc10 rfl rfl rfl ?_
      refine V_gn rfl rfl rfl hc10 rfl rfl rfl ?_
      refine V_gn rfl rfl rfl hc10 rfl rfl rfl ?_
      refine V_gn rfl rfl rfl hc10 rfl rfl rfl ?_
      refine V_gn rfl rfl rfl hc10 rfl rfl rfl ?_
      refine V_gn rfl rfl rfl hc10 rfl rfl rfl ?_
      refine V_gn rfl rfl rfl hc10 rfl rfl rfl ?_
      refine V_y (Y_pick_te rfl hc10 rfl) rfl rfl rfl ?_
      exact V_end fun a ha => ⟨(), ha.sub ⟨rfl, rfl, (by rw [hc10]; rfl), trivial⟩, rfl⟩
    · refine V_ge rfl rfl rfl hc10 ?_
      have h12 := El_know_Edit_1 h6
      refine V_y (Y_fieldAddr Tryd.underlying56 rfl Tryd.sizeOf3 (by decide) rfl) rfl rfl rfl ?_
      refine V_ge rfl rfl rfl hc10 ?_
      refine V_y (Y_load (El.int h12) Tryd.isAgg3 rfl) rfl rfl rfl ?_
      refine V_ge rfl rfl rfl hc10 ?_
      refine V_y (Y_move rfl) rfl rfl rfl ?_
      refine V_ge rfl rfl rfl hc10 ?_
      have h13 := El_know_Edit_0 h6
      refine V_y (Y_fieldAddr Tryd.underlying56 rfl Tryd.sizeOf3 (by decide) rfl) rfl rfl rfl ?_
      refine V_ge rfl rfl rfl hc10 ?_
      refine V_y (Y_load (El.int h13) Tryd.isAgg3 rfl) rfl rfl rfl ?_
      refine V_ge rfl rfl rfl hc10 ?_
      refine V_y (Y_subI rfl rfl) rfl rfl rfl ?_
      refine V_ge rfl rfl rfl hc10 ?_
      refine V_call Tryd.call33 rfl rfl rfl rfl (know_within_c w4 x.drop 0 (w64 (many - x.at_))) ?_
      rintro _ _ ⟨rfl, rfl⟩
      refine V_ge rfl rfl rfl hc10 ?_
      refine V_y (Y_not rfl) rfl rfl rfl ?_
      refine V_y (Y_pick_fe rfl hc10 rfl) rfl rfl rfl ?_
      exact V_end fun a ha => ⟨(), ha.sub ⟨rfl, rfl, (by rw [hc10]; rfl), trivial⟩, rfl⟩
  simp only [List.take, List.drop]
  rintro _ _ rfl
  refine V_to (fun _ _ => rfl) ?_
  refine C_cond rfl (fun hc14 => ?_) (fun hc14 => ?_)
  · rw [if_pos hc14] at hm
    refine C_seq ?_
    refine C_region ?_
    refine V_y (Y_assign rfl) rfl rfl rfl ?_
    refine V_to (fun _ _ => rfl) ?_
    obtain rfl := Option.some.inj hm
    refine C_ret ?_
    try simp only [↓inBlock_ret, ↓then_ret]
    exact retQ rfl (Res.one Tryd.results26 rfl) ⟨rfl, hK.kp⟩
  · rw [if_neg (nt hc14)] at hm
    refine C_skip_to (fun _ _ => rfl) ?_
    refine C_seq ?_
    refine C_seq ?_
    refine C_region_q Tryd_mixed (by kernel_rfl) ?_
    refine VQ_y (fun w' hw' => Y_move rfl) rfl rfl rfl ?_
    refine VQ_y (fun w' hw' => Y_neqOP (OEl.kp h_before hw') Tryd.underlying57 rfl rfl) rfl rfl rfl ?_
    refine VQ_y (fun w' hw' => Y_move rfl) rfl rfl rfl ?_
    obtain ⟨s16, hs16, hm⟩ := Option.bind_eq_some_iff.1 hm
    refine VQ_cut 13 (fun _ : Unit => [(3, .pointer (some ⟨b3, 0, none⟩)), (40, .bool s16)]) (fun _ => True) ?_ ?_
    · simp only [List.take, List.drop]
      rcases Bool.eq_false_or_eq_true (before.isSome) with hc15 | hc15
      · rw [if_pos hc15] at hs16
        refine VQ_ge rfl rfl rfl hc15 ?_
        have h17 := El_know_Edit_0 h6
        refine VQ_y (fun w' hw' => Y_fieldAddr Tryd.underlying56 rfl Tryd.sizeOf3 (by decide) rfl) rfl rfl rfl ?_
        refine VQ_ge rfl rfl rfl hc15 ?_
        refine VQ_y (fun w' hw' => Y_load (El.int (El.kp h17 hw')) Tryd.isAgg3 rfl) rfl rfl rfl ?_
        refine VQ_ge rfl rfl rfl hc15 ?_
        refine VQ_y (fun w' hw' => Y_move rfl) rfl rfl rfl ?_
        refine VQ_ge rfl rfl rfl hc15 ?_
        obtain ⟨x18, hx18, hs16⟩ := Option.bind_eq_some_iff.1 hs16
        obtain ⟨b19, o20, h21, h22⟩ := OEl.get h_before hx18
        refine VQ_y (fun w' hw' => Y_nilCheck (congrArg some h21)) rfl rfl rfl ?_
        refine VQ_ge rfl rfl rfl hc15 ?_
        have h23 := El_know_Edit_0 h22
        refine VQ_y (fun w' hw' => Y_fieldAddr Tryd.underlying56 rfl Tryd.sizeOf3 (by decide) rfl) rfl rfl rfl ?_
        refine VQ_ge rfl rfl rfl hc15 ?_
        refine VQ_y (fun w' hw' => Y_load (El.int (El.kp h23 hw')) Tryd.isAgg3 rfl) rfl rfl rfl ?_
        refine VQ_ge rfl rfl rfl hc15 ?_
        refine VQ_y (fun w' hw' => Y_move rfl) rfl rfl rfl ?_
        refine VQ_ge rfl rfl rfl hc15 ?_
        obtain ⟨b24, o25, h26, h27⟩ := OEl.get h_before hx18
        refine VQ_y (fun w' hw' => Y_nilCheck (congrArg some h26)) rfl rfl rfl ?_
        refine VQ_ge rfl rfl rfl hc15 ?_
        have h28 := El_know_Edit_1 h27
        refine VQ_y (fun w' hw' => Y_fieldAddr Tryd.underlying56 rfl Tryd.sizeOf3 (by decide) rfl) rfl rfl rfl ?_
        refine VQ_ge rfl rfl rfl hc15 ?_
        refine VQ_y (fun w' hw' => Y_load (El.int (El.kp h28 hw')) Tryd.isAgg3 rfl) rfl rfl rfl ?_
        refine VQ_ge rfl rfl rfl hc15 ?_
        refine VQ_y (fun w' hw' => Y_addI rfl rfl) rfl rfl rfl ?_
        refine VQ_ge rfl rfl rfl hc15 ?_
        refine VQ_y (fun w' hw' => Y_leq rfl rfl) rfl rfl rfl ?_
        refine VQ_y (fun _ _ => Y_pick_te rfl hc15 rfl) rfl rfl rfl ?_
        obtain rfl := Option.some.inj hs16
        exact VQ_end fun a ha => ⟨(), ha.sub ⟨rfl, rfl, trivial⟩, trivial⟩
      · rw [if_neg (nt hc15)] at hs16
        refine VQ_gn rfl rfl rfl hc15 rfl rfl rfl ?_
        refine VQ_gn rfl rfl rfl hc15 rfl rfl rfl ?_
        refine VQ_gn rfl rfl rfl hc15 rfl rfl rfl ?_
        refine VQ_gn rfl rfl rfl hc15 rfl rfl rfl ?_
        refine VQ_gn rfl rfl rfl hc15 rfl rfl rfl ?_
        refine VQ_gn rfl rfl rfl hc15 rfl rfl rfl ?_
        refine VQ_gn rfl rfl rfl hc15 rfl rfl rfl ?_
        refine VQ_gn rfl rfl rfl hc15 rfl rfl rfl ?_
        refine VQ_gn rfl rfl rfl hc15 rfl rfl rfl ?_
        refine VQ_gn rfl rfl rfl hc15 rfl rfl rfl ?_
        refine VQ_gn rfl rfl rfl hc15 rfl rfl rfl ?_
        refine VQ_gn rfl rfl rfl hc15 rfl rfl rfl ?_
        refine VQ_y (fun _ _ => Y_pick_fe rfl hc15 rfl) rfl rfl rfl ?_
        obtain rfl := Option.some.inj hs16
        exact VQ_end fun a ha => ⟨(), ha.sub ⟨rfl, rfl, trivial⟩, trivial⟩
    simp only [List.take, List.drop]
    rintro _ _
    refine VQ_to (fun _ _ => rfl) (fun w29 hk30 => ?_)
    have ht31 := Kp.tr hk30 hA hB
    replace hH := Hp.kp hH hk30
    replace h6 := El.tr h6 ht31
    replace hK := Tr.trans hK ht31
    replace hB := Nat.le_trans hB ht31.ex.size
    replace hA := ht31.new
    refine C_cond rfl (fun hc32 => ?_) (fun hc32 => ?_)
    · rw [if_pos hc32] at hm
      refine C_seq ?_
      refine C_region ?_
      refine V_y (Y_assign rfl) rfl rfl rfl ?_
      refine V_to (fun _ _ => rfl) ?_
      obtain rfl := Option.some.inj hm
      refine C_ret ?_
      try simp only [↓inBlock_ret, ↓then_ret]
      exact retQ rfl (Res.one Tryd.results26 rfl) ⟨rfl, hK.kp⟩
    · rw [if_neg (nt hc32)] at hm
      refine C_skip_to (fun _ _ => rfl) ?_
      refine C_seq ?_
      refine C_seq ?_
      refine C_region ?_
      have h33 := El_know_Edit_1 h6
      refine V_y (Y_fieldAddr Tryd.underlying56 rfl Tryd.sizeOf3 (by decide) rfl) rfl rfl rfl ?_
      refine V_y (Y_load (El.int h33) Tryd.isAgg3 rfl) rfl rfl rfl ?_
      refine V_y (Y_eql rfl rfl) rfl rfl rfl ?_
      refine V_y (Y_move rfl) rfl rfl rfl ?_
      refine V_cut 5 (fun _ : Unit => [(3, .pointer (some ⟨b3, 0, none⟩)), (49, .bool ((x.drop == 0) && ((x.add.length : Int) == 0)))]) (fun _ w' => w29 = w') ?_ ?_
      · simp only [List.take, List.drop]
        rcases Bool.eq_false_or_eq_true (x.drop == 0) with hc34 | hc34
        · refine V_ge rfl rfl rfl hc34 ?_
          have h36 := El_know_Edit_2 h6
          refine V_y (Y_fieldAddr Tryd.underlying56 rfl Tryd.sizeOf53 (by decide) rfl) rfl rfl rfl ?_
          refine V_ge rfl rfl rfl hc34 ?_
          obtain ⟨v37, h38, h39⟩ := El.list h36
          refine V_y (Y_load h38 Tryd.isAgg53 rfl) rfl rfl rfl ?_
          refine V_ge rfl rfl rfl hc34 ?_
          refine V_y (Y_lenSl h39 rfl Tryd.underlying53 rfl) rfl rfl rfl ?_
          refine V_ge rfl rfl rfl hc34 ?_
          refine V_y (Y_eql rfl rfl) rfl rfl rfl ?_
          refine V_y (Y_pick_te rfl hc34 rfl) rfl rfl rfl ?_
          exact V_end fun a ha => ⟨(), ha.sub ⟨rfl, (by rw [hc34]; rfl), trivial⟩, rfl⟩
        · refine V_gn rfl rfl rfl hc34 rfl rfl rfl ?_
          refine V_gn rfl rfl rfl hc34 rfl rfl rfl ?_
          refine V_gn rfl rfl rfl hc34 rfl rfl rfl ?_
          refine V_gn rfl rfl rfl hc34 rfl rfl rfl ?_
          refine V_y (Y_pick_fe rfl hc34 rfl) rfl rfl rfl ?_
          exact V_end fun a ha => ⟨(), ha.sub ⟨rfl, (by rw [hc34]; rfl), trivial⟩, rfl⟩
      simp only [List.take, List.drop]
      rintro _ _ rfl
      refine V_to (fun _ _ => rfl) ?_
      refine C_cond rfl (fun hc40 => ?_) (fun hc40 => ?_)
      · rw [if_pos hc40] at hm
        refine C_seq ?_
        refine C_region ?_
        refine V_y (Y_assign rfl) rfl rfl rfl ?_
        refine V_to (fun _ _ => rfl) ?_
        obtain rfl := Option.some.inj hm
        refine C_ret ?_
        try simp only [↓inBlock_ret, ↓then_ret]
        exact retQ rfl (Res.one Tryd.results26 rfl) ⟨rfl, hK.kp⟩
      · rw [if_neg (nt hc40)] at hm
        refine C_skip_to (fun _ _ => rfl) ?_
        refine C_seq ?_
        refine C_seq ?_
        refine C_region ?_
        have h41 := El_know_Edit_2 h6
        refine V_y (Y_fieldAddr Tryd.underlying56 rfl Tryd.sizeOf53 (by decide) rfl) rfl rfl rfl ?_
        obtain ⟨v42, h43, h44⟩ := El.list h41
        refine V_y (Y_load h43 Tryd.isAgg53 rfl) rfl rfl rfl ?_
        refine V_y (Y_lenSl h44 rfl Tryd.underlying53 rfl) rfl rfl rfl ?_
        refine V_y (Y_move rfl) rfl rfl rfl ?_
        refine V_to (fun _ _ => rfl) ?_
        have hn61 := Sl.le h44
        obtain ⟨o45, ho45, hm⟩ := Option.bind_eq_some_iff.1 hm
        refine C_cutG (ι := Unit) (fun (s46 : Unit) => []) (fun (s46 : Unit) => fun w' => o45 = .fin s46 ∧ w29 = w') ?_ ?_
        · refine C_block ?_
          refine C_range ho45 (fun k48 _ a w' => ∃ i : Unit, Has ⟨73, [], none⟩ a ([(51, v42), (52, .int .i64 (x.add.length : Int)), (53, .int .i64 (k48 : Int))]) ∧ w29 = w') (fun a ha => ⟨(), ha.sub ⟨rfl, rfl, rfl, trivial⟩, rfl⟩) ?_
          rintro K k48 _ a _ ⟨_, ha74, rfl⟩ hle57 K60 h59
          refine C_of ?_ ha74
          refine C_seq (C_region (V_y (Y_lss rfl rfl) rfl rfl rfl (V_to (fun _ _ => rfl) ?_)))
          refine C_seq ?_
          refine C_cond rfl (fun hc62 => ?_) (fun hc62 => ?_)
          · have hlt58 := lt_of_dec hc62
            obtain ⟨x54, h55, h56⟩ := K60 hlt58
            refine C_skip_to (fun _ _ => rfl) ?_
            refine C_seq ?_
            refine C_block ?_
            refine C_seq ?_
            refine C_region ?_
            obtain ⟨x63, hx63, h55⟩ := Option.bind_eq_some_iff.1 h55
            refine V_indexAddr h44 hx63 Tryd.underlying53 Tryd.sizeOf9 rfl rfl rfl ?_
            intro b64 o65 h66
            refine V_y (Y_load (El.str h66) Tryd.isAgg9 rfl) rfl rfl rfl ?_
            refine V_y (Y_assign rfl) rfl rfl rfl ?_
            refine V_to (fun _ _ => rfl) ?_
            refine C_seq ?_
            refine C_region ?_
            refine V_y (Y_move rfl) rfl rfl rfl ?_
            refine V_call Tryd.call59 rfl rfl rfl rfl (strings_IndexByte_c w29 x63 10) ?_
            rintro _ _ ⟨rfl, rfl⟩
            refine V_y (Y_assign rfl) rfl rfl rfl ?_
            refine V_to (fun _ _ => rfl) ?_
            refine C_seq ?_
            refine C_region ?_
            refine V_y (Y_move rfl) rfl rfl rfl ?_
            refine V_y (Y_seql rfl rfl) rfl rfl rfl ?_
            refine V_y (Y_move rfl) rfl rfl rfl ?_
            refine V_cut 10 (fun _ : Unit => [(51, v42), (52, .int .i64 (x.add.length : Int)), (53, .int .i64 (k48 : Int)), (71, .bool ((strEq x63 (⟨#[]⟩ : ByteArray)) || ((decide ((0 : Int) ≤ (strings_IndexByte x63 10))) && (decide ((strings_IndexByte x63 10) < (w64 ((x63.size : Int) - 1)))))))]) (fun _ w' => w29 = w') ?_ ?_
            · simp only [List.take, List.drop]
              rcases Bool.eq_false_or_eq_true (strEq x63 (⟨#[]⟩ : ByteArray)) with hc67 | hc67
              · refine V_gn rfl rfl rfl hc67 rfl rfl rfl ?_
                refine V_gn rfl rfl rfl hc67 rfl rfl rfl ?_
                refine V_gn rfl rfl rfl hc67 rfl rfl rfl ?_
                refine V_gu rfl rfl rfl rfl rfl ?_
                refine V_gu rfl rfl rfl rfl rfl ?_
                refine V_gu rfl rfl rfl rfl rfl ?_
                refine V_gu rfl rfl rfl rfl rfl ?_
                refine V_gu rfl rfl rfl rfl rfl ?_
                refine V_gn rfl rfl rfl hc67 rfl rfl rfl ?_
                refine V_y (Y_pick_te rfl hc67 rfl) rfl rfl rfl ?_
                exact V_end fun a ha => ⟨(), ha.sub ⟨rfl, rfl, rfl, (by rw [hc67]; rfl), trivial⟩, rfl⟩
              · refine V_ge rfl rfl rfl hc67 ?_
                refine V_y (Y_move rfl) rfl rfl rfl ?_
                refine V_ge rfl rfl rfl hc67 ?_
                refine V_y (Y_geq rfl rfl) rfl rfl rfl ?_
                refine V_ge rfl rfl rfl hc67 ?_
                refine V_y (Y_move rfl) rfl rfl rfl ?_
                refine V_cut 6 (fun _ : Unit => [(51, v42), (52, .int .i64 (x.add.length : Int)), (53, .int .i64 (k48 : Int)), (61, .bool (strEq x63 (⟨#[]⟩ : ByteArray))), (70, .bool ((decide ((0 : Int) ≤ (strings_IndexByte x63 10))) && (decide ((strings_IndexByte x63 10) < (w64 ((x63.size : Int) - 1))))))]) (fun _ w' => w29 = w') ?_ ?_
                · simp only [List.take, List.drop]
                  rcases Bool.eq_false_or_eq_true (decide ((0 : Int) ≤ (strings_IndexByte x63 10))) with hc69 | hc69
                  · refine V_ge rfl rfl rfl hc69 ?_
                    refine V_y (Y_move rfl) rfl rfl rfl ?_
                    refine V_ge rfl rfl rfl hc69 ?_
                    refine V_y (Y_move rfl) rfl rfl rfl ?_
                    refine V_ge rfl rfl rfl hc69 ?_
                    refine V_y (Y_lenStr rfl Tryd.underlying9 rfl) rfl rfl rfl ?_
                    refine V_ge rfl rfl rfl hc69 ?_
                    refine V_y (Y_subI rfl rfl) rfl rfl rfl ?_
                    refine V_ge rfl rfl rfl hc69 ?_
                    refine V_y (Y_lss rfl rfl) rfl rfl rfl ?_
                    refine V_ge rfl rfl rfl hc67 ?_
                    refine V_y (Y_pick_te rfl hc69 rfl) rfl rfl rfl ?_
                    exact V_end fun a ha => ⟨(), ha.sub ⟨rfl, rfl, rfl, rfl, (by rw [hc69]; rfl), trivial⟩, rfl⟩
                  · refine V_gn rfl rfl rfl hc69 rfl rfl rfl ?_
                    refine V_gn rfl rfl rfl hc69 rfl rfl rfl ?_
                    refine V_gn rfl rfl rfl hc69 rfl rfl rfl ?_
                    refine V_gn rfl rfl rfl hc69 rfl rfl rfl ?_
                    refine V_gn rfl rfl rfl hc69 rfl rfl rfl ?_
                    refine V_ge rfl rfl rfl hc67 ?_
                    refine V_y (Y_pick_fe rfl hc69 rfl) rfl rfl rfl ?_
                    exact V_end fun a ha => ⟨(), ha.sub ⟨rfl, rfl, rfl, rfl, (by rw [hc69]; rfl), trivial⟩, rfl⟩
                simp only [List.take, List.drop]
                rintro _ _ rfl
                refine V_y (Y_pick_fe rfl hc67 rfl) rfl rfl rfl ?_
                exact V_end fun a ha => ⟨(), ha.sub ⟨rfl, rfl, rfl, (by rw [hc67]; rfl), trivial⟩, rfl⟩
            simp only [List.take, List.drop]
            rintro _ _ rfl
            refine V_to (fun _ _ => rfl) ?_
            refine C_cond rfl (fun hc71 => ?_) (fun hc71 => ?_)
            · rw [if_pos hc71] at h55
              refine C_seq ?_
              refine C_region ?_
              refine V_y (Y_assign rfl) rfl rfl rfl ?_
              refine V_to (fun _ _ => rfl) ?_
              obtain rfl := Option.some.inj h55
              obtain rfl := (h56 : Lp.rt _ = _)
              rw [Lp.andThen_rt] at hm
              obtain rfl := Option.some.inj hm
              refine C_ret ?_
              try simp only [↓inBlock_ret, ↓then_ret]
              exact retQ rfl (Res.one Tryd.results26 rfl) ⟨rfl, hK.kp⟩
            · rw [if_neg (nt hc71)] at h55
              refine C_skip_to (fun _ _ => rfl) ?_
              refine C_region ?_
              refine V_y (Y_addI rfl rfl) rfl rfl rfl ?_
              refine V_y (Y_move rfl) rfl rfl rfl ?_
              obtain rfl := Option.some.inj h55
              refine V_end (fun a ha72 => ?_)
              exact ⟨(), hlt58, h56, ⟨(), ha72.sub ⟨rfl, rfl, (congrArg (fun z => some (Value.int .i64 z)) (w64_succ hlt58 hn61)), trivial⟩, rfl⟩⟩
          · refine C_exit (fun a ha73 => ?_)
            exact ⟨(), ha73.sub trivial, ⟨(h59 (eq_of_dec hle57 hc62)).symm, rfl⟩⟩
        rintro s46 _ ⟨rfl, rfl⟩ a ha51
        rw [Lp.andThen_fin] at hm
        refine C_at (n := ⟨73, [], none⟩) (fun _ _ => rfl) ?_ ha51
        refine C_seq ?_
        refine C_region ?_
        refine V_y (Y_assign rfl) rfl rfl rfl ?_
        refine V_to (fun _ _ => rfl) ?_
        obtain rfl := Option.some.inj hm
        refine C_ret ?_
        try simp only [↓inBlock_ret, ↓then_ret]
        exact retQ rfl (Res.one Tryd.results26 rfl) ⟨rfl, hK.kp⟩

set_option maxRecDepth 4000 in
set_option maxHeartbeats 4000000 in
theorem internal_stringslite_HasSuffix_c (w : World) (s : ByteArray) (suffix : ByteArray) {r : Bool} (hm : internal_stringslite_HasSuffix s suffix = some r) : Ret Tryd.prog 60 #[.string s, .string suffix] w fun v w' => v = .bool r ∧ w = w' := by
  unfold internal_stringslite_HasSuffix at hm
  refine enter Tryd.func60 rfl Tryd.ntmps60 rfl ?_
  refine C_seq ?_
  refine C_region ?_
  refine V_y (Y_assign rfl) rfl rfl rfl ?_
  refine V_to (fun _ _ => rfl) ?_
  refine C_seq ?_
  refine C_region ?_
  refine V_y (Y_move rfl) rfl rfl rfl ?_
  refine V_y (Y_lenStr rfl Tryd.underlying9 rfl) rfl rfl rfl ?_
  refine V_y (Y_move rfl) rfl rfl rfl ?_
  refine V_y (Y_lenStr rfl Tryd.underlying9 rfl) rfl rfl rfl ?_
  refine V_y (Y_geq rfl rfl) rfl rfl rfl ?_
  refine V_y (Y_move rfl) rfl rfl rfl ?_
  obtain ⟨s2, hs2, hm⟩ := Option.bind_eq_some_iff.1 hm
  refine V_cut 10 (fun _ : Unit => [(20, .bool s2)]) (fun _ w' => w = w') ?_ ?_
  · simp only [List.take, List.drop]
    rcases Bool.eq_false_or_eq_true (decide ((suffix.size : Int) ≤ (s.size : Int))) with hc1 | hc1
    · rw [if_pos hc1] at hs2
      refine V_ge rfl rfl rfl hc1 ?_
      refine V_y (Y_move rfl) rfl rfl rfl ?_
      refine V_ge rfl rfl rfl hc1 ?_
      refine V_y (Y_move rfl) rfl rfl rfl ?_
      refine V_ge rfl rfl rfl hc1 ?_
      refine V_y (Y_lenStr rfl Tryd.underlying9 rfl) rfl rfl rfl ?_
      refine V_ge rfl rfl rfl hc1 ?_
      refine V_y (Y_move rfl) rfl rfl rfl ?_
      refine V_ge rfl rfl rfl hc1 ?_
      refine V_y (Y_lenStr rfl Tryd.underlying9 rfl) rfl rfl rfl ?_
      refine V_ge rfl rfl rfl hc1 ?_
      refine V_y (Y_subI rfl rfl) rfl rfl rfl ?_
      refine V_ge rfl rfl rfl hc1 ?_
      obtain ⟨x3, hx3, hs2⟩ := Option.bind_eq_some_iff.1 hs2
      refine V_y (Y_sliceSL hx3 Tryd.underlying9 rfl rfl) rfl rfl rfl ?_
      refine V_ge rfl rfl rfl hc1 ?_
      refine V_y (Y_move rfl) rfl rfl rfl ?_
      refine V_ge rfl rfl rfl hc1 ?_
      refine V_y (Y_seql rfl rfl) rfl rfl rfl ?_
      refine V_y (Y_pick_te rfl hc1 rfl) rfl rfl rfl ?_
      obtain rfl := Option.some.inj hs2
      exact V_end fun a ha => ⟨(), ha.sub ⟨rfl, trivial⟩, rfl⟩
    · rw [if_neg (nt hc1)] at hs2
      refine V_gn rfl rfl rfl hc1 rfl rfl rfl ?_
      refine V_gn rfl rfl rfl hc1 rfl rfl rfl ?_
      refine V_gn rfl rfl rfl hc1 rfl rfl rfl ?_
      refine V_gn rfl rfl rfl hc1 rfl rfl rfl ?_
      refine V_gn rfl rfl rfl hc1 rfl rfl rfl ?_
      refine V_gn rfl rfl rfl hc1 rfl rfl rfl ?_
      refine V_gn rfl rfl rfl hc1 rfl rfl rfl ?_
      refine V_gn rfl rfl rfl hc1 rfl rfl rfl ?_
      refine V_gn rfl rfl rfl hc1 rfl rfl rfl ?_
      refine V_y (Y_pick_fe rfl hc1 rfl) rfl rfl rfl ?_
      obtain rfl := Option.some.inj hs2
      exact V_end fun a ha => ⟨(), ha.sub ⟨rfl, trivial⟩, rfl⟩
  simp only [List.take, List.drop]
  rintro _ _ rfl
  refine V_y (Y_assign rfl) rfl rfl rfl ?_
  refine V_to (fun _ _ => rfl) ?_
  obtain rfl := Option.some.inj hm
  refine C_ret ?_
  try simp only [↓inBlock_ret, ↓then_ret]
  exact retQ rfl (Res.one Tryd.results60 rfl) ⟨rfl, rfl⟩

set_option maxRecDepth 4000 in
set_option maxHeartbeats 4000000 in
theorem strings_HasSuffix_c (w : World) (s : ByteArray) (suffix : ByteArray) {r : Bool} (hm : strings_HasSuffix s suffix = some r) : Ret Tryd.prog 27 #[.string s, .string suffix] w fun v w' => v = .bool r ∧ w = w' := by
  unfold strings_HasSuffix at hm
  refine enter Tryd.func27 rfl Tryd.ntmps27 rfl ?_
  refine C_seq ?_
  refine C_region ?_
  refine V_y (Y_assign rfl) rfl rfl rfl ?_
  refine V_to (fun _ _ => rfl) ?_
  refine C_seq ?_
  refine C_region ?_
  refine V_y (Y_move rfl) rfl rfl rfl ?_
  refine V_y (Y_move rfl) rfl rfl rfl ?_
  obtain ⟨x1, hx1, hm⟩ := Option.bind_eq_some_iff.1 hm
  refine V_call Tryd.call60 rfl rfl rfl rfl (internal_stringslite_HasSuffix_c w s suffix hx1) ?_
  rintro _ _ ⟨rfl, rfl⟩
  refine V_y (Y_assign rfl) rfl rfl rfl ?_
  refine V_to (fun _ _ => rfl) ?_
  obtain rfl := Option.some.inj hm
  refine C_ret ?_
  try simp only [↓inBlock_ret, ↓then_ret]
  exact retQ rfl (Res.one Tryd.results27 rfl) ⟨rfl, rfl⟩

def Tryd_strings_Join_lay_ren : Go.Shelf.Ren := ⟨fun | 156 => 28 | 165 => 61 | 166 => 47 | 169 => 53 | 240 => 85 | 241 => 95 | 276 => 107 | 277 => 113 | n => n, fun | 0 => 0 | 1 => 1 | 2 => 2 | 3 => 3 | 4 => 4 | 5 => 5 | 6 => 6 | 7 => 7 | 8 => 8 | 9 => 9 | 10 => 10 | 11 => 11 | 12 => 12 | 13 => 13 | 14 => 14 | 15 => 15 | 16 => 16 | 17 => 17 | 18 => 18 | 19 => 19 | 20 => 20 | 21 => 21 | 22 => 59 | 23 => 61 | 27 => 111 | 28 => 28 | 29 => 66 | 30 => 112 | 31 => 53 | 34 => 47 | 37 => 81 | 40 => 136 | 41 => 190 | 43 => 127 | 46 => 144 | 47 => 143 | 51 => 163 | 52 => 162 | 53 => 165 | 54 => 164 | 55 => 109 | 61 => 108 | 63 => 191 | 64 => 199 | 65 => 137 | 66 => 114 | 67 => 60 | 68 => 54 | 70 => 80 | 71 => 82 | 72 => 83 | 73 => 110 | 74 => 84 | 75 => 85 | 76 => 86 | 77 => 87 | 78 => 89 | 80 => 102 | 81 => 207 | 83 => 88 | 84 => 147 | 103 => 177 | 104 => 105 | 105 => 152 | 106 => 153 | 111 => 67 | 113 => 133 | 114 => 150 | 115 => 171 | 116 => 172 | 117 => 173 | 118 => 174 | 119 => 192 | 122 => 170 | 123 => 175 | 124 => 176 | 127 => 128 | 131 => 160 | 137 => 193 | 138 => 194 | 139 => 195 | 146 => 178 | 150 => 148 | 151 => 179 | 155 => 180 | 164 => 145 | 165 => 146 | 166 => 149 | 171 => 166 | 172 => 167 | 173 => 168 | 174 => 169 | 182 => 155 | 183 => 156 | 211 => 187 | 212 => 188 | 213 => 189 | 218 => 181 | 219 => 182 | 220 => 183 | 222 => 185 | 228 => 196 | 229 => 197 | 232 => 200 | 233 => 201 | 238 => 202 | 239 => 203 | 240 => 204 | 241 => 205 | 242 => 206 | 243 => 208 | 244 => 209 | 245 => 210 | 246 => 211 | 247 => 212 | 248 => 213 | 249 => 214 | n => n, fun | 1 => 2 | 3 => 4 | 4 => 5 | 17 => 3 | 18 => 6 | 19 => 7 | n => n⟩
theorem Tryd_strings_Join_lay : Go.Proofs.Lays.n156 Tryd.prog Tryd_strings_Join_lay_ren := {
  mixed := by kernel_rfl,
  f156 := Tryd.func28.trans (congrArg some (by kernel_rfl)),
  f165 := Tryd.func61.trans (congrArg some (by kernel_rfl)),
  f166 := Tryd.func47.trans (congrArg some (by kernel_rfl)),
  f169 := Tryd.func53.trans (congrArg some (by kernel_rfl)),
  f240 := Tryd.func85.trans (congrArg some (by kernel_rfl)),
  f241 := Tryd.func95.trans (congrArg some (by kernel_rfl)),
  f276 := Tryd.func107.trans (congrArg some (by kernel_rfl)),
  f277 := Tryd.func113.trans (congrArg some (by kernel_rfl)),
  t0 := Tryd.underlying0,
  a0 := Tryd.isAgg0,
  z0 := Tryd.sizeOf0,
  v0 := Tryd.zeroValue0,
  t3 := Tryd.underlying3,
  a3 := Tryd.isAgg3,
  z3 := Tryd.sizeOf3,
  v3 := Tryd.zeroValue3,
  t4 := Tryd.underlying4,
  a4 := Tryd.isAgg4,
  z4 := Tryd.sizeOf4,
  v4 := Tryd.zeroValue4,
  t9 := Tryd.underlying9,
  a9 := Tryd.isAgg9,
  z9 := Tryd.sizeOf9,
  v9 := Tryd.zeroValue9,
  t20 := Tryd.underlying20,
  a20 := Tryd.isAgg20,
  z20 := Tryd.sizeOf20,
  v20 := Tryd.zeroValue20,
  t31 := Tryd.underlying53,
  a31 := Tryd.isAgg53,
  z31 := Tryd.sizeOf53,
  v31 := Tryd.zeroValue53,
  t37 := Tryd.underlying81,
  a37 := Tryd.isAgg81,
  z37 := Tryd.sizeOf81,
  v37 := Tryd.zeroValue81,
  t70 := Tryd.underlying80,
  a70 := Tryd.isAgg80,
  z70 := Tryd.sizeOf80,
  v70 := Tryd.zeroValue80,
  t72 := Tryd.underlying83,
  a72 := Tryd.isAgg83,
  z72 := Tryd.sizeOf83,
  v72 := Tryd.zeroValue83,
  t75 := Tryd.underlying85,
  a75 := Tryd.isAgg85,
  z75 := Tryd.sizeOf85,
  v75 := Tryd.zeroValue85,
  t76 := Tryd.underlying86,
  a76 := Tryd.isAgg86,
  z76 := Tryd.sizeOf86,
  v76 := Tryd.zeroValue86,
  t127 := Tryd.underlying128,
  a127 := Tryd.isAgg128,
  z127 := Tryd.sizeOf128,
  v127 := Tryd.zeroValue128,
  t164 := Tryd.underlying145,
  a164 := Tryd.isAgg145,
  z164 := Tryd.sizeOf145,
  v164 := Tryd.zeroValue145 }
theorem Tryd_strings_Join_lay_x : Go.Proofs.Builder.Extra Tryd.prog Tryd_strings_Join_lay_ren := {
  sizeBuilder := by kernel_rfl
  liesBuilder := by kernel_rfl
  t5 := Tryd.underlying5
  a5 := Tryd.isAgg5
  z5 := Tryd.sizeOf5
  v5 := Tryd.zeroValue5
  infoByte := by kernel_rfl
  cellsByte := by kernel_rfl
  sizeByte := by kernel_rfl
  neB5 := (by decide : (83 : Nat) ≠ 5) }
theorem strings_Join_c (w : World) {A : Nat → Prop} (hA : ∀ b, w.heap.size ≤ b → A b) (elems : List ByteArray) (v_e : Value) (h_e : Sl A w v_e elems) (sep : ByteArray) {r : ByteArray} (hm : strings_Join elems sep = some r) : Ret Tryd.prog 28 #[v_e, .string sep] w fun v w' => v = .string r ∧ Kp w w' := by
  unfold strings_Join at hm
  split at hm
  case isFalse => cases hm
  rename_i h
  obtain rfl := Option.some.inj hm
  exact join_wrap h_e (fun a c => Go.Proofs.Any.strings_Join_none Tryd_strings_Join_lay Tryd_strings_Join_lay_x a c sep w) (fun bk o c h1 h2 h3 => Go.Proofs.Any.strings_Join Tryd_strings_Join_lay Tryd_strings_Join_lay_x bk o c elems sep w h1 h2 h.1 h3 h.2)

set_option maxRecDepth 4000 in
set_option maxHeartbeats 4000000 in
theorem know_Patch_c (w : World) {A : Nat → Prop} (hA : ∀ b, w.heap.size ≤ b → A b) (hT : Mx Tryd.prog 2 A w) (a_ : ByteArray) (l : (List know_Edit)) (v_l : Value) (h_l : Sl A w v_l l) {r : (ByteArray × Int)} (hm : know_Patch a_ l = some r) : Ret Tryd.prog 8 #[.string a_, v_l] w fun v w' => v = .tuple #[.string r.1, .int .i64 r.2] ∧ Kp w w' := by
  unfold know_Patch at hm
  refine enter Tryd.func8 rfl Tryd.ntmps8 rfl ?_
  have hA0 := hA
  have hB := Nat.le_refl w.heap.size
  have hK : Tr w.heap.size A w A w := Tr.refl hA
  have hH : Hp w.heap.size A w [] := Hp.nil
  refine C_seq ?_
  refine C_region ?_
  refine V_y (Y_assign rfl) rfl rfl rfl ?_
  refine V_y (Y_assign rfl) rfl rfl rfl ?_
  refine V_to (fun _ _ => rfl) ?_
  refine C_seq ?_
  refine C_seq ?_
  refine C_region ?_
  refine V_y (Y_move rfl) rfl rfl rfl ?_
  obtain ⟨x3, hx3, hm⟩ := Option.bind_eq_some_iff.1 hm
  refine V_call Tryd.call24 rfl rfl rfl rfl (know_checkBody_c w hA (Mx.tr hT hK) a_ hx3) ?_
  rintro _ w4 ⟨rfl, hk5⟩
  have ht6 := Kp.tr hk5 hA hB
  replace hH := Hp.kp hH hk5
  replace h_l := Sl.tr h_l ht6
  replace hK := Tr.trans hK ht6
  replace hB := Nat.le_trans hB ht6.ex.size
  replace hA := ht6.new
  refine V_y (Y_assign rfl) rfl rfl rfl ?_
  refine V_to (fun _ _ => rfl) ?_
  refine C_seq ?_
  refine C_region ?_
  refine V_y (Y_move rfl) rfl rfl rfl ?_
  refine V_y (Y_neq rfl rfl) rfl rfl rfl ?_
  refine V_to (fun _ _ => rfl) ?_
  refine C_cond rfl (fun hc7 => ?_) (fun hc7 => ?_)
  · rw [if_pos hc7] at hm
    refine C_seq ?_
    refine C_region ?_
    refine V_y (Y_move rfl) rfl rfl rfl ?_
    refine V_y (Y_assign rfl) rfl rfl rfl ?_
    refine V_y (Y_assign rfl) rfl rfl rfl ?_
    refine V_to (fun _ _ => rfl) ?_
    obtain rfl := Option.some.inj hm
    refine C_ret ?_
    try simp only [↓inBlock_ret, ↓then_ret]
    exact retQ rfl (Res.two Tryd.results8 rfl rfl) ⟨rfl, hK.kp⟩
  · rw [if_neg (nt hc7)] at hm
    refine C_skip_to (fun _ _ => rfl) ?_
    refine C_seq ?_
    refine C_region ?_
    refine V_y (Y_move rfl) rfl rfl rfl ?_
    obtain ⟨x8, hx8, hm⟩ := Option.bind_eq_some_iff.1 hm
    refine V_call Tryd.call25 rfl rfl rfl rfl (know_lines_c w4 hA (Mx.tr hT hK) a_ hx8) ?_
    rintro v9 w11 ⟨_, rfl, h10, hk12⟩
    have ht13 := Kp.tr hk12 hA hB
    replace hH := Hp.kp hH hk12
    replace h_l := Sl.tr h_l ht13
    replace hK := Tr.trans hK ht13
    replace hB := Nat.le_trans hB ht13.ex.size
    replace hA := ht13.new
    refine V_y (Y_assign rfl) rfl rfl rfl ?_
    refine V_to (fun _ _ => rfl) ?_
    refine C_seq ?_
    refine C_region ?_
    refine V_y (Y_assign rfl) rfl rfl rfl ?_
    refine V_to (fun _ _ => rfl) ?_
    refine C_seq ?_
    refine C_region ?_
    refine V_y (Y_assign rfl) rfl rfl rfl ?_
    refine V_to (fun _ _ => rfl) ?_
    refine C_seq ?_
    refine C_seq ?_
    refine C_region ?_
    refine V_y (Y_move rfl) rfl rfl rfl ?_
    refine V_y (Y_lenSl h_l rfl Tryd.underlying22 rfl) rfl rfl rfl ?_
    refine V_y (Y_move rfl) rfl rfl rfl ?_
    refine V_to (fun _ _ => rfl) ?_
    replace hH : Hp w.heap.size A w11 (obS (α := ByteArray) 9 (.slice none 0 0) ([] : (List ByteArray)) :: []) := Hp.addNil (α := ByteArray) (e := 9) hH
    have hn38 := Sl.le h_l
    obtain ⟨o14, ho14, hm⟩ := Option.bind_eq_some_iff.1 hm
    refine C_cutG (ι := (((List ByteArray) × Int) × Value × (Nat → Prop))) (fun ⟨s15, v21, A23⟩ => [(7, v9), (8, v21), (9, .int .i64 s15.2)]) (fun ⟨s15, v21, A23⟩ => fun w' => o14 = .fin s15 ∧ Hp w.heap.size A23 w' (obS (α := ByteArray) 9 v21 s15.1 :: []) ∧ Tr w.heap.size A w11 A23 w') ?_ ?_
    · refine C_block ?_
      refine C_range ho14 (fun k17 s25 a w' => ∃ i : (Value × (Nat → Prop)), Has ⟨98, [], none⟩ a ([(1, v_l), (7, v9), (8, i.1), (9, .int .i64 s25.2), (24, v_l), (25, .int .i64 (l.length : Int)), (26, .int .i64 (k17 : Int))]) ∧ Hp w.heap.size i.2 w' (obS (α := ByteArray) 9 i.1 s25.1 :: []) ∧ Tr w.heap.size A w11 i.2 w') (fun a ha => ⟨(.slice none 0 0, A), ha.sub ⟨rfl, rfl, rfl, rfl, rfl, rfl, rfl, trivial⟩, ⟨hH, Tr.refl hA⟩⟩) ?_
      rintro K k17 s25 a w26 ⟨⟨v27, A29⟩, ha102, hH30, hr16⟩ hle34 K37 h36
      refine C_of ?_ ha102
      replace h_l := Sl.tr h_l hr16
      replace h10 := Sl.tr h10 hr16
      replace hK := Tr.trans hK hr16
      replace hB := Nat.le_trans hB hr16.ex.size
      replace hA := hr16.new
      replace hH : Hp w.heap.size A29 w26 (obS (α := ByteArray) 9 v27 s25.1 :: []) := hH30
      refine C_seq (C_region (V_y (Y_lss rfl rfl) rfl rfl rfl (V_to (fun _ _ => rfl) ?_)))
      refine C_seq ?_
      refine C_cond rfl (fun hc39 => ?_) (fun hc39 => ?_)
      · have hlt35 := lt_of_dec hc39
        obtain ⟨x31, h32, h33⟩ := K37 hlt35
        refine C_skip_to (fun _ _ => rfl) ?_
        refine C_seq ?_
        refine C_block ?_
        refine C_seq ?_
        refine C_region ?_
        refine V_y (Y_move rfl) rfl rfl rfl ?_
        obtain ⟨x40, hx40, h32⟩ := Option.bind_eq_some_iff.1 h32
        refine V_indexAddr h_l hx40 Tryd.underlying22 Tryd.sizeOf56 rfl rfl rfl ?_
        intro b41 o42 h43
        obtain ⟨v44, h46, h45⟩ := El_know_Edit h43
        refine V_y (Y_loadA h46 Tryd.isAgg56 Tryd.sizeOf56 rfl) rfl rfl rfl ?_
        refine V_alloc Tryd.zeroValue56 rfl ?_
        intro b47 w48 h49
        refine V_y (Y_assign rfl) rfl rfl rfl ?_
        have h54 : (v44).oneCell' = true := by obtain ⟨_, _, e, _⟩ := Sl.form h45; rw [e]; rfl
        refine V_storeNew h49 Tryd.sizeOf56 rfl rfl rfl rfl (by exact (List.forall_mem_cons.2 ⟨rfl, (List.forall_mem_cons.2 ⟨rfl, (List.forall_mem_cons.2 ⟨h54, (fun _ h => nomatch h)⟩)⟩)⟩)) ?_
        intro w50 h51
        have hk56 := h51.kp
        have h55 : El (α := know_Edit) A29 w50 b47 0 x40 := h51.el hA ⟨[.int .i64 x40.at_], _, rfl, rfl, ⟨[.int .i64 x40.drop], _, rfl, rfl, ⟨_, rfl, h45⟩⟩⟩
        have ht57 := Kp.tr hk56 hA hB
        replace hH := Hp.kp hH hk56
        replace h_l := Sl.tr h_l ht57
        replace h10 := Sl.tr h10 ht57
        replace h43 := El.tr h43 ht57
        replace h45 := Sl.tr h45 ht57
        replace hK := Tr.trans hK ht57
        replace hr16 := Tr.trans hr16 ht57
        replace hB := Nat.le_trans hB ht57.ex.size
        replace hA := ht57.new
        refine V_to (fun _ _ => rfl) ?_
        refine C_seq ?_
        refine C_region ?_
        refine V_y (Y_assign rfl) rfl rfl rfl ?_
        refine V_to (fun _ _ => rfl) ?_
        refine C_seq ?_
        refine C_seq ?_
        refine C_region ?_
        refine V_y (Y_move rfl) rfl rfl rfl ?_
        refine V_y (Y_gtr rfl rfl) rfl rfl rfl ?_
        refine V_to (fun _ _ => rfl) ?_
        obtain ⟨s59, ho58, h32⟩ := Option.bind_eq_some_iff.1 h32
        refine C_cutG (ι := Unit) (fun (_ : Unit) => [(1, v_l), (7, v9), (8, v27), (9, .int .i64 s25.2), (11, .pointer (some ⟨b47, 0, none⟩)), (12, ptrV v_l 3 s59), (24, v_l), (25, .int .i64 (l.length : Int)), (26, .int .i64 (k17 : Int))]) (fun (_ : Unit) => fun w' => w50 = w') ?_ ?_
        · refine C_cond rfl (fun hc64 => ?_) (fun hc64 => ?_)
          · rw [if_pos hc64] at ho58
            refine C_region ?_
            refine V_y (Y_move rfl) rfl rfl rfl ?_
            refine V_y (Y_move rfl) rfl rfl rfl ?_
            refine V_y (Y_subI rfl rfl) rfl rfl rfl ?_
            obtain ⟨x65, hx65, ho58⟩ := Option.bind_eq_some_iff.1 ho58
            refine V_y (Y_indexIP h_l hx65 Tryd.underlying22 Tryd.sizeOf56 rfl rfl) rfl rfl rfl ?_
            refine V_y (Y_assign rfl) rfl rfl rfl ?_
            obtain rfl := Option.some.inj ho58
            refine V_end (fun a ha66 => ?_)
            exact ⟨(), ha66.sub ⟨rfl, rfl, rfl, rfl, rfl, rfl, rfl, rfl, rfl, trivial⟩, rfl⟩
          · rw [if_neg (nt hc64)] at ho58
            obtain rfl := Option.some.inj ho58
            refine C_skip (fun a ha67 => ?_)
            exact ⟨(), ha67.sub ⟨rfl, rfl, rfl, rfl, rfl, rfl, rfl, rfl, rfl, trivial⟩, rfl⟩
        rintro _ _ rfl a ha63
        refine C_at (n := ⟨98, [], none⟩) (fun _ _ => rfl) ?_ ha63
        refine C_seq ?_
        refine C_seq ?_
        refine C_region ?_
        obtain ⟨v68, h70, h69⟩ := El_know_Edit h55
        refine V_y (Y_loadA h70 Tryd.isAgg56 Tryd.sizeOf56 rfl) rfl rfl rfl ?_
        refine V_y (Y_move rfl) rfl rfl rfl ?_
        refine V_y (Y_move rfl) rfl rfl rfl ?_
        refine V_y (Y_lenSl h10 rfl Tryd.underlying53 rfl) rfl rfl rfl ?_
        obtain ⟨x71, hx71, h32⟩ := Option.bind_eq_some_iff.1 h32
        have h72 := OEl.ofIP h_l (c := 3) rfl hx71
        obtain ⟨x73, hx73, h32⟩ := Option.bind_eq_some_iff.1 h32
        refine V_call Tryd.call26 rfl rfl rfl rfl (know_checkEdit_c w50 hA x40 v68 h69 x71 (ptrV v_l 3 s59) h72 (x8.length : Int) hx73) ?_
        rintro _ w74 ⟨rfl, hk75⟩
        have ht76 := Kp.tr hk75 hA hB
        replace hH := Hp.kp hH hk75
        replace h_l := Sl.tr h_l ht76
        replace h10 := Sl.tr h10 ht76
        replace h55 := El.tr h55 ht76
        replace h69 := Sl.tr h69 ht76
        replace hK := Tr.trans hK ht76
        replace hr16 := Tr.trans hr16 ht76
        replace hB := Nat.le_trans hB ht76.ex.size
        replace hA := ht76.new
        refine V_y (Y_assign rfl) rfl rfl rfl ?_
        refine V_to (fun _ _ => rfl) ?_
        refine C_seq ?_
        refine C_region ?_
        refine V_y (Y_move rfl) rfl rfl rfl ?_
        refine V_y (Y_neq rfl rfl) rfl rfl rfl ?_
        refine V_to (fun _ _ => rfl) ?_
        refine C_cond rfl (fun hc77 => ?_) (fun hc77 => ?_)
        · rw [if_pos hc77] at h32
          refine C_seq ?_
          refine C_region ?_
          refine V_y (Y_move rfl) rfl rfl rfl ?_
          refine V_y (Y_assign rfl) rfl rfl rfl ?_
          refine V_y (Y_assign rfl) rfl rfl rfl ?_
          refine V_to (fun _ _ => rfl) ?_
          obtain rfl := Option.some.inj h32
          obtain rfl := (h33 : Lp.rt _ = _)
          rw [Lp.andThen_rt] at hm
          obtain rfl := Option.some.inj hm
          refine C_ret ?_
          try simp only [↓inBlock_ret, ↓then_ret]
          exact retQ rfl (Res.two Tryd.results8 rfl rfl) ⟨rfl, hK.kp⟩
        · rw [if_neg (nt hc77)] at h32
          refine C_skip_to (fun _ _ => rfl) ?_
          refine C_seq ?_
          refine C_region ?_
          refine V_y (Y_move rfl) rfl rfl rfl ?_
          refine V_y (Y_move rfl) rfl rfl rfl ?_
          refine V_y (Y_move rfl) rfl rfl rfl ?_
          have h78 := El_know_Edit_0 h55
          refine V_y (Y_fieldAddr Tryd.underlying56 rfl Tryd.sizeOf3 (by decide) rfl) rfl rfl rfl ?_
          refine V_y (Y_load (El.int h78) Tryd.isAgg3 rfl) rfl rfl rfl ?_
          obtain ⟨x79, hx79, h32⟩ := Option.bind_eq_some_iff.1 h32
          obtain ⟨v80, h81, h81y⟩ := sliceL_val hx79 h10
          refine V_y (Y_sliceLLH h81y Tryd.underlying53 Tryd.sizeOf9 rfl rfl rfl) rfl rfl rfl ?_
          obtain ⟨x82, hx82, h32⟩ := Option.bind_eq_some_iff.1 h32
          refine V_appendH (e := 9) (v := v27) (l := s25.1) (ti := Tryd.t9) (bytes := 16) (lim := 8796093022208) hH (i := 0) rfl h81 hx82 Tryd.underlying53 Tryd_info9 rfl rfl rfl rfl (by decide) (by decide) (by decide) hB hA rfl rfl rfl ?_
          intro v83 w84 A85 hH86 ht87
          replace h_l := Sl.tr h_l ht87
          replace h10 := Sl.tr h10 ht87
          replace h55 := El.tr h55 ht87
          replace h78 := El.tr h78 ht87
          replace h81 := Sl.tr h81 ht87
          replace hK := Tr.trans hK ht87
          replace hr16 := Tr.trans hr16 ht87
          replace hB := Nat.le_trans hB ht87.ex.size
          replace hA := ht87.new
          replace hH : Hp w.heap.size A85 w84 (obS (α := ByteArray) 9 v83 x82 :: []) := hH86
          refine V_y (Y_assign rfl) rfl rfl rfl ?_
          refine V_to (fun _ _ => rfl) ?_
          refine C_seq ?_
          refine C_region ?_
          refine V_y (Y_move rfl) rfl rfl rfl ?_
          have h88 := El_know_Edit_2 h55
          refine V_y (Y_fieldAddr Tryd.underlying56 rfl Tryd.sizeOf53 (by decide) rfl) rfl rfl rfl ?_
          obtain ⟨v89, h90, h91⟩ := El.list h88
          refine V_y (Y_load h90 Tryd.isAgg53 rfl) rfl rfl rfl ?_
          obtain ⟨x92, hx92, h32⟩ := Option.bind_eq_some_iff.1 h32
          refine V_appendH (e := 9) (v := v83) (l := x82) (ti := Tryd.t9) (bytes := 16) (lim := 8796093022208) hH (i := 0) rfl h91 hx92 Tryd.underlying53 Tryd_info9 rfl rfl rfl rfl (by decide) (by decide) (by decide) hB hA rfl rfl rfl ?_
          intro v93 w94 A95 hH96 ht97
          replace h_l := Sl.tr h_l ht97
          replace h10 := Sl.tr h10 ht97
          replace h55 := El.tr h55 ht97
          replace h88 := El.tr h88 ht97
          replace h91 := Sl.tr h91 ht97
          replace hK := Tr.trans hK ht97
          replace hr16 := Tr.trans hr16 ht97
          replace hB := Nat.le_trans hB ht97.ex.size
          replace hA := ht97.new
          replace hH : Hp w.heap.size A95 w94 (obS (α := ByteArray) 9 v93 x92 :: []) := hH96
          refine V_y (Y_assign rfl) rfl rfl rfl ?_
          refine V_to (fun _ _ => rfl) ?_
          refine C_region ?_
          have h98 := El_know_Edit_0 h55
          refine V_y (Y_fieldAddr Tryd.underlying56 rfl Tryd.sizeOf3 (by decide) rfl) rfl rfl rfl ?_
          refine V_y (Y_load (El.int h98) Tryd.isAgg3 rfl) rfl rfl rfl ?_
          have h99 := El_know_Edit_1 h55
          refine V_y (Y_fieldAddr Tryd.underlying56 rfl Tryd.sizeOf3 (by decide) rfl) rfl rfl rfl ?_
          refine V_y (Y_load (El.int h99) Tryd.isAgg3 rfl) rfl rfl rfl ?_
          refine V_y (Y_addI rfl rfl) rfl rfl rfl ?_
          refine V_y (Y_assign rfl) rfl rfl rfl ?_
          refine V_to (fun _ _ => rfl) ?_
          refine C_region ?_
          refine V_y (Y_addI rfl rfl) rfl rfl rfl ?_
          refine V_y (Y_move rfl) rfl rfl rfl ?_
          obtain rfl := Option.some.inj h32
          refine V_end (fun a ha100 => ?_)
          exact ⟨(x92, w64 (x40.at_ + x40.drop)), hlt35, h33, ⟨(v93, A95), ha100.sub ⟨rfl, rfl, rfl, rfl, rfl, rfl, (congrArg (fun z => some (Value.int .i64 z)) (w64_succ hlt35 hn38)), trivial⟩, ⟨hH, hr16⟩⟩⟩
      · refine C_exit (fun a ha101 => ?_)
        exact ⟨((s25.1, s25.2), v27, A29), ha101.sub ⟨rfl, rfl, rfl, trivial⟩, ⟨(h36 (eq_of_dec hle34 hc39)).symm, hH, hr16⟩⟩
    rintro ⟨s15, v21, A23⟩ w18 ⟨rfl, hH24, hk19⟩ a ha20
    rw [Lp.andThen_fin] at hm
    replace h10 := Sl.tr h10 hk19
    replace hK := Tr.trans hK hk19
    replace hB := Nat.le_trans hB hk19.ex.size
    replace hA := hk19.new
    replace hH : Hp w.heap.size A23 w18 (obS (α := ByteArray) 9 v21 s15.1 :: []) := hH24
    refine C_at (n := ⟨98, [], none⟩) (fun _ _ => rfl) ?_ ha20
    refine C_seq ?_
    refine C_region ?_
    refine V_y (Y_move rfl) rfl rfl rfl ?_
    refine V_y (Y_move rfl) rfl rfl rfl ?_
    refine V_y (Y_move rfl) rfl rfl rfl ?_
    obtain ⟨x103, hx103, hm⟩ := Option.bind_eq_some_iff.1 hm
    obtain ⟨v104, h105, h105y⟩ := sliceL_val hx103 h10
    refine V_y (Y_sliceLL h105y Tryd.underlying53 Tryd.sizeOf9 rfl rfl) rfl rfl rfl ?_
    obtain ⟨x106, hx106, hm⟩ := Option.bind_eq_some_iff.1 hm
    refine V_appendH (e := 9) (v := v21) (l := s15.1) (ti := Tryd.t9) (bytes := 16) (lim := 8796093022208) hH (i := 0) rfl h105 hx106 Tryd.underlying53 Tryd_info9 rfl rfl rfl rfl (by decide) (by decide) (by decide) hB hA rfl rfl rfl ?_
    intro v107 w108 A109 hH110 ht111
    replace h10 := Sl.tr h10 ht111
    replace h105 := Sl.tr h105 ht111
    replace hK := Tr.trans hK ht111
    replace hB := Nat.le_trans hB ht111.ex.size
    replace hA := ht111.new
    replace hH : Hp w.heap.size A109 w108 (obS (α := ByteArray) 9 v107 x106 :: []) := hH110
    refine V_y (Y_assign rfl) rfl rfl rfl ?_
    refine V_to (fun _ _ => rfl) ?_
    refine C_seq ?_
    refine C_region ?_
    refine V_y (Y_assign rfl) rfl rfl rfl ?_
    refine V_to (fun _ _ => rfl) ?_
    refine C_seq ?_
    refine C_seq ?_
    refine C_region ?_
    refine V_y (Y_move rfl) rfl rfl rfl ?_
    refine V_y (Y_lenSl (Hp.any (α := ByteArray) (e := 9) (v := v107) (l := x106) hH (i := 0) rfl) rfl Tryd.underlying53 rfl) rfl rfl rfl ?_
    refine V_y (Y_move rfl) rfl rfl rfl ?_
    refine V_to (fun _ _ => rfl) ?_
    have hn128 := Hp.le (α := ByteArray) (e := 9) (v := v107) (l := x106) hH (i := 0) rfl
    obtain ⟨o112, ho112, hm⟩ := Option.bind_eq_some_iff.1 hm
    refine C_cutG (ι := Int) (fun (s113 : Int) => [(8, v107), (14, .int .i64 s113)]) (fun (s113 : Int) => fun w' => o112 = .fin s113 ∧ w108 = w') ?_ ?_
    · refine C_block ?_
      refine C_range ho112 (fun k115 s119 a w' => ∃ i : Unit, Has ⟨98, [], none⟩ a ([(8, v107), (14, .int .i64 s119), (67, v107), (68, .int .i64 (x106.length : Int)), (69, .int .i64 (k115 : Int))]) ∧ w108 = w') (fun a ha => ⟨(), ha.sub ⟨rfl, rfl, rfl, rfl, rfl, trivial⟩, rfl⟩) ?_
      rintro K k115 s119 a _ ⟨_, ha141, rfl⟩ hle124 K127 h126
      refine C_of ?_ ha141
      refine C_seq (C_region (V_y (Y_lss rfl rfl) rfl rfl rfl (V_to (fun _ _ => rfl) ?_)))
      refine C_seq ?_
      refine C_cond rfl (fun hc129 => ?_) (fun hc129 => ?_)
      · have hlt125 := lt_of_dec hc129
        obtain ⟨x121, h122, h123⟩ := K127 hlt125
        refine C_skip_to (fun _ _ => rfl) ?_
        refine C_seq ?_
        refine C_block ?_
        refine C_seq ?_
        refine C_region ?_
        refine V_y (Y_move rfl) rfl rfl rfl ?_
        obtain ⟨x130, hx130, h122⟩ := Option.bind_eq_some_iff.1 h122
        refine V_indexAddrH (α := ByteArray) (e := 9) (v := v107) (l := x106) hH (i := 0) rfl hx130 Tryd.underlying53 Tryd.sizeOf9 rfl rfl rfl ?_
        intro b131 o132 h133 hl134
        refine V_y (Y_load (El.str h133) Tryd.isAgg9 rfl) rfl rfl rfl ?_
        refine V_y (Y_assign rfl) rfl rfl rfl ?_
        refine V_y (Y_assign rfl) rfl rfl rfl ?_
        refine V_to (fun _ _ => rfl) ?_
        refine C_seq ?_
        refine C_seq ?_
        refine C_region ?_
        refine V_y (Y_move rfl) rfl rfl rfl ?_
        refine V_y (Y_move rfl) rfl rfl rfl ?_
        refine V_y (Y_lenSl (Hp.any (α := ByteArray) (e := 9) (v := v107) (l := x106) hH (i := 0) rfl) rfl Tryd.underlying53 rfl) rfl rfl rfl ?_
        refine V_y (Y_subI rfl rfl) rfl rfl rfl ?_
        refine V_y (Y_lss rfl rfl) rfl rfl rfl ?_
        refine V_y (Y_move rfl) rfl rfl rfl ?_
        obtain ⟨s136, hs136, h122⟩ := Option.bind_eq_some_iff.1 h122
        refine V_cut 4 (fun _ : Unit => [(8, v107), (14, .int .i64 s119), (16, .string x130), (67, v107), (68, .int .i64 (x106.length : Int)), (69, .int .i64 (k115 : Int)), (83, .bool s136)]) (fun _ w' => w108 = w') ?_ ?_
        · simp only [List.take, List.drop]
          rcases Bool.eq_false_or_eq_true (decide ((k115 : Int) < (w64 ((x106.length : Int) - 1)))) with hc135 | hc135
          · rw [if_pos hc135] at hs136
            refine V_ge rfl rfl rfl hc135 ?_
            refine V_y (Y_move rfl) rfl rfl rfl ?_
            refine V_ge rfl rfl rfl hc135 ?_
            obtain ⟨x137, hx137, hs136⟩ := Option.bind_eq_some_iff.1 hs136
            refine V_call Tryd.call27 rfl rfl rfl rfl (strings_HasSuffix_c w108 x130 (⟨#[10]⟩ : ByteArray) hx137) ?_
            rintro _ _ ⟨rfl, rfl⟩
            refine V_ge rfl rfl rfl hc135 ?_
            refine V_y (Y_not rfl) rfl rfl rfl ?_
            refine V_y (Y_pick_te rfl hc135 rfl) rfl rfl rfl ?_
            obtain rfl := Option.some.inj hs136
            exact V_end fun a ha => ⟨(), ha.sub ⟨rfl, rfl, rfl, rfl, rfl, rfl, rfl, trivial⟩, rfl⟩
          · rw [if_neg (nt hc135)] at hs136
            refine V_gn rfl rfl rfl hc135 rfl rfl rfl ?_
            refine V_gn rfl rfl rfl hc135 rfl rfl rfl ?_
            refine V_gn rfl rfl rfl hc135 rfl rfl rfl ?_
            refine V_y (Y_pick_fe rfl hc135 rfl) rfl rfl rfl ?_
            obtain rfl := Option.some.inj hs136
            exact V_end fun a ha => ⟨(), ha.sub ⟨rfl, rfl, rfl, rfl, rfl, rfl, rfl, trivial⟩, rfl⟩
        simp only [List.take, List.drop]
        rintro _ _ rfl
        refine V_to (fun _ _ => rfl) ?_
        refine C_cond rfl (fun hc138 => ?_) (fun hc138 => ?_)
        · rw [if_pos hc138] at h122
          refine C_seq ?_
          refine C_region ?_
          refine V_y (Y_assign rfl) rfl rfl rfl ?_
          refine V_y (Y_assign rfl) rfl rfl rfl ?_
          refine V_to (fun _ _ => rfl) ?_
          obtain rfl := Option.some.inj h122
          obtain rfl := (h123 : Lp.rt _ = _)
          rw [Lp.andThen_rt] at hm
          obtain rfl := Option.some.inj hm
          refine C_ret ?_
          try simp only [↓inBlock_ret, ↓then_ret]
          exact retQ rfl (Res.two Tryd.results8 rfl rfl) ⟨rfl, hK.kp⟩
        · rw [if_neg (nt hc138)] at h122
          refine C_skip_to (fun _ _ => rfl) ?_
          refine C_region ?_
          refine V_y (Y_move rfl) rfl rfl rfl ?_
          refine V_y (Y_move rfl) rfl rfl rfl ?_
          refine V_y (Y_lenStr rfl Tryd.underlying9 rfl) rfl rfl rfl ?_
          refine V_y (Y_addI rfl rfl) rfl rfl rfl ?_
          refine V_y (Y_assign rfl) rfl rfl rfl ?_
          refine V_to (fun _ _ => rfl) ?_
          refine C_region ?_
          refine V_y (Y_addI rfl rfl) rfl rfl rfl ?_
          refine V_y (Y_move rfl) rfl rfl rfl ?_
          obtain rfl := Option.some.inj h122
          refine V_end (fun a ha139 => ?_)
          exact ⟨w64 (s119 + (x130.size : Int)), hlt125, h123, ⟨(), ha139.sub ⟨rfl, rfl, rfl, rfl, (congrArg (fun z => some (Value.int .i64 z)) (w64_succ hlt125 hn128)), trivial⟩, rfl⟩⟩
      · refine C_exit (fun a ha140 => ?_)
        exact ⟨s119, ha140.sub ⟨rfl, rfl, trivial⟩, ⟨(h126 (eq_of_dec hle124 hc129)).symm, rfl⟩⟩
    rintro s113 _ ⟨rfl, rfl⟩ a ha118
    rw [Lp.andThen_fin] at hm
    refine C_at (n := ⟨98, [], none⟩) (fun _ _ => rfl) ?_ ha118
    refine C_seq ?_
    refine C_seq ?_
    refine C_region ?_
    refine V_y (Y_move rfl) rfl rfl rfl ?_
    refine V_y (Y_gtr rfl rfl) rfl rfl rfl ?_
    refine V_y (Y_move rfl) rfl rfl rfl ?_
    refine V_cut 4 (fun _ : Unit => [(8, v107), (95, .bool ((decide ((20000 : Int) < s113)) || (decide ((2000 : Int) < (x106.length : Int)))))]) (fun _ w' => w108 = w') ?_ ?_
    · simp only [List.take, List.drop]
      rcases Bool.eq_false_or_eq_true (decide ((20000 : Int) < s113)) with hc142 | hc142
      · refine V_gn rfl rfl rfl hc142 rfl rfl rfl ?_
        refine V_gn rfl rfl rfl hc142 rfl rfl rfl ?_
        refine V_gn rfl rfl rfl hc142 rfl rfl rfl ?_
        refine V_y (Y_pick_te rfl hc142 rfl) rfl rfl rfl ?_
        exact V_end fun a ha => ⟨(), ha.sub ⟨rfl, (by rw [hc142]; rfl), trivial⟩, rfl⟩
      · refine V_ge rfl rfl rfl hc142 ?_
        refine V_y (Y_move rfl) rfl rfl rfl ?_
        refine V_ge rfl rfl rfl hc142 ?_
        refine V_y (Y_lenSl (Hp.any (α := ByteArray) (e := 9) (v := v107) (l := x106) hH (i := 0) rfl) rfl Tryd.underlying53 rfl) rfl rfl rfl ?_
        refine V_ge rfl rfl rfl hc142 ?_
        refine V_y (Y_gtr rfl rfl) rfl rfl rfl ?_
        refine V_y (Y_pick_fe rfl hc142 rfl) rfl rfl rfl ?_
        exact V_end fun a ha => ⟨(), ha.sub ⟨rfl, (by rw [hc142]; rfl), trivial⟩, rfl⟩
    simp only [List.take, List.drop]
    rintro _ _ rfl
    refine V_to (fun _ _ => rfl) ?_
    refine C_cond rfl (fun hc144 => ?_) (fun hc144 => ?_)
    · rw [if_pos hc144] at hm
      refine C_seq ?_
      refine C_region ?_
      refine V_y (Y_assign rfl) rfl rfl rfl ?_
      refine V_y (Y_assign rfl) rfl rfl rfl ?_
      refine V_to (fun _ _ => rfl) ?_
      obtain rfl := Option.some.inj hm
      refine C_ret ?_
      try simp only [↓inBlock_ret, ↓then_ret]
      exact retQ rfl (Res.two Tryd.results8 rfl rfl) ⟨rfl, hK.kp⟩
    · rw [if_neg (nt hc144)] at hm
      refine C_skip_to (fun _ _ => rfl) ?_
      refine C_seq ?_
      refine C_region ?_
      refine V_y (Y_move rfl) rfl rfl rfl ?_
      obtain ⟨x145, hx145, hm⟩ := Option.bind_eq_some_iff.1 hm
      refine V_call Tryd.call28 rfl rfl rfl rfl (strings_Join_c w108 (A := fun _ => True) (fun _ _ => trivial) x106 v107 (Hp.any (α := ByteArray) (e := 9) (v := v107) (l := x106) hH (i := 0) rfl) (⟨#[]⟩ : ByteArray) hx145) ?_
      rintro _ w146 ⟨rfl, hk147⟩
      have ht148 := Kp.tr hk147 hA hB
      replace hH := Hp.kp hH hk147
      replace hK := Tr.trans hK ht148
      replace hB := Nat.le_trans hB ht148.ex.size
      replace hA := ht148.new
      refine V_y (Y_assign rfl) rfl rfl rfl ?_
      refine V_y (Y_assign rfl) rfl rfl rfl ?_
      refine V_to (fun _ _ => rfl) ?_
      obtain rfl := Option.some.inj hm
      refine C_ret ?_
      try simp only [↓inBlock_ret, ↓then_ret]
      exact retQ rfl (Res.two Tryd.results8 rfl rfl) ⟨rfl, hK.kp⟩

set_option maxRecDepth 4000 in
set_option maxHeartbeats 4000000 in
theorem portref2_bodyLines_c (w : World) {A : Nat → Prop} (hA : ∀ b, w.heap.size ≤ b → A b) (hT : Mx Tryd.prog 2 A w) (s : ByteArray) {r : (List ByteArray)} (hm : portref2_bodyLines s = some r) : Ret Tryd.prog 30 #[.string s] w fun v w' => ∃ s0, v = s0 ∧ Sl A w' s0 r ∧ Kp w w' := by
  unfold portref2_bodyLines at hm
  refine enter Tryd.func30 rfl Tryd.ntmps30 rfl ?_
  have hA0 := hA
  have hB := Nat.le_refl w.heap.size
  have hK : Tr w.heap.size A w A w := Tr.refl hA
  have hH : Hp w.heap.size A w [] := Hp.nil
  refine C_seq ?_
  refine C_region ?_
  refine V_y (Y_assign rfl) rfl rfl rfl ?_
  refine V_to (fun _ _ => rfl) ?_
  refine C_seq ?_
  refine C_region ?_
  refine V_y (Y_move rfl) rfl rfl rfl ?_
  obtain ⟨x1, hx1, hm⟩ := Option.bind_eq_some_iff.1 hm
  refine V_call Tryd.call58 rfl rfl rfl rfl (strings_SplitAfter_c w hA (Mx.tr hT hK) s (⟨#[10]⟩ : ByteArray) hx1) ?_
  rintro v2 w4 ⟨_, rfl, h3, hk5⟩
  have ht6 := Kp.tr hk5 hA hB
  replace hH := Hp.kp hH hk5
  replace hK := Tr.trans hK ht6
  replace hB := Nat.le_trans hB ht6.ex.size
  replace hA := ht6.new
  refine V_y (Y_assign rfl) rfl rfl rfl ?_
  refine V_to (fun _ _ => rfl) ?_
  refine C_seq ?_
  refine C_seq ?_
  refine C_region ?_
  refine V_y (Y_move rfl) rfl rfl rfl ?_
  refine V_y (Y_move rfl) rfl rfl rfl ?_
  refine V_y (Y_lenSl h3 rfl Tryd.underlying53 rfl) rfl rfl rfl ?_
  refine V_y (Y_subI rfl rfl) rfl rfl rfl ?_
  obtain ⟨x7, hx7, hm⟩ := Option.bind_eq_some_iff.1 hm
  refine V_indexAddr h3 hx7 Tryd.underlying53 Tryd.sizeOf9 rfl rfl rfl ?_
  intro b8 o9 h10
  refine V_y (Y_load (El.str h10) Tryd.isAgg9 rfl) rfl rfl rfl ?_
  refine V_y (Y_seql rfl rfl) rfl rfl rfl ?_
  refine V_to (fun _ _ => rfl) ?_
  obtain ⟨s12, ho11, hm⟩ := Option.bind_eq_some_iff.1 hm
  refine C_cutG (ι := Value) (fun (v14 : Value) => [(3, v14)]) (fun (v14 : Value) => fun w' => Sl A w' v14 s12 ∧ w4 = w') ?_ ?_
  · refine C_cond rfl (fun hc20 => ?_) (fun hc20 => ?_)
    · rw [if_pos hc20] at ho11
      refine C_region ?_
      refine V_y (Y_move rfl) rfl rfl rfl ?_
      refine V_y (Y_move rfl) rfl rfl rfl ?_
      refine V_y (Y_lenSl h3 rfl Tryd.underlying53 rfl) rfl rfl rfl ?_
      refine V_y (Y_subI rfl rfl) rfl rfl rfl ?_
      obtain ⟨x21, hx21, ho11⟩ := Option.bind_eq_some_iff.1 ho11
      obtain ⟨v22, h23, h23y⟩ := sliceL_val hx21 h3
      refine V_y (Y_sliceLH h23y Tryd.underlying53 Tryd.sizeOf9 rfl rfl) rfl rfl rfl ?_
      refine V_y (Y_assign rfl) rfl rfl rfl ?_
      obtain rfl := Option.some.inj ho11
      refine V_end (fun a ha24 => ?_)
      exact ⟨v22, ha24.sub ⟨rfl, trivial⟩, ⟨h23, rfl⟩⟩
    · rw [if_neg (nt hc20)] at ho11
      obtain rfl := Option.some.inj ho11
      refine C_skip (fun a ha25 => ?_)
      exact ⟨v2, ha25.sub ⟨rfl, trivial⟩, ⟨h3, rfl⟩⟩
  rintro v14 _ ⟨h15, rfl⟩ a ha19
  refine C_at (n := ⟨19, [], none⟩) (fun _ _ => rfl) ?_ ha19
  refine C_seq ?_
  refine C_region ?_
  refine V_y (Y_move rfl) rfl rfl rfl ?_
  refine V_y (Y_assign rfl) rfl rfl rfl ?_
  refine V_to (fun _ _ => rfl) ?_
  obtain rfl := Option.some.inj hm
  refine C_ret ?_
  try simp only [↓inBlock_ret, ↓then_ret]
  exact retQ rfl (Res.one Tryd.results30 rfl) ⟨v14, rfl, (Sl.out h15 hA0 hK), hK.kp⟩

set_option maxRecDepth 4000 in
set_option maxHeartbeats 4000000 in
theorem portref2_bodyFault_c (w : World) {A : Nat → Prop} (hA : ∀ b, w.heap.size ≤ b → A b) (hT : Mx Tryd.prog 2 A w) (s : ByteArray) {r : Int} (hm : portref2_bodyFault s = some r) : Ret Tryd.prog 29 #[.string s] w fun v w' => v = .int .i64 r ∧ Kp w w' := by
  unfold portref2_bodyFault at hm
  refine enter Tryd.func29 rfl Tryd.ntmps29 rfl ?_
  have hA0 := hA
  have hB := Nat.le_refl w.heap.size
  have hK : Tr w.heap.size A w A w := Tr.refl hA
  have hH : Hp w.heap.size A w [] := Hp.nil
  refine C_seq ?_
  refine C_region ?_
  refine V_y (Y_assign rfl) rfl rfl rfl ?_
  refine V_to (fun _ _ => rfl) ?_
  refine C_seq ?_
  refine C_seq ?_
  obtain ⟨s2, ho1, hm⟩ := Option.bind_eq_some_iff.1 hm
  refine C_cutG (ι := (Nat → Prop)) (fun (A7 : (Nat → Prop)) => [(11, .bool s2)]) (fun (A7 : (Nat → Prop)) => fun w' => Hp w.heap.size A7 w' ([]) ∧ Tr w.heap.size A w A7 w') ?_ ?_
  · have hr3 : Tr w.heap.size A w A w := Tr.refl hA
    refine C_region ?_
    refine V_y (Y_move rfl) rfl rfl rfl ?_
    refine V_y (Y_lenStr rfl Tryd.underlying9 rfl) rfl rfl rfl ?_
    refine V_y (Y_gtr rfl rfl) rfl rfl rfl ?_
    refine V_y (Y_move rfl) rfl rfl rfl ?_
    rcases Bool.eq_false_or_eq_true (decide ((20000 : Int) < (s.size : Int))) with hc9 | hc9
    · rw [if_pos hc9] at ho1
      refine V_gn rfl rfl rfl hc9 rfl rfl rfl ?_
      refine V_gn rfl rfl rfl hc9 rfl rfl rfl ?_
      refine V_gn rfl rfl rfl hc9 rfl rfl rfl ?_
      refine V_gn rfl rfl rfl hc9 rfl rfl rfl ?_
      refine V_y (Y_pick_te rfl hc9 rfl) rfl rfl rfl ?_
      obtain rfl := Option.some.inj ho1
      refine V_end (fun a ha10 => ?_)
      exact ⟨A, ha10.sub ⟨rfl, trivial⟩, ⟨hH, hr3⟩⟩
    · rw [if_neg (nt hc9)] at ho1
      refine V_ge rfl rfl rfl hc9 ?_
      refine V_y (Y_move rfl) rfl rfl rfl ?_
      refine V_ge rfl rfl rfl hc9 ?_
      obtain ⟨x11, hx11, ho1⟩ := Option.bind_eq_some_iff.1 ho1
      refine V_call Tryd.call30 rfl rfl rfl rfl (portref2_bodyLines_c w hA (Mx.tr hT hK) s hx11) ?_
      rintro v12 w14 ⟨_, rfl, h13, hk15⟩
      have ht16 := Kp.tr hk15 hA hB
      replace hH := Hp.kp hH hk15
      replace hK := Tr.trans hK ht16
      replace hr3 := Tr.trans hr3 ht16
      replace hB := Nat.le_trans hB ht16.ex.size
      replace hA := ht16.new
      refine V_ge rfl rfl rfl hc9 ?_
      refine V_y (Y_lenSl h13 rfl Tryd.underlying53 rfl) rfl rfl rfl ?_
      refine V_ge rfl rfl rfl hc9 ?_
      refine V_y (Y_gtr rfl rfl) rfl rfl rfl ?_
      refine V_y (Y_pick_fe rfl hc9 rfl) rfl rfl rfl ?_
      obtain rfl := Option.some.inj ho1
      refine V_end (fun a ha17 => ?_)
      exact ⟨A, ha17.sub ⟨rfl, trivial⟩, ⟨hH, hr3⟩⟩
  rintro A7 w4 ⟨hH8, hk5⟩ a ha6
  replace hK := Tr.trans hK hk5
  replace hB := Nat.le_trans hB hk5.ex.size
  replace hA := hk5.new
  replace hH : Hp w.heap.size A7 w4 ([]) := hH8
  refine C_at (n := ⟨12, [], none⟩) (fun _ _ => rfl) ?_ ha6
  refine C_cond rfl (fun hc18 => ?_) (fun hc18 => ?_)
  · rw [if_pos hc18] at hm
    refine C_seq ?_
    refine C_region ?_
    refine V_y (Y_assign rfl) rfl rfl rfl ?_
    refine V_to (fun _ _ => rfl) ?_
    obtain rfl := Option.some.inj hm
    refine C_ret ?_
    try simp only [↓inBlock_ret, ↓then_ret]
    exact retQ rfl (Res.one Tryd.results29 rfl) ⟨rfl, hK.kp⟩
  · rw [if_neg (nt hc18)] at hm
    refine C_skip_to (fun _ _ => rfl) ?_
    refine C_seq ?_
    refine C_region ?_
    refine V_y (Y_assign rfl) rfl rfl rfl ?_
    refine V_to (fun _ _ => rfl) ?_
    obtain rfl := Option.some.inj hm
    refine C_ret ?_
    try simp only [↓inBlock_ret, ↓then_ret]
    exact retQ rfl (Res.one Tryd.results29 rfl) ⟨rfl, hK.kp⟩

set_option maxRecDepth 4000 in
set_option maxHeartbeats 4000000 in
theorem internal_stringslite_TrimSuffix_c (w : World) (s : ByteArray) (suffix : ByteArray) {r : ByteArray} (hm : internal_stringslite_TrimSuffix s suffix = some r) : Ret Tryd.prog 63 #[.string s, .string suffix] w fun v w' => v = .string r ∧ w = w' := by
  unfold internal_stringslite_TrimSuffix at hm
  refine enter Tryd.func63 rfl Tryd.ntmps63 rfl ?_
  refine C_seq ?_
  refine C_region ?_
  refine V_y (Y_assign rfl) rfl rfl rfl ?_
  refine V_to (fun _ _ => rfl) ?_
  refine C_seq ?_
  refine C_seq ?_
  refine C_region ?_
  refine V_y (Y_move rfl) rfl rfl rfl ?_
  refine V_y (Y_move rfl) rfl rfl rfl ?_
  obtain ⟨x1, hx1, hm⟩ := Option.bind_eq_some_iff.1 hm
  refine V_call Tryd.call60 rfl rfl rfl rfl (internal_stringslite_HasSuffix_c w s suffix hx1) ?_
  rintro _ _ ⟨rfl, rfl⟩
  refine V_to (fun _ _ => rfl) ?_
  refine C_cond rfl (fun hc2 => ?_) (fun hc2 => ?_)
  · rw [if_pos hc2] at hm
    refine C_seq ?_
    refine C_region ?_
    refine V_y (Y_move rfl) rfl rfl rfl ?_
    refine V_y (Y_move rfl) rfl rfl rfl ?_
    refine V_y (Y_lenStr rfl Tryd.underlying9 rfl) rfl rfl rfl ?_
    refine V_y (Y_move rfl) rfl rfl rfl ?_
    refine V_y (Y_lenStr rfl Tryd.underlying9 rfl) rfl rfl rfl ?_
    refine V_y (Y_subI rfl rfl) rfl rfl rfl ?_
    obtain ⟨x3, hx3, hm⟩ := Option.bind_eq_some_iff.1 hm
    refine V_y (Y_sliceSH hx3 Tryd.underlying9 rfl rfl) rfl rfl rfl ?_
    refine V_y (Y_assign rfl) rfl rfl rfl ?_
    refine V_to (fun _ _ => rfl) ?_
    obtain rfl := Option.some.inj hm
    refine C_ret ?_
    try simp only [↓inBlock_ret, ↓then_ret]
    exact retQ rfl (Res.one Tryd.results63 rfl) ⟨rfl, rfl⟩
  · rw [if_neg (nt hc2)] at hm
    refine C_skip_to (fun _ _ => rfl) ?_
    refine C_seq ?_
    refine C_region ?_
    refine V_y (Y_move rfl) rfl rfl rfl ?_
    refine V_y (Y_assign rfl) rfl rfl rfl ?_
    refine V_to (fun _ _ => rfl) ?_
    obtain rfl := Option.some.inj hm
    refine C_ret ?_
    try simp only [↓inBlock_ret, ↓then_ret]
    exact retQ rfl (Res.one Tryd.results63 rfl) ⟨rfl, rfl⟩

set_option maxRecDepth 4000 in
set_option maxHeartbeats 4000000 in
theorem strings_TrimSuffix_c (w : World) (s : ByteArray) (suffix : ByteArray) {r : ByteArray} (hm : strings_TrimSuffix s suffix = some r) : Ret Tryd.prog 32 #[.string s, .string suffix] w fun v w' => v = .string r ∧ w = w' := by
  unfold strings_TrimSuffix at hm
  refine enter Tryd.func32 rfl Tryd.ntmps32 rfl ?_
  refine C_seq ?_
  refine C_region ?_
  refine V_y (Y_assign rfl) rfl rfl rfl ?_
  refine V_to (fun _ _ => rfl) ?_
  refine C_seq ?_
  refine C_region ?_
  refine V_y (Y_move rfl) rfl rfl rfl ?_
  refine V_y (Y_move rfl) rfl rfl rfl ?_
  obtain ⟨x1, hx1, hm⟩ := Option.bind_eq_some_iff.1 hm
  refine V_call Tryd.call63 rfl rfl rfl rfl (internal_stringslite_TrimSuffix_c w s suffix hx1) ?_
  rintro _ _ ⟨rfl, rfl⟩
  refine V_y (Y_assign rfl) rfl rfl rfl ?_
  refine V_to (fun _ _ => rfl) ?_
  obtain rfl := Option.some.inj hm
  refine C_ret ?_
  try simp only [↓inBlock_ret, ↓then_ret]
  exact retQ rfl (Res.one Tryd.results32 rfl) ⟨rfl, rfl⟩

def Tryd_strings_Contains_lay_ren : Go.Shelf.Ren := ⟨fun | 143 => 62 | 144 => 31 | 217 => 94 | 219 => 96 | 224 => 115 | 225 => 114 | 266 => 112 | 267 => 116 | 314 => 142 | n => n, fun | 0 => 0 | 1 => 1 | 2 => 2 | 3 => 3 | 4 => 4 | 5 => 5 | 6 => 6 | 7 => 7 | 8 => 8 | 9 => 9 | 10 => 10 | 11 => 11 | 12 => 12 | 13 => 13 | 14 => 14 | 15 => 15 | 16 => 16 | 17 => 17 | 18 => 18 | 19 => 19 | 20 => 20 | 21 => 21 | 22 => 59 | 23 => 61 | 27 => 111 | 28 => 28 | 29 => 66 | 30 => 112 | 31 => 53 | 34 => 47 | 37 => 81 | 40 => 136 | 41 => 190 | 43 => 127 | 46 => 144 | 47 => 143 | 51 => 163 | 52 => 162 | 53 => 165 | 54 => 164 | 55 => 109 | 61 => 108 | 63 => 191 | 64 => 199 | 65 => 137 | 66 => 114 | 67 => 60 | 68 => 54 | 70 => 80 | 71 => 82 | 72 => 83 | 73 => 110 | 74 => 84 | 75 => 85 | 76 => 86 | 77 => 87 | 78 => 89 | 80 => 102 | 81 => 207 | 83 => 88 | 84 => 147 | 103 => 177 | 104 => 105 | 105 => 152 | 106 => 153 | 111 => 67 | 113 => 133 | 114 => 150 | 115 => 171 | 116 => 172 | 117 => 173 | 118 => 174 | 119 => 192 | 122 => 170 | 123 => 175 | 124 => 176 | 127 => 128 | 131 => 160 | 137 => 193 | 138 => 194 | 139 => 195 | 146 => 178 | 150 => 148 | 151 => 179 | 155 => 180 | 164 => 145 | 165 => 146 | 166 => 149 | 171 => 166 | 172 => 167 | 173 => 168 | 174 => 169 | 182 => 155 | 183 => 156 | 211 => 187 | 212 => 188 | 213 => 189 | 218 => 181 | 219 => 182 | 220 => 183 | 222 => 185 | 228 => 196 | 229 => 197 | 232 => 200 | 233 => 201 | 238 => 202 | 239 => 203 | 240 => 204 | 241 => 205 | 242 => 206 | 243 => 208 | 244 => 209 | 245 => 210 | 246 => 211 | 247 => 212 | 248 => 213 | 249 => 214 | n => n, fun | 1 => 2 | 3 => 4 | 4 => 5 | 17 => 3 | 18 => 6 | 19 => 7 | n => n⟩
theorem Tryd_strings_Contains_lay : Go.Proofs.Lays.n144 Tryd.prog Tryd_strings_Contains_lay_ren := {
  mixed := by kernel_rfl,
  f143 := Tryd.func62.trans (congrArg some (by kernel_rfl)),
  f144 := Tryd.func31.trans (congrArg some (by kernel_rfl)),
  f217 := Tryd.func94.trans (congrArg some (by kernel_rfl)),
  f219 := Tryd.func96.trans (congrArg some (by kernel_rfl)),
  f224 := Tryd.func115.trans (congrArg some (by kernel_rfl)),
  f225 := Tryd.func114.trans (congrArg some (by kernel_rfl)),
  f266 := Tryd.func112.trans (congrArg some (by kernel_rfl)),
  f267 := Tryd.func116.trans (congrArg some (by kernel_rfl)),
  f314 := Tryd.func142.trans (congrArg some (by kernel_rfl)),
  t3 := Tryd.underlying3,
  a3 := Tryd.isAgg3,
  z3 := Tryd.sizeOf3,
  v3 := Tryd.zeroValue3,
  t4 := Tryd.underlying4,
  a4 := Tryd.isAgg4,
  z4 := Tryd.sizeOf4,
  v4 := Tryd.zeroValue4,
  t5 := Tryd.underlying5,
  a5 := Tryd.isAgg5,
  z5 := Tryd.sizeOf5,
  v5 := Tryd.zeroValue5,
  t9 := Tryd.underlying9,
  a9 := Tryd.isAgg9,
  z9 := Tryd.sizeOf9,
  v9 := Tryd.zeroValue9,
  t46 := Tryd.underlying144,
  a46 := Tryd.isAgg144,
  z46 := Tryd.sizeOf144,
  v46 := Tryd.zeroValue144,
  t51 := Tryd.underlying163,
  a51 := Tryd.isAgg163,
  z51 := Tryd.sizeOf163,
  v51 := Tryd.zeroValue163,
  t146 := Tryd.underlying178,
  a146 := Tryd.isAgg178,
  z146 := Tryd.sizeOf178,
  v146 := Tryd.zeroValue178,
  g1 := by kernel_rfl }
theorem strings_Contains_c (w : World) {A : Nat → Prop} (hA : ∀ b, w.heap.size ≤ b → A b) (s : ByteArray) (substr : ByteArray) {r : Bool} (hm : strings_Contains s substr = some r) : Ret Tryd.prog 31 #[.string s, .string substr] w fun v w' => v = .bool r ∧ Kp w w' := by
  unfold strings_Contains at hm
  split at hm
  · rename_i c hc
    obtain rfl := Option.some.inj hm
    obtain rfl : substr = ⟨#[c]⟩ := by apply ByteArray.ext; apply Array.toList_inj.1; simpa using hc
    refine Calls.mono (Go.Proofs.Any.strings_Contains_one Tryd_strings_Contains_lay s c w) ?_
    rintro _ w' ⟨rfl, rfl⟩
    exact ⟨_, rfl, rfl, Kp.refl _⟩
  · cases hm

set_option maxRecDepth 4000 in
set_option maxHeartbeats 4000000 in
theorem portref2_PatchOf_c (w : World) {A : Nat → Prop} (hA : ∀ b, w.heap.size ≤ b → A b) (hT : Mx Tryd.prog 2 A w) (a_ : ByteArray) (l : (List know_Edit)) (v_l : Value) (h_l : Sl A w v_l l) {r : (ByteArray × Int)} (hm : portref2_PatchOf a_ l = some r) : Ret Tryd.prog 9 #[.string a_, v_l] w fun v w' => v = .tuple #[.string r.1, .int .i64 r.2] ∧ Kp w w' := by
  unfold portref2_PatchOf at hm
  refine enter Tryd.func9 rfl Tryd.ntmps9 rfl ?_
  have hA0 := hA
  have hB := Nat.le_refl w.heap.size
  have hK : Tr w.heap.size A w A w := Tr.refl hA
  have hH : Hp w.heap.size A w [] := Hp.nil
  refine C_seq ?_
  refine C_region ?_
  refine V_y (Y_assign rfl) rfl rfl rfl ?_
  refine V_y (Y_assign rfl) rfl rfl rfl ?_
  refine V_to (fun _ _ => rfl) ?_
  refine C_seq ?_
  refine C_seq ?_
  refine C_region ?_
  refine V_y (Y_move rfl) rfl rfl rfl ?_
  obtain ⟨x3, hx3, hm⟩ := Option.bind_eq_some_iff.1 hm
  refine V_call Tryd.call29 rfl rfl rfl rfl (portref2_bodyFault_c w hA (Mx.tr hT hK) a_ hx3) ?_
  rintro _ w4 ⟨rfl, hk5⟩
  have ht6 := Kp.tr hk5 hA hB
  replace hH := Hp.kp hH hk5
  replace h_l := Sl.tr h_l ht6
  replace hK := Tr.trans hK ht6
  replace hB := Nat.le_trans hB ht6.ex.size
  replace hA := ht6.new
  refine V_y (Y_assign rfl) rfl rfl rfl ?_
  refine V_to (fun _ _ => rfl) ?_
  refine C_seq ?_
  refine C_region ?_
  refine V_y (Y_move rfl) rfl rfl rfl ?_
  refine V_y (Y_neq rfl rfl) rfl rfl rfl ?_
  refine V_to (fun _ _ => rfl) ?_
  refine C_cond rfl (fun hc7 => ?_) (fun hc7 => ?_)
  · rw [if_pos hc7] at hm
    refine C_seq ?_
    refine C_region ?_
    refine V_y (Y_move rfl) rfl rfl rfl ?_
    refine V_y (Y_assign rfl) rfl rfl rfl ?_
    refine V_y (Y_assign rfl) rfl rfl rfl ?_
    refine V_to (fun _ _ => rfl) ?_
    obtain rfl := Option.some.inj hm
    refine C_ret ?_
    try simp only [↓inBlock_ret, ↓then_ret]
    exact retQ rfl (Res.two Tryd.results9 rfl rfl) ⟨rfl, hK.kp⟩
  · rw [if_neg (nt hc7)] at hm
    refine C_skip_to (fun _ _ => rfl) ?_
    refine C_seq ?_
    refine C_region ?_
    refine V_y (Y_move rfl) rfl rfl rfl ?_
    obtain ⟨x8, hx8, hm⟩ := Option.bind_eq_some_iff.1 hm
    refine V_call Tryd.call30 rfl rfl rfl rfl (portref2_bodyLines_c w4 hA (Mx.tr hT hK) a_ hx8) ?_
    rintro v9 w11 ⟨_, rfl, h10, hk12⟩
    have ht13 := Kp.tr hk12 hA hB
    replace hH := Hp.kp hH hk12
    replace h_l := Sl.tr h_l ht13
    replace hK := Tr.trans hK ht13
    replace hB := Nat.le_trans hB ht13.ex.size
    replace hA := ht13.new
    refine V_y (Y_assign rfl) rfl rfl rfl ?_
    refine V_to (fun _ _ => rfl) ?_
    refine C_seq ?_
    refine C_region ?_
    refine V_y (Y_assign rfl) rfl rfl rfl ?_
    refine V_to (fun _ _ => rfl) ?_
    refine C_seq ?_
    refine C_region ?_
    refine V_y (Y_assign rfl) rfl rfl rfl ?_
    refine V_to (fun _ _ => rfl) ?_
    refine C_seq ?_
    refine C_seq ?_
    refine C_region ?_
    refine V_y (Y_move rfl) rfl rfl rfl ?_
    refine V_y (Y_lenSl h_l rfl Tryd.underlying22 rfl) rfl rfl rfl ?_
    refine V_y (Y_move rfl) rfl rfl rfl ?_
    refine V_to (fun _ _ => rfl) ?_
    replace hH : Hp w.heap.size A w11 (obS (α := ByteArray) 9 (.slice none 0 0) ([] : (List ByteArray)) :: []) := Hp.addNil (α := ByteArray) (e := 9) hH
    have hn38 := Sl.le h_l
    obtain ⟨o14, ho14, hm⟩ := Option.bind_eq_some_iff.1 hm
    refine C_cutG (ι := (((List ByteArray) × Int) × Value × (Nat → Prop))) (fun ⟨s15, v21, A23⟩ => [(7, v9), (8, v21), (9, .int .i64 s15.2)]) (fun ⟨s15, v21, A23⟩ => fun w' => o14 = .fin s15 ∧ Hp w.heap.size A23 w' (obS (α := ByteArray) 9 v21 s15.1 :: []) ∧ Tr w.heap.size A w11 A23 w') ?_ ?_
    · refine C_block ?_
      refine C_range ho14 (fun k17 s25 a w' => ∃ i : (Value × (Nat → Prop)), Has ⟨145, [], none⟩ a ([(1, v_l), (7, v9), (8, i.1), (9, .int .i64 s25.2), (24, v_l), (25, .int .i64 (l.length : Int)), (26, .int .i64 (k17 : Int))]) ∧ Hp w.heap.size i.2 w' (obS (α := ByteArray) 9 i.1 s25.1 :: []) ∧ Tr w.heap.size A w11 i.2 w') (fun a ha => ⟨(.slice none 0 0, A), ha.sub ⟨rfl, rfl, rfl, rfl, rfl, rfl, rfl, trivial⟩, ⟨hH, Tr.refl hA⟩⟩) ?_
      rintro K k17 s25 a w26 ⟨⟨v27, A29⟩, ha171, hH30, hr16⟩ hle34 K37 h36
      refine C_of ?_ ha171
      replace h_l := Sl.tr h_l hr16
      replace h10 := Sl.tr h10 hr16
      replace hK := Tr.trans hK hr16
      replace hB := Nat.le_trans hB hr16.ex.size
      replace hA := hr16.new
      replace hH : Hp w.heap.size A29 w26 (obS (α := ByteArray) 9 v27 s25.1 :: []) := hH30
      refine C_seq (C_region (V_y (Y_lss rfl rfl) rfl rfl rfl (V_to (fun _ _ => rfl) ?_)))
      refine C_seq ?_
      refine C_cond rfl (fun hc39 => ?_) (fun hc39 => ?_)
      · have hlt35 := lt_of_dec hc39
        obtain ⟨x31, h32, h33⟩ := K37 hlt35
        refine C_skip_to (fun _ _ => rfl) ?_
        refine C_seq ?_
        refine C_block ?_
        refine C_seq ?_
        refine C_region ?_
        refine V_y (Y_move rfl) rfl rfl rfl ?_
        obtain ⟨x40, hx40, h32⟩ := Option.bind_eq_some_iff.1 h32
        refine V_indexAddr h_l hx40 Tryd.underlying22 Tryd.sizeOf56 rfl rfl rfl ?_
        intro b41 o42 h43
        obtain ⟨v44, h46, h45⟩ := El_know_Edit h43
        refine V_y (Y_loadA h46 Tryd.isAgg56 Tryd.sizeOf56 rfl) rfl rfl rfl ?_
        refine V_alloc Tryd.zeroValue56 rfl ?_
        intro b47 w48 h49
        refine V_y (Y_assign rfl) rfl rfl rfl ?_
        have h54 : (v44).oneCell' = true := by obtain ⟨_, _, e, _⟩ := Sl.form h45; rw [e]; rfl
        refine V_storeNew h49 Tryd.sizeOf56 rfl rfl rfl rfl (by exact (List.forall_mem_cons.2 ⟨rfl, (List.forall_mem_cons.2 ⟨rfl, (List.forall_mem_cons.2 ⟨h54, (fun _ h => nomatch h)⟩)⟩)⟩)) ?_
        intro w50 h51
        have hk56 := h51.kp
        have h55 : El (α := know_Edit) A29 w50 b47 0 x40 := h51.el hA ⟨[.int .i64 x40.at_], _, rfl, rfl, ⟨[.int .i64 x40.drop], _, rfl, rfl, ⟨_, rfl, h45⟩⟩⟩
        have ht57 := Kp.tr hk56 hA hB
        replace hH := Hp.kp hH hk56
        replace h_l := Sl.tr h_l ht57
        replace h10 := Sl.tr h10 ht57
        replace h43 := El.tr h43 ht57
        replace h45 := Sl.tr h45 ht57
        replace hK := Tr.trans hK ht57
        replace hr16 := Tr.trans hr16 ht57
        replace hB := Nat.le_trans hB ht57.ex.size
        replace hA := ht57.new
        refine V_to (fun _ _ => rfl) ?_
        refine C_seq ?_
        refine C_seq ?_
        refine C_region ?_
        have h58 := El_know_Edit_0 h55
        refine V_y (Y_fieldAddr Tryd.underlying56 rfl Tryd.sizeOf3 (by decide) rfl) rfl rfl rfl ?_
        refine V_y (Y_load (El.int h58) Tryd.isAgg3 rfl) rfl rfl rfl ?_
        refine V_y (Y_lss rfl rfl) rfl rfl rfl ?_
        refine V_y (Y_move rfl) rfl rfl rfl ?_
        refine V_cut 6 (fun _ : Unit => [(1, v_l), (7, v9), (8, v27), (9, .int .i64 s25.2), (10, .int .i64 (k17 : Int)), (11, .pointer (some ⟨b47, 0, none⟩)), (24, v_l), (25, .int .i64 (l.length : Int)), (26, .int .i64 (k17 : Int)), (40, .bool ((decide (x40.at_ < 0)) || (decide ((x8.length : Int) < x40.at_))))]) (fun _ w' => w50 = w') ?_ ?_
        · simp only [List.take, List.drop]
          rcases Bool.eq_false_or_eq_true (decide (x40.at_ < 0)) with hc59 | hc59
          · refine V_gn rfl rfl rfl hc59 rfl rfl rfl ?_
            refine V_gn rfl rfl rfl hc59 rfl rfl rfl ?_
            refine V_gn rfl rfl rfl hc59 rfl rfl rfl ?_
            refine V_gn rfl rfl rfl hc59 rfl rfl rfl ?_
            refine V_gn rfl rfl rfl hc59 rfl rfl rfl ?_
            refine V_y (Y_pick_te rfl hc59 rfl) rfl rfl rfl ?_
            exact V_end fun a ha => ⟨(), ha.sub ⟨rfl, rfl, rfl, rfl, rfl, rfl, rfl, rfl, rfl, (by rw [hc59]; rfl), trivial⟩, rfl⟩
          · refine V_ge rfl rfl rfl hc59 ?_
            have h61 := El_know_Edit_0 h55
            refine V_y (Y_fieldAddr Tryd.underlying56 rfl Tryd.sizeOf3 (by decide) rfl) rfl rfl rfl ?_
            refine V_ge rfl rfl rfl hc59 ?_
            refine V_y (Y_load (El.int h61) Tryd.isAgg3 rfl) rfl rfl rfl ?_
            refine V_ge rfl rfl rfl hc59 ?_
            refine V_y (Y_move rfl) rfl rfl rfl ?_
            refine V_ge rfl rfl rfl hc59 ?_
            refine V_y (Y_lenSl h10 rfl Tryd.underlying53 rfl) rfl rfl rfl ?_
            refine V_ge rfl rfl rfl hc59 ?_
            refine V_y (Y_gtr rfl rfl) rfl rfl rfl ?_
            refine V_y (Y_pick_fe rfl hc59 rfl) rfl rfl rfl ?_
            exact V_end fun a ha => ⟨(), ha.sub ⟨rfl, rfl, rfl, rfl, rfl, rfl, rfl, rfl, rfl, (by rw [hc59]; rfl), trivial⟩, rfl⟩
        simp only [List.take, List.drop]
        rintro _ _ rfl
        refine V_y (Y_move rfl) rfl rfl rfl ?_
        refine V_cut 4 (fun _ : Unit => [(1, v_l), (7, v9), (8, v27), (9, .int .i64 s25.2), (10, .int .i64 (k17 : Int)), (11, .pointer (some ⟨b47, 0, none⟩)), (24, v_l), (25, .int .i64 (l.length : Int)), (26, .int .i64 (k17 : Int)), (45, .bool (((decide (x40.at_ < 0)) || (decide ((x8.length : Int) < x40.at_))) || (decide (x40.drop < 0))))]) (fun _ w' => w50 = w') ?_ ?_
        · simp only [List.take, List.drop]
          rcases Bool.eq_false_or_eq_true (((decide (x40.at_ < 0)) || (decide ((x8.length : Int) < x40.at_)))) with hc62 | hc62
          · refine V_gn rfl rfl rfl hc62 rfl rfl rfl ?_
            refine V_gn rfl rfl rfl hc62 rfl rfl rfl ?_
            refine V_gn rfl rfl rfl hc62 rfl rfl rfl ?_
            refine V_y (Y_pick_te rfl hc62 rfl) rfl rfl rfl ?_
            exact V_end fun a ha => ⟨(), ha.sub ⟨rfl, rfl, rfl, rfl, rfl, rfl, rfl, rfl, rfl, (by rw [hc62]; rfl), trivial⟩, rfl⟩
          · refine V_ge rfl rfl rfl hc62 ?_
            have h64 := El_know_Edit_1 h55
            refine V_y (Y_fieldAddr Tryd.underlying56 rfl Tryd.sizeOf3 (by decide) rfl) rfl rfl rfl ?_
            refine V_ge rfl rfl rfl hc62 ?_
            refine V_y (Y_load (El.int h64) Tryd.isAgg3 rfl) rfl rfl rfl ?_
            refine V_ge rfl rfl rfl hc62 ?_
            refine V_y (Y_lss rfl rfl) rfl rfl rfl ?_
            refine V_y (Y_pick_fe rfl hc62 rfl) rfl rfl rfl ?_
            exact V_end fun a ha => ⟨(), ha.sub ⟨rfl, rfl, rfl, rfl, rfl, rfl, rfl, rfl, rfl, (by rw [hc62]; rfl), trivial⟩, rfl⟩
        simp only [List.take, List.drop]
        rintro _ _ rfl
        refine V_y (Y_move rfl) rfl rfl rfl ?_
        refine V_cut 9 (fun _ : Unit => [(1, v_l), (7, v9), (8, v27), (9, .int .i64 s25.2), (10, .int .i64 (k17 : Int)), (11, .pointer (some ⟨b47, 0, none⟩)), (24, v_l), (25, .int .i64 (l.length : Int)), (26, .int .i64 (k17 : Int)), (55, .bool ((((decide (x40.at_ < 0)) || (decide ((x8.length : Int) < x40.at_))) || (decide (x40.drop < 0))) || (decide ((w64 ((x8.length : Int) - x40.at_)) < x40.drop))))]) (fun _ w' => w50 = w') ?_ ?_
        · simp only [List.take, List.drop]
          rcases Bool.eq_false_or_eq_true ((((decide (x40.at_ < 0)) || (decide ((x8.length : Int) < x40.at_))) || (decide (x40.drop < 0)))) with hc65 | hc65
          · refine V_gn rfl rfl rfl hc65 rfl rfl rfl ?_
            refine V_gn rfl rfl rfl hc65 rfl rfl rfl ?_
            refine V_gn rfl rfl rfl hc65 rfl rfl rfl ?_
            refine V_gn rfl rfl rfl hc65 rfl rfl rfl ?_
            refine V_gn rfl rfl rfl hc65 rfl rfl rfl ?_
            refine V_gn rfl rfl rfl hc65 rfl rfl rfl ?_
            refine V_gn rfl rfl rfl hc65 rfl rfl rfl ?_
            refine V_gn rfl rfl rfl hc65 rfl rfl rfl ?_
            refine V_y (Y_pick_te rfl hc65 rfl) rfl rfl rfl ?_
            exact V_end fun a ha => ⟨(), ha.sub ⟨rfl, rfl, rfl, rfl, rfl, rfl, rfl, rfl, rfl, (by rw [hc65]; rfl), trivial⟩, rfl⟩
          · refine V_ge rfl rfl rfl hc65 ?_
            have h67 := El_know_Edit_1 h55
            refine V_y (Y_fieldAddr Tryd.underlying56 rfl Tryd.sizeOf3 (by decide) rfl) rfl rfl rfl ?_
            refine V_ge rfl rfl rfl hc65 ?_
            refine V_y (Y_load (El.int h67) Tryd.isAgg3 rfl) rfl rfl rfl ?_
            refine V_ge rfl rfl rfl hc65 ?_
            refine V_y (Y_move rfl) rfl rfl rfl ?_
            refine V_ge rfl rfl rfl hc65 ?_
            refine V_y (Y_lenSl h10 rfl Tryd.underlying53 rfl) rfl rfl rfl ?_
            refine V_ge rfl rfl rfl hc65 ?_
            have h68 := El_know_Edit_0 h55
            refine V_y (Y_fieldAddr Tryd.underlying56 rfl Tryd.sizeOf3 (by decide) rfl) rfl rfl rfl ?_
            refine V_ge rfl rfl rfl hc65 ?_
            refine V_y (Y_load (El.int h68) Tryd.isAgg3 rfl) rfl rfl rfl ?_
            refine V_ge rfl rfl rfl hc65 ?_
            refine V_y (Y_subI rfl rfl) rfl rfl rfl ?_
            refine V_ge rfl rfl rfl hc65 ?_
            refine V_y (Y_gtr rfl rfl) rfl rfl rfl ?_
            refine V_y (Y_pick_fe rfl hc65 rfl) rfl rfl rfl ?_
            exact V_end fun a ha => ⟨(), ha.sub ⟨rfl, rfl, rfl, rfl, rfl, rfl, rfl, rfl, rfl, (by rw [hc65]; rfl), trivial⟩, rfl⟩
        simp only [List.take, List.drop]
        rintro _ _ rfl
        refine V_to (fun _ _ => rfl) ?_
        refine C_cond rfl (fun hc69 => ?_) (fun hc69 => ?_)
        · rw [if_pos hc69] at h32
          refine C_seq ?_
          refine C_region ?_
          refine V_y (Y_assign rfl) rfl rfl rfl ?_
          refine V_y (Y_assign rfl) rfl rfl rfl ?_
          refine V_to (fun _ _ => rfl) ?_
          obtain rfl := Option.some.inj h32
          obtain rfl := (h33 : Lp.rt _ = _)
          rw [Lp.andThen_rt] at hm
          obtain rfl := Option.some.inj hm
          refine C_ret ?_
          try simp only [↓inBlock_ret, ↓then_ret]
          exact retQ rfl (Res.two Tryd.results9 rfl rfl) ⟨rfl, hK.kp⟩
        · rw [if_neg (nt hc69)] at h32
          refine C_skip_to (fun _ _ => rfl) ?_
          refine C_seq ?_
          refine C_seq ?_
          refine C_region_q Tryd_mixed (by kernel_rfl) ?_
          refine VQ_y (fun w' hw' => Y_move rfl) rfl rfl rfl ?_
          refine VQ_y (fun w' hw' => Y_gtr rfl rfl) rfl rfl rfl ?_
          refine VQ_y (fun w' hw' => Y_move rfl) rfl rfl rfl ?_
          obtain ⟨s71, hs71, h32⟩ := Option.bind_eq_some_iff.1 h32
          refine VQ_cut 17 (fun _ : Unit => [(1, v_l), (7, v9), (8, v27), (9, .int .i64 s25.2), (11, .pointer (some ⟨b47, 0, none⟩)), (24, v_l), (25, .int .i64 (l.length : Int)), (26, .int .i64 (k17 : Int)), (75, .bool s71)]) (fun _ => True) ?_ ?_
          · simp only [List.take, List.drop]
            rcases Bool.eq_false_or_eq_true (decide ((0 : Int) < (k17 : Int))) with hc70 | hc70
            · rw [if_pos hc70] at hs71
              refine VQ_ge rfl rfl rfl hc70 ?_
              have h72 := El_know_Edit_0 h55
              refine VQ_y (fun w' hw' => Y_fieldAddr Tryd.underlying56 rfl Tryd.sizeOf3 (by decide) rfl) rfl rfl rfl ?_
              refine VQ_ge rfl rfl rfl hc70 ?_
              refine VQ_y (fun w' hw' => Y_load (El.int (El.kp h72 hw')) Tryd.isAgg3 rfl) rfl rfl rfl ?_
              refine VQ_ge rfl rfl rfl hc70 ?_
              refine VQ_y (fun w' hw' => Y_move rfl) rfl rfl rfl ?_
              refine VQ_ge rfl rfl rfl hc70 ?_
              refine VQ_y (fun w' hw' => Y_move rfl) rfl rfl rfl ?_
              refine VQ_ge rfl rfl rfl hc70 ?_
              refine VQ_y (fun w' hw' => Y_subI rfl rfl) rfl rfl rfl ?_
              refine VQ_ge rfl rfl rfl hc70 ?_
              obtain ⟨x73, hx73, hs71⟩ := Option.bind_eq_some_iff.1 hs71
              refine VQ_indexAddr h_l hx73 Tryd.underlying22 Tryd.sizeOf56 rfl rfl rfl ?_
              intro b74 o75 h76
              refine VQ_ge rfl rfl rfl hc70 ?_
              have h77 := El_know_Edit_0 h76
              refine VQ_y (fun w' hw' => Y_fieldAddr Tryd.underlying56 rfl Tryd.sizeOf3 (by decide) rfl) rfl rfl rfl ?_
              refine VQ_ge rfl rfl rfl hc70 ?_
              refine VQ_y (fun w' hw' => Y_load (El.int (El.kp h77 hw')) Tryd.isAgg3 rfl) rfl rfl rfl ?_
              refine VQ_ge rfl rfl rfl hc70 ?_
              refine VQ_y (fun w' hw' => Y_move rfl) rfl rfl rfl ?_
              refine VQ_ge rfl rfl rfl hc70 ?_
              refine VQ_y (fun w' hw' => Y_move rfl) rfl rfl rfl ?_
              refine VQ_ge rfl rfl rfl hc70 ?_
              refine VQ_y (fun w' hw' => Y_subI rfl rfl) rfl rfl rfl ?_
              refine VQ_ge rfl rfl rfl hc70 ?_
              refine VQ_indexAddr h_l hx73 Tryd.underlying22 Tryd.sizeOf56 rfl rfl rfl ?_
              intro b78 o79 h80
              refine VQ_ge rfl rfl rfl hc70 ?_
              have h81 := El_know_Edit_1 h80
              refine VQ_y (fun w' hw' => Y_fieldAddr Tryd.underlying56 rfl Tryd.sizeOf3 (by decide) rfl) rfl rfl rfl ?_
              refine VQ_ge rfl rfl rfl hc70 ?_
              refine VQ_y (fun w' hw' => Y_load (El.int (El.kp h81 hw')) Tryd.isAgg3 rfl) rfl rfl rfl ?_
              refine VQ_ge rfl rfl rfl hc70 ?_
              refine VQ_y (fun w' hw' => Y_addI rfl rfl) rfl rfl rfl ?_
              refine VQ_ge rfl rfl rfl hc70 ?_
              refine VQ_y (fun w' hw' => Y_leq rfl rfl) rfl rfl rfl ?_
              refine VQ_y (fun _ _ => Y_pick_te rfl hc70 rfl) rfl rfl rfl ?_
              obtain rfl := Option.some.inj hs71
              exact VQ_end fun a ha => ⟨(), ha.sub ⟨rfl, rfl, rfl, rfl, rfl, rfl, rfl, rfl, rfl, trivial⟩, trivial⟩
            · rw [if_neg (nt hc70)] at hs71
              refine VQ_gn rfl rfl rfl hc70 rfl rfl rfl ?_
              refine VQ_gn rfl rfl rfl hc70 rfl rfl rfl ?_
              refine VQ_gn rfl rfl rfl hc70 rfl rfl rfl ?_
              refine VQ_gn rfl rfl rfl hc70 rfl rfl rfl ?_
              refine VQ_gn rfl rfl rfl hc70 rfl rfl rfl ?_
              refine VQ_gn rfl rfl rfl hc70 rfl rfl rfl ?_
              refine VQ_gn rfl rfl rfl hc70 rfl rfl rfl ?_
              refine VQ_gn rfl rfl rfl hc70 rfl rfl rfl ?_
              refine VQ_gn rfl rfl rfl hc70 rfl rfl rfl ?_
              refine VQ_gn rfl rfl rfl hc70 rfl rfl rfl ?_
              refine VQ_gn rfl rfl rfl hc70 rfl rfl rfl ?_
              refine VQ_gn rfl rfl rfl hc70 rfl rfl rfl ?_
              refine VQ_gn rfl rfl rfl hc70 rfl rfl rfl ?_
              refine VQ_gn rfl rfl rfl hc70 rfl rfl rfl ?_
              refine VQ_gn rfl rfl rfl hc70 rfl rfl rfl ?_
              refine VQ_gn rfl rfl rfl hc70 rfl rfl rfl ?_
              refine VQ_y (fun _ _ => Y_pick_fe rfl hc70 rfl) rfl rfl rfl ?_
              obtain rfl := Option.some.inj hs71
              exact VQ_end fun a ha => ⟨(), ha.sub ⟨rfl, rfl, rfl, rfl, rfl, rfl, rfl, rfl, rfl, trivial⟩, trivial⟩
          simp only [List.take, List.drop]
          rintro _ _
          refine VQ_to (fun _ _ => rfl) (fun w82 hk83 => ?_)
          have ht84 := Kp.tr hk83 hA hB
          replace hH := Hp.kp hH hk83
          replace h_l := Sl.tr h_l ht84
          replace h10 := Sl.tr h10 ht84
          replace h55 := El.tr h55 ht84
          replace hK := Tr.trans hK ht84
          replace hr16 := Tr.trans hr16 ht84
          replace hB := Nat.le_trans hB ht84.ex.size
          replace hA := ht84.new
          refine C_cond rfl (fun hc85 => ?_) (fun hc85 => ?_)
          · rw [if_pos hc85] at h32
            refine C_seq ?_
            refine C_region ?_
            refine V_y (Y_assign rfl) rfl rfl rfl ?_
            refine V_y (Y_assign rfl) rfl rfl rfl ?_
            refine V_to (fun _ _ => rfl) ?_
            obtain rfl := Option.some.inj h32
            obtain rfl := (h33 : Lp.rt _ = _)
            rw [Lp.andThen_rt] at hm
            obtain rfl := Option.some.inj hm
            refine C_ret ?_
            try simp only [↓inBlock_ret, ↓then_ret]
            exact retQ rfl (Res.two Tryd.results9 rfl rfl) ⟨rfl, hK.kp⟩
          · rw [if_neg (nt hc85)] at h32
            refine C_skip_to (fun _ _ => rfl) ?_
            refine C_seq ?_
            refine C_seq ?_
            refine C_region ?_
            have h86 := El_know_Edit_1 h55
            refine V_y (Y_fieldAddr Tryd.underlying56 rfl Tryd.sizeOf3 (by decide) rfl) rfl rfl rfl ?_
            refine V_y (Y_load (El.int h86) Tryd.isAgg3 rfl) rfl rfl rfl ?_
            refine V_y (Y_eql rfl rfl) rfl rfl rfl ?_
            refine V_y (Y_move rfl) rfl rfl rfl ?_
            refine V_cut 5 (fun _ : Unit => [(1, v_l), (7, v9), (8, v27), (9, .int .i64 s25.2), (11, .pointer (some ⟨b47, 0, none⟩)), (24, v_l), (25, .int .i64 (l.length : Int)), (26, .int .i64 (k17 : Int)), (84, .bool ((x40.drop == 0) && ((x40.add.length : Int) == 0)))]) (fun _ w' => w82 = w') ?_ ?_
            · simp only [List.take, List.drop]
              rcases Bool.eq_false_or_eq_true (x40.drop == 0) with hc87 | hc87
              · refine V_ge rfl rfl rfl hc87 ?_
                have h89 := El_know_Edit_2 h55
                refine V_y (Y_fieldAddr Tryd.underlying56 rfl Tryd.sizeOf53 (by decide) rfl) rfl rfl rfl ?_
                refine V_ge rfl rfl rfl hc87 ?_
                obtain ⟨v90, h91, h92⟩ := El.list h89
                refine V_y (Y_load h91 Tryd.isAgg53 rfl) rfl rfl rfl ?_
                refine V_ge rfl rfl rfl hc87 ?_
                refine V_y (Y_lenSl h92 rfl Tryd.underlying53 rfl) rfl rfl rfl ?_
                refine V_ge rfl rfl rfl hc87 ?_
                refine V_y (Y_eql rfl rfl) rfl rfl rfl ?_
                refine V_y (Y_pick_te rfl hc87 rfl) rfl rfl rfl ?_
                exact V_end fun a ha => ⟨(), ha.sub ⟨rfl, rfl, rfl, rfl, rfl, rfl, rfl, rfl, (by rw [hc87]; rfl), trivial⟩, rfl⟩
              · refine V_gn rfl rfl rfl hc87 rfl rfl rfl ?_
                refine V_gn rfl rfl rfl hc87 rfl rfl rfl ?_
                refine V_gn rfl rfl rfl hc87 rfl rfl rfl ?_
                refine V_gn rfl rfl rfl hc87 rfl rfl rfl ?_
                refine V_y (Y_pick_fe rfl hc87 rfl) rfl rfl rfl ?_
                exact V_end fun a ha => ⟨(), ha.sub ⟨rfl, rfl, rfl, rfl, rfl, rfl, rfl, rfl, (by rw [hc87]; rfl), trivial⟩, rfl⟩
            simp only [List.take, List.drop]
            rintro _ _ rfl
            refine V_to (fun _ _ => rfl) ?_
            refine C_cond rfl (fun hc93 => ?_) (fun hc93 => ?_)
            · rw [if_pos hc93] at h32
              refine C_seq ?_
              refine C_region ?_
              refine V_y (Y_assign rfl) rfl rfl rfl ?_
              refine V_y (Y_assign rfl) rfl rfl rfl ?_
              refine V_to (fun _ _ => rfl) ?_
              obtain rfl := Option.some.inj h32
              obtain rfl := (h33 : Lp.rt _ = _)
              rw [Lp.andThen_rt] at hm
              obtain rfl := Option.some.inj hm
              refine C_ret ?_
              try simp only [↓inBlock_ret, ↓then_ret]
              exact retQ rfl (Res.two Tryd.results9 rfl rfl) ⟨rfl, hK.kp⟩
            · rw [if_neg (nt hc93)] at h32
              refine C_skip_to (fun _ _ => rfl) ?_
              refine C_seq ?_
              refine C_seq ?_
              refine C_region ?_
              have h94 := El_know_Edit_2 h55
              refine V_y (Y_fieldAddr Tryd.underlying56 rfl Tryd.sizeOf53 (by decide) rfl) rfl rfl rfl ?_
              obtain ⟨v95, h96, h97⟩ := El.list h94
              refine V_y (Y_load h96 Tryd.isAgg53 rfl) rfl rfl rfl ?_
              refine V_y (Y_lenSl h97 rfl Tryd.underlying53 rfl) rfl rfl rfl ?_
              refine V_y (Y_move rfl) rfl rfl rfl ?_
              refine V_to (fun _ _ => rfl) ?_
              have hn118 := Sl.le h97
              obtain ⟨o98, ho98, h32⟩ := Option.bind_eq_some_iff.1 h32
              refine C_cutG (ι := (Unit × (Nat → Prop))) (fun ⟨s99, A105⟩ => [(1, v_l), (7, v9), (8, v27), (9, .int .i64 s25.2), (11, .pointer (some ⟨b47, 0, none⟩)), (24, v_l), (25, .int .i64 (l.length : Int)), (26, .int .i64 (k17 : Int))]) (fun ⟨s99, A105⟩ => fun w' => o98 = .fin s99 ∧ Hp w.heap.size A105 w' (obS (α := ByteArray) 9 v27 s25.1 :: []) ∧ Tr w.heap.size A29 w82 A105 w') ?_ ?_
              · refine C_block ?_
                refine C_range ho98 (fun k101 _ a w' => ∃ i : (Nat → Prop), Has ⟨145, [], none⟩ a ([(1, v_l), (7, v9), (8, v27), (9, .int .i64 s25.2), (11, .pointer (some ⟨b47, 0, none⟩)), (24, v_l), (25, .int .i64 (l.length : Int)), (26, .int .i64 (k17 : Int)), (86, v95), (87, .int .i64 (x40.add.length : Int)), (88, .int .i64 (k101 : Int))]) ∧ Hp w.heap.size i w' (obS (α := ByteArray) 9 v27 s25.1 :: []) ∧ Tr w.heap.size A29 w82 i w') (fun a ha => ⟨A29, ha.sub ⟨rfl, rfl, rfl, rfl, rfl, rfl, rfl, rfl, rfl, rfl, rfl, trivial⟩, ⟨hH, Tr.refl hA⟩⟩) ?_
                rintro K k101 _ a w108 ⟨A109, ha143, hH110, hr100⟩ hle114 K117 h116
                refine C_of ?_ ha143
                replace h_l := Sl.tr h_l hr100
                replace h10 := Sl.tr h10 hr100
                replace h55 := El.tr h55 hr100
                replace h97 := Sl.tr h97 hr100
                replace hK := Tr.trans hK hr100
                replace hr16 := Tr.trans hr16 hr100
                replace hB := Nat.le_trans hB hr100.ex.size
                replace hA := hr100.new
                replace hH : Hp w.heap.size A109 w108 (obS (α := ByteArray) 9 v27 s25.1 :: []) := hH110
                refine C_seq (C_region (V_y (Y_lss rfl rfl) rfl rfl rfl (V_to (fun _ _ => rfl) ?_)))
                refine C_seq ?_
                refine C_cond rfl (fun hc119 => ?_) (fun hc119 => ?_)
                · have hlt115 := lt_of_dec hc119
                  obtain ⟨x111, h112, h113⟩ := K117 hlt115
                  refine C_skip_to (fun _ _ => rfl) ?_
                  refine C_seq ?_
                  refine C_block ?_
                  refine C_seq ?_
                  refine C_region ?_
                  obtain ⟨x120, hx120, h112⟩ := Option.bind_eq_some_iff.1 h112
                  refine V_indexAddr h97 hx120 Tryd.underlying53 Tryd.sizeOf9 rfl rfl rfl ?_
                  intro b121 o122 h123
                  refine V_y (Y_load (El.str h123) Tryd.isAgg9 rfl) rfl rfl rfl ?_
                  refine V_y (Y_assign rfl) rfl rfl rfl ?_
                  refine V_to (fun _ _ => rfl) ?_
                  refine C_seq ?_
                  obtain ⟨s125, ho124, h112⟩ := Option.bind_eq_some_iff.1 h112
                  refine C_cutG (ι := (Nat → Prop)) (fun (A130 : (Nat → Prop)) => [(1, v_l), (7, v9), (8, v27), (9, .int .i64 s25.2), (11, .pointer (some ⟨b47, 0, none⟩)), (24, v_l), (25, .int .i64 (l.length : Int)), (26, .int .i64 (k17 : Int)), (86, v95), (87, .int .i64 (x40.add.length : Int)), (88, .int .i64 (k101 : Int)), (98, .bool s125)]) (fun (A130 : (Nat → Prop)) => fun w' => Hp w.heap.size A130 w' (obS (α := ByteArray) 9 v27 s25.1 :: []) ∧ Tr w.heap.size A109 w108 A130 w') ?_ ?_
                  · have hr126 : Tr w.heap.size A109 w108 A109 w108 := Tr.refl hA
                    refine C_region ?_
                    refine V_y (Y_move rfl) rfl rfl rfl ?_
                    refine V_y (Y_seql rfl rfl) rfl rfl rfl ?_
                    refine V_y (Y_move rfl) rfl rfl rfl ?_
                    rcases Bool.eq_false_or_eq_true (strEq x120 (⟨#[]⟩ : ByteArray)) with hc132 | hc132
                    · rw [if_pos hc132] at ho124
                      refine V_gn rfl rfl rfl hc132 rfl rfl rfl ?_
                      refine V_gn rfl rfl rfl hc132 rfl rfl rfl ?_
                      refine V_gn rfl rfl rfl hc132 rfl rfl rfl ?_
                      refine V_y (Y_pick_te rfl hc132 rfl) rfl rfl rfl ?_
                      obtain rfl := Option.some.inj ho124
                      refine V_end (fun a ha133 => ?_)
                      exact ⟨A109, ha133.sub ⟨rfl, rfl, rfl, rfl, rfl, rfl, rfl, rfl, rfl, rfl, rfl, rfl, trivial⟩, ⟨hH, hr126⟩⟩
                    · rw [if_neg (nt hc132)] at ho124
                      refine V_ge rfl rfl rfl hc132 ?_
                      refine V_y (Y_move rfl) rfl rfl rfl ?_
                      refine V_ge rfl rfl rfl hc132 ?_
                      obtain ⟨x134, hx134, ho124⟩ := Option.bind_eq_some_iff.1 ho124
                      refine V_call Tryd.call32 rfl rfl rfl rfl (strings_TrimSuffix_c w108 x120 (⟨#[10]⟩ : ByteArray) hx134) ?_
                      rintro _ _ ⟨rfl, rfl⟩
                      refine V_ge rfl rfl rfl hc132 ?_
                      obtain ⟨x135, hx135, ho124⟩ := Option.bind_eq_some_iff.1 ho124
                      refine V_call Tryd.call31 rfl rfl rfl rfl (strings_Contains_c w108 hA x134 (⟨#[10]⟩ : ByteArray) hx135) ?_
                      rintro _ w136 ⟨rfl, hk137⟩
                      have ht138 := Kp.tr hk137 hA hB
                      replace hH := Hp.kp hH hk137
                      replace h_l := Sl.tr h_l ht138
                      replace h10 := Sl.tr h10 ht138
                      replace h55 := El.tr h55 ht138
                      replace h97 := Sl.tr h97 ht138
                      replace hK := Tr.trans hK ht138
                      replace hr16 := Tr.trans hr16 ht138
                      replace hr100 := Tr.trans hr100 ht138
                      replace hr126 := Tr.trans hr126 ht138
                      replace hB := Nat.le_trans hB ht138.ex.size
                      replace hA := ht138.new
                      refine V_y (Y_pick_fe rfl hc132 rfl) rfl rfl rfl ?_
                      obtain rfl := Option.some.inj ho124
                      refine V_end (fun a ha139 => ?_)
                      exact ⟨A109, ha139.sub ⟨rfl, rfl, rfl, rfl, rfl, rfl, rfl, rfl, rfl, rfl, rfl, rfl, trivial⟩, ⟨hH, hr126⟩⟩
                  rintro A130 w127 ⟨hH131, hk128⟩ a ha129
                  replace h_l := Sl.tr h_l hk128
                  replace h10 := Sl.tr h10 hk128
                  replace h55 := El.tr h55 hk128
                  replace h97 := Sl.tr h97 hk128
                  replace hK := Tr.trans hK hk128
                  replace hr16 := Tr.trans hr16 hk128
                  replace hr100 := Tr.trans hr100 hk128
                  replace hB := Nat.le_trans hB hk128.ex.size
                  replace hA := hk128.new
                  replace hH : Hp w.heap.size A130 w127 (obS (α := ByteArray) 9 v27 s25.1 :: []) := hH131
                  refine C_at (n := ⟨145, [], none⟩) (fun _ _ => rfl) ?_ ha129
                  refine C_cond rfl (fun hc140 => ?_) (fun hc140 => ?_)
                  · rw [if_pos hc140] at h112
                    refine C_seq ?_
                    refine C_region ?_
                    refine V_y (Y_assign rfl) rfl rfl rfl ?_
                    refine V_y (Y_assign rfl) rfl rfl rfl ?_
                    refine V_to (fun _ _ => rfl) ?_
                    obtain rfl := Option.some.inj h112
                    obtain rfl := (h113 : Lp.rt _ = _)
                    rw [Lp.andThen_rt] at h32
                    obtain rfl := Option.some.inj h32
                    obtain rfl := (h33 : Lp.rt _ = _)
                    rw [Lp.andThen_rt] at hm
                    obtain rfl := Option.some.inj hm
                    refine C_ret ?_
                    try simp only [↓inBlock_ret, ↓then_ret]
                    exact retQ rfl (Res.two Tryd.results9 rfl rfl) ⟨rfl, hK.kp⟩
                  · rw [if_neg (nt hc140)] at h112
                    refine C_skip_to (fun _ _ => rfl) ?_
                    refine C_region ?_
                    refine V_y (Y_addI rfl rfl) rfl rfl rfl ?_
                    refine V_y (Y_move rfl) rfl rfl rfl ?_
                    obtain rfl := Option.some.inj h112
                    refine V_end (fun a ha141 => ?_)
                    exact ⟨(), hlt115, h113, ⟨A130, ha141.sub ⟨rfl, rfl, rfl, rfl, rfl, rfl, rfl, rfl, rfl, rfl, (congrArg (fun z => some (Value.int .i64 z)) (w64_succ hlt115 hn118)), trivial⟩, ⟨hH, hr100⟩⟩⟩
                · refine C_exit (fun a ha142 => ?_)
                  exact ⟨((), A109), ha142.sub ⟨rfl, rfl, rfl, rfl, rfl, rfl, rfl, rfl, trivial⟩, ⟨(h116 (eq_of_dec hle114 hc119)).symm, hH, hr100⟩⟩
              rintro ⟨s99, A105⟩ w102 ⟨rfl, hH106, hk103⟩ a ha104
              rw [Lp.andThen_fin] at h32
              replace h_l := Sl.tr h_l hk103
              replace h10 := Sl.tr h10 hk103
              replace h55 := El.tr h55 hk103
              replace hK := Tr.trans hK hk103
              replace hr16 := Tr.trans hr16 hk103
              replace hB := Nat.le_trans hB hk103.ex.size
              replace hA := hk103.new
              replace hH : Hp w.heap.size A105 w102 (obS (α := ByteArray) 9 v27 s25.1 :: []) := hH106
              refine C_at (n := ⟨145, [], none⟩) (fun _ _ => rfl) ?_ ha104
              refine C_seq ?_
              refine C_region_ch A105 11 [(1, 0), (1, 1), (1, 2), (1, 3), (1, 4), (1, 5), (1, 7), (1, 8), (3, 6), (4, 9), (1, 10)] Tryd_mixed (by kernel_rfl) (fun w144 hk145 => ?_)
              have ht146 := Kp.tr hk145 hA hB
              replace hH := Hp.kp hH hk145
              replace h_l := Sl.tr h_l ht146
              replace h10 := Sl.tr h10 ht146
              replace h55 := El.tr h55 ht146
              replace hK := Tr.trans hK ht146
              replace hr16 := Tr.trans hr16 ht146
              replace hB := Nat.le_trans hB ht146.ex.size
              replace hA := ht146.new
              refine CH_q2 rfl ?_
              refine VQ_y (fun w' hw' => Y_move rfl) rfl rfl rfl ?_
              refine VQ_CH ?_
              refine CH_q2 rfl ?_
              refine VQ_y (fun w' hw' => Y_move rfl) rfl rfl rfl ?_
              refine VQ_CH ?_
              refine CH_q2 rfl ?_
              refine VQ_y (fun w' hw' => Y_move rfl) rfl rfl rfl ?_
              refine VQ_CH ?_
              refine CH_q2 rfl ?_
              have h147 := El_know_Edit_0 h55
              refine VQ_y (fun w' hw' => Y_fieldAddr Tryd.underlying56 rfl Tryd.sizeOf3 (by decide) rfl) rfl rfl rfl ?_
              refine VQ_CH ?_
              refine CH_q2 rfl ?_
              refine VQ_y (fun w' hw' => Y_load (El.int (El.keep h147 (XA.ex hw'))) Tryd.isAgg3 rfl) rfl rfl rfl ?_
              refine VQ_CH ?_
              refine CH_q2 rfl ?_
              obtain ⟨x148, hx148, h32⟩ := Option.bind_eq_some_iff.1 h32
              obtain ⟨v149, h150, h150y⟩ := sliceL_val hx148 h10
              refine VQ_y (fun w' hw' => Y_sliceLLH h150y Tryd.underlying53 Tryd.sizeOf9 rfl rfl rfl) rfl rfl rfl ?_
              refine VQ_CH ?_
              refine CH_q2 rfl ?_
              have h151 := El_know_Edit_2 h55
              refine VQ_y (fun w' hw' => Y_fieldAddr Tryd.underlying56 rfl Tryd.sizeOf53 (by decide) rfl) rfl rfl rfl ?_
              refine VQ_CH ?_
              refine CH_q2 rfl ?_
              obtain ⟨v152, h153, h154⟩ := El.list h151
              refine VQ_y (fun w' hw' => Y_load ((World.cell?_of_block (hw'.2 _ h151.2.1 h151.1)).trans h153) Tryd.isAgg53 rfl) rfl rfl rfl ?_
              refine VQ_CH ?_
              refine CH_l1 (k := 1) rfl ?_
              obtain ⟨x155, hx155, h32⟩ := Option.bind_eq_some_iff.1 h32
              refine V_appendH (e := 9) (v := v27) (l := s25.1) (ti := Tryd.t9) (bytes := 16) (lim := 8796093022208) hH (i := 0) rfl h150 hx155 Tryd.underlying53 Tryd_info9 rfl rfl rfl rfl (by decide) (by decide) (by decide) hB hA rfl rfl rfl ?_
              intro v156 w157 A158 hH159 ht160
              replace h_l := Sl.tr h_l ht160
              replace h10 := Sl.tr h10 ht160
              replace h55 := El.tr h55 ht160
              replace h147 := El.tr h147 ht160
              replace h150 := Sl.tr h150 ht160
              replace h151 := El.tr h151 ht160
              replace h154 := Sl.tr h154 ht160
              replace hK := Tr.trans hK ht160
              replace hr16 := Tr.trans hr16 ht160
              replace hB := Nat.le_trans hB ht160.ex.size
              replace hA := ht160.new
              replace hH : Hp w.heap.size A158 w157 (obS (α := ByteArray) 9 v156 x155 :: []) := hH159
              refine V_CHx (XA.tr ht160) ?_
              refine CH_l1 (k := 2) rfl ?_
              obtain ⟨x161, hx161, h32⟩ := Option.bind_eq_some_iff.1 h32
              refine V_appendH (e := 9) (v := v156) (l := x155) (ti := Tryd.t9) (bytes := 16) (lim := 8796093022208) hH (i := 0) rfl h154 hx161 Tryd.underlying53 Tryd_info9 rfl rfl rfl rfl (by decide) (by decide) (by decide) hB hA rfl rfl rfl ?_
              intro v162 w163 A164 hH165 ht166
              replace h_l := Sl.tr h_l ht166
              replace h10 := Sl.tr h10 ht166
              replace h55 := El.tr h55 ht166
              replace h147 := El.tr h147 ht166
              replace h150 := Sl.tr h150 ht166
              replace h151 := El.tr h151 ht166
              replace h154 := Sl.tr h154 ht166
              replace hK := Tr.trans hK ht166
              replace hr16 := Tr.trans hr16 ht166
              replace hB := Nat.le_trans hB ht166.ex.size
              replace hA := ht166.new
              replace hH : Hp w.heap.size A164 w163 (obS (α := ByteArray) 9 v162 x161 :: []) := hH165
              refine V_CHw ?_
              refine CH_q2 rfl ?_
              refine VQ_y (fun w' hw' => Y_assign rfl) rfl rfl rfl ?_
              refine VQ_CH ?_
              refine CH_tail ?_
              show V _ _ _ _ [] _ _
              refine V_to (fun _ _ => rfl) ?_
              refine C_region ?_
              have h167 := El_know_Edit_0 h55
              refine V_y (Y_fieldAddr Tryd.underlying56 rfl Tryd.sizeOf3 (by decide) rfl) rfl rfl rfl ?_
              refine V_y (Y_load (El.int h167) Tryd.isAgg3 rfl) rfl rfl rfl ?_
              have h168 := El_know_Edit_1 h55
              refine V_y (Y_fieldAddr Tryd.underlying56 rfl Tryd.sizeOf3 (by decide) rfl) rfl rfl rfl ?_
              refine V_y (Y_load (El.int h168) Tryd.isAgg3 rfl) rfl rfl rfl ?_
              refine V_y (Y_addI rfl rfl) rfl rfl rfl ?_
              refine V_y (Y_assign rfl) rfl rfl rfl ?_
              refine V_to (fun _ _ => rfl) ?_
              refine C_region ?_
              refine V_y (Y_addI rfl rfl) rfl rfl rfl ?_
              refine V_y (Y_move rfl) rfl rfl rfl ?_
              obtain rfl := Option.some.inj h32
              refine V_end (fun a ha169 => ?_)
              exact ⟨(x161, w64 (x40.at_ + x40.drop)), hlt35, h33, ⟨(v162, A164), ha169.sub ⟨rfl, rfl, rfl, rfl, rfl, rfl, (congrArg (fun z => some (Value.int .i64 z)) (w64_succ hlt35 hn38)), trivial⟩, ⟨hH, hr16⟩⟩⟩
      · refine C_exit (fun a ha170 => ?_)
        exact ⟨((s25.1, s25.2), v27, A29), ha170.sub ⟨rfl, rfl, rfl, trivial⟩, ⟨(h36 (eq_of_dec hle34 hc39)).symm, hH, hr16⟩⟩
    rintro ⟨s15, v21, A23⟩ w18 ⟨rfl, hH24, hk19⟩ a ha20
    rw [Lp.andThen_fin] at hm
    replace h10 := Sl.tr h10 hk19
    replace hK := Tr.trans hK hk19
    replace hB := Nat.le_trans hB hk19.ex.size
    replace hA := hk19.new
    replace hH : Hp w.heap.size A23 w18 (obS (α := ByteArray) 9 v21 s15.1 :: []) := hH24
    refine C_at (n := ⟨145, [], none⟩) (fun _ _ => rfl) ?_ ha20
    refine C_seq ?_
    refine C_region ?_
    refine V_y (Y_move rfl) rfl rfl rfl ?_
    refine V_y (Y_move rfl) rfl rfl rfl ?_
    refine V_y (Y_move rfl) rfl rfl rfl ?_
    obtain ⟨x172, hx172, hm⟩ := Option.bind_eq_some_iff.1 hm
    obtain ⟨v173, h174, h174y⟩ := sliceL_val hx172 h10
    refine V_y (Y_sliceLL h174y Tryd.underlying53 Tryd.sizeOf9 rfl rfl) rfl rfl rfl ?_
    obtain ⟨x175, hx175, hm⟩ := Option.bind_eq_some_iff.1 hm
    refine V_appendH (e := 9) (v := v21) (l := s15.1) (ti := Tryd.t9) (bytes := 16) (lim := 8796093022208) hH (i := 0) rfl h174 hx175 Tryd.underlying53 Tryd_info9 rfl rfl rfl rfl (by decide) (by decide) (by decide) hB hA rfl rfl rfl ?_
    intro v176 w177 A178 hH179 ht180
    replace h10 := Sl.tr h10 ht180
    replace h174 := Sl.tr h174 ht180
    replace hK := Tr.trans hK ht180
    replace hB := Nat.le_trans hB ht180.ex.size
    replace hA := ht180.new
    replace hH : Hp w.heap.size A178 w177 (obS (α := ByteArray) 9 v176 x175 :: []) := hH179
    refine V_y (Y_assign rfl) rfl rfl rfl ?_
    refine V_to (fun _ _ => rfl) ?_
    refine C_seq ?_
    refine C_seq ?_
    refine C_region ?_
    refine V_y (Y_move rfl) rfl rfl rfl ?_
    refine V_y (Y_lenSl (Hp.any (α := ByteArray) (e := 9) (v := v176) (l := x175) hH (i := 0) rfl) rfl Tryd.underlying53 rfl) rfl rfl rfl ?_
    refine V_y (Y_move rfl) rfl rfl rfl ?_
    refine V_to (fun _ _ => rfl) ?_
    have hn197 := Hp.le (α := ByteArray) (e := 9) (v := v176) (l := x175) hH (i := 0) rfl
    obtain ⟨o181, ho181, hm⟩ := Option.bind_eq_some_iff.1 hm
    refine C_cutG (ι := Unit) (fun (s182 : Unit) => [(8, v176)]) (fun (s182 : Unit) => fun w' => o181 = .fin s182 ∧ w177 = w') ?_ ?_
    · refine C_block ?_
      refine C_range ho181 (fun k184 _ a w' => ∃ i : Unit, Has ⟨145, [], none⟩ a ([(8, v176), (121, v176), (122, .int .i64 (x175.length : Int)), (123, .int .i64 (k184 : Int))]) ∧ w177 = w') (fun a ha => ⟨(), ha.sub ⟨rfl, rfl, rfl, rfl, trivial⟩, rfl⟩) ?_
      rintro K k184 _ a _ ⟨_, ha210, rfl⟩ hle193 K196 h195
      refine C_of ?_ ha210
      refine C_seq (C_region (V_y (Y_lss rfl rfl) rfl rfl rfl (V_to (fun _ _ => rfl) ?_)))
      refine C_seq ?_
      refine C_cond rfl (fun hc198 => ?_) (fun hc198 => ?_)
      · have hlt194 := lt_of_dec hc198
        obtain ⟨x190, h191, h192⟩ := K196 hlt194
        refine C_skip_to (fun _ _ => rfl) ?_
        refine C_seq ?_
        refine C_block ?_
        refine C_seq ?_
        refine C_region ?_
        refine V_y (Y_move rfl) rfl rfl rfl ?_
        obtain ⟨x199, hx199, h191⟩ := Option.bind_eq_some_iff.1 h191
        refine V_indexAddrH (α := ByteArray) (e := 9) (v := v176) (l := x175) hH (i := 0) rfl hx199 Tryd.underlying53 Tryd.sizeOf9 rfl rfl rfl ?_
        intro b200 o201 h202 hl203
        refine V_y (Y_load (El.str h202) Tryd.isAgg9 rfl) rfl rfl rfl ?_
        refine V_y (Y_assign rfl) rfl rfl rfl ?_
        refine V_y (Y_assign rfl) rfl rfl rfl ?_
        refine V_to (fun _ _ => rfl) ?_
        refine C_seq ?_
        refine C_region ?_
        refine V_y (Y_move rfl) rfl rfl rfl ?_
        refine V_y (Y_move rfl) rfl rfl rfl ?_
        refine V_y (Y_lenSl (Hp.any (α := ByteArray) (e := 9) (v := v176) (l := x175) hH (i := 0) rfl) rfl Tryd.underlying53 rfl) rfl rfl rfl ?_
        refine V_y (Y_subI rfl rfl) rfl rfl rfl ?_
        refine V_y (Y_lss rfl rfl) rfl rfl rfl ?_
        refine V_y (Y_move rfl) rfl rfl rfl ?_
        obtain ⟨s205, hs205, h191⟩ := Option.bind_eq_some_iff.1 h191
        refine V_cut 4 (fun _ : Unit => [(8, v176), (121, v176), (122, .int .i64 (x175.length : Int)), (123, .int .i64 (k184 : Int)), (137, .bool s205)]) (fun _ w' => w177 = w') ?_ ?_
        · simp only [List.take, List.drop]
          rcases Bool.eq_false_or_eq_true (decide ((k184 : Int) < (w64 ((x175.length : Int) - 1)))) with hc204 | hc204
          · rw [if_pos hc204] at hs205
            refine V_ge rfl rfl rfl hc204 ?_
            refine V_y (Y_move rfl) rfl rfl rfl ?_
            refine V_ge rfl rfl rfl hc204 ?_
            obtain ⟨x206, hx206, hs205⟩ := Option.bind_eq_some_iff.1 hs205
            refine V_call Tryd.call27 rfl rfl rfl rfl (strings_HasSuffix_c w177 x199 (⟨#[10]⟩ : ByteArray) hx206) ?_
            rintro _ _ ⟨rfl, rfl⟩
            refine V_ge rfl rfl rfl hc204 ?_
            refine V_y (Y_not rfl) rfl rfl rfl ?_
            refine V_y (Y_pick_te rfl hc204 rfl) rfl rfl rfl ?_
            obtain rfl := Option.some.inj hs205
            exact V_end fun a ha => ⟨(), ha.sub ⟨rfl, rfl, rfl, rfl, rfl, trivial⟩, rfl⟩
          · rw [if_neg (nt hc204)] at hs205
            refine V_gn rfl rfl rfl hc204 rfl rfl rfl ?_
            refine V_gn rfl rfl rfl hc204 rfl rfl rfl ?_
            refine V_gn rfl rfl rfl hc204 rfl rfl rfl ?_
            refine V_y (Y_pick_fe rfl hc204 rfl) rfl rfl rfl ?_
            obtain rfl := Option.some.inj hs205
            exact V_end fun a ha => ⟨(), ha.sub ⟨rfl, rfl, rfl, rfl, rfl, trivial⟩, rfl⟩
        simp only [List.take, List.drop]
        rintro _ _ rfl
        refine V_to (fun _ _ => rfl) ?_
        refine C_cond rfl (fun hc207 => ?_) (fun hc207 => ?_)
        · rw [if_pos hc207] at h191
          refine C_seq ?_
          refine C_region ?_
          refine V_y (Y_assign rfl) rfl rfl rfl ?_
          refine V_y (Y_assign rfl) rfl rfl rfl ?_
          refine V_to (fun _ _ => rfl) ?_
          obtain rfl := Option.some.inj h191
          obtain rfl := (h192 : Lp.rt _ = _)
          rw [Lp.andThen_rt] at hm
          obtain rfl := Option.some.inj hm
          refine C_ret ?_
          try simp only [↓inBlock_ret, ↓then_ret]
          exact retQ rfl (Res.two Tryd.results9 rfl rfl) ⟨rfl, hK.kp⟩
        · rw [if_neg (nt hc207)] at h191
          refine C_skip_to (fun _ _ => rfl) ?_
          refine C_region ?_
          refine V_y (Y_addI rfl rfl) rfl rfl rfl ?_
          refine V_y (Y_move rfl) rfl rfl rfl ?_
          obtain rfl := Option.some.inj h191
          refine V_end (fun a ha208 => ?_)
          exact ⟨(), hlt194, h192, ⟨(), ha208.sub ⟨rfl, rfl, rfl, (congrArg (fun z => some (Value.int .i64 z)) (w64_succ hlt194 hn197)), trivial⟩, rfl⟩⟩
      · refine C_exit (fun a ha209 => ?_)
        exact ⟨(), ha209.sub ⟨rfl, trivial⟩, ⟨(h195 (eq_of_dec hle193 hc198)).symm, rfl⟩⟩
    rintro s182 _ ⟨rfl, rfl⟩ a ha187
    rw [Lp.andThen_fin] at hm
    refine C_at (n := ⟨145, [], none⟩) (fun _ _ => rfl) ?_ ha187
    refine C_seq ?_
    refine C_region ?_
    refine V_y (Y_move rfl) rfl rfl rfl ?_
    obtain ⟨x211, hx211, hm⟩ := Option.bind_eq_some_iff.1 hm
    refine V_call Tryd.call28 rfl rfl rfl rfl (strings_Join_c w177 (A := fun _ => True) (fun _ _ => trivial) x175 v176 (Hp.any (α := ByteArray) (e := 9) (v := v176) (l := x175) hH (i := 0) rfl) (⟨#[]⟩ : ByteArray) hx211) ?_
    rintro _ w212 ⟨rfl, hk213⟩
    have ht214 := Kp.tr hk213 hA hB
    replace hH := Hp.kp hH hk213
    replace hK := Tr.trans hK ht214
    replace hB := Nat.le_trans hB ht214.ex.size
    replace hA := ht214.new
    refine V_y (Y_assign rfl) rfl rfl rfl ?_
    refine V_to (fun _ _ => rfl) ?_
    refine C_seq ?_
    refine C_seq ?_
    refine C_region ?_
    refine V_y (Y_move rfl) rfl rfl rfl ?_
    obtain ⟨x215, hx215, hm⟩ := Option.bind_eq_some_iff.1 hm
    refine V_call Tryd.call29 rfl rfl rfl rfl (portref2_bodyFault_c w212 hA (Mx.tr hT hK) x211 hx215) ?_
    rintro _ w216 ⟨rfl, hk217⟩
    have ht218 := Kp.tr hk217 hA hB
    replace hH := Hp.kp hH hk217
    replace hK := Tr.trans hK ht218
    replace hB := Nat.le_trans hB ht218.ex.size
    replace hA := ht218.new
    refine V_y (Y_neq rfl rfl) rfl rfl rfl ?_
    refine V_to (fun _ _ => rfl) ?_
    refine C_cond rfl (fun hc219 => ?_) (fun hc219 => ?_)
    · rw [if_pos hc219] at hm
      refine C_seq ?_
      refine C_region ?_
      refine V_y (Y_assign rfl) rfl rfl rfl ?_
      refine V_y (Y_assign rfl) rfl rfl rfl ?_
      refine V_to (fun _ _ => rfl) ?_
      obtain rfl := Option.some.inj hm
      refine C_ret ?_
      try simp only [↓inBlock_ret, ↓then_ret]
      exact retQ rfl (Res.two Tryd.results9 rfl rfl) ⟨rfl, hK.kp⟩
    · rw [if_neg (nt hc219)] at hm
      refine C_skip_to (fun _ _ => rfl) ?_
      refine C_seq ?_
      refine C_region ?_
      refine V_y (Y_move rfl) rfl rfl rfl ?_
      refine V_y (Y_assign rfl) rfl rfl rfl ?_
      refine V_y (Y_assign rfl) rfl rfl rfl ?_
      refine V_to (fun _ _ => rfl) ?_
      obtain rfl := Option.some.inj hm
      refine C_ret ?_
      try simp only [↓inBlock_ret, ↓then_ret]
      exact retQ rfl (Res.two Tryd.results9 rfl rfl) ⟨rfl, hK.kp⟩

set_option maxRecDepth 4000 in
set_option maxHeartbeats 4000000 in
theorem portlaw2_KnowPatches_c (w : World) {A : Nat → Prop} (hA : ∀ b, w.heap.size ≤ b → A b) (hT : Mx Tryd.prog 2 A w) (a_ : ByteArray) (l : (List know_Edit)) (v_l : Value) (h_l : Sl A w v_l l) {r : Bool} (hm : portlaw2_KnowPatches a_ l = some r) : Ret Tryd.prog 3 #[.string a_, v_l] w fun v w' => v = .bool r ∧ Kp w w' := by
  unfold portlaw2_KnowPatches at hm
  refine enter Tryd.func3 rfl Tryd.ntmps3 rfl ?_
  have hA0 := hA
  have hB := Nat.le_refl w.heap.size
  have hK : Tr w.heap.size A w A w := Tr.refl hA
  have hH : Hp w.heap.size A w [] := Hp.nil
  refine C_seq ?_
  refine C_region ?_
  refine V_y (Y_assign rfl) rfl rfl rfl ?_
  refine V_to (fun _ _ => rfl) ?_
  refine C_seq ?_
  refine C_region ?_
  refine V_y (Y_move rfl) rfl rfl rfl ?_
  refine V_y (Y_move rfl) rfl rfl rfl ?_
  obtain ⟨x3, hx3, hm⟩ := Option.bind_eq_some_iff.1 hm
  refine V_call Tryd.call8 rfl rfl rfl rfl (know_Patch_c w hA (Mx.tr hT hK) a_ l v_l h_l hx3) ?_
  rintro _ w4 ⟨rfl, hk5⟩
  have ht6 := Kp.tr hk5 hA hB
  replace hH := Hp.kp hH hk5
  replace h_l := Sl.tr h_l ht6
  replace hK := Tr.trans hK ht6
  replace hB := Nat.le_trans hB ht6.ex.size
  replace hA := ht6.new
  refine V_y (Y_move rfl) rfl rfl rfl ?_
  refine V_y (Y_extract rfl rfl) rfl rfl rfl ?_
  refine V_y (Y_extract rfl rfl) rfl rfl rfl ?_
  refine V_y (Y_assign rfl) rfl rfl rfl ?_
  refine V_y (Y_assign rfl) rfl rfl rfl ?_
  refine V_to (fun _ _ => rfl) ?_
  refine C_seq ?_
  refine C_region ?_
  refine V_y (Y_move rfl) rfl rfl rfl ?_
  refine V_y (Y_move rfl) rfl rfl rfl ?_
  obtain ⟨x7, hx7, hm⟩ := Option.bind_eq_some_iff.1 hm
  refine V_call Tryd.call9 rfl rfl rfl rfl (portref2_PatchOf_c w4 hA (Mx.tr hT hK) a_ l v_l h_l hx7) ?_
  rintro _ w9 ⟨rfl, hk10⟩
  have ht11 := Kp.tr hk10 hA hB
  replace hH := Hp.kp hH hk10
  replace h_l := Sl.tr h_l ht11
  replace hK := Tr.trans hK ht11
  replace hB := Nat.le_trans hB ht11.ex.size
  replace hA := ht11.new
  refine V_y (Y_move rfl) rfl rfl rfl ?_
  refine V_y (Y_extract rfl rfl) rfl rfl rfl ?_
  refine V_y (Y_extract rfl rfl) rfl rfl rfl ?_
  refine V_y (Y_assign rfl) rfl rfl rfl ?_
  refine V_y (Y_assign rfl) rfl rfl rfl ?_
  refine V_to (fun _ _ => rfl) ?_
  refine C_seq ?_
  refine C_region ?_
  refine V_y (Y_move rfl) rfl rfl rfl ?_
  refine V_y (Y_move rfl) rfl rfl rfl ?_
  refine V_y (Y_seql rfl rfl) rfl rfl rfl ?_
  refine V_y (Y_move rfl) rfl rfl rfl ?_
  refine V_cut 4 (fun _ : Unit => [(28, .bool ((strEq x3.1 x7.1) && (x3.2 == x7.2)))]) (fun _ w' => w9 = w') ?_ ?_
  · simp only [List.take, List.drop]
    rcases Bool.eq_false_or_eq_true (strEq x3.1 x7.1) with hc12 | hc12
    · refine V_ge rfl rfl rfl hc12 ?_
      refine V_y (Y_move rfl) rfl rfl rfl ?_
      refine V_ge rfl rfl rfl hc12 ?_
      refine V_y (Y_move rfl) rfl rfl rfl ?_
      refine V_ge rfl rfl rfl hc12 ?_
      refine V_y (Y_eql rfl rfl) rfl rfl rfl ?_
      refine V_y (Y_pick_te rfl hc12 rfl) rfl rfl rfl ?_
      exact V_end fun a ha => ⟨(), ha.sub ⟨(by rw [hc12]; rfl), trivial⟩, rfl⟩
    · refine V_gn rfl rfl rfl hc12 rfl rfl rfl ?_
      refine V_gn rfl rfl rfl hc12 rfl rfl rfl ?_
      refine V_gn rfl rfl rfl hc12 rfl rfl rfl ?_
      refine V_y (Y_pick_fe rfl hc12 rfl) rfl rfl rfl ?_
      exact V_end fun a ha => ⟨(), ha.sub ⟨(by rw [hc12]; rfl), trivial⟩, rfl⟩
  simp only [List.take, List.drop]
  rintro _ _ rfl
  refine V_y (Y_assign rfl) rfl rfl rfl ?_
  refine V_to (fun _ _ => rfl) ?_
  obtain rfl := Option.some.inj hm
  refine C_ret ?_
  try simp only [↓inBlock_ret, ↓then_ret]
  exact retQ rfl (Res.one Tryd.results3 rfl) ⟨rfl, hK.kp⟩

end Go.Proofs.YtcokjipcmpfgbaaDoor.W
