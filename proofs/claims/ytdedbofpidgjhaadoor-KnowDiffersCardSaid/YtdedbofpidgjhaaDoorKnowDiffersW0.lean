/-
  Written by program (gen.py) from the IR of the dump: each function computes its model.
-/
import Derived.Test.YtdedbofpidgjhaaDoorProg
import Derived.Test.YtdedbofpidgjhaaDoorGe
import Derived.Test.YtdedbofpidgjhaaDoorKnowDiffersM
import Derived.KernelRfl
import Derived.Shelf.Strings.Split
import Derived.Test.YtdedbofpidgjhaaDoorGg
import Derived.Test.YtdedbofpidgjhaaDoorHd
import Derived.Test.YtdedbofpidgjhaaDoorGv
import Derived.Test.YtdedbofpidgjhaaDoorGy
namespace Go.Proofs.YtdedbofpidgjhaaDoor.W
open Go Go.RowKit Go.Pu Go.Gw Go.Proofs Go.Proofs.YtdedbofpidgjhaaDoor.M
set_option linter.unusedVariables false
set_option linter.unusedSimpArgs false
variable {Dw : Prop}

theorem Tryd_info3 : Tryd.prog.info? 3 = some Tryd.t3 := by kernel_rfl
theorem Tryd_info9 : Tryd.prog.info? 9 = some Tryd.t9 := by kernel_rfl
theorem Tryd_info36 : Tryd.prog.info? 36 = some Tryd.t36 := by kernel_rfl
theorem Tryd_info38 : Tryd.prog.info? 38 = some Tryd.t38 := by kernel_rfl
theorem Tryd_places36 : ∀ fs, Tryd.prog.underlying 36 = some (.struct fs) → ∀ w : World, (Array.mapM (fun (f : Field) => do pure (f.offset, ← Go.sizeOf f.type)) fs).run Tryd.prog w = .ok #[(0, 1), (1, 1), (2, 1)] w := by
  intro fs h w
  rw [Tryd.underlying36] at h
  cases h
  kernel_rfl
theorem Tryd_mixed : Tryd.prog.follows .mixedOrders = true := by kernel_rfl

instance : GoT know_Edit := GoT.of (β := Int × Int × (List ByteArray)) fun x => (x.at_, x.drop, x.add)

theorem El_know_Edit_ {A : Nat → Prop} {w : World} {b off : Nat} {x : know_Edit} (h : El A w b off x) : El (α := Int × Int × (List ByteArray)) A w b off (x.at_, x.drop, x.add) := h

theorem El_know_Edit_0 {A : Nat → Prop} {w : World} {b off : Nat} {x : know_Edit} (h : El A w b off x) : El A w b (off + 0) x.at_ := El.fst (El_know_Edit_ h)

theorem El_know_Edit_1 {A : Nat → Prop} {w : World} {b off : Nat} {x : know_Edit} (h : El A w b off x) : El A w b (off + 1) x.drop := El.fst (El.snd (El_know_Edit_ h))

theorem El_know_Edit_2 {A : Nat → Prop} {w : World} {b off : Nat} {x : know_Edit} (h : El A w b off x) : El A w b (off + 2) x.add := El.snd (El.snd (El_know_Edit_ h))

theorem El_know_Edit {A : Nat → Prop} {w : World} {b off : Nat} {x : know_Edit} (h : El A w b off x) : ∃ v1, At w b off [.int .i64 x.at_, .int .i64 x.drop, v1] ∧ Sl A w v1 x.add := by
  obtain ⟨h1, h2, cs, h3, h4⟩ := h
  obtain ⟨_, _, rfl, rfl, ⟨_, _, rfl, rfl, ⟨u1, rfl, g1⟩⟩⟩ := h3
  exact ⟨u1, h4, g1⟩

def Tryd_strings_genSplit_lay_ren : Go.Shelf.Ren := ⟨fun | 138 => 50 | 143 => 51 | 195 => 52 | 197 => 53 | 217 => 57 | 218 => 54 | 219 => 55 | 221 => 48 | 224 => 59 | 225 => 58 | 260 => 56 | 266 => 61 | 267 => 60 | 268 => 49 | 314 => 62 | n => n, fun | 0 => 0 | 1 => 1 | 2 => 2 | 3 => 3 | 4 => 4 | 5 => 5 | 6 => 6 | 7 => 7 | 8 => 8 | 9 => 9 | 10 => 10 | 11 => 11 | 12 => 12 | 13 => 13 | 14 => 14 | 15 => 15 | 16 => 16 | 17 => 17 | 18 => 18 | 19 => 19 | 20 => 20 | 21 => 21 | 22 => 27 | 27 => 150 | 28 => 38 | 31 => 30 | 34 => 75 | 46 => 156 | 51 => 161 | 55 => 154 | 61 => 144 | 68 => 31 | 80 => 164 | 81 => 170 | 101 => 69 | 102 => 34 | 103 => 151 | 105 => 152 | 106 => 153 | 113 => 148 | 114 => 155 | 119 => 157 | 127 => 174 | 137 => 158 | 138 => 159 | 139 => 160 | 146 => 162 | 150 => 149 | 151 => 163 | 164 => 184 | 238 => 165 | 239 => 166 | 240 => 167 | 241 => 168 | 242 => 169 | 243 => 171 | 244 => 172 | 245 => 173 | 246 => 175 | 247 => 176 | 248 => 177 | 249 => 178 | n => n, fun | 1 => 0 | 3 => 1 | 4 => 2 | n => n⟩
theorem Tryd_strings_genSplit_lay : Go.Proofs.Lays.n221 Tryd.prog Tryd_strings_genSplit_lay_ren := {
  mixed := by kernel_rfl,
  f138 := Tryd.func50.trans (congrArg some (by kernel_rfl)),
  f143 := Tryd.func51.trans (congrArg some (by kernel_rfl)),
  f195 := Tryd.func52.trans (congrArg some (by kernel_rfl)),
  f197 := Tryd.func53.trans (congrArg some (by kernel_rfl)),
  f217 := Tryd.func57.trans (congrArg some (by kernel_rfl)),
  f218 := Tryd.func54.trans (congrArg some (by kernel_rfl)),
  f219 := Tryd.func55.trans (congrArg some (by kernel_rfl)),
  f221 := Tryd.func48.trans (congrArg some (by kernel_rfl)),
  f224 := Tryd.func59.trans (congrArg some (by kernel_rfl)),
  f225 := Tryd.func58.trans (congrArg some (by kernel_rfl)),
  f260 := Tryd.func56.trans (congrArg some (by kernel_rfl)),
  f266 := Tryd.func61.trans (congrArg some (by kernel_rfl)),
  f267 := Tryd.func60.trans (congrArg some (by kernel_rfl)),
  f268 := Tryd.func49.trans (congrArg some (by kernel_rfl)),
  f314 := Tryd.func62.trans (congrArg some (by kernel_rfl)),
  t0 := Tryd.underlying0,
  a0 := Tryd.isAgg0,
  z0 := Tryd.sizeOf0,
  v0 := Tryd.zeroValue0,
  t3 := Tryd.underlying3,
  a3 := Tryd.isAgg3,
  z3 := Tryd.sizeOf3,
  v3 := Tryd.zeroValue3,
  t4 := Tryd.underlying4,
  a4 := Tryd.isAgg4,
  z4 := Tryd.sizeOf4,
  v4 := Tryd.zeroValue4,
  t5 := Tryd.underlying5,
  a5 := Tryd.isAgg5,
  z5 := Tryd.sizeOf5,
  v5 := Tryd.zeroValue5,
  t9 := Tryd.underlying9,
  a9 := Tryd.isAgg9,
  z9 := Tryd.sizeOf9,
  v9 := Tryd.zeroValue9,
  t21 := Tryd.underlying21,
  a21 := Tryd.isAgg21,
  z21 := Tryd.sizeOf21,
  v21 := Tryd.zeroValue21,
  t31 := Tryd.underlying30,
  a31 := Tryd.isAgg30,
  z31 := Tryd.sizeOf30,
  v31 := Tryd.zeroValue30,
  t46 := Tryd.underlying156,
  a46 := Tryd.isAgg156,
  z46 := Tryd.sizeOf156,
  v46 := Tryd.zeroValue156,
  t51 := Tryd.underlying161,
  a51 := Tryd.isAgg161,
  z51 := Tryd.sizeOf161,
  v51 := Tryd.zeroValue161,
  t105 := Tryd.underlying152,
  a105 := Tryd.isAgg152,
  z105 := Tryd.sizeOf152,
  v105 := Tryd.zeroValue152,
  t119 := Tryd.underlying157,
  a119 := Tryd.isAgg157,
  z119 := Tryd.sizeOf157,
  t138 := Tryd.underlying159,
  a138 := Tryd.isAgg159,
  z138 := Tryd.sizeOf159,
  v138 := Tryd.zeroValue159,
  t139 := Tryd.underlying160,
  a139 := Tryd.isAgg160,
  z139 := Tryd.sizeOf160,
  v139 := Tryd.zeroValue160,
  t146 := Tryd.underlying162,
  a146 := Tryd.isAgg162,
  z146 := Tryd.sizeOf162,
  v146 := Tryd.zeroValue162,
  g1 := by kernel_rfl,
  g3 := by kernel_rfl,
  g4 := by kernel_rfl }
theorem strings_genSplit_c (w : World) {A : Nat → Prop} (hA : ∀ b, w.heap.size ≤ b → A b) (hT : Mx Tryd.prog 0 A w) (s : ByteArray) (sep : ByteArray) (sepSave : Int) (n : Int) {r : List ByteArray} (hm : strings_genSplit s sep sepSave n = some r) : Ret Tryd.prog 48 #[.string s, .string sep, .int .i64 sepSave, .int .i64 n] w fun v w' => ∃ s0, v = s0 ∧ Sl A w' s0 r ∧ Kp Dw w w' := by
  unfold strings_genSplit at hm
  split at hm
  case isFalse => cases hm
  rename_i h
  obtain ⟨h1, h2, h3, h4, rfl⟩ := h
  obtain rfl := Option.some.inj hm
  obtain ⟨⟨m, hmx⟩, _, _⟩ := hT
  obtain ⟨k, rfl⟩ := Int.eq_ofNat_of_zero_le h3
  have hlen := Go.Lib.splitB_length_le sep (k : Int).toNat (min (Go.Lib.countB s sep + 1) (s.size + 1) - 1) s
  refine split_wrap (Dw := Dw) (N := min (Go.Lib.countB s sep + 1) (s.size + 1)) (sv := k) hA (by omega) (by unfold maxLen; omega) (Go.Proofs.Any.strings_genSplit Tryd_strings_genSplit_lay (by kernel_rfl) s sep k (-1) _ m w h1 hmx h2 (by omega) (by decide) (by decide) ?_)
  rw [if_pos (by decide)]
  omega

set_option maxRecDepth 4000 in
set_option maxHeartbeats 4000000 in
theorem strings_SplitAfter_c (w : World) {A : Nat → Prop} (hA : ∀ b, w.heap.size ≤ b → A b) (hT : Mx Tryd.prog 0 A w) (s : ByteArray) (sep : ByteArray) {r : (List ByteArray)} (hm : strings_SplitAfter s sep = some r) : Ret Tryd.prog 46 #[.string s, .string sep] w fun v w' => ∃ s0, v = s0 ∧ Sl A w' s0 r ∧ Kp Dw w w' := by
  unfold strings_SplitAfter at hm
  refine enter Tryd.func46 rfl Tryd.ntmps46 rfl ?_
  have hA0 := hA
  have hB := Nat.le_refl w.heap.size
  have hK : Tr Dw w.heap.size A w A w := Tr.refl (Dw := Dw) hA
  have hH : Hp w.heap.size A w [] := Hp.nil
  refine C_seq ?_
  refine C_region ?_
  refine V_y (Y_assign rfl) rfl rfl rfl ?_
  refine V_to (fun _ _ => rfl) ?_
  refine C_seq ?_
  refine C_region ?_
  refine V_y (Y_move rfl) rfl rfl rfl ?_
  refine V_y (Y_move rfl) rfl rfl rfl ?_
  refine V_y (Y_move rfl) rfl rfl rfl ?_
  refine V_y (Y_lenStr rfl Tryd.underlying9 rfl) rfl rfl rfl ?_
  obtain ⟨x1, hx1, hm⟩ := Option.bind_eq_some_iff.1 hm
  refine V_call Tryd.call48 rfl rfl rfl rfl (strings_genSplit_c (Dw := Dw) w hA (Mx.tr (Dw := Dw) hT hK) s sep (sep.size : Int) (-1) hx1) ?_
  rintro v2 w4 ⟨_, rfl, h3, hk5⟩
  have ht6 := Kp.tr (Dw := Dw) hk5 hA hB
  replace hH := Hp.kp (Dw := Dw) hH hk5
  replace hK := Tr.trans (Dw := Dw) hK ht6
  replace hB := Nat.le_trans hB ht6.ex.size
  replace hA := ht6.new
  refine V_y (Y_assign rfl) rfl rfl rfl ?_
  refine V_to (fun _ _ => rfl) ?_
  obtain rfl := Option.some.inj hm
  refine C_ret ?_
  try simp only [↓inBlock_ret, ↓then_ret]
  exact retQ rfl (Res.one Tryd.results46 rfl) ⟨v2, rfl, (Sl.out (Dw := Dw) h3 hA0 hK), hK.kp⟩

set_option maxRecDepth 4000 in
set_option maxHeartbeats 4000000 in
theorem know_lines_c (w : World) {A : Nat → Prop} (hA : ∀ b, w.heap.size ≤ b → A b) (hT : Mx Tryd.prog 0 A w) (body : ByteArray) {r : (List ByteArray)} (hm : know_lines body = some r) : Ret Tryd.prog 9 #[.string body] w fun v w' => ∃ s0, v = s0 ∧ Sl A w' s0 r ∧ Kp Dw w w' := by
  unfold know_lines at hm
  refine enter Tryd.func9 rfl Tryd.ntmps9 rfl ?_
  have hA0 := hA
  have hB := Nat.le_refl w.heap.size
  have hK : Tr Dw w.heap.size A w A w := Tr.refl (Dw := Dw) hA
  have hH : Hp w.heap.size A w [] := Hp.nil
  refine C_seq ?_
  refine C_region ?_
  refine V_y (Y_assign rfl) rfl rfl rfl ?_
  refine V_to (fun _ _ => rfl) ?_
  refine C_seq ?_
  refine C_region ?_
  refine V_y (Y_move rfl) rfl rfl rfl ?_
  obtain ⟨x1, hx1, hm⟩ := Option.bind_eq_some_iff.1 hm
  refine V_call Tryd.call46 rfl rfl rfl rfl (strings_SplitAfter_c (Dw := Dw) w hA (Mx.tr (Dw := Dw) hT hK) body (⟨#[10]⟩ : ByteArray) hx1) ?_
  rintro v2 w4 ⟨_, rfl, h3, hk5⟩
  have ht6 := Kp.tr (Dw := Dw) hk5 hA hB
  replace hH := Hp.kp (Dw := Dw) hH hk5
  replace hK := Tr.trans (Dw := Dw) hK ht6
  replace hB := Nat.le_trans hB ht6.ex.size
  replace hA := ht6.new
  refine V_y (Y_assign rfl) rfl rfl rfl ?_
  refine V_to (fun _ _ => rfl) ?_
  refine C_seq ?_
  refine C_seq ?_
  refine C_region ?_
  refine V_y (Y_move rfl) rfl rfl rfl ?_
  refine V_y (Y_move rfl) rfl rfl rfl ?_
  refine V_y (Y_lenSl h3 rfl Tryd.underlying30 rfl) rfl rfl rfl ?_
  refine V_y (Y_subI rfl rfl) rfl rfl rfl ?_
  obtain ⟨x7, hx7, hm⟩ := Option.bind_eq_some_iff.1 hm
  refine V_indexAddr h3 hx7 Tryd.underlying30 Tryd.sizeOf9 rfl rfl rfl ?_
  intro b8 o9 h10
  refine V_y (Y_load (El.str h10) Tryd.isAgg9 rfl) rfl rfl rfl ?_
  refine V_y (Y_seql rfl rfl) rfl rfl rfl ?_
  refine V_to (fun _ _ => rfl) ?_
  obtain ⟨s12, ho11, hm⟩ := Option.bind_eq_some_iff.1 hm
  refine C_cutG (ι := Value) (fun (v14 : Value) => [(3, v14)]) (fun (v14 : Value) => fun w' => Sl A w' v14 s12 ∧ w4 = w') ?_ ?_
  · refine C_cond rfl (fun hc20 => ?_) (fun hc20 => ?_)
    · rw [if_pos hc20] at ho11
      refine C_region ?_
      refine V_y (Y_move rfl) rfl rfl rfl ?_
      refine V_y (Y_move rfl) rfl rfl rfl ?_
      refine V_y (Y_lenSl h3 rfl Tryd.underlying30 rfl) rfl rfl rfl ?_
      refine V_y (Y_subI rfl rfl) rfl rfl rfl ?_
      obtain ⟨x21, hx21, ho11⟩ := Option.bind_eq_some_iff.1 ho11
      obtain ⟨v22, h23, h23y⟩ := sliceL_val hx21 h3
      refine V_y (Y_sliceLH h23y Tryd.underlying30 Tryd.sizeOf9 rfl rfl) rfl rfl rfl ?_
      refine V_y (Y_assign rfl) rfl rfl rfl ?_
      obtain rfl := Option.some.inj ho11
      refine V_end (fun a ha24 => ?_)
      exact ⟨v22, ha24.sub ⟨rfl, trivial⟩, ⟨h23, rfl⟩⟩
    · rw [if_neg (nt hc20)] at ho11
      obtain rfl := Option.some.inj ho11
      refine C_skip (fun a ha25 => ?_)
      exact ⟨v2, ha25.sub ⟨rfl, trivial⟩, ⟨h3, rfl⟩⟩
  rintro v14 _ ⟨h15, rfl⟩ a ha19
  refine C_at (n := ⟨19, [], none⟩) (fun _ _ => rfl) ?_ ha19
  refine C_seq ?_
  refine C_region ?_
  refine V_y (Y_move rfl) rfl rfl rfl ?_
  refine V_y (Y_assign rfl) rfl rfl rfl ?_
  refine V_to (fun _ _ => rfl) ?_
  obtain rfl := Option.some.inj hm
  refine C_ret ?_
  try simp only [↓inBlock_ret, ↓then_ret]
  exact retQ rfl (Res.one Tryd.results9 rfl) ⟨v14, rfl, (Sl.out (Dw := Dw) h15 hA0 hK), hK.kp⟩

set_option maxRecDepth 4000 in
set_option maxHeartbeats 4000000 in
theorem know_checkBody_c (w : World) {A : Nat → Prop} (hA : ∀ b, w.heap.size ≤ b → A b) (hT : Mx Tryd.prog 0 A w) (s : ByteArray) {r : Int} (hm : know_checkBody s = some r) : Ret Tryd.prog 8 #[.string s] w fun v w' => v = .int .i64 r ∧ Kp Dw w w' := by
  unfold know_checkBody at hm
  refine enter Tryd.func8 rfl Tryd.ntmps8 rfl ?_
  have hA0 := hA
  have hB := Nat.le_refl w.heap.size
  have hK : Tr Dw w.heap.size A w A w := Tr.refl (Dw := Dw) hA
  have hH : Hp w.heap.size A w [] := Hp.nil
  refine C_seq ?_
  refine C_region ?_
  refine V_y (Y_assign rfl) rfl rfl rfl ?_
  refine V_to (fun _ _ => rfl) ?_
  refine C_seq ?_
  refine C_seq ?_
  obtain ⟨s2, ho1, hm⟩ := Option.bind_eq_some_iff.1 hm
  refine C_cutG (ι := (Nat → Prop)) (fun (A7 : (Nat → Prop)) => [(11, .bool s2)]) (fun (A7 : (Nat → Prop)) => fun w' => Hp w.heap.size A7 w' ([]) ∧ Tr Dw w.heap.size A w A7 w') ?_ ?_
  · have hr3 : Tr Dw w.heap.size A w A w := Tr.refl (Dw := Dw) hA
    refine C_region ?_
    refine V_y (Y_move rfl) rfl rfl rfl ?_
    refine V_y (Y_lenStr rfl Tryd.underlying9 rfl) rfl rfl rfl ?_
    refine V_y (Y_gtr rfl rfl) rfl rfl rfl ?_
    refine V_y (Y_move rfl) rfl rfl rfl ?_
    rcases Bool.eq_false_or_eq_true (decide ((20000 : Int) < (s.size : Int))) with hc9 | hc9
    · rw [if_pos hc9] at ho1
      refine V_gn rfl rfl rfl hc9 rfl rfl rfl ?_
      refine V_gn rfl rfl rfl hc9 rfl rfl rfl ?_
      refine V_gn rfl rfl rfl hc9 rfl rfl rfl ?_
      refine V_gn rfl rfl rfl hc9 rfl rfl rfl ?_
      refine V_y (Y_pick_te rfl hc9 rfl) rfl rfl rfl ?_
      obtain rfl := Option.some.inj ho1
      refine V_end (fun a ha10 => ?_)
      exact ⟨A, ha10.sub ⟨rfl, trivial⟩, ⟨hH, hr3⟩⟩
    · rw [if_neg (nt hc9)] at ho1
      refine V_ge rfl rfl rfl hc9 ?_
      refine V_y (Y_move rfl) rfl rfl rfl ?_
      refine V_ge rfl rfl rfl hc9 ?_
      obtain ⟨x11, hx11, ho1⟩ := Option.bind_eq_some_iff.1 ho1
      refine V_call Tryd.call9 rfl rfl rfl rfl (know_lines_c (Dw := Dw) w hA (Mx.tr (Dw := Dw) hT hK) s hx11) ?_
      rintro v12 w14 ⟨_, rfl, h13, hk15⟩
      have ht16 := Kp.tr (Dw := Dw) hk15 hA hB
      replace hH := Hp.kp (Dw := Dw) hH hk15
      replace hK := Tr.trans (Dw := Dw) hK ht16
      replace hr3 := Tr.trans (Dw := Dw) hr3 ht16
      replace hB := Nat.le_trans hB ht16.ex.size
      replace hA := ht16.new
      refine V_ge rfl rfl rfl hc9 ?_
      refine V_y (Y_lenSl h13 rfl Tryd.underlying30 rfl) rfl rfl rfl ?_
      refine V_ge rfl rfl rfl hc9 ?_
      refine V_y (Y_gtr rfl rfl) rfl rfl rfl ?_
      refine V_y (Y_pick_fe rfl hc9 rfl) rfl rfl rfl ?_
      obtain rfl := Option.some.inj ho1
      refine V_end (fun a ha17 => ?_)
      exact ⟨A, ha17.sub ⟨rfl, trivial⟩, ⟨hH, hr3⟩⟩
  rintro A7 w4 ⟨hH8, hk5⟩ a ha6
  replace hK := Tr.trans (Dw := Dw) hK hk5
  replace hB := Nat.le_trans hB hk5.ex.size
  replace hA := hk5.new
  replace hH : Hp w.heap.size A7 w4 ([]) := hH8
  refine C_at (n := ⟨12, [], none⟩) (fun _ _ => rfl) ?_ ha6
  refine C_cond rfl (fun hc18 => ?_) (fun hc18 => ?_)
  · rw [if_pos hc18] at hm
    refine C_seq ?_
    refine C_region ?_
    refine V_y (Y_assign rfl) rfl rfl rfl ?_
    refine V_to (fun _ _ => rfl) ?_
    obtain rfl := Option.some.inj hm
    refine C_ret ?_
    try simp only [↓inBlock_ret, ↓then_ret]
    exact retQ rfl (Res.one Tryd.results8 rfl) ⟨rfl, hK.kp⟩
  · rw [if_neg (nt hc18)] at hm
    refine C_skip_to (fun _ _ => rfl) ?_
    refine C_seq ?_
    refine C_region ?_
    refine V_y (Y_assign rfl) rfl rfl rfl ?_
    refine V_to (fun _ _ => rfl) ?_
    obtain rfl := Option.some.inj hm
    refine C_ret ?_
    try simp only [↓inBlock_ret, ↓then_ret]
    exact retQ rfl (Res.one Tryd.results8 rfl) ⟨rfl, hK.kp⟩

set_option maxRecDepth 4000 in
set_option maxHeartbeats 4000000 in
theorem cmp_Or_api_Errno_c (w : World) {A : Nat → Prop} (vals : (List Int)) (v_vals : Value) (h_vals : Sl A w v_vals vals) {r : Int} (hm : cmp_Or_api_Errno vals = some r) : Ret Tryd.prog 7 #[v_vals] w fun v w' => v = .int .i64 r ∧ w = w' := by
  unfold cmp_Or_api_Errno at hm
  refine enter Tryd.func7 rfl Tryd.ntmps7 rfl ?_
  refine C_seq ?_
  refine C_region ?_
  refine V_y (Y_assign rfl) rfl rfl rfl ?_
  refine V_to (fun _ _ => rfl) ?_
  refine C_seq ?_
  refine C_region ?_
  refine V_y (Y_assign rfl) rfl rfl rfl ?_
  refine V_to (fun _ _ => rfl) ?_
  refine C_seq ?_
  refine C_seq ?_
  refine C_region ?_
  refine V_y (Y_move rfl) rfl rfl rfl ?_
  refine V_y (Y_lenSl h_vals rfl Tryd.underlying143 rfl) rfl rfl rfl ?_
  refine V_y (Y_move rfl) rfl rfl rfl ?_
  refine V_to (fun _ _ => rfl) ?_
  have hn19 := Sl.le h_vals
  obtain ⟨o3, ho3, hm⟩ := Option.bind_eq_some_iff.1 hm
  refine C_cutG (ι := Unit) (fun (s4 : Unit) => [(3, .int .i64 0)]) (fun (s4 : Unit) => fun w' => o3 = .fin s4 ∧ w = w') ?_ ?_
  · refine C_block ?_
    refine C_range ho3 (fun k6 _ a w' => ∃ i : Unit, Has ⟨18, [], none⟩ a ([(3, .int .i64 0), (6, v_vals), (7, .int .i64 (vals.length : Int)), (8, .int .i64 (k6 : Int))]) ∧ w = w') (fun a ha => ⟨(), ha.sub ⟨rfl, rfl, rfl, rfl, trivial⟩, rfl⟩) ?_
    rintro K k6 _ a _ ⟨_, ha28, rfl⟩ hle15 K18 h17
    refine C_of ?_ ha28
    refine C_seq (C_region (V_y (Y_lss rfl rfl) rfl rfl rfl (V_to (fun _ _ => rfl) ?_)))
    refine C_seq ?_
    refine C_cond rfl (fun hc20 => ?_) (fun hc20 => ?_)
    · have hlt16 := lt_of_dec hc20
      obtain ⟨x12, h13, h14⟩ := K18 hlt16
      refine C_skip_to (fun _ _ => rfl) ?_
      refine C_seq ?_
      refine C_block ?_
      refine C_seq ?_
      refine C_region ?_
      obtain ⟨x21, hx21, h13⟩ := Option.bind_eq_some_iff.1 h13
      refine V_indexAddr h_vals hx21 Tryd.underlying143 Tryd.sizeOf23 rfl rfl rfl ?_
      intro b22 o23 h24
      refine V_y (Y_load (El.int h24) Tryd.isAgg23 rfl) rfl rfl rfl ?_
      refine V_y (Y_assign rfl) rfl rfl rfl ?_
      refine V_to (fun _ _ => rfl) ?_
      refine C_seq ?_
      refine C_region ?_
      refine V_y (Y_move rfl) rfl rfl rfl ?_
      refine V_y (Y_move rfl) rfl rfl rfl ?_
      refine V_y (Y_neq rfl rfl) rfl rfl rfl ?_
      refine V_to (fun _ _ => rfl) ?_
      refine C_cond rfl (fun hc25 => ?_) (fun hc25 => ?_)
      · rw [if_pos hc25] at h13
        refine C_seq ?_
        refine C_region ?_
        refine V_y (Y_move rfl) rfl rfl rfl ?_
        refine V_y (Y_assign rfl) rfl rfl rfl ?_
        refine V_to (fun _ _ => rfl) ?_
        obtain rfl := Option.some.inj h13
        obtain rfl := (h14 : Lp.rt _ = _)
        rw [Lp.andThen_rt] at hm
        obtain rfl := Option.some.inj hm
        refine C_ret ?_
        try simp only [↓inBlock_ret, ↓then_ret]
        exact retQ rfl (Res.one Tryd.results7 rfl) ⟨rfl, rfl⟩
      · rw [if_neg (nt hc25)] at h13
        refine C_skip_to (fun _ _ => rfl) ?_
        refine C_region ?_
        refine V_y (Y_addI rfl rfl) rfl rfl rfl ?_
        refine V_y (Y_move rfl) rfl rfl rfl ?_
        obtain rfl := Option.some.inj h13
        refine V_end (fun a ha26 => ?_)
        exact ⟨(), hlt16, h14, ⟨(), ha26.sub ⟨rfl, rfl, rfl, (congrArg (fun z => some (Value.int .i64 z)) (w64_succ hlt16 hn19)), trivial⟩, rfl⟩⟩
    · refine C_exit (fun a ha27 => ?_)
      exact ⟨(), ha27.sub ⟨rfl, trivial⟩, ⟨(h17 (eq_of_dec hle15 hc20)).symm, rfl⟩⟩
  rintro s4 _ ⟨rfl, rfl⟩ a ha9
  rw [Lp.andThen_fin] at hm
  refine C_at (n := ⟨18, [], none⟩) (fun _ _ => rfl) ?_ ha9
  refine C_seq ?_
  refine C_region ?_
  refine V_y (Y_move rfl) rfl rfl rfl ?_
  refine V_y (Y_assign rfl) rfl rfl rfl ?_
  refine V_to (fun _ _ => rfl) ?_
  obtain rfl := Option.some.inj hm
  refine C_ret ?_
  try simp only [↓inBlock_ret, ↓then_ret]
  exact retQ rfl (Res.one Tryd.results7 rfl) ⟨rfl, rfl⟩

set_option maxRecDepth 4000 in
set_option maxHeartbeats 4000000 in
theorem know_common_c (w : World) {A : Nat → Prop} {B : Nat} (hB : B ≤ w.heap.size) (hA : ∀ b, w.heap.size ≤ b → A b) (a_ : (List ByteArray)) (v_a_ : Value) (h_a_ : Sl A w v_a_ a_) (b : (List ByteArray)) (v_b : Value) (h_b : Sl A w v_b b) {L : List Ob} (hH : Hp B A w (L)) {r : (List (List Int))} (hm : know_common a_ b = some r) : Ret Tryd.prog 10 #[v_a_, v_b] w fun v w' => ∃ s0, ∃ A1 : Nat → Prop, v = s0 ∧ Hp B A1 w' (obSS (α := Int) 38 3 s0 r :: L) ∧ Tr Dw B A w A1 w' := by
  unfold know_common at hm
  refine enter Tryd.func10 rfl Tryd.ntmps10 rfl ?_
  have hK : Tr Dw B A w A w := Tr.refl (Dw := Dw) hA
  refine C_seq ?_
  refine C_region ?_
  refine V_y (Y_assign rfl) rfl rfl rfl ?_
  refine V_to (fun _ _ => rfl) ?_
  refine C_seq ?_
  refine C_region ?_
  refine V_y (Y_move rfl) rfl rfl rfl ?_
  refine V_y (Y_lenSl h_a_ rfl Tryd.underlying30 rfl) rfl rfl rfl ?_
  refine V_y (Y_addI rfl rfl) rfl rfl rfl ?_
  obtain ⟨x5, hx5, hm⟩ := Option.bind_eq_some_iff.1 hm
  refine V_makeSS (Dw := Dw) (α := Int) (e := 38) (e2 := 3) (ti := Tryd.t38) hH hx5 rfl Tryd.underlying32 Tryd_info38 rfl rfl rfl (by decide) (by decide) hB hA rfl rfl rfl ?_
  intro v6 w7 A8 hH9 ht10
  replace h_a_ := Sl.tr (Dw := Dw) h_a_ ht10
  replace h_b := Sl.tr (Dw := Dw) h_b ht10
  replace hK := Tr.trans (Dw := Dw) hK ht10
  replace hB := Nat.le_trans hB ht10.ex.size
  replace hA := ht10.new
  replace hH : Hp B A8 w7 (obSS (α := Int) 38 3 v6 x5 :: L) := hH9
  refine V_y (Y_assign rfl) rfl rfl rfl ?_
  refine V_to (fun _ _ => rfl) ?_
  refine C_seq ?_
  refine C_region ?_
  refine V_y (Y_move rfl) rfl rfl rfl ?_
  refine V_y (Y_move rfl) rfl rfl rfl ?_
  refine V_y (Y_lenSl h_a_ rfl Tryd.underlying30 rfl) rfl rfl rfl ?_
  refine V_y (Y_move rfl) rfl rfl rfl ?_
  refine V_y (Y_lenSl h_b rfl Tryd.underlying30 rfl) rfl rfl rfl ?_
  refine V_y (Y_addI rfl rfl) rfl rfl rfl ?_
  obtain ⟨x11, hx11, hm⟩ := Option.bind_eq_some_iff.1 hm
  refine V_makeH (Dw := Dw) (e := 3) (ti := Tryd.t3) hH hx11 (fun _ _ => rfl) Tryd.underlying38 Tryd_info3 rfl rfl rfl (by decide) (by decide) hB hA rfl rfl rfl ?_
  intro v12 w13 A14 hH15 ht16
  replace h_a_ := Sl.tr (Dw := Dw) h_a_ ht16
  replace h_b := Sl.tr (Dw := Dw) h_b ht16
  replace hK := Tr.trans (Dw := Dw) hK ht16
  replace hB := Nat.le_trans hB ht16.ex.size
  replace hA := ht16.new
  replace hH : Hp B A14 w13 (obS (α := Int) 3 v12 x11 :: obSS (α := Int) 38 3 v6 x5 :: L) := hH15
  obtain ⟨x17, hx17, hm⟩ := Option.bind_eq_some_iff.1 hm
  refine V_indexAddrSS (α := Int) (e := 38) (v := v6) (l := x5) hH (i := 1) rfl hx17 Tryd.underlying32 Tryd.sizeOf38 rfl rfl rfl ?_
  intro b18 o19 h20 hl21
  replace hH : Hp B A14 w13 (obSS (α := Int) 38 3 v6 x5 :: obS (α := Int) 3 v12 x11 :: L) := Hp.front hH (i := 1) rfl
  obtain ⟨x22, hx22, hm⟩ := Option.bind_eq_some_iff.1 hm
  refine V_storeSN (Dw := Dw) (α := Int) (e := 38) (e2 := 3) (v := v6) (l := x5) (ix := (a_.length : Int)) (nv := v12) (c' := x11) hH hl21 hx22 Tryd.sizeOf38 rfl hB hA rfl rfl ?_
  intro w23 hH24 ht25
  replace h_a_ := Sl.tr (Dw := Dw) h_a_ ht25
  replace h_b := Sl.tr (Dw := Dw) h_b ht25
  replace hK := Tr.trans (Dw := Dw) hK ht25
  replace hB := Nat.le_trans hB ht25.ex.size
  replace hA := ht25.new
  replace hH : Hp B A14 w23 (obSS (α := Int) 38 3 v6 x22 :: L) := hH24
  refine V_to (fun _ _ => rfl) ?_
  refine C_seq ?_
  refine C_seq ?_
  refine C_region ?_
  refine V_y (Y_move rfl) rfl rfl rfl ?_
  refine V_y (Y_lenSl h_a_ rfl Tryd.underlying30 rfl) rfl rfl rfl ?_
  refine V_y (Y_subI rfl rfl) rfl rfl rfl ?_
  refine V_y (Y_assign rfl) rfl rfl rfl ?_
  refine V_to (fun _ _ => rfl) ?_
  obtain ⟨o26, ho26, hm⟩ := Option.bind_eq_some_iff.1 hm
  refine C_cutG (ι := (((List (List Int)) × Int) × Value × (Nat → Prop))) (fun ⟨s27, v33, A35⟩ => [(5, v33)]) (fun ⟨s27, v33, A35⟩ => fun w' => o26 = .fin s27 ∧ Hp B A35 w' (obSS (α := Int) 38 3 v33 s27.1 :: L) ∧ Tr Dw B A14 w23 A35 w') ?_ ?_
  · refine C_block ?_
    refine C_while ho26 (fun s37 a w' => ∃ i : (Value × (Nat → Prop)), Has ⟨90, [], none⟩ a ([(0, v_a_), (1, v_b), (5, i.1), (6, .int .i64 s37.2)]) ∧ Hp B i.2 w' (obSS (α := Int) 38 3 i.1 s37.1 :: L) ∧ Tr Dw B A14 w23 i.2 w') (fun a ha => ⟨(v6, A14), ha.sub ⟨rfl, rfl, rfl, rfl, trivial⟩, ⟨hH, Tr.refl (Dw := Dw) hA⟩⟩) ?_
    rintro K s37 a w38 ⟨⟨v39, A41⟩, ha221, hH42, hr28⟩ K49
    refine C_of ?_ ha221
    replace h_a_ := Sl.tr (Dw := Dw) h_a_ hr28
    replace h_b := Sl.tr (Dw := Dw) h_b hr28
    replace hK := Tr.trans (Dw := Dw) hK hr28
    replace hB := Nat.le_trans hB hr28.ex.size
    replace hA := hr28.new
    replace hH : Hp B A41 w38 (obSS (α := Int) 38 3 v39 s37.1 :: L) := hH42
    obtain ⟨x43, h44, h45⟩ := K49
    refine C_seq ?_
    refine C_seq ?_
    refine C_region ?_
    refine V_y (Y_move rfl) rfl rfl rfl ?_
    refine V_y (Y_geq rfl rfl) rfl rfl rfl ?_
    refine V_to (fun _ _ => rfl) ?_
    refine C_cond rfl (fun hc50 => ?_) (fun hc50 => ?_)
    · rw [if_pos hc50] at h44
      refine C_skip_to (fun _ _ => rfl) ?_
      refine C_seq ?_
      obtain ⟨s52, ho51, h44⟩ := Option.bind_eq_some_iff.1 h44
      refine C_cutG (ι := (Value × (Nat → Prop))) (fun ⟨v54, A59⟩ => [(0, v_a_), (1, v_b), (5, v54), (6, .int .i64 s37.2)]) (fun ⟨v54, A59⟩ => fun w' => Hp B A59 w' (obSS (α := Int) 38 3 v54 s52 :: L) ∧ Tr Dw B A41 w38 A59 w') ?_ ?_
      · have hr53 : Tr Dw B A41 w38 A41 w38 := Tr.refl (Dw := Dw) hA
        refine C_block ?_
        refine C_seq ?_
        refine C_region ?_
        refine V_y (Y_move rfl) rfl rfl rfl ?_
        refine V_y (Y_move rfl) rfl rfl rfl ?_
        refine V_y (Y_move rfl) rfl rfl rfl ?_
        refine V_y (Y_lenSl h_b rfl Tryd.underlying30 rfl) rfl rfl rfl ?_
        refine V_y (Y_addI rfl rfl) rfl rfl rfl ?_
        obtain ⟨x61, hx61, ho51⟩ := Option.bind_eq_some_iff.1 ho51
        refine V_makeH (Dw := Dw) (e := 3) (ti := Tryd.t3) hH hx61 (fun _ _ => rfl) Tryd.underlying38 Tryd_info3 rfl rfl rfl (by decide) (by decide) hB hA rfl rfl rfl ?_
        intro v62 w63 A64 hH65 ht66
        replace h_a_ := Sl.tr (Dw := Dw) h_a_ ht66
        replace h_b := Sl.tr (Dw := Dw) h_b ht66
        replace hK := Tr.trans (Dw := Dw) hK ht66
        replace hr28 := Tr.trans (Dw := Dw) hr28 ht66
        replace hr53 := Tr.trans (Dw := Dw) hr53 ht66
        replace hB := Nat.le_trans hB ht66.ex.size
        replace hA := ht66.new
        replace hH : Hp B A64 w63 (obS (α := Int) 3 v62 x61 :: obSS (α := Int) 38 3 v39 s37.1 :: L) := hH65
        obtain ⟨x67, hx67, ho51⟩ := Option.bind_eq_some_iff.1 ho51
        refine V_indexAddrSS (α := Int) (e := 38) (v := v39) (l := s37.1) hH (i := 1) rfl hx67 Tryd.underlying32 Tryd.sizeOf38 rfl rfl rfl ?_
        intro b68 o69 h70 hl71
        replace hH : Hp B A64 w63 (obSS (α := Int) 38 3 v39 s37.1 :: obS (α := Int) 3 v62 x61 :: L) := Hp.front hH (i := 1) rfl
        obtain ⟨x72, hx72, ho51⟩ := Option.bind_eq_some_iff.1 ho51
        refine V_storeSN (Dw := Dw) (α := Int) (e := 38) (e2 := 3) (v := v39) (l := s37.1) (ix := s37.2) (nv := v62) (c' := x61) hH hl71 hx72 Tryd.sizeOf38 rfl hB hA rfl rfl ?_
        intro w73 hH74 ht75
        replace h_a_ := Sl.tr (Dw := Dw) h_a_ ht75
        replace h_b := Sl.tr (Dw := Dw) h_b ht75
        replace hK := Tr.trans (Dw := Dw) hK ht75
        replace hr28 := Tr.trans (Dw := Dw) hr28 ht75
        replace hr53 := Tr.trans (Dw := Dw) hr53 ht75
        replace hB := Nat.le_trans hB ht75.ex.size
        replace hA := ht75.new
        replace hH : Hp B A64 w73 (obSS (α := Int) 38 3 v39 x72 :: L) := hH74
        refine V_to (fun _ _ => rfl) ?_
        refine C_seq ?_
        refine C_region ?_
        refine V_y (Y_move rfl) rfl rfl rfl ?_
        refine V_y (Y_lenSl h_b rfl Tryd.underlying30 rfl) rfl rfl rfl ?_
        refine V_y (Y_subI rfl rfl) rfl rfl rfl ?_
        refine V_y (Y_assign rfl) rfl rfl rfl ?_
        refine V_to (fun _ _ => rfl) ?_
        obtain ⟨o76, ho76, ho51⟩ := Option.bind_eq_some_iff.1 ho51
        refine C_cutG (ι := (((List (List Int)) × Int) × Value × (Nat → Prop))) (fun ⟨s77, v83, A85⟩ => [(0, v_a_), (1, v_b), (5, v83), (6, .int .i64 s37.2)]) (fun ⟨s77, v83, A85⟩ => fun w' => o76 = .fin s77 ∧ Hp B A85 w' (obSS (α := Int) 38 3 v83 s77.1 :: L) ∧ Tr Dw B A64 w73 A85 w') ?_ ?_
        · refine C_block ?_
          refine C_while ho76 (fun s87 a w' => ∃ i : (Value × (Nat → Prop)), Has ⟨90, [], none⟩ a ([(0, v_a_), (1, v_b), (5, i.1), (6, .int .i64 s37.2), (7, .int .i64 s87.2)]) ∧ Hp B i.2 w' (obSS (α := Int) 38 3 i.1 s87.1 :: L) ∧ Tr Dw B A64 w73 i.2 w') (fun a ha => ⟨(v39, A64), ha.sub ⟨rfl, rfl, rfl, rfl, rfl, trivial⟩, ⟨hH, Tr.refl (Dw := Dw) hA⟩⟩) ?_
          rintro K s87 a w88 ⟨⟨v89, A91⟩, ha217, hH92, hr78⟩ K99
          refine C_of ?_ ha217
          replace h_a_ := Sl.tr (Dw := Dw) h_a_ hr78
          replace h_b := Sl.tr (Dw := Dw) h_b hr78
          replace hK := Tr.trans (Dw := Dw) hK hr78
          replace hr28 := Tr.trans (Dw := Dw) hr28 hr78
          replace hr53 := Tr.trans (Dw := Dw) hr53 hr78
          replace hB := Nat.le_trans hB hr78.ex.size
          replace hA := hr78.new
          replace hH : Hp B A91 w88 (obSS (α := Int) 38 3 v89 s87.1 :: L) := hH92
          obtain ⟨x93, h94, h95⟩ := K99
          refine C_seq ?_
          refine C_seq ?_
          refine C_region ?_
          refine V_y (Y_move rfl) rfl rfl rfl ?_
          refine V_y (Y_geq rfl rfl) rfl rfl rfl ?_
          refine V_to (fun _ _ => rfl) ?_
          refine C_cond rfl (fun hc100 => ?_) (fun hc100 => ?_)
          · rw [if_pos hc100] at h94
            refine C_skip_to (fun _ _ => rfl) ?_
            refine C_seq ?_
            obtain ⟨s102, ho101, h94⟩ := Option.bind_eq_some_iff.1 h94
            refine C_cutG (ι := (Value × (Nat → Prop))) (fun ⟨v104, A109⟩ => [(0, v_a_), (1, v_b), (5, v104), (6, .int .i64 s37.2), (7, .int .i64 s87.2)]) (fun ⟨v104, A109⟩ => fun w' => Hp B A109 w' (obSS (α := Int) 38 3 v104 s102 :: L) ∧ Tr Dw B A91 w88 A109 w') ?_ ?_
            · have hr103 : Tr Dw B A91 w88 A91 w88 := Tr.refl (Dw := Dw) hA
              refine C_block ?_
              refine C_seq ?_
              refine C_region_q (Dw := Dw) Tryd_mixed (by kernel_rfl) ?_
              refine VQ_y (fun w' hw' => Y_move rfl) rfl rfl rfl ?_
              refine VQ_y (fun w' hw' => Y_move rfl) rfl rfl rfl ?_
              obtain ⟨x111, hx111, ho101⟩ := Option.bind_eq_some_iff.1 ho101
              refine VQ_indexAddr h_a_ hx111 Tryd.underlying30 Tryd.sizeOf9 rfl rfl rfl ?_
              intro b112 o113 h114
              refine VQ_y (fun w' hw' => Y_load (El.str (El.kp (Dw := Dw) h114 hw')) Tryd.isAgg9 rfl) rfl rfl rfl ?_
              refine VQ_y (fun w' hw' => Y_move rfl) rfl rfl rfl ?_
              refine VQ_y (fun w' hw' => Y_move rfl) rfl rfl rfl ?_
              obtain ⟨x115, hx115, ho101⟩ := Option.bind_eq_some_iff.1 ho101
              refine VQ_indexAddr h_b hx115 Tryd.underlying30 Tryd.sizeOf9 rfl rfl rfl ?_
              intro b116 o117 h118
              refine VQ_y (fun w' hw' => Y_load (El.str (El.kp (Dw := Dw) h118 hw')) Tryd.isAgg9 rfl) rfl rfl rfl ?_
              refine VQ_y (fun w' hw' => Y_seql rfl rfl) rfl rfl rfl ?_
              refine VQ_to (fun _ _ => rfl) (fun w119 hk120 => ?_)
              have ht121 := Kp.tr (Dw := Dw) hk120 hA hB
              replace hH := Hp.kp (Dw := Dw) hH hk120
              replace h_a_ := Sl.tr (Dw := Dw) h_a_ ht121
              replace h_b := Sl.tr (Dw := Dw) h_b ht121
              replace hK := Tr.trans (Dw := Dw) hK ht121
              replace hr28 := Tr.trans (Dw := Dw) hr28 ht121
              replace hr53 := Tr.trans (Dw := Dw) hr53 ht121
              replace hr78 := Tr.trans (Dw := Dw) hr78 ht121
              replace hr103 := Tr.trans (Dw := Dw) hr103 ht121
              replace hB := Nat.le_trans hB ht121.ex.size
              replace hA := ht121.new
              obtain ⟨s123, ho122, ho101⟩ := Option.bind_eq_some_iff.1 ho101
              refine C_cutG (ι := (Value × (Nat → Prop))) (fun ⟨v125, A130⟩ => [(0, v_a_), (1, v_b), (5, v125), (6, .int .i64 s37.2), (7, .int .i64 s87.2)]) (fun ⟨v125, A130⟩ => fun w' => Hp B A130 w' (obSS (α := Int) 38 3 v125 s123 :: L) ∧ Tr Dw B A91 w119 A130 w') ?_ ?_
              · have hr124 : Tr Dw B A91 w119 A91 w119 := Tr.refl (Dw := Dw) hA
                refine C_cond rfl (fun hc132 => ?_) (fun hc132 => ?_)
                · rw [if_pos hc132] at ho122
                  obtain ⟨vs133, hl134, hH⟩ := Hp.ssOpen (α := Int) (e := 38) (e2 := 3) (v := v89) (l := s87.1) hH (i := 0) rfl
                  replace hH : Hp B A91 w119 (obS (α := Sv) 38 v89 vs133 :: obZ (α := Int) 3 vs133 s87.1 :: L) := hH
                  refine C_region_qt (Dw := Dw) 16 Tryd_mixed (by kernel_rfl) ?_
                  simp only [List.take, List.drop]
                  refine VQ_y (fun w' hw' => Y_move rfl) rfl rfl rfl ?_
                  refine VQ_y (fun w' hw' => Y_move rfl) rfl rfl rfl ?_
                  obtain ⟨x135, hx135, ho122⟩ := Option.bind_eq_some_iff.1 ho122
                  obtain ⟨y140, hy141⟩ := ssIdx hx135 hl134
                  refine VQ_indexAddrH (α := Sv) (e := 38) (v := v89) (l := vs133) hH (i := 0) rfl hy141 Tryd.underlying32 Tryd.sizeOf38 rfl rfl rfl ?_
                  intro b136 o137 h138 hl139
                  have h142 : Sl (α := Int) (fun _ => True) w119 y140.v x135 := (Hp.zTake hH (i := 1) rfl hx135 hy141).any (i := 0) rfl
                  refine VQ_y (fun w' hw' => Y_load (El.sv (El.kp (Dw := Dw) h138 hw')) Tryd.isAgg38 rfl) rfl rfl rfl ?_
                  refine VQ_y (fun w' hw' => Y_move rfl) rfl rfl rfl ?_
                  refine VQ_y (fun w' hw' => Y_move rfl) rfl rfl rfl ?_
                  refine VQ_y (fun w' hw' => Y_move rfl) rfl rfl rfl ?_
                  refine VQ_y (fun w' hw' => Y_addI rfl rfl) rfl rfl rfl ?_
                  obtain ⟨x143, hx143, ho122⟩ := Option.bind_eq_some_iff.1 ho122
                  obtain ⟨y148, hy149⟩ := ssIdx hx143 hl134
                  refine VQ_indexAddrH (α := Sv) (e := 38) (v := v89) (l := vs133) hH (i := 0) rfl hy149 Tryd.underlying32 Tryd.sizeOf38 rfl rfl rfl ?_
                  intro b144 o145 h146 hl147
                  have h150 : Sl (α := Int) (fun _ => True) w119 y148.v x143 := (Hp.zTake hH (i := 1) rfl hx143 hy149).any (i := 0) rfl
                  refine VQ_y (fun w' hw' => Y_load (El.sv (El.kp (Dw := Dw) h146 hw')) Tryd.isAgg38 rfl) rfl rfl rfl ?_
                  refine VQ_y (fun w' hw' => Y_move rfl) rfl rfl rfl ?_
                  refine VQ_y (fun w' hw' => Y_addI rfl rfl) rfl rfl rfl ?_
                  obtain ⟨x151, hx151, ho122⟩ := Option.bind_eq_some_iff.1 ho122
                  refine VQ_indexAddr h150 hx151 Tryd.underlying38 Tryd.sizeOf3 rfl rfl rfl ?_
                  intro b152 o153 h154
                  refine VQ_y (fun w' hw' => Y_load (El.int (El.kp (Dw := Dw) h154 hw')) Tryd.isAgg3 rfl) rfl rfl rfl ?_
                  refine VQ_y (fun w' hw' => Y_addI rfl rfl) rfl rfl rfl ?_
                  obtain ⟨x155, hx155, ho122⟩ := Option.bind_eq_some_iff.1 ho122
                  replace hH : Hp B A91 w119 (obS (α := Int) 3 y140.v x135 :: obS (α := Sv) 38 v89 vs133 :: obZX (α := Int) 3 vs133 s87.1 (Int.toNat s37.2) :: L) := Hp.zTake hH (i := 1) rfl hx135 hy141
                  refine VQ_indexAddrH (α := Int) (e := 3) (v := y140.v) (l := x135) hH (i := 0) rfl hx155 Tryd.underlying38 Tryd.sizeOf3 rfl rfl rfl ?_
                  intro b156 o157 h158 hl159
                  refine VQ_tail (fun w160 hk161 => ?_)
                  try simp only [List.take, List.drop]
                  have ht162 := Kp.tr (Dw := Dw) hk161 hA hB
                  replace hH := Hp.kp (Dw := Dw) hH hk161
                  replace h_a_ := Sl.tr (Dw := Dw) h_a_ ht162
                  replace h_b := Sl.tr (Dw := Dw) h_b ht162
                  replace h138 := El.kp (Dw := Dw) h138 hk161
                  replace h142 := Sl.kp (Dw := Dw) h142 hk161
                  replace h146 := El.kp (Dw := Dw) h146 hk161
                  replace h150 := Sl.kp (Dw := Dw) h150 hk161
                  replace h154 := El.kp (Dw := Dw) h154 hk161
                  replace h158 := El.kp (Dw := Dw) h158 hk161
                  replace hK := Tr.trans (Dw := Dw) hK ht162
                  replace hr28 := Tr.trans (Dw := Dw) hr28 ht162
                  replace hr53 := Tr.trans (Dw := Dw) hr53 ht162
                  replace hr78 := Tr.trans (Dw := Dw) hr78 ht162
                  replace hr103 := Tr.trans (Dw := Dw) hr103 ht162
                  replace hr124 := Tr.trans (Dw := Dw) hr124 ht162
                  replace hB := Nat.le_trans hB ht162.ex.size
                  replace hA := ht162.new
                  obtain ⟨x163, hx163, ho122⟩ := Option.bind_eq_some_iff.1 ho122
                  refine V_storeH (Dw := Dw) (α := Int) (e := 3) (v := y140.v) (l := x135) hH (i := 0) rfl hl159 hx163 rfl Tryd.sizeOf3 rfl hB hA rfl rfl ?_
                  intro w164 hH165 ht166
                  replace h_a_ := Sl.tr (Dw := Dw) h_a_ ht166
                  replace h_b := Sl.tr (Dw := Dw) h_b ht166
                  replace hK := Tr.trans (Dw := Dw) hK ht166
                  replace hr28 := Tr.trans (Dw := Dw) hr28 ht166
                  replace hr53 := Tr.trans (Dw := Dw) hr53 ht166
                  replace hr78 := Tr.trans (Dw := Dw) hr78 ht166
                  replace hr103 := Tr.trans (Dw := Dw) hr103 ht166
                  replace hr124 := Tr.trans (Dw := Dw) hr124 ht166
                  replace hB := Nat.le_trans hB ht166.ex.size
                  replace hA := ht166.new
                  replace hH : Hp B A91 w164 (obS (α := Int) 3 y140.v x163 :: obS (α := Sv) 38 v89 vs133 :: obZX (α := Int) 3 vs133 s87.1 (Int.toNat s37.2) :: L) := hH165
                  obtain ⟨x167, hx167, ho122⟩ := Option.bind_eq_some_iff.1 ho122
                  replace hH : Hp B A91 w164 (obSS (α := Int) 38 3 v89 x167 :: L) := Hp.ssBackW (ix := s37.2) (y := y140) hH (i := 2) (j := 0) (k := 0) rfl rfl rfl hx135 hy141 hl134 hx167
                  obtain rfl := Option.some.inj ho122
                  refine V_end (fun a ha168 => ?_)
                  exact ⟨(v89, A91), ha168.sub ⟨rfl, rfl, rfl, rfl, rfl, trivial⟩, ⟨hH, hr124⟩⟩
                · rw [if_neg (nt hc132)] at ho122
                  obtain ⟨vs169, hl170, hH⟩ := Hp.ssOpen (α := Int) (e := 38) (e2 := 3) (v := v89) (l := s87.1) hH (i := 0) rfl
                  replace hH : Hp B A91 w119 (obS (α := Sv) 38 v89 vs169 :: obZ (α := Int) 3 vs169 s87.1 :: L) := hH
                  refine C_region_qt (Dw := Dw) 23 Tryd_mixed (by kernel_rfl) ?_
                  simp only [List.take, List.drop]
                  refine VQ_y (fun w' hw' => Y_move rfl) rfl rfl rfl ?_
                  refine VQ_y (fun w' hw' => Y_move rfl) rfl rfl rfl ?_
                  obtain ⟨x171, hx171, ho122⟩ := Option.bind_eq_some_iff.1 ho122
                  obtain ⟨y176, hy177⟩ := ssIdx hx171 hl170
                  refine VQ_indexAddrH (α := Sv) (e := 38) (v := v89) (l := vs169) hH (i := 0) rfl hy177 Tryd.underlying32 Tryd.sizeOf38 rfl rfl rfl ?_
                  intro b172 o173 h174 hl175
                  have h178 : Sl (α := Int) (fun _ => True) w119 y176.v x171 := (Hp.zTake hH (i := 1) rfl hx171 hy177).any (i := 0) rfl
                  refine VQ_y (fun w' hw' => Y_load (El.sv (El.kp (Dw := Dw) h174 hw')) Tryd.isAgg38 rfl) rfl rfl rfl ?_
                  refine VQ_y (fun w' hw' => Y_move rfl) rfl rfl rfl ?_
                  refine VQ_y (fun w' hw' => Y_move rfl) rfl rfl rfl ?_
                  refine VQ_y (fun w' hw' => Y_move rfl) rfl rfl rfl ?_
                  refine VQ_y (fun w' hw' => Y_addI rfl rfl) rfl rfl rfl ?_
                  obtain ⟨x179, hx179, ho122⟩ := Option.bind_eq_some_iff.1 ho122
                  obtain ⟨y184, hy185⟩ := ssIdx hx179 hl170
                  refine VQ_indexAddrH (α := Sv) (e := 38) (v := v89) (l := vs169) hH (i := 0) rfl hy185 Tryd.underlying32 Tryd.sizeOf38 rfl rfl rfl ?_
                  intro b180 o181 h182 hl183
                  have h186 : Sl (α := Int) (fun _ => True) w119 y184.v x179 := (Hp.zTake hH (i := 1) rfl hx179 hy185).any (i := 0) rfl
                  refine VQ_y (fun w' hw' => Y_load (El.sv (El.kp (Dw := Dw) h182 hw')) Tryd.isAgg38 rfl) rfl rfl rfl ?_
                  refine VQ_y (fun w' hw' => Y_move rfl) rfl rfl rfl ?_
                  obtain ⟨x187, hx187, ho122⟩ := Option.bind_eq_some_iff.1 ho122
                  refine VQ_indexAddr h186 hx187 Tryd.underlying38 Tryd.sizeOf3 rfl rfl rfl ?_
                  intro b188 o189 h190
                  refine VQ_y (fun w' hw' => Y_load (El.int (El.kp (Dw := Dw) h190 hw')) Tryd.isAgg3 rfl) rfl rfl rfl ?_
                  refine VQ_y (fun w' hw' => Y_move rfl) rfl rfl rfl ?_
                  refine VQ_y (fun w' hw' => Y_move rfl) rfl rfl rfl ?_
                  refine VQ_indexAddrH (α := Sv) (e := 38) (v := v89) (l := vs169) hH (i := 0) rfl hy177 Tryd.underlying32 Tryd.sizeOf38 rfl rfl rfl ?_
                  intro b191 o192 h193 hl194
                  have h195 : Sl (α := Int) (fun _ => True) w119 y176.v x171 := (Hp.zTake hH (i := 1) rfl hx171 hy177).any (i := 0) rfl
                  refine VQ_y (fun w' hw' => Y_load (El.sv (El.kp (Dw := Dw) h193 hw')) Tryd.isAgg38 rfl) rfl rfl rfl ?_
                  refine VQ_y (fun w' hw' => Y_move rfl) rfl rfl rfl ?_
                  refine VQ_y (fun w' hw' => Y_addI rfl rfl) rfl rfl rfl ?_
                  obtain ⟨x196, hx196, ho122⟩ := Option.bind_eq_some_iff.1 ho122
                  refine VQ_indexAddr h195 hx196 Tryd.underlying38 Tryd.sizeOf3 rfl rfl rfl ?_
                  intro b197 o198 h199
                  refine VQ_y (fun w' hw' => Y_load (El.int (El.kp (Dw := Dw) h199 hw')) Tryd.isAgg3 rfl) rfl rfl rfl ?_
                  refine VQ_y (fun w' hw' => Y_max2 rfl rfl) rfl rfl rfl ?_
                  obtain ⟨x200, hx200, ho122⟩ := Option.bind_eq_some_iff.1 ho122
                  replace hH : Hp B A91 w119 (obS (α := Int) 3 y176.v x171 :: obS (α := Sv) 38 v89 vs169 :: obZX (α := Int) 3 vs169 s87.1 (Int.toNat s37.2) :: L) := Hp.zTake hH (i := 1) rfl hx171 hy177
                  refine VQ_indexAddrH (α := Int) (e := 3) (v := y176.v) (l := x171) hH (i := 0) rfl hx200 Tryd.underlying38 Tryd.sizeOf3 rfl rfl rfl ?_
                  intro b201 o202 h203 hl204
                  refine VQ_tail (fun w205 hk206 => ?_)
                  try simp only [List.take, List.drop]
                  have ht207 := Kp.tr (Dw := Dw) hk206 hA hB
                  replace hH := Hp.kp (Dw := Dw) hH hk206
                  replace h_a_ := Sl.tr (Dw := Dw) h_a_ ht207
                  replace h_b := Sl.tr (Dw := Dw) h_b ht207
                  replace h174 := El.kp (Dw := Dw) h174 hk206
                  replace h178 := Sl.kp (Dw := Dw) h178 hk206
                  replace h182 := El.kp (Dw := Dw) h182 hk206
                  replace h186 := Sl.kp (Dw := Dw) h186 hk206
                  replace h190 := El.kp (Dw := Dw) h190 hk206
                  replace h193 := El.kp (Dw := Dw) h193 hk206
                  replace h195 := Sl.kp (Dw := Dw) h195 hk206
                  replace h199 := El.kp (Dw := Dw) h199 hk206
                  replace h203 := El.kp (Dw := Dw) h203 hk206
                  replace hK := Tr.trans (Dw := Dw) hK ht207
                  replace hr28 := Tr.trans (Dw := Dw) hr28 ht207
                  replace hr53 := Tr.trans (Dw := Dw) hr53 ht207
                  replace hr78 := Tr.trans (Dw := Dw) hr78 ht207
                  replace hr103 := Tr.trans (Dw := Dw) hr103 ht207
                  replace hr124 := Tr.trans (Dw := Dw) hr124 ht207
                  replace hB := Nat.le_trans hB ht207.ex.size
                  replace hA := ht207.new
                  obtain ⟨x208, hx208, ho122⟩ := Option.bind_eq_some_iff.1 ho122
                  refine V_storeH (Dw := Dw) (α := Int) (e := 3) (v := y176.v) (l := x171) hH (i := 0) rfl hl204 hx208 rfl Tryd.sizeOf3 rfl hB hA rfl rfl ?_
                  intro w209 hH210 ht211
                  replace h_a_ := Sl.tr (Dw := Dw) h_a_ ht211
                  replace h_b := Sl.tr (Dw := Dw) h_b ht211
                  replace hK := Tr.trans (Dw := Dw) hK ht211
                  replace hr28 := Tr.trans (Dw := Dw) hr28 ht211
                  replace hr53 := Tr.trans (Dw := Dw) hr53 ht211
                  replace hr78 := Tr.trans (Dw := Dw) hr78 ht211
                  replace hr103 := Tr.trans (Dw := Dw) hr103 ht211
                  replace hr124 := Tr.trans (Dw := Dw) hr124 ht211
                  replace hB := Nat.le_trans hB ht211.ex.size
                  replace hA := ht211.new
                  replace hH : Hp B A91 w209 (obS (α := Int) 3 y176.v x208 :: obS (α := Sv) 38 v89 vs169 :: obZX (α := Int) 3 vs169 s87.1 (Int.toNat s37.2) :: L) := hH210
                  obtain ⟨x212, hx212, ho122⟩ := Option.bind_eq_some_iff.1 ho122
                  replace hH : Hp B A91 w209 (obSS (α := Int) 38 3 v89 x212 :: L) := Hp.ssBackW (ix := s37.2) (y := y176) hH (i := 2) (j := 0) (k := 0) rfl rfl rfl hx171 hy177 hl170 hx212
                  obtain rfl := Option.some.inj ho122
                  refine V_end (fun a ha213 => ?_)
                  exact ⟨(v89, A91), ha213.sub ⟨rfl, rfl, rfl, rfl, rfl, trivial⟩, ⟨hH, hr124⟩⟩
              rintro ⟨v125, A130⟩ w127 ⟨hH131, hk128⟩ a ha129
              replace h_a_ := Sl.tr (Dw := Dw) h_a_ hk128
              replace h_b := Sl.tr (Dw := Dw) h_b hk128
              replace hK := Tr.trans (Dw := Dw) hK hk128
              replace hr28 := Tr.trans (Dw := Dw) hr28 hk128
              replace hr53 := Tr.trans (Dw := Dw) hr53 hk128
              replace hr78 := Tr.trans (Dw := Dw) hr78 hk128
              replace hr103 := Tr.trans (Dw := Dw) hr103 hk128
              replace hB := Nat.le_trans hB hk128.ex.size
              replace hA := hk128.new
              replace hH : Hp B A130 w127 (obSS (α := Int) 38 3 v125 s123 :: L) := hH131
              obtain rfl := Option.some.inj ho101
              exact ⟨(v125, A130), ha129.sub ⟨rfl, rfl, rfl, rfl, rfl, trivial⟩, ⟨hH, hr103⟩⟩
            rintro ⟨v104, A109⟩ w106 ⟨hH110, hk107⟩ a ha108
            replace h_a_ := Sl.tr (Dw := Dw) h_a_ hk107
            replace h_b := Sl.tr (Dw := Dw) h_b hk107
            replace hK := Tr.trans (Dw := Dw) hK hk107
            replace hr28 := Tr.trans (Dw := Dw) hr28 hk107
            replace hr53 := Tr.trans (Dw := Dw) hr53 hk107
            replace hr78 := Tr.trans (Dw := Dw) hr78 hk107
            replace hB := Nat.le_trans hB hk107.ex.size
            replace hA := hk107.new
            replace hH : Hp B A109 w106 (obSS (α := Int) 38 3 v104 s102 :: L) := hH110
            refine C_at (n := ⟨90, [], none⟩) (fun _ _ => rfl) ?_ ha108
            refine C_region ?_
            refine V_y (Y_move rfl) rfl rfl rfl ?_
            refine V_y (Y_subI rfl rfl) rfl rfl rfl ?_
            refine V_y (Y_assign rfl) rfl rfl rfl ?_
            obtain rfl := Option.some.inj h94
            refine V_end (fun a ha215 => ?_)
            exact ⟨(s102, w64 (s87.2 - 1)), h95, ⟨(v104, A109), ha215.sub ⟨rfl, rfl, rfl, rfl, rfl, trivial⟩, ⟨hH, hr78⟩⟩⟩
          · rw [if_neg (nt hc100)] at h94
            obtain rfl := Option.some.inj h94
            refine C_exit (fun a ha216 => ?_)
            exact ⟨((s87.1, s87.2), v89, A91), ha216.sub ⟨rfl, rfl, rfl, rfl, trivial⟩, ⟨h95.symm, hH, hr78⟩⟩
        rintro ⟨s77, v83, A85⟩ w80 ⟨rfl, hH86, hk81⟩ a ha82
        rw [Lp.andThen_fin] at ho51
        replace h_a_ := Sl.tr (Dw := Dw) h_a_ hk81
        replace h_b := Sl.tr (Dw := Dw) h_b hk81
        replace hK := Tr.trans (Dw := Dw) hK hk81
        replace hr28 := Tr.trans (Dw := Dw) hr28 hk81
        replace hr53 := Tr.trans (Dw := Dw) hr53 hk81
        replace hB := Nat.le_trans hB hk81.ex.size
        replace hA := hk81.new
        replace hH : Hp B A85 w80 (obSS (α := Int) 38 3 v83 s77.1 :: L) := hH86
        obtain rfl := Option.some.inj ho51
        exact ⟨(v83, A85), ha82.sub ⟨rfl, rfl, rfl, rfl, trivial⟩, ⟨hH, hr53⟩⟩
      rintro ⟨v54, A59⟩ w56 ⟨hH60, hk57⟩ a ha58
      replace h_a_ := Sl.tr (Dw := Dw) h_a_ hk57
      replace h_b := Sl.tr (Dw := Dw) h_b hk57
      replace hK := Tr.trans (Dw := Dw) hK hk57
      replace hr28 := Tr.trans (Dw := Dw) hr28 hk57
      replace hB := Nat.le_trans hB hk57.ex.size
      replace hA := hk57.new
      replace hH : Hp B A59 w56 (obSS (α := Int) 38 3 v54 s52 :: L) := hH60
      refine C_at (n := ⟨90, [], none⟩) (fun _ _ => rfl) ?_ ha58
      refine C_region ?_
      refine V_y (Y_move rfl) rfl rfl rfl ?_
      refine V_y (Y_subI rfl rfl) rfl rfl rfl ?_
      refine V_y (Y_assign rfl) rfl rfl rfl ?_
      obtain rfl := Option.some.inj h44
      refine V_end (fun a ha219 => ?_)
      exact ⟨(s52, w64 (s37.2 - 1)), h45, ⟨(v54, A59), ha219.sub ⟨rfl, rfl, rfl, rfl, trivial⟩, ⟨hH, hr28⟩⟩⟩
    · rw [if_neg (nt hc50)] at h44
      obtain rfl := Option.some.inj h44
      refine C_exit (fun a ha220 => ?_)
      exact ⟨((s37.1, s37.2), v39, A41), ha220.sub ⟨rfl, trivial⟩, ⟨h45.symm, hH, hr28⟩⟩
  rintro ⟨s27, v33, A35⟩ w30 ⟨rfl, hH36, hk31⟩ a ha32
  rw [Lp.andThen_fin] at hm
  replace hK := Tr.trans (Dw := Dw) hK hk31
  replace hB := Nat.le_trans hB hk31.ex.size
  replace hA := hk31.new
  replace hH : Hp B A35 w30 (obSS (α := Int) 38 3 v33 s27.1 :: L) := hH36
  refine C_at (n := ⟨90, [], none⟩) (fun _ _ => rfl) ?_ ha32
  refine C_seq ?_
  refine C_region ?_
  refine V_y (Y_move rfl) rfl rfl rfl ?_
  refine V_y (Y_assign rfl) rfl rfl rfl ?_
  refine V_to (fun _ _ => rfl) ?_
  obtain rfl := Option.some.inj hm
  refine C_ret ?_
  try simp only [↓inBlock_ret, ↓then_ret]
  exact retQ rfl (Res.one Tryd.results10 rfl) ⟨v33, A35, rfl, hH, hK⟩

set_option maxRecDepth 4000 in
set_option maxHeartbeats 4000000 in
theorem slices_Clone_Lstring_string_c (w : World) {A : Nat → Prop} (hA : ∀ b, w.heap.size ≤ b → A b) (s : (List ByteArray)) (v_s : Value) (h_s : Sl A w v_s s) {r : (List ByteArray)} (hm : slices_Clone_Lstring_string s = some r) : Ret Tryd.prog 12 #[v_s] w fun v w' => ∃ s0, v = s0 ∧ Ownd 9 w w' s0 r ∧ Kp Dw w w' := by
  unfold slices_Clone_Lstring_string at hm
  refine enter Tryd.func12 rfl Tryd.ntmps12 rfl ?_
  have hA0 := hA
  have hB := Nat.le_refl w.heap.size
  have hK : Tr Dw w.heap.size A w A w := Tr.refl (Dw := Dw) hA
  have hH : Hp w.heap.size A w [] := Hp.nil
  rcases Sl.split h_s with ⟨rfl, rfl⟩ | ⟨a0, n0, c0, rfl⟩
  · replace hm : some ([] : (List ByteArray)) = some r := by simpa [appendL] using hm
    refine C_seq ?_
    refine C_region ?_
    refine V_y (Y_assign rfl) rfl rfl rfl ?_
    refine V_to (fun _ _ => rfl) ?_
    refine C_seq ?_
    refine C_seq ?_
    refine C_region ?_
    refine V_y (Y_move rfl) rfl rfl rfl ?_
    refine V_y (Y_eqlNilT rfl rfl Tryd.underlying30) rfl rfl rfl ?_
    refine V_to (fun _ _ => rfl) ?_
    refine C_cond rfl (fun hc => ?_) (fun hc => ?_)
    · refine C_seq ?_
      refine C_region ?_
      refine V_y (Y_assign rfl) rfl rfl rfl ?_
      refine V_to (fun _ _ => rfl) ?_
      obtain rfl := Option.some.inj hm
      replace hH : Hp w.heap.size A w (obS (α := ByteArray) 9 (.slice none 0 0) ([] : (List ByteArray)) :: []) := Hp.addNil (α := ByteArray) (e := 9) hH
      refine C_ret ?_
      try simp only [↓inBlock_ret, ↓then_ret]
      exact retQ rfl (Res.one Tryd.results12 rfl) ⟨.slice none 0 0, rfl, (Hp.ownd hH (i := 0) rfl), hK.kp⟩
    · exact absurd hc (by decide)
  · refine C_seq ?_
    refine C_region ?_
    refine V_y (Y_assign rfl) rfl rfl rfl ?_
    refine V_to (fun _ _ => rfl) ?_
    refine C_seq ?_
    refine C_seq ?_
    refine C_region ?_
    refine V_y (Y_move rfl) rfl rfl rfl ?_
    refine V_y (Y_eqlNilF rfl rfl Tryd.underlying30) rfl rfl rfl ?_
    refine V_to (fun _ _ => rfl) ?_
    refine C_cond rfl (fun hc => ?_) (fun hc => ?_)
    · exact absurd hc (by decide)
    · refine C_skip_to (fun _ _ => rfl) ?_
      refine C_seq ?_
      refine C_region ?_
      refine V_buildOwn0H (Dw := Dw) (α := ByteArray) hH Tryd.underlying30 Tryd.sizeOf9 hB hA rfl ?_
      intro v3 w4 A5 hH6 ht7
      replace h_s := Sl.tr (Dw := Dw) h_s ht7
      replace hK := Tr.trans (Dw := Dw) hK ht7
      replace hB := Nat.le_trans hB ht7.ex.size
      replace hA := ht7.new
      replace hH : Hp w.heap.size A5 w4 (obS (α := ByteArray) 9 v3 ([] : List ByteArray) :: []) := hH6
      refine V_y (Y_move rfl) rfl rfl rfl ?_
      obtain ⟨x8, hx8, hm⟩ := Option.bind_eq_some_iff.1 hm
      refine V_appendH (Dw := Dw) (e := 9) (v := v3) (l := ([] : List ByteArray)) (ti := Tryd.t9) (bytes := 16) (lim := 8796093022208) hH (i := 0) rfl h_s hx8 Tryd.underlying30 Tryd_info9 rfl rfl rfl rfl (by decide) (by decide) (by decide) hB hA rfl rfl rfl ?_
      intro v9 w10 A11 hH12 ht13
      replace h_s := Sl.tr (Dw := Dw) h_s ht13
      replace hK := Tr.trans (Dw := Dw) hK ht13
      replace hB := Nat.le_trans hB ht13.ex.size
      replace hA := ht13.new
      replace hH : Hp w.heap.size A11 w10 (obS (α := ByteArray) 9 v9 x8 :: []) := hH12
      refine V_y (Y_assign rfl) rfl rfl rfl ?_
      refine V_to (fun _ _ => rfl) ?_
      obtain rfl := Option.some.inj hm
      refine C_ret ?_
      try simp only [↓inBlock_ret, ↓then_ret]
      exact retQ rfl (Res.one Tryd.results12 rfl) ⟨v9, rfl, (Hp.ownd hH (i := 0) rfl), hK.kp⟩

set_option maxRecDepth 4000 in
set_option maxHeartbeats 4000000 in
theorem know_Differ_1_c (w : World) {A : Nat → Prop} {B : Nat} (hB : B ≤ w.heap.size) (hA : ∀ b, w.heap.size ≤ b → A b) (k_ : Int) (l : Int) (p2 : Int) (b_p2 : Nat) (p3 : Int) (b_p3 : Nat) (p4 : (List know_Edit)) (b_p4 : Nat) (v_p4 : Value) (p5 : (List ByteArray)) (b_p5 : Nat) (h_p5 : El A w b_p5 0 p5) {L : List Ob} (hH : Hp B A w (obC b_p2 [.int .i64 p2] 3 :: obC b_p3 [.int .i64 p3] 3 :: obC b_p4 [v_p4] 22 :: obS (α := know_Edit) 36 v_p4 p4 :: L)) {r : (Int × Int × (List know_Edit))} (hm : know_Differ_1 k_ l p2 p3 p4 p5 = some r) : Ret Tryd.prog 11 #[.int .i64 k_, .int .i64 l, .pointer (some ⟨b_p2, 0, none⟩), .pointer (some ⟨b_p3, 0, none⟩), .pointer (some ⟨b_p4, 0, none⟩), .pointer (some ⟨b_p5, 0, none⟩)] w fun v w' => ∃ u3_0, ∃ A1 : Nat → Prop, v = .tuple #[] ∧ Hp B A1 w' (obC b_p2 [.int .i64 r.1] 3 :: obC b_p3 [.int .i64 r.2.1] 3 :: obC b_p4 [u3_0] 22 :: obS (α := know_Edit) 36 u3_0 r.2.2 :: L) ∧ Tr Dw B A w A1 w' := by
  unfold know_Differ_1 at hm
  refine enter Tryd.func11 rfl Tryd.ntmps11 rfl ?_
  have hK : Tr Dw B A w A w := Tr.refl (Dw := Dw) hA
  refine C_seq ?_
  refine C_seq ?_
  refine C_region ?_
  refine V_y (Y_move rfl) rfl rfl rfl ?_
  refine V_y (Y_load (Hp.cell (j := 0) hH (i := 0) rfl rfl) Tryd.isAgg3 rfl) rfl rfl rfl ?_
  refine V_y (Y_gtr rfl rfl) rfl rfl rfl ?_
  refine V_y (Y_move rfl) rfl rfl rfl ?_
  refine V_cut 4 (fun _ : Unit => [(0, .int .i64 k_), (1, .int .i64 l), (2, .pointer (some ⟨b_p2, 0, none⟩)), (3, .pointer (some ⟨b_p3, 0, none⟩)), (4, .pointer (some ⟨b_p4, 0, none⟩)), (5, .pointer (some ⟨b_p5, 0, none⟩)), (15, .bool ((decide (p2 < k_)) || (decide (p3 < l))))]) (fun _ w' => w = w') ?_ ?_
  · simp only [List.take, List.drop]
    rcases Bool.eq_false_or_eq_true (decide (p2 < k_)) with hc3 | hc3
    · refine V_gn rfl rfl rfl hc3 rfl rfl rfl ?_
      refine V_gn rfl rfl rfl hc3 rfl rfl rfl ?_
      refine V_gn rfl rfl rfl hc3 rfl rfl rfl ?_
      refine V_y (Y_pick_te rfl hc3 rfl) rfl rfl rfl ?_
      exact V_end fun a ha => ⟨(), ha.sub ⟨rfl, rfl, rfl, rfl, rfl, rfl, (by rw [hc3]; rfl), trivial⟩, rfl⟩
    · refine V_ge rfl rfl rfl hc3 ?_
      refine V_y (Y_move rfl) rfl rfl rfl ?_
      refine V_ge rfl rfl rfl hc3 ?_
      refine V_y (Y_load (Hp.cell (j := 0) hH (i := 1) rfl rfl) Tryd.isAgg3 rfl) rfl rfl rfl ?_
      refine V_ge rfl rfl rfl hc3 ?_
      refine V_y (Y_gtr rfl rfl) rfl rfl rfl ?_
      refine V_y (Y_pick_fe rfl hc3 rfl) rfl rfl rfl ?_
      exact V_end fun a ha => ⟨(), ha.sub ⟨rfl, rfl, rfl, rfl, rfl, rfl, (by rw [hc3]; rfl), trivial⟩, rfl⟩
  simp only [List.take, List.drop]
  rintro _ _ rfl
  refine V_to (fun _ _ => rfl) ?_
  obtain ⟨s6, ho5, hm⟩ := Option.bind_eq_some_iff.1 hm
  refine C_cutG (ι := (Value × (Nat → Prop))) (fun ⟨v8, A13⟩ => [(0, .int .i64 k_), (1, .int .i64 l), (2, .pointer (some ⟨b_p2, 0, none⟩)), (3, .pointer (some ⟨b_p3, 0, none⟩))]) (fun ⟨v8, A13⟩ => fun w' => Hp B A13 w' (obC b_p2 [.int .i64 p2] 3 :: obC b_p3 [.int .i64 p3] 3 :: obC b_p4 [v8] 22 :: obS (α := know_Edit) 36 v8 s6 :: L) ∧ Tr Dw B A w A13 w') ?_ ?_
  · have hr7 : Tr Dw B A w A w := Tr.refl (Dw := Dw) hA
    refine C_cond rfl (fun hc15 => ?_) (fun hc15 => ?_)
    · rw [if_pos hc15] at ho5
      refine C_region_ch (Dw := Dw) A 14 [(0, 0), (0, 1), (1, 2), (0, 3), (1, 4), (1, 5), (0, 6), (1, 7), (1, 8), (2, 9), (1, 10), (2, 11), (4, 12), (4, 13)] Tryd_mixed (by kernel_rfl) (fun w17 hk18 => ?_)
      have ht19 := Kp.tr (Dw := Dw) hk18 hA hB
      replace hH := Hp.kp (Dw := Dw) hH hk18
      replace h_p5 := El.tr (Dw := Dw) h_p5 ht19
      replace hK := Tr.trans (Dw := Dw) hK ht19
      replace hr7 := Tr.trans (Dw := Dw) hr7 ht19
      replace hB := Nat.le_trans hB ht19.ex.size
      replace hA := ht19.new
      refine CH_q1 (Dw := Dw) rfl ?_
      refine VQ_y (fun w' hw' => Y_load ((World.cell?_of_block (hw'.block _ (World.block_lt_of_cell? _ _ (Hp.cell (j := 0) hH (i := 2) rfl rfl)))).trans (Hp.cell (j := 0) hH (i := 2) rfl rfl)) Tryd.isAgg22 rfl) rfl rfl rfl ?_
      refine VQ_CH (Dw := Dw) ?_
      refine CH_q1 (Dw := Dw) rfl ?_
      refine VQ_y (fun w' hw' => Y_load ((World.cell?_of_block (hw'.block _ (World.block_lt_of_cell? _ _ (Hp.cell (j := 0) hH (i := 0) rfl rfl)))).trans (Hp.cell (j := 0) hH (i := 0) rfl rfl)) Tryd.isAgg3 rfl) rfl rfl rfl ?_
      refine VQ_CH (Dw := Dw) ?_
      refine CH_q2 (Dw := Dw) rfl ?_
      refine VQ_y (fun w' hw' => Y_move rfl) rfl rfl rfl ?_
      refine VQ_CH (Dw := Dw) ?_
      refine CH_q1 (Dw := Dw) rfl ?_
      refine VQ_y (fun w' hw' => Y_load ((World.cell?_of_block (hw'.block _ (World.block_lt_of_cell? _ _ (Hp.cell (j := 0) hH (i := 0) rfl rfl)))).trans (Hp.cell (j := 0) hH (i := 0) rfl rfl)) Tryd.isAgg3 rfl) rfl rfl rfl ?_
      refine VQ_CH (Dw := Dw) ?_
      refine CH_q2 (Dw := Dw) rfl ?_
      refine VQ_y (fun w' hw' => Y_subI rfl rfl) rfl rfl rfl ?_
      refine VQ_CH (Dw := Dw) ?_
      refine CH_q2 (Dw := Dw) rfl ?_
      obtain ⟨v20, h21, h22⟩ := El.list h_p5
      refine VQ_y (fun w' hw' => Y_load ((World.cell?_of_block (hw'.2 _ h_p5.2.1 h_p5.1)).trans h21) Tryd.isAgg30 rfl) rfl rfl rfl ?_
      refine VQ_CH (Dw := Dw) ?_
      refine CH_q1 (Dw := Dw) rfl ?_
      refine VQ_y (fun w' hw' => Y_load ((World.cell?_of_block (hw'.block _ (World.block_lt_of_cell? _ _ (Hp.cell (j := 0) hH (i := 1) rfl rfl)))).trans (Hp.cell (j := 0) hH (i := 1) rfl rfl)) Tryd.isAgg3 rfl) rfl rfl rfl ?_
      refine VQ_CH (Dw := Dw) ?_
      refine CH_q2 (Dw := Dw) rfl ?_
      refine VQ_y (fun w' hw' => Y_move rfl) rfl rfl rfl ?_
      refine VQ_CH (Dw := Dw) ?_
      refine CH_q2 (Dw := Dw) rfl ?_
      obtain ⟨x23, hx23, ho5⟩ := Option.bind_eq_some_iff.1 ho5
      obtain ⟨v24, h25, h25y⟩ := sliceL_val hx23 h22
      refine VQ_y (fun w' hw' => Y_sliceLLH h25y Tryd.underlying30 Tryd.sizeOf9 rfl rfl rfl) rfl rfl rfl ?_
      refine VQ_CH (Dw := Dw) ?_
      refine CH_l1 (Dw := Dw) (k := 0) rfl ?_
      obtain ⟨x26, hx26, ho5⟩ := Option.bind_eq_some_iff.1 ho5
      refine V_call Tryd.call12 rfl rfl rfl rfl (slices_Clone_Lstring_string_c (Dw := Dw) w17 hA x23 v24 h25 hx26) ?_
      rintro v27 w29 ⟨_, rfl, h28, hk30⟩
      obtain ⟨A31, ht32, hH33⟩ := Hp.addOwnd (Dw := Dw) hH hB hA hk30 h28
      replace h_p5 := El.tr (Dw := Dw) h_p5 ht32
      replace h22 := Sl.tr (Dw := Dw) h22 ht32
      replace h25 := Sl.tr (Dw := Dw) h25 ht32
      replace hK := Tr.trans (Dw := Dw) hK ht32
      replace hr7 := Tr.trans (Dw := Dw) hr7 ht32
      replace hB := Nat.le_trans hB ht32.ex.size
      replace hA := ht32.new
      replace hH : Hp B A31 w29 (obS (α := ByteArray) 9 v27 x26 :: obC b_p2 [.int .i64 p2] 3 :: obC b_p3 [.int .i64 p3] 3 :: obC b_p4 [v_p4] 22 :: obS (α := know_Edit) 36 v_p4 p4 :: L) := hH33
      refine V_CH (Dw := Dw) (hk30) ?_
      refine CH_q2 (Dw := Dw) rfl ?_
      refine VQ_y (fun w' hw' => Y_build (cells := #[.int .i64 p2, .int .i64 (w64 (k_ - p2)), v27]) Tryd.underlying36 Tryd.zeroValue36 (Tryd_places36 _ Tryd.underlying36) rfl (by obtain ⟨a34, c35, e36, _⟩ := Hp.form (α := ByteArray) (e := 9) (v := v27) (l := x26) hH (i := 0) rfl; subst e36; with_unfolding_all rfl)) rfl rfl rfl ?_
      refine VQ_CH (Dw := Dw) ?_
      refine CH_l1 (Dw := Dw) (k := 0) rfl ?_
      obtain ⟨A37, ht38, h39, hH40⟩ := Hp.freeze (Dw := Dw) (α := ByteArray) (v := v27) (l := x26) hH (i := 0) rfl hA
      replace h_p5 := El.tr (Dw := Dw) h_p5 ht38
      replace h22 := Sl.tr (Dw := Dw) h22 ht38
      replace h25 := Sl.tr (Dw := Dw) h25 ht38
      replace hK := Tr.trans (Dw := Dw) hK ht38
      replace hr7 := Tr.trans (Dw := Dw) hr7 ht38
      replace hB := Nat.le_trans hB ht38.ex.size
      replace hA := ht38.new
      replace hH : Hp B A37 w29 (obC b_p2 [.int .i64 p2] 3 :: obC b_p3 [.int .i64 p3] 3 :: obC b_p4 [v_p4] 22 :: obS (α := know_Edit) 36 v_p4 p4 :: L) := hH40
      refine V_buildSlice (Dw := Dw) (cells := #[.int .i64 p2, .int .i64 (w64 (k_ - p2)), v27]) (l := ([(⟨p2, w64 (k_ - p2), x26⟩ : know_Edit)] : List know_Edit)) (len := 1) Tryd.underlying22 Tryd.sizeOf36 Tryd.zeroValue36 rfl (by obtain ⟨a46, c47, e48, _⟩ := Sl.form h39; subst e48; generalize (w64 (k_ - p2) : Int) = z49; kernel_rfl) (show (1 * 3 : Nat) ≠ 0 by decide) (show (1 * 3 : Nat) ≤ 2 ^ 24 by decide) hA ⟨[.int .i64 p2, .int .i64 (w64 (k_ - p2)), v27], _, rfl, ⟨[.int .i64 p2], _, rfl, rfl, ⟨[.int .i64 (w64 (k_ - p2))], _, rfl, rfl, ⟨_, rfl, h39⟩⟩⟩, rfl⟩ rfl rfl ?_
      intro v42 w43 hk45 h44
      have ht50 := Kp.tr (Dw := Dw) hk45 hA hB
      replace hH := Hp.kp (Dw := Dw) hH hk45
      replace h_p5 := El.tr (Dw := Dw) h_p5 ht50
      replace h22 := Sl.tr (Dw := Dw) h22 ht50
      replace h25 := Sl.tr (Dw := Dw) h25 ht50
      replace h39 := Sl.tr (Dw := Dw) h39 ht50
      replace hK := Tr.trans (Dw := Dw) hK ht50
      replace hr7 := Tr.trans (Dw := Dw) hr7 ht50
      replace hB := Nat.le_trans hB ht50.ex.size
      replace hA := ht50.new
      refine V_CH (Dw := Dw) (hk45) ?_
      refine CH_l1 (Dw := Dw) (k := 2) rfl ?_
      obtain ⟨x51, hx51, ho5⟩ := Option.bind_eq_some_iff.1 ho5
      refine V_appendH (Dw := Dw) (e := 36) (v := v_p4) (l := p4) (ti := Tryd.t36) (bytes := 40) (lim := 3518437208883) hH (i := 3) rfl h44 hx51 Tryd.underlying22 Tryd_info36 rfl rfl rfl rfl (by decide) (by decide) (by decide) hB hA rfl rfl rfl ?_
      intro v52 w53 A54 hH55 ht56
      replace h_p5 := El.tr (Dw := Dw) h_p5 ht56
      replace h22 := Sl.tr (Dw := Dw) h22 ht56
      replace h25 := Sl.tr (Dw := Dw) h25 ht56
      replace h39 := Sl.tr (Dw := Dw) h39 ht56
      replace h44 := Sl.tr (Dw := Dw) h44 ht56
      replace hK := Tr.trans (Dw := Dw) hK ht56
      replace hr7 := Tr.trans (Dw := Dw) hr7 ht56
      replace hB := Nat.le_trans hB ht56.ex.size
      replace hA := ht56.new
      replace hH : Hp B A54 w53 (obC b_p2 [.int .i64 p2] 3 :: obC b_p3 [.int .i64 p3] 3 :: obC b_p4 [v_p4] 22 :: obS (α := know_Edit) 36 v52 x51 :: L) := hH55
      refine V_CHw (Dw := Dw) ?_
      refine CH_l1 (Dw := Dw) (k := 2) rfl ?_
      have h62 : (v52).oneCell' = true := by obtain ⟨_, _, e, _⟩ := Hp.form (α := know_Edit) (e := 36) (v := v52) (l := x51) hH (i := 3) rfl; rw [e]; rfl
      refine V_storeC (Dw := Dw) (off := 0) (ds := [v52]) hH (i := 2) rfl Tryd.sizeOf22 (by rw [← Array.length_toList, Value.cells_one h62]; rfl) (Nat.le_of_ble_eq_true rfl) (by intro u hu; rw [Value.cells_one h62] at hu; simp at hu; subst hu; assumption) (by rw [Value.cells_one h62]; rfl) hB hA rfl rfl ?_
      intro w57 hH58 ht59
      replace h_p5 := El.tr (Dw := Dw) h_p5 ht59
      replace h22 := Sl.tr (Dw := Dw) h22 ht59
      replace h25 := Sl.tr (Dw := Dw) h25 ht59
      replace h39 := Sl.tr (Dw := Dw) h39 ht59
      replace h44 := Sl.tr (Dw := Dw) h44 ht59
      replace hK := Tr.trans (Dw := Dw) hK ht59
      replace hr7 := Tr.trans (Dw := Dw) hr7 ht59
      replace hB := Nat.le_trans hB ht59.ex.size
      replace hA := ht59.new
      replace hH : Hp B A54 w57 (obC b_p2 [.int .i64 p2] 3 :: obC b_p3 [.int .i64 p3] 3 :: obC b_p4 [v52] 22 :: obS (α := know_Edit) 36 v52 x51 :: L) := hH58
      refine V_CHw (Dw := Dw) ?_
      refine CH_tail (Dw := Dw) ?_
      show V _ _ _ _ [] _ _
      obtain rfl := Option.some.inj ho5
      refine V_end (fun a ha63 => ?_)
      exact ⟨(v52, A54), ha63.sub ⟨rfl, rfl, rfl, rfl, trivial⟩, ⟨hH, hr7⟩⟩
    · rw [if_neg (nt hc15)] at ho5
      obtain rfl := Option.some.inj ho5
      refine C_skip (fun a ha64 => ?_)
      exact ⟨(v_p4, A), ha64.sub ⟨rfl, rfl, rfl, rfl, trivial⟩, ⟨hH, hr7⟩⟩
  rintro ⟨v8, A13⟩ w10 ⟨hH14, hk11⟩ a ha12
  replace hK := Tr.trans (Dw := Dw) hK hk11
  replace hB := Nat.le_trans hB hk11.ex.size
  replace hA := hk11.new
  replace hH : Hp B A13 w10 (obC b_p2 [.int .i64 p2] 3 :: obC b_p3 [.int .i64 p3] 3 :: obC b_p4 [v8] 22 :: obS (α := know_Edit) 36 v8 s6 :: L) := hH14
  refine C_at (n := ⟨33, [], none⟩) (fun _ _ => rfl) ?_ ha12
  refine C_region ?_
  refine V_y (Y_move rfl) rfl rfl rfl ?_
  refine V_y (Y_addI rfl rfl) rfl rfl rfl ?_
  refine V_y (Y_move rfl) rfl rfl rfl ?_
  refine V_y (Y_addI rfl rfl) rfl rfl rfl ?_
  refine V_storeC (Dw := Dw) (off := 0) (ds := [.int .i64 (w64 (k_ + 1))]) hH (i := 0) rfl Tryd.sizeOf3 rfl (Nat.le_of_ble_eq_true rfl) (by simp [Value.cells, Value.oneCell']) rfl hB hA rfl rfl ?_
  intro w65 hH66 ht67
  replace hK := Tr.trans (Dw := Dw) hK ht67
  replace hB := Nat.le_trans hB ht67.ex.size
  replace hA := ht67.new
  replace hH : Hp B A13 w65 (obC b_p2 [.int .i64 (w64 (k_ + 1))] 3 :: obC b_p3 [.int .i64 p3] 3 :: obC b_p4 [v8] 22 :: obS (α := know_Edit) 36 v8 s6 :: L) := hH66
  refine V_storeC (Dw := Dw) (off := 0) (ds := [.int .i64 (w64 (l + 1))]) hH (i := 1) rfl Tryd.sizeOf3 rfl (Nat.le_of_ble_eq_true rfl) (by simp [Value.cells, Value.oneCell']) rfl hB hA rfl rfl ?_
  intro w68 hH69 ht70
  replace hK := Tr.trans (Dw := Dw) hK ht70
  replace hB := Nat.le_trans hB ht70.ex.size
  replace hA := ht70.new
  replace hH : Hp B A13 w68 (obC b_p2 [.int .i64 (w64 (k_ + 1))] 3 :: obC b_p3 [.int .i64 (w64 (l + 1))] 3 :: obC b_p4 [v8] 22 :: obS (α := know_Edit) 36 v8 s6 :: L) := hH69
  refine V_end (fun a ha71 => ?_)
  obtain rfl := Option.some.inj hm
  try simp only [↓inBlock_ret, ↓then_ret]
  exact normQ (retQ rfl (Res.zero Tryd.results11) ⟨v8, A13, rfl, hH, hK⟩ a ha71)

set_option maxRecDepth 4000 in
set_option maxHeartbeats 4000000 in
theorem know_Differ_c (w : World) {A : Nat → Prop} {B : Nat} (hB : B ≤ w.heap.size) (hA : ∀ b, w.heap.size ≤ b → A b) (hT : Mx Tryd.prog 0 A w) (a_ : ByteArray) (b : ByteArray) {L : List Ob} (hH : Hp B A w (L)) {r : ((List know_Edit) × Int)} (hm : know_Differ a_ b = some r) : Ret Tryd.prog 4 #[.string a_, .string b] w fun v w' => ∃ s0, ∃ A1 : Nat → Prop, v = .tuple #[s0, .int .i64 r.2] ∧ Hp B A1 w' (obS (α := know_Edit) 36 s0 r.1 :: L) ∧ Tr Dw B A w A1 w' := by
  unfold know_Differ at hm
  refine enter Tryd.func4 rfl Tryd.ntmps4 rfl ?_
  have hK : Tr Dw B A w A w := Tr.refl (Dw := Dw) hA
  refine C_seq ?_
  refine C_region ?_
  refine V_y (Y_assign rfl) rfl rfl rfl ?_
  refine V_y (Y_assign rfl) rfl rfl rfl ?_
  refine V_to (fun _ _ => rfl) ?_
  refine C_seq ?_
  refine C_seq ?_
  refine C_region ?_
  refine V_y (Y_move rfl) rfl rfl rfl ?_
  obtain ⟨x1, hx1, hm⟩ := Option.bind_eq_some_iff.1 hm
  refine V_call Tryd.call8 rfl rfl rfl rfl (know_checkBody_c (Dw := Dw) w hA (Mx.tr (Dw := Dw) hT hK) a_ hx1) ?_
  rintro _ w2 ⟨rfl, hk3⟩
  have ht4 := Kp.tr (Dw := Dw) hk3 hA hB
  replace hH := Hp.kp (Dw := Dw) hH hk3
  replace hK := Tr.trans (Dw := Dw) hK ht4
  replace hB := Nat.le_trans hB ht4.ex.size
  replace hA := ht4.new
  refine V_y (Y_move rfl) rfl rfl rfl ?_
  obtain ⟨x5, hx5, hm⟩ := Option.bind_eq_some_iff.1 hm
  refine V_call Tryd.call8 rfl rfl rfl rfl (know_checkBody_c (Dw := Dw) w2 hA (Mx.tr (Dw := Dw) hT hK) b hx5) ?_
  rintro _ w6 ⟨rfl, hk7⟩
  have ht8 := Kp.tr (Dw := Dw) hk7 hA hB
  replace hH := Hp.kp (Dw := Dw) hH hk7
  replace hK := Tr.trans (Dw := Dw) hK ht8
  replace hB := Nat.le_trans hB ht8.ex.size
  replace hA := ht8.new
  refine V_buildSlice (Dw := Dw) (l := ([x1, x5] : List Int)) (len := 2) Tryd.underlying143 Tryd.sizeOf23 Tryd.zeroValue23 rfl (by with_unfolding_all rfl) (show (2 * 1 : Nat) ≠ 0 by decide) (show (2 * 1 : Nat) ≤ 2 ^ 24 by decide) hA ⟨[.int .i64 x1], _, rfl, rfl, ⟨[.int .i64 x5], _, rfl, rfl, rfl⟩⟩ rfl rfl ?_
  intro v9 w10 hk12 h11
  have ht13 := Kp.tr (Dw := Dw) hk12 hA hB
  replace hH := Hp.kp (Dw := Dw) hH hk12
  replace hK := Tr.trans (Dw := Dw) hK ht13
  replace hB := Nat.le_trans hB ht13.ex.size
  replace hA := ht13.new
  obtain ⟨x14, hx14, hm⟩ := Option.bind_eq_some_iff.1 hm
  refine V_call Tryd.call7 rfl rfl rfl rfl (cmp_Or_api_Errno_c w10 ([x1, x5] : List Int) v9 h11 hx14) ?_
  rintro _ _ ⟨rfl, rfl⟩
  refine V_y (Y_assign rfl) rfl rfl rfl ?_
  refine V_to (fun _ _ => rfl) ?_
  refine C_seq ?_
  refine C_region ?_
  refine V_y (Y_move rfl) rfl rfl rfl ?_
  refine V_y (Y_neq rfl rfl) rfl rfl rfl ?_
  refine V_to (fun _ _ => rfl) ?_
  refine C_cond rfl (fun hc15 => ?_) (fun hc15 => ?_)
  · rw [if_pos hc15] at hm
    refine C_seq ?_
    refine C_region ?_
    refine V_y (Y_move rfl) rfl rfl rfl ?_
    refine V_y (Y_assign rfl) rfl rfl rfl ?_
    refine V_y (Y_assign rfl) rfl rfl rfl ?_
    refine V_to (fun _ _ => rfl) ?_
    obtain rfl := Option.some.inj hm
    replace hH : Hp B A w10 (obS (α := know_Edit) 36 (.slice none 0 0) ([] : (List know_Edit)) :: L) := Hp.addNil (α := know_Edit) (e := 36) hH
    refine C_ret ?_
    try simp only [↓inBlock_ret, ↓then_ret]
    exact retQ rfl (Res.two Tryd.results4 rfl rfl) ⟨.slice none 0 0, A, rfl, hH, hK⟩
  · rw [if_neg (nt hc15)] at hm
    refine C_skip_to (fun _ _ => rfl) ?_
    refine C_seq ?_
    refine C_region ?_
    refine V_y (Y_move rfl) rfl rfl rfl ?_
    obtain ⟨x16, hx16, hm⟩ := Option.bind_eq_some_iff.1 hm
    refine V_call Tryd.call9 rfl rfl rfl rfl (know_lines_c (Dw := Dw) w10 hA (Mx.tr (Dw := Dw) hT hK) a_ hx16) ?_
    rintro v17 w19 ⟨_, rfl, h18, hk20⟩
    have ht21 := Kp.tr (Dw := Dw) hk20 hA hB
    replace hH := Hp.kp (Dw := Dw) hH hk20
    replace hK := Tr.trans (Dw := Dw) hK ht21
    replace hB := Nat.le_trans hB ht21.ex.size
    replace hA := ht21.new
    refine V_y (Y_move rfl) rfl rfl rfl ?_
    obtain ⟨x22, hx22, hm⟩ := Option.bind_eq_some_iff.1 hm
    refine V_call Tryd.call9 rfl rfl rfl rfl (know_lines_c (Dw := Dw) w19 hA (Mx.tr (Dw := Dw) hT hK) b hx22) ?_
    rintro v23 w25 ⟨_, rfl, h24, hk26⟩
    have ht27 := Kp.tr (Dw := Dw) hk26 hA hB
    replace hH := Hp.kp (Dw := Dw) hH hk26
    replace h18 := Sl.tr (Dw := Dw) h18 ht27
    replace hK := Tr.trans (Dw := Dw) hK ht27
    replace hB := Nat.le_trans hB ht27.ex.size
    replace hA := ht27.new
    refine V_alloc Tryd.zeroValue30 rfl ?_
    intro b28 w29 h30
    refine V_y (Y_assign rfl) rfl rfl rfl ?_
    have h35 : (v23).oneCell' = true := by obtain ⟨_, _, e, _⟩ := Sl.form h24; rw [e]; rfl
    refine V_storeNew h30 Tryd.sizeOf30 rfl rfl (by rw [← Array.length_toList, Value.cells_one h35]; rfl) rfl (by intro u hu; rw [Value.cells_one h35] at hu; simp at hu; subst hu; assumption) ?_
    intro w31 h32
    have h40 : (v23).oneCell' = true := by obtain ⟨_, _, e, _⟩ := Sl.form h24; rw [e]; rfl
    have hk37 := h32.kp (Dw := Dw)
    have h36 : El (α := (List ByteArray)) A w31 b28 0 x22 := h32.el hA (by rw [Value.cells_one h40]; exact ⟨_, rfl, h24⟩)
    have ht41 := Kp.tr (Dw := Dw) hk37 hA hB
    replace hH := Hp.kp (Dw := Dw) hH hk37
    replace h18 := Sl.tr (Dw := Dw) h18 ht41
    replace h24 := Sl.tr (Dw := Dw) h24 ht41
    replace hK := Tr.trans (Dw := Dw) hK ht41
    replace hB := Nat.le_trans hB ht41.ex.size
    replace hA := ht41.new
    refine V_to (fun _ _ => rfl) ?_
    refine C_seq ?_
    refine C_region ?_
    refine V_y (Y_move rfl) rfl rfl rfl ?_
    obtain ⟨v42, h43, h44⟩ := El.list h36
    refine V_y (Y_load h43 Tryd.isAgg30 rfl) rfl rfl rfl ?_
    obtain ⟨x45, hx45, hm⟩ := Option.bind_eq_some_iff.1 hm
    refine V_call Tryd.call10 rfl rfl rfl rfl (know_common_c (Dw := Dw) w31 hB hA x16 v17 h18 x22 v42 h44 hH hx45) ?_
    rintro v46 w48 ⟨_, A49, rfl, hH50, ht51⟩
    replace h36 := El.tr (Dw := Dw) h36 ht51
    replace h18 := Sl.tr (Dw := Dw) h18 ht51
    replace h44 := Sl.tr (Dw := Dw) h44 ht51
    replace hK := Tr.trans (Dw := Dw) hK ht51
    replace hB := Nat.le_trans hB ht51.ex.size
    replace hA := ht51.new
    replace hH : Hp B A49 w48 (obSS (α := Int) 38 3 v46 x45 :: L) := hH50
    refine V_y (Y_assign rfl) rfl rfl rfl ?_
    refine V_to (fun _ _ => rfl) ?_
    refine C_seq ?_
    refine C_region ?_
    refine V_allocH (Dw := Dw) (B := B) hH Tryd.zeroValue22 hB hA rfl ?_
    intro b52 w53 A54 hH55 ht56
    replace h36 := El.tr (Dw := Dw) h36 ht56
    replace h18 := Sl.tr (Dw := Dw) h18 ht56
    replace hK := Tr.trans (Dw := Dw) hK ht56
    replace hB := Nat.le_trans hB ht56.ex.size
    replace hA := ht56.new
    replace hH : Hp B A54 w53 (obC b52 [.slice none 0 0] 22 :: obSS (α := Int) 38 3 v46 x45 :: L) := hH55
    refine V_to (fun _ _ => rfl) ?_
    refine C_seq ?_
    refine C_region ?_
    refine V_allocH (Dw := Dw) (B := B) hH Tryd.zeroValue3 hB hA rfl ?_
    intro b57 w58 A59 hH60 ht61
    replace h36 := El.tr (Dw := Dw) h36 ht61
    replace h18 := Sl.tr (Dw := Dw) h18 ht61
    replace hK := Tr.trans (Dw := Dw) hK ht61
    replace hB := Nat.le_trans hB ht61.ex.size
    replace hA := ht61.new
    replace hH : Hp B A59 w58 (obC b57 [.int .i64 0] 3 :: obC b52 [.slice none 0 0] 22 :: obSS (α := Int) 38 3 v46 x45 :: L) := hH60
    refine V_allocH (Dw := Dw) (B := B) hH Tryd.zeroValue3 hB hA rfl ?_
    intro b62 w63 A64 hH65 ht66
    replace h36 := El.tr (Dw := Dw) h36 ht66
    replace h18 := Sl.tr (Dw := Dw) h18 ht66
    replace hK := Tr.trans (Dw := Dw) hK ht66
    replace hB := Nat.le_trans hB ht66.ex.size
    replace hA := ht66.new
    replace hH : Hp B A64 w63 (obC b62 [.int .i64 0] 3 :: obC b57 [.int .i64 0] 3 :: obC b52 [.slice none 0 0] 22 :: obSS (α := Int) 38 3 v46 x45 :: L) := hH65
    refine V_storeC (Dw := Dw) (off := 0) (ds := [.int .i64 0]) hH (i := 1) rfl Tryd.sizeOf3 rfl (Nat.le_of_ble_eq_true rfl) (by simp [Value.cells, Value.oneCell']) rfl hB hA rfl rfl ?_
    intro w67 hH68 ht69
    replace h36 := El.tr (Dw := Dw) h36 ht69
    replace h18 := Sl.tr (Dw := Dw) h18 ht69
    replace hK := Tr.trans (Dw := Dw) hK ht69
    replace hB := Nat.le_trans hB ht69.ex.size
    replace hA := ht69.new
    replace hH : Hp B A64 w67 (obC b62 [.int .i64 0] 3 :: obC b57 [.int .i64 0] 3 :: obC b52 [.slice none 0 0] 22 :: obSS (α := Int) 38 3 v46 x45 :: L) := hH68
    refine V_storeC (Dw := Dw) (off := 0) (ds := [.int .i64 0]) hH (i := 0) rfl Tryd.sizeOf3 rfl (Nat.le_of_ble_eq_true rfl) (by simp [Value.cells, Value.oneCell']) rfl hB hA rfl rfl ?_
    intro w70 hH71 ht72
    replace h36 := El.tr (Dw := Dw) h36 ht72
    replace h18 := Sl.tr (Dw := Dw) h18 ht72
    replace hK := Tr.trans (Dw := Dw) hK ht72
    replace hB := Nat.le_trans hB ht72.ex.size
    replace hA := ht72.new
    replace hH : Hp B A64 w70 (obC b62 [.int .i64 0] 3 :: obC b57 [.int .i64 0] 3 :: obC b52 [.slice none 0 0] 22 :: obSS (α := Int) 38 3 v46 x45 :: L) := hH71
    refine V_to (fun _ _ => rfl) ?_
    refine C_seq ?_
    refine C_region ?_
    refine V_y (Y_makeFunc rfl rfl) rfl rfl rfl ?_
    refine V_y (Y_assign rfl) rfl rfl rfl ?_
    refine V_to (fun _ _ => rfl) ?_
    refine C_seq ?_
    refine C_seq ?_
    refine C_region ?_
    refine V_y (Y_assign rfl) rfl rfl rfl ?_
    refine V_to (fun _ _ => rfl) ?_
    replace hH : Hp B A64 w70 (obS (α := know_Edit) 36 (.slice none 0 0) ([] : (List know_Edit)) :: obC b62 [.int .i64 0] 3 :: obC b57 [.int .i64 0] 3 :: obC b52 [.slice none 0 0] 22 :: obSS (α := Int) 38 3 v46 x45 :: L) := Hp.addNil (α := know_Edit) (e := 36) hH
    obtain ⟨o73, ho73, hm⟩ := Option.bind_eq_some_iff.1 hm
    refine C_cutG (ι := ((Int × Int × Int × (List know_Edit)) × Value × (Nat → Prop))) (fun ⟨s74, v80, A82⟩ => [(7, v17), (8, .pointer (some ⟨b28, 0, none⟩)), (10, .pointer (some ⟨b52, 0, none⟩)), (13, .func (.func 11) #[] #[.pointer (some ⟨b57, 0, none⟩), .pointer (some ⟨b62, 0, none⟩), .pointer (some ⟨b52, 0, none⟩), .pointer (some ⟨b28, 0, none⟩)])]) (fun ⟨s74, v80, A82⟩ => fun w' => o73 = .fin s74 ∧ Hp B A82 w' (obS (α := know_Edit) 36 v80 s74.2.2.2 :: obC b62 [.int .i64 s74.2.1] 3 :: obC b57 [.int .i64 s74.2.2.1] 3 :: obC b52 [v80] 22 :: obSS (α := Int) 38 3 v46 x45 :: L) ∧ Tr Dw B A64 w70 A82 w') ?_ ?_
    · refine C_block ?_
      refine C_while ho73 (fun s84 a w' => ∃ i : (Value × (Nat → Prop)), Has ⟨106, [], none⟩ a ([(7, v17), (8, .pointer (some ⟨b28, 0, none⟩)), (9, v46), (10, .pointer (some ⟨b52, 0, none⟩)), (11, .pointer (some ⟨b57, 0, none⟩)), (12, .pointer (some ⟨b62, 0, none⟩)), (13, .func (.func 11) #[] #[.pointer (some ⟨b57, 0, none⟩), .pointer (some ⟨b62, 0, none⟩), .pointer (some ⟨b52, 0, none⟩), .pointer (some ⟨b28, 0, none⟩)]), (14, .int .i64 s84.1)]) ∧ Hp B i.2 w' (obS (α := know_Edit) 36 i.1 s84.2.2.2 :: obC b62 [.int .i64 s84.2.1] 3 :: obC b57 [.int .i64 s84.2.2.1] 3 :: obC b52 [i.1] 22 :: obSS (α := Int) 38 3 v46 x45 :: L) ∧ Tr Dw B A64 w70 i.2 w') (fun a ha => ⟨(.slice none 0 0, A64), ha.sub ⟨rfl, rfl, rfl, rfl, rfl, rfl, rfl, rfl, trivial⟩, ⟨hH, Tr.refl (Dw := Dw) hA⟩⟩) ?_
      rintro K s84 a w85 ⟨⟨v86, A88⟩, ha213, hH89, hr75⟩ K96
      refine C_of ?_ ha213
      replace h36 := El.tr (Dw := Dw) h36 hr75
      replace h18 := Sl.tr (Dw := Dw) h18 hr75
      replace hK := Tr.trans (Dw := Dw) hK hr75
      replace hB := Nat.le_trans hB hr75.ex.size
      replace hA := hr75.new
      replace hH : Hp B A88 w85 (obS (α := know_Edit) 36 v86 s84.2.2.2 :: obC b62 [.int .i64 s84.2.1] 3 :: obC b57 [.int .i64 s84.2.2.1] 3 :: obC b52 [v86] 22 :: obSS (α := Int) 38 3 v46 x45 :: L) := hH89
      obtain ⟨x90, h91, h92⟩ := K96
      refine C_seq ?_
      refine C_seq ?_
      refine C_region ?_
      refine V_y (Y_move rfl) rfl rfl rfl ?_
      refine V_y (Y_move rfl) rfl rfl rfl ?_
      refine V_y (Y_lenSl h18 rfl Tryd.underlying30 rfl) rfl rfl rfl ?_
      refine V_y (Y_lss rfl rfl) rfl rfl rfl ?_
      refine V_to (fun _ _ => rfl) ?_
      refine C_cond rfl (fun hc97 => ?_) (fun hc97 => ?_)
      · rw [if_pos hc97] at h91
        refine C_skip_to (fun _ _ => rfl) ?_
        refine C_seq ?_
        refine C_block ?_
        refine C_seq ?_
        refine C_region ?_
        refine V_y (Y_assign rfl) rfl rfl rfl ?_
        refine V_to (fun _ _ => rfl) ?_
        refine C_seq ?_
        refine C_seq ?_
        refine C_region ?_
        refine V_y (Y_load (Hp.cell (j := 0) hH (i := 2) rfl rfl) Tryd.isAgg3 rfl) rfl rfl rfl ?_
        refine V_y (Y_move rfl) rfl rfl rfl ?_
        refine V_y (Y_lenSl h18 rfl Tryd.underlying30 rfl) rfl rfl rfl ?_
        refine V_y (Y_leq rfl rfl) rfl rfl rfl ?_
        refine V_y (Y_move rfl) rfl rfl rfl ?_
        refine V_cut 5 (fun _ : Unit => [(7, v17), (8, .pointer (some ⟨b28, 0, none⟩)), (9, v46), (10, .pointer (some ⟨b52, 0, none⟩)), (11, .pointer (some ⟨b57, 0, none⟩)), (12, .pointer (some ⟨b62, 0, none⟩)), (13, .func (.func 11) #[] #[.pointer (some ⟨b57, 0, none⟩), .pointer (some ⟨b62, 0, none⟩), .pointer (some ⟨b52, 0, none⟩), .pointer (some ⟨b28, 0, none⟩)]), (14, .int .i64 s84.1), (15, .int .i64 0), (49, .bool ((decide (s84.2.2.1 ≤ (x16.length : Int))) && (decide (s84.2.1 ≤ (x22.length : Int)))))]) (fun _ w' => w85 = w') ?_ ?_
        · simp only [List.take, List.drop]
          rcases Bool.eq_false_or_eq_true (decide (s84.2.2.1 ≤ (x16.length : Int))) with hc98 | hc98
          · refine V_ge rfl rfl rfl hc98 ?_
            refine V_y (Y_load (Hp.cell (j := 0) hH (i := 1) rfl rfl) Tryd.isAgg3 rfl) rfl rfl rfl ?_
            refine V_ge rfl rfl rfl hc98 ?_
            obtain ⟨v100, h101, h102⟩ := El.list h36
            refine V_y (Y_load h101 Tryd.isAgg30 rfl) rfl rfl rfl ?_
            refine V_ge rfl rfl rfl hc98 ?_
            refine V_y (Y_lenSl h102 rfl Tryd.underlying30 rfl) rfl rfl rfl ?_
            refine V_ge rfl rfl rfl hc98 ?_
            refine V_y (Y_leq rfl rfl) rfl rfl rfl ?_
            refine V_y (Y_pick_te rfl hc98 rfl) rfl rfl rfl ?_
            exact V_end fun a ha => ⟨(), ha.sub ⟨rfl, rfl, rfl, rfl, rfl, rfl, rfl, rfl, rfl, (by rw [hc98]; rfl), trivial⟩, rfl⟩
          · refine V_gn rfl rfl rfl hc98 rfl rfl rfl ?_
            refine V_gn rfl rfl rfl hc98 rfl rfl rfl ?_
            refine V_gn rfl rfl rfl hc98 rfl rfl rfl ?_
            refine V_gn rfl rfl rfl hc98 rfl rfl rfl ?_
            refine V_y (Y_pick_fe rfl hc98 rfl) rfl rfl rfl ?_
            exact V_end fun a ha => ⟨(), ha.sub ⟨rfl, rfl, rfl, rfl, rfl, rfl, rfl, rfl, rfl, (by rw [hc98]; rfl), trivial⟩, rfl⟩
        simp only [List.take, List.drop]
        rintro _ _ rfl
        refine V_to (fun _ _ => rfl) ?_
        obtain ⟨s104, ho103, h91⟩ := Option.bind_eq_some_iff.1 h91
        refine C_cutG (ι := (Nat → Prop)) (fun (A109 : (Nat → Prop)) => [(7, v17), (8, .pointer (some ⟨b28, 0, none⟩)), (9, v46), (10, .pointer (some ⟨b52, 0, none⟩)), (11, .pointer (some ⟨b57, 0, none⟩)), (12, .pointer (some ⟨b62, 0, none⟩)), (13, .func (.func 11) #[] #[.pointer (some ⟨b57, 0, none⟩), .pointer (some ⟨b62, 0, none⟩), .pointer (some ⟨b52, 0, none⟩), .pointer (some ⟨b28, 0, none⟩)]), (14, .int .i64 s84.1), (15, .int .i64 s104)]) (fun (A109 : (Nat → Prop)) => fun w' => Hp B A109 w' (obS (α := know_Edit) 36 v86 s84.2.2.2 :: obC b62 [.int .i64 s84.2.1] 3 :: obC b57 [.int .i64 s84.2.2.1] 3 :: obC b52 [v86] 22 :: obSS (α := Int) 38 3 v46 x45 :: L) ∧ Tr Dw B A88 w85 A109 w') ?_ ?_
        · have hr105 : Tr Dw B A88 w85 A88 w85 := Tr.refl (Dw := Dw) hA
          refine C_cond rfl (fun hc111 => ?_) (fun hc111 => ?_)
          · rw [if_pos hc111] at ho103
            refine C_region_q (Dw := Dw) Tryd_mixed (by kernel_rfl) ?_
            refine VQ_y (fun w' hw' => Y_move rfl) rfl rfl rfl ?_
            refine VQ_y (fun w' hw' => Y_load ((World.cell?_of_block (hw'.block _ (World.block_lt_of_cell? _ _ (Hp.cell (j := 0) hH (i := 2) rfl rfl)))).trans (Hp.cell (j := 0) hH (i := 2) rfl rfl)) Tryd.isAgg3 rfl) rfl rfl rfl ?_
            obtain ⟨x112, hx112, ho103⟩ := Option.bind_eq_some_iff.1 ho103
            refine VQ_indexAddrSS (α := Int) (e := 38) (v := v46) (l := x45) hH (i := 4) rfl hx112 Tryd.underlying32 Tryd.sizeOf38 rfl rfl rfl ?_
            intro b113 o114 h115 hl116
            obtain ⟨v117, h118, h119⟩ := El.list h115
            refine VQ_y (fun w' hw' => Y_load ((World.cell?_of_block (hw'.block _ (World.block_lt_of_cell? _ _ h118))).trans h118) Tryd.isAgg38 rfl) rfl rfl rfl ?_
            refine VQ_y (fun w' hw' => Y_load ((World.cell?_of_block (hw'.block _ (World.block_lt_of_cell? _ _ (Hp.cell (j := 0) hH (i := 1) rfl rfl)))).trans (Hp.cell (j := 0) hH (i := 1) rfl rfl)) Tryd.isAgg3 rfl) rfl rfl rfl ?_
            obtain ⟨x120, hx120, ho103⟩ := Option.bind_eq_some_iff.1 ho103
            refine VQ_indexAddr h119 hx120 Tryd.underlying38 Tryd.sizeOf3 rfl rfl rfl ?_
            intro b121 o122 h123
            refine VQ_y (fun w' hw' => Y_load (El.int (El.kp (Dw := Dw) h123 hw')) Tryd.isAgg3 rfl) rfl rfl rfl ?_
            refine VQ_y (fun w' hw' => Y_assign rfl) rfl rfl rfl ?_
            obtain rfl := Option.some.inj ho103
            refine VQ_end (fun a ha124 w125 hk126 => ?_)
            have ht127 := Kp.tr (Dw := Dw) hk126 hA hB
            replace hH := Hp.kp (Dw := Dw) hH hk126
            replace h36 := El.tr (Dw := Dw) h36 ht127
            replace h18 := Sl.tr (Dw := Dw) h18 ht127
            replace h115 := El.kp (Dw := Dw) h115 hk126
            replace h119 := Sl.kp (Dw := Dw) h119 hk126
            replace h123 := El.kp (Dw := Dw) h123 hk126
            replace hK := Tr.trans (Dw := Dw) hK ht127
            replace hr75 := Tr.trans (Dw := Dw) hr75 ht127
            replace hr105 := Tr.trans (Dw := Dw) hr105 ht127
            replace hB := Nat.le_trans hB ht127.ex.size
            replace hA := ht127.new
            exact ⟨A88, ha124.sub ⟨rfl, rfl, rfl, rfl, rfl, rfl, rfl, rfl, rfl, trivial⟩, ⟨hH, hr105⟩⟩
          · rw [if_neg (nt hc111)] at ho103
            obtain rfl := Option.some.inj ho103
            refine C_skip (fun a ha128 => ?_)
            exact ⟨A88, ha128.sub ⟨rfl, rfl, rfl, rfl, rfl, rfl, rfl, rfl, rfl, trivial⟩, ⟨hH, hr105⟩⟩
        rintro A109 w106 ⟨hH110, hk107⟩ a ha108
        replace h36 := El.tr (Dw := Dw) h36 hk107
        replace h18 := Sl.tr (Dw := Dw) h18 hk107
        replace hK := Tr.trans (Dw := Dw) hK hk107
        replace hr75 := Tr.trans (Dw := Dw) hr75 hk107
        replace hB := Nat.le_trans hB hk107.ex.size
        replace hA := hk107.new
        replace hH : Hp B A109 w106 (obS (α := know_Edit) 36 v86 s84.2.2.2 :: obC b62 [.int .i64 s84.2.1] 3 :: obC b57 [.int .i64 s84.2.2.1] 3 :: obC b52 [v86] 22 :: obSS (α := Int) 38 3 v46 x45 :: L) := hH110
        refine C_at (n := ⟨106, [], none⟩) (fun _ _ => rfl) ?_ ha108
        refine C_seq ?_
        refine C_seq ?_
        refine C_region ?_
        refine V_y (Y_move rfl) rfl rfl rfl ?_
        refine V_y (Y_eql rfl rfl) rfl rfl rfl ?_
        refine V_to (fun _ _ => rfl) ?_
        refine C_cond rfl (fun hc129 => ?_) (fun hc129 => ?_)
        · rw [if_pos hc129] at h91
          obtain rfl := Option.some.inj h91
          refine C_exit (fun a ha130 => ?_)
          exact ⟨((s84.1, s84.2.1, s84.2.2.1, s84.2.2.2), v86, A109), ha130.sub ⟨rfl, rfl, rfl, rfl, trivial⟩, ⟨h92.symm, hH, hr75⟩⟩
        · rw [if_neg (nt hc129)] at h91
          refine C_skip_to (fun _ _ => rfl) ?_
          refine C_seq ?_
          refine C_region ?_
          refine V_y (Y_load (Hp.cell (j := 0) hH (i := 1) rfl rfl) Tryd.isAgg3 rfl) rfl rfl rfl ?_
          refine V_y (Y_assign rfl) rfl rfl rfl ?_
          refine V_to (fun _ _ => rfl) ?_
          refine C_seq ?_
          obtain ⟨o131, ho131, h91⟩ := Option.bind_eq_some_iff.1 h91
          refine C_cutG (ι := (Int × (Nat → Prop))) (fun ⟨s132, A138⟩ => [(7, v17), (8, .pointer (some ⟨b28, 0, none⟩)), (9, v46), (10, .pointer (some ⟨b52, 0, none⟩)), (11, .pointer (some ⟨b57, 0, none⟩)), (12, .pointer (some ⟨b62, 0, none⟩)), (13, .func (.func 11) #[] #[.pointer (some ⟨b57, 0, none⟩), .pointer (some ⟨b62, 0, none⟩), .pointer (some ⟨b52, 0, none⟩), .pointer (some ⟨b28, 0, none⟩)]), (14, .int .i64 s84.1), (15, .int .i64 s104), (16, .int .i64 s132)]) (fun ⟨s132, A138⟩ => fun w' => o131 = .fin s132 ∧ Hp B A138 w' (obS (α := know_Edit) 36 v86 s84.2.2.2 :: obC b62 [.int .i64 s84.2.1] 3 :: obC b57 [.int .i64 s84.2.2.1] 3 :: obC b52 [v86] 22 :: obSS (α := Int) 38 3 v46 x45 :: L) ∧ Tr Dw B A109 w106 A138 w') ?_ ?_
          · refine C_block ?_
            refine C_while ho131 (fun s140 a w' => ∃ i : (Nat → Prop), Has ⟨106, [], none⟩ a ([(7, v17), (8, .pointer (some ⟨b28, 0, none⟩)), (9, v46), (10, .pointer (some ⟨b52, 0, none⟩)), (11, .pointer (some ⟨b57, 0, none⟩)), (12, .pointer (some ⟨b62, 0, none⟩)), (13, .func (.func 11) #[] #[.pointer (some ⟨b57, 0, none⟩), .pointer (some ⟨b62, 0, none⟩), .pointer (some ⟨b52, 0, none⟩), .pointer (some ⟨b28, 0, none⟩)]), (14, .int .i64 s84.1), (15, .int .i64 s104), (16, .int .i64 s140)]) ∧ Hp B i w' (obS (α := know_Edit) 36 v86 s84.2.2.2 :: obC b62 [.int .i64 s84.2.1] 3 :: obC b57 [.int .i64 s84.2.2.1] 3 :: obC b52 [v86] 22 :: obSS (α := Int) 38 3 v46 x45 :: L) ∧ Tr Dw B A109 w106 i w') (fun a ha => ⟨A109, ha.sub ⟨rfl, rfl, rfl, rfl, rfl, rfl, rfl, rfl, rfl, rfl, trivial⟩, ⟨hH, Tr.refl (Dw := Dw) hA⟩⟩) ?_
            rintro K s140 a w141 ⟨A142, ha173, hH143, hr133⟩ K150
            refine C_of ?_ ha173
            replace h36 := El.tr (Dw := Dw) h36 hr133
            replace h18 := Sl.tr (Dw := Dw) h18 hr133
            replace hK := Tr.trans (Dw := Dw) hK hr133
            replace hr75 := Tr.trans (Dw := Dw) hr75 hr133
            replace hB := Nat.le_trans hB hr133.ex.size
            replace hA := hr133.new
            replace hH : Hp B A142 w141 (obS (α := know_Edit) 36 v86 s84.2.2.2 :: obC b62 [.int .i64 s84.2.1] 3 :: obC b57 [.int .i64 s84.2.2.1] 3 :: obC b52 [v86] 22 :: obSS (α := Int) 38 3 v46 x45 :: L) := hH143
            obtain ⟨x144, h145, h146⟩ := K150
            refine C_seq ?_
            refine C_seq ?_
            refine C_region_q (Dw := Dw) Tryd_mixed (by kernel_rfl) ?_
            refine VQ_y (fun w' hw' => Y_move rfl) rfl rfl rfl ?_
            obtain ⟨v151, h152, h153⟩ := El.list h36
            refine VQ_y (fun w' hw' => Y_load ((World.cell?_of_block (hw'.block _ (World.block_lt_of_cell? _ _ h152))).trans h152) Tryd.isAgg30 rfl) rfl rfl rfl ?_
            refine VQ_y (fun w' hw' => Y_lenSl h153 rfl Tryd.underlying30 rfl) rfl rfl rfl ?_
            refine VQ_y (fun w' hw' => Y_lss rfl rfl) rfl rfl rfl ?_
            refine VQ_y (fun w' hw' => Y_move rfl) rfl rfl rfl ?_
            obtain ⟨s155, hs155, h145⟩ := Option.bind_eq_some_iff.1 h145
            refine VQ_cut 10 (fun _ : Unit => [(7, v17), (8, .pointer (some ⟨b28, 0, none⟩)), (9, v46), (10, .pointer (some ⟨b52, 0, none⟩)), (11, .pointer (some ⟨b57, 0, none⟩)), (12, .pointer (some ⟨b62, 0, none⟩)), (13, .func (.func 11) #[] #[.pointer (some ⟨b57, 0, none⟩), .pointer (some ⟨b62, 0, none⟩), .pointer (some ⟨b52, 0, none⟩), .pointer (some ⟨b28, 0, none⟩)]), (14, .int .i64 s84.1), (15, .int .i64 s104), (16, .int .i64 s140), (74, .bool s155)]) (fun _ => True) ?_ ?_
            · simp only [List.take, List.drop]
              rcases Bool.eq_false_or_eq_true (decide (s140 < (x22.length : Int))) with hc154 | hc154
              · rw [if_pos hc154] at hs155
                refine VQ_ge rfl rfl rfl hc154 ?_
                obtain ⟨v156, h157, h158⟩ := El.list h36
                refine VQ_y (fun w' hw' => Y_load ((World.cell?_of_block (hw'.block _ (World.block_lt_of_cell? _ _ h157))).trans h157) Tryd.isAgg30 rfl) rfl rfl rfl ?_
                refine VQ_ge rfl rfl rfl hc154 ?_
                refine VQ_y (fun w' hw' => Y_move rfl) rfl rfl rfl ?_
                refine VQ_ge rfl rfl rfl hc154 ?_
                obtain ⟨x159, hx159, hs155⟩ := Option.bind_eq_some_iff.1 hs155
                refine VQ_indexAddr h158 hx159 Tryd.underlying30 Tryd.sizeOf9 rfl rfl rfl ?_
                intro b160 o161 h162
                refine VQ_ge rfl rfl rfl hc154 ?_
                refine VQ_y (fun w' hw' => Y_load (El.str (El.kp (Dw := Dw) h162 hw')) Tryd.isAgg9 rfl) rfl rfl rfl ?_
                refine VQ_ge rfl rfl rfl hc154 ?_
                refine VQ_y (fun w' hw' => Y_move rfl) rfl rfl rfl ?_
                refine VQ_ge rfl rfl rfl hc154 ?_
                refine VQ_y (fun w' hw' => Y_move rfl) rfl rfl rfl ?_
                refine VQ_ge rfl rfl rfl hc154 ?_
                obtain ⟨x163, hx163, hs155⟩ := Option.bind_eq_some_iff.1 hs155
                refine VQ_indexAddr h18 hx163 Tryd.underlying30 Tryd.sizeOf9 rfl rfl rfl ?_
                intro b164 o165 h166
                refine VQ_ge rfl rfl rfl hc154 ?_
                refine VQ_y (fun w' hw' => Y_load (El.str (El.kp (Dw := Dw) h166 hw')) Tryd.isAgg9 rfl) rfl rfl rfl ?_
                refine VQ_ge rfl rfl rfl hc154 ?_
                refine VQ_y (fun w' hw' => Y_sneq rfl rfl) rfl rfl rfl ?_
                refine VQ_y (fun _ _ => Y_pick_te rfl hc154 rfl) rfl rfl rfl ?_
                obtain rfl := Option.some.inj hs155
                exact VQ_end fun a ha => ⟨(), ha.sub ⟨rfl, rfl, rfl, rfl, rfl, rfl, rfl, rfl, rfl, rfl, rfl, trivial⟩, trivial⟩
              · rw [if_neg (nt hc154)] at hs155
                refine VQ_gn rfl rfl rfl hc154 rfl rfl rfl ?_
                refine VQ_gn rfl rfl rfl hc154 rfl rfl rfl ?_
                refine VQ_gn rfl rfl rfl hc154 rfl rfl rfl ?_
                refine VQ_gn rfl rfl rfl hc154 rfl rfl rfl ?_
                refine VQ_gn rfl rfl rfl hc154 rfl rfl rfl ?_
                refine VQ_gn rfl rfl rfl hc154 rfl rfl rfl ?_
                refine VQ_gn rfl rfl rfl hc154 rfl rfl rfl ?_
                refine VQ_gn rfl rfl rfl hc154 rfl rfl rfl ?_
                refine VQ_gn rfl rfl rfl hc154 rfl rfl rfl ?_
                refine VQ_y (fun _ _ => Y_pick_fe rfl hc154 rfl) rfl rfl rfl ?_
                obtain rfl := Option.some.inj hs155
                exact VQ_end fun a ha => ⟨(), ha.sub ⟨rfl, rfl, rfl, rfl, rfl, rfl, rfl, rfl, rfl, rfl, rfl, trivial⟩, trivial⟩
            simp only [List.take, List.drop]
            rintro _ _
            refine VQ_to (fun _ _ => rfl) (fun w167 hk168 => ?_)
            have ht169 := Kp.tr (Dw := Dw) hk168 hA hB
            replace hH := Hp.kp (Dw := Dw) hH hk168
            replace h36 := El.tr (Dw := Dw) h36 ht169
            replace h18 := Sl.tr (Dw := Dw) h18 ht169
            replace hK := Tr.trans (Dw := Dw) hK ht169
            replace hr75 := Tr.trans (Dw := Dw) hr75 ht169
            replace hr133 := Tr.trans (Dw := Dw) hr133 ht169
            replace hB := Nat.le_trans hB ht169.ex.size
            replace hA := ht169.new
            refine C_cond rfl (fun hc170 => ?_) (fun hc170 => ?_)
            · rw [if_pos hc170] at h145
              refine C_skip_to (fun _ _ => rfl) ?_
              refine C_block ?_
              refine C_region ?_
              refine V_y (Y_move rfl) rfl rfl rfl ?_
              refine V_y (Y_addI rfl rfl) rfl rfl rfl ?_
              refine V_y (Y_assign rfl) rfl rfl rfl ?_
              obtain rfl := Option.some.inj h145
              refine V_end (fun a ha171 => ?_)
              exact ⟨w64 (s140 + 1), h146, ⟨A142, ha171.sub ⟨rfl, rfl, rfl, rfl, rfl, rfl, rfl, rfl, rfl, rfl, trivial⟩, ⟨hH, hr133⟩⟩⟩
            · rw [if_neg (nt hc170)] at h145
              obtain rfl := Option.some.inj h145
              refine C_exit (fun a ha172 => ?_)
              exact ⟨(s140, A142), ha172.sub ⟨rfl, rfl, rfl, rfl, rfl, rfl, rfl, rfl, rfl, rfl, trivial⟩, ⟨h146.symm, hH, hr133⟩⟩
          rintro ⟨s132, A138⟩ w135 ⟨rfl, hH139, hk136⟩ a ha137
          rw [Lp.andThen_fin] at h91
          replace h36 := El.tr (Dw := Dw) h36 hk136
          replace h18 := Sl.tr (Dw := Dw) h18 hk136
          replace hK := Tr.trans (Dw := Dw) hK hk136
          replace hr75 := Tr.trans (Dw := Dw) hr75 hk136
          replace hB := Nat.le_trans hB hk136.ex.size
          replace hA := hk136.new
          replace hH : Hp B A138 w135 (obS (α := know_Edit) 36 v86 s84.2.2.2 :: obC b62 [.int .i64 s84.2.1] 3 :: obC b57 [.int .i64 s84.2.2.1] 3 :: obC b52 [v86] 22 :: obSS (α := Int) 38 3 v46 x45 :: L) := hH139
          refine C_at (n := ⟨106, [], none⟩) (fun _ _ => rfl) ?_ ha137
          refine C_seq ?_
          refine C_region ?_
          refine V_y (Y_move rfl) rfl rfl rfl ?_
          obtain ⟨v174, h175, h176⟩ := El.list h36
          refine V_y (Y_load h175 Tryd.isAgg30 rfl) rfl rfl rfl ?_
          refine V_y (Y_lenSl h176 rfl Tryd.underlying30 rfl) rfl rfl rfl ?_
          refine V_y (Y_lss rfl rfl) rfl rfl rfl ?_
          refine V_y (Y_move rfl) rfl rfl rfl ?_
          obtain ⟨s178, hs178, h91⟩ := Option.bind_eq_some_iff.1 h91
          refine V_cut 13 (fun _ : Unit => [(7, v17), (8, .pointer (some ⟨b28, 0, none⟩)), (9, v46), (10, .pointer (some ⟨b52, 0, none⟩)), (11, .pointer (some ⟨b57, 0, none⟩)), (12, .pointer (some ⟨b62, 0, none⟩)), (13, .func (.func 11) #[] #[.pointer (some ⟨b57, 0, none⟩), .pointer (some ⟨b62, 0, none⟩), .pointer (some ⟨b52, 0, none⟩), .pointer (some ⟨b28, 0, none⟩)]), (14, .int .i64 s84.1), (16, .int .i64 s132), (94, .bool s178)]) (fun _ w' => w135 = w') ?_ ?_
          · simp only [List.take, List.drop]
            rcases Bool.eq_false_or_eq_true (decide (s132 < (x22.length : Int))) with hc177 | hc177
            · rw [if_pos hc177] at hs178
              refine V_ge rfl rfl rfl hc177 ?_
              refine V_y (Y_move rfl) rfl rfl rfl ?_
              refine V_ge rfl rfl rfl hc177 ?_
              refine V_y (Y_move rfl) rfl rfl rfl ?_
              refine V_ge rfl rfl rfl hc177 ?_
              refine V_y (Y_addI rfl rfl) rfl rfl rfl ?_
              refine V_ge rfl rfl rfl hc177 ?_
              obtain ⟨x179, hx179, hs178⟩ := Option.bind_eq_some_iff.1 hs178
              refine V_indexAddrSS (α := Int) (e := 38) (v := v46) (l := x45) hH (i := 4) rfl hx179 Tryd.underlying32 Tryd.sizeOf38 rfl rfl rfl ?_
              intro b180 o181 h182 hl183
              refine V_ge rfl rfl rfl hc177 ?_
              obtain ⟨v184, h185, h186⟩ := El.list h182
              refine V_y (Y_load h185 Tryd.isAgg38 rfl) rfl rfl rfl ?_
              refine V_ge rfl rfl rfl hc177 ?_
              refine V_y (Y_move rfl) rfl rfl rfl ?_
              refine V_ge rfl rfl rfl hc177 ?_
              refine V_y (Y_addI rfl rfl) rfl rfl rfl ?_
              refine V_ge rfl rfl rfl hc177 ?_
              obtain ⟨x187, hx187, hs178⟩ := Option.bind_eq_some_iff.1 hs178
              refine V_indexAddr h186 hx187 Tryd.underlying38 Tryd.sizeOf3 rfl rfl rfl ?_
              intro b188 o189 h190
              refine V_ge rfl rfl rfl hc177 ?_
              refine V_y (Y_load (El.int h190) Tryd.isAgg3 rfl) rfl rfl rfl ?_
              refine V_ge rfl rfl rfl hc177 ?_
              refine V_y (Y_addI rfl rfl) rfl rfl rfl ?_
              refine V_ge rfl rfl rfl hc177 ?_
              refine V_y (Y_move rfl) rfl rfl rfl ?_
              refine V_ge rfl rfl rfl hc177 ?_
              refine V_y (Y_eql rfl rfl) rfl rfl rfl ?_
              refine V_y (Y_pick_te rfl hc177 rfl) rfl rfl rfl ?_
              obtain rfl := Option.some.inj hs178
              exact V_end fun a ha => ⟨(), ha.sub ⟨rfl, rfl, rfl, rfl, rfl, rfl, rfl, rfl, rfl, rfl, trivial⟩, rfl⟩
            · rw [if_neg (nt hc177)] at hs178
              refine V_gn rfl rfl rfl hc177 rfl rfl rfl ?_
              refine V_gn rfl rfl rfl hc177 rfl rfl rfl ?_
              refine V_gn rfl rfl rfl hc177 rfl rfl rfl ?_
              refine V_gn rfl rfl rfl hc177 rfl rfl rfl ?_
              refine V_gn rfl rfl rfl hc177 rfl rfl rfl ?_
              refine V_gn rfl rfl rfl hc177 rfl rfl rfl ?_
              refine V_gn rfl rfl rfl hc177 rfl rfl rfl ?_
              refine V_gn rfl rfl rfl hc177 rfl rfl rfl ?_
              refine V_gn rfl rfl rfl hc177 rfl rfl rfl ?_
              refine V_gn rfl rfl rfl hc177 rfl rfl rfl ?_
              refine V_gn rfl rfl rfl hc177 rfl rfl rfl ?_
              refine V_gn rfl rfl rfl hc177 rfl rfl rfl ?_
              refine V_y (Y_pick_fe rfl hc177 rfl) rfl rfl rfl ?_
              obtain rfl := Option.some.inj hs178
              exact V_end fun a ha => ⟨(), ha.sub ⟨rfl, rfl, rfl, rfl, rfl, rfl, rfl, rfl, rfl, rfl, trivial⟩, rfl⟩
          simp only [List.take, List.drop]
          rintro _ _ rfl
          refine V_to (fun _ _ => rfl) ?_
          obtain ⟨s192, ho191, h91⟩ := Option.bind_eq_some_iff.1 h91
          refine C_cutG (ι := (Value × (Nat → Prop))) (fun ⟨v194, A199⟩ => [(7, v17), (8, .pointer (some ⟨b28, 0, none⟩)), (9, v46), (10, .pointer (some ⟨b52, 0, none⟩)), (11, .pointer (some ⟨b57, 0, none⟩)), (12, .pointer (some ⟨b62, 0, none⟩)), (13, .func (.func 11) #[] #[.pointer (some ⟨b57, 0, none⟩), .pointer (some ⟨b62, 0, none⟩), .pointer (some ⟨b52, 0, none⟩), .pointer (some ⟨b28, 0, none⟩)]), (14, .int .i64 s84.1)]) (fun ⟨v194, A199⟩ => fun w' => Hp B A199 w' (obS (α := know_Edit) 36 v194 s192.2.2 :: obC b62 [.int .i64 s192.1] 3 :: obC b57 [.int .i64 s192.2.1] 3 :: obC b52 [v194] 22 :: obSS (α := Int) 38 3 v46 x45 :: L) ∧ Tr Dw B A138 w135 A199 w') ?_ ?_
          · have hr193 : Tr Dw B A138 w135 A138 w135 := Tr.refl (Dw := Dw) hA
            refine C_cond rfl (fun hc201 => ?_) (fun hc201 => ?_)
            · rw [if_pos hc201] at ho191
              refine C_region ?_
              refine V_y (Y_move rfl) rfl rfl rfl ?_
              refine V_y (Y_move rfl) rfl rfl rfl ?_
              refine V_y (Y_move rfl) rfl rfl rfl ?_
              replace hH : Hp B A138 w135 (obC b52 [v86] 22 :: obS (α := know_Edit) 36 v86 s84.2.2.2 :: obC b62 [.int .i64 s84.2.1] 3 :: obC b57 [.int .i64 s84.2.2.1] 3 :: obSS (α := Int) 38 3 v46 x45 :: L) := Hp.front hH (i := 3) rfl
              replace hH : Hp B A138 w135 (obC b62 [.int .i64 s84.2.1] 3 :: obC b52 [v86] 22 :: obS (α := know_Edit) 36 v86 s84.2.2.2 :: obC b57 [.int .i64 s84.2.2.1] 3 :: obSS (α := Int) 38 3 v46 x45 :: L) := Hp.front hH (i := 2) rfl
              replace hH : Hp B A138 w135 (obC b57 [.int .i64 s84.2.2.1] 3 :: obC b62 [.int .i64 s84.2.1] 3 :: obC b52 [v86] 22 :: obS (α := know_Edit) 36 v86 s84.2.2.2 :: obSS (α := Int) 38 3 v46 x45 :: L) := Hp.front hH (i := 3) rfl
              obtain ⟨x202, hx202, ho191⟩ := Option.bind_eq_some_iff.1 ho191
              refine V_call Tryd.call11 rfl rfl rfl rfl (know_Differ_1_c (Dw := Dw) w135 hB hA s84.1 s132 s84.2.2.1 b57 s84.2.1 b62 s84.2.2.2 b52 v86 x22 b28 h36 hH hx202) ?_
              rintro _ w205 ⟨v203, A206, rfl, hH207, ht208⟩
              replace h36 := El.tr (Dw := Dw) h36 ht208
              replace h18 := Sl.tr (Dw := Dw) h18 ht208
              replace hK := Tr.trans (Dw := Dw) hK ht208
              replace hr75 := Tr.trans (Dw := Dw) hr75 ht208
              replace hr193 := Tr.trans (Dw := Dw) hr193 ht208
              replace hB := Nat.le_trans hB ht208.ex.size
              replace hA := ht208.new
              replace hH : Hp B A206 w205 (obC b57 [.int .i64 x202.1] 3 :: obC b62 [.int .i64 x202.2.1] 3 :: obC b52 [v203] 22 :: obS (α := know_Edit) 36 v203 x202.2.2 :: obSS (α := Int) 38 3 v46 x45 :: L) := hH207
              obtain rfl := Option.some.inj ho191
              refine V_end (fun a ha209 => ?_)
              replace hH : Hp B A206 w205 (obSS (α := Int) 38 3 v46 x45 :: obC b57 [.int .i64 x202.1] 3 :: obC b62 [.int .i64 x202.2.1] 3 :: obC b52 [v203] 22 :: obS (α := know_Edit) 36 v203 x202.2.2 :: L) := Hp.front hH (i := 4) rfl
              replace hH : Hp B A206 w205 (obC b52 [v203] 22 :: obSS (α := Int) 38 3 v46 x45 :: obC b57 [.int .i64 x202.1] 3 :: obC b62 [.int .i64 x202.2.1] 3 :: obS (α := know_Edit) 36 v203 x202.2.2 :: L) := Hp.front hH (i := 3) rfl
              replace hH : Hp B A206 w205 (obC b57 [.int .i64 x202.1] 3 :: obC b52 [v203] 22 :: obSS (α := Int) 38 3 v46 x45 :: obC b62 [.int .i64 x202.2.1] 3 :: obS (α := know_Edit) 36 v203 x202.2.2 :: L) := Hp.front hH (i := 2) rfl
              replace hH : Hp B A206 w205 (obC b62 [.int .i64 x202.2.1] 3 :: obC b57 [.int .i64 x202.1] 3 :: obC b52 [v203] 22 :: obSS (α := Int) 38 3 v46 x45 :: obS (α := know_Edit) 36 v203 x202.2.2 :: L) := Hp.front hH (i := 3) rfl
              replace hH : Hp B A206 w205 (obS (α := know_Edit) 36 v203 x202.2.2 :: obC b62 [.int .i64 x202.2.1] 3 :: obC b57 [.int .i64 x202.1] 3 :: obC b52 [v203] 22 :: obSS (α := Int) 38 3 v46 x45 :: L) := Hp.front hH (i := 4) rfl
              exact ⟨(v203, A206), ha209.sub ⟨rfl, rfl, rfl, rfl, rfl, rfl, rfl, rfl, trivial⟩, ⟨hH, hr193⟩⟩
            · rw [if_neg (nt hc201)] at ho191
              obtain rfl := Option.some.inj ho191
              refine C_skip (fun a ha210 => ?_)
              exact ⟨(v86, A138), ha210.sub ⟨rfl, rfl, rfl, rfl, rfl, rfl, rfl, rfl, trivial⟩, ⟨hH, hr193⟩⟩
          rintro ⟨v194, A199⟩ w196 ⟨hH200, hk197⟩ a ha198
          replace h36 := El.tr (Dw := Dw) h36 hk197
          replace h18 := Sl.tr (Dw := Dw) h18 hk197
          replace hK := Tr.trans (Dw := Dw) hK hk197
          replace hr75 := Tr.trans (Dw := Dw) hr75 hk197
          replace hB := Nat.le_trans hB hk197.ex.size
          replace hA := hk197.new
          replace hH : Hp B A199 w196 (obS (α := know_Edit) 36 v194 s192.2.2 :: obC b62 [.int .i64 s192.1] 3 :: obC b57 [.int .i64 s192.2.1] 3 :: obC b52 [v194] 22 :: obSS (α := Int) 38 3 v46 x45 :: L) := hH200
          refine C_at (n := ⟨106, [], none⟩) (fun _ _ => rfl) ?_ ha198
          refine C_region ?_
          refine V_y (Y_move rfl) rfl rfl rfl ?_
          refine V_y (Y_addI rfl rfl) rfl rfl rfl ?_
          refine V_y (Y_assign rfl) rfl rfl rfl ?_
          obtain rfl := Option.some.inj h91
          refine V_end (fun a ha211 => ?_)
          exact ⟨(w64 (s84.1 + 1), s192.1, s192.2.1, s192.2.2), h92, ⟨(v194, A199), ha211.sub ⟨rfl, rfl, rfl, rfl, rfl, rfl, rfl, rfl, trivial⟩, ⟨hH, hr75⟩⟩⟩
      · rw [if_neg (nt hc97)] at h91
        obtain rfl := Option.some.inj h91
        refine C_exit (fun a ha212 => ?_)
        exact ⟨((s84.1, s84.2.1, s84.2.2.1, s84.2.2.2), v86, A88), ha212.sub ⟨rfl, rfl, rfl, rfl, trivial⟩, ⟨h92.symm, hH, hr75⟩⟩
    rintro ⟨s74, v80, A82⟩ w77 ⟨rfl, hH83, hk78⟩ a ha79
    rw [Lp.andThen_fin] at hm
    replace h36 := El.tr (Dw := Dw) h36 hk78
    replace h18 := Sl.tr (Dw := Dw) h18 hk78
    replace hK := Tr.trans (Dw := Dw) hK hk78
    replace hB := Nat.le_trans hB hk78.ex.size
    replace hA := hk78.new
    replace hH : Hp B A82 w77 (obS (α := know_Edit) 36 v80 s74.2.2.2 :: obC b62 [.int .i64 s74.2.1] 3 :: obC b57 [.int .i64 s74.2.2.1] 3 :: obC b52 [v80] 22 :: obSS (α := Int) 38 3 v46 x45 :: L) := hH83
    refine C_at (n := ⟨106, [], none⟩) (fun _ _ => rfl) ?_ ha79
    refine C_seq ?_
    refine C_region ?_
    refine V_y (Y_move rfl) rfl rfl rfl ?_
    refine V_y (Y_move rfl) rfl rfl rfl ?_
    refine V_y (Y_lenSl h18 rfl Tryd.underlying30 rfl) rfl rfl rfl ?_
    obtain ⟨v214, h215, h216⟩ := El.list h36
    refine V_y (Y_load h215 Tryd.isAgg30 rfl) rfl rfl rfl ?_
    refine V_y (Y_lenSl h216 rfl Tryd.underlying30 rfl) rfl rfl rfl ?_
    replace hH : Hp B A82 w77 (obC b52 [v80] 22 :: obS (α := know_Edit) 36 v80 s74.2.2.2 :: obC b62 [.int .i64 s74.2.1] 3 :: obC b57 [.int .i64 s74.2.2.1] 3 :: obSS (α := Int) 38 3 v46 x45 :: L) := Hp.front hH (i := 3) rfl
    replace hH : Hp B A82 w77 (obC b62 [.int .i64 s74.2.1] 3 :: obC b52 [v80] 22 :: obS (α := know_Edit) 36 v80 s74.2.2.2 :: obC b57 [.int .i64 s74.2.2.1] 3 :: obSS (α := Int) 38 3 v46 x45 :: L) := Hp.front hH (i := 2) rfl
    replace hH : Hp B A82 w77 (obC b57 [.int .i64 s74.2.2.1] 3 :: obC b62 [.int .i64 s74.2.1] 3 :: obC b52 [v80] 22 :: obS (α := know_Edit) 36 v80 s74.2.2.2 :: obSS (α := Int) 38 3 v46 x45 :: L) := Hp.front hH (i := 3) rfl
    obtain ⟨x217, hx217, hm⟩ := Option.bind_eq_some_iff.1 hm
    refine V_call Tryd.call11 rfl rfl rfl rfl (know_Differ_1_c (Dw := Dw) w77 hB hA (x16.length : Int) (x22.length : Int) s74.2.2.1 b57 s74.2.1 b62 s74.2.2.2 b52 v80 x22 b28 h36 hH hx217) ?_
    rintro _ w220 ⟨v218, A221, rfl, hH222, ht223⟩
    replace h36 := El.tr (Dw := Dw) h36 ht223
    replace h18 := Sl.tr (Dw := Dw) h18 ht223
    replace h216 := Sl.tr (Dw := Dw) h216 ht223
    replace hK := Tr.trans (Dw := Dw) hK ht223
    replace hB := Nat.le_trans hB ht223.ex.size
    replace hA := ht223.new
    replace hH : Hp B A221 w220 (obC b57 [.int .i64 x217.1] 3 :: obC b62 [.int .i64 x217.2.1] 3 :: obC b52 [v218] 22 :: obS (α := know_Edit) 36 v218 x217.2.2 :: obSS (α := Int) 38 3 v46 x45 :: L) := hH222
    refine V_to (fun _ _ => rfl) ?_
    refine C_seq ?_
    refine C_region ?_
    refine V_y (Y_load (Hp.cell (j := 0) hH (i := 2) rfl rfl) Tryd.isAgg22 rfl) rfl rfl rfl ?_
    refine V_y (Y_assign rfl) rfl rfl rfl ?_
    refine V_y (Y_assign rfl) rfl rfl rfl ?_
    refine V_to (fun _ _ => rfl) ?_
    obtain rfl := Option.some.inj hm
    replace hH : Hp B A221 w220 (obS (α := know_Edit) 36 v218 x217.2.2 :: obC b57 [.int .i64 x217.1] 3 :: obC b62 [.int .i64 x217.2.1] 3 :: obC b52 [v218] 22 :: obSS (α := Int) 38 3 v46 x45 :: L) := Hp.front hH (i := 3) rfl
    replace hH : Hp B A221 w220 (obS (α := know_Edit) 36 v218 x217.2.2 :: obC b62 [.int .i64 x217.2.1] 3 :: obC b52 [v218] 22 :: obSS (α := Int) 38 3 v46 x45 :: L) := Hp.drop hH (i := 1) rfl
    replace hH : Hp B A221 w220 (obS (α := know_Edit) 36 v218 x217.2.2 :: obC b52 [v218] 22 :: obSS (α := Int) 38 3 v46 x45 :: L) := Hp.drop hH (i := 1) rfl
    replace hH : Hp B A221 w220 (obS (α := know_Edit) 36 v218 x217.2.2 :: obSS (α := Int) 38 3 v46 x45 :: L) := Hp.drop hH (i := 1) rfl
    replace hH : Hp B A221 w220 (obS (α := know_Edit) 36 v218 x217.2.2 :: L) := Hp.drop hH (i := 1) rfl
    refine C_ret ?_
    try simp only [↓inBlock_ret, ↓then_ret]
    exact retQ rfl (Res.two Tryd.results4 rfl rfl) ⟨v218, A221, rfl, hH, hK⟩

set_option maxRecDepth 4000 in
set_option maxHeartbeats 4000000 in
theorem portref2_bodyLines_c (w : World) {A : Nat → Prop} (hA : ∀ b, w.heap.size ≤ b → A b) (hT : Mx Tryd.prog 0 A w) (s : ByteArray) {r : (List ByteArray)} (hm : portref2_bodyLines s = some r) : Ret Tryd.prog 14 #[.string s] w fun v w' => ∃ s0, v = s0 ∧ Sl A w' s0 r ∧ Kp Dw w w' := by
  unfold portref2_bodyLines at hm
  refine enter Tryd.func14 rfl Tryd.ntmps14 rfl ?_
  have hA0 := hA
  have hB := Nat.le_refl w.heap.size
  have hK : Tr Dw w.heap.size A w A w := Tr.refl (Dw := Dw) hA
  have hH : Hp w.heap.size A w [] := Hp.nil
  refine C_seq ?_
  refine C_region ?_
  refine V_y (Y_assign rfl) rfl rfl rfl ?_
  refine V_to (fun _ _ => rfl) ?_
  refine C_seq ?_
  refine C_region ?_
  refine V_y (Y_move rfl) rfl rfl rfl ?_
  obtain ⟨x1, hx1, hm⟩ := Option.bind_eq_some_iff.1 hm
  refine V_call Tryd.call46 rfl rfl rfl rfl (strings_SplitAfter_c (Dw := Dw) w hA (Mx.tr (Dw := Dw) hT hK) s (⟨#[10]⟩ : ByteArray) hx1) ?_
  rintro v2 w4 ⟨_, rfl, h3, hk5⟩
  have ht6 := Kp.tr (Dw := Dw) hk5 hA hB
  replace hH := Hp.kp (Dw := Dw) hH hk5
  replace hK := Tr.trans (Dw := Dw) hK ht6
  replace hB := Nat.le_trans hB ht6.ex.size
  replace hA := ht6.new
  refine V_y (Y_assign rfl) rfl rfl rfl ?_
  refine V_to (fun _ _ => rfl) ?_
  refine C_seq ?_
  refine C_seq ?_
  refine C_region ?_
  refine V_y (Y_move rfl) rfl rfl rfl ?_
  refine V_y (Y_move rfl) rfl rfl rfl ?_
  refine V_y (Y_lenSl h3 rfl Tryd.underlying30 rfl) rfl rfl rfl ?_
  refine V_y (Y_subI rfl rfl) rfl rfl rfl ?_
  obtain ⟨x7, hx7, hm⟩ := Option.bind_eq_some_iff.1 hm
  refine V_indexAddr h3 hx7 Tryd.underlying30 Tryd.sizeOf9 rfl rfl rfl ?_
  intro b8 o9 h10
  refine V_y (Y_load (El.str h10) Tryd.isAgg9 rfl) rfl rfl rfl ?_
  refine V_y (Y_seql rfl rfl) rfl rfl rfl ?_
  refine V_to (fun _ _ => rfl) ?_
  obtain ⟨s12, ho11, hm⟩ := Option.bind_eq_some_iff.1 hm
  refine C_cutG (ι := Value) (fun (v14 : Value) => [(3, v14)]) (fun (v14 : Value) => fun w' => Sl A w' v14 s12 ∧ w4 = w') ?_ ?_
  · refine C_cond rfl (fun hc20 => ?_) (fun hc20 => ?_)
    · rw [if_pos hc20] at ho11
      refine C_region ?_
      refine V_y (Y_move rfl) rfl rfl rfl ?_
      refine V_y (Y_move rfl) rfl rfl rfl ?_
      refine V_y (Y_lenSl h3 rfl Tryd.underlying30 rfl) rfl rfl rfl ?_
      refine V_y (Y_subI rfl rfl) rfl rfl rfl ?_
      obtain ⟨x21, hx21, ho11⟩ := Option.bind_eq_some_iff.1 ho11
      obtain ⟨v22, h23, h23y⟩ := sliceL_val hx21 h3
      refine V_y (Y_sliceLH h23y Tryd.underlying30 Tryd.sizeOf9 rfl rfl) rfl rfl rfl ?_
      refine V_y (Y_assign rfl) rfl rfl rfl ?_
      obtain rfl := Option.some.inj ho11
      refine V_end (fun a ha24 => ?_)
      exact ⟨v22, ha24.sub ⟨rfl, trivial⟩, ⟨h23, rfl⟩⟩
    · rw [if_neg (nt hc20)] at ho11
      obtain rfl := Option.some.inj ho11
      refine C_skip (fun a ha25 => ?_)
      exact ⟨v2, ha25.sub ⟨rfl, trivial⟩, ⟨h3, rfl⟩⟩
  rintro v14 _ ⟨h15, rfl⟩ a ha19
  refine C_at (n := ⟨19, [], none⟩) (fun _ _ => rfl) ?_ ha19
  refine C_seq ?_
  refine C_region ?_
  refine V_y (Y_move rfl) rfl rfl rfl ?_
  refine V_y (Y_assign rfl) rfl rfl rfl ?_
  refine V_to (fun _ _ => rfl) ?_
  obtain rfl := Option.some.inj hm
  refine C_ret ?_
  try simp only [↓inBlock_ret, ↓then_ret]
  exact retQ rfl (Res.one Tryd.results14 rfl) ⟨v14, rfl, (Sl.out (Dw := Dw) h15 hA0 hK), hK.kp⟩

set_option maxRecDepth 4000 in
set_option maxHeartbeats 4000000 in
theorem portref2_bodyFault_c (w : World) {A : Nat → Prop} (hA : ∀ b, w.heap.size ≤ b → A b) (hT : Mx Tryd.prog 0 A w) (s : ByteArray) {r : Int} (hm : portref2_bodyFault s = some r) : Ret Tryd.prog 13 #[.string s] w fun v w' => v = .int .i64 r ∧ Kp Dw w w' := by
  unfold portref2_bodyFault at hm
  refine enter Tryd.func13 rfl Tryd.ntmps13 rfl ?_
  have hA0 := hA
  have hB := Nat.le_refl w.heap.size
  have hK : Tr Dw w.heap.size A w A w := Tr.refl (Dw := Dw) hA
  have hH : Hp w.heap.size A w [] := Hp.nil
  refine C_seq ?_
  refine C_region ?_
  refine V_y (Y_assign rfl) rfl rfl rfl ?_
  refine V_to (fun _ _ => rfl) ?_
  refine C_seq ?_
  refine C_seq ?_
  obtain ⟨s2, ho1, hm⟩ := Option.bind_eq_some_iff.1 hm
  refine C_cutG (ι := (Nat → Prop)) (fun (A7 : (Nat → Prop)) => [(11, .bool s2)]) (fun (A7 : (Nat → Prop)) => fun w' => Hp w.heap.size A7 w' ([]) ∧ Tr Dw w.heap.size A w A7 w') ?_ ?_
  · have hr3 : Tr Dw w.heap.size A w A w := Tr.refl (Dw := Dw) hA
    refine C_region ?_
    refine V_y (Y_move rfl) rfl rfl rfl ?_
    refine V_y (Y_lenStr rfl Tryd.underlying9 rfl) rfl rfl rfl ?_
    refine V_y (Y_gtr rfl rfl) rfl rfl rfl ?_
    refine V_y (Y_move rfl) rfl rfl rfl ?_
    rcases Bool.eq_false_or_eq_true (decide ((20000 : Int) < (s.size : Int))) with hc9 | hc9
    · rw [if_pos hc9] at ho1
      refine V_gn rfl rfl rfl hc9 rfl rfl rfl ?_
      refine V_gn rfl rfl rfl hc9 rfl rfl rfl ?_
      refine V_gn rfl rfl rfl hc9 rfl rfl rfl ?_
      refine V_gn rfl rfl rfl hc9 rfl rfl rfl ?_
      refine V_y (Y_pick_te rfl hc9 rfl) rfl rfl rfl ?_
      obtain rfl := Option.some.inj ho1
      refine V_end (fun a ha10 => ?_)
      exact ⟨A, ha10.sub ⟨rfl, trivial⟩, ⟨hH, hr3⟩⟩
    · rw [if_neg (nt hc9)] at ho1
      refine V_ge rfl rfl rfl hc9 ?_
      refine V_y (Y_move rfl) rfl rfl rfl ?_
      refine V_ge rfl rfl rfl hc9 ?_
      obtain ⟨x11, hx11, ho1⟩ := Option.bind_eq_some_iff.1 ho1
      refine V_call Tryd.call14 rfl rfl rfl rfl (portref2_bodyLines_c (Dw := Dw) w hA (Mx.tr (Dw := Dw) hT hK) s hx11) ?_
      rintro v12 w14 ⟨_, rfl, h13, hk15⟩
      have ht16 := Kp.tr (Dw := Dw) hk15 hA hB
      replace hH := Hp.kp (Dw := Dw) hH hk15
      replace hK := Tr.trans (Dw := Dw) hK ht16
      replace hr3 := Tr.trans (Dw := Dw) hr3 ht16
      replace hB := Nat.le_trans hB ht16.ex.size
      replace hA := ht16.new
      refine V_ge rfl rfl rfl hc9 ?_
      refine V_y (Y_lenSl h13 rfl Tryd.underlying30 rfl) rfl rfl rfl ?_
      refine V_ge rfl rfl rfl hc9 ?_
      refine V_y (Y_gtr rfl rfl) rfl rfl rfl ?_
      refine V_y (Y_pick_fe rfl hc9 rfl) rfl rfl rfl ?_
      obtain rfl := Option.some.inj ho1
      refine V_end (fun a ha17 => ?_)
      exact ⟨A, ha17.sub ⟨rfl, trivial⟩, ⟨hH, hr3⟩⟩
  rintro A7 w4 ⟨hH8, hk5⟩ a ha6
  replace hK := Tr.trans (Dw := Dw) hK hk5
  replace hB := Nat.le_trans hB hk5.ex.size
  replace hA := hk5.new
  replace hH : Hp w.heap.size A7 w4 ([]) := hH8
  refine C_at (n := ⟨12, [], none⟩) (fun _ _ => rfl) ?_ ha6
  refine C_cond rfl (fun hc18 => ?_) (fun hc18 => ?_)
  · rw [if_pos hc18] at hm
    refine C_seq ?_
    refine C_region ?_
    refine V_y (Y_assign rfl) rfl rfl rfl ?_
    refine V_to (fun _ _ => rfl) ?_
    obtain rfl := Option.some.inj hm
    refine C_ret ?_
    try simp only [↓inBlock_ret, ↓then_ret]
    exact retQ rfl (Res.one Tryd.results13 rfl) ⟨rfl, hK.kp⟩
  · rw [if_neg (nt hc18)] at hm
    refine C_skip_to (fun _ _ => rfl) ?_
    refine C_seq ?_
    refine C_region ?_
    refine V_y (Y_assign rfl) rfl rfl rfl ?_
    refine V_to (fun _ _ => rfl) ?_
    obtain rfl := Option.some.inj hm
    refine C_ret ?_
    try simp only [↓inBlock_ret, ↓then_ret]
    exact retQ rfl (Res.one Tryd.results13 rfl) ⟨rfl, hK.kp⟩

end Go.Proofs.YtdedbofpidgjhaaDoor.W
