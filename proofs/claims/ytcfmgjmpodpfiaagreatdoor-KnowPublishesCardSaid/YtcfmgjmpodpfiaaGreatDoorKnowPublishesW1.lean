/-
  Written by program (gen.py) from the IR of the dump: each function computes its model.
-/
import Derived.Test.YtcfmgjmpodpfiaaGreatDoorKnowPublishesW0
namespace Go.Proofs.YtcfmgjmpodpfiaaGreatDoor.W
open Go Go.RowKit Go.Pu Go.Gw Go.Proofs Go.Proofs.YtcfmgjmpodpfiaaGreatDoor.M
set_option linter.unusedVariables false
set_option linter.unusedSimpArgs false
variable {Dw : Prop}

def Tryz_strings_ReplaceAll_lay_ren : Go.Shelf.Ren := ⟨fun | 138 => 93 | 143 => 95 | 154 => 85 | 155 => 69 | 165 => 94 | 166 => 96 | 169 => 98 | 195 => 102 | 197 => 97 | 217 => 110 | 218 => 103 | 219 => 106 | 224 => 112 | 225 => 111 | 240 => 104 | 241 => 105 | 260 => 107 | 266 => 114 | 267 => 113 | 276 => 108 | 277 => 109 | 314 => 115 | n => n, fun | 0 => 0 | 1 => 1 | 2 => 2 | 3 => 3 | 4 => 4 | 5 => 5 | 6 => 6 | 7 => 7 | 8 => 8 | 9 => 9 | 10 => 10 | 11 => 11 | 12 => 12 | 13 => 13 | 14 => 14 | 15 => 15 | 16 => 16 | 17 => 17 | 18 => 18 | 19 => 19 | 20 => 20 | 21 => 21 | 27 => 192 | 28 => 75 | 31 => 70 | 34 => 80 | 37 => 194 | 40 => 182 | 43 => 43 | 46 => 159 | 47 => 158 | 51 => 175 | 52 => 174 | 53 => 177 | 54 => 176 | 55 => 211 | 61 => 178 | 65 => 183 | 66 => 166 | 68 => 163 | 70 => 193 | 71 => 195 | 72 => 196 | 73 => 197 | 74 => 198 | 75 => 199 | 76 => 200 | 77 => 201 | 80 => 204 | 81 => 228 | 101 => 73 | 103 => 210 | 104 => 165 | 105 => 202 | 106 => 203 | 111 => 153 | 113 => 190 | 114 => 216 | 119 => 217 | 127 => 212 | 131 => 38 | 137 => 218 | 138 => 219 | 139 => 220 | 146 => 221 | 150 => 208 | 151 => 222 | 155 => 209 | 164 => 213 | 165 => 214 | 166 => 215 | 182 => 168 | 183 => 169 | 218 => 184 | 219 => 185 | 220 => 186 | 222 => 188 | 228 => 205 | 229 => 206 | 238 => 223 | 239 => 224 | 240 => 225 | 241 => 226 | 242 => 227 | 243 => 229 | 244 => 230 | 245 => 231 | 246 => 232 | 247 => 233 | 248 => 234 | 249 => 235 | n => n, fun | 1 => 0 | 3 => 1 | 4 => 2 | n => n⟩
theorem Tryz_strings_ReplaceAll_lay : Go.Proofs.Lays.n155 Tryz.prog Tryz_strings_ReplaceAll_lay_ren := {
  mixed := by kernel_rfl,
  f138 := Tryz.func93.trans (congrArg some (by kernel_rfl)),
  f143 := Tryz.func95.trans (congrArg some (by kernel_rfl)),
  f154 := Tryz.func85.trans (congrArg some (by kernel_rfl)),
  f155 := Tryz.func69.trans (congrArg some (by kernel_rfl)),
  f165 := Tryz.func94.trans (congrArg some (by kernel_rfl)),
  f166 := Tryz.func96.trans (congrArg some (by kernel_rfl)),
  f169 := Tryz.func98.trans (congrArg some (by kernel_rfl)),
  f195 := Tryz.func102.trans (congrArg some (by kernel_rfl)),
  f197 := Tryz.func97.trans (congrArg some (by kernel_rfl)),
  f217 := Tryz.func110.trans (congrArg some (by kernel_rfl)),
  f218 := Tryz.func103.trans (congrArg some (by kernel_rfl)),
  f219 := Tryz.func106.trans (congrArg some (by kernel_rfl)),
  f224 := Tryz.func112.trans (congrArg some (by kernel_rfl)),
  f225 := Tryz.func111.trans (congrArg some (by kernel_rfl)),
  f240 := Tryz.func104.trans (congrArg some (by kernel_rfl)),
  f241 := Tryz.func105.trans (congrArg some (by kernel_rfl)),
  f260 := Tryz.func107.trans (congrArg some (by kernel_rfl)),
  f266 := Tryz.func114.trans (congrArg some (by kernel_rfl)),
  f267 := Tryz.func113.trans (congrArg some (by kernel_rfl)),
  f276 := Tryz.func108.trans (congrArg some (by kernel_rfl)),
  f277 := Tryz.func109.trans (congrArg some (by kernel_rfl)),
  f314 := Tryz.func115.trans (congrArg some (by kernel_rfl)),
  t0 := Tryz.underlying0,
  a0 := Tryz.isAgg0,
  z0 := Tryz.sizeOf0,
  v0 := Tryz.zeroValue0,
  t3 := Tryz.underlying3,
  a3 := Tryz.isAgg3,
  z3 := Tryz.sizeOf3,
  v3 := Tryz.zeroValue3,
  t4 := Tryz.underlying4,
  a4 := Tryz.isAgg4,
  z4 := Tryz.sizeOf4,
  v4 := Tryz.zeroValue4,
  t5 := Tryz.underlying5,
  a5 := Tryz.isAgg5,
  z5 := Tryz.sizeOf5,
  v5 := Tryz.zeroValue5,
  t9 := Tryz.underlying9,
  a9 := Tryz.isAgg9,
  z9 := Tryz.sizeOf9,
  v9 := Tryz.zeroValue9,
  t20 := Tryz.underlying20,
  a20 := Tryz.isAgg20,
  z20 := Tryz.sizeOf20,
  v20 := Tryz.zeroValue20,
  t21 := Tryz.underlying21,
  a21 := Tryz.isAgg21,
  z21 := Tryz.sizeOf21,
  v21 := Tryz.zeroValue21,
  t37 := Tryz.underlying194,
  a37 := Tryz.isAgg194,
  z37 := Tryz.sizeOf194,
  v37 := Tryz.zeroValue194,
  t46 := Tryz.underlying159,
  a46 := Tryz.isAgg159,
  z46 := Tryz.sizeOf159,
  v46 := Tryz.zeroValue159,
  t51 := Tryz.underlying175,
  a51 := Tryz.isAgg175,
  z51 := Tryz.sizeOf175,
  v51 := Tryz.zeroValue175,
  t70 := Tryz.underlying193,
  a70 := Tryz.isAgg193,
  z70 := Tryz.sizeOf193,
  v70 := Tryz.zeroValue193,
  t72 := Tryz.underlying196,
  a72 := Tryz.isAgg196,
  z72 := Tryz.sizeOf196,
  v72 := Tryz.zeroValue196,
  t75 := Tryz.underlying199,
  a75 := Tryz.isAgg199,
  z75 := Tryz.sizeOf199,
  v75 := Tryz.zeroValue199,
  t76 := Tryz.underlying200,
  a76 := Tryz.isAgg200,
  z76 := Tryz.sizeOf200,
  v76 := Tryz.zeroValue200,
  t105 := Tryz.underlying202,
  a105 := Tryz.isAgg202,
  z105 := Tryz.sizeOf202,
  v105 := Tryz.zeroValue202,
  t119 := Tryz.underlying217,
  a119 := Tryz.isAgg217,
  z119 := Tryz.sizeOf217,
  t127 := Tryz.underlying212,
  a127 := Tryz.isAgg212,
  z127 := Tryz.sizeOf212,
  v127 := Tryz.zeroValue212,
  t138 := Tryz.underlying219,
  a138 := Tryz.isAgg219,
  z138 := Tryz.sizeOf219,
  v138 := Tryz.zeroValue219,
  t139 := Tryz.underlying220,
  a139 := Tryz.isAgg220,
  z139 := Tryz.sizeOf220,
  v139 := Tryz.zeroValue220,
  t146 := Tryz.underlying221,
  a146 := Tryz.isAgg221,
  z146 := Tryz.sizeOf221,
  v146 := Tryz.zeroValue221,
  t164 := Tryz.underlying213,
  a164 := Tryz.isAgg213,
  z164 := Tryz.sizeOf213,
  v164 := Tryz.zeroValue213,
  g1 := by kernel_rfl,
  g3 := by kernel_rfl,
  g4 := by kernel_rfl }
theorem Tryz_strings_ReplaceAll_lay_x : Go.Proofs.Builder.Extra Tryz.prog Tryz_strings_ReplaceAll_lay_ren := {
  sizeBuilder := by kernel_rfl
  liesBuilder := by kernel_rfl
  t5 := Tryz.underlying5
  a5 := Tryz.isAgg5
  z5 := Tryz.sizeOf5
  v5 := Tryz.zeroValue5
  infoByte := by kernel_rfl
  cellsByte := by kernel_rfl
  sizeByte := by kernel_rfl
  neB5 := (by decide : (196 : Nat) ≠ 5) }
theorem strings_ReplaceAll_c (w : World) {A : Nat → Prop} (hA : ∀ b, w.heap.size ≤ b → A b) (hT : Mx Tryz.prog 0 A w) (s : ByteArray) (old : ByteArray) (new : ByteArray) {r : ByteArray} (hm : strings_ReplaceAll s old new = some r) : Ret Tryz.prog 69 #[.string s, .string old, .string new] w fun v w' => v = .string r ∧ Kp False w w' := by
  unfold strings_ReplaceAll at hm
  split at hm
  case isFalse => cases hm
  rename_i h
  obtain rfl := Option.some.inj hm
  obtain ⟨⟨m, hmx⟩, _, _⟩ := hT
  refine Calls.mono (Go.Proofs.Any.strings_ReplaceAll Tryz_strings_ReplaceAll_lay Tryz_strings_ReplaceAll_lay_x s old new m w h.1 hmx h.2.1 h.2.2) ?_
  rintro _ w' ⟨rfl, hk⟩
  exact ⟨_, rfl, rfl, .of hk⟩

set_option maxRecDepth 4000 in
set_option maxHeartbeats 4000000 in
theorem portref2_lowByte_1_c (w : World) (r_ : Int) : Ret Tryz.prog 84 #[.int .i32 r_] w fun v w' => v = .bool (portref2_lowByte_1 r_) ∧ w = w' := by
  generalize hm : portref2_lowByte_1 r_ = r
  unfold portref2_lowByte_1 at hm
  refine enter Tryz.func84 rfl Tryz.ntmps84 rfl ?_
  refine C_seq ?_
  refine C_region ?_
  refine V_y (Y_assign rfl) rfl rfl rfl ?_
  refine V_to (fun _ _ => rfl) ?_
  refine C_seq ?_
  refine C_region ?_
  refine V_y (Y_move rfl) rfl rfl rfl ?_
  refine V_y (Y_lss rfl rfl) rfl rfl rfl ?_
  refine V_y (Y_move rfl) rfl rfl rfl ?_
  refine V_cut 3 (fun _ : Unit => [(8, .bool ((decide (r_ < 32)) || (r_ == 127)))]) (fun _ w' => w = w') ?_ ?_
  · simp only [List.take, List.drop]
    rcases Bool.eq_false_or_eq_true (decide (r_ < 32)) with hc1 | hc1
    · refine V_gn rfl rfl rfl hc1 rfl rfl rfl ?_
      refine V_gn rfl rfl rfl hc1 rfl rfl rfl ?_
      refine V_y (Y_pick_te rfl hc1 rfl) rfl rfl rfl ?_
      exact V_end fun a ha => ⟨(), ha.sub ⟨(by rw [hc1]; rfl), trivial⟩, rfl⟩
    · refine V_ge rfl rfl rfl hc1 ?_
      refine V_y (Y_move rfl) rfl rfl rfl ?_
      refine V_ge rfl rfl rfl hc1 ?_
      refine V_y (Y_eql rfl rfl) rfl rfl rfl ?_
      refine V_y (Y_pick_fe rfl hc1 rfl) rfl rfl rfl ?_
      exact V_end fun a ha => ⟨(), ha.sub ⟨(by rw [hc1]; rfl), trivial⟩, rfl⟩
  simp only [List.take, List.drop]
  rintro _ _ rfl
  refine V_y (Y_assign rfl) rfl rfl rfl ?_
  refine V_to (fun _ _ => rfl) ?_
  obtain rfl := hm
  refine C_ret ?_
  try simp only [↓inBlock_ret, ↓then_ret]
  exact retQ rfl (Res.one Tryz.results84 rfl) ⟨rfl, rfl⟩

set_option maxRecDepth 4000 in
set_option maxHeartbeats 4000000 in
theorem portref2_lowByte_c (w : World) {A : Nat → Prop} (hA : ∀ b, w.heap.size ≤ b → A b) (s : ByteArray) {r : Bool} (hm : portref2_lowByte s = some r) : Ret Tryz.prog 68 #[.string s] w fun v w' => v = .bool r ∧ Kp False w w' := by
  unfold portref2_lowByte at hm
  refine enter Tryz.func68 rfl Tryz.ntmps68 rfl ?_
  have hA0 := hA
  have hB := Nat.le_refl w.heap.size
  have hK : Tr False w.heap.size A w A w := Tr.refl (Dw := False) hA
  have hH : Hp w.heap.size A w [] := Hp.nil
  refine C_seq ?_
  refine C_region ?_
  refine V_y (Y_assign rfl) rfl rfl rfl ?_
  refine V_to (fun _ _ => rfl) ?_
  refine C_seq ?_
  refine C_region ?_
  refine V_y (Y_move rfl) rfl rfl rfl ?_
  refine V_call Tryz.call83 rfl rfl rfl rfl (contains_wrap (Go.Proofs.Any.strings_ContainsFunc_grows Tryz_contains_lay 84 #[] (fun args w => Tryz.call84 args w) (fun y => portref2_lowByte_1 (y : Int)) s w (fun W x _ _ => Calls.mono (portref2_lowByte_1_c W (x : Int)) fun _ _ h => contains_fn h))) ?_
  rintro _ w1 ⟨rfl, hk2⟩
  have ht3 := Kp.tr (Dw := False) hk2 hA hB
  replace hH := Hp.kp (Dw := False) hH hk2
  replace hK := Tr.trans (Dw := False) hK ht3
  replace hB := Nat.le_trans hB ht3.ex.size
  replace hA := ht3.new
  refine V_y (Y_assign rfl) rfl rfl rfl ?_
  refine V_to (fun _ _ => rfl) ?_
  obtain rfl := Option.some.inj hm
  refine C_ret ?_
  try simp only [↓inBlock_ret, ↓then_ret]
  exact retQ rfl (Res.one Tryz.results68 rfl) ⟨rfl, hK.kp⟩

set_option maxRecDepth 4000 in
set_option maxHeartbeats 4000000 in
theorem portref2_versionFault_c (w : World) {A : Nat → Prop} (hA : ∀ b, w.heap.size ≤ b → A b) (hT : Mx Tryz.prog 0 A w) (v : know_Version) {r : Int} (hm : portref2_versionFault v = some r) : Ret Tryz.prog 57 #[.agg #[.int .i64 v.at_, .string v.title, .string v.body]] w fun v w' => v = .int .i64 r ∧ Kp False w w' := by
  unfold portref2_versionFault at hm
  refine enter Tryz.func57 rfl Tryz.ntmps57 rfl ?_
  have hA0 := hA
  have hB := Nat.le_refl w.heap.size
  have hK : Tr False w.heap.size A w A w := Tr.refl (Dw := False) hA
  have hH : Hp w.heap.size A w [] := Hp.nil
  refine C_seq ?_
  refine C_region ?_
  refine V_box rfl rfl ?_
  intro b1 w2 h3
  have hk5 := h3.kp (Dw := False)
  have h4 : El (α := know_Version) A w2 b1 0 v := h3.el hA ⟨[.int .i64 v.at_], _, rfl, rfl, ⟨[.string v.title], _, rfl, rfl, rfl⟩⟩
  have ht6 := Kp.tr (Dw := False) hk5 hA hB
  replace hH := Hp.kp (Dw := False) hH hk5
  replace hK := Tr.trans (Dw := False) hK ht6
  replace hB := Nat.le_trans hB ht6.ex.size
  replace hA := ht6.new
  refine V_y (Y_assign rfl) rfl rfl rfl ?_
  refine V_to (fun _ _ => rfl) ?_
  refine C_seq ?_
  refine C_block ?_
  refine C_seq ?_
  obtain ⟨s8, ho7, hm⟩ := Option.bind_eq_some_iff.1 hm
  refine C_cutG (ι := (Nat → Prop)) (fun (A13 : (Nat → Prop)) => [(1, .pointer (some ⟨b1, 0, none⟩)), (3, .bool s8)]) (fun (A13 : (Nat → Prop)) => fun w' => Hp w.heap.size A13 w' ([]) ∧ Tr False w.heap.size A w2 A13 w') ?_ ?_
  · have hr9 : Tr False w.heap.size A w2 A w2 := Tr.refl (Dw := False) hA
    refine C_region ?_
    have h15 := El_know_Version_1 h4
    refine V_y (Y_fieldAddr Tryz.underlying24 rfl Tryz.sizeOf9 (by decide) rfl) rfl rfl rfl ?_
    refine V_y (Y_load (El.str h15) Tryz.isAgg9 rfl) rfl rfl rfl ?_
    refine V_y (Y_lenStr rfl Tryz.underlying9 rfl) rfl rfl rfl ?_
    refine V_y (Y_gtr rfl rfl) rfl rfl rfl ?_
    refine V_y (Y_move rfl) rfl rfl rfl ?_
    rcases Bool.eq_false_or_eq_true (decide ((200 : Int) < (v.title.size : Int))) with hc16 | hc16
    · rw [if_pos hc16] at ho7
      refine V_gn rfl rfl rfl hc16 rfl rfl rfl ?_
      refine V_gn rfl rfl rfl hc16 rfl rfl rfl ?_
      refine V_gn rfl rfl rfl hc16 rfl rfl rfl ?_
      refine V_gn rfl rfl rfl hc16 rfl rfl rfl ?_
      refine V_y (Y_pick_te rfl hc16 rfl) rfl rfl rfl ?_
      refine V_y (Y_move rfl) rfl rfl rfl ?_
      rcases Bool.eq_false_or_eq_true (true) with hc17 | hc17
      · rw [if_pos hc17] at ho7
        refine V_gn rfl rfl rfl hc17 rfl rfl rfl ?_
        refine V_gn rfl rfl rfl hc17 rfl rfl rfl ?_
        refine V_gn rfl rfl rfl hc17 rfl rfl rfl ?_
        refine V_gn rfl rfl rfl hc17 rfl rfl rfl ?_
        refine V_gn rfl rfl rfl hc17 rfl rfl rfl ?_
        refine V_y (Y_pick_te rfl hc17 rfl) rfl rfl rfl ?_
        refine V_y (Y_assign rfl) rfl rfl rfl ?_
        obtain rfl := Option.some.inj ho7
        refine V_end (fun a ha18 => ?_)
        exact ⟨A, ha18.sub ⟨rfl, rfl, trivial⟩, ⟨hH, hr9⟩⟩
      · rw [if_neg (nt hc17)] at ho7
        refine V_ge rfl rfl rfl hc17 ?_
        have h19 := El_know_Version_2 h4
        refine V_y (Y_fieldAddr Tryz.underlying24 rfl Tryz.sizeOf9 (by decide) rfl) rfl rfl rfl ?_
        refine V_ge rfl rfl rfl hc17 ?_
        refine V_y (Y_load (El.str h19) Tryz.isAgg9 rfl) rfl rfl rfl ?_
        refine V_ge rfl rfl rfl hc17 ?_
        obtain ⟨x20, hx20, ho7⟩ := Option.bind_eq_some_iff.1 ho7
        refine V_call Tryz.call67 rfl rfl rfl rfl (portref2_bodyLines_c (Dw := False) w2 hA (Mx.tr (Dw := False) hT hK) v.body hx20) ?_
        rintro v21 w23 ⟨_, rfl, h22, hk24⟩
        have ht25 := Kp.tr (Dw := False) hk24 hA hB
        replace hH := Hp.kp (Dw := False) hH hk24
        replace h4 := El.tr (Dw := False) h4 ht25
        replace h15 := El.tr (Dw := False) h15 ht25
        replace h19 := El.tr (Dw := False) h19 ht25
        replace hK := Tr.trans (Dw := False) hK ht25
        replace hr9 := Tr.trans (Dw := False) hr9 ht25
        replace hB := Nat.le_trans hB ht25.ex.size
        replace hA := ht25.new
        refine V_ge rfl rfl rfl hc17 ?_
        refine V_y (Y_lenSl h22 rfl Tryz.underlying70 rfl) rfl rfl rfl ?_
        refine V_ge rfl rfl rfl hc17 ?_
        refine V_y (Y_gtr rfl rfl) rfl rfl rfl ?_
        refine V_y (Y_pick_fe rfl hc17 rfl) rfl rfl rfl ?_
        refine V_y (Y_assign rfl) rfl rfl rfl ?_
        obtain rfl := Option.some.inj ho7
        refine V_end (fun a ha26 => ?_)
        exact ⟨A, ha26.sub ⟨rfl, rfl, trivial⟩, ⟨hH, hr9⟩⟩
    · rw [if_neg (nt hc16)] at ho7
      refine V_ge rfl rfl rfl hc16 ?_
      have h27 := El_know_Version_2 h4
      refine V_y (Y_fieldAddr Tryz.underlying24 rfl Tryz.sizeOf9 (by decide) rfl) rfl rfl rfl ?_
      refine V_ge rfl rfl rfl hc16 ?_
      refine V_y (Y_load (El.str h27) Tryz.isAgg9 rfl) rfl rfl rfl ?_
      refine V_ge rfl rfl rfl hc16 ?_
      refine V_y (Y_lenStr rfl Tryz.underlying9 rfl) rfl rfl rfl ?_
      refine V_ge rfl rfl rfl hc16 ?_
      refine V_y (Y_gtr rfl rfl) rfl rfl rfl ?_
      refine V_y (Y_pick_fe rfl hc16 rfl) rfl rfl rfl ?_
      refine V_y (Y_move rfl) rfl rfl rfl ?_
      rcases Bool.eq_false_or_eq_true (decide ((20000 : Int) < (v.body.size : Int))) with hc28 | hc28
      · rw [if_pos hc28] at ho7
        refine V_gn rfl rfl rfl hc28 rfl rfl rfl ?_
        refine V_gn rfl rfl rfl hc28 rfl rfl rfl ?_
        refine V_gn rfl rfl rfl hc28 rfl rfl rfl ?_
        refine V_gn rfl rfl rfl hc28 rfl rfl rfl ?_
        refine V_gn rfl rfl rfl hc28 rfl rfl rfl ?_
        refine V_y (Y_pick_te rfl hc28 rfl) rfl rfl rfl ?_
        refine V_y (Y_assign rfl) rfl rfl rfl ?_
        obtain rfl := Option.some.inj ho7
        refine V_end (fun a ha29 => ?_)
        exact ⟨A, ha29.sub ⟨rfl, rfl, trivial⟩, ⟨hH, hr9⟩⟩
      · rw [if_neg (nt hc28)] at ho7
        refine V_ge rfl rfl rfl hc28 ?_
        have h30 := El_know_Version_2 h4
        refine V_y (Y_fieldAddr Tryz.underlying24 rfl Tryz.sizeOf9 (by decide) rfl) rfl rfl rfl ?_
        refine V_ge rfl rfl rfl hc28 ?_
        refine V_y (Y_load (El.str h30) Tryz.isAgg9 rfl) rfl rfl rfl ?_
        refine V_ge rfl rfl rfl hc28 ?_
        obtain ⟨x31, hx31, ho7⟩ := Option.bind_eq_some_iff.1 ho7
        refine V_call Tryz.call67 rfl rfl rfl rfl (portref2_bodyLines_c (Dw := False) w2 hA (Mx.tr (Dw := False) hT hK) v.body hx31) ?_
        rintro v32 w34 ⟨_, rfl, h33, hk35⟩
        have ht36 := Kp.tr (Dw := False) hk35 hA hB
        replace hH := Hp.kp (Dw := False) hH hk35
        replace h4 := El.tr (Dw := False) h4 ht36
        replace h15 := El.tr (Dw := False) h15 ht36
        replace h27 := El.tr (Dw := False) h27 ht36
        replace h30 := El.tr (Dw := False) h30 ht36
        replace hK := Tr.trans (Dw := False) hK ht36
        replace hr9 := Tr.trans (Dw := False) hr9 ht36
        replace hB := Nat.le_trans hB ht36.ex.size
        replace hA := ht36.new
        refine V_ge rfl rfl rfl hc28 ?_
        refine V_y (Y_lenSl h33 rfl Tryz.underlying70 rfl) rfl rfl rfl ?_
        refine V_ge rfl rfl rfl hc28 ?_
        refine V_y (Y_gtr rfl rfl) rfl rfl rfl ?_
        refine V_y (Y_pick_fe rfl hc28 rfl) rfl rfl rfl ?_
        refine V_y (Y_assign rfl) rfl rfl rfl ?_
        obtain rfl := Option.some.inj ho7
        refine V_end (fun a ha37 => ?_)
        exact ⟨A, ha37.sub ⟨rfl, rfl, trivial⟩, ⟨hH, hr9⟩⟩
  rintro A13 w10 ⟨hH14, hk11⟩ a ha12
  replace h4 := El.tr (Dw := False) h4 hk11
  replace hK := Tr.trans (Dw := False) hK hk11
  replace hB := Nat.le_trans hB hk11.ex.size
  replace hA := hk11.new
  replace hH : Hp w.heap.size A13 w10 ([]) := hH14
  refine C_at (n := ⟨40, [], none⟩) (fun _ _ => rfl) ?_ ha12
  refine C_cond rfl (fun hc38 => ?_) (fun hc38 => ?_)
  · rw [if_pos hc38] at hm
    refine C_seq ?_
    refine C_region ?_
    refine V_y (Y_assign rfl) rfl rfl rfl ?_
    refine V_to (fun _ _ => rfl) ?_
    obtain rfl := Option.some.inj hm
    refine C_ret ?_
    try simp only [↓inBlock_ret, ↓then_ret]
    exact retQ rfl (Res.one Tryz.results57 rfl) ⟨rfl, hK.kp⟩
  · rw [if_neg (nt hc38)] at hm
    refine C_seq ?_
    obtain ⟨s40, ho39, hm⟩ := Option.bind_eq_some_iff.1 hm
    refine C_cutG (ι := (Nat → Prop)) (fun (A45 : (Nat → Prop)) => [(1, .pointer (some ⟨b1, 0, none⟩)), (21, .bool s40)]) (fun (A45 : (Nat → Prop)) => fun w' => Hp w.heap.size A45 w' ([]) ∧ Tr False w.heap.size A13 w10 A45 w') ?_ ?_
    · have hr41 : Tr False w.heap.size A13 w10 A13 w10 := Tr.refl (Dw := False) hA
      refine C_region ?_
      have h47 := El_know_Version_1 h4
      refine V_y (Y_fieldAddr Tryz.underlying24 rfl Tryz.sizeOf9 (by decide) rfl) rfl rfl rfl ?_
      refine V_y (Y_load (El.str h47) Tryz.isAgg9 rfl) rfl rfl rfl ?_
      obtain ⟨x48, hx48, ho39⟩ := Option.bind_eq_some_iff.1 ho39
      refine V_call Tryz.call68 rfl rfl rfl rfl (portref2_lowByte_c w10 hA v.title hx48) ?_
      rintro _ w49 ⟨rfl, hk50⟩
      have ht51 := Kp.tr (Dw := False) hk50 hA hB
      replace hH := Hp.kp (Dw := False) hH hk50
      replace h4 := El.tr (Dw := False) h4 ht51
      replace h47 := El.tr (Dw := False) h47 ht51
      replace hK := Tr.trans (Dw := False) hK ht51
      replace hr41 := Tr.trans (Dw := False) hr41 ht51
      replace hB := Nat.le_trans hB ht51.ex.size
      replace hA := ht51.new
      refine V_y (Y_move rfl) rfl rfl rfl ?_
      rcases Bool.eq_false_or_eq_true (x48) with hc52 | hc52
      · rw [if_pos hc52] at ho39
        refine V_gn rfl rfl rfl hc52 rfl rfl rfl ?_
        refine V_gn rfl rfl rfl hc52 rfl rfl rfl ?_
        refine V_gn rfl rfl rfl hc52 rfl rfl rfl ?_
        refine V_gn rfl rfl rfl hc52 rfl rfl rfl ?_
        refine V_y (Y_pick_te rfl hc52 rfl) rfl rfl rfl ?_
        refine V_y (Y_assign rfl) rfl rfl rfl ?_
        obtain rfl := Option.some.inj ho39
        refine V_end (fun a ha53 => ?_)
        exact ⟨A13, ha53.sub ⟨rfl, rfl, trivial⟩, ⟨hH, hr41⟩⟩
      · rw [if_neg (nt hc52)] at ho39
        refine V_ge rfl rfl rfl hc52 ?_
        have h54 := El_know_Version_2 h4
        refine V_y (Y_fieldAddr Tryz.underlying24 rfl Tryz.sizeOf9 (by decide) rfl) rfl rfl rfl ?_
        refine V_ge rfl rfl rfl hc52 ?_
        refine V_y (Y_load (El.str h54) Tryz.isAgg9 rfl) rfl rfl rfl ?_
        refine V_ge rfl rfl rfl hc52 ?_
        obtain ⟨x55, hx55, ho39⟩ := Option.bind_eq_some_iff.1 ho39
        refine V_call Tryz.call69 rfl rfl rfl rfl (strings_ReplaceAll_c w49 hA (Mx.tr (Dw := False) hT hK) v.body (⟨#[10]⟩ : ByteArray) (⟨#[]⟩ : ByteArray) hx55) ?_
        rintro _ w56 ⟨rfl, hk57⟩
        have ht58 := Kp.tr (Dw := False) hk57 hA hB
        replace hH := Hp.kp (Dw := False) hH hk57
        replace h4 := El.tr (Dw := False) h4 ht58
        replace h47 := El.tr (Dw := False) h47 ht58
        replace h54 := El.tr (Dw := False) h54 ht58
        replace hK := Tr.trans (Dw := False) hK ht58
        replace hr41 := Tr.trans (Dw := False) hr41 ht58
        replace hB := Nat.le_trans hB ht58.ex.size
        replace hA := ht58.new
        refine V_ge rfl rfl rfl hc52 ?_
        obtain ⟨x59, hx59, ho39⟩ := Option.bind_eq_some_iff.1 ho39
        refine V_call Tryz.call68 rfl rfl rfl rfl (portref2_lowByte_c w56 hA x55 hx59) ?_
        rintro _ w60 ⟨rfl, hk61⟩
        have ht62 := Kp.tr (Dw := False) hk61 hA hB
        replace hH := Hp.kp (Dw := False) hH hk61
        replace h4 := El.tr (Dw := False) h4 ht62
        replace h47 := El.tr (Dw := False) h47 ht62
        replace h54 := El.tr (Dw := False) h54 ht62
        replace hK := Tr.trans (Dw := False) hK ht62
        replace hr41 := Tr.trans (Dw := False) hr41 ht62
        replace hB := Nat.le_trans hB ht62.ex.size
        replace hA := ht62.new
        refine V_y (Y_pick_fe rfl hc52 rfl) rfl rfl rfl ?_
        refine V_y (Y_assign rfl) rfl rfl rfl ?_
        obtain rfl := Option.some.inj ho39
        refine V_end (fun a ha63 => ?_)
        exact ⟨A13, ha63.sub ⟨rfl, rfl, trivial⟩, ⟨hH, hr41⟩⟩
    rintro A45 w42 ⟨hH46, hk43⟩ a ha44
    replace h4 := El.tr (Dw := False) h4 hk43
    replace hK := Tr.trans (Dw := False) hK hk43
    replace hB := Nat.le_trans hB hk43.ex.size
    replace hA := hk43.new
    replace hH : Hp w.heap.size A45 w42 ([]) := hH46
    refine C_at (n := ⟨40, [], none⟩) (fun _ _ => rfl) ?_ ha44
    refine C_cond rfl (fun hc64 => ?_) (fun hc64 => ?_)
    · rw [if_pos hc64] at hm
      refine C_seq ?_
      refine C_region ?_
      refine V_y (Y_assign rfl) rfl rfl rfl ?_
      refine V_to (fun _ _ => rfl) ?_
      obtain rfl := Option.some.inj hm
      refine C_ret ?_
      try simp only [↓inBlock_ret, ↓then_ret]
      exact retQ rfl (Res.one Tryz.results57 rfl) ⟨rfl, hK.kp⟩
    · rw [if_neg (nt hc64)] at hm
      refine C_seq ?_
      refine C_region ?_
      have h65 := El_know_Version_1 h4
      refine V_y (Y_fieldAddr Tryz.underlying24 rfl Tryz.sizeOf9 (by decide) rfl) rfl rfl rfl ?_
      refine V_y (Y_load (El.str h65) Tryz.isAgg9 rfl) rfl rfl rfl ?_
      refine V_y (Y_seql rfl rfl) rfl rfl rfl ?_
      refine V_y (Y_move rfl) rfl rfl rfl ?_
      refine V_cut 4 (fun _ : Unit => [(39, .bool ((strEq v.title (⟨#[]⟩ : ByteArray)) && (!(strEq v.body (⟨#[]⟩ : ByteArray)))))]) (fun _ w' => w42 = w') ?_ ?_
      · simp only [List.take, List.drop]
        rcases Bool.eq_false_or_eq_true (strEq v.title (⟨#[]⟩ : ByteArray)) with hc66 | hc66
        · refine V_ge rfl rfl rfl hc66 ?_
          have h68 := El_know_Version_2 h4
          refine V_y (Y_fieldAddr Tryz.underlying24 rfl Tryz.sizeOf9 (by decide) rfl) rfl rfl rfl ?_
          refine V_ge rfl rfl rfl hc66 ?_
          refine V_y (Y_load (El.str h68) Tryz.isAgg9 rfl) rfl rfl rfl ?_
          refine V_ge rfl rfl rfl hc66 ?_
          refine V_y (Y_sneq rfl rfl) rfl rfl rfl ?_
          refine V_y (Y_pick_te rfl hc66 rfl) rfl rfl rfl ?_
          exact V_end fun a ha => ⟨(), ha.sub ⟨(by rw [hc66]; rfl), trivial⟩, rfl⟩
        · refine V_gn rfl rfl rfl hc66 rfl rfl rfl ?_
          refine V_gn rfl rfl rfl hc66 rfl rfl rfl ?_
          refine V_gn rfl rfl rfl hc66 rfl rfl rfl ?_
          refine V_y (Y_pick_fe rfl hc66 rfl) rfl rfl rfl ?_
          exact V_end fun a ha => ⟨(), ha.sub ⟨(by rw [hc66]; rfl), trivial⟩, rfl⟩
      simp only [List.take, List.drop]
      rintro _ _ rfl
      refine V_y (Y_assign rfl) rfl rfl rfl ?_
      refine V_to (fun _ _ => rfl) ?_
      refine C_cond rfl (fun hc69 => ?_) (fun hc69 => ?_)
      · rw [if_pos hc69] at hm
        refine C_seq ?_
        refine C_region ?_
        refine V_y (Y_assign rfl) rfl rfl rfl ?_
        refine V_to (fun _ _ => rfl) ?_
        obtain rfl := Option.some.inj hm
        refine C_ret ?_
        try simp only [↓inBlock_ret, ↓then_ret]
        exact retQ rfl (Res.one Tryz.results57 rfl) ⟨rfl, hK.kp⟩
      · rw [if_neg (nt hc69)] at hm
        refine C_skip_to (fun _ _ => rfl) ?_
        refine C_seq ?_
        refine C_region ?_
        refine V_y (Y_assign rfl) rfl rfl rfl ?_
        refine V_to (fun _ _ => rfl) ?_
        obtain rfl := Option.some.inj hm
        refine C_ret ?_
        try simp only [↓inBlock_ret, ↓then_ret]
        exact retQ rfl (Res.one Tryz.results57 rfl) ⟨rfl, hK.kp⟩

set_option maxRecDepth 4000 in
set_option maxHeartbeats 4000000 in
theorem portref2_ArticlesFault_c (w : World) {A : Nat → Prop} (hA : ∀ b, w.heap.size ≤ b → A b) (hT : Mx Tryz.prog 0 A w) (l : (List know_Article)) (v_l : Value) (h_l : Sl A w v_l l) {r : Int} (hm : portref2_ArticlesFault l = some r) : Ret Tryz.prog 15 #[v_l] w fun v w' => v = .int .i64 r ∧ Kp False w w' := by
  unfold portref2_ArticlesFault at hm
  refine enter Tryz.func15 rfl Tryz.ntmps15 rfl ?_
  have hA0 := hA
  have hB := Nat.le_refl w.heap.size
  have hK : Tr False w.heap.size A w A w := Tr.refl (Dw := False) hA
  have hH : Hp w.heap.size A w [] := Hp.nil
  refine C_seq ?_
  refine C_region ?_
  refine V_y (Y_assign rfl) rfl rfl rfl ?_
  refine V_to (fun _ _ => rfl) ?_
  refine C_seq ?_
  refine C_seq ?_
  refine C_region ?_
  refine V_y (Y_move rfl) rfl rfl rfl ?_
  refine V_y (Y_lenSl h_l rfl Tryz.underlying22 rfl) rfl rfl rfl ?_
  refine V_y (Y_gtr rfl rfl) rfl rfl rfl ?_
  refine V_to (fun _ _ => rfl) ?_
  refine C_cond rfl (fun hc3 => ?_) (fun hc3 => ?_)
  · rw [if_pos hc3] at hm
    refine C_seq ?_
    refine C_region ?_
    refine V_y (Y_assign rfl) rfl rfl rfl ?_
    refine V_to (fun _ _ => rfl) ?_
    obtain rfl := Option.some.inj hm
    refine C_ret ?_
    try simp only [↓inBlock_ret, ↓then_ret]
    exact retQ rfl (Res.one Tryz.results15 rfl) ⟨rfl, hK.kp⟩
  · rw [if_neg (nt hc3)] at hm
    refine C_skip_to (fun _ _ => rfl) ?_
    refine C_seq ?_
    refine C_seq ?_
    refine C_region ?_
    refine V_y (Y_move rfl) rfl rfl rfl ?_
    refine V_y (Y_lenSl h_l rfl Tryz.underlying22 rfl) rfl rfl rfl ?_
    refine V_y (Y_move rfl) rfl rfl rfl ?_
    refine V_to (fun _ _ => rfl) ?_
    have hn25 := Sl.le h_l
    obtain ⟨o4, ho4, hm⟩ := Option.bind_eq_some_iff.1 hm
    refine C_cutG (ι := (Unit × (Nat → Prop))) (fun ⟨s5, A12⟩ => []) (fun ⟨s5, A12⟩ => fun w' => o4 = .fin s5 ∧ Hp w.heap.size A12 w' ([]) ∧ Tr False w.heap.size A w A12 w') ?_ ?_
    · refine C_block ?_
      refine C_range ho4 (fun k7 _ a w' => ∃ i : (Nat → Prop), Has ⟨94, [], none⟩ a ([(0, v_l), (11, v_l), (12, .int .i64 (l.length : Int)), (13, .int .i64 (k7 : Int))]) ∧ Hp w.heap.size i w' ([]) ∧ Tr False w.heap.size A w i w') (fun a ha => ⟨A, ha.sub ⟨rfl, rfl, rfl, rfl, trivial⟩, ⟨hH, Tr.refl (Dw := False) hA⟩⟩) ?_
      rintro K k7 _ a w15 ⟨A16, ha155, hH17, hr6⟩ hle21 K24 h23
      refine C_of ?_ ha155
      replace h_l := Sl.tr (Dw := False) h_l hr6
      replace hK := Tr.trans (Dw := False) hK hr6
      replace hB := Nat.le_trans hB hr6.ex.size
      replace hA := hr6.new
      replace hH : Hp w.heap.size A16 w15 ([]) := hH17
      refine C_seq (C_region (V_y (Y_lss rfl rfl) rfl rfl rfl (V_to (fun _ _ => rfl) ?_)))
      refine C_seq ?_
      refine C_cond rfl (fun hc26 => ?_) (fun hc26 => ?_)
      · have hlt22 := lt_of_dec hc26
        obtain ⟨x18, h19, h20⟩ := K24 hlt22
        refine C_skip_to (fun _ _ => rfl) ?_
        refine C_seq ?_
        obtain ⟨o27, ho27, h19⟩ := Option.bind_eq_some_iff.1 h19
        refine C_cutG (ι := (Unit × (Nat → Prop))) (fun ⟨s28, A33⟩ => [(0, v_l), (11, v_l), (12, .int .i64 (l.length : Int)), (13, .int .i64 (k7 : Int))]) (fun ⟨s28, A33⟩ => fun w' => o27 = .fin s28 ∧ Hp w.heap.size A33 w' ([]) ∧ Tr False w.heap.size A16 w15 A33 w') ?_ ?_
        · have hr29 : Tr False w.heap.size A16 w15 A16 w15 := Tr.refl (Dw := False) hA
          refine C_block ?_
          refine C_seq ?_
          refine C_region ?_
          refine V_y (Y_move rfl) rfl rfl rfl ?_
          obtain ⟨x35, hx35, ho27⟩ := Option.bind_eq_some_iff.1 ho27
          refine V_indexAddr h_l hx35 Tryz.underlying22 Tryz.sizeOf36 rfl rfl rfl ?_
          intro b36 o37 h38
          obtain ⟨v39, h41, h40⟩ := El_know_Article h38
          refine V_y (Y_loadA h41 Tryz.isAgg36 Tryz.sizeOf36 rfl) rfl rfl rfl ?_
          refine V_alloc Tryz.zeroValue36 rfl ?_
          intro b42 w43 h44
          refine V_y (Y_assign rfl) rfl rfl rfl ?_
          have h49 : (v39).oneCell' = true := by obtain ⟨_, _, e, _⟩ := Sl.form h40; rw [e]; rfl
          refine V_storeNew h44 Tryz.sizeOf36 rfl rfl rfl rfl (by exact (List.forall_mem_cons.2 ⟨rfl, (List.forall_mem_cons.2 ⟨rfl, (List.forall_mem_cons.2 ⟨h49, (fun _ h => nomatch h)⟩)⟩)⟩)) ?_
          intro w45 h46
          have hk51 := h46.kp (Dw := False)
          have h50 : El (α := know_Article) A16 w45 b42 0 x35 := h46.el hA ⟨[.int .i64 x35.id_], _, rfl, rfl, ⟨[.int .i64 x35.group], _, rfl, rfl, ⟨_, rfl, h40⟩⟩⟩
          have ht52 := Kp.tr (Dw := False) hk51 hA hB
          replace hH := Hp.kp (Dw := False) hH hk51
          replace h_l := Sl.tr (Dw := False) h_l ht52
          replace h38 := El.tr (Dw := False) h38 ht52
          replace h40 := Sl.tr (Dw := False) h40 ht52
          replace hK := Tr.trans (Dw := False) hK ht52
          replace hr6 := Tr.trans (Dw := False) hr6 ht52
          replace hr29 := Tr.trans (Dw := False) hr29 ht52
          replace hB := Nat.le_trans hB ht52.ex.size
          replace hA := ht52.new
          refine V_to (fun _ _ => rfl) ?_
          refine C_seq ?_
          refine C_block ?_
          refine C_seq ?_
          refine C_region ?_
          have h53 := El_know_Article_0 h50
          refine V_y (Y_fieldAddr Tryz.underlying36 rfl Tryz.sizeOf3 (by decide) rfl) rfl rfl rfl ?_
          refine V_y (Y_load (El.int h53) Tryz.isAgg3 rfl) rfl rfl rfl ?_
          refine V_y (Y_lss rfl rfl) rfl rfl rfl ?_
          refine V_y (Y_move rfl) rfl rfl rfl ?_
          refine V_cut 4 (fun _ : Unit => [(0, v_l), (3, .int .i64 (k7 : Int)), (4, .pointer (some ⟨b42, 0, none⟩)), (11, v_l), (12, .int .i64 (l.length : Int)), (13, .int .i64 (k7 : Int)), (26, .bool ((decide (x35.id_ < 1)) || (decide ((3000000 : Int) < x35.id_))))]) (fun _ w' => w45 = w') ?_ ?_
          · simp only [List.take, List.drop]
            rcases Bool.eq_false_or_eq_true (decide (x35.id_ < 1)) with hc54 | hc54
            · refine V_gn rfl rfl rfl hc54 rfl rfl rfl ?_
              refine V_gn rfl rfl rfl hc54 rfl rfl rfl ?_
              refine V_gn rfl rfl rfl hc54 rfl rfl rfl ?_
              refine V_y (Y_pick_te rfl hc54 rfl) rfl rfl rfl ?_
              exact V_end fun a ha => ⟨(), ha.sub ⟨rfl, rfl, rfl, rfl, rfl, rfl, (by rw [hc54]; rfl), trivial⟩, rfl⟩
            · refine V_ge rfl rfl rfl hc54 ?_
              have h56 := El_know_Article_0 h50
              refine V_y (Y_fieldAddr Tryz.underlying36 rfl Tryz.sizeOf3 (by decide) rfl) rfl rfl rfl ?_
              refine V_ge rfl rfl rfl hc54 ?_
              refine V_y (Y_load (El.int h56) Tryz.isAgg3 rfl) rfl rfl rfl ?_
              refine V_ge rfl rfl rfl hc54 ?_
              refine V_y (Y_gtr rfl rfl) rfl rfl rfl ?_
              refine V_y (Y_pick_fe rfl hc54 rfl) rfl rfl rfl ?_
              exact V_end fun a ha => ⟨(), ha.sub ⟨rfl, rfl, rfl, rfl, rfl, rfl, (by rw [hc54]; rfl), trivial⟩, rfl⟩
          simp only [List.take, List.drop]
          rintro _ _ rfl
          refine V_y (Y_assign rfl) rfl rfl rfl ?_
          refine V_to (fun _ _ => rfl) ?_
          refine C_cond rfl (fun hc57 => ?_) (fun hc57 => ?_)
          · rw [if_pos hc57] at ho27
            refine C_seq ?_
            refine C_region ?_
            refine V_y (Y_assign rfl) rfl rfl rfl ?_
            refine V_to (fun _ _ => rfl) ?_
            obtain rfl := Option.some.inj ho27
            rw [Lp.andThen_rt] at h19
            obtain rfl := Option.some.inj h19
            obtain rfl := (h20 : Lp.rt _ = _)
            rw [Lp.andThen_rt] at hm
            obtain rfl := Option.some.inj hm
            refine C_ret ?_
            try simp only [↓inBlock_ret, ↓then_ret]
            exact retQ rfl (Res.one Tryz.results15 rfl) ⟨rfl, hK.kp⟩
          · rw [if_neg (nt hc57)] at ho27
            refine C_seq ?_
            refine C_region_q (Dw := False) Tryz_mixed (by kernel_rfl) ?_
            refine VQ_y (fun w' hw' => Y_move rfl) rfl rfl rfl ?_
            refine VQ_y (fun w' hw' => Y_gtr rfl rfl) rfl rfl rfl ?_
            refine VQ_y (fun w' hw' => Y_move rfl) rfl rfl rfl ?_
            obtain ⟨s59, hs59, ho27⟩ := Option.bind_eq_some_iff.1 ho27
            refine VQ_cut 10 (fun _ : Unit => [(0, v_l), (4, .pointer (some ⟨b42, 0, none⟩)), (11, v_l), (12, .int .i64 (l.length : Int)), (13, .int .i64 (k7 : Int)), (40, .bool s59)]) (fun _ => True) ?_ ?_
            · simp only [List.take, List.drop]
              rcases Bool.eq_false_or_eq_true (decide ((0 : Int) < (k7 : Int))) with hc58 | hc58
              · rw [if_pos hc58] at hs59
                refine VQ_ge rfl rfl rfl hc58 ?_
                have h60 := El_know_Article_0 h50
                refine VQ_y (fun w' hw' => Y_fieldAddr Tryz.underlying36 rfl Tryz.sizeOf3 (by decide) rfl) rfl rfl rfl ?_
                refine VQ_ge rfl rfl rfl hc58 ?_
                refine VQ_y (fun w' hw' => Y_load (El.int (El.kp (Dw := False) h60 hw')) Tryz.isAgg3 rfl) rfl rfl rfl ?_
                refine VQ_ge rfl rfl rfl hc58 ?_
                refine VQ_y (fun w' hw' => Y_move rfl) rfl rfl rfl ?_
                refine VQ_ge rfl rfl rfl hc58 ?_
                refine VQ_y (fun w' hw' => Y_move rfl) rfl rfl rfl ?_
                refine VQ_ge rfl rfl rfl hc58 ?_
                refine VQ_y (fun w' hw' => Y_subI rfl rfl) rfl rfl rfl ?_
                refine VQ_ge rfl rfl rfl hc58 ?_
                obtain ⟨x61, hx61, hs59⟩ := Option.bind_eq_some_iff.1 hs59
                refine VQ_indexAddr h_l hx61 Tryz.underlying22 Tryz.sizeOf36 rfl rfl rfl ?_
                intro b62 o63 h64
                refine VQ_ge rfl rfl rfl hc58 ?_
                have h65 := El_know_Article_0 h64
                refine VQ_y (fun w' hw' => Y_fieldAddr Tryz.underlying36 rfl Tryz.sizeOf3 (by decide) rfl) rfl rfl rfl ?_
                refine VQ_ge rfl rfl rfl hc58 ?_
                refine VQ_y (fun w' hw' => Y_load (El.int (El.kp (Dw := False) h65 hw')) Tryz.isAgg3 rfl) rfl rfl rfl ?_
                refine VQ_ge rfl rfl rfl hc58 ?_
                refine VQ_y (fun w' hw' => Y_leq rfl rfl) rfl rfl rfl ?_
                refine VQ_y (fun _ _ => Y_pick_te rfl hc58 rfl) rfl rfl rfl ?_
                obtain rfl := Option.some.inj hs59
                exact VQ_end fun a ha => ⟨(), ha.sub ⟨rfl, rfl, rfl, rfl, rfl, rfl, trivial⟩, trivial⟩
              · rw [if_neg (nt hc58)] at hs59
                refine VQ_gn rfl rfl rfl hc58 rfl rfl rfl ?_
                refine VQ_gn rfl rfl rfl hc58 rfl rfl rfl ?_
                refine VQ_gn rfl rfl rfl hc58 rfl rfl rfl ?_
                refine VQ_gn rfl rfl rfl hc58 rfl rfl rfl ?_
                refine VQ_gn rfl rfl rfl hc58 rfl rfl rfl ?_
                refine VQ_gn rfl rfl rfl hc58 rfl rfl rfl ?_
                refine VQ_gn rfl rfl rfl hc58 rfl rfl rfl ?_
                refine VQ_gn rfl rfl rfl hc58 rfl rfl rfl ?_
                refine VQ_gn rfl rfl rfl hc58 rfl rfl rfl ?_
                refine VQ_y (fun _ _ => Y_pick_fe rfl hc58 rfl) rfl rfl rfl ?_
                obtain rfl := Option.some.inj hs59
                exact VQ_end fun a ha => ⟨(), ha.sub ⟨rfl, rfl, rfl, rfl, rfl, rfl, trivial⟩, trivial⟩
            simp only [List.take, List.drop]
            rintro _ _
            refine VQ_y (fun w' hw' => Y_assign rfl) rfl rfl rfl ?_
            refine VQ_to (fun _ _ => rfl) (fun w66 hk67 => ?_)
            have ht68 := Kp.tr (Dw := False) hk67 hA hB
            replace hH := Hp.kp (Dw := False) hH hk67
            replace h_l := Sl.tr (Dw := False) h_l ht68
            replace h50 := El.tr (Dw := False) h50 ht68
            replace hK := Tr.trans (Dw := False) hK ht68
            replace hr6 := Tr.trans (Dw := False) hr6 ht68
            replace hr29 := Tr.trans (Dw := False) hr29 ht68
            replace hB := Nat.le_trans hB ht68.ex.size
            replace hA := ht68.new
            refine C_cond rfl (fun hc69 => ?_) (fun hc69 => ?_)
            · rw [if_pos hc69] at ho27
              refine C_seq ?_
              refine C_region ?_
              refine V_y (Y_assign rfl) rfl rfl rfl ?_
              refine V_to (fun _ _ => rfl) ?_
              obtain rfl := Option.some.inj ho27
              rw [Lp.andThen_rt] at h19
              obtain rfl := Option.some.inj h19
              obtain rfl := (h20 : Lp.rt _ = _)
              rw [Lp.andThen_rt] at hm
              obtain rfl := Option.some.inj hm
              refine C_ret ?_
              try simp only [↓inBlock_ret, ↓then_ret]
              exact retQ rfl (Res.one Tryz.results15 rfl) ⟨rfl, hK.kp⟩
            · rw [if_neg (nt hc69)] at ho27
              refine C_seq ?_
              refine C_region ?_
              have h70 := El_know_Article_1 h50
              refine V_y (Y_fieldAddr Tryz.underlying36 rfl Tryz.sizeOf3 (by decide) rfl) rfl rfl rfl ?_
              refine V_y (Y_load (El.int h70) Tryz.isAgg3 rfl) rfl rfl rfl ?_
              refine V_y (Y_lss rfl rfl) rfl rfl rfl ?_
              refine V_y (Y_move rfl) rfl rfl rfl ?_
              refine V_cut 4 (fun _ : Unit => [(0, v_l), (4, .pointer (some ⟨b42, 0, none⟩)), (11, v_l), (12, .int .i64 (l.length : Int)), (13, .int .i64 (k7 : Int)), (49, .bool ((decide (x35.group < 0)) || (decide ((40 : Int) < x35.group))))]) (fun _ w' => w66 = w') ?_ ?_
              · simp only [List.take, List.drop]
                rcases Bool.eq_false_or_eq_true (decide (x35.group < 0)) with hc71 | hc71
                · refine V_gn rfl rfl rfl hc71 rfl rfl rfl ?_
                  refine V_gn rfl rfl rfl hc71 rfl rfl rfl ?_
                  refine V_gn rfl rfl rfl hc71 rfl rfl rfl ?_
                  refine V_y (Y_pick_te rfl hc71 rfl) rfl rfl rfl ?_
                  exact V_end fun a ha => ⟨(), ha.sub ⟨rfl, rfl, rfl, rfl, rfl, (by rw [hc71]; rfl), trivial⟩, rfl⟩
                · refine V_ge rfl rfl rfl hc71 ?_
                  have h73 := El_know_Article_1 h50
                  refine V_y (Y_fieldAddr Tryz.underlying36 rfl Tryz.sizeOf3 (by decide) rfl) rfl rfl rfl ?_
                  refine V_ge rfl rfl rfl hc71 ?_
                  refine V_y (Y_load (El.int h73) Tryz.isAgg3 rfl) rfl rfl rfl ?_
                  refine V_ge rfl rfl rfl hc71 ?_
                  refine V_y (Y_gtr rfl rfl) rfl rfl rfl ?_
                  refine V_y (Y_pick_fe rfl hc71 rfl) rfl rfl rfl ?_
                  exact V_end fun a ha => ⟨(), ha.sub ⟨rfl, rfl, rfl, rfl, rfl, (by rw [hc71]; rfl), trivial⟩, rfl⟩
              simp only [List.take, List.drop]
              rintro _ _ rfl
              refine V_y (Y_assign rfl) rfl rfl rfl ?_
              refine V_to (fun _ _ => rfl) ?_
              refine C_cond rfl (fun hc74 => ?_) (fun hc74 => ?_)
              · rw [if_pos hc74] at ho27
                refine C_seq ?_
                refine C_region ?_
                refine V_y (Y_assign rfl) rfl rfl rfl ?_
                refine V_to (fun _ _ => rfl) ?_
                obtain rfl := Option.some.inj ho27
                rw [Lp.andThen_rt] at h19
                obtain rfl := Option.some.inj h19
                obtain rfl := (h20 : Lp.rt _ = _)
                rw [Lp.andThen_rt] at hm
                obtain rfl := Option.some.inj hm
                refine C_ret ?_
                try simp only [↓inBlock_ret, ↓then_ret]
                exact retQ rfl (Res.one Tryz.results15 rfl) ⟨rfl, hK.kp⟩
              · rw [if_neg (nt hc74)] at ho27
                refine C_seq ?_
                refine C_region ?_
                have h75 := El_know_Article_2 h50
                refine V_y (Y_fieldAddr Tryz.underlying36 rfl Tryz.sizeOf34 (by decide) rfl) rfl rfl rfl ?_
                obtain ⟨v76, h77, h78⟩ := El.list h75
                refine V_y (Y_load h77 Tryz.isAgg34 rfl) rfl rfl rfl ?_
                refine V_y (Y_lenSl h78 rfl Tryz.underlying34 rfl) rfl rfl rfl ?_
                refine V_y (Y_lss rfl rfl) rfl rfl rfl ?_
                refine V_y (Y_move rfl) rfl rfl rfl ?_
                refine V_cut 5 (fun _ : Unit => [(0, v_l), (4, .pointer (some ⟨b42, 0, none⟩)), (11, v_l), (12, .int .i64 (l.length : Int)), (13, .int .i64 (k7 : Int)), (60, .bool ((decide ((x35.versions.length : Int) < 1)) || (decide ((40 : Int) < (x35.versions.length : Int)))))]) (fun _ w' => w66 = w') ?_ ?_
                · simp only [List.take, List.drop]
                  rcases Bool.eq_false_or_eq_true (decide ((x35.versions.length : Int) < 1)) with hc79 | hc79
                  · refine V_gn rfl rfl rfl hc79 rfl rfl rfl ?_
                    refine V_gn rfl rfl rfl hc79 rfl rfl rfl ?_
                    refine V_gn rfl rfl rfl hc79 rfl rfl rfl ?_
                    refine V_gn rfl rfl rfl hc79 rfl rfl rfl ?_
                    refine V_y (Y_pick_te rfl hc79 rfl) rfl rfl rfl ?_
                    exact V_end fun a ha => ⟨(), ha.sub ⟨rfl, rfl, rfl, rfl, rfl, (by rw [hc79]; rfl), trivial⟩, rfl⟩
                  · refine V_ge rfl rfl rfl hc79 ?_
                    have h81 := El_know_Article_2 h50
                    refine V_y (Y_fieldAddr Tryz.underlying36 rfl Tryz.sizeOf34 (by decide) rfl) rfl rfl rfl ?_
                    refine V_ge rfl rfl rfl hc79 ?_
                    obtain ⟨v82, h83, h84⟩ := El.list h81
                    refine V_y (Y_load h83 Tryz.isAgg34 rfl) rfl rfl rfl ?_
                    refine V_ge rfl rfl rfl hc79 ?_
                    refine V_y (Y_lenSl h84 rfl Tryz.underlying34 rfl) rfl rfl rfl ?_
                    refine V_ge rfl rfl rfl hc79 ?_
                    refine V_y (Y_gtr rfl rfl) rfl rfl rfl ?_
                    refine V_y (Y_pick_fe rfl hc79 rfl) rfl rfl rfl ?_
                    exact V_end fun a ha => ⟨(), ha.sub ⟨rfl, rfl, rfl, rfl, rfl, (by rw [hc79]; rfl), trivial⟩, rfl⟩
                simp only [List.take, List.drop]
                rintro _ _ rfl
                refine V_y (Y_assign rfl) rfl rfl rfl ?_
                refine V_to (fun _ _ => rfl) ?_
                refine C_cond rfl (fun hc85 => ?_) (fun hc85 => ?_)
                · rw [if_pos hc85] at ho27
                  refine C_seq ?_
                  refine C_region ?_
                  refine V_y (Y_assign rfl) rfl rfl rfl ?_
                  refine V_to (fun _ _ => rfl) ?_
                  obtain rfl := Option.some.inj ho27
                  rw [Lp.andThen_rt] at h19
                  obtain rfl := Option.some.inj h19
                  obtain rfl := (h20 : Lp.rt _ = _)
                  rw [Lp.andThen_rt] at hm
                  obtain rfl := Option.some.inj hm
                  refine C_ret ?_
                  try simp only [↓inBlock_ret, ↓then_ret]
                  exact retQ rfl (Res.one Tryz.results15 rfl) ⟨rfl, hK.kp⟩
                · rw [if_neg (nt hc85)] at ho27
                  refine C_skip_to (fun _ _ => rfl) ?_
                  refine C_seq ?_
                  refine C_region ?_
                  have h86 := El_know_Article_2 h50
                  refine V_y (Y_fieldAddr Tryz.underlying36 rfl Tryz.sizeOf34 (by decide) rfl) rfl rfl rfl ?_
                  obtain ⟨v87, h88, h89⟩ := El.list h86
                  refine V_y (Y_load h88 Tryz.isAgg34 rfl) rfl rfl rfl ?_
                  refine V_y (Y_lenSl h89 rfl Tryz.underlying34 rfl) rfl rfl rfl ?_
                  refine V_y (Y_move rfl) rfl rfl rfl ?_
                  refine V_to (fun _ _ => rfl) ?_
                  have hn110 := Sl.le h89
                  obtain ⟨o90, ho90, ho27⟩ := Option.bind_eq_some_iff.1 ho27
                  refine C_cutG (ι := (Unit × (Nat → Prop))) (fun ⟨s91, A97⟩ => [(0, v_l), (11, v_l), (12, .int .i64 (l.length : Int)), (13, .int .i64 (k7 : Int))]) (fun ⟨s91, A97⟩ => fun w' => o90 = .fin s91 ∧ Hp w.heap.size A97 w' ([]) ∧ Tr False w.heap.size A16 w66 A97 w') ?_ ?_
                  · refine C_block ?_
                    refine C_range ho90 (fun k93 _ a w' => ∃ i : (Nat → Prop), Has ⟨94, [], none⟩ a ([(0, v_l), (4, .pointer (some ⟨b42, 0, none⟩)), (11, v_l), (12, .int .i64 (l.length : Int)), (13, .int .i64 (k7 : Int)), (62, v87), (63, .int .i64 (x35.versions.length : Int)), (64, .int .i64 (k93 : Int))]) ∧ Hp w.heap.size i w' ([]) ∧ Tr False w.heap.size A16 w66 i w') (fun a ha => ⟨A16, ha.sub ⟨rfl, rfl, rfl, rfl, rfl, rfl, rfl, rfl, trivial⟩, ⟨hH, Tr.refl (Dw := False) hA⟩⟩) ?_
                    rintro K k93 _ a w100 ⟨A101, ha151, hH102, hr92⟩ hle106 K109 h108
                    refine C_of ?_ ha151
                    replace h_l := Sl.tr (Dw := False) h_l hr92
                    replace h50 := El.tr (Dw := False) h50 hr92
                    replace h89 := Sl.tr (Dw := False) h89 hr92
                    replace hK := Tr.trans (Dw := False) hK hr92
                    replace hr6 := Tr.trans (Dw := False) hr6 hr92
                    replace hr29 := Tr.trans (Dw := False) hr29 hr92
                    replace hB := Nat.le_trans hB hr92.ex.size
                    replace hA := hr92.new
                    replace hH : Hp w.heap.size A101 w100 ([]) := hH102
                    refine C_seq (C_region (V_y (Y_lss rfl rfl) rfl rfl rfl (V_to (fun _ _ => rfl) ?_)))
                    refine C_seq ?_
                    refine C_cond rfl (fun hc111 => ?_) (fun hc111 => ?_)
                    · have hlt107 := lt_of_dec hc111
                      obtain ⟨x103, h104, h105⟩ := K109 hlt107
                      refine C_skip_to (fun _ _ => rfl) ?_
                      refine C_seq ?_
                      refine C_block ?_
                      refine C_seq ?_
                      refine C_region ?_
                      refine V_y (Y_move rfl) rfl rfl rfl ?_
                      obtain ⟨x112, hx112, h104⟩ := Option.bind_eq_some_iff.1 h104
                      refine V_indexAddr h89 hx112 Tryz.underlying34 Tryz.sizeOf24 rfl rfl rfl ?_
                      intro b113 o114 h115
                      obtain ⟨h116, _⟩ := El_know_Version h115
                      refine V_y (Y_loadA h116 Tryz.isAgg24 Tryz.sizeOf24 rfl) rfl rfl rfl ?_
                      refine V_alloc Tryz.zeroValue24 rfl ?_
                      intro b117 w118 h119
                      refine V_y (Y_assign rfl) rfl rfl rfl ?_
                      refine V_storeNew h119 Tryz.sizeOf24 rfl rfl rfl rfl (by exact (List.forall_mem_cons.2 ⟨rfl, (List.forall_mem_cons.2 ⟨rfl, (List.forall_mem_cons.2 ⟨rfl, (fun _ h => nomatch h)⟩)⟩)⟩)) ?_
                      intro w120 h121
                      have hk123 := h121.kp (Dw := False)
                      have h122 : El (α := know_Version) A101 w120 b117 0 x112 := h121.el hA ⟨[.int .i64 x112.at_], _, rfl, rfl, ⟨[.string x112.title], _, rfl, rfl, rfl⟩⟩
                      have ht124 := Kp.tr (Dw := False) hk123 hA hB
                      replace hH := Hp.kp (Dw := False) hH hk123
                      replace h_l := Sl.tr (Dw := False) h_l ht124
                      replace h50 := El.tr (Dw := False) h50 ht124
                      replace h89 := Sl.tr (Dw := False) h89 ht124
                      replace h115 := El.tr (Dw := False) h115 ht124
                      replace hK := Tr.trans (Dw := False) hK ht124
                      replace hr6 := Tr.trans (Dw := False) hr6 ht124
                      replace hr29 := Tr.trans (Dw := False) hr29 ht124
                      replace hr92 := Tr.trans (Dw := False) hr92 ht124
                      replace hB := Nat.le_trans hB ht124.ex.size
                      replace hA := ht124.new
                      refine V_to (fun _ _ => rfl) ?_
                      refine C_seq ?_
                      refine C_seq ?_
                      refine C_region ?_
                      have h125 := El_know_Version_0 h122
                      refine V_y (Y_fieldAddr Tryz.underlying24 rfl Tryz.sizeOf3 (by decide) rfl) rfl rfl rfl ?_
                      refine V_y (Y_load (El.int h125) Tryz.isAgg3 rfl) rfl rfl rfl ?_
                      refine V_call Tryz.call56 rfl rfl rfl rfl (portref2_IsMoment_c w120 x112.at_) ?_
                      rintro _ _ ⟨rfl, rfl⟩
                      refine V_y (Y_not rfl) rfl rfl rfl ?_
                      refine V_to (fun _ _ => rfl) ?_
                      refine C_cond rfl (fun hc126 => ?_) (fun hc126 => ?_)
                      · rw [if_pos hc126] at h104
                        refine C_seq ?_
                        refine C_region ?_
                        refine V_y (Y_assign rfl) rfl rfl rfl ?_
                        refine V_to (fun _ _ => rfl) ?_
                        obtain rfl := Option.some.inj h104
                        obtain rfl := (h105 : Lp.rt _ = _)
                        rw [Lp.andThen_rt] at ho27
                        obtain rfl := Option.some.inj ho27
                        rw [Lp.andThen_rt] at h19
                        obtain rfl := Option.some.inj h19
                        obtain rfl := (h20 : Lp.rt _ = _)
                        rw [Lp.andThen_rt] at hm
                        obtain rfl := Option.some.inj hm
                        refine C_ret ?_
                        try simp only [↓inBlock_ret, ↓then_ret]
                        exact retQ rfl (Res.one Tryz.results15 rfl) ⟨rfl, hK.kp⟩
                      · rw [if_neg (nt hc126)] at h104
                        refine C_skip_to (fun _ _ => rfl) ?_
                        refine C_seq ?_
                        refine C_seq ?_
                        refine C_region_q (Dw := False) Tryz_mixed (by kernel_rfl) ?_
                        refine VQ_y (fun w' hw' => Y_move rfl) rfl rfl rfl ?_
                        refine VQ_y (fun w' hw' => Y_gtr rfl rfl) rfl rfl rfl ?_
                        refine VQ_y (fun w' hw' => Y_move rfl) rfl rfl rfl ?_
                        obtain ⟨s128, hs128, h104⟩ := Option.bind_eq_some_iff.1 h104
                        refine VQ_cut 11 (fun _ : Unit => [(0, v_l), (4, .pointer (some ⟨b42, 0, none⟩)), (6, .pointer (some ⟨b117, 0, none⟩)), (11, v_l), (12, .int .i64 (l.length : Int)), (13, .int .i64 (k7 : Int)), (62, v87), (63, .int .i64 (x35.versions.length : Int)), (64, .int .i64 (k93 : Int)), (86, .bool s128)]) (fun _ => True) ?_ ?_
                        · simp only [List.take, List.drop]
                          rcases Bool.eq_false_or_eq_true (decide ((0 : Int) < (k93 : Int))) with hc127 | hc127
                          · rw [if_pos hc127] at hs128
                            refine VQ_ge rfl rfl rfl hc127 ?_
                            have h129 := El_know_Version_0 h122
                            refine VQ_y (fun w' hw' => Y_fieldAddr Tryz.underlying24 rfl Tryz.sizeOf3 (by decide) rfl) rfl rfl rfl ?_
                            refine VQ_ge rfl rfl rfl hc127 ?_
                            refine VQ_y (fun w' hw' => Y_load (El.int (El.kp (Dw := False) h129 hw')) Tryz.isAgg3 rfl) rfl rfl rfl ?_
                            refine VQ_ge rfl rfl rfl hc127 ?_
                            have h130 := El_know_Article_2 h50
                            refine VQ_y (fun w' hw' => Y_fieldAddr Tryz.underlying36 rfl Tryz.sizeOf34 (by decide) rfl) rfl rfl rfl ?_
                            refine VQ_ge rfl rfl rfl hc127 ?_
                            obtain ⟨v131, h132, h133⟩ := El.list h130
                            refine VQ_y (fun w' hw' => Y_load ((World.cell?_of_block (hw'.block _ (World.block_lt_of_cell? _ _ h132))).trans h132) Tryz.isAgg34 rfl) rfl rfl rfl ?_
                            refine VQ_ge rfl rfl rfl hc127 ?_
                            refine VQ_y (fun w' hw' => Y_move rfl) rfl rfl rfl ?_
                            refine VQ_ge rfl rfl rfl hc127 ?_
                            refine VQ_y (fun w' hw' => Y_subI rfl rfl) rfl rfl rfl ?_
                            refine VQ_ge rfl rfl rfl hc127 ?_
                            obtain ⟨x134, hx134, hs128⟩ := Option.bind_eq_some_iff.1 hs128
                            refine VQ_indexAddr h133 hx134 Tryz.underlying34 Tryz.sizeOf24 rfl rfl rfl ?_
                            intro b135 o136 h137
                            refine VQ_ge rfl rfl rfl hc127 ?_
                            have h138 := El_know_Version_0 h137
                            refine VQ_y (fun w' hw' => Y_fieldAddr Tryz.underlying24 rfl Tryz.sizeOf3 (by decide) rfl) rfl rfl rfl ?_
                            refine VQ_ge rfl rfl rfl hc127 ?_
                            refine VQ_y (fun w' hw' => Y_load (El.int (El.kp (Dw := False) h138 hw')) Tryz.isAgg3 rfl) rfl rfl rfl ?_
                            refine VQ_ge rfl rfl rfl hc127 ?_
                            refine VQ_y (fun w' hw' => Y_lss rfl rfl) rfl rfl rfl ?_
                            refine VQ_y (fun _ _ => Y_pick_te rfl hc127 rfl) rfl rfl rfl ?_
                            obtain rfl := Option.some.inj hs128
                            exact VQ_end fun a ha => ⟨(), ha.sub ⟨rfl, rfl, rfl, rfl, rfl, rfl, rfl, rfl, rfl, rfl, trivial⟩, trivial⟩
                          · rw [if_neg (nt hc127)] at hs128
                            refine VQ_gn rfl rfl rfl hc127 rfl rfl rfl ?_
                            refine VQ_gn rfl rfl rfl hc127 rfl rfl rfl ?_
                            refine VQ_gn rfl rfl rfl hc127 rfl rfl rfl ?_
                            refine VQ_gn rfl rfl rfl hc127 rfl rfl rfl ?_
                            refine VQ_gn rfl rfl rfl hc127 rfl rfl rfl ?_
                            refine VQ_gn rfl rfl rfl hc127 rfl rfl rfl ?_
                            refine VQ_gn rfl rfl rfl hc127 rfl rfl rfl ?_
                            refine VQ_gn rfl rfl rfl hc127 rfl rfl rfl ?_
                            refine VQ_gn rfl rfl rfl hc127 rfl rfl rfl ?_
                            refine VQ_gn rfl rfl rfl hc127 rfl rfl rfl ?_
                            refine VQ_y (fun _ _ => Y_pick_fe rfl hc127 rfl) rfl rfl rfl ?_
                            obtain rfl := Option.some.inj hs128
                            exact VQ_end fun a ha => ⟨(), ha.sub ⟨rfl, rfl, rfl, rfl, rfl, rfl, rfl, rfl, rfl, rfl, trivial⟩, trivial⟩
                        simp only [List.take, List.drop]
                        rintro _ _
                        refine VQ_to (fun _ _ => rfl) (fun w139 hk140 => ?_)
                        have ht141 := Kp.tr (Dw := False) hk140 hA hB
                        replace hH := Hp.kp (Dw := False) hH hk140
                        replace h_l := Sl.tr (Dw := False) h_l ht141
                        replace h50 := El.tr (Dw := False) h50 ht141
                        replace h89 := Sl.tr (Dw := False) h89 ht141
                        replace h122 := El.tr (Dw := False) h122 ht141
                        replace hK := Tr.trans (Dw := False) hK ht141
                        replace hr6 := Tr.trans (Dw := False) hr6 ht141
                        replace hr29 := Tr.trans (Dw := False) hr29 ht141
                        replace hr92 := Tr.trans (Dw := False) hr92 ht141
                        replace hB := Nat.le_trans hB ht141.ex.size
                        replace hA := ht141.new
                        refine C_cond rfl (fun hc142 => ?_) (fun hc142 => ?_)
                        · rw [if_pos hc142] at h104
                          refine C_seq ?_
                          refine C_region ?_
                          refine V_y (Y_assign rfl) rfl rfl rfl ?_
                          refine V_to (fun _ _ => rfl) ?_
                          obtain rfl := Option.some.inj h104
                          obtain rfl := (h105 : Lp.rt _ = _)
                          rw [Lp.andThen_rt] at ho27
                          obtain rfl := Option.some.inj ho27
                          rw [Lp.andThen_rt] at h19
                          obtain rfl := Option.some.inj h19
                          obtain rfl := (h20 : Lp.rt _ = _)
                          rw [Lp.andThen_rt] at hm
                          obtain rfl := Option.some.inj hm
                          refine C_ret ?_
                          try simp only [↓inBlock_ret, ↓then_ret]
                          exact retQ rfl (Res.one Tryz.results15 rfl) ⟨rfl, hK.kp⟩
                        · rw [if_neg (nt hc142)] at h104
                          refine C_skip_to (fun _ _ => rfl) ?_
                          refine C_seq ?_
                          refine C_region ?_
                          obtain ⟨h143, _⟩ := El_know_Version h122
                          refine V_y (Y_loadA h143 Tryz.isAgg24 Tryz.sizeOf24 rfl) rfl rfl rfl ?_
                          obtain ⟨x144, hx144, h104⟩ := Option.bind_eq_some_iff.1 h104
                          refine V_call Tryz.call57 rfl rfl rfl rfl (portref2_versionFault_c w139 hA (Mx.tr (Dw := False) hT hK) x112 hx144) ?_
                          rintro _ w145 ⟨rfl, hk146⟩
                          have ht147 := Kp.tr (Dw := False) hk146 hA hB
                          replace hH := Hp.kp (Dw := False) hH hk146
                          replace h_l := Sl.tr (Dw := False) h_l ht147
                          replace h50 := El.tr (Dw := False) h50 ht147
                          replace h89 := Sl.tr (Dw := False) h89 ht147
                          replace h122 := El.tr (Dw := False) h122 ht147
                          replace hK := Tr.trans (Dw := False) hK ht147
                          replace hr6 := Tr.trans (Dw := False) hr6 ht147
                          replace hr29 := Tr.trans (Dw := False) hr29 ht147
                          replace hr92 := Tr.trans (Dw := False) hr92 ht147
                          replace hB := Nat.le_trans hB ht147.ex.size
                          replace hA := ht147.new
                          refine V_y (Y_assign rfl) rfl rfl rfl ?_
                          refine V_to (fun _ _ => rfl) ?_
                          refine C_seq ?_
                          refine C_region ?_
                          refine V_y (Y_move rfl) rfl rfl rfl ?_
                          refine V_y (Y_neq rfl rfl) rfl rfl rfl ?_
                          refine V_to (fun _ _ => rfl) ?_
                          refine C_cond rfl (fun hc148 => ?_) (fun hc148 => ?_)
                          · rw [if_pos hc148] at h104
                            refine C_seq ?_
                            refine C_region ?_
                            refine V_y (Y_move rfl) rfl rfl rfl ?_
                            refine V_y (Y_assign rfl) rfl rfl rfl ?_
                            refine V_to (fun _ _ => rfl) ?_
                            obtain rfl := Option.some.inj h104
                            obtain rfl := (h105 : Lp.rt _ = _)
                            rw [Lp.andThen_rt] at ho27
                            obtain rfl := Option.some.inj ho27
                            rw [Lp.andThen_rt] at h19
                            obtain rfl := Option.some.inj h19
                            obtain rfl := (h20 : Lp.rt _ = _)
                            rw [Lp.andThen_rt] at hm
                            obtain rfl := Option.some.inj hm
                            refine C_ret ?_
                            try simp only [↓inBlock_ret, ↓then_ret]
                            exact retQ rfl (Res.one Tryz.results15 rfl) ⟨rfl, hK.kp⟩
                          · rw [if_neg (nt hc148)] at h104
                            refine C_skip_to (fun _ _ => rfl) ?_
                            refine C_region ?_
                            refine V_y (Y_addI rfl rfl) rfl rfl rfl ?_
                            refine V_y (Y_move rfl) rfl rfl rfl ?_
                            obtain rfl := Option.some.inj h104
                            refine V_end (fun a ha149 => ?_)
                            exact ⟨(), hlt107, h105, ⟨A101, ha149.sub ⟨rfl, rfl, rfl, rfl, rfl, rfl, rfl, (congrArg (fun z => some (Value.int .i64 z)) (w64_succ hlt107 hn110)), trivial⟩, ⟨hH, hr92⟩⟩⟩
                    · refine C_exit (fun a ha150 => ?_)
                      exact ⟨((), A101), ha150.sub ⟨rfl, rfl, rfl, rfl, trivial⟩, ⟨(h108 (eq_of_dec hle106 hc111)).symm, hH, hr92⟩⟩
                  rintro ⟨s91, A97⟩ w94 ⟨rfl, hH98, hk95⟩ a ha96
                  rw [Lp.andThen_fin] at ho27
                  replace h_l := Sl.tr (Dw := False) h_l hk95
                  replace hK := Tr.trans (Dw := False) hK hk95
                  replace hr6 := Tr.trans (Dw := False) hr6 hk95
                  replace hr29 := Tr.trans (Dw := False) hr29 hk95
                  replace hB := Nat.le_trans hB hk95.ex.size
                  replace hA := hk95.new
                  replace hH : Hp w.heap.size A97 w94 ([]) := hH98
                  obtain rfl := Option.some.inj ho27
                  exact ⟨((), A97), ha96.sub ⟨rfl, rfl, rfl, rfl, trivial⟩, ⟨rfl, hH, hr29⟩⟩
        rintro ⟨s28, A33⟩ w30 ⟨rfl, hH34, hk31⟩ a ha32
        rw [Lp.andThen_fin] at h19
        replace h_l := Sl.tr (Dw := False) h_l hk31
        replace hK := Tr.trans (Dw := False) hK hk31
        replace hr6 := Tr.trans (Dw := False) hr6 hk31
        replace hB := Nat.le_trans hB hk31.ex.size
        replace hA := hk31.new
        replace hH : Hp w.heap.size A33 w30 ([]) := hH34
        refine C_at (n := ⟨94, [], none⟩) (fun _ _ => rfl) ?_ ha32
        refine C_region ?_
        refine V_y (Y_addI rfl rfl) rfl rfl rfl ?_
        refine V_y (Y_move rfl) rfl rfl rfl ?_
        obtain rfl := Option.some.inj h19
        refine V_end (fun a ha153 => ?_)
        exact ⟨(), hlt22, h20, ⟨A33, ha153.sub ⟨rfl, rfl, rfl, (congrArg (fun z => some (Value.int .i64 z)) (w64_succ hlt22 hn25)), trivial⟩, ⟨hH, hr6⟩⟩⟩
      · refine C_exit (fun a ha154 => ?_)
        exact ⟨((), A16), ha154.sub trivial, ⟨(h23 (eq_of_dec hle21 hc26)).symm, hH, hr6⟩⟩
    rintro ⟨s5, A12⟩ w9 ⟨rfl, hH13, hk10⟩ a ha11
    rw [Lp.andThen_fin] at hm
    replace hK := Tr.trans (Dw := False) hK hk10
    replace hB := Nat.le_trans hB hk10.ex.size
    replace hA := hk10.new
    replace hH : Hp w.heap.size A12 w9 ([]) := hH13
    refine C_at (n := ⟨94, [], none⟩) (fun _ _ => rfl) ?_ ha11
    refine C_seq ?_
    refine C_region ?_
    refine V_y (Y_assign rfl) rfl rfl rfl ?_
    refine V_to (fun _ _ => rfl) ?_
    obtain rfl := Option.some.inj hm
    refine C_ret ?_
    try simp only [↓inBlock_ret, ↓then_ret]
    exact retQ rfl (Res.one Tryz.results15 rfl) ⟨rfl, hK.kp⟩

set_option maxRecDepth 4000 in
set_option maxHeartbeats 4000000 in
theorem slices_IndexFunc_Lknow_Article_know_Article_c (w : World) {A : Nat → Prop} (hA : ∀ b, w.heap.size ≤ b → A b) (s : (List know_Article)) (v_s : Value) (h_s : Sl A w v_s s) (f : know_Article → Option Bool) (f_f : FuncId) (f_a f_c : Array Value) (f_call : ∀ (args : Array Value) (w : World), (callFunc f_f args).run Tryz.prog w = .ok (.enter f_f args) w) (f_spec : ∀ (w1 : World) (A1 : Nat → Prop), Tr Dw w.heap.size A w A1 w1 → (∀ b, w1.heap.size ≤ b → A1 b) → ∀ (y0 : know_Article) (v1 : Value) (h2 : Sl A1 w1 v1 y0.versions) (r : Bool), f y0 = some r → Ret Tryz.prog f_f (f_a ++ #[.agg #[.int .i64 y0.id_, .int .i64 y0.group, v1]] ++ f_c) w1 fun v w' => v = .bool r ∧ Kp Dw w1 w') {r : Int} (hm : slices_IndexFunc_Lknow_Article_know_Article s f = some r) : Ret Tryz.prog 58 #[v_s, .func (.func f_f) f_a f_c] w fun v w' => v = .int .i64 r ∧ Kp Dw w w' := by
  unfold slices_IndexFunc_Lknow_Article_know_Article at hm
  refine enter Tryz.func58 rfl Tryz.ntmps58 rfl ?_
  have hA0 := hA
  have hB := Nat.le_refl w.heap.size
  have hK : Tr Dw w.heap.size A w A w := Tr.refl (Dw := Dw) hA
  have hH : Hp w.heap.size A w [] := Hp.nil
  refine C_seq ?_
  refine C_region ?_
  refine V_y (Y_assign rfl) rfl rfl rfl ?_
  refine V_to (fun _ _ => rfl) ?_
  refine C_seq ?_
  refine C_seq ?_
  refine C_region ?_
  refine V_y (Y_move rfl) rfl rfl rfl ?_
  refine V_y (Y_lenSl h_s rfl Tryz.underlying22 rfl) rfl rfl rfl ?_
  refine V_y (Y_move rfl) rfl rfl rfl ?_
  refine V_to (fun _ _ => rfl) ?_
  have hn23 := Sl.le h_s
  obtain ⟨o3, ho3, hm⟩ := Option.bind_eq_some_iff.1 hm
  refine C_cutG (ι := (Unit × (Nat → Prop))) (fun ⟨s4, A10⟩ => []) (fun ⟨s4, A10⟩ => fun w' => o3 = .fin s4 ∧ Hp w.heap.size A10 w' ([]) ∧ Tr Dw w.heap.size A w A10 w') ?_ ?_
  · refine C_block ?_
    refine C_range ho3 (fun k6 _ a w' => ∃ i : (Nat → Prop), Has ⟨19, [], none⟩ a ([(0, v_s), (1, .func (.func f_f) f_a f_c), (7, .int .i64 (s.length : Int)), (8, .int .i64 (k6 : Int))]) ∧ Hp w.heap.size i w' ([]) ∧ Tr Dw w.heap.size A w i w') (fun a ha => ⟨A, ha.sub ⟨rfl, rfl, rfl, rfl, trivial⟩, ⟨hH, Tr.refl (Dw := Dw) hA⟩⟩) ?_
    rintro K k6 _ a w13 ⟨A14, ha39, hH15, hr5⟩ hle19 K22 h21
    refine C_of ?_ ha39
    replace h_s := Sl.tr (Dw := Dw) h_s hr5
    replace hK := Tr.trans (Dw := Dw) hK hr5
    replace hB := Nat.le_trans hB hr5.ex.size
    replace hA := hr5.new
    replace hH : Hp w.heap.size A14 w13 ([]) := hH15
    refine C_seq (C_region (V_y (Y_lss rfl rfl) rfl rfl rfl (V_to (fun _ _ => rfl) ?_)))
    refine C_seq ?_
    refine C_cond rfl (fun hc24 => ?_) (fun hc24 => ?_)
    · have hlt20 := lt_of_dec hc24
      obtain ⟨x16, h17, h18⟩ := K22 hlt20
      refine C_skip_to (fun _ _ => rfl) ?_
      refine C_seq ?_
      refine C_block ?_
      refine C_seq ?_
      refine C_region ?_
      refine V_y (Y_move rfl) rfl rfl rfl ?_
      refine V_y (Y_assign rfl) rfl rfl rfl ?_
      refine V_to (fun _ _ => rfl) ?_
      refine C_seq ?_
      refine C_region ?_
      refine V_y (Y_move rfl) rfl rfl rfl ?_
      refine V_y (Y_move rfl) rfl rfl rfl ?_
      refine V_y (Y_move rfl) rfl rfl rfl ?_
      obtain ⟨x25, hx25, h17⟩ := Option.bind_eq_some_iff.1 h17
      refine V_indexAddr h_s hx25 Tryz.underlying22 Tryz.sizeOf36 rfl rfl rfl ?_
      intro b26 o27 h28
      obtain ⟨v29, h31, h30⟩ := El_know_Article h28
      refine V_y (Y_loadA h31 Tryz.isAgg36 Tryz.sizeOf36 rfl) rfl rfl rfl ?_
      obtain ⟨x32, hx32, h17⟩ := Option.bind_eq_some_iff.1 h17
      refine V_call f_call rfl rfl rfl rfl (f_spec w13 _ hK hA x25 v29 h30 _ hx32) ?_
      rintro _ w33 ⟨rfl, hk34⟩
      have ht35 := Kp.tr (Dw := Dw) hk34 hA hB
      replace hH := Hp.kp (Dw := Dw) hH hk34
      replace h_s := Sl.tr (Dw := Dw) h_s ht35
      replace h28 := El.tr (Dw := Dw) h28 ht35
      replace h30 := Sl.tr (Dw := Dw) h30 ht35
      replace hK := Tr.trans (Dw := Dw) hK ht35
      replace hr5 := Tr.trans (Dw := Dw) hr5 ht35
      replace hB := Nat.le_trans hB ht35.ex.size
      replace hA := ht35.new
      refine V_to (fun _ _ => rfl) ?_
      refine C_cond rfl (fun hc36 => ?_) (fun hc36 => ?_)
      · rw [if_pos hc36] at h17
        refine C_seq ?_
        refine C_region ?_
        refine V_y (Y_move rfl) rfl rfl rfl ?_
        refine V_y (Y_assign rfl) rfl rfl rfl ?_
        refine V_to (fun _ _ => rfl) ?_
        obtain rfl := Option.some.inj h17
        obtain rfl := (h18 : Lp.rt _ = _)
        rw [Lp.andThen_rt] at hm
        obtain rfl := Option.some.inj hm
        refine C_ret ?_
        try simp only [↓inBlock_ret, ↓then_ret]
        exact retQ rfl (Res.one Tryz.results58 rfl) ⟨rfl, hK.kp⟩
      · rw [if_neg (nt hc36)] at h17
        refine C_skip_to (fun _ _ => rfl) ?_
        refine C_region ?_
        refine V_y (Y_addI rfl rfl) rfl rfl rfl ?_
        refine V_y (Y_move rfl) rfl rfl rfl ?_
        obtain rfl := Option.some.inj h17
        refine V_end (fun a ha37 => ?_)
        exact ⟨(), hlt20, h18, ⟨A14, ha37.sub ⟨rfl, rfl, rfl, (congrArg (fun z => some (Value.int .i64 z)) (w64_succ hlt20 hn23)), trivial⟩, ⟨hH, hr5⟩⟩⟩
    · refine C_exit (fun a ha38 => ?_)
      exact ⟨((), A14), ha38.sub trivial, ⟨(h21 (eq_of_dec hle19 hc24)).symm, hH, hr5⟩⟩
  rintro ⟨s4, A10⟩ w7 ⟨rfl, hH11, hk8⟩ a ha9
  rw [Lp.andThen_fin] at hm
  replace hK := Tr.trans (Dw := Dw) hK hk8
  replace hB := Nat.le_trans hB hk8.ex.size
  replace hA := hk8.new
  replace hH : Hp w.heap.size A10 w7 ([]) := hH11
  refine C_at (n := ⟨19, [], none⟩) (fun _ _ => rfl) ?_ ha9
  refine C_seq ?_
  refine C_region ?_
  refine V_y (Y_assign rfl) rfl rfl rfl ?_
  refine V_to (fun _ _ => rfl) ?_
  obtain rfl := Option.some.inj hm
  refine C_ret ?_
  try simp only [↓inBlock_ret, ↓then_ret]
  exact retQ rfl (Res.one Tryz.results58 rfl) ⟨rfl, hK.kp⟩

set_option maxRecDepth 4000 in
set_option maxHeartbeats 4000000 in
theorem portref2_articleAt_1_c (w : World) {A : Nat → Prop} (hA : ∀ b, w.heap.size ≤ b → A b) (a_ : know_Article) (v_a_ : Value) (h_a_ : Sl A w v_a_ a_.versions) (p1 : Int) (b_p1 : Nat) (h_p1 : El A w b_p1 0 p1) {r : Bool} (hm : portref2_articleAt_1 a_ p1 = some r) : Ret Tryz.prog 59 #[.agg #[.int .i64 a_.id_, .int .i64 a_.group, v_a_], .pointer (some ⟨b_p1, 0, none⟩)] w fun v w' => v = .bool r ∧ Kp Dw w w' := by
  unfold portref2_articleAt_1 at hm
  refine enter Tryz.func59 rfl Tryz.ntmps59 rfl ?_
  have hA0 := hA
  have hB := Nat.le_refl w.heap.size
  have hK : Tr Dw w.heap.size A w A w := Tr.refl (Dw := Dw) hA
  have hH : Hp w.heap.size A w [] := Hp.nil
  refine C_seq ?_
  refine C_region ?_
  refine V_box rfl rfl ?_
  intro b3 w4 h5
  have hk7 := h5.kp (Dw := Dw)
  have h6 : El (α := know_Article) A w4 b3 0 a_ := h5.el hA ⟨[.int .i64 a_.id_], _, rfl, rfl, ⟨[.int .i64 a_.group], _, rfl, rfl, ⟨_, rfl, h_a_⟩⟩⟩
  have ht8 := Kp.tr (Dw := Dw) hk7 hA hB
  replace hH := Hp.kp (Dw := Dw) hH hk7
  replace h_a_ := Sl.tr (Dw := Dw) h_a_ ht8
  replace h_p1 := El.tr (Dw := Dw) h_p1 ht8
  replace hK := Tr.trans (Dw := Dw) hK ht8
  replace hB := Nat.le_trans hB ht8.ex.size
  replace hA := ht8.new
  refine V_y (Y_assign rfl) rfl rfl rfl ?_
  refine V_to (fun _ _ => rfl) ?_
  refine C_seq ?_
  refine C_region ?_
  have h9 := El_know_Article_0 h6
  refine V_y (Y_fieldAddr Tryz.underlying36 rfl Tryz.sizeOf3 (by decide) rfl) rfl rfl rfl ?_
  refine V_y (Y_load (El.int h9) Tryz.isAgg3 rfl) rfl rfl rfl ?_
  refine V_y (Y_load (El.int h_p1) Tryz.isAgg3 rfl) rfl rfl rfl ?_
  refine V_y (Y_eql rfl rfl) rfl rfl rfl ?_
  refine V_y (Y_assign rfl) rfl rfl rfl ?_
  refine V_to (fun _ _ => rfl) ?_
  obtain rfl := Option.some.inj hm
  refine C_ret ?_
  try simp only [↓inBlock_ret, ↓then_ret]
  exact retQ rfl (Res.one Tryz.results59 rfl) ⟨rfl, hK.kp⟩

set_option maxRecDepth 4000 in
set_option maxHeartbeats 4000000 in
theorem portref2_articleAt_c (w : World) {A : Nat → Prop} (hA : ∀ b, w.heap.size ≤ b → A b) (l : (List know_Article)) (v_l : Value) (h_l : Sl A w v_l l) (id_ : Int) {r : Int} (hm : portref2_articleAt l id_ = some r) : Ret Tryz.prog 16 #[v_l, .int .i64 id_] w fun v w' => v = .int .i64 r ∧ Kp Dw w w' := by
  unfold portref2_articleAt at hm
  refine enter Tryz.func16 rfl Tryz.ntmps16 rfl ?_
  have hA0 := hA
  have hB := Nat.le_refl w.heap.size
  have hK : Tr Dw w.heap.size A w A w := Tr.refl (Dw := Dw) hA
  have hH : Hp w.heap.size A w [] := Hp.nil
  refine C_seq ?_
  refine C_region ?_
  refine V_box rfl rfl ?_
  intro b3 w4 h5
  have hk7 := h5.kp (Dw := Dw)
  have h6 : El (α := Int) A w4 b3 0 id_ := h5.el hA rfl
  have ht8 := Kp.tr (Dw := Dw) hk7 hA hB
  replace hH := Hp.kp (Dw := Dw) hH hk7
  replace h_l := Sl.tr (Dw := Dw) h_l ht8
  replace hK := Tr.trans (Dw := Dw) hK ht8
  replace hB := Nat.le_trans hB ht8.ex.size
  replace hA := ht8.new
  refine V_y (Y_assign rfl) rfl rfl rfl ?_
  refine V_to (fun _ _ => rfl) ?_
  refine C_seq ?_
  refine C_region ?_
  refine V_y (Y_move rfl) rfl rfl rfl ?_
  refine V_y (Y_makeFunc rfl rfl) rfl rfl rfl ?_
  obtain ⟨x10, hx10, hm⟩ := Option.bind_eq_some_iff.1 hm
  refine V_call Tryz.call58 rfl rfl rfl rfl (slices_IndexFunc_Lknow_Article_know_Article_c (Dw := Dw) w4 hA l v_l h_l (fun y21 => portref2_articleAt_1 y21 id_) 59 #[] #[.pointer (some ⟨b3, 0, none⟩)] Tryz.call59 (fun w17 A18 ht19 h20 y11 v12 h13 r14 h15 => (portref2_articleAt_1_c (Dw := Dw) w17 h20 y11 v12 h13 id_ b3 (El.tr (Dw := Dw) h6 ht19) h15).mono (fun _ _ h => ⟨h.1, h.2⟩)) hx10) ?_
  rintro _ w22 ⟨rfl, hk23⟩
  have ht24 := Kp.tr (Dw := Dw) hk23 hA hB
  replace hH := Hp.kp (Dw := Dw) hH hk23
  replace h_l := Sl.tr (Dw := Dw) h_l ht24
  replace h6 := El.tr (Dw := Dw) h6 ht24
  replace hK := Tr.trans (Dw := Dw) hK ht24
  replace hB := Nat.le_trans hB ht24.ex.size
  replace hA := ht24.new
  refine V_y (Y_assign rfl) rfl rfl rfl ?_
  refine V_to (fun _ _ => rfl) ?_
  obtain rfl := Option.some.inj hm
  refine C_ret ?_
  try simp only [↓inBlock_ret, ↓then_ret]
  exact retQ rfl (Res.one Tryz.results16 rfl) ⟨rfl, hK.kp⟩

set_option maxRecDepth 4000 in
set_option maxHeartbeats 4000000 in
theorem portref2_PublishOf_1_c (w : World) {A : Nat → Prop} (hA : ∀ b, w.heap.size ≤ b → A b) (a_ : know_Article) (v_a_ : Value) (h_a_ : Sl A w v_a_ a_.versions) (b : know_Article) (v_b : Value) (h_b : Sl A w v_b b.versions) {r : Int} (hm : portref2_PublishOf_1 a_ b = some r) : Ret Tryz.prog 18 #[.agg #[.int .i64 a_.id_, .int .i64 a_.group, v_a_], .agg #[.int .i64 b.id_, .int .i64 b.group, v_b]] w fun v w' => v = .int .i64 r ∧ Kp Dw w w' := by
  unfold portref2_PublishOf_1 at hm
  refine enter Tryz.func18 rfl Tryz.ntmps18 rfl ?_
  have hA0 := hA
  have hB := Nat.le_refl w.heap.size
  have hK : Tr Dw w.heap.size A w A w := Tr.refl (Dw := Dw) hA
  have hH : Hp w.heap.size A w [] := Hp.nil
  refine C_seq ?_
  refine C_region ?_
  refine V_box rfl rfl ?_
  intro b5 w6 h7
  have hk9 := h7.kp (Dw := Dw)
  have h8 : El (α := know_Article) A w6 b5 0 a_ := h7.el hA ⟨[.int .i64 a_.id_], _, rfl, rfl, ⟨[.int .i64 a_.group], _, rfl, rfl, ⟨_, rfl, h_a_⟩⟩⟩
  have ht10 := Kp.tr (Dw := Dw) hk9 hA hB
  replace hH := Hp.kp (Dw := Dw) hH hk9
  replace h_a_ := Sl.tr (Dw := Dw) h_a_ ht10
  replace h_b := Sl.tr (Dw := Dw) h_b ht10
  replace hK := Tr.trans (Dw := Dw) hK ht10
  replace hB := Nat.le_trans hB ht10.ex.size
  replace hA := ht10.new
  refine V_box rfl rfl ?_
  intro b11 w12 h13
  have hk15 := h13.kp (Dw := Dw)
  have h14 : El (α := know_Article) A w12 b11 0 b := h13.el hA ⟨[.int .i64 b.id_], _, rfl, rfl, ⟨[.int .i64 b.group], _, rfl, rfl, ⟨_, rfl, h_b⟩⟩⟩
  have ht16 := Kp.tr (Dw := Dw) hk15 hA hB
  replace hH := Hp.kp (Dw := Dw) hH hk15
  replace h_a_ := Sl.tr (Dw := Dw) h_a_ ht16
  replace h_b := Sl.tr (Dw := Dw) h_b ht16
  replace h8 := El.tr (Dw := Dw) h8 ht16
  replace hK := Tr.trans (Dw := Dw) hK ht16
  replace hB := Nat.le_trans hB ht16.ex.size
  replace hA := ht16.new
  refine V_y (Y_assign rfl) rfl rfl rfl ?_
  refine V_to (fun _ _ => rfl) ?_
  refine C_seq ?_
  refine C_region ?_
  have h17 := El_know_Article_0 h8
  refine V_y (Y_fieldAddr Tryz.underlying36 rfl Tryz.sizeOf3 (by decide) rfl) rfl rfl rfl ?_
  refine V_y (Y_load (El.int h17) Tryz.isAgg3 rfl) rfl rfl rfl ?_
  have h18 := El_know_Article_0 h14
  refine V_y (Y_fieldAddr Tryz.underlying36 rfl Tryz.sizeOf3 (by decide) rfl) rfl rfl rfl ?_
  refine V_y (Y_load (El.int h18) Tryz.isAgg3 rfl) rfl rfl rfl ?_
  refine V_call Tryz.call19 rfl rfl rfl rfl (cmp_Compare_int_c w12 a_.id_ b.id_) ?_
  rintro _ _ ⟨rfl, rfl⟩
  refine V_y (Y_assign rfl) rfl rfl rfl ?_
  refine V_to (fun _ _ => rfl) ?_
  obtain rfl := Option.some.inj hm
  refine C_ret ?_
  try simp only [↓inBlock_ret, ↓then_ret]
  exact retQ rfl (Res.one Tryz.results18 rfl) ⟨rfl, hK.kp⟩

def Tryz_sf17_ren : Go.Shelf.Ren := ⟨fun | 6 => 17 | 14 => 60 | 15 => 61 | 20 => 70 | 21 => 71 | 22 => 72 | 23 => 73 | 24 => 74 | 25 => 75 | 26 => 76 | 27 => 77 | 28 => 78 | 29 => 79 | 46 => 86 | 47 => 87 | 48 => 88 | 49 => 89 | 50 => 90 | 57 => 99 | n => n, fun | 0 => 0 | 1 => 1 | 2 => 2 | 3 => 3 | 4 => 4 | 5 => 5 | 6 => 6 | 7 => 7 | 8 => 8 | 9 => 9 | 10 => 10 | 11 => 11 | 12 => 12 | 13 => 13 | 14 => 14 | 15 => 15 | 16 => 16 | 17 => 17 | 18 => 18 | 19 => 19 | 20 => 20 | 21 => 21 | 22 => 22 | 23 => 42 | 24 => 36 | 25 => 44 | 26 => 180 | 27 => 75 | 29 => 43 | 37 => 157 | 38 => 158 | 39 => 159 | 40 => 156 | 42 => 153 | 44 => 167 | 45 => 168 | 46 => 169 | 47 => 170 | 48 => 171 | 49 => 172 | 50 => 38 | 51 => 173 | 52 => 174 | 53 => 175 | 54 => 176 | 55 => 177 | 66 => 184 | 67 => 185 | 68 => 186 | 69 => 187 | 70 => 188 | 71 => 189 | 76 => 205 | 77 => 206 | 78 => 207 | 81 => 204 | 82 => 223 | 83 => 224 | 84 => 225 | 85 => 226 | 86 => 227 | 87 => 228 | 88 => 229 | 89 => 230 | 90 => 231 | 91 => 212 | 92 => 232 | 93 => 233 | 94 => 234 | 95 => 235 | 96 => 213 | n => n, fun n => n⟩
theorem Tryz_sf17_lay : Go.Proofs.SlLaysF0.n6 Tryz.prog Tryz_sf17_ren := {
  mixed := by kernel_rfl,
  f6 := ⟨ "slices.SortFunc[[]porterslodge/know.Article,porterslodge/know.Article]", by kernel_rfl, Tryz.func17.trans (congrArg some (by kernel_rfl))⟩,
  f14 := ⟨ "slices.pdqsortCmpFunc[porterslodge/know.Article]", by kernel_rfl, Tryz.func60.trans (congrArg some (by kernel_rfl))⟩,
  f15 := Tryz.func61.trans (congrArg some (by kernel_rfl)),
  f20 := ⟨ "slices.insertionSortCmpFunc[porterslodge/know.Article]", by kernel_rfl, Tryz.func70.trans (congrArg some (by kernel_rfl))⟩,
  f21 := ⟨ "slices.heapSortCmpFunc[porterslodge/know.Article]", by kernel_rfl, Tryz.func71.trans (congrArg some (by kernel_rfl))⟩,
  f22 := ⟨ "slices.breakPatternsCmpFunc[porterslodge/know.Article]", by kernel_rfl, Tryz.func72.trans (congrArg some (by kernel_rfl))⟩,
  f23 := ⟨ "slices.choosePivotCmpFunc[porterslodge/know.Article]", by kernel_rfl, Tryz.func73.trans (congrArg some (by kernel_rfl))⟩,
  f24 := ⟨ "slices.reverseRangeCmpFunc[porterslodge/know.Article]", by kernel_rfl, Tryz.func74.trans (congrArg some (by kernel_rfl))⟩,
  f25 := ⟨ "slices.partialInsertionSortCmpFunc[porterslodge/know.Article]", by kernel_rfl, Tryz.func75.trans (congrArg some (by kernel_rfl))⟩,
  f26 := ⟨ "slices.partitionEqualCmpFunc[porterslodge/know.Article]", by kernel_rfl, Tryz.func76.trans (congrArg some (by kernel_rfl))⟩,
  f27 := ⟨ "slices.partitionCmpFunc[porterslodge/know.Article]", by kernel_rfl, Tryz.func77.trans (congrArg some (by kernel_rfl))⟩,
  f28 := Tryz.func78.trans (congrArg some (by kernel_rfl)),
  f29 := Tryz.func79.trans (congrArg some (by kernel_rfl)),
  f46 := ⟨ "slices.siftDownCmpFunc[porterslodge/know.Article]", by kernel_rfl, Tryz.func86.trans (congrArg some (by kernel_rfl))⟩,
  f47 := Tryz.func87.trans (congrArg some (by kernel_rfl)),
  f48 := Tryz.func88.trans (congrArg some (by kernel_rfl)),
  f49 := ⟨ "slices.medianAdjacentCmpFunc[porterslodge/know.Article]", by kernel_rfl, Tryz.func89.trans (congrArg some (by kernel_rfl))⟩,
  f50 := ⟨ "slices.medianCmpFunc[porterslodge/know.Article]", by kernel_rfl, Tryz.func90.trans (congrArg some (by kernel_rfl))⟩,
  f57 := ⟨ "slices.order2CmpFunc[porterslodge/know.Article]", by kernel_rfl, Tryz.func99.trans (congrArg some (by kernel_rfl))⟩,
  t0 := Tryz.underlying0,
  a0 := Tryz.isAgg0,
  z0 := Tryz.sizeOf0,
  v0 := Tryz.zeroValue0,
  t3 := Tryz.underlying3,
  a3 := Tryz.isAgg3,
  z3 := Tryz.sizeOf3,
  v3 := Tryz.zeroValue3,
  t4 := Tryz.underlying4,
  a4 := Tryz.isAgg4,
  z4 := Tryz.sizeOf4,
  v4 := Tryz.zeroValue4,
  t5 := Tryz.underlying5,
  a5 := Tryz.isAgg5,
  z5 := Tryz.sizeOf5,
  v5 := Tryz.zeroValue5,
  t9 := Tryz.underlying9,
  a9 := Tryz.isAgg9,
  z9 := Tryz.sizeOf9,
  v9 := Tryz.zeroValue9,
  t22 := Tryz.underlying22,
  a22 := Tryz.isAgg22,
  z22 := Tryz.sizeOf22,
  v22 := Tryz.zeroValue22,
  t25 := Tryz.underlying44,
  a25 := Tryz.isAgg44,
  z25 := Tryz.sizeOf44,
  v25 := Tryz.zeroValue44,
  t39 := Tryz.underlying159,
  a39 := Tryz.isAgg159,
  z39 := Tryz.sizeOf159,
  v39 := Tryz.zeroValue159,
  t45 := Tryz.underlying168,
  a45 := Tryz.isAgg168,
  z45 := Tryz.sizeOf168,
  v45 := Tryz.zeroValue168,
  t46 := Tryz.underlying169,
  a46 := Tryz.isAgg169,
  z46 := Tryz.sizeOf169,
  v46 := Tryz.zeroValue169,
  t50 := Tryz.underlying38,
  a50 := Tryz.isAgg38,
  z50 := Tryz.sizeOf38,
  v50 := Tryz.zeroValue38,
  t53 := Tryz.underlying175,
  a53 := Tryz.isAgg175,
  z53 := Tryz.sizeOf175,
  v53 := Tryz.zeroValue175,
  t55 := Tryz.underlying177,
  a55 := Tryz.isAgg177,
  z55 := Tryz.sizeOf177,
  v55 := Tryz.zeroValue177,
  t66 := Tryz.underlying184,
  a66 := Tryz.isAgg184,
  z66 := Tryz.sizeOf184,
  v66 := Tryz.zeroValue184,
  t70 := Tryz.underlying188,
  a70 := Tryz.isAgg188,
  z70 := Tryz.sizeOf188,
  v70 := Tryz.zeroValue188,
  t76 := Tryz.underlying205,
  a76 := Tryz.isAgg205,
  z76 := Tryz.sizeOf205,
  v76 := Tryz.zeroValue205,
  t77 := Tryz.underlying206,
  a77 := Tryz.isAgg206,
  z77 := Tryz.sizeOf206,
  v77 := Tryz.zeroValue206 }
theorem Tryz_sf17 {cmp : know_Article → know_Article → Option Int} {l r : List know_Article} {g : FuncId} {cb : Array Value} {B : Nat} {A : Nat → Prop} {w : World} {L : List Ob} {i : Nat} {v : Value} (eg : ∀ (args : Array Value) (w : World), (callFunc g args).run Tryz.prog w = .ok (.enter g args) w) (hcl : ∀ (w1 : World), Tr True B A w A w1 → (∀ b, w1.heap.size ≤ b → A b) → ∀ (x y : know_Article) (cx cy : List Value) (c : Int), GoT.rep A w1 cx x → GoT.rep A w1 cy y → cmp x y = some c → Ret Tryz.prog g (#[.agg cx.toArray, .agg cy.toArray] ++ cb) w1 fun v w' => v = .int .i64 c ∧ Kp True w1 w') (hH : Hp B A w L) (hi : L[i]? = some (obS (α := know_Article) 36 v l)) (hB : B ≤ w.heap.size) (hA : ∀ b, w.heap.size ≤ b → A b) (hr : sortFuncL cmp l = some r) : Ret Tryz.prog 17 #[v, .func (.func g) #[] cb] w fun u w' => u = .tuple #[] ∧ Hp B A w' (L.set i (obS (α := know_Article) 36 v r)) ∧ Tr Dw B A w A w' :=
  Hp.sortFuncK (Dw := Dw) (fun p c w => Go.Proofs.AnyF.slices_SortFunc_none Tryz_sf17_lay p c _ w) (fun enc hk hone cf hO blk off cap d w hc hh hb hs => Go.Proofs.AnyQ.slices_SortFunc Tryz_sf17_lay _ Tryz.isAgg36 Tryz.sizeOf36 enc hk hone cf hO g cb blk off cap d w eg hc hh hb hs) hcl hH hi hB hA hr

set_option maxRecDepth 4000 in
set_option maxHeartbeats 4000000 in
theorem portref2_PublishOf_c (w : World) {A : Nat → Prop} {B : Nat} (hB : B ≤ w.heap.size) (hA : ∀ b, w.heap.size ≤ b → A b) (hT : Mx Tryz.prog 0 A w) (l : (List know_Article)) (v_l : Value) (h_l : Sl A w v_l l) (id_ : Int) (v : know_Version) {L : List Ob} (hH : Hp B A w (L)) {r : ((List know_Article) × Int)} (hm : portref2_PublishOf l id_ v = some r) : Ret Tryz.prog 5 #[v_l, .int .i64 id_, .agg #[.int .i64 v.at_, .string v.title, .string v.body]] w fun v w' => ∃ s0, ∃ A1 : Nat → Prop, v = .tuple #[s0, .int .i64 r.2] ∧ Hp B A1 w' (obS (α := know_Article) 36 s0 r.1 :: L) ∧ Tr False B A w A1 w' := by
  unfold portref2_PublishOf at hm
  refine enter Tryz.func5 rfl Tryz.ntmps5 rfl ?_
  have hK : Tr False B A w A w := Tr.refl (Dw := False) hA
  refine C_seq ?_
  refine C_region ?_
  refine V_box rfl rfl ?_
  intro b3 w4 h5
  have hk7 := h5.kp (Dw := False)
  have h6 : El (α := know_Version) A w4 b3 0 v := h5.el hA ⟨[.int .i64 v.at_], _, rfl, rfl, ⟨[.string v.title], _, rfl, rfl, rfl⟩⟩
  have ht8 := Kp.tr (Dw := False) hk7 hA hB
  replace hH := Hp.kp (Dw := False) hH hk7
  replace h_l := Sl.tr (Dw := False) h_l ht8
  replace hK := Tr.trans (Dw := False) hK ht8
  replace hB := Nat.le_trans hB ht8.ex.size
  replace hA := ht8.new
  refine V_y (Y_assign rfl) rfl rfl rfl ?_
  refine V_y (Y_assign rfl) rfl rfl rfl ?_
  refine V_to (fun _ _ => rfl) ?_
  refine C_seq ?_
  refine C_seq ?_
  refine C_region ?_
  refine V_y (Y_move rfl) rfl rfl rfl ?_
  obtain ⟨x9, hx9, hm⟩ := Option.bind_eq_some_iff.1 hm
  refine V_call Tryz.call15 rfl rfl rfl rfl (portref2_ArticlesFault_c w4 hA (Mx.tr (Dw := False) hT hK) l v_l h_l hx9) ?_
  rintro _ w10 ⟨rfl, hk11⟩
  have ht12 := Kp.tr (Dw := False) hk11 hA hB
  replace hH := Hp.kp (Dw := False) hH hk11
  replace h_l := Sl.tr (Dw := False) h_l ht12
  replace h6 := El.tr (Dw := False) h6 ht12
  replace hK := Tr.trans (Dw := False) hK ht12
  replace hB := Nat.le_trans hB ht12.ex.size
  replace hA := ht12.new
  refine V_y (Y_assign rfl) rfl rfl rfl ?_
  refine V_to (fun _ _ => rfl) ?_
  refine C_seq ?_
  refine C_region ?_
  refine V_y (Y_move rfl) rfl rfl rfl ?_
  refine V_y (Y_neq rfl rfl) rfl rfl rfl ?_
  refine V_to (fun _ _ => rfl) ?_
  refine C_cond rfl (fun hc13 => ?_) (fun hc13 => ?_)
  · rw [if_pos hc13] at hm
    refine C_seq ?_
    refine C_region ?_
    refine V_y (Y_move rfl) rfl rfl rfl ?_
    refine V_y (Y_assign rfl) rfl rfl rfl ?_
    refine V_y (Y_assign rfl) rfl rfl rfl ?_
    refine V_to (fun _ _ => rfl) ?_
    obtain rfl := Option.some.inj hm
    replace hH : Hp B A w10 (obS (α := know_Article) 36 (.slice none 0 0) ([] : (List know_Article)) :: L) := Hp.addNil (α := know_Article) (e := 36) hH
    refine C_ret ?_
    try simp only [↓inBlock_ret, ↓then_ret]
    exact retQ rfl (Res.two Tryz.results5 rfl rfl) ⟨.slice none 0 0, A, rfl, hH, hK⟩
  · rw [if_neg (nt hc13)] at hm
    refine C_skip_to (fun _ _ => rfl) ?_
    refine C_seq ?_
    refine C_seq ?_
    refine C_region ?_
    refine V_y (Y_move rfl) rfl rfl rfl ?_
    refine V_y (Y_lss rfl rfl) rfl rfl rfl ?_
    refine V_y (Y_move rfl) rfl rfl rfl ?_
    refine V_cut 3 (fun _ : Unit => [(0, v_l), (1, .int .i64 id_), (5, .pointer (some ⟨b3, 0, none⟩)), (22, .bool ((decide (id_ < 1)) || (decide ((3000000 : Int) < id_))))]) (fun _ w' => w10 = w') ?_ ?_
    · simp only [List.take, List.drop]
      rcases Bool.eq_false_or_eq_true (decide (id_ < 1)) with hc14 | hc14
      · refine V_gn rfl rfl rfl hc14 rfl rfl rfl ?_
        refine V_gn rfl rfl rfl hc14 rfl rfl rfl ?_
        refine V_y (Y_pick_te rfl hc14 rfl) rfl rfl rfl ?_
        exact V_end fun a ha => ⟨(), ha.sub ⟨rfl, rfl, rfl, (by rw [hc14]; rfl), trivial⟩, rfl⟩
      · refine V_ge rfl rfl rfl hc14 ?_
        refine V_y (Y_move rfl) rfl rfl rfl ?_
        refine V_ge rfl rfl rfl hc14 ?_
        refine V_y (Y_gtr rfl rfl) rfl rfl rfl ?_
        refine V_y (Y_pick_fe rfl hc14 rfl) rfl rfl rfl ?_
        exact V_end fun a ha => ⟨(), ha.sub ⟨rfl, rfl, rfl, (by rw [hc14]; rfl), trivial⟩, rfl⟩
    simp only [List.take, List.drop]
    rintro _ _ rfl
    refine V_to (fun _ _ => rfl) ?_
    refine C_cond rfl (fun hc16 => ?_) (fun hc16 => ?_)
    · rw [if_pos hc16] at hm
      refine C_seq ?_
      refine C_region ?_
      refine V_y (Y_assign rfl) rfl rfl rfl ?_
      refine V_y (Y_assign rfl) rfl rfl rfl ?_
      refine V_to (fun _ _ => rfl) ?_
      obtain rfl := Option.some.inj hm
      replace hH : Hp B A w10 (obS (α := know_Article) 36 (.slice none 0 0) ([] : (List know_Article)) :: L) := Hp.addNil (α := know_Article) (e := 36) hH
      refine C_ret ?_
      try simp only [↓inBlock_ret, ↓then_ret]
      exact retQ rfl (Res.two Tryz.results5 rfl rfl) ⟨.slice none 0 0, A, rfl, hH, hK⟩
    · rw [if_neg (nt hc16)] at hm
      refine C_skip_to (fun _ _ => rfl) ?_
      refine C_seq ?_
      refine C_region ?_
      refine V_y (Y_move rfl) rfl rfl rfl ?_
      obtain ⟨x17, hx17, hm⟩ := Option.bind_eq_some_iff.1 hm
      refine V_call Tryz.call11 rfl rfl rfl rfl (slices_Clone_Lknow_Article_know_Article_c (Dw := False) w10 hB hA l v_l h_l hH hx17) ?_
      rintro v18 w20 ⟨_, A21, rfl, hH22, ht23⟩
      replace h_l := Sl.tr (Dw := False) h_l ht23
      replace h6 := El.tr (Dw := False) h6 ht23
      replace hK := Tr.trans (Dw := False) hK ht23
      replace hB := Nat.le_trans hB ht23.ex.size
      replace hA := ht23.new
      replace hH : Hp B A21 w20 (obS (α := know_Article) 36 v18 x17 :: L) := hH22
      refine V_y (Y_assign rfl) rfl rfl rfl ?_
      refine V_to (fun _ _ => rfl) ?_
      refine C_seq ?_
      refine C_seq ?_
      refine C_region ?_
      refine V_y (Y_move rfl) rfl rfl rfl ?_
      refine V_y (Y_move rfl) rfl rfl rfl ?_
      obtain ⟨x24, hx24, hm⟩ := Option.bind_eq_some_iff.1 hm
      refine V_call Tryz.call16 rfl rfl rfl rfl (portref2_articleAt_c (Dw := False) w20 hA l v_l h_l id_ hx24) ?_
      rintro _ w25 ⟨rfl, hk26⟩
      have ht27 := Kp.tr (Dw := False) hk26 hA hB
      replace hH := Hp.kp (Dw := False) hH hk26
      replace h_l := Sl.tr (Dw := False) h_l ht27
      replace h6 := El.tr (Dw := False) h6 ht27
      replace hK := Tr.trans (Dw := False) hK ht27
      replace hB := Nat.le_trans hB ht27.ex.size
      replace hA := ht27.new
      refine V_y (Y_assign rfl) rfl rfl rfl ?_
      refine V_to (fun _ _ => rfl) ?_
      refine C_seq ?_
      refine C_region ?_
      refine V_y (Y_move rfl) rfl rfl rfl ?_
      refine V_y (Y_geq rfl rfl) rfl rfl rfl ?_
      refine V_to (fun _ _ => rfl) ?_
      obtain ⟨s29, ho28, hm⟩ := Option.bind_eq_some_iff.1 hm
      refine C_cutG (ι := (Value × (Nat → Prop))) (fun ⟨v31, A36⟩ => [(9, v31)]) (fun ⟨v31, A36⟩ => fun w' => Hp B A36 w' (obS (α := know_Article) 36 v31 s29 :: L) ∧ Tr False B A21 w25 A36 w') ?_ ?_
      · have hr30 : Tr False B A21 w25 A21 w25 := Tr.refl (Dw := False) hA
        refine C_cond rfl (fun hc38 => ?_) (fun hc38 => ?_)
        · rw [if_pos hc38] at ho28
          refine C_region_chy (Dw := False) A21 9 [8] [(1, 0), (1, 1), (1, 2), (1, 3), (1, 4), (1, 5), (1, 6), (1, 8), (2, 7)] [(4, 10), (0, 11), (1, 12), (4, 13)] Tryz_mixed (by kernel_rfl) (fun w39 hk40 => ?_)
          have ht41 := Kp.tr (Dw := False) hk40 hA hB
          replace hH := Hp.kp (Dw := False) hH hk40
          replace h_l := Sl.tr (Dw := False) h_l ht41
          replace h6 := El.tr (Dw := False) h6 ht41
          replace hK := Tr.trans (Dw := False) hK ht41
          replace hr30 := Tr.trans (Dw := False) hr30 ht41
          replace hB := Nat.le_trans hB ht41.ex.size
          replace hA := ht41.new
          refine CHZ_q2 (Dw := False) rfl ?_
          refine VQ_y (fun w' hw' => Y_move rfl) rfl rfl rfl ?_
          refine VQ_CHZ (Dw := False) ?_
          refine CHZ_q2 (Dw := False) rfl ?_
          refine VQ_y (fun w' hw' => Y_move rfl) rfl rfl rfl ?_
          refine VQ_CHZ (Dw := False) ?_
          refine CHZ_q2 (Dw := False) rfl ?_
          refine VQ_y (fun w' hw' => Y_move rfl) rfl rfl rfl ?_
          refine VQ_CHZ (Dw := False) ?_
          refine CHZ_q2 (Dw := False) rfl ?_
          refine VQ_y (fun w' hw' => Y_move rfl) rfl rfl rfl ?_
          refine VQ_CHZ (Dw := False) ?_
          refine CHZ_q2 (Dw := False) rfl ?_
          obtain ⟨x42, hx42, ho28⟩ := Option.bind_eq_some_iff.1 ho28
          refine VQ_indexAddr h_l hx42 Tryz.underlying22 Tryz.sizeOf36 rfl rfl rfl ?_
          intro b43 o44 h45
          refine VQ_CHZ (Dw := False) ?_
          refine CHZ_q2 (Dw := False) rfl ?_
          have h46 := El_know_Article_2 h45
          refine VQ_y (fun w' hw' => Y_fieldAddr Tryz.underlying36 rfl Tryz.sizeOf34 (by decide) rfl) rfl rfl rfl ?_
          refine VQ_CHZ (Dw := False) ?_
          refine CHZ_q2 (Dw := False) rfl ?_
          obtain ⟨v47, h48, h49⟩ := El.list h46
          refine VQ_y (fun w' hw' => Y_load ((World.cell?_of_block (hw'.2 _ h46.2.1 h46.1)).trans h48) Tryz.isAgg34 rfl) rfl rfl rfl ?_
          refine VQ_CHZ (Dw := False) ?_
          refine CHZ_q2 (Dw := False) rfl ?_
          obtain ⟨h50, _⟩ := El_know_Version h6
          refine VQ_y (fun w' hw' => Y_loadA (At.same h50 (hw'.2 _ h6.2.1 h6.1)) Tryz.isAgg24 Tryz.sizeOf24 rfl) rfl rfl rfl ?_
          refine VQ_CHZ (Dw := False) ?_
          refine CHZ_l1 (Dw := False) (k := 0) [(2, 9), (2, 7), (4, 10), (0, 11), (1, 12), (4, 13)] rfl ?_ rfl ?_
          · refine CH_l1 (Dw := False) (k := 0) rfl ?_
            refine V_buildSlice (Dw := False) (cells := #[.int .i64 v.at_, .string v.title, .string v.body]) (l := ([v] : List know_Version)) (len := 1) Tryz.underlying34 Tryz.sizeOf24 Tryz.zeroValue24 rfl (by kernel_rfl) (show (1 * 3 : Nat) ≠ 0 by decide) (show (1 * 3 : Nat) ≤ 2 ^ 24 by decide) hA ⟨[.int .i64 v.at_, .string v.title, .string v.body], _, rfl, ⟨[.int .i64 v.at_], _, rfl, rfl, ⟨[.string v.title], _, rfl, rfl, rfl⟩⟩, rfl⟩ rfl rfl ?_
            intro v51 w52 hk54 h53
            have ht55 := Kp.tr (Dw := False) hk54 hA hB
            replace hH := Hp.kp (Dw := False) hH hk54
            replace h_l := Sl.tr (Dw := False) h_l ht55
            replace h6 := El.tr (Dw := False) h6 ht55
            replace h45 := El.tr (Dw := False) h45 ht55
            replace h46 := El.tr (Dw := False) h46 ht55
            replace h49 := Sl.tr (Dw := False) h49 ht55
            replace hK := Tr.trans (Dw := False) hK ht55
            replace hr30 := Tr.trans (Dw := False) hr30 ht55
            replace hB := Nat.le_trans hB ht55.ex.size
            replace hA := ht55.new
            refine V_CH (Dw := False) (hk54) ?_
            refine CH_l1 (Dw := False) (k := 0) rfl ?_
            obtain ⟨x56, hx56, ho28⟩ := Option.bind_eq_some_iff.1 ho28
            refine V_call Tryz.call12 rfl rfl rfl rfl (slices_Clone_Lknow_Version_know_Version_c (Dw := False) w52 hA x42.versions v47 h49 hx56) ?_
            rintro v57 w59 ⟨_, rfl, h58, hk60⟩
            obtain ⟨A61, ht62, hH63⟩ := Hp.addOwnd (Dw := False) hH hB hA hk60 h58
            replace h_l := Sl.tr (Dw := False) h_l ht62
            replace h6 := El.tr (Dw := False) h6 ht62
            replace h45 := El.tr (Dw := False) h45 ht62
            replace h46 := El.tr (Dw := False) h46 ht62
            replace h49 := Sl.tr (Dw := False) h49 ht62
            replace h53 := Sl.tr (Dw := False) h53 ht62
            replace hK := Tr.trans (Dw := False) hK ht62
            replace hr30 := Tr.trans (Dw := False) hr30 ht62
            replace hB := Nat.le_trans hB ht62.ex.size
            replace hA := ht62.new
            replace hH : Hp B A61 w59 (obS (α := know_Version) 24 v57 x56 :: obS (α := know_Article) 36 v18 x17 :: L) := hH63
            refine V_CH (Dw := False) (hk60) ?_
            refine CH_l1 (Dw := False) (k := 2) rfl ?_
            obtain ⟨x64, hx64, ho28⟩ := Option.bind_eq_some_iff.1 ho28
            refine V_appendH (Dw := False) (e := 24) (v := v57) (l := x56) (ti := Tryz.t24) (bytes := 40) (lim := 3518437208883) hH (i := 0) rfl h53 hx64 Tryz.underlying34 Tryz_info24 rfl rfl rfl rfl (by decide) (by decide) (by decide) hB hA rfl rfl rfl ?_
            intro v65 w66 A67 hH68 ht69
            replace h_l := Sl.tr (Dw := False) h_l ht69
            replace h6 := El.tr (Dw := False) h6 ht69
            replace h45 := El.tr (Dw := False) h45 ht69
            replace h46 := El.tr (Dw := False) h46 ht69
            replace h49 := Sl.tr (Dw := False) h49 ht69
            replace h53 := Sl.tr (Dw := False) h53 ht69
            replace hK := Tr.trans (Dw := False) hK ht69
            replace hr30 := Tr.trans (Dw := False) hr30 ht69
            replace hB := Nat.le_trans hB ht69.ex.size
            replace hA := ht69.new
            replace hH : Hp B A67 w66 (obS (α := know_Version) 24 v65 x64 :: obS (α := know_Article) 36 v18 x17 :: L) := hH68
            refine V_CHw (Dw := False) ?_
            refine CH_q1 (Dw := False) rfl ?_
            obtain ⟨x70, hx70, ho28⟩ := Option.bind_eq_some_iff.1 ho28
            refine VQ_indexAddrH (α := know_Article) (e := 36) (v := v18) (l := x17) hH (i := 1) rfl hx70 Tryz.underlying22 Tryz.sizeOf36 rfl rfl rfl ?_
            intro b71 o72 h73 hl74
            refine VQ_CH (Dw := False) ?_
            refine CH_q2 (Dw := False) rfl ?_
            have h75 := El_know_Article_2 h73
            refine VQ_y (fun w' hw' => Y_fieldAddr Tryz.underlying36 rfl Tryz.sizeOf34 (by decide) rfl) rfl rfl rfl ?_
            refine VQ_CH (Dw := False) ?_
            refine CH_l1 (Dw := False) (k := 2) rfl ?_
            obtain ⟨A76, ht77, h78, hH79⟩ := Hp.freeze (Dw := False) (α := know_Version) (v := v65) (l := x64) hH (i := 0) rfl hA
            replace h_l := Sl.tr (Dw := False) h_l ht77
            replace h6 := El.tr (Dw := False) h6 ht77
            replace h45 := El.tr (Dw := False) h45 ht77
            replace h46 := El.tr (Dw := False) h46 ht77
            replace h49 := Sl.tr (Dw := False) h49 ht77
            replace h53 := Sl.tr (Dw := False) h53 ht77
            replace hK := Tr.trans (Dw := False) hK ht77
            replace hr30 := Tr.trans (Dw := False) hr30 ht77
            replace hB := Nat.le_trans hB ht77.ex.size
            replace hA := ht77.new
            replace hH : Hp B A76 w66 (obS (α := know_Article) 36 v18 x17 :: L) := hH79
            obtain ⟨x81, hx81, ho28⟩ := Option.bind_eq_some_iff.1 ho28
            have h87 : (v65).oneCell' = true := by obtain ⟨_, _, e, _⟩ := Sl.form h78; rw [e]; rfl
            refine V_storeFH (Dw := False) (α := know_Article) (e := 36) (v := v18) (l := x17) (foff := 2) hH (i := 0) rfl hl74 hx70 hx81 (fun _ h => by obtain ⟨_, _, rfl, rfl, ⟨_, _, rfl, rfl, ⟨v1, rfl, h1⟩⟩⟩ := h; rw [Value.cells_one h87]; exact ⟨[_], _, rfl, rfl, ⟨[_], _, rfl, rfl, ⟨_, rfl, h78⟩⟩⟩) Tryz.sizeOf34 (by rw [← Array.length_toList, Value.cells_one h87]; rfl) (by intro u hu; rw [Value.cells_one h87] at hu; simp at hu; subst hu; exact h87) (by decide) hB hA (congrArg (fun z => some (Value.pointer (some ⟨_, z, none⟩))) (by simp [Nat.add_assoc])) rfl ?_
            intro w82 hH83 ht84
            replace h_l := Sl.tr (Dw := False) h_l ht84
            replace h6 := El.tr (Dw := False) h6 ht84
            replace h45 := El.tr (Dw := False) h45 ht84
            replace h46 := El.tr (Dw := False) h46 ht84
            replace h49 := Sl.tr (Dw := False) h49 ht84
            replace h53 := Sl.tr (Dw := False) h53 ht84
            replace h78 := Sl.tr (Dw := False) h78 ht84
            replace hK := Tr.trans (Dw := False) hK ht84
            replace hr30 := Tr.trans (Dw := False) hr30 ht84
            replace hB := Nat.le_trans hB ht84.ex.size
            replace hA := ht84.new
            replace hH : Hp B A76 w82 (obS (α := know_Article) 36 v18 x81 :: L) := hH83
            refine V_CHw (Dw := False) ?_
            refine CH_tail (Dw := False) ?_
            show V _ _ _ _ [] _ _
            obtain rfl := Option.some.inj ho28
            refine V_end (fun a ha88 => ?_)
            exact ⟨(v18, A76), ha88.sub ⟨rfl, trivial⟩, ⟨hH, hr30⟩⟩
          obtain ⟨x89, hx89, ho28⟩ := Option.bind_eq_some_iff.1 ho28
          refine V_call Tryz.call12 rfl rfl rfl rfl (slices_Clone_Lknow_Version_know_Version_c (Dw := False) w39 hA x42.versions v47 h49 hx89) ?_
          rintro v90 w92 ⟨_, rfl, h91, hk93⟩
          obtain ⟨A94, ht95, hH96⟩ := Hp.addOwnd (Dw := False) hH hB hA hk93 h91
          replace h_l := Sl.tr (Dw := False) h_l ht95
          replace h6 := El.tr (Dw := False) h6 ht95
          replace h45 := El.tr (Dw := False) h45 ht95
          replace h46 := El.tr (Dw := False) h46 ht95
          replace h49 := Sl.tr (Dw := False) h49 ht95
          replace hK := Tr.trans (Dw := False) hK ht95
          replace hr30 := Tr.trans (Dw := False) hr30 ht95
          replace hB := Nat.le_trans hB ht95.ex.size
          replace hA := ht95.new
          replace hH : Hp B A94 w92 (obS (α := know_Version) 24 v90 x89 :: obS (α := know_Article) 36 v18 x17 :: L) := hH96
          refine V_CHZ (Dw := False) (hk93) ?_
          refine CHZ_nil (Dw := False) ?_
          refine CH_l1 (Dw := False) (k := 0) rfl ?_
          refine V_buildSlice (Dw := False) (cells := #[.int .i64 v.at_, .string v.title, .string v.body]) (l := ([v] : List know_Version)) (len := 1) Tryz.underlying34 Tryz.sizeOf24 Tryz.zeroValue24 rfl (by kernel_rfl) (show (1 * 3 : Nat) ≠ 0 by decide) (show (1 * 3 : Nat) ≤ 2 ^ 24 by decide) hA ⟨[.int .i64 v.at_, .string v.title, .string v.body], _, rfl, ⟨[.int .i64 v.at_], _, rfl, rfl, ⟨[.string v.title], _, rfl, rfl, rfl⟩⟩, rfl⟩ rfl rfl ?_
          intro v97 w98 hk100 h99
          have ht101 := Kp.tr (Dw := False) hk100 hA hB
          replace hH := Hp.kp (Dw := False) hH hk100
          replace h_l := Sl.tr (Dw := False) h_l ht101
          replace h6 := El.tr (Dw := False) h6 ht101
          replace h45 := El.tr (Dw := False) h45 ht101
          replace h46 := El.tr (Dw := False) h46 ht101
          replace h49 := Sl.tr (Dw := False) h49 ht101
          replace hK := Tr.trans (Dw := False) hK ht101
          replace hr30 := Tr.trans (Dw := False) hr30 ht101
          replace hB := Nat.le_trans hB ht101.ex.size
          replace hA := ht101.new
          refine V_CH (Dw := False) (hk100) ?_
          refine CH_l1 (Dw := False) (k := 2) rfl ?_
          obtain ⟨x102, hx102, ho28⟩ := Option.bind_eq_some_iff.1 ho28
          refine V_appendH (Dw := False) (e := 24) (v := v90) (l := x89) (ti := Tryz.t24) (bytes := 40) (lim := 3518437208883) hH (i := 0) rfl h99 hx102 Tryz.underlying34 Tryz_info24 rfl rfl rfl rfl (by decide) (by decide) (by decide) hB hA rfl rfl rfl ?_
          intro v103 w104 A105 hH106 ht107
          replace h_l := Sl.tr (Dw := False) h_l ht107
          replace h6 := El.tr (Dw := False) h6 ht107
          replace h45 := El.tr (Dw := False) h45 ht107
          replace h46 := El.tr (Dw := False) h46 ht107
          replace h49 := Sl.tr (Dw := False) h49 ht107
          replace h99 := Sl.tr (Dw := False) h99 ht107
          replace hK := Tr.trans (Dw := False) hK ht107
          replace hr30 := Tr.trans (Dw := False) hr30 ht107
          replace hB := Nat.le_trans hB ht107.ex.size
          replace hA := ht107.new
          replace hH : Hp B A105 w104 (obS (α := know_Version) 24 v103 x102 :: obS (α := know_Article) 36 v18 x17 :: L) := hH106
          refine V_CHw (Dw := False) ?_
          refine CH_q1 (Dw := False) rfl ?_
          obtain ⟨x108, hx108, ho28⟩ := Option.bind_eq_some_iff.1 ho28
          refine VQ_indexAddrH (α := know_Article) (e := 36) (v := v18) (l := x17) hH (i := 1) rfl hx108 Tryz.underlying22 Tryz.sizeOf36 rfl rfl rfl ?_
          intro b109 o110 h111 hl112
          refine VQ_CH (Dw := False) ?_
          refine CH_q2 (Dw := False) rfl ?_
          have h113 := El_know_Article_2 h111
          refine VQ_y (fun w' hw' => Y_fieldAddr Tryz.underlying36 rfl Tryz.sizeOf34 (by decide) rfl) rfl rfl rfl ?_
          refine VQ_CH (Dw := False) ?_
          refine CH_l1 (Dw := False) (k := 2) rfl ?_
          obtain ⟨A114, ht115, h116, hH117⟩ := Hp.freeze (Dw := False) (α := know_Version) (v := v103) (l := x102) hH (i := 0) rfl hA
          replace h_l := Sl.tr (Dw := False) h_l ht115
          replace h6 := El.tr (Dw := False) h6 ht115
          replace h45 := El.tr (Dw := False) h45 ht115
          replace h46 := El.tr (Dw := False) h46 ht115
          replace h49 := Sl.tr (Dw := False) h49 ht115
          replace h99 := Sl.tr (Dw := False) h99 ht115
          replace hK := Tr.trans (Dw := False) hK ht115
          replace hr30 := Tr.trans (Dw := False) hr30 ht115
          replace hB := Nat.le_trans hB ht115.ex.size
          replace hA := ht115.new
          replace hH : Hp B A114 w104 (obS (α := know_Article) 36 v18 x17 :: L) := hH117
          obtain ⟨x119, hx119, ho28⟩ := Option.bind_eq_some_iff.1 ho28
          have h125 : (v103).oneCell' = true := by obtain ⟨_, _, e, _⟩ := Sl.form h116; rw [e]; rfl
          refine V_storeFH (Dw := False) (α := know_Article) (e := 36) (v := v18) (l := x17) (foff := 2) hH (i := 0) rfl hl112 hx108 hx119 (fun _ h => by obtain ⟨_, _, rfl, rfl, ⟨_, _, rfl, rfl, ⟨v1, rfl, h1⟩⟩⟩ := h; rw [Value.cells_one h125]; exact ⟨[_], _, rfl, rfl, ⟨[_], _, rfl, rfl, ⟨_, rfl, h116⟩⟩⟩) Tryz.sizeOf34 (by rw [← Array.length_toList, Value.cells_one h125]; rfl) (by intro u hu; rw [Value.cells_one h125] at hu; simp at hu; subst hu; exact h125) (by decide) hB hA (congrArg (fun z => some (Value.pointer (some ⟨_, z, none⟩))) (by simp [Nat.add_assoc])) rfl ?_
          intro w120 hH121 ht122
          replace h_l := Sl.tr (Dw := False) h_l ht122
          replace h6 := El.tr (Dw := False) h6 ht122
          replace h45 := El.tr (Dw := False) h45 ht122
          replace h46 := El.tr (Dw := False) h46 ht122
          replace h49 := Sl.tr (Dw := False) h49 ht122
          replace h99 := Sl.tr (Dw := False) h99 ht122
          replace h116 := Sl.tr (Dw := False) h116 ht122
          replace hK := Tr.trans (Dw := False) hK ht122
          replace hr30 := Tr.trans (Dw := False) hr30 ht122
          replace hB := Nat.le_trans hB ht122.ex.size
          replace hA := ht122.new
          replace hH : Hp B A114 w120 (obS (α := know_Article) 36 v18 x119 :: L) := hH121
          refine V_CHw (Dw := False) ?_
          refine CH_tail (Dw := False) ?_
          show V _ _ _ _ [] _ _
          obtain rfl := Option.some.inj ho28
          refine V_end (fun a ha126 => ?_)
          exact ⟨(v18, A114), ha126.sub ⟨rfl, trivial⟩, ⟨hH, hr30⟩⟩
        · rw [if_neg (nt hc38)] at ho28
          refine C_seq ?_
          refine C_region ?_
          refine V_y (Y_move rfl) rfl rfl rfl ?_
          refine V_y (Y_move rfl) rfl rfl rfl ?_
          obtain ⟨h127, _⟩ := El_know_Version h6
          refine V_y (Y_loadA h127 Tryz.isAgg24 Tryz.sizeOf24 rfl) rfl rfl rfl ?_
          refine V_buildSlice (Dw := False) (cells := #[.int .i64 v.at_, .string v.title, .string v.body]) (l := ([v] : List know_Version)) (len := 1) Tryz.underlying34 Tryz.sizeOf24 Tryz.zeroValue24 rfl (by kernel_rfl) (show (1 * 3 : Nat) ≠ 0 by decide) (show (1 * 3 : Nat) ≤ 2 ^ 24 by decide) hA ⟨[.int .i64 v.at_, .string v.title, .string v.body], _, rfl, ⟨[.int .i64 v.at_], _, rfl, rfl, ⟨[.string v.title], _, rfl, rfl, rfl⟩⟩, rfl⟩ rfl rfl ?_
          intro v128 w129 hk131 h130
          have ht132 := Kp.tr (Dw := False) hk131 hA hB
          replace hH := Hp.kp (Dw := False) hH hk131
          replace h_l := Sl.tr (Dw := False) h_l ht132
          replace h6 := El.tr (Dw := False) h6 ht132
          replace hK := Tr.trans (Dw := False) hK ht132
          replace hr30 := Tr.trans (Dw := False) hr30 ht132
          replace hB := Nat.le_trans hB ht132.ex.size
          replace hA := ht132.new
          refine V_y (Y_build (cells := #[.int .i64 id_, .int .i64 0, v128]) Tryz.underlying36 Tryz.zeroValue36 (Tryz_places36 _ Tryz.underlying36) rfl (by obtain ⟨a133, c134, e135, _⟩ := Sl.form h130; subst e135; with_unfolding_all rfl)) rfl rfl rfl ?_
          refine V_buildSlice (Dw := False) (cells := #[.int .i64 id_, .int .i64 0, v128]) (l := ([(⟨id_, 0, ([v] : List know_Version)⟩ : know_Article)] : List know_Article)) (len := 1) Tryz.underlying22 Tryz.sizeOf36 Tryz.zeroValue36 rfl (by obtain ⟨a140, c141, e142, _⟩ := Sl.form h130; subst e142; kernel_rfl) (show (1 * 3 : Nat) ≠ 0 by decide) (show (1 * 3 : Nat) ≤ 2 ^ 24 by decide) hA ⟨[.int .i64 id_, .int .i64 0, v128], _, rfl, ⟨[.int .i64 id_], _, rfl, rfl, ⟨[.int .i64 0], _, rfl, rfl, ⟨_, rfl, h130⟩⟩⟩, rfl⟩ rfl rfl ?_
          intro v136 w137 hk139 h138
          have ht143 := Kp.tr (Dw := False) hk139 hA hB
          replace hH := Hp.kp (Dw := False) hH hk139
          replace h_l := Sl.tr (Dw := False) h_l ht143
          replace h6 := El.tr (Dw := False) h6 ht143
          replace h130 := Sl.tr (Dw := False) h130 ht143
          replace hK := Tr.trans (Dw := False) hK ht143
          replace hr30 := Tr.trans (Dw := False) hr30 ht143
          replace hB := Nat.le_trans hB ht143.ex.size
          replace hA := ht143.new
          obtain ⟨x144, hx144, ho28⟩ := Option.bind_eq_some_iff.1 ho28
          refine V_appendH (Dw := False) (e := 36) (v := v18) (l := x17) (ti := Tryz.t36) (bytes := 40) (lim := 3518437208883) hH (i := 0) rfl h138 hx144 Tryz.underlying22 Tryz_info36 rfl rfl rfl rfl (by decide) (by decide) (by decide) hB hA rfl rfl rfl ?_
          intro v145 w146 A147 hH148 ht149
          replace h_l := Sl.tr (Dw := False) h_l ht149
          replace h6 := El.tr (Dw := False) h6 ht149
          replace h130 := Sl.tr (Dw := False) h130 ht149
          replace h138 := Sl.tr (Dw := False) h138 ht149
          replace hK := Tr.trans (Dw := False) hK ht149
          replace hr30 := Tr.trans (Dw := False) hr30 ht149
          replace hB := Nat.le_trans hB ht149.ex.size
          replace hA := ht149.new
          replace hH : Hp B A147 w146 (obS (α := know_Article) 36 v145 x144 :: L) := hH148
          refine V_y (Y_assign rfl) rfl rfl rfl ?_
          refine V_to (fun _ _ => rfl) ?_
          refine C_region ?_
          refine V_y (Y_move rfl) rfl rfl rfl ?_
          obtain ⟨x150, hx150, ho28⟩ := Option.bind_eq_some_iff.1 ho28
          refine V_call Tryz.call17 rfl rfl rfl rfl (Tryz_sf17 (Dw := False) Tryz.call18 (fun w156 ht157 h158 p160 q165 c161 c166 c170 h162 h167 h159 => by obtain ⟨v163, rfl, h164⟩ := Rep_know_Article h162; obtain ⟨v168, rfl, h169⟩ := Rep_know_Article h167; exact (portref2_PublishOf_1_c (Dw := True) w156 h158 p160 v163 h164 q165 v168 h169 h159).mono fun _ _ h => ⟨h.1, h.2⟩) hH (i := 0) rfl hB hA hx150) ?_
          rintro _ w151 ⟨rfl, hH152, ht153⟩
          replace hK := Tr.trans (Dw := False) hK ht153
          replace hr30 := Tr.trans (Dw := False) hr30 ht153
          replace hB := Nat.le_trans hB ht153.ex.size
          replace hA := ht153.new
          replace hH : Hp B A147 w151 (obS (α := know_Article) 36 v145 x150 :: L) := hH152
          obtain rfl := Option.some.inj ho28
          refine V_end (fun a ha171 => ?_)
          exact ⟨(v145, A147), ha171.sub ⟨rfl, trivial⟩, ⟨hH, hr30⟩⟩
      rintro ⟨v31, A36⟩ w33 ⟨hH37, hk34⟩ a ha35
      replace hK := Tr.trans (Dw := False) hK hk34
      replace hB := Nat.le_trans hB hk34.ex.size
      replace hA := hk34.new
      replace hH : Hp B A36 w33 (obS (α := know_Article) 36 v31 s29 :: L) := hH37
      refine C_at (n := ⟨58, [], none⟩) (fun _ _ => rfl) ?_ ha35
      refine C_seq ?_
      refine C_seq ?_
      refine C_region ?_
      refine V_y (Y_move rfl) rfl rfl rfl ?_
      obtain ⟨x172, hx172, hm⟩ := Option.bind_eq_some_iff.1 hm
      refine V_call Tryz.call15 rfl rfl rfl rfl (portref2_ArticlesFault_c w33 (A := fun _ => True) (fun _ _ => trivial) (Mx.top (Mx.tr (Dw := False) hT hK)) s29 v31 (Hp.any (α := know_Article) (e := 36) (v := v31) (l := s29) hH (i := 0) rfl) hx172) ?_
      rintro _ w173 ⟨rfl, hk174⟩
      have ht175 := Kp.tr (Dw := False) hk174 hA hB
      replace hH := Hp.kp (Dw := False) hH hk174
      replace hK := Tr.trans (Dw := False) hK ht175
      replace hB := Nat.le_trans hB ht175.ex.size
      replace hA := ht175.new
      refine V_y (Y_assign rfl) rfl rfl rfl ?_
      refine V_to (fun _ _ => rfl) ?_
      refine C_seq ?_
      refine C_region ?_
      refine V_y (Y_move rfl) rfl rfl rfl ?_
      refine V_y (Y_neq rfl rfl) rfl rfl rfl ?_
      refine V_to (fun _ _ => rfl) ?_
      refine C_cond rfl (fun hc176 => ?_) (fun hc176 => ?_)
      · rw [if_pos hc176] at hm
        refine C_seq ?_
        refine C_region ?_
        refine V_y (Y_move rfl) rfl rfl rfl ?_
        refine V_y (Y_assign rfl) rfl rfl rfl ?_
        refine V_y (Y_assign rfl) rfl rfl rfl ?_
        refine V_to (fun _ _ => rfl) ?_
        obtain rfl := Option.some.inj hm
        replace hH : Hp B A36 w173 (obS (α := know_Article) 36 (.slice none 0 0) ([] : (List know_Article)) :: obS (α := know_Article) 36 v31 s29 :: L) := Hp.addNil (α := know_Article) (e := 36) hH
        replace hH : Hp B A36 w173 (obS (α := know_Article) 36 (.slice none 0 0) ([] : (List know_Article)) :: L) := Hp.drop hH (i := 1) rfl
        refine C_ret ?_
        try simp only [↓inBlock_ret, ↓then_ret]
        exact retQ rfl (Res.two Tryz.results5 rfl rfl) ⟨.slice none 0 0, A36, rfl, hH, hK⟩
      · rw [if_neg (nt hc176)] at hm
        refine C_skip_to (fun _ _ => rfl) ?_
        refine C_seq ?_
        refine C_region ?_
        refine V_y (Y_move rfl) rfl rfl rfl ?_
        refine V_y (Y_assign rfl) rfl rfl rfl ?_
        refine V_y (Y_assign rfl) rfl rfl rfl ?_
        refine V_to (fun _ _ => rfl) ?_
        obtain rfl := Option.some.inj hm
        refine C_ret ?_
        try simp only [↓inBlock_ret, ↓then_ret]
        exact retQ rfl (Res.two Tryz.results5 rfl rfl) ⟨v31, A36, rfl, hH, hK⟩

set_option maxRecDepth 4000 in
set_option maxHeartbeats 4000000 in
theorem know_Revert_c (w : World) {A : Nat → Prop} (hA : ∀ b, w.heap.size ≤ b → A b) (hT : Mx Tryz.prog 0 A w) (l : (List know_Article)) (v_l : Value) (h_l : Sl A w v_l l) (id_ : Int) (number : Int) (m : Int) {r : ((List know_Article) × Int)} (hm : know_Revert l id_ number m = some r) : Ret Tryz.prog 6 #[v_l, .int .i64 id_, .int .i64 number, .int .i64 m] w fun v w' => ∃ s0, v = .tuple #[s0, .int .i64 r.2] ∧ Sl A w' s0 r.1 ∧ Kp Dw w w' := by
  unfold know_Revert at hm
  refine enter Tryz.func6 rfl Tryz.ntmps6 rfl ?_
  have hA0 := hA
  have hB := Nat.le_refl w.heap.size
  have hK : Tr Dw w.heap.size A w A w := Tr.refl (Dw := Dw) hA
  have hH : Hp w.heap.size A w [] := Hp.nil
  refine C_seq ?_
  refine C_region ?_
  refine V_y (Y_assign rfl) rfl rfl rfl ?_
  refine V_y (Y_assign rfl) rfl rfl rfl ?_
  refine V_to (fun _ _ => rfl) ?_
  refine C_seq ?_
  refine C_seq ?_
  refine C_region ?_
  refine V_y (Y_move rfl) rfl rfl rfl ?_
  obtain ⟨x3, hx3, hm⟩ := Option.bind_eq_some_iff.1 hm
  refine V_call Tryz.call9 rfl rfl rfl rfl (know_CheckArticles_c (Dw := Dw) w hA (Mx.tr (Dw := Dw) hT hK) l v_l h_l hx3) ?_
  rintro _ w4 ⟨rfl, hk5⟩
  have ht6 := Kp.tr (Dw := Dw) hk5 hA hB
  replace hH := Hp.kp (Dw := Dw) hH hk5
  replace h_l := Sl.tr (Dw := Dw) h_l ht6
  replace hK := Tr.trans (Dw := Dw) hK ht6
  replace hB := Nat.le_trans hB ht6.ex.size
  replace hA := ht6.new
  refine V_y (Y_assign rfl) rfl rfl rfl ?_
  refine V_to (fun _ _ => rfl) ?_
  refine C_seq ?_
  refine C_region ?_
  refine V_y (Y_move rfl) rfl rfl rfl ?_
  refine V_y (Y_neq rfl rfl) rfl rfl rfl ?_
  refine V_to (fun _ _ => rfl) ?_
  refine C_cond rfl (fun hc7 => ?_) (fun hc7 => ?_)
  · rw [if_pos hc7] at hm
    refine C_seq ?_
    refine C_region ?_
    refine V_y (Y_move rfl) rfl rfl rfl ?_
    refine V_y (Y_assign rfl) rfl rfl rfl ?_
    refine V_y (Y_assign rfl) rfl rfl rfl ?_
    refine V_to (fun _ _ => rfl) ?_
    obtain rfl := Option.some.inj hm
    refine C_ret ?_
    try simp only [↓inBlock_ret, ↓then_ret]
    exact retQ rfl (Res.two Tryz.results6 rfl rfl) ⟨.slice none 0 0, rfl, Sl.nil, hK.kp⟩
  · rw [if_neg (nt hc7)] at hm
    refine C_skip_to (fun _ _ => rfl) ?_
    refine C_seq ?_
    refine C_region ?_
    refine V_y (Y_move rfl) rfl rfl rfl ?_
    refine V_y (Y_move rfl) rfl rfl rfl ?_
    obtain ⟨x8, hx8, hm⟩ := Option.bind_eq_some_iff.1 hm
    refine V_call Tryz.call13 rfl rfl rfl rfl (know_find_c (Dw := Dw) w4 hA l v_l h_l id_ hx8) ?_
    rintro _ w9 ⟨rfl, hk10⟩
    have ht11 := Kp.tr (Dw := Dw) hk10 hA hB
    replace hH := Hp.kp (Dw := Dw) hH hk10
    replace h_l := Sl.tr (Dw := Dw) h_l ht11
    replace hK := Tr.trans (Dw := Dw) hK ht11
    replace hB := Nat.le_trans hB ht11.ex.size
    replace hA := ht11.new
    refine V_y (Y_move rfl) rfl rfl rfl ?_
    refine V_y (Y_extract rfl rfl) rfl rfl rfl ?_
    refine V_y (Y_extract rfl rfl) rfl rfl rfl ?_
    refine V_y (Y_assign rfl) rfl rfl rfl ?_
    refine V_y (Y_assign rfl) rfl rfl rfl ?_
    refine V_to (fun _ _ => rfl) ?_
    refine C_seq ?_
    refine C_seq ?_
    refine C_region ?_
    refine V_y (Y_move rfl) rfl rfl rfl ?_
    refine V_y (Y_not rfl) rfl rfl rfl ?_
    refine V_y (Y_move rfl) rfl rfl rfl ?_
    obtain ⟨s13, hs13, hm⟩ := Option.bind_eq_some_iff.1 hm
    refine V_cut 11 (fun _ : Unit => [(0, v_l), (1, .int .i64 id_), (2, .int .i64 number), (3, .int .i64 m), (11, .int .i64 x8.1), (38, .bool s13)]) (fun _ w' => w9 = w') ?_ ?_
    · simp only [List.take, List.drop]
      rcases Bool.eq_false_or_eq_true (!x8.2) with hc12 | hc12
      · rw [if_pos hc12] at hs13
        refine V_gn rfl rfl rfl hc12 rfl rfl rfl ?_
        refine V_gn rfl rfl rfl hc12 rfl rfl rfl ?_
        refine V_gn rfl rfl rfl hc12 rfl rfl rfl ?_
        refine V_gn rfl rfl rfl hc12 rfl rfl rfl ?_
        refine V_gn rfl rfl rfl hc12 rfl rfl rfl ?_
        refine V_gn rfl rfl rfl hc12 rfl rfl rfl ?_
        refine V_gn rfl rfl rfl hc12 rfl rfl rfl ?_
        refine V_gn rfl rfl rfl hc12 rfl rfl rfl ?_
        refine V_gn rfl rfl rfl hc12 rfl rfl rfl ?_
        refine V_gn rfl rfl rfl hc12 rfl rfl rfl ?_
        refine V_y (Y_pick_te rfl hc12 rfl) rfl rfl rfl ?_
        obtain rfl := Option.some.inj hs13
        exact V_end fun a ha => ⟨(), ha.sub ⟨rfl, rfl, rfl, rfl, rfl, rfl, trivial⟩, rfl⟩
      · rw [if_neg (nt hc12)] at hs13
        refine V_ge rfl rfl rfl hc12 ?_
        refine V_y (Y_move rfl) rfl rfl rfl ?_
        refine V_ge rfl rfl rfl hc12 ?_
        refine V_y (Y_move rfl) rfl rfl rfl ?_
        refine V_ge rfl rfl rfl hc12 ?_
        refine V_y (Y_move rfl) rfl rfl rfl ?_
        refine V_ge rfl rfl rfl hc12 ?_
        obtain ⟨x14, hx14, hs13⟩ := Option.bind_eq_some_iff.1 hs13
        refine V_indexAddr h_l hx14 Tryz.underlying22 Tryz.sizeOf36 rfl rfl rfl ?_
        intro b15 o16 h17
        refine V_ge rfl rfl rfl hc12 ?_
        have h18 := El_know_Article_2 h17
        refine V_y (Y_fieldAddr Tryz.underlying36 rfl Tryz.sizeOf34 (by decide) rfl) rfl rfl rfl ?_
        refine V_ge rfl rfl rfl hc12 ?_
        obtain ⟨v19, h20, h21⟩ := El.list h18
        refine V_y (Y_load h20 Tryz.isAgg34 rfl) rfl rfl rfl ?_
        refine V_ge rfl rfl rfl hc12 ?_
        refine V_y (Y_lenSl h21 rfl Tryz.underlying34 rfl) rfl rfl rfl ?_
        refine V_ge rfl rfl rfl hc12 ?_
        refine V_y (Y_subI rfl rfl) rfl rfl rfl ?_
        refine V_ge rfl rfl rfl hc12 ?_
        refine V_call Tryz.call10 rfl rfl rfl rfl (know_within_c w9 number 0 (w64 ((x14.versions.length : Int) - 1))) ?_
        rintro _ _ ⟨rfl, rfl⟩
        refine V_ge rfl rfl rfl hc12 ?_
        refine V_y (Y_not rfl) rfl rfl rfl ?_
        refine V_y (Y_pick_fe rfl hc12 rfl) rfl rfl rfl ?_
        obtain rfl := Option.some.inj hs13
        exact V_end fun a ha => ⟨(), ha.sub ⟨rfl, rfl, rfl, rfl, rfl, rfl, trivial⟩, rfl⟩
    simp only [List.take, List.drop]
    rintro _ _ rfl
    refine V_to (fun _ _ => rfl) ?_
    refine C_cond rfl (fun hc22 => ?_) (fun hc22 => ?_)
    · rw [if_pos hc22] at hm
      refine C_seq ?_
      refine C_region ?_
      refine V_y (Y_assign rfl) rfl rfl rfl ?_
      refine V_y (Y_assign rfl) rfl rfl rfl ?_
      refine V_to (fun _ _ => rfl) ?_
      obtain rfl := Option.some.inj hm
      refine C_ret ?_
      try simp only [↓inBlock_ret, ↓then_ret]
      exact retQ rfl (Res.two Tryz.results6 rfl rfl) ⟨.slice none 0 0, rfl, Sl.nil, hK.kp⟩
    · rw [if_neg (nt hc22)] at hm
      refine C_skip_to (fun _ _ => rfl) ?_
      refine C_seq ?_
      refine C_region ?_
      refine V_y (Y_move rfl) rfl rfl rfl ?_
      refine V_y (Y_move rfl) rfl rfl rfl ?_
      obtain ⟨x23, hx23, hm⟩ := Option.bind_eq_some_iff.1 hm
      refine V_indexAddr h_l hx23 Tryz.underlying22 Tryz.sizeOf36 rfl rfl rfl ?_
      intro b24 o25 h26
      have h27 := El_know_Article_2 h26
      refine V_y (Y_fieldAddr Tryz.underlying36 rfl Tryz.sizeOf34 (by decide) rfl) rfl rfl rfl ?_
      obtain ⟨v28, h29, h30⟩ := El.list h27
      refine V_y (Y_load h29 Tryz.isAgg34 rfl) rfl rfl rfl ?_
      refine V_y (Y_move rfl) rfl rfl rfl ?_
      obtain ⟨x31, hx31, hm⟩ := Option.bind_eq_some_iff.1 hm
      refine V_indexAddr h30 hx31 Tryz.underlying34 Tryz.sizeOf24 rfl rfl rfl ?_
      intro b32 o33 h34
      obtain ⟨h35, _⟩ := El_know_Version h34
      refine V_y (Y_loadA h35 Tryz.isAgg24 Tryz.sizeOf24 rfl) rfl rfl rfl ?_
      refine V_allocH (Dw := Dw) (B := w.heap.size) hH Tryz.zeroValue24 hB hA rfl ?_
      intro b36 w37 A38 hH39 ht40
      replace h_l := Sl.tr (Dw := Dw) h_l ht40
      replace h26 := El.tr (Dw := Dw) h26 ht40
      replace h27 := El.tr (Dw := Dw) h27 ht40
      replace h30 := Sl.tr (Dw := Dw) h30 ht40
      replace h34 := El.tr (Dw := Dw) h34 ht40
      replace hK := Tr.trans (Dw := Dw) hK ht40
      replace hB := Nat.le_trans hB ht40.ex.size
      replace hA := ht40.new
      replace hH : Hp w.heap.size A38 w37 (obC b36 [.int .i64 0, .string ByteArray.empty, .string ByteArray.empty] 24 :: []) := hH39
      refine V_storeC (Dw := Dw) (off := 0) (ds := [.int .i64 x31.at_, .string x31.title, .string x31.body]) hH (i := 0) rfl Tryz.sizeOf24 rfl (Nat.le_of_ble_eq_true rfl) (by simp [Value.cells, Value.oneCell']) rfl hB hA rfl rfl ?_
      intro w41 hH42 ht43
      replace h_l := Sl.tr (Dw := Dw) h_l ht43
      replace h26 := El.tr (Dw := Dw) h26 ht43
      replace h27 := El.tr (Dw := Dw) h27 ht43
      replace h30 := Sl.tr (Dw := Dw) h30 ht43
      replace h34 := El.tr (Dw := Dw) h34 ht43
      replace hK := Tr.trans (Dw := Dw) hK ht43
      replace hB := Nat.le_trans hB ht43.ex.size
      replace hA := ht43.new
      replace hH : Hp w.heap.size A38 w41 (obC b36 [.int .i64 x31.at_, .string x31.title, .string x31.body] 24 :: []) := hH42
      refine V_to (fun _ _ => rfl) ?_
      refine C_seq ?_
      refine C_region ?_
      refine V_y (Y_move rfl) rfl rfl rfl ?_
      refine V_y (Y_fieldAddrC (off2 := 0) Tryz.underlying24 rfl Tryz.sizeOf3 (by decide) rfl rfl) rfl rfl rfl ?_
      refine V_storeC (Dw := Dw) (off := 0) (ds := [.int .i64 m, .string x31.title, .string x31.body]) hH (i := 0) rfl Tryz.sizeOf3 rfl (Nat.le_of_ble_eq_true rfl) (by simp [Value.cells, Value.oneCell']) rfl hB hA rfl rfl ?_
      intro w44 hH45 ht46
      replace h_l := Sl.tr (Dw := Dw) h_l ht46
      replace hK := Tr.trans (Dw := Dw) hK ht46
      replace hB := Nat.le_trans hB ht46.ex.size
      replace hA := ht46.new
      replace hH : Hp w.heap.size A38 w44 (obC b36 [.int .i64 m, .string x31.title, .string x31.body] 24 :: []) := hH45
      refine V_to (fun _ _ => rfl) ?_
      refine C_seq ?_
      refine C_region ?_
      refine V_y (Y_move rfl) rfl rfl rfl ?_
      refine V_y (Y_move rfl) rfl rfl rfl ?_
      refine V_y (Y_loadA (Hp.part (off := 0) (n := 3) (ds := [.int .i64 m, .string x31.title, .string x31.body]) hH (i := 0) rfl rfl) Tryz.isAgg24 Tryz.sizeOf24 rfl) rfl rfl rfl ?_
      obtain ⟨x47, hx47, hm⟩ := Option.bind_eq_some_iff.1 hm
      refine V_call Tryz.call4 rfl rfl rfl rfl (know_Publish_c (Dw := Dw) w44 hA (Mx.tr (Dw := Dw) hT hK) l v_l h_l id_ (⟨m, x31.title, x31.body⟩ : know_Version) hx47) ?_
      rintro _ w50 ⟨v48, rfl, h49, hk51⟩
      have ht52 := Kp.tr (Dw := Dw) hk51 hA hB
      replace hH := Hp.kp (Dw := Dw) hH hk51
      replace h_l := Sl.tr (Dw := Dw) h_l ht52
      replace hK := Tr.trans (Dw := Dw) hK ht52
      replace hB := Nat.le_trans hB ht52.ex.size
      replace hA := ht52.new
      refine V_y (Y_extract rfl rfl) rfl rfl rfl ?_
      refine V_y (Y_extract rfl rfl) rfl rfl rfl ?_
      refine V_y (Y_assign rfl) rfl rfl rfl ?_
      refine V_y (Y_assign rfl) rfl rfl rfl ?_
      refine V_to (fun _ _ => rfl) ?_
      obtain rfl := Option.some.inj hm
      refine C_ret ?_
      try simp only [↓inBlock_ret, ↓then_ret]
      exact retQ rfl (Res.two Tryz.results6 rfl rfl) ⟨v48, rfl, (Sl.out (Dw := Dw) h49 hA0 hK), hK.kp⟩

set_option maxRecDepth 4000 in
set_option maxHeartbeats 4000000 in
theorem portref2_RevertOf_c (w : World) {A : Nat → Prop} {B : Nat} (hB : B ≤ w.heap.size) (hA : ∀ b, w.heap.size ≤ b → A b) (hT : Mx Tryz.prog 0 A w) (l : (List know_Article)) (v_l : Value) (h_l : Sl A w v_l l) (id_ : Int) (number : Int) (m : Int) {L : List Ob} (hH : Hp B A w (L)) {r : ((List know_Article) × Int)} (hm : portref2_RevertOf l id_ number m = some r) : Ret Tryz.prog 7 #[v_l, .int .i64 id_, .int .i64 number, .int .i64 m] w fun v w' => ∃ s0, ∃ A1 : Nat → Prop, v = .tuple #[s0, .int .i64 r.2] ∧ Hp B A1 w' (obS (α := know_Article) 36 s0 r.1 :: L) ∧ Tr False B A w A1 w' := by
  unfold portref2_RevertOf at hm
  refine enter Tryz.func7 rfl Tryz.ntmps7 rfl ?_
  have hK : Tr False B A w A w := Tr.refl (Dw := False) hA
  refine C_seq ?_
  refine C_region ?_
  refine V_y (Y_assign rfl) rfl rfl rfl ?_
  refine V_y (Y_assign rfl) rfl rfl rfl ?_
  refine V_to (fun _ _ => rfl) ?_
  refine C_seq ?_
  refine C_seq ?_
  refine C_region ?_
  refine V_y (Y_move rfl) rfl rfl rfl ?_
  obtain ⟨x3, hx3, hm⟩ := Option.bind_eq_some_iff.1 hm
  refine V_call Tryz.call15 rfl rfl rfl rfl (portref2_ArticlesFault_c w hA (Mx.tr (Dw := False) hT hK) l v_l h_l hx3) ?_
  rintro _ w4 ⟨rfl, hk5⟩
  have ht6 := Kp.tr (Dw := False) hk5 hA hB
  replace hH := Hp.kp (Dw := False) hH hk5
  replace h_l := Sl.tr (Dw := False) h_l ht6
  replace hK := Tr.trans (Dw := False) hK ht6
  replace hB := Nat.le_trans hB ht6.ex.size
  replace hA := ht6.new
  refine V_y (Y_assign rfl) rfl rfl rfl ?_
  refine V_to (fun _ _ => rfl) ?_
  refine C_seq ?_
  refine C_region ?_
  refine V_y (Y_move rfl) rfl rfl rfl ?_
  refine V_y (Y_neq rfl rfl) rfl rfl rfl ?_
  refine V_to (fun _ _ => rfl) ?_
  refine C_cond rfl (fun hc7 => ?_) (fun hc7 => ?_)
  · rw [if_pos hc7] at hm
    refine C_seq ?_
    refine C_region ?_
    refine V_y (Y_move rfl) rfl rfl rfl ?_
    refine V_y (Y_assign rfl) rfl rfl rfl ?_
    refine V_y (Y_assign rfl) rfl rfl rfl ?_
    refine V_to (fun _ _ => rfl) ?_
    obtain rfl := Option.some.inj hm
    replace hH : Hp B A w4 (obS (α := know_Article) 36 (.slice none 0 0) ([] : (List know_Article)) :: L) := Hp.addNil (α := know_Article) (e := 36) hH
    refine C_ret ?_
    try simp only [↓inBlock_ret, ↓then_ret]
    exact retQ rfl (Res.two Tryz.results7 rfl rfl) ⟨.slice none 0 0, A, rfl, hH, hK⟩
  · rw [if_neg (nt hc7)] at hm
    refine C_skip_to (fun _ _ => rfl) ?_
    refine C_seq ?_
    refine C_region ?_
    refine V_y (Y_move rfl) rfl rfl rfl ?_
    refine V_y (Y_move rfl) rfl rfl rfl ?_
    obtain ⟨x8, hx8, hm⟩ := Option.bind_eq_some_iff.1 hm
    refine V_call Tryz.call16 rfl rfl rfl rfl (portref2_articleAt_c (Dw := False) w4 hA l v_l h_l id_ hx8) ?_
    rintro _ w9 ⟨rfl, hk10⟩
    have ht11 := Kp.tr (Dw := False) hk10 hA hB
    replace hH := Hp.kp (Dw := False) hH hk10
    replace h_l := Sl.tr (Dw := False) h_l ht11
    replace hK := Tr.trans (Dw := False) hK ht11
    replace hB := Nat.le_trans hB ht11.ex.size
    replace hA := ht11.new
    refine V_y (Y_assign rfl) rfl rfl rfl ?_
    refine V_to (fun _ _ => rfl) ?_
    refine C_seq ?_
    refine C_seq ?_
    refine C_region ?_
    refine V_y (Y_move rfl) rfl rfl rfl ?_
    refine V_y (Y_lss rfl rfl) rfl rfl rfl ?_
    refine V_y (Y_move rfl) rfl rfl rfl ?_
    refine V_cut 3 (fun _ : Unit => [(0, v_l), (1, .int .i64 id_), (2, .int .i64 number), (3, .int .i64 m), (11, .int .i64 x8), (26, .bool ((decide (x8 < 0)) || (decide (number < 0))))]) (fun _ w' => w9 = w') ?_ ?_
    · simp only [List.take, List.drop]
      rcases Bool.eq_false_or_eq_true (decide (x8 < 0)) with hc12 | hc12
      · refine V_gn rfl rfl rfl hc12 rfl rfl rfl ?_
        refine V_gn rfl rfl rfl hc12 rfl rfl rfl ?_
        refine V_y (Y_pick_te rfl hc12 rfl) rfl rfl rfl ?_
        exact V_end fun a ha => ⟨(), ha.sub ⟨rfl, rfl, rfl, rfl, rfl, (by rw [hc12]; rfl), trivial⟩, rfl⟩
      · refine V_ge rfl rfl rfl hc12 ?_
        refine V_y (Y_move rfl) rfl rfl rfl ?_
        refine V_ge rfl rfl rfl hc12 ?_
        refine V_y (Y_lss rfl rfl) rfl rfl rfl ?_
        refine V_y (Y_pick_fe rfl hc12 rfl) rfl rfl rfl ?_
        exact V_end fun a ha => ⟨(), ha.sub ⟨rfl, rfl, rfl, rfl, rfl, (by rw [hc12]; rfl), trivial⟩, rfl⟩
    simp only [List.take, List.drop]
    rintro _ _ rfl
    refine V_y (Y_move rfl) rfl rfl rfl ?_
    obtain ⟨s15, hs15, hm⟩ := Option.bind_eq_some_iff.1 hm
    refine V_cut 9 (fun _ : Unit => [(0, v_l), (1, .int .i64 id_), (2, .int .i64 number), (3, .int .i64 m), (11, .int .i64 x8), (36, .bool s15)]) (fun _ w' => w9 = w') ?_ ?_
    · simp only [List.take, List.drop]
      rcases Bool.eq_false_or_eq_true (((decide (x8 < 0)) || (decide (number < 0)))) with hc14 | hc14
      · rw [if_pos hc14] at hs15
        refine V_gn rfl rfl rfl hc14 rfl rfl rfl ?_
        refine V_gn rfl rfl rfl hc14 rfl rfl rfl ?_
        refine V_gn rfl rfl rfl hc14 rfl rfl rfl ?_
        refine V_gn rfl rfl rfl hc14 rfl rfl rfl ?_
        refine V_gn rfl rfl rfl hc14 rfl rfl rfl ?_
        refine V_gn rfl rfl rfl hc14 rfl rfl rfl ?_
        refine V_gn rfl rfl rfl hc14 rfl rfl rfl ?_
        refine V_gn rfl rfl rfl hc14 rfl rfl rfl ?_
        refine V_y (Y_pick_te rfl hc14 rfl) rfl rfl rfl ?_
        obtain rfl := Option.some.inj hs15
        exact V_end fun a ha => ⟨(), ha.sub ⟨rfl, rfl, rfl, rfl, rfl, rfl, trivial⟩, rfl⟩
      · rw [if_neg (nt hc14)] at hs15
        refine V_ge rfl rfl rfl hc14 ?_
        refine V_y (Y_move rfl) rfl rfl rfl ?_
        refine V_ge rfl rfl rfl hc14 ?_
        refine V_y (Y_move rfl) rfl rfl rfl ?_
        refine V_ge rfl rfl rfl hc14 ?_
        refine V_y (Y_move rfl) rfl rfl rfl ?_
        refine V_ge rfl rfl rfl hc14 ?_
        obtain ⟨x16, hx16, hs15⟩ := Option.bind_eq_some_iff.1 hs15
        refine V_indexAddr h_l hx16 Tryz.underlying22 Tryz.sizeOf36 rfl rfl rfl ?_
        intro b17 o18 h19
        refine V_ge rfl rfl rfl hc14 ?_
        have h20 := El_know_Article_2 h19
        refine V_y (Y_fieldAddr Tryz.underlying36 rfl Tryz.sizeOf34 (by decide) rfl) rfl rfl rfl ?_
        refine V_ge rfl rfl rfl hc14 ?_
        obtain ⟨v21, h22, h23⟩ := El.list h20
        refine V_y (Y_load h22 Tryz.isAgg34 rfl) rfl rfl rfl ?_
        refine V_ge rfl rfl rfl hc14 ?_
        refine V_y (Y_lenSl h23 rfl Tryz.underlying34 rfl) rfl rfl rfl ?_
        refine V_ge rfl rfl rfl hc14 ?_
        refine V_y (Y_geq rfl rfl) rfl rfl rfl ?_
        refine V_y (Y_pick_fe rfl hc14 rfl) rfl rfl rfl ?_
        obtain rfl := Option.some.inj hs15
        exact V_end fun a ha => ⟨(), ha.sub ⟨rfl, rfl, rfl, rfl, rfl, rfl, trivial⟩, rfl⟩
    simp only [List.take, List.drop]
    rintro _ _ rfl
    refine V_to (fun _ _ => rfl) ?_
    refine C_cond rfl (fun hc24 => ?_) (fun hc24 => ?_)
    · rw [if_pos hc24] at hm
      refine C_seq ?_
      refine C_region ?_
      refine V_y (Y_assign rfl) rfl rfl rfl ?_
      refine V_y (Y_assign rfl) rfl rfl rfl ?_
      refine V_to (fun _ _ => rfl) ?_
      obtain rfl := Option.some.inj hm
      replace hH : Hp B A w9 (obS (α := know_Article) 36 (.slice none 0 0) ([] : (List know_Article)) :: L) := Hp.addNil (α := know_Article) (e := 36) hH
      refine C_ret ?_
      try simp only [↓inBlock_ret, ↓then_ret]
      exact retQ rfl (Res.two Tryz.results7 rfl rfl) ⟨.slice none 0 0, A, rfl, hH, hK⟩
    · rw [if_neg (nt hc24)] at hm
      refine C_skip_to (fun _ _ => rfl) ?_
      refine C_seq ?_
      refine C_region ?_
      refine V_y (Y_move rfl) rfl rfl rfl ?_
      refine V_y (Y_move rfl) rfl rfl rfl ?_
      obtain ⟨x25, hx25, hm⟩ := Option.bind_eq_some_iff.1 hm
      refine V_indexAddr h_l hx25 Tryz.underlying22 Tryz.sizeOf36 rfl rfl rfl ?_
      intro b26 o27 h28
      have h29 := El_know_Article_2 h28
      refine V_y (Y_fieldAddr Tryz.underlying36 rfl Tryz.sizeOf34 (by decide) rfl) rfl rfl rfl ?_
      obtain ⟨v30, h31, h32⟩ := El.list h29
      refine V_y (Y_load h31 Tryz.isAgg34 rfl) rfl rfl rfl ?_
      refine V_y (Y_move rfl) rfl rfl rfl ?_
      obtain ⟨x33, hx33, hm⟩ := Option.bind_eq_some_iff.1 hm
      refine V_indexAddr h32 hx33 Tryz.underlying34 Tryz.sizeOf24 rfl rfl rfl ?_
      intro b34 o35 h36
      obtain ⟨h37, _⟩ := El_know_Version h36
      refine V_y (Y_loadA h37 Tryz.isAgg24 Tryz.sizeOf24 rfl) rfl rfl rfl ?_
      refine V_allocH (Dw := False) (B := B) hH Tryz.zeroValue24 hB hA rfl ?_
      intro b38 w39 A40 hH41 ht42
      replace h_l := Sl.tr (Dw := False) h_l ht42
      replace h28 := El.tr (Dw := False) h28 ht42
      replace h29 := El.tr (Dw := False) h29 ht42
      replace h32 := Sl.tr (Dw := False) h32 ht42
      replace h36 := El.tr (Dw := False) h36 ht42
      replace hK := Tr.trans (Dw := False) hK ht42
      replace hB := Nat.le_trans hB ht42.ex.size
      replace hA := ht42.new
      replace hH : Hp B A40 w39 (obC b38 [.int .i64 0, .string ByteArray.empty, .string ByteArray.empty] 24 :: L) := hH41
      refine V_storeC (Dw := False) (off := 0) (ds := [.int .i64 x33.at_, .string x33.title, .string x33.body]) hH (i := 0) rfl Tryz.sizeOf24 rfl (Nat.le_of_ble_eq_true rfl) (by simp [Value.cells, Value.oneCell']) rfl hB hA rfl rfl ?_
      intro w43 hH44 ht45
      replace h_l := Sl.tr (Dw := False) h_l ht45
      replace h28 := El.tr (Dw := False) h28 ht45
      replace h29 := El.tr (Dw := False) h29 ht45
      replace h32 := Sl.tr (Dw := False) h32 ht45
      replace h36 := El.tr (Dw := False) h36 ht45
      replace hK := Tr.trans (Dw := False) hK ht45
      replace hB := Nat.le_trans hB ht45.ex.size
      replace hA := ht45.new
      replace hH : Hp B A40 w43 (obC b38 [.int .i64 x33.at_, .string x33.title, .string x33.body] 24 :: L) := hH44
      refine V_to (fun _ _ => rfl) ?_
      refine C_seq ?_
      refine C_region ?_
      refine V_y (Y_move rfl) rfl rfl rfl ?_
      refine V_y (Y_fieldAddrC (off2 := 0) Tryz.underlying24 rfl Tryz.sizeOf3 (by decide) rfl rfl) rfl rfl rfl ?_
      refine V_storeC (Dw := False) (off := 0) (ds := [.int .i64 m, .string x33.title, .string x33.body]) hH (i := 0) rfl Tryz.sizeOf3 rfl (Nat.le_of_ble_eq_true rfl) (by simp [Value.cells, Value.oneCell']) rfl hB hA rfl rfl ?_
      intro w46 hH47 ht48
      replace h_l := Sl.tr (Dw := False) h_l ht48
      replace hK := Tr.trans (Dw := False) hK ht48
      replace hB := Nat.le_trans hB ht48.ex.size
      replace hA := ht48.new
      replace hH : Hp B A40 w46 (obC b38 [.int .i64 m, .string x33.title, .string x33.body] 24 :: L) := hH47
      refine V_to (fun _ _ => rfl) ?_
      refine C_seq ?_
      refine C_region ?_
      refine V_y (Y_move rfl) rfl rfl rfl ?_
      refine V_y (Y_move rfl) rfl rfl rfl ?_
      refine V_y (Y_loadA (Hp.part (off := 0) (n := 3) (ds := [.int .i64 m, .string x33.title, .string x33.body]) hH (i := 0) rfl rfl) Tryz.isAgg24 Tryz.sizeOf24 rfl) rfl rfl rfl ?_
      obtain ⟨x49, hx49, hm⟩ := Option.bind_eq_some_iff.1 hm
      refine V_call Tryz.call5 rfl rfl rfl rfl (portref2_PublishOf_c w46 hB hA (Mx.tr (Dw := False) hT hK) l v_l h_l id_ (⟨m, x33.title, x33.body⟩ : know_Version) hH hx49) ?_
      rintro _ w52 ⟨v50, A53, rfl, hH54, ht55⟩
      replace h_l := Sl.tr (Dw := False) h_l ht55
      replace hK := Tr.trans (Dw := False) hK ht55
      replace hB := Nat.le_trans hB ht55.ex.size
      replace hA := ht55.new
      replace hH : Hp B A53 w52 (obS (α := know_Article) 36 v50 x49.1 :: obC b38 [.int .i64 m, .string x33.title, .string x33.body] 24 :: L) := hH54
      refine V_y (Y_extract rfl rfl) rfl rfl rfl ?_
      refine V_y (Y_extract rfl rfl) rfl rfl rfl ?_
      refine V_y (Y_assign rfl) rfl rfl rfl ?_
      refine V_y (Y_assign rfl) rfl rfl rfl ?_
      refine V_to (fun _ _ => rfl) ?_
      obtain rfl := Option.some.inj hm
      replace hH : Hp B A53 w52 (obS (α := know_Article) 36 v50 x49.1 :: L) := Hp.drop hH (i := 1) rfl
      refine C_ret ?_
      try simp only [↓inBlock_ret, ↓then_ret]
      exact retQ rfl (Res.two Tryz.results7 rfl rfl) ⟨v50, A53, rfl, hH, hK⟩

set_option maxRecDepth 4000 in
set_option maxHeartbeats 4000000 in
theorem slices_EqualFunc_Lknow_Article_Lknow_Article_know_Article_know_Article_c (w : World) {A : Nat → Prop} (hA : ∀ b, w.heap.size ≤ b → A b) (s1 : (List know_Article)) (v_s1 : Value) (h_s1 : Sl A w v_s1 s1) (s2 : (List know_Article)) (v_s2 : Value) (h_s2 : Sl A w v_s2 s2) (eq : know_Article → know_Article → Option Bool) (eq_f : FuncId) (eq_a eq_c : Array Value) (eq_call : ∀ (args : Array Value) (w : World), (callFunc eq_f args).run Tryz.prog w = .ok (.enter eq_f args) w) (eq_spec : ∀ (w1 : World) (A1 : Nat → Prop), Tr Dw w.heap.size A w A1 w1 → (∀ b, w1.heap.size ≤ b → A1 b) → ∀ (y0 : know_Article) (v1 : Value) (h2 : Sl A1 w1 v1 y0.versions) (y1 : know_Article) (v3 : Value) (h4 : Sl A1 w1 v3 y1.versions) (r : Bool), eq y0 y1 = some r → Ret Tryz.prog eq_f (eq_a ++ #[.agg #[.int .i64 y0.id_, .int .i64 y0.group, v1], .agg #[.int .i64 y1.id_, .int .i64 y1.group, v3]] ++ eq_c) w1 fun v w' => v = .bool r ∧ Kp Dw w1 w') {r : Bool} (hm : slices_EqualFunc_Lknow_Article_Lknow_Article_know_Article_know_Article s1 s2 eq = some r) : Ret Tryz.prog 24 #[v_s1, v_s2, .func (.func eq_f) eq_a eq_c] w fun v w' => v = .bool r ∧ Kp Dw w w' := by
  unfold slices_EqualFunc_Lknow_Article_Lknow_Article_know_Article_know_Article at hm
  refine enter Tryz.func24 rfl Tryz.ntmps24 rfl ?_
  have hA0 := hA
  have hB := Nat.le_refl w.heap.size
  have hK : Tr Dw w.heap.size A w A w := Tr.refl (Dw := Dw) hA
  have hH : Hp w.heap.size A w [] := Hp.nil
  refine C_seq ?_
  refine C_region ?_
  refine V_y (Y_assign rfl) rfl rfl rfl ?_
  refine V_to (fun _ _ => rfl) ?_
  refine C_seq ?_
  refine C_seq ?_
  refine C_region ?_
  refine V_y (Y_move rfl) rfl rfl rfl ?_
  refine V_y (Y_lenSl h_s1 rfl Tryz.underlying22 rfl) rfl rfl rfl ?_
  refine V_y (Y_move rfl) rfl rfl rfl ?_
  refine V_y (Y_lenSl h_s2 rfl Tryz.underlying22 rfl) rfl rfl rfl ?_
  refine V_y (Y_neq rfl rfl) rfl rfl rfl ?_
  refine V_to (fun _ _ => rfl) ?_
  refine C_cond rfl (fun hc5 => ?_) (fun hc5 => ?_)
  · rw [if_pos hc5] at hm
    refine C_seq ?_
    refine C_region ?_
    refine V_y (Y_assign rfl) rfl rfl rfl ?_
    refine V_to (fun _ _ => rfl) ?_
    obtain rfl := Option.some.inj hm
    refine C_ret ?_
    try simp only [↓inBlock_ret, ↓then_ret]
    exact retQ rfl (Res.one Tryz.results24 rfl) ⟨rfl, hK.kp⟩
  · rw [if_neg (nt hc5)] at hm
    refine C_skip_to (fun _ _ => rfl) ?_
    refine C_seq ?_
    refine C_seq ?_
    refine C_region ?_
    refine V_y (Y_move rfl) rfl rfl rfl ?_
    refine V_y (Y_lenSl h_s1 rfl Tryz.underlying22 rfl) rfl rfl rfl ?_
    refine V_y (Y_move rfl) rfl rfl rfl ?_
    refine V_to (fun _ _ => rfl) ?_
    have hn27 := Sl.le h_s1
    obtain ⟨o6, ho6, hm⟩ := Option.bind_eq_some_iff.1 hm
    refine C_cutG (ι := (Unit × (Nat → Prop))) (fun ⟨s7, A13⟩ => []) (fun ⟨s7, A13⟩ => fun w' => o6 = .fin s7 ∧ Hp w.heap.size A13 w' ([]) ∧ Tr Dw w.heap.size A w A13 w') ?_ ?_
    · refine C_block ?_
      refine C_range ho6 (fun k9 _ a w' => ∃ i : (Nat → Prop), Has ⟨32, [], none⟩ a ([(1, v_s2), (2, .func (.func eq_f) eq_a eq_c), (15, v_s1), (16, .int .i64 (s1.length : Int)), (17, .int .i64 (k9 : Int))]) ∧ Hp w.heap.size i w' ([]) ∧ Tr Dw w.heap.size A w i w') (fun a ha => ⟨A, ha.sub ⟨rfl, rfl, rfl, rfl, rfl, trivial⟩, ⟨hH, Tr.refl (Dw := Dw) hA⟩⟩) ?_
      rintro K k9 _ a w17 ⟨A18, ha78, hH19, hr8⟩ hle23 K26 h25
      refine C_of ?_ ha78
      replace h_s2 := Sl.tr (Dw := Dw) h_s2 hr8
      replace h_s1 := Sl.tr (Dw := Dw) h_s1 hr8
      replace hK := Tr.trans (Dw := Dw) hK hr8
      replace hB := Nat.le_trans hB hr8.ex.size
      replace hA := hr8.new
      replace hH : Hp w.heap.size A18 w17 ([]) := hH19
      refine C_seq (C_region (V_y (Y_lss rfl rfl) rfl rfl rfl (V_to (fun _ _ => rfl) ?_)))
      refine C_seq ?_
      refine C_cond rfl (fun hc28 => ?_) (fun hc28 => ?_)
      · have hlt24 := lt_of_dec hc28
        obtain ⟨x20, h21, h22⟩ := K26 hlt24
        refine C_skip_to (fun _ _ => rfl) ?_
        refine C_seq ?_
        refine C_block ?_
        refine C_seq ?_
        refine C_region ?_
        refine V_y (Y_move rfl) rfl rfl rfl ?_
        obtain ⟨x29, hx29, h21⟩ := Option.bind_eq_some_iff.1 h21
        refine V_indexAddr h_s1 hx29 Tryz.underlying22 Tryz.sizeOf36 rfl rfl rfl ?_
        intro b30 o31 h32
        obtain ⟨v33, h35, h34⟩ := El_know_Article h32
        refine V_y (Y_loadA h35 Tryz.isAgg36 Tryz.sizeOf36 rfl) rfl rfl rfl ?_
        refine V_alloc Tryz.zeroValue36 rfl ?_
        intro b36 w37 h38
        refine V_y (Y_assign rfl) rfl rfl rfl ?_
        have h43 : (v33).oneCell' = true := by obtain ⟨_, _, e, _⟩ := Sl.form h34; rw [e]; rfl
        refine V_storeNew h38 Tryz.sizeOf36 rfl rfl rfl rfl (by exact (List.forall_mem_cons.2 ⟨rfl, (List.forall_mem_cons.2 ⟨rfl, (List.forall_mem_cons.2 ⟨h43, (fun _ h => nomatch h)⟩)⟩)⟩)) ?_
        intro w39 h40
        have hk45 := h40.kp (Dw := Dw)
        have h44 : El (α := know_Article) A18 w39 b36 0 x29 := h40.el hA ⟨[.int .i64 x29.id_], _, rfl, rfl, ⟨[.int .i64 x29.group], _, rfl, rfl, ⟨_, rfl, h34⟩⟩⟩
        have ht46 := Kp.tr (Dw := Dw) hk45 hA hB
        replace hH := Hp.kp (Dw := Dw) hH hk45
        replace h_s2 := Sl.tr (Dw := Dw) h_s2 ht46
        replace h_s1 := Sl.tr (Dw := Dw) h_s1 ht46
        replace h32 := El.tr (Dw := Dw) h32 ht46
        replace h34 := Sl.tr (Dw := Dw) h34 ht46
        replace hK := Tr.trans (Dw := Dw) hK ht46
        replace hr8 := Tr.trans (Dw := Dw) hr8 ht46
        replace hB := Nat.le_trans hB ht46.ex.size
        replace hA := ht46.new
        refine V_to (fun _ _ => rfl) ?_
        refine C_seq ?_
        refine C_region ?_
        refine V_y (Y_move rfl) rfl rfl rfl ?_
        refine V_y (Y_move rfl) rfl rfl rfl ?_
        obtain ⟨x47, hx47, h21⟩ := Option.bind_eq_some_iff.1 h21
        refine V_indexAddr h_s2 hx47 Tryz.underlying22 Tryz.sizeOf36 rfl rfl rfl ?_
        intro b48 o49 h50
        obtain ⟨v51, h53, h52⟩ := El_know_Article h50
        refine V_y (Y_loadA h53 Tryz.isAgg36 Tryz.sizeOf36 rfl) rfl rfl rfl ?_
        refine V_alloc Tryz.zeroValue36 rfl ?_
        intro b54 w55 h56
        have h61 : (v51).oneCell' = true := by obtain ⟨_, _, e, _⟩ := Sl.form h52; rw [e]; rfl
        refine V_storeNew h56 Tryz.sizeOf36 rfl rfl rfl rfl (by exact (List.forall_mem_cons.2 ⟨rfl, (List.forall_mem_cons.2 ⟨rfl, (List.forall_mem_cons.2 ⟨h61, (fun _ h => nomatch h)⟩)⟩)⟩)) ?_
        intro w57 h58
        have hk63 := h58.kp (Dw := Dw)
        have h62 : El (α := know_Article) A18 w57 b54 0 x47 := h58.el hA ⟨[.int .i64 x47.id_], _, rfl, rfl, ⟨[.int .i64 x47.group], _, rfl, rfl, ⟨_, rfl, h52⟩⟩⟩
        have ht64 := Kp.tr (Dw := Dw) hk63 hA hB
        replace hH := Hp.kp (Dw := Dw) hH hk63
        replace h_s2 := Sl.tr (Dw := Dw) h_s2 ht64
        replace h_s1 := Sl.tr (Dw := Dw) h_s1 ht64
        replace h44 := El.tr (Dw := Dw) h44 ht64
        replace h50 := El.tr (Dw := Dw) h50 ht64
        replace h52 := Sl.tr (Dw := Dw) h52 ht64
        replace hK := Tr.trans (Dw := Dw) hK ht64
        replace hr8 := Tr.trans (Dw := Dw) hr8 ht64
        replace hB := Nat.le_trans hB ht64.ex.size
        replace hA := ht64.new
        refine V_to (fun _ _ => rfl) ?_
        refine C_seq ?_
        refine C_region ?_
        refine V_y (Y_move rfl) rfl rfl rfl ?_
        obtain ⟨v65, h67, h66⟩ := El_know_Article h44
        refine V_y (Y_loadA h67 Tryz.isAgg36 Tryz.sizeOf36 rfl) rfl rfl rfl ?_
        obtain ⟨v68, h70, h69⟩ := El_know_Article h62
        refine V_y (Y_loadA h70 Tryz.isAgg36 Tryz.sizeOf36 rfl) rfl rfl rfl ?_
        obtain ⟨x71, hx71, h21⟩ := Option.bind_eq_some_iff.1 h21
        refine V_call eq_call rfl rfl rfl rfl (eq_spec w57 _ hK hA x29 v65 h66 x47 v68 h69 _ hx71) ?_
        rintro _ w72 ⟨rfl, hk73⟩
        have ht74 := Kp.tr (Dw := Dw) hk73 hA hB
        replace hH := Hp.kp (Dw := Dw) hH hk73
        replace h_s2 := Sl.tr (Dw := Dw) h_s2 ht74
        replace h_s1 := Sl.tr (Dw := Dw) h_s1 ht74
        replace h44 := El.tr (Dw := Dw) h44 ht74
        replace h62 := El.tr (Dw := Dw) h62 ht74
        replace h66 := Sl.tr (Dw := Dw) h66 ht74
        replace h69 := Sl.tr (Dw := Dw) h69 ht74
        replace hK := Tr.trans (Dw := Dw) hK ht74
        replace hr8 := Tr.trans (Dw := Dw) hr8 ht74
        replace hB := Nat.le_trans hB ht74.ex.size
        replace hA := ht74.new
        refine V_y (Y_not rfl) rfl rfl rfl ?_
        refine V_to (fun _ _ => rfl) ?_
        refine C_cond rfl (fun hc75 => ?_) (fun hc75 => ?_)
        · rw [if_pos hc75] at h21
          refine C_seq ?_
          refine C_region ?_
          refine V_y (Y_assign rfl) rfl rfl rfl ?_
          refine V_to (fun _ _ => rfl) ?_
          obtain rfl := Option.some.inj h21
          obtain rfl := (h22 : Lp.rt _ = _)
          rw [Lp.andThen_rt] at hm
          obtain rfl := Option.some.inj hm
          refine C_ret ?_
          try simp only [↓inBlock_ret, ↓then_ret]
          exact retQ rfl (Res.one Tryz.results24 rfl) ⟨rfl, hK.kp⟩
        · rw [if_neg (nt hc75)] at h21
          refine C_skip_to (fun _ _ => rfl) ?_
          refine C_region ?_
          refine V_y (Y_addI rfl rfl) rfl rfl rfl ?_
          refine V_y (Y_move rfl) rfl rfl rfl ?_
          obtain rfl := Option.some.inj h21
          refine V_end (fun a ha76 => ?_)
          exact ⟨(), hlt24, h22, ⟨A18, ha76.sub ⟨rfl, rfl, rfl, rfl, (congrArg (fun z => some (Value.int .i64 z)) (w64_succ hlt24 hn27)), trivial⟩, ⟨hH, hr8⟩⟩⟩
      · refine C_exit (fun a ha77 => ?_)
        exact ⟨((), A18), ha77.sub trivial, ⟨(h25 (eq_of_dec hle23 hc28)).symm, hH, hr8⟩⟩
    rintro ⟨s7, A13⟩ w10 ⟨rfl, hH14, hk11⟩ a ha12
    rw [Lp.andThen_fin] at hm
    replace hK := Tr.trans (Dw := Dw) hK hk11
    replace hB := Nat.le_trans hB hk11.ex.size
    replace hA := hk11.new
    replace hH : Hp w.heap.size A13 w10 ([]) := hH14
    refine C_at (n := ⟨32, [], none⟩) (fun _ _ => rfl) ?_ ha12
    refine C_seq ?_
    refine C_region ?_
    refine V_y (Y_assign rfl) rfl rfl rfl ?_
    refine V_to (fun _ _ => rfl) ?_
    obtain rfl := Option.some.inj hm
    refine C_ret ?_
    try simp only [↓inBlock_ret, ↓then_ret]
    exact retQ rfl (Res.one Tryz.results24 rfl) ⟨rfl, hK.kp⟩

end Go.Proofs.YtcfmgjmpodpfiaaGreatDoor.W
