/-
  Written by program (gen.py) from the IR of the dump: each function computes its model.
-/
import Derived.Test.YtcbebdcofipcpaaGreatDoorLevelReadsW1
namespace Go.Proofs.YtcbebdcofipcpaaGreatDoor.W
open Go Go.RowKit Go.Pu Go.Gw Go.Proofs Go.Proofs.YtcbebdcofipcpaaGreatDoor.M
set_option linter.unusedVariables false
set_option linter.unusedSimpArgs false
variable {Dw : Prop}

set_option maxRecDepth 4000 in
set_option maxHeartbeats 4000000 in
theorem portref2_lineNumbers_c (w : World) {A : Nat → Prop} (hA : ∀ b, w.heap.size ≤ b → A b) (hT : Fz Tryz_FR A w) (s : ByteArray) (most : Int) {r : (ByteArray × (List Int) × Bool)} (hm : portref2_lineNumbers s most = some r) : Ret Tryz.prog 13 #[.string s, .int .i64 most] w fun v w' => ∃ s0, v = .tuple #[.string r.1, s0, .bool r.2.2] ∧ Ownd 3 w w' s0 r.2.1 ∧ Kp False w w' := by
  unfold portref2_lineNumbers at hm
  refine enter Tryz.func13 rfl Tryz.ntmps13 rfl ?_
  have hA0 := hA
  have hB := Nat.le_refl w.heap.size
  have hK : Tr False w.heap.size A w A w := Tr.refl (Dw := False) hA
  have hH : Hp w.heap.size A w [] := Hp.nil
  refine C_seq ?_
  refine C_region ?_
  refine V_y (Y_assign rfl) rfl rfl rfl ?_
  refine V_y (Y_assign rfl) rfl rfl rfl ?_
  refine V_y (Y_assign rfl) rfl rfl rfl ?_
  refine V_to (fun _ _ => rfl) ?_
  refine C_seq ?_
  refine C_region ?_
  refine V_y (Y_move rfl) rfl rfl rfl ?_
  obtain ⟨x1, hx1, hm⟩ := Option.bind_eq_some_iff.1 hm
  refine V_call Tryz.call51 rfl rfl rfl rfl (strings_Split_c (Dw := False) w hA (Fz.tr (Dw := False) hT hK) s (⟨#[32]⟩ : ByteArray) hx1) ?_
  rintro v2 w4 ⟨_, rfl, h3, hk5⟩
  have ht6 := Kp.tr (Dw := False) hk5 hA hB
  replace hH := Hp.kp (Dw := False) hH hk5
  replace hK := Tr.trans (Dw := False) hK ht6
  replace hB := Nat.le_trans hB ht6.ex.size
  replace hA := ht6.new
  refine V_y (Y_assign rfl) rfl rfl rfl ?_
  refine V_to (fun _ _ => rfl) ?_
  refine C_seq ?_
  refine C_region ?_
  refine V_y (Y_assign rfl) rfl rfl rfl ?_
  refine V_to (fun _ _ => rfl) ?_
  refine C_seq ?_
  refine C_seq ?_
  refine C_region ?_
  refine V_y (Y_move rfl) rfl rfl rfl ?_
  obtain ⟨x7, hx7, hm⟩ := Option.bind_eq_some_iff.1 hm
  obtain ⟨v8, h9, h9y⟩ := sliceL_val hx7 h3
  refine V_y (Y_sliceLL h9y Tryz.underlying35 Tryz.sizeOf9 rfl rfl) rfl rfl rfl ?_
  refine V_y (Y_lenSl h9 rfl Tryz.underlying35 rfl) rfl rfl rfl ?_
  refine V_y (Y_move rfl) rfl rfl rfl ?_
  refine V_to (fun _ _ => rfl) ?_
  replace hH : Hp w.heap.size A w4 (obS (α := Int) 3 (.slice none 0 0) ([] : (List Int)) :: []) := Hp.addNil (α := Int) (e := 3) hH
  have hn34 := Sl.le h9
  obtain ⟨o10, ho10, hm⟩ := Option.bind_eq_some_iff.1 hm
  refine C_cutG (ι := ((List Int) × Value × (Nat → Prop))) (fun ⟨s11, v17, A19⟩ => [(7, v2), (8, v17)]) (fun ⟨s11, v17, A19⟩ => fun w' => o10 = .fin s11 ∧ Hp w.heap.size A19 w' (obS (α := Int) 3 v17 s11 :: []) ∧ Tr False w.heap.size A w4 A19 w') ?_ ?_
  · refine C_block ?_
    refine C_range ho10 (fun k13 s21 a w' => ∃ i : (Value × (Nat → Prop)), Has ⟨39, [], none⟩ a ([(1, .int .i64 most), (7, v2), (8, i.1), (16, v8), (17, .int .i64 (x7.length : Int)), (18, .int .i64 (k13 : Int))]) ∧ Hp w.heap.size i.2 w' (obS (α := Int) 3 i.1 s21 :: []) ∧ Tr False w.heap.size A w4 i.2 w') (fun a ha => ⟨(.slice none 0 0, A), ha.sub ⟨rfl, rfl, rfl, rfl, rfl, rfl, trivial⟩, ⟨hH, Tr.refl (Dw := False) hA⟩⟩) ?_
    rintro K k13 s21 a w22 ⟨⟨v23, A25⟩, ha58, hH26, hr12⟩ hle30 K33 h32
    refine C_of ?_ ha58
    replace h3 := Sl.tr (Dw := False) h3 hr12
    replace h9 := Sl.tr (Dw := False) h9 hr12
    replace hK := Tr.trans (Dw := False) hK hr12
    replace hB := Nat.le_trans hB hr12.ex.size
    replace hA := hr12.new
    replace hH : Hp w.heap.size A25 w22 (obS (α := Int) 3 v23 s21 :: []) := hH26
    refine C_seq (C_region (V_y (Y_lss rfl rfl) rfl rfl rfl (V_to (fun _ _ => rfl) ?_)))
    refine C_seq ?_
    refine C_cond rfl (fun hc35 => ?_) (fun hc35 => ?_)
    · have hlt31 := lt_of_dec hc35
      obtain ⟨x27, h28, h29⟩ := K33 hlt31
      refine C_skip_to (fun _ _ => rfl) ?_
      refine C_seq ?_
      refine C_block ?_
      refine C_seq ?_
      refine C_region ?_
      obtain ⟨x36, hx36, h28⟩ := Option.bind_eq_some_iff.1 h28
      refine V_indexAddr h9 hx36 Tryz.underlying35 Tryz.sizeOf9 rfl rfl rfl ?_
      intro b37 o38 h39
      refine V_y (Y_load (El.str h39) Tryz.isAgg9 rfl) rfl rfl rfl ?_
      refine V_y (Y_assign rfl) rfl rfl rfl ?_
      refine V_to (fun _ _ => rfl) ?_
      refine C_seq ?_
      refine C_region ?_
      refine V_y (Y_move rfl) rfl rfl rfl ?_
      refine V_y (Y_move rfl) rfl rfl rfl ?_
      obtain ⟨x40, hx40, h28⟩ := Option.bind_eq_some_iff.1 h28
      refine V_call Tryz.call61 rfl rfl rfl rfl (portref2_number_c w22 hA (Fz.tr (Dw := False) hT hK) x36 most hx40) ?_
      rintro _ w41 ⟨rfl, hk42⟩
      have ht43 := Kp.tr (Dw := False) hk42 hA hB
      replace hH := Hp.kp (Dw := False) hH hk42
      replace h3 := Sl.tr (Dw := False) h3 ht43
      replace h9 := Sl.tr (Dw := False) h9 ht43
      replace hK := Tr.trans (Dw := False) hK ht43
      replace hr12 := Tr.trans (Dw := False) hr12 ht43
      replace hB := Nat.le_trans hB ht43.ex.size
      replace hA := ht43.new
      refine V_y (Y_move rfl) rfl rfl rfl ?_
      refine V_y (Y_extract rfl rfl) rfl rfl rfl ?_
      refine V_y (Y_extract rfl rfl) rfl rfl rfl ?_
      refine V_y (Y_assign rfl) rfl rfl rfl ?_
      refine V_y (Y_assign rfl) rfl rfl rfl ?_
      refine V_to (fun _ _ => rfl) ?_
      refine C_seq ?_
      refine C_seq ?_
      refine C_region ?_
      refine V_y (Y_move rfl) rfl rfl rfl ?_
      refine V_y (Y_not rfl) rfl rfl rfl ?_
      refine V_to (fun _ _ => rfl) ?_
      refine C_cond rfl (fun hc44 => ?_) (fun hc44 => ?_)
      · rw [if_pos hc44] at h28
        refine C_seq ?_
        refine C_region ?_
        refine V_y (Y_assign rfl) rfl rfl rfl ?_
        refine V_y (Y_assign rfl) rfl rfl rfl ?_
        refine V_y (Y_assign rfl) rfl rfl rfl ?_
        refine V_to (fun _ _ => rfl) ?_
        obtain rfl := Option.some.inj h28
        obtain rfl := (h29 : Lp.rt _ = _)
        rw [Lp.andThen_rt] at hm
        obtain rfl := Option.some.inj hm
        replace hH : Hp w.heap.size A25 w41 (obS (α := Int) 3 (.slice none 0 0) ([] : (List Int)) :: obS (α := Int) 3 v23 s21 :: []) := Hp.addNil (α := Int) (e := 3) hH
        refine C_ret ?_
        try simp only [↓inBlock_ret, ↓then_ret]
        exact retQ rfl (Res.three Tryz.results13 rfl rfl rfl) ⟨.slice none 0 0, rfl, (Hp.ownd hH (i := 0) rfl), hK.kp⟩
      · rw [if_neg (nt hc44)] at h28
        refine C_skip_to (fun _ _ => rfl) ?_
        refine C_region ?_
        refine V_y (Y_move rfl) rfl rfl rfl ?_
        refine V_y (Y_move rfl) rfl rfl rfl ?_
        refine V_buildSlice (Dw := False) (l := ([x40.1] : List Int)) (len := 1) Tryz.underlying22 Tryz.sizeOf3 Tryz.zeroValue3 rfl (by with_unfolding_all rfl) (show (1 * 1 : Nat) ≠ 0 by decide) (show (1 * 1 : Nat) ≤ 2 ^ 24 by decide) hA ⟨[.int .i64 x40.1], _, rfl, rfl, rfl⟩ rfl rfl ?_
        intro v45 w46 hk48 h47
        have ht49 := Kp.tr (Dw := False) hk48 hA hB
        replace hH := Hp.kp (Dw := False) hH hk48
        replace h3 := Sl.tr (Dw := False) h3 ht49
        replace h9 := Sl.tr (Dw := False) h9 ht49
        replace hK := Tr.trans (Dw := False) hK ht49
        replace hr12 := Tr.trans (Dw := False) hr12 ht49
        replace hB := Nat.le_trans hB ht49.ex.size
        replace hA := ht49.new
        obtain ⟨x50, hx50, h28⟩ := Option.bind_eq_some_iff.1 h28
        refine V_appendH (Dw := False) (e := 3) (v := v23) (l := s21) (ti := Tryz.t3) (bytes := 8) (lim := 17592186044416) hH (i := 0) rfl h47 hx50 Tryz.underlying22 Tryz_info3 rfl rfl rfl rfl (by decide) (by decide) (by decide) hB hA rfl rfl rfl ?_
        intro v51 w52 A53 hH54 ht55
        replace h3 := Sl.tr (Dw := False) h3 ht55
        replace h9 := Sl.tr (Dw := False) h9 ht55
        replace h47 := Sl.tr (Dw := False) h47 ht55
        replace hK := Tr.trans (Dw := False) hK ht55
        replace hr12 := Tr.trans (Dw := False) hr12 ht55
        replace hB := Nat.le_trans hB ht55.ex.size
        replace hA := ht55.new
        replace hH : Hp w.heap.size A53 w52 (obS (α := Int) 3 v51 x50 :: []) := hH54
        refine V_y (Y_assign rfl) rfl rfl rfl ?_
        refine V_to (fun _ _ => rfl) ?_
        refine C_region ?_
        refine V_y (Y_addI rfl rfl) rfl rfl rfl ?_
        refine V_y (Y_move rfl) rfl rfl rfl ?_
        obtain rfl := Option.some.inj h28
        refine V_end (fun a ha56 => ?_)
        exact ⟨x50, hlt31, h29, ⟨(v51, A53), ha56.sub ⟨rfl, rfl, rfl, rfl, rfl, (congrArg (fun z => some (Value.int .i64 z)) (w64_succ hlt31 hn34)), trivial⟩, ⟨hH, hr12⟩⟩⟩
    · refine C_exit (fun a ha57 => ?_)
      exact ⟨(s21, v23, A25), ha57.sub ⟨rfl, rfl, trivial⟩, ⟨(h32 (eq_of_dec hle30 hc35)).symm, hH, hr12⟩⟩
  rintro ⟨s11, v17, A19⟩ w14 ⟨rfl, hH20, hk15⟩ a ha16
  rw [Lp.andThen_fin] at hm
  replace h3 := Sl.tr (Dw := False) h3 hk15
  replace hK := Tr.trans (Dw := False) hK hk15
  replace hB := Nat.le_trans hB hk15.ex.size
  replace hA := hk15.new
  replace hH : Hp w.heap.size A19 w14 (obS (α := Int) 3 v17 s11 :: []) := hH20
  refine C_at (n := ⟨39, [], none⟩) (fun _ _ => rfl) ?_ ha16
  refine C_seq ?_
  refine C_region ?_
  refine V_y (Y_move rfl) rfl rfl rfl ?_
  obtain ⟨x59, hx59, hm⟩ := Option.bind_eq_some_iff.1 hm
  refine V_indexAddr h3 hx59 Tryz.underlying35 Tryz.sizeOf9 rfl rfl rfl ?_
  intro b60 o61 h62
  refine V_y (Y_load (El.str h62) Tryz.isAgg9 rfl) rfl rfl rfl ?_
  refine V_y (Y_move rfl) rfl rfl rfl ?_
  refine V_y (Y_assign rfl) rfl rfl rfl ?_
  refine V_y (Y_assign rfl) rfl rfl rfl ?_
  refine V_y (Y_assign rfl) rfl rfl rfl ?_
  refine V_to (fun _ _ => rfl) ?_
  obtain rfl := Option.some.inj hm
  refine C_ret ?_
  try simp only [↓inBlock_ret, ↓then_ret]
  exact retQ rfl (Res.three Tryz.results13 rfl rfl rfl) ⟨v17, rfl, (Hp.ownd hH (i := 0) rfl), hK.kp⟩

def Tryz_strings_Contains_lay_ren : Go.Shelf.Ren := ⟨fun | 143 => 63 | 144 => 15 | 217 => 82 | 219 => 67 | 224 => 84 | 225 => 83 | 266 => 96 | 267 => 85 | 314 => 97 | n => n, fun | 0 => 0 | 1 => 1 | 2 => 2 | 3 => 3 | 4 => 4 | 5 => 5 | 6 => 6 | 7 => 7 | 8 => 8 | 9 => 9 | 10 => 10 | 11 => 11 | 12 => 12 | 13 => 13 | 14 => 14 | 15 => 15 | 16 => 16 | 17 => 17 | 18 => 18 | 19 => 19 | 20 => 20 | 21 => 21 | 22 => 42 | 23 => 154 | 24 => 38 | 25 => 39 | 27 => 162 | 28 => 22 | 31 => 35 | 32 => 54 | 34 => 96 | 37 => 199 | 40 => 206 | 41 => 212 | 46 => 180 | 47 => 237 | 51 => 188 | 52 => 238 | 53 => 214 | 54 => 223 | 55 => 178 | 59 => 31 | 60 => 32 | 61 => 36 | 62 => 163 | 63 => 213 | 64 => 227 | 69 => 217 | 74 => 171 | 75 => 172 | 76 => 173 | 77 => 174 | 80 => 241 | 81 => 247 | 83 => 181 | 84 => 207 | 85 => 200 | 86 => 201 | 101 => 90 | 103 => 182 | 104 => 30 | 105 => 183 | 106 => 184 | 108 => 220 | 111 => 187 | 113 => 159 | 114 => 179 | 115 => 192 | 116 => 193 | 117 => 194 | 118 => 195 | 119 => 208 | 122 => 191 | 123 => 196 | 124 => 197 | 127 => 229 | 128 => 185 | 131 => 160 | 137 => 209 | 138 => 210 | 139 => 211 | 143 => 230 | 144 => 231 | 145 => 232 | 146 => 189 | 150 => 169 | 151 => 190 | 155 => 233 | 164 => 260 | 167 => 198 | 168 => 202 | 169 => 203 | 170 => 204 | 171 => 222 | 172 => 224 | 173 => 225 | 174 => 226 | 175 => 215 | 176 => 216 | 209 => 218 | 210 => 219 | 211 => 234 | 212 => 235 | 213 => 236 | 214 => 228 | 232 => 239 | 233 => 240 | 238 => 242 | 239 => 243 | 240 => 244 | 241 => 245 | 242 => 246 | 243 => 248 | 244 => 249 | 245 => 250 | 246 => 251 | 247 => 252 | 248 => 253 | 249 => 254 | n => n, fun | 1 => 2 | 3 => 3 | 4 => 4 | 15 => 5 | 16 => 6 | 17 => 7 | 18 => 8 | 19 => 9 | n => n⟩
theorem Tryz_strings_Contains_lay : Go.Proofs.Lays.n144 Tryz.prog Tryz_strings_Contains_lay_ren := {
  mixed := by kernel_rfl,
  f143 := Tryz.func63.trans (congrArg some (by kernel_rfl)),
  f144 := Tryz.func15.trans (congrArg some (by kernel_rfl)),
  f217 := Tryz.func82.trans (congrArg some (by kernel_rfl)),
  f219 := Tryz.func67.trans (congrArg some (by kernel_rfl)),
  f224 := Tryz.func84.trans (congrArg some (by kernel_rfl)),
  f225 := Tryz.func83.trans (congrArg some (by kernel_rfl)),
  f266 := Tryz.func96.trans (congrArg some (by kernel_rfl)),
  f267 := Tryz.func85.trans (congrArg some (by kernel_rfl)),
  f314 := Tryz.func97.trans (congrArg some (by kernel_rfl)),
  t3 := Tryz.underlying3,
  a3 := Tryz.isAgg3,
  z3 := Tryz.sizeOf3,
  v3 := Tryz.zeroValue3,
  t4 := Tryz.underlying4,
  a4 := Tryz.isAgg4,
  z4 := Tryz.sizeOf4,
  v4 := Tryz.zeroValue4,
  t5 := Tryz.underlying5,
  a5 := Tryz.isAgg5,
  z5 := Tryz.sizeOf5,
  v5 := Tryz.zeroValue5,
  t9 := Tryz.underlying9,
  a9 := Tryz.isAgg9,
  z9 := Tryz.sizeOf9,
  v9 := Tryz.zeroValue9,
  t46 := Tryz.underlying180,
  a46 := Tryz.isAgg180,
  z46 := Tryz.sizeOf180,
  v46 := Tryz.zeroValue180,
  t51 := Tryz.underlying188,
  a51 := Tryz.isAgg188,
  z51 := Tryz.sizeOf188,
  v51 := Tryz.zeroValue188,
  t146 := Tryz.underlying189,
  a146 := Tryz.isAgg189,
  z146 := Tryz.sizeOf189,
  v146 := Tryz.zeroValue189,
  g1 := by kernel_rfl }
theorem strings_Contains_c (w : World) {A : Nat → Prop} (hA : ∀ b, w.heap.size ≤ b → A b) (s : ByteArray) (substr : ByteArray) {r : Bool} (hm : strings_Contains s substr = some r) : Ret Tryz.prog 15 #[.string s, .string substr] w fun v w' => v = .bool r ∧ Kp Dw w w' := by
  unfold strings_Contains at hm
  split at hm
  · rename_i c hc
    obtain rfl := Option.some.inj hm
    obtain rfl : substr = ⟨#[c]⟩ := by apply ByteArray.ext; apply Array.toList_inj.1; simpa using hc
    refine Calls.mono (Go.Proofs.Any.strings_Contains_one Tryz_strings_Contains_lay s c w) ?_
    rintro _ w' ⟨rfl, rfl⟩
    exact ⟨_, rfl, rfl, Kp.refl (Dw := Dw) _⟩
  · cases hm

set_option maxRecDepth 4000 in
set_option maxHeartbeats 4000000 in
theorem strings_SplitN_c (w : World) {A : Nat → Prop} (hA : ∀ b, w.heap.size ≤ b → A b) (hT : Fz Tryz_FR A w) (s : ByteArray) (sep : ByteArray) (n : Int) {r : (List ByteArray)} (hm : strings_SplitN s sep n = some r) : Ret Tryz.prog 64 #[.string s, .string sep, .int .i64 n] w fun v w' => ∃ s0, v = s0 ∧ Sl A w' s0 r ∧ Kp Dw w w' := by
  unfold strings_SplitN at hm
  refine enter Tryz.func64 rfl Tryz.ntmps64 rfl ?_
  have hA0 := hA
  have hB := Nat.le_refl w.heap.size
  have hK : Tr Dw w.heap.size A w A w := Tr.refl (Dw := Dw) hA
  have hH : Hp w.heap.size A w [] := Hp.nil
  refine C_seq ?_
  refine C_region ?_
  refine V_y (Y_assign rfl) rfl rfl rfl ?_
  refine V_to (fun _ _ => rfl) ?_
  refine C_seq ?_
  refine C_region ?_
  refine V_y (Y_move rfl) rfl rfl rfl ?_
  refine V_y (Y_move rfl) rfl rfl rfl ?_
  refine V_y (Y_move rfl) rfl rfl rfl ?_
  obtain ⟨x1, hx1, hm⟩ := Option.bind_eq_some_iff.1 hm
  refine V_call Tryz.call59 rfl rfl rfl rfl (strings_genSplit_c (Dw := Dw) w hA ((Fz.tr (Dw := Dw) hT hK)).2.1 s sep 0 n hx1) ?_
  rintro v2 w4 ⟨_, rfl, h3, hk5⟩
  have ht6 := Kp.tr (Dw := Dw) hk5 hA hB
  replace hH := Hp.kp (Dw := Dw) hH hk5
  replace hK := Tr.trans (Dw := Dw) hK ht6
  replace hB := Nat.le_trans hB ht6.ex.size
  replace hA := ht6.new
  refine V_y (Y_assign rfl) rfl rfl rfl ?_
  refine V_to (fun _ _ => rfl) ?_
  obtain rfl := Option.some.inj hm
  refine C_ret ?_
  try simp only [↓inBlock_ret, ↓then_ret]
  exact retQ rfl (Res.one Tryz.results64 rfl) ⟨v2, rfl, (Sl.out (Dw := Dw) h3 hA0 hK), hK.kp⟩

set_option maxRecDepth 4000 in
set_option maxHeartbeats 4000000 in
theorem portref2_readTest_c (w : World) {A : Nat → Prop} (hA : ∀ b, w.heap.size ≤ b → A b) (hT : Fz Tryz_FR A w) (t : ByteArray) {r : (level_Test × Bool)} (hm : portref2_readTest t = some r) : Ret Tryz.prog 16 #[.string t] w fun v w' => v = .tuple #[.agg #[.int .i64 r.1.field, .int .i64 r.1.value.kind, .int .i64 r.1.value.int, .string r.1.value.text], .bool r.2] ∧ Kp False w w' := by
  unfold portref2_readTest at hm
  refine enter Tryz.func16 rfl Tryz.ntmps16 rfl ?_
  have hA0 := hA
  have hB := Nat.le_refl w.heap.size
  have hK : Tr False w.heap.size A w A w := Tr.refl (Dw := False) hA
  have hH : Hp w.heap.size A w [] := Hp.nil
  refine C_seq ?_
  refine C_region ?_
  refine V_allocH (Dw := False) (B := w.heap.size) hH Tryz.zeroValue51 hB hA rfl ?_
  intro b1 w2 A3 hH4 ht5
  replace hK := Tr.trans (Dw := False) hK ht5
  replace hB := Nat.le_trans hB ht5.ex.size
  replace hA := ht5.new
  replace hH : Hp w.heap.size A3 w2 (obC b1 [.int .i64 0, .int .i64 0, .int .i64 0, .string ByteArray.empty] 51 :: []) := hH4
  refine V_y (Y_assign rfl) rfl rfl rfl ?_
  refine V_to (fun _ _ => rfl) ?_
  refine C_seq ?_
  refine C_region ?_
  refine V_y (Y_move rfl) rfl rfl rfl ?_
  obtain ⟨x6, hx6, hm⟩ := Option.bind_eq_some_iff.1 hm
  refine V_call Tryz.call64 rfl rfl rfl rfl (strings_SplitN_c (Dw := False) w2 hA (Fz.tr (Dw := False) hT hK) t (⟨#[32]⟩ : ByteArray) 4 hx6) ?_
  rintro v7 w9 ⟨_, rfl, h8, hk10⟩
  have ht11 := Kp.tr (Dw := False) hk10 hA hB
  replace hH := Hp.kp (Dw := False) hH hk10
  replace hK := Tr.trans (Dw := False) hK ht11
  replace hB := Nat.le_trans hB ht11.ex.size
  replace hA := ht11.new
  refine V_y (Y_assign rfl) rfl rfl rfl ?_
  refine V_to (fun _ _ => rfl) ?_
  refine C_seq ?_
  refine C_seq ?_
  refine C_region ?_
  refine V_y (Y_move rfl) rfl rfl rfl ?_
  refine V_y (Y_lenSl h8 rfl Tryz.underlying35 rfl) rfl rfl rfl ?_
  refine V_y (Y_lss rfl rfl) rfl rfl rfl ?_
  refine V_y (Y_move rfl) rfl rfl rfl ?_
  obtain ⟨s13, hs13, hm⟩ := Option.bind_eq_some_iff.1 hm
  refine V_cut 5 (fun _ : Unit => [(2, .pointer (some ⟨b1, 0, none⟩)), (4, v7), (19, .bool s13)]) (fun _ w' => w9 = w') ?_ ?_
  · simp only [List.take, List.drop]
    rcases Bool.eq_false_or_eq_true (decide ((x6.length : Int) < 3)) with hc12 | hc12
    · rw [if_pos hc12] at hs13
      refine V_gn rfl rfl rfl hc12 rfl rfl rfl ?_
      refine V_gn rfl rfl rfl hc12 rfl rfl rfl ?_
      refine V_gn rfl rfl rfl hc12 rfl rfl rfl ?_
      refine V_gn rfl rfl rfl hc12 rfl rfl rfl ?_
      refine V_y (Y_pick_te rfl hc12 rfl) rfl rfl rfl ?_
      obtain rfl := Option.some.inj hs13
      exact V_end fun a ha => ⟨(), ha.sub ⟨rfl, rfl, rfl, trivial⟩, rfl⟩
    · rw [if_neg (nt hc12)] at hs13
      refine V_ge rfl rfl rfl hc12 ?_
      refine V_y (Y_move rfl) rfl rfl rfl ?_
      refine V_ge rfl rfl rfl hc12 ?_
      obtain ⟨x14, hx14, hs13⟩ := Option.bind_eq_some_iff.1 hs13
      refine V_indexAddr h8 hx14 Tryz.underlying35 Tryz.sizeOf9 rfl rfl rfl ?_
      intro b15 o16 h17
      refine V_ge rfl rfl rfl hc12 ?_
      refine V_y (Y_load (El.str h17) Tryz.isAgg9 rfl) rfl rfl rfl ?_
      refine V_ge rfl rfl rfl hc12 ?_
      refine V_y (Y_sneq rfl rfl) rfl rfl rfl ?_
      refine V_y (Y_pick_fe rfl hc12 rfl) rfl rfl rfl ?_
      obtain rfl := Option.some.inj hs13
      exact V_end fun a ha => ⟨(), ha.sub ⟨rfl, rfl, rfl, trivial⟩, rfl⟩
  simp only [List.take, List.drop]
  rintro _ _ rfl
  refine V_to (fun _ _ => rfl) ?_
  refine C_cond rfl (fun hc18 => ?_) (fun hc18 => ?_)
  · rw [if_pos hc18] at hm
    refine C_seq ?_
    refine C_region ?_
    refine V_y (Y_build (cells := #[.int .i64 0, .int .i64 0, .int .i64 0, .string ByteArray.empty]) Tryz.underlying51 Tryz.zeroValue51 (Tryz_places51 _ Tryz.underlying51) rfl (by with_unfolding_all rfl)) rfl rfl rfl ?_
    refine V_storeC (Dw := False) (off := 0) (ds := [.int .i64 0, .int .i64 0, .int .i64 0, .string ByteArray.empty]) hH (i := 0) rfl Tryz.sizeOf51 rfl (Nat.le_of_ble_eq_true rfl) (by simp [Value.cells, Value.oneCell']) rfl hB hA rfl rfl ?_
    intro w19 hH20 ht21
    replace h8 := Sl.tr (Dw := False) h8 ht21
    replace hK := Tr.trans (Dw := False) hK ht21
    replace hB := Nat.le_trans hB ht21.ex.size
    replace hA := ht21.new
    replace hH : Hp w.heap.size A3 w19 (obC b1 [.int .i64 0, .int .i64 0, .int .i64 0, .string ByteArray.empty] 51 :: []) := hH20
    refine V_y (Y_assign rfl) rfl rfl rfl ?_
    refine V_to (fun _ _ => rfl) ?_
    obtain rfl := Option.some.inj hm
    refine C_ret ?_
    try simp only [↓inBlock_ret, ↓then_ret]
    exact retQ rfl (Res.l2 Tryz.results16 (RL.cell rfl (loadVar_agg (Hp.part (off := 0) (n := 4) (ds := [.int .i64 0, .int .i64 0, .int .i64 0, .string ByteArray.empty]) hH (i := 0) rfl rfl) Tryz.isAgg51 Tryz.sizeOf51)) (RL.tmp rfl)) ⟨rfl, hK.kp⟩
  · rw [if_neg (nt hc18)] at hm
    refine C_skip_to (fun _ _ => rfl) ?_
    refine C_seq ?_
    refine C_region ?_
    refine V_y (Y_move rfl) rfl rfl rfl ?_
    obtain ⟨x22, hx22, hm⟩ := Option.bind_eq_some_iff.1 hm
    refine V_indexAddr h8 hx22 Tryz.underlying35 Tryz.sizeOf9 rfl rfl rfl ?_
    intro b23 o24 h25
    refine V_y (Y_load (El.str h25) Tryz.isAgg9 rfl) rfl rfl rfl ?_
    obtain ⟨x26, hx26, hm⟩ := Option.bind_eq_some_iff.1 hm
    refine V_call Tryz.call61 rfl rfl rfl rfl (portref2_number_c w9 hA (Fz.tr (Dw := False) hT hK) x22 18 hx26) ?_
    rintro _ w27 ⟨rfl, hk28⟩
    have ht29 := Kp.tr (Dw := False) hk28 hA hB
    replace hH := Hp.kp (Dw := False) hH hk28
    replace h8 := Sl.tr (Dw := False) h8 ht29
    replace h25 := El.tr (Dw := False) h25 ht29
    replace hK := Tr.trans (Dw := False) hK ht29
    replace hB := Nat.le_trans hB ht29.ex.size
    replace hA := ht29.new
    refine V_y (Y_move rfl) rfl rfl rfl ?_
    refine V_y (Y_extract rfl rfl) rfl rfl rfl ?_
    refine V_y (Y_extract rfl rfl) rfl rfl rfl ?_
    refine V_y (Y_assign rfl) rfl rfl rfl ?_
    refine V_y (Y_assign rfl) rfl rfl rfl ?_
    refine V_to (fun _ _ => rfl) ?_
    refine C_seq ?_
    refine C_region_q (Dw := False) Tryz_mixed (by kernel_rfl) ?_
    obtain ⟨v30, h31, h32⟩ := El.list ((Fz.tr (Dw := False) hT hK)).2.2.2.2.2
    refine VQ_y (fun w' hw' => Y_load ((World.cell?_of_block (hw'.block _ (World.block_lt_of_cell? _ _ h31))).trans h31) Tryz.isAgg35 rfl) rfl rfl rfl ?_
    refine VQ_y (fun w' hw' => Y_move rfl) rfl rfl rfl ?_
    obtain ⟨x33, hx33, hm⟩ := Option.bind_eq_some_iff.1 hm
    refine VQ_indexAddr h8 hx33 Tryz.underlying35 Tryz.sizeOf9 rfl rfl rfl ?_
    intro b34 o35 h36
    refine VQ_y (fun w' hw' => Y_load (El.str (El.kp (Dw := False) h36 hw')) Tryz.isAgg9 rfl) rfl rfl rfl ?_
    obtain ⟨x37, hx37, hm⟩ := Option.bind_eq_some_iff.1 hm
    refine VQ_call (.int .i64 x37) Tryz.call17 rfl rfl rfl rfl (fun w' hw' => (slices_Index_Lstring_string_c w' portref2_valueWords v30 (Sl.kp (Dw := False) h32 hw') x33 hx37).mono (fun _ _ h => ⟨h.1, h.2 ▸ hw'⟩)) ?_
    refine VQ_y (fun w' hw' => Y_assign rfl) rfl rfl rfl ?_
    refine VQ_to (fun _ _ => rfl) (fun w38 hk39 => ?_)
    have ht40 := Kp.tr (Dw := False) hk39 hA hB
    replace hH := Hp.kp (Dw := False) hH hk39
    replace h8 := Sl.tr (Dw := False) h8 ht40
    replace hK := Tr.trans (Dw := False) hK ht40
    replace hB := Nat.le_trans hB ht40.ex.size
    replace hA := ht40.new
    refine C_seq ?_
    refine C_region ?_
    refine V_y (Y_move rfl) rfl rfl rfl ?_
    refine V_y (Y_move rfl) rfl rfl rfl ?_
    refine V_y (Y_build Tryz.underlying49 Tryz.zeroValue49 (Tryz_places49 _ Tryz.underlying49) rfl (by with_unfolding_all rfl)) rfl rfl rfl ?_
    refine V_y (Y_build (cells := #[.int .i64 x26.1, .int .i64 x37, .int .i64 0, .string ByteArray.empty]) Tryz.underlying51 Tryz.zeroValue51 (Tryz_places51 _ Tryz.underlying51) rfl (by with_unfolding_all rfl)) rfl rfl rfl ?_
    refine V_allocH (Dw := False) (B := w.heap.size) hH Tryz.zeroValue51 hB hA rfl ?_
    intro b41 w42 A43 hH44 ht45
    replace h8 := Sl.tr (Dw := False) h8 ht45
    replace hK := Tr.trans (Dw := False) hK ht45
    replace hB := Nat.le_trans hB ht45.ex.size
    replace hA := ht45.new
    replace hH : Hp w.heap.size A43 w42 (obC b41 [.int .i64 0, .int .i64 0, .int .i64 0, .string ByteArray.empty] 51 :: obC b1 [.int .i64 0, .int .i64 0, .int .i64 0, .string ByteArray.empty] 51 :: []) := hH44
    refine V_storeC (Dw := False) (off := 0) (ds := [.int .i64 x26.1, .int .i64 x37, .int .i64 0, .string ByteArray.empty]) hH (i := 0) rfl Tryz.sizeOf51 rfl (Nat.le_of_ble_eq_true rfl) (by simp [Value.cells, Value.oneCell']) rfl hB hA rfl rfl ?_
    intro w46 hH47 ht48
    replace h8 := Sl.tr (Dw := False) h8 ht48
    replace hK := Tr.trans (Dw := False) hK ht48
    replace hB := Nat.le_trans hB ht48.ex.size
    replace hA := ht48.new
    replace hH : Hp w.heap.size A43 w46 (obC b41 [.int .i64 x26.1, .int .i64 x37, .int .i64 0, .string ByteArray.empty] 51 :: obC b1 [.int .i64 0, .int .i64 0, .int .i64 0, .string ByteArray.empty] 51 :: []) := hH47
    refine V_to (fun _ _ => rfl) ?_
    refine C_seq ?_
    refine C_seq ?_
    refine C_region ?_
    refine V_y (Y_move rfl) rfl rfl rfl ?_
    refine V_y (Y_not rfl) rfl rfl rfl ?_
    refine V_y (Y_move rfl) rfl rfl rfl ?_
    refine V_cut 3 (fun _ : Unit => [(2, .pointer (some ⟨b1, 0, none⟩)), (4, v7), (7, .int .i64 x37), (8, .pointer (some ⟨b41, 0, none⟩)), (42, .bool ((!x26.2) || (decide (x37 < 0))))]) (fun _ w' => w46 = w') ?_ ?_
    · simp only [List.take, List.drop]
      rcases Bool.eq_false_or_eq_true (!x26.2) with hc49 | hc49
      · refine V_gn rfl rfl rfl hc49 rfl rfl rfl ?_
        refine V_gn rfl rfl rfl hc49 rfl rfl rfl ?_
        refine V_y (Y_pick_te rfl hc49 rfl) rfl rfl rfl ?_
        exact V_end fun a ha => ⟨(), ha.sub ⟨rfl, rfl, rfl, rfl, (by rw [hc49]; rfl), trivial⟩, rfl⟩
      · refine V_ge rfl rfl rfl hc49 ?_
        refine V_y (Y_move rfl) rfl rfl rfl ?_
        refine V_ge rfl rfl rfl hc49 ?_
        refine V_y (Y_lss rfl rfl) rfl rfl rfl ?_
        refine V_y (Y_pick_fe rfl hc49 rfl) rfl rfl rfl ?_
        exact V_end fun a ha => ⟨(), ha.sub ⟨rfl, rfl, rfl, rfl, (by rw [hc49]; rfl), trivial⟩, rfl⟩
    simp only [List.take, List.drop]
    rintro _ _ rfl
    refine V_to (fun _ _ => rfl) ?_
    refine C_cond rfl (fun hc51 => ?_) (fun hc51 => ?_)
    · rw [if_pos hc51] at hm
      refine C_seq ?_
      refine C_region ?_
      refine V_y (Y_build (cells := #[.int .i64 0, .int .i64 0, .int .i64 0, .string ByteArray.empty]) Tryz.underlying51 Tryz.zeroValue51 (Tryz_places51 _ Tryz.underlying51) rfl (by with_unfolding_all rfl)) rfl rfl rfl ?_
      refine V_storeC (Dw := False) (off := 0) (ds := [.int .i64 0, .int .i64 0, .int .i64 0, .string ByteArray.empty]) hH (i := 1) rfl Tryz.sizeOf51 rfl (Nat.le_of_ble_eq_true rfl) (by simp [Value.cells, Value.oneCell']) rfl hB hA rfl rfl ?_
      intro w52 hH53 ht54
      replace h8 := Sl.tr (Dw := False) h8 ht54
      replace hK := Tr.trans (Dw := False) hK ht54
      replace hB := Nat.le_trans hB ht54.ex.size
      replace hA := ht54.new
      replace hH : Hp w.heap.size A43 w52 (obC b41 [.int .i64 x26.1, .int .i64 x37, .int .i64 0, .string ByteArray.empty] 51 :: obC b1 [.int .i64 0, .int .i64 0, .int .i64 0, .string ByteArray.empty] 51 :: []) := hH53
      refine V_y (Y_assign rfl) rfl rfl rfl ?_
      refine V_to (fun _ _ => rfl) ?_
      obtain rfl := Option.some.inj hm
      refine C_ret ?_
      try simp only [↓inBlock_ret, ↓then_ret]
      exact retQ rfl (Res.l2 Tryz.results16 (RL.cell rfl (loadVar_agg (Hp.part (off := 0) (n := 4) (ds := [.int .i64 0, .int .i64 0, .int .i64 0, .string ByteArray.empty]) hH (i := 1) rfl rfl) Tryz.isAgg51 Tryz.sizeOf51)) (RL.tmp rfl)) ⟨rfl, hK.kp⟩
    · rw [if_neg (nt hc51)] at hm
      refine C_skip_to (fun _ _ => rfl) ?_
      refine C_seq ?_
      refine C_seq ?_
      refine C_region ?_
      refine V_y (Y_move rfl) rfl rfl rfl ?_
      refine V_y (Y_eql rfl rfl) rfl rfl rfl ?_
      refine V_to (fun _ _ => rfl) ?_
      refine C_cond rfl (fun hc55 => ?_) (fun hc55 => ?_)
      · rw [if_pos hc55] at hm
        refine C_seq ?_
        refine C_region ?_
        refine V_y (Y_loadA (Hp.part (off := 0) (n := 4) (ds := [.int .i64 x26.1, .int .i64 x37, .int .i64 0, .string ByteArray.empty]) hH (i := 0) rfl rfl) Tryz.isAgg51 Tryz.sizeOf51 rfl) rfl rfl rfl ?_
        refine V_y (Y_move rfl) rfl rfl rfl ?_
        refine V_y (Y_lenSl h8 rfl Tryz.underlying35 rfl) rfl rfl rfl ?_
        refine V_y (Y_eql rfl rfl) rfl rfl rfl ?_
        refine V_storeC (Dw := False) (off := 0) (ds := [.int .i64 x26.1, .int .i64 x37, .int .i64 0, .string ByteArray.empty]) hH (i := 1) rfl Tryz.sizeOf51 rfl (Nat.le_of_ble_eq_true rfl) (by simp [Value.cells, Value.oneCell']) rfl hB hA rfl rfl ?_
        intro w56 hH57 ht58
        replace h8 := Sl.tr (Dw := False) h8 ht58
        replace hK := Tr.trans (Dw := False) hK ht58
        replace hB := Nat.le_trans hB ht58.ex.size
        replace hA := ht58.new
        replace hH : Hp w.heap.size A43 w56 (obC b41 [.int .i64 x26.1, .int .i64 x37, .int .i64 0, .string ByteArray.empty] 51 :: obC b1 [.int .i64 x26.1, .int .i64 x37, .int .i64 0, .string ByteArray.empty] 51 :: []) := hH57
        refine V_y (Y_assign rfl) rfl rfl rfl ?_
        refine V_to (fun _ _ => rfl) ?_
        obtain rfl := Option.some.inj hm
        refine C_ret ?_
        try simp only [↓inBlock_ret, ↓then_ret]
        exact retQ rfl (Res.l2 Tryz.results16 (RL.cell rfl (loadVar_agg (Hp.part (off := 0) (n := 4) (ds := [.int .i64 x26.1, .int .i64 x37, .int .i64 0, .string ByteArray.empty]) hH (i := 1) rfl rfl) Tryz.isAgg51 Tryz.sizeOf51)) (RL.tmp rfl)) ⟨rfl, hK.kp⟩
      · rw [if_neg (nt hc55)] at hm
        refine C_skip_to (fun _ _ => rfl) ?_
        refine C_seq ?_
        refine C_seq ?_
        refine C_region ?_
        refine V_y (Y_move rfl) rfl rfl rfl ?_
        refine V_y (Y_lenSl h8 rfl Tryz.underlying35 rfl) rfl rfl rfl ?_
        refine V_y (Y_neq rfl rfl) rfl rfl rfl ?_
        refine V_to (fun _ _ => rfl) ?_
        refine C_cond rfl (fun hc59 => ?_) (fun hc59 => ?_)
        · rw [if_pos hc59] at hm
          refine C_seq ?_
          refine C_region ?_
          refine V_y (Y_build (cells := #[.int .i64 0, .int .i64 0, .int .i64 0, .string ByteArray.empty]) Tryz.underlying51 Tryz.zeroValue51 (Tryz_places51 _ Tryz.underlying51) rfl (by with_unfolding_all rfl)) rfl rfl rfl ?_
          refine V_storeC (Dw := False) (off := 0) (ds := [.int .i64 0, .int .i64 0, .int .i64 0, .string ByteArray.empty]) hH (i := 1) rfl Tryz.sizeOf51 rfl (Nat.le_of_ble_eq_true rfl) (by simp [Value.cells, Value.oneCell']) rfl hB hA rfl rfl ?_
          intro w60 hH61 ht62
          replace h8 := Sl.tr (Dw := False) h8 ht62
          replace hK := Tr.trans (Dw := False) hK ht62
          replace hB := Nat.le_trans hB ht62.ex.size
          replace hA := ht62.new
          replace hH : Hp w.heap.size A43 w60 (obC b41 [.int .i64 x26.1, .int .i64 x37, .int .i64 0, .string ByteArray.empty] 51 :: obC b1 [.int .i64 0, .int .i64 0, .int .i64 0, .string ByteArray.empty] 51 :: []) := hH61
          refine V_y (Y_assign rfl) rfl rfl rfl ?_
          refine V_to (fun _ _ => rfl) ?_
          obtain rfl := Option.some.inj hm
          refine C_ret ?_
          try simp only [↓inBlock_ret, ↓then_ret]
          exact retQ rfl (Res.l2 Tryz.results16 (RL.cell rfl (loadVar_agg (Hp.part (off := 0) (n := 4) (ds := [.int .i64 0, .int .i64 0, .int .i64 0, .string ByteArray.empty]) hH (i := 1) rfl rfl) Tryz.isAgg51 Tryz.sizeOf51)) (RL.tmp rfl)) ⟨rfl, hK.kp⟩
        · rw [if_neg (nt hc59)] at hm
          refine C_skip_to (fun _ _ => rfl) ?_
          refine C_seq ?_
          refine C_seq ?_
          refine C_region ?_
          refine V_y (Y_move rfl) rfl rfl rfl ?_
          refine V_y (Y_eql rfl rfl) rfl rfl rfl ?_
          refine V_to (fun _ _ => rfl) ?_
          refine C_cond rfl (fun hc63 => ?_) (fun hc63 => ?_)
          · rw [if_pos hc63] at hm
            refine C_seq ?_
            refine C_region ?_
            refine V_y (Y_move rfl) rfl rfl rfl ?_
            obtain ⟨x64, hx64, hm⟩ := Option.bind_eq_some_iff.1 hm
            refine V_indexAddr h8 hx64 Tryz.underlying35 Tryz.sizeOf9 rfl rfl rfl ?_
            intro b65 o66 h67
            refine V_y (Y_load (El.str h67) Tryz.isAgg9 rfl) rfl rfl rfl ?_
            refine V_y (Y_fieldAddrC (off2 := 1) Tryz.underlying51 rfl Tryz.sizeOf49 (by decide) rfl rfl) rfl rfl rfl ?_
            refine V_y (Y_fieldAddrC (off2 := 3) Tryz.underlying49 rfl Tryz.sizeOf9 (by decide) rfl rfl) rfl rfl rfl ?_
            refine V_storeC (Dw := False) (off := 3) (ds := [.int .i64 x26.1, .int .i64 x37, .int .i64 0, .string x64]) hH (i := 0) rfl Tryz.sizeOf9 rfl (Nat.le_of_ble_eq_true rfl) (by simp [Value.cells, Value.oneCell']) rfl hB hA rfl rfl ?_
            intro w68 hH69 ht70
            replace h8 := Sl.tr (Dw := False) h8 ht70
            replace h67 := El.tr (Dw := False) h67 ht70
            replace hK := Tr.trans (Dw := False) hK ht70
            replace hB := Nat.le_trans hB ht70.ex.size
            replace hA := ht70.new
            replace hH : Hp w.heap.size A43 w68 (obC b41 [.int .i64 x26.1, .int .i64 x37, .int .i64 0, .string x64] 51 :: obC b1 [.int .i64 0, .int .i64 0, .int .i64 0, .string ByteArray.empty] 51 :: []) := hH69
            refine V_to (fun _ _ => rfl) ?_
            refine C_seq ?_
            refine C_region ?_
            refine V_y (Y_loadA (Hp.part (off := 0) (n := 4) (ds := [.int .i64 x26.1, .int .i64 x37, .int .i64 0, .string x64]) hH (i := 0) rfl rfl) Tryz.isAgg51 Tryz.sizeOf51 rfl) rfl rfl rfl ?_
            refine V_storeC (Dw := False) (off := 0) (ds := [.int .i64 x26.1, .int .i64 x37, .int .i64 0, .string x64]) hH (i := 1) rfl Tryz.sizeOf51 rfl (Nat.le_of_ble_eq_true rfl) (by simp [Value.cells, Value.oneCell']) rfl hB hA rfl rfl ?_
            intro w71 hH72 ht73
            replace hK := Tr.trans (Dw := False) hK ht73
            replace hB := Nat.le_trans hB ht73.ex.size
            replace hA := ht73.new
            replace hH : Hp w.heap.size A43 w71 (obC b41 [.int .i64 x26.1, .int .i64 x37, .int .i64 0, .string x64] 51 :: obC b1 [.int .i64 x26.1, .int .i64 x37, .int .i64 0, .string x64] 51 :: []) := hH72
            refine V_y (Y_assign rfl) rfl rfl rfl ?_
            refine V_to (fun _ _ => rfl) ?_
            obtain rfl := Option.some.inj hm
            refine C_ret ?_
            try simp only [↓inBlock_ret, ↓then_ret]
            exact retQ rfl (Res.l2 Tryz.results16 (RL.cell rfl (loadVar_agg (Hp.part (off := 0) (n := 4) (ds := [.int .i64 x26.1, .int .i64 x37, .int .i64 0, .string x64]) hH (i := 1) rfl rfl) Tryz.isAgg51 Tryz.sizeOf51)) (RL.tmp rfl)) ⟨rfl, hK.kp⟩
          · rw [if_neg (nt hc63)] at hm
            refine C_skip_to (fun _ _ => rfl) ?_
            refine C_seq ?_
            refine C_region ?_
            refine V_y (Y_move rfl) rfl rfl rfl ?_
            obtain ⟨x74, hx74, hm⟩ := Option.bind_eq_some_iff.1 hm
            refine V_indexAddr h8 hx74 Tryz.underlying35 Tryz.sizeOf9 rfl rfl rfl ?_
            intro b75 o76 h77
            refine V_y (Y_load (El.str h77) Tryz.isAgg9 rfl) rfl rfl rfl ?_
            obtain ⟨x78, hx78, hm⟩ := Option.bind_eq_some_iff.1 hm
            refine V_call Tryz.call61 rfl rfl rfl rfl (portref2_number_c w46 hA (Fz.tr (Dw := False) hT hK) x74 18 hx78) ?_
            rintro _ w79 ⟨rfl, hk80⟩
            have ht81 := Kp.tr (Dw := False) hk80 hA hB
            replace hH := Hp.kp (Dw := False) hH hk80
            replace h8 := Sl.tr (Dw := False) h8 ht81
            replace h77 := El.tr (Dw := False) h77 ht81
            replace hK := Tr.trans (Dw := False) hK ht81
            replace hB := Nat.le_trans hB ht81.ex.size
            replace hA := ht81.new
            refine V_y (Y_move rfl) rfl rfl rfl ?_
            refine V_y (Y_extract rfl rfl) rfl rfl rfl ?_
            refine V_y (Y_extract rfl rfl) rfl rfl rfl ?_
            refine V_y (Y_fieldAddrC (off2 := 1) Tryz.underlying51 rfl Tryz.sizeOf49 (by decide) rfl rfl) rfl rfl rfl ?_
            refine V_y (Y_fieldAddrC (off2 := 2) Tryz.underlying49 rfl Tryz.sizeOf3 (by decide) rfl rfl) rfl rfl rfl ?_
            refine V_storeC (Dw := False) (off := 2) (ds := [.int .i64 x26.1, .int .i64 x37, .int .i64 x78.1, .string ByteArray.empty]) hH (i := 0) rfl Tryz.sizeOf3 rfl (Nat.le_of_ble_eq_true rfl) (by simp [Value.cells, Value.oneCell']) rfl hB hA rfl rfl ?_
            intro w82 hH83 ht84
            replace h8 := Sl.tr (Dw := False) h8 ht84
            replace h77 := El.tr (Dw := False) h77 ht84
            replace hK := Tr.trans (Dw := False) hK ht84
            replace hB := Nat.le_trans hB ht84.ex.size
            replace hA := ht84.new
            replace hH : Hp w.heap.size A43 w82 (obC b41 [.int .i64 x26.1, .int .i64 x37, .int .i64 x78.1, .string ByteArray.empty] 51 :: obC b1 [.int .i64 0, .int .i64 0, .int .i64 0, .string ByteArray.empty] 51 :: []) := hH83
            refine V_y (Y_assign rfl) rfl rfl rfl ?_
            refine V_to (fun _ _ => rfl) ?_
            refine C_seq ?_
            refine C_region ?_
            refine V_y (Y_loadA (Hp.part (off := 0) (n := 4) (ds := [.int .i64 x26.1, .int .i64 x37, .int .i64 x78.1, .string ByteArray.empty]) hH (i := 0) rfl rfl) Tryz.isAgg51 Tryz.sizeOf51 rfl) rfl rfl rfl ?_
            refine V_y (Y_move rfl) rfl rfl rfl ?_
            refine V_storeC (Dw := False) (off := 0) (ds := [.int .i64 x26.1, .int .i64 x37, .int .i64 x78.1, .string ByteArray.empty]) hH (i := 1) rfl Tryz.sizeOf51 rfl (Nat.le_of_ble_eq_true rfl) (by simp [Value.cells, Value.oneCell']) rfl hB hA rfl rfl ?_
            intro w85 hH86 ht87
            replace hK := Tr.trans (Dw := False) hK ht87
            replace hB := Nat.le_trans hB ht87.ex.size
            replace hA := ht87.new
            replace hH : Hp w.heap.size A43 w85 (obC b41 [.int .i64 x26.1, .int .i64 x37, .int .i64 x78.1, .string ByteArray.empty] 51 :: obC b1 [.int .i64 x26.1, .int .i64 x37, .int .i64 x78.1, .string ByteArray.empty] 51 :: []) := hH86
            refine V_y (Y_assign rfl) rfl rfl rfl ?_
            refine V_to (fun _ _ => rfl) ?_
            obtain rfl := Option.some.inj hm
            refine C_ret ?_
            try simp only [↓inBlock_ret, ↓then_ret]
            exact retQ rfl (Res.l2 Tryz.results16 (RL.cell rfl (loadVar_agg (Hp.part (off := 0) (n := 4) (ds := [.int .i64 x26.1, .int .i64 x37, .int .i64 x78.1, .string ByteArray.empty]) hH (i := 1) rfl rfl) Tryz.isAgg51 Tryz.sizeOf51)) (RL.tmp rfl)) ⟨rfl, hK.kp⟩

set_option maxRecDepth 4000 in
set_option maxHeartbeats 4000000 in
theorem portref2_IsName_c (w : World) {A : Nat → Prop} (hA : ∀ b, w.heap.size ≤ b → A b) (s : ByteArray) {r : Bool} (hm : portref2_IsName s = some r) : Ret Tryz.prog 78 #[.string s] w fun v w' => v = .bool r ∧ Kp False w w' := by
  unfold portref2_IsName at hm
  refine enter Tryz.func78 rfl Tryz.ntmps78 rfl ?_
  have hA0 := hA
  have hB := Nat.le_refl w.heap.size
  have hK : Tr False w.heap.size A w A w := Tr.refl (Dw := False) hA
  have hH : Hp w.heap.size A w [] := Hp.nil
  refine C_seq ?_
  refine C_region ?_
  refine V_y (Y_assign rfl) rfl rfl rfl ?_
  refine V_to (fun _ _ => rfl) ?_
  refine C_seq ?_
  obtain ⟨s2, ho1, hm⟩ := Option.bind_eq_some_iff.1 hm
  refine C_cutG (ι := (Nat → Prop)) (fun (A7 : (Nat → Prop)) => [(2, .bool s2)]) (fun (A7 : (Nat → Prop)) => fun w' => Hp w.heap.size A7 w' ([]) ∧ Tr False w.heap.size A w A7 w') ?_ ?_
  · have hr3 : Tr False w.heap.size A w A w := Tr.refl (Dw := False) hA
    refine C_region ?_
    refine V_y (Y_move rfl) rfl rfl rfl ?_
    refine V_y (Y_lenStr rfl Tryz.underlying9 rfl) rfl rfl rfl ?_
    refine V_y (Y_geq rfl rfl) rfl rfl rfl ?_
    refine V_y (Y_move rfl) rfl rfl rfl ?_
    rcases Bool.eq_false_or_eq_true (decide ((1 : Int) ≤ (s.size : Int))) with hc9 | hc9
    · rw [if_pos hc9] at ho1
      refine V_ge rfl rfl rfl hc9 ?_
      refine V_y (Y_move rfl) rfl rfl rfl ?_
      refine V_ge rfl rfl rfl hc9 ?_
      refine V_y (Y_lenStr rfl Tryz.underlying9 rfl) rfl rfl rfl ?_
      refine V_ge rfl rfl rfl hc9 ?_
      refine V_y (Y_leq rfl rfl) rfl rfl rfl ?_
      refine V_y (Y_pick_te rfl hc9 rfl) rfl rfl rfl ?_
      refine V_y (Y_move rfl) rfl rfl rfl ?_
      rcases Bool.eq_false_or_eq_true (decide ((s.size : Int) ≤ 20)) with hc10 | hc10
      · rw [if_pos hc10] at ho1
        refine V_ge rfl rfl rfl hc10 ?_
        refine V_y (Y_move rfl) rfl rfl rfl ?_
        refine V_ge rfl rfl rfl hc10 ?_
        obtain ⟨x11, hx11, ho1⟩ := Option.bind_eq_some_iff.1 ho1
        refine V_call Tryz.call90 rfl rfl rfl rfl (strings_Trim_c w hA s (⟨#[97, 98, 99, 100, 101, 102, 103, 104, 105, 106, 107, 108, 109, 110, 111, 112, 113, 114, 115, 116, 117, 118, 119, 120, 121, 122, 48, 49, 50, 51, 52, 53, 54, 55, 56, 57, 95]⟩ : ByteArray) hx11) ?_
        rintro _ w12 ⟨rfl, hk13⟩
        have ht14 := Kp.tr (Dw := False) hk13 hA hB
        replace hH := Hp.kp (Dw := False) hH hk13
        replace hK := Tr.trans (Dw := False) hK ht14
        replace hr3 := Tr.trans (Dw := False) hr3 ht14
        replace hB := Nat.le_trans hB ht14.ex.size
        replace hA := ht14.new
        refine V_ge rfl rfl rfl hc10 ?_
        refine V_y (Y_seql rfl rfl) rfl rfl rfl ?_
        refine V_y (Y_pick_te rfl hc10 rfl) rfl rfl rfl ?_
        refine V_y (Y_assign rfl) rfl rfl rfl ?_
        obtain rfl := Option.some.inj ho1
        refine V_end (fun a ha15 => ?_)
        exact ⟨A, ha15.sub ⟨rfl, trivial⟩, ⟨hH, hr3⟩⟩
      · rw [if_neg (nt hc10)] at ho1
        refine V_gn rfl rfl rfl hc10 rfl rfl rfl ?_
        refine V_gn rfl rfl rfl hc10 rfl rfl rfl ?_
        refine V_gn rfl rfl rfl hc10 rfl rfl rfl ?_
        refine V_y (Y_pick_fe rfl hc10 rfl) rfl rfl rfl ?_
        refine V_y (Y_assign rfl) rfl rfl rfl ?_
        obtain rfl := Option.some.inj ho1
        refine V_end (fun a ha16 => ?_)
        exact ⟨A, ha16.sub ⟨rfl, trivial⟩, ⟨hH, hr3⟩⟩
    · rw [if_neg (nt hc9)] at ho1
      refine V_gn rfl rfl rfl hc9 rfl rfl rfl ?_
      refine V_gn rfl rfl rfl hc9 rfl rfl rfl ?_
      refine V_gn rfl rfl rfl hc9 rfl rfl rfl ?_
      refine V_y (Y_pick_fe rfl hc9 rfl) rfl rfl rfl ?_
      refine V_y (Y_move rfl) rfl rfl rfl ?_
      rcases Bool.eq_false_or_eq_true (false) with hc17 | hc17
      · rw [if_pos hc17] at ho1
        refine V_ge rfl rfl rfl hc17 ?_
        refine V_y (Y_move rfl) rfl rfl rfl ?_
        refine V_ge rfl rfl rfl hc17 ?_
        obtain ⟨x18, hx18, ho1⟩ := Option.bind_eq_some_iff.1 ho1
        refine V_call Tryz.call90 rfl rfl rfl rfl (strings_Trim_c w hA s (⟨#[97, 98, 99, 100, 101, 102, 103, 104, 105, 106, 107, 108, 109, 110, 111, 112, 113, 114, 115, 116, 117, 118, 119, 120, 121, 122, 48, 49, 50, 51, 52, 53, 54, 55, 56, 57, 95]⟩ : ByteArray) hx18) ?_
        rintro _ w19 ⟨rfl, hk20⟩
        have ht21 := Kp.tr (Dw := False) hk20 hA hB
        replace hH := Hp.kp (Dw := False) hH hk20
        replace hK := Tr.trans (Dw := False) hK ht21
        replace hr3 := Tr.trans (Dw := False) hr3 ht21
        replace hB := Nat.le_trans hB ht21.ex.size
        replace hA := ht21.new
        refine V_ge rfl rfl rfl hc17 ?_
        refine V_y (Y_seql rfl rfl) rfl rfl rfl ?_
        refine V_y (Y_pick_te rfl hc17 rfl) rfl rfl rfl ?_
        refine V_y (Y_assign rfl) rfl rfl rfl ?_
        obtain rfl := Option.some.inj ho1
        refine V_end (fun a ha22 => ?_)
        exact ⟨A, ha22.sub ⟨rfl, trivial⟩, ⟨hH, hr3⟩⟩
      · rw [if_neg (nt hc17)] at ho1
        refine V_gn rfl rfl rfl hc17 rfl rfl rfl ?_
        refine V_gn rfl rfl rfl hc17 rfl rfl rfl ?_
        refine V_gn rfl rfl rfl hc17 rfl rfl rfl ?_
        refine V_y (Y_pick_fe rfl hc17 rfl) rfl rfl rfl ?_
        refine V_y (Y_assign rfl) rfl rfl rfl ?_
        obtain rfl := Option.some.inj ho1
        refine V_end (fun a ha23 => ?_)
        exact ⟨A, ha23.sub ⟨rfl, trivial⟩, ⟨hH, hr3⟩⟩
  rintro A7 w4 ⟨hH8, hk5⟩ a ha6
  replace hK := Tr.trans (Dw := False) hK hk5
  replace hB := Nat.le_trans hB hk5.ex.size
  replace hA := hk5.new
  replace hH : Hp w.heap.size A7 w4 ([]) := hH8
  refine C_at (n := ⟨16, [], none⟩) (fun _ _ => rfl) ?_ ha6
  obtain rfl := Option.some.inj hm
  refine C_ret ?_
  try simp only [↓inBlock_ret, ↓then_ret]
  exact retQ rfl (Res.one Tryz.results78 rfl) ⟨rfl, hK.kp⟩

set_option maxRecDepth 4000 in
set_option maxHeartbeats 4000000 in
theorem slices_IndexFunc_Llevel_Level_level_Level_c (w : World) {A : Nat → Prop} (hA : ∀ b, w.heap.size ≤ b → A b) (s : (List level_Level)) (v_s : Value) (h_s : Sl A w v_s s) (f : level_Level → Option Bool) (f_f : FuncId) (f_a f_c : Array Value) (f_call : ∀ (args : Array Value) (w : World), (callFunc f_f args).run Tryz.prog w = .ok (.enter f_f args) w) (f_spec : ∀ (w1 : World) (A1 : Nat → Prop), Tr Dw w.heap.size A w A1 w1 → (∀ b, w1.heap.size ≤ b → A1 b) → ∀ (y0 : level_Level) (v1 : Value) (h2 : Sl A1 w1 v1 y0.tests) (v3 : Value) (h4 : Sl A1 w1 v3 y0.targets) (r : Bool), f y0 = some r → Ret Tryz.prog f_f (f_a ++ #[.agg #[.string y0.name, v1, v3]] ++ f_c) w1 fun v w' => v = .bool r ∧ Kp Dw w1 w') {r : Int} (hm : slices_IndexFunc_Llevel_Level_level_Level s f = some r) : Ret Tryz.prog 93 #[v_s, .func (.func f_f) f_a f_c] w fun v w' => v = .int .i64 r ∧ Kp Dw w w' := by
  unfold slices_IndexFunc_Llevel_Level_level_Level at hm
  refine enter Tryz.func93 rfl Tryz.ntmps93 rfl ?_
  have hA0 := hA
  have hB := Nat.le_refl w.heap.size
  have hK : Tr Dw w.heap.size A w A w := Tr.refl (Dw := Dw) hA
  have hH : Hp w.heap.size A w [] := Hp.nil
  refine C_seq ?_
  refine C_region ?_
  refine V_y (Y_assign rfl) rfl rfl rfl ?_
  refine V_to (fun _ _ => rfl) ?_
  refine C_seq ?_
  refine C_seq ?_
  refine C_region ?_
  refine V_y (Y_move rfl) rfl rfl rfl ?_
  refine V_y (Y_lenSl h_s rfl Tryz.underlying23 rfl) rfl rfl rfl ?_
  refine V_y (Y_move rfl) rfl rfl rfl ?_
  refine V_to (fun _ _ => rfl) ?_
  have hn23 := Sl.le h_s
  obtain ⟨o3, ho3, hm⟩ := Option.bind_eq_some_iff.1 hm
  refine C_cutG (ι := (Unit × (Nat → Prop))) (fun ⟨s4, A10⟩ => []) (fun ⟨s4, A10⟩ => fun w' => o3 = .fin s4 ∧ Hp w.heap.size A10 w' ([]) ∧ Tr Dw w.heap.size A w A10 w') ?_ ?_
  · refine C_block ?_
    refine C_range ho3 (fun k6 _ a w' => ∃ i : (Nat → Prop), Has ⟨19, [], none⟩ a ([(0, v_s), (1, .func (.func f_f) f_a f_c), (7, .int .i64 (s.length : Int)), (8, .int .i64 (k6 : Int))]) ∧ Hp w.heap.size i w' ([]) ∧ Tr Dw w.heap.size A w i w') (fun a ha => ⟨A, ha.sub ⟨rfl, rfl, rfl, rfl, trivial⟩, ⟨hH, Tr.refl (Dw := Dw) hA⟩⟩) ?_
    rintro K k6 _ a w13 ⟨A14, ha41, hH15, hr5⟩ hle19 K22 h21
    refine C_of ?_ ha41
    replace h_s := Sl.tr (Dw := Dw) h_s hr5
    replace hK := Tr.trans (Dw := Dw) hK hr5
    replace hB := Nat.le_trans hB hr5.ex.size
    replace hA := hr5.new
    replace hH : Hp w.heap.size A14 w13 ([]) := hH15
    refine C_seq (C_region (V_y (Y_lss rfl rfl) rfl rfl rfl (V_to (fun _ _ => rfl) ?_)))
    refine C_seq ?_
    refine C_cond rfl (fun hc24 => ?_) (fun hc24 => ?_)
    · have hlt20 := lt_of_dec hc24
      obtain ⟨x16, h17, h18⟩ := K22 hlt20
      refine C_skip_to (fun _ _ => rfl) ?_
      refine C_seq ?_
      refine C_block ?_
      refine C_seq ?_
      refine C_region ?_
      refine V_y (Y_move rfl) rfl rfl rfl ?_
      refine V_y (Y_assign rfl) rfl rfl rfl ?_
      refine V_to (fun _ _ => rfl) ?_
      refine C_seq ?_
      refine C_region ?_
      refine V_y (Y_move rfl) rfl rfl rfl ?_
      refine V_y (Y_move rfl) rfl rfl rfl ?_
      refine V_y (Y_move rfl) rfl rfl rfl ?_
      obtain ⟨x25, hx25, h17⟩ := Option.bind_eq_some_iff.1 h17
      refine V_indexAddr h_s hx25 Tryz.underlying23 Tryz.sizeOf46 rfl rfl rfl ?_
      intro b26 o27 h28
      obtain ⟨v29, v31, h33, h30, h32⟩ := El_level_Level h28
      refine V_y (Y_loadA h33 Tryz.isAgg46 Tryz.sizeOf46 rfl) rfl rfl rfl ?_
      obtain ⟨x34, hx34, h17⟩ := Option.bind_eq_some_iff.1 h17
      refine V_call f_call rfl rfl rfl rfl (f_spec w13 _ hK hA x25 v29 h30 v31 h32 _ hx34) ?_
      rintro _ w35 ⟨rfl, hk36⟩
      have ht37 := Kp.tr (Dw := Dw) hk36 hA hB
      replace hH := Hp.kp (Dw := Dw) hH hk36
      replace h_s := Sl.tr (Dw := Dw) h_s ht37
      replace h28 := El.tr (Dw := Dw) h28 ht37
      replace h30 := Sl.tr (Dw := Dw) h30 ht37
      replace h32 := Sl.tr (Dw := Dw) h32 ht37
      replace hK := Tr.trans (Dw := Dw) hK ht37
      replace hr5 := Tr.trans (Dw := Dw) hr5 ht37
      replace hB := Nat.le_trans hB ht37.ex.size
      replace hA := ht37.new
      refine V_to (fun _ _ => rfl) ?_
      refine C_cond rfl (fun hc38 => ?_) (fun hc38 => ?_)
      · rw [if_pos hc38] at h17
        refine C_seq ?_
        refine C_region ?_
        refine V_y (Y_move rfl) rfl rfl rfl ?_
        refine V_y (Y_assign rfl) rfl rfl rfl ?_
        refine V_to (fun _ _ => rfl) ?_
        obtain rfl := Option.some.inj h17
        obtain rfl := (h18 : Lp.rt _ = _)
        rw [Lp.andThen_rt] at hm
        obtain rfl := Option.some.inj hm
        refine C_ret ?_
        try simp only [↓inBlock_ret, ↓then_ret]
        exact retQ rfl (Res.one Tryz.results93 rfl) ⟨rfl, hK.kp⟩
      · rw [if_neg (nt hc38)] at h17
        refine C_skip_to (fun _ _ => rfl) ?_
        refine C_region ?_
        refine V_y (Y_addI rfl rfl) rfl rfl rfl ?_
        refine V_y (Y_move rfl) rfl rfl rfl ?_
        obtain rfl := Option.some.inj h17
        refine V_end (fun a ha39 => ?_)
        exact ⟨(), hlt20, h18, ⟨A14, ha39.sub ⟨rfl, rfl, rfl, (congrArg (fun z => some (Value.int .i64 z)) (w64_succ hlt20 hn23)), trivial⟩, ⟨hH, hr5⟩⟩⟩
    · refine C_exit (fun a ha40 => ?_)
      exact ⟨((), A14), ha40.sub trivial, ⟨(h21 (eq_of_dec hle19 hc24)).symm, hH, hr5⟩⟩
  rintro ⟨s4, A10⟩ w7 ⟨rfl, hH11, hk8⟩ a ha9
  rw [Lp.andThen_fin] at hm
  replace hK := Tr.trans (Dw := Dw) hK hk8
  replace hB := Nat.le_trans hB hk8.ex.size
  replace hA := hk8.new
  replace hH : Hp w.heap.size A10 w7 ([]) := hH11
  refine C_at (n := ⟨19, [], none⟩) (fun _ _ => rfl) ?_ ha9
  refine C_seq ?_
  refine C_region ?_
  refine V_y (Y_assign rfl) rfl rfl rfl ?_
  refine V_to (fun _ _ => rfl) ?_
  obtain rfl := Option.some.inj hm
  refine C_ret ?_
  try simp only [↓inBlock_ret, ↓then_ret]
  exact retQ rfl (Res.one Tryz.results93 rfl) ⟨rfl, hK.kp⟩

set_option maxRecDepth 4000 in
set_option maxHeartbeats 4000000 in
theorem slices_ContainsFunc_Llevel_Level_level_Level_c (w : World) {A : Nat → Prop} (hA : ∀ b, w.heap.size ≤ b → A b) (s : (List level_Level)) (v_s : Value) (h_s : Sl A w v_s s) (f : level_Level → Option Bool) (f_f : FuncId) (f_a f_c : Array Value) (f_call : ∀ (args : Array Value) (w : World), (callFunc f_f args).run Tryz.prog w = .ok (.enter f_f args) w) (f_spec : ∀ (w1 : World) (A1 : Nat → Prop), Tr Dw w.heap.size A w A1 w1 → (∀ b, w1.heap.size ≤ b → A1 b) → ∀ (y0 : level_Level) (v1 : Value) (h2 : Sl A1 w1 v1 y0.tests) (v3 : Value) (h4 : Sl A1 w1 v3 y0.targets) (r : Bool), f y0 = some r → Ret Tryz.prog f_f (f_a ++ #[.agg #[.string y0.name, v1, v3]] ++ f_c) w1 fun v w' => v = .bool r ∧ Kp Dw w1 w') {r : Bool} (hm : slices_ContainsFunc_Llevel_Level_level_Level s f = some r) : Ret Tryz.prog 79 #[v_s, .func (.func f_f) f_a f_c] w fun v w' => v = .bool r ∧ Kp Dw w w' := by
  unfold slices_ContainsFunc_Llevel_Level_level_Level at hm
  refine enter Tryz.func79 rfl Tryz.ntmps79 rfl ?_
  have hA0 := hA
  have hB := Nat.le_refl w.heap.size
  have hK : Tr Dw w.heap.size A w A w := Tr.refl (Dw := Dw) hA
  have hH : Hp w.heap.size A w [] := Hp.nil
  refine C_seq ?_
  refine C_region ?_
  refine V_y (Y_assign rfl) rfl rfl rfl ?_
  refine V_to (fun _ _ => rfl) ?_
  refine C_seq ?_
  refine C_region ?_
  refine V_y (Y_move rfl) rfl rfl rfl ?_
  refine V_y (Y_move rfl) rfl rfl rfl ?_
  obtain ⟨x3, hx3, hm⟩ := Option.bind_eq_some_iff.1 hm
  refine V_call Tryz.call93 rfl rfl rfl rfl (slices_IndexFunc_Llevel_Level_level_Level_c (Dw := Dw) w hA s v_s h_s f f_f f_a f_c f_call (fun w1 A1 ht => f_spec w1 A1 (Tr.trans (Dw := Dw) hK (Tr.lower (Dw := Dw) ht hB))) hx3) ?_
  rintro _ w4 ⟨rfl, hk5⟩
  have ht6 := Kp.tr (Dw := Dw) hk5 hA hB
  replace hH := Hp.kp (Dw := Dw) hH hk5
  replace h_s := Sl.tr (Dw := Dw) h_s ht6
  replace hK := Tr.trans (Dw := Dw) hK ht6
  replace hB := Nat.le_trans hB ht6.ex.size
  replace hA := ht6.new
  refine V_y (Y_geq rfl rfl) rfl rfl rfl ?_
  refine V_y (Y_assign rfl) rfl rfl rfl ?_
  refine V_to (fun _ _ => rfl) ?_
  obtain rfl := Option.some.inj hm
  refine C_ret ?_
  try simp only [↓inBlock_ret, ↓then_ret]
  exact retQ rfl (Res.one Tryz.results79 rfl) ⟨rfl, hK.kp⟩

set_option maxRecDepth 4000 in
set_option maxHeartbeats 4000000 in
theorem portref2_levelFault_1_c (w : World) {A : Nat → Prop} (hA : ∀ b, w.heap.size ≤ b → A b) (y : level_Level) (v_y0 : Value) (h_y0 : Sl A w v_y0 y.tests) (v_y1 : Value) (h_y1 : Sl A w v_y1 y.targets) (p1 : level_Level) (b_p1 : Nat) (h_p1 : El A w b_p1 0 p1) {r : Bool} (hm : portref2_levelFault_1 y p1 = some r) : Ret Tryz.prog 80 #[.agg #[.string y.name, v_y0, v_y1], .pointer (some ⟨b_p1, 0, none⟩)] w fun v w' => v = .bool r ∧ Kp Dw w w' := by
  unfold portref2_levelFault_1 at hm
  refine enter Tryz.func80 rfl Tryz.ntmps80 rfl ?_
  have hA0 := hA
  have hB := Nat.le_refl w.heap.size
  have hK : Tr Dw w.heap.size A w A w := Tr.refl (Dw := Dw) hA
  have hH : Hp w.heap.size A w [] := Hp.nil
  refine C_seq ?_
  refine C_region ?_
  refine V_box rfl rfl ?_
  intro b5 w6 h7
  have hk9 := h7.kp (Dw := Dw)
  have h8 : El (α := level_Level) A w6 b5 0 y := h7.el hA ⟨[.string y.name], _, rfl, rfl, ⟨[v_y0], _, rfl, ⟨_, rfl, h_y0⟩, ⟨_, rfl, h_y1⟩⟩⟩
  have ht10 := Kp.tr (Dw := Dw) hk9 hA hB
  replace hH := Hp.kp (Dw := Dw) hH hk9
  replace h_y0 := Sl.tr (Dw := Dw) h_y0 ht10
  replace h_y1 := Sl.tr (Dw := Dw) h_y1 ht10
  replace h_p1 := El.tr (Dw := Dw) h_p1 ht10
  replace hK := Tr.trans (Dw := Dw) hK ht10
  replace hB := Nat.le_trans hB ht10.ex.size
  replace hA := ht10.new
  refine V_y (Y_assign rfl) rfl rfl rfl ?_
  refine V_to (fun _ _ => rfl) ?_
  refine C_seq ?_
  refine C_region ?_
  have h11 := El_level_Level_0 h8
  refine V_y (Y_fieldAddr Tryz.underlying46 rfl Tryz.sizeOf9 (by decide) rfl) rfl rfl rfl ?_
  refine V_y (Y_load (El.str h11) Tryz.isAgg9 rfl) rfl rfl rfl ?_
  have h12 := El_level_Level_0 h_p1
  refine V_y (Y_fieldAddr Tryz.underlying46 rfl Tryz.sizeOf9 (by decide) rfl) rfl rfl rfl ?_
  refine V_y (Y_load (El.str h12) Tryz.isAgg9 rfl) rfl rfl rfl ?_
  refine V_y (Y_seql rfl rfl) rfl rfl rfl ?_
  refine V_y (Y_assign rfl) rfl rfl rfl ?_
  refine V_to (fun _ _ => rfl) ?_
  obtain rfl := Option.some.inj hm
  refine C_ret ?_
  try simp only [↓inBlock_ret, ↓then_ret]
  exact retQ rfl (Res.one Tryz.results80 rfl) ⟨rfl, hK.kp⟩

set_option maxRecDepth 4000 in
set_option maxHeartbeats 4000000 in
theorem portref2_IsMoment_c (w : World) (m : Int) : Ret Tryz.prog 94 #[.int .i64 m] w fun v w' => v = .bool (portref2_IsMoment m) ∧ w = w' := by
  generalize hm : portref2_IsMoment m = r
  unfold portref2_IsMoment at hm
  refine enter Tryz.func94 rfl Tryz.ntmps94 rfl ?_
  refine C_seq ?_
  refine C_region ?_
  refine V_y (Y_assign rfl) rfl rfl rfl ?_
  refine V_to (fun _ _ => rfl) ?_
  refine C_seq ?_
  refine C_region ?_
  refine V_y (Y_move rfl) rfl rfl rfl ?_
  refine V_y (Y_geq rfl rfl) rfl rfl rfl ?_
  refine V_y (Y_move rfl) rfl rfl rfl ?_
  refine V_cut 3 (fun _ : Unit => [(8, .bool ((decide ((0 : Int) ≤ m)) && (decide (m ≤ 3000000))))]) (fun _ w' => w = w') ?_ ?_
  · simp only [List.take, List.drop]
    rcases Bool.eq_false_or_eq_true (decide ((0 : Int) ≤ m)) with hc1 | hc1
    · refine V_ge rfl rfl rfl hc1 ?_
      refine V_y (Y_move rfl) rfl rfl rfl ?_
      refine V_ge rfl rfl rfl hc1 ?_
      refine V_y (Y_leq rfl rfl) rfl rfl rfl ?_
      refine V_y (Y_pick_te rfl hc1 rfl) rfl rfl rfl ?_
      exact V_end fun a ha => ⟨(), ha.sub ⟨(by rw [hc1]; rfl), trivial⟩, rfl⟩
    · refine V_gn rfl rfl rfl hc1 rfl rfl rfl ?_
      refine V_gn rfl rfl rfl hc1 rfl rfl rfl ?_
      refine V_y (Y_pick_fe rfl hc1 rfl) rfl rfl rfl ?_
      exact V_end fun a ha => ⟨(), ha.sub ⟨(by rw [hc1]; rfl), trivial⟩, rfl⟩
  simp only [List.take, List.drop]
  rintro _ _ rfl
  refine V_y (Y_assign rfl) rfl rfl rfl ?_
  refine V_to (fun _ _ => rfl) ?_
  obtain rfl := hm
  refine C_ret ?_
  try simp only [↓inBlock_ret, ↓then_ret]
  exact retQ rfl (Res.one Tryz.results94 rfl) ⟨rfl, rfl⟩

set_option maxRecDepth 4000 in
set_option maxHeartbeats 4000000 in
theorem portref2_lowByte_1_c (w : World) (r_ : Int) : Ret Tryz.prog 113 #[.int .i32 r_] w fun v w' => v = .bool (portref2_lowByte_1 r_) ∧ w = w' := by
  generalize hm : portref2_lowByte_1 r_ = r
  unfold portref2_lowByte_1 at hm
  refine enter Tryz.func113 rfl Tryz.ntmps113 rfl ?_
  refine C_seq ?_
  refine C_region ?_
  refine V_y (Y_assign rfl) rfl rfl rfl ?_
  refine V_to (fun _ _ => rfl) ?_
  refine C_seq ?_
  refine C_region ?_
  refine V_y (Y_move rfl) rfl rfl rfl ?_
  refine V_y (Y_lss rfl rfl) rfl rfl rfl ?_
  refine V_y (Y_move rfl) rfl rfl rfl ?_
  refine V_cut 3 (fun _ : Unit => [(8, .bool ((decide (r_ < 32)) || (r_ == 127)))]) (fun _ w' => w = w') ?_ ?_
  · simp only [List.take, List.drop]
    rcases Bool.eq_false_or_eq_true (decide (r_ < 32)) with hc1 | hc1
    · refine V_gn rfl rfl rfl hc1 rfl rfl rfl ?_
      refine V_gn rfl rfl rfl hc1 rfl rfl rfl ?_
      refine V_y (Y_pick_te rfl hc1 rfl) rfl rfl rfl ?_
      exact V_end fun a ha => ⟨(), ha.sub ⟨(by rw [hc1]; rfl), trivial⟩, rfl⟩
    · refine V_ge rfl rfl rfl hc1 ?_
      refine V_y (Y_move rfl) rfl rfl rfl ?_
      refine V_ge rfl rfl rfl hc1 ?_
      refine V_y (Y_eql rfl rfl) rfl rfl rfl ?_
      refine V_y (Y_pick_fe rfl hc1 rfl) rfl rfl rfl ?_
      exact V_end fun a ha => ⟨(), ha.sub ⟨(by rw [hc1]; rfl), trivial⟩, rfl⟩
  simp only [List.take, List.drop]
  rintro _ _ rfl
  refine V_y (Y_assign rfl) rfl rfl rfl ?_
  refine V_to (fun _ _ => rfl) ?_
  obtain rfl := hm
  refine C_ret ?_
  try simp only [↓inBlock_ret, ↓then_ret]
  exact retQ rfl (Res.one Tryz.results113 rfl) ⟨rfl, rfl⟩

set_option maxRecDepth 4000 in
set_option maxHeartbeats 4000000 in
theorem portref2_lowByte_c (w : World) {A : Nat → Prop} (hA : ∀ b, w.heap.size ≤ b → A b) (s : ByteArray) {r : Bool} (hm : portref2_lowByte s = some r) : Ret Tryz.prog 95 #[.string s] w fun v w' => v = .bool r ∧ Kp False w w' := by
  unfold portref2_lowByte at hm
  refine enter Tryz.func95 rfl Tryz.ntmps95 rfl ?_
  have hA0 := hA
  have hB := Nat.le_refl w.heap.size
  have hK : Tr False w.heap.size A w A w := Tr.refl (Dw := False) hA
  have hH : Hp w.heap.size A w [] := Hp.nil
  refine C_seq ?_
  refine C_region ?_
  refine V_y (Y_assign rfl) rfl rfl rfl ?_
  refine V_to (fun _ _ => rfl) ?_
  refine C_seq ?_
  refine C_region ?_
  refine V_y (Y_move rfl) rfl rfl rfl ?_
  refine V_call Tryz.call112 rfl rfl rfl rfl (contains_wrap (Go.Proofs.Any.strings_ContainsFunc_grows Tryz_contains_lay 113 #[] (fun args w => Tryz.call113 args w) (fun y => portref2_lowByte_1 (y : Int)) s w (fun W x _ _ => Calls.mono (portref2_lowByte_1_c W (x : Int)) fun _ _ h => contains_fn h))) ?_
  rintro _ w1 ⟨rfl, hk2⟩
  have ht3 := Kp.tr (Dw := False) hk2 hA hB
  replace hH := Hp.kp (Dw := False) hH hk2
  replace hK := Tr.trans (Dw := False) hK ht3
  replace hB := Nat.le_trans hB ht3.ex.size
  replace hA := ht3.new
  refine V_y (Y_assign rfl) rfl rfl rfl ?_
  refine V_to (fun _ _ => rfl) ?_
  obtain rfl := Option.some.inj hm
  refine C_ret ?_
  try simp only [↓inBlock_ret, ↓then_ret]
  exact retQ rfl (Res.one Tryz.results95 rfl) ⟨rfl, hK.kp⟩

set_option maxRecDepth 4000 in
set_option maxHeartbeats 4000000 in
theorem portref2_testFault_c (w : World) {A : Nat → Prop} (hA : ∀ b, w.heap.size ≤ b → A b) (t : level_Test) {r : Int} (hm : portref2_testFault t = some r) : Ret Tryz.prog 81 #[.agg #[.int .i64 t.field, .int .i64 t.value.kind, .int .i64 t.value.int, .string t.value.text]] w fun v w' => v = .int .i64 r ∧ Kp False w w' := by
  unfold portref2_testFault at hm
  refine enter Tryz.func81 rfl Tryz.ntmps81 rfl ?_
  have hA0 := hA
  have hB := Nat.le_refl w.heap.size
  have hK : Tr False w.heap.size A w A w := Tr.refl (Dw := False) hA
  have hH : Hp w.heap.size A w [] := Hp.nil
  refine C_seq ?_
  refine C_region ?_
  refine V_box rfl rfl ?_
  intro b1 w2 h3
  have hk5 := h3.kp (Dw := False)
  have h4 : El (α := level_Test) A w2 b1 0 t := h3.el hA ⟨[.int .i64 t.field], _, rfl, rfl, ⟨[.int .i64 t.value.kind], _, rfl, rfl, ⟨[.int .i64 t.value.int], _, rfl, rfl, rfl⟩⟩⟩
  have ht6 := Kp.tr (Dw := False) hk5 hA hB
  replace hH := Hp.kp (Dw := False) hH hk5
  replace hK := Tr.trans (Dw := False) hK ht6
  replace hB := Nat.le_trans hB ht6.ex.size
  replace hA := ht6.new
  refine V_y (Y_assign rfl) rfl rfl rfl ?_
  refine V_to (fun _ _ => rfl) ?_
  refine C_seq ?_
  refine C_region ?_
  have h7 := El_level_Test_1 h4
  refine V_y (Y_fieldAddr Tryz.underlying51 rfl Tryz.sizeOf49 (by decide) rfl) rfl rfl rfl ?_
  obtain ⟨h8, _⟩ := El_api_Value h7
  refine V_y (Y_loadA h8 Tryz.isAgg49 Tryz.sizeOf49 rfl) rfl rfl rfl ?_
  refine V_alloc Tryz.zeroValue49 rfl ?_
  intro b9 w10 h11
  refine V_storeNew h11 Tryz.sizeOf49 rfl rfl rfl rfl (by exact (List.forall_mem_cons.2 ⟨rfl, (List.forall_mem_cons.2 ⟨rfl, (List.forall_mem_cons.2 ⟨rfl, (fun _ h => nomatch h)⟩)⟩)⟩)) ?_
  intro w12 h13
  have hk15 := h13.kp (Dw := False)
  have h14 : El (α := api_Value) A w12 b9 0 t.value := h13.el hA ⟨[.int .i64 t.value.kind], _, rfl, rfl, ⟨[.int .i64 t.value.int], _, rfl, rfl, rfl⟩⟩
  have ht16 := Kp.tr (Dw := False) hk15 hA hB
  replace hH := Hp.kp (Dw := False) hH hk15
  replace h4 := El.tr (Dw := False) h4 ht16
  replace h7 := El.tr (Dw := False) h7 ht16
  replace hK := Tr.trans (Dw := False) hK ht16
  replace hB := Nat.le_trans hB ht16.ex.size
  replace hA := ht16.new
  refine V_to (fun _ _ => rfl) ?_
  refine C_seq ?_
  refine C_block ?_
  refine C_seq ?_
  refine C_region ?_
  have h17 := El_api_Value_0 h14
  refine V_y (Y_fieldAddr Tryz.underlying49 rfl Tryz.sizeOf3 (by decide) rfl) rfl rfl rfl ?_
  refine V_y (Y_load (El.int h17) Tryz.isAgg3 rfl) rfl rfl rfl ?_
  refine V_y (Y_lss rfl rfl) rfl rfl rfl ?_
  refine V_y (Y_move rfl) rfl rfl rfl ?_
  refine V_cut 4 (fun _ : Unit => [(1, .pointer (some ⟨b1, 0, none⟩)), (3, .pointer (some ⟨b9, 0, none⟩)), (14, .bool ((decide (t.value.kind < 0)) || (decide ((6 : Int) < t.value.kind))))]) (fun _ w' => w12 = w') ?_ ?_
  · simp only [List.take, List.drop]
    rcases Bool.eq_false_or_eq_true (decide (t.value.kind < 0)) with hc18 | hc18
    · refine V_gn rfl rfl rfl hc18 rfl rfl rfl ?_
      refine V_gn rfl rfl rfl hc18 rfl rfl rfl ?_
      refine V_gn rfl rfl rfl hc18 rfl rfl rfl ?_
      refine V_y (Y_pick_te rfl hc18 rfl) rfl rfl rfl ?_
      exact V_end fun a ha => ⟨(), ha.sub ⟨rfl, rfl, (by rw [hc18]; rfl), trivial⟩, rfl⟩
    · refine V_ge rfl rfl rfl hc18 ?_
      have h20 := El_api_Value_0 h14
      refine V_y (Y_fieldAddr Tryz.underlying49 rfl Tryz.sizeOf3 (by decide) rfl) rfl rfl rfl ?_
      refine V_ge rfl rfl rfl hc18 ?_
      refine V_y (Y_load (El.int h20) Tryz.isAgg3 rfl) rfl rfl rfl ?_
      refine V_ge rfl rfl rfl hc18 ?_
      refine V_y (Y_gtr rfl rfl) rfl rfl rfl ?_
      refine V_y (Y_pick_fe rfl hc18 rfl) rfl rfl rfl ?_
      exact V_end fun a ha => ⟨(), ha.sub ⟨rfl, rfl, (by rw [hc18]; rfl), trivial⟩, rfl⟩
  simp only [List.take, List.drop]
  rintro _ _ rfl
  refine V_y (Y_move rfl) rfl rfl rfl ?_
  refine V_cut 9 (fun _ : Unit => [(3, .pointer (some ⟨b9, 0, none⟩)), (24, .bool (((decide (t.value.kind < 0)) || (decide ((6 : Int) < t.value.kind))) || ((decide (t.field < 0)) && (t.value.kind != 2))))]) (fun _ w' => w12 = w') ?_ ?_
  · simp only [List.take, List.drop]
    rcases Bool.eq_false_or_eq_true (((decide (t.value.kind < 0)) || (decide ((6 : Int) < t.value.kind)))) with hc21 | hc21
    · refine V_gn rfl rfl rfl hc21 rfl rfl rfl ?_
      refine V_gn rfl rfl rfl hc21 rfl rfl rfl ?_
      refine V_gn rfl rfl rfl hc21 rfl rfl rfl ?_
      refine V_gn rfl rfl rfl hc21 rfl rfl rfl ?_
      refine V_gu rfl rfl rfl rfl rfl ?_
      refine V_gu rfl rfl rfl rfl rfl ?_
      refine V_gu rfl rfl rfl rfl rfl ?_
      refine V_gn rfl rfl rfl hc21 rfl rfl rfl ?_
      refine V_y (Y_pick_te rfl hc21 rfl) rfl rfl rfl ?_
      exact V_end fun a ha => ⟨(), ha.sub ⟨rfl, (by rw [hc21]; rfl), trivial⟩, rfl⟩
    · refine V_ge rfl rfl rfl hc21 ?_
      have h23 := El_level_Test_0 h4
      refine V_y (Y_fieldAddr Tryz.underlying51 rfl Tryz.sizeOf3 (by decide) rfl) rfl rfl rfl ?_
      refine V_ge rfl rfl rfl hc21 ?_
      refine V_y (Y_load (El.int h23) Tryz.isAgg3 rfl) rfl rfl rfl ?_
      refine V_ge rfl rfl rfl hc21 ?_
      refine V_y (Y_lss rfl rfl) rfl rfl rfl ?_
      refine V_ge rfl rfl rfl hc21 ?_
      refine V_y (Y_move rfl) rfl rfl rfl ?_
      refine V_cut 4 (fun _ : Unit => [(3, .pointer (some ⟨b9, 0, none⟩)), (15, .bool ((decide (t.value.kind < 0)) || (decide ((6 : Int) < t.value.kind)))), (23, .bool ((decide (t.field < 0)) && (t.value.kind != 2)))]) (fun _ w' => w12 = w') ?_ ?_
      · simp only [List.take, List.drop]
        rcases Bool.eq_false_or_eq_true (decide (t.field < 0)) with hc24 | hc24
        · refine V_ge rfl rfl rfl hc24 ?_
          have h26 := El_api_Value_0 h14
          refine V_y (Y_fieldAddr Tryz.underlying49 rfl Tryz.sizeOf3 (by decide) rfl) rfl rfl rfl ?_
          refine V_ge rfl rfl rfl hc24 ?_
          refine V_y (Y_load (El.int h26) Tryz.isAgg3 rfl) rfl rfl rfl ?_
          refine V_ge rfl rfl rfl hc24 ?_
          refine V_y (Y_neq rfl rfl) rfl rfl rfl ?_
          refine V_ge rfl rfl rfl hc21 ?_
          refine V_y (Y_pick_te rfl hc24 rfl) rfl rfl rfl ?_
          exact V_end fun a ha => ⟨(), ha.sub ⟨rfl, rfl, (by rw [hc24]; rfl), trivial⟩, rfl⟩
        · refine V_gn rfl rfl rfl hc24 rfl rfl rfl ?_
          refine V_gn rfl rfl rfl hc24 rfl rfl rfl ?_
          refine V_gn rfl rfl rfl hc24 rfl rfl rfl ?_
          refine V_ge rfl rfl rfl hc21 ?_
          refine V_y (Y_pick_fe rfl hc24 rfl) rfl rfl rfl ?_
          exact V_end fun a ha => ⟨(), ha.sub ⟨rfl, rfl, (by rw [hc24]; rfl), trivial⟩, rfl⟩
      simp only [List.take, List.drop]
      rintro _ _ rfl
      refine V_y (Y_pick_fe rfl hc21 rfl) rfl rfl rfl ?_
      exact V_end fun a ha => ⟨(), ha.sub ⟨rfl, (by rw [hc21]; rfl), trivial⟩, rfl⟩
  simp only [List.take, List.drop]
  rintro _ _ rfl
  refine V_y (Y_assign rfl) rfl rfl rfl ?_
  refine V_to (fun _ _ => rfl) ?_
  refine C_cond rfl (fun hc27 => ?_) (fun hc27 => ?_)
  · rw [if_pos hc27] at hm
    refine C_seq ?_
    refine C_region ?_
    refine V_y (Y_assign rfl) rfl rfl rfl ?_
    refine V_to (fun _ _ => rfl) ?_
    obtain rfl := Option.some.inj hm
    refine C_ret ?_
    try simp only [↓inBlock_ret, ↓then_ret]
    exact retQ rfl (Res.one Tryz.results81 rfl) ⟨rfl, hK.kp⟩
  · rw [if_neg (nt hc27)] at hm
    refine C_seq ?_
    refine C_seq ?_
    refine C_region ?_
    have h28 := El_api_Value_2 h14
    refine V_y (Y_fieldAddr Tryz.underlying49 rfl Tryz.sizeOf9 (by decide) rfl) rfl rfl rfl ?_
    refine V_y (Y_load (El.str h28) Tryz.isAgg9 rfl) rfl rfl rfl ?_
    refine V_y (Y_sneq rfl rfl) rfl rfl rfl ?_
    refine V_y (Y_move rfl) rfl rfl rfl ?_
    refine V_cut 4 (fun _ : Unit => [(3, .pointer (some ⟨b9, 0, none⟩)), (33, .bool ((!(strEq t.value.text (⟨#[]⟩ : ByteArray))) && (t.value.kind != 3)))]) (fun _ w' => w12 = w') ?_ ?_
    · simp only [List.take, List.drop]
      rcases Bool.eq_false_or_eq_true (!(strEq t.value.text (⟨#[]⟩ : ByteArray))) with hc29 | hc29
      · refine V_ge rfl rfl rfl hc29 ?_
        have h31 := El_api_Value_0 h14
        refine V_y (Y_fieldAddr Tryz.underlying49 rfl Tryz.sizeOf3 (by decide) rfl) rfl rfl rfl ?_
        refine V_ge rfl rfl rfl hc29 ?_
        refine V_y (Y_load (El.int h31) Tryz.isAgg3 rfl) rfl rfl rfl ?_
        refine V_ge rfl rfl rfl hc29 ?_
        refine V_y (Y_neq rfl rfl) rfl rfl rfl ?_
        refine V_y (Y_pick_te rfl hc29 rfl) rfl rfl rfl ?_
        exact V_end fun a ha => ⟨(), ha.sub ⟨rfl, (by rw [hc29]; rfl), trivial⟩, rfl⟩
      · refine V_gn rfl rfl rfl hc29 rfl rfl rfl ?_
        refine V_gn rfl rfl rfl hc29 rfl rfl rfl ?_
        refine V_gn rfl rfl rfl hc29 rfl rfl rfl ?_
        refine V_y (Y_pick_fe rfl hc29 rfl) rfl rfl rfl ?_
        exact V_end fun a ha => ⟨(), ha.sub ⟨rfl, (by rw [hc29]; rfl), trivial⟩, rfl⟩
    simp only [List.take, List.drop]
    rintro _ _ rfl
    refine V_y (Y_assign rfl) rfl rfl rfl ?_
    refine V_to (fun _ _ => rfl) ?_
    obtain ⟨s33, ho32, hm⟩ := Option.bind_eq_some_iff.1 hm
    refine C_cutG (ι := Unit) (fun (_ : Unit) => [(3, .pointer (some ⟨b9, 0, none⟩)), (25, .bool s33)]) (fun (_ : Unit) => fun w' => w12 = w') ?_ ?_
    · refine C_cond rfl (fun hc38 => ?_) (fun hc38 => ?_)
      · rw [if_pos hc38] at ho32
        obtain rfl := Option.some.inj ho32
        refine C_skip (fun a ha39 => ?_)
        exact ⟨(), ha39.sub ⟨rfl, rfl, trivial⟩, rfl⟩
      · rw [if_neg (nt hc38)] at ho32
        refine C_region ?_
        have h40 := El_api_Value_1 h14
        refine V_y (Y_fieldAddr Tryz.underlying49 rfl Tryz.sizeOf3 (by decide) rfl) rfl rfl rfl ?_
        refine V_y (Y_load (El.int h40) Tryz.isAgg3 rfl) rfl rfl rfl ?_
        refine V_y (Y_neq rfl rfl) rfl rfl rfl ?_
        refine V_y (Y_move rfl) rfl rfl rfl ?_
        refine V_cut 9 (fun _ : Unit => [(3, .pointer (some ⟨b9, 0, none⟩)), (46, .bool ((t.value.int != 0) && ((t.value.kind == 3) || (t.value.kind == 0))))]) (fun _ w' => w12 = w') ?_ ?_
        · simp only [List.take, List.drop]
          rcases Bool.eq_false_or_eq_true (t.value.int != 0) with hc41 | hc41
          · refine V_ge rfl rfl rfl hc41 ?_
            have h43 := El_api_Value_0 h14
            refine V_y (Y_fieldAddr Tryz.underlying49 rfl Tryz.sizeOf3 (by decide) rfl) rfl rfl rfl ?_
            refine V_ge rfl rfl rfl hc41 ?_
            refine V_y (Y_load (El.int h43) Tryz.isAgg3 rfl) rfl rfl rfl ?_
            refine V_ge rfl rfl rfl hc41 ?_
            refine V_y (Y_eql rfl rfl) rfl rfl rfl ?_
            refine V_ge rfl rfl rfl hc41 ?_
            refine V_y (Y_move rfl) rfl rfl rfl ?_
            refine V_cut 4 (fun _ : Unit => [(3, .pointer (some ⟨b9, 0, none⟩)), (37, .bool (t.value.int != 0)), (45, .bool ((t.value.kind == 3) || (t.value.kind == 0)))]) (fun _ w' => w12 = w') ?_ ?_
            · simp only [List.take, List.drop]
              rcases Bool.eq_false_or_eq_true (t.value.kind == 3) with hc44 | hc44
              · refine V_gn rfl rfl rfl hc44 rfl rfl rfl ?_
                refine V_gn rfl rfl rfl hc44 rfl rfl rfl ?_
                refine V_gn rfl rfl rfl hc44 rfl rfl rfl ?_
                refine V_ge rfl rfl rfl hc41 ?_
                refine V_y (Y_pick_te rfl hc44 rfl) rfl rfl rfl ?_
                exact V_end fun a ha => ⟨(), ha.sub ⟨rfl, rfl, (by rw [hc44]; rfl), trivial⟩, rfl⟩
              · refine V_ge rfl rfl rfl hc44 ?_
                have h46 := El_api_Value_0 h14
                refine V_y (Y_fieldAddr Tryz.underlying49 rfl Tryz.sizeOf3 (by decide) rfl) rfl rfl rfl ?_
                refine V_ge rfl rfl rfl hc44 ?_
                refine V_y (Y_load (El.int h46) Tryz.isAgg3 rfl) rfl rfl rfl ?_
                refine V_ge rfl rfl rfl hc44 ?_
                refine V_y (Y_eql rfl rfl) rfl rfl rfl ?_
                refine V_ge rfl rfl rfl hc41 ?_
                refine V_y (Y_pick_fe rfl hc44 rfl) rfl rfl rfl ?_
                exact V_end fun a ha => ⟨(), ha.sub ⟨rfl, rfl, (by rw [hc44]; rfl), trivial⟩, rfl⟩
            simp only [List.take, List.drop]
            rintro _ _ rfl
            refine V_y (Y_pick_te rfl hc41 rfl) rfl rfl rfl ?_
            exact V_end fun a ha => ⟨(), ha.sub ⟨rfl, (by rw [hc41]; rfl), trivial⟩, rfl⟩
          · refine V_gn rfl rfl rfl hc41 rfl rfl rfl ?_
            refine V_gn rfl rfl rfl hc41 rfl rfl rfl ?_
            refine V_gn rfl rfl rfl hc41 rfl rfl rfl ?_
            refine V_gn rfl rfl rfl hc41 rfl rfl rfl ?_
            refine V_gu rfl rfl rfl rfl rfl ?_
            refine V_gu rfl rfl rfl rfl rfl ?_
            refine V_gu rfl rfl rfl rfl rfl ?_
            refine V_gn rfl rfl rfl hc41 rfl rfl rfl ?_
            refine V_y (Y_pick_fe rfl hc41 rfl) rfl rfl rfl ?_
            exact V_end fun a ha => ⟨(), ha.sub ⟨rfl, (by rw [hc41]; rfl), trivial⟩, rfl⟩
        simp only [List.take, List.drop]
        rintro _ _ rfl
        refine V_y (Y_assign rfl) rfl rfl rfl ?_
        obtain rfl := Option.some.inj ho32
        refine V_end (fun a ha47 => ?_)
        exact ⟨(), ha47.sub ⟨rfl, rfl, trivial⟩, rfl⟩
    rintro _ _ rfl a ha37
    refine C_at (n := ⟨105, [], none⟩) (fun _ _ => rfl) ?_ ha37
    refine C_cond rfl (fun hc48 => ?_) (fun hc48 => ?_)
    · rw [if_pos hc48] at hm
      refine C_seq ?_
      refine C_region ?_
      refine V_y (Y_assign rfl) rfl rfl rfl ?_
      refine V_to (fun _ _ => rfl) ?_
      obtain rfl := Option.some.inj hm
      refine C_ret ?_
      try simp only [↓inBlock_ret, ↓then_ret]
      exact retQ rfl (Res.one Tryz.results81 rfl) ⟨rfl, hK.kp⟩
    · rw [if_neg (nt hc48)] at hm
      refine C_seq ?_
      refine C_seq ?_
      refine C_region ?_
      have h49 := El_api_Value_0 h14
      refine V_y (Y_fieldAddr Tryz.underlying49 rfl Tryz.sizeOf3 (by decide) rfl) rfl rfl rfl ?_
      refine V_y (Y_load (El.int h49) Tryz.isAgg3 rfl) rfl rfl rfl ?_
      refine V_y (Y_eql rfl rfl) rfl rfl rfl ?_
      refine V_y (Y_move rfl) rfl rfl rfl ?_
      refine V_cut 4 (fun _ : Unit => [(3, .pointer (some ⟨b9, 0, none⟩)), (55, .bool ((t.value.kind == 1) && (t.value.int != 0)))]) (fun _ w' => w12 = w') ?_ ?_
      · simp only [List.take, List.drop]
        rcases Bool.eq_false_or_eq_true (t.value.kind == 1) with hc50 | hc50
        · refine V_ge rfl rfl rfl hc50 ?_
          have h52 := El_api_Value_1 h14
          refine V_y (Y_fieldAddr Tryz.underlying49 rfl Tryz.sizeOf3 (by decide) rfl) rfl rfl rfl ?_
          refine V_ge rfl rfl rfl hc50 ?_
          refine V_y (Y_load (El.int h52) Tryz.isAgg3 rfl) rfl rfl rfl ?_
          refine V_ge rfl rfl rfl hc50 ?_
          refine V_y (Y_neq rfl rfl) rfl rfl rfl ?_
          refine V_y (Y_pick_te rfl hc50 rfl) rfl rfl rfl ?_
          exact V_end fun a ha => ⟨(), ha.sub ⟨rfl, (by rw [hc50]; rfl), trivial⟩, rfl⟩
        · refine V_gn rfl rfl rfl hc50 rfl rfl rfl ?_
          refine V_gn rfl rfl rfl hc50 rfl rfl rfl ?_
          refine V_gn rfl rfl rfl hc50 rfl rfl rfl ?_
          refine V_y (Y_pick_fe rfl hc50 rfl) rfl rfl rfl ?_
          exact V_end fun a ha => ⟨(), ha.sub ⟨rfl, (by rw [hc50]; rfl), trivial⟩, rfl⟩
      simp only [List.take, List.drop]
      rintro _ _ rfl
      refine V_y (Y_move rfl) rfl rfl rfl ?_
      refine V_cut 4 (fun _ : Unit => [(3, .pointer (some ⟨b9, 0, none⟩)), (60, .bool (((t.value.kind == 1) && (t.value.int != 0)) && (t.value.int != 1)))]) (fun _ w' => w12 = w') ?_ ?_
      · simp only [List.take, List.drop]
        rcases Bool.eq_false_or_eq_true (((t.value.kind == 1) && (t.value.int != 0))) with hc53 | hc53
        · refine V_ge rfl rfl rfl hc53 ?_
          have h55 := El_api_Value_1 h14
          refine V_y (Y_fieldAddr Tryz.underlying49 rfl Tryz.sizeOf3 (by decide) rfl) rfl rfl rfl ?_
          refine V_ge rfl rfl rfl hc53 ?_
          refine V_y (Y_load (El.int h55) Tryz.isAgg3 rfl) rfl rfl rfl ?_
          refine V_ge rfl rfl rfl hc53 ?_
          refine V_y (Y_neq rfl rfl) rfl rfl rfl ?_
          refine V_y (Y_pick_te rfl hc53 rfl) rfl rfl rfl ?_
          exact V_end fun a ha => ⟨(), ha.sub ⟨rfl, (by rw [hc53]; rfl), trivial⟩, rfl⟩
        · refine V_gn rfl rfl rfl hc53 rfl rfl rfl ?_
          refine V_gn rfl rfl rfl hc53 rfl rfl rfl ?_
          refine V_gn rfl rfl rfl hc53 rfl rfl rfl ?_
          refine V_y (Y_pick_fe rfl hc53 rfl) rfl rfl rfl ?_
          exact V_end fun a ha => ⟨(), ha.sub ⟨rfl, (by rw [hc53]; rfl), trivial⟩, rfl⟩
      simp only [List.take, List.drop]
      rintro _ _ rfl
      refine V_y (Y_assign rfl) rfl rfl rfl ?_
      refine V_to (fun _ _ => rfl) ?_
      obtain ⟨s57, ho56, hm⟩ := Option.bind_eq_some_iff.1 hm
      refine C_cutG (ι := Unit) (fun (_ : Unit) => [(3, .pointer (some ⟨b9, 0, none⟩)), (47, .bool s57)]) (fun (_ : Unit) => fun w' => w12 = w') ?_ ?_
      · refine C_cond rfl (fun hc62 => ?_) (fun hc62 => ?_)
        · rw [if_pos hc62] at ho56
          obtain rfl := Option.some.inj ho56
          refine C_skip (fun a ha63 => ?_)
          exact ⟨(), ha63.sub ⟨rfl, rfl, trivial⟩, rfl⟩
        · rw [if_neg (nt hc62)] at ho56
          refine C_seq ?_
          refine C_region ?_
          have h64 := El_api_Value_0 h14
          refine V_y (Y_fieldAddr Tryz.underlying49 rfl Tryz.sizeOf3 (by decide) rfl) rfl rfl rfl ?_
          refine V_y (Y_load (El.int h64) Tryz.isAgg3 rfl) rfl rfl rfl ?_
          refine V_y (Y_eql rfl rfl) rfl rfl rfl ?_
          refine V_y (Y_move rfl) rfl rfl rfl ?_
          refine V_cut 9 (fun _ : Unit => [(3, .pointer (some ⟨b9, 0, none⟩)), (73, .bool ((t.value.kind == 4) && ((decide (t.value.int < 0)) || (decide ((20 : Int) ≤ t.value.int)))))]) (fun _ w' => w12 = w') ?_ ?_
          · simp only [List.take, List.drop]
            rcases Bool.eq_false_or_eq_true (t.value.kind == 4) with hc65 | hc65
            · refine V_ge rfl rfl rfl hc65 ?_
              have h67 := El_api_Value_1 h14
              refine V_y (Y_fieldAddr Tryz.underlying49 rfl Tryz.sizeOf3 (by decide) rfl) rfl rfl rfl ?_
              refine V_ge rfl rfl rfl hc65 ?_
              refine V_y (Y_load (El.int h67) Tryz.isAgg3 rfl) rfl rfl rfl ?_
              refine V_ge rfl rfl rfl hc65 ?_
              refine V_y (Y_lss rfl rfl) rfl rfl rfl ?_
              refine V_ge rfl rfl rfl hc65 ?_
              refine V_y (Y_move rfl) rfl rfl rfl ?_
              refine V_cut 4 (fun _ : Unit => [(3, .pointer (some ⟨b9, 0, none⟩)), (64, .bool (t.value.kind == 4)), (72, .bool ((decide (t.value.int < 0)) || (decide ((20 : Int) ≤ t.value.int))))]) (fun _ w' => w12 = w') ?_ ?_
              · simp only [List.take, List.drop]
                rcases Bool.eq_false_or_eq_true (decide (t.value.int < 0)) with hc68 | hc68
                · refine V_gn rfl rfl rfl hc68 rfl rfl rfl ?_
                  refine V_gn rfl rfl rfl hc68 rfl rfl rfl ?_
                  refine V_gn rfl rfl rfl hc68 rfl rfl rfl ?_
                  refine V_ge rfl rfl rfl hc65 ?_
                  refine V_y (Y_pick_te rfl hc68 rfl) rfl rfl rfl ?_
                  exact V_end fun a ha => ⟨(), ha.sub ⟨rfl, rfl, (by rw [hc68]; rfl), trivial⟩, rfl⟩
                · refine V_ge rfl rfl rfl hc68 ?_
                  have h70 := El_api_Value_1 h14
                  refine V_y (Y_fieldAddr Tryz.underlying49 rfl Tryz.sizeOf3 (by decide) rfl) rfl rfl rfl ?_
                  refine V_ge rfl rfl rfl hc68 ?_
                  refine V_y (Y_load (El.int h70) Tryz.isAgg3 rfl) rfl rfl rfl ?_
                  refine V_ge rfl rfl rfl hc68 ?_
                  refine V_y (Y_geq rfl rfl) rfl rfl rfl ?_
                  refine V_ge rfl rfl rfl hc65 ?_
                  refine V_y (Y_pick_fe rfl hc68 rfl) rfl rfl rfl ?_
                  exact V_end fun a ha => ⟨(), ha.sub ⟨rfl, rfl, (by rw [hc68]; rfl), trivial⟩, rfl⟩
              simp only [List.take, List.drop]
              rintro _ _ rfl
              refine V_y (Y_pick_te rfl hc65 rfl) rfl rfl rfl ?_
              exact V_end fun a ha => ⟨(), ha.sub ⟨rfl, (by rw [hc65]; rfl), trivial⟩, rfl⟩
            · refine V_gn rfl rfl rfl hc65 rfl rfl rfl ?_
              refine V_gn rfl rfl rfl hc65 rfl rfl rfl ?_
              refine V_gn rfl rfl rfl hc65 rfl rfl rfl ?_
              refine V_gn rfl rfl rfl hc65 rfl rfl rfl ?_
              refine V_gu rfl rfl rfl rfl rfl ?_
              refine V_gu rfl rfl rfl rfl rfl ?_
              refine V_gu rfl rfl rfl rfl rfl ?_
              refine V_gn rfl rfl rfl hc65 rfl rfl rfl ?_
              refine V_y (Y_pick_fe rfl hc65 rfl) rfl rfl rfl ?_
              exact V_end fun a ha => ⟨(), ha.sub ⟨rfl, (by rw [hc65]; rfl), trivial⟩, rfl⟩
          simp only [List.take, List.drop]
          rintro _ _ rfl
          refine V_y (Y_assign rfl) rfl rfl rfl ?_
          refine V_to (fun _ _ => rfl) ?_
          obtain ⟨s72, ho71, ho56⟩ := Option.bind_eq_some_iff.1 ho56
          refine C_cutG (ι := Unit) (fun (_ : Unit) => [(3, .pointer (some ⟨b9, 0, none⟩)), (47, .bool s72)]) (fun (_ : Unit) => fun w' => w12 = w') ?_ ?_
          · refine C_cond rfl (fun hc77 => ?_) (fun hc77 => ?_)
            · rw [if_pos hc77] at ho71
              obtain rfl := Option.some.inj ho71
              refine C_skip (fun a ha78 => ?_)
              exact ⟨(), ha78.sub ⟨rfl, rfl, trivial⟩, rfl⟩
            · rw [if_neg (nt hc77)] at ho71
              refine C_seq ?_
              refine C_region ?_
              have h79 := El_api_Value_0 h14
              refine V_y (Y_fieldAddr Tryz.underlying49 rfl Tryz.sizeOf3 (by decide) rfl) rfl rfl rfl ?_
              refine V_y (Y_load (El.int h79) Tryz.isAgg3 rfl) rfl rfl rfl ?_
              refine V_y (Y_eql rfl rfl) rfl rfl rfl ?_
              refine V_y (Y_move rfl) rfl rfl rfl ?_
              refine V_cut 5 (fun _ : Unit => [(3, .pointer (some ⟨b9, 0, none⟩)), (82, .bool ((t.value.kind == 5) && (!(portref2_IsMoment t.value.int))))]) (fun _ w' => w12 = w') ?_ ?_
              · simp only [List.take, List.drop]
                rcases Bool.eq_false_or_eq_true (t.value.kind == 5) with hc80 | hc80
                · refine V_ge rfl rfl rfl hc80 ?_
                  have h82 := El_api_Value_1 h14
                  refine V_y (Y_fieldAddr Tryz.underlying49 rfl Tryz.sizeOf3 (by decide) rfl) rfl rfl rfl ?_
                  refine V_ge rfl rfl rfl hc80 ?_
                  refine V_y (Y_load (El.int h82) Tryz.isAgg3 rfl) rfl rfl rfl ?_
                  refine V_ge rfl rfl rfl hc80 ?_
                  refine V_call Tryz.call94 rfl rfl rfl rfl (portref2_IsMoment_c w12 t.value.int) ?_
                  rintro _ _ ⟨rfl, rfl⟩
                  refine V_ge rfl rfl rfl hc80 ?_
                  refine V_y (Y_not rfl) rfl rfl rfl ?_
                  refine V_y (Y_pick_te rfl hc80 rfl) rfl rfl rfl ?_
                  exact V_end fun a ha => ⟨(), ha.sub ⟨rfl, (by rw [hc80]; rfl), trivial⟩, rfl⟩
                · refine V_gn rfl rfl rfl hc80 rfl rfl rfl ?_
                  refine V_gn rfl rfl rfl hc80 rfl rfl rfl ?_
                  refine V_gn rfl rfl rfl hc80 rfl rfl rfl ?_
                  refine V_gn rfl rfl rfl hc80 rfl rfl rfl ?_
                  refine V_y (Y_pick_fe rfl hc80 rfl) rfl rfl rfl ?_
                  exact V_end fun a ha => ⟨(), ha.sub ⟨rfl, (by rw [hc80]; rfl), trivial⟩, rfl⟩
              simp only [List.take, List.drop]
              rintro _ _ rfl
              refine V_y (Y_assign rfl) rfl rfl rfl ?_
              refine V_to (fun _ _ => rfl) ?_
              obtain ⟨s84, ho83, ho71⟩ := Option.bind_eq_some_iff.1 ho71
              refine C_cutG (ι := Unit) (fun (_ : Unit) => [(3, .pointer (some ⟨b9, 0, none⟩)), (47, .bool s84)]) (fun (_ : Unit) => fun w' => w12 = w') ?_ ?_
              · refine C_cond rfl (fun hc89 => ?_) (fun hc89 => ?_)
                · rw [if_pos hc89] at ho83
                  obtain rfl := Option.some.inj ho83
                  refine C_skip (fun a ha90 => ?_)
                  exact ⟨(), ha90.sub ⟨rfl, rfl, trivial⟩, rfl⟩
                · rw [if_neg (nt hc89)] at ho83
                  refine C_region ?_
                  have h91 := El_api_Value_0 h14
                  refine V_y (Y_fieldAddr Tryz.underlying49 rfl Tryz.sizeOf3 (by decide) rfl) rfl rfl rfl ?_
                  refine V_y (Y_load (El.int h91) Tryz.isAgg3 rfl) rfl rfl rfl ?_
                  refine V_y (Y_eql rfl rfl) rfl rfl rfl ?_
                  refine V_y (Y_move rfl) rfl rfl rfl ?_
                  refine V_cut 9 (fun _ : Unit => [(3, .pointer (some ⟨b9, 0, none⟩)), (95, .bool ((t.value.kind == 6) && ((decide (t.value.int < 1)) || (decide ((40 : Int) < t.value.int)))))]) (fun _ w' => w12 = w') ?_ ?_
                  · simp only [List.take, List.drop]
                    rcases Bool.eq_false_or_eq_true (t.value.kind == 6) with hc92 | hc92
                    · refine V_ge rfl rfl rfl hc92 ?_
                      have h94 := El_api_Value_1 h14
                      refine V_y (Y_fieldAddr Tryz.underlying49 rfl Tryz.sizeOf3 (by decide) rfl) rfl rfl rfl ?_
                      refine V_ge rfl rfl rfl hc92 ?_
                      refine V_y (Y_load (El.int h94) Tryz.isAgg3 rfl) rfl rfl rfl ?_
                      refine V_ge rfl rfl rfl hc92 ?_
                      refine V_y (Y_lss rfl rfl) rfl rfl rfl ?_
                      refine V_ge rfl rfl rfl hc92 ?_
                      refine V_y (Y_move rfl) rfl rfl rfl ?_
                      refine V_cut 4 (fun _ : Unit => [(3, .pointer (some ⟨b9, 0, none⟩)), (86, .bool (t.value.kind == 6)), (94, .bool ((decide (t.value.int < 1)) || (decide ((40 : Int) < t.value.int))))]) (fun _ w' => w12 = w') ?_ ?_
                      · simp only [List.take, List.drop]
                        rcases Bool.eq_false_or_eq_true (decide (t.value.int < 1)) with hc95 | hc95
                        · refine V_gn rfl rfl rfl hc95 rfl rfl rfl ?_
                          refine V_gn rfl rfl rfl hc95 rfl rfl rfl ?_
                          refine V_gn rfl rfl rfl hc95 rfl rfl rfl ?_
                          refine V_ge rfl rfl rfl hc92 ?_
                          refine V_y (Y_pick_te rfl hc95 rfl) rfl rfl rfl ?_
                          exact V_end fun a ha => ⟨(), ha.sub ⟨rfl, rfl, (by rw [hc95]; rfl), trivial⟩, rfl⟩
                        · refine V_ge rfl rfl rfl hc95 ?_
                          have h97 := El_api_Value_1 h14
                          refine V_y (Y_fieldAddr Tryz.underlying49 rfl Tryz.sizeOf3 (by decide) rfl) rfl rfl rfl ?_
                          refine V_ge rfl rfl rfl hc95 ?_
                          refine V_y (Y_load (El.int h97) Tryz.isAgg3 rfl) rfl rfl rfl ?_
                          refine V_ge rfl rfl rfl hc95 ?_
                          refine V_y (Y_gtr rfl rfl) rfl rfl rfl ?_
                          refine V_ge rfl rfl rfl hc92 ?_
                          refine V_y (Y_pick_fe rfl hc95 rfl) rfl rfl rfl ?_
                          exact V_end fun a ha => ⟨(), ha.sub ⟨rfl, rfl, (by rw [hc95]; rfl), trivial⟩, rfl⟩
                      simp only [List.take, List.drop]
                      rintro _ _ rfl
                      refine V_y (Y_pick_te rfl hc92 rfl) rfl rfl rfl ?_
                      exact V_end fun a ha => ⟨(), ha.sub ⟨rfl, (by rw [hc92]; rfl), trivial⟩, rfl⟩
                    · refine V_gn rfl rfl rfl hc92 rfl rfl rfl ?_
                      refine V_gn rfl rfl rfl hc92 rfl rfl rfl ?_
                      refine V_gn rfl rfl rfl hc92 rfl rfl rfl ?_
                      refine V_gn rfl rfl rfl hc92 rfl rfl rfl ?_
                      refine V_gu rfl rfl rfl rfl rfl ?_
                      refine V_gu rfl rfl rfl rfl rfl ?_
                      refine V_gu rfl rfl rfl rfl rfl ?_
                      refine V_gn rfl rfl rfl hc92 rfl rfl rfl ?_
                      refine V_y (Y_pick_fe rfl hc92 rfl) rfl rfl rfl ?_
                      exact V_end fun a ha => ⟨(), ha.sub ⟨rfl, (by rw [hc92]; rfl), trivial⟩, rfl⟩
                  simp only [List.take, List.drop]
                  rintro _ _ rfl
                  refine V_y (Y_assign rfl) rfl rfl rfl ?_
                  obtain rfl := Option.some.inj ho83
                  refine V_end (fun a ha98 => ?_)
                  exact ⟨(), ha98.sub ⟨rfl, rfl, trivial⟩, rfl⟩
              rintro _ _ rfl a ha88
              obtain rfl := Option.some.inj ho71
              exact ⟨(), ha88.sub ⟨rfl, rfl, trivial⟩, rfl⟩
          rintro _ _ rfl a ha76
          obtain rfl := Option.some.inj ho56
          exact ⟨(), ha76.sub ⟨rfl, rfl, trivial⟩, rfl⟩
      rintro _ _ rfl a ha61
      refine C_at (n := ⟨105, [], none⟩) (fun _ _ => rfl) ?_ ha61
      refine C_cond rfl (fun hc101 => ?_) (fun hc101 => ?_)
      · rw [if_pos hc101] at hm
        refine C_seq ?_
        refine C_region ?_
        refine V_y (Y_assign rfl) rfl rfl rfl ?_
        refine V_to (fun _ _ => rfl) ?_
        obtain rfl := Option.some.inj hm
        refine C_ret ?_
        try simp only [↓inBlock_ret, ↓then_ret]
        exact retQ rfl (Res.one Tryz.results81 rfl) ⟨rfl, hK.kp⟩
      · rw [if_neg (nt hc101)] at hm
        refine C_seq ?_
        refine C_region ?_
        have h102 := El_api_Value_2 h14
        refine V_y (Y_fieldAddr Tryz.underlying49 rfl Tryz.sizeOf9 (by decide) rfl) rfl rfl rfl ?_
        refine V_y (Y_load (El.str h102) Tryz.isAgg9 rfl) rfl rfl rfl ?_
        refine V_y (Y_lenStr rfl Tryz.underlying9 rfl) rfl rfl rfl ?_
        refine V_y (Y_gtr rfl rfl) rfl rfl rfl ?_
        refine V_y (Y_assign rfl) rfl rfl rfl ?_
        refine V_to (fun _ _ => rfl) ?_
        refine C_cond rfl (fun hc103 => ?_) (fun hc103 => ?_)
        · rw [if_pos hc103] at hm
          refine C_seq ?_
          refine C_region ?_
          refine V_y (Y_assign rfl) rfl rfl rfl ?_
          refine V_to (fun _ _ => rfl) ?_
          obtain rfl := Option.some.inj hm
          refine C_ret ?_
          try simp only [↓inBlock_ret, ↓then_ret]
          exact retQ rfl (Res.one Tryz.results81 rfl) ⟨rfl, hK.kp⟩
        · rw [if_neg (nt hc103)] at hm
          refine C_seq ?_
          refine C_region ?_
          have h104 := El_api_Value_2 h14
          refine V_y (Y_fieldAddr Tryz.underlying49 rfl Tryz.sizeOf9 (by decide) rfl) rfl rfl rfl ?_
          refine V_y (Y_load (El.str h104) Tryz.isAgg9 rfl) rfl rfl rfl ?_
          obtain ⟨x105, hx105, hm⟩ := Option.bind_eq_some_iff.1 hm
          refine V_call Tryz.call95 rfl rfl rfl rfl (portref2_lowByte_c w12 hA t.value.text hx105) ?_
          rintro _ w106 ⟨rfl, hk107⟩
          have ht108 := Kp.tr (Dw := False) hk107 hA hB
          replace hH := Hp.kp (Dw := False) hH hk107
          replace h14 := El.tr (Dw := False) h14 ht108
          replace h104 := El.tr (Dw := False) h104 ht108
          replace hK := Tr.trans (Dw := False) hK ht108
          replace hB := Nat.le_trans hB ht108.ex.size
          replace hA := ht108.new
          refine V_y (Y_assign rfl) rfl rfl rfl ?_
          refine V_to (fun _ _ => rfl) ?_
          refine C_cond rfl (fun hc109 => ?_) (fun hc109 => ?_)
          · rw [if_pos hc109] at hm
            refine C_seq ?_
            refine C_region ?_
            refine V_y (Y_assign rfl) rfl rfl rfl ?_
            refine V_to (fun _ _ => rfl) ?_
            obtain rfl := Option.some.inj hm
            refine C_ret ?_
            try simp only [↓inBlock_ret, ↓then_ret]
            exact retQ rfl (Res.one Tryz.results81 rfl) ⟨rfl, hK.kp⟩
          · rw [if_neg (nt hc109)] at hm
            refine C_skip_to (fun _ _ => rfl) ?_
            refine C_seq ?_
            refine C_region ?_
            refine V_y (Y_assign rfl) rfl rfl rfl ?_
            refine V_to (fun _ _ => rfl) ?_
            obtain rfl := Option.some.inj hm
            refine C_ret ?_
            try simp only [↓inBlock_ret, ↓then_ret]
            exact retQ rfl (Res.one Tryz.results81 rfl) ⟨rfl, hK.kp⟩

set_option maxRecDepth 4000 in
set_option maxHeartbeats 4000000 in
theorem portref2_levelFault_c (w : World) {A : Nat → Prop} (hA : ∀ b, w.heap.size ≤ b → A b) (l : (List level_Level)) (v_l : Value) (h_l : Sl A w v_l l) (i_ : Int) {r : Int} (hm : portref2_levelFault l i_ = some r) : Ret Tryz.prog 65 #[v_l, .int .i64 i_] w fun v w' => v = .int .i64 r ∧ Kp False w w' := by
  unfold portref2_levelFault at hm
  refine enter Tryz.func65 rfl Tryz.ntmps65 rfl ?_
  have hA0 := hA
  have hB := Nat.le_refl w.heap.size
  have hK : Tr False w.heap.size A w A w := Tr.refl (Dw := False) hA
  have hH : Hp w.heap.size A w [] := Hp.nil
  refine C_seq ?_
  refine C_region ?_
  refine V_y (Y_assign rfl) rfl rfl rfl ?_
  refine V_to (fun _ _ => rfl) ?_
  refine C_seq ?_
  refine C_region ?_
  refine V_y (Y_move rfl) rfl rfl rfl ?_
  refine V_y (Y_move rfl) rfl rfl rfl ?_
  obtain ⟨x3, hx3, hm⟩ := Option.bind_eq_some_iff.1 hm
  refine V_indexAddr h_l hx3 Tryz.underlying23 Tryz.sizeOf46 rfl rfl rfl ?_
  intro b4 o5 h6
  obtain ⟨v7, v9, h11, h8, h10⟩ := El_level_Level h6
  refine V_y (Y_loadA h11 Tryz.isAgg46 Tryz.sizeOf46 rfl) rfl rfl rfl ?_
  refine V_alloc Tryz.zeroValue46 rfl ?_
  intro b12 w13 h14
  have h19 : (v7).oneCell' = true := by obtain ⟨_, _, e, _⟩ := Sl.form h8; rw [e]; rfl
  have h22 : (v9).oneCell' = true := by obtain ⟨_, _, e, _⟩ := Sl.form h10; rw [e]; rfl
  refine V_storeNew h14 Tryz.sizeOf46 rfl rfl rfl rfl (by exact (List.forall_mem_cons.2 ⟨rfl, (List.forall_mem_cons.2 ⟨h19, (List.forall_mem_cons.2 ⟨h22, (fun _ h => nomatch h)⟩)⟩)⟩)) ?_
  intro w15 h16
  have hk24 := h16.kp (Dw := False)
  have h23 : El (α := level_Level) A w15 b12 0 x3 := h16.el hA ⟨[.string x3.name], _, rfl, rfl, ⟨[v7], _, rfl, ⟨_, rfl, h8⟩, ⟨_, rfl, h10⟩⟩⟩
  have ht25 := Kp.tr (Dw := False) hk24 hA hB
  replace hH := Hp.kp (Dw := False) hH hk24
  replace h_l := Sl.tr (Dw := False) h_l ht25
  replace h6 := El.tr (Dw := False) h6 ht25
  replace h8 := Sl.tr (Dw := False) h8 ht25
  replace h10 := Sl.tr (Dw := False) h10 ht25
  replace hK := Tr.trans (Dw := False) hK ht25
  replace hB := Nat.le_trans hB ht25.ex.size
  replace hA := ht25.new
  refine V_to (fun _ _ => rfl) ?_
  refine C_seq ?_
  refine C_seq ?_
  refine C_region ?_
  have h26 := El_level_Level_0 h23
  refine V_y (Y_fieldAddr Tryz.underlying46 rfl Tryz.sizeOf9 (by decide) rfl) rfl rfl rfl ?_
  refine V_y (Y_load (El.str h26) Tryz.isAgg9 rfl) rfl rfl rfl ?_
  obtain ⟨x27, hx27, hm⟩ := Option.bind_eq_some_iff.1 hm
  refine V_call Tryz.call78 rfl rfl rfl rfl (portref2_IsName_c w15 hA x3.name hx27) ?_
  rintro _ w28 ⟨rfl, hk29⟩
  have ht30 := Kp.tr (Dw := False) hk29 hA hB
  replace hH := Hp.kp (Dw := False) hH hk29
  replace h_l := Sl.tr (Dw := False) h_l ht30
  replace h23 := El.tr (Dw := False) h23 ht30
  replace h26 := El.tr (Dw := False) h26 ht30
  replace hK := Tr.trans (Dw := False) hK ht30
  replace hB := Nat.le_trans hB ht30.ex.size
  replace hA := ht30.new
  refine V_y (Y_not rfl) rfl rfl rfl ?_
  refine V_to (fun _ _ => rfl) ?_
  refine C_cond rfl (fun hc31 => ?_) (fun hc31 => ?_)
  · rw [if_pos hc31] at hm
    refine C_seq ?_
    refine C_region ?_
    refine V_y (Y_assign rfl) rfl rfl rfl ?_
    refine V_to (fun _ _ => rfl) ?_
    obtain rfl := Option.some.inj hm
    refine C_ret ?_
    try simp only [↓inBlock_ret, ↓then_ret]
    exact retQ rfl (Res.one Tryz.results65 rfl) ⟨rfl, hK.kp⟩
  · rw [if_neg (nt hc31)] at hm
    refine C_skip_to (fun _ _ => rfl) ?_
    refine C_seq ?_
    refine C_seq ?_
    refine C_region ?_
    refine V_y (Y_move rfl) rfl rfl rfl ?_
    refine V_y (Y_move rfl) rfl rfl rfl ?_
    obtain ⟨x32, hx32, hm⟩ := Option.bind_eq_some_iff.1 hm
    obtain ⟨v33, h34, h34y⟩ := sliceL_val hx32 h_l
    refine V_y (Y_sliceLH h34y Tryz.underlying23 Tryz.sizeOf46 rfl rfl) rfl rfl rfl ?_
    refine V_y (Y_makeFunc rfl rfl) rfl rfl rfl ?_
    obtain ⟨x36, hx36, hm⟩ := Option.bind_eq_some_iff.1 hm
    refine V_call Tryz.call79 rfl rfl rfl rfl (slices_ContainsFunc_Llevel_Level_level_Level_c (Dw := False) w28 hA x32 v33 h34 (fun y48 => portref2_levelFault_1 y48 x3) 80 #[] #[.pointer (some ⟨b12, 0, none⟩)] Tryz.call80 (fun w44 A45 ht46 h47 y37 v38 h39 v40 h41 r42 h43 => (portref2_levelFault_1_c (Dw := False) w44 h47 y37 v38 h39 v40 h41 x3 b12 (El.tr (Dw := False) h23 ht46) h43).mono (fun _ _ h => ⟨h.1, h.2⟩)) hx36) ?_
    rintro _ w49 ⟨rfl, hk50⟩
    have ht51 := Kp.tr (Dw := False) hk50 hA hB
    replace hH := Hp.kp (Dw := False) hH hk50
    replace h_l := Sl.tr (Dw := False) h_l ht51
    replace h23 := El.tr (Dw := False) h23 ht51
    replace h34 := Sl.tr (Dw := False) h34 ht51
    replace hK := Tr.trans (Dw := False) hK ht51
    replace hB := Nat.le_trans hB ht51.ex.size
    replace hA := ht51.new
    refine V_to (fun _ _ => rfl) ?_
    refine C_cond rfl (fun hc52 => ?_) (fun hc52 => ?_)
    · rw [if_pos hc52] at hm
      refine C_seq ?_
      refine C_region ?_
      refine V_y (Y_assign rfl) rfl rfl rfl ?_
      refine V_to (fun _ _ => rfl) ?_
      obtain rfl := Option.some.inj hm
      refine C_ret ?_
      try simp only [↓inBlock_ret, ↓then_ret]
      exact retQ rfl (Res.one Tryz.results65 rfl) ⟨rfl, hK.kp⟩
    · rw [if_neg (nt hc52)] at hm
      refine C_skip_to (fun _ _ => rfl) ?_
      refine C_seq ?_
      refine C_seq ?_
      refine C_region ?_
      have h53 := El_level_Level_1 h23
      refine V_y (Y_fieldAddr Tryz.underlying46 rfl Tryz.sizeOf43 (by decide) rfl) rfl rfl rfl ?_
      obtain ⟨v54, h55, h56⟩ := El.list h53
      refine V_y (Y_load h55 Tryz.isAgg43 rfl) rfl rfl rfl ?_
      refine V_y (Y_lenSl h56 rfl Tryz.underlying43 rfl) rfl rfl rfl ?_
      refine V_y (Y_gtr rfl rfl) rfl rfl rfl ?_
      refine V_to (fun _ _ => rfl) ?_
      refine C_cond rfl (fun hc57 => ?_) (fun hc57 => ?_)
      · rw [if_pos hc57] at hm
        refine C_seq ?_
        refine C_region ?_
        refine V_y (Y_assign rfl) rfl rfl rfl ?_
        refine V_to (fun _ _ => rfl) ?_
        obtain rfl := Option.some.inj hm
        refine C_ret ?_
        try simp only [↓inBlock_ret, ↓then_ret]
        exact retQ rfl (Res.one Tryz.results65 rfl) ⟨rfl, hK.kp⟩
      · rw [if_neg (nt hc57)] at hm
        refine C_skip_to (fun _ _ => rfl) ?_
        refine C_seq ?_
        refine C_seq ?_
        refine C_region ?_
        have h58 := El_level_Level_1 h23
        refine V_y (Y_fieldAddr Tryz.underlying46 rfl Tryz.sizeOf43 (by decide) rfl) rfl rfl rfl ?_
        obtain ⟨v59, h60, h61⟩ := El.list h58
        refine V_y (Y_load h60 Tryz.isAgg43 rfl) rfl rfl rfl ?_
        refine V_y (Y_lenSl h61 rfl Tryz.underlying43 rfl) rfl rfl rfl ?_
        refine V_y (Y_move rfl) rfl rfl rfl ?_
        refine V_to (fun _ _ => rfl) ?_
        have hn82 := Sl.le h61
        obtain ⟨o62, ho62, hm⟩ := Option.bind_eq_some_iff.1 hm
        refine C_cutG (ι := (Unit × (Nat → Prop))) (fun ⟨s63, A69⟩ => [(5, .pointer (some ⟨b12, 0, none⟩))]) (fun ⟨s63, A69⟩ => fun w' => o62 = .fin s63 ∧ Hp w.heap.size A69 w' ([]) ∧ Tr False w.heap.size A w49 A69 w') ?_ ?_
        · refine C_block ?_
          refine C_range ho62 (fun k65 _ a w' => ∃ i : (Nat → Prop), Has ⟨115, [], none⟩ a ([(5, .pointer (some ⟨b12, 0, none⟩)), (29, v59), (30, .int .i64 (x3.tests.length : Int)), (31, .int .i64 (k65 : Int))]) ∧ Hp w.heap.size i w' ([]) ∧ Tr False w.heap.size A w49 i w') (fun a ha => ⟨A, ha.sub ⟨rfl, rfl, rfl, rfl, trivial⟩, ⟨hH, Tr.refl (Dw := False) hA⟩⟩) ?_
          rintro K k65 _ a w72 ⟨A73, ha126, hH74, hr64⟩ hle78 K81 h80
          refine C_of ?_ ha126
          replace h23 := El.tr (Dw := False) h23 hr64
          replace h61 := Sl.tr (Dw := False) h61 hr64
          replace hK := Tr.trans (Dw := False) hK hr64
          replace hB := Nat.le_trans hB hr64.ex.size
          replace hA := hr64.new
          replace hH : Hp w.heap.size A73 w72 ([]) := hH74
          refine C_seq (C_region (V_y (Y_lss rfl rfl) rfl rfl rfl (V_to (fun _ _ => rfl) ?_)))
          refine C_seq ?_
          refine C_cond rfl (fun hc83 => ?_) (fun hc83 => ?_)
          · have hlt79 := lt_of_dec hc83
            obtain ⟨x75, h76, h77⟩ := K81 hlt79
            refine C_skip_to (fun _ _ => rfl) ?_
            refine C_seq ?_
            refine C_block ?_
            refine C_seq ?_
            refine C_region ?_
            refine V_y (Y_move rfl) rfl rfl rfl ?_
            obtain ⟨x84, hx84, h76⟩ := Option.bind_eq_some_iff.1 h76
            refine V_indexAddr h61 hx84 Tryz.underlying43 Tryz.sizeOf51 rfl rfl rfl ?_
            intro b85 o86 h87
            obtain ⟨h88, _⟩ := El_level_Test h87
            refine V_y (Y_loadA h88 Tryz.isAgg51 Tryz.sizeOf51 rfl) rfl rfl rfl ?_
            refine V_alloc Tryz.zeroValue51 rfl ?_
            intro b89 w90 h91
            refine V_y (Y_assign rfl) rfl rfl rfl ?_
            refine V_storeNew h91 Tryz.sizeOf51 rfl rfl rfl rfl (by exact (List.forall_mem_cons.2 ⟨rfl, (List.forall_mem_cons.2 ⟨rfl, (List.forall_mem_cons.2 ⟨rfl, (List.forall_mem_cons.2 ⟨rfl, (fun _ h => nomatch h)⟩)⟩)⟩)⟩)) ?_
            intro w92 h93
            have hk95 := h93.kp (Dw := False)
            have h94 : El (α := level_Test) A73 w92 b89 0 x84 := h93.el hA ⟨[.int .i64 x84.field], _, rfl, rfl, ⟨[.int .i64 x84.value.kind], _, rfl, rfl, ⟨[.int .i64 x84.value.int], _, rfl, rfl, rfl⟩⟩⟩
            have ht96 := Kp.tr (Dw := False) hk95 hA hB
            replace hH := Hp.kp (Dw := False) hH hk95
            replace h23 := El.tr (Dw := False) h23 ht96
            replace h61 := Sl.tr (Dw := False) h61 ht96
            replace h87 := El.tr (Dw := False) h87 ht96
            replace hK := Tr.trans (Dw := False) hK ht96
            replace hr64 := Tr.trans (Dw := False) hr64 ht96
            replace hB := Nat.le_trans hB ht96.ex.size
            replace hA := ht96.new
            refine V_to (fun _ _ => rfl) ?_
            refine C_seq ?_
            refine C_seq ?_
            refine C_region ?_
            have h97 := El_level_Test_0 h94
            refine V_y (Y_fieldAddr Tryz.underlying51 rfl Tryz.sizeOf3 (by decide) rfl) rfl rfl rfl ?_
            refine V_y (Y_load (El.int h97) Tryz.isAgg3 rfl) rfl rfl rfl ?_
            refine V_y (Y_lss rfl rfl) rfl rfl rfl ?_
            refine V_y (Y_move rfl) rfl rfl rfl ?_
            refine V_cut 4 (fun _ : Unit => [(5, .pointer (some ⟨b12, 0, none⟩)), (6, .int .i64 (k65 : Int)), (7, .pointer (some ⟨b89, 0, none⟩)), (29, v59), (30, .int .i64 (x3.tests.length : Int)), (31, .int .i64 (k65 : Int)), (43, .bool ((decide (x84.field < (-1))) || (decide ((20 : Int) ≤ x84.field))))]) (fun _ w' => w92 = w') ?_ ?_
            · simp only [List.take, List.drop]
              rcases Bool.eq_false_or_eq_true (decide (x84.field < (-1))) with hc98 | hc98
              · refine V_gn rfl rfl rfl hc98 rfl rfl rfl ?_
                refine V_gn rfl rfl rfl hc98 rfl rfl rfl ?_
                refine V_gn rfl rfl rfl hc98 rfl rfl rfl ?_
                refine V_y (Y_pick_te rfl hc98 rfl) rfl rfl rfl ?_
                exact V_end fun a ha => ⟨(), ha.sub ⟨rfl, rfl, rfl, rfl, rfl, rfl, (by rw [hc98]; rfl), trivial⟩, rfl⟩
              · refine V_ge rfl rfl rfl hc98 ?_
                have h100 := El_level_Test_0 h94
                refine V_y (Y_fieldAddr Tryz.underlying51 rfl Tryz.sizeOf3 (by decide) rfl) rfl rfl rfl ?_
                refine V_ge rfl rfl rfl hc98 ?_
                refine V_y (Y_load (El.int h100) Tryz.isAgg3 rfl) rfl rfl rfl ?_
                refine V_ge rfl rfl rfl hc98 ?_
                refine V_y (Y_geq rfl rfl) rfl rfl rfl ?_
                refine V_y (Y_pick_fe rfl hc98 rfl) rfl rfl rfl ?_
                exact V_end fun a ha => ⟨(), ha.sub ⟨rfl, rfl, rfl, rfl, rfl, rfl, (by rw [hc98]; rfl), trivial⟩, rfl⟩
            simp only [List.take, List.drop]
            rintro _ _ rfl
            refine V_to (fun _ _ => rfl) ?_
            refine C_cond rfl (fun hc101 => ?_) (fun hc101 => ?_)
            · rw [if_pos hc101] at h76
              refine C_seq ?_
              refine C_region ?_
              refine V_y (Y_assign rfl) rfl rfl rfl ?_
              refine V_to (fun _ _ => rfl) ?_
              obtain rfl := Option.some.inj h76
              obtain rfl := (h77 : Lp.rt _ = _)
              rw [Lp.andThen_rt] at hm
              obtain rfl := Option.some.inj hm
              refine C_ret ?_
              try simp only [↓inBlock_ret, ↓then_ret]
              exact retQ rfl (Res.one Tryz.results65 rfl) ⟨rfl, hK.kp⟩
            · rw [if_neg (nt hc101)] at h76
              refine C_skip_to (fun _ _ => rfl) ?_
              refine C_seq ?_
              refine C_seq ?_
              refine C_region_q (Dw := False) Tryz_mixed (by kernel_rfl) ?_
              refine VQ_y (fun w' hw' => Y_move rfl) rfl rfl rfl ?_
              refine VQ_y (fun w' hw' => Y_gtr rfl rfl) rfl rfl rfl ?_
              refine VQ_y (fun w' hw' => Y_move rfl) rfl rfl rfl ?_
              obtain ⟨s103, hs103, h76⟩ := Option.bind_eq_some_iff.1 h76
              refine VQ_cut 11 (fun _ : Unit => [(5, .pointer (some ⟨b12, 0, none⟩)), (7, .pointer (some ⟨b89, 0, none⟩)), (29, v59), (30, .int .i64 (x3.tests.length : Int)), (31, .int .i64 (k65 : Int)), (57, .bool s103)]) (fun _ => True) ?_ ?_
              · simp only [List.take, List.drop]
                rcases Bool.eq_false_or_eq_true (decide ((0 : Int) < (k65 : Int))) with hc102 | hc102
                · rw [if_pos hc102] at hs103
                  refine VQ_ge rfl rfl rfl hc102 ?_
                  have h104 := El_level_Test_0 h94
                  refine VQ_y (fun w' hw' => Y_fieldAddr Tryz.underlying51 rfl Tryz.sizeOf3 (by decide) rfl) rfl rfl rfl ?_
                  refine VQ_ge rfl rfl rfl hc102 ?_
                  refine VQ_y (fun w' hw' => Y_load (El.int (El.kp (Dw := False) h104 hw')) Tryz.isAgg3 rfl) rfl rfl rfl ?_
                  refine VQ_ge rfl rfl rfl hc102 ?_
                  have h105 := El_level_Level_1 h23
                  refine VQ_y (fun w' hw' => Y_fieldAddr Tryz.underlying46 rfl Tryz.sizeOf43 (by decide) rfl) rfl rfl rfl ?_
                  refine VQ_ge rfl rfl rfl hc102 ?_
                  obtain ⟨v106, h107, h108⟩ := El.list h105
                  refine VQ_y (fun w' hw' => Y_load ((World.cell?_of_block (hw'.block _ (World.block_lt_of_cell? _ _ h107))).trans h107) Tryz.isAgg43 rfl) rfl rfl rfl ?_
                  refine VQ_ge rfl rfl rfl hc102 ?_
                  refine VQ_y (fun w' hw' => Y_move rfl) rfl rfl rfl ?_
                  refine VQ_ge rfl rfl rfl hc102 ?_
                  refine VQ_y (fun w' hw' => Y_subI rfl rfl) rfl rfl rfl ?_
                  refine VQ_ge rfl rfl rfl hc102 ?_
                  obtain ⟨x109, hx109, hs103⟩ := Option.bind_eq_some_iff.1 hs103
                  refine VQ_indexAddr h108 hx109 Tryz.underlying43 Tryz.sizeOf51 rfl rfl rfl ?_
                  intro b110 o111 h112
                  refine VQ_ge rfl rfl rfl hc102 ?_
                  have h113 := El_level_Test_0 h112
                  refine VQ_y (fun w' hw' => Y_fieldAddr Tryz.underlying51 rfl Tryz.sizeOf3 (by decide) rfl) rfl rfl rfl ?_
                  refine VQ_ge rfl rfl rfl hc102 ?_
                  refine VQ_y (fun w' hw' => Y_load (El.int (El.kp (Dw := False) h113 hw')) Tryz.isAgg3 rfl) rfl rfl rfl ?_
                  refine VQ_ge rfl rfl rfl hc102 ?_
                  refine VQ_y (fun w' hw' => Y_leq rfl rfl) rfl rfl rfl ?_
                  refine VQ_y (fun _ _ => Y_pick_te rfl hc102 rfl) rfl rfl rfl ?_
                  obtain rfl := Option.some.inj hs103
                  exact VQ_end fun a ha => ⟨(), ha.sub ⟨rfl, rfl, rfl, rfl, rfl, rfl, trivial⟩, trivial⟩
                · rw [if_neg (nt hc102)] at hs103
                  refine VQ_gn rfl rfl rfl hc102 rfl rfl rfl ?_
                  refine VQ_gn rfl rfl rfl hc102 rfl rfl rfl ?_
                  refine VQ_gn rfl rfl rfl hc102 rfl rfl rfl ?_
                  refine VQ_gn rfl rfl rfl hc102 rfl rfl rfl ?_
                  refine VQ_gn rfl rfl rfl hc102 rfl rfl rfl ?_
                  refine VQ_gn rfl rfl rfl hc102 rfl rfl rfl ?_
                  refine VQ_gn rfl rfl rfl hc102 rfl rfl rfl ?_
                  refine VQ_gn rfl rfl rfl hc102 rfl rfl rfl ?_
                  refine VQ_gn rfl rfl rfl hc102 rfl rfl rfl ?_
                  refine VQ_gn rfl rfl rfl hc102 rfl rfl rfl ?_
                  refine VQ_y (fun _ _ => Y_pick_fe rfl hc102 rfl) rfl rfl rfl ?_
                  obtain rfl := Option.some.inj hs103
                  exact VQ_end fun a ha => ⟨(), ha.sub ⟨rfl, rfl, rfl, rfl, rfl, rfl, trivial⟩, trivial⟩
              simp only [List.take, List.drop]
              rintro _ _
              refine VQ_to (fun _ _ => rfl) (fun w114 hk115 => ?_)
              have ht116 := Kp.tr (Dw := False) hk115 hA hB
              replace hH := Hp.kp (Dw := False) hH hk115
              replace h23 := El.tr (Dw := False) h23 ht116
              replace h61 := Sl.tr (Dw := False) h61 ht116
              replace h94 := El.tr (Dw := False) h94 ht116
              replace hK := Tr.trans (Dw := False) hK ht116
              replace hr64 := Tr.trans (Dw := False) hr64 ht116
              replace hB := Nat.le_trans hB ht116.ex.size
              replace hA := ht116.new
              refine C_cond rfl (fun hc117 => ?_) (fun hc117 => ?_)
              · rw [if_pos hc117] at h76
                refine C_seq ?_
                refine C_region ?_
                refine V_y (Y_assign rfl) rfl rfl rfl ?_
                refine V_to (fun _ _ => rfl) ?_
                obtain rfl := Option.some.inj h76
                obtain rfl := (h77 : Lp.rt _ = _)
                rw [Lp.andThen_rt] at hm
                obtain rfl := Option.some.inj hm
                refine C_ret ?_
                try simp only [↓inBlock_ret, ↓then_ret]
                exact retQ rfl (Res.one Tryz.results65 rfl) ⟨rfl, hK.kp⟩
              · rw [if_neg (nt hc117)] at h76
                refine C_skip_to (fun _ _ => rfl) ?_
                refine C_seq ?_
                refine C_region ?_
                obtain ⟨h118, _⟩ := El_level_Test h94
                refine V_y (Y_loadA h118 Tryz.isAgg51 Tryz.sizeOf51 rfl) rfl rfl rfl ?_
                obtain ⟨x119, hx119, h76⟩ := Option.bind_eq_some_iff.1 h76
                refine V_call Tryz.call81 rfl rfl rfl rfl (portref2_testFault_c w114 hA x84 hx119) ?_
                rintro _ w120 ⟨rfl, hk121⟩
                have ht122 := Kp.tr (Dw := False) hk121 hA hB
                replace hH := Hp.kp (Dw := False) hH hk121
                replace h23 := El.tr (Dw := False) h23 ht122
                replace h61 := Sl.tr (Dw := False) h61 ht122
                replace h94 := El.tr (Dw := False) h94 ht122
                replace hK := Tr.trans (Dw := False) hK ht122
                replace hr64 := Tr.trans (Dw := False) hr64 ht122
                replace hB := Nat.le_trans hB ht122.ex.size
                replace hA := ht122.new
                refine V_y (Y_assign rfl) rfl rfl rfl ?_
                refine V_to (fun _ _ => rfl) ?_
                refine C_seq ?_
                refine C_region ?_
                refine V_y (Y_move rfl) rfl rfl rfl ?_
                refine V_y (Y_neq rfl rfl) rfl rfl rfl ?_
                refine V_to (fun _ _ => rfl) ?_
                refine C_cond rfl (fun hc123 => ?_) (fun hc123 => ?_)
                · rw [if_pos hc123] at h76
                  refine C_seq ?_
                  refine C_region ?_
                  refine V_y (Y_move rfl) rfl rfl rfl ?_
                  refine V_y (Y_assign rfl) rfl rfl rfl ?_
                  refine V_to (fun _ _ => rfl) ?_
                  obtain rfl := Option.some.inj h76
                  obtain rfl := (h77 : Lp.rt _ = _)
                  rw [Lp.andThen_rt] at hm
                  obtain rfl := Option.some.inj hm
                  refine C_ret ?_
                  try simp only [↓inBlock_ret, ↓then_ret]
                  exact retQ rfl (Res.one Tryz.results65 rfl) ⟨rfl, hK.kp⟩
                · rw [if_neg (nt hc123)] at h76
                  refine C_skip_to (fun _ _ => rfl) ?_
                  refine C_region ?_
                  refine V_y (Y_addI rfl rfl) rfl rfl rfl ?_
                  refine V_y (Y_move rfl) rfl rfl rfl ?_
                  obtain rfl := Option.some.inj h76
                  refine V_end (fun a ha124 => ?_)
                  exact ⟨(), hlt79, h77, ⟨A73, ha124.sub ⟨rfl, rfl, rfl, (congrArg (fun z => some (Value.int .i64 z)) (w64_succ hlt79 hn82)), trivial⟩, ⟨hH, hr64⟩⟩⟩
          · refine C_exit (fun a ha125 => ?_)
            exact ⟨((), A73), ha125.sub ⟨rfl, trivial⟩, ⟨(h80 (eq_of_dec hle78 hc83)).symm, hH, hr64⟩⟩
        rintro ⟨s63, A69⟩ w66 ⟨rfl, hH70, hk67⟩ a ha68
        rw [Lp.andThen_fin] at hm
        replace h23 := El.tr (Dw := False) h23 hk67
        replace hK := Tr.trans (Dw := False) hK hk67
        replace hB := Nat.le_trans hB hk67.ex.size
        replace hA := hk67.new
        replace hH : Hp w.heap.size A69 w66 ([]) := hH70
        refine C_at (n := ⟨115, [], none⟩) (fun _ _ => rfl) ?_ ha68
        refine C_seq ?_
        refine C_seq ?_
        refine C_region ?_
        have h127 := El_level_Level_2 h23
        refine V_y (Y_fieldAddr Tryz.underlying46 rfl Tryz.sizeOf44 (by decide) rfl) rfl rfl rfl ?_
        obtain ⟨v128, h129, h130⟩ := El.list h127
        refine V_y (Y_load h129 Tryz.isAgg44 rfl) rfl rfl rfl ?_
        refine V_y (Y_lenSl h130 rfl Tryz.underlying44 rfl) rfl rfl rfl ?_
        refine V_y (Y_move rfl) rfl rfl rfl ?_
        refine V_to (fun _ _ => rfl) ?_
        have hn151 := Sl.le h130
        obtain ⟨o131, ho131, hm⟩ := Option.bind_eq_some_iff.1 hm
        refine C_cutG (ι := (Unit × (Nat → Prop))) (fun ⟨s132, A138⟩ => []) (fun ⟨s132, A138⟩ => fun w' => o131 = .fin s132 ∧ Hp w.heap.size A138 w' ([]) ∧ Tr False w.heap.size A69 w66 A138 w') ?_ ?_
        · refine C_block ?_
          refine C_range ho131 (fun k134 _ a w' => ∃ i : (Nat → Prop), Has ⟨115, [], none⟩ a ([(5, .pointer (some ⟨b12, 0, none⟩)), (65, v128), (66, .int .i64 (x3.targets.length : Int)), (67, .int .i64 (k134 : Int))]) ∧ Hp w.heap.size i w' ([]) ∧ Tr False w.heap.size A69 w66 i w') (fun a ha => ⟨A69, ha.sub ⟨rfl, rfl, rfl, rfl, trivial⟩, ⟨hH, Tr.refl (Dw := False) hA⟩⟩) ?_
          rintro K k134 _ a w141 ⟨A142, ha201, hH143, hr133⟩ hle147 K150 h149
          refine C_of ?_ ha201
          replace h23 := El.tr (Dw := False) h23 hr133
          replace h130 := Sl.tr (Dw := False) h130 hr133
          replace hK := Tr.trans (Dw := False) hK hr133
          replace hB := Nat.le_trans hB hr133.ex.size
          replace hA := hr133.new
          replace hH : Hp w.heap.size A142 w141 ([]) := hH143
          refine C_seq (C_region (V_y (Y_lss rfl rfl) rfl rfl rfl (V_to (fun _ _ => rfl) ?_)))
          refine C_seq ?_
          refine C_cond rfl (fun hc152 => ?_) (fun hc152 => ?_)
          · have hlt148 := lt_of_dec hc152
            obtain ⟨x144, h145, h146⟩ := K150 hlt148
            refine C_skip_to (fun _ _ => rfl) ?_
            refine C_seq ?_
            refine C_block ?_
            refine C_seq ?_
            refine C_region ?_
            refine V_y (Y_move rfl) rfl rfl rfl ?_
            obtain ⟨x153, hx153, h145⟩ := Option.bind_eq_some_iff.1 h145
            refine V_indexAddr h130 hx153 Tryz.underlying44 Tryz.sizeOf56 rfl rfl rfl ?_
            intro b154 o155 h156
            obtain ⟨h157, _⟩ := El_level_Target h156
            refine V_y (Y_loadA h157 Tryz.isAgg56 Tryz.sizeOf56 rfl) rfl rfl rfl ?_
            refine V_alloc Tryz.zeroValue56 rfl ?_
            intro b158 w159 h160
            refine V_y (Y_assign rfl) rfl rfl rfl ?_
            refine V_storeNew h160 Tryz.sizeOf56 rfl rfl rfl rfl (by exact (List.forall_mem_cons.2 ⟨rfl, (List.forall_mem_cons.2 ⟨rfl, (List.forall_mem_cons.2 ⟨rfl, (fun _ h => nomatch h)⟩)⟩)⟩)) ?_
            intro w161 h162
            have hk164 := h162.kp (Dw := False)
            have h163 : El (α := level_Target) A142 w161 b158 0 x153 := h162.el hA ⟨[.int .i64 x153.kind], _, rfl, rfl, ⟨[.int .i64 x153.minutes], _, rfl, rfl, rfl⟩⟩
            have ht165 := Kp.tr (Dw := False) hk164 hA hB
            replace hH := Hp.kp (Dw := False) hH hk164
            replace h23 := El.tr (Dw := False) h23 ht165
            replace h130 := Sl.tr (Dw := False) h130 ht165
            replace h156 := El.tr (Dw := False) h156 ht165
            replace hK := Tr.trans (Dw := False) hK ht165
            replace hr133 := Tr.trans (Dw := False) hr133 ht165
            replace hB := Nat.le_trans hB ht165.ex.size
            replace hA := ht165.new
            refine V_to (fun _ _ => rfl) ?_
            refine C_seq ?_
            refine C_seq ?_
            refine C_region ?_
            have h166 := El_level_Target_0 h163
            refine V_y (Y_fieldAddr Tryz.underlying56 rfl Tryz.sizeOf3 (by decide) rfl) rfl rfl rfl ?_
            refine V_y (Y_load (El.int h166) Tryz.isAgg3 rfl) rfl rfl rfl ?_
            refine V_y (Y_lss rfl rfl) rfl rfl rfl ?_
            refine V_y (Y_move rfl) rfl rfl rfl ?_
            refine V_cut 4 (fun _ : Unit => [(5, .pointer (some ⟨b12, 0, none⟩)), (9, .int .i64 (k134 : Int)), (10, .pointer (some ⟨b158, 0, none⟩)), (65, v128), (66, .int .i64 (x3.targets.length : Int)), (67, .int .i64 (k134 : Int)), (79, .bool ((decide (x153.kind < 1)) || (decide ((3 : Int) < x153.kind))))]) (fun _ w' => w161 = w') ?_ ?_
            · simp only [List.take, List.drop]
              rcases Bool.eq_false_or_eq_true (decide (x153.kind < 1)) with hc167 | hc167
              · refine V_gn rfl rfl rfl hc167 rfl rfl rfl ?_
                refine V_gn rfl rfl rfl hc167 rfl rfl rfl ?_
                refine V_gn rfl rfl rfl hc167 rfl rfl rfl ?_
                refine V_y (Y_pick_te rfl hc167 rfl) rfl rfl rfl ?_
                exact V_end fun a ha => ⟨(), ha.sub ⟨rfl, rfl, rfl, rfl, rfl, rfl, (by rw [hc167]; rfl), trivial⟩, rfl⟩
              · refine V_ge rfl rfl rfl hc167 ?_
                have h169 := El_level_Target_0 h163
                refine V_y (Y_fieldAddr Tryz.underlying56 rfl Tryz.sizeOf3 (by decide) rfl) rfl rfl rfl ?_
                refine V_ge rfl rfl rfl hc167 ?_
                refine V_y (Y_load (El.int h169) Tryz.isAgg3 rfl) rfl rfl rfl ?_
                refine V_ge rfl rfl rfl hc167 ?_
                refine V_y (Y_gtr rfl rfl) rfl rfl rfl ?_
                refine V_y (Y_pick_fe rfl hc167 rfl) rfl rfl rfl ?_
                exact V_end fun a ha => ⟨(), ha.sub ⟨rfl, rfl, rfl, rfl, rfl, rfl, (by rw [hc167]; rfl), trivial⟩, rfl⟩
            simp only [List.take, List.drop]
            rintro _ _ rfl
            refine V_y (Y_move rfl) rfl rfl rfl ?_
            refine V_cut 4 (fun _ : Unit => [(5, .pointer (some ⟨b12, 0, none⟩)), (9, .int .i64 (k134 : Int)), (10, .pointer (some ⟨b158, 0, none⟩)), (65, v128), (66, .int .i64 (x3.targets.length : Int)), (67, .int .i64 (k134 : Int)), (84, .bool (((decide (x153.kind < 1)) || (decide ((3 : Int) < x153.kind))) || (decide (x153.minutes < 0))))]) (fun _ w' => w161 = w') ?_ ?_
            · simp only [List.take, List.drop]
              rcases Bool.eq_false_or_eq_true (((decide (x153.kind < 1)) || (decide ((3 : Int) < x153.kind)))) with hc170 | hc170
              · refine V_gn rfl rfl rfl hc170 rfl rfl rfl ?_
                refine V_gn rfl rfl rfl hc170 rfl rfl rfl ?_
                refine V_gn rfl rfl rfl hc170 rfl rfl rfl ?_
                refine V_y (Y_pick_te rfl hc170 rfl) rfl rfl rfl ?_
                exact V_end fun a ha => ⟨(), ha.sub ⟨rfl, rfl, rfl, rfl, rfl, rfl, (by rw [hc170]; rfl), trivial⟩, rfl⟩
              · refine V_ge rfl rfl rfl hc170 ?_
                have h172 := El_level_Target_1 h163
                refine V_y (Y_fieldAddr Tryz.underlying56 rfl Tryz.sizeOf3 (by decide) rfl) rfl rfl rfl ?_
                refine V_ge rfl rfl rfl hc170 ?_
                refine V_y (Y_load (El.int h172) Tryz.isAgg3 rfl) rfl rfl rfl ?_
                refine V_ge rfl rfl rfl hc170 ?_
                refine V_y (Y_lss rfl rfl) rfl rfl rfl ?_
                refine V_y (Y_pick_fe rfl hc170 rfl) rfl rfl rfl ?_
                exact V_end fun a ha => ⟨(), ha.sub ⟨rfl, rfl, rfl, rfl, rfl, rfl, (by rw [hc170]; rfl), trivial⟩, rfl⟩
            simp only [List.take, List.drop]
            rintro _ _ rfl
            refine V_y (Y_move rfl) rfl rfl rfl ?_
            refine V_cut 4 (fun _ : Unit => [(5, .pointer (some ⟨b12, 0, none⟩)), (9, .int .i64 (k134 : Int)), (10, .pointer (some ⟨b158, 0, none⟩)), (65, v128), (66, .int .i64 (x3.targets.length : Int)), (67, .int .i64 (k134 : Int)), (89, .bool ((((decide (x153.kind < 1)) || (decide ((3 : Int) < x153.kind))) || (decide (x153.minutes < 0))) || (decide ((100000 : Int) < x153.minutes))))]) (fun _ w' => w161 = w') ?_ ?_
            · simp only [List.take, List.drop]
              rcases Bool.eq_false_or_eq_true ((((decide (x153.kind < 1)) || (decide ((3 : Int) < x153.kind))) || (decide (x153.minutes < 0)))) with hc173 | hc173
              · refine V_gn rfl rfl rfl hc173 rfl rfl rfl ?_
                refine V_gn rfl rfl rfl hc173 rfl rfl rfl ?_
                refine V_gn rfl rfl rfl hc173 rfl rfl rfl ?_
                refine V_y (Y_pick_te rfl hc173 rfl) rfl rfl rfl ?_
                exact V_end fun a ha => ⟨(), ha.sub ⟨rfl, rfl, rfl, rfl, rfl, rfl, (by rw [hc173]; rfl), trivial⟩, rfl⟩
              · refine V_ge rfl rfl rfl hc173 ?_
                have h175 := El_level_Target_1 h163
                refine V_y (Y_fieldAddr Tryz.underlying56 rfl Tryz.sizeOf3 (by decide) rfl) rfl rfl rfl ?_
                refine V_ge rfl rfl rfl hc173 ?_
                refine V_y (Y_load (El.int h175) Tryz.isAgg3 rfl) rfl rfl rfl ?_
                refine V_ge rfl rfl rfl hc173 ?_
                refine V_y (Y_gtr rfl rfl) rfl rfl rfl ?_
                refine V_y (Y_pick_fe rfl hc173 rfl) rfl rfl rfl ?_
                exact V_end fun a ha => ⟨(), ha.sub ⟨rfl, rfl, rfl, rfl, rfl, rfl, (by rw [hc173]; rfl), trivial⟩, rfl⟩
            simp only [List.take, List.drop]
            rintro _ _ rfl
            refine V_y (Y_move rfl) rfl rfl rfl ?_
            refine V_cut 4 (fun _ : Unit => [(5, .pointer (some ⟨b12, 0, none⟩)), (9, .int .i64 (k134 : Int)), (10, .pointer (some ⟨b158, 0, none⟩)), (65, v128), (66, .int .i64 (x3.targets.length : Int)), (67, .int .i64 (k134 : Int)), (94, .bool (((((decide (x153.kind < 1)) || (decide ((3 : Int) < x153.kind))) || (decide (x153.minutes < 0))) || (decide ((100000 : Int) < x153.minutes))) || (decide (x153.calendar < 0))))]) (fun _ w' => w161 = w') ?_ ?_
            · simp only [List.take, List.drop]
              rcases Bool.eq_false_or_eq_true (((((decide (x153.kind < 1)) || (decide ((3 : Int) < x153.kind))) || (decide (x153.minutes < 0))) || (decide ((100000 : Int) < x153.minutes)))) with hc176 | hc176
              · refine V_gn rfl rfl rfl hc176 rfl rfl rfl ?_
                refine V_gn rfl rfl rfl hc176 rfl rfl rfl ?_
                refine V_gn rfl rfl rfl hc176 rfl rfl rfl ?_
                refine V_y (Y_pick_te rfl hc176 rfl) rfl rfl rfl ?_
                exact V_end fun a ha => ⟨(), ha.sub ⟨rfl, rfl, rfl, rfl, rfl, rfl, (by rw [hc176]; rfl), trivial⟩, rfl⟩
              · refine V_ge rfl rfl rfl hc176 ?_
                have h178 := El_level_Target_2 h163
                refine V_y (Y_fieldAddr Tryz.underlying56 rfl Tryz.sizeOf3 (by decide) rfl) rfl rfl rfl ?_
                refine V_ge rfl rfl rfl hc176 ?_
                refine V_y (Y_load (El.int h178) Tryz.isAgg3 rfl) rfl rfl rfl ?_
                refine V_ge rfl rfl rfl hc176 ?_
                refine V_y (Y_lss rfl rfl) rfl rfl rfl ?_
                refine V_y (Y_pick_fe rfl hc176 rfl) rfl rfl rfl ?_
                exact V_end fun a ha => ⟨(), ha.sub ⟨rfl, rfl, rfl, rfl, rfl, rfl, (by rw [hc176]; rfl), trivial⟩, rfl⟩
            simp only [List.take, List.drop]
            rintro _ _ rfl
            refine V_y (Y_move rfl) rfl rfl rfl ?_
            refine V_cut 4 (fun _ : Unit => [(5, .pointer (some ⟨b12, 0, none⟩)), (9, .int .i64 (k134 : Int)), (10, .pointer (some ⟨b158, 0, none⟩)), (65, v128), (66, .int .i64 (x3.targets.length : Int)), (67, .int .i64 (k134 : Int)), (99, .bool ((((((decide (x153.kind < 1)) || (decide ((3 : Int) < x153.kind))) || (decide (x153.minutes < 0))) || (decide ((100000 : Int) < x153.minutes))) || (decide (x153.calendar < 0))) || (decide ((20 : Int) ≤ x153.calendar))))]) (fun _ w' => w161 = w') ?_ ?_
            · simp only [List.take, List.drop]
              rcases Bool.eq_false_or_eq_true ((((((decide (x153.kind < 1)) || (decide ((3 : Int) < x153.kind))) || (decide (x153.minutes < 0))) || (decide ((100000 : Int) < x153.minutes))) || (decide (x153.calendar < 0)))) with hc179 | hc179
              · refine V_gn rfl rfl rfl hc179 rfl rfl rfl ?_
                refine V_gn rfl rfl rfl hc179 rfl rfl rfl ?_
                refine V_gn rfl rfl rfl hc179 rfl rfl rfl ?_
                refine V_y (Y_pick_te rfl hc179 rfl) rfl rfl rfl ?_
                exact V_end fun a ha => ⟨(), ha.sub ⟨rfl, rfl, rfl, rfl, rfl, rfl, (by rw [hc179]; rfl), trivial⟩, rfl⟩
              · refine V_ge rfl rfl rfl hc179 ?_
                have h181 := El_level_Target_2 h163
                refine V_y (Y_fieldAddr Tryz.underlying56 rfl Tryz.sizeOf3 (by decide) rfl) rfl rfl rfl ?_
                refine V_ge rfl rfl rfl hc179 ?_
                refine V_y (Y_load (El.int h181) Tryz.isAgg3 rfl) rfl rfl rfl ?_
                refine V_ge rfl rfl rfl hc179 ?_
                refine V_y (Y_geq rfl rfl) rfl rfl rfl ?_
                refine V_y (Y_pick_fe rfl hc179 rfl) rfl rfl rfl ?_
                exact V_end fun a ha => ⟨(), ha.sub ⟨rfl, rfl, rfl, rfl, rfl, rfl, (by rw [hc179]; rfl), trivial⟩, rfl⟩
            simp only [List.take, List.drop]
            rintro _ _ rfl
            refine V_to (fun _ _ => rfl) ?_
            refine C_cond rfl (fun hc182 => ?_) (fun hc182 => ?_)
            · rw [if_pos hc182] at h145
              refine C_seq ?_
              refine C_region ?_
              refine V_y (Y_assign rfl) rfl rfl rfl ?_
              refine V_to (fun _ _ => rfl) ?_
              obtain rfl := Option.some.inj h145
              obtain rfl := (h146 : Lp.rt _ = _)
              rw [Lp.andThen_rt] at hm
              obtain rfl := Option.some.inj hm
              refine C_ret ?_
              try simp only [↓inBlock_ret, ↓then_ret]
              exact retQ rfl (Res.one Tryz.results65 rfl) ⟨rfl, hK.kp⟩
            · rw [if_neg (nt hc182)] at h145
              refine C_skip_to (fun _ _ => rfl) ?_
              refine C_seq ?_
              refine C_region_q (Dw := False) Tryz_mixed (by kernel_rfl) ?_
              refine VQ_y (fun w' hw' => Y_move rfl) rfl rfl rfl ?_
              refine VQ_y (fun w' hw' => Y_gtr rfl rfl) rfl rfl rfl ?_
              refine VQ_y (fun w' hw' => Y_move rfl) rfl rfl rfl ?_
              obtain ⟨s184, hs184, h145⟩ := Option.bind_eq_some_iff.1 h145
              refine VQ_cut 11 (fun _ : Unit => [(5, .pointer (some ⟨b12, 0, none⟩)), (65, v128), (66, .int .i64 (x3.targets.length : Int)), (67, .int .i64 (k134 : Int)), (113, .bool s184)]) (fun _ => True) ?_ ?_
              · simp only [List.take, List.drop]
                rcases Bool.eq_false_or_eq_true (decide ((0 : Int) < (k134 : Int))) with hc183 | hc183
                · rw [if_pos hc183] at hs184
                  refine VQ_ge rfl rfl rfl hc183 ?_
                  have h185 := El_level_Target_0 h163
                  refine VQ_y (fun w' hw' => Y_fieldAddr Tryz.underlying56 rfl Tryz.sizeOf3 (by decide) rfl) rfl rfl rfl ?_
                  refine VQ_ge rfl rfl rfl hc183 ?_
                  refine VQ_y (fun w' hw' => Y_load (El.int (El.kp (Dw := False) h185 hw')) Tryz.isAgg3 rfl) rfl rfl rfl ?_
                  refine VQ_ge rfl rfl rfl hc183 ?_
                  have h186 := El_level_Level_2 h23
                  refine VQ_y (fun w' hw' => Y_fieldAddr Tryz.underlying46 rfl Tryz.sizeOf44 (by decide) rfl) rfl rfl rfl ?_
                  refine VQ_ge rfl rfl rfl hc183 ?_
                  obtain ⟨v187, h188, h189⟩ := El.list h186
                  refine VQ_y (fun w' hw' => Y_load ((World.cell?_of_block (hw'.block _ (World.block_lt_of_cell? _ _ h188))).trans h188) Tryz.isAgg44 rfl) rfl rfl rfl ?_
                  refine VQ_ge rfl rfl rfl hc183 ?_
                  refine VQ_y (fun w' hw' => Y_move rfl) rfl rfl rfl ?_
                  refine VQ_ge rfl rfl rfl hc183 ?_
                  refine VQ_y (fun w' hw' => Y_subI rfl rfl) rfl rfl rfl ?_
                  refine VQ_ge rfl rfl rfl hc183 ?_
                  obtain ⟨x190, hx190, hs184⟩ := Option.bind_eq_some_iff.1 hs184
                  refine VQ_indexAddr h189 hx190 Tryz.underlying44 Tryz.sizeOf56 rfl rfl rfl ?_
                  intro b191 o192 h193
                  refine VQ_ge rfl rfl rfl hc183 ?_
                  have h194 := El_level_Target_0 h193
                  refine VQ_y (fun w' hw' => Y_fieldAddr Tryz.underlying56 rfl Tryz.sizeOf3 (by decide) rfl) rfl rfl rfl ?_
                  refine VQ_ge rfl rfl rfl hc183 ?_
                  refine VQ_y (fun w' hw' => Y_load (El.int (El.kp (Dw := False) h194 hw')) Tryz.isAgg3 rfl) rfl rfl rfl ?_
                  refine VQ_ge rfl rfl rfl hc183 ?_
                  refine VQ_y (fun w' hw' => Y_leq rfl rfl) rfl rfl rfl ?_
                  refine VQ_y (fun _ _ => Y_pick_te rfl hc183 rfl) rfl rfl rfl ?_
                  obtain rfl := Option.some.inj hs184
                  exact VQ_end fun a ha => ⟨(), ha.sub ⟨rfl, rfl, rfl, rfl, rfl, trivial⟩, trivial⟩
                · rw [if_neg (nt hc183)] at hs184
                  refine VQ_gn rfl rfl rfl hc183 rfl rfl rfl ?_
                  refine VQ_gn rfl rfl rfl hc183 rfl rfl rfl ?_
                  refine VQ_gn rfl rfl rfl hc183 rfl rfl rfl ?_
                  refine VQ_gn rfl rfl rfl hc183 rfl rfl rfl ?_
                  refine VQ_gn rfl rfl rfl hc183 rfl rfl rfl ?_
                  refine VQ_gn rfl rfl rfl hc183 rfl rfl rfl ?_
                  refine VQ_gn rfl rfl rfl hc183 rfl rfl rfl ?_
                  refine VQ_gn rfl rfl rfl hc183 rfl rfl rfl ?_
                  refine VQ_gn rfl rfl rfl hc183 rfl rfl rfl ?_
                  refine VQ_gn rfl rfl rfl hc183 rfl rfl rfl ?_
                  refine VQ_y (fun _ _ => Y_pick_fe rfl hc183 rfl) rfl rfl rfl ?_
                  obtain rfl := Option.some.inj hs184
                  exact VQ_end fun a ha => ⟨(), ha.sub ⟨rfl, rfl, rfl, rfl, rfl, trivial⟩, trivial⟩
              simp only [List.take, List.drop]
              rintro _ _
              refine VQ_to (fun _ _ => rfl) (fun w195 hk196 => ?_)
              have ht197 := Kp.tr (Dw := False) hk196 hA hB
              replace hH := Hp.kp (Dw := False) hH hk196
              replace h23 := El.tr (Dw := False) h23 ht197
              replace h130 := Sl.tr (Dw := False) h130 ht197
              replace hK := Tr.trans (Dw := False) hK ht197
              replace hr133 := Tr.trans (Dw := False) hr133 ht197
              replace hB := Nat.le_trans hB ht197.ex.size
              replace hA := ht197.new
              refine C_cond rfl (fun hc198 => ?_) (fun hc198 => ?_)
              · rw [if_pos hc198] at h145
                refine C_seq ?_
                refine C_region ?_
                refine V_y (Y_assign rfl) rfl rfl rfl ?_
                refine V_to (fun _ _ => rfl) ?_
                obtain rfl := Option.some.inj h145
                obtain rfl := (h146 : Lp.rt _ = _)
                rw [Lp.andThen_rt] at hm
                obtain rfl := Option.some.inj hm
                refine C_ret ?_
                try simp only [↓inBlock_ret, ↓then_ret]
                exact retQ rfl (Res.one Tryz.results65 rfl) ⟨rfl, hK.kp⟩
              · rw [if_neg (nt hc198)] at h145
                refine C_skip_to (fun _ _ => rfl) ?_
                refine C_region ?_
                refine V_y (Y_addI rfl rfl) rfl rfl rfl ?_
                refine V_y (Y_move rfl) rfl rfl rfl ?_
                obtain rfl := Option.some.inj h145
                refine V_end (fun a ha199 => ?_)
                exact ⟨(), hlt148, h146, ⟨A142, ha199.sub ⟨rfl, rfl, rfl, (congrArg (fun z => some (Value.int .i64 z)) (w64_succ hlt148 hn151)), trivial⟩, ⟨hH, hr133⟩⟩⟩
          · refine C_exit (fun a ha200 => ?_)
            exact ⟨((), A142), ha200.sub trivial, ⟨(h149 (eq_of_dec hle147 hc152)).symm, hH, hr133⟩⟩
        rintro ⟨s132, A138⟩ w135 ⟨rfl, hH139, hk136⟩ a ha137
        rw [Lp.andThen_fin] at hm
        replace hK := Tr.trans (Dw := False) hK hk136
        replace hB := Nat.le_trans hB hk136.ex.size
        replace hA := hk136.new
        replace hH : Hp w.heap.size A138 w135 ([]) := hH139
        refine C_at (n := ⟨115, [], none⟩) (fun _ _ => rfl) ?_ ha137
        refine C_seq ?_
        refine C_region ?_
        refine V_y (Y_assign rfl) rfl rfl rfl ?_
        refine V_to (fun _ _ => rfl) ?_
        obtain rfl := Option.some.inj hm
        refine C_ret ?_
        try simp only [↓inBlock_ret, ↓then_ret]
        exact retQ rfl (Res.one Tryz.results65 rfl) ⟨rfl, hK.kp⟩

set_option maxRecDepth 4000 in
set_option maxHeartbeats 4000000 in
theorem portref2_PolicyFault_c (w : World) {A : Nat → Prop} (hA : ∀ b, w.heap.size ≤ b → A b) (p : level_Policy) (v_p0 : Value) (h_p0 : Sl A w v_p0 p.pauses) (v_p1 : Value) (h_p1 : Sl A w v_p1 p.levels) {r : Int} (hm : portref2_PolicyFault p = some r) : Ret Tryz.prog 18 #[.agg #[v_p0, v_p1]] w fun v w' => v = .int .i64 r ∧ Kp False w w' := by
  unfold portref2_PolicyFault at hm
  refine enter Tryz.func18 rfl Tryz.ntmps18 rfl ?_
  have hA0 := hA
  have hB := Nat.le_refl w.heap.size
  have hK : Tr False w.heap.size A w A w := Tr.refl (Dw := False) hA
  have hH : Hp w.heap.size A w [] := Hp.nil
  refine C_seq ?_
  refine C_region ?_
  refine V_box rfl rfl ?_
  intro b5 w6 h7
  have hk9 := h7.kp (Dw := False)
  have h8 : El (α := level_Policy) A w6 b5 0 p := h7.el hA ⟨[v_p0], _, rfl, ⟨_, rfl, h_p0⟩, ⟨_, rfl, h_p1⟩⟩
  have ht10 := Kp.tr (Dw := False) hk9 hA hB
  replace hH := Hp.kp (Dw := False) hH hk9
  replace h_p0 := Sl.tr (Dw := False) h_p0 ht10
  replace h_p1 := Sl.tr (Dw := False) h_p1 ht10
  replace hK := Tr.trans (Dw := False) hK ht10
  replace hB := Nat.le_trans hB ht10.ex.size
  replace hA := ht10.new
  refine V_y (Y_assign rfl) rfl rfl rfl ?_
  refine V_to (fun _ _ => rfl) ?_
  refine C_seq ?_
  refine C_seq ?_
  refine C_region ?_
  have h11 := El_level_Policy_0 h8
  refine V_y (Y_fieldAddr Tryz.underlying25 rfl Tryz.sizeOf22 (by decide) rfl) rfl rfl rfl ?_
  obtain ⟨v12, h13, h14⟩ := El.list h11
  refine V_y (Y_load h13 Tryz.isAgg22 rfl) rfl rfl rfl ?_
  have hn15 := Sl.le h14
  refine V_y (Y_lenSl h14 rfl Tryz.underlying22 rfl) rfl rfl rfl ?_
  refine V_y (Y_move rfl) rfl rfl rfl ?_
  refine V_to (fun _ _ => rfl) ?_
  have hn32 := Sl.le h14
  obtain ⟨o16, ho16, hm⟩ := Option.bind_eq_some_iff.1 hm
  refine C_cutG (ι := Unit) (fun (s17 : Unit) => [(1, .pointer (some ⟨b5, 0, none⟩))]) (fun (s17 : Unit) => fun w' => o16 = .fin s17 ∧ w6 = w') ?_ ?_
  · refine C_block ?_
    refine C_range ho16 (fun k19 _ a w' => ∃ i : Unit, Has ⟨52, [], none⟩ a ([(1, .pointer (some ⟨b5, 0, none⟩)), (8, v12), (9, .int .i64 (p.pauses.length : Int)), (10, .int .i64 (k19 : Int))]) ∧ w6 = w') (fun a ha => ⟨(), ha.sub ⟨rfl, rfl, rfl, rfl, trivial⟩, rfl⟩) ?_
    rintro K k19 _ a _ ⟨_, ha54, rfl⟩ hle28 K31 h30
    refine C_of ?_ ha54
    refine C_seq (C_region (V_y (Y_lss rfl rfl) rfl rfl rfl (V_to (fun _ _ => rfl) ?_)))
    refine C_seq ?_
    refine C_cond rfl (fun hc33 => ?_) (fun hc33 => ?_)
    · have hlt29 := lt_of_dec hc33
      obtain ⟨x25, h26, h27⟩ := K31 hlt29
      refine C_skip_to (fun _ _ => rfl) ?_
      refine C_seq ?_
      refine C_block ?_
      refine C_seq ?_
      refine C_region ?_
      refine V_y (Y_move rfl) rfl rfl rfl ?_
      obtain ⟨x34, hx34, h26⟩ := Option.bind_eq_some_iff.1 h26
      refine V_indexAddr h14 hx34 Tryz.underlying22 Tryz.sizeOf3 rfl rfl rfl ?_
      intro b35 o36 h37
      refine V_y (Y_load (El.int h37) Tryz.isAgg3 rfl) rfl rfl rfl ?_
      refine V_y (Y_assign rfl) rfl rfl rfl ?_
      refine V_y (Y_assign rfl) rfl rfl rfl ?_
      refine V_to (fun _ _ => rfl) ?_
      refine C_seq ?_
      refine C_seq ?_
      refine C_region ?_
      refine V_y (Y_move rfl) rfl rfl rfl ?_
      refine V_y (Y_lss rfl rfl) rfl rfl rfl ?_
      refine V_y (Y_move rfl) rfl rfl rfl ?_
      refine V_cut 3 (fun _ : Unit => [(1, .pointer (some ⟨b5, 0, none⟩)), (3, .int .i64 (k19 : Int)), (4, .int .i64 x34), (8, v12), (9, .int .i64 (p.pauses.length : Int)), (10, .int .i64 (k19 : Int)), (20, .bool ((decide (x34 < 1)) || (decide ((4 : Int) < x34))))]) (fun _ w' => w6 = w') ?_ ?_
      · simp only [List.take, List.drop]
        rcases Bool.eq_false_or_eq_true (decide (x34 < 1)) with hc38 | hc38
        · refine V_gn rfl rfl rfl hc38 rfl rfl rfl ?_
          refine V_gn rfl rfl rfl hc38 rfl rfl rfl ?_
          refine V_y (Y_pick_te rfl hc38 rfl) rfl rfl rfl ?_
          exact V_end fun a ha => ⟨(), ha.sub ⟨rfl, rfl, rfl, rfl, rfl, rfl, (by rw [hc38]; rfl), trivial⟩, rfl⟩
        · refine V_ge rfl rfl rfl hc38 ?_
          refine V_y (Y_move rfl) rfl rfl rfl ?_
          refine V_ge rfl rfl rfl hc38 ?_
          refine V_y (Y_gtr rfl rfl) rfl rfl rfl ?_
          refine V_y (Y_pick_fe rfl hc38 rfl) rfl rfl rfl ?_
          exact V_end fun a ha => ⟨(), ha.sub ⟨rfl, rfl, rfl, rfl, rfl, rfl, (by rw [hc38]; rfl), trivial⟩, rfl⟩
      simp only [List.take, List.drop]
      rintro _ _ rfl
      refine V_to (fun _ _ => rfl) ?_
      refine C_cond rfl (fun hc40 => ?_) (fun hc40 => ?_)
      · rw [if_pos hc40] at h26
        refine C_seq ?_
        refine C_region ?_
        refine V_y (Y_assign rfl) rfl rfl rfl ?_
        refine V_to (fun _ _ => rfl) ?_
        obtain rfl := Option.some.inj h26
        obtain rfl := (h27 : Lp.rt _ = _)
        rw [Lp.andThen_rt] at hm
        obtain rfl := Option.some.inj hm
        refine C_ret ?_
        try simp only [↓inBlock_ret, ↓then_ret]
        exact retQ rfl (Res.one Tryz.results18 rfl) ⟨rfl, hK.kp⟩
      · rw [if_neg (nt hc40)] at h26
        refine C_skip_to (fun _ _ => rfl) ?_
        refine C_seq ?_
        refine C_region ?_
        refine V_y (Y_move rfl) rfl rfl rfl ?_
        refine V_y (Y_gtr rfl rfl) rfl rfl rfl ?_
        refine V_y (Y_move rfl) rfl rfl rfl ?_
        obtain ⟨s42, hs42, h26⟩ := Option.bind_eq_some_iff.1 h26
        refine V_cut 9 (fun _ : Unit => [(1, .pointer (some ⟨b5, 0, none⟩)), (8, v12), (9, .int .i64 (p.pauses.length : Int)), (10, .int .i64 (k19 : Int)), (32, .bool s42)]) (fun _ w' => w6 = w') ?_ ?_
        · simp only [List.take, List.drop]
          rcases Bool.eq_false_or_eq_true (decide ((0 : Int) < (k19 : Int))) with hc41 | hc41
          · rw [if_pos hc41] at hs42
            refine V_ge rfl rfl rfl hc41 ?_
            refine V_y (Y_move rfl) rfl rfl rfl ?_
            refine V_ge rfl rfl rfl hc41 ?_
            have h43 := El_level_Policy_0 h8
            refine V_y (Y_fieldAddr Tryz.underlying25 rfl Tryz.sizeOf22 (by decide) rfl) rfl rfl rfl ?_
            refine V_ge rfl rfl rfl hc41 ?_
            obtain ⟨v44, h45, h46⟩ := El.list h43
            refine V_y (Y_load h45 Tryz.isAgg22 rfl) rfl rfl rfl ?_
            refine V_ge rfl rfl rfl hc41 ?_
            refine V_y (Y_move rfl) rfl rfl rfl ?_
            refine V_ge rfl rfl rfl hc41 ?_
            refine V_y (Y_subI rfl rfl) rfl rfl rfl ?_
            refine V_ge rfl rfl rfl hc41 ?_
            obtain ⟨x47, hx47, hs42⟩ := Option.bind_eq_some_iff.1 hs42
            refine V_indexAddr h46 hx47 Tryz.underlying22 Tryz.sizeOf3 rfl rfl rfl ?_
            intro b48 o49 h50
            refine V_ge rfl rfl rfl hc41 ?_
            refine V_y (Y_load (El.int h50) Tryz.isAgg3 rfl) rfl rfl rfl ?_
            refine V_ge rfl rfl rfl hc41 ?_
            refine V_y (Y_leq rfl rfl) rfl rfl rfl ?_
            refine V_y (Y_pick_te rfl hc41 rfl) rfl rfl rfl ?_
            obtain rfl := Option.some.inj hs42
            exact V_end fun a ha => ⟨(), ha.sub ⟨rfl, rfl, rfl, rfl, rfl, trivial⟩, rfl⟩
          · rw [if_neg (nt hc41)] at hs42
            refine V_gn rfl rfl rfl hc41 rfl rfl rfl ?_
            refine V_gn rfl rfl rfl hc41 rfl rfl rfl ?_
            refine V_gn rfl rfl rfl hc41 rfl rfl rfl ?_
            refine V_gn rfl rfl rfl hc41 rfl rfl rfl ?_
            refine V_gn rfl rfl rfl hc41 rfl rfl rfl ?_
            refine V_gn rfl rfl rfl hc41 rfl rfl rfl ?_
            refine V_gn rfl rfl rfl hc41 rfl rfl rfl ?_
            refine V_gn rfl rfl rfl hc41 rfl rfl rfl ?_
            refine V_y (Y_pick_fe rfl hc41 rfl) rfl rfl rfl ?_
            obtain rfl := Option.some.inj hs42
            exact V_end fun a ha => ⟨(), ha.sub ⟨rfl, rfl, rfl, rfl, rfl, trivial⟩, rfl⟩
        simp only [List.take, List.drop]
        rintro _ _ rfl
        refine V_to (fun _ _ => rfl) ?_
        refine C_cond rfl (fun hc51 => ?_) (fun hc51 => ?_)
        · rw [if_pos hc51] at h26
          refine C_seq ?_
          refine C_region ?_
          refine V_y (Y_assign rfl) rfl rfl rfl ?_
          refine V_to (fun _ _ => rfl) ?_
          obtain rfl := Option.some.inj h26
          obtain rfl := (h27 : Lp.rt _ = _)
          rw [Lp.andThen_rt] at hm
          obtain rfl := Option.some.inj hm
          refine C_ret ?_
          try simp only [↓inBlock_ret, ↓then_ret]
          exact retQ rfl (Res.one Tryz.results18 rfl) ⟨rfl, hK.kp⟩
        · rw [if_neg (nt hc51)] at h26
          refine C_skip_to (fun _ _ => rfl) ?_
          refine C_region ?_
          refine V_y (Y_addI rfl rfl) rfl rfl rfl ?_
          refine V_y (Y_move rfl) rfl rfl rfl ?_
          obtain rfl := Option.some.inj h26
          refine V_end (fun a ha52 => ?_)
          exact ⟨(), hlt29, h27, ⟨(), ha52.sub ⟨rfl, rfl, rfl, (congrArg (fun z => some (Value.int .i64 z)) (w64_succ hlt29 hn32)), trivial⟩, rfl⟩⟩
    · refine C_exit (fun a ha53 => ?_)
      exact ⟨(), ha53.sub ⟨rfl, trivial⟩, ⟨(h30 (eq_of_dec hle28 hc33)).symm, rfl⟩⟩
  rintro s17 _ ⟨rfl, rfl⟩ a ha22
  rw [Lp.andThen_fin] at hm
  refine C_at (n := ⟨52, [], none⟩) (fun _ _ => rfl) ?_ ha22
  refine C_seq ?_
  refine C_seq ?_
  refine C_region ?_
  have h55 := El_level_Policy_1 h8
  refine V_y (Y_fieldAddr Tryz.underlying25 rfl Tryz.sizeOf23 (by decide) rfl) rfl rfl rfl ?_
  obtain ⟨v56, h57, h58⟩ := El.list h55
  refine V_y (Y_load h57 Tryz.isAgg23 rfl) rfl rfl rfl ?_
  have hn59 := Sl.le h58
  refine V_y (Y_lenSl h58 rfl Tryz.underlying23 rfl) rfl rfl rfl ?_
  refine V_y (Y_gtr rfl rfl) rfl rfl rfl ?_
  refine V_to (fun _ _ => rfl) ?_
  refine C_cond rfl (fun hc60 => ?_) (fun hc60 => ?_)
  · rw [if_pos hc60] at hm
    refine C_seq ?_
    refine C_region ?_
    refine V_y (Y_assign rfl) rfl rfl rfl ?_
    refine V_to (fun _ _ => rfl) ?_
    obtain rfl := Option.some.inj hm
    refine C_ret ?_
    try simp only [↓inBlock_ret, ↓then_ret]
    exact retQ rfl (Res.one Tryz.results18 rfl) ⟨rfl, hK.kp⟩
  · rw [if_neg (nt hc60)] at hm
    refine C_skip_to (fun _ _ => rfl) ?_
    refine C_seq ?_
    refine C_seq ?_
    refine C_region ?_
    have h61 := El_level_Policy_1 h8
    refine V_y (Y_fieldAddr Tryz.underlying25 rfl Tryz.sizeOf23 (by decide) rfl) rfl rfl rfl ?_
    obtain ⟨v62, h63, h64⟩ := El.list h61
    refine V_y (Y_load h63 Tryz.isAgg23 rfl) rfl rfl rfl ?_
    have hn65 := Sl.le h64
    refine V_y (Y_lenSl h64 rfl Tryz.underlying23 rfl) rfl rfl rfl ?_
    refine V_y (Y_move rfl) rfl rfl rfl ?_
    refine V_to (fun _ _ => rfl) ?_
    obtain ⟨o66, ho66, hm⟩ := Option.bind_eq_some_iff.1 hm
    refine C_cutG (ι := (Unit × (Nat → Prop))) (fun ⟨s67, A73⟩ => []) (fun ⟨s67, A73⟩ => fun w' => o66 = .fin s67 ∧ Hp w.heap.size A73 w' ([]) ∧ Tr False w.heap.size A w6 A73 w') ?_ ?_
    · refine C_block ?_
      refine C_range ho66 (fun k69 _ a w' => ∃ i : (Nat → Prop), Has ⟨52, [], none⟩ a ([(1, .pointer (some ⟨b5, 0, none⟩)), (40, .int .i64 (p.levels.length : Int)), (41, .int .i64 (k69 : Int))]) ∧ Hp w.heap.size i w' ([]) ∧ Tr False w.heap.size A w6 i w') (fun a ha => ⟨A, ha.sub ⟨rfl, rfl, rfl, trivial⟩, ⟨hH, Tr.refl (Dw := False) hA⟩⟩) ?_
      rintro K k69 _ a w76 ⟨A77, ha99, hH78, hr68⟩ hle82 K85 h84
      refine C_of ?_ ha99
      replace h8 := El.tr (Dw := False) h8 hr68
      replace hK := Tr.trans (Dw := False) hK hr68
      replace hB := Nat.le_trans hB hr68.ex.size
      replace hA := hr68.new
      replace hH : Hp w.heap.size A77 w76 ([]) := hH78
      refine C_seq (C_region (V_y (Y_lss rfl rfl) rfl rfl rfl (V_to (fun _ _ => rfl) ?_)))
      refine C_seq ?_
      refine C_cond rfl (fun hc87 => ?_) (fun hc87 => ?_)
      · have hlt83 := lt_of_dec hc87
        obtain ⟨x79, h80, h81⟩ := K85 hlt83
        refine C_skip_to (fun _ _ => rfl) ?_
        refine C_seq ?_
        refine C_block ?_
        refine C_seq ?_
        refine C_region ?_
        refine V_y (Y_move rfl) rfl rfl rfl ?_
        refine V_y (Y_assign rfl) rfl rfl rfl ?_
        refine V_to (fun _ _ => rfl) ?_
        refine C_seq ?_
        refine C_region ?_
        have h88 := El_level_Policy_1 h8
        refine V_y (Y_fieldAddr Tryz.underlying25 rfl Tryz.sizeOf23 (by decide) rfl) rfl rfl rfl ?_
        obtain ⟨v89, h90, h91⟩ := El.list h88
        refine V_y (Y_load h90 Tryz.isAgg23 rfl) rfl rfl rfl ?_
        refine V_y (Y_move rfl) rfl rfl rfl ?_
        obtain ⟨x92, hx92, h80⟩ := Option.bind_eq_some_iff.1 h80
        refine V_call Tryz.call65 rfl rfl rfl rfl (portref2_levelFault_c w76 hA p.levels v89 h91 (k69 : Int) hx92) ?_
        rintro _ w93 ⟨rfl, hk94⟩
        have ht95 := Kp.tr (Dw := False) hk94 hA hB
        replace hH := Hp.kp (Dw := False) hH hk94
        replace h8 := El.tr (Dw := False) h8 ht95
        replace h88 := El.tr (Dw := False) h88 ht95
        replace h91 := Sl.tr (Dw := False) h91 ht95
        replace hK := Tr.trans (Dw := False) hK ht95
        replace hr68 := Tr.trans (Dw := False) hr68 ht95
        replace hB := Nat.le_trans hB ht95.ex.size
        replace hA := ht95.new
        refine V_y (Y_assign rfl) rfl rfl rfl ?_
        refine V_to (fun _ _ => rfl) ?_
        refine C_seq ?_
        refine C_region ?_
        refine V_y (Y_move rfl) rfl rfl rfl ?_
        refine V_y (Y_neq rfl rfl) rfl rfl rfl ?_
        refine V_to (fun _ _ => rfl) ?_
        refine C_cond rfl (fun hc96 => ?_) (fun hc96 => ?_)
        · rw [if_pos hc96] at h80
          refine C_seq ?_
          refine C_region ?_
          refine V_y (Y_move rfl) rfl rfl rfl ?_
          refine V_y (Y_assign rfl) rfl rfl rfl ?_
          refine V_to (fun _ _ => rfl) ?_
          obtain rfl := Option.some.inj h80
          obtain rfl := (h81 : Lp.rt _ = _)
          rw [Lp.andThen_rt] at hm
          obtain rfl := Option.some.inj hm
          refine C_ret ?_
          try simp only [↓inBlock_ret, ↓then_ret]
          exact retQ rfl (Res.one Tryz.results18 rfl) ⟨rfl, hK.kp⟩
        · rw [if_neg (nt hc96)] at h80
          refine C_skip_to (fun _ _ => rfl) ?_
          refine C_region ?_
          refine V_y (Y_addI rfl rfl) rfl rfl rfl ?_
          refine V_y (Y_move rfl) rfl rfl rfl ?_
          obtain rfl := Option.some.inj h80
          refine V_end (fun a ha97 => ?_)
          exact ⟨(), hlt83, h81, ⟨A77, ha97.sub ⟨rfl, rfl, (congrArg (fun z => some (Value.int .i64 z)) (w64_succ hlt83 hn65)), trivial⟩, ⟨hH, hr68⟩⟩⟩
      · refine C_exit (fun a ha98 => ?_)
        exact ⟨((), A77), ha98.sub trivial, ⟨(h84 (eq_of_dec hle82 hc87)).symm, hH, hr68⟩⟩
    rintro ⟨s67, A73⟩ w70 ⟨rfl, hH74, hk71⟩ a ha72
    rw [Lp.andThen_fin] at hm
    replace hK := Tr.trans (Dw := False) hK hk71
    replace hB := Nat.le_trans hB hk71.ex.size
    replace hA := hk71.new
    replace hH : Hp w.heap.size A73 w70 ([]) := hH74
    refine C_at (n := ⟨52, [], none⟩) (fun _ _ => rfl) ?_ ha72
    refine C_seq ?_
    refine C_region ?_
    refine V_y (Y_assign rfl) rfl rfl rfl ?_
    refine V_to (fun _ _ => rfl) ?_
    obtain rfl := Option.some.inj hm
    refine C_ret ?_
    try simp only [↓inBlock_ret, ↓then_ret]
    exact retQ rfl (Res.one Tryz.results18 rfl) ⟨rfl, hK.kp⟩

end Go.Proofs.YtcbebdcofipcpaaGreatDoor.W
