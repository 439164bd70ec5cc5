/-
  Written by program (gen.py) from the IR of the dump: each function computes its model.
-/
import Derived.Test.YtebhdihfjeiadaaGreatDoorKnowWordsW0
namespace Go.Proofs.YtebhdihfjeiadaaGreatDoor.W
open Go Go.RowKit Go.Pu Go.Gw Go.Proofs Go.Proofs.YtebhdihfjeiadaaGreatDoor.M
set_option linter.unusedVariables false
set_option linter.unusedSimpArgs false
variable {Dw : Prop}

set_option maxRecDepth 4000 in
set_option maxHeartbeats 4000000 in
theorem slices_Equal_Lstring_string_c (w : World) {A : Nat → Prop} (hA : ∀ b, w.heap.size ≤ b → A b) (s1 : (List ByteArray)) (v_s1 : Value) (h_s1 : Sl A w v_s1 s1) (s2 : (List ByteArray)) (v_s2 : Value) (h_s2 : Sl A w v_s2 s2) {r : Bool} (hm : slices_Equal_Lstring_string s1 s2 = some r) : Ret Tryz.prog 8 #[v_s1, v_s2] w fun v w' => v = .bool r ∧ Kp Dw w w' := by
  unfold slices_Equal_Lstring_string at hm
  refine enter Tryz.func8 rfl Tryz.ntmps8 rfl ?_
  have hA0 := hA
  have hB := Nat.le_refl w.heap.size
  have hK : Tr Dw w.heap.size A w A w := Tr.refl (Dw := Dw) hA
  have hH : Hp w.heap.size A w [] := Hp.nil
  refine C_seq ?_
  refine C_region ?_
  refine V_y (Y_assign rfl) rfl rfl rfl ?_
  refine V_to (fun _ _ => rfl) ?_
  refine C_seq ?_
  refine C_seq ?_
  refine C_region ?_
  refine V_y (Y_move rfl) rfl rfl rfl ?_
  refine V_y (Y_lenSl h_s1 rfl Tryz.underlying22 rfl) rfl rfl rfl ?_
  refine V_y (Y_move rfl) rfl rfl rfl ?_
  refine V_y (Y_lenSl h_s2 rfl Tryz.underlying22 rfl) rfl rfl rfl ?_
  refine V_y (Y_neq rfl rfl) rfl rfl rfl ?_
  refine V_to (fun _ _ => rfl) ?_
  refine C_cond rfl (fun hc5 => ?_) (fun hc5 => ?_)
  · rw [if_pos hc5] at hm
    refine C_seq ?_
    refine C_region ?_
    refine V_y (Y_assign rfl) rfl rfl rfl ?_
    refine V_to (fun _ _ => rfl) ?_
    obtain rfl := Option.some.inj hm
    refine C_ret ?_
    try simp only [↓inBlock_ret, ↓then_ret]
    exact retQ rfl (Res.one Tryz.results8 rfl) ⟨rfl, hK.kp⟩
  · rw [if_neg (nt hc5)] at hm
    refine C_skip_to (fun _ _ => rfl) ?_
    refine C_seq ?_
    refine C_seq ?_
    refine C_region ?_
    refine V_y (Y_move rfl) rfl rfl rfl ?_
    refine V_y (Y_lenSl h_s1 rfl Tryz.underlying22 rfl) rfl rfl rfl ?_
    refine V_y (Y_move rfl) rfl rfl rfl ?_
    refine V_to (fun _ _ => rfl) ?_
    have hn27 := Sl.le h_s1
    obtain ⟨o6, ho6, hm⟩ := Option.bind_eq_some_iff.1 hm
    refine C_cutG (ι := (Unit × (Nat → Prop))) (fun ⟨s7, A13⟩ => []) (fun ⟨s7, A13⟩ => fun w' => o6 = .fin s7 ∧ Hp w.heap.size A13 w' ([]) ∧ Tr Dw w.heap.size A w A13 w') ?_ ?_
    · refine C_block ?_
      refine C_range ho6 (fun k9 _ a w' => ∃ i : (Nat → Prop), Has ⟨26, [], none⟩ a ([(0, v_s1), (1, v_s2), (12, .int .i64 (s1.length : Int)), (13, .int .i64 (k9 : Int))]) ∧ Hp w.heap.size i w' ([]) ∧ Tr Dw w.heap.size A w i w') (fun a ha => ⟨A, ha.sub ⟨rfl, rfl, rfl, rfl, trivial⟩, ⟨hH, Tr.refl (Dw := Dw) hA⟩⟩) ?_
      rintro K k9 _ a w17 ⟨A18, ha43, hH19, hr8⟩ hle23 K26 h25
      refine C_of ?_ ha43
      replace h_s1 := Sl.tr (Dw := Dw) h_s1 hr8
      replace h_s2 := Sl.tr (Dw := Dw) h_s2 hr8
      replace hK := Tr.trans (Dw := Dw) hK hr8
      replace hB := Nat.le_trans hB hr8.ex.size
      replace hA := hr8.new
      replace hH : Hp w.heap.size A18 w17 ([]) := hH19
      refine C_seq (C_region (V_y (Y_lss rfl rfl) rfl rfl rfl (V_to (fun _ _ => rfl) ?_)))
      refine C_seq ?_
      refine C_cond rfl (fun hc28 => ?_) (fun hc28 => ?_)
      · have hlt24 := lt_of_dec hc28
        obtain ⟨x20, h21, h22⟩ := K26 hlt24
        refine C_skip_to (fun _ _ => rfl) ?_
        refine C_seq ?_
        refine C_block ?_
        refine C_seq ?_
        refine C_region ?_
        refine V_y (Y_move rfl) rfl rfl rfl ?_
        refine V_y (Y_assign rfl) rfl rfl rfl ?_
        refine V_to (fun _ _ => rfl) ?_
        refine C_seq ?_
        refine C_region_q (Dw := Dw) Tryz_mixed (by kernel_rfl) ?_
        refine VQ_y (fun w' hw' => Y_move rfl) rfl rfl rfl ?_
        refine VQ_y (fun w' hw' => Y_move rfl) rfl rfl rfl ?_
        obtain ⟨x29, hx29, h21⟩ := Option.bind_eq_some_iff.1 h21
        refine VQ_indexAddr h_s1 hx29 Tryz.underlying22 Tryz.sizeOf9 rfl rfl rfl ?_
        intro b30 o31 h32
        refine VQ_y (fun w' hw' => Y_load (El.str (El.kp (Dw := Dw) h32 hw')) Tryz.isAgg9 rfl) rfl rfl rfl ?_
        refine VQ_y (fun w' hw' => Y_move rfl) rfl rfl rfl ?_
        refine VQ_y (fun w' hw' => Y_move rfl) rfl rfl rfl ?_
        obtain ⟨x33, hx33, h21⟩ := Option.bind_eq_some_iff.1 h21
        refine VQ_indexAddr h_s2 hx33 Tryz.underlying22 Tryz.sizeOf9 rfl rfl rfl ?_
        intro b34 o35 h36
        refine VQ_y (fun w' hw' => Y_load (El.str (El.kp (Dw := Dw) h36 hw')) Tryz.isAgg9 rfl) rfl rfl rfl ?_
        refine VQ_y (fun w' hw' => Y_sneq rfl rfl) rfl rfl rfl ?_
        refine VQ_to (fun _ _ => rfl) (fun w37 hk38 => ?_)
        have ht39 := Kp.tr (Dw := Dw) hk38 hA hB
        replace hH := Hp.kp (Dw := Dw) hH hk38
        replace h_s1 := Sl.tr (Dw := Dw) h_s1 ht39
        replace h_s2 := Sl.tr (Dw := Dw) h_s2 ht39
        replace hK := Tr.trans (Dw := Dw) hK ht39
        replace hr8 := Tr.trans (Dw := Dw) hr8 ht39
        replace hB := Nat.le_trans hB ht39.ex.size
        replace hA := ht39.new
        refine C_cond rfl (fun hc40 => ?_) (fun hc40 => ?_)
        · rw [if_pos hc40] at h21
          refine C_seq ?_
          refine C_region ?_
          refine V_y (Y_assign rfl) rfl rfl rfl ?_
          refine V_to (fun _ _ => rfl) ?_
          obtain rfl := Option.some.inj h21
          obtain rfl := (h22 : Lp.rt _ = _)
          rw [Lp.andThen_rt] at hm
          obtain rfl := Option.some.inj hm
          refine C_ret ?_
          try simp only [↓inBlock_ret, ↓then_ret]
          exact retQ rfl (Res.one Tryz.results8 rfl) ⟨rfl, hK.kp⟩
        · rw [if_neg (nt hc40)] at h21
          refine C_skip_to (fun _ _ => rfl) ?_
          refine C_region ?_
          refine V_y (Y_addI rfl rfl) rfl rfl rfl ?_
          refine V_y (Y_move rfl) rfl rfl rfl ?_
          obtain rfl := Option.some.inj h21
          refine V_end (fun a ha41 => ?_)
          exact ⟨(), hlt24, h22, ⟨A18, ha41.sub ⟨rfl, rfl, rfl, (congrArg (fun z => some (Value.int .i64 z)) (w64_succ hlt24 hn27)), trivial⟩, ⟨hH, hr8⟩⟩⟩
      · refine C_exit (fun a ha42 => ?_)
        exact ⟨((), A18), ha42.sub trivial, ⟨(h25 (eq_of_dec hle23 hc28)).symm, hH, hr8⟩⟩
    rintro ⟨s7, A13⟩ w10 ⟨rfl, hH14, hk11⟩ a ha12
    rw [Lp.andThen_fin] at hm
    replace hK := Tr.trans (Dw := Dw) hK hk11
    replace hB := Nat.le_trans hB hk11.ex.size
    replace hA := hk11.new
    replace hH : Hp w.heap.size A13 w10 ([]) := hH14
    refine C_at (n := ⟨26, [], none⟩) (fun _ _ => rfl) ?_ ha12
    refine C_seq ?_
    refine C_region ?_
    refine V_y (Y_assign rfl) rfl rfl rfl ?_
    refine V_to (fun _ _ => rfl) ?_
    obtain rfl := Option.some.inj hm
    refine C_ret ?_
    try simp only [↓inBlock_ret, ↓then_ret]
    exact retQ rfl (Res.one Tryz.results8 rfl) ⟨rfl, hK.kp⟩

set_option maxRecDepth 4000 in
set_option maxHeartbeats 4000000 in
theorem portref2_LinksOf_1_c (w : World) (b : Int) : Ret Tryz.prog 26 #[.int .u8 b] w fun v w' => v = .bool (portref2_LinksOf_1 b) ∧ w = w' := by
  generalize hm : portref2_LinksOf_1 b = r
  unfold portref2_LinksOf_1 at hm
  refine enter Tryz.func26 rfl Tryz.ntmps26 rfl ?_
  refine C_seq ?_
  refine C_region ?_
  refine V_y (Y_assign rfl) rfl rfl rfl ?_
  refine V_to (fun _ _ => rfl) ?_
  refine C_seq ?_
  refine C_region ?_
  refine V_y (Y_move rfl) rfl rfl rfl ?_
  refine V_y (Y_lss rfl rfl) rfl rfl rfl ?_
  refine V_y (Y_move rfl) rfl rfl rfl ?_
  refine V_cut 3 (fun _ : Unit => [(8, .bool ((decide (b < 128)) && (portref2_isWordByte b)))]) (fun _ w' => w = w') ?_ ?_
  · simp only [List.take, List.drop]
    rcases Bool.eq_false_or_eq_true (decide (b < 128)) with hc1 | hc1
    · refine V_ge rfl rfl rfl hc1 ?_
      refine V_y (Y_move rfl) rfl rfl rfl ?_
      refine V_ge rfl rfl rfl hc1 ?_
      refine V_call Tryz.call15 rfl rfl rfl rfl (portref2_isWordByte_c w b) ?_
      rintro _ _ ⟨rfl, rfl⟩
      refine V_y (Y_pick_te rfl hc1 rfl) rfl rfl rfl ?_
      exact V_end fun a ha => ⟨(), ha.sub ⟨(by rw [hc1]; rfl), trivial⟩, rfl⟩
    · refine V_gn rfl rfl rfl hc1 rfl rfl rfl ?_
      refine V_gn rfl rfl rfl hc1 rfl rfl rfl ?_
      refine V_y (Y_pick_fe rfl hc1 rfl) rfl rfl rfl ?_
      exact V_end fun a ha => ⟨(), ha.sub ⟨(by rw [hc1]; rfl), trivial⟩, rfl⟩
  simp only [List.take, List.drop]
  rintro _ _ rfl
  refine V_y (Y_assign rfl) rfl rfl rfl ?_
  refine V_to (fun _ _ => rfl) ?_
  obtain rfl := hm
  refine C_ret ?_
  try simp only [↓inBlock_ret, ↓then_ret]
  exact retQ rfl (Res.one Tryz.results26 rfl) ⟨rfl, rfl⟩

def Tryz_strconv_Atoi_lay_ren : Go.Shelf.Ren := ⟨fun | 129 => 58 | 171 => 79 | 172 => 27 | 205 => 78 | 243 => 93 | 244 => 40 | 245 => 41 | 246 => 101 | 247 => 59 | 279 => 60 | 280 => 61 | 281 => 62 | 282 => 63 | 283 => 113 | 284 => 114 | 285 => 115 | 286 => 116 | 287 => 76 | 316 => 77 | 317 => 125 | 318 => 126 | 319 => 127 | 320 => 128 | 321 => 91 | 322 => 92 | 337 => 129 | 338 => 130 | n => n, fun | 0 => 0 | 1 => 1 | 2 => 2 | 3 => 3 | 4 => 4 | 5 => 5 | 6 => 6 | 7 => 7 | 8 => 8 | 9 => 9 | 10 => 10 | 11 => 11 | 12 => 12 | 13 => 13 | 14 => 14 | 15 => 15 | 16 => 16 | 17 => 17 | 18 => 18 | 19 => 19 | 20 => 20 | 21 => 21 | 22 => 32 | 23 => 33 | 27 => 130 | 28 => 28 | 31 => 22 | 34 => 27 | 35 => 34 | 37 => 42 | 40 => 128 | 41 => 31 | 46 => 52 | 47 => 51 | 51 => 57 | 52 => 83 | 53 => 85 | 54 => 84 | 55 => 127 | 63 => 73 | 64 => 95 | 68 => 23 | 69 => 25 | 70 => 191 | 71 => 192 | 72 => 193 | 73 => 195 | 74 => 36 | 75 => 37 | 76 => 38 | 77 => 39 | 80 => 176 | 81 => 182 | 83 => 108 | 84 => 153 | 85 => 87 | 86 => 88 | 94 => 210 | 101 => 26 | 102 => 24 | 103 => 194 | 104 => 30 | 105 => 71 | 106 => 72 | 108 => 107 | 111 => 102 | 112 => 79 | 114 => 129 | 115 => 44 | 116 => 45 | 117 => 46 | 118 => 47 | 119 => 117 | 122 => 43 | 123 => 48 | 124 => 49 | 127 => 135 | 128 => 53 | 131 => 81 | 134 => 50 | 137 => 124 | 138 => 125 | 139 => 126 | 143 => 136 | 144 => 137 | 145 => 138 | 146 => 211 | 151 => 212 | 164 => 158 | 165 => 196 | 166 => 197 | 167 => 86 | 168 => 89 | 169 => 90 | 170 => 91 | 171 => 164 | 172 => 165 | 173 => 166 | 174 => 167 | 175 => 103 | 176 => 104 | 181 => 74 | 182 => 75 | 183 => 76 | 184 => 77 | 185 => 78 | 186 => 80 | 187 => 82 | 209 => 105 | 210 => 106 | 211 => 171 | 212 => 172 | 213 => 173 | 214 => 134 | 218 => 96 | 219 => 97 | 220 => 98 | 221 => 99 | 222 => 100 | 223 => 101 | 228 => 131 | 229 => 132 | 230 => 133 | 232 => 174 | 233 => 175 | 238 => 177 | 239 => 178 | 240 => 179 | 241 => 180 | 242 => 181 | 243 => 183 | 244 => 184 | 245 => 185 | 246 => 186 | 247 => 187 | 248 => 188 | 249 => 189 | n => n, fun | 1 => 4 | 3 => 2 | 4 => 3 | 15 => 0 | 16 => 1 | 17 => 5 | 18 => 6 | 19 => 7 | n => n⟩
theorem Tryz_strconv_Atoi_laym0 : Go.Proofs.Lays.n172 Tryz.prog Tryz_strconv_Atoi_lay_ren := {
  mixed := by kernel_rfl,
  f129 := Tryz.func58.trans (congrArg some (by kernel_rfl)),
  f171 := Tryz.func79.trans (congrArg some (by kernel_rfl)),
  f172 := Tryz.func27.trans (congrArg some (by kernel_rfl)),
  f205 := Tryz.func78.trans (congrArg some (by kernel_rfl)),
  f243 := Tryz.func93.trans (congrArg some (by kernel_rfl)),
  f244 := Tryz.func40.trans (congrArg some (by kernel_rfl)),
  f245 := Tryz.func41.trans (congrArg some (by kernel_rfl)),
  f246 := Tryz.func101.trans (congrArg some (by kernel_rfl)),
  f247 := Tryz.func59.trans (congrArg some (by kernel_rfl)),
  f279 := Tryz.func60.trans (congrArg some (by kernel_rfl)),
  f280 := Tryz.func61.trans (congrArg some (by kernel_rfl)),
  f281 := Tryz.func62.trans (congrArg some (by kernel_rfl)),
  f282 := Tryz.func63.trans (congrArg some (by kernel_rfl)),
  f283 := Tryz.func113.trans (congrArg some (by kernel_rfl)),
  f284 := Tryz.func114.trans (congrArg some (by kernel_rfl)),
  f285 := Tryz.func115.trans (congrArg some (by kernel_rfl)),
  f286 := Tryz.func116.trans (congrArg some (by kernel_rfl)),
  f287 := Tryz.func76.trans (congrArg some (by kernel_rfl)),
  f316 := Tryz.func77.trans (congrArg some (by kernel_rfl)),
  f317 := Tryz.func125.trans (congrArg some (by kernel_rfl)),
  f318 := Tryz.func126.trans (congrArg some (by kernel_rfl)),
  f319 := Tryz.func127.trans (congrArg some (by kernel_rfl)),
  f320 := Tryz.func128.trans (congrArg some (by kernel_rfl)),
  f321 := Tryz.func91.trans (congrArg some (by kernel_rfl)),
  f322 := Tryz.func92.trans (congrArg some (by kernel_rfl)),
  f337 := Tryz.func129.trans (congrArg some (by kernel_rfl)),
  f338 := Tryz.func130.trans (congrArg some (by kernel_rfl)),
  t0 := Tryz.underlying0,
  a0 := Tryz.isAgg0,
  z0 := Tryz.sizeOf0,
  v0 := Tryz.zeroValue0,
  t2 := Tryz.underlying2,
  a2 := Tryz.isAgg2,
  z2 := Tryz.sizeOf2,
  v2 := Tryz.zeroValue2,
  t3 := Tryz.underlying3,
  a3 := Tryz.isAgg3,
  z3 := Tryz.sizeOf3,
  v3 := Tryz.zeroValue3,
  t4 := Tryz.underlying4,
  a4 := Tryz.isAgg4,
  z4 := Tryz.sizeOf4,
  v4 := Tryz.zeroValue4,
  t5 := Tryz.underlying5,
  a5 := Tryz.isAgg5,
  z5 := Tryz.sizeOf5,
  v5 := Tryz.zeroValue5,
  t9 := Tryz.underlying9,
  a9 := Tryz.isAgg9,
  z9 := Tryz.sizeOf9,
  v9 := Tryz.zeroValue9,
  t20 := Tryz.underlying20,
  a20 := Tryz.isAgg20,
  z20 := Tryz.sizeOf20,
  v20 := Tryz.zeroValue20,
  t21 := Tryz.underlying21,
  a21 := Tryz.isAgg21,
  z21 := Tryz.sizeOf21,
  v21 := Tryz.zeroValue21,
  t37 := Tryz.underlying42,
  a37 := Tryz.isAgg42,
  z37 := Tryz.sizeOf42,
  v37 := Tryz.zeroValue42,
  t46 := Tryz.underlying52,
  a46 := Tryz.isAgg52,
  z46 := Tryz.sizeOf52,
  v46 := Tryz.zeroValue52,
  t51 := Tryz.underlying57,
  a51 := Tryz.isAgg57,
  z51 := Tryz.sizeOf57,
  v51 := Tryz.zeroValue57,
  t53 := Tryz.underlying85,
  a53 := Tryz.isAgg85,
  z53 := Tryz.sizeOf85,
  v53 := Tryz.zeroValue85,
  t75 := Tryz.underlying37,
  a75 := Tryz.isAgg37,
  z75 := Tryz.sizeOf37,
  v75 := Tryz.zeroValue37,
  t76 := Tryz.underlying38,
  a76 := Tryz.isAgg38,
  z76 := Tryz.sizeOf38,
  v76 := Tryz.zeroValue38,
  t85 := Tryz.underlying87,
  a85 := Tryz.isAgg87,
  z85 := Tryz.sizeOf87,
  v85 := Tryz.zeroValue87,
  t127 := Tryz.underlying135,
  a127 := Tryz.isAgg135,
  z127 := Tryz.sizeOf135,
  v127 := Tryz.zeroValue135,
  t143 := Tryz.underlying136,
  a143 := Tryz.isAgg136,
  z143 := Tryz.sizeOf136,
  v143 := Tryz.zeroValue136,
  t145 := Tryz.underlying138,
  a145 := Tryz.isAgg138,
  z145 := Tryz.sizeOf138,
  v145 := Tryz.zeroValue138,
  t167 := Tryz.underlying86,
  a167 := Tryz.isAgg86,
  z167 := Tryz.sizeOf86,
  v167 := Tryz.zeroValue86,
  t168 := Tryz.underlying89,
  a168 := Tryz.isAgg89,
  z168 := Tryz.sizeOf89,
  v168 := Tryz.zeroValue89,
  t171 := Tryz.underlying164,
  a171 := Tryz.isAgg164,
  z171 := Tryz.sizeOf164,
  v171 := Tryz.zeroValue164,
  t173 := Tryz.underlying166,
  a173 := Tryz.isAgg166,
  z173 := Tryz.sizeOf166,
  v173 := Tryz.zeroValue166,
  t175 := Tryz.underlying103,
  a175 := Tryz.isAgg103,
  z175 := Tryz.sizeOf103,
  v175 := Tryz.zeroValue103,
  t210 := Tryz.underlying106,
  a210 := Tryz.isAgg106,
  z210 := Tryz.sizeOf106,
  v210 := Tryz.zeroValue106,
  t212 := Tryz.underlying172,
  a212 := Tryz.isAgg172,
  z212 := Tryz.sizeOf172,
  v212 := Tryz.zeroValue172,
  t213 := Tryz.underlying173,
  a213 := Tryz.isAgg173,
  z213 := Tryz.sizeOf173,
  t232 := Tryz.underlying174,
  a232 := Tryz.isAgg174,
  z232 := Tryz.sizeOf174,
  v232 := Tryz.zeroValue174,
  t233 := Tryz.underlying175,
  a233 := Tryz.isAgg175,
  z233 := Tryz.sizeOf175,
  v233 := Tryz.zeroValue175,
  g15 := by kernel_rfl,
  g16 := by kernel_rfl,
  g17 := by kernel_rfl,
  g18 := by kernel_rfl,
  g19 := by kernel_rfl }
theorem Tryz_strconv_Atoi_laym : Go.Proofs.LaysM.n172 Tryz.prog Tryz_strconv_Atoi_lay_ren := { Tryz_strconv_Atoi_laym0 with
  t80 := Tryz.underlying176,
  a80 := Tryz.isAgg176,
  z80 := Tryz.sizeOf176,
  v80 := Tryz.zeroValue176,
  i0 := by kernel_rfl,
  i2 := by kernel_rfl,
  i3 := by kernel_rfl,
  i4 := by kernel_rfl,
  i5 := by kernel_rfl,
  i9 := by kernel_rfl,
  i20 := by kernel_rfl,
  i21 := by kernel_rfl,
  i37 := by kernel_rfl,
  i46 := by kernel_rfl,
  i51 := by kernel_rfl,
  i53 := by kernel_rfl,
  i75 := by kernel_rfl,
  i76 := by kernel_rfl,
  i80 := by kernel_rfl,
  i85 := by kernel_rfl,
  i127 := by kernel_rfl,
  i143 := by kernel_rfl,
  i145 := by kernel_rfl,
  i167 := by kernel_rfl,
  i168 := by kernel_rfl,
  i171 := by kernel_rfl,
  i173 := by kernel_rfl,
  i175 := by kernel_rfl,
  i210 := by kernel_rfl,
  i212 := by kernel_rfl,
  i232 := by kernel_rfl,
  i233 := by kernel_rfl,
  m15 := by kernel_rfl,
  m16 := by kernel_rfl,
  m17 := by kernel_rfl,
  m18 := by kernel_rfl,
  m19 := by kernel_rfl }
theorem Tryz_strconv_Atoi_lay : Go.Proofs.LaysC.n172 Tryz.prog Tryz_strconv_Atoi_lay_ren := { Tryz_strconv_Atoi_laym with
  c0 := by kernel_rfl,
  c2 := by kernel_rfl,
  c3 := by kernel_rfl,
  c4 := by kernel_rfl,
  c5 := by kernel_rfl,
  c9 := by kernel_rfl,
  c20 := by kernel_rfl,
  c21 := by kernel_rfl,
  c37 := by kernel_rfl,
  c46 := by kernel_rfl,
  c51 := by kernel_rfl,
  c53 := by kernel_rfl,
  c75 := by kernel_rfl,
  c76 := by kernel_rfl,
  c80 := by kernel_rfl,
  c85 := by kernel_rfl,
  c127 := by kernel_rfl,
  c143 := by kernel_rfl,
  c145 := by kernel_rfl,
  c167 := by kernel_rfl,
  c168 := by kernel_rfl,
  c171 := by kernel_rfl,
  c173 := by kernel_rfl,
  c175 := by kernel_rfl,
  c210 := by kernel_rfl,
  c212 := by kernel_rfl,
  c213 := by kernel_rfl,
  c232 := by kernel_rfl,
  c233 := by kernel_rfl }
theorem strconv_Atoi_c (w : World) {A : Nat → Prop} (hA : ∀ b, w.heap.size ≤ b → A b) (hT : Er Tryz.prog 0 A w ∧ Er Tryz.prog 1 A w) (s : ByteArray) {r : Int × Bool} (hm : strconv_Atoi s = some r) : Ret Tryz.prog 27 #[.string s] w fun v w' => ∃ ev, v = .tuple #[.int .i64 r.1, ev] ∧ ErV ev r.2 ∧ Kp False w w' := by
  unfold strconv_Atoi at hm
  split at hm
  case isFalse => cases hm
  rename_i hs
  obtain rfl := Option.some.inj hm
  obtain ⟨⟨⟨t1, p1, hc1⟩, _, _⟩, ⟨t2, p2, hc2⟩, _, _⟩ := hT
  rcases h : Go.Lib.atoiAll s.data.toList with v | _ | _
  · refine Calls.mono (Go.Proofs.Any.strconv_Atoi_ok Tryz_strconv_Atoi_lay s (by omega) v h w) ?_
    rintro _ w' ⟨rfl, hk⟩
    refine ⟨_, rfl, _, rfl, rfl, ?_⟩
    rcases hk with rfl | ⟨t, rfl⟩
    · exact Kp.refl (Dw := False) _
    · exact .of (Go.Lib.bytesWorld_below w _ t)
  · refine Calls.mono (Go.Proofs.Any.strconv_Atoi_syntax Tryz_strconv_Atoi_lay s hs h (.iface t1 p1) w hc1 (.inr ⟨t1, p1, rfl⟩)) ?_
    rintro _ w' ⟨N, rfl, _, _, hb⟩
    exact ⟨_, rfl, _, rfl, ⟨_, _, rfl⟩, .of hb⟩
  · refine Calls.mono (Go.Proofs.Any.strconv_Atoi_range Tryz_strconv_Atoi_lay s hs h (.iface t2 p2) w hc2 (.inr ⟨t2, p2, rfl⟩)) ?_
    rintro _ w' ⟨N, rfl, _, _, hb⟩
    exact ⟨_, rfl, _, rfl, ⟨_, _, rfl⟩, .of hb⟩

set_option maxRecDepth 4000 in
set_option maxHeartbeats 4000000 in
theorem portref2_LinksOf_c (w : World) {A : Nat → Prop} (hA : ∀ b, w.heap.size ≤ b → A b) (hT : Fz Tryz_FR A w) (s : ByteArray) {r : (List Int)} (hm : portref2_LinksOf s = some r) : Ret Tryz.prog 12 #[.string s] w fun v w' => ∃ s0, v = s0 ∧ Ownd 3 w w' s0 r ∧ Kp False w w' := by
  unfold portref2_LinksOf at hm
  refine enter Tryz.func12 rfl Tryz.ntmps12 rfl ?_
  have hA0 := hA
  have hB := Nat.le_refl w.heap.size
  have hK : Tr False w.heap.size A w A w := Tr.refl (Dw := False) hA
  have hH : Hp w.heap.size A w [] := Hp.nil
  refine C_seq ?_
  refine C_region ?_
  refine V_y (Y_assign rfl) rfl rfl rfl ?_
  refine V_to (fun _ _ => rfl) ?_
  refine C_seq ?_
  refine C_region ?_
  refine V_y (Y_assign rfl) rfl rfl rfl ?_
  refine V_to (fun _ _ => rfl) ?_
  refine C_seq ?_
  refine C_region ?_
  refine V_y (Y_assign rfl) rfl rfl rfl ?_
  refine V_to (fun _ _ => rfl) ?_
  refine C_seq ?_
  refine C_seq ?_
  refine C_region ?_
  refine V_y (Y_assign rfl) rfl rfl rfl ?_
  refine V_to (fun _ _ => rfl) ?_
  replace hH : Hp w.heap.size A w (obS (α := Int) 3 (.slice none 0 0) ([] : (List Int)) :: []) := Hp.addNil (α := Int) (e := 3) hH
  obtain ⟨o1, ho1, hm⟩ := Option.bind_eq_some_iff.1 hm
  refine C_cutG (ι := (((List Int) × Int) × Value × (Nat → Prop))) (fun ⟨s2, v8, A10⟩ => [(3, v8)]) (fun ⟨s2, v8, A10⟩ => fun w' => o1 = .fin s2 ∧ Hp w.heap.size A10 w' (obS (α := Int) 3 v8 s2.1 :: []) ∧ Tr False w.heap.size A w A10 w') ?_ ?_
  · refine C_block ?_
    refine C_while ho1 (fun s12 a w' => ∃ i : (Value × (Nat → Prop)), Has ⟨106, [], none⟩ a ([(0, .string s), (3, i.1), (4, .func (.func 26) #[] #[]), (5, .int .i64 s12.2)]) ∧ Hp w.heap.size i.2 w' (obS (α := Int) 3 i.1 s12.1 :: []) ∧ Tr False w.heap.size A w i.2 w') (fun a ha => ⟨(.slice none 0 0, A), ha.sub ⟨rfl, rfl, rfl, rfl, trivial⟩, ⟨hH, Tr.refl (Dw := False) hA⟩⟩) ?_
    rintro K s12 a w13 ⟨⟨v14, A16⟩, ha141, hH17, hr3⟩ K24
    refine C_of ?_ ha141
    replace hK := Tr.trans (Dw := False) hK hr3
    replace hB := Nat.le_trans hB hr3.ex.size
    replace hA := hr3.new
    replace hH : Hp w.heap.size A16 w13 (obS (α := Int) 3 v14 s12.1 :: []) := hH17
    obtain ⟨x18, h19, h20⟩ := K24
    refine C_seq ?_
    refine C_seq ?_
    refine C_region ?_
    refine V_y (Y_move rfl) rfl rfl rfl ?_
    refine V_y (Y_move rfl) rfl rfl rfl ?_
    refine V_y (Y_lenStr rfl Tryz.underlying9 rfl) rfl rfl rfl ?_
    refine V_y (Y_lss rfl rfl) rfl rfl rfl ?_
    refine V_to (fun _ _ => rfl) ?_
    refine C_cond rfl (fun hc25 => ?_) (fun hc25 => ?_)
    · rw [if_pos hc25] at h19
      refine C_skip_to (fun _ _ => rfl) ?_
      refine C_seq ?_
      obtain ⟨s27, ho26, h19⟩ := Option.bind_eq_some_iff.1 h19
      refine C_cutG (ι := (Value × (Nat → Prop))) (fun ⟨v29, A34⟩ => [(0, .string s), (3, v29), (4, .func (.func 26) #[] #[]), (5, .int .i64 s12.2)]) (fun ⟨v29, A34⟩ => fun w' => Hp w.heap.size A34 w' (obS (α := Int) 3 v29 s27 :: []) ∧ Tr False w.heap.size A16 w13 A34 w') ?_ ?_
      · have hr28 : Tr False w.heap.size A16 w13 A16 w13 := Tr.refl (Dw := False) hA
        refine C_block ?_
        refine C_seq ?_
        refine C_seq ?_
        obtain ⟨s37, ho36, ho26⟩ := Option.bind_eq_some_iff.1 ho26
        refine C_cutG (ι := (Nat → Prop)) (fun (A42 : (Nat → Prop)) => [(0, .string s), (3, v14), (4, .func (.func 26) #[] #[]), (5, .int .i64 s12.2), (38, .bool s37)]) (fun (A42 : (Nat → Prop)) => fun w' => Hp w.heap.size A42 w' (obS (α := Int) 3 v14 s12.1 :: []) ∧ Tr False w.heap.size A16 w13 A42 w') ?_ ?_
        · have hr38 : Tr False w.heap.size A16 w13 A16 w13 := Tr.refl (Dw := False) hA
          refine C_region ?_
          refine V_y (Y_move rfl) rfl rfl rfl ?_
          refine V_y (Y_move rfl) rfl rfl rfl ?_
          obtain ⟨x44, hx44, ho36⟩ := Option.bind_eq_some_iff.1 ho36
          refine V_y (Y_indexS hx44 Tryz.underlying9 rfl rfl) rfl rfl rfl ?_
          refine V_y (Y_neq rfl rfl) rfl rfl rfl ?_
          refine V_y (Y_move rfl) rfl rfl rfl ?_
          rcases Bool.eq_false_or_eq_true ((x44.toNat : Int) != 35) with hc45 | hc45
          · rw [if_pos hc45] at ho36
            refine V_gn rfl rfl rfl hc45 rfl rfl rfl ?_
            refine V_gn rfl rfl rfl hc45 rfl rfl rfl ?_
            refine V_gn rfl rfl rfl hc45 rfl rfl rfl ?_
            refine V_gu rfl rfl rfl rfl rfl ?_
            refine V_gu rfl rfl rfl rfl rfl ?_
            refine V_gu rfl rfl rfl rfl rfl ?_
            refine V_gu rfl rfl rfl rfl rfl ?_
            refine V_gu rfl rfl rfl rfl rfl ?_
            refine V_gu rfl rfl rfl rfl rfl ?_
            refine V_gu rfl rfl rfl rfl rfl ?_
            refine V_gu rfl rfl rfl rfl rfl ?_
            refine V_gu rfl rfl rfl rfl rfl ?_
            refine V_gu rfl rfl rfl rfl rfl ?_
            refine V_gu rfl rfl rfl rfl rfl ?_
            refine V_gu rfl rfl rfl rfl rfl ?_
            refine V_gu rfl rfl rfl rfl rfl ?_
            refine V_gn rfl rfl rfl hc45 rfl rfl rfl ?_
            refine V_y (Y_pick_te rfl hc45 rfl) rfl rfl rfl ?_
            obtain rfl := Option.some.inj ho36
            refine V_end (fun a ha46 => ?_)
            exact ⟨A16, ha46.sub ⟨rfl, rfl, rfl, rfl, rfl, trivial⟩, ⟨hH, hr38⟩⟩
          · rw [if_neg (nt hc45)] at ho36
            refine V_ge rfl rfl rfl hc45 ?_
            refine V_y (Y_move rfl) rfl rfl rfl ?_
            refine V_ge rfl rfl rfl hc45 ?_
            refine V_y (Y_gtr rfl rfl) rfl rfl rfl ?_
            refine V_ge rfl rfl rfl hc45 ?_
            refine V_y (Y_move rfl) rfl rfl rfl ?_
            rcases Bool.eq_false_or_eq_true (decide ((0 : Int) < s12.2)) with hc47 | hc47
            · rw [if_pos hc47] at ho36
              refine V_ge rfl rfl rfl hc47 ?_
              refine V_y (Y_move rfl) rfl rfl rfl ?_
              refine V_ge rfl rfl rfl hc47 ?_
              refine V_y (Y_move rfl) rfl rfl rfl ?_
              refine V_ge rfl rfl rfl hc47 ?_
              refine V_y (Y_move rfl) rfl rfl rfl ?_
              refine V_ge rfl rfl rfl hc47 ?_
              refine V_y (Y_subI rfl rfl) rfl rfl rfl ?_
              refine V_ge rfl rfl rfl hc47 ?_
              obtain ⟨x48, hx48, ho36⟩ := Option.bind_eq_some_iff.1 ho36
              refine V_y (Y_indexS hx48 Tryz.underlying9 rfl rfl) rfl rfl rfl ?_
              refine V_ge rfl rfl rfl hc47 ?_
              refine V_call Tryz.call26 rfl rfl rfl rfl (portref2_LinksOf_1_c w13 (x48.toNat : Int)) ?_
              rintro _ _ ⟨rfl, rfl⟩
              refine V_ge rfl rfl rfl hc47 ?_
              refine V_y (Y_move rfl) rfl rfl rfl ?_
              rcases Bool.eq_false_or_eq_true ((portref2_LinksOf_1 (x48.toNat : Int))) with hc49 | hc49
              · rw [if_pos hc49] at ho36
                refine V_gn rfl rfl rfl hc49 rfl rfl rfl ?_
                refine V_gn rfl rfl rfl hc49 rfl rfl rfl ?_
                refine V_gn rfl rfl rfl hc49 rfl rfl rfl ?_
                refine V_gn rfl rfl rfl hc49 rfl rfl rfl ?_
                refine V_gn rfl rfl rfl hc49 rfl rfl rfl ?_
                refine V_ge rfl rfl rfl hc47 ?_
                refine V_y (Y_pick_te rfl hc49 rfl) rfl rfl rfl ?_
                refine V_ge rfl rfl rfl hc45 ?_
                refine V_y (Y_pick_te rfl hc47 rfl) rfl rfl rfl ?_
                refine V_y (Y_pick_fe rfl hc45 rfl) rfl rfl rfl ?_
                obtain rfl := Option.some.inj ho36
                refine V_end (fun a ha50 => ?_)
                exact ⟨A16, ha50.sub ⟨rfl, rfl, rfl, rfl, rfl, trivial⟩, ⟨hH, hr38⟩⟩
              · rw [if_neg (nt hc49)] at ho36
                refine V_ge rfl rfl rfl hc49 ?_
                refine V_y (Y_move rfl) rfl rfl rfl ?_
                refine V_ge rfl rfl rfl hc49 ?_
                refine V_y (Y_move rfl) rfl rfl rfl ?_
                refine V_ge rfl rfl rfl hc49 ?_
                refine V_y (Y_subI rfl rfl) rfl rfl rfl ?_
                refine V_ge rfl rfl rfl hc49 ?_
                refine V_y (Y_indexS hx48 Tryz.underlying9 rfl rfl) rfl rfl rfl ?_
                refine V_ge rfl rfl rfl hc49 ?_
                refine V_y (Y_eql rfl rfl) rfl rfl rfl ?_
                refine V_ge rfl rfl rfl hc47 ?_
                refine V_y (Y_pick_fe rfl hc49 rfl) rfl rfl rfl ?_
                refine V_ge rfl rfl rfl hc45 ?_
                refine V_y (Y_pick_te rfl hc47 rfl) rfl rfl rfl ?_
                refine V_y (Y_pick_fe rfl hc45 rfl) rfl rfl rfl ?_
                obtain rfl := Option.some.inj ho36
                refine V_end (fun a ha51 => ?_)
                exact ⟨A16, ha51.sub ⟨rfl, rfl, rfl, rfl, rfl, trivial⟩, ⟨hH, hr38⟩⟩
            · rw [if_neg (nt hc47)] at ho36
              refine V_gn rfl rfl rfl hc47 rfl rfl rfl ?_
              refine V_gn rfl rfl rfl hc47 rfl rfl rfl ?_
              refine V_gn rfl rfl rfl hc47 rfl rfl rfl ?_
              refine V_gn rfl rfl rfl hc47 rfl rfl rfl ?_
              refine V_gn rfl rfl rfl hc47 rfl rfl rfl ?_
              refine V_gn rfl rfl rfl hc47 rfl rfl rfl ?_
              refine V_gn rfl rfl rfl hc47 rfl rfl rfl ?_
              refine V_gu rfl rfl rfl rfl rfl ?_
              refine V_gu rfl rfl rfl rfl rfl ?_
              refine V_gu rfl rfl rfl rfl rfl ?_
              refine V_gu rfl rfl rfl rfl rfl ?_
              refine V_gu rfl rfl rfl rfl rfl ?_
              refine V_gn rfl rfl rfl hc47 rfl rfl rfl ?_
              refine V_ge rfl rfl rfl hc45 ?_
              refine V_y (Y_pick_fe rfl hc47 rfl) rfl rfl rfl ?_
              refine V_y (Y_pick_fe rfl hc45 rfl) rfl rfl rfl ?_
              obtain rfl := Option.some.inj ho36
              refine V_end (fun a ha52 => ?_)
              exact ⟨A16, ha52.sub ⟨rfl, rfl, rfl, rfl, rfl, trivial⟩, ⟨hH, hr38⟩⟩
        rintro A42 w39 ⟨hH43, hk40⟩ a ha41
        replace hK := Tr.trans (Dw := False) hK hk40
        replace hr3 := Tr.trans (Dw := False) hr3 hk40
        replace hr28 := Tr.trans (Dw := False) hr28 hk40
        replace hB := Nat.le_trans hB hk40.ex.size
        replace hA := hk40.new
        replace hH : Hp w.heap.size A42 w39 (obS (α := Int) 3 v14 s12.1 :: []) := hH43
        refine C_at (n := ⟨106, [], none⟩) (fun _ _ => rfl) ?_ ha41
        refine C_cond rfl (fun hc53 => ?_) (fun hc53 => ?_)
        · rw [if_pos hc53] at ho26
          obtain rfl := Option.some.inj ho26
          refine C_exit (fun a ha54 => ?_)
          exact ⟨(v14, A42), ha54.sub ⟨rfl, rfl, rfl, rfl, trivial⟩, ⟨hH, hr28⟩⟩
        · rw [if_neg (nt hc53)] at ho26
          refine C_skip_to (fun _ _ => rfl) ?_
          refine C_seq ?_
          refine C_region ?_
          refine V_y (Y_move rfl) rfl rfl rfl ?_
          refine V_y (Y_addI rfl rfl) rfl rfl rfl ?_
          refine V_y (Y_assign rfl) rfl rfl rfl ?_
          refine V_to (fun _ _ => rfl) ?_
          refine C_seq ?_
          obtain ⟨o55, ho55, ho26⟩ := Option.bind_eq_some_iff.1 ho26
          refine C_cutG (ι := Int) (fun (s56 : Int) => [(0, .string s), (3, v14), (4, .func (.func 26) #[] #[]), (5, .int .i64 s12.2), (6, .int .i64 s56)]) (fun (s56 : Int) => fun w' => o55 = .fin s56 ∧ w39 = w') ?_ ?_
          · refine C_block ?_
            refine C_while ho55 (fun s62 a w' => ∃ i : Unit, Has ⟨106, [], none⟩ a ([(0, .string s), (3, v14), (4, .func (.func 26) #[] #[]), (5, .int .i64 s12.2), (6, .int .i64 s62)]) ∧ w39 = w') (fun a ha => ⟨(), ha.sub ⟨rfl, rfl, rfl, rfl, rfl, trivial⟩, rfl⟩) ?_
            rintro K s62 a _ ⟨_, ha80, rfl⟩ K70
            refine C_of ?_ ha80
            obtain ⟨x64, h65, h66⟩ := K70
            refine C_seq ?_
            refine C_seq ?_
            refine C_region ?_
            refine V_y (Y_move rfl) rfl rfl rfl ?_
            refine V_y (Y_move rfl) rfl rfl rfl ?_
            refine V_y (Y_lenStr rfl Tryz.underlying9 rfl) rfl rfl rfl ?_
            refine V_y (Y_lss rfl rfl) rfl rfl rfl ?_
            refine V_y (Y_move rfl) rfl rfl rfl ?_
            obtain ⟨s72, hs72, h65⟩ := Option.bind_eq_some_iff.1 h65
            refine V_cut 5 (fun _ : Unit => [(0, .string s), (3, v14), (4, .func (.func 26) #[] #[]), (5, .int .i64 s12.2), (6, .int .i64 s62), (50, .bool s72)]) (fun _ w' => w39 = w') ?_ ?_
            · simp only [List.take, List.drop]
              rcases Bool.eq_false_or_eq_true (decide (s62 < (s.size : Int))) with hc71 | hc71
              · rw [if_pos hc71] at hs72
                refine V_ge rfl rfl rfl hc71 ?_
                refine V_y (Y_move rfl) rfl rfl rfl ?_
                refine V_ge rfl rfl rfl hc71 ?_
                refine V_y (Y_move rfl) rfl rfl rfl ?_
                refine V_ge rfl rfl rfl hc71 ?_
                obtain ⟨x73, hx73, hs72⟩ := Option.bind_eq_some_iff.1 hs72
                refine V_y (Y_indexS hx73 Tryz.underlying9 rfl rfl) rfl rfl rfl ?_
                refine V_ge rfl rfl rfl hc71 ?_
                refine V_y (Y_geq rfl rfl) rfl rfl rfl ?_
                refine V_y (Y_pick_te rfl hc71 rfl) rfl rfl rfl ?_
                obtain rfl := Option.some.inj hs72
                exact V_end fun a ha => ⟨(), ha.sub ⟨rfl, rfl, rfl, rfl, rfl, rfl, trivial⟩, rfl⟩
              · rw [if_neg (nt hc71)] at hs72
                refine V_gn rfl rfl rfl hc71 rfl rfl rfl ?_
                refine V_gn rfl rfl rfl hc71 rfl rfl rfl ?_
                refine V_gn rfl rfl rfl hc71 rfl rfl rfl ?_
                refine V_gn rfl rfl rfl hc71 rfl rfl rfl ?_
                refine V_y (Y_pick_fe rfl hc71 rfl) rfl rfl rfl ?_
                obtain rfl := Option.some.inj hs72
                exact V_end fun a ha => ⟨(), ha.sub ⟨rfl, rfl, rfl, rfl, rfl, rfl, trivial⟩, rfl⟩
            simp only [List.take, List.drop]
            rintro _ _ rfl
            refine V_y (Y_move rfl) rfl rfl rfl ?_
            obtain ⟨s75, hs75, h65⟩ := Option.bind_eq_some_iff.1 h65
            refine V_cut 5 (fun _ : Unit => [(0, .string s), (3, v14), (4, .func (.func 26) #[] #[]), (5, .int .i64 s12.2), (6, .int .i64 s62), (56, .bool s75)]) (fun _ w' => w39 = w') ?_ ?_
            · simp only [List.take, List.drop]
              rcases Bool.eq_false_or_eq_true (s72) with hc74 | hc74
              · rw [if_pos hc74] at hs75
                refine V_ge rfl rfl rfl hc74 ?_
                refine V_y (Y_move rfl) rfl rfl rfl ?_
                refine V_ge rfl rfl rfl hc74 ?_
                refine V_y (Y_move rfl) rfl rfl rfl ?_
                refine V_ge rfl rfl rfl hc74 ?_
                obtain ⟨x76, hx76, hs75⟩ := Option.bind_eq_some_iff.1 hs75
                refine V_y (Y_indexS hx76 Tryz.underlying9 rfl rfl) rfl rfl rfl ?_
                refine V_ge rfl rfl rfl hc74 ?_
                refine V_y (Y_leq rfl rfl) rfl rfl rfl ?_
                refine V_y (Y_pick_te rfl hc74 rfl) rfl rfl rfl ?_
                obtain rfl := Option.some.inj hs75
                exact V_end fun a ha => ⟨(), ha.sub ⟨rfl, rfl, rfl, rfl, rfl, rfl, trivial⟩, rfl⟩
              · rw [if_neg (nt hc74)] at hs75
                refine V_gn rfl rfl rfl hc74 rfl rfl rfl ?_
                refine V_gn rfl rfl rfl hc74 rfl rfl rfl ?_
                refine V_gn rfl rfl rfl hc74 rfl rfl rfl ?_
                refine V_gn rfl rfl rfl hc74 rfl rfl rfl ?_
                refine V_y (Y_pick_fe rfl hc74 rfl) rfl rfl rfl ?_
                obtain rfl := Option.some.inj hs75
                exact V_end fun a ha => ⟨(), ha.sub ⟨rfl, rfl, rfl, rfl, rfl, rfl, trivial⟩, rfl⟩
            simp only [List.take, List.drop]
            rintro _ _ rfl
            refine V_to (fun _ _ => rfl) ?_
            refine C_cond rfl (fun hc77 => ?_) (fun hc77 => ?_)
            · rw [if_pos hc77] at h65
              refine C_skip_to (fun _ _ => rfl) ?_
              refine C_block ?_
              refine C_region ?_
              refine V_y (Y_move rfl) rfl rfl rfl ?_
              refine V_y (Y_addI rfl rfl) rfl rfl rfl ?_
              refine V_y (Y_assign rfl) rfl rfl rfl ?_
              obtain rfl := Option.some.inj h65
              refine V_end (fun a ha78 => ?_)
              exact ⟨w64 (s62 + 1), h66, ⟨(), ha78.sub ⟨rfl, rfl, rfl, rfl, rfl, trivial⟩, rfl⟩⟩
            · rw [if_neg (nt hc77)] at h65
              obtain rfl := Option.some.inj h65
              refine C_exit (fun a ha79 => ?_)
              exact ⟨s62, ha79.sub ⟨rfl, rfl, rfl, rfl, rfl, trivial⟩, ⟨h66.symm, rfl⟩⟩
          rintro s56 _ ⟨rfl, rfl⟩ a ha61
          rw [Lp.andThen_fin] at ho26
          refine C_at (n := ⟨106, [], none⟩) (fun _ _ => rfl) ?_ ha61
          refine C_seq ?_
          refine C_seq ?_
          refine C_region ?_
          refine V_y (Y_move rfl) rfl rfl rfl ?_
          refine V_y (Y_move rfl) rfl rfl rfl ?_
          refine V_y (Y_subI rfl rfl) rfl rfl rfl ?_
          refine V_y (Y_subI rfl rfl) rfl rfl rfl ?_
          refine V_y (Y_assign rfl) rfl rfl rfl ?_
          refine V_to (fun _ _ => rfl) ?_
          refine C_seq ?_
          obtain ⟨s82, ho81, ho26⟩ := Option.bind_eq_some_iff.1 ho26
          refine C_cutG (ι := (Nat → Prop)) (fun (A87 : (Nat → Prop)) => [(0, .string s), (3, v14), (4, .func (.func 26) #[] #[]), (5, .int .i64 s12.2), (6, .int .i64 s56), (88, .bool s82)]) (fun (A87 : (Nat → Prop)) => fun w' => Hp w.heap.size A87 w' (obS (α := Int) 3 v14 s12.1 :: []) ∧ Tr False w.heap.size A42 w39 A87 w') ?_ ?_
          · have hr83 : Tr False w.heap.size A42 w39 A42 w39 := Tr.refl (Dw := False) hA
            refine C_region ?_
            refine V_y (Y_move rfl) rfl rfl rfl ?_
            refine V_y (Y_lss rfl rfl) rfl rfl rfl ?_
            refine V_y (Y_move rfl) rfl rfl rfl ?_
            rcases Bool.eq_false_or_eq_true (decide ((w64 ((w64 (s56 - s12.2)) - 1)) < 1)) with hc89 | hc89
            · rw [if_pos hc89] at ho81
              refine V_gn rfl rfl rfl hc89 rfl rfl rfl ?_
              refine V_gn rfl rfl rfl hc89 rfl rfl rfl ?_
              refine V_y (Y_pick_te rfl hc89 rfl) rfl rfl rfl ?_
              refine V_y (Y_move rfl) rfl rfl rfl ?_
              rcases Bool.eq_false_or_eq_true (true) with hc90 | hc90
              · rw [if_pos hc90] at ho81
                refine V_gn rfl rfl rfl hc90 rfl rfl rfl ?_
                refine V_gn rfl rfl rfl hc90 rfl rfl rfl ?_
                refine V_gn rfl rfl rfl hc90 rfl rfl rfl ?_
                refine V_gn rfl rfl rfl hc90 rfl rfl rfl ?_
                refine V_gn rfl rfl rfl hc90 rfl rfl rfl ?_
                refine V_y (Y_pick_te rfl hc90 rfl) rfl rfl rfl ?_
                refine V_y (Y_move rfl) rfl rfl rfl ?_
                rcases Bool.eq_false_or_eq_true (true) with hc91 | hc91
                · rw [if_pos hc91] at ho81
                  refine V_gn rfl rfl rfl hc91 rfl rfl rfl ?_
                  refine V_gn rfl rfl rfl hc91 rfl rfl rfl ?_
                  refine V_gn rfl rfl rfl hc91 rfl rfl rfl ?_
                  refine V_gn rfl rfl rfl hc91 rfl rfl rfl ?_
                  refine V_gn rfl rfl rfl hc91 rfl rfl rfl ?_
                  refine V_gu rfl rfl rfl rfl rfl ?_
                  refine V_gu rfl rfl rfl rfl rfl ?_
                  refine V_gu rfl rfl rfl rfl rfl ?_
                  refine V_gu rfl rfl rfl rfl rfl ?_
                  refine V_gu rfl rfl rfl rfl rfl ?_
                  refine V_gn rfl rfl rfl hc91 rfl rfl rfl ?_
                  refine V_y (Y_pick_te rfl hc91 rfl) rfl rfl rfl ?_
                  obtain rfl := Option.some.inj ho81
                  refine V_end (fun a ha92 => ?_)
                  exact ⟨A42, ha92.sub ⟨rfl, rfl, rfl, rfl, rfl, rfl, trivial⟩, ⟨hH, hr83⟩⟩
                · rw [if_neg (nt hc91)] at ho81
                  refine V_ge rfl rfl rfl hc91 ?_
                  refine V_y (Y_move rfl) rfl rfl rfl ?_
                  refine V_ge rfl rfl rfl hc91 ?_
                  refine V_y (Y_move rfl) rfl rfl rfl ?_
                  refine V_ge rfl rfl rfl hc91 ?_
                  refine V_y (Y_lenStr rfl Tryz.underlying9 rfl) rfl rfl rfl ?_
                  refine V_ge rfl rfl rfl hc91 ?_
                  refine V_y (Y_lss rfl rfl) rfl rfl rfl ?_
                  refine V_ge rfl rfl rfl hc91 ?_
                  refine V_y (Y_move rfl) rfl rfl rfl ?_
                  rcases Bool.eq_false_or_eq_true (decide (s56 < (s.size : Int))) with hc93 | hc93
                  · rw [if_pos hc93] at ho81
                    refine V_ge rfl rfl rfl hc93 ?_
                    refine V_y (Y_move rfl) rfl rfl rfl ?_
                    refine V_ge rfl rfl rfl hc93 ?_
                    refine V_y (Y_move rfl) rfl rfl rfl ?_
                    refine V_ge rfl rfl rfl hc93 ?_
                    refine V_y (Y_move rfl) rfl rfl rfl ?_
                    refine V_ge rfl rfl rfl hc93 ?_
                    obtain ⟨x94, hx94, ho81⟩ := Option.bind_eq_some_iff.1 ho81
                    refine V_y (Y_indexS hx94 Tryz.underlying9 rfl rfl) rfl rfl rfl ?_
                    refine V_ge rfl rfl rfl hc93 ?_
                    refine V_call Tryz.call26 rfl rfl rfl rfl (portref2_LinksOf_1_c w39 (x94.toNat : Int)) ?_
                    rintro _ _ ⟨rfl, rfl⟩
                    refine V_ge rfl rfl rfl hc91 ?_
                    refine V_y (Y_pick_te rfl hc93 rfl) rfl rfl rfl ?_
                    refine V_y (Y_pick_fe rfl hc91 rfl) rfl rfl rfl ?_
                    obtain rfl := Option.some.inj ho81
                    refine V_end (fun a ha95 => ?_)
                    exact ⟨A42, ha95.sub ⟨rfl, rfl, rfl, rfl, rfl, rfl, trivial⟩, ⟨hH, hr83⟩⟩
                  · rw [if_neg (nt hc93)] at ho81
                    refine V_gn rfl rfl rfl hc93 rfl rfl rfl ?_
                    refine V_gn rfl rfl rfl hc93 rfl rfl rfl ?_
                    refine V_gn rfl rfl rfl hc93 rfl rfl rfl ?_
                    refine V_gn rfl rfl rfl hc93 rfl rfl rfl ?_
                    refine V_gn rfl rfl rfl hc93 rfl rfl rfl ?_
                    refine V_ge rfl rfl rfl hc91 ?_
                    refine V_y (Y_pick_fe rfl hc93 rfl) rfl rfl rfl ?_
                    refine V_y (Y_pick_fe rfl hc91 rfl) rfl rfl rfl ?_
                    obtain rfl := Option.some.inj ho81
                    refine V_end (fun a ha96 => ?_)
                    exact ⟨A42, ha96.sub ⟨rfl, rfl, rfl, rfl, rfl, rfl, trivial⟩, ⟨hH, hr83⟩⟩
              · rw [if_neg (nt hc90)] at ho81
                refine V_ge rfl rfl rfl hc90 ?_
                refine V_y (Y_move rfl) rfl rfl rfl ?_
                refine V_ge rfl rfl rfl hc90 ?_
                refine V_y (Y_move rfl) rfl rfl rfl ?_
                refine V_ge rfl rfl rfl hc90 ?_
                refine V_y (Y_addI rfl rfl) rfl rfl rfl ?_
                refine V_ge rfl rfl rfl hc90 ?_
                obtain ⟨x97, hx97, ho81⟩ := Option.bind_eq_some_iff.1 ho81
                refine V_y (Y_indexS hx97 Tryz.underlying9 rfl rfl) rfl rfl rfl ?_
                refine V_ge rfl rfl rfl hc90 ?_
                refine V_y (Y_eql rfl rfl) rfl rfl rfl ?_
                refine V_y (Y_pick_fe rfl hc90 rfl) rfl rfl rfl ?_
                refine V_y (Y_move rfl) rfl rfl rfl ?_
                rcases Bool.eq_false_or_eq_true ((x97.toNat : Int) == 48) with hc98 | hc98
                · rw [if_pos hc98] at ho81
                  refine V_gn rfl rfl rfl hc98 rfl rfl rfl ?_
                  refine V_gn rfl rfl rfl hc98 rfl rfl rfl ?_
                  refine V_gn rfl rfl rfl hc98 rfl rfl rfl ?_
                  refine V_gn rfl rfl rfl hc98 rfl rfl rfl ?_
                  refine V_gn rfl rfl rfl hc98 rfl rfl rfl ?_
                  refine V_gu rfl rfl rfl rfl rfl ?_
                  refine V_gu rfl rfl rfl rfl rfl ?_
                  refine V_gu rfl rfl rfl rfl rfl ?_
                  refine V_gu rfl rfl rfl rfl rfl ?_
                  refine V_gu rfl rfl rfl rfl rfl ?_
                  refine V_gn rfl rfl rfl hc98 rfl rfl rfl ?_
                  refine V_y (Y_pick_te rfl hc98 rfl) rfl rfl rfl ?_
                  obtain rfl := Option.some.inj ho81
                  refine V_end (fun a ha99 => ?_)
                  exact ⟨A42, ha99.sub ⟨rfl, rfl, rfl, rfl, rfl, rfl, trivial⟩, ⟨hH, hr83⟩⟩
                · rw [if_neg (nt hc98)] at ho81
                  refine V_ge rfl rfl rfl hc98 ?_
                  refine V_y (Y_move rfl) rfl rfl rfl ?_
                  refine V_ge rfl rfl rfl hc98 ?_
                  refine V_y (Y_move rfl) rfl rfl rfl ?_
                  refine V_ge rfl rfl rfl hc98 ?_
                  refine V_y (Y_lenStr rfl Tryz.underlying9 rfl) rfl rfl rfl ?_
                  refine V_ge rfl rfl rfl hc98 ?_
                  refine V_y (Y_lss rfl rfl) rfl rfl rfl ?_
                  refine V_ge rfl rfl rfl hc98 ?_
                  refine V_y (Y_move rfl) rfl rfl rfl ?_
                  rcases Bool.eq_false_or_eq_true (decide (s56 < (s.size : Int))) with hc100 | hc100
                  · rw [if_pos hc100] at ho81
                    refine V_ge rfl rfl rfl hc100 ?_
                    refine V_y (Y_move rfl) rfl rfl rfl ?_
                    refine V_ge rfl rfl rfl hc100 ?_
                    refine V_y (Y_move rfl) rfl rfl rfl ?_
                    refine V_ge rfl rfl rfl hc100 ?_
                    refine V_y (Y_move rfl) rfl rfl rfl ?_
                    refine V_ge rfl rfl rfl hc100 ?_
                    obtain ⟨x101, hx101, ho81⟩ := Option.bind_eq_some_iff.1 ho81
                    refine V_y (Y_indexS hx101 Tryz.underlying9 rfl rfl) rfl rfl rfl ?_
                    refine V_ge rfl rfl rfl hc100 ?_
                    refine V_call Tryz.call26 rfl rfl rfl rfl (portref2_LinksOf_1_c w39 (x101.toNat : Int)) ?_
                    rintro _ _ ⟨rfl, rfl⟩
                    refine V_ge rfl rfl rfl hc98 ?_
                    refine V_y (Y_pick_te rfl hc100 rfl) rfl rfl rfl ?_
                    refine V_y (Y_pick_fe rfl hc98 rfl) rfl rfl rfl ?_
                    obtain rfl := Option.some.inj ho81
                    refine V_end (fun a ha102 => ?_)
                    exact ⟨A42, ha102.sub ⟨rfl, rfl, rfl, rfl, rfl, rfl, trivial⟩, ⟨hH, hr83⟩⟩
                  · rw [if_neg (nt hc100)] at ho81
                    refine V_gn rfl rfl rfl hc100 rfl rfl rfl ?_
                    refine V_gn rfl rfl rfl hc100 rfl rfl rfl ?_
                    refine V_gn rfl rfl rfl hc100 rfl rfl rfl ?_
                    refine V_gn rfl rfl rfl hc100 rfl rfl rfl ?_
                    refine V_gn rfl rfl rfl hc100 rfl rfl rfl ?_
                    refine V_ge rfl rfl rfl hc98 ?_
                    refine V_y (Y_pick_fe rfl hc100 rfl) rfl rfl rfl ?_
                    refine V_y (Y_pick_fe rfl hc98 rfl) rfl rfl rfl ?_
                    obtain rfl := Option.some.inj ho81
                    refine V_end (fun a ha103 => ?_)
                    exact ⟨A42, ha103.sub ⟨rfl, rfl, rfl, rfl, rfl, rfl, trivial⟩, ⟨hH, hr83⟩⟩
            · rw [if_neg (nt hc89)] at ho81
              refine V_ge rfl rfl rfl hc89 ?_
              refine V_y (Y_move rfl) rfl rfl rfl ?_
              refine V_ge rfl rfl rfl hc89 ?_
              refine V_y (Y_gtr rfl rfl) rfl rfl rfl ?_
              refine V_y (Y_pick_fe rfl hc89 rfl) rfl rfl rfl ?_
              refine V_y (Y_move rfl) rfl rfl rfl ?_
              rcases Bool.eq_false_or_eq_true (decide ((7 : Int) < (w64 ((w64 (s56 - s12.2)) - 1)))) with hc104 | hc104
              · rw [if_pos hc104] at ho81
                refine V_gn rfl rfl rfl hc104 rfl rfl rfl ?_
                refine V_gn rfl rfl rfl hc104 rfl rfl rfl ?_
                refine V_gn rfl rfl rfl hc104 rfl rfl rfl ?_
                refine V_gn rfl rfl rfl hc104 rfl rfl rfl ?_
                refine V_gn rfl rfl rfl hc104 rfl rfl rfl ?_
                refine V_y (Y_pick_te rfl hc104 rfl) rfl rfl rfl ?_
                refine V_y (Y_move rfl) rfl rfl rfl ?_
                rcases Bool.eq_false_or_eq_true (true) with hc105 | hc105
                · rw [if_pos hc105] at ho81
                  refine V_gn rfl rfl rfl hc105 rfl rfl rfl ?_
                  refine V_gn rfl rfl rfl hc105 rfl rfl rfl ?_
                  refine V_gn rfl rfl rfl hc105 rfl rfl rfl ?_
                  refine V_gn rfl rfl rfl hc105 rfl rfl rfl ?_
                  refine V_gn rfl rfl rfl hc105 rfl rfl rfl ?_
                  refine V_gu rfl rfl rfl rfl rfl ?_
                  refine V_gu rfl rfl rfl rfl rfl ?_
                  refine V_gu rfl rfl rfl rfl rfl ?_
                  refine V_gu rfl rfl rfl rfl rfl ?_
                  refine V_gu rfl rfl rfl rfl rfl ?_
                  refine V_gn rfl rfl rfl hc105 rfl rfl rfl ?_
                  refine V_y (Y_pick_te rfl hc105 rfl) rfl rfl rfl ?_
                  obtain rfl := Option.some.inj ho81
                  refine V_end (fun a ha106 => ?_)
                  exact ⟨A42, ha106.sub ⟨rfl, rfl, rfl, rfl, rfl, rfl, trivial⟩, ⟨hH, hr83⟩⟩
                · rw [if_neg (nt hc105)] at ho81
                  refine V_ge rfl rfl rfl hc105 ?_
                  refine V_y (Y_move rfl) rfl rfl rfl ?_
                  refine V_ge rfl rfl rfl hc105 ?_
                  refine V_y (Y_move rfl) rfl rfl rfl ?_
                  refine V_ge rfl rfl rfl hc105 ?_
                  refine V_y (Y_lenStr rfl Tryz.underlying9 rfl) rfl rfl rfl ?_
                  refine V_ge rfl rfl rfl hc105 ?_
                  refine V_y (Y_lss rfl rfl) rfl rfl rfl ?_
                  refine V_ge rfl rfl rfl hc105 ?_
                  refine V_y (Y_move rfl) rfl rfl rfl ?_
                  rcases Bool.eq_false_or_eq_true (decide (s56 < (s.size : Int))) with hc107 | hc107
                  · rw [if_pos hc107] at ho81
                    refine V_ge rfl rfl rfl hc107 ?_
                    refine V_y (Y_move rfl) rfl rfl rfl ?_
                    refine V_ge rfl rfl rfl hc107 ?_
                    refine V_y (Y_move rfl) rfl rfl rfl ?_
                    refine V_ge rfl rfl rfl hc107 ?_
                    refine V_y (Y_move rfl) rfl rfl rfl ?_
                    refine V_ge rfl rfl rfl hc107 ?_
                    obtain ⟨x108, hx108, ho81⟩ := Option.bind_eq_some_iff.1 ho81
                    refine V_y (Y_indexS hx108 Tryz.underlying9 rfl rfl) rfl rfl rfl ?_
                    refine V_ge rfl rfl rfl hc107 ?_
                    refine V_call Tryz.call26 rfl rfl rfl rfl (portref2_LinksOf_1_c w39 (x108.toNat : Int)) ?_
                    rintro _ _ ⟨rfl, rfl⟩
                    refine V_ge rfl rfl rfl hc105 ?_
                    refine V_y (Y_pick_te rfl hc107 rfl) rfl rfl rfl ?_
                    refine V_y (Y_pick_fe rfl hc105 rfl) rfl rfl rfl ?_
                    obtain rfl := Option.some.inj ho81
                    refine V_end (fun a ha109 => ?_)
                    exact ⟨A42, ha109.sub ⟨rfl, rfl, rfl, rfl, rfl, rfl, trivial⟩, ⟨hH, hr83⟩⟩
                  · rw [if_neg (nt hc107)] at ho81
                    refine V_gn rfl rfl rfl hc107 rfl rfl rfl ?_
                    refine V_gn rfl rfl rfl hc107 rfl rfl rfl ?_
                    refine V_gn rfl rfl rfl hc107 rfl rfl rfl ?_
                    refine V_gn rfl rfl rfl hc107 rfl rfl rfl ?_
                    refine V_gn rfl rfl rfl hc107 rfl rfl rfl ?_
                    refine V_ge rfl rfl rfl hc105 ?_
                    refine V_y (Y_pick_fe rfl hc107 rfl) rfl rfl rfl ?_
                    refine V_y (Y_pick_fe rfl hc105 rfl) rfl rfl rfl ?_
                    obtain rfl := Option.some.inj ho81
                    refine V_end (fun a ha110 => ?_)
                    exact ⟨A42, ha110.sub ⟨rfl, rfl, rfl, rfl, rfl, rfl, trivial⟩, ⟨hH, hr83⟩⟩
              · rw [if_neg (nt hc104)] at ho81
                refine V_ge rfl rfl rfl hc104 ?_
                refine V_y (Y_move rfl) rfl rfl rfl ?_
                refine V_ge rfl rfl rfl hc104 ?_
                refine V_y (Y_move rfl) rfl rfl rfl ?_
                refine V_ge rfl rfl rfl hc104 ?_
                refine V_y (Y_addI rfl rfl) rfl rfl rfl ?_
                refine V_ge rfl rfl rfl hc104 ?_
                obtain ⟨x111, hx111, ho81⟩ := Option.bind_eq_some_iff.1 ho81
                refine V_y (Y_indexS hx111 Tryz.underlying9 rfl rfl) rfl rfl rfl ?_
                refine V_ge rfl rfl rfl hc104 ?_
                refine V_y (Y_eql rfl rfl) rfl rfl rfl ?_
                refine V_y (Y_pick_fe rfl hc104 rfl) rfl rfl rfl ?_
                refine V_y (Y_move rfl) rfl rfl rfl ?_
                rcases Bool.eq_false_or_eq_true ((x111.toNat : Int) == 48) with hc112 | hc112
                · rw [if_pos hc112] at ho81
                  refine V_gn rfl rfl rfl hc112 rfl rfl rfl ?_
                  refine V_gn rfl rfl rfl hc112 rfl rfl rfl ?_
                  refine V_gn rfl rfl rfl hc112 rfl rfl rfl ?_
                  refine V_gn rfl rfl rfl hc112 rfl rfl rfl ?_
                  refine V_gn rfl rfl rfl hc112 rfl rfl rfl ?_
                  refine V_gu rfl rfl rfl rfl rfl ?_
                  refine V_gu rfl rfl rfl rfl rfl ?_
                  refine V_gu rfl rfl rfl rfl rfl ?_
                  refine V_gu rfl rfl rfl rfl rfl ?_
                  refine V_gu rfl rfl rfl rfl rfl ?_
                  refine V_gn rfl rfl rfl hc112 rfl rfl rfl ?_
                  refine V_y (Y_pick_te rfl hc112 rfl) rfl rfl rfl ?_
                  obtain rfl := Option.some.inj ho81
                  refine V_end (fun a ha113 => ?_)
                  exact ⟨A42, ha113.sub ⟨rfl, rfl, rfl, rfl, rfl, rfl, trivial⟩, ⟨hH, hr83⟩⟩
                · rw [if_neg (nt hc112)] at ho81
                  refine V_ge rfl rfl rfl hc112 ?_
                  refine V_y (Y_move rfl) rfl rfl rfl ?_
                  refine V_ge rfl rfl rfl hc112 ?_
                  refine V_y (Y_move rfl) rfl rfl rfl ?_
                  refine V_ge rfl rfl rfl hc112 ?_
                  refine V_y (Y_lenStr rfl Tryz.underlying9 rfl) rfl rfl rfl ?_
                  refine V_ge rfl rfl rfl hc112 ?_
                  refine V_y (Y_lss rfl rfl) rfl rfl rfl ?_
                  refine V_ge rfl rfl rfl hc112 ?_
                  refine V_y (Y_move rfl) rfl rfl rfl ?_
                  rcases Bool.eq_false_or_eq_true (decide (s56 < (s.size : Int))) with hc114 | hc114
                  · rw [if_pos hc114] at ho81
                    refine V_ge rfl rfl rfl hc114 ?_
                    refine V_y (Y_move rfl) rfl rfl rfl ?_
                    refine V_ge rfl rfl rfl hc114 ?_
                    refine V_y (Y_move rfl) rfl rfl rfl ?_
                    refine V_ge rfl rfl rfl hc114 ?_
                    refine V_y (Y_move rfl) rfl rfl rfl ?_
                    refine V_ge rfl rfl rfl hc114 ?_
                    obtain ⟨x115, hx115, ho81⟩ := Option.bind_eq_some_iff.1 ho81
                    refine V_y (Y_indexS hx115 Tryz.underlying9 rfl rfl) rfl rfl rfl ?_
                    refine V_ge rfl rfl rfl hc114 ?_
                    refine V_call Tryz.call26 rfl rfl rfl rfl (portref2_LinksOf_1_c w39 (x115.toNat : Int)) ?_
                    rintro _ _ ⟨rfl, rfl⟩
                    refine V_ge rfl rfl rfl hc112 ?_
                    refine V_y (Y_pick_te rfl hc114 rfl) rfl rfl rfl ?_
                    refine V_y (Y_pick_fe rfl hc112 rfl) rfl rfl rfl ?_
                    obtain rfl := Option.some.inj ho81
                    refine V_end (fun a ha116 => ?_)
                    exact ⟨A42, ha116.sub ⟨rfl, rfl, rfl, rfl, rfl, rfl, trivial⟩, ⟨hH, hr83⟩⟩
                  · rw [if_neg (nt hc114)] at ho81
                    refine V_gn rfl rfl rfl hc114 rfl rfl rfl ?_
                    refine V_gn rfl rfl rfl hc114 rfl rfl rfl ?_
                    refine V_gn rfl rfl rfl hc114 rfl rfl rfl ?_
                    refine V_gn rfl rfl rfl hc114 rfl rfl rfl ?_
                    refine V_gn rfl rfl rfl hc114 rfl rfl rfl ?_
                    refine V_ge rfl rfl rfl hc112 ?_
                    refine V_y (Y_pick_fe rfl hc114 rfl) rfl rfl rfl ?_
                    refine V_y (Y_pick_fe rfl hc112 rfl) rfl rfl rfl ?_
                    obtain rfl := Option.some.inj ho81
                    refine V_end (fun a ha117 => ?_)
                    exact ⟨A42, ha117.sub ⟨rfl, rfl, rfl, rfl, rfl, rfl, trivial⟩, ⟨hH, hr83⟩⟩
          rintro A87 w84 ⟨hH88, hk85⟩ a ha86
          replace hK := Tr.trans (Dw := False) hK hk85
          replace hr3 := Tr.trans (Dw := False) hr3 hk85
          replace hr28 := Tr.trans (Dw := False) hr28 hk85
          replace hB := Nat.le_trans hB hk85.ex.size
          replace hA := hk85.new
          replace hH : Hp w.heap.size A87 w84 (obS (α := Int) 3 v14 s12.1 :: []) := hH88
          refine C_at (n := ⟨106, [], none⟩) (fun _ _ => rfl) ?_ ha86
          refine C_cond rfl (fun hc118 => ?_) (fun hc118 => ?_)
          · rw [if_pos hc118] at ho26
            obtain rfl := Option.some.inj ho26
            refine C_exit (fun a ha119 => ?_)
            exact ⟨(v14, A87), ha119.sub ⟨rfl, rfl, rfl, rfl, trivial⟩, ⟨hH, hr28⟩⟩
          · rw [if_neg (nt hc118)] at ho26
            refine C_skip_to (fun _ _ => rfl) ?_
            refine C_seq ?_
            refine C_region ?_
            refine V_y (Y_move rfl) rfl rfl rfl ?_
            refine V_y (Y_move rfl) rfl rfl rfl ?_
            refine V_y (Y_addI rfl rfl) rfl rfl rfl ?_
            refine V_y (Y_move rfl) rfl rfl rfl ?_
            obtain ⟨x120, hx120, ho26⟩ := Option.bind_eq_some_iff.1 ho26
            refine V_y (Y_sliceSLH hx120 Tryz.underlying9 rfl rfl rfl) rfl rfl rfl ?_
            obtain ⟨x121, hx121, ho26⟩ := Option.bind_eq_some_iff.1 ho26
            refine V_call Tryz.call27 rfl rfl rfl rfl (strconv_Atoi_c w84 hA ⟨((Fz.tr (Dw := False) hT hK)).1, ((Fz.tr (Dw := False) hT hK)).2⟩ x120 hx121) ?_
            rintro _ w124 ⟨v122, rfl, h123, hk125⟩
            have ht126 := Kp.tr (Dw := False) hk125 hA hB
            replace hH := Hp.kp (Dw := False) hH hk125
            replace hK := Tr.trans (Dw := False) hK ht126
            replace hr3 := Tr.trans (Dw := False) hr3 ht126
            replace hr28 := Tr.trans (Dw := False) hr28 ht126
            replace hB := Nat.le_trans hB ht126.ex.size
            replace hA := ht126.new
            refine V_y (Y_move rfl) rfl rfl rfl ?_
            refine V_y (Y_extract rfl rfl) rfl rfl rfl ?_
            refine V_y (Y_extract rfl rfl) rfl rfl rfl ?_
            refine V_y (Y_assign rfl) rfl rfl rfl ?_
            refine V_y (Y_assign rfl) rfl rfl rfl ?_
            refine V_to (fun _ _ => rfl) ?_
            refine C_region ?_
            refine V_y (Y_move rfl) rfl rfl rfl ?_
            refine V_y (Y_move rfl) rfl rfl rfl ?_
            refine V_buildSlice (Dw := False) (l := ([x121.1] : List Int)) (len := 1) Tryz.underlying28 Tryz.sizeOf3 Tryz.zeroValue3 rfl (by with_unfolding_all rfl) (show (1 * 1 : Nat) ≠ 0 by decide) (show (1 * 1 : Nat) ≤ 2 ^ 24 by decide) hA ⟨[.int .i64 x121.1], _, rfl, rfl, rfl⟩ rfl rfl ?_
            intro v127 w128 hk130 h129
            have ht131 := Kp.tr (Dw := False) hk130 hA hB
            replace hH := Hp.kp (Dw := False) hH hk130
            replace hK := Tr.trans (Dw := False) hK ht131
            replace hr3 := Tr.trans (Dw := False) hr3 ht131
            replace hr28 := Tr.trans (Dw := False) hr28 ht131
            replace hB := Nat.le_trans hB ht131.ex.size
            replace hA := ht131.new
            obtain ⟨x132, hx132, ho26⟩ := Option.bind_eq_some_iff.1 ho26
            refine V_appendH (Dw := False) (e := 3) (v := v14) (l := s12.1) (ti := Tryz.t3) (bytes := 8) (lim := 17592186044416) hH (i := 0) rfl h129 hx132 Tryz.underlying28 Tryz_info3 rfl rfl rfl rfl (by decide) (by decide) (by decide) hB hA rfl rfl rfl ?_
            intro v133 w134 A135 hH136 ht137
            replace h129 := Sl.tr (Dw := False) h129 ht137
            replace hK := Tr.trans (Dw := False) hK ht137
            replace hr3 := Tr.trans (Dw := False) hr3 ht137
            replace hr28 := Tr.trans (Dw := False) hr28 ht137
            replace hB := Nat.le_trans hB ht137.ex.size
            replace hA := ht137.new
            replace hH : Hp w.heap.size A135 w134 (obS (α := Int) 3 v133 x132 :: []) := hH136
            refine V_y (Y_assign rfl) rfl rfl rfl ?_
            obtain rfl := Option.some.inj ho26
            refine V_end (fun a ha138 => ?_)
            exact ⟨(v133, A135), ha138.sub ⟨rfl, rfl, rfl, rfl, trivial⟩, ⟨hH, hr28⟩⟩
      rintro ⟨v29, A34⟩ w31 ⟨hH35, hk32⟩ a ha33
      replace hK := Tr.trans (Dw := False) hK hk32
      replace hr3 := Tr.trans (Dw := False) hr3 hk32
      replace hB := Nat.le_trans hB hk32.ex.size
      replace hA := hk32.new
      replace hH : Hp w.heap.size A34 w31 (obS (α := Int) 3 v29 s27 :: []) := hH35
      refine C_at (n := ⟨106, [], none⟩) (fun _ _ => rfl) ?_ ha33
      refine C_region ?_
      refine V_y (Y_move rfl) rfl rfl rfl ?_
      refine V_y (Y_addI rfl rfl) rfl rfl rfl ?_
      refine V_y (Y_assign rfl) rfl rfl rfl ?_
      obtain rfl := Option.some.inj h19
      refine V_end (fun a ha139 => ?_)
      exact ⟨(s27, w64 (s12.2 + 1)), h20, ⟨(v29, A34), ha139.sub ⟨rfl, rfl, rfl, rfl, trivial⟩, ⟨hH, hr3⟩⟩⟩
    · rw [if_neg (nt hc25)] at h19
      obtain rfl := Option.some.inj h19
      refine C_exit (fun a ha140 => ?_)
      exact ⟨((s12.1, s12.2), v14, A16), ha140.sub ⟨rfl, trivial⟩, ⟨h20.symm, hH, hr3⟩⟩
  rintro ⟨s2, v8, A10⟩ w5 ⟨rfl, hH11, hk6⟩ a ha7
  rw [Lp.andThen_fin] at hm
  replace hK := Tr.trans (Dw := False) hK hk6
  replace hB := Nat.le_trans hB hk6.ex.size
  replace hA := hk6.new
  replace hH : Hp w.heap.size A10 w5 (obS (α := Int) 3 v8 s2.1 :: []) := hH11
  refine C_at (n := ⟨106, [], none⟩) (fun _ _ => rfl) ?_ ha7
  refine C_seq ?_
  refine C_region ?_
  refine V_y (Y_move rfl) rfl rfl rfl ?_
  obtain ⟨x142, hx142, hm⟩ := Option.bind_eq_some_iff.1 hm
  refine V_call Tryz.call24 rfl rfl rfl rfl (Tryz_sortInts (Dw := False) hH (i := 0) rfl hB hA hx142) ?_
  rintro _ w143 ⟨rfl, hH144, ht145⟩
  replace hK := Tr.trans (Dw := False) hK ht145
  replace hB := Nat.le_trans hB ht145.ex.size
  replace hA := ht145.new
  replace hH : Hp w.heap.size A10 w143 (obS (α := Int) 3 v8 x142 :: []) := hH144
  refine V_to (fun _ _ => rfl) ?_
  refine C_seq ?_
  refine C_region ?_
  refine V_y (Y_move rfl) rfl rfl rfl ?_
  obtain ⟨x146, hx146, hm⟩ := Option.bind_eq_some_iff.1 hm
  refine V_call Tryz.call25 rfl rfl rfl rfl (Tryz_cp25 (Dw := False) hH (i := 0) rfl hB hA hx146) ?_
  rintro v150 w147 ⟨_, rfl, hH148, ht149⟩
  replace hK := Tr.trans (Dw := False) hK ht149
  replace hB := Nat.le_trans hB ht149.ex.size
  replace hA := ht149.new
  replace hH : Hp w.heap.size A10 w147 (obS (α := Int) 3 v150 x146 :: []) := hH148
  refine V_y (Y_assign rfl) rfl rfl rfl ?_
  refine V_to (fun _ _ => rfl) ?_
  obtain rfl := Option.some.inj hm
  refine C_ret ?_
  try simp only [↓inBlock_ret, ↓then_ret]
  exact retQ rfl (Res.one Tryz.results12 rfl) ⟨v150, rfl, (Hp.ownd hH (i := 0) rfl), hK.kp⟩

set_option maxRecDepth 4000 in
set_option maxHeartbeats 4000000 in
theorem slices_Equal_Lint_int_c (w : World) {A : Nat → Prop} (hA : ∀ b, w.heap.size ≤ b → A b) (s1 : (List Int)) (v_s1 : Value) (h_s1 : Sl A w v_s1 s1) (s2 : (List Int)) (v_s2 : Value) (h_s2 : Sl A w v_s2 s2) {r : Bool} (hm : slices_Equal_Lint_int s1 s2 = some r) : Ret Tryz.prog 10 #[v_s1, v_s2] w fun v w' => v = .bool r ∧ Kp Dw w w' := by
  unfold slices_Equal_Lint_int at hm
  refine enter Tryz.func10 rfl Tryz.ntmps10 rfl ?_
  have hA0 := hA
  have hB := Nat.le_refl w.heap.size
  have hK : Tr Dw w.heap.size A w A w := Tr.refl (Dw := Dw) hA
  have hH : Hp w.heap.size A w [] := Hp.nil
  refine C_seq ?_
  refine C_region ?_
  refine V_y (Y_assign rfl) rfl rfl rfl ?_
  refine V_to (fun _ _ => rfl) ?_
  refine C_seq ?_
  refine C_seq ?_
  refine C_region ?_
  refine V_y (Y_move rfl) rfl rfl rfl ?_
  refine V_y (Y_lenSl h_s1 rfl Tryz.underlying28 rfl) rfl rfl rfl ?_
  refine V_y (Y_move rfl) rfl rfl rfl ?_
  refine V_y (Y_lenSl h_s2 rfl Tryz.underlying28 rfl) rfl rfl rfl ?_
  refine V_y (Y_neq rfl rfl) rfl rfl rfl ?_
  refine V_to (fun _ _ => rfl) ?_
  refine C_cond rfl (fun hc5 => ?_) (fun hc5 => ?_)
  · rw [if_pos hc5] at hm
    refine C_seq ?_
    refine C_region ?_
    refine V_y (Y_assign rfl) rfl rfl rfl ?_
    refine V_to (fun _ _ => rfl) ?_
    obtain rfl := Option.some.inj hm
    refine C_ret ?_
    try simp only [↓inBlock_ret, ↓then_ret]
    exact retQ rfl (Res.one Tryz.results10 rfl) ⟨rfl, hK.kp⟩
  · rw [if_neg (nt hc5)] at hm
    refine C_skip_to (fun _ _ => rfl) ?_
    refine C_seq ?_
    refine C_seq ?_
    refine C_region ?_
    refine V_y (Y_move rfl) rfl rfl rfl ?_
    refine V_y (Y_lenSl h_s1 rfl Tryz.underlying28 rfl) rfl rfl rfl ?_
    refine V_y (Y_move rfl) rfl rfl rfl ?_
    refine V_to (fun _ _ => rfl) ?_
    have hn27 := Sl.le h_s1
    obtain ⟨o6, ho6, hm⟩ := Option.bind_eq_some_iff.1 hm
    refine C_cutG (ι := (Unit × (Nat → Prop))) (fun ⟨s7, A13⟩ => []) (fun ⟨s7, A13⟩ => fun w' => o6 = .fin s7 ∧ Hp w.heap.size A13 w' ([]) ∧ Tr Dw w.heap.size A w A13 w') ?_ ?_
    · refine C_block ?_
      refine C_range ho6 (fun k9 _ a w' => ∃ i : (Nat → Prop), Has ⟨26, [], none⟩ a ([(0, v_s1), (1, v_s2), (12, .int .i64 (s1.length : Int)), (13, .int .i64 (k9 : Int))]) ∧ Hp w.heap.size i w' ([]) ∧ Tr Dw w.heap.size A w i w') (fun a ha => ⟨A, ha.sub ⟨rfl, rfl, rfl, rfl, trivial⟩, ⟨hH, Tr.refl (Dw := Dw) hA⟩⟩) ?_
      rintro K k9 _ a w17 ⟨A18, ha43, hH19, hr8⟩ hle23 K26 h25
      refine C_of ?_ ha43
      replace h_s1 := Sl.tr (Dw := Dw) h_s1 hr8
      replace h_s2 := Sl.tr (Dw := Dw) h_s2 hr8
      replace hK := Tr.trans (Dw := Dw) hK hr8
      replace hB := Nat.le_trans hB hr8.ex.size
      replace hA := hr8.new
      replace hH : Hp w.heap.size A18 w17 ([]) := hH19
      refine C_seq (C_region (V_y (Y_lss rfl rfl) rfl rfl rfl (V_to (fun _ _ => rfl) ?_)))
      refine C_seq ?_
      refine C_cond rfl (fun hc28 => ?_) (fun hc28 => ?_)
      · have hlt24 := lt_of_dec hc28
        obtain ⟨x20, h21, h22⟩ := K26 hlt24
        refine C_skip_to (fun _ _ => rfl) ?_
        refine C_seq ?_
        refine C_block ?_
        refine C_seq ?_
        refine C_region ?_
        refine V_y (Y_move rfl) rfl rfl rfl ?_
        refine V_y (Y_assign rfl) rfl rfl rfl ?_
        refine V_to (fun _ _ => rfl) ?_
        refine C_seq ?_
        refine C_region_q (Dw := Dw) Tryz_mixed (by kernel_rfl) ?_
        refine VQ_y (fun w' hw' => Y_move rfl) rfl rfl rfl ?_
        refine VQ_y (fun w' hw' => Y_move rfl) rfl rfl rfl ?_
        obtain ⟨x29, hx29, h21⟩ := Option.bind_eq_some_iff.1 h21
        refine VQ_indexAddr h_s1 hx29 Tryz.underlying28 Tryz.sizeOf3 rfl rfl rfl ?_
        intro b30 o31 h32
        refine VQ_y (fun w' hw' => Y_load (El.int (El.kp (Dw := Dw) h32 hw')) Tryz.isAgg3 rfl) rfl rfl rfl ?_
        refine VQ_y (fun w' hw' => Y_move rfl) rfl rfl rfl ?_
        refine VQ_y (fun w' hw' => Y_move rfl) rfl rfl rfl ?_
        obtain ⟨x33, hx33, h21⟩ := Option.bind_eq_some_iff.1 h21
        refine VQ_indexAddr h_s2 hx33 Tryz.underlying28 Tryz.sizeOf3 rfl rfl rfl ?_
        intro b34 o35 h36
        refine VQ_y (fun w' hw' => Y_load (El.int (El.kp (Dw := Dw) h36 hw')) Tryz.isAgg3 rfl) rfl rfl rfl ?_
        refine VQ_y (fun w' hw' => Y_neq rfl rfl) rfl rfl rfl ?_
        refine VQ_to (fun _ _ => rfl) (fun w37 hk38 => ?_)
        have ht39 := Kp.tr (Dw := Dw) hk38 hA hB
        replace hH := Hp.kp (Dw := Dw) hH hk38
        replace h_s1 := Sl.tr (Dw := Dw) h_s1 ht39
        replace h_s2 := Sl.tr (Dw := Dw) h_s2 ht39
        replace hK := Tr.trans (Dw := Dw) hK ht39
        replace hr8 := Tr.trans (Dw := Dw) hr8 ht39
        replace hB := Nat.le_trans hB ht39.ex.size
        replace hA := ht39.new
        refine C_cond rfl (fun hc40 => ?_) (fun hc40 => ?_)
        · rw [if_pos hc40] at h21
          refine C_seq ?_
          refine C_region ?_
          refine V_y (Y_assign rfl) rfl rfl rfl ?_
          refine V_to (fun _ _ => rfl) ?_
          obtain rfl := Option.some.inj h21
          obtain rfl := (h22 : Lp.rt _ = _)
          rw [Lp.andThen_rt] at hm
          obtain rfl := Option.some.inj hm
          refine C_ret ?_
          try simp only [↓inBlock_ret, ↓then_ret]
          exact retQ rfl (Res.one Tryz.results10 rfl) ⟨rfl, hK.kp⟩
        · rw [if_neg (nt hc40)] at h21
          refine C_skip_to (fun _ _ => rfl) ?_
          refine C_region ?_
          refine V_y (Y_addI rfl rfl) rfl rfl rfl ?_
          refine V_y (Y_move rfl) rfl rfl rfl ?_
          obtain rfl := Option.some.inj h21
          refine V_end (fun a ha41 => ?_)
          exact ⟨(), hlt24, h22, ⟨A18, ha41.sub ⟨rfl, rfl, rfl, (congrArg (fun z => some (Value.int .i64 z)) (w64_succ hlt24 hn27)), trivial⟩, ⟨hH, hr8⟩⟩⟩
      · refine C_exit (fun a ha42 => ?_)
        exact ⟨((), A18), ha42.sub trivial, ⟨(h25 (eq_of_dec hle23 hc28)).symm, hH, hr8⟩⟩
    rintro ⟨s7, A13⟩ w10 ⟨rfl, hH14, hk11⟩ a ha12
    rw [Lp.andThen_fin] at hm
    replace hK := Tr.trans (Dw := Dw) hK hk11
    replace hB := Nat.le_trans hB hk11.ex.size
    replace hA := hk11.new
    replace hH : Hp w.heap.size A13 w10 ([]) := hH14
    refine C_at (n := ⟨26, [], none⟩) (fun _ _ => rfl) ?_ ha12
    refine C_seq ?_
    refine C_region ?_
    refine V_y (Y_assign rfl) rfl rfl rfl ?_
    refine V_to (fun _ _ => rfl) ?_
    obtain rfl := Option.some.inj hm
    refine C_ret ?_
    try simp only [↓inBlock_ret, ↓then_ret]
    exact retQ rfl (Res.one Tryz.results10 rfl) ⟨rfl, hK.kp⟩

open Tryz
set_option maxRecDepth 4000
set_option maxHeartbeats 4000000
theorem qt_disable (w : World) : (callFunc 102 #[]).run Tryz.prog w = .ok (.value (.tuple #[])) w := run_call_mark0 Tryz.func102 (by kernel_rfl) (by kernel_rfl) (by kernel_rfl) .disable (by kernel_rfl) w
theorem qt_enable (w : World) : (callFunc 104 #[]).run Tryz.prog w = .ok (.value (.tuple #[])) w := run_call_mark0 Tryz.func104 (by kernel_rfl) (by kernel_rfl) (by kernel_rfl) .enable (by kernel_rfl) w
theorem qt_acquire (a : Addr) (w : World) : (callFunc 105 #[.pointer (some a)]).run Tryz.prog w = .ok (.value (.tuple #[])) w := run_call_marked Tryz.func105 (by kernel_rfl) (by kernel_rfl) (by kernel_rfl) .acquire (by kernel_rfl) a w
theorem qt_release (a : Addr) (w : World) : (callFunc 107 #[.pointer (some a)]).run Tryz.prog w = .ok (.value (.tuple #[])) w := run_call_marked Tryz.func107 (by kernel_rfl) (by kernel_rfl) (by kernel_rfl) .releaseMerge (by kernel_rfl) a w

theorem qt_store (a : Addr) (x : Value) (u : FrameMode) (w : World) (hc : w.cell? a = some x) (hz : w.frozen? a = false) :
    CallsD Tryz.prog 83 #[.pointer (some a), .bool true] u w fun e u' w' => u' = u ∧ (e = .returned (.tuple #[]) ∧ w' = w.drew.setCell a (.int .u32 1)) := by
  have hc' : w.drew.cell? a = some x := by go_simp
  have hz' : w.drew.frozen? a = false := by go_simp
  have hst := run_call_store (P := Tryz.prog) Tryz.func96 (by kernel_rfl) (by kernel_rfl) (by kernel_rfl) (by kernel_rfl) (k := .u32) (y := 1) hc' hz'
  go_enter_d Tryz.func83, Tryz.ntmps83
  go_wp2
  go_region_calls
  all_goals (go_end0; exact ⟨rfl, rfl⟩)

set_option maxRecDepth 100000 in
set_option maxHeartbeats 1600000 in
theorem qt_unlock (a : Addr) (u : FrameMode) (w : World) (hc : w.cell? a = some (.int .i32 1)) (hz : w.frozen? a = false) :
    CallsD Tryz.prog 82 #[.pointer (some a)] u w fun e u' w' => u' = u ∧ (e = .returned (.tuple #[]) ∧ w' = w.setCell a (.int .i32 0)) := by
  have hd := qt_disable
  have he := qt_enable
  have hr := qt_release
  have hadd := run_call_add (P := Tryz.prog) Tryz.func108 (by kernel_rfl) (by kernel_rfl) (by kernel_rfl) .i32 (by kernel_rfl) (y := -1) (s := 0) hc hz (by simp [go_sem]; rfl)
  have hcv := run_convert_to_unsafe (P := Tryz.prog) (src := 154) (dst := 158) Tryz.underlying154 Tryz.underlying158 (by kernel_rfl) hc
  go_enter_d Tryz.func82, Tryz.ntmps82
  go_wp2
  go_end0
  go_wp2
  go_end0
  exact ⟨rfl, rfl⟩

set_option maxRecDepth 100000 in
set_option maxHeartbeats 1600000 in
theorem qt_lock (a : Addr) (w : World) (hc : w.cell? a = some (.int .i32 0)) (hz : w.frozen? a = false) :
    Calls Tryz.prog 81 #[.pointer (some a)] w fun e w' => e = .returned (.tuple #[]) ∧ w' = w.setCell a (.int .i32 1) := by
  have hd := qt_disable
  have he := qt_enable
  have ha := qt_acquire
  have hcas := run_call_cas_hit (P := Tryz.prog) Tryz.func103 (by kernel_rfl) (by kernel_rfl) (by kernel_rfl) .i32 (by kernel_rfl) (y := 1) hc hz
  have hc' : (w.setCell a (.int .i32 1)).cell? a = some (.int .i32 1) := World.cell?_setCell_same w a _ hc
  have hcv := run_convert_to_unsafe (P := Tryz.prog) (src := 154) (dst := 158) Tryz.underlying154 Tryz.underlying158 (by kernel_rfl) hc'
  go_enter Tryz.func81, Tryz.ntmps81
  go_wp2
  first | go_end0 | (simp only [Exit.inBlock, Exit.then]; refine bodyPost_ret (results_none rfl _ _ _) rfl ?_) | refine bodyPost_ret (results_none rfl _ _ _) rfl ?_
  go_wp2
  go_end0
  exact ⟨rfl, rfl⟩

theorem qt_load (a : Addr) (x : Int) (w : World) (hc : w.cell? a = some (.int .u32 x)) :
    Calls Tryz.prog 64 #[.pointer (some a)] w fun e w' => e = .returned (.bool (x != 0)) ∧ w' = w := by
  have hl := run_call_load (P := Tryz.prog) Tryz.func80 (by kernel_rfl) (by kernel_rfl) (by kernel_rfl) .u32 (by kernel_rfl) hc
  go_enter Tryz.func64, Tryz.ntmps64
  go_wp2
  go_ret
  exact ⟨rfl, rfl⟩

set_option maxRecDepth 100000 in
set_option maxHeartbeats 1600000 in
/-- doSlow, not done and the lock free -/
theorem qt_slow (b : Nat) (w : World) (R : World → Prop)
    (h0 : w.cell? ⟨b, 0, none⟩ = some (.int .u32 0)) (h1 : w.cell? ⟨b, 1, none⟩ = some (.int .i32 0)) (f1 : w.frozen? ⟨b, 1, none⟩ = false)
    (hf : Calls Tryz.prog 43 #[.pointer (some ⟨b, 0, none⟩)] (w.setCell ⟨b, 1, none⟩ (.int .i32 1)) fun e w' => e = .returned (.tuple #[]) ∧ R w')
    (hR : ∀ w', R w' → w'.cell? ⟨b, 0, none⟩ = some (.int .u32 0) ∧ w'.cell? ⟨b, 1, none⟩ = some (.int .i32 1) ∧ w'.frozen? ⟨b, 0, none⟩ = false ∧ w'.frozen? ⟨b, 1, none⟩ = false) :
    Calls Tryz.prog 65 #[.pointer (some ⟨b, 0, none⟩), .func (.func 43) #[.pointer (some ⟨b, 0, none⟩)] #[]] w fun e w' => e = .returned (.tuple #[]) ∧
      ∃ w1, R w1 ∧ w' = (w1.drew.setCell ⟨b, 0, none⟩ (.int .u32 1)).setCell ⟨b, 1, none⟩ (.int .i32 0) := by
  have h0' := (World.cell?_setCell_other w ⟨b, 1, none⟩ ⟨b, 0, none⟩ (.int .i32 1) (by simp)).trans h0
  have hnot : ∀ (x : Bool) (w : World), (Op.unary .not (.bool x)).run Tryz.prog w = .ok (.bool (!x)) w := fun _ _ => rfl
  go_enter_defers Tryz.func65, Tryz.ntmps65
  go_wp2_with (first | (go_at_call 81; refine (qt_lock ⟨b, 1, none⟩ _ h1 f1).mono ?_; rintro e w' ⟨rfl, rfl⟩) | (go_at_call 43; refine hf.mono ?_; rintro e w1 ⟨rfl, hw⟩) | (go_at_call 64; refine (qt_load ⟨b, 0, none⟩ 0 _ h0').mono ?_; rintro e w' ⟨rfl, rfl⟩))
  obtain ⟨c0, c1, z0, z1⟩ := hR w1 hw
  refine leaves_cons (f := 83) (args := #[.pointer (some ⟨b, 0, none⟩), .bool true]) (by simp) (by simp [go_sem]) ?_
  refine (qt_store ⟨b, 0, none⟩ (.int .u32 0) .returning _ c0 z0).mono ?_
  rintro e u' w'' ⟨rfl, rfl, rfl⟩
  refine leaves_cons (f := 82) (args := #[.pointer (some ⟨b, 1, none⟩)]) (by simp [settle]) (by simp [go_sem]) ?_
  refine (qt_unlock ⟨b, 1, none⟩ _ _ ?_ (by simp [z1])).mono ?_
  · refine (World.cell?_setCell_other _ ⟨b, 0, none⟩ ⟨b, 1, none⟩ _ (by simp)).trans ?_
    rw [World.cell?_drew]
    exact c1
  rintro e u' w'' ⟨rfl, rfl, rfl⟩
  simp [Leaves, settle, results, Tryz.results65]
  exact ⟨w1, hw, rfl⟩

set_option maxRecDepth 100000 in
set_option maxHeartbeats 1600000 in
theorem qt_do (b : Nat) (w : World) (R : World → Prop)
    (h0 : w.cell? ⟨b, 0, none⟩ = some (.int .u32 0)) (h1 : w.cell? ⟨b, 1, none⟩ = some (.int .i32 0)) (f1 : w.frozen? ⟨b, 1, none⟩ = false)
    (hf : Calls Tryz.prog 43 #[.pointer (some ⟨b, 0, none⟩)] (w.setCell ⟨b, 1, none⟩ (.int .i32 1)) fun e w' => e = .returned (.tuple #[]) ∧ R w')
    (hR : ∀ w', R w' → w'.cell? ⟨b, 0, none⟩ = some (.int .u32 0) ∧ w'.cell? ⟨b, 1, none⟩ = some (.int .i32 1) ∧ w'.frozen? ⟨b, 0, none⟩ = false ∧ w'.frozen? ⟨b, 1, none⟩ = false) :
    Calls Tryz.prog 42 #[.pointer (some ⟨b, 0, none⟩), .func (.func 43) #[.pointer (some ⟨b, 0, none⟩)] #[]] w fun e w' => e = .returned (.tuple #[]) ∧
      ∃ w1, R w1 ∧ w' = (w1.drew.setCell ⟨b, 0, none⟩ (.int .u32 1)).setCell ⟨b, 1, none⟩ (.int .i32 0) := by
  have hnot : ∀ (x : Bool) (w : World), (Op.unary .not (.bool x)).run Tryz.prog w = .ok (.bool (!x)) w := fun _ _ => rfl
  have hS := qt_slow b w R h0 h1 f1 hf hR
  go_enter Tryz.func42, Tryz.ntmps42
  go_wp2_with (first | (go_at_call 65; refine hS.mono ?_; rintro e w' ⟨rfl, w1, hw, rfl⟩) | (go_at_call 64; refine (qt_load ⟨b, 0, none⟩ 0 _ h0).mono ?_; rintro e w' ⟨rfl, rfl⟩))
  go_end0
  exact ⟨rfl, w1, hw, rfl⟩

section
variable {P : Program} {n : Fr} {E : Env} {w : World} {t t2 e : TypeId} {ty : TypeId} {pos : String} {af : Array Edge} {g : Option (Nat × Bool)} {x y : Operand} {ρd : Option Nat}
theorem Y_neqNilF (hx : ev E x = some (.slice none 0 0)) (hy : ev E y = some (.slice none 0 0)) (ht : P.underlying t = some (.slice e)) : Y P n E ⟨ρd, .binOp .neq t x y t2, ty, pos, af, g⟩ w (.bool false) w := fun a hA => by
  obtain ⟨dp, hd⟩ : ∃ dp, Op.maxDepth = dp + 1 := ⟨_, rfl⟩
  simp only [execOp, hA.eval hx, hA.eval hy]
  simp [eqGuard, binOp, Op.equal, hd, Op.equalIn, underlying, ht]
theorem Y_neqNilT {a0 : Addr} {n0 c0 : Nat} (hx : ev E x = some (.slice (some a0) n0 c0)) (hy : ev E y = some (.slice none 0 0)) (ht : P.underlying t = some (.slice e)) : Y P n E ⟨ρd, .binOp .neq t x y t2, ty, pos, af, g⟩ w (.bool true) w := fun a hA => by
  obtain ⟨dp, hd⟩ : ∃ dp, Op.maxDepth = dp + 1 := ⟨_, rfl⟩
  simp only [execOp, hA.eval hx, hA.eval hy]
  simp [eqGuard, binOp, Op.equal, hd, Op.equalIn, underlying, ht]
theorem Y_indexArr {b off len sz : Nat} {k : IntKind} {i : Nat} (ht : P.underlying t = some (.array len e)) (hs : ∀ w, (Go.sizeOf e).run P w = .ok sz w) (h1 : i < len) (hx : ev E x = some (.pointer (some ⟨b, off, none⟩))) (hy : ev E y = some (.int k (i : Int))) :
    Y P n E ⟨ρd, .indexAddr t x y, ty, pos, af, g⟩ w (.pointer (some ⟨b, off + i * sz, none⟩)) w := fun a hA => by
  have h2 : (i : Int) < (len : Int) := by omega
  simp [execOp, hA.eval hx, hA.eval hy, Instr.indexAt, asIntOf, underlying, ht, Instr.sureAddr, hs, h1, add_none, Result.andThen]
end

/-- a text with a backslash before what is special -/
theorem escB_one {b : UInt8} (h1 : b ≠ 123) (h2 : b ≠ 92) : escB b = [b] := by unfold escB; rw [if_neg h1, if_neg h2]
def spc (b : UInt8) : Bool := decide (b = 123) || decide (b = 92)
theorem escB_len (b : UInt8) : (escB b).length = 1 + (if spc b = true then 1 else 0) := by
  unfold escB spc
  by_cases h : b = 123
  · simp [h]
  · by_cases h2 : b = 92 <;> simp [h, h2]
theorem esc_len (l : List UInt8) : (l.flatMap escB).length = l.length + l.countP spc := by
  induction l with
  | nil => rfl
  | cons b l ih =>
    rw [List.flatMap_cons, List.length_append, ih, escB_len, List.length_cons, List.countP_cons]
    split <;> simp_all <;> omega
theorem esc_none {l : List UInt8} (h : l.countP spc = 0) : l.flatMap escB = l := by
  induction l with
  | nil => rfl
  | cons b l ih =>
    rw [List.countP_cons] at h
    have hb : spc b ≠ true := fun e => by rw [if_pos e] at h; omega
    rw [if_neg hb] at h
    have h1 : b ≠ 123 := fun e => hb (by unfold spc; simp [e])
    have h2 : b ≠ 92 := fun e => hb (by unfold spc; simp [e])
    rw [List.flatMap_cons, escB_one h1 h2, ih (by omega)]
    rfl
theorem count_spc (l : List UInt8) : l.countP spc = l.count 92 + l.count 123 := by
  induction l with
  | nil => rfl
  | cons b l ih =>
    have e : (if spc b = true then 1 else 0) = (if (b == 92) = true then 1 else 0) + (if (b == 123) = true then 1 else 0) := by
      unfold spc
      by_cases h : b = 123
      · subst h; decide
      · by_cases h2 : b = 92
        · subst h2; decide
        · simp [h, h2]
    rw [List.countP_cons, ih, List.count_cons, List.count_cons, e]
    omega

/-- what a replacer of bytes holds -/
structure Rp (A : Nat → Prop) (w : World) (b2 : Nat) : Prop where
  ina : A b2
  ex : ∃ (cells : Array Value) (t : TypeId) (v1 v2 vT : Value), w.heap[b2]? = some (.cells cells t (0, 0)) ∧ (∀ k, k < 256 → k ≠ 92 → k ≠ 123 → cells[k]? = some (.slice none 0 0)) ∧ cells[92]? = some v1 ∧ cells[123]? = some v2 ∧ cells[256]? = some vT ∧
    Sl A w v1 ([92, 92] : List UInt8) ∧ Sl A w v2 ([92, 123] : List UInt8) ∧ Sl A w vT ([⟨#[92]⟩, ⟨#[123]⟩] : List ByteArray)
section
variable {A A1 : Nat → Prop} {w w1 : World} {b2 B : Nat}
theorem Rp.lt (h : Rp A w b2) : b2 < w.heap.size := by
  obtain ⟨_, _, _, _, _, h1, _⟩ := h.ex
  exact (Array.getElem?_eq_some_iff.1 h1).1
theorem Rp.tr (h : Rp A w b2) (t : Tr False B A w A1 w1) : Rp A1 w1 b2 := by
  have hl := h.lt
  obtain ⟨cells, ty, v1, v2, vT, h1, h2, h3, h4, h5, h6, h7, h8⟩ := h.ex
  obtain ⟨q1, q2⟩ := t.ex.block b2 hl h.ina
  exact ⟨q1, cells, ty, v1, v2, vT, q2.trans h1, h2, h3, h4, h5, Sl.tr (Dw := False) h6 t, Sl.tr (Dw := False) h7 t, Sl.tr (Dw := False) h8 t⟩
theorem cell_of {k : Nat} {cells : Array Value} {ty : TypeId} {u : Value} {fr : Nat × Nat} (h : w.heap[b2]? = some (.cells cells ty fr)) (hk : cells[k]? = some u) : w.cell? ⟨b2, k, none⟩ = some u := by
  unfold World.cell?
  rw [h]
  exact hk
theorem Rp.tops (h : Rp A w b2) : ∃ vT, w.cell? ⟨b2, 256, none⟩ = some vT ∧ Sl A w vT ([⟨#[92]⟩, ⟨#[123]⟩] : List ByteArray) := by
  obtain ⟨cells, ty, v1, v2, vT, h1, h2, h3, h4, h5, h6, h7, h8⟩ := h.ex
  exact ⟨vT, cell_of h1 h5, h8⟩
theorem Sl.addr {α : Type} [GoT α] {v : Value} {l : List α} (h : Sl A w v l) (hl : l ≠ []) : ∃ a c, v = .slice (some a) l.length c := by
  rcases h with ⟨a, cap, rfl, hl', _, hc⟩ | ⟨b, off, cap, cs, rfl, _⟩
  · exact absurd hl' hl
  · exact ⟨_, _, rfl⟩
theorem Rp.cell (h : Rp A w b2) (b : UInt8) : ∃ v, w.cell? ⟨b2, b.toNat, none⟩ = some v ∧ ((spc b = true ∧ (∃ a c, v = .slice (some a) 2 c) ∧ Sl A w v (escB b)) ∨ (spc b = false ∧ v = .slice none 0 0)) := by
  obtain ⟨cells, ty, v1, v2, vT, h1, h2, h3, h4, h5, h6, h7, h8⟩ := h.ex
  by_cases e1 : b = 123
  · subst e1
    exact ⟨v2, cell_of h1 h4, .inl ⟨rfl, Sl.addr h7 (by simp), h7⟩⟩
  · by_cases e2 : b = 92
    · subst e2
      exact ⟨v1, cell_of h1 h3, .inl ⟨rfl, Sl.addr h6 (by simp), h6⟩⟩
    · refine ⟨_, cell_of h1 (h2 b.toNat (UInt8.toNat_lt b) ?_ ?_), .inr ⟨by unfold spc; simp [e1, e2], rfl⟩⟩
      · exact fun e => e2 (UInt8.toNat_inj.1 e)
      · exact fun e => e1 (UInt8.toNat_inj.1 e)
end

def Tryz_qcnt_ren : Go.Shelf.Ren := ⟨fun | 138 => 166 | 143 => 169 | 195 => 167 | 217 => 100 | 218 => 168 | 219 => 170 | 224 => 88 | 225 => 89 | 266 => 112 | 267 => 171 | 314 => 172 | n => n, fun | 0 => 0 | 1 => 1 | 2 => 2 | 3 => 3 | 4 => 4 | 5 => 5 | 6 => 6 | 7 => 7 | 8 => 8 | 9 => 9 | 10 => 10 | 11 => 11 | 12 => 12 | 13 => 13 | 14 => 14 | 15 => 15 | 16 => 16 | 17 => 17 | 18 => 18 | 19 => 19 | 20 => 20 | 21 => 21 | 22 => 32 | 23 => 33 | 27 => 130 | 28 => 28 | 31 => 22 | 34 => 27 | 35 => 34 | 37 => 42 | 40 => 128 | 41 => 31 | 46 => 52 | 47 => 51 | 51 => 57 | 52 => 83 | 53 => 85 | 54 => 84 | 55 => 127 | 63 => 73 | 64 => 95 | 68 => 23 | 69 => 25 | 70 => 191 | 71 => 192 | 72 => 193 | 73 => 195 | 74 => 36 | 75 => 37 | 76 => 38 | 77 => 39 | 80 => 176 | 81 => 182 | 83 => 108 | 84 => 153 | 85 => 87 | 86 => 88 | 94 => 210 | 101 => 26 | 102 => 24 | 103 => 194 | 104 => 30 | 105 => 71 | 106 => 72 | 108 => 107 | 111 => 102 | 112 => 79 | 114 => 129 | 115 => 44 | 116 => 45 | 117 => 46 | 118 => 47 | 119 => 117 | 122 => 43 | 123 => 48 | 124 => 49 | 127 => 135 | 128 => 53 | 131 => 81 | 134 => 50 | 137 => 124 | 138 => 125 | 139 => 126 | 143 => 136 | 144 => 137 | 145 => 138 | 146 => 211 | 151 => 212 | 164 => 158 | 165 => 196 | 166 => 197 | 167 => 86 | 168 => 89 | 169 => 90 | 170 => 91 | 171 => 164 | 172 => 165 | 173 => 166 | 174 => 167 | 175 => 103 | 176 => 104 | 181 => 74 | 182 => 75 | 183 => 76 | 184 => 77 | 185 => 78 | 186 => 80 | 187 => 82 | 209 => 105 | 210 => 106 | 211 => 171 | 212 => 172 | 213 => 173 | 214 => 134 | 218 => 96 | 219 => 97 | 220 => 98 | 221 => 99 | 222 => 100 | 223 => 101 | 228 => 131 | 229 => 132 | 230 => 133 | 232 => 174 | 233 => 175 | 238 => 177 | 239 => 178 | 240 => 179 | 241 => 180 | 242 => 181 | 243 => 183 | 244 => 184 | 245 => 185 | 246 => 186 | 247 => 187 | 248 => 188 | 249 => 189 | n => n, fun | 1 => 4 | 3 => 2 | 4 => 3 | 15 => 0 | 16 => 1 | 17 => 5 | 18 => 6 | 19 => 7 | n => n⟩
theorem Tryz_qcnt : Go.Proofs.Lays.n138 Tryz.prog Tryz_qcnt_ren := {
  mixed := by kernel_rfl,
  f138 := Tryz.func166.trans (congrArg some (by kernel_rfl)),
  f143 := Tryz.func169.trans (congrArg some (by kernel_rfl)),
  f195 := Tryz.func167.trans (congrArg some (by kernel_rfl)),
  f217 := Tryz.func100.trans (congrArg some (by kernel_rfl)),
  f218 := Tryz.func168.trans (congrArg some (by kernel_rfl)),
  f219 := Tryz.func170.trans (congrArg some (by kernel_rfl)),
  f224 := Tryz.func88.trans (congrArg some (by kernel_rfl)),
  f225 := Tryz.func89.trans (congrArg some (by kernel_rfl)),
  f266 := Tryz.func112.trans (congrArg some (by kernel_rfl)),
  f267 := Tryz.func171.trans (congrArg some (by kernel_rfl)),
  f314 := Tryz.func172.trans (congrArg some (by kernel_rfl)),
  t0 := Tryz.underlying0,
  a0 := Tryz.isAgg0,
  z0 := Tryz.sizeOf0,
  v0 := Tryz.zeroValue0,
  t3 := Tryz.underlying3,
  a3 := Tryz.isAgg3,
  z3 := Tryz.sizeOf3,
  v3 := Tryz.zeroValue3,
  t4 := Tryz.underlying4,
  a4 := Tryz.isAgg4,
  z4 := Tryz.sizeOf4,
  v4 := Tryz.zeroValue4,
  t5 := Tryz.underlying5,
  a5 := Tryz.isAgg5,
  z5 := Tryz.sizeOf5,
  v5 := Tryz.zeroValue5,
  t9 := Tryz.underlying9,
  a9 := Tryz.isAgg9,
  z9 := Tryz.sizeOf9,
  v9 := Tryz.zeroValue9,
  t46 := Tryz.underlying52,
  a46 := Tryz.isAgg52,
  z46 := Tryz.sizeOf52,
  v46 := Tryz.zeroValue52,
  t51 := Tryz.underlying57,
  a51 := Tryz.isAgg57,
  z51 := Tryz.sizeOf57,
  v51 := Tryz.zeroValue57,
  t146 := Tryz.underlying211,
  a146 := Tryz.isAgg211,
  z146 := Tryz.sizeOf211,
  v146 := Tryz.zeroValue211,
  g1 := by kernel_rfl }

theorem qt_count (s : ByteArray) (c : UInt8) (w : World) : Ret prog 166 #[.string s, .string ⟨#[c]⟩] w fun v w' => v = .int .i64 ((s.data.toList.count c : Nat) : Int) ∧ w' = w :=
  (Any.strings_Count_one Tryz_qcnt s c w).mono fun e w' h => ⟨_, h.1, rfl, h.2⟩

/-- how many special bytes the first k of the two make -/
def cnT (s : ByteArray) : Nat → Nat
  | 0 => 0
  | 1 => s.data.toList.count 92
  | _ => s.data.toList.count 92 + s.data.toList.count 123
theorem cnT_le (s : ByteArray) (k : Nat) : cnT s k ≤ 2 * s.size := by
  have h1 := List.count_le_length (a := (92 : UInt8)) (l := s.data.toList)
  have h2 := List.count_le_length (a := (123 : UInt8)) (l := s.data.toList)
  have h3 : s.data.toList.length = s.size := by simp
  unfold cnT
  split <;> omega
theorem w64s {x : Int} (h0 : 0 ≤ x) (h1 : x ≤ 9000000000) : IntKind.wrap .i64 x = x := w64_id (by omega) (by omega)

theorem qt_idxS (s : ByteArray) (k : Nat) : idxS s (k : Int) = s.data.toList[k]? := by
  have hb : s[k]? = s.data.toList[k]? := by
    by_cases h : k < s.size
    · rw [getElem?_pos s k h]
      have h2 : k < s.data.toList.length := h
      rw [List.getElem?_eq_getElem h2]
      rfl
    · rw [getElem?_neg s k h, List.getElem?_eq_none (by simpa using h)]
  unfold idxS
  rw [if_pos (by omega), Int.toNat_natCast, hb]
theorem w64t {x : Int} (h0 : 0 ≤ x) (h1 : x ≤ 9000000000) : w64 x = x := w64_id (by omega) (by omega)
theorem qt_info : prog.info? 5 = some Tryz.t5 := by kernel_rfl
theorem qt_mixed : prog.follows .mixedOrders = true := by kernel_rfl

def encB (l : List UInt8) : List Value := (l.map fun b => (b.toNat : Int)).map (Value.int .u8)
theorem repL_enc {A : Nat → Prop} {w : World} : ∀ l : List UInt8, repL A w (encB l) l
  | [] => rfl
  | b :: l => ⟨[.int .u8 (b.toNat : Int)], encB l, rfl, rfl, repL_enc l⟩
theorem enc_len (l : List UInt8) : (encB l).length = l.length := by unfold encB; simp
/-- a copy of bytes into own bytes -/
theorem sl_src {A : Nat → Prop} {w : World} {a : Addr} {c : Nat} {m : List UInt8} (h : Sl A w (.slice (some a) m.length c) m) (hm : m ≠ []) : ∀ j v, (encB m)[j]? = some v → w.cell? (a.add j) = some v := by
  rcases h with ⟨_, _, _, h, _⟩ | ⟨b, off, cap, cs, h1, _, _, _, _, h2, h3⟩
  · exact absurd h hm
  · simp only [Value.slice.injEq, Option.some.injEq] at h1
    obtain ⟨rfl, _, _⟩ := h1
    have := repL_bytes h2
    intro j v hj
    rw [add_none]
    refine h3 j v ?_
    rw [this]
    exact hj

theorem row_put {cur : List Value} {l m : List UInt8} {o : Nat} (h : cur.take l.length = encB l) (hfit : o + m.length ≤ l.length) :
    (cur.take o ++ encB m ++ cur.drop (o + (encB m).length)).take l.length = encB (l.take o ++ m ++ l.drop (o + m.length)) := by
  have hc : cur = encB l ++ cur.drop l.length := by rw [← h, List.take_append_drop]
  generalize cur.drop l.length = r at hc
  subst hc
  have e1 : (encB l ++ r).take o = encB (l.take o) := by
    rw [List.take_append_of_le_length (by rw [enc_len]; omega)]
    unfold encB
    rw [List.map_take, List.map_take]
  have e2 : (encB l ++ r).drop (o + (encB m).length) = encB (l.drop (o + m.length)) ++ r := by
    rw [enc_len, List.drop_append_of_le_length (by rw [enc_len]; omega)]
    unfold encB
    rw [List.map_drop, List.map_drop]
  have e3 : ∀ x y : List UInt8, encB (x ++ y) = encB x ++ encB y := fun x y => by unfold encB; rw [List.map_append, List.map_append]
  rw [e1, e2, e3, e3, ← List.append_assoc, List.take_append_of_le_length (by simp only [List.length_append, enc_len, List.length_take, List.length_drop]; omega)]
  exact List.take_of_length_le (by simp only [List.length_append, enc_len, List.length_take, List.length_drop]; omega)

/-- the first loop: the new size -/
theorem qt_replace (w : World) {A : Nat → Prop} (hA : ∀ b, w.heap.size ≤ b → A b) {b2 : Nat} (hR : Rp A w b2) (s : ByteArray) (hs : s.size ≤ 2000000) :
    Ret prog 164 #[.pointer (some ⟨b2, 0, none⟩), .string s] w fun v w' => v = .string ⟨(s.data.toList.flatMap escB).toArray⟩ ∧ Kp False w w' := by
  obtain ⟨vT, hcT, hST⟩ := hR.tops
  have hlen : s.data.toList.length = s.size := by simp
  have hB : w.heap.size ≤ w.heap.size := Nat.le_refl _
  refine enter func164 rfl ntmps164 rfl ?_
  refine Sr (As (To ?_))
  refine Sr (Mm (Vy (Y_lenStr rfl underlying9 rfl) (As (To ?_))))
  refine Sr (As (To ?_))
  refine C_seq ?_
  refine Sr (Mm (Nc (Fa underlying122 rfl sizeOf22 (Ld hcT isAgg22 (Vy (Y_lenSl hST rfl underlying22 rfl) (Vy (Y_mulI rfl rfl) (Mm (Vy (Y_lenStr rfl underlying9 rfl) (Vy (Y_leq rfl rfl) (To ?_))))))))))
  refine C_cutG (ι := Unit) (fun _ => [(0, .pointer (some ⟨b2, 0, none⟩)), (1, .string s), (5, .int .i64 ((s.size + s.data.toList.countP spc : Nat) : Int)), (6, .bool (decide (s.data.toList.countP spc ≠ 0)))]) (fun _ w' => Kp False w w') ?_ ?_
  · refine Cc (fun _ => ?_) fun _ => ?_
    · refine Sr (Mm (Nc (Fa underlying122 rfl sizeOf22 (Ld hcT isAgg22 (Vy (Y_lenSl hST rfl underlying22 rfl) (Mm (To ?_)))))))
      refine C_block ?_
      refine C_loop (fun m a w' => ∃ k, m = 2 - k ∧ k ≤ 2 ∧ Kp False w w' ∧ Has ⟨122, [], none⟩ a [(0, .pointer (some ⟨b2, 0, none⟩)), (1, .string s), (5, .int .i64 ((s.size + cnT s k : Nat) : Int)), (6, .bool (decide (cnT s k ≠ 0))), (30, vT), (31, .int .i64 2), (32, .int .i64 (k : Int))]) 2 (fun a ha => ⟨0, rfl, by omega, Kp.refl (Dw := False) _, ha.sub ⟨rfl, rfl, rfl, rfl, rfl, rfl, rfl, trivial⟩⟩) ?_
      rintro m a w' ⟨k, rfl, hk, hkp, ha⟩
      have ht := Kp.tr (Dw := False) (B := w.heap.size) hkp hA hB
      have hR' := hR.tr ht
      have hST' := Sl.tr (Dw := False) hST ht
      refine C_of ?_ ha
      refine Sr (Vy (Y_lss rfl rfl) (To ?_))
      refine C_seq ?_
      refine Cc (fun hc => ?_) fun hc => ?_
      · have hk2 : k < 2 := by have := of_decide_eq_true hc; omega
        refine Sk ?_
        refine C_seq (C_block ?_)
        obtain ⟨c, hx, hsp, hn⟩ : ∃ c : UInt8, idx ([⟨#[92]⟩, ⟨#[123]⟩] : List ByteArray) (k : Int) = some ⟨#[c]⟩ ∧ spc c = true ∧ cnT s (k + 1) = cnT s k + s.data.toList.count c := by
          rcases k with _ | _ | k
          · exact ⟨92, rfl, by decide, by simp [cnT]⟩
          · exact ⟨123, rfl, by decide, by simp [cnT]⟩
          · omega
        have hle1 := cnT_le s k
        have hcnt : s.data.toList.count c ≤ s.size := by have := List.count_le_length (a := c) (l := s.data.toList); omega
        have hle2 := cnT_le s (k + 1)
        refine C_seq (C_region ?_)
        refine V_indexAddr hST' hx underlying22 sizeOf9 rfl rfl rfl ?_
        intro b o h
        refine Ld (El.str h) isAgg9 (As (To ?_))
        refine Sr (Mm (Mm ?_))
        refine V_call call166 rfl rfl rfl rfl (qt_count s c w') ?_
        rintro _ w1 ⟨rfl, hw⟩
        obtain rfl := hw.symm
        refine As (To ?_)
        refine Sr (Mm (Vy (Y_neq rfl rfl) (To ?_)))
        refine C_cutG (ι := Unit) (fun _ => [(0, .pointer (some ⟨b2, 0, none⟩)), (1, .string s), (5, .int .i64 ((s.size + cnT s (k + 1) : Nat) : Int)), (6, .bool (decide (cnT s (k + 1) ≠ 0))), (30, vT), (31, .int .i64 2), (32, .int .i64 (k : Int))]) (fun _ w'' => Kp False w w'') ?_ ?_
        · refine Cc (fun hc2 => ?_) fun hc2 => ?_
          · have hc3 : s.data.toList.count c ≠ 0 := by
              intro e
              rw [e] at hc2
              exact absurd hc2 (by decide)
            refine C_seq ?_
            obtain ⟨v, hv, ⟨_, ⟨a0, cp, rfl⟩, _⟩ | ⟨e, _⟩⟩ := hR'.cell c
            rotate_left
            · rw [hsp] at e; cases e
            refine C_region_q (Dw := False) qt_mixed (by kernel_rfl) ?_
            refine Qm (Qm (Qm (Qm (Qv (fun w' hw' => Y_indexS (r := c) rfl underlying9 rfl rfl) (Qn (Qf underlying122 rfl sizeOf120 ?_))))))
            refine Qv (fun w' hw' => Y_indexArr (i := c.toNat) underlying120 sizeOf42 (UInt8.toNat_lt c) rfl rfl) ?_
            refine Qc (b := b2) (off := 0 + 0 + c.toNat * 1) (by simpa using hv) isAgg42 ?_
            refine Qv (fun _ _ => Y_lenS rfl underlying42 rfl) ?_
            refine Qv (fun _ _ => Y_sub rfl rfl) (Qv (fun _ _ => Y_mul rfl rfl) (Qv (fun _ _ => Y_add rfl rfl) (Qa ?_)))
            refine VQ_to (fun _ _ => rfl) (fun w2 hk2 => ?_)
            refine C_region (As ?_)
            refine V_end fun a ha => ⟨(), ha.sub ⟨rfl, rfl, ?_, ?_, rfl, rfl, rfl, trivial⟩, Kp.trans (Dw := False) hkp hk2⟩
            · show some (Value.int .i64 (IntKind.wrap .i64 _)) = _
              rw [w64s (x := ((2 : Nat) : Int) - 1) (by omega) (by omega), w64s (x := ((s.data.toList.count c : Nat) : Int) * (((2 : Nat) : Int) - 1)) (by omega) (by omega), w64s (by omega) (by omega)]
              exact congrArg (fun z : Int => some (Value.int .i64 z)) (by omega)
            · show some (Value.bool true) = some (Value.bool (decide (cnT s (k + 1) ≠ 0)))
              rw [decide_eq_true (by omega)]
          · have hc3 : s.data.toList.count c = 0 := by
              have : ¬ ((s.data.toList.count c : Int) ≠ 0) := by simpa using hc2
              omega
            refine C_skip fun a ha => ⟨(), ha.sub ⟨rfl, rfl, ?_, ?_, rfl, rfl, rfl, trivial⟩, hkp⟩
            · rw [hn, hc3]; rfl
            · rw [hn, hc3]; rfl
        · intro _ w2 hk2 a ha
          refine C_at (n := ⟨122, [], none⟩) (fun _ _ => rfl) ?_ ha
          refine C_region (Vy (Y_addI rfl rfl) (Mm ?_))
          refine V_end fun a ha => ⟨2 - (k + 1), by omega, k + 1, rfl, by omega, hk2, ha.sub ⟨rfl, rfl, rfl, rfl, rfl, rfl, ?_, trivial⟩⟩
          show some (Value.int .i64 (w64 ((k : Int) + 1))) = _
          rw [w64_id (by omega) (by omega)]
          rfl
      · have hk2 : k = 2 := by have := of_decide_eq_false hc; omega
        subst hk2
        have e : cnT s 2 = s.data.toList.countP spc := (count_spc _).symm
        refine C_exit fun a ha => ?_
        refine ⟨(), ha.sub ⟨rfl, rfl, ?_, ?_, trivial⟩, hkp⟩
        · rw [← e]; rfl
        · rw [← e]; rfl
    · refine Sr (As (To ?_))
      refine C_block ?_
      refine C_loop (fun m a w' => ∃ k, m = s.size - k ∧ k ≤ s.size ∧ Kp False w w' ∧ Has ⟨122, [], none⟩ a [(0, .pointer (some ⟨b2, 0, none⟩)), (1, .string s), (5, .int .i64 ((s.size + (s.data.toList.take k).countP spc : Nat) : Int)), (6, .bool (decide ((s.data.toList.take k).countP spc ≠ 0))), (10, .int .i64 (k : Int))]) s.size (fun a ha => ⟨0, rfl, by omega, Kp.refl (Dw := False) _, ha.sub ⟨rfl, rfl, rfl, rfl, rfl, trivial⟩⟩) ?_
      rintro m a w' ⟨k, rfl, hk, hkp, ha⟩
      have ht := Kp.tr (Dw := False) (B := w.heap.size) hkp hA hB
      have hR' := hR.tr ht
      have hcl : (s.data.toList.take k).countP spc ≤ s.size := Nat.le_trans List.countP_le_length (by rw [List.length_take]; omega)
      refine C_of ?_ ha
      refine C_seq ?_
      refine Sr (Mm (Mm (Vy (Y_lenStr rfl underlying9 rfl) (Vy (Y_lss rfl rfl) (To ?_)))))
      refine Cc (fun hc => ?_) fun hc => ?_
      · have hk2 : k < s.size := by have := of_decide_eq_true hc; omega
        refine Sk ?_
        refine C_seq (C_block ?_)
        have hx : s.data.toList[k]? = some (s.data.toList[k]'(by omega)) := List.getElem?_eq_getElem (by omega)
        generalize s.data.toList[k]'(by omega) = c at hx
        have htk : s.data.toList.take (k + 1) = s.data.toList.take k ++ [c] := by rw [List.take_add_one, hx]; rfl
        have hcn : (s.data.toList.take (k + 1)).countP spc = (s.data.toList.take k).countP spc + (if spc c = true then 1 else 0) := by rw [htk, List.countP_append, List.countP_singleton]
        refine Sr (Mm (Mm (Vy (Y_indexS (r := c) (by rw [qt_idxS]; exact hx) underlying9 rfl rfl) (As (To ?_)))))
        obtain ⟨v, hv, hv2⟩ := hR'.cell c
        refine Sr (Mm (Mm (Nc (Fa underlying122 rfl sizeOf120 (Vy (Y_indexArr (i := c.toNat) underlying120 sizeOf42 (UInt8.toNat_lt c) rfl rfl) (Ld (b := b2) (off := 0 + 0 + c.toNat * 1) (by simpa using hv) isAgg42 ?_))))))
        rcases hv2 with ⟨hsp, ⟨a0, cp, rfl⟩, _⟩ | ⟨hsp, rfl⟩
        · refine Vy (Y_neqNilT rfl rfl underlying42) (To (C_true rfl ?_))
          refine Sr (Mm (Mm (Mm (Nc (Fa underlying122 rfl sizeOf120 (Vy (Y_indexArr (i := c.toNat) underlying120 sizeOf42 (UInt8.toNat_lt c) rfl rfl) (Ld (b := b2) (off := 0 + 0 + c.toNat * 1) (by simpa using hv) isAgg42 (Vy (Y_lenS rfl underlying42 rfl) (Vy (Y_subI rfl rfl) (Vy (Y_addI rfl rfl) (As (To ?_))))))))))))
          refine C_region (As (To ?_))
          refine C_region (Mm (Vy (Y_addI rfl rfl) (As ?_)))
          rw [if_pos hsp] at hcn
          refine V_end fun a ha => ⟨s.size - (k + 1), by omega, k + 1, rfl, by omega, hkp, ha.sub ⟨rfl, rfl, ?_, ?_, ?_, trivial⟩⟩
          · show some (Value.int .i64 (w64 _)) = _
            rw [w64t (x := ((2 : Nat) : Int) - 1) (by omega) (by omega), w64_id (by omega) (by omega), hcn]
            exact congrArg (fun z : Int => some (Value.int .i64 z)) (by omega)
          · show some (Value.bool true) = some (Value.bool (decide _))
            rw [decide_eq_true (by omega)]
          · show some (Value.int .i64 (w64 _)) = _
            rw [w64_id (by omega) (by omega)]
            rfl
        · refine Vy (Y_neqNilF rfl rfl underlying42) (To (C_false rfl ?_))
          refine Sk ?_
          refine C_region (Mm (Vy (Y_addI rfl rfl) (As ?_)))
          rw [if_neg (by rw [hsp]; decide), Nat.add_zero] at hcn
          refine V_end fun a ha => ⟨s.size - (k + 1), by omega, k + 1, rfl, by omega, hkp, ha.sub ⟨rfl, rfl, ?_, ?_, ?_, trivial⟩⟩
          · rw [hcn]; rfl
          · rw [hcn]; rfl
          · show some (Value.int .i64 (w64 _)) = _
            rw [w64_id (by omega) (by omega)]
            rfl
      · have hk2 : k = s.size := by have := of_decide_eq_false hc; omega
        subst hk2
        have e : s.data.toList.take s.size = s.data.toList := by rw [← hlen, List.take_length]
        have e2 : (s.data.toList.take s.size).countP spc = s.data.toList.countP spc := by rw [e]
        refine C_exit fun a ha => ?_
        refine ⟨(), ha.sub ⟨rfl, rfl, ?_, ?_, trivial⟩, hkp⟩
        · rw [← e2]; rfl
        · rw [← e2]; rfl
  · intro _ w1 hk1 a ha
    have hcl : s.data.toList.countP spc ≤ s.size := Nat.le_trans List.countP_le_length (by omega)
    have ht1 := Kp.tr (Dw := False) (B := w.heap.size) hk1 hA hB
    refine C_at (n := ⟨122, [], none⟩) (fun _ _ => rfl) ?_ ha
    refine C_seq (Sr (Mm (Vy (Y_not rfl) (To ?_))))
    refine Cc (fun hc => ?_) fun hc => ?_
    · have h0 : s.data.toList.countP spc = 0 := by
        have : ¬ (s.data.toList.countP spc ≠ 0) := by simpa using hc
        omega
      refine Sr (Mm (As (To ?_)))
      refine C_ret ?_
      try simp only [↓ib, ↓th]
      exact retQ rfl (Res.one results164 rfl) ⟨by rw [esc_none h0], hk1⟩
    · refine Sk ?_
      generalize hN : s.size + s.data.toList.countP spc = N
      have hNl : (s.data.toList.flatMap escB).length = N := by rw [esc_len, hlen, hN]
      refine Sr (Mm ?_)
      refine V_makeH (Dw := False) (α := UInt8) (zz := 0) (lim := 281474976710656) (r := List.replicate N 0) (B := w.heap.size) (Hp.nil (B := w.heap.size) (A := A)) ?_ (fun _ _ => rfl) underlying42 qt_info rfl rfl rfl (by decide) (by decide) (Nat.le_trans hB ht1.ex.size) ht1.new rfl rfl rfl ?_
      · unfold makeL
        rw [if_pos ⟨by omega, by rw [Int.toNat_natCast]; omega⟩, Int.toNat_natCast]
      intro v w2 A2 hH2 ht2
      refine As (To ?_)
      refine Sr (As (To ?_))
      refine C_seq (Sr (As (To ?_)))
      refine C_cutG (ι := World) (fun _ => [(12, v)]) (fun _ w' => ∃ A', Hp w.heap.size A' w' (obS (α := UInt8) 5 v (s.data.toList.flatMap escB) :: []) ∧ Tr False w.heap.size A w A' w') ?_ ?_
      · refine C_block ?_
        refine C_loop (fun m a w' => ∃ k A' l, m = s.size - k ∧ k ≤ s.size ∧ Hp w.heap.size A' w' (obS (α := UInt8) 5 v l :: []) ∧ Tr False w.heap.size A w A' w' ∧ l.length = N ∧ l.take ((s.data.toList.take k).flatMap escB).length = (s.data.toList.take k).flatMap escB ∧ Has ⟨122, [], none⟩ a [(0, .pointer (some ⟨b2, 0, none⟩)), (1, .string s), (12, v), (13, .int .i64 (((s.data.toList.take k).flatMap escB).length : Int)), (14, .int .i64 (k : Int))]) s.size
          (fun a ha => ⟨0, A2, _, rfl, by omega, hH2, Tr.trans (Dw := False) ht1 ht2, List.length_replicate, rfl, ha.sub ⟨rfl, rfl, rfl, rfl, rfl, trivial⟩⟩) ?_
        rintro m a w' ⟨k, A', l, rfl, hk, hH, ht, hl, hpre, ha⟩
        have hR' := hR.tr ht
        have hB' := Nat.le_trans hB ht.ex.size
        have hA' := ht.new
        refine C_of ?_ ha
        refine C_seq ?_
        refine Sr (Mm (Mm (Vy (Y_lenStr rfl underlying9 rfl) (Vy (Y_lss rfl rfl) (To ?_)))))
        refine Cc (fun hc => ?_) fun hc => ?_
        · have hk2 : k < s.size := by have := of_decide_eq_true hc; omega
          refine Sk ?_
          refine C_seq (C_block ?_)
          have hx : s.data.toList[k]? = some (s.data.toList[k]'(by omega)) := List.getElem?_eq_getElem (by omega)
          generalize s.data.toList[k]'(by omega) = c at hx
          have htk : s.data.toList.take (k + 1) = s.data.toList.take k ++ [c] := by rw [List.take_add_one, hx]; rfl
          have hE : (s.data.toList.take (k + 1)).flatMap escB = (s.data.toList.take k).flatMap escB ++ escB c := by rw [htk, List.flatMap_append, List.flatMap_singleton]
          have hEl : ((s.data.toList.take (k + 1)).flatMap escB).length ≤ N := by
            rw [esc_len, List.length_take, ← hN, hlen]
            have := (List.take_sublist (k + 1) s.data.toList).countP_le (p := spc)
            omega
          generalize hEk : (s.data.toList.take k).flatMap escB = Ek at *
          rw [hE, List.length_append] at hEl
          refine Sr (Mm (Mm (Vy (Y_indexS (r := c) (by rw [qt_idxS]; exact hx) underlying9 rfl rfl) (As (To ?_)))))
          obtain ⟨u, hv, hv2⟩ := hR'.cell c
          refine Sr (Mm (Mm (Nc (Fa underlying122 rfl sizeOf120 (Vy (Y_indexArr (i := c.toNat) underlying120 sizeOf42 (UInt8.toNat_lt c) rfl rfl) (Ld (b := b2) (off := 0 + 0 + c.toNat * 1) (by simpa using hv) isAgg42 ?_))))))
          rcases hv2 with ⟨hsp, ⟨a0, cp, rfl⟩, hSl⟩ | ⟨hsp, rfl⟩
          · have hel : (escB c).length = 2 := by rw [escB_len, if_pos hsp]
            rw [hel] at hEl
            refine Vy (Y_neqNilT rfl rfl underlying42) (To (C_true rfl ?_))
            obtain ⟨g, cap, cur, rfl, hH', h5, h6, h7, h8⟩ := Hp.openS hH (i := 0) rfl (by intro e; rw [e] at hl; simp at hl; omega) hA'
            rw [hl] at h5
            have hcs := repL_bytes h8
            have hcells : GoT.cells UInt8 = 1 := rfl
            rw [hcells, Nat.mul_one] at h7 h8 hcs
            refine C_region_ch (Dw := False) A' 13 [(1, 0), (1, 1), (1, 2), (1, 3), (1, 4), (1, 5), (1, 6), (1, 7), (1, 8), (1, 9), (4, 10), (1, 11), (1, 12)] qt_mixed (by kernel_rfl) (fun w4 hk4 => ?_)
            have ht4 := Kp.tr (Dw := False) (B := w.heap.size) hk4 hA' hB'
            have hR4 := hR'.tr ht4
            have hv4 : w4.cell? ⟨b2, c.toNat, none⟩ = some (.slice (some a0) 2 cp) := (World.cell?_of_block (hk4.block _ hR'.lt)).trans hv
            have hSl4 := Sl.tr (Dw := False) hSl ht4
            have hH4 := Hp.kp (Dw := False) hH' hk4
            refine CH_q2 (Dw := False) rfl (Qm (VQ_CH (Dw := False) (CH_q2 (Dw := False) rfl (Qm (VQ_CH (Dw := False) (CH_q2 (Dw := False) rfl (Qm (VQ_CH (Dw := False) (CH_q2 (Dw := False) rfl ?_))))))))) 
            refine Qv (fun _ _ => Y_slLo (g := g) (o := 0) (lo := Ek.length) (by omega) (by omega) (by omega) underlying42 sizeOf5 rfl rfl) ?_
            refine VQ_CH (Dw := False) (CH_q2 (Dw := False) rfl (Qm (VQ_CH (Dw := False) (CH_q2 (Dw := False) rfl (Qm (VQ_CH (Dw := False) (CH_q2 (Dw := False) rfl (Qn (VQ_CH (Dw := False) (CH_q2 (Dw := False) rfl (Qf underlying122 rfl sizeOf120 (VQ_CH (Dw := False) (CH_q2 (Dw := False) rfl ?_)))))))))))))
            refine Qv (fun w' hw' => Y_indexArr (i := c.toNat) underlying120 sizeOf42 (UInt8.toNat_lt c) rfl rfl) (VQ_CH (Dw := False) (CH_q2 (Dw := False) rfl ?_))
            refine Ql (b := b2) (off := 0 + 0 + c.toNat * 1) (v := .slice (some a0) 2 cp) (fun w' hw' => (World.cell?_of_block (hw'.2 _ hR4.lt hR4.ina)).trans (by simpa using hv4)) isAgg42 (VQ_CH (Dw := False) ?_)
            refine CH_l1 (Dw := False) (k := 2) rfl ?_
            refine V_copyO (Dw := False) (g := g) (o := 0 + Ek.length * 1) (dLen := l.length - Ek.length) (dCap := cap - Ek.length) (sLen := 2) (sCap := cp) (N := 2) (size := 1) (a := a0) (cur := cur) (ct := 5) (cs := encB (escB c)) hH4 (i := 0) rfl underlying42 qt_info rfl rfl rfl (Nat.min_eq_left (by omega)) (by rw [enc_len, hel]) (sl_src (by rw [hel]; exact hSl4) (by intro e; rw [e] at hel; cases hel)) (by rw [enc_len, hel]; omega) (by intro z hz; unfold encB at hz; obtain ⟨_, _, rfl⟩ := List.mem_map.1 hz; rfl) (Nat.le_trans hB' ht4.ex.size) ht4.new rfl ?_
            intro w5 hH5 ht5
            refine V_CHw (Dw := False) ?_
            refine CH_q2 (Dw := False) rfl (Qv (fun _ _ => Y_add rfl rfl) (VQ_CH (Dw := False) (CH_q2 (Dw := False) rfl (Qa (VQ_CH (Dw := False) ?_)))))
            refine CH_tail (Dw := False) ?_
            show V _ _ _ _ [] _ _
            refine To ?_
            refine C_region (Mm (Vy (Y_addI rfl rfl) (As ?_)))
            rw [Nat.zero_add, Nat.mul_one] at hH5
            have hll : (l.take Ek.length ++ escB c ++ l.drop (Ek.length + (escB c).length)).length = l.length := by
              simp only [List.length_append, List.length_take, List.length_drop, hel]
              omega
            have hcur : cur.toList.take l.length = encB l := hcs
            have hH6 := Hp.closeS (α := UInt8) (l := l.take Ek.length ++ escB c ++ l.drop (Ek.length + (escB c).length)) hH5 (i := 0) rfl ht5.new (cap := cap) (by rw [hll, hl]; exact h5) h6 (by
              rw [hcells, Nat.mul_one, ← h7]
              simp only [List.size_toArray, List.length_append, List.length_take, List.length_drop, enc_len, hel, Array.length_toList]
              omega) (by
              rw [hcells, Nat.mul_one, hll]
              show repL _ _ ((cur.toList.take Ek.length ++ encB (escB c) ++ cur.toList.drop (Ek.length + (encB (escB c)).length)).take l.length) _
              rw [row_put hcur (by omega)]
              exact repL_enc _)
            rw [hll] at hH6
            refine V_end fun a ha => ⟨s.size - (k + 1), by omega, k + 1, _, _, rfl, by omega, hH6, Tr.trans (Dw := False) (Tr.trans (Dw := False) ht ht4) ht5, by rw [hll, hl], ?_, ha.sub ⟨rfl, rfl, rfl, ?_, ?_, trivial⟩⟩
            · rw [hE, hpre]
              exact List.take_left' rfl
            · show some (Value.int .i64 (IntKind.wrap .i64 ((Ek.length : Int) + ((2 : Nat) : Int)))) = _
              rw [w64s (by omega) (by omega), hE, List.length_append, hel]
              rfl
            · show some (Value.int .i64 (w64 _)) = _
              rw [w64_id (by omega) (by omega)]
              rfl
          · have hel : (escB c).length = 1 := by rw [escB_len, if_neg (by rw [hsp]; decide)]
            have hec : escB c = [c] := by
              unfold spc at hsp
              simp only [Bool.or_eq_false_iff, decide_eq_false_iff_not] at hsp
              exact escB_one hsp.1 hsp.2
            rw [hel] at hEl
            refine Vy (Y_neqNilF rfl rfl underlying42) (To (C_false rfl ?_))
            refine Sr (Mm (Mm (Mm ?_)))
            have hj : Ek.length < l.length := by omega
            refine V_indexAddrH (α := UInt8) (e := 5) (v := v) (l := l) hH (i := 0) rfl (show idx l (Ek.length : Int) = some l[Ek.length] by rw [idx_nat, List.getElem?_eq_getElem hj]) underlying42 sizeOf5 rfl rfl rfl ?_
            intro b o he hloc
            refine V_storeH (Dw := False) (α := UInt8) (r := l.set Ek.length c) (x' := c) hH (i := 0) rfl hloc (by rw [setI, if_pos ⟨by omega, by rw [Int.toNat_natCast]; exact hj⟩, Int.toNat_natCast]) rfl sizeOf5 rfl hB' hA' rfl rfl ?_
            intro w5 hH5 ht5
            refine To ?_
            refine C_region (Mm (Vy (Y_addI rfl rfl) (As (To ?_))))
            refine C_region (Mm (Vy (Y_addI rfl rfl) (As ?_)))
            refine V_end fun a ha => ⟨s.size - (k + 1), by omega, k + 1, _, _, rfl, by omega, hH5, Tr.trans (Dw := False) ht ht5, by rw [List.length_set, hl], ?_, ha.sub ⟨rfl, rfl, rfl, ?_, ?_, trivial⟩⟩
            · rw [hE, hec, List.length_append, List.length_singleton, List.take_add_one, List.getElem?_set_self hj, List.take_set_of_le (Nat.le_refl _), hpre]
              rfl
            · show some (Value.int .i64 (w64 _)) = _
              rw [w64_id (by omega) (by omega), hE, List.length_append, hel]
              rfl
            · show some (Value.int .i64 (w64 _)) = _
              rw [w64_id (by omega) (by omega)]
              rfl
        · have hk2 : k = s.size := by have := of_decide_eq_false hc; omega
          subst hk2
          have e : s.data.toList.take s.size = s.data.toList := by rw [← hlen, List.take_length]
          rw [e] at hpre
          have hle : l = s.data.toList.flatMap escB := by rw [← hpre, hNl, ← hl, List.take_length]
          subst hle
          exact C_exit fun a ha => ⟨w', ha.sub ⟨rfl, trivial⟩, A', hH, ht⟩
      · rintro _ w3 ⟨A3, hH3, ht3⟩ a ha
        refine C_at (n := ⟨122, [], none⟩) (fun _ _ => rfl) ?_ ha
        refine Sr (Mm (Vy (Y_convBS (Hp.any hH3 (i := 0) rfl) underlying42 underlying5 underlying9 rfl) (As (To ?_))))
        refine C_ret ?_
        try simp only [↓ib, ↓th]
        exact retQ rfl (Res.one results164 rfl) ⟨rfl, ht3.kp⟩

def qOl : List ByteArray := [⟨#[123]⟩, ⟨#[92, 123]⟩, ⟨#[92]⟩, ⟨#[92, 92]⟩]
abbrev qNil : Value := .slice none 0 0
theorem qt_zero (w : World) : (zeroValue 122).run prog w = .ok (.agg (List.replicate 257 qNil).toArray) w := by kernel_rfl
theorem qt_places : ∀ fs, prog.underlying 122 = some (.struct fs) → ∀ w : World, (Array.mapM (fun (f : Field) => do pure (f.offset, ← Go.sizeOf f.type)) fs).run prog w = .ok #[(0, 256), (256, 1)] w := by
  intro fs h w
  rw [underlying122] at h
  cases h
  kernel_rfl
theorem qt_info9 : prog.info? 9 = some t9 := by kernel_rfl
section
variable {P : Program} {n : Fr} {E : Env} {w : World} {t e : TypeId} {ty : TypeId} {pos : String} {af : Array Edge} {g : Option (Nat × Bool)} {x : Operand} {ρd : Option Nat} {v : Value}
theorem Y_mkIP (ht : P.underlying t = some (.pointer e)) (hx : ev E x = some v) : Y P n E ⟨ρd, .makeInterface t x, ty, pos, af, g⟩ w (.iface t v) w := fun a hA => by
  simp [execOp, hA.eval hx, Instr.makeInterface, underlying, ht]
end
theorem qt_fill (a : Option Addr) (n c : Nat) : Instr.fill (#[(0, 256), (256, 1)][·]?) (List.replicate 257 qNil).toArray ([1].zip [Value.slice a n c]) = some (List.replicate 256 qNil ++ [Value.slice a n c]).toArray := by
  with_unfolding_all rfl
theorem set_mid {α : Type} {l : List α} {i : Nat} {x : α} (h : i < l.length) : l.take i ++ [x] ++ l.drop (i + 1) = l.set i x := by
  rw [List.set_eq_take_append_cons_drop, if_pos h, List.append_assoc]
  rfl
def qTops : Nat → List ByteArray
  | 0 => []
  | 1 => [⟨#[92]⟩]
  | _ => [⟨#[92]⟩, ⟨#[123]⟩]
/-- the table after k rounds -/
structure Tb (A : Nat → Prop) (w : World) (k : Nat) (cs : List Value) (vT : Value) : Prop where
  len : cs.length = 257
  nil : ∀ j, j < 256 → (j = 92 → k = 0) → (j = 123 → k < 2) → cs[j]? = some qNil
  top : cs[256]? = some vT
  one : 1 ≤ k → ∃ v, cs[92]? = some v ∧ Sl A w v ([92, 92] : List UInt8)
  two : 2 ≤ k → ∃ v, cs[123]? = some v ∧ Sl A w v ([92, 123] : List UInt8)
theorem Tb.tr {B : Nat} {A A1 : Nat → Prop} {w w1 : World} {k : Nat} {cs : List Value} {vT : Value} (h : Tb A w k cs vT) (t : Tr False B A w A1 w1) : Tb A1 w1 k cs vT :=
  ⟨h.len, h.nil, h.top, fun hk => (h.one hk).imp fun v q => ⟨q.1, Sl.tr (Dw := False) q.2 t⟩, fun hk => (h.two hk).imp fun v q => ⟨q.1, Sl.tr (Dw := False) q.2 t⟩⟩

theorem qt_build (w : World) {A : Nat → Prop} {B : Nat} (hB : B ≤ w.heap.size) (hA : ∀ b, w.heap.size ≤ b → A b) {b : Nat} {x0 x1 x2 x3 von : Value} {L : List Ob} (hH : Hp B A w (obC b [x0, x1, x2, x3, von] 69 :: L)) (hS : Sl A w von qOl) :
    Ret prog 66 #[.pointer (some ⟨b, 0, none⟩)] w fun u w' => ∃ b2 A1, u = .iface 123 (.pointer (some ⟨b2, 0, none⟩)) ∧ Hp B A1 w' (obC b [x0, x1, x2, x3, von] 69 :: L) ∧ Tr False B A w A1 w' ∧ Rp A1 w' b2 := by
  refine enter func66 rfl ntmps66 rfl ?_
  refine Sr (As (To ?_))
  refine Sr (Mm (Nc (Vy (Y_fieldAddrC (off2 := 4) underlying69 rfl sizeOf22 (by decide) rfl rfl) (Ld (Hp.cell (j := 4) hH (i := 0) rfl rfl) isAgg22 (As (To ?_))))))
  refine C_seq (Sr (Mm (Vy (Y_lenSl hS rfl underlying22 rfl) (Vy (Y_eql rfl rfl) (Mm ?_)))))
  have hc : (((qOl.length : Nat) : Int) == 2) = false := by decide
  refine Gm hc (Gm hc (Gm hc (Gm hc (Gm hc (Vy (Y_pick_fe rfl hc rfl) (To (C_false rfl ?_)))))))
  refine Sk ?_
  refine Sr (As (To ?_))
  refine C_seq (Sr (As (To ?_)))
  refine C_cutG (ι := Unit) (fun _ => [(0, .pointer (some ⟨b, 0, none⟩)), (3, von), (4, .bool false)]) (fun _ w' => w = w') ?_ ?_
  · refine C_block ?_
    refine C_loop (fun m a w' => ∃ k, m = 2 - k ∧ k ≤ 2 ∧ w = w' ∧ Has ⟨132, [], none⟩ a [(0, .pointer (some ⟨b, 0, none⟩)), (3, von), (4, .bool (k == 0)), (5, .int .i64 ((2 * k : Nat) : Int))]) 2 (fun a ha => ⟨0, rfl, by omega, rfl, ha.sub ⟨rfl, rfl, rfl, rfl, trivial⟩⟩) ?_
    rintro m a _ ⟨k, rfl, hk, rfl, ha⟩
    refine C_of ?_ ha
    refine C_seq (Sr (Mm (Mm (Vy (Y_lenSl hS rfl underlying22 rfl) (Vy (Y_lss rfl rfl) (To ?_))))))
    refine Cc (fun hc => ?_) fun hc => ?_
    · have hk2 : k < 2 := by have := of_decide_eq_true hc; simp [qOl] at this; omega
      refine Sk ?_
      refine C_seq (C_block ?_)
      obtain ⟨s1, s2, h1, h2, l1, l2⟩ : ∃ s1 s2 : ByteArray, idx qOl ((2 * k : Nat) : Int) = some s1 ∧ idx qOl (w64 (((2 * k : Nat) : Int) + 1)) = some s2 ∧ s1.size = 1 ∧ s2.size = 2 := by
        rcases k with _ | _ | k
        · exact ⟨_, _, rfl, rfl, rfl, rfl⟩
        · exact ⟨_, _, rfl, rfl, rfl, rfl⟩
        · omega
      refine C_seq (Sr (Mm (Mm ?_)))
      refine V_indexAddr hS h1 underlying22 sizeOf9 rfl rfl rfl ?_
      intro b1 o1 g1
      refine Ld (El.str g1) isAgg9 (Vy (Y_lenStr rfl underlying9 rfl) (Vy (Y_neq rfl rfl) (To ?_)))
      refine C_false (by show some (Value.bool (((s1.size : Nat) : Int) != 1)) = _; rw [l1]; rfl) ?_
      refine Sk ?_
      refine Sr (Mm (Mm (Vy (Y_addI rfl rfl) ?_)))
      refine V_indexAddr hS h2 underlying22 sizeOf9 rfl rfl rfl ?_
      intro b3 o3 g3
      refine Ld (El.str g3) isAgg9 (Vy (Y_lenStr rfl underlying9 rfl) (Vy (Y_neq rfl rfl) (To ?_)))
      refine C_true (by show some (Value.bool (((s2.size : Nat) : Int) != 1)) = _; rw [l2]; rfl) ?_
      refine C_region (As (To ?_))
      refine C_region (Mm (Vy (Y_addI rfl rfl) (As ?_)))
      refine V_end fun a ha => ⟨2 - (k + 1), by omega, k + 1, rfl, by omega, rfl, ha.sub ⟨rfl, rfl, rfl, ?_, trivial⟩⟩
      show some (Value.int .i64 (w64 (((2 * k : Nat) : Int) + 2))) = _
      rw [w64_id (by omega) (by omega)]
      exact congrArg (fun z : Int => some (Value.int .i64 z)) (by omega)
    · have hk2 : k = 2 := by have := of_decide_eq_false hc; simp [qOl] at this; omega
      subst hk2
      exact C_exit fun a ha => ⟨(), ha.sub ⟨rfl, rfl, rfl, trivial⟩, rfl⟩
  rintro _ _ rfl a ha
  refine C_at (n := ⟨132, [], none⟩) (fun _ _ => rfl) ?_ ha
  refine C_seq (Sr (Mm (To (C_false rfl ?_))))
  refine Sk ?_
  refine Sr (Mm (Vy (Y_lenSl hS rfl underlying22 rfl) (Vy (Y_quo (r := 2) rfl rfl rfl) ?_)))
  refine V_makeCH (Dw := False) (α := ByteArray) (zz := ⟨#[]⟩) (lim := 17592186044416) (r := []) hH (by rfl) (fun _ _ => rfl) underlying22 qt_info9 rfl rfl rfl (by decide) (by decide) hB hA rfl rfl rfl ?_
  intro vT w1 A1 hH1 ht1
  obtain ⟨a0, c0, rfl, _⟩ := Hp.form hH1 (i := 0) rfl
  refine Vy (Y_build underlying122 qt_zero (qt_places _ underlying122) rfl (qt_fill _ _ _)) ?_
  refine V_allocH (Dw := False) (B := B) hH1 qt_zero (Nat.le_trans hB ht1.ex.size) ht1.new rfl ?_
  intro b2 w2 A2 hH2 ht2
  replace hH2 : Hp B A2 w2 (obC b2 (List.replicate 257 qNil) 122 :: obS (α := ByteArray) 9 (.slice a0 0 c0) [] :: obC b [x0, x1, x2, x3, von] 69 :: L) := hH2
  have ht12 := Tr.trans (Dw := False) ht1 ht2
  refine V_storeC (Dw := False) (off := 0) (ds := List.replicate 256 qNil ++ [.slice a0 0 c0]) hH2 (i := 0) rfl sizeOf122 (by rfl) (by rw [List.length_replicate]; decide) ?_ (by rfl) (Nat.le_trans hB ht12.ex.size) ht12.new rfl rfl ?_
  · intro u hu
    change u ∈ List.replicate 256 qNil ++ [Value.slice a0 0 c0] at hu
    rcases List.mem_append.1 hu with h | h
    · rw [(List.mem_replicate.1 h).2]; rfl
    · rw [List.mem_singleton.1 h]; rfl
  intro w3 hH3 ht3
  replace hH3 : Hp B A2 w3 (obC b2 (List.replicate 256 qNil ++ [.slice a0 0 c0]) 122 :: obS (α := ByteArray) 9 (.slice a0 0 c0) [] :: obC b [x0, x1, x2, x3, von] 69 :: L) := hH3
  have ht13 := Tr.trans (Dw := False) ht12 ht3
  refine To ?_
  refine C_seq (Sr (Mm (Vy (Y_lenSl (Sl.tr (Dw := False) hS ht13) rfl underlying22 rfl) (Vy (Y_subI rfl rfl) (As (To ?_))))))
  refine C_cutG (ι := Value) (fun _ => [(11, .pointer (some ⟨b2, 0, none⟩))]) (fun vT w' => ∃ A' cs, Hp B A' w' (obC b2 cs 122 :: obS (α := ByteArray) 9 vT (qTops 2) :: obC b [x0, x1, x2, x3, von] 69 :: L) ∧ Tr False B A w A' w' ∧ Tb A' w' 2 cs vT) ?_ ?_
  · refine C_block ?_
    refine C_loop (fun m a w' => ∃ k A' cs vT, m = 2 - k ∧ k ≤ 2 ∧ Hp B A' w' (obC b2 cs 122 :: obS (α := ByteArray) 9 vT (qTops k) :: obC b [x0, x1, x2, x3, von] 69 :: L) ∧ Tr False B A w A' w' ∧ Tb A' w' k cs vT ∧ Has ⟨132, [], none⟩ a [(3, von), (11, .pointer (some ⟨b2, 0, none⟩)), (12, .int .i64 (2 - 2 * (k : Int)))]) 2
      (fun a ha => ⟨0, A2, _, _, rfl, by omega, hH3, ht13, ⟨by simp, fun j hj _ _ => ?_, ?_, fun h => absurd h (by omega), fun h => absurd h (by omega)⟩, ha.sub ⟨rfl, rfl, rfl, trivial⟩⟩) ?_
    · rw [List.getElem?_append_left (by simpa using hj), List.getElem?_replicate, if_pos hj]
    · rw [List.getElem?_append_right (by simp)]; simp
    rintro m a w' ⟨k, A', cs, vT, rfl, hk, hH', ht', hTb, ha⟩
    have hS' := Sl.tr (Dw := False) hS ht'
    have hB' := Nat.le_trans hB ht'.ex.size
    have hA' := ht'.new
    refine C_of ?_ ha
    refine C_seq (Sr (Mm (Vy (Y_geq rfl rfl) (To ?_))))
    refine Cc (fun hc => ?_) fun hc => ?_
    · have hk2 : k < 2 := by have := of_decide_eq_true hc; omega
      refine Sk ?_
      refine C_seq (C_block ?_)
      obtain ⟨c, h1, h2, h3, hci⟩ : ∃ c : UInt8, idx qOl (2 - 2 * (k : Int)) = some ⟨#[c]⟩ ∧ idx qOl (w64 (2 - 2 * (k : Int) + 1)) = some ⟨#[92, c]⟩ ∧ qTops (k + 1) = qTops k ++ [⟨#[c]⟩] ∧ (c.toNat = if k = 0 then 92 else 123) := by
        rcases k with _ | _ | k
        · exact ⟨92, rfl, rfl, rfl, rfl⟩
        · exact ⟨123, rfl, rfl, rfl, rfl⟩
        · omega
      have hc256 : c.toNat < 256 := UInt8.toNat_lt c
      refine Sr (Mm (Mm ?_))
      refine V_indexAddr hS' h1 underlying22 sizeOf9 rfl rfl rfl ?_
      intro b4 o4 g4
      refine Ld (El.str g4) isAgg9 (Vy (Y_indexS (r := c) rfl underlying9 rfl rfl) (As (To ?_)))
      refine Sr (Mm (Mm (Vy (Y_addI rfl rfl) ?_)))
      refine V_indexAddr hS' h2 underlying22 sizeOf9 rfl rfl rfl ?_
      intro b5 o5 g5
      refine Ld (El.str g5) isAgg9 (As (To ?_))
      have hcn : cs[c.toNat]? = some qNil := hTb.nil _ hc256 (fun e => by rw [hci] at e; split at e <;> omega) (fun e => by omega)
      refine C_seq (Sr (Mm (Vy (Y_fieldAddrC (off2 := 0) underlying122 rfl sizeOf120 (by decide) rfl rfl) (Vy (Y_indexArr (i := c.toNat) underlying120 sizeOf42 hc256 rfl rfl) (Ld (b := b2) (off := 0 + c.toNat * 1) (by rw [Nat.zero_add, Nat.mul_one]; exact Hp.cell (j := c.toNat) hH' (i := 0) rfl hcn) isAgg42 (Vy (Y_eqlNilT rfl rfl underlying42) (To ?_)))))))
      refine C_true rfl ?_
      refine C_region (Vy (Y_fieldAddrC (off2 := 256) underlying122 rfl sizeOf22 (by decide) rfl rfl) (Ld (Hp.cell (j := 256) hH' (i := 0) rfl hTb.top) isAgg22 (Mm ?_)))
      refine V_buildSlice (Dw := False) (cells := #[.int .u8 (c.toNat : Int)]) (l := ([c] : List UInt8)) (len := 1) underlying42 sizeOf5 zeroValue5 rfl (by with_unfolding_all rfl) (show (1 * 1 : Nat) ≠ 0 by decide) (show (1 * 1 : Nat) ≤ 2 ^ 24 by decide) hA' ⟨[.int .u8 (c.toNat : Int)], _, rfl, rfl, rfl⟩ rfl rfl ?_
      intro v6 w6 hk6 h6
      have t6 := Kp.tr (Dw := False) (B := B) hk6 hA' hB'
      refine Vy (Y_convBS h6 underlying42 underlying5 underlying9 rfl) ?_
      refine V_buildSlice (Dw := False) (cells := #[.string ⟨#[c]⟩]) (l := ([⟨#[c]⟩] : List ByteArray)) (len := 1) underlying22 sizeOf9 zeroValue9 rfl (by with_unfolding_all rfl) (show (1 * 1 : Nat) ≠ 0 by decide) (show (1 * 1 : Nat) ≤ 2 ^ 24 by decide) t6.new ⟨[.string ⟨#[c]⟩], _, rfl, rfl, rfl⟩ rfl rfl ?_
      intro v7 w7 hk7 h7
      have t7 := Kp.tr (Dw := False) (B := B) hk7 t6.new (Nat.le_trans hB' t6.ex.size)
      have t67 := Tr.trans (Dw := False) t6 t7
      have hH7 := Hp.kp (Dw := False) (Hp.kp (Dw := False) hH' hk6) hk7
      refine V_appendH (Dw := False) (α := ByteArray) (e := 9) (v := vT) (l := qTops k) (r := qTops (k + 1)) (bytes := 16) (lim := 8796093022208) hH7 (i := 1) rfl h7 (by
        unfold appendL
        rw [if_pos (by rcases k with _ | _ | k <;> simp [qTops] <;> omega), h3]) underlying22 qt_info9 rfl rfl rfl rfl (by decide) (by decide) (by decide) (Nat.le_trans hB' t67.ex.size) t67.new rfl rfl rfl ?_
      intro v8 w8 A8 hH8 t8
      replace hH8 : Hp B A8 w8 (obC b2 cs 122 :: obS (α := ByteArray) 9 v8 (qTops (k + 1)) :: obC b [x0, x1, x2, x3, von] 69 :: L) := hH8
      have t68 := Tr.trans (Dw := False) t67 t8
      have k8 : (v8).oneCell' = true := by obtain ⟨_, _, e, _⟩ := Sl.form (Hp.any (α := ByteArray) (e := 9) (v := v8) (l := qTops (k + 1)) hH8 (i := 1) rfl); rw [e]; rfl
      have hlt256 : 256 < cs.length := by rw [hTb.len]; decide
      refine Vy (Y_fieldAddrC (off2 := 256) underlying122 rfl sizeOf22 (by decide) rfl rfl) ?_
      refine V_storeC (Dw := False) (off := 256) (ds := cs.set 256 v8) hH8 (i := 0) rfl sizeOf22 (by rw [← Array.length_toList, Value.cells_one k8]; rfl) (by omega) (by intro u hu; rw [Value.cells_one k8] at hu; rw [List.mem_singleton.1 hu]; exact k8) (by rw [Value.cells_one k8]; exact set_mid hlt256) (Nat.le_trans hB' t68.ex.size) t68.new rfl rfl ?_
      intro w9 hH9 t9
      replace hH9 : Hp B A8 w9 (obC b2 (cs.set 256 v8) 122 :: obS (α := ByteArray) 9 v8 (qTops (k + 1)) :: obC b [x0, x1, x2, x3, von] 69 :: L) := hH9
      have t69 := Tr.trans (Dw := False) t68 t9
      refine To ?_
      refine C_region (Mm (Mm ?_))
      refine V_convU (Dw := False) (e := 5) (r := [92, c]) hH9 (by rfl) underlying9 underlying42 underlying5 (Nat.le_trans hB' t69.ex.size) t69.new rfl rfl ?_
      intro v10 w10 A10 hH10 t10
      obtain ⟨A11, t11, h11, hH11⟩ := Hp.freezeU (Dw := False) hH10 (i := 0) rfl t10.new
      replace hH11 : Hp B A11 w10 (obC b2 (cs.set 256 v8) 122 :: obS (α := ByteArray) 9 v8 (qTops (k + 1)) :: obC b [x0, x1, x2, x3, von] 69 :: L) := hH11
      have t6b := Tr.trans (Dw := False) (Tr.trans (Dw := False) t69 t10) t11
      have k10 : (v10).oneCell' = true := by obtain ⟨_, _, e, _⟩ := Sl.form h11; rw [e]; rfl
      have hltc : c.toNat < (cs.set 256 v8).length := by rw [List.length_set]; omega
      refine Vy (Y_fieldAddrC (off2 := 0) underlying122 rfl sizeOf120 (by decide) rfl rfl) (Vy (Y_indexArr (i := c.toNat) underlying120 sizeOf42 hc256 rfl rfl) ?_)
      refine V_storeC (Dw := False) (b := b2) (off := 0 + c.toNat * 1) (ds := (cs.set 256 v8).set c.toNat v10) hH11 (i := 0) rfl sizeOf42 (by rw [← Array.length_toList, Value.cells_one k10]; rfl) (by omega) (by intro u hu; rw [Value.cells_one k10] at hu; rw [List.mem_singleton.1 hu]; exact k10) (by rw [Value.cells_one k10, Nat.zero_add, Nat.mul_one]; exact set_mid hltc) (Nat.le_trans hB' t6b.ex.size) t6b.new rfl rfl ?_
      intro w12 hH12 t12
      have t6c := Tr.trans (Dw := False) t6b t12
      refine To ?_
      refine C_region (Mm (Vy (Y_subI rfl rfl) (As ?_)))
      refine V_end fun a ha => ⟨2 - (k + 1), by omega, k + 1, A11, (cs.set 256 v8).set c.toNat v10, v8, rfl, by omega, hH12, Tr.trans (Dw := False) ht' t6c, ⟨by rw [List.length_set, List.length_set]; exact hTb.len, fun j hj n1 n2 => ?_, ?_, fun _ => ?_, fun h2k => ?_⟩, ha.sub ⟨rfl, rfl, ?_, trivial⟩⟩
      · have hjc : c.toNat ≠ j := by
          intro e
          rw [hci] at e
          split at e
          · have := n1 e.symm; omega
          · have := n2 e.symm; omega
        rw [List.getElem?_set_ne hjc, List.getElem?_set_ne (by omega)]
        exact hTb.nil j hj (fun e => by have := n1 e; omega) (fun e => by have := n2 e; omega)
      · rw [List.getElem?_set_ne (by omega), List.getElem?_set_self hlt256]
      · by_cases h0 : k = 0
        · rw [if_pos h0] at hci
          have ec : c = 92 := UInt8.toNat_inj.1 hci
          subst ec
          exact ⟨v10, List.getElem?_set_self hltc, Sl.tr (Dw := False) h11 t12⟩
        · rw [if_neg h0] at hci
          obtain ⟨v, e1, e2⟩ := hTb.one (by omega)
          exact ⟨v, by rw [List.getElem?_set_ne (by omega), List.getElem?_set_ne (by omega)]; exact e1, Sl.tr (Dw := False) e2 t6c⟩
      · rw [if_neg (by omega)] at hci
        have ec : c = 123 := UInt8.toNat_inj.1 hci
        subst ec
        exact ⟨v10, List.getElem?_set_self hltc, Sl.tr (Dw := False) h11 t12⟩
      · show some (Value.int .i64 (w64 (2 - 2 * (k : Int) - 2))) = _
        rw [w64_id (by omega) (by omega)]
        exact congrArg (fun z : Int => some (Value.int .i64 z)) (by omega)
    · have hk2 : k = 2 := by have := of_decide_eq_false hc; omega
      subst hk2
      exact C_exit fun a ha => ⟨vT, ha.sub ⟨rfl, trivial⟩, A', cs, hH', ht', hTb⟩
  · rintro vT w4 ⟨A4, cs, hH4, ht4, hTb⟩ a ha
    refine C_at (n := ⟨132, [], none⟩) (fun _ _ => rfl) ?_ ha
    refine Sr (Vy (Y_mkIP underlying123 rfl) (As (To ?_)))
    obtain ⟨A5, ht5, hS5, hH5⟩ := Hp.freeze (Dw := False) (α := ByteArray) (v := vT) (l := qTops 2) hH4 (i := 1) rfl ht4.new
    replace hH5 : Hp B A5 w4 (obC b2 cs 122 :: obC b [x0, x1, x2, x3, von] 69 :: L) := hH5
    have hT5 := hTb.tr ht5
    obtain ⟨q1, q2, _⟩ := Hp.cells hH5 (i := 0) rfl
    obtain ⟨A6, f, hP, hf, hs6, ht6, hH6⟩ := Hp.frz (Dw := False) hH5 (i := 0) rfl ht5.new
    obtain ⟨rfl, _⟩ := hP
    have hT6 := hT5.tr ht6
    obtain ⟨v1, e1, e2⟩ := hT6.one (by omega)
    obtain ⟨v2, e3, e4⟩ := hT6.two (by omega)
    refine C_ret ?_
    try simp only [↓ib, ↓th]
    refine retQ rfl (Res.one results66 rfl) ⟨b2, A6, rfl, hH6, Tr.trans (Dw := False) (Tr.trans (Dw := False) ht4 ht5) ht6, ⟨(hf b2 (by simp)).1, cs.toArray, _, v1, v2, vT, q2, fun j hj n1 n2 => ?_, by simpa using e1, by simpa using e3, by simpa using hT6.top, e2, e4, Sl.tr (Dw := False) hS5 ht6⟩⟩
    simpa using hT6.nil j hj (fun e => absurd e n1) (fun e => absurd e n2)

theorem qt_once (w : World) {A : Nat → Prop} {B : Nat} (hB : B ≤ w.heap.size) (hA : ∀ b, w.heap.size ≤ b → A b) {b : Nat} {x0 x1 x2 von : Value} {L : List Ob} (hH : Hp B A w (obC b [x0, x1, x2, .nilIface, von] 69 :: L)) (hS : Sl A w von qOl) :
    Ret prog 43 #[.pointer (some ⟨b, 0, none⟩)] w fun u w' => u = .tuple #[] ∧ ∃ b2 A1, Hp B A1 w' (obC b [x0, x1, x2, .iface 123 (.pointer (some ⟨b2, 0, none⟩)), qNil] 69 :: L) ∧ Tr False B A w A1 w' ∧ Rp A1 w' b2 := by
  refine enter func43 rfl ntmps43 rfl ?_
  refine Sr (Mm (Mm ?_))
  refine V_call call66 rfl rfl rfl rfl (qt_build w hB hA hH hS) ?_
  rintro _ w1 ⟨b2, A1, rfl, hH1, ht1, hR1⟩
  refine Nc (Vy (Y_fieldAddrC (off2 := 3) underlying69 rfl sizeOf67 (by decide) rfl rfl) ?_)
  refine V_storeC (Dw := False) (off := 3) (ds := [x0, x1, x2, .iface 123 (.pointer (some ⟨b2, 0, none⟩)), von]) hH1 (i := 0) rfl sizeOf67 rfl (Nat.le_of_ble_eq_true rfl) (by intro u hu; change u ∈ [Value.iface 123 (.pointer (some ⟨b2, 0, none⟩))] at hu; rw [List.mem_singleton.1 hu]; rfl) rfl (Nat.le_trans hB ht1.ex.size) ht1.new rfl rfl ?_
  intro w2 hH2 ht2
  have ht12 := Tr.trans (Dw := False) ht1 ht2
  refine To ?_
  refine C_region (Mm (Nc (Vy (Y_fieldAddrC (off2 := 4) underlying69 rfl sizeOf22 (by decide) rfl rfl) ?_)))
  refine V_storeC (Dw := False) (off := 4) (ds := [x0, x1, x2, .iface 123 (.pointer (some ⟨b2, 0, none⟩)), qNil]) hH2 (i := 0) rfl sizeOf22 rfl (Nat.le_of_ble_eq_true rfl) (by intro u hu; change u ∈ [qNil] at hu; rw [List.mem_singleton.1 hu]; rfl) rfl (Nat.le_trans hB ht12.ex.size) ht12.new rfl rfl ?_
  intro w3 hH3 ht3
  exact V_end (fun a ha => normQ (retQ rfl (Res.zero results43) ⟨rfl, b2, A1, hH3, Tr.trans (Dw := False) ht12 ht3, (hR1.tr ht2).tr ht3⟩ a ha))

/-- a cell of an own variable, written -/
theorem Hp.setCell {B b j : Nat} {A : Nat → Prop} {w : World} {L : List Ob} {cs : List Value} {t : TypeId} (u : Value) (hH : Hp B A w (obC b cs t :: L)) (hB : B ≤ w.heap.size) (hA : ∀ b, w.heap.size ≤ b → A b) :
    Hp B A (w.setCell ⟨b, j, none⟩ u) (obC b (cs.set j u) t :: L) ∧ Tr False B A w A (w.setCell ⟨b, j, none⟩ u) := by
  obtain ⟨_, q2, _⟩ := Hp.cells hH (i := 0) rfl
  have e : w.setCell ⟨b, j, none⟩ u = w.putObj b (.cells (cs.set j u).toArray t (0, 0)) := by
    unfold World.setCell World.putObj
    congr 1
    apply Array.ext_getElem?
    intro k
    by_cases hk : k = b
    · subst hk
      have hlt := (Array.getElem?_eq_some_iff.1 q2).1
      rw [Array.getElem?_modify, if_pos rfl, q2, Array.getElem?_setIfInBounds_self_of_lt hlt]
      simp
    · rw [Array.getElem?_modify, if_neg (fun e => hk e.symm), Array.getElem?_setIfInBounds_ne (fun e => hk e.symm)]
  rw [e]
  exact Hp.put (Dw := False) (.cells (cs.set j u).toArray t (0, 0)) hH (i := 0) rfl hB hA
theorem Hp.unfrozen {B b j : Nat} {A : Nat → Prop} {w : World} {L : List Ob} {cs : List Value} {t : TypeId} (hH : Hp B A w (obC b cs t :: L)) : w.frozen? ⟨b, j, none⟩ = false := by
  obtain ⟨_, q2, _⟩ := Hp.cells hH (i := 0) rfl
  unfold World.frozen?
  rw [q2]
  simp

theorem qt_doH (w : World) {A : Nat → Prop} {B : Nat} (hB : B ≤ w.heap.size) (hA : ∀ b, w.heap.size ≤ b → A b) {b : Nat} {x2 von : Value} {L : List Ob} (hH : Hp B A w (obC b [.int .u32 0, .int .i32 0, x2, .nilIface, von] 69 :: L)) (hS : Sl A w von qOl) :
    Ret prog 42 #[.pointer (some ⟨b, 0, none⟩), .func (.func 43) #[.pointer (some ⟨b, 0, none⟩)] #[]] w fun u w' => ∃ b2 A1, Hp B A1 w' (obC b [.int .u32 1, .int .i32 0, x2, .iface 123 (.pointer (some ⟨b2, 0, none⟩)), qNil] 69 :: L) ∧ Tr False B A w A1 w' ∧ Rp A1 w' b2 := by
  obtain ⟨hH1, ht1⟩ := Hp.setCell (j := 1) (.int .i32 1) hH hB hA
  have hS1 := Sl.tr (Dw := False) hS ht1
  refine (qt_do b w (fun w' => ∃ b2 A1, Hp B A1 w' (obC b [.int .u32 0, .int .i32 1, x2, .iface 123 (.pointer (some ⟨b2, 0, none⟩)), qNil] 69 :: L) ∧ Tr False B A w A1 w' ∧ Rp A1 w' b2) (Hp.cell (j := 0) hH (i := 0) rfl rfl) (Hp.cell (j := 1) hH (i := 0) rfl rfl) (Hp.unfrozen hH) ?_ ?_).mono ?_
  · refine Calls.mono (qt_once _ (Nat.le_trans hB ht1.ex.size) ht1.new hH1 hS1) ?_
    rintro e w' ⟨_, rfl, rfl, b2, A1, h1, h2, h3⟩
    exact ⟨rfl, b2, A1, h1, Tr.trans (Dw := False) ht1 h2, h3⟩
  · rintro w' ⟨b2, A1, h1, _, _⟩
    exact ⟨Hp.cell (j := 0) h1 (i := 0) rfl rfl, Hp.cell (j := 1) h1 (i := 0) rfl rfl, Hp.unfrozen h1, Hp.unfrozen h1⟩
  · rintro e w' ⟨rfl, w1, ⟨b2, A1, h1, h2, h3⟩, rfl⟩
    have kd : Kp False w1 w1.drew := Kp.drew (Dw := False) w1
    have td := Kp.tr (Dw := False) (B := B) kd h2.new (Nat.le_trans hB h2.ex.size)
    have h4 := Hp.kp (Dw := False) h1 kd
    have t4 := Tr.trans (Dw := False) h2 td
    obtain ⟨h5, t5⟩ := Hp.setCell (j := 0) (.int .u32 1) h4 (Nat.le_trans hB t4.ex.size) t4.new
    have t45 := Tr.trans (Dw := False) t4 t5
    obtain ⟨h6, t6⟩ := Hp.setCell (j := 1) (.int .i32 0) h5 (Nat.le_trans hB t45.ex.size) t45.new
    exact ⟨_, rfl, b2, A1, h6, Tr.trans (Dw := False) t45 t6, ((h3.tr td).tr t5).tr t6⟩

theorem qt_placesR : ∀ fs, prog.underlying 69 = some (.struct fs) → ∀ w : World, (Array.mapM (fun (f : Field) => do pure (f.offset, ← Go.sizeOf f.type)) fs).run prog w = .ok #[(0, 3), (3, 1), (4, 1)] w := by
  intro fs h w
  rw [underlying69] at h
  cases h
  kernel_rfl
theorem qt_fillR (a : Option Addr) (n c : Nat) : Instr.fill (#[(0, 3), (3, 1), (4, 1)][·]?) #[.int .u32 0, .int .i32 0, .int .u32 0, .nilIface, qNil] ([2].zip [Value.slice a n c]) = some #[.int .u32 0, .int .i32 0, .int .u32 0, .nilIface, Value.slice a n c] := by
  with_unfolding_all rfl

/-- strings.NewReplacer -/
theorem qt_new (w : World) {A : Nat → Prop} {B : Nat} (hB : B ≤ w.heap.size) (hA : ∀ b, w.heap.size ≤ b → A b) {v : Value} (hS : Sl A w v qOl) {L : List Ob} (hH : Hp B A w L) :
    Ret prog 28 #[v] w fun u w' => ∃ b A1 von, u = .pointer (some ⟨b, 0, none⟩) ∧ Hp B A1 w' (obC b [.int .u32 0, .int .i32 0, .int .u32 0, .nilIface, von] 69 :: L) ∧ Sl A1 w' von qOl ∧ Tr False B A w A1 w' := by
  refine enter func28 rfl ntmps28 rfl ?_
  refine Sr (As (To ?_))
  refine C_seq (Sr (Mm (Vy (Y_lenSl hS rfl underlying22 rfl) (Vy (Y_rem (r := 0) rfl rfl rfl) (Vy (Y_eql rfl rfl) (To (C_false rfl ?_)))))))
  refine Sk ?_
  refine Sr (Mm ?_)
  refine V_appendH (Dw := False) (α := ByteArray) (e := 9) (v := qNil) (l := []) (r := qOl) (bytes := 16) (lim := 8796093022208) (Hp.addNil (α := ByteArray) (e := 9) hH) (i := 0) rfl hS (by rfl) underlying22 qt_info9 rfl rfl rfl rfl (by decide) (by decide) (by decide) hB hA rfl rfl rfl ?_
  intro v1 w1 A1 hH1 ht1
  obtain ⟨a1, c1, rfl, _⟩ := Hp.form hH1 (i := 0) rfl
  refine Vy (Y_build underlying69 zeroValue69 (qt_placesR _ underlying69) rfl (qt_fillR _ _ _)) ?_
  refine V_boxH (Dw := False) (B := B) hH1 rfl (Nat.le_trans hB ht1.ex.size) ht1.new rfl ?_
  intro b w2 A2 hH2 ht2
  have ht12 := Tr.trans (Dw := False) ht1 ht2
  obtain ⟨A3, ht3, hS3, hH3⟩ := Hp.freeze (Dw := False) (α := ByteArray) (v := .slice a1 qOl.length c1) (l := qOl) hH2 (i := 1) rfl ht12.new
  refine As (To ?_)
  refine C_ret ?_
  try simp only [↓ib, ↓th]
  exact retQ rfl (Res.one results28 rfl) ⟨b, A3, _, rfl, hH3, hS3, Tr.trans (Dw := False) ht12 ht3⟩

section
variable {P : Program} {n : Fr} {ops : Array Oper} {Q : Exit → Act → World → Prop} {rest : List Oper} {E : Env} {w : World} {d : Nat} {ty : TypeId} {pos : String} {af : Array Edge}
/-- a call through an interface value -/
theorem V_invoke {f : FuncId} {recv : Operand} {name : String} {args : Array Operand} {ats : Array TypeId} {vs : List Value} {t : TypeId} {v0 : Value} {R : Value → World → Prop}
    (hcm : ∀ (args : Array Value) (w : World), (callMethod (.iface t v0) name args).run P w = .ok (.enter f (#[v0] ++ args)) w)
    (hx : ev E recv = some (.iface t v0)) (hv : evs E args.toList = some vs) (hn : Nat.blt d n.sz = true)
    (hc : Ret P f (#[v0] ++ vs.toArray) w R) (h : ∀ v w', R v w' → V P n ops Q rest ((d, v) :: E) w') : V P n ops Q (⟨some d, .call ⟨.invoke recv name, args, ats⟩, ty, pos, af, none⟩ :: rest) E w := by
  intro a ha
  refine wpListIn_plain rfl fun K hK => ⟨fun _ _ => trivial, ?_⟩
  have hx' := ha.eval hx
  have h1 : args.map a.eval = vs.toArray := by
    have := ha.evals hv
    apply Array.toList_inj.1
    rw [Array.toList_map, this]
  have he : (execOp a.eval ⟨some d, .call ⟨.invoke recv name, args, ats⟩, ty, pos, af, none⟩).run P w = .ok (.enter f (#[v0] ++ vs.toArray)) w := by
    simp only [execOp, resolve, h1, hx', pure_bind, invoke]
    have e2 : (#[Value.iface t v0] ++ vs.toArray)[0]? = some (.iface t v0) := by simp
    have e3 : (#[Value.iface t v0] ++ vs.toArray).extract 1 (#[Value.iface t v0] ++ vs.toArray).size = vs.toArray := by
      apply Array.toList_inj.1
      simp
    rw [e2, e3]
    exact hcm _ _
  rw [semAt_run he (fun d h => by cases h), Oper.uponIn_enter]
  refine ⟨FR_depth _, callsFR (Calls.mono hc ?_)⟩
  rintro e w' ⟨v, rfl, hR⟩
  exact hK _ _ (h v w' hR _ (ha.put hn))
end
theorem qt_method (b2 : Nat) (args : Array Value) (w : World) : (callMethod (.iface 123 (.pointer (some ⟨b2, 0, none⟩))) "Replace" args).run prog w = .ok (.enter 164 (#[.pointer (some ⟨b2, 0, none⟩)] ++ args)) w := by
  kernel_rfl

/-- (*Replacer).Replace -/
theorem qt_repl (w : World) {A : Nat → Prop} {B : Nat} (hB : B ≤ w.heap.size) (hA : ∀ b, w.heap.size ≤ b → A b) {b : Nat} {x2 von : Value} {L : List Ob} (hH : Hp B A w (obC b [.int .u32 0, .int .i32 0, x2, .nilIface, von] 69 :: L)) (hS : Sl A w von qOl) (s : ByteArray) (hs : s.size ≤ 2000000) :
    Ret prog 29 #[.pointer (some ⟨b, 0, none⟩), .string s] w fun u w' => u = .string ⟨(s.data.toList.flatMap escB).toArray⟩ ∧ ∃ A1, Tr False B A w A1 w' := by
  refine enter func29 rfl ntmps29 rfl ?_
  refine Sr (As (To ?_))
  refine Sr (Mm (Nc (Vy (Y_fieldAddrC (off2 := 0) underlying69 rfl sizeOf65 (by decide) rfl rfl) (Mm (Vy (Y_makeFunc (vs := [.pointer (some ⟨b, 0, none⟩)]) (us := []) rfl rfl) ?_)))))
  refine V_call call42 rfl rfl rfl rfl (qt_doH w hB hA hH hS) ?_
  rintro _ w1 ⟨b2, A1, hH1, ht1, hR1⟩
  refine To ?_
  refine Sr (Mm (Nc (Vy (Y_fieldAddrC (off2 := 3) underlying69 rfl sizeOf67 (by decide) rfl rfl) (Ld (Hp.cell (j := 3) hH1 (i := 0) rfl rfl) isAgg67 (Mm ?_)))))
  refine V_invoke (qt_method b2) rfl rfl rfl (qt_replace w1 ht1.new hR1 s hs) ?_
  rintro _ w2 ⟨rfl, hk2⟩
  refine As (To ?_)
  refine C_ret ?_
  try simp only [↓ib, ↓th]
  exact retQ rfl (Res.one results29 rfl) ⟨rfl, A1, Tr.trans (Dw := False) ht1 (Kp.tr (Dw := False) hk2 ht1.new (Nat.le_trans hB ht1.ex.size))⟩

theorem qt_repOl {A : Nat → Prop} {w : World} : repL A w [Value.string ⟨#[123]⟩, .string ⟨#[92, 123]⟩, .string ⟨#[92]⟩, .string ⟨#[92, 92]⟩] qOl :=
  ⟨[_], _, rfl, rfl, [_], _, rfl, rfl, [_], _, rfl, rfl, [_], _, rfl, rfl, rfl⟩

theorem know_Quote_c (w : World) {A : Nat → Prop} (hA : ∀ b, w.heap.size ≤ b → A b) (s : ByteArray) {r : ByteArray} (hm : know_Quote s = some r) : Ret prog 13 #[.string s] w fun v w' => v = .string r ∧ Kp False w w' := by
  unfold know_Quote quoteL at hm
  split at hm
  case isFalse => cases hm
  rename_i hs
  obtain rfl := Option.some.inj hm
  refine enter func13 rfl ntmps13 rfl ?_
  refine Sr (As (To ?_))
  refine Sr ?_
  refine V_buildSlice (Dw := False) (cells := #[.string ⟨#[123]⟩, .string ⟨#[92, 123]⟩, .string ⟨#[92]⟩, .string ⟨#[92, 92]⟩]) (l := qOl) (len := 4) underlying22 sizeOf9 zeroValue9 rfl (by with_unfolding_all rfl) (show (4 * 1 : Nat) ≠ 0 by decide) (show (4 * 1 : Nat) ≤ 2 ^ 24 by decide) hA qt_repOl rfl rfl ?_
  intro v w1 hk1 h1
  have ht1 := Kp.tr (Dw := False) (B := w.heap.size) hk1 hA (Nat.le_refl _)
  refine V_call call28 rfl rfl rfl rfl (qt_new w1 ht1.ex.size ht1.new h1 (Hp.nil (B := w.heap.size))) ?_
  rintro _ w2 ⟨b, A2, von, rfl, hH2, hS2, ht2⟩
  have ht12 := Tr.trans (Dw := False) ht1 ht2
  refine Mm ?_
  refine V_call call29 rfl rfl rfl rfl (qt_repl w2 ht12.ex.size ht12.new hH2 hS2 s hs) ?_
  rintro _ w3 ⟨rfl, A3, ht3⟩
  refine As (To ?_)
  refine C_ret ?_
  try simp only [↓ib, ↓th]
  exact retQ rfl (Res.one results13 rfl) ⟨rfl, (Tr.trans (Dw := False) ht12 ht3).kp⟩

theorem portref2_QuoteOf_c (w : World) {A : Nat → Prop} (hA : ∀ b, w.heap.size ≤ b → A b) (s : ByteArray) {r : ByteArray} (hm : portref2_QuoteOf s = some r) : Ret prog 14 #[.string s] w fun v w' => v = .string r ∧ Kp False w w' := by
  unfold portref2_QuoteOf quoteL at hm
  split at hm
  case isFalse => cases hm
  rename_i hs
  obtain rfl := Option.some.inj hm
  refine enter func14 rfl ntmps14 rfl ?_
  refine Sr (As (To ?_))
  refine Sr ?_
  refine V_buildSlice (Dw := False) (cells := #[.string ⟨#[123]⟩, .string ⟨#[92, 123]⟩, .string ⟨#[92]⟩, .string ⟨#[92, 92]⟩]) (l := qOl) (len := 4) underlying22 sizeOf9 zeroValue9 rfl (by with_unfolding_all rfl) (show (4 * 1 : Nat) ≠ 0 by decide) (show (4 * 1 : Nat) ≤ 2 ^ 24 by decide) hA qt_repOl rfl rfl ?_
  intro v w1 hk1 h1
  have ht1 := Kp.tr (Dw := False) (B := w.heap.size) hk1 hA (Nat.le_refl _)
  refine V_call call28 rfl rfl rfl rfl (qt_new w1 ht1.ex.size ht1.new h1 (Hp.nil (B := w.heap.size))) ?_
  rintro _ w2 ⟨b, A2, von, rfl, hH2, hS2, ht2⟩
  have ht12 := Tr.trans (Dw := False) ht1 ht2
  refine Mm ?_
  refine V_call call29 rfl rfl rfl rfl (qt_repl w2 ht12.ex.size ht12.new hH2 hS2 s hs) ?_
  rintro _ w3 ⟨rfl, A3, ht3⟩
  refine As (To ?_)
  refine C_ret ?_
  try simp only [↓ib, ↓th]
  exact retQ rfl (Res.one results14 rfl) ⟨rfl, (Tr.trans (Dw := False) ht12 ht3).kp⟩

end Go.Proofs.YtebhdihfjeiadaaGreatDoor.W
