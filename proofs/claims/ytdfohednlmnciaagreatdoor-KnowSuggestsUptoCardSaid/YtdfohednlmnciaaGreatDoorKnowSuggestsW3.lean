/-
  Written by program (gen.py) from the IR of the dump: each function computes its model.
-/
import Derived.Test.YtdfohednlmnciaaGreatDoorKnowSuggestsW2
namespace Go.Proofs.YtdfohednlmnciaaGreatDoor.W
open Go Go.RowKit Go.Pu Go.Gw Go.Proofs Go.Proofs.YtdfohednlmnciaaGreatDoor.M
set_option linter.unusedVariables false
set_option linter.unusedSimpArgs false
variable {Dw : Prop}

def Tryz_strings_Trim_lay_ren : Go.Shelf.Ren := ⟨fun | 119 => 108 | 120 => 105 | 137 => 107 | 151 => 97 | 152 => 104 | 160 => 47 | 197 => 96 | 217 => 111 | 224 => 109 | 225 => 110 | 227 => 73 | 228 => 95 | 231 => 71 | 232 => 72 | 233 => 74 | 234 => 75 | 235 => 76 | 236 => 77 | 260 => 103 | 266 => 112 | 271 => 98 | n => n, fun | 0 => 0 | 1 => 1 | 2 => 2 | 3 => 3 | 4 => 4 | 5 => 5 | 6 => 6 | 7 => 7 | 8 => 8 | 9 => 9 | 10 => 10 | 11 => 11 | 12 => 12 | 13 => 13 | 14 => 14 | 15 => 15 | 16 => 16 | 17 => 17 | 18 => 18 | 19 => 19 | 20 => 20 | 21 => 21 | 22 => 63 | 23 => 79 | 27 => 59 | 28 => 22 | 29 => 53 | 30 => 73 | 31 => 37 | 37 => 85 | 40 => 133 | 41 => 65 | 43 => 46 | 46 => 68 | 47 => 67 | 51 => 94 | 52 => 93 | 53 => 96 | 54 => 95 | 55 => 132 | 63 => 120 | 64 => 126 | 68 => 38 | 69 => 56 | 80 => 135 | 81 => 141 | 104 => 80 | 105 => 118 | 106 => 119 | 111 => 69 | 112 => 105 | 114 => 134 | 115 => 99 | 116 => 100 | 117 => 101 | 118 => 102 | 119 => 128 | 122 => 98 | 123 => 103 | 124 => 104 | 127 => 145 | 131 => 70 | 137 => 129 | 138 => 130 | 139 => 131 | 164 => 151 | 182 => 87 | 183 => 88 | 218 => 107 | 219 => 108 | 220 => 109 | 222 => 111 | 228 => 121 | 229 => 122 | 238 => 136 | 239 => 137 | 240 => 138 | 241 => 139 | 242 => 140 | 243 => 142 | 244 => 143 | 245 => 144 | 246 => 146 | 247 => 147 | 248 => 148 | 249 => 149 | n => n, fun | 1 => 0 | 3 => 1 | 4 => 2 | n => n⟩
theorem Tryz_strings_Trim_lay : Go.Proofs.Lays.n160 Tryz.prog Tryz_strings_Trim_lay_ren := {
  mixed := by kernel_rfl,
  f119 := Tryz.func108.trans (congrArg some (by kernel_rfl)),
  f120 := Tryz.func105.trans (congrArg some (by kernel_rfl)),
  f137 := Tryz.func107.trans (congrArg some (by kernel_rfl)),
  f151 := Tryz.func97.trans (congrArg some (by kernel_rfl)),
  f152 := Tryz.func104.trans (congrArg some (by kernel_rfl)),
  f160 := Tryz.func47.trans (congrArg some (by kernel_rfl)),
  f197 := Tryz.func96.trans (congrArg some (by kernel_rfl)),
  f217 := Tryz.func111.trans (congrArg some (by kernel_rfl)),
  f224 := Tryz.func109.trans (congrArg some (by kernel_rfl)),
  f225 := Tryz.func110.trans (congrArg some (by kernel_rfl)),
  f227 := Tryz.func73.trans (congrArg some (by kernel_rfl)),
  f228 := Tryz.func95.trans (congrArg some (by kernel_rfl)),
  f231 := Tryz.func71.trans (congrArg some (by kernel_rfl)),
  f232 := Tryz.func72.trans (congrArg some (by kernel_rfl)),
  f233 := Tryz.func74.trans (congrArg some (by kernel_rfl)),
  f234 := Tryz.func75.trans (congrArg some (by kernel_rfl)),
  f235 := Tryz.func76.trans (congrArg some (by kernel_rfl)),
  f236 := Tryz.func77.trans (congrArg some (by kernel_rfl)),
  f260 := Tryz.func103.trans (congrArg some (by kernel_rfl)),
  f266 := Tryz.func112.trans (congrArg some (by kernel_rfl)),
  f271 := Tryz.func98.trans (congrArg some (by kernel_rfl)),
  t0 := Tryz.underlying0,
  a0 := Tryz.isAgg0,
  z0 := Tryz.sizeOf0,
  v0 := Tryz.zeroValue0,
  t3 := Tryz.underlying3,
  a3 := Tryz.isAgg3,
  z3 := Tryz.sizeOf3,
  v3 := Tryz.zeroValue3,
  t4 := Tryz.underlying4,
  a4 := Tryz.isAgg4,
  z4 := Tryz.sizeOf4,
  v4 := Tryz.zeroValue4,
  t5 := Tryz.underlying5,
  a5 := Tryz.isAgg5,
  z5 := Tryz.sizeOf5,
  v5 := Tryz.zeroValue5,
  t9 := Tryz.underlying9,
  a9 := Tryz.isAgg9,
  z9 := Tryz.sizeOf9,
  v9 := Tryz.zeroValue9,
  t21 := Tryz.underlying21,
  a21 := Tryz.isAgg21,
  z21 := Tryz.sizeOf21,
  v21 := Tryz.zeroValue21,
  t46 := Tryz.underlying68,
  a46 := Tryz.isAgg68,
  z46 := Tryz.sizeOf68,
  v46 := Tryz.zeroValue68,
  t105 := Tryz.underlying118,
  a105 := Tryz.isAgg118,
  z105 := Tryz.sizeOf118,
  v105 := Tryz.zeroValue118,
  t116 := Tryz.underlying100,
  a116 := Tryz.isAgg100,
  z116 := Tryz.sizeOf100,
  t117 := Tryz.underlying101,
  a117 := Tryz.isAgg101,
  z117 := Tryz.sizeOf101,
  v117 := Tryz.zeroValue101,
  t119 := Tryz.underlying128,
  a119 := Tryz.isAgg128,
  z119 := Tryz.sizeOf128,
  t124 := Tryz.underlying104,
  a124 := Tryz.isAgg104,
  z124 := Tryz.sizeOf104,
  v124 := Tryz.zeroValue104,
  t138 := Tryz.underlying130,
  a138 := Tryz.isAgg130,
  z138 := Tryz.sizeOf130,
  v138 := Tryz.zeroValue130,
  t139 := Tryz.underlying131,
  a139 := Tryz.isAgg131,
  z139 := Tryz.sizeOf131,
  v139 := Tryz.zeroValue131,
  g3 := by kernel_rfl,
  g4 := by kernel_rfl }
theorem strings_Trim_c (w : World) {A : Nat → Prop} (hA : ∀ b, w.heap.size ≤ b → A b) (s : ByteArray) (cutset : ByteArray) {r : ByteArray} (hm : strings_Trim s cutset = some r) : Ret Tryz.prog 47 #[.string s, .string cutset] w fun v w' => v = .string r ∧ Kp False w w' := by
  unfold strings_Trim at hm
  split at hm
  case isFalse => cases hm
  rename_i h
  obtain rfl := Option.some.inj hm
  refine Calls.mono (Go.Proofs.Any.strings_Trim_laid Tryz_strings_Trim_lay (by kernel_rfl) s cutset w h.1 h.2.1 (Go.Proofs.ascii_of_all h.2.2)) ?_
  rintro _ w' ⟨rfl, hk⟩
  exact ⟨_, rfl, rfl, .of hk⟩

set_option maxRecDepth 4000 in
set_option maxHeartbeats 4000000 in
theorem portref2_StemOf_1_c (w : World) {A : Nat → Prop} (s : ByteArray) (p1 : ByteArray) (b_p1 : Nat) (h_p1 : El A w b_p1 0 p1) {r : Bool} (hm : portref2_StemOf_1 s p1 = some r) : Ret Tryz.prog 48 #[.string s, .pointer (some ⟨b_p1, 0, none⟩)] w fun v w' => v = .bool r ∧ w = w' := by
  unfold portref2_StemOf_1 at hm
  refine enter Tryz.func48 rfl Tryz.ntmps48 rfl ?_
  refine C_seq ?_
  refine C_region ?_
  refine V_y (Y_assign rfl) rfl rfl rfl ?_
  refine V_to (fun _ _ => rfl) ?_
  refine C_seq ?_
  refine C_region ?_
  refine V_y (Y_load (El.str h_p1) Tryz.isAgg9 rfl) rfl rfl rfl ?_
  refine V_y (Y_move rfl) rfl rfl rfl ?_
  obtain ⟨x1, hx1, hm⟩ := Option.bind_eq_some_iff.1 hm
  refine V_call Tryz.call49 rfl rfl rfl rfl (strings_HasSuffix_c w p1 s hx1) ?_
  rintro _ _ ⟨rfl, rfl⟩
  refine V_y (Y_assign rfl) rfl rfl rfl ?_
  refine V_to (fun _ _ => rfl) ?_
  obtain rfl := Option.some.inj hm
  refine C_ret ?_
  try simp only [↓inBlock_ret, ↓then_ret]
  exact retQ rfl (Res.one Tryz.results48 rfl) ⟨rfl, rfl⟩

set_option maxRecDepth 4000 in
set_option maxHeartbeats 4000000 in
theorem portref2_StemOf_c (w : World) {A : Nat → Prop} (hA : ∀ b, w.heap.size ≤ b → A b) (w_ : ByteArray) {r : ByteArray} (hm : portref2_StemOf w_ = some r) : Ret Tryz.prog 22 #[.string w_] w fun v w' => v = .string r ∧ Kp False w w' := by
  unfold portref2_StemOf at hm
  refine enter Tryz.func22 rfl Tryz.ntmps22 rfl ?_
  have hA0 := hA
  have hB := Nat.le_refl w.heap.size
  have hK : Tr False w.heap.size A w A w := Tr.refl (Dw := False) hA
  have hH : Hp w.heap.size A w [] := Hp.nil
  refine C_seq ?_
  refine C_region ?_
  refine V_box rfl rfl ?_
  intro b1 w2 h3
  have hk5 := h3.kp (Dw := False)
  have h4 : El (α := ByteArray) A w2 b1 0 w_ := h3.el hA rfl
  have ht6 := Kp.tr (Dw := False) hk5 hA hB
  replace hH := Hp.kp (Dw := False) hH hk5
  replace hK := Tr.trans (Dw := False) hK ht6
  replace hB := Nat.le_trans hB ht6.ex.size
  replace hA := ht6.new
  refine V_y (Y_assign rfl) rfl rfl rfl ?_
  refine V_to (fun _ _ => rfl) ?_
  refine C_seq ?_
  refine C_region ?_
  refine V_y (Y_load (El.str h4) Tryz.isAgg9 rfl) rfl rfl rfl ?_
  refine V_y (Y_lenStr rfl Tryz.underlying9 rfl) rfl rfl rfl ?_
  refine V_y (Y_assign rfl) rfl rfl rfl ?_
  refine V_to (fun _ _ => rfl) ?_
  refine C_seq ?_
  refine C_seq ?_
  obtain ⟨s8, ho7, hm⟩ := Option.bind_eq_some_iff.1 hm
  refine C_cutG (ι := (Nat → Prop)) (fun (A13 : (Nat → Prop)) => [(1, .pointer (some ⟨b1, 0, none⟩)), (3, .int .i64 (w_.size : Int)), (13, .bool s8)]) (fun (A13 : (Nat → Prop)) => fun w' => Hp w.heap.size A13 w' ([]) ∧ Tr False w.heap.size A w2 A13 w') ?_ ?_
  · have hr9 : Tr False w.heap.size A w2 A w2 := Tr.refl (Dw := False) hA
    refine C_region ?_
    refine V_y (Y_move rfl) rfl rfl rfl ?_
    refine V_y (Y_lss rfl rfl) rfl rfl rfl ?_
    refine V_y (Y_move rfl) rfl rfl rfl ?_
    rcases Bool.eq_false_or_eq_true (decide ((w_.size : Int) < 4)) with hc15 | hc15
    · rw [if_pos hc15] at ho7
      refine V_gn rfl rfl rfl hc15 rfl rfl rfl ?_
      refine V_gn rfl rfl rfl hc15 rfl rfl rfl ?_
      refine V_gn rfl rfl rfl hc15 rfl rfl rfl ?_
      refine V_y (Y_pick_te rfl hc15 rfl) rfl rfl rfl ?_
      obtain rfl := Option.some.inj ho7
      refine V_end (fun a ha16 => ?_)
      exact ⟨A, ha16.sub ⟨rfl, rfl, rfl, trivial⟩, ⟨hH, hr9⟩⟩
    · rw [if_neg (nt hc15)] at ho7
      refine V_ge rfl rfl rfl hc15 ?_
      refine V_y (Y_load (El.str h4) Tryz.isAgg9 rfl) rfl rfl rfl ?_
      refine V_ge rfl rfl rfl hc15 ?_
      obtain ⟨x17, hx17, ho7⟩ := Option.bind_eq_some_iff.1 ho7
      refine V_call Tryz.call47 rfl rfl rfl rfl (strings_Trim_c w2 hA w_ (⟨#[97, 98, 99, 100, 101, 102, 103, 104, 105, 106, 107, 108, 109, 110, 111, 112, 113, 114, 115, 116, 117, 118, 119, 120, 121, 122]⟩ : ByteArray) hx17) ?_
      rintro _ w18 ⟨rfl, hk19⟩
      have ht20 := Kp.tr (Dw := False) hk19 hA hB
      replace hH := Hp.kp (Dw := False) hH hk19
      replace h4 := El.tr (Dw := False) h4 ht20
      replace hK := Tr.trans (Dw := False) hK ht20
      replace hr9 := Tr.trans (Dw := False) hr9 ht20
      replace hB := Nat.le_trans hB ht20.ex.size
      replace hA := ht20.new
      refine V_ge rfl rfl rfl hc15 ?_
      refine V_y (Y_sneq rfl rfl) rfl rfl rfl ?_
      refine V_y (Y_pick_fe rfl hc15 rfl) rfl rfl rfl ?_
      obtain rfl := Option.some.inj ho7
      refine V_end (fun a ha21 => ?_)
      exact ⟨A, ha21.sub ⟨rfl, rfl, rfl, trivial⟩, ⟨hH, hr9⟩⟩
  rintro A13 w10 ⟨hH14, hk11⟩ a ha12
  replace h4 := El.tr (Dw := False) h4 hk11
  replace hK := Tr.trans (Dw := False) hK hk11
  replace hB := Nat.le_trans hB hk11.ex.size
  replace hA := hk11.new
  replace hH : Hp w.heap.size A13 w10 ([]) := hH14
  refine C_at (n := ⟨65, [], none⟩) (fun _ _ => rfl) ?_ ha12
  refine C_cond rfl (fun hc22 => ?_) (fun hc22 => ?_)
  · rw [if_pos hc22] at hm
    refine C_seq ?_
    refine C_region ?_
    refine V_y (Y_load (El.str h4) Tryz.isAgg9 rfl) rfl rfl rfl ?_
    refine V_y (Y_assign rfl) rfl rfl rfl ?_
    refine V_to (fun _ _ => rfl) ?_
    obtain rfl := Option.some.inj hm
    refine C_ret ?_
    try simp only [↓inBlock_ret, ↓then_ret]
    exact retQ rfl (Res.one Tryz.results22 rfl) ⟨rfl, hK.kp⟩
  · rw [if_neg (nt hc22)] at hm
    refine C_skip_to (fun _ _ => rfl) ?_
    refine C_seq ?_
    refine C_region ?_
    refine V_y (Y_makeFunc rfl rfl) rfl rfl rfl ?_
    refine V_y (Y_assign rfl) rfl rfl rfl ?_
    refine V_to (fun _ _ => rfl) ?_
    refine C_seq ?_
    refine C_block ?_
    refine C_seq ?_
    refine C_region ?_
    refine V_y (Y_move rfl) rfl rfl rfl ?_
    obtain ⟨x23, hx23, hm⟩ := Option.bind_eq_some_iff.1 hm
    refine V_call Tryz.call48 rfl rfl rfl rfl (portref2_StemOf_1_c w10 (⟨#[105, 101, 115]⟩ : ByteArray) w_ b1 h4 hx23) ?_
    rintro _ _ ⟨rfl, rfl⟩
    refine V_y (Y_assign rfl) rfl rfl rfl ?_
    refine V_to (fun _ _ => rfl) ?_
    refine C_cond rfl (fun hc24 => ?_) (fun hc24 => ?_)
    · rw [if_pos hc24] at hm
      refine C_seq ?_
      refine C_region ?_
      refine V_y (Y_load (El.str h4) Tryz.isAgg9 rfl) rfl rfl rfl ?_
      refine V_y (Y_move rfl) rfl rfl rfl ?_
      refine V_y (Y_subI rfl rfl) rfl rfl rfl ?_
      obtain ⟨x25, hx25, hm⟩ := Option.bind_eq_some_iff.1 hm
      refine V_y (Y_sliceSH hx25 Tryz.underlying9 rfl rfl) rfl rfl rfl ?_
      obtain ⟨x26, hx26, hm⟩ := Option.bind_eq_some_iff.1 hm
      refine V_y (Y_sadd hx26 rfl rfl) rfl rfl rfl ?_
      refine V_y (Y_assign rfl) rfl rfl rfl ?_
      refine V_to (fun _ _ => rfl) ?_
      obtain rfl := Option.some.inj hm
      refine C_ret ?_
      try simp only [↓inBlock_ret, ↓then_ret]
      exact retQ rfl (Res.one Tryz.results22 rfl) ⟨rfl, hK.kp⟩
    · rw [if_neg (nt hc24)] at hm
      refine C_seq ?_
      refine C_region ?_
      refine V_y (Y_move rfl) rfl rfl rfl ?_
      obtain ⟨x27, hx27, hm⟩ := Option.bind_eq_some_iff.1 hm
      refine V_call Tryz.call48 rfl rfl rfl rfl (portref2_StemOf_1_c w10 (⟨#[115, 115, 101, 115]⟩ : ByteArray) w_ b1 h4 hx27) ?_
      rintro _ _ ⟨rfl, rfl⟩
      refine V_y (Y_assign rfl) rfl rfl rfl ?_
      refine V_to (fun _ _ => rfl) ?_
      refine C_cond rfl (fun hc28 => ?_) (fun hc28 => ?_)
      · rw [if_pos hc28] at hm
        refine C_seq ?_
        refine C_region ?_
        refine V_y (Y_load (El.str h4) Tryz.isAgg9 rfl) rfl rfl rfl ?_
        refine V_y (Y_move rfl) rfl rfl rfl ?_
        refine V_y (Y_subI rfl rfl) rfl rfl rfl ?_
        obtain ⟨x29, hx29, hm⟩ := Option.bind_eq_some_iff.1 hm
        refine V_y (Y_sliceSH hx29 Tryz.underlying9 rfl rfl) rfl rfl rfl ?_
        refine V_y (Y_assign rfl) rfl rfl rfl ?_
        refine V_to (fun _ _ => rfl) ?_
        obtain rfl := Option.some.inj hm
        refine C_ret ?_
        try simp only [↓inBlock_ret, ↓then_ret]
        exact retQ rfl (Res.one Tryz.results22 rfl) ⟨rfl, hK.kp⟩
      · rw [if_neg (nt hc28)] at hm
        refine C_seq ?_
        refine C_region ?_
        refine V_y (Y_move rfl) rfl rfl rfl ?_
        obtain ⟨x30, hx30, hm⟩ := Option.bind_eq_some_iff.1 hm
        refine V_call Tryz.call48 rfl rfl rfl rfl (portref2_StemOf_1_c w10 (⟨#[115, 115]⟩ : ByteArray) w_ b1 h4 hx30) ?_
        rintro _ _ ⟨rfl, rfl⟩
        refine V_y (Y_assign rfl) rfl rfl rfl ?_
        refine V_to (fun _ _ => rfl) ?_
        refine C_cond rfl (fun hc31 => ?_) (fun hc31 => ?_)
        · rw [if_pos hc31] at hm
          refine C_seq ?_
          refine C_region ?_
          refine V_y (Y_load (El.str h4) Tryz.isAgg9 rfl) rfl rfl rfl ?_
          refine V_y (Y_assign rfl) rfl rfl rfl ?_
          refine V_to (fun _ _ => rfl) ?_
          obtain rfl := Option.some.inj hm
          refine C_ret ?_
          try simp only [↓inBlock_ret, ↓then_ret]
          exact retQ rfl (Res.one Tryz.results22 rfl) ⟨rfl, hK.kp⟩
        · rw [if_neg (nt hc31)] at hm
          refine C_seq ?_
          refine C_region ?_
          refine V_y (Y_move rfl) rfl rfl rfl ?_
          obtain ⟨x32, hx32, hm⟩ := Option.bind_eq_some_iff.1 hm
          refine V_call Tryz.call48 rfl rfl rfl rfl (portref2_StemOf_1_c w10 (⟨#[115]⟩ : ByteArray) w_ b1 h4 hx32) ?_
          rintro _ _ ⟨rfl, rfl⟩
          refine V_y (Y_assign rfl) rfl rfl rfl ?_
          refine V_to (fun _ _ => rfl) ?_
          refine C_cond rfl (fun hc33 => ?_) (fun hc33 => ?_)
          · rw [if_pos hc33] at hm
            refine C_seq ?_
            refine C_region ?_
            refine V_y (Y_load (El.str h4) Tryz.isAgg9 rfl) rfl rfl rfl ?_
            refine V_y (Y_move rfl) rfl rfl rfl ?_
            refine V_y (Y_subI rfl rfl) rfl rfl rfl ?_
            obtain ⟨x34, hx34, hm⟩ := Option.bind_eq_some_iff.1 hm
            refine V_y (Y_sliceSH hx34 Tryz.underlying9 rfl rfl) rfl rfl rfl ?_
            refine V_y (Y_assign rfl) rfl rfl rfl ?_
            refine V_to (fun _ _ => rfl) ?_
            obtain rfl := Option.some.inj hm
            refine C_ret ?_
            try simp only [↓inBlock_ret, ↓then_ret]
            exact retQ rfl (Res.one Tryz.results22 rfl) ⟨rfl, hK.kp⟩
          · rw [if_neg (nt hc33)] at hm
            refine C_seq ?_
            refine C_region ?_
            refine V_y (Y_move rfl) rfl rfl rfl ?_
            obtain ⟨x35, hx35, hm⟩ := Option.bind_eq_some_iff.1 hm
            refine V_call Tryz.call48 rfl rfl rfl rfl (portref2_StemOf_1_c w10 (⟨#[105, 110, 103]⟩ : ByteArray) w_ b1 h4 hx35) ?_
            rintro _ _ ⟨rfl, rfl⟩
            refine V_y (Y_move rfl) rfl rfl rfl ?_
            refine V_cut 3 (fun _ : Unit => [(1, .pointer (some ⟨b1, 0, none⟩)), (3, .int .i64 (w_.size : Int)), (4, .func (.func 48) #[] #[.pointer (some ⟨b1, 0, none⟩)]), (48, .bool (x35 && (decide ((6 : Int) ≤ (w_.size : Int)))))]) (fun _ w' => w10 = w') ?_ ?_
            · simp only [List.take, List.drop]
              rcases Bool.eq_false_or_eq_true (x35) with hc36 | hc36
              · refine V_ge rfl rfl rfl hc36 ?_
                refine V_y (Y_move rfl) rfl rfl rfl ?_
                refine V_ge rfl rfl rfl hc36 ?_
                refine V_y (Y_geq rfl rfl) rfl rfl rfl ?_
                refine V_y (Y_pick_te rfl hc36 rfl) rfl rfl rfl ?_
                exact V_end fun a ha => ⟨(), ha.sub ⟨rfl, rfl, rfl, (by rw [hc36]; rfl), trivial⟩, rfl⟩
              · refine V_gn rfl rfl rfl hc36 rfl rfl rfl ?_
                refine V_gn rfl rfl rfl hc36 rfl rfl rfl ?_
                refine V_y (Y_pick_fe rfl hc36 rfl) rfl rfl rfl ?_
                exact V_end fun a ha => ⟨(), ha.sub ⟨rfl, rfl, rfl, (by rw [hc36]; rfl), trivial⟩, rfl⟩
            simp only [List.take, List.drop]
            rintro _ _ rfl
            refine V_y (Y_assign rfl) rfl rfl rfl ?_
            refine V_to (fun _ _ => rfl) ?_
            refine C_cond rfl (fun hc38 => ?_) (fun hc38 => ?_)
            · rw [if_pos hc38] at hm
              refine C_seq ?_
              refine C_region ?_
              refine V_y (Y_load (El.str h4) Tryz.isAgg9 rfl) rfl rfl rfl ?_
              refine V_y (Y_move rfl) rfl rfl rfl ?_
              refine V_y (Y_subI rfl rfl) rfl rfl rfl ?_
              obtain ⟨x39, hx39, hm⟩ := Option.bind_eq_some_iff.1 hm
              refine V_y (Y_sliceSH hx39 Tryz.underlying9 rfl rfl) rfl rfl rfl ?_
              refine V_y (Y_assign rfl) rfl rfl rfl ?_
              refine V_to (fun _ _ => rfl) ?_
              obtain rfl := Option.some.inj hm
              refine C_ret ?_
              try simp only [↓inBlock_ret, ↓then_ret]
              exact retQ rfl (Res.one Tryz.results22 rfl) ⟨rfl, hK.kp⟩
            · rw [if_neg (nt hc38)] at hm
              refine C_seq ?_
              refine C_region ?_
              refine V_y (Y_move rfl) rfl rfl rfl ?_
              obtain ⟨x40, hx40, hm⟩ := Option.bind_eq_some_iff.1 hm
              refine V_call Tryz.call48 rfl rfl rfl rfl (portref2_StemOf_1_c w10 (⟨#[101, 100]⟩ : ByteArray) w_ b1 h4 hx40) ?_
              rintro _ _ ⟨rfl, rfl⟩
              refine V_y (Y_move rfl) rfl rfl rfl ?_
              refine V_cut 3 (fun _ : Unit => [(1, .pointer (some ⟨b1, 0, none⟩)), (3, .int .i64 (w_.size : Int)), (59, .bool (x40 && (decide ((5 : Int) ≤ (w_.size : Int)))))]) (fun _ w' => w10 = w') ?_ ?_
              · simp only [List.take, List.drop]
                rcases Bool.eq_false_or_eq_true (x40) with hc41 | hc41
                · refine V_ge rfl rfl rfl hc41 ?_
                  refine V_y (Y_move rfl) rfl rfl rfl ?_
                  refine V_ge rfl rfl rfl hc41 ?_
                  refine V_y (Y_geq rfl rfl) rfl rfl rfl ?_
                  refine V_y (Y_pick_te rfl hc41 rfl) rfl rfl rfl ?_
                  exact V_end fun a ha => ⟨(), ha.sub ⟨rfl, rfl, (by rw [hc41]; rfl), trivial⟩, rfl⟩
                · refine V_gn rfl rfl rfl hc41 rfl rfl rfl ?_
                  refine V_gn rfl rfl rfl hc41 rfl rfl rfl ?_
                  refine V_y (Y_pick_fe rfl hc41 rfl) rfl rfl rfl ?_
                  exact V_end fun a ha => ⟨(), ha.sub ⟨rfl, rfl, (by rw [hc41]; rfl), trivial⟩, rfl⟩
              simp only [List.take, List.drop]
              rintro _ _ rfl
              refine V_y (Y_assign rfl) rfl rfl rfl ?_
              refine V_to (fun _ _ => rfl) ?_
              refine C_cond rfl (fun hc43 => ?_) (fun hc43 => ?_)
              · rw [if_pos hc43] at hm
                refine C_seq ?_
                refine C_region ?_
                refine V_y (Y_load (El.str h4) Tryz.isAgg9 rfl) rfl rfl rfl ?_
                refine V_y (Y_move rfl) rfl rfl rfl ?_
                refine V_y (Y_subI rfl rfl) rfl rfl rfl ?_
                obtain ⟨x44, hx44, hm⟩ := Option.bind_eq_some_iff.1 hm
                refine V_y (Y_sliceSH hx44 Tryz.underlying9 rfl rfl) rfl rfl rfl ?_
                refine V_y (Y_assign rfl) rfl rfl rfl ?_
                refine V_to (fun _ _ => rfl) ?_
                obtain rfl := Option.some.inj hm
                refine C_ret ?_
                try simp only [↓inBlock_ret, ↓then_ret]
                exact retQ rfl (Res.one Tryz.results22 rfl) ⟨rfl, hK.kp⟩
              · rw [if_neg (nt hc43)] at hm
                refine C_skip_to (fun _ _ => rfl) ?_
                refine C_seq ?_
                refine C_region ?_
                refine V_y (Y_load (El.str h4) Tryz.isAgg9 rfl) rfl rfl rfl ?_
                refine V_y (Y_assign rfl) rfl rfl rfl ?_
                refine V_to (fun _ _ => rfl) ?_
                obtain rfl := Option.some.inj hm
                refine C_ret ?_
                try simp only [↓inBlock_ret, ↓then_ret]
                exact retQ rfl (Res.one Tryz.results22 rfl) ⟨rfl, hK.kp⟩

set_option maxRecDepth 4000 in
set_option maxHeartbeats 4000000 in
theorem portref2_termOf_c (w : World) {A : Nat → Prop} (hA : ∀ b, w.heap.size ≤ b → A b) (x : know_Index) (v_x0 : Value) (h_x0 : Sl A w v_x0 x.ids) (v_x1 : Value) (h_x1 : Sl A w v_x1 x.sizes) (v_x2 : Value) (h_x2 : Sl A w v_x2 x.terms) (word : ByteArray) {r : (know_Term × Bool)} (hm : portref2_termOf x word = some r) : Ret Tryz.prog 23 #[.agg #[v_x0, v_x1, v_x2], .string word] w fun v w' => ∃ s0, v = .tuple #[.agg #[.string r.1.word, s0], .bool r.2] ∧ Sl A w' s0 r.1.list_ ∧ Kp Dw w w' := by
  unfold portref2_termOf at hm
  refine enter Tryz.func23 rfl Tryz.ntmps23 rfl ?_
  have hA0 := hA
  have hB := Nat.le_refl w.heap.size
  have hK : Tr Dw w.heap.size A w A w := Tr.refl (Dw := Dw) hA
  have hH : Hp w.heap.size A w [] := Hp.nil
  refine C_seq ?_
  refine C_region ?_
  refine V_box rfl rfl ?_
  intro b7 w9 h10
  have hk12 := h10.kp (Dw := Dw)
  have h11 : El (α := know_Index) A w9 b7 0 x := h10.el hA ⟨[v_x0], _, rfl, ⟨_, rfl, h_x0⟩, ⟨[v_x1], _, rfl, ⟨_, rfl, h_x1⟩, ⟨_, rfl, h_x2⟩⟩⟩
  have ht13 := Kp.tr (Dw := Dw) hk12 hA hB
  replace hH := Hp.kp (Dw := Dw) hH hk12
  replace h_x0 := Sl.tr (Dw := Dw) h_x0 ht13
  replace h_x1 := Sl.tr (Dw := Dw) h_x1 ht13
  replace h_x2 := Sl.tr (Dw := Dw) h_x2 ht13
  replace hK := Tr.trans (Dw := Dw) hK ht13
  replace hB := Nat.le_trans hB ht13.ex.size
  replace hA := ht13.new
  refine V_allocH (Dw := Dw) (B := w.heap.size) hH Tryz.zeroValue44 hB hA rfl ?_
  intro b14 w15 A16 hH17 ht18
  replace h_x0 := Sl.tr (Dw := Dw) h_x0 ht18
  replace h_x1 := Sl.tr (Dw := Dw) h_x1 ht18
  replace h_x2 := Sl.tr (Dw := Dw) h_x2 ht18
  replace h11 := El.tr (Dw := Dw) h11 ht18
  replace hK := Tr.trans (Dw := Dw) hK ht18
  replace hB := Nat.le_trans hB ht18.ex.size
  replace hA := ht18.new
  replace hH : Hp w.heap.size A16 w15 (obC b14 [.string ByteArray.empty, .slice none 0 0] 44 :: []) := hH17
  refine V_y (Y_assign rfl) rfl rfl rfl ?_
  refine V_to (fun _ _ => rfl) ?_
  refine C_seq ?_
  refine C_seq ?_
  refine C_region ?_
  have h19 := El_know_Index_2 h11
  refine V_y (Y_fieldAddr Tryz.underlying25 rfl Tryz.sizeOf23 (by decide) rfl) rfl rfl rfl ?_
  obtain ⟨v20, h21, h22⟩ := El.list h19
  refine V_y (Y_load h21 Tryz.isAgg23 rfl) rfl rfl rfl ?_
  refine V_y (Y_lenSl h22 rfl Tryz.underlying23 rfl) rfl rfl rfl ?_
  refine V_y (Y_move rfl) rfl rfl rfl ?_
  refine V_to (fun _ _ => rfl) ?_
  have hn47 := Sl.le h22
  obtain ⟨o23, ho23, hm⟩ := Option.bind_eq_some_iff.1 hm
  refine C_cutG (ι := (know_Term × Value × (Nat → Prop))) (fun ⟨s24, v30, A32⟩ => [(4, .pointer (some ⟨b14, 0, none⟩))]) (fun ⟨s24, v30, A32⟩ => fun w' => o23 = .fin s24 ∧ Sl A32 w' v30 s24.list_ ∧ Hp w.heap.size A32 w' (obC b14 [.string s24.word, v30] 44 :: []) ∧ Tr Dw w.heap.size A16 w15 A32 w') ?_ ?_
  · refine C_block ?_
    refine C_range ho23 (fun k26 s34 a w' => ∃ i : (Value × (Nat → Prop)), Has ⟨22, [], none⟩ a ([(1, .string word), (4, .pointer (some ⟨b14, 0, none⟩)), (9, v20), (10, .int .i64 (x.terms.length : Int)), (11, .int .i64 (k26 : Int))]) ∧ Sl i.2 w' i.1 s34.list_ ∧ Hp w.heap.size i.2 w' (obC b14 [.string s34.word, i.1] 44 :: []) ∧ Tr Dw w.heap.size A16 w15 i.2 w') (fun a ha => ⟨(.slice none 0 0, A16), ha.sub ⟨rfl, rfl, rfl, rfl, rfl, trivial⟩, ⟨Sl.nil, hH, Tr.refl (Dw := Dw) hA⟩⟩) ?_
    rintro K k26 s34 a w35 ⟨⟨v36, A38⟩, ha80, h37, hH39, hr25⟩ hle43 K46 h45
    refine C_of ?_ ha80
    replace h22 := Sl.tr (Dw := Dw) h22 hr25
    replace hK := Tr.trans (Dw := Dw) hK hr25
    replace hB := Nat.le_trans hB hr25.ex.size
    replace hA := hr25.new
    replace hH : Hp w.heap.size A38 w35 (obC b14 [.string s34.word, v36] 44 :: []) := hH39
    refine C_seq (C_region (V_y (Y_lss rfl rfl) rfl rfl rfl (V_to (fun _ _ => rfl) ?_)))
    refine C_seq ?_
    refine C_cond rfl (fun hc48 => ?_) (fun hc48 => ?_)
    · have hlt44 := lt_of_dec hc48
      obtain ⟨x40, h41, h42⟩ := K46 hlt44
      refine C_skip_to (fun _ _ => rfl) ?_
      refine C_seq ?_
      refine C_block ?_
      refine C_seq ?_
      refine C_region ?_
      obtain ⟨x49, hx49, h41⟩ := Option.bind_eq_some_iff.1 h41
      refine V_indexAddr h22 hx49 Tryz.underlying23 Tryz.sizeOf44 rfl rfl rfl ?_
      intro b50 o51 h52
      obtain ⟨v53, h55, h54⟩ := El_know_Term h52
      refine V_y (Y_loadA h55 Tryz.isAgg44 Tryz.sizeOf44 rfl) rfl rfl rfl ?_
      refine V_alloc Tryz.zeroValue44 rfl ?_
      intro b56 w57 h58
      have h63 : (v53).oneCell' = true := by obtain ⟨_, _, e, _⟩ := Sl.form h54; rw [e]; rfl
      refine V_storeNew h58 Tryz.sizeOf44 rfl rfl rfl rfl (by exact (List.forall_mem_cons.2 ⟨rfl, (List.forall_mem_cons.2 ⟨h63, (fun _ h => nomatch h)⟩)⟩)) ?_
      intro w59 h60
      have hk65 := h60.kp (Dw := Dw)
      have h64 : El (α := know_Term) A38 w59 b56 0 x49 := h60.el hA ⟨[.string x49.word], _, rfl, rfl, ⟨_, rfl, h54⟩⟩
      have ht66 := Kp.tr (Dw := Dw) hk65 hA hB
      replace hH := Hp.kp (Dw := Dw) hH hk65
      replace h22 := Sl.tr (Dw := Dw) h22 ht66
      replace h52 := El.tr (Dw := Dw) h52 ht66
      replace h54 := Sl.tr (Dw := Dw) h54 ht66
      replace h37 := Sl.tr (Dw := Dw) h37 ht66
      replace hK := Tr.trans (Dw := Dw) hK ht66
      replace hr25 := Tr.trans (Dw := Dw) hr25 ht66
      replace hB := Nat.le_trans hB ht66.ex.size
      replace hA := ht66.new
      refine V_to (fun _ _ => rfl) ?_
      refine C_seq ?_
      refine C_region ?_
      have h67 := El_know_Term_0 h64
      refine V_y (Y_fieldAddr Tryz.underlying44 rfl Tryz.sizeOf9 (by decide) rfl) rfl rfl rfl ?_
      refine V_y (Y_load (El.str h67) Tryz.isAgg9 rfl) rfl rfl rfl ?_
      refine V_y (Y_move rfl) rfl rfl rfl ?_
      refine V_y (Y_seql rfl rfl) rfl rfl rfl ?_
      refine V_to (fun _ _ => rfl) ?_
      refine C_cond rfl (fun hc68 => ?_) (fun hc68 => ?_)
      · rw [if_pos hc68] at h41
        refine C_seq ?_
        refine C_region ?_
        obtain ⟨v69, h71, h70⟩ := El_know_Term h64
        refine V_y (Y_loadA h71 Tryz.isAgg44 Tryz.sizeOf44 rfl) rfl rfl rfl ?_
        have h77 : (v69).oneCell' = true := by obtain ⟨_, _, e, _⟩ := Sl.form h70; rw [e]; rfl
        refine V_storeC (Dw := Dw) (off := 0) (ds := [.string x49.word, v69]) hH (i := 0) rfl Tryz.sizeOf44 rfl (Nat.le_of_ble_eq_true rfl) (by exact (List.forall_mem_cons.2 ⟨rfl, (List.forall_mem_cons.2 ⟨h77, (fun _ h => nomatch h)⟩)⟩)) rfl hB hA rfl rfl ?_
        intro w72 hH73 ht74
        replace h22 := Sl.tr (Dw := Dw) h22 ht74
        replace h64 := El.tr (Dw := Dw) h64 ht74
        replace h70 := Sl.tr (Dw := Dw) h70 ht74
        replace h37 := Sl.tr (Dw := Dw) h37 ht74
        replace hK := Tr.trans (Dw := Dw) hK ht74
        replace hr25 := Tr.trans (Dw := Dw) hr25 ht74
        replace hB := Nat.le_trans hB ht74.ex.size
        replace hA := ht74.new
        replace hH : Hp w.heap.size A38 w72 (obC b14 [.string x49.word, v69] 44 :: []) := hH73
        refine V_y (Y_assign rfl) rfl rfl rfl ?_
        refine V_to (fun _ _ => rfl) ?_
        obtain rfl := Option.some.inj h41
        obtain rfl := (h42 : Lp.rt _ = _)
        rw [Lp.andThen_rt] at hm
        obtain rfl := Option.some.inj hm
        refine C_ret ?_
        try simp only [↓inBlock_ret, ↓then_ret]
        exact retQ rfl (Res.l2 Tryz.results23 (RL.cell rfl (loadVar_agg (Hp.part (off := 0) (n := 2) (ds := [.string x49.word, v69]) hH (i := 0) rfl rfl) Tryz.isAgg44 Tryz.sizeOf44)) (RL.tmp rfl)) ⟨v69, rfl, (Sl.out (Dw := Dw) h70 hA0 hK), hK.kp⟩
      · rw [if_neg (nt hc68)] at h41
        refine C_skip_to (fun _ _ => rfl) ?_
        refine C_region ?_
        refine V_y (Y_addI rfl rfl) rfl rfl rfl ?_
        refine V_y (Y_move rfl) rfl rfl rfl ?_
        obtain rfl := Option.some.inj h41
        refine V_end (fun a ha78 => ?_)
        exact ⟨s34, hlt44, h42, ⟨(v36, A38), ha78.sub ⟨rfl, rfl, rfl, rfl, (congrArg (fun z => some (Value.int .i64 z)) (w64_succ hlt44 hn47)), trivial⟩, ⟨h37, hH, hr25⟩⟩⟩
    · refine C_exit (fun a ha79 => ?_)
      exact ⟨(s34, v36, A38), ha79.sub ⟨rfl, trivial⟩, ⟨(h45 (eq_of_dec hle43 hc48)).symm, h37, hH, hr25⟩⟩
  rintro ⟨s24, v30, A32⟩ w27 ⟨rfl, h31, hH33, hk28⟩ a ha29
  rw [Lp.andThen_fin] at hm
  replace hK := Tr.trans (Dw := Dw) hK hk28
  replace hB := Nat.le_trans hB hk28.ex.size
  replace hA := hk28.new
  replace hH : Hp w.heap.size A32 w27 (obC b14 [.string s24.word, v30] 44 :: []) := hH33
  refine C_at (n := ⟨22, [], none⟩) (fun _ _ => rfl) ?_ ha29
  refine C_seq ?_
  refine C_region ?_
  refine V_y (Y_build Tryz.underlying44 Tryz.zeroValue44 (Tryz_places44 _ Tryz.underlying44) rfl (by with_unfolding_all rfl)) rfl rfl rfl ?_
  refine V_storeC (Dw := Dw) (off := 0) (ds := [.string ByteArray.empty, .slice none 0 0]) hH (i := 0) rfl Tryz.sizeOf44 rfl (Nat.le_of_ble_eq_true rfl) (by exact (List.forall_mem_cons.2 ⟨rfl, (List.forall_mem_cons.2 ⟨rfl, (fun _ h => nomatch h)⟩)⟩)) rfl hB hA rfl rfl ?_
  intro w81 hH82 ht83
  replace h31 := Sl.tr (Dw := Dw) h31 ht83
  replace hK := Tr.trans (Dw := Dw) hK ht83
  replace hB := Nat.le_trans hB ht83.ex.size
  replace hA := ht83.new
  replace hH : Hp w.heap.size A32 w81 (obC b14 [.string ByteArray.empty, .slice none 0 0] 44 :: []) := hH82
  refine V_y (Y_assign rfl) rfl rfl rfl ?_
  refine V_to (fun _ _ => rfl) ?_
  obtain rfl := Option.some.inj hm
  refine C_ret ?_
  try simp only [↓inBlock_ret, ↓then_ret]
  exact retQ rfl (Res.l2 Tryz.results23 (RL.cell rfl (loadVar_agg (Hp.part (off := 0) (n := 2) (ds := [.string ByteArray.empty, .slice none 0 0]) hH (i := 0) rfl rfl) Tryz.isAgg44 Tryz.sizeOf44)) (RL.tmp rfl)) ⟨.slice none 0 0, rfl, Sl.nil, hK.kp⟩

set_option maxRecDepth 4000 in
set_option maxHeartbeats 4000000 in
theorem portref2_SuggestOf_1_c (w : World) {A : Nat → Prop} (hA : ∀ b, w.heap.size ≤ b → A b) (a_ : know_Term) (v_a_ : Value) (h_a_ : Sl A w v_a_ a_.list_) (b : know_Term) (v_b : Value) (h_b : Sl A w v_b b.list_) {r : Int} (hm : portref2_SuggestOf_1 a_ b = some r) : Ret Tryz.prog 24 #[.agg #[.string a_.word, v_a_], .agg #[.string b.word, v_b]] w fun v w' => v = .int .i64 r ∧ Kp Dw w w' := by
  unfold portref2_SuggestOf_1 at hm
  refine enter Tryz.func24 rfl Tryz.ntmps24 rfl ?_
  have hA0 := hA
  have hB := Nat.le_refl w.heap.size
  have hK : Tr Dw w.heap.size A w A w := Tr.refl (Dw := Dw) hA
  have hH : Hp w.heap.size A w [] := Hp.nil
  refine C_seq ?_
  refine C_region ?_
  refine V_box rfl rfl ?_
  intro b5 w6 h7
  have hk9 := h7.kp (Dw := Dw)
  have h8 : El (α := know_Term) A w6 b5 0 a_ := h7.el hA ⟨[.string a_.word], _, rfl, rfl, ⟨_, rfl, h_a_⟩⟩
  have ht10 := Kp.tr (Dw := Dw) hk9 hA hB
  replace hH := Hp.kp (Dw := Dw) hH hk9
  replace h_a_ := Sl.tr (Dw := Dw) h_a_ ht10
  replace h_b := Sl.tr (Dw := Dw) h_b ht10
  replace hK := Tr.trans (Dw := Dw) hK ht10
  replace hB := Nat.le_trans hB ht10.ex.size
  replace hA := ht10.new
  refine V_box rfl rfl ?_
  intro b11 w12 h13
  have hk15 := h13.kp (Dw := Dw)
  have h14 : El (α := know_Term) A w12 b11 0 b := h13.el hA ⟨[.string b.word], _, rfl, rfl, ⟨_, rfl, h_b⟩⟩
  have ht16 := Kp.tr (Dw := Dw) hk15 hA hB
  replace hH := Hp.kp (Dw := Dw) hH hk15
  replace h_a_ := Sl.tr (Dw := Dw) h_a_ ht16
  replace h_b := Sl.tr (Dw := Dw) h_b ht16
  replace h8 := El.tr (Dw := Dw) h8 ht16
  replace hK := Tr.trans (Dw := Dw) hK ht16
  replace hB := Nat.le_trans hB ht16.ex.size
  replace hA := ht16.new
  refine V_y (Y_assign rfl) rfl rfl rfl ?_
  refine V_to (fun _ _ => rfl) ?_
  refine C_seq ?_
  refine C_region_qt (Dw := Dw) 12 Tryz_mixed (by kernel_rfl) ?_
  simp only [List.take, List.drop]
  have h17 := El_know_Term_1 h8
  refine VQ_y (fun w' hw' => Y_fieldAddr Tryz.underlying44 rfl Tryz.sizeOf42 (by decide) rfl) rfl rfl rfl ?_
  obtain ⟨v18, h19, h20⟩ := El.list h17
  refine VQ_y (fun w' hw' => Y_load ((World.cell?_of_block (hw'.block _ (World.block_lt_of_cell? _ _ h19))).trans h19) Tryz.isAgg42 rfl) rfl rfl rfl ?_
  refine VQ_y (fun w' hw' => Y_lenSl h20 rfl Tryz.underlying42 rfl) rfl rfl rfl ?_
  have h21 := El_know_Term_1 h14
  refine VQ_y (fun w' hw' => Y_fieldAddr Tryz.underlying44 rfl Tryz.sizeOf42 (by decide) rfl) rfl rfl rfl ?_
  obtain ⟨v22, h23, h24⟩ := El.list h21
  refine VQ_y (fun w' hw' => Y_load ((World.cell?_of_block (hw'.block _ (World.block_lt_of_cell? _ _ h23))).trans h23) Tryz.isAgg42 rfl) rfl rfl rfl ?_
  refine VQ_y (fun w' hw' => Y_lenSl h24 rfl Tryz.underlying42 rfl) rfl rfl rfl ?_
  refine VQ_call (.int .i64 (cmp_Compare_int (a_.list_.length : Int) (b.list_.length : Int))) Tryz.call14 rfl rfl rfl rfl (fun w' hw' => (cmp_Compare_int_c w' (a_.list_.length : Int) (b.list_.length : Int)).mono (fun _ _ h => ⟨h.1, h.2 ▸ hw'⟩)) ?_
  have h25 := El_know_Term_0 h8
  refine VQ_y (fun w' hw' => Y_fieldAddr Tryz.underlying44 rfl Tryz.sizeOf9 (by decide) rfl) rfl rfl rfl ?_
  refine VQ_y (fun w' hw' => Y_load (El.str (El.kp (Dw := Dw) h25 hw')) Tryz.isAgg9 rfl) rfl rfl rfl ?_
  have h26 := El_know_Term_0 h14
  refine VQ_y (fun w' hw' => Y_fieldAddr Tryz.underlying44 rfl Tryz.sizeOf9 (by decide) rfl) rfl rfl rfl ?_
  refine VQ_y (fun w' hw' => Y_load (El.str (El.kp (Dw := Dw) h26 hw')) Tryz.isAgg9 rfl) rfl rfl rfl ?_
  obtain ⟨x27, hx27, hm⟩ := Option.bind_eq_some_iff.1 hm
  refine VQ_call (.int .i64 x27) Tryz.call25 rfl rfl rfl rfl (fun w' hw' => (strings_Compare_c (Dw := Dw) w' (fun b hb => hA b (Nat.le_trans hw'.size hb)) a_.word b.word hx27).mono (fun _ _ h => ⟨h.1, Kp.trans (Dw := Dw) hw' h.2⟩)) ?_
  refine VQ_tail (fun w28 hk29 => ?_)
  try simp only [List.take, List.drop]
  have ht30 := Kp.tr (Dw := Dw) hk29 hA hB
  replace hH := Hp.kp (Dw := Dw) hH hk29
  replace h8 := El.tr (Dw := Dw) h8 ht30
  replace h14 := El.tr (Dw := Dw) h14 ht30
  replace h17 := El.tr (Dw := Dw) h17 ht30
  replace h20 := Sl.tr (Dw := Dw) h20 ht30
  replace h21 := El.tr (Dw := Dw) h21 ht30
  replace h24 := Sl.tr (Dw := Dw) h24 ht30
  replace h25 := El.tr (Dw := Dw) h25 ht30
  replace h26 := El.tr (Dw := Dw) h26 ht30
  replace hK := Tr.trans (Dw := Dw) hK ht30
  replace hB := Nat.le_trans hB ht30.ex.size
  replace hA := ht30.new
  refine V_buildSlice (Dw := Dw) (cells := #[.int .i64 (cmp_Compare_int (a_.list_.length : Int) (b.list_.length : Int)), .int .i64 x27]) (l := ([(cmp_Compare_int (a_.list_.length : Int) (b.list_.length : Int)), x27] : List Int)) (len := 2) Tryz.underlying22 Tryz.sizeOf3 Tryz.zeroValue3 rfl (by generalize ((cmp_Compare_int (a_.list_.length : Int) (b.list_.length : Int)) : Int) = z36; kernel_rfl) (show (2 * 1 : Nat) ≠ 0 by decide) (show (2 * 1 : Nat) ≤ 2 ^ 24 by decide) hA ⟨[.int .i64 (cmp_Compare_int (a_.list_.length : Int) (b.list_.length : Int))], _, rfl, rfl, ⟨[.int .i64 x27], _, rfl, rfl, rfl⟩⟩ rfl rfl ?_
  intro v31 w33 hk35 h34
  have ht37 := Kp.tr (Dw := Dw) hk35 hA hB
  replace hH := Hp.kp (Dw := Dw) hH hk35
  replace h8 := El.tr (Dw := Dw) h8 ht37
  replace h14 := El.tr (Dw := Dw) h14 ht37
  replace h17 := El.tr (Dw := Dw) h17 ht37
  replace h20 := Sl.tr (Dw := Dw) h20 ht37
  replace h21 := El.tr (Dw := Dw) h21 ht37
  replace h24 := Sl.tr (Dw := Dw) h24 ht37
  replace h25 := El.tr (Dw := Dw) h25 ht37
  replace h26 := El.tr (Dw := Dw) h26 ht37
  replace hK := Tr.trans (Dw := Dw) hK ht37
  replace hB := Nat.le_trans hB ht37.ex.size
  replace hA := ht37.new
  obtain ⟨x38, hx38, hm⟩ := Option.bind_eq_some_iff.1 hm
  refine V_call Tryz.call13 rfl rfl rfl rfl (cmp_Or_int_c w33 ([(cmp_Compare_int (a_.list_.length : Int) (b.list_.length : Int)), x27] : List Int) v31 h34 hx38) ?_
  rintro _ _ ⟨rfl, rfl⟩
  refine V_y (Y_assign rfl) rfl rfl rfl ?_
  refine V_to (fun _ _ => rfl) ?_
  obtain rfl := Option.some.inj hm
  refine C_ret ?_
  try simp only [↓inBlock_ret, ↓then_ret]
  exact retQ rfl (Res.one Tryz.results24 rfl) ⟨rfl, hK.kp⟩

set_option maxRecDepth 4000 in
set_option maxHeartbeats 4000000 in
theorem portref2_postingOf_c (w : World) {A : Nat → Prop} (hA : ∀ b, w.heap.size ≤ b → A b) (t : know_Term) (v_t : Value) (h_t : Sl A w v_t t.list_) (id_ : Int) {r : (know_Posting × Bool)} (hm : portref2_postingOf t id_ = some r) : Ret Tryz.prog 26 #[.agg #[.string t.word, v_t], .int .i64 id_] w fun v w' => ∃ s0 s1, v = .tuple #[.agg #[.int .i64 r.1.id_, s0, s1], .bool r.2] ∧ Sl A w' s0 r.1.title ∧ Sl A w' s1 r.1.body ∧ Kp Dw w w' := by
  unfold portref2_postingOf at hm
  refine enter Tryz.func26 rfl Tryz.ntmps26 rfl ?_
  have hA0 := hA
  have hB := Nat.le_refl w.heap.size
  have hK : Tr Dw w.heap.size A w A w := Tr.refl (Dw := Dw) hA
  have hH : Hp w.heap.size A w [] := Hp.nil
  refine C_seq ?_
  refine C_region ?_
  refine V_box rfl rfl ?_
  intro b3 w4 h5
  have hk7 := h5.kp (Dw := Dw)
  have h6 : El (α := know_Term) A w4 b3 0 t := h5.el hA ⟨[.string t.word], _, rfl, rfl, ⟨_, rfl, h_t⟩⟩
  have ht8 := Kp.tr (Dw := Dw) hk7 hA hB
  replace hH := Hp.kp (Dw := Dw) hH hk7
  replace h_t := Sl.tr (Dw := Dw) h_t ht8
  replace hK := Tr.trans (Dw := Dw) hK ht8
  replace hB := Nat.le_trans hB ht8.ex.size
  replace hA := ht8.new
  refine V_allocH (Dw := Dw) (B := w.heap.size) hH Tryz.zeroValue49 hB hA rfl ?_
  intro b9 w10 A11 hH12 ht13
  replace h_t := Sl.tr (Dw := Dw) h_t ht13
  replace h6 := El.tr (Dw := Dw) h6 ht13
  replace hK := Tr.trans (Dw := Dw) hK ht13
  replace hB := Nat.le_trans hB ht13.ex.size
  replace hA := ht13.new
  replace hH : Hp w.heap.size A11 w10 (obC b9 [.int .i64 0, .slice none 0 0, .slice none 0 0] 49 :: []) := hH12
  refine V_y (Y_assign rfl) rfl rfl rfl ?_
  refine V_to (fun _ _ => rfl) ?_
  refine C_seq ?_
  refine C_seq ?_
  refine C_region ?_
  have h14 := El_know_Term_1 h6
  refine V_y (Y_fieldAddr Tryz.underlying44 rfl Tryz.sizeOf42 (by decide) rfl) rfl rfl rfl ?_
  obtain ⟨v15, h16, h17⟩ := El.list h14
  refine V_y (Y_load h16 Tryz.isAgg42 rfl) rfl rfl rfl ?_
  refine V_y (Y_lenSl h17 rfl Tryz.underlying42 rfl) rfl rfl rfl ?_
  refine V_y (Y_move rfl) rfl rfl rfl ?_
  refine V_to (fun _ _ => rfl) ?_
  have hn47 := Sl.le h17
  obtain ⟨o18, ho18, hm⟩ := Option.bind_eq_some_iff.1 hm
  refine C_cutG (ι := (know_Posting × Value × Value × (Nat → Prop))) (fun ⟨s19, v25, v27, A29⟩ => [(4, .pointer (some ⟨b9, 0, none⟩))]) (fun ⟨s19, v25, v27, A29⟩ => fun w' => o18 = .fin s19 ∧ Sl A29 w' v25 s19.title ∧ Sl A29 w' v27 s19.body ∧ Hp w.heap.size A29 w' (obC b9 [.int .i64 s19.id_, v25, v27] 49 :: []) ∧ Tr Dw w.heap.size A11 w10 A29 w') ?_ ?_
  · refine C_block ?_
    refine C_range ho18 (fun k21 s31 a w' => ∃ i : (Value × Value × (Nat → Prop)), Has ⟨22, [], none⟩ a ([(1, .int .i64 id_), (4, .pointer (some ⟨b9, 0, none⟩)), (9, v15), (10, .int .i64 (t.list_.length : Int)), (11, .int .i64 (k21 : Int))]) ∧ Sl i.2.2 w' i.1 s31.title ∧ Sl i.2.2 w' i.2.1 s31.body ∧ Hp w.heap.size i.2.2 w' (obC b9 [.int .i64 s31.id_, i.1, i.2.1] 49 :: []) ∧ Tr Dw w.heap.size A11 w10 i.2.2 w') (fun a ha => ⟨(.slice none 0 0, .slice none 0 0, A11), ha.sub ⟨rfl, rfl, rfl, rfl, rfl, trivial⟩, ⟨Sl.nil, Sl.nil, hH, Tr.refl (Dw := Dw) hA⟩⟩) ?_
    rintro K k21 s31 a w33 ⟨⟨v34, v36, A38⟩, ha90, h35, h37, hH39, hr20⟩ hle43 K46 h45
    refine C_of ?_ ha90
    replace h17 := Sl.tr (Dw := Dw) h17 hr20
    replace hK := Tr.trans (Dw := Dw) hK hr20
    replace hB := Nat.le_trans hB hr20.ex.size
    replace hA := hr20.new
    replace hH : Hp w.heap.size A38 w33 (obC b9 [.int .i64 s31.id_, v34, v36] 49 :: []) := hH39
    refine C_seq (C_region (V_y (Y_lss rfl rfl) rfl rfl rfl (V_to (fun _ _ => rfl) ?_)))
    refine C_seq ?_
    refine C_cond rfl (fun hc48 => ?_) (fun hc48 => ?_)
    · have hlt44 := lt_of_dec hc48
      obtain ⟨x40, h41, h42⟩ := K46 hlt44
      refine C_skip_to (fun _ _ => rfl) ?_
      refine C_seq ?_
      refine C_block ?_
      refine C_seq ?_
      refine C_region ?_
      obtain ⟨x49, hx49, h41⟩ := Option.bind_eq_some_iff.1 h41
      refine V_indexAddr h17 hx49 Tryz.underlying42 Tryz.sizeOf49 rfl rfl rfl ?_
      intro b50 o51 h52
      obtain ⟨v53, v55, h57, h54, h56⟩ := El_know_Posting h52
      refine V_y (Y_loadA h57 Tryz.isAgg49 Tryz.sizeOf49 rfl) rfl rfl rfl ?_
      refine V_alloc Tryz.zeroValue49 rfl ?_
      intro b58 w59 h60
      have h65 : (v53).oneCell' = true := by obtain ⟨_, _, e, _⟩ := Sl.form h54; rw [e]; rfl
      have h68 : (v55).oneCell' = true := by obtain ⟨_, _, e, _⟩ := Sl.form h56; rw [e]; rfl
      refine V_storeNew h60 Tryz.sizeOf49 rfl rfl rfl rfl (by exact (List.forall_mem_cons.2 ⟨rfl, (List.forall_mem_cons.2 ⟨h65, (List.forall_mem_cons.2 ⟨h68, (fun _ h => nomatch h)⟩)⟩)⟩)) ?_
      intro w61 h62
      have hk70 := h62.kp (Dw := Dw)
      have h69 : El (α := know_Posting) A38 w61 b58 0 x49 := h62.el hA ⟨[.int .i64 x49.id_], _, rfl, rfl, ⟨[v53], _, rfl, ⟨_, rfl, h54⟩, ⟨_, rfl, h56⟩⟩⟩
      have ht71 := Kp.tr (Dw := Dw) hk70 hA hB
      replace hH := Hp.kp (Dw := Dw) hH hk70
      replace h17 := Sl.tr (Dw := Dw) h17 ht71
      replace h52 := El.tr (Dw := Dw) h52 ht71
      replace h54 := Sl.tr (Dw := Dw) h54 ht71
      replace h56 := Sl.tr (Dw := Dw) h56 ht71
      replace h35 := Sl.tr (Dw := Dw) h35 ht71
      replace h37 := Sl.tr (Dw := Dw) h37 ht71
      replace hK := Tr.trans (Dw := Dw) hK ht71
      replace hr20 := Tr.trans (Dw := Dw) hr20 ht71
      replace hB := Nat.le_trans hB ht71.ex.size
      replace hA := ht71.new
      refine V_to (fun _ _ => rfl) ?_
      refine C_seq ?_
      refine C_region ?_
      have h72 := El_know_Posting_0 h69
      refine V_y (Y_fieldAddr Tryz.underlying49 rfl Tryz.sizeOf3 (by decide) rfl) rfl rfl rfl ?_
      refine V_y (Y_load (El.int h72) Tryz.isAgg3 rfl) rfl rfl rfl ?_
      refine V_y (Y_move rfl) rfl rfl rfl ?_
      refine V_y (Y_eql rfl rfl) rfl rfl rfl ?_
      refine V_to (fun _ _ => rfl) ?_
      refine C_cond rfl (fun hc73 => ?_) (fun hc73 => ?_)
      · rw [if_pos hc73] at h41
        refine C_seq ?_
        refine C_region ?_
        obtain ⟨v74, v76, h78, h75, h77⟩ := El_know_Posting h69
        refine V_y (Y_loadA h78 Tryz.isAgg49 Tryz.sizeOf49 rfl) rfl rfl rfl ?_
        have h84 : (v74).oneCell' = true := by obtain ⟨_, _, e, _⟩ := Sl.form h75; rw [e]; rfl
        have h87 : (v76).oneCell' = true := by obtain ⟨_, _, e, _⟩ := Sl.form h77; rw [e]; rfl
        refine V_storeC (Dw := Dw) (off := 0) (ds := [.int .i64 x49.id_, v74, v76]) hH (i := 0) rfl Tryz.sizeOf49 rfl (Nat.le_of_ble_eq_true rfl) (by exact (List.forall_mem_cons.2 ⟨rfl, (List.forall_mem_cons.2 ⟨h84, (List.forall_mem_cons.2 ⟨h87, (fun _ h => nomatch h)⟩)⟩)⟩)) rfl hB hA rfl rfl ?_
        intro w79 hH80 ht81
        replace h17 := Sl.tr (Dw := Dw) h17 ht81
        replace h69 := El.tr (Dw := Dw) h69 ht81
        replace h75 := Sl.tr (Dw := Dw) h75 ht81
        replace h77 := Sl.tr (Dw := Dw) h77 ht81
        replace h35 := Sl.tr (Dw := Dw) h35 ht81
        replace h37 := Sl.tr (Dw := Dw) h37 ht81
        replace hK := Tr.trans (Dw := Dw) hK ht81
        replace hr20 := Tr.trans (Dw := Dw) hr20 ht81
        replace hB := Nat.le_trans hB ht81.ex.size
        replace hA := ht81.new
        replace hH : Hp w.heap.size A38 w79 (obC b9 [.int .i64 x49.id_, v74, v76] 49 :: []) := hH80
        refine V_y (Y_assign rfl) rfl rfl rfl ?_
        refine V_to (fun _ _ => rfl) ?_
        obtain rfl := Option.some.inj h41
        obtain rfl := (h42 : Lp.rt _ = _)
        rw [Lp.andThen_rt] at hm
        obtain rfl := Option.some.inj hm
        refine C_ret ?_
        try simp only [↓inBlock_ret, ↓then_ret]
        exact retQ rfl (Res.l2 Tryz.results26 (RL.cell rfl (loadVar_agg (Hp.part (off := 0) (n := 3) (ds := [.int .i64 x49.id_, v74, v76]) hH (i := 0) rfl rfl) Tryz.isAgg49 Tryz.sizeOf49)) (RL.tmp rfl)) ⟨v74, v76, rfl, (Sl.out (Dw := Dw) h75 hA0 hK), (Sl.out (Dw := Dw) h77 hA0 hK), hK.kp⟩
      · rw [if_neg (nt hc73)] at h41
        refine C_skip_to (fun _ _ => rfl) ?_
        refine C_region ?_
        refine V_y (Y_addI rfl rfl) rfl rfl rfl ?_
        refine V_y (Y_move rfl) rfl rfl rfl ?_
        obtain rfl := Option.some.inj h41
        refine V_end (fun a ha88 => ?_)
        exact ⟨s31, hlt44, h42, ⟨(v34, v36, A38), ha88.sub ⟨rfl, rfl, rfl, rfl, (congrArg (fun z => some (Value.int .i64 z)) (w64_succ hlt44 hn47)), trivial⟩, ⟨h35, h37, hH, hr20⟩⟩⟩
    · refine C_exit (fun a ha89 => ?_)
      exact ⟨(s31, v34, v36, A38), ha89.sub ⟨rfl, trivial⟩, ⟨(h45 (eq_of_dec hle43 hc48)).symm, h35, h37, hH, hr20⟩⟩
  rintro ⟨s19, v25, v27, A29⟩ w22 ⟨rfl, h26, h28, hH30, hk23⟩ a ha24
  rw [Lp.andThen_fin] at hm
  replace hK := Tr.trans (Dw := Dw) hK hk23
  replace hB := Nat.le_trans hB hk23.ex.size
  replace hA := hk23.new
  replace hH : Hp w.heap.size A29 w22 (obC b9 [.int .i64 s19.id_, v25, v27] 49 :: []) := hH30
  refine C_at (n := ⟨22, [], none⟩) (fun _ _ => rfl) ?_ ha24
  refine C_seq ?_
  refine C_region ?_
  refine V_y (Y_build Tryz.underlying49 Tryz.zeroValue49 (Tryz_places49 _ Tryz.underlying49) rfl (by with_unfolding_all rfl)) rfl rfl rfl ?_
  refine V_storeC (Dw := Dw) (off := 0) (ds := [.int .i64 0, .slice none 0 0, .slice none 0 0]) hH (i := 0) rfl Tryz.sizeOf49 rfl (Nat.le_of_ble_eq_true rfl) (by exact (List.forall_mem_cons.2 ⟨rfl, (List.forall_mem_cons.2 ⟨rfl, (List.forall_mem_cons.2 ⟨rfl, (fun _ h => nomatch h)⟩)⟩)⟩)) rfl hB hA rfl rfl ?_
  intro w91 hH92 ht93
  replace h26 := Sl.tr (Dw := Dw) h26 ht93
  replace h28 := Sl.tr (Dw := Dw) h28 ht93
  replace hK := Tr.trans (Dw := Dw) hK ht93
  replace hB := Nat.le_trans hB ht93.ex.size
  replace hA := ht93.new
  replace hH : Hp w.heap.size A29 w91 (obC b9 [.int .i64 0, .slice none 0 0, .slice none 0 0] 49 :: []) := hH92
  refine V_y (Y_assign rfl) rfl rfl rfl ?_
  refine V_to (fun _ _ => rfl) ?_
  obtain rfl := Option.some.inj hm
  refine C_ret ?_
  try simp only [↓inBlock_ret, ↓then_ret]
  exact retQ rfl (Res.l2 Tryz.results26 (RL.cell rfl (loadVar_agg (Hp.part (off := 0) (n := 3) (ds := [.int .i64 0, .slice none 0 0, .slice none 0 0]) hH (i := 0) rfl rfl) Tryz.isAgg49 Tryz.sizeOf49)) (RL.tmp rfl)) ⟨.slice none 0 0, .slice none 0 0, rfl, Sl.nil, Sl.nil, hK.kp⟩

set_option maxRecDepth 4000 in
set_option maxHeartbeats 4000000 in
theorem portref2_termScore_c (w : World) {A : Nat → Prop} (hA : ∀ b, w.heap.size ≤ b → A b) (x : know_Index) (v_x0 : Value) (h_x0 : Sl A w v_x0 x.ids) (v_x1 : Value) (h_x1 : Sl A w v_x1 x.sizes) (v_x2 : Value) (h_x2 : Sl A w v_x2 x.terms) (t : know_Term) (v_t : Value) (h_t : Sl A w v_t t.list_) (id_ : Int) {r : Int} (hm : portref2_termScore x t id_ = some r) : Ret Tryz.prog 27 #[.agg #[v_x0, v_x1, v_x2], .agg #[.string t.word, v_t], .int .i64 id_] w fun v w' => v = .int .i64 r ∧ Kp Dw w w' := by
  unfold portref2_termScore at hm
  refine enter Tryz.func27 rfl Tryz.ntmps27 rfl ?_
  have hA0 := hA
  have hB := Nat.le_refl w.heap.size
  have hK : Tr Dw w.heap.size A w A w := Tr.refl (Dw := Dw) hA
  have hH : Hp w.heap.size A w [] := Hp.nil
  refine C_seq ?_
  refine C_region ?_
  refine V_box rfl rfl ?_
  intro b9 w10 h11
  have hk13 := h11.kp (Dw := Dw)
  have h12 : El (α := know_Index) A w10 b9 0 x := h11.el hA ⟨[v_x0], _, rfl, ⟨_, rfl, h_x0⟩, ⟨[v_x1], _, rfl, ⟨_, rfl, h_x1⟩, ⟨_, rfl, h_x2⟩⟩⟩
  have ht14 := Kp.tr (Dw := Dw) hk13 hA hB
  replace hH := Hp.kp (Dw := Dw) hH hk13
  replace h_x0 := Sl.tr (Dw := Dw) h_x0 ht14
  replace h_x1 := Sl.tr (Dw := Dw) h_x1 ht14
  replace h_x2 := Sl.tr (Dw := Dw) h_x2 ht14
  replace h_t := Sl.tr (Dw := Dw) h_t ht14
  replace hK := Tr.trans (Dw := Dw) hK ht14
  replace hB := Nat.le_trans hB ht14.ex.size
  replace hA := ht14.new
  refine V_box rfl rfl ?_
  intro b15 w17 h18
  have hk20 := h18.kp (Dw := Dw)
  have h19 : El (α := know_Term) A w17 b15 0 t := h18.el hA ⟨[.string t.word], _, rfl, rfl, ⟨_, rfl, h_t⟩⟩
  have ht21 := Kp.tr (Dw := Dw) hk20 hA hB
  replace hH := Hp.kp (Dw := Dw) hH hk20
  replace h_x0 := Sl.tr (Dw := Dw) h_x0 ht21
  replace h_x1 := Sl.tr (Dw := Dw) h_x1 ht21
  replace h_x2 := Sl.tr (Dw := Dw) h_x2 ht21
  replace h_t := Sl.tr (Dw := Dw) h_t ht21
  replace h12 := El.tr (Dw := Dw) h12 ht21
  replace hK := Tr.trans (Dw := Dw) hK ht21
  replace hB := Nat.le_trans hB ht21.ex.size
  replace hA := ht21.new
  refine V_y (Y_assign rfl) rfl rfl rfl ?_
  refine V_to (fun _ _ => rfl) ?_
  refine C_seq ?_
  refine C_region ?_
  obtain ⟨v22, h24, h23⟩ := El_know_Term h19
  refine V_y (Y_loadA h24 Tryz.isAgg44 Tryz.sizeOf44 rfl) rfl rfl rfl ?_
  refine V_y (Y_move rfl) rfl rfl rfl ?_
  obtain ⟨x25, hx25, hm⟩ := Option.bind_eq_some_iff.1 hm
  refine V_call Tryz.call26 rfl rfl rfl rfl (portref2_postingOf_c (Dw := Dw) w17 hA t v22 h23 id_ hx25) ?_
  rintro _ w30 ⟨v26, v28, rfl, h27, h29, hk31⟩
  have ht32 := Kp.tr (Dw := Dw) hk31 hA hB
  replace hH := Hp.kp (Dw := Dw) hH hk31
  replace h12 := El.tr (Dw := Dw) h12 ht32
  replace h19 := El.tr (Dw := Dw) h19 ht32
  replace h23 := Sl.tr (Dw := Dw) h23 ht32
  replace hK := Tr.trans (Dw := Dw) hK ht32
  replace hB := Nat.le_trans hB ht32.ex.size
  replace hA := ht32.new
  refine V_y (Y_move rfl) rfl rfl rfl ?_
  refine V_y (Y_extract rfl rfl) rfl rfl rfl ?_
  refine V_y (Y_extract rfl rfl) rfl rfl rfl ?_
  refine V_alloc Tryz.zeroValue49 rfl ?_
  intro b33 w34 h35
  have h40 : (v26).oneCell' = true := by obtain ⟨_, _, e, _⟩ := Sl.form h27; rw [e]; rfl
  have h43 : (v28).oneCell' = true := by obtain ⟨_, _, e, _⟩ := Sl.form h29; rw [e]; rfl
  refine V_storeNew h35 Tryz.sizeOf49 rfl rfl rfl rfl (by exact (List.forall_mem_cons.2 ⟨rfl, (List.forall_mem_cons.2 ⟨h40, (List.forall_mem_cons.2 ⟨h43, (fun _ h => nomatch h)⟩)⟩)⟩)) ?_
  intro w36 h37
  have hk45 := h37.kp (Dw := Dw)
  have h44 : El (α := know_Posting) A w36 b33 0 x25.1 := h37.el hA ⟨[.int .i64 x25.1.id_], _, rfl, rfl, ⟨[v26], _, rfl, ⟨_, rfl, h27⟩, ⟨_, rfl, h29⟩⟩⟩
  have ht46 := Kp.tr (Dw := Dw) hk45 hA hB
  replace hH := Hp.kp (Dw := Dw) hH hk45
  replace h12 := El.tr (Dw := Dw) h12 ht46
  replace h19 := El.tr (Dw := Dw) h19 ht46
  replace h23 := Sl.tr (Dw := Dw) h23 ht46
  replace h27 := Sl.tr (Dw := Dw) h27 ht46
  replace h29 := Sl.tr (Dw := Dw) h29 ht46
  replace hK := Tr.trans (Dw := Dw) hK ht46
  replace hB := Nat.le_trans hB ht46.ex.size
  replace hA := ht46.new
  refine V_y (Y_assign rfl) rfl rfl rfl ?_
  refine V_to (fun _ _ => rfl) ?_
  refine C_seq ?_
  refine C_seq ?_
  refine C_region ?_
  refine V_y (Y_move rfl) rfl rfl rfl ?_
  refine V_y (Y_not rfl) rfl rfl rfl ?_
  refine V_to (fun _ _ => rfl) ?_
  refine C_cond rfl (fun hc47 => ?_) (fun hc47 => ?_)
  · rw [if_pos hc47] at hm
    refine C_seq ?_
    refine C_region ?_
    refine V_y (Y_assign rfl) rfl rfl rfl ?_
    refine V_to (fun _ _ => rfl) ?_
    obtain rfl := Option.some.inj hm
    refine C_ret ?_
    try simp only [↓inBlock_ret, ↓then_ret]
    exact retQ rfl (Res.one Tryz.results27 rfl) ⟨rfl, hK.kp⟩
  · rw [if_neg (nt hc47)] at hm
    refine C_skip_to (fun _ _ => rfl) ?_
    refine C_seq ?_
    refine C_region ?_
    have h48 := El_know_Index_0 h12
    refine V_y (Y_fieldAddr Tryz.underlying25 rfl Tryz.sizeOf22 (by decide) rfl) rfl rfl rfl ?_
    obtain ⟨v49, h50, h51⟩ := El.list h48
    refine V_y (Y_load h50 Tryz.isAgg22 rfl) rfl rfl rfl ?_
    refine V_y (Y_lenSl h51 rfl Tryz.underlying22 rfl) rfl rfl rfl ?_
    have h52 := El_know_Term_1 h19
    refine V_y (Y_fieldAddr Tryz.underlying44 rfl Tryz.sizeOf42 (by decide) rfl) rfl rfl rfl ?_
    obtain ⟨v53, h54, h55⟩ := El.list h52
    refine V_y (Y_load h54 Tryz.isAgg42 rfl) rfl rfl rfl ?_
    refine V_y (Y_lenSl h55 rfl Tryz.underlying42 rfl) rfl rfl rfl ?_
    obtain ⟨x56, hx56, hm⟩ := Option.bind_eq_some_iff.1 hm
    refine V_y (Y_quo hx56 rfl rfl) rfl rfl rfl ?_
    refine V_y (Y_convI Tryz.underlying3 Tryz.underlying68 rfl) rfl rfl rfl ?_
    obtain ⟨x57, hx57, hm⟩ := Option.bind_eq_some_iff.1 hm
    refine V_call Tryz.call36 rfl rfl rfl rfl (math_bits_Len_c w36 (IntKind.wrap .u64 x56) hx57) ?_
    rintro _ _ ⟨rfl, rfl⟩
    refine V_y (Y_assign rfl) rfl rfl rfl ?_
    refine V_to (fun _ _ => rfl) ?_
    refine C_seq ?_
    refine C_region_q (Dw := Dw) Tryz_mixed (by kernel_rfl) ?_
    have h58 := El_know_Index_1 h12
    refine VQ_y (fun w' hw' => Y_fieldAddr Tryz.underlying25 rfl Tryz.sizeOf22 (by decide) rfl) rfl rfl rfl ?_
    obtain ⟨v59, h60, h61⟩ := El.list h58
    refine VQ_y (fun w' hw' => Y_load ((World.cell?_of_block (hw'.block _ (World.block_lt_of_cell? _ _ h60))).trans h60) Tryz.isAgg22 rfl) rfl rfl rfl ?_
    have h62 := El_know_Index_0 h12
    refine VQ_y (fun w' hw' => Y_fieldAddr Tryz.underlying25 rfl Tryz.sizeOf22 (by decide) rfl) rfl rfl rfl ?_
    obtain ⟨v63, h64, h65⟩ := El.list h62
    refine VQ_y (fun w' hw' => Y_load ((World.cell?_of_block (hw'.block _ (World.block_lt_of_cell? _ _ h64))).trans h64) Tryz.isAgg22 rfl) rfl rfl rfl ?_
    refine VQ_y (fun w' hw' => Y_move rfl) rfl rfl rfl ?_
    obtain ⟨x66, hx66, hm⟩ := Option.bind_eq_some_iff.1 hm
    refine VQ_call (.int .i64 x66) Tryz.call40 rfl rfl rfl rfl (fun w' hw' => (slices_Index_Lint_int_c w' x.ids v63 (Sl.kp (Dw := Dw) h65 hw') id_ hx66).mono (fun _ _ h => ⟨h.1, h.2 ▸ hw'⟩)) ?_
    obtain ⟨x67, hx67, hm⟩ := Option.bind_eq_some_iff.1 hm
    refine VQ_indexAddr h61 hx67 Tryz.underlying22 Tryz.sizeOf3 rfl rfl rfl ?_
    intro b68 o69 h70
    refine VQ_y (fun w' hw' => Y_load (El.int (El.kp (Dw := Dw) h70 hw')) Tryz.isAgg3 rfl) rfl rfl rfl ?_
    refine VQ_y (fun w' hw' => Y_assign rfl) rfl rfl rfl ?_
    refine VQ_to (fun _ _ => rfl) (fun w71 hk72 => ?_)
    have ht73 := Kp.tr (Dw := Dw) hk72 hA hB
    replace hH := Hp.kp (Dw := Dw) hH hk72
    replace h44 := El.tr (Dw := Dw) h44 ht73
    replace hK := Tr.trans (Dw := Dw) hK ht73
    replace hB := Nat.le_trans hB ht73.ex.size
    replace hA := ht73.new
    refine C_seq ?_
    refine C_region ?_
    have h74 := El_know_Posting_1 h44
    refine V_y (Y_fieldAddr Tryz.underlying49 rfl Tryz.sizeOf22 (by decide) rfl) rfl rfl rfl ?_
    obtain ⟨v75, h76, h77⟩ := El.list h74
    refine V_y (Y_load h76 Tryz.isAgg22 rfl) rfl rfl rfl ?_
    refine V_y (Y_lenSl h77 rfl Tryz.underlying22 rfl) rfl rfl rfl ?_
    refine V_y (Y_mulI rfl rfl) rfl rfl rfl ?_
    have h78 := El_know_Posting_2 h44
    refine V_y (Y_fieldAddr Tryz.underlying49 rfl Tryz.sizeOf22 (by decide) rfl) rfl rfl rfl ?_
    obtain ⟨v79, h80, h81⟩ := El.list h78
    refine V_y (Y_load h80 Tryz.isAgg22 rfl) rfl rfl rfl ?_
    refine V_y (Y_lenSl h81 rfl Tryz.underlying22 rfl) rfl rfl rfl ?_
    refine V_y (Y_addI rfl rfl) rfl rfl rfl ?_
    refine V_y (Y_mulI rfl rfl) rfl rfl rfl ?_
    refine V_y (Y_move rfl) rfl rfl rfl ?_
    refine V_y (Y_mulI rfl rfl) rfl rfl rfl ?_
    refine V_y (Y_move rfl) rfl rfl rfl ?_
    refine V_y (Y_addI rfl rfl) rfl rfl rfl ?_
    obtain ⟨x82, hx82, hm⟩ := Option.bind_eq_some_iff.1 hm
    refine V_y (Y_quo hx82 rfl rfl) rfl rfl rfl ?_
    refine V_y (Y_assign rfl) rfl rfl rfl ?_
    refine V_to (fun _ _ => rfl) ?_
    obtain rfl := Option.some.inj hm
    refine C_ret ?_
    try simp only [↓inBlock_ret, ↓then_ret]
    exact retQ rfl (Res.one Tryz.results27 rfl) ⟨rfl, hK.kp⟩

set_option maxRecDepth 4000 in
set_option maxHeartbeats 4000000 in
theorem portref2_ranked_1_c (w : World) {A : Nat → Prop} (hA : ∀ b, w.heap.size ≤ b → A b) (a_ : know_Hit) (b : know_Hit) {r : Int} (hm : portref2_ranked_1 a_ b = some r) : Ret Tryz.prog 51 #[.agg #[.int .i64 a_.id_, .int .i64 a_.score], .agg #[.int .i64 b.id_, .int .i64 b.score]] w fun v w' => v = .int .i64 r ∧ Kp Dw w w' := by
  unfold portref2_ranked_1 at hm
  refine enter Tryz.func51 rfl Tryz.ntmps51 rfl ?_
  have hA0 := hA
  have hB := Nat.le_refl w.heap.size
  have hK : Tr Dw w.heap.size A w A w := Tr.refl (Dw := Dw) hA
  have hH : Hp w.heap.size A w [] := Hp.nil
  refine C_seq ?_
  refine C_region ?_
  refine V_box rfl rfl ?_
  intro b1 w2 h3
  have hk5 := h3.kp (Dw := Dw)
  have h4 : El (α := know_Hit) A w2 b1 0 a_ := h3.el hA ⟨[.int .i64 a_.id_], _, rfl, rfl, rfl⟩
  have ht6 := Kp.tr (Dw := Dw) hk5 hA hB
  replace hH := Hp.kp (Dw := Dw) hH hk5
  replace hK := Tr.trans (Dw := Dw) hK ht6
  replace hB := Nat.le_trans hB ht6.ex.size
  replace hA := ht6.new
  refine V_box rfl rfl ?_
  intro b7 w9 h10
  have hk12 := h10.kp (Dw := Dw)
  have h11 : El (α := know_Hit) A w9 b7 0 b := h10.el hA ⟨[.int .i64 b.id_], _, rfl, rfl, rfl⟩
  have ht13 := Kp.tr (Dw := Dw) hk12 hA hB
  replace hH := Hp.kp (Dw := Dw) hH hk12
  replace h4 := El.tr (Dw := Dw) h4 ht13
  replace hK := Tr.trans (Dw := Dw) hK ht13
  replace hB := Nat.le_trans hB ht13.ex.size
  replace hA := ht13.new
  refine V_y (Y_assign rfl) rfl rfl rfl ?_
  refine V_to (fun _ _ => rfl) ?_
  refine C_seq ?_
  refine C_region_qt (Dw := Dw) 10 Tryz_mixed (by kernel_rfl) ?_
  simp only [List.take, List.drop]
  have h14 := El_know_Hit_1 h11
  refine VQ_y (fun w' hw' => Y_fieldAddr Tryz.underlying32 rfl Tryz.sizeOf3 (by decide) rfl) rfl rfl rfl ?_
  refine VQ_y (fun w' hw' => Y_load (El.int (El.kp (Dw := Dw) h14 hw')) Tryz.isAgg3 rfl) rfl rfl rfl ?_
  have h15 := El_know_Hit_1 h4
  refine VQ_y (fun w' hw' => Y_fieldAddr Tryz.underlying32 rfl Tryz.sizeOf3 (by decide) rfl) rfl rfl rfl ?_
  refine VQ_y (fun w' hw' => Y_load (El.int (El.kp (Dw := Dw) h15 hw')) Tryz.isAgg3 rfl) rfl rfl rfl ?_
  refine VQ_call (.int .i64 (cmp_Compare_int b.score a_.score)) Tryz.call14 rfl rfl rfl rfl (fun w' hw' => (cmp_Compare_int_c w' b.score a_.score).mono (fun _ _ h => ⟨h.1, h.2 ▸ hw'⟩)) ?_
  have h16 := El_know_Hit_0 h4
  refine VQ_y (fun w' hw' => Y_fieldAddr Tryz.underlying32 rfl Tryz.sizeOf3 (by decide) rfl) rfl rfl rfl ?_
  refine VQ_y (fun w' hw' => Y_load (El.int (El.kp (Dw := Dw) h16 hw')) Tryz.isAgg3 rfl) rfl rfl rfl ?_
  have h17 := El_know_Hit_0 h11
  refine VQ_y (fun w' hw' => Y_fieldAddr Tryz.underlying32 rfl Tryz.sizeOf3 (by decide) rfl) rfl rfl rfl ?_
  refine VQ_y (fun w' hw' => Y_load (El.int (El.kp (Dw := Dw) h17 hw')) Tryz.isAgg3 rfl) rfl rfl rfl ?_
  refine VQ_call (.int .i64 (cmp_Compare_int a_.id_ b.id_)) Tryz.call14 rfl rfl rfl rfl (fun w' hw' => (cmp_Compare_int_c w' a_.id_ b.id_).mono (fun _ _ h => ⟨h.1, h.2 ▸ hw'⟩)) ?_
  refine VQ_tail (fun w18 hk19 => ?_)
  try simp only [List.take, List.drop]
  have ht20 := Kp.tr (Dw := Dw) hk19 hA hB
  replace hH := Hp.kp (Dw := Dw) hH hk19
  replace h4 := El.tr (Dw := Dw) h4 ht20
  replace h11 := El.tr (Dw := Dw) h11 ht20
  replace h14 := El.tr (Dw := Dw) h14 ht20
  replace h15 := El.tr (Dw := Dw) h15 ht20
  replace h16 := El.tr (Dw := Dw) h16 ht20
  replace h17 := El.tr (Dw := Dw) h17 ht20
  replace hK := Tr.trans (Dw := Dw) hK ht20
  replace hB := Nat.le_trans hB ht20.ex.size
  replace hA := ht20.new
  refine V_buildSlice (Dw := Dw) (cells := #[.int .i64 (cmp_Compare_int b.score a_.score), .int .i64 (cmp_Compare_int a_.id_ b.id_)]) (l := ([(cmp_Compare_int b.score a_.score), (cmp_Compare_int a_.id_ b.id_)] : List Int)) (len := 2) Tryz.underlying22 Tryz.sizeOf3 Tryz.zeroValue3 rfl (by generalize ((cmp_Compare_int b.score a_.score) : Int) = z25; generalize ((cmp_Compare_int a_.id_ b.id_) : Int) = z26; kernel_rfl) (show (2 * 1 : Nat) ≠ 0 by decide) (show (2 * 1 : Nat) ≤ 2 ^ 24 by decide) hA ⟨[.int .i64 (cmp_Compare_int b.score a_.score)], _, rfl, rfl, ⟨[.int .i64 (cmp_Compare_int a_.id_ b.id_)], _, rfl, rfl, rfl⟩⟩ rfl rfl ?_
  intro v21 w22 hk24 h23
  have ht27 := Kp.tr (Dw := Dw) hk24 hA hB
  replace hH := Hp.kp (Dw := Dw) hH hk24
  replace h4 := El.tr (Dw := Dw) h4 ht27
  replace h11 := El.tr (Dw := Dw) h11 ht27
  replace h14 := El.tr (Dw := Dw) h14 ht27
  replace h15 := El.tr (Dw := Dw) h15 ht27
  replace h16 := El.tr (Dw := Dw) h16 ht27
  replace h17 := El.tr (Dw := Dw) h17 ht27
  replace hK := Tr.trans (Dw := Dw) hK ht27
  replace hB := Nat.le_trans hB ht27.ex.size
  replace hA := ht27.new
  obtain ⟨x28, hx28, hm⟩ := Option.bind_eq_some_iff.1 hm
  refine V_call Tryz.call13 rfl rfl rfl rfl (cmp_Or_int_c w22 ([(cmp_Compare_int b.score a_.score), (cmp_Compare_int a_.id_ b.id_)] : List Int) v21 h23 hx28) ?_
  rintro _ _ ⟨rfl, rfl⟩
  refine V_y (Y_assign rfl) rfl rfl rfl ?_
  refine V_to (fun _ _ => rfl) ?_
  obtain rfl := Option.some.inj hm
  refine C_ret ?_
  try simp only [↓inBlock_ret, ↓then_ret]
  exact retQ rfl (Res.one Tryz.results51 rfl) ⟨rfl, hK.kp⟩

set_option maxRecDepth 4000 in
set_option maxHeartbeats 4000000 in
theorem portref2_ranked_c (w : World) {A : Nat → Prop} {B : Nat} (hB : B ≤ w.heap.size) (hA : ∀ b, w.heap.size ≤ b → A b) (l : (List know_Hit)) (v_l : Value) (most : Int) {L : List Ob} (hH : Hp B A w (obS (α := know_Hit) 32 v_l l :: L)) {r : (List know_Hit)} (hm : portref2_ranked l most = some r) : Ret Tryz.prog 28 #[v_l, .int .i64 most] w fun v w' => ∃ s0, ∃ A1 : Nat → Prop, v = s0 ∧ Sl A1 w' s0 r ∧ Hp B A1 w' (L) ∧ Tr Dw B A w A1 w' := by
  unfold portref2_ranked at hm
  refine enter Tryz.func28 rfl Tryz.ntmps28 rfl ?_
  have hK : Tr Dw B A w A w := Tr.refl (Dw := Dw) hA
  refine C_seq ?_
  refine C_region ?_
  refine V_y (Y_assign rfl) rfl rfl rfl ?_
  refine V_to (fun _ _ => rfl) ?_
  refine C_seq ?_
  refine C_region ?_
  refine V_y (Y_move rfl) rfl rfl rfl ?_
  obtain ⟨x1, hx1, hm⟩ := Option.bind_eq_some_iff.1 hm
  refine V_call Tryz.call41 rfl rfl rfl rfl (Tryz_sf41 (Dw := Dw) Tryz.call51 (fun w7 ht8 h9 p11 q14 c12 c15 c17 h13 h16 h10 => by obtain ⟨rfl, _⟩ := Rep_know_Hit h13; obtain ⟨rfl, _⟩ := Rep_know_Hit h16; exact (portref2_ranked_1_c (Dw := True) w7 h9 p11 q14 h10).mono fun _ _ h => ⟨h.1, h.2⟩) hH (i := 0) rfl hB hA hx1) ?_
  rintro _ w2 ⟨rfl, hH3, ht4⟩
  replace hK := Tr.trans (Dw := Dw) hK ht4
  replace hB := Nat.le_trans hB ht4.ex.size
  replace hA := ht4.new
  replace hH : Hp B A w2 (obS (α := know_Hit) 32 v_l x1 :: L) := hH3
  refine V_to (fun _ _ => rfl) ?_
  refine C_seq ?_
  refine C_region ?_
  refine V_y (Y_move rfl) rfl rfl rfl ?_
  refine V_y (Y_move rfl) rfl rfl rfl ?_
  refine V_y (Y_lenSl (Hp.any (α := know_Hit) (e := 32) (v := v_l) (l := x1) hH (i := 0) rfl) rfl Tryz.underlying26 rfl) rfl rfl rfl ?_
  refine V_y (Y_move rfl) rfl rfl rfl ?_
  refine V_y (Y_min2 rfl rfl) rfl rfl rfl ?_
  obtain ⟨A18, ht19, h20, hH21⟩ := Hp.freeze (Dw := Dw) (α := know_Hit) (v := v_l) (l := x1) hH (i := 0) rfl hA
  replace hK := Tr.trans (Dw := Dw) hK ht19
  replace hB := Nat.le_trans hB ht19.ex.size
  replace hA := ht19.new
  replace hH : Hp B A18 w2 (L) := hH21
  obtain ⟨x23, hx23, hm⟩ := Option.bind_eq_some_iff.1 hm
  obtain ⟨v24, h25, h25y⟩ := sliceL_val hx23 h20
  refine V_y (Y_sliceLH h25y Tryz.underlying26 Tryz.sizeOf32 rfl rfl) rfl rfl rfl ?_
  refine V_y (Y_assign rfl) rfl rfl rfl ?_
  refine V_to (fun _ _ => rfl) ?_
  obtain rfl := Option.some.inj hm
  refine C_ret ?_
  try simp only [↓inBlock_ret, ↓then_ret]
  exact retQ rfl (Res.one Tryz.results28 rfl) ⟨v24, A18, rfl, h25, hH, hK⟩

set_option maxRecDepth 4000 in
set_option maxHeartbeats 4000000 in
theorem portref2_SuggestOf_c (w : World) {A : Nat → Prop} (hA : ∀ b, w.heap.size ≤ b → A b) (x : know_Index) (v_x0 : Value) (h_x0 : Sl A w v_x0 x.ids) (v_x1 : Value) (h_x1 : Sl A w v_x1 x.sizes) (v_x2 : Value) (h_x2 : Sl A w v_x2 x.terms) (text : ByteArray) (sent : (List Int)) (v_sent : Value) (h_sent : Sl A w v_sent sent) (most : Int) {r : ((List know_Hit) × Int)} (hm : portref2_SuggestOf x text sent most = some r) : Ret Tryz.prog 5 #[.agg #[v_x0, v_x1, v_x2], .string text, v_sent, .int .i64 most] w fun v w' => ∃ s0, v = .tuple #[s0, .int .i64 r.2] ∧ Sl A w' s0 r.1 ∧ Kp False w w' := by
  unfold portref2_SuggestOf at hm
  refine enter Tryz.func5 rfl Tryz.ntmps5 rfl ?_
  have hA0 := hA
  have hB := Nat.le_refl w.heap.size
  have hK : Tr False w.heap.size A w A w := Tr.refl (Dw := False) hA
  have hH : Hp w.heap.size A w [] := Hp.nil
  refine C_seq ?_
  refine C_region ?_
  refine V_box rfl rfl ?_
  intro b9 w10 h11
  have hk13 := h11.kp (Dw := False)
  have h12 : El (α := know_Index) A w10 b9 0 x := h11.el hA ⟨[v_x0], _, rfl, ⟨_, rfl, h_x0⟩, ⟨[v_x1], _, rfl, ⟨_, rfl, h_x1⟩, ⟨_, rfl, h_x2⟩⟩⟩
  have ht14 := Kp.tr (Dw := False) hk13 hA hB
  replace hH := Hp.kp (Dw := False) hH hk13
  replace h_x0 := Sl.tr (Dw := False) h_x0 ht14
  replace h_x1 := Sl.tr (Dw := False) h_x1 ht14
  replace h_x2 := Sl.tr (Dw := False) h_x2 ht14
  replace h_sent := Sl.tr (Dw := False) h_sent ht14
  replace hK := Tr.trans (Dw := False) hK ht14
  replace hB := Nat.le_trans hB ht14.ex.size
  replace hA := ht14.new
  refine V_y (Y_assign rfl) rfl rfl rfl ?_
  refine V_y (Y_assign rfl) rfl rfl rfl ?_
  refine V_to (fun _ _ => rfl) ?_
  refine C_seq ?_
  refine C_seq ?_
  refine C_region ?_
  obtain ⟨v15, v17, v19, h21, h16, h18, h20⟩ := El_know_Index h12
  refine V_y (Y_loadA h21 Tryz.isAgg25 Tryz.sizeOf25 rfl) rfl rfl rfl ?_
  obtain ⟨x22, hx22, hm⟩ := Option.bind_eq_some_iff.1 hm
  refine V_call Tryz.call20 rfl rfl rfl rfl (portref2_IndexFault_c (Dw := False) w10 hA x v15 h16 v17 h18 v19 h20 hx22) ?_
  rintro _ w23 ⟨rfl, hk24⟩
  have ht25 := Kp.tr (Dw := False) hk24 hA hB
  replace hH := Hp.kp (Dw := False) hH hk24
  replace h_sent := Sl.tr (Dw := False) h_sent ht25
  replace h12 := El.tr (Dw := False) h12 ht25
  replace h16 := Sl.tr (Dw := False) h16 ht25
  replace h18 := Sl.tr (Dw := False) h18 ht25
  replace h20 := Sl.tr (Dw := False) h20 ht25
  replace hK := Tr.trans (Dw := False) hK ht25
  replace hB := Nat.le_trans hB ht25.ex.size
  replace hA := ht25.new
  refine V_y (Y_assign rfl) rfl rfl rfl ?_
  refine V_to (fun _ _ => rfl) ?_
  refine C_seq ?_
  refine C_region ?_
  refine V_y (Y_move rfl) rfl rfl rfl ?_
  refine V_y (Y_neq rfl rfl) rfl rfl rfl ?_
  refine V_to (fun _ _ => rfl) ?_
  refine C_cond rfl (fun hc26 => ?_) (fun hc26 => ?_)
  · rw [if_pos hc26] at hm
    refine C_seq ?_
    refine C_region ?_
    refine V_y (Y_move rfl) rfl rfl rfl ?_
    refine V_y (Y_assign rfl) rfl rfl rfl ?_
    refine V_y (Y_assign rfl) rfl rfl rfl ?_
    refine V_to (fun _ _ => rfl) ?_
    obtain rfl := Option.some.inj hm
    refine C_ret ?_
    try simp only [↓inBlock_ret, ↓then_ret]
    exact retQ rfl (Res.two Tryz.results5 rfl rfl) ⟨.slice none 0 0, rfl, Sl.nil, hK.kp⟩
  · rw [if_neg (nt hc26)] at hm
    refine C_skip_to (fun _ _ => rfl) ?_
    refine C_seq ?_
    refine C_seq ?_
    refine C_region ?_
    refine V_y (Y_move rfl) rfl rfl rfl ?_
    refine V_y (Y_lenStr rfl Tryz.underlying9 rfl) rfl rfl rfl ?_
    refine V_y (Y_gtr rfl rfl) rfl rfl rfl ?_
    refine V_y (Y_move rfl) rfl rfl rfl ?_
    refine V_cut 4 (fun _ : Unit => [(1, .string text), (2, v_sent), (3, .int .i64 most), (4, .pointer (some ⟨b9, 0, none⟩)), (39, .bool ((decide ((20000 : Int) < (text.size : Int))) || (decide ((200 : Int) < (sent.length : Int)))))]) (fun _ w' => w23 = w') ?_ ?_
    · simp only [List.take, List.drop]
      rcases Bool.eq_false_or_eq_true (decide ((20000 : Int) < (text.size : Int))) with hc27 | hc27
      · refine V_gn rfl rfl rfl hc27 rfl rfl rfl ?_
        refine V_gn rfl rfl rfl hc27 rfl rfl rfl ?_
        refine V_gn rfl rfl rfl hc27 rfl rfl rfl ?_
        refine V_y (Y_pick_te rfl hc27 rfl) rfl rfl rfl ?_
        exact V_end fun a ha => ⟨(), ha.sub ⟨rfl, rfl, rfl, rfl, (by rw [hc27]; rfl), trivial⟩, rfl⟩
      · refine V_ge rfl rfl rfl hc27 ?_
        refine V_y (Y_move rfl) rfl rfl rfl ?_
        refine V_ge rfl rfl rfl hc27 ?_
        refine V_y (Y_lenSl h_sent rfl Tryz.underlying22 rfl) rfl rfl rfl ?_
        refine V_ge rfl rfl rfl hc27 ?_
        refine V_y (Y_gtr rfl rfl) rfl rfl rfl ?_
        refine V_y (Y_pick_fe rfl hc27 rfl) rfl rfl rfl ?_
        exact V_end fun a ha => ⟨(), ha.sub ⟨rfl, rfl, rfl, rfl, (by rw [hc27]; rfl), trivial⟩, rfl⟩
    simp only [List.take, List.drop]
    rintro _ _ rfl
    refine V_to (fun _ _ => rfl) ?_
    refine C_cond rfl (fun hc29 => ?_) (fun hc29 => ?_)
    · rw [if_pos hc29] at hm
      refine C_seq ?_
      refine C_region ?_
      refine V_y (Y_assign rfl) rfl rfl rfl ?_
      refine V_y (Y_assign rfl) rfl rfl rfl ?_
      refine V_to (fun _ _ => rfl) ?_
      obtain rfl := Option.some.inj hm
      refine C_ret ?_
      try simp only [↓inBlock_ret, ↓then_ret]
      exact retQ rfl (Res.two Tryz.results5 rfl rfl) ⟨.slice none 0 0, rfl, Sl.nil, hK.kp⟩
    · rw [if_neg (nt hc29)] at hm
      refine C_skip_to (fun _ _ => rfl) ?_
      refine C_seq ?_
      refine C_seq ?_
      refine C_region ?_
      refine V_y (Y_move rfl) rfl rfl rfl ?_
      refine V_y (Y_lss rfl rfl) rfl rfl rfl ?_
      refine V_y (Y_move rfl) rfl rfl rfl ?_
      refine V_cut 3 (fun _ : Unit => [(1, .string text), (2, v_sent), (3, .int .i64 most), (4, .pointer (some ⟨b9, 0, none⟩)), (45, .bool ((decide (most < 0)) || (decide ((100 : Int) < most))))]) (fun _ w' => w23 = w') ?_ ?_
      · simp only [List.take, List.drop]
        rcases Bool.eq_false_or_eq_true (decide (most < 0)) with hc30 | hc30
        · refine V_gn rfl rfl rfl hc30 rfl rfl rfl ?_
          refine V_gn rfl rfl rfl hc30 rfl rfl rfl ?_
          refine V_y (Y_pick_te rfl hc30 rfl) rfl rfl rfl ?_
          exact V_end fun a ha => ⟨(), ha.sub ⟨rfl, rfl, rfl, rfl, (by rw [hc30]; rfl), trivial⟩, rfl⟩
        · refine V_ge rfl rfl rfl hc30 ?_
          refine V_y (Y_move rfl) rfl rfl rfl ?_
          refine V_ge rfl rfl rfl hc30 ?_
          refine V_y (Y_gtr rfl rfl) rfl rfl rfl ?_
          refine V_y (Y_pick_fe rfl hc30 rfl) rfl rfl rfl ?_
          exact V_end fun a ha => ⟨(), ha.sub ⟨rfl, rfl, rfl, rfl, (by rw [hc30]; rfl), trivial⟩, rfl⟩
      simp only [List.take, List.drop]
      rintro _ _ rfl
      refine V_to (fun _ _ => rfl) ?_
      refine C_cond rfl (fun hc32 => ?_) (fun hc32 => ?_)
      · rw [if_pos hc32] at hm
        refine C_seq ?_
        refine C_region ?_
        refine V_y (Y_assign rfl) rfl rfl rfl ?_
        refine V_y (Y_assign rfl) rfl rfl rfl ?_
        refine V_to (fun _ _ => rfl) ?_
        obtain rfl := Option.some.inj hm
        refine C_ret ?_
        try simp only [↓inBlock_ret, ↓then_ret]
        exact retQ rfl (Res.two Tryz.results5 rfl rfl) ⟨.slice none 0 0, rfl, Sl.nil, hK.kp⟩
      · rw [if_neg (nt hc32)] at hm
        refine C_skip_to (fun _ _ => rfl) ?_
        refine C_seq ?_
        refine C_region ?_
        refine V_y (Y_assign rfl) rfl rfl rfl ?_
        refine V_to (fun _ _ => rfl) ?_
        refine C_seq ?_
        refine C_region ?_
        refine V_makeMapS (Dw := False) (B := w.heap.size) ByteArray Bool hH hB hA rfl ?_
        intro b33 w34 A35 hH36 ht37
        replace h_sent := Sl.tr (Dw := False) h_sent ht37
        replace h12 := El.tr (Dw := False) h12 ht37
        replace hK := Tr.trans (Dw := False) hK ht37
        replace hB := Nat.le_trans hB ht37.ex.size
        replace hA := ht37.new
        replace hH : Hp w.heap.size A35 w34 (obSM (κ := ByteArray) (α := Bool) b33 ([] : List (ByteArray × Bool)) :: []) := hH36
        refine V_y (Y_assign rfl) rfl rfl rfl ?_
        refine V_to (fun _ _ => rfl) ?_
        refine C_seq ?_
        refine C_seq ?_
        refine C_region ?_
        refine V_y (Y_move rfl) rfl rfl rfl ?_
        obtain ⟨x38, hx38, hm⟩ := Option.bind_eq_some_iff.1 hm
        refine V_call Tryz.call21 rfl rfl rfl rfl (portref2_WordsOf_c (Dw := False) w34 hA text hx38) ?_
        rintro v39 w41 ⟨_, rfl, h40, hk42⟩
        obtain ⟨A43, ht44, hH45⟩ := Hp.addOwnd (Dw := False) hH hB hA hk42 h40
        replace h_sent := Sl.tr (Dw := False) h_sent ht44
        replace h12 := El.tr (Dw := False) h12 ht44
        replace hK := Tr.trans (Dw := False) hK ht44
        replace hB := Nat.le_trans hB ht44.ex.size
        replace hA := ht44.new
        replace hH : Hp w.heap.size A43 w41 (obS (α := ByteArray) 9 v39 x38 :: obSM (κ := ByteArray) (α := Bool) b33 ([] : List (ByteArray × Bool)) :: []) := hH45
        refine V_y (Y_lenSl (Hp.any (α := ByteArray) (e := 9) (v := v39) (l := x38) hH (i := 0) rfl) rfl Tryz.underlying37 rfl) rfl rfl rfl ?_
        refine V_y (Y_move rfl) rfl rfl rfl ?_
        refine V_to (fun _ _ => rfl) ?_
        replace hH : Hp w.heap.size A43 w41 (obS (α := know_Term) 44 (.slice none 0 0) ([] : (List know_Term)) :: obS (α := ByteArray) 9 v39 x38 :: obSM (κ := ByteArray) (α := Bool) b33 ([] : List (ByteArray × Bool)) :: []) := Hp.addNil (α := know_Term) (e := 44) hH
        have hn70 := Hp.le (α := ByteArray) (e := 9) (v := v39) (l := x38) hH (i := 1) rfl
        obtain ⟨o46, ho46, hm⟩ := Option.bind_eq_some_iff.1 hm
        refine C_cutG (ι := (((List know_Term) × (List (ByteArray × Bool))) × Value × (Nat → Prop))) (fun ⟨s47, v53, A55⟩ => [(2, v_sent), (3, .int .i64 most), (4, .pointer (some ⟨b9, 0, none⟩)), (11, v53)]) (fun ⟨s47, v53, A55⟩ => fun w' => o46 = .fin s47 ∧ Hp w.heap.size A55 w' (obS (α := know_Term) 44 v53 s47.1 :: obS (α := ByteArray) 9 v39 x38 :: obSM (κ := ByteArray) (α := Bool) b33 s47.2 :: []) ∧ Tr False w.heap.size A43 w41 A55 w') ?_ ?_
        · refine C_block ?_
          refine C_range ho46 (fun k49 s57 a w' => ∃ i : (Value × (Nat → Prop)), Has ⟨132, [], none⟩ a ([(2, v_sent), (3, .int .i64 most), (4, .pointer (some ⟨b9, 0, none⟩)), (11, i.1), (12, .map (some b33)), (48, v39), (49, .int .i64 (x38.length : Int)), (50, .int .i64 (k49 : Int))]) ∧ Hp w.heap.size i.2 w' (obS (α := know_Term) 44 i.1 s57.1 :: obS (α := ByteArray) 9 v39 x38 :: obSM (κ := ByteArray) (α := Bool) b33 s57.2 :: []) ∧ Tr False w.heap.size A43 w41 i.2 w') (fun a ha => ⟨(.slice none 0 0, A43), ha.sub ⟨rfl, rfl, rfl, rfl, rfl, rfl, rfl, rfl, trivial⟩, ⟨hH, Tr.refl (Dw := False) hA⟩⟩) ?_
          rintro K k49 s57 a w58 ⟨⟨v59, A61⟩, ha153, hH62, hr48⟩ hle66 K69 h68
          refine C_of ?_ ha153
          replace h_sent := Sl.tr (Dw := False) h_sent hr48
          replace h12 := El.tr (Dw := False) h12 hr48
          replace hK := Tr.trans (Dw := False) hK hr48
          replace hB := Nat.le_trans hB hr48.ex.size
          replace hA := hr48.new
          replace hH : Hp w.heap.size A61 w58 (obS (α := know_Term) 44 v59 s57.1 :: obS (α := ByteArray) 9 v39 x38 :: obSM (κ := ByteArray) (α := Bool) b33 s57.2 :: []) := hH62
          refine C_seq (C_region (V_y (Y_lss rfl rfl) rfl rfl rfl (V_to (fun _ _ => rfl) ?_)))
          refine C_seq ?_
          refine C_cond rfl (fun hc71 => ?_) (fun hc71 => ?_)
          · have hlt67 := lt_of_dec hc71
            obtain ⟨x63, h64, h65⟩ := K69 hlt67
            refine C_skip_to (fun _ _ => rfl) ?_
            refine C_seq ?_
            obtain ⟨s73, ho72, h64⟩ := Option.bind_eq_some_iff.1 h64
            refine C_cutG (ι := (Value × (Nat → Prop))) (fun ⟨v75, A80⟩ => [(2, v_sent), (3, .int .i64 most), (4, .pointer (some ⟨b9, 0, none⟩)), (11, v75), (12, .map (some b33)), (48, v39), (49, .int .i64 (x38.length : Int)), (50, .int .i64 (k49 : Int))]) (fun ⟨v75, A80⟩ => fun w' => Hp w.heap.size A80 w' (obS (α := know_Term) 44 v75 s73.1 :: obS (α := ByteArray) 9 v39 x38 :: obSM (κ := ByteArray) (α := Bool) b33 s73.2 :: []) ∧ Tr False w.heap.size A61 w58 A80 w') ?_ ?_
            · have hr74 : Tr False w.heap.size A61 w58 A61 w58 := Tr.refl (Dw := False) hA
              refine C_block ?_
              refine C_seq ?_
              refine C_region ?_
              obtain ⟨x82, hx82, ho72⟩ := Option.bind_eq_some_iff.1 ho72
              refine V_indexAddrH (α := ByteArray) (e := 9) (v := v39) (l := x38) hH (i := 1) rfl hx82 Tryz.underlying37 Tryz.sizeOf9 rfl rfl rfl ?_
              intro b83 o84 h85 hl86
              refine V_y (Y_load (El.str h85) Tryz.isAgg9 rfl) rfl rfl rfl ?_
              refine V_y (Y_assign rfl) rfl rfl rfl ?_
              refine V_to (fun _ _ => rfl) ?_
              refine C_seq ?_
              refine C_region ?_
              refine V_y (Y_move rfl) rfl rfl rfl ?_
              obtain ⟨x87, hx87, ho72⟩ := Option.bind_eq_some_iff.1 ho72
              refine V_call Tryz.call22 rfl rfl rfl rfl (portref2_StemOf_c w58 hA x82 hx87) ?_
              rintro _ w88 ⟨rfl, hk89⟩
              have ht90 := Kp.tr (Dw := False) hk89 hA hB
              replace hH := Hp.kp (Dw := False) hH hk89
              replace h_sent := Sl.tr (Dw := False) h_sent ht90
              replace h12 := El.tr (Dw := False) h12 ht90
              replace hK := Tr.trans (Dw := False) hK ht90
              replace hr48 := Tr.trans (Dw := False) hr48 ht90
              replace hr74 := Tr.trans (Dw := False) hr74 ht90
              replace hB := Nat.le_trans hB ht90.ex.size
              replace hA := ht90.new
              refine V_y (Y_assign rfl) rfl rfl rfl ?_
              refine V_to (fun _ _ => rfl) ?_
              refine C_seq ?_
              refine C_region ?_
              obtain ⟨v91, v93, v95, h97, h92, h94, h96⟩ := El_know_Index h12
              refine V_y (Y_loadA h97 Tryz.isAgg25 Tryz.sizeOf25 rfl) rfl rfl rfl ?_
              refine V_y (Y_move rfl) rfl rfl rfl ?_
              obtain ⟨x98, hx98, ho72⟩ := Option.bind_eq_some_iff.1 ho72
              refine V_call Tryz.call23 rfl rfl rfl rfl (portref2_termOf_c (Dw := False) w88 hA x v91 h92 v93 h94 v95 h96 x87 hx98) ?_
              rintro _ w101 ⟨v99, rfl, h100, hk102⟩
              have ht103 := Kp.tr (Dw := False) hk102 hA hB
              replace hH := Hp.kp (Dw := False) hH hk102
              replace h_sent := Sl.tr (Dw := False) h_sent ht103
              replace h12 := El.tr (Dw := False) h12 ht103
              replace h92 := Sl.tr (Dw := False) h92 ht103
              replace h94 := Sl.tr (Dw := False) h94 ht103
              replace h96 := Sl.tr (Dw := False) h96 ht103
              replace hK := Tr.trans (Dw := False) hK ht103
              replace hr48 := Tr.trans (Dw := False) hr48 ht103
              replace hr74 := Tr.trans (Dw := False) hr74 ht103
              replace hB := Nat.le_trans hB ht103.ex.size
              replace hA := ht103.new
              refine V_y (Y_move rfl) rfl rfl rfl ?_
              refine V_y (Y_extract rfl rfl) rfl rfl rfl ?_
              refine V_y (Y_extract rfl rfl) rfl rfl rfl ?_
              refine V_alloc Tryz.zeroValue44 rfl ?_
              intro b104 w105 h106
              have h111 : (v99).oneCell' = true := by obtain ⟨_, _, e, _⟩ := Sl.form h100; rw [e]; rfl
              refine V_storeNew h106 Tryz.sizeOf44 rfl rfl rfl rfl (by exact (List.forall_mem_cons.2 ⟨rfl, (List.forall_mem_cons.2 ⟨h111, (fun _ h => nomatch h)⟩)⟩)) ?_
              intro w107 h108
              have hk113 := h108.kp (Dw := False)
              have h112 : El (α := know_Term) A61 w107 b104 0 x98.1 := h108.el hA ⟨[.string x98.1.word], _, rfl, rfl, ⟨_, rfl, h100⟩⟩
              have ht114 := Kp.tr (Dw := False) hk113 hA hB
              replace hH := Hp.kp (Dw := False) hH hk113
              replace h_sent := Sl.tr (Dw := False) h_sent ht114
              replace h12 := El.tr (Dw := False) h12 ht114
              replace h92 := Sl.tr (Dw := False) h92 ht114
              replace h94 := Sl.tr (Dw := False) h94 ht114
              replace h96 := Sl.tr (Dw := False) h96 ht114
              replace h100 := Sl.tr (Dw := False) h100 ht114
              replace hK := Tr.trans (Dw := False) hK ht114
              replace hr48 := Tr.trans (Dw := False) hr48 ht114
              replace hr74 := Tr.trans (Dw := False) hr74 ht114
              replace hB := Nat.le_trans hB ht114.ex.size
              replace hA := ht114.new
              refine V_y (Y_assign rfl) rfl rfl rfl ?_
              refine V_to (fun _ _ => rfl) ?_
              refine C_seq ?_
              refine C_region ?_
              refine V_y (Y_move rfl) rfl rfl rfl ?_
              refine V_y (Y_move rfl) rfl rfl rfl ?_
              refine V_cut 5 (fun _ : Unit => [(2, v_sent), (3, .int .i64 most), (4, .pointer (some ⟨b9, 0, none⟩)), (11, v59), (12, .map (some b33)), (15, .string x87), (16, .pointer (some ⟨b104, 0, none⟩)), (48, v39), (49, .int .i64 (x38.length : Int)), (50, .int .i64 (k49 : Int)), (68, .bool (x98.2 && (!((mapGet s57.2 x87).getD false))))]) (fun _ w' => w107 = w') ?_ ?_
              · simp only [List.take, List.drop]
                rcases Bool.eq_false_or_eq_true (x98.2) with hc115 | hc115
                · refine V_ge rfl rfl rfl hc115 ?_
                  refine V_y (Y_move rfl) rfl rfl rfl ?_
                  refine V_ge rfl rfl rfl hc115 ?_
                  refine V_y (Y_move rfl) rfl rfl rfl ?_
                  refine V_ge rfl rfl rfl hc115 ?_
                  refine V_y (Y_lookupS (κ := ByteArray) (α := Bool) (z := false) (l := s57.2) hH (i := 2) rfl Tryz.underlying55 Tryz.underlying9 Tryz.zeroValue4 rfl rfl rfl) rfl rfl rfl ?_
                  refine V_ge rfl rfl rfl hc115 ?_
                  refine V_y (Y_not rfl) rfl rfl rfl ?_
                  refine V_y (Y_pick_te rfl hc115 rfl) rfl rfl rfl ?_
                  exact V_end fun a ha => ⟨(), ha.sub ⟨rfl, rfl, rfl, rfl, rfl, rfl, rfl, rfl, rfl, rfl, (by rw [hc115]; rfl), trivial⟩, rfl⟩
                · refine V_gn rfl rfl rfl hc115 rfl rfl rfl ?_
                  refine V_gn rfl rfl rfl hc115 rfl rfl rfl ?_
                  refine V_gn rfl rfl rfl hc115 rfl rfl rfl ?_
                  refine V_gn rfl rfl rfl hc115 rfl rfl rfl ?_
                  refine V_y (Y_pick_fe rfl hc115 rfl) rfl rfl rfl ?_
                  exact V_end fun a ha => ⟨(), ha.sub ⟨rfl, rfl, rfl, rfl, rfl, rfl, rfl, rfl, rfl, rfl, (by rw [hc115]; rfl), trivial⟩, rfl⟩
              simp only [List.take, List.drop]
              rintro _ _ rfl
              refine V_to (fun _ _ => rfl) ?_
              obtain ⟨s118, ho117, ho72⟩ := Option.bind_eq_some_iff.1 ho72
              refine C_cutG (ι := (Value × (Nat → Prop))) (fun ⟨v120, A125⟩ => [(2, v_sent), (3, .int .i64 most), (4, .pointer (some ⟨b9, 0, none⟩)), (11, v120), (12, .map (some b33)), (48, v39), (49, .int .i64 (x38.length : Int)), (50, .int .i64 (k49 : Int))]) (fun ⟨v120, A125⟩ => fun w' => Hp w.heap.size A125 w' (obS (α := know_Term) 44 v120 s118.1 :: obS (α := ByteArray) 9 v39 x38 :: obSM (κ := ByteArray) (α := Bool) b33 s118.2 :: []) ∧ Tr False w.heap.size A61 w107 A125 w') ?_ ?_
              · have hr119 : Tr False w.heap.size A61 w107 A61 w107 := Tr.refl (Dw := False) hA
                refine C_cond rfl (fun hc127 => ?_) (fun hc127 => ?_)
                · rw [if_pos hc127] at ho117
                  refine C_seq ?_
                  refine C_region ?_
                  refine V_y (Y_move rfl) rfl rfl rfl ?_
                  refine V_y (Y_move rfl) rfl rfl rfl ?_
                  refine V_mapUpdateS (Dw := False) (κ := ByteArray) (α := Bool) (l := s57.2) (c := true) hH (i := 2) rfl Tryz.underlying55 Tryz.underlying9 rfl rfl rfl hB hA ?_
                  intro w128 hH129 ht130
                  replace h_sent := Sl.tr (Dw := False) h_sent ht130
                  replace h12 := El.tr (Dw := False) h12 ht130
                  replace h112 := El.tr (Dw := False) h112 ht130
                  replace hK := Tr.trans (Dw := False) hK ht130
                  replace hr48 := Tr.trans (Dw := False) hr48 ht130
                  replace hr74 := Tr.trans (Dw := False) hr74 ht130
                  replace hr119 := Tr.trans (Dw := False) hr119 ht130
                  replace hB := Nat.le_trans hB ht130.ex.size
                  replace hA := ht130.new
                  replace hH : Hp w.heap.size A61 w128 (obS (α := know_Term) 44 v59 s57.1 :: obS (α := ByteArray) 9 v39 x38 :: obSM (κ := ByteArray) (α := Bool) b33 (mapPut s57.2 x87 true) :: []) := hH129
                  refine V_to (fun _ _ => rfl) ?_
                  refine C_region ?_
                  refine V_y (Y_move rfl) rfl rfl rfl ?_
                  obtain ⟨v131, h133, h132⟩ := El_know_Term h112
                  refine V_y (Y_loadA h133 Tryz.isAgg44 Tryz.sizeOf44 rfl) rfl rfl rfl ?_
                  refine V_buildSlice (Dw := False) (cells := #[.string x98.1.word, v131]) (l := ([x98.1] : List know_Term)) (len := 1) Tryz.underlying23 Tryz.sizeOf44 Tryz.zeroValue44 rfl (by obtain ⟨a138, c139, e140, _⟩ := Sl.form h132; subst e140; kernel_rfl) (show (1 * 2 : Nat) ≠ 0 by decide) (show (1 * 2 : Nat) ≤ 2 ^ 24 by decide) hA ⟨[.string x98.1.word, v131], _, rfl, ⟨[.string x98.1.word], _, rfl, rfl, ⟨_, rfl, h132⟩⟩, rfl⟩ rfl rfl ?_
                  intro v134 w135 hk137 h136
                  have ht141 := Kp.tr (Dw := False) hk137 hA hB
                  replace hH := Hp.kp (Dw := False) hH hk137
                  replace h_sent := Sl.tr (Dw := False) h_sent ht141
                  replace h12 := El.tr (Dw := False) h12 ht141
                  replace h112 := El.tr (Dw := False) h112 ht141
                  replace h132 := Sl.tr (Dw := False) h132 ht141
                  replace hK := Tr.trans (Dw := False) hK ht141
                  replace hr48 := Tr.trans (Dw := False) hr48 ht141
                  replace hr74 := Tr.trans (Dw := False) hr74 ht141
                  replace hr119 := Tr.trans (Dw := False) hr119 ht141
                  replace hB := Nat.le_trans hB ht141.ex.size
                  replace hA := ht141.new
                  obtain ⟨x142, hx142, ho117⟩ := Option.bind_eq_some_iff.1 ho117
                  refine V_appendH (Dw := False) (e := 44) (v := v59) (l := s57.1) (ti := Tryz.t44) (bytes := 40) (lim := 3518437208883) hH (i := 0) rfl h136 hx142 Tryz.underlying23 Tryz_info44 rfl rfl rfl rfl (by decide) (by decide) (by decide) hB hA rfl rfl rfl ?_
                  intro v143 w144 A145 hH146 ht147
                  replace h_sent := Sl.tr (Dw := False) h_sent ht147
                  replace h12 := El.tr (Dw := False) h12 ht147
                  replace h112 := El.tr (Dw := False) h112 ht147
                  replace h132 := Sl.tr (Dw := False) h132 ht147
                  replace h136 := Sl.tr (Dw := False) h136 ht147
                  replace hK := Tr.trans (Dw := False) hK ht147
                  replace hr48 := Tr.trans (Dw := False) hr48 ht147
                  replace hr74 := Tr.trans (Dw := False) hr74 ht147
                  replace hr119 := Tr.trans (Dw := False) hr119 ht147
                  replace hB := Nat.le_trans hB ht147.ex.size
                  replace hA := ht147.new
                  replace hH : Hp w.heap.size A145 w144 (obS (α := know_Term) 44 v143 x142 :: obS (α := ByteArray) 9 v39 x38 :: obSM (κ := ByteArray) (α := Bool) b33 (mapPut s57.2 x87 true) :: []) := hH146
                  refine V_y (Y_assign rfl) rfl rfl rfl ?_
                  obtain rfl := Option.some.inj ho117
                  refine V_end (fun a ha148 => ?_)
                  exact ⟨(v143, A145), ha148.sub ⟨rfl, rfl, rfl, rfl, rfl, rfl, rfl, rfl, trivial⟩, ⟨hH, hr119⟩⟩
                · rw [if_neg (nt hc127)] at ho117
                  obtain rfl := Option.some.inj ho117
                  refine C_skip (fun a ha149 => ?_)
                  exact ⟨(v59, A61), ha149.sub ⟨rfl, rfl, rfl, rfl, rfl, rfl, rfl, rfl, trivial⟩, ⟨hH, hr119⟩⟩
              rintro ⟨v120, A125⟩ w122 ⟨hH126, hk123⟩ a ha124
              replace h_sent := Sl.tr (Dw := False) h_sent hk123
              replace h12 := El.tr (Dw := False) h12 hk123
              replace hK := Tr.trans (Dw := False) hK hk123
              replace hr48 := Tr.trans (Dw := False) hr48 hk123
              replace hr74 := Tr.trans (Dw := False) hr74 hk123
              replace hB := Nat.le_trans hB hk123.ex.size
              replace hA := hk123.new
              replace hH : Hp w.heap.size A125 w122 (obS (α := know_Term) 44 v120 s118.1 :: obS (α := ByteArray) 9 v39 x38 :: obSM (κ := ByteArray) (α := Bool) b33 s118.2 :: []) := hH126
              obtain rfl := Option.some.inj ho72
              exact ⟨(v120, A125), ha124.sub ⟨rfl, rfl, rfl, rfl, rfl, rfl, rfl, rfl, trivial⟩, ⟨hH, hr74⟩⟩
            rintro ⟨v75, A80⟩ w77 ⟨hH81, hk78⟩ a ha79
            replace h_sent := Sl.tr (Dw := False) h_sent hk78
            replace h12 := El.tr (Dw := False) h12 hk78
            replace hK := Tr.trans (Dw := False) hK hk78
            replace hr48 := Tr.trans (Dw := False) hr48 hk78
            replace hB := Nat.le_trans hB hk78.ex.size
            replace hA := hk78.new
            replace hH : Hp w.heap.size A80 w77 (obS (α := know_Term) 44 v75 s73.1 :: obS (α := ByteArray) 9 v39 x38 :: obSM (κ := ByteArray) (α := Bool) b33 s73.2 :: []) := hH81
            refine C_at (n := ⟨132, [], none⟩) (fun _ _ => rfl) ?_ ha79
            refine C_region ?_
            refine V_y (Y_addI rfl rfl) rfl rfl rfl ?_
            refine V_y (Y_move rfl) rfl rfl rfl ?_
            obtain rfl := Option.some.inj h64
            refine V_end (fun a ha151 => ?_)
            exact ⟨(s73.1, s73.2), hlt67, h65, ⟨(v75, A80), ha151.sub ⟨rfl, rfl, rfl, rfl, rfl, rfl, rfl, (congrArg (fun z => some (Value.int .i64 z)) (w64_succ hlt67 hn70)), trivial⟩, ⟨hH, hr48⟩⟩⟩
          · refine C_exit (fun a ha152 => ?_)
            exact ⟨((s57.1, s57.2), v59, A61), ha152.sub ⟨rfl, rfl, rfl, rfl, trivial⟩, ⟨(h68 (eq_of_dec hle66 hc71)).symm, hH, hr48⟩⟩
        rintro ⟨s47, v53, A55⟩ w50 ⟨rfl, hH56, hk51⟩ a ha52
        rw [Lp.andThen_fin] at hm
        replace h_sent := Sl.tr (Dw := False) h_sent hk51
        replace h12 := El.tr (Dw := False) h12 hk51
        replace hK := Tr.trans (Dw := False) hK hk51
        replace hB := Nat.le_trans hB hk51.ex.size
        replace hA := hk51.new
        replace hH : Hp w.heap.size A55 w50 (obS (α := know_Term) 44 v53 s47.1 :: obS (α := ByteArray) 9 v39 x38 :: obSM (κ := ByteArray) (α := Bool) b33 s47.2 :: []) := hH56
        refine C_at (n := ⟨132, [], none⟩) (fun _ _ => rfl) ?_ ha52
        refine C_seq ?_
        refine C_region ?_
        refine V_y (Y_move rfl) rfl rfl rfl ?_
        obtain ⟨x154, hx154, hm⟩ := Option.bind_eq_some_iff.1 hm
        refine V_call Tryz.call11 rfl rfl rfl rfl (Tryz_sf11 (Dw := False) Tryz.call24 (fun w160 ht161 h162 p164 q169 c165 c170 c174 h166 h171 h163 => by obtain ⟨v167, rfl, h168⟩ := Rep_know_Term h166; obtain ⟨v172, rfl, h173⟩ := Rep_know_Term h171; exact (portref2_SuggestOf_1_c (Dw := True) w160 h162 p164 v167 h168 q169 v172 h173 h163).mono fun _ _ h => ⟨h.1, h.2⟩) hH (i := 0) rfl hB hA hx154) ?_
        rintro _ w155 ⟨rfl, hH156, ht157⟩
        replace h_sent := Sl.tr (Dw := False) h_sent ht157
        replace h12 := El.tr (Dw := False) h12 ht157
        replace hK := Tr.trans (Dw := False) hK ht157
        replace hB := Nat.le_trans hB ht157.ex.size
        replace hA := ht157.new
        replace hH : Hp w.heap.size A55 w155 (obS (α := know_Term) 44 v53 x154 :: obS (α := ByteArray) 9 v39 x38 :: obSM (κ := ByteArray) (α := Bool) b33 s47.2 :: []) := hH156
        refine V_to (fun _ _ => rfl) ?_
        refine C_seq ?_
        refine C_region ?_
        refine V_y (Y_move rfl) rfl rfl rfl ?_
        refine V_y (Y_move rfl) rfl rfl rfl ?_
        refine V_y (Y_lenSl (Hp.any (α := know_Term) (e := 44) (v := v53) (l := x154) hH (i := 0) rfl) rfl Tryz.underlying23 rfl) rfl rfl rfl ?_
        refine V_y (Y_min2 rfl rfl) rfl rfl rfl ?_
        obtain ⟨x175, hx175, hm⟩ := Option.bind_eq_some_iff.1 hm
        refine V_sliceOwnH (α := know_Term) (e := 44) (v := v53) (l := x154) hH (i := 0) rfl hx175 Tryz.underlying23 Tryz.sizeOf44 hA rfl rfl rfl ?_
        intro v176 hH177
        replace hH : Hp w.heap.size A55 w155 (obS (α := know_Term) 44 v176 x175 :: obS (α := ByteArray) 9 v39 x38 :: obSM (κ := ByteArray) (α := Bool) b33 s47.2 :: []) := hH177
        refine V_y (Y_assign rfl) rfl rfl rfl ?_
        refine V_to (fun _ _ => rfl) ?_
        refine C_seq ?_
        refine C_region ?_
        refine V_y (Y_assign rfl) rfl rfl rfl ?_
        refine V_to (fun _ _ => rfl) ?_
        refine C_seq ?_
        refine C_seq ?_
        refine C_region ?_
        have h178 := El_know_Index_0 h12
        refine V_y (Y_fieldAddr Tryz.underlying25 rfl Tryz.sizeOf22 (by decide) rfl) rfl rfl rfl ?_
        obtain ⟨v179, h180, h181⟩ := El.list h178
        refine V_y (Y_load h180 Tryz.isAgg22 rfl) rfl rfl rfl ?_
        refine V_y (Y_lenSl h181 rfl Tryz.underlying22 rfl) rfl rfl rfl ?_
        refine V_y (Y_move rfl) rfl rfl rfl ?_
        refine V_to (fun _ _ => rfl) ?_
        obtain ⟨A182, ht183, h184, hH185⟩ := Hp.freeze (Dw := False) (α := know_Term) (v := v176) (l := x175) hH (i := 0) rfl hA
        replace h_sent := Sl.tr (Dw := False) h_sent ht183
        replace h12 := El.tr (Dw := False) h12 ht183
        replace h181 := Sl.tr (Dw := False) h181 ht183
        replace hK := Tr.trans (Dw := False) hK ht183
        replace hB := Nat.le_trans hB ht183.ex.size
        replace hA := ht183.new
        replace hH : Hp w.heap.size A182 w155 (obS (α := ByteArray) 9 v39 x38 :: obSM (κ := ByteArray) (α := Bool) b33 s47.2 :: []) := hH185
        replace hH : Hp w.heap.size A182 w155 (obS (α := know_Hit) 32 (.slice none 0 0) ([] : (List know_Hit)) :: obS (α := ByteArray) 9 v39 x38 :: obSM (κ := ByteArray) (α := Bool) b33 s47.2 :: []) := Hp.addNil (α := know_Hit) (e := 32) hH
        have hn211 := Sl.le h181
        obtain ⟨o187, ho187, hm⟩ := Option.bind_eq_some_iff.1 hm
        refine C_cutG (ι := ((List know_Hit) × Value × (Nat → Prop))) (fun ⟨s188, v194, A196⟩ => [(3, .int .i64 most), (18, v194)]) (fun ⟨s188, v194, A196⟩ => fun w' => o187 = .fin s188 ∧ Hp w.heap.size A196 w' (obS (α := know_Hit) 32 v194 s188 :: obS (α := ByteArray) 9 v39 x38 :: obSM (κ := ByteArray) (α := Bool) b33 s47.2 :: []) ∧ Tr False w.heap.size A182 w155 A196 w') ?_ ?_
        · refine C_block ?_
          refine C_range ho187 (fun k190 s198 a w' => ∃ i : (Value × (Nat → Prop)), Has ⟨132, [], none⟩ a ([(2, v_sent), (3, .int .i64 most), (4, .pointer (some ⟨b9, 0, none⟩)), (11, v176), (18, i.1), (84, v179), (85, .int .i64 (x.ids.length : Int)), (86, .int .i64 (k190 : Int))]) ∧ Hp w.heap.size i.2 w' (obS (α := know_Hit) 32 i.1 s198 :: obS (α := ByteArray) 9 v39 x38 :: obSM (κ := ByteArray) (α := Bool) b33 s47.2 :: []) ∧ Tr False w.heap.size A182 w155 i.2 w') (fun a ha => ⟨(.slice none 0 0, A182), ha.sub ⟨rfl, rfl, rfl, rfl, rfl, rfl, rfl, rfl, trivial⟩, ⟨hH, Tr.refl (Dw := False) hA⟩⟩) ?_
          rintro K k190 s198 a w199 ⟨⟨v200, A202⟩, ha352, hH203, hr189⟩ hle207 K210 h209
          refine C_of ?_ ha352
          replace h_sent := Sl.tr (Dw := False) h_sent hr189
          replace h12 := El.tr (Dw := False) h12 hr189
          replace h184 := Sl.tr (Dw := False) h184 hr189
          replace h181 := Sl.tr (Dw := False) h181 hr189
          replace hK := Tr.trans (Dw := False) hK hr189
          replace hB := Nat.le_trans hB hr189.ex.size
          replace hA := hr189.new
          replace hH : Hp w.heap.size A202 w199 (obS (α := know_Hit) 32 v200 s198 :: obS (α := ByteArray) 9 v39 x38 :: obSM (κ := ByteArray) (α := Bool) b33 s47.2 :: []) := hH203
          refine C_seq (C_region (V_y (Y_lss rfl rfl) rfl rfl rfl (V_to (fun _ _ => rfl) ?_)))
          refine C_seq ?_
          refine C_cond rfl (fun hc212 => ?_) (fun hc212 => ?_)
          · have hlt208 := lt_of_dec hc212
            obtain ⟨x204, h205, h206⟩ := K210 hlt208
            refine C_skip_to (fun _ _ => rfl) ?_
            refine C_seq ?_
            obtain ⟨s214, ho213, h205⟩ := Option.bind_eq_some_iff.1 h205
            refine C_cutG (ι := (Value × (Nat → Prop))) (fun ⟨v216, A221⟩ => [(2, v_sent), (3, .int .i64 most), (4, .pointer (some ⟨b9, 0, none⟩)), (11, v176), (18, v216), (84, v179), (85, .int .i64 (x.ids.length : Int)), (86, .int .i64 (k190 : Int))]) (fun ⟨v216, A221⟩ => fun w' => Hp w.heap.size A221 w' (obS (α := know_Hit) 32 v216 s214 :: obS (α := ByteArray) 9 v39 x38 :: obSM (κ := ByteArray) (α := Bool) b33 s47.2 :: []) ∧ Tr False w.heap.size A202 w199 A221 w') ?_ ?_
            · have hr215 : Tr False w.heap.size A202 w199 A202 w199 := Tr.refl (Dw := False) hA
              refine C_block ?_
              refine C_seq ?_
              refine C_region ?_
              obtain ⟨x223, hx223, ho213⟩ := Option.bind_eq_some_iff.1 ho213
              refine V_indexAddr h181 hx223 Tryz.underlying22 Tryz.sizeOf3 rfl rfl rfl ?_
              intro b224 o225 h226
              refine V_y (Y_load (El.int h226) Tryz.isAgg3 rfl) rfl rfl rfl ?_
              refine V_y (Y_assign rfl) rfl rfl rfl ?_
              refine V_to (fun _ _ => rfl) ?_
              refine C_seq ?_
              refine C_region ?_
              refine V_y (Y_move rfl) rfl rfl rfl ?_
              refine V_y (Y_build Tryz.underlying32 Tryz.zeroValue32 (Tryz_places32 _ Tryz.underlying32) rfl (by with_unfolding_all rfl)) rfl rfl rfl ?_
              refine V_allocH (Dw := False) (B := w.heap.size) hH Tryz.zeroValue32 hB hA rfl ?_
              intro b227 w228 A229 hH230 ht231
              replace h_sent := Sl.tr (Dw := False) h_sent ht231
              replace h12 := El.tr (Dw := False) h12 ht231
              replace h184 := Sl.tr (Dw := False) h184 ht231
              replace h181 := Sl.tr (Dw := False) h181 ht231
              replace hK := Tr.trans (Dw := False) hK ht231
              replace hr189 := Tr.trans (Dw := False) hr189 ht231
              replace hr215 := Tr.trans (Dw := False) hr215 ht231
              replace hB := Nat.le_trans hB ht231.ex.size
              replace hA := ht231.new
              replace hH : Hp w.heap.size A229 w228 (obC b227 [.int .i64 0, .int .i64 0] 32 :: obS (α := know_Hit) 32 v200 s198 :: obS (α := ByteArray) 9 v39 x38 :: obSM (κ := ByteArray) (α := Bool) b33 s47.2 :: []) := hH230
              refine V_storeC (Dw := False) (off := 0) (ds := [.int .i64 x223, .int .i64 0]) hH (i := 0) rfl Tryz.sizeOf32 rfl (Nat.le_of_ble_eq_true rfl) (by simp [Value.cells, Value.oneCell']) rfl hB hA rfl rfl ?_
              intro w232 hH233 ht234
              replace h_sent := Sl.tr (Dw := False) h_sent ht234
              replace h12 := El.tr (Dw := False) h12 ht234
              replace h184 := Sl.tr (Dw := False) h184 ht234
              replace h181 := Sl.tr (Dw := False) h181 ht234
              replace hK := Tr.trans (Dw := False) hK ht234
              replace hr189 := Tr.trans (Dw := False) hr189 ht234
              replace hr215 := Tr.trans (Dw := False) hr215 ht234
              replace hB := Nat.le_trans hB ht234.ex.size
              replace hA := ht234.new
              replace hH : Hp w.heap.size A229 w232 (obC b227 [.int .i64 x223, .int .i64 0] 32 :: obS (α := know_Hit) 32 v200 s198 :: obS (α := ByteArray) 9 v39 x38 :: obSM (κ := ByteArray) (α := Bool) b33 s47.2 :: []) := hH233
              refine V_y (Y_assign rfl) rfl rfl rfl ?_
              refine V_to (fun _ _ => rfl) ?_
              refine C_seq ?_
              refine C_seq ?_
              refine C_region ?_
              refine V_y (Y_move rfl) rfl rfl rfl ?_
              refine V_y (Y_lenSl h184 rfl Tryz.underlying23 rfl) rfl rfl rfl ?_
              refine V_y (Y_move rfl) rfl rfl rfl ?_
              refine V_to (fun _ _ => rfl) ?_
              have hn255 := Sl.le h184
              obtain ⟨o235, ho235, ho213⟩ := Option.bind_eq_some_iff.1 ho213
              refine C_cutG (ι := ((Bool × know_Hit) × (Nat → Prop))) (fun ⟨s236, A242⟩ => [(2, v_sent), (3, .int .i64 most), (4, .pointer (some ⟨b9, 0, none⟩)), (11, v176), (18, v200), (20, .int .i64 x223), (21, .pointer (some ⟨b227, 0, none⟩)), (22, .bool s236.1), (84, v179), (85, .int .i64 (x.ids.length : Int)), (86, .int .i64 (k190 : Int))]) (fun ⟨s236, A242⟩ => fun w' => o235 = .fin s236 ∧ Hp w.heap.size A242 w' (obC b227 [.int .i64 s236.2.id_, .int .i64 s236.2.score] 32 :: obS (α := know_Hit) 32 v200 s198 :: obS (α := ByteArray) 9 v39 x38 :: obSM (κ := ByteArray) (α := Bool) b33 s47.2 :: []) ∧ Tr False w.heap.size A229 w232 A242 w') ?_ ?_
              · refine C_block ?_
                refine C_range ho235 (fun k238 s244 a w' => ∃ i : (Nat → Prop), Has ⟨132, [], none⟩ a ([(2, v_sent), (3, .int .i64 most), (4, .pointer (some ⟨b9, 0, none⟩)), (11, v176), (18, v200), (20, .int .i64 x223), (21, .pointer (some ⟨b227, 0, none⟩)), (22, .bool s244.1), (84, v179), (85, .int .i64 (x.ids.length : Int)), (86, .int .i64 (k190 : Int)), (92, v176), (93, .int .i64 (x175.length : Int)), (94, .int .i64 (k238 : Int))]) ∧ Hp w.heap.size i w' (obC b227 [.int .i64 s244.2.id_, .int .i64 s244.2.score] 32 :: obS (α := know_Hit) 32 v200 s198 :: obS (α := ByteArray) 9 v39 x38 :: obSM (κ := ByteArray) (α := Bool) b33 s47.2 :: []) ∧ Tr False w.heap.size A229 w232 i w') (fun a ha => ⟨A229, ha.sub ⟨rfl, rfl, rfl, rfl, rfl, rfl, rfl, rfl, rfl, rfl, rfl, rfl, rfl, rfl, trivial⟩, ⟨hH, Tr.refl (Dw := False) hA⟩⟩) ?_
                rintro K k238 s244 a w245 ⟨A246, ha321, hH247, hr237⟩ hle251 K254 h253
                refine C_of ?_ ha321
                replace h_sent := Sl.tr (Dw := False) h_sent hr237
                replace h12 := El.tr (Dw := False) h12 hr237
                replace h184 := Sl.tr (Dw := False) h184 hr237
                replace h181 := Sl.tr (Dw := False) h181 hr237
                replace hK := Tr.trans (Dw := False) hK hr237
                replace hr189 := Tr.trans (Dw := False) hr189 hr237
                replace hr215 := Tr.trans (Dw := False) hr215 hr237
                replace hB := Nat.le_trans hB hr237.ex.size
                replace hA := hr237.new
                replace hH : Hp w.heap.size A246 w245 (obC b227 [.int .i64 s244.2.id_, .int .i64 s244.2.score] 32 :: obS (α := know_Hit) 32 v200 s198 :: obS (α := ByteArray) 9 v39 x38 :: obSM (κ := ByteArray) (α := Bool) b33 s47.2 :: []) := hH247
                refine C_seq (C_region (V_y (Y_lss rfl rfl) rfl rfl rfl (V_to (fun _ _ => rfl) ?_)))
                refine C_seq ?_
                refine C_cond rfl (fun hc256 => ?_) (fun hc256 => ?_)
                · have hlt252 := lt_of_dec hc256
                  obtain ⟨x248, h249, h250⟩ := K254 hlt252
                  refine C_skip_to (fun _ _ => rfl) ?_
                  refine C_seq ?_
                  refine C_block ?_
                  refine C_seq ?_
                  refine C_region ?_
                  obtain ⟨x257, hx257, h249⟩ := Option.bind_eq_some_iff.1 h249
                  refine V_indexAddr h184 hx257 Tryz.underlying23 Tryz.sizeOf44 rfl rfl rfl ?_
                  intro b258 o259 h260
                  obtain ⟨v261, h263, h262⟩ := El_know_Term h260
                  refine V_y (Y_loadA h263 Tryz.isAgg44 Tryz.sizeOf44 rfl) rfl rfl rfl ?_
                  refine V_alloc Tryz.zeroValue44 rfl ?_
                  intro b264 w265 h266
                  have h271 : (v261).oneCell' = true := by obtain ⟨_, _, e, _⟩ := Sl.form h262; rw [e]; rfl
                  refine V_storeNew h266 Tryz.sizeOf44 rfl rfl rfl rfl (by exact (List.forall_mem_cons.2 ⟨rfl, (List.forall_mem_cons.2 ⟨h271, (fun _ h => nomatch h)⟩)⟩)) ?_
                  intro w267 h268
                  have hk273 := h268.kp (Dw := False)
                  have h272 : El (α := know_Term) A246 w267 b264 0 x257 := h268.el hA ⟨[.string x257.word], _, rfl, rfl, ⟨_, rfl, h262⟩⟩
                  have ht274 := Kp.tr (Dw := False) hk273 hA hB
                  replace hH := Hp.kp (Dw := False) hH hk273
                  replace h_sent := Sl.tr (Dw := False) h_sent ht274
                  replace h12 := El.tr (Dw := False) h12 ht274
                  replace h184 := Sl.tr (Dw := False) h184 ht274
                  replace h181 := Sl.tr (Dw := False) h181 ht274
                  replace h260 := El.tr (Dw := False) h260 ht274
                  replace h262 := Sl.tr (Dw := False) h262 ht274
                  replace hK := Tr.trans (Dw := False) hK ht274
                  replace hr189 := Tr.trans (Dw := False) hr189 ht274
                  replace hr215 := Tr.trans (Dw := False) hr215 ht274
                  replace hr237 := Tr.trans (Dw := False) hr237 ht274
                  replace hB := Nat.le_trans hB ht274.ex.size
                  replace hA := ht274.new
                  refine V_to (fun _ _ => rfl) ?_
                  refine C_seq ?_
                  refine C_region ?_
                  obtain ⟨v275, h277, h276⟩ := El_know_Term h272
                  refine V_y (Y_loadA h277 Tryz.isAgg44 Tryz.sizeOf44 rfl) rfl rfl rfl ?_
                  refine V_y (Y_move rfl) rfl rfl rfl ?_
                  obtain ⟨x278, hx278, h249⟩ := Option.bind_eq_some_iff.1 h249
                  refine V_call Tryz.call26 rfl rfl rfl rfl (portref2_postingOf_c (Dw := False) w267 hA x257 v275 h276 x223 hx278) ?_
                  rintro _ w283 ⟨v279, v281, rfl, h280, h282, hk284⟩
                  have ht285 := Kp.tr (Dw := False) hk284 hA hB
                  replace hH := Hp.kp (Dw := False) hH hk284
                  replace h_sent := Sl.tr (Dw := False) h_sent ht285
                  replace h12 := El.tr (Dw := False) h12 ht285
                  replace h184 := Sl.tr (Dw := False) h184 ht285
                  replace h181 := Sl.tr (Dw := False) h181 ht285
                  replace h272 := El.tr (Dw := False) h272 ht285
                  replace h276 := Sl.tr (Dw := False) h276 ht285
                  replace hK := Tr.trans (Dw := False) hK ht285
                  replace hr189 := Tr.trans (Dw := False) hr189 ht285
                  replace hr215 := Tr.trans (Dw := False) hr215 ht285
                  replace hr237 := Tr.trans (Dw := False) hr237 ht285
                  replace hB := Nat.le_trans hB ht285.ex.size
                  replace hA := ht285.new
                  refine V_y (Y_move rfl) rfl rfl rfl ?_
                  refine V_y (Y_extract rfl rfl) rfl rfl rfl ?_
                  refine V_y (Y_extract rfl rfl) rfl rfl rfl ?_
                  refine V_alloc Tryz.zeroValue49 rfl ?_
                  intro b286 w287 h288
                  have h293 : (v279).oneCell' = true := by obtain ⟨_, _, e, _⟩ := Sl.form h280; rw [e]; rfl
                  have h296 : (v281).oneCell' = true := by obtain ⟨_, _, e, _⟩ := Sl.form h282; rw [e]; rfl
                  refine V_storeNew h288 Tryz.sizeOf49 rfl rfl rfl rfl (by exact (List.forall_mem_cons.2 ⟨rfl, (List.forall_mem_cons.2 ⟨h293, (List.forall_mem_cons.2 ⟨h296, (fun _ h => nomatch h)⟩)⟩)⟩)) ?_
                  intro w289 h290
                  have hk298 := h290.kp (Dw := False)
                  have h297 : El (α := know_Posting) A246 w289 b286 0 x278.1 := h290.el hA ⟨[.int .i64 x278.1.id_], _, rfl, rfl, ⟨[v279], _, rfl, ⟨_, rfl, h280⟩, ⟨_, rfl, h282⟩⟩⟩
                  have ht299 := Kp.tr (Dw := False) hk298 hA hB
                  replace hH := Hp.kp (Dw := False) hH hk298
                  replace h_sent := Sl.tr (Dw := False) h_sent ht299
                  replace h12 := El.tr (Dw := False) h12 ht299
                  replace h184 := Sl.tr (Dw := False) h184 ht299
                  replace h181 := Sl.tr (Dw := False) h181 ht299
                  replace h272 := El.tr (Dw := False) h272 ht299
                  replace h276 := Sl.tr (Dw := False) h276 ht299
                  replace h280 := Sl.tr (Dw := False) h280 ht299
                  replace h282 := Sl.tr (Dw := False) h282 ht299
                  replace hK := Tr.trans (Dw := False) hK ht299
                  replace hr189 := Tr.trans (Dw := False) hr189 ht299
                  replace hr215 := Tr.trans (Dw := False) hr215 ht299
                  replace hr237 := Tr.trans (Dw := False) hr237 ht299
                  replace hB := Nat.le_trans hB ht299.ex.size
                  replace hA := ht299.new
                  refine V_y (Y_assign rfl) rfl rfl rfl ?_
                  refine V_to (fun _ _ => rfl) ?_
                  refine C_seq ?_
                  refine C_region ?_
                  refine V_y (Y_move rfl) rfl rfl rfl ?_
                  refine V_y (Y_move rfl) rfl rfl rfl ?_
                  refine V_cut 2 (fun _ : Unit => [(2, v_sent), (3, .int .i64 most), (4, .pointer (some ⟨b9, 0, none⟩)), (11, v176), (18, v200), (20, .int .i64 x223), (21, .pointer (some ⟨b227, 0, none⟩)), (24, .pointer (some ⟨b264, 0, none⟩)), (84, v179), (85, .int .i64 (x.ids.length : Int)), (86, .int .i64 (k190 : Int)), (92, v176), (93, .int .i64 (x175.length : Int)), (94, .int .i64 (k238 : Int)), (107, .bool (s244.1 || x278.2))]) (fun _ w' => w289 = w') ?_ ?_
                  · simp only [List.take, List.drop]
                    rcases Bool.eq_false_or_eq_true (s244.1) with hc300 | hc300
                    · refine V_gn rfl rfl rfl hc300 rfl rfl rfl ?_
                      refine V_y (Y_pick_te rfl hc300 rfl) rfl rfl rfl ?_
                      exact V_end fun a ha => ⟨(), ha.sub ⟨rfl, rfl, rfl, rfl, rfl, rfl, rfl, rfl, rfl, rfl, rfl, rfl, rfl, rfl, (by rw [hc300]; rfl), trivial⟩, rfl⟩
                    · refine V_ge rfl rfl rfl hc300 ?_
                      refine V_y (Y_move rfl) rfl rfl rfl ?_
                      refine V_y (Y_pick_fe rfl hc300 rfl) rfl rfl rfl ?_
                      exact V_end fun a ha => ⟨(), ha.sub ⟨rfl, rfl, rfl, rfl, rfl, rfl, rfl, rfl, rfl, rfl, rfl, rfl, rfl, rfl, (by rw [hc300]; rfl), trivial⟩, rfl⟩
                  simp only [List.take, List.drop]
                  rintro _ _ rfl
                  refine V_y (Y_assign rfl) rfl rfl rfl ?_
                  refine V_to (fun _ _ => rfl) ?_
                  refine C_region_qt (Dw := False) 8 Tryz_mixed (by kernel_rfl) ?_
                  simp only [List.take, List.drop]
                  refine VQ_y (fun w' hw' => Y_fieldAddrC (off2 := 1) Tryz.underlying32 rfl Tryz.sizeOf3 (by decide) rfl rfl) rfl rfl rfl ?_
                  refine VQ_y (fun w' hw' => Y_load ((World.cell?_of_block (hw'.block _ (World.block_lt_of_cell? _ _ (Hp.cell (j := 1) hH (i := 0) rfl rfl)))).trans (Hp.cell (j := 1) hH (i := 0) rfl rfl)) Tryz.isAgg3 rfl) rfl rfl rfl ?_
                  obtain ⟨v302, v304, v306, h308, h303, h305, h307⟩ := El_know_Index h12
                  refine VQ_y (fun w' hw' => Y_loadA (At.kp (Dw := False) h308 hw' h12.2.1) Tryz.isAgg25 Tryz.sizeOf25 rfl) rfl rfl rfl ?_
                  obtain ⟨v309, h311, h310⟩ := El_know_Term h272
                  refine VQ_y (fun w' hw' => Y_loadA (At.kp (Dw := False) h311 hw' h272.2.1) Tryz.isAgg44 Tryz.sizeOf44 rfl) rfl rfl rfl ?_
                  refine VQ_y (fun w' hw' => Y_move rfl) rfl rfl rfl ?_
                  obtain ⟨x312, hx312, h249⟩ := Option.bind_eq_some_iff.1 h249
                  refine VQ_call (.int .i64 x312) Tryz.call27 rfl rfl rfl rfl (fun w' hw' => (portref2_termScore_c (Dw := False) w' (fun b hb => hA b (Nat.le_trans hw'.size hb)) x v302 (Sl.kp (Dw := False) h303 hw') v304 (Sl.kp (Dw := False) h305 hw') v306 (Sl.kp (Dw := False) h307 hw') x257 v309 (Sl.kp (Dw := False) h310 hw') x223 hx312).mono (fun _ _ h => ⟨h.1, Kp.trans (Dw := False) hw' h.2⟩)) ?_
                  refine VQ_y (fun w' hw' => Y_addI rfl rfl) rfl rfl rfl ?_
                  refine VQ_y (fun w' hw' => Y_fieldAddrC (off2 := 1) Tryz.underlying32 rfl Tryz.sizeOf3 (by decide) rfl rfl) rfl rfl rfl ?_
                  refine VQ_tail (fun w313 hk314 => ?_)
                  try simp only [List.take, List.drop]
                  have ht315 := Kp.tr (Dw := False) hk314 hA hB
                  replace hH := Hp.kp (Dw := False) hH hk314
                  replace h_sent := Sl.tr (Dw := False) h_sent ht315
                  replace h12 := El.tr (Dw := False) h12 ht315
                  replace h184 := Sl.tr (Dw := False) h184 ht315
                  replace h181 := Sl.tr (Dw := False) h181 ht315
                  replace h272 := El.tr (Dw := False) h272 ht315
                  replace h303 := Sl.tr (Dw := False) h303 ht315
                  replace h305 := Sl.tr (Dw := False) h305 ht315
                  replace h307 := Sl.tr (Dw := False) h307 ht315
                  replace h310 := Sl.tr (Dw := False) h310 ht315
                  replace hK := Tr.trans (Dw := False) hK ht315
                  replace hr189 := Tr.trans (Dw := False) hr189 ht315
                  replace hr215 := Tr.trans (Dw := False) hr215 ht315
                  replace hr237 := Tr.trans (Dw := False) hr237 ht315
                  replace hB := Nat.le_trans hB ht315.ex.size
                  replace hA := ht315.new
                  refine V_storeC (Dw := False) (off := 1) (ds := [.int .i64 s244.2.id_, .int .i64 (w64 (s244.2.score + x312))]) hH (i := 0) rfl Tryz.sizeOf3 rfl (Nat.le_of_ble_eq_true rfl) (by simp [Value.cells, Value.oneCell']) rfl hB hA rfl rfl ?_
                  intro w316 hH317 ht318
                  replace h_sent := Sl.tr (Dw := False) h_sent ht318
                  replace h12 := El.tr (Dw := False) h12 ht318
                  replace h184 := Sl.tr (Dw := False) h184 ht318
                  replace h181 := Sl.tr (Dw := False) h181 ht318
                  replace h272 := El.tr (Dw := False) h272 ht318
                  replace h303 := Sl.tr (Dw := False) h303 ht318
                  replace h305 := Sl.tr (Dw := False) h305 ht318
                  replace h307 := Sl.tr (Dw := False) h307 ht318
                  replace h310 := Sl.tr (Dw := False) h310 ht318
                  replace hK := Tr.trans (Dw := False) hK ht318
                  replace hr189 := Tr.trans (Dw := False) hr189 ht318
                  replace hr215 := Tr.trans (Dw := False) hr215 ht318
                  replace hr237 := Tr.trans (Dw := False) hr237 ht318
                  replace hB := Nat.le_trans hB ht318.ex.size
                  replace hA := ht318.new
                  replace hH : Hp w.heap.size A246 w316 (obC b227 [.int .i64 s244.2.id_, .int .i64 (w64 (s244.2.score + x312))] 32 :: obS (α := know_Hit) 32 v200 s198 :: obS (α := ByteArray) 9 v39 x38 :: obSM (κ := ByteArray) (α := Bool) b33 s47.2 :: []) := hH317
                  refine V_to (fun _ _ => rfl) ?_
                  refine C_region ?_
                  refine V_y (Y_addI rfl rfl) rfl rfl rfl ?_
                  refine V_y (Y_move rfl) rfl rfl rfl ?_
                  obtain rfl := Option.some.inj h249
                  refine V_end (fun a ha319 => ?_)
                  exact ⟨((s244.1 || x278.2), (⟨s244.2.id_, w64 (s244.2.score + x312)⟩ : know_Hit)), hlt252, h250, ⟨A246, ha319.sub ⟨rfl, rfl, rfl, rfl, rfl, rfl, rfl, rfl, rfl, rfl, rfl, rfl, rfl, (congrArg (fun z => some (Value.int .i64 z)) (w64_succ hlt252 hn255)), trivial⟩, ⟨hH, hr237⟩⟩⟩
                · refine C_exit (fun a ha320 => ?_)
                  exact ⟨((s244.1, s244.2), A246), ha320.sub ⟨rfl, rfl, rfl, rfl, rfl, rfl, rfl, rfl, rfl, rfl, rfl, trivial⟩, ⟨(h253 (eq_of_dec hle251 hc256)).symm, hH, hr237⟩⟩
              rintro ⟨s236, A242⟩ w239 ⟨rfl, hH243, hk240⟩ a ha241
              rw [Lp.andThen_fin] at ho213
              replace h_sent := Sl.tr (Dw := False) h_sent hk240
              replace h12 := El.tr (Dw := False) h12 hk240
              replace h184 := Sl.tr (Dw := False) h184 hk240
              replace h181 := Sl.tr (Dw := False) h181 hk240
              replace hK := Tr.trans (Dw := False) hK hk240
              replace hr189 := Tr.trans (Dw := False) hr189 hk240
              replace hr215 := Tr.trans (Dw := False) hr215 hk240
              replace hB := Nat.le_trans hB hk240.ex.size
              replace hA := hk240.new
              replace hH : Hp w.heap.size A242 w239 (obC b227 [.int .i64 s236.2.id_, .int .i64 s236.2.score] 32 :: obS (α := know_Hit) 32 v200 s198 :: obS (α := ByteArray) 9 v39 x38 :: obSM (κ := ByteArray) (α := Bool) b33 s47.2 :: []) := hH243
              refine C_at (n := ⟨132, [], none⟩) (fun _ _ => rfl) ?_ ha241
              refine C_seq ?_
              refine C_region ?_
              refine V_y (Y_move rfl) rfl rfl rfl ?_
              refine V_y (Y_move rfl) rfl rfl rfl ?_
              obtain ⟨s323, hs323, ho213⟩ := Option.bind_eq_some_iff.1 ho213
              refine V_cut 5 (fun _ : Unit => [(2, v_sent), (3, .int .i64 most), (4, .pointer (some ⟨b9, 0, none⟩)), (11, v176), (18, v200), (21, .pointer (some ⟨b227, 0, none⟩)), (84, v179), (85, .int .i64 (x.ids.length : Int)), (86, .int .i64 (k190 : Int)), (123, .bool s323)]) (fun _ w' => w239 = w') ?_ ?_
              · simp only [List.take, List.drop]
                rcases Bool.eq_false_or_eq_true (s236.1) with hc322 | hc322
                · rw [if_pos hc322] at hs323
                  refine V_ge rfl rfl rfl hc322 ?_
                  refine V_y (Y_move rfl) rfl rfl rfl ?_
                  refine V_ge rfl rfl rfl hc322 ?_
                  refine V_y (Y_move rfl) rfl rfl rfl ?_
                  refine V_ge rfl rfl rfl hc322 ?_
                  obtain ⟨x324, hx324, hs323⟩ := Option.bind_eq_some_iff.1 hs323
                  refine V_call Tryz.call18 rfl rfl rfl rfl (slices_Contains_Lint_int_c w239 sent v_sent h_sent x223 hx324) ?_
                  rintro _ _ ⟨rfl, rfl⟩
                  refine V_ge rfl rfl rfl hc322 ?_
                  refine V_y (Y_not rfl) rfl rfl rfl ?_
                  refine V_y (Y_pick_te rfl hc322 rfl) rfl rfl rfl ?_
                  obtain rfl := Option.some.inj hs323
                  exact V_end fun a ha => ⟨(), ha.sub ⟨rfl, rfl, rfl, rfl, rfl, rfl, rfl, rfl, rfl, rfl, trivial⟩, rfl⟩
                · rw [if_neg (nt hc322)] at hs323
                  refine V_gn rfl rfl rfl hc322 rfl rfl rfl ?_
                  refine V_gn rfl rfl rfl hc322 rfl rfl rfl ?_
                  refine V_gn rfl rfl rfl hc322 rfl rfl rfl ?_
                  refine V_gn rfl rfl rfl hc322 rfl rfl rfl ?_
                  refine V_y (Y_pick_fe rfl hc322 rfl) rfl rfl rfl ?_
                  obtain rfl := Option.some.inj hs323
                  exact V_end fun a ha => ⟨(), ha.sub ⟨rfl, rfl, rfl, rfl, rfl, rfl, rfl, rfl, rfl, rfl, trivial⟩, rfl⟩
              simp only [List.take, List.drop]
              rintro _ _ rfl
              refine V_to (fun _ _ => rfl) ?_
              obtain ⟨s326, ho325, ho213⟩ := Option.bind_eq_some_iff.1 ho213
              refine C_cutG (ι := (Value × (Nat → Prop))) (fun ⟨v328, A333⟩ => [(2, v_sent), (3, .int .i64 most), (4, .pointer (some ⟨b9, 0, none⟩)), (11, v176), (18, v328), (84, v179), (85, .int .i64 (x.ids.length : Int)), (86, .int .i64 (k190 : Int))]) (fun ⟨v328, A333⟩ => fun w' => Hp w.heap.size A333 w' (obC b227 [.int .i64 s236.2.id_, .int .i64 s236.2.score] 32 :: obS (α := know_Hit) 32 v328 s326 :: obS (α := ByteArray) 9 v39 x38 :: obSM (κ := ByteArray) (α := Bool) b33 s47.2 :: []) ∧ Tr False w.heap.size A242 w239 A333 w') ?_ ?_
              · have hr327 : Tr False w.heap.size A242 w239 A242 w239 := Tr.refl (Dw := False) hA
                refine C_cond rfl (fun hc335 => ?_) (fun hc335 => ?_)
                · rw [if_pos hc335] at ho325
                  refine C_region ?_
                  refine V_y (Y_move rfl) rfl rfl rfl ?_
                  refine V_y (Y_loadA (Hp.part (off := 0) (n := 2) (ds := [.int .i64 s236.2.id_, .int .i64 s236.2.score]) hH (i := 0) rfl rfl) Tryz.isAgg32 Tryz.sizeOf32 rfl) rfl rfl rfl ?_
                  refine V_buildSlice (Dw := False) (cells := #[.int .i64 s236.2.id_, .int .i64 s236.2.score]) (l := ([s236.2] : List know_Hit)) (len := 1) Tryz.underlying26 Tryz.sizeOf32 Tryz.zeroValue32 rfl (by kernel_rfl) (show (1 * 2 : Nat) ≠ 0 by decide) (show (1 * 2 : Nat) ≤ 2 ^ 24 by decide) hA ⟨[.int .i64 s236.2.id_, .int .i64 s236.2.score], _, rfl, ⟨[.int .i64 s236.2.id_], _, rfl, rfl, rfl⟩, rfl⟩ rfl rfl ?_
                  intro v336 w337 hk339 h338
                  have ht340 := Kp.tr (Dw := False) hk339 hA hB
                  replace hH := Hp.kp (Dw := False) hH hk339
                  replace h_sent := Sl.tr (Dw := False) h_sent ht340
                  replace h12 := El.tr (Dw := False) h12 ht340
                  replace h184 := Sl.tr (Dw := False) h184 ht340
                  replace h181 := Sl.tr (Dw := False) h181 ht340
                  replace hK := Tr.trans (Dw := False) hK ht340
                  replace hr189 := Tr.trans (Dw := False) hr189 ht340
                  replace hr215 := Tr.trans (Dw := False) hr215 ht340
                  replace hr327 := Tr.trans (Dw := False) hr327 ht340
                  replace hB := Nat.le_trans hB ht340.ex.size
                  replace hA := ht340.new
                  obtain ⟨x341, hx341, ho325⟩ := Option.bind_eq_some_iff.1 ho325
                  refine V_appendH (Dw := False) (e := 32) (v := v200) (l := s198) (ti := Tryz.t32) (bytes := 16) (lim := 8796093022208) hH (i := 1) rfl h338 hx341 Tryz.underlying26 Tryz_info32 rfl rfl rfl rfl (by decide) (by decide) (by decide) hB hA rfl rfl rfl ?_
                  intro v342 w343 A344 hH345 ht346
                  replace h_sent := Sl.tr (Dw := False) h_sent ht346
                  replace h12 := El.tr (Dw := False) h12 ht346
                  replace h184 := Sl.tr (Dw := False) h184 ht346
                  replace h181 := Sl.tr (Dw := False) h181 ht346
                  replace h338 := Sl.tr (Dw := False) h338 ht346
                  replace hK := Tr.trans (Dw := False) hK ht346
                  replace hr189 := Tr.trans (Dw := False) hr189 ht346
                  replace hr215 := Tr.trans (Dw := False) hr215 ht346
                  replace hr327 := Tr.trans (Dw := False) hr327 ht346
                  replace hB := Nat.le_trans hB ht346.ex.size
                  replace hA := ht346.new
                  replace hH : Hp w.heap.size A344 w343 (obC b227 [.int .i64 s236.2.id_, .int .i64 s236.2.score] 32 :: obS (α := know_Hit) 32 v342 x341 :: obS (α := ByteArray) 9 v39 x38 :: obSM (κ := ByteArray) (α := Bool) b33 s47.2 :: []) := hH345
                  refine V_y (Y_assign rfl) rfl rfl rfl ?_
                  obtain rfl := Option.some.inj ho325
                  refine V_end (fun a ha347 => ?_)
                  exact ⟨(v342, A344), ha347.sub ⟨rfl, rfl, rfl, rfl, rfl, rfl, rfl, rfl, trivial⟩, ⟨hH, hr327⟩⟩
                · rw [if_neg (nt hc335)] at ho325
                  obtain rfl := Option.some.inj ho325
                  refine C_skip (fun a ha348 => ?_)
                  exact ⟨(v200, A242), ha348.sub ⟨rfl, rfl, rfl, rfl, rfl, rfl, rfl, rfl, trivial⟩, ⟨hH, hr327⟩⟩
              rintro ⟨v328, A333⟩ w330 ⟨hH334, hk331⟩ a ha332
              replace h_sent := Sl.tr (Dw := False) h_sent hk331
              replace h12 := El.tr (Dw := False) h12 hk331
              replace h184 := Sl.tr (Dw := False) h184 hk331
              replace h181 := Sl.tr (Dw := False) h181 hk331
              replace hK := Tr.trans (Dw := False) hK hk331
              replace hr189 := Tr.trans (Dw := False) hr189 hk331
              replace hr215 := Tr.trans (Dw := False) hr215 hk331
              replace hB := Nat.le_trans hB hk331.ex.size
              replace hA := hk331.new
              replace hH : Hp w.heap.size A333 w330 (obC b227 [.int .i64 s236.2.id_, .int .i64 s236.2.score] 32 :: obS (α := know_Hit) 32 v328 s326 :: obS (α := ByteArray) 9 v39 x38 :: obSM (κ := ByteArray) (α := Bool) b33 s47.2 :: []) := hH334
              obtain rfl := Option.some.inj ho213
              replace hH : Hp w.heap.size A333 w330 (obSM (κ := ByteArray) (α := Bool) b33 s47.2 :: obC b227 [.int .i64 s236.2.id_, .int .i64 s236.2.score] 32 :: obS (α := know_Hit) 32 v328 s326 :: obS (α := ByteArray) 9 v39 x38 :: []) := Hp.front hH (i := 3) rfl
              replace hH : Hp w.heap.size A333 w330 (obS (α := ByteArray) 9 v39 x38 :: obSM (κ := ByteArray) (α := Bool) b33 s47.2 :: obC b227 [.int .i64 s236.2.id_, .int .i64 s236.2.score] 32 :: obS (α := know_Hit) 32 v328 s326 :: []) := Hp.front hH (i := 3) rfl
              replace hH : Hp w.heap.size A333 w330 (obS (α := know_Hit) 32 v328 s326 :: obS (α := ByteArray) 9 v39 x38 :: obSM (κ := ByteArray) (α := Bool) b33 s47.2 :: obC b227 [.int .i64 s236.2.id_, .int .i64 s236.2.score] 32 :: []) := Hp.front hH (i := 3) rfl
              replace hH : Hp w.heap.size A333 w330 (obS (α := know_Hit) 32 v328 s326 :: obS (α := ByteArray) 9 v39 x38 :: obSM (κ := ByteArray) (α := Bool) b33 s47.2 :: []) := Hp.drop hH (i := 3) rfl
              exact ⟨(v328, A333), ha332.sub ⟨rfl, rfl, rfl, rfl, rfl, rfl, rfl, rfl, trivial⟩, ⟨hH, hr215⟩⟩
            rintro ⟨v216, A221⟩ w218 ⟨hH222, hk219⟩ a ha220
            replace h_sent := Sl.tr (Dw := False) h_sent hk219
            replace h12 := El.tr (Dw := False) h12 hk219
            replace h184 := Sl.tr (Dw := False) h184 hk219
            replace h181 := Sl.tr (Dw := False) h181 hk219
            replace hK := Tr.trans (Dw := False) hK hk219
            replace hr189 := Tr.trans (Dw := False) hr189 hk219
            replace hB := Nat.le_trans hB hk219.ex.size
            replace hA := hk219.new
            replace hH : Hp w.heap.size A221 w218 (obS (α := know_Hit) 32 v216 s214 :: obS (α := ByteArray) 9 v39 x38 :: obSM (κ := ByteArray) (α := Bool) b33 s47.2 :: []) := hH222
            refine C_at (n := ⟨132, [], none⟩) (fun _ _ => rfl) ?_ ha220
            refine C_region ?_
            refine V_y (Y_addI rfl rfl) rfl rfl rfl ?_
            refine V_y (Y_move rfl) rfl rfl rfl ?_
            obtain rfl := Option.some.inj h205
            refine V_end (fun a ha350 => ?_)
            exact ⟨s214, hlt208, h206, ⟨(v216, A221), ha350.sub ⟨rfl, rfl, rfl, rfl, rfl, rfl, rfl, (congrArg (fun z => some (Value.int .i64 z)) (w64_succ hlt208 hn211)), trivial⟩, ⟨hH, hr189⟩⟩⟩
          · refine C_exit (fun a ha351 => ?_)
            exact ⟨(s198, v200, A202), ha351.sub ⟨rfl, rfl, trivial⟩, ⟨(h209 (eq_of_dec hle207 hc212)).symm, hH, hr189⟩⟩
        rintro ⟨s188, v194, A196⟩ w191 ⟨rfl, hH197, hk192⟩ a ha193
        rw [Lp.andThen_fin] at hm
        replace hK := Tr.trans (Dw := False) hK hk192
        replace hB := Nat.le_trans hB hk192.ex.size
        replace hA := hk192.new
        replace hH : Hp w.heap.size A196 w191 (obS (α := know_Hit) 32 v194 s188 :: obS (α := ByteArray) 9 v39 x38 :: obSM (κ := ByteArray) (α := Bool) b33 s47.2 :: []) := hH197
        refine C_at (n := ⟨132, [], none⟩) (fun _ _ => rfl) ?_ ha193
        refine C_seq ?_
        refine C_region ?_
        refine V_y (Y_move rfl) rfl rfl rfl ?_
        refine V_y (Y_move rfl) rfl rfl rfl ?_
        obtain ⟨x353, hx353, hm⟩ := Option.bind_eq_some_iff.1 hm
        refine V_call Tryz.call28 rfl rfl rfl rfl (portref2_ranked_c (Dw := False) w191 hB hA s188 v194 most hH hx353) ?_
        rintro v354 w356 ⟨_, A357, rfl, h355, hH358, ht359⟩
        replace hK := Tr.trans (Dw := False) hK ht359
        replace hB := Nat.le_trans hB ht359.ex.size
        replace hA := ht359.new
        replace hH : Hp w.heap.size A357 w356 (obS (α := ByteArray) 9 v39 x38 :: obSM (κ := ByteArray) (α := Bool) b33 s47.2 :: []) := hH358
        refine V_y (Y_assign rfl) rfl rfl rfl ?_
        refine V_y (Y_assign rfl) rfl rfl rfl ?_
        refine V_to (fun _ _ => rfl) ?_
        obtain rfl := Option.some.inj hm
        refine C_ret ?_
        try simp only [↓inBlock_ret, ↓then_ret]
        exact retQ rfl (Res.two Tryz.results5 rfl rfl) ⟨v354, rfl, (Sl.out (Dw := False) h355 hA0 hK), hK.kp⟩

set_option maxRecDepth 4000 in
set_option maxHeartbeats 4000000 in
theorem slices_Equal_Lknow_Hit_know_Hit_c (w : World) {A : Nat → Prop} (hA : ∀ b, w.heap.size ≤ b → A b) (s1 : (List know_Hit)) (v_s1 : Value) (h_s1 : Sl A w v_s1 s1) (s2 : (List know_Hit)) (v_s2 : Value) (h_s2 : Sl A w v_s2 s2) {r : Bool} (hm : slices_Equal_Lknow_Hit_know_Hit s1 s2 = some r) : Ret Tryz.prog 6 #[v_s1, v_s2] w fun v w' => v = .bool r ∧ Kp Dw w w' := by
  unfold slices_Equal_Lknow_Hit_know_Hit at hm
  refine enter Tryz.func6 rfl Tryz.ntmps6 rfl ?_
  have hA0 := hA
  have hB := Nat.le_refl w.heap.size
  have hK : Tr Dw w.heap.size A w A w := Tr.refl (Dw := Dw) hA
  have hH : Hp w.heap.size A w [] := Hp.nil
  refine C_seq ?_
  refine C_region ?_
  refine V_y (Y_assign rfl) rfl rfl rfl ?_
  refine V_to (fun _ _ => rfl) ?_
  refine C_seq ?_
  refine C_seq ?_
  refine C_region ?_
  refine V_y (Y_move rfl) rfl rfl rfl ?_
  refine V_y (Y_lenSl h_s1 rfl Tryz.underlying26 rfl) rfl rfl rfl ?_
  refine V_y (Y_move rfl) rfl rfl rfl ?_
  refine V_y (Y_lenSl h_s2 rfl Tryz.underlying26 rfl) rfl rfl rfl ?_
  refine V_y (Y_neq rfl rfl) rfl rfl rfl ?_
  refine V_to (fun _ _ => rfl) ?_
  refine C_cond rfl (fun hc5 => ?_) (fun hc5 => ?_)
  · rw [if_pos hc5] at hm
    refine C_seq ?_
    refine C_region ?_
    refine V_y (Y_assign rfl) rfl rfl rfl ?_
    refine V_to (fun _ _ => rfl) ?_
    obtain rfl := Option.some.inj hm
    refine C_ret ?_
    try simp only [↓inBlock_ret, ↓then_ret]
    exact retQ rfl (Res.one Tryz.results6 rfl) ⟨rfl, hK.kp⟩
  · rw [if_neg (nt hc5)] at hm
    refine C_skip_to (fun _ _ => rfl) ?_
    refine C_seq ?_
    refine C_seq ?_
    refine C_region ?_
    refine V_y (Y_move rfl) rfl rfl rfl ?_
    refine V_y (Y_lenSl h_s1 rfl Tryz.underlying26 rfl) rfl rfl rfl ?_
    refine V_y (Y_move rfl) rfl rfl rfl ?_
    refine V_to (fun _ _ => rfl) ?_
    have hn27 := Sl.le h_s1
    obtain ⟨o6, ho6, hm⟩ := Option.bind_eq_some_iff.1 hm
    refine C_cutG (ι := (Unit × (Nat → Prop))) (fun ⟨s7, A13⟩ => []) (fun ⟨s7, A13⟩ => fun w' => o6 = .fin s7 ∧ Hp w.heap.size A13 w' ([]) ∧ Tr Dw w.heap.size A w A13 w') ?_ ?_
    · refine C_block ?_
      refine C_range ho6 (fun k9 _ a w' => ∃ i : (Nat → Prop), Has ⟨26, [], none⟩ a ([(0, v_s1), (1, v_s2), (12, .int .i64 (s1.length : Int)), (13, .int .i64 (k9 : Int))]) ∧ Hp w.heap.size i w' ([]) ∧ Tr Dw w.heap.size A w i w') (fun a ha => ⟨A, ha.sub ⟨rfl, rfl, rfl, rfl, trivial⟩, ⟨hH, Tr.refl (Dw := Dw) hA⟩⟩) ?_
      rintro K k9 _ a w17 ⟨A18, ha45, hH19, hr8⟩ hle23 K26 h25
      refine C_of ?_ ha45
      replace h_s1 := Sl.tr (Dw := Dw) h_s1 hr8
      replace h_s2 := Sl.tr (Dw := Dw) h_s2 hr8
      replace hK := Tr.trans (Dw := Dw) hK hr8
      replace hB := Nat.le_trans hB hr8.ex.size
      replace hA := hr8.new
      replace hH : Hp w.heap.size A18 w17 ([]) := hH19
      refine C_seq (C_region (V_y (Y_lss rfl rfl) rfl rfl rfl (V_to (fun _ _ => rfl) ?_)))
      refine C_seq ?_
      refine C_cond rfl (fun hc28 => ?_) (fun hc28 => ?_)
      · have hlt24 := lt_of_dec hc28
        obtain ⟨x20, h21, h22⟩ := K26 hlt24
        refine C_skip_to (fun _ _ => rfl) ?_
        refine C_seq ?_
        refine C_block ?_
        refine C_seq ?_
        refine C_region ?_
        refine V_y (Y_move rfl) rfl rfl rfl ?_
        refine V_y (Y_assign rfl) rfl rfl rfl ?_
        refine V_to (fun _ _ => rfl) ?_
        refine C_seq ?_
        refine C_region_q (Dw := Dw) Tryz_mixed (by kernel_rfl) ?_
        refine VQ_y (fun w' hw' => Y_move rfl) rfl rfl rfl ?_
        refine VQ_y (fun w' hw' => Y_move rfl) rfl rfl rfl ?_
        obtain ⟨x29, hx29, h21⟩ := Option.bind_eq_some_iff.1 h21
        refine VQ_indexAddr h_s1 hx29 Tryz.underlying26 Tryz.sizeOf32 rfl rfl rfl ?_
        intro b30 o31 h32
        obtain ⟨h33, _⟩ := El_know_Hit h32
        refine VQ_y (fun w' hw' => Y_loadA (At.kp (Dw := Dw) h33 hw' h32.2.1) Tryz.isAgg32 Tryz.sizeOf32 rfl) rfl rfl rfl ?_
        refine VQ_y (fun w' hw' => Y_move rfl) rfl rfl rfl ?_
        refine VQ_y (fun w' hw' => Y_move rfl) rfl rfl rfl ?_
        obtain ⟨x34, hx34, h21⟩ := Option.bind_eq_some_iff.1 h21
        refine VQ_indexAddr h_s2 hx34 Tryz.underlying26 Tryz.sizeOf32 rfl rfl rfl ?_
        intro b35 o36 h37
        obtain ⟨h38, _⟩ := El_know_Hit h37
        refine VQ_y (fun w' hw' => Y_loadA (At.kp (Dw := Dw) h38 hw' h37.2.1) Tryz.isAgg32 Tryz.sizeOf32 rfl) rfl rfl rfl ?_
        refine VQ_y (fun w' hw' => Y_neqA (fun w => Tryz_eqt32_10000 x29.id_ x29.score x34.id_ x34.score w) Tryz_eqg32 rfl rfl) rfl rfl rfl ?_
        refine VQ_to (fun _ _ => rfl) (fun w39 hk40 => ?_)
        have ht41 := Kp.tr (Dw := Dw) hk40 hA hB
        replace hH := Hp.kp (Dw := Dw) hH hk40
        replace h_s1 := Sl.tr (Dw := Dw) h_s1 ht41
        replace h_s2 := Sl.tr (Dw := Dw) h_s2 ht41
        replace hK := Tr.trans (Dw := Dw) hK ht41
        replace hr8 := Tr.trans (Dw := Dw) hr8 ht41
        replace hB := Nat.le_trans hB ht41.ex.size
        replace hA := ht41.new
        refine C_cond rfl (fun hc42 => ?_) (fun hc42 => ?_)
        · rw [if_pos hc42] at h21
          refine C_seq ?_
          refine C_region ?_
          refine V_y (Y_assign rfl) rfl rfl rfl ?_
          refine V_to (fun _ _ => rfl) ?_
          obtain rfl := Option.some.inj h21
          obtain rfl := (h22 : Lp.rt _ = _)
          rw [Lp.andThen_rt] at hm
          obtain rfl := Option.some.inj hm
          refine C_ret ?_
          try simp only [↓inBlock_ret, ↓then_ret]
          exact retQ rfl (Res.one Tryz.results6 rfl) ⟨rfl, hK.kp⟩
        · rw [if_neg (nt hc42)] at h21
          refine C_skip_to (fun _ _ => rfl) ?_
          refine C_region ?_
          refine V_y (Y_addI rfl rfl) rfl rfl rfl ?_
          refine V_y (Y_move rfl) rfl rfl rfl ?_
          obtain rfl := Option.some.inj h21
          refine V_end (fun a ha43 => ?_)
          exact ⟨(), hlt24, h22, ⟨A18, ha43.sub ⟨rfl, rfl, rfl, (congrArg (fun z => some (Value.int .i64 z)) (w64_succ hlt24 hn27)), trivial⟩, ⟨hH, hr8⟩⟩⟩
      · refine C_exit (fun a ha44 => ?_)
        exact ⟨((), A18), ha44.sub trivial, ⟨(h25 (eq_of_dec hle23 hc28)).symm, hH, hr8⟩⟩
    rintro ⟨s7, A13⟩ w10 ⟨rfl, hH14, hk11⟩ a ha12
    rw [Lp.andThen_fin] at hm
    replace hK := Tr.trans (Dw := Dw) hK hk11
    replace hB := Nat.le_trans hB hk11.ex.size
    replace hA := hk11.new
    replace hH : Hp w.heap.size A13 w10 ([]) := hH14
    refine C_at (n := ⟨26, [], none⟩) (fun _ _ => rfl) ?_ ha12
    refine C_seq ?_
    refine C_region ?_
    refine V_y (Y_assign rfl) rfl rfl rfl ?_
    refine V_to (fun _ _ => rfl) ?_
    obtain rfl := Option.some.inj hm
    refine C_ret ?_
    try simp only [↓inBlock_ret, ↓then_ret]
    exact retQ rfl (Res.one Tryz.results6 rfl) ⟨rfl, hK.kp⟩

set_option maxRecDepth 4000 in
set_option maxHeartbeats 4000000 in
theorem portlaw2_KnowSuggests_c (w : World) {A : Nat → Prop} (hA : ∀ b, w.heap.size ≤ b → A b) (x : know_Index) (v_x0 : Value) (h_x0 : Sl A w v_x0 x.ids) (v_x1 : Value) (h_x1 : Sl A w v_x1 x.sizes) (v_x2 : Value) (h_x2 : Sl A w v_x2 x.terms) (text : ByteArray) (sent : (List Int)) (v_sent : Value) (h_sent : Sl A w v_sent sent) (most : Int) {r : Bool} (hm : portlaw2_KnowSuggests x text sent most = some r) : Ret Tryz.prog 3 #[.agg #[v_x0, v_x1, v_x2], .string text, v_sent, .int .i64 most] w fun v w' => v = .bool r ∧ Kp False w w' := by
  unfold portlaw2_KnowSuggests at hm
  refine enter Tryz.func3 rfl Tryz.ntmps3 rfl ?_
  have hA0 := hA
  have hB := Nat.le_refl w.heap.size
  have hK : Tr False w.heap.size A w A w := Tr.refl (Dw := False) hA
  have hH : Hp w.heap.size A w [] := Hp.nil
  refine C_seq ?_
  refine C_region ?_
  refine V_box rfl rfl ?_
  intro b9 w10 h11
  have hk13 := h11.kp (Dw := False)
  have h12 : El (α := know_Index) A w10 b9 0 x := h11.el hA ⟨[v_x0], _, rfl, ⟨_, rfl, h_x0⟩, ⟨[v_x1], _, rfl, ⟨_, rfl, h_x1⟩, ⟨_, rfl, h_x2⟩⟩⟩
  have ht14 := Kp.tr (Dw := False) hk13 hA hB
  replace hH := Hp.kp (Dw := False) hH hk13
  replace h_x0 := Sl.tr (Dw := False) h_x0 ht14
  replace h_x1 := Sl.tr (Dw := False) h_x1 ht14
  replace h_x2 := Sl.tr (Dw := False) h_x2 ht14
  replace h_sent := Sl.tr (Dw := False) h_sent ht14
  replace hK := Tr.trans (Dw := False) hK ht14
  replace hB := Nat.le_trans hB ht14.ex.size
  replace hA := ht14.new
  refine V_y (Y_assign rfl) rfl rfl rfl ?_
  refine V_to (fun _ _ => rfl) ?_
  refine C_seq ?_
  refine C_region ?_
  obtain ⟨v15, v17, v19, h21, h16, h18, h20⟩ := El_know_Index h12
  refine V_y (Y_loadA h21 Tryz.isAgg25 Tryz.sizeOf25 rfl) rfl rfl rfl ?_
  refine V_y (Y_move rfl) rfl rfl rfl ?_
  refine V_y (Y_move rfl) rfl rfl rfl ?_
  refine V_y (Y_move rfl) rfl rfl rfl ?_
  obtain ⟨x22, hx22, hm⟩ := Option.bind_eq_some_iff.1 hm
  refine V_call Tryz.call4 rfl rfl rfl rfl (know_Suggest_c (Dw := False) w10 hA x v15 h16 v17 h18 v19 h20 text sent v_sent h_sent most hx22) ?_
  rintro _ w25 ⟨v23, rfl, h24, hk26⟩
  obtain ⟨A27, ht28, hH29⟩ := Hp.addOwnd (Dw := False) hH hB hA hk26 h24
  replace h_sent := Sl.tr (Dw := False) h_sent ht28
  replace h12 := El.tr (Dw := False) h12 ht28
  replace h16 := Sl.tr (Dw := False) h16 ht28
  replace h18 := Sl.tr (Dw := False) h18 ht28
  replace h20 := Sl.tr (Dw := False) h20 ht28
  replace hK := Tr.trans (Dw := False) hK ht28
  replace hB := Nat.le_trans hB ht28.ex.size
  replace hA := ht28.new
  replace hH : Hp w.heap.size A27 w25 (obS (α := know_Hit) 32 v23 x22.1 :: []) := hH29
  refine V_y (Y_move rfl) rfl rfl rfl ?_
  refine V_y (Y_extract rfl rfl) rfl rfl rfl ?_
  refine V_y (Y_extract rfl rfl) rfl rfl rfl ?_
  refine V_y (Y_assign rfl) rfl rfl rfl ?_
  refine V_y (Y_assign rfl) rfl rfl rfl ?_
  refine V_to (fun _ _ => rfl) ?_
  refine C_seq ?_
  refine C_region ?_
  obtain ⟨v30, v32, v34, h36, h31, h33, h35⟩ := El_know_Index h12
  refine V_y (Y_loadA h36 Tryz.isAgg25 Tryz.sizeOf25 rfl) rfl rfl rfl ?_
  refine V_y (Y_move rfl) rfl rfl rfl ?_
  refine V_y (Y_move rfl) rfl rfl rfl ?_
  refine V_y (Y_move rfl) rfl rfl rfl ?_
  obtain ⟨x37, hx37, hm⟩ := Option.bind_eq_some_iff.1 hm
  refine V_call Tryz.call5 rfl rfl rfl rfl (portref2_SuggestOf_c w25 hA x v30 h31 v32 h33 v34 h35 text sent v_sent h_sent most hx37) ?_
  rintro _ w40 ⟨v38, rfl, h39, hk41⟩
  have ht42 := Kp.tr (Dw := False) hk41 hA hB
  replace hH := Hp.kp (Dw := False) hH hk41
  replace h_sent := Sl.tr (Dw := False) h_sent ht42
  replace h12 := El.tr (Dw := False) h12 ht42
  replace h31 := Sl.tr (Dw := False) h31 ht42
  replace h33 := Sl.tr (Dw := False) h33 ht42
  replace h35 := Sl.tr (Dw := False) h35 ht42
  replace hK := Tr.trans (Dw := False) hK ht42
  replace hB := Nat.le_trans hB ht42.ex.size
  replace hA := ht42.new
  refine V_y (Y_move rfl) rfl rfl rfl ?_
  refine V_y (Y_extract rfl rfl) rfl rfl rfl ?_
  refine V_y (Y_extract rfl rfl) rfl rfl rfl ?_
  refine V_y (Y_assign rfl) rfl rfl rfl ?_
  refine V_y (Y_assign rfl) rfl rfl rfl ?_
  refine V_to (fun _ _ => rfl) ?_
  refine C_seq ?_
  obtain ⟨s44, ho43, hm⟩ := Option.bind_eq_some_iff.1 hm
  refine C_cutG (ι := (Nat → Prop)) (fun (A49 : (Nat → Prop)) => [(8, .bool s44)]) (fun (A49 : (Nat → Prop)) => fun w' => Hp w.heap.size A49 w' (obS (α := know_Hit) 32 v23 x22.1 :: []) ∧ Tr False w.heap.size A27 w40 A49 w') ?_ ?_
  · have hr45 : Tr False w.heap.size A27 w40 A27 w40 := Tr.refl (Dw := False) hA
    refine C_region ?_
    refine V_y (Y_move rfl) rfl rfl rfl ?_
    refine V_y (Y_move rfl) rfl rfl rfl ?_
    refine V_y (Y_eql rfl rfl) rfl rfl rfl ?_
    refine V_y (Y_move rfl) rfl rfl rfl ?_
    rcases Bool.eq_false_or_eq_true (x22.2 == x37.2) with hc51 | hc51
    · rw [if_pos hc51] at ho43
      refine V_ge rfl rfl rfl hc51 ?_
      refine V_y (Y_move rfl) rfl rfl rfl ?_
      refine V_ge rfl rfl rfl hc51 ?_
      refine V_y (Y_move rfl) rfl rfl rfl ?_
      refine V_ge rfl rfl rfl hc51 ?_
      obtain ⟨x52, hx52, ho43⟩ := Option.bind_eq_some_iff.1 ho43
      refine V_call Tryz.call6 rfl rfl rfl rfl (slices_Equal_Lknow_Hit_know_Hit_c (Dw := False) w40 (A := fun _ => True) (fun _ _ => trivial) x22.1 v23 (Hp.any (α := know_Hit) (e := 32) (v := v23) (l := x22.1) hH (i := 0) rfl) x37.1 v38 (Sl.any h39) hx52) ?_
      rintro _ w53 ⟨rfl, hk54⟩
      have ht55 := Kp.tr (Dw := False) hk54 hA hB
      replace hH := Hp.kp (Dw := False) hH hk54
      replace h39 := Sl.tr (Dw := False) h39 ht55
      replace hK := Tr.trans (Dw := False) hK ht55
      replace hr45 := Tr.trans (Dw := False) hr45 ht55
      replace hB := Nat.le_trans hB ht55.ex.size
      replace hA := ht55.new
      refine V_y (Y_pick_te rfl hc51 rfl) rfl rfl rfl ?_
      refine V_y (Y_assign rfl) rfl rfl rfl ?_
      obtain rfl := Option.some.inj ho43
      refine V_end (fun a ha56 => ?_)
      exact ⟨A27, ha56.sub ⟨rfl, trivial⟩, ⟨hH, hr45⟩⟩
    · rw [if_neg (nt hc51)] at ho43
      refine V_gn rfl rfl rfl hc51 rfl rfl rfl ?_
      refine V_gn rfl rfl rfl hc51 rfl rfl rfl ?_
      refine V_gn rfl rfl rfl hc51 rfl rfl rfl ?_
      refine V_y (Y_pick_fe rfl hc51 rfl) rfl rfl rfl ?_
      refine V_y (Y_assign rfl) rfl rfl rfl ?_
      obtain rfl := Option.some.inj ho43
      refine V_end (fun a ha57 => ?_)
      exact ⟨A27, ha57.sub ⟨rfl, trivial⟩, ⟨hH, hr45⟩⟩
  rintro A49 w46 ⟨hH50, hk47⟩ a ha48
  replace hK := Tr.trans (Dw := False) hK hk47
  replace hB := Nat.le_trans hB hk47.ex.size
  replace hA := hk47.new
  replace hH : Hp w.heap.size A49 w46 (obS (α := know_Hit) 32 v23 x22.1 :: []) := hH50
  refine C_at (n := ⟨37, [], none⟩) (fun _ _ => rfl) ?_ ha48
  obtain rfl := Option.some.inj hm
  refine C_ret ?_
  try simp only [↓inBlock_ret, ↓then_ret]
  exact retQ rfl (Res.one Tryz.results3 rfl) ⟨rfl, hK.kp⟩

end Go.Proofs.YtdfohednlmnciaaGreatDoor.W
