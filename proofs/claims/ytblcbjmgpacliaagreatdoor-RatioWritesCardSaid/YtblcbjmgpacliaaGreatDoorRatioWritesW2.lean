/-
  Written by program (gen.py) from the IR of the dump: each function computes its model.
-/
import Derived.Test.YtblcbjmgpacliaaGreatDoorRatioWritesW1
namespace Go.Proofs.YtblcbjmgpacliaaGreatDoor.W
open Go Go.RowKit Go.Pu Go.Gw Go.Proofs Go.Proofs.YtblcbjmgpacliaaGreatDoor.M
set_option linter.unusedVariables false
set_option linter.unusedSimpArgs false
variable {Dw : Prop}

set_option maxRecDepth 4000 in
set_option maxHeartbeats 4000000 in
theorem staff_checkDigits_c (w : World) (s : ByteArray) {r : Int} (hm : staff_checkDigits s = some r) : Ret Tryz.prog 33 #[.string s] w fun v w' => v = .int .i64 r ∧ w = w' := by
 unfold staff_checkDigits at hm
 refine enter Tryz.func33 rfl Tryz.ntmps33 rfl ?_
 refine C_seq ?_
 refine C_region ?_
 refine V_as rfl rfl ?_
 refine V_to (fun _ _ => rfl) ?_
 refine C_seq ?_
 refine C_seq ?_
 refine C_region ?_
 refine V_mv rfl rfl ?_
 refine V_y (Y_lenStr rfl Tryz.underlying9 rfl) rfl rfl rfl ?_
 refine V_mv rfl rfl ?_
 refine V_to (fun _ _ => rfl) ?_
 obtain ⟨o1, ho1, hm⟩ := Option.bind_eq_some_iff.1 hm
 refine C_cutG (ι := Int) (fun (s2 : Int) => [(0, .string s)]) (fun (s2 : Int) => fun w' => o1 = .fin s2 ∧ w = w') ?_ ?_
 ·refine C_block ?_
  refine C_while ho1 (fun s8 a w' => ∃ i : Unit, Has ⟨32, [], none⟩ a ([(0, .string s), (5, .int .i64 (s.size : Int)), (6, .int .i64 s8)]) ∧ w = w') (fun a ha => ⟨(), ha.sub ⟨rfl, rfl, rfl, trivial⟩, rfl⟩) ?_
  rintro K s8 a _ ⟨_, ha24, rfl⟩ K16
  refine C_of ?_ ha24
  obtain ⟨x10, h11, h12⟩ := K16
  refine C_seq ?_
  refine C_region ?_
  refine V_y (Y_lss rfl rfl) rfl rfl rfl ?_
  refine V_to (fun _ _ => rfl) ?_
  refine C_seq ?_
  refine C_cond rfl (fun hc17 => ?_) (fun hc17 => ?_)
  ·rw [if_pos hc17] at h11
   refine C_skip_to (fun _ _ => rfl) ?_
   refine C_seq ?_
   refine C_block ?_
   refine C_seq ?_
   refine C_region ?_
   refine V_mv rfl rfl ?_
   refine V_as rfl rfl ?_
   refine V_to (fun _ _ => rfl) ?_
   refine C_seq ?_
   refine C_region ?_
   refine V_mv rfl rfl ?_
   refine V_mv rfl rfl ?_
   obtain ⟨x18, hx18, h11⟩ := Option.bind_eq_some_iff.1 h11
   refine V_y (Y_indexS hx18 Tryz.underlying9 rfl rfl) rfl rfl rfl ?_
   refine V_y (Y_lss rfl rfl) rfl rfl rfl ?_
   refine V_mv rfl rfl ?_
   obtain ⟨s20, hs20, h11⟩ := Option.bind_eq_some_iff.1 h11
   refine V_cut 5 (fun _ : Unit => [(0, .string s), (5, .int .i64 (s.size : Int)), (6, .int .i64 s8), (18, .bool s20)]) (fun _ w' => w = w') ?_ ?_
   ·simp only [List.take, List.drop]
    rcases Bool.eq_false_or_eq_true (decide ((x18.toNat : Int) < 48)) with hc19 | hc19
    ·rw [if_pos hc19] at hs20
     refine V_gn rfl rfl rfl hc19 rfl rfl rfl ?_
     refine V_gn rfl rfl rfl hc19 rfl rfl rfl ?_
     refine V_gn rfl rfl rfl hc19 rfl rfl rfl ?_
     refine V_gn rfl rfl rfl hc19 rfl rfl rfl ?_
     refine V_y (Y_pick_te rfl hc19 rfl) rfl rfl rfl ?_
     obtain rfl := Option.some.inj hs20
     exact V_end fun a ha => ⟨(), ha.sub ⟨rfl, rfl, rfl, rfl, trivial⟩, rfl⟩
    ·rw [if_neg (nt hc19)] at hs20
     refine V_ge rfl rfl rfl hc19 ?_
     refine V_mv rfl rfl ?_
     refine V_ge rfl rfl rfl hc19 ?_
     refine V_mv rfl rfl ?_
     refine V_ge rfl rfl rfl hc19 ?_
     refine V_y (Y_indexS hx18 Tryz.underlying9 rfl rfl) rfl rfl rfl ?_
     refine V_ge rfl rfl rfl hc19 ?_
     refine V_y (Y_gtr rfl rfl) rfl rfl rfl ?_
     refine V_y (Y_pick_fe rfl hc19 rfl) rfl rfl rfl ?_
     obtain rfl := Option.some.inj hs20
     exact V_end fun a ha => ⟨(), ha.sub ⟨rfl, rfl, rfl, rfl, trivial⟩, rfl⟩
   simp only [List.take, List.drop]
   rintro _ _ rfl
   refine V_to (fun _ _ => rfl) ?_
   refine C_cond rfl (fun hc21 => ?_) (fun hc21 => ?_)
   ·rw [if_pos hc21] at h11
    refine C_seq ?_
    refine C_region ?_
    refine V_as rfl rfl ?_
    refine V_to (fun _ _ => rfl) ?_
    obtain rfl := Option.some.inj h11
    obtain rfl := (h12 : Lp.rt _ = _)
    rw [Lp.andThen_rt] at hm
    obtain rfl := Option.some.inj hm
    refine C_ret ?_
    try simp only [↓inBlock_ret, ↓then_ret]
    exact retQ rfl (Res.one Tryz.results33 rfl) ⟨rfl, rfl⟩
   ·rw [if_neg (nt hc21)] at h11
    refine C_skip_to (fun _ _ => rfl) ?_
    refine C_region ?_
    refine V_y (Y_addI rfl rfl) rfl rfl rfl ?_
    refine V_mv rfl rfl ?_
    obtain rfl := Option.some.inj h11
    refine V_end (fun a ha22 => ?_)
    exact ⟨w64 (s8 + 1), h12, ⟨(), ha22.sub ⟨rfl, rfl, rfl, trivial⟩, rfl⟩⟩
  ·rw [if_neg (nt hc17)] at h11
   obtain rfl := Option.some.inj h11
   refine C_exit (fun a ha23 => ?_)
   exact ⟨s8, ha23.sub ⟨rfl, trivial⟩, ⟨h12.symm, rfl⟩⟩
 rintro s2 _ ⟨rfl, rfl⟩ a ha7
 rw [Lp.andThen_fin] at hm
 refine C_at (n := ⟨32, [], none⟩) (fun _ _ => rfl) ?_ ha7
 refine C_seq ?_
 refine C_seq ?_
 refine C_region ?_
 refine V_mv rfl rfl ?_
 refine V_y (Y_seql rfl rfl) rfl rfl rfl ?_
 refine V_mv rfl rfl ?_
 obtain ⟨s26, hs26, hm⟩ := Option.bind_eq_some_iff.1 hm
 refine V_cut 9 (fun _ : Unit => [(31, .bool s26)]) (fun _ w' => w = w') ?_ ?_
 ·simp only [List.take, List.drop]
  rcases Bool.eq_false_or_eq_true (strEq s (⟨#[]⟩ : ByteArray)) with hc25 | hc25
  ·rw [if_pos hc25] at hs26
   refine V_gn rfl rfl rfl hc25 rfl rfl rfl ?_
   refine V_gn rfl rfl rfl hc25 rfl rfl rfl ?_
   refine V_gn rfl rfl rfl hc25 rfl rfl rfl ?_
   refine V_gn rfl rfl rfl hc25 rfl rfl rfl ?_
   refine V_gu rfl rfl rfl rfl rfl ?_
   refine V_gu rfl rfl rfl rfl rfl ?_
   refine V_gu rfl rfl rfl rfl rfl ?_
   refine V_gn rfl rfl rfl hc25 rfl rfl rfl ?_
   refine V_y (Y_pick_te rfl hc25 rfl) rfl rfl rfl ?_
   obtain rfl := Option.some.inj hs26
   exact V_end fun a ha => ⟨(), ha.sub ⟨rfl, trivial⟩, rfl⟩
  ·rw [if_neg (nt hc25)] at hs26
   refine V_ge rfl rfl rfl hc25 ?_
   refine V_mv rfl rfl ?_
   refine V_ge rfl rfl rfl hc25 ?_
   obtain ⟨x27, hx27, hs26⟩ := Option.bind_eq_some_iff.1 hs26
   refine V_y (Y_indexS hx27 Tryz.underlying9 rfl rfl) rfl rfl rfl ?_
   refine V_ge rfl rfl rfl hc25 ?_
   refine V_y (Y_eql rfl rfl) rfl rfl rfl ?_
   refine V_ge rfl rfl rfl hc25 ?_
   refine V_mv rfl rfl ?_
   refine V_cut 4 (fun _ : Unit => [(22, .bool (strEq s (⟨#[]⟩ : ByteArray))), (30, .bool (((x27.toNat : Int) == 48) && (decide ((1 : Int) < (s.size : Int)))))]) (fun _ w' => w = w') ?_ ?_
   ·simp only [List.take, List.drop]
    rcases Bool.eq_false_or_eq_true ((x27.toNat : Int) == 48) with hc28 | hc28
    ·refine V_ge rfl rfl rfl hc28 ?_
     refine V_mv rfl rfl ?_
     refine V_ge rfl rfl rfl hc28 ?_
     refine V_y (Y_lenStr rfl Tryz.underlying9 rfl) rfl rfl rfl ?_
     refine V_ge rfl rfl rfl hc28 ?_
     refine V_y (Y_gtr rfl rfl) rfl rfl rfl ?_
     refine V_ge rfl rfl rfl hc25 ?_
     refine V_y (Y_pick_te rfl hc28 rfl) rfl rfl rfl ?_
     exact V_end fun a ha => ⟨(), ha.sub ⟨rfl, (by rw [hc28]; rfl), trivial⟩, rfl⟩
    ·refine V_gn rfl rfl rfl hc28 rfl rfl rfl ?_
     refine V_gn rfl rfl rfl hc28 rfl rfl rfl ?_
     refine V_gn rfl rfl rfl hc28 rfl rfl rfl ?_
     refine V_ge rfl rfl rfl hc25 ?_
     refine V_y (Y_pick_fe rfl hc28 rfl) rfl rfl rfl ?_
     exact V_end fun a ha => ⟨(), ha.sub ⟨rfl, (by rw [hc28]; rfl), trivial⟩, rfl⟩
   simp only [List.take, List.drop]
   rintro _ _ rfl
   refine V_y (Y_pick_fe rfl hc25 rfl) rfl rfl rfl ?_
   obtain rfl := Option.some.inj hs26
   exact V_end fun a ha => ⟨(), ha.sub ⟨rfl, trivial⟩, rfl⟩
 simp only [List.take, List.drop]
 rintro _ _ rfl
 refine V_to (fun _ _ => rfl) ?_
 refine C_cond rfl (fun hc30 => ?_) (fun hc30 => ?_)
 ·rw [if_pos hc30] at hm
  refine C_seq ?_
  refine C_region ?_
  refine V_as rfl rfl ?_
  refine V_to (fun _ _ => rfl) ?_
  obtain rfl := Option.some.inj hm
  refine C_ret ?_
  try simp only [↓inBlock_ret, ↓then_ret]
  exact retQ rfl (Res.one Tryz.results33 rfl) ⟨rfl, rfl⟩
 ·rw [if_neg (nt hc30)] at hm
  refine C_skip_to (fun _ _ => rfl) ?_
  refine C_seq ?_
  refine C_region ?_
  refine V_as rfl rfl ?_
  refine V_to (fun _ _ => rfl) ?_
  obtain rfl := Option.some.inj hm
  refine C_ret ?_
  try simp only [↓inBlock_ret, ↓then_ret]
  exact retQ rfl (Res.one Tryz.results33 rfl) ⟨rfl, rfl⟩

set_option maxRecDepth 4000 in
set_option maxHeartbeats 4000000 in
theorem cmp_Or_api_Errno_c (w : World) {A : Nat → Prop} (vals : (List Int)) (v_vals : Value) (h_vals : Sl A w v_vals vals) {r : Int} (hm : cmp_Or_api_Errno vals = some r) : Ret Tryz.prog 32 #[v_vals] w fun v w' => v = .int .i64 r ∧ w = w' := by
 unfold cmp_Or_api_Errno at hm
 refine enter Tryz.func32 rfl Tryz.ntmps32 rfl ?_
 refine C_seq ?_
 refine C_region ?_
 refine V_as rfl rfl ?_
 refine V_to (fun _ _ => rfl) ?_
 refine C_seq ?_
 refine C_region ?_
 refine V_as rfl rfl ?_
 refine V_to (fun _ _ => rfl) ?_
 refine C_seq ?_
 refine C_seq ?_
 refine C_region ?_
 refine V_mv rfl rfl ?_
 refine V_y (Y_lenSl h_vals rfl Tryz.underlying91 rfl) rfl rfl rfl ?_
 refine V_mv rfl rfl ?_
 refine V_to (fun _ _ => rfl) ?_
 have hn19 := Sl.le h_vals
 obtain ⟨o3, ho3, hm⟩ := Option.bind_eq_some_iff.1 hm
 refine C_cutG (ι := Unit) (fun (s4 : Unit) => [(3, .int .i64 0)]) (fun (s4 : Unit) => fun w' => o3 = .fin s4 ∧ w = w') ?_ ?_
 ·refine C_block ?_
  refine C_range ho3 (fun k6 _ a w' => ∃ i : Unit, Has ⟨18, [], none⟩ a ([(3, .int .i64 0), (6, v_vals), (7, .int .i64 (vals.length : Int)), (8, .int .i64 (k6 : Int))]) ∧ w = w') (fun a ha => ⟨(), ha.sub ⟨rfl, rfl, rfl, rfl, trivial⟩, rfl⟩) ?_
  rintro K k6 _ a _ ⟨_, ha28, rfl⟩ hle15 K18 h17
  refine C_of ?_ ha28
  refine C_seq (C_region (V_y (Y_lss rfl rfl) rfl rfl rfl (V_to (fun _ _ => rfl) ?_)))
  refine C_seq ?_
  refine C_cond rfl (fun hc20 => ?_) (fun hc20 => ?_)
  ·have hlt16 := lt_of_dec hc20
   obtain ⟨x12, h13, h14⟩ := K18 hlt16
   refine C_skip_to (fun _ _ => rfl) ?_
   refine C_seq ?_
   refine C_block ?_
   refine C_seq ?_
   refine C_region ?_
   obtain ⟨x21, hx21, h13⟩ := Option.bind_eq_some_iff.1 h13
   refine V_indexAddr h_vals hx21 Tryz.underlying91 Tryz.sizeOf24 rfl rfl rfl ?_
   intro b22 o23 h24
   refine V_y (Y_load (El.int h24) Tryz.isAgg24 rfl) rfl rfl rfl ?_
   refine V_as rfl rfl ?_
   refine V_to (fun _ _ => rfl) ?_
   refine C_seq ?_
   refine C_region ?_
   refine V_mv rfl rfl ?_
   refine V_mv rfl rfl ?_
   refine V_y (Y_neq rfl rfl) rfl rfl rfl ?_
   refine V_to (fun _ _ => rfl) ?_
   refine C_cond rfl (fun hc25 => ?_) (fun hc25 => ?_)
   ·rw [if_pos hc25] at h13
    refine C_seq ?_
    refine C_region ?_
    refine V_mv rfl rfl ?_
    refine V_as rfl rfl ?_
    refine V_to (fun _ _ => rfl) ?_
    obtain rfl := Option.some.inj h13
    obtain rfl := (h14 : Lp.rt _ = _)
    rw [Lp.andThen_rt] at hm
    obtain rfl := Option.some.inj hm
    refine C_ret ?_
    try simp only [↓inBlock_ret, ↓then_ret]
    exact retQ rfl (Res.one Tryz.results32 rfl) ⟨rfl, rfl⟩
   ·rw [if_neg (nt hc25)] at h13
    refine C_skip_to (fun _ _ => rfl) ?_
    refine C_region ?_
    refine V_y (Y_addI rfl rfl) rfl rfl rfl ?_
    refine V_mv rfl rfl ?_
    obtain rfl := Option.some.inj h13
    refine V_end (fun a ha26 => ?_)
    exact ⟨(), hlt16, h14, ⟨(), ha26.sub ⟨rfl, rfl, rfl, (congrArg (fun z => some (Value.int .i64 z)) (w64_succ hlt16 hn19)), trivial⟩, rfl⟩⟩
  ·refine C_exit (fun a ha27 => ?_)
   exact ⟨(), ha27.sub ⟨rfl, trivial⟩, ⟨(h17 (eq_of_dec hle15 hc20)).symm, rfl⟩⟩
 rintro s4 _ ⟨rfl, rfl⟩ a ha9
 rw [Lp.andThen_fin] at hm
 refine C_at (n := ⟨18, [], none⟩) (fun _ _ => rfl) ?_ ha9
 refine C_seq ?_
 refine C_region ?_
 refine V_mv rfl rfl ?_
 refine V_as rfl rfl ?_
 refine V_to (fun _ _ => rfl) ?_
 obtain rfl := Option.some.inj hm
 refine C_ret ?_
 try simp only [↓inBlock_ret, ↓then_ret]
 exact retQ rfl (Res.one Tryz.results32 rfl) ⟨rfl, rfl⟩

def Tryz_strconv_Atoi_lay_ren : Go.Shelf.Ren := ⟨fun | 129 => 88 | 171 => 46 | 172 => 36 | 205 => 73 | 243 => 59 | 244 => 52 | 245 => 53 | 246 => 69 | 247 => 62 | 279 => 63 | 280 => 64 | 281 => 65 | 282 => 66 | 283 => 74 | 284 => 75 | 285 => 76 | 286 => 77 | 287 => 71 | 316 => 72 | 317 => 87 | 318 => 89 | 319 => 90 | 320 => 91 | 321 => 85 | 322 => 86 | 337 => 96 | 338 => 97 | n => n, fun | 0 => 0 | 1 => 1 | 2 => 2 | 3 => 3 | 4 => 4 | 5 => 5 | 6 => 6 | 7 => 7 | 8 => 8 | 9 => 9 | 10 => 10 | 11 => 11 | 12 => 12 | 13 => 13 | 14 => 14 | 15 => 15 | 16 => 16 | 17 => 17 | 18 => 18 | 19 => 19 | 20 => 20 | 21 => 21 | 22 => 72 | 23 => 109 | 26 => 48 | 27 => 151 | 28 => 30 | 37 => 74 | 40 => 150 | 41 => 138 | 46 => 69 | 47 => 137 | 51 => 86 | 52 => 89 | 53 => 85 | 54 => 117 | 55 => 149 | 63 => 141 | 64 => 142 | 69 => 112 | 70 => 73 | 71 => 75 | 72 => 76 | 73 => 77 | 74 => 65 | 75 => 66 | 76 => 67 | 77 => 68 | 80 => 51 | 81 => 78 | 83 => 83 | 84 => 108 | 85 => 100 | 86 => 101 | 104 => 84 | 105 => 139 | 106 => 140 | 108 => 115 | 109 => 70 | 110 => 71 | 111 => 136 | 114 => 132 | 115 => 122 | 116 => 123 | 117 => 124 | 118 => 125 | 119 => 145 | 122 => 121 | 123 => 126 | 124 => 127 | 127 => 97 | 128 => 92 | 137 => 146 | 138 => 147 | 139 => 148 | 143 => 129 | 144 => 130 | 145 => 131 | 146 => 93 | 147 => 94 | 148 => 95 | 149 => 96 | 164 => 105 | 165 => 106 | 166 => 107 | 167 => 99 | 168 => 102 | 169 => 103 | 170 => 104 | 171 => 116 | 172 => 118 | 173 => 119 | 174 => 120 | 175 => 110 | 176 => 111 | 209 => 113 | 210 => 114 | 211 => 133 | 212 => 134 | 213 => 135 | 214 => 128 | 232 => 143 | 233 => 144 | 236 => 38 | 238 => 152 | 239 => 153 | 240 => 154 | 241 => 155 | 242 => 156 | 243 => 157 | 244 => 158 | 245 => 159 | 246 => 160 | 247 => 161 | 248 => 162 | 249 => 163 | n => n, fun | 1 => 2 | 3 => 6 | 4 => 7 | 15 => 0 | 16 => 1 | 17 => 3 | 18 => 4 | 19 => 5 | n => n⟩
theorem Tryz_strconv_Atoi_laym0 : Go.Proofs.Lays.n172 Tryz.prog Tryz_strconv_Atoi_lay_ren := {
 mixed := by kernel_rfl,
 f129 := Tryz.func88.trans (congrArg some (by kernel_rfl)),
 f171 := Tryz.func46.trans (congrArg some (by kernel_rfl)),
 f172 := Tryz.func36.trans (congrArg some (by kernel_rfl)),
 f205 := Tryz.func73.trans (congrArg some (by kernel_rfl)),
 f243 := Tryz.func59.trans (congrArg some (by kernel_rfl)),
 f244 := Tryz.func52.trans (congrArg some (by kernel_rfl)),
 f245 := Tryz.func53.trans (congrArg some (by kernel_rfl)),
 f246 := Tryz.func69.trans (congrArg some (by kernel_rfl)),
 f247 := Tryz.func62.trans (congrArg some (by kernel_rfl)),
 f279 := Tryz.func63.trans (congrArg some (by kernel_rfl)),
 f280 := Tryz.func64.trans (congrArg some (by kernel_rfl)),
 f281 := Tryz.func65.trans (congrArg some (by kernel_rfl)),
 f282 := Tryz.func66.trans (congrArg some (by kernel_rfl)),
 f283 := Tryz.func74.trans (congrArg some (by kernel_rfl)),
 f284 := Tryz.func75.trans (congrArg some (by kernel_rfl)),
 f285 := Tryz.func76.trans (congrArg some (by kernel_rfl)),
 f286 := Tryz.func77.trans (congrArg some (by kernel_rfl)),
 f287 := Tryz.func71.trans (congrArg some (by kernel_rfl)),
 f316 := Tryz.func72.trans (congrArg some (by kernel_rfl)),
 f317 := Tryz.func87.trans (congrArg some (by kernel_rfl)),
 f318 := Tryz.func89.trans (congrArg some (by kernel_rfl)),
 f319 := Tryz.func90.trans (congrArg some (by kernel_rfl)),
 f320 := Tryz.func91.trans (congrArg some (by kernel_rfl)),
 f321 := Tryz.func85.trans (congrArg some (by kernel_rfl)),
 f322 := Tryz.func86.trans (congrArg some (by kernel_rfl)),
 f337 := Tryz.func96.trans (congrArg some (by kernel_rfl)),
 f338 := Tryz.func97.trans (congrArg some (by kernel_rfl)),
 t0 := Tryz.underlying0,
 a0 := Tryz.isAgg0,
 z0 := Tryz.sizeOf0,
 v0 := Tryz.zeroValue0,
 t2 := Tryz.underlying2,
 a2 := Tryz.isAgg2,
 z2 := Tryz.sizeOf2,
 v2 := Tryz.zeroValue2,
 t3 := Tryz.underlying3,
 a3 := Tryz.isAgg3,
 z3 := Tryz.sizeOf3,
 v3 := Tryz.zeroValue3,
 t4 := Tryz.underlying4,
 a4 := Tryz.isAgg4,
 z4 := Tryz.sizeOf4,
 v4 := Tryz.zeroValue4,
 t5 := Tryz.underlying5,
 a5 := Tryz.isAgg5,
 z5 := Tryz.sizeOf5,
 v5 := Tryz.zeroValue5,
 t9 := Tryz.underlying9,
 a9 := Tryz.isAgg9,
 z9 := Tryz.sizeOf9,
 v9 := Tryz.zeroValue9,
 t20 := Tryz.underlying20,
 a20 := Tryz.isAgg20,
 z20 := Tryz.sizeOf20,
 v20 := Tryz.zeroValue20,
 t21 := Tryz.underlying21,
 a21 := Tryz.isAgg21,
 z21 := Tryz.sizeOf21,
 v21 := Tryz.zeroValue21,
 t37 := Tryz.underlying74,
 a37 := Tryz.isAgg74,
 z37 := Tryz.sizeOf74,
 v37 := Tryz.zeroValue74,
 t46 := Tryz.underlying69,
 a46 := Tryz.isAgg69,
 z46 := Tryz.sizeOf69,
 v46 := Tryz.zeroValue69,
 t51 := Tryz.underlying86,
 a51 := Tryz.isAgg86,
 z51 := Tryz.sizeOf86,
 v51 := Tryz.zeroValue86,
 t53 := Tryz.underlying85,
 a53 := Tryz.isAgg85,
 z53 := Tryz.sizeOf85,
 v53 := Tryz.zeroValue85,
 t75 := Tryz.underlying66,
 a75 := Tryz.isAgg66,
 z75 := Tryz.sizeOf66,
 v75 := Tryz.zeroValue66,
 t76 := Tryz.underlying67,
 a76 := Tryz.isAgg67,
 z76 := Tryz.sizeOf67,
 v76 := Tryz.zeroValue67,
 t85 := Tryz.underlying100,
 a85 := Tryz.isAgg100,
 z85 := Tryz.sizeOf100,
 v85 := Tryz.zeroValue100,
 t127 := Tryz.underlying97,
 a127 := Tryz.isAgg97,
 z127 := Tryz.sizeOf97,
 v127 := Tryz.zeroValue97,
 t143 := Tryz.underlying129,
 a143 := Tryz.isAgg129,
 z143 := Tryz.sizeOf129,
 v143 := Tryz.zeroValue129,
 t145 := Tryz.underlying131,
 a145 := Tryz.isAgg131,
 z145 := Tryz.sizeOf131,
 v145 := Tryz.zeroValue131,
 t167 := Tryz.underlying99,
 a167 := Tryz.isAgg99,
 z167 := Tryz.sizeOf99,
 v167 := Tryz.zeroValue99,
 t168 := Tryz.underlying102,
 a168 := Tryz.isAgg102,
 z168 := Tryz.sizeOf102,
 v168 := Tryz.zeroValue102,
 t171 := Tryz.underlying116,
 a171 := Tryz.isAgg116,
 z171 := Tryz.sizeOf116,
 v171 := Tryz.zeroValue116,
 t173 := Tryz.underlying119,
 a173 := Tryz.isAgg119,
 z173 := Tryz.sizeOf119,
 v173 := Tryz.zeroValue119,
 t175 := Tryz.underlying110,
 a175 := Tryz.isAgg110,
 z175 := Tryz.sizeOf110,
 v175 := Tryz.zeroValue110,
 t210 := Tryz.underlying114,
 a210 := Tryz.isAgg114,
 z210 := Tryz.sizeOf114,
 v210 := Tryz.zeroValue114,
 t212 := Tryz.underlying134,
 a212 := Tryz.isAgg134,
 z212 := Tryz.sizeOf134,
 v212 := Tryz.zeroValue134,
 t213 := Tryz.underlying135,
 a213 := Tryz.isAgg135,
 z213 := Tryz.sizeOf135,
 t232 := Tryz.underlying143,
 a232 := Tryz.isAgg143,
 z232 := Tryz.sizeOf143,
 v232 := Tryz.zeroValue143,
 t233 := Tryz.underlying144,
 a233 := Tryz.isAgg144,
 z233 := Tryz.sizeOf144,
 v233 := Tryz.zeroValue144,
 g15 := by kernel_rfl,
 g16 := by kernel_rfl,
 g17 := by kernel_rfl,
 g18 := by kernel_rfl,
 g19 := by kernel_rfl }
theorem Tryz_strconv_Atoi_laym : Go.Proofs.LaysM.n172 Tryz.prog Tryz_strconv_Atoi_lay_ren := { Tryz_strconv_Atoi_laym0 with
 t80 := Tryz.underlying51,
 a80 := Tryz.isAgg51,
 z80 := Tryz.sizeOf51,
 v80 := Tryz.zeroValue51,
 i0 := by kernel_rfl,
 i2 := by kernel_rfl,
 i3 := by kernel_rfl,
 i4 := by kernel_rfl,
 i5 := by kernel_rfl,
 i9 := by kernel_rfl,
 i20 := by kernel_rfl,
 i21 := by kernel_rfl,
 i37 := by kernel_rfl,
 i46 := by kernel_rfl,
 i51 := by kernel_rfl,
 i53 := by kernel_rfl,
 i75 := by kernel_rfl,
 i76 := by kernel_rfl,
 i80 := by kernel_rfl,
 i85 := by kernel_rfl,
 i127 := by kernel_rfl,
 i143 := by kernel_rfl,
 i145 := by kernel_rfl,
 i167 := by kernel_rfl,
 i168 := by kernel_rfl,
 i171 := by kernel_rfl,
 i173 := by kernel_rfl,
 i175 := by kernel_rfl,
 i210 := by kernel_rfl,
 i212 := by kernel_rfl,
 i232 := by kernel_rfl,
 i233 := by kernel_rfl,
 m15 := by kernel_rfl,
 m16 := by kernel_rfl,
 m17 := by kernel_rfl,
 m18 := by kernel_rfl,
 m19 := by kernel_rfl }
theorem Tryz_strconv_Atoi_lay : Go.Proofs.LaysC.n172 Tryz.prog Tryz_strconv_Atoi_lay_ren := { Tryz_strconv_Atoi_laym with
 c0 := by kernel_rfl,
 c2 := by kernel_rfl,
 c3 := by kernel_rfl,
 c4 := by kernel_rfl,
 c5 := by kernel_rfl,
 c9 := by kernel_rfl,
 c20 := by kernel_rfl,
 c21 := by kernel_rfl,
 c37 := by kernel_rfl,
 c46 := by kernel_rfl,
 c51 := by kernel_rfl,
 c53 := by kernel_rfl,
 c75 := by kernel_rfl,
 c76 := by kernel_rfl,
 c80 := by kernel_rfl,
 c85 := by kernel_rfl,
 c127 := by kernel_rfl,
 c143 := by kernel_rfl,
 c145 := by kernel_rfl,
 c167 := by kernel_rfl,
 c168 := by kernel_rfl,
 c171 := by kernel_rfl,
 c173 := by kernel_rfl,
 c175 := by kernel_rfl,
 c210 := by kernel_rfl,
 c212 := by kernel_rfl,
 c213 := by kernel_rfl,
 c232 := by kernel_rfl,
 c233 := by kernel_rfl }
theorem strconv_Atoi_c (w : World) {A : Nat → Prop} (hA : ∀ b, w.heap.size ≤ b → A b) (hT : Er Tryz.prog 0 A w ∧ Er Tryz.prog 1 A w) (s : ByteArray) {r : Int × Bool} (hm : strconv_Atoi s = some r) : Ret Tryz.prog 36 #[.string s] w fun v w' => ∃ ev, v = .tuple #[.int .i64 r.1, ev] ∧ ErV ev r.2 ∧ Kp False w w' := by
 unfold strconv_Atoi at hm
 split at hm
 case isFalse => cases hm
 rename_i hs
 obtain rfl := Option.some.inj hm
 obtain ⟨⟨⟨t1, p1, hc1⟩, _, _⟩, ⟨t2, p2, hc2⟩, _, _⟩ := hT
 rcases h : Go.Lib.atoiAll s.data.toList with v | _ | _
 ·refine Calls.mono (Go.Proofs.Any.strconv_Atoi_ok Tryz_strconv_Atoi_lay s (by omega) v h w) ?_
  rintro _ w' ⟨rfl, hk⟩
  refine ⟨_, rfl, _, rfl, rfl, ?_⟩
  rcases hk with rfl | ⟨t, rfl⟩
  ·exact Kp.refl (Dw := False) _
  ·exact .of (Go.Lib.bytesWorld_below w _ t)
 ·refine Calls.mono (Go.Proofs.Any.strconv_Atoi_syntax Tryz_strconv_Atoi_lay s hs h (.iface t1 p1) w hc1 (.inr ⟨t1, p1, rfl⟩)) ?_
  rintro _ w' ⟨N, rfl, _, _, hb⟩
  exact ⟨_, rfl, _, rfl, ⟨_, _, rfl⟩, .of hb⟩
 ·refine Calls.mono (Go.Proofs.Any.strconv_Atoi_range Tryz_strconv_Atoi_lay s hs h (.iface t2 p2) w hc2 (.inr ⟨t2, p2, rfl⟩)) ?_
  rintro _ w' ⟨N, rfl, _, _, hb⟩
  exact ⟨_, rfl, _, rfl, ⟨_, _, rfl⟩, .of hb⟩

set_option maxRecDepth 4000 in
set_option maxHeartbeats 4000000 in
theorem staff_readNat_c (w : World) {A : Nat → Prop} (hA : ∀ b, w.heap.size ≤ b → A b) (hT : Fz Tryz_FR A w) (s : ByteArray) {r : (List Int)} (hm : staff_readNat s = some r) : Ret Tryz.prog 16 #[.string s] w fun v w' => ∃ s0, v = s0 ∧ Sl A w' s0 r ∧ Kp False w w' := by
 unfold staff_readNat at hm
 refine enter Tryz.func16 rfl Tryz.ntmps16 rfl ?_
 have hA0 := hA
 have hB := Nat.le_refl w.heap.size
 have hK : Tr False w.heap.size A w A w := Tr.refl (Dw := False) hA
 have hH : Hp w.heap.size A w [] := Hp.nil
 refine C_seq ?_
 refine C_region ?_
 refine V_as rfl rfl ?_
 refine V_to (fun _ _ => rfl) ?_
 refine C_seq ?_
 refine C_region ?_
 refine V_as rfl rfl ?_
 refine V_to (fun _ _ => rfl) ?_
 refine C_seq ?_
 replace hH : Hp w.heap.size A w (obS (α := Int) 3 (.slice none 0 0) ([] : (List Int)) :: []) := Hp.addNil (α := Int) (e := 3) hH
 obtain ⟨o1, ho1, hm⟩ := Option.bind_eq_some_iff.1 hm
 refine C_cutG (ι := ((ByteArray × (List Int)) × Value × (Nat → Prop))) (fun ⟨s2, v8, A10⟩ => [(3, v8)]) (fun ⟨s2, v8, A10⟩ => fun w' => o1 = .fin s2 ∧ Hp w.heap.size A10 w' (obS (α := Int) 3 v8 s2.2 :: []) ∧ Tr False w.heap.size A w A10 w') ?_ ?_
 ·refine C_block ?_
  refine C_while ho1 (fun s12 a w' => ∃ i : (Value × (Nat → Prop)), Has ⟨30, [], none⟩ a ([(0, .string s12.1), (3, i.1)]) ∧ Hp w.heap.size i.2 w' (obS (α := Int) 3 i.1 s12.2 :: []) ∧ Tr False w.heap.size A w i.2 w') (fun a ha => ⟨(.slice none 0 0, A), ha.sub ⟨rfl, rfl, trivial⟩, ⟨hH, Tr.refl (Dw := False) hA⟩⟩) ?_
  rintro K s12 a w13 ⟨⟨v14, A16⟩, ha47, hH17, hr3⟩ K24
  refine C_of ?_ ha47
  replace hK := Tr.trans (Dw := False) hK hr3
  replace hB := Nat.le_trans hB hr3.ex.size
  replace hA := hr3.new
  replace hH : Hp w.heap.size A16 w13 (obS (α := Int) 3 v14 s12.2 :: []) := hH17
  obtain ⟨x18, h19, h20⟩ := K24
  refine C_seq ?_
  refine C_seq ?_
  refine C_region ?_
  refine V_mv rfl rfl ?_
  refine V_y (Y_lenStr rfl Tryz.underlying9 rfl) rfl rfl rfl ?_
  refine V_y (Y_gtr rfl rfl) rfl rfl rfl ?_
  refine V_to (fun _ _ => rfl) ?_
  refine C_cond rfl (fun hc25 => ?_) (fun hc25 => ?_)
  ·rw [if_pos hc25] at h19
   refine C_skip_to (fun _ _ => rfl) ?_
   refine C_block ?_
   refine C_seq ?_
   refine C_region ?_
   refine V_mv rfl rfl ?_
   refine V_y (Y_lenStr rfl Tryz.underlying9 rfl) rfl rfl rfl ?_
   refine V_y (Y_subI rfl rfl) rfl rfl rfl ?_
   refine V_y (Y_max2 rfl rfl) rfl rfl rfl ?_
   refine V_as rfl rfl ?_
   refine V_to (fun _ _ => rfl) ?_
   refine C_seq ?_
   refine C_region ?_
   refine V_mv rfl rfl ?_
   refine V_mv rfl rfl ?_
   obtain ⟨x26, hx26, h19⟩ := Option.bind_eq_some_iff.1 h19
   refine V_y (Y_sliceSL hx26 Tryz.underlying9 rfl rfl) rfl rfl rfl ?_
   obtain ⟨x27, hx27, h19⟩ := Option.bind_eq_some_iff.1 h19
   refine V_call Tryz.call36 rfl rfl rfl rfl (strconv_Atoi_c w13 hA ⟨((Fz.tr (Dw := False) hT hK)).2.1, ((Fz.tr (Dw := False) hT hK)).2.2⟩ x26 hx27) ?_
   rintro _ w30 ⟨v28, rfl, h29, hk31⟩
   have ht32 := Kp.tr (Dw := False) hk31 hA hB
   replace hH := Hp.kp (Dw := False) hH hk31
   replace hr3 := Tr.trans (Dw := False) hr3 ht32
   replace hB := Nat.le_trans hB ht32.ex.size
   replace hA := ht32.new
   refine V_mv rfl rfl ?_
   refine V_y (Y_extract rfl rfl) rfl rfl rfl ?_
   refine V_y (Y_extract rfl rfl) rfl rfl rfl ?_
   refine V_as rfl rfl ?_
   refine V_as rfl rfl ?_
   refine V_to (fun _ _ => rfl) ?_
   refine C_seq ?_
   refine C_region ?_
   refine V_mv rfl rfl ?_
   refine V_mv rfl rfl ?_
   refine V_buildSlice (Dw := False) (l := ([x27.1] : List Int)) (len := 1) Tryz.underlying31 Tryz.sizeOf3 Tryz.zeroValue3 rfl (by with_unfolding_all rfl) (show (1 * 1 : Nat) ≠ 0 by decide) (show (1 * 1 : Nat) ≤ 2 ^ 24 by decide) hA ⟨[.int .i64 x27.1], _, rfl, rfl, rfl⟩ rfl rfl ?_
   intro v33 w34 hk36 h35
   have ht37 := Kp.tr (Dw := False) hk36 hA hB
   replace hH := Hp.kp (Dw := False) hH hk36
   replace hr3 := Tr.trans (Dw := False) hr3 ht37
   replace hB := Nat.le_trans hB ht37.ex.size
   replace hA := ht37.new
   obtain ⟨x38, hx38, h19⟩ := Option.bind_eq_some_iff.1 h19
   refine V_appendH (Dw := False) (e := 3) (v := v14) (l := s12.2) (ti := Tryz.t3) (bytes := 8) (lim := 17592186044416) hH (i := 0) rfl h35 hx38 Tryz.underlying31 Tryz_info3 rfl rfl rfl rfl (by decide) (by decide) (by decide) hB hA rfl rfl rfl ?_
   intro v39 w40 A41 hH42 ht43
   replace hr3 := Tr.trans (Dw := False) hr3 ht43
   replace hH : Hp w.heap.size A41 w40 (obS (α := Int) 3 v39 x38 :: []) := hH42
   refine V_as rfl rfl ?_
   refine V_to (fun _ _ => rfl) ?_
   refine C_region ?_
   refine V_mv rfl rfl ?_
   refine V_mv rfl rfl ?_
   obtain ⟨x44, hx44, h19⟩ := Option.bind_eq_some_iff.1 h19
   refine V_y (Y_sliceSH hx44 Tryz.underlying9 rfl rfl) rfl rfl rfl ?_
   refine V_as rfl rfl ?_
   obtain rfl := Option.some.inj h19
   refine V_end (fun a ha45 => ?_)
   exact ⟨(x44, x38), h20, ⟨(v39, A41), ha45.sub ⟨rfl, rfl, trivial⟩, ⟨hH, hr3⟩⟩⟩
  ·rw [if_neg (nt hc25)] at h19
   obtain rfl := Option.some.inj h19
   refine C_exit (fun a ha46 => ?_)
   exact ⟨((s12.1, s12.2), v14, A16), ha46.sub ⟨rfl, trivial⟩, ⟨h20.symm, hH, hr3⟩⟩
 rintro ⟨s2, v8, A10⟩ w5 ⟨rfl, hH11, hk6⟩ a ha7
 rw [Lp.andThen_fin] at hm
 replace hK := Tr.trans (Dw := False) hK hk6
 replace hA := hk6.new
 replace hH : Hp w.heap.size A10 w5 (obS (α := Int) 3 v8 s2.2 :: []) := hH11
 refine C_at (n := ⟨30, [], none⟩) (fun _ _ => rfl) ?_ ha7
 refine C_seq ?_
 refine C_region ?_
 refine V_mv rfl rfl ?_
 obtain ⟨A48, ht49, h50, hH51⟩ := Hp.freeze (Dw := False) (α := Int) (v := v8) (l := s2.2) hH (i := 0) rfl hA
 replace hK := Tr.trans (Dw := False) hK ht49
 replace hH : Hp w.heap.size A48 w5 ([]) := hH51
 obtain ⟨x53, hx53, hm⟩ := Option.bind_eq_some_iff.1 hm
 refine V_call Tryz.call35 rfl rfl rfl rfl (staff_nat_trimmed_c w5 s2.2 v8 h50 hx53) ?_
 rintro v54 _ ⟨_, rfl, h55, rfl⟩
 refine V_as rfl rfl ?_
 refine V_to (fun _ _ => rfl) ?_
 obtain rfl := Option.some.inj hm
 refine C_ret ?_
 try simp only [↓inBlock_ret, ↓then_ret]
 exact retQ rfl (Res.one Tryz.results16 rfl) ⟨v54, rfl, (Sl.out (Dw := False) h55 hA0 hK), hK.kp⟩

set_option maxRecDepth 4000 in
set_option maxHeartbeats 4000000 in
theorem staff_read_c (w : World) {A : Nat → Prop} (hA : ∀ b, w.heap.size ≤ b → A b) (hT : Fz Tryz_FR A w) (r_ : staff_Ratio) {r : (staff_ratio × Int)} (hm : staff_read r_ = some r) : Ret Tryz.prog 13 #[.agg #[.string r_.num, .string r_.den]] w fun v w' => ∃ s0 s1, v = .tuple #[.agg #[s0, s1], .int .i64 r.2] ∧ Sl A w' s0 r.1.num ∧ Sl A w' s1 r.1.den ∧ Kp False w w' := by
 unfold staff_read at hm
 refine enter Tryz.func13 rfl Tryz.ntmps13 rfl ?_
 have hA0 := hA
 have hB := Nat.le_refl w.heap.size
 have hK : Tr False w.heap.size A w A w := Tr.refl (Dw := False) hA
 have hH : Hp w.heap.size A w [] := Hp.nil
 refine C_seq ?_
 refine C_region ?_
 refine V_box rfl rfl ?_
 intro b1 w2 h3
 have hk5 := h3.kp (Dw := False)
 have h4 : El (α := staff_Ratio) A w2 b1 0 r_ := h3.el hA ⟨[.string r_.num], _, rfl, rfl, rfl⟩
 have ht6 := Kp.tr (Dw := False) hk5 hA hB
 replace hH := Hp.kp (Dw := False) hH hk5
 replace hK := Tr.trans (Dw := False) hK ht6
 replace hB := Nat.le_trans hB ht6.ex.size
 replace hA := ht6.new
 refine V_allocH (Dw := False) (B := w.heap.size) hH Tryz.zeroValue33 hB hA rfl ?_
 intro b7 w9 A10 hH11 ht12
 replace h4 := El.tr (Dw := False) h4 ht12
 replace hK := Tr.trans (Dw := False) hK ht12
 replace hB := Nat.le_trans hB ht12.ex.size
 replace hA := ht12.new
 replace hH : Hp w.heap.size A10 w9 (obC b7 [.slice none 0 0, .slice none 0 0] 33 :: []) := hH11
 refine V_as rfl rfl ?_
 refine V_to (fun _ _ => rfl) ?_
 refine C_seq ?_
 refine C_seq ?_
 refine C_region ?_
 have h13 := El_staff_Ratio_0 h4
 refine V_y (Y_fieldAddr Tryz.underlying23 rfl Tryz.sizeOf9 (by decide) rfl) rfl rfl rfl ?_
 refine V_y (Y_load (El.str h13) Tryz.isAgg9 rfl) rfl rfl rfl ?_
 refine V_y (Y_lenStr rfl Tryz.underlying9 rfl) rfl rfl rfl ?_
 refine V_y (Y_gtr rfl rfl) rfl rfl rfl ?_
 refine V_mv rfl rfl ?_
 refine V_cut 5 (fun _ : Unit => [(1, .pointer (some ⟨b1, 0, none⟩)), (2, .pointer (some ⟨b7, 0, none⟩)), (15, .bool ((decide ((20000 : Int) < (r_.num.size : Int))) || (decide ((20000 : Int) < (r_.den.size : Int)))))]) (fun _ w' => w9 = w') ?_ ?_
 ·simp only [List.take, List.drop]
  rcases Bool.eq_false_or_eq_true (decide ((20000 : Int) < (r_.num.size : Int))) with hc14 | hc14
  ·refine V_gn rfl rfl rfl hc14 rfl rfl rfl ?_
   refine V_gn rfl rfl rfl hc14 rfl rfl rfl ?_
   refine V_gn rfl rfl rfl hc14 rfl rfl rfl ?_
   refine V_gn rfl rfl rfl hc14 rfl rfl rfl ?_
   refine V_y (Y_pick_te rfl hc14 rfl) rfl rfl rfl ?_
   exact V_end fun a ha => ⟨(), ha.sub ⟨rfl, rfl, (by rw [hc14]; rfl), trivial⟩, rfl⟩
  ·refine V_ge rfl rfl rfl hc14 ?_
   have h16 := El_staff_Ratio_1 h4
   refine V_y (Y_fieldAddr Tryz.underlying23 rfl Tryz.sizeOf9 (by decide) rfl) rfl rfl rfl ?_
   refine V_ge rfl rfl rfl hc14 ?_
   refine V_y (Y_load (El.str h16) Tryz.isAgg9 rfl) rfl rfl rfl ?_
   refine V_ge rfl rfl rfl hc14 ?_
   refine V_y (Y_lenStr rfl Tryz.underlying9 rfl) rfl rfl rfl ?_
   refine V_ge rfl rfl rfl hc14 ?_
   refine V_y (Y_gtr rfl rfl) rfl rfl rfl ?_
   refine V_y (Y_pick_fe rfl hc14 rfl) rfl rfl rfl ?_
   exact V_end fun a ha => ⟨(), ha.sub ⟨rfl, rfl, (by rw [hc14]; rfl), trivial⟩, rfl⟩
 simp only [List.take, List.drop]
 rintro _ _ rfl
 refine V_to (fun _ _ => rfl) ?_
 refine C_cond rfl (fun hc17 => ?_) (fun hc17 => ?_)
 ·rw [if_pos hc17] at hm
  refine C_seq ?_
  refine C_region ?_
  refine V_y (Y_build Tryz.underlying33 Tryz.zeroValue33 (Tryz_places33 _ Tryz.underlying33) rfl (by with_unfolding_all rfl)) rfl rfl rfl ?_
  refine V_storeC (Dw := False) (off := 0) (ds := [.slice none 0 0, .slice none 0 0]) hH (i := 0) rfl Tryz.sizeOf33 rfl (Nat.le_of_ble_eq_true rfl) (by exact (List.forall_mem_cons.2 ⟨rfl, (List.forall_mem_cons.2 ⟨rfl, (fun _ h => nomatch h)⟩)⟩)) rfl hB hA rfl rfl ?_
  intro w18 hH19 ht20
  replace hK := Tr.trans (Dw := False) hK ht20
  replace hH : Hp w.heap.size A10 w18 (obC b7 [.slice none 0 0, .slice none 0 0] 33 :: []) := hH19
  refine V_as rfl rfl ?_
  refine V_to (fun _ _ => rfl) ?_
  obtain rfl := Option.some.inj hm
  refine C_ret ?_
  try simp only [↓inBlock_ret, ↓then_ret]
  exact retQ rfl (Res.l2 Tryz.results13 (RL.cell rfl (loadVar_agg (Hp.part (off := 0) (n := 2) (ds := [.slice none 0 0, .slice none 0 0]) hH (i := 0) rfl rfl) Tryz.isAgg33 Tryz.sizeOf33)) (RL.tmp rfl)) ⟨.slice none 0 0, .slice none 0 0, rfl, Sl.nil, Sl.nil, hK.kp⟩
 ·rw [if_neg (nt hc17)] at hm
  refine C_skip_to (fun _ _ => rfl) ?_
  refine C_seq ?_
  refine C_seq ?_
  refine C_region_qt (Dw := False) 6 Tryz_mixed (by kernel_rfl) ?_
  simp only [List.take, List.drop]
  have h21 := El_staff_Ratio_0 h4
  refine VQ_y (fun w' hw' => Y_fieldAddr Tryz.underlying23 rfl Tryz.sizeOf9 (by decide) rfl) rfl rfl rfl ?_
  refine VQ_y (fun w' hw' => Y_load (El.str (El.kp (Dw := False) h21 hw')) Tryz.isAgg9 rfl) rfl rfl rfl ?_
  obtain ⟨x22, hx22, hm⟩ := Option.bind_eq_some_iff.1 hm
  refine VQ_call (.int .i64 x22) Tryz.call33 rfl rfl rfl rfl (fun w' hw' => (staff_checkDigits_c w' r_.num hx22).mono (fun _ _ h => ⟨h.1, h.2 ▸ hw'⟩)) ?_
  have h23 := El_staff_Ratio_1 h4
  refine VQ_y (fun w' hw' => Y_fieldAddr Tryz.underlying23 rfl Tryz.sizeOf9 (by decide) rfl) rfl rfl rfl ?_
  refine VQ_y (fun w' hw' => Y_load (El.str (El.kp (Dw := False) h23 hw')) Tryz.isAgg9 rfl) rfl rfl rfl ?_
  obtain ⟨x24, hx24, hm⟩ := Option.bind_eq_some_iff.1 hm
  refine VQ_call (.int .i64 x24) Tryz.call33 rfl rfl rfl rfl (fun w' hw' => (staff_checkDigits_c w' r_.den hx24).mono (fun _ _ h => ⟨h.1, h.2 ▸ hw'⟩)) ?_
  refine VQ_tail (fun w25 hk26 => ?_)
  try simp only [List.take, List.drop]
  have ht27 := Kp.tr (Dw := False) hk26 hA hB
  replace hH := Hp.kp (Dw := False) hH hk26
  replace h4 := El.tr (Dw := False) h4 ht27
  replace hK := Tr.trans (Dw := False) hK ht27
  replace hB := Nat.le_trans hB ht27.ex.size
  replace hA := ht27.new
  refine V_buildSlice (Dw := False) (l := ([x22, x24] : List Int)) (len := 2) Tryz.underlying91 Tryz.sizeOf24 Tryz.zeroValue24 rfl (by with_unfolding_all rfl) (show (2 * 1 : Nat) ≠ 0 by decide) (show (2 * 1 : Nat) ≤ 2 ^ 24 by decide) hA ⟨[.int .i64 x22], _, rfl, rfl, ⟨[.int .i64 x24], _, rfl, rfl, rfl⟩⟩ rfl rfl ?_
  intro v28 w29 hk31 h30
  have ht32 := Kp.tr (Dw := False) hk31 hA hB
  replace hH := Hp.kp (Dw := False) hH hk31
  replace h4 := El.tr (Dw := False) h4 ht32
  replace hK := Tr.trans (Dw := False) hK ht32
  replace hB := Nat.le_trans hB ht32.ex.size
  replace hA := ht32.new
  obtain ⟨x33, hx33, hm⟩ := Option.bind_eq_some_iff.1 hm
  refine V_call Tryz.call32 rfl rfl rfl rfl (cmp_Or_api_Errno_c w29 ([x22, x24] : List Int) v28 h30 hx33) ?_
  rintro _ _ ⟨rfl, rfl⟩
  refine V_as rfl rfl ?_
  refine V_to (fun _ _ => rfl) ?_
  refine C_seq ?_
  refine C_region ?_
  refine V_mv rfl rfl ?_
  refine V_y (Y_neq rfl rfl) rfl rfl rfl ?_
  refine V_to (fun _ _ => rfl) ?_
  refine C_cond rfl (fun hc34 => ?_) (fun hc34 => ?_)
  ·rw [if_pos hc34] at hm
   refine C_seq ?_
   refine C_region ?_
   refine V_y (Y_build Tryz.underlying33 Tryz.zeroValue33 (Tryz_places33 _ Tryz.underlying33) rfl (by with_unfolding_all rfl)) rfl rfl rfl ?_
   refine V_mv rfl rfl ?_
   refine V_storeC (Dw := False) (off := 0) (ds := [.slice none 0 0, .slice none 0 0]) hH (i := 0) rfl Tryz.sizeOf33 rfl (Nat.le_of_ble_eq_true rfl) (by exact (List.forall_mem_cons.2 ⟨rfl, (List.forall_mem_cons.2 ⟨rfl, (fun _ h => nomatch h)⟩)⟩)) rfl hB hA rfl rfl ?_
   intro w35 hH36 ht37
   replace hK := Tr.trans (Dw := False) hK ht37
   replace hH : Hp w.heap.size A10 w35 (obC b7 [.slice none 0 0, .slice none 0 0] 33 :: []) := hH36
   refine V_as rfl rfl ?_
   refine V_to (fun _ _ => rfl) ?_
   obtain rfl := Option.some.inj hm
   refine C_ret ?_
   try simp only [↓inBlock_ret, ↓then_ret]
   exact retQ rfl (Res.l2 Tryz.results13 (RL.cell rfl (loadVar_agg (Hp.part (off := 0) (n := 2) (ds := [.slice none 0 0, .slice none 0 0]) hH (i := 0) rfl rfl) Tryz.isAgg33 Tryz.sizeOf33)) (RL.tmp rfl)) ⟨.slice none 0 0, .slice none 0 0, rfl, Sl.nil, Sl.nil, hK.kp⟩
  ·rw [if_neg (nt hc34)] at hm
   refine C_skip_to (fun _ _ => rfl) ?_
   refine C_seq ?_
   refine C_seq ?_
   refine C_region ?_
   have h38 := El_staff_Ratio_1 h4
   refine V_y (Y_fieldAddr Tryz.underlying23 rfl Tryz.sizeOf9 (by decide) rfl) rfl rfl rfl ?_
   refine V_y (Y_load (El.str h38) Tryz.isAgg9 rfl) rfl rfl rfl ?_
   refine V_y (Y_seql rfl rfl) rfl rfl rfl ?_
   refine V_to (fun _ _ => rfl) ?_
   refine C_cond rfl (fun hc39 => ?_) (fun hc39 => ?_)
   ·rw [if_pos hc39] at hm
    refine C_seq ?_
    refine C_region ?_
    refine V_y (Y_build Tryz.underlying33 Tryz.zeroValue33 (Tryz_places33 _ Tryz.underlying33) rfl (by with_unfolding_all rfl)) rfl rfl rfl ?_
    refine V_storeC (Dw := False) (off := 0) (ds := [.slice none 0 0, .slice none 0 0]) hH (i := 0) rfl Tryz.sizeOf33 rfl (Nat.le_of_ble_eq_true rfl) (by exact (List.forall_mem_cons.2 ⟨rfl, (List.forall_mem_cons.2 ⟨rfl, (fun _ h => nomatch h)⟩)⟩)) rfl hB hA rfl rfl ?_
    intro w40 hH41 ht42
    replace hK := Tr.trans (Dw := False) hK ht42
    replace hH : Hp w.heap.size A10 w40 (obC b7 [.slice none 0 0, .slice none 0 0] 33 :: []) := hH41
    refine V_as rfl rfl ?_
    refine V_to (fun _ _ => rfl) ?_
    obtain rfl := Option.some.inj hm
    refine C_ret ?_
    try simp only [↓inBlock_ret, ↓then_ret]
    exact retQ rfl (Res.l2 Tryz.results13 (RL.cell rfl (loadVar_agg (Hp.part (off := 0) (n := 2) (ds := [.slice none 0 0, .slice none 0 0]) hH (i := 0) rfl rfl) Tryz.isAgg33 Tryz.sizeOf33)) (RL.tmp rfl)) ⟨.slice none 0 0, .slice none 0 0, rfl, Sl.nil, Sl.nil, hK.kp⟩
   ·rw [if_neg (nt hc39)] at hm
    refine C_skip_to (fun _ _ => rfl) ?_
    refine C_seq ?_
    refine C_region_chz (Dw := False) A10 7 [(1, 0), (1, 1), (1, 3), (1, 4), (2, 2), (2, 5), (1, 6)] [(4, 8)] Tryz_mixed (by kernel_rfl) (fun w43 hk44 => ?_)
    have ht45 := Kp.tr (Dw := False) hk44 hA hB
    replace hH := Hp.kp (Dw := False) hH hk44
    replace h4 := El.tr (Dw := False) h4 ht45
    replace hK := Tr.trans (Dw := False) hK ht45
    replace hB := Nat.le_trans hB ht45.ex.size
    replace hA := ht45.new
    refine CHZ_q2 (Dw := False) rfl ?_
    have h46 := El_staff_Ratio_0 h4
    refine VQ_y (fun w' hw' => Y_fieldAddr Tryz.underlying23 rfl Tryz.sizeOf9 (by decide) rfl) rfl rfl rfl ?_
    refine VQ_CHZ (Dw := False) ?_
    refine CHZ_q2 (Dw := False) rfl ?_
    refine VQ_y (fun w' hw' => Y_load (El.str (El.keep h46 (XA.ex hw'))) Tryz.isAgg9 rfl) rfl rfl rfl ?_
    refine VQ_CHZ (Dw := False) ?_
    refine CHZ_q2 (Dw := False) rfl ?_
    have h47 := El_staff_Ratio_1 h4
    refine VQ_y (fun w' hw' => Y_fieldAddr Tryz.underlying23 rfl Tryz.sizeOf9 (by decide) rfl) rfl rfl rfl ?_
    refine VQ_CHZ (Dw := False) ?_
    refine CHZ_q2 (Dw := False) rfl ?_
    refine VQ_y (fun w' hw' => Y_load (El.str (El.keep h47 (XA.ex hw'))) Tryz.isAgg9 rfl) rfl rfl rfl ?_
    refine VQ_CHZ (Dw := False) ?_
    refine CHZ_l1 (Dw := False) (k := 0) [(2, 7), (2, 2), (2, 5), (1, 6), (4, 8)] rfl ?_ rfl ?_
    ·refine CH_l1 (Dw := False) (k := 0) rfl ?_
     refine V_allocHk (Dw := False) (B := w.heap.size) hH Tryz.zeroValue33 hB hA rfl ?_
     intro b48 w49 A50 hk53 hH51 ht52
     replace hK := Tr.trans (Dw := False) hK ht52
     replace hB := Nat.le_trans hB ht52.ex.size
     replace hA := ht52.new
     replace hH : Hp w.heap.size A50 w49 (obC b48 [.slice none 0 0, .slice none 0 0] 33 :: obC b7 [.slice none 0 0, .slice none 0 0] 33 :: []) := hH51
     refine V_CH (Dw := False) (hk53) ?_
     refine CH_l1 (Dw := False) (k := 0) rfl ?_
     obtain ⟨x54, hx54, hm⟩ := Option.bind_eq_some_iff.1 hm
     refine V_call Tryz.call16 rfl rfl rfl rfl (staff_readNat_c w49 hA (Fz.tr (Dw := False) hT hK) r_.num hx54) ?_
     rintro v55 w57 ⟨_, rfl, h56, hk58⟩
     have ht59 := Kp.tr (Dw := False) hk58 hA hB
     replace hH := Hp.kp (Dw := False) hH hk58
     replace hK := Tr.trans (Dw := False) hK ht59
     replace hB := Nat.le_trans hB ht59.ex.size
     replace hA := ht59.new
     refine V_CH (Dw := False) (hk58) ?_
     refine CH_l1 (Dw := False) (k := 0) rfl ?_
     obtain ⟨x60, hx60, hm⟩ := Option.bind_eq_some_iff.1 hm
     refine V_call Tryz.call16 rfl rfl rfl rfl (staff_readNat_c w57 hA (Fz.tr (Dw := False) hT hK) r_.den hx60) ?_
     rintro v61 w63 ⟨_, rfl, h62, hk64⟩
     have ht65 := Kp.tr (Dw := False) hk64 hA hB
     replace hH := Hp.kp (Dw := False) hH hk64
     replace h56 := Sl.tr (Dw := False) h56 ht65
     replace hK := Tr.trans (Dw := False) hK ht65
     replace hB := Nat.le_trans hB ht65.ex.size
     replace hA := ht65.new
     refine V_CH (Dw := False) (hk64) ?_
     refine CH_q2 (Dw := False) rfl ?_
     refine VQ_y (fun w' hw' => Y_build (cells := #[v55, v61]) Tryz.underlying33 Tryz.zeroValue33 (Tryz_places33 _ Tryz.underlying33) rfl (by obtain ⟨a66, c67, e68, _⟩ := Sl.form h56; subst e68; obtain ⟨a69, c70, e71, _⟩ := Sl.form h62; subst e71; with_unfolding_all rfl)) rfl rfl rfl ?_
     refine VQ_CH (Dw := False) ?_
     refine CH_l1 (Dw := False) (k := 2) rfl ?_
     have h77 : (v55).oneCell' = true := by obtain ⟨_, _, e, _⟩ := Sl.form h56; rw [e]; rfl
     have h80 : (v61).oneCell' = true := by obtain ⟨_, _, e, _⟩ := Sl.form h62; rw [e]; rfl
     refine V_storeC (Dw := False) (off := 0) (ds := [v55, v61]) hH (i := 0) rfl Tryz.sizeOf33 rfl (Nat.le_of_ble_eq_true rfl) (by exact (List.forall_mem_cons.2 ⟨h77, (List.forall_mem_cons.2 ⟨h80, (fun _ h => nomatch h)⟩)⟩)) rfl hB hA rfl rfl ?_
     intro w72 hH73 ht74
     replace h56 := Sl.tr (Dw := False) h56 ht74
     replace h62 := Sl.tr (Dw := False) h62 ht74
     replace hK := Tr.trans (Dw := False) hK ht74
     replace hB := Nat.le_trans hB ht74.ex.size
     replace hA := ht74.new
     replace hH : Hp w.heap.size A50 w72 (obC b48 [v55, v61] 33 :: obC b7 [.slice none 0 0, .slice none 0 0] 33 :: []) := hH73
     obtain ⟨A81, ht82, h83, hH84⟩ := Hp.freezeC (Dw := False) (α := staff_ratio) (x := (⟨x54, x60⟩ : staff_ratio)) hH (i := 0) rfl hA (by exact ⟨[v55], _, rfl, ⟨_, rfl, h56⟩, ⟨_, rfl, h62⟩⟩)
     replace hK := Tr.trans (Dw := False) hK ht82
     replace hB := Nat.le_trans hB ht82.ex.size
     replace hA := ht82.new
     replace hH : Hp w.heap.size A81 w72 (obC b7 [.slice none 0 0, .slice none 0 0] 33 :: []) := hH84
     refine V_CHw (Dw := False) ?_
     refine CH_tail (Dw := False) ?_
     show V _ _ _ _ [] _ _
     refine V_to (fun _ _ => rfl) ?_
     refine C_seq ?_
     refine C_seq ?_
     refine C_region ?_
     have h85 := El_staff_ratio_0 h83
     refine V_y (Y_fieldAddr Tryz.underlying33 rfl Tryz.sizeOf31 (by decide) rfl) rfl rfl rfl ?_
     obtain ⟨v86, h87, h88⟩ := El.list h85
     refine V_y (Y_load h87 Tryz.isAgg31 rfl) rfl rfl rfl ?_
     have h89 := El_staff_ratio_1 h83
     refine V_y (Y_fieldAddr Tryz.underlying33 rfl Tryz.sizeOf31 (by decide) rfl) rfl rfl rfl ?_
     obtain ⟨v90, h91, h92⟩ := El.list h89
     refine V_y (Y_load h91 Tryz.isAgg31 rfl) rfl rfl rfl ?_
     obtain ⟨x93, hx93, hm⟩ := Option.bind_eq_some_iff.1 hm
     refine V_call Tryz.call30 rfl rfl rfl rfl (staff_divisor_c (Dw := False) w72 hA ((⟨x54, x60⟩ : staff_ratio).num) v86 h88 ((⟨x54, x60⟩ : staff_ratio).den) v90 h92 hx93) ?_
     rintro v94 w96 ⟨_, rfl, h95, hk97⟩
     have ht98 := Kp.tr (Dw := False) hk97 hA hB
     replace hH := Hp.kp (Dw := False) hH hk97
     replace h83 := El.tr (Dw := False) h83 ht98
     replace hK := Tr.trans (Dw := False) hK ht98
     replace hB := Nat.le_trans hB ht98.ex.size
     replace hA := ht98.new
     refine V_buildSlice (Dw := False) (l := ([1] : List Int)) (len := 1) Tryz.underlying31 Tryz.sizeOf3 Tryz.zeroValue3 rfl (by with_unfolding_all rfl) (show (1 * 1 : Nat) ≠ 0 by decide) (show (1 * 1 : Nat) ≤ 2 ^ 24 by decide) hA ⟨[.int .i64 1], _, rfl, rfl, rfl⟩ rfl rfl ?_
     intro v99 w100 hk102 h101
     have ht103 := Kp.tr (Dw := False) hk102 hA hB
     replace hH := Hp.kp (Dw := False) hH hk102
     replace h83 := El.tr (Dw := False) h83 ht103
     replace h95 := Sl.tr (Dw := False) h95 ht103
     replace hK := Tr.trans (Dw := False) hK ht103
     replace hB := Nat.le_trans hB ht103.ex.size
     replace hA := ht103.new
     obtain ⟨x104, hx104, hm⟩ := Option.bind_eq_some_iff.1 hm
     refine V_call Tryz.call34 rfl rfl rfl rfl (staff_nat_compare_c (Dw := False) w100 hA x93 v94 h95 ([1] : List Int) v99 h101 hx104) ?_
     rintro _ w105 ⟨rfl, hk106⟩
     have ht107 := Kp.tr (Dw := False) hk106 hA hB
     replace hH := Hp.kp (Dw := False) hH hk106
     replace h83 := El.tr (Dw := False) h83 ht107
     replace hK := Tr.trans (Dw := False) hK ht107
     replace hB := Nat.le_trans hB ht107.ex.size
     replace hA := ht107.new
     refine V_y (Y_neq rfl rfl) rfl rfl rfl ?_
     refine V_to (fun _ _ => rfl) ?_
     refine C_cond rfl (fun hc108 => ?_) (fun hc108 => ?_)
     ·rw [if_pos hc108] at hm
      refine C_seq ?_
      refine C_region ?_
      refine V_y (Y_build Tryz.underlying33 Tryz.zeroValue33 (Tryz_places33 _ Tryz.underlying33) rfl (by with_unfolding_all rfl)) rfl rfl rfl ?_
      refine V_storeC (Dw := False) (off := 0) (ds := [.slice none 0 0, .slice none 0 0]) hH (i := 0) rfl Tryz.sizeOf33 rfl (Nat.le_of_ble_eq_true rfl) (by exact (List.forall_mem_cons.2 ⟨rfl, (List.forall_mem_cons.2 ⟨rfl, (fun _ h => nomatch h)⟩)⟩)) rfl hB hA rfl rfl ?_
      intro w109 hH110 ht111
      replace hK := Tr.trans (Dw := False) hK ht111
      replace hH : Hp w.heap.size A81 w109 (obC b7 [.slice none 0 0, .slice none 0 0] 33 :: []) := hH110
      refine V_as rfl rfl ?_
      refine V_to (fun _ _ => rfl) ?_
      obtain rfl := Option.some.inj hm
      refine C_ret ?_
      try simp only [↓inBlock_ret, ↓then_ret]
      exact retQ rfl (Res.l2 Tryz.results13 (RL.cell rfl (loadVar_agg (Hp.part (off := 0) (n := 2) (ds := [.slice none 0 0, .slice none 0 0]) hH (i := 0) rfl rfl) Tryz.isAgg33 Tryz.sizeOf33)) (RL.tmp rfl)) ⟨.slice none 0 0, .slice none 0 0, rfl, Sl.nil, Sl.nil, hK.kp⟩
     ·rw [if_neg (nt hc108)] at hm
      refine C_skip_to (fun _ _ => rfl) ?_
      refine C_seq ?_
      refine C_region ?_
      obtain ⟨v112, v114, h116, h113, h115⟩ := El_staff_ratio h83
      refine V_y (Y_loadA h116 Tryz.isAgg33 Tryz.sizeOf33 rfl) rfl rfl rfl ?_
      have h122 : (v112).oneCell' = true := by obtain ⟨_, _, e, _⟩ := Sl.form h113; rw [e]; rfl
      have h125 : (v114).oneCell' = true := by obtain ⟨_, _, e, _⟩ := Sl.form h115; rw [e]; rfl
      refine V_storeC (Dw := False) (off := 0) (ds := [v112, v114]) hH (i := 0) rfl Tryz.sizeOf33 rfl (Nat.le_of_ble_eq_true rfl) (by exact (List.forall_mem_cons.2 ⟨h122, (List.forall_mem_cons.2 ⟨h125, (fun _ h => nomatch h)⟩)⟩)) rfl hB hA rfl rfl ?_
      intro w117 hH118 ht119
      replace h113 := Sl.tr (Dw := False) h113 ht119
      replace h115 := Sl.tr (Dw := False) h115 ht119
      replace hK := Tr.trans (Dw := False) hK ht119
      replace hH : Hp w.heap.size A81 w117 (obC b7 [v112, v114] 33 :: []) := hH118
      refine V_as rfl rfl ?_
      refine V_to (fun _ _ => rfl) ?_
      obtain rfl := Option.some.inj hm
      refine C_ret ?_
      try simp only [↓inBlock_ret, ↓then_ret]
      exact retQ rfl (Res.l2 Tryz.results13 (RL.cell rfl (loadVar_agg (Hp.part (off := 0) (n := 2) (ds := [v112, v114]) hH (i := 0) rfl rfl) Tryz.isAgg33 Tryz.sizeOf33)) (RL.tmp rfl)) ⟨v112, v114, rfl, (Sl.out (Dw := False) h113 hA0 hK), (Sl.out (Dw := False) h115 hA0 hK), hK.kp⟩
    obtain ⟨x126, hx126, hm⟩ := Option.bind_eq_some_iff.1 hm
    refine V_call Tryz.call16 rfl rfl rfl rfl (staff_readNat_c w43 hA (Fz.tr (Dw := False) hT hK) r_.num hx126) ?_
    rintro v127 w129 ⟨_, rfl, h128, hk130⟩
    have ht131 := Kp.tr (Dw := False) hk130 hA hB
    replace hH := Hp.kp (Dw := False) hH hk130
    replace hK := Tr.trans (Dw := False) hK ht131
    replace hB := Nat.le_trans hB ht131.ex.size
    replace hA := ht131.new
    refine V_CHZ (Dw := False) (hk130) ?_
    refine CHZ_l1 (Dw := False) (k := 0) [(2, 7), (2, 5), (1, 6), (4, 8)] rfl ?_ rfl ?_
    ·refine CH_l1 (Dw := False) (k := 0) rfl ?_
     refine V_allocHk (Dw := False) (B := w.heap.size) hH Tryz.zeroValue33 hB hA rfl ?_
     intro b132 w133 A134 hk137 hH135 ht136
     replace h128 := Sl.tr (Dw := False) h128 ht136
     replace hK := Tr.trans (Dw := False) hK ht136
     replace hB := Nat.le_trans hB ht136.ex.size
     replace hA := ht136.new
     replace hH : Hp w.heap.size A134 w133 (obC b132 [.slice none 0 0, .slice none 0 0] 33 :: obC b7 [.slice none 0 0, .slice none 0 0] 33 :: []) := hH135
     refine V_CH (Dw := False) (hk137) ?_
     refine CH_l1 (Dw := False) (k := 0) rfl ?_
     obtain ⟨x138, hx138, hm⟩ := Option.bind_eq_some_iff.1 hm
     refine V_call Tryz.call16 rfl rfl rfl rfl (staff_readNat_c w133 hA (Fz.tr (Dw := False) hT hK) r_.den hx138) ?_
     rintro v139 w141 ⟨_, rfl, h140, hk142⟩
     have ht143 := Kp.tr (Dw := False) hk142 hA hB
     replace hH := Hp.kp (Dw := False) hH hk142
     replace h128 := Sl.tr (Dw := False) h128 ht143
     replace hK := Tr.trans (Dw := False) hK ht143
     replace hB := Nat.le_trans hB ht143.ex.size
     replace hA := ht143.new
     refine V_CH (Dw := False) (hk142) ?_
     refine CH_q2 (Dw := False) rfl ?_
     refine VQ_y (fun w' hw' => Y_build (cells := #[v127, v139]) Tryz.underlying33 Tryz.zeroValue33 (Tryz_places33 _ Tryz.underlying33) rfl (by obtain ⟨a144, c145, e146, _⟩ := Sl.form h128; subst e146; obtain ⟨a147, c148, e149, _⟩ := Sl.form h140; subst e149; with_unfolding_all rfl)) rfl rfl rfl ?_
     refine VQ_CH (Dw := False) ?_
     refine CH_l1 (Dw := False) (k := 2) rfl ?_
     have h155 : (v127).oneCell' = true := by obtain ⟨_, _, e, _⟩ := Sl.form h128; rw [e]; rfl
     have h158 : (v139).oneCell' = true := by obtain ⟨_, _, e, _⟩ := Sl.form h140; rw [e]; rfl
     refine V_storeC (Dw := False) (off := 0) (ds := [v127, v139]) hH (i := 0) rfl Tryz.sizeOf33 rfl (Nat.le_of_ble_eq_true rfl) (by exact (List.forall_mem_cons.2 ⟨h155, (List.forall_mem_cons.2 ⟨h158, (fun _ h => nomatch h)⟩)⟩)) rfl hB hA rfl rfl ?_
     intro w150 hH151 ht152
     replace h128 := Sl.tr (Dw := False) h128 ht152
     replace h140 := Sl.tr (Dw := False) h140 ht152
     replace hK := Tr.trans (Dw := False) hK ht152
     replace hB := Nat.le_trans hB ht152.ex.size
     replace hA := ht152.new
     replace hH : Hp w.heap.size A134 w150 (obC b132 [v127, v139] 33 :: obC b7 [.slice none 0 0, .slice none 0 0] 33 :: []) := hH151
     obtain ⟨A159, ht160, h161, hH162⟩ := Hp.freezeC (Dw := False) (α := staff_ratio) (x := (⟨x126, x138⟩ : staff_ratio)) hH (i := 0) rfl hA (by exact ⟨[v127], _, rfl, ⟨_, rfl, h128⟩, ⟨_, rfl, h140⟩⟩)
     replace hK := Tr.trans (Dw := False) hK ht160
     replace hB := Nat.le_trans hB ht160.ex.size
     replace hA := ht160.new
     replace hH : Hp w.heap.size A159 w150 (obC b7 [.slice none 0 0, .slice none 0 0] 33 :: []) := hH162
     refine V_CHw (Dw := False) ?_
     refine CH_tail (Dw := False) ?_
     show V _ _ _ _ [] _ _
     refine V_to (fun _ _ => rfl) ?_
     refine C_seq ?_
     refine C_seq ?_
     refine C_region ?_
     have h163 := El_staff_ratio_0 h161
     refine V_y (Y_fieldAddr Tryz.underlying33 rfl Tryz.sizeOf31 (by decide) rfl) rfl rfl rfl ?_
     obtain ⟨v164, h165, h166⟩ := El.list h163
     refine V_y (Y_load h165 Tryz.isAgg31 rfl) rfl rfl rfl ?_
     have h167 := El_staff_ratio_1 h161
     refine V_y (Y_fieldAddr Tryz.underlying33 rfl Tryz.sizeOf31 (by decide) rfl) rfl rfl rfl ?_
     obtain ⟨v168, h169, h170⟩ := El.list h167
     refine V_y (Y_load h169 Tryz.isAgg31 rfl) rfl rfl rfl ?_
     obtain ⟨x171, hx171, hm⟩ := Option.bind_eq_some_iff.1 hm
     refine V_call Tryz.call30 rfl rfl rfl rfl (staff_divisor_c (Dw := False) w150 hA ((⟨x126, x138⟩ : staff_ratio).num) v164 h166 ((⟨x126, x138⟩ : staff_ratio).den) v168 h170 hx171) ?_
     rintro v172 w174 ⟨_, rfl, h173, hk175⟩
     have ht176 := Kp.tr (Dw := False) hk175 hA hB
     replace hH := Hp.kp (Dw := False) hH hk175
     replace h161 := El.tr (Dw := False) h161 ht176
     replace hK := Tr.trans (Dw := False) hK ht176
     replace hB := Nat.le_trans hB ht176.ex.size
     replace hA := ht176.new
     refine V_buildSlice (Dw := False) (l := ([1] : List Int)) (len := 1) Tryz.underlying31 Tryz.sizeOf3 Tryz.zeroValue3 rfl (by with_unfolding_all rfl) (show (1 * 1 : Nat) ≠ 0 by decide) (show (1 * 1 : Nat) ≤ 2 ^ 24 by decide) hA ⟨[.int .i64 1], _, rfl, rfl, rfl⟩ rfl rfl ?_
     intro v177 w178 hk180 h179
     have ht181 := Kp.tr (Dw := False) hk180 hA hB
     replace hH := Hp.kp (Dw := False) hH hk180
     replace h161 := El.tr (Dw := False) h161 ht181
     replace h173 := Sl.tr (Dw := False) h173 ht181
     replace hK := Tr.trans (Dw := False) hK ht181
     replace hB := Nat.le_trans hB ht181.ex.size
     replace hA := ht181.new
     obtain ⟨x182, hx182, hm⟩ := Option.bind_eq_some_iff.1 hm
     refine V_call Tryz.call34 rfl rfl rfl rfl (staff_nat_compare_c (Dw := False) w178 hA x171 v172 h173 ([1] : List Int) v177 h179 hx182) ?_
     rintro _ w183 ⟨rfl, hk184⟩
     have ht185 := Kp.tr (Dw := False) hk184 hA hB
     replace hH := Hp.kp (Dw := False) hH hk184
     replace h161 := El.tr (Dw := False) h161 ht185
     replace hK := Tr.trans (Dw := False) hK ht185
     replace hB := Nat.le_trans hB ht185.ex.size
     replace hA := ht185.new
     refine V_y (Y_neq rfl rfl) rfl rfl rfl ?_
     refine V_to (fun _ _ => rfl) ?_
     refine C_cond rfl (fun hc186 => ?_) (fun hc186 => ?_)
     ·rw [if_pos hc186] at hm
      refine C_seq ?_
      refine C_region ?_
      refine V_y (Y_build Tryz.underlying33 Tryz.zeroValue33 (Tryz_places33 _ Tryz.underlying33) rfl (by with_unfolding_all rfl)) rfl rfl rfl ?_
      refine V_storeC (Dw := False) (off := 0) (ds := [.slice none 0 0, .slice none 0 0]) hH (i := 0) rfl Tryz.sizeOf33 rfl (Nat.le_of_ble_eq_true rfl) (by exact (List.forall_mem_cons.2 ⟨rfl, (List.forall_mem_cons.2 ⟨rfl, (fun _ h => nomatch h)⟩)⟩)) rfl hB hA rfl rfl ?_
      intro w187 hH188 ht189
      replace hK := Tr.trans (Dw := False) hK ht189
      replace hH : Hp w.heap.size A159 w187 (obC b7 [.slice none 0 0, .slice none 0 0] 33 :: []) := hH188
      refine V_as rfl rfl ?_
      refine V_to (fun _ _ => rfl) ?_
      obtain rfl := Option.some.inj hm
      refine C_ret ?_
      try simp only [↓inBlock_ret, ↓then_ret]
      exact retQ rfl (Res.l2 Tryz.results13 (RL.cell rfl (loadVar_agg (Hp.part (off := 0) (n := 2) (ds := [.slice none 0 0, .slice none 0 0]) hH (i := 0) rfl rfl) Tryz.isAgg33 Tryz.sizeOf33)) (RL.tmp rfl)) ⟨.slice none 0 0, .slice none 0 0, rfl, Sl.nil, Sl.nil, hK.kp⟩
     ·rw [if_neg (nt hc186)] at hm
      refine C_skip_to (fun _ _ => rfl) ?_
      refine C_seq ?_
      refine C_region ?_
      obtain ⟨v190, v192, h194, h191, h193⟩ := El_staff_ratio h161
      refine V_y (Y_loadA h194 Tryz.isAgg33 Tryz.sizeOf33 rfl) rfl rfl rfl ?_
      have h200 : (v190).oneCell' = true := by obtain ⟨_, _, e, _⟩ := Sl.form h191; rw [e]; rfl
      have h203 : (v192).oneCell' = true := by obtain ⟨_, _, e, _⟩ := Sl.form h193; rw [e]; rfl
      refine V_storeC (Dw := False) (off := 0) (ds := [v190, v192]) hH (i := 0) rfl Tryz.sizeOf33 rfl (Nat.le_of_ble_eq_true rfl) (by exact (List.forall_mem_cons.2 ⟨h200, (List.forall_mem_cons.2 ⟨h203, (fun _ h => nomatch h)⟩)⟩)) rfl hB hA rfl rfl ?_
      intro w195 hH196 ht197
      replace h191 := Sl.tr (Dw := False) h191 ht197
      replace h193 := Sl.tr (Dw := False) h193 ht197
      replace hK := Tr.trans (Dw := False) hK ht197
      replace hH : Hp w.heap.size A159 w195 (obC b7 [v190, v192] 33 :: []) := hH196
      refine V_as rfl rfl ?_
      refine V_to (fun _ _ => rfl) ?_
      obtain rfl := Option.some.inj hm
      refine C_ret ?_
      try simp only [↓inBlock_ret, ↓then_ret]
      exact retQ rfl (Res.l2 Tryz.results13 (RL.cell rfl (loadVar_agg (Hp.part (off := 0) (n := 2) (ds := [v190, v192]) hH (i := 0) rfl rfl) Tryz.isAgg33 Tryz.sizeOf33)) (RL.tmp rfl)) ⟨v190, v192, rfl, (Sl.out (Dw := False) h191 hA0 hK), (Sl.out (Dw := False) h193 hA0 hK), hK.kp⟩
    obtain ⟨x204, hx204, hm⟩ := Option.bind_eq_some_iff.1 hm
    refine V_call Tryz.call16 rfl rfl rfl rfl (staff_readNat_c w129 hA (Fz.tr (Dw := False) hT hK) r_.den hx204) ?_
    rintro v205 w207 ⟨_, rfl, h206, hk208⟩
    have ht209 := Kp.tr (Dw := False) hk208 hA hB
    replace hH := Hp.kp (Dw := False) hH hk208
    replace h128 := Sl.tr (Dw := False) h128 ht209
    replace hK := Tr.trans (Dw := False) hK ht209
    replace hB := Nat.le_trans hB ht209.ex.size
    replace hA := ht209.new
    refine V_CHZ (Dw := False) (hk208) ?_
    refine CHZ_q2 (Dw := False) rfl ?_
    refine VQ_y (fun w' hw' => Y_build (cells := #[v127, v205]) Tryz.underlying33 Tryz.zeroValue33 (Tryz_places33 _ Tryz.underlying33) rfl (by obtain ⟨a210, c211, e212, _⟩ := Sl.form h128; subst e212; obtain ⟨a213, c214, e215, _⟩ := Sl.form h206; subst e215; with_unfolding_all rfl)) rfl rfl rfl ?_
    refine VQ_CHZ (Dw := False) ?_
    refine CHZ_nil (Dw := False) ?_
    refine CH_l1 (Dw := False) (k := 0) rfl ?_
    refine V_allocHk (Dw := False) (B := w.heap.size) hH Tryz.zeroValue33 hB hA rfl ?_
    intro b216 w217 A218 hk221 hH219 ht220
    replace h128 := Sl.tr (Dw := False) h128 ht220
    replace h206 := Sl.tr (Dw := False) h206 ht220
    replace hK := Tr.trans (Dw := False) hK ht220
    replace hB := Nat.le_trans hB ht220.ex.size
    replace hA := ht220.new
    replace hH : Hp w.heap.size A218 w217 (obC b216 [.slice none 0 0, .slice none 0 0] 33 :: obC b7 [.slice none 0 0, .slice none 0 0] 33 :: []) := hH219
    refine V_CH (Dw := False) (hk221) ?_
    refine CH_l1 (Dw := False) (k := 2) rfl ?_
    have h227 : (v127).oneCell' = true := by obtain ⟨_, _, e, _⟩ := Sl.form h128; rw [e]; rfl
    have h230 : (v205).oneCell' = true := by obtain ⟨_, _, e, _⟩ := Sl.form h206; rw [e]; rfl
    refine V_storeC (Dw := False) (off := 0) (ds := [v127, v205]) hH (i := 0) rfl Tryz.sizeOf33 rfl (Nat.le_of_ble_eq_true rfl) (by exact (List.forall_mem_cons.2 ⟨h227, (List.forall_mem_cons.2 ⟨h230, (fun _ h => nomatch h)⟩)⟩)) rfl hB hA rfl rfl ?_
    intro w222 hH223 ht224
    replace h128 := Sl.tr (Dw := False) h128 ht224
    replace h206 := Sl.tr (Dw := False) h206 ht224
    replace hK := Tr.trans (Dw := False) hK ht224
    replace hB := Nat.le_trans hB ht224.ex.size
    replace hA := ht224.new
    replace hH : Hp w.heap.size A218 w222 (obC b216 [v127, v205] 33 :: obC b7 [.slice none 0 0, .slice none 0 0] 33 :: []) := hH223
    obtain ⟨A231, ht232, h233, hH234⟩ := Hp.freezeC (Dw := False) (α := staff_ratio) (x := (⟨x126, x204⟩ : staff_ratio)) hH (i := 0) rfl hA (by exact ⟨[v127], _, rfl, ⟨_, rfl, h128⟩, ⟨_, rfl, h206⟩⟩)
    replace hK := Tr.trans (Dw := False) hK ht232
    replace hB := Nat.le_trans hB ht232.ex.size
    replace hA := ht232.new
    replace hH : Hp w.heap.size A231 w222 (obC b7 [.slice none 0 0, .slice none 0 0] 33 :: []) := hH234
    refine V_CHw (Dw := False) ?_
    refine CH_tail (Dw := False) ?_
    show V _ _ _ _ [] _ _
    refine V_to (fun _ _ => rfl) ?_
    refine C_seq ?_
    refine C_seq ?_
    refine C_region ?_
    have h235 := El_staff_ratio_0 h233
    refine V_y (Y_fieldAddr Tryz.underlying33 rfl Tryz.sizeOf31 (by decide) rfl) rfl rfl rfl ?_
    obtain ⟨v236, h237, h238⟩ := El.list h235
    refine V_y (Y_load h237 Tryz.isAgg31 rfl) rfl rfl rfl ?_
    have h239 := El_staff_ratio_1 h233
    refine V_y (Y_fieldAddr Tryz.underlying33 rfl Tryz.sizeOf31 (by decide) rfl) rfl rfl rfl ?_
    obtain ⟨v240, h241, h242⟩ := El.list h239
    refine V_y (Y_load h241 Tryz.isAgg31 rfl) rfl rfl rfl ?_
    obtain ⟨x243, hx243, hm⟩ := Option.bind_eq_some_iff.1 hm
    refine V_call Tryz.call30 rfl rfl rfl rfl (staff_divisor_c (Dw := False) w222 hA ((⟨x126, x204⟩ : staff_ratio).num) v236 h238 ((⟨x126, x204⟩ : staff_ratio).den) v240 h242 hx243) ?_
    rintro v244 w246 ⟨_, rfl, h245, hk247⟩
    have ht248 := Kp.tr (Dw := False) hk247 hA hB
    replace hH := Hp.kp (Dw := False) hH hk247
    replace h233 := El.tr (Dw := False) h233 ht248
    replace hK := Tr.trans (Dw := False) hK ht248
    replace hB := Nat.le_trans hB ht248.ex.size
    replace hA := ht248.new
    refine V_buildSlice (Dw := False) (l := ([1] : List Int)) (len := 1) Tryz.underlying31 Tryz.sizeOf3 Tryz.zeroValue3 rfl (by with_unfolding_all rfl) (show (1 * 1 : Nat) ≠ 0 by decide) (show (1 * 1 : Nat) ≤ 2 ^ 24 by decide) hA ⟨[.int .i64 1], _, rfl, rfl, rfl⟩ rfl rfl ?_
    intro v249 w250 hk252 h251
    have ht253 := Kp.tr (Dw := False) hk252 hA hB
    replace hH := Hp.kp (Dw := False) hH hk252
    replace h233 := El.tr (Dw := False) h233 ht253
    replace h245 := Sl.tr (Dw := False) h245 ht253
    replace hK := Tr.trans (Dw := False) hK ht253
    replace hB := Nat.le_trans hB ht253.ex.size
    replace hA := ht253.new
    obtain ⟨x254, hx254, hm⟩ := Option.bind_eq_some_iff.1 hm
    refine V_call Tryz.call34 rfl rfl rfl rfl (staff_nat_compare_c (Dw := False) w250 hA x243 v244 h245 ([1] : List Int) v249 h251 hx254) ?_
    rintro _ w255 ⟨rfl, hk256⟩
    have ht257 := Kp.tr (Dw := False) hk256 hA hB
    replace hH := Hp.kp (Dw := False) hH hk256
    replace h233 := El.tr (Dw := False) h233 ht257
    replace hK := Tr.trans (Dw := False) hK ht257
    replace hB := Nat.le_trans hB ht257.ex.size
    replace hA := ht257.new
    refine V_y (Y_neq rfl rfl) rfl rfl rfl ?_
    refine V_to (fun _ _ => rfl) ?_
    refine C_cond rfl (fun hc258 => ?_) (fun hc258 => ?_)
    ·rw [if_pos hc258] at hm
     refine C_seq ?_
     refine C_region ?_
     refine V_y (Y_build Tryz.underlying33 Tryz.zeroValue33 (Tryz_places33 _ Tryz.underlying33) rfl (by with_unfolding_all rfl)) rfl rfl rfl ?_
     refine V_storeC (Dw := False) (off := 0) (ds := [.slice none 0 0, .slice none 0 0]) hH (i := 0) rfl Tryz.sizeOf33 rfl (Nat.le_of_ble_eq_true rfl) (by exact (List.forall_mem_cons.2 ⟨rfl, (List.forall_mem_cons.2 ⟨rfl, (fun _ h => nomatch h)⟩)⟩)) rfl hB hA rfl rfl ?_
     intro w259 hH260 ht261
     replace hK := Tr.trans (Dw := False) hK ht261
     replace hH : Hp w.heap.size A231 w259 (obC b7 [.slice none 0 0, .slice none 0 0] 33 :: []) := hH260
     refine V_as rfl rfl ?_
     refine V_to (fun _ _ => rfl) ?_
     obtain rfl := Option.some.inj hm
     refine C_ret ?_
     try simp only [↓inBlock_ret, ↓then_ret]
     exact retQ rfl (Res.l2 Tryz.results13 (RL.cell rfl (loadVar_agg (Hp.part (off := 0) (n := 2) (ds := [.slice none 0 0, .slice none 0 0]) hH (i := 0) rfl rfl) Tryz.isAgg33 Tryz.sizeOf33)) (RL.tmp rfl)) ⟨.slice none 0 0, .slice none 0 0, rfl, Sl.nil, Sl.nil, hK.kp⟩
    ·rw [if_neg (nt hc258)] at hm
     refine C_skip_to (fun _ _ => rfl) ?_
     refine C_seq ?_
     refine C_region ?_
     obtain ⟨v262, v264, h266, h263, h265⟩ := El_staff_ratio h233
     refine V_y (Y_loadA h266 Tryz.isAgg33 Tryz.sizeOf33 rfl) rfl rfl rfl ?_
     have h272 : (v262).oneCell' = true := by obtain ⟨_, _, e, _⟩ := Sl.form h263; rw [e]; rfl
     have h275 : (v264).oneCell' = true := by obtain ⟨_, _, e, _⟩ := Sl.form h265; rw [e]; rfl
     refine V_storeC (Dw := False) (off := 0) (ds := [v262, v264]) hH (i := 0) rfl Tryz.sizeOf33 rfl (Nat.le_of_ble_eq_true rfl) (by exact (List.forall_mem_cons.2 ⟨h272, (List.forall_mem_cons.2 ⟨h275, (fun _ h => nomatch h)⟩)⟩)) rfl hB hA rfl rfl ?_
     intro w267 hH268 ht269
     replace h263 := Sl.tr (Dw := False) h263 ht269
     replace h265 := Sl.tr (Dw := False) h265 ht269
     replace hK := Tr.trans (Dw := False) hK ht269
     replace hH : Hp w.heap.size A231 w267 (obC b7 [v262, v264] 33 :: []) := hH268
     refine V_as rfl rfl ?_
     refine V_to (fun _ _ => rfl) ?_
     obtain rfl := Option.some.inj hm
     refine C_ret ?_
     try simp only [↓inBlock_ret, ↓then_ret]
     exact retQ rfl (Res.l2 Tryz.results13 (RL.cell rfl (loadVar_agg (Hp.part (off := 0) (n := 2) (ds := [v262, v264]) hH (i := 0) rfl rfl) Tryz.isAgg33 Tryz.sizeOf33)) (RL.tmp rfl)) ⟨v262, v264, rfl, (Sl.out (Dw := False) h263 hA0 hK), (Sl.out (Dw := False) h265 hA0 hK), hK.kp⟩

set_option maxRecDepth 4000 in
set_option maxHeartbeats 4000000 in
theorem staff_within_c (w : World) (n : Int) (low : Int) (high : Int) : Ret Tryz.prog 14 #[.int .i64 n, .int .i64 low, .int .i64 high] w fun v w' => v = .bool (staff_within n low high) ∧ w = w' := by
 generalize hm : staff_within n low high = r
 unfold staff_within at hm
 refine enter Tryz.func14 rfl Tryz.ntmps14 rfl ?_
 refine C_seq ?_
 refine C_region ?_
 refine V_as rfl rfl ?_
 refine V_to (fun _ _ => rfl) ?_
 refine C_seq ?_
 refine C_region ?_
 refine V_mv rfl rfl ?_
 refine V_mv rfl rfl ?_
 refine V_y (Y_geq rfl rfl) rfl rfl rfl ?_
 refine V_mv rfl rfl ?_
 refine V_cut 4 (fun _ : Unit => [(14, .bool ((decide (low ≤ n)) && (decide (n ≤ high))))]) (fun _ w' => w = w') ?_ ?_
 ·simp only [List.take, List.drop]
  rcases Bool.eq_false_or_eq_true (decide (low ≤ n)) with hc1 | hc1
  ·refine V_ge rfl rfl rfl hc1 ?_
   refine V_mv rfl rfl ?_
   refine V_ge rfl rfl rfl hc1 ?_
   refine V_mv rfl rfl ?_
   refine V_ge rfl rfl rfl hc1 ?_
   refine V_y (Y_leq rfl rfl) rfl rfl rfl ?_
   refine V_y (Y_pick_te rfl hc1 rfl) rfl rfl rfl ?_
   exact V_end fun a ha => ⟨(), ha.sub ⟨(by rw [hc1]; rfl), trivial⟩, rfl⟩
  ·refine V_gn rfl rfl rfl hc1 rfl rfl rfl ?_
   refine V_gn rfl rfl rfl hc1 rfl rfl rfl ?_
   refine V_gn rfl rfl rfl hc1 rfl rfl rfl ?_
   refine V_y (Y_pick_fe rfl hc1 rfl) rfl rfl rfl ?_
   exact V_end fun a ha => ⟨(), ha.sub ⟨(by rw [hc1]; rfl), trivial⟩, rfl⟩
 simp only [List.take, List.drop]
 rintro _ _ rfl
 refine V_as rfl rfl ?_
 refine V_to (fun _ _ => rfl) ?_
 obtain rfl := hm
 refine C_ret ?_
 try simp only [↓inBlock_ret, ↓then_ret]
 exact retQ rfl (Res.one Tryz.results14 rfl) ⟨rfl, rfl⟩

def Tryz_strings_Repeat_lay_ren : Go.Shelf.Ren := ⟨fun | 99 => 38 | 105 => 17 | 165 => 39 | 166 => 40 | 169 => 42 | 170 => 41 | 206 => 56 | 212 => 37 | 240 => 57 | 241 => 58 | 263 => 54 | 264 => 55 | 276 => 67 | 277 => 68 | n => n, fun | 0 => 0 | 1 => 1 | 2 => 2 | 3 => 3 | 4 => 4 | 5 => 5 | 6 => 6 | 7 => 7 | 8 => 8 | 9 => 9 | 10 => 10 | 11 => 11 | 12 => 12 | 13 => 13 | 14 => 14 | 15 => 15 | 16 => 16 | 17 => 17 | 18 => 18 | 19 => 19 | 20 => 20 | 21 => 21 | 22 => 72 | 23 => 109 | 26 => 48 | 27 => 151 | 28 => 30 | 37 => 74 | 40 => 150 | 41 => 138 | 46 => 69 | 47 => 137 | 51 => 86 | 52 => 89 | 53 => 85 | 54 => 117 | 55 => 149 | 63 => 141 | 64 => 142 | 69 => 112 | 70 => 73 | 71 => 75 | 72 => 76 | 73 => 77 | 74 => 65 | 75 => 66 | 76 => 67 | 77 => 68 | 80 => 51 | 81 => 78 | 83 => 83 | 84 => 108 | 85 => 100 | 86 => 101 | 104 => 84 | 105 => 139 | 106 => 140 | 108 => 115 | 109 => 70 | 110 => 71 | 111 => 136 | 114 => 132 | 115 => 122 | 116 => 123 | 117 => 124 | 118 => 125 | 119 => 145 | 122 => 121 | 123 => 126 | 124 => 127 | 127 => 97 | 128 => 92 | 137 => 146 | 138 => 147 | 139 => 148 | 143 => 129 | 144 => 130 | 145 => 131 | 146 => 93 | 147 => 94 | 148 => 95 | 149 => 96 | 164 => 105 | 165 => 106 | 166 => 107 | 167 => 99 | 168 => 102 | 169 => 103 | 170 => 104 | 171 => 116 | 172 => 118 | 173 => 119 | 174 => 120 | 175 => 110 | 176 => 111 | 209 => 113 | 210 => 114 | 211 => 133 | 212 => 134 | 213 => 135 | 214 => 128 | 232 => 143 | 233 => 144 | 236 => 38 | 238 => 152 | 239 => 153 | 240 => 154 | 241 => 155 | 242 => 156 | 243 => 157 | 244 => 158 | 245 => 159 | 246 => 160 | 247 => 161 | 248 => 162 | 249 => 163 | n => n, fun | 1 => 2 | 3 => 6 | 4 => 7 | 15 => 0 | 16 => 1 | 17 => 3 | 18 => 4 | 19 => 5 | n => n⟩
theorem Tryz_strings_Repeat_lay : Go.Proofs.Lays.n105 Tryz.prog Tryz_strings_Repeat_lay_ren := {
 mixed := by kernel_rfl,
 f99 := Tryz.func38.trans (congrArg some (by kernel_rfl)),
 f105 := Tryz.func17.trans (congrArg some (by kernel_rfl)),
 f165 := Tryz.func39.trans (congrArg some (by kernel_rfl)),
 f166 := Tryz.func40.trans (congrArg some (by kernel_rfl)),
 f169 := Tryz.func42.trans (congrArg some (by kernel_rfl)),
 f170 := Tryz.func41.trans (congrArg some (by kernel_rfl)),
 f206 := Tryz.func56.trans (congrArg some (by kernel_rfl)),
 f212 := Tryz.func37.trans (congrArg some (by kernel_rfl)),
 f240 := Tryz.func57.trans (congrArg some (by kernel_rfl)),
 f241 := Tryz.func58.trans (congrArg some (by kernel_rfl)),
 f263 := Tryz.func54.trans (congrArg some (by kernel_rfl)),
 f264 := Tryz.func55.trans (congrArg some (by kernel_rfl)),
 f276 := Tryz.func67.trans (congrArg some (by kernel_rfl)),
 f277 := Tryz.func68.trans (congrArg some (by kernel_rfl)),
 t0 := Tryz.underlying0,
 a0 := Tryz.isAgg0,
 z0 := Tryz.sizeOf0,
 v0 := Tryz.zeroValue0,
 t3 := Tryz.underlying3,
 a3 := Tryz.isAgg3,
 z3 := Tryz.sizeOf3,
 v3 := Tryz.zeroValue3,
 t4 := Tryz.underlying4,
 a4 := Tryz.isAgg4,
 z4 := Tryz.sizeOf4,
 v4 := Tryz.zeroValue4,
 t5 := Tryz.underlying5,
 a5 := Tryz.isAgg5,
 z5 := Tryz.sizeOf5,
 v5 := Tryz.zeroValue5,
 t9 := Tryz.underlying9,
 a9 := Tryz.isAgg9,
 z9 := Tryz.sizeOf9,
 v9 := Tryz.zeroValue9,
 t20 := Tryz.underlying20,
 a20 := Tryz.isAgg20,
 z20 := Tryz.sizeOf20,
 v20 := Tryz.zeroValue20,
 t37 := Tryz.underlying74,
 a37 := Tryz.isAgg74,
 z37 := Tryz.sizeOf74,
 v37 := Tryz.zeroValue74,
 t46 := Tryz.underlying69,
 a46 := Tryz.isAgg69,
 z46 := Tryz.sizeOf69,
 v46 := Tryz.zeroValue69,
 t51 := Tryz.underlying86,
 a51 := Tryz.isAgg86,
 z51 := Tryz.sizeOf86,
 v51 := Tryz.zeroValue86,
 t53 := Tryz.underlying85,
 a53 := Tryz.isAgg85,
 z53 := Tryz.sizeOf85,
 v53 := Tryz.zeroValue85,
 t70 := Tryz.underlying73,
 a70 := Tryz.isAgg73,
 z70 := Tryz.sizeOf73,
 v70 := Tryz.zeroValue73,
 t72 := Tryz.underlying76,
 a72 := Tryz.isAgg76,
 z72 := Tryz.sizeOf76,
 v72 := Tryz.zeroValue76,
 t75 := Tryz.underlying66,
 a75 := Tryz.isAgg66,
 z75 := Tryz.sizeOf66,
 v75 := Tryz.zeroValue66,
 t76 := Tryz.underlying67,
 a76 := Tryz.isAgg67,
 z76 := Tryz.sizeOf67,
 v76 := Tryz.zeroValue67,
 t109 := Tryz.underlying70,
 a109 := Tryz.isAgg70,
 z109 := Tryz.sizeOf70,
 v109 := Tryz.zeroValue70,
 t127 := Tryz.underlying97,
 a127 := Tryz.isAgg97,
 z127 := Tryz.sizeOf97,
 v127 := Tryz.zeroValue97,
 t146 := Tryz.underlying93,
 a146 := Tryz.isAgg93,
 z146 := Tryz.sizeOf93,
 v146 := Tryz.zeroValue93,
 t148 := Tryz.underlying95,
 a148 := Tryz.isAgg95,
 z148 := Tryz.sizeOf95,
 v148 := Tryz.zeroValue95,
 t164 := Tryz.underlying105,
 a164 := Tryz.isAgg105,
 z164 := Tryz.sizeOf105,
 v164 := Tryz.zeroValue105 }
theorem Tryz_strings_Repeat_lay_x : Go.Proofs.Builder.Extra Tryz.prog Tryz_strings_Repeat_lay_ren := {
 sizeBuilder := by kernel_rfl
 liesBuilder := by kernel_rfl
 t5 := Tryz.underlying5
 a5 := Tryz.isAgg5
 z5 := Tryz.sizeOf5
 v5 := Tryz.zeroValue5
 infoByte := by kernel_rfl
 cellsByte := by kernel_rfl
 sizeByte := by kernel_rfl
 neB5 := (by decide : (76 : Nat) ≠ 5) }
theorem strings_Repeat_c (w : World) {A : Nat → Prop} (hA : ∀ b, w.heap.size ≤ b → A b) (s : ByteArray) (count : Int) {r : ByteArray} (hm : strings_Repeat s count = some r) : Ret Tryz.prog 17 #[.string s, .int .i64 count] w fun v w' => v = .string r ∧ Kp False w w' := by
 unfold strings_Repeat at hm
 split at hm
 case isFalse => cases hm
 rename_i h
 obtain rfl := Option.some.inj hm
 obtain ⟨c, rfl⟩ : ∃ c : Nat, count = (c : Int) := ⟨count.toNat, by omega⟩
 rw [Int.toNat_natCast] at h ⊢
 refine Calls.mono (Go.Proofs.Any.strings_Repeat Tryz_strings_Repeat_lay Tryz_strings_Repeat_lay_x s c w (by omega) h.2.2) ?_
 rintro _ w' ⟨rfl, hk⟩
 exact ⟨_, rfl, rfl, .of hk⟩

set_option maxRecDepth 4000 in
set_option maxHeartbeats 4000000 in
theorem staff_nat_times_c (w : World) {A : Nat → Prop} (hA : ∀ b, w.heap.size ≤ b → A b) (a_ : (List Int)) (v_a_ : Value) (h_a_ : Sl A w v_a_ a_) (b : (List Int)) (v_b : Value) (h_b : Sl A w v_b b) {r : (List Int)} (hm : staff_nat_times a_ b = some r) : Ret Tryz.prog 15 #[v_a_, v_b] w fun v w' => ∃ s0, v = s0 ∧ Sl A w' s0 r ∧ Kp Dw w w' := by
 unfold staff_nat_times at hm
 refine enter Tryz.func15 rfl Tryz.ntmps15 rfl ?_
 have hA0 := hA
 have hB := Nat.le_refl w.heap.size
 have hK : Tr Dw w.heap.size A w A w := Tr.refl (Dw := Dw) hA
 have hH : Hp w.heap.size A w [] := Hp.nil
 refine C_seq ?_
 refine C_region ?_
 refine V_as rfl rfl ?_
 refine V_to (fun _ _ => rfl) ?_
 refine C_seq ?_
 refine C_seq ?_
 refine C_region ?_
 refine V_mv rfl rfl ?_
 refine V_y (Y_lenSl h_a_ rfl Tryz.underlying31 rfl) rfl rfl rfl ?_
 refine V_y (Y_eql rfl rfl) rfl rfl rfl ?_
 refine V_mv rfl rfl ?_
 refine V_cut 4 (fun _ : Unit => [(0, v_a_), (1, v_b), (21, .bool (((a_.length : Int) == 0) || ((b.length : Int) == 0)))]) (fun _ w' => w = w') ?_ ?_
 ·simp only [List.take, List.drop]
  rcases Bool.eq_false_or_eq_true ((a_.length : Int) == 0) with hc5 | hc5
  ·refine V_gn rfl rfl rfl hc5 rfl rfl rfl ?_
   refine V_gn rfl rfl rfl hc5 rfl rfl rfl ?_
   refine V_gn rfl rfl rfl hc5 rfl rfl rfl ?_
   refine V_y (Y_pick_te rfl hc5 rfl) rfl rfl rfl ?_
   exact V_end fun a ha => ⟨(), ha.sub ⟨rfl, rfl, (by rw [hc5]; rfl), trivial⟩, rfl⟩
  ·refine V_ge rfl rfl rfl hc5 ?_
   refine V_mv rfl rfl ?_
   refine V_ge rfl rfl rfl hc5 ?_
   refine V_y (Y_lenSl h_b rfl Tryz.underlying31 rfl) rfl rfl rfl ?_
   refine V_ge rfl rfl rfl hc5 ?_
   refine V_y (Y_eql rfl rfl) rfl rfl rfl ?_
   refine V_y (Y_pick_fe rfl hc5 rfl) rfl rfl rfl ?_
   exact V_end fun a ha => ⟨(), ha.sub ⟨rfl, rfl, (by rw [hc5]; rfl), trivial⟩, rfl⟩
 simp only [List.take, List.drop]
 rintro _ _ rfl
 refine V_to (fun _ _ => rfl) ?_
 refine C_cond rfl (fun hc7 => ?_) (fun hc7 => ?_)
 ·rw [if_pos hc7] at hm
  refine C_seq ?_
  refine C_region ?_
  refine V_as rfl rfl ?_
  refine V_to (fun _ _ => rfl) ?_
  obtain rfl := Option.some.inj hm
  refine C_ret ?_
  try simp only [↓inBlock_ret, ↓then_ret]
  exact retQ rfl (Res.one Tryz.results15 rfl) ⟨.slice none 0 0, rfl, Sl.nil, hK.kp⟩
 ·rw [if_neg (nt hc7)] at hm
  refine C_skip_to (fun _ _ => rfl) ?_
  refine C_seq ?_
  refine C_region ?_
  refine V_mv rfl rfl ?_
  refine V_y (Y_lenSl h_a_ rfl Tryz.underlying31 rfl) rfl rfl rfl ?_
  refine V_mv rfl rfl ?_
  refine V_y (Y_lenSl h_b rfl Tryz.underlying31 rfl) rfl rfl rfl ?_
  refine V_y (Y_addI rfl rfl) rfl rfl rfl ?_
  obtain ⟨x8, hx8, hm⟩ := Option.bind_eq_some_iff.1 hm
  refine V_makeH (Dw := Dw) (e := 3) (ti := Tryz.t3) hH hx8 (fun _ _ => rfl) Tryz.underlying31 Tryz_info3 rfl rfl rfl (by decide) (by decide) hB hA rfl rfl rfl ?_
  intro v9 w10 A11 hH12 ht13
  replace h_a_ := Sl.tr h_a_ ht13
  replace h_b := Sl.tr h_b ht13
  replace hK := Tr.trans hK ht13
  replace hB := Nat.le_trans hB ht13.ex.size
  replace hA := ht13.new
  replace hH : Hp w.heap.size A11 w10 (obS (α := Int) 3 v9 x8 :: []) := hH12
  refine V_as rfl rfl ?_
  refine V_to (fun _ _ => rfl) ?_
  refine C_seq ?_
  refine C_seq ?_
  refine C_region ?_
  refine V_mv rfl rfl ?_
  refine V_y (Y_lenSl h_a_ rfl Tryz.underlying31 rfl) rfl rfl rfl ?_
  refine V_mv rfl rfl ?_
  refine V_to (fun _ _ => rfl) ?_
  have hn38 := Sl.le h_a_
  obtain ⟨o14, ho14, hm⟩ := Option.bind_eq_some_iff.1 hm
  refine C_cutG (ι := ((List Int) × Value × (Nat → Prop))) (fun ⟨s15, v21, A23⟩ => [(5, v21)]) (fun ⟨s15, v21, A23⟩ => fun w' => o14 = .fin s15 ∧ Hp w.heap.size A23 w' (obS (α := Int) 3 v21 s15 :: []) ∧ Tr Dw w.heap.size A11 w10 A23 w') ?_ ?_
  ·refine C_block ?_
   refine C_range ho14 (fun k17 s25 a w' => ∃ i : (Value × (Nat → Prop)), Has ⟨88, [], none⟩ a ([(1, v_b), (5, i.1), (28, v_a_), (29, .int .i64 (a_.length : Int)), (30, .int .i64 (k17 : Int))]) ∧ Hp w.heap.size i.2 w' (obS (α := Int) 3 i.1 s25 :: []) ∧ Tr Dw w.heap.size A11 w10 i.2 w') (fun a ha => ⟨(v9, A11), ha.sub ⟨rfl, rfl, rfl, rfl, rfl, trivial⟩, ⟨hH, Tr.refl (Dw := Dw) hA⟩⟩) ?_
   rintro K k17 s25 a w26 ⟨⟨v27, A29⟩, ha144, hH30, hr16⟩ hle34 K37 h36
   refine C_of ?_ ha144
   replace h_b := Sl.tr h_b hr16
   replace h_a_ := Sl.tr h_a_ hr16
   replace hB := Nat.le_trans hB hr16.ex.size
   replace hA := hr16.new
   replace hH : Hp w.heap.size A29 w26 (obS (α := Int) 3 v27 s25 :: []) := hH30
   refine C_seq (C_region (V_y (Y_lss rfl rfl) rfl rfl rfl (V_to (fun _ _ => rfl) ?_)))
   refine C_seq ?_
   refine C_cond rfl (fun hc39 => ?_) (fun hc39 => ?_)
   ·have hlt35 := lt_of_dec hc39
    obtain ⟨x31, h32, h33⟩ := K37 hlt35
    refine C_skip_to (fun _ _ => rfl) ?_
    refine C_seq ?_
    obtain ⟨s41, ho40, h32⟩ := Option.bind_eq_some_iff.1 h32
    refine C_cutG (ι := (Value × (Nat → Prop))) (fun ⟨v43, A48⟩ => [(1, v_b), (5, v43), (28, v_a_), (29, .int .i64 (a_.length : Int)), (30, .int .i64 (k17 : Int))]) (fun ⟨v43, A48⟩ => fun w' => Hp w.heap.size A48 w' (obS (α := Int) 3 v43 s41 :: []) ∧ Tr Dw w.heap.size A29 w26 A48 w') ?_ ?_
    ·have hr42 : Tr Dw w.heap.size A29 w26 A29 w26 := Tr.refl (Dw := Dw) hA
     refine C_block ?_
     refine C_seq ?_
     refine C_region ?_
     refine V_mv rfl rfl ?_
     obtain ⟨x50, hx50, ho40⟩ := Option.bind_eq_some_iff.1 ho40
     refine V_indexAddr h_a_ hx50 Tryz.underlying31 Tryz.sizeOf3 rfl rfl rfl ?_
     intro b51 o52 h53
     refine V_y (Y_load (El.int h53) Tryz.isAgg3 rfl) rfl rfl rfl ?_
     refine V_as rfl rfl ?_
     refine V_as rfl rfl ?_
     refine V_to (fun _ _ => rfl) ?_
     refine C_seq ?_
     refine C_region ?_
     refine V_as rfl rfl ?_
     refine V_to (fun _ _ => rfl) ?_
     refine C_seq ?_
     refine C_seq ?_
     refine C_region ?_
     refine V_mv rfl rfl ?_
     refine V_y (Y_lenSl h_b rfl Tryz.underlying31 rfl) rfl rfl rfl ?_
     refine V_mv rfl rfl ?_
     refine V_to (fun _ _ => rfl) ?_
     have hn78 := Sl.le h_b
     obtain ⟨o54, ho54, ho40⟩ := Option.bind_eq_some_iff.1 ho40
     refine C_cutG (ι := (((List Int) × Int) × Value × (Nat → Prop))) (fun ⟨s55, v61, A63⟩ => [(1, v_b), (5, v61), (6, .int .i64 (k17 : Int)), (8, .int .i64 s55.2), (28, v_a_), (29, .int .i64 (a_.length : Int)), (30, .int .i64 (k17 : Int))]) (fun ⟨s55, v61, A63⟩ => fun w' => o54 = .fin s55 ∧ Hp w.heap.size A63 w' (obS (α := Int) 3 v61 s55.1 :: []) ∧ Tr Dw w.heap.size A29 w26 A63 w') ?_ ?_
     ·refine C_block ?_
      refine C_range ho54 (fun k57 s65 a w' => ∃ i : (Value × (Nat → Prop)), Has ⟨88, [], none⟩ a ([(1, v_b), (5, i.1), (6, .int .i64 (k17 : Int)), (7, .int .i64 x50), (8, .int .i64 s65.2), (28, v_a_), (29, .int .i64 (a_.length : Int)), (30, .int .i64 (k17 : Int)), (35, v_b), (36, .int .i64 (b.length : Int)), (37, .int .i64 (k57 : Int))]) ∧ Hp w.heap.size i.2 w' (obS (α := Int) 3 i.1 s65.1 :: []) ∧ Tr Dw w.heap.size A29 w26 i.2 w') (fun a ha => ⟨(v27, A29), ha.sub ⟨rfl, rfl, rfl, rfl, rfl, rfl, rfl, rfl, rfl, rfl, rfl, trivial⟩, ⟨hH, Tr.refl (Dw := Dw) hA⟩⟩) ?_
      rintro K k57 s65 a w66 ⟨⟨v67, A69⟩, ha99, hH70, hr56⟩ hle74 K77 h76
      refine C_of ?_ ha99
      replace h_b := Sl.tr h_b hr56
      replace hB := Nat.le_trans hB hr56.ex.size
      replace hA := hr56.new
      replace hH : Hp w.heap.size A69 w66 (obS (α := Int) 3 v67 s65.1 :: []) := hH70
      refine C_seq (C_region (V_y (Y_lss rfl rfl) rfl rfl rfl (V_to (fun _ _ => rfl) ?_)))
      refine C_seq ?_
      refine C_cond rfl (fun hc79 => ?_) (fun hc79 => ?_)
      ·have hlt75 := lt_of_dec hc79
       obtain ⟨x71, h72, h73⟩ := K77 hlt75
       refine C_skip_to (fun _ _ => rfl) ?_
       refine C_seq ?_
       refine C_block ?_
       refine C_seq ?_
       refine C_region ?_
       refine V_mv rfl rfl ?_
       obtain ⟨x80, hx80, h72⟩ := Option.bind_eq_some_iff.1 h72
       refine V_indexAddr h_b hx80 Tryz.underlying31 Tryz.sizeOf3 rfl rfl rfl ?_
       intro b81 o82 h83
       refine V_y (Y_load (El.int h83) Tryz.isAgg3 rfl) rfl rfl rfl ?_
       refine V_as rfl rfl ?_
       refine V_as rfl rfl ?_
       refine V_to (fun _ _ => rfl) ?_
       refine C_seq ?_
       refine C_region ?_
       refine V_mv rfl rfl ?_
       refine V_mv rfl rfl ?_
       refine V_mv rfl rfl ?_
       refine V_y (Y_addI rfl rfl) rfl rfl rfl ?_
       obtain ⟨x84, hx84, h72⟩ := Option.bind_eq_some_iff.1 h72
       refine V_indexAddrH (α := Int) (e := 3) (v := v67) (l := s65.1) hH (i := 0) rfl hx84 Tryz.underlying31 Tryz.sizeOf3 rfl rfl rfl ?_
       intro b85 o86 h87 hl88
       refine V_y (Y_load (El.int h87) Tryz.isAgg3 rfl) rfl rfl rfl ?_
       refine V_mv rfl rfl ?_
       refine V_mv rfl rfl ?_
       refine V_y (Y_mulI rfl rfl) rfl rfl rfl ?_
       refine V_y (Y_addI rfl rfl) rfl rfl rfl ?_
       refine V_mv rfl rfl ?_
       refine V_y (Y_addI rfl rfl) rfl rfl rfl ?_
       refine V_as rfl rfl ?_
       refine V_to (fun _ _ => rfl) ?_
       refine C_region ?_
       refine V_mv rfl rfl ?_
       refine V_mv rfl rfl ?_
       refine V_mv rfl rfl ?_
       refine V_y (Y_addI rfl rfl) rfl rfl rfl ?_
       refine V_mv rfl rfl ?_
       refine V_y (Y_rem (by rw [rem, if_neg (by decide)]) rfl rfl) rfl rfl rfl ?_
       refine V_mv rfl rfl ?_
       refine V_y (Y_quo (by rw [quo, if_neg (by decide)]) rfl rfl) rfl rfl rfl ?_
       refine V_indexAddrH (α := Int) (e := 3) (v := v67) (l := s65.1) hH (i := 0) rfl hx84 Tryz.underlying31 Tryz.sizeOf3 rfl rfl rfl ?_
       intro b89 o90 h91 hl92
       obtain ⟨x93, hx93, h72⟩ := Option.bind_eq_some_iff.1 h72
       refine V_storeH (Dw := Dw) (α := Int) (e := 3) (v := v67) (l := s65.1) hH (i := 0) rfl hl92 hx93 rfl Tryz.sizeOf3 rfl hB hA rfl rfl ?_
       intro w94 hH95 ht96
       replace hr56 := Tr.trans hr56 ht96
       replace hH : Hp w.heap.size A69 w94 (obS (α := Int) 3 v67 x93 :: []) := hH95
       refine V_as rfl rfl ?_
       refine V_to (fun _ _ => rfl) ?_
       refine C_region ?_
       refine V_y (Y_addI rfl rfl) rfl rfl rfl ?_
       refine V_mv rfl rfl ?_
       obtain rfl := Option.some.inj h72
       refine V_end (fun a ha97 => ?_)
       exact ⟨(x93, w64 (Int.tdiv (w64 ((w64 (x84 + (w64 (x50 * x80)))) + s65.2)) 1000000000)), hlt75, h73, ⟨(v67, A69), ha97.sub ⟨rfl, rfl, rfl, rfl, rfl, rfl, rfl, rfl, rfl, rfl, (congrArg (fun z => some (Value.int .i64 z)) (w64_succ hlt75 hn78)), trivial⟩, ⟨hH, hr56⟩⟩⟩
      ·refine C_exit (fun a ha98 => ?_)
       exact ⟨((s65.1, s65.2), v67, A69), ha98.sub ⟨rfl, rfl, rfl, rfl, rfl, rfl, rfl, trivial⟩, ⟨(h76 (eq_of_dec hle74 hc79)).symm, hH, hr56⟩⟩
     rintro ⟨s55, v61, A63⟩ w58 ⟨rfl, hH64, hk59⟩ a ha60
     rw [Lp.andThen_fin] at ho40
     replace h_b := Sl.tr h_b hk59
     replace hr42 := Tr.trans hr42 hk59
     replace hB := Nat.le_trans hB hk59.ex.size
     replace hA := hk59.new
     replace hH : Hp w.heap.size A63 w58 (obS (α := Int) 3 v61 s55.1 :: []) := hH64
     refine C_at (n := ⟨88, [], none⟩) (fun _ _ => rfl) ?_ ha60
     refine C_seq ?_
     refine C_region ?_
     refine V_mv rfl rfl ?_
     refine V_mv rfl rfl ?_
     refine V_y (Y_lenSl h_b rfl Tryz.underlying31 rfl) rfl rfl rfl ?_
     refine V_y (Y_addI rfl rfl) rfl rfl rfl ?_
     refine V_as rfl rfl ?_
     refine V_to (fun _ _ => rfl) ?_
     obtain ⟨o100, ho100, ho40⟩ := Option.bind_eq_some_iff.1 ho40
     refine C_cutG (ι := (((List Int) × Int × Int) × Value × (Nat → Prop))) (fun ⟨s101, v107, A109⟩ => [(1, v_b), (5, v107), (28, v_a_), (29, .int .i64 (a_.length : Int)), (30, .int .i64 (k17 : Int))]) (fun ⟨s101, v107, A109⟩ => fun w' => o100 = .fin s101 ∧ Hp w.heap.size A109 w' (obS (α := Int) 3 v107 s101.1 :: []) ∧ Tr Dw w.heap.size A63 w58 A109 w') ?_ ?_
     ·refine C_block ?_
      refine C_while ho100 (fun s111 a w' => ∃ i : (Value × (Nat → Prop)), Has ⟨88, [], none⟩ a ([(1, v_b), (5, i.1), (8, .int .i64 s111.2.1), (12, .int .i64 s111.2.2), (28, v_a_), (29, .int .i64 (a_.length : Int)), (30, .int .i64 (k17 : Int))]) ∧ Hp w.heap.size i.2 w' (obS (α := Int) 3 i.1 s111.1 :: []) ∧ Tr Dw w.heap.size A63 w58 i.2 w') (fun a ha => ⟨(v61, A63), ha.sub ⟨rfl, rfl, rfl, rfl, rfl, rfl, rfl, trivial⟩, ⟨hH, Tr.refl (Dw := Dw) hA⟩⟩) ?_
      rintro K s111 a w112 ⟨⟨v113, A115⟩, ha140, hH116, hr102⟩ K123
      refine C_of ?_ ha140
      replace hB := Nat.le_trans hB hr102.ex.size
      replace hA := hr102.new
      replace hH : Hp w.heap.size A115 w112 (obS (α := Int) 3 v113 s111.1 :: []) := hH116
      obtain ⟨x117, h118, h119⟩ := K123
      refine C_seq ?_
      refine C_seq ?_
      refine C_region ?_
      refine V_mv rfl rfl ?_
      refine V_y (Y_gtr rfl rfl) rfl rfl rfl ?_
      refine V_to (fun _ _ => rfl) ?_
      refine C_cond rfl (fun hc124 => ?_) (fun hc124 => ?_)
      ·rw [if_pos hc124] at h118
       refine C_skip_to (fun _ _ => rfl) ?_
       refine C_seq ?_
       refine C_block ?_
       refine C_seq ?_
       refine C_region ?_
       refine V_mv rfl rfl ?_
       refine V_mv rfl rfl ?_
       obtain ⟨x125, hx125, h118⟩ := Option.bind_eq_some_iff.1 h118
       refine V_indexAddrH (α := Int) (e := 3) (v := v113) (l := s111.1) hH (i := 0) rfl hx125 Tryz.underlying31 Tryz.sizeOf3 rfl rfl rfl ?_
       intro b126 o127 h128 hl129
       refine V_y (Y_load (El.int h128) Tryz.isAgg3 rfl) rfl rfl rfl ?_
       refine V_mv rfl rfl ?_
       refine V_y (Y_addI rfl rfl) rfl rfl rfl ?_
       refine V_as rfl rfl ?_
       refine V_to (fun _ _ => rfl) ?_
       refine C_region ?_
       refine V_mv rfl rfl ?_
       refine V_mv rfl rfl ?_
       refine V_mv rfl rfl ?_
       refine V_y (Y_rem (by rw [rem, if_neg (by decide)]) rfl rfl) rfl rfl rfl ?_
       refine V_mv rfl rfl ?_
       refine V_y (Y_quo (by rw [quo, if_neg (by decide)]) rfl rfl) rfl rfl rfl ?_
       refine V_indexAddrH (α := Int) (e := 3) (v := v113) (l := s111.1) hH (i := 0) rfl hx125 Tryz.underlying31 Tryz.sizeOf3 rfl rfl rfl ?_
       intro b130 o131 h132 hl133
       obtain ⟨x134, hx134, h118⟩ := Option.bind_eq_some_iff.1 h118
       refine V_storeH (Dw := Dw) (α := Int) (e := 3) (v := v113) (l := s111.1) hH (i := 0) rfl hl133 hx134 rfl Tryz.sizeOf3 rfl hB hA rfl rfl ?_
       intro w135 hH136 ht137
       replace hr102 := Tr.trans hr102 ht137
       replace hH : Hp w.heap.size A115 w135 (obS (α := Int) 3 v113 x134 :: []) := hH136
       refine V_as rfl rfl ?_
       refine V_to (fun _ _ => rfl) ?_
       refine C_region ?_
       refine V_mv rfl rfl ?_
       refine V_y (Y_addI rfl rfl) rfl rfl rfl ?_
       refine V_as rfl rfl ?_
       obtain rfl := Option.some.inj h118
       refine V_end (fun a ha138 => ?_)
       exact ⟨(x134, w64 (Int.tdiv (w64 (x125 + s111.2.1)) 1000000000), w64 (s111.2.2 + 1)), h119, ⟨(v113, A115), ha138.sub ⟨rfl, rfl, rfl, rfl, rfl, rfl, rfl, trivial⟩, ⟨hH, hr102⟩⟩⟩
      ·rw [if_neg (nt hc124)] at h118
       obtain rfl := Option.some.inj h118
       refine C_exit (fun a ha139 => ?_)
       exact ⟨((s111.1, s111.2.1, s111.2.2), v113, A115), ha139.sub ⟨rfl, rfl, rfl, rfl, rfl, trivial⟩, ⟨h119.symm, hH, hr102⟩⟩
     rintro ⟨s101, v107, A109⟩ w104 ⟨rfl, hH110, hk105⟩ a ha106
     rw [Lp.andThen_fin] at ho40
     replace hr42 := Tr.trans hr42 hk105
     replace hA := hk105.new
     replace hH : Hp w.heap.size A109 w104 (obS (α := Int) 3 v107 s101.1 :: []) := hH110
     obtain rfl := Option.some.inj ho40
     exact ⟨(v107, A109), ha106.sub ⟨rfl, rfl, rfl, rfl, rfl, trivial⟩, ⟨hH, hr42⟩⟩
    rintro ⟨v43, A48⟩ w45 ⟨hH49, hk46⟩ a ha47
    replace hr16 := Tr.trans hr16 hk46
    replace hA := hk46.new
    replace hH : Hp w.heap.size A48 w45 (obS (α := Int) 3 v43 s41 :: []) := hH49
    refine C_at (n := ⟨88, [], none⟩) (fun _ _ => rfl) ?_ ha47
    refine C_region ?_
    refine V_y (Y_addI rfl rfl) rfl rfl rfl ?_
    refine V_mv rfl rfl ?_
    obtain rfl := Option.some.inj h32
    refine V_end (fun a ha142 => ?_)
    exact ⟨s41, hlt35, h33, ⟨(v43, A48), ha142.sub ⟨rfl, rfl, rfl, rfl, (congrArg (fun z => some (Value.int .i64 z)) (w64_succ hlt35 hn38)), trivial⟩, ⟨hH, hr16⟩⟩⟩
   ·refine C_exit (fun a ha143 => ?_)
    exact ⟨(s25, v27, A29), ha143.sub ⟨rfl, trivial⟩, ⟨(h36 (eq_of_dec hle34 hc39)).symm, hH, hr16⟩⟩
  rintro ⟨s15, v21, A23⟩ w18 ⟨rfl, hH24, hk19⟩ a ha20
  rw [Lp.andThen_fin] at hm
  replace hK := Tr.trans hK hk19
  replace hA := hk19.new
  replace hH : Hp w.heap.size A23 w18 (obS (α := Int) 3 v21 s15 :: []) := hH24
  refine C_at (n := ⟨88, [], none⟩) (fun _ _ => rfl) ?_ ha20
  refine C_seq ?_
  refine C_region ?_
  refine V_mv rfl rfl ?_
  obtain ⟨A145, ht146, h147, hH148⟩ := Hp.freeze (Dw := Dw) (α := Int) (v := v21) (l := s15) hH (i := 0) rfl hA
  replace hK := Tr.trans hK ht146
  replace hH : Hp w.heap.size A145 w18 ([]) := hH148
  obtain ⟨x150, hx150, hm⟩ := Option.bind_eq_some_iff.1 hm
  refine V_call Tryz.call35 rfl rfl rfl rfl (staff_nat_trimmed_c w18 s15 v21 h147 hx150) ?_
  rintro v151 _ ⟨_, rfl, h152, rfl⟩
  refine V_as rfl rfl ?_
  refine V_to (fun _ _ => rfl) ?_
  obtain rfl := Option.some.inj hm
  refine C_ret ?_
  try simp only [↓inBlock_ret, ↓then_ret]
  exact retQ rfl (Res.one Tryz.results15 rfl) ⟨v151, rfl, (Sl.out (Dw := Dw) h152 hA0 hK), hK.kp⟩

set_option maxRecDepth 4000 in
set_option maxHeartbeats 4000000 in
theorem staff_nat_plus_c (w : World) {A : Nat → Prop} (hA : ∀ b, w.heap.size ≤ b → A b) (a_ : (List Int)) (v_a_ : Value) (h_a_ : Sl A w v_a_ a_) (b : (List Int)) (v_b : Value) (h_b : Sl A w v_b b) {r : (List Int)} (hm : staff_nat_plus a_ b = some r) : Ret Tryz.prog 19 #[v_a_, v_b] w fun v w' => ∃ s0, v = s0 ∧ Ownd 3 w w' s0 r ∧ Kp Dw w w' := by
 unfold staff_nat_plus at hm
 refine enter Tryz.func19 rfl Tryz.ntmps19 rfl ?_
 have hA0 := hA
 have hB := Nat.le_refl w.heap.size
 have hK : Tr Dw w.heap.size A w A w := Tr.refl (Dw := Dw) hA
 have hH : Hp w.heap.size A w [] := Hp.nil
 refine C_seq ?_
 refine C_region ?_
 refine V_as rfl rfl ?_
 refine V_to (fun _ _ => rfl) ?_
 refine C_seq ?_
 refine C_seq ?_
 refine C_region ?_
 refine V_mv rfl rfl ?_
 refine V_y (Y_lenSl h_a_ rfl Tryz.underlying31 rfl) rfl rfl rfl ?_
 refine V_mv rfl rfl ?_
 refine V_y (Y_lenSl h_b rfl Tryz.underlying31 rfl) rfl rfl rfl ?_
 refine V_y (Y_lss rfl rfl) rfl rfl rfl ?_
 refine V_to (fun _ _ => rfl) ?_
 obtain ⟨s6, ho5, hm⟩ := Option.bind_eq_some_iff.1 hm
 refine C_cutG (ι := (Value × Value)) (fun ⟨v8, v10⟩ => [(0, v8), (1, v10)]) (fun ⟨v8, v10⟩ => fun w' => Sl A w' v8 s6.1 ∧ Sl A w' v10 s6.2 ∧ w = w') ?_ ?_
 ·refine C_cond rfl (fun hc15 => ?_) (fun hc15 => ?_)
  ·rw [if_pos hc15] at ho5
   refine C_region ?_
   refine V_mv rfl rfl ?_
   refine V_mv rfl rfl ?_
   refine V_as rfl rfl ?_
   refine V_as rfl rfl ?_
   obtain rfl := Option.some.inj ho5
   refine V_end (fun a ha16 => ?_)
   exact ⟨(v_b, v_a_), ha16.sub ⟨rfl, rfl, trivial⟩, ⟨h_b, h_a_, rfl⟩⟩
  ·rw [if_neg (nt hc15)] at ho5
   obtain rfl := Option.some.inj ho5
   refine C_skip (fun a ha17 => ?_)
   exact ⟨(v_a_, v_b), ha17.sub ⟨rfl, rfl, trivial⟩, ⟨h_a_, h_b, rfl⟩⟩
 rintro ⟨v8, v10⟩ _ ⟨h9, h11, rfl⟩ a ha14
 refine C_at (n := ⟨71, [], none⟩) (fun _ _ => rfl) ?_ ha14
 refine C_seq ?_
 refine C_region ?_
 refine V_mv rfl rfl ?_
 refine V_y (Y_lenSl h9 rfl Tryz.underlying31 rfl) rfl rfl rfl ?_
 refine V_mv rfl rfl ?_
 refine V_y (Y_lenSl h9 rfl Tryz.underlying31 rfl) rfl rfl rfl ?_
 refine V_y (Y_addI rfl rfl) rfl rfl rfl ?_
 obtain ⟨x18, hx18, hm⟩ := Option.bind_eq_some_iff.1 hm
 refine V_makeCH (Dw := Dw) (e := 3) (ti := Tryz.t3) hH hx18 (fun _ _ => rfl) Tryz.underlying31 Tryz_info3 rfl rfl rfl (by decide) (by decide) hB hA rfl rfl rfl ?_
 intro v19 w20 A21 hH22 ht23
 replace h9 := Sl.tr h9 ht23
 replace h11 := Sl.tr h11 ht23
 replace hK := Tr.trans hK ht23
 replace hB := Nat.le_trans hB ht23.ex.size
 replace hA := ht23.new
 replace hH : Hp w.heap.size A21 w20 (obS (α := Int) 3 v19 x18 :: []) := hH22
 refine V_as rfl rfl ?_
 refine V_to (fun _ _ => rfl) ?_
 refine C_seq ?_
 refine C_region ?_
 refine V_mv rfl rfl ?_
 refine V_mv rfl rfl ?_
 refine V_copyH (Dw := Dw) (α := Int) (e := 3) (v := v19) (l := x18) hH (i := 0) rfl h9 rfl Tryz.underlying31 (by rw [Tryz_info3]; rfl) hB hA rfl rfl rfl ?_
 intro w24 hH25 ht26
 replace h11 := Sl.tr h11 ht26
 replace hK := Tr.trans hK ht26
 replace hB := Nat.le_trans hB ht26.ex.size
 replace hA := ht26.new
 replace hH : Hp w.heap.size A21 w24 (obS (α := Int) 3 v19 (copyL x18 s6.1) :: []) := hH25
 refine V_to (fun _ _ => rfl) ?_
 refine C_seq ?_
 refine C_region ?_
 refine V_as rfl rfl ?_
 refine V_to (fun _ _ => rfl) ?_
 refine C_seq ?_
 refine C_seq ?_
 refine C_region ?_
 refine V_as rfl rfl ?_
 refine V_to (fun _ _ => rfl) ?_
 obtain ⟨o27, ho27, hm⟩ := Option.bind_eq_some_iff.1 hm
 refine C_cutG (ι := (((List Int) × Int × Int) × Value × (Nat → Prop))) (fun ⟨s28, v34, A36⟩ => [(5, v34), (6, .int .i64 s28.2.1)]) (fun ⟨s28, v34, A36⟩ => fun w' => o27 = .fin s28 ∧ Hp w.heap.size A36 w' (obS (α := Int) 3 v34 s28.1 :: []) ∧ Tr Dw w.heap.size A21 w24 A36 w') ?_ ?_
 ·refine C_block ?_
  refine C_while ho27 (fun s38 a w' => ∃ i : (Value × (Nat → Prop)), Has ⟨71, [], none⟩ a ([(1, v10), (5, i.1), (6, .int .i64 s38.2.1), (7, .int .i64 s38.2.2)]) ∧ Hp w.heap.size i.2 w' (obS (α := Int) 3 i.1 s38.1 :: []) ∧ Tr Dw w.heap.size A21 w24 i.2 w') (fun a ha => ⟨(v19, A21), ha.sub ⟨rfl, rfl, rfl, rfl, trivial⟩, ⟨hH, Tr.refl (Dw := Dw) hA⟩⟩) ?_
  rintro K s38 a w39 ⟨⟨v40, A42⟩, ha85, hH43, hr29⟩ K50
  refine C_of ?_ ha85
  replace h11 := Sl.tr h11 hr29
  replace hB := Nat.le_trans hB hr29.ex.size
  replace hA := hr29.new
  replace hH : Hp w.heap.size A42 w39 (obS (α := Int) 3 v40 s38.1 :: []) := hH43
  obtain ⟨x44, h45, h46⟩ := K50
  refine C_seq ?_
  refine C_seq ?_
  refine C_region ?_
  refine V_mv rfl rfl ?_
  refine V_mv rfl rfl ?_
  refine V_y (Y_lenSl (Hp.any (α := Int) (e := 3) (v := v40) (l := s38.1) hH (i := 0) rfl) rfl Tryz.underlying31 rfl) rfl rfl rfl ?_
  refine V_y (Y_lss rfl rfl) rfl rfl rfl ?_
  refine V_mv rfl rfl ?_
  refine V_cut 9 (fun _ : Unit => [(1, v10), (5, v40), (6, .int .i64 s38.2.1), (7, .int .i64 s38.2.2), (38, .bool ((decide (s38.2.2 < (s38.1.length : Int))) && ((decide (s38.2.2 < (s6.2.length : Int))) || (decide ((0 : Int) < s38.2.1)))))]) (fun _ w' => w39 = w') ?_ ?_
  ·simp only [List.take, List.drop]
   rcases Bool.eq_false_or_eq_true (decide (s38.2.2 < (s38.1.length : Int))) with hc51 | hc51
   ·refine V_ge rfl rfl rfl hc51 ?_
    refine V_mv rfl rfl ?_
    refine V_ge rfl rfl rfl hc51 ?_
    refine V_mv rfl rfl ?_
    refine V_ge rfl rfl rfl hc51 ?_
    refine V_y (Y_lenSl h11 rfl Tryz.underlying31 rfl) rfl rfl rfl ?_
    refine V_ge rfl rfl rfl hc51 ?_
    refine V_y (Y_lss rfl rfl) rfl rfl rfl ?_
    refine V_ge rfl rfl rfl hc51 ?_
    refine V_mv rfl rfl ?_
    refine V_cut 3 (fun _ : Unit => [(1, v10), (5, v40), (6, .int .i64 s38.2.1), (7, .int .i64 s38.2.2), (29, .bool (decide (s38.2.2 < (s38.1.length : Int)))), (37, .bool ((decide (s38.2.2 < (s6.2.length : Int))) || (decide ((0 : Int) < s38.2.1))))]) (fun _ w' => w39 = w') ?_ ?_
    ·simp only [List.take, List.drop]
     rcases Bool.eq_false_or_eq_true (decide (s38.2.2 < (s6.2.length : Int))) with hc53 | hc53
     ·refine V_gn rfl rfl rfl hc53 rfl rfl rfl ?_
      refine V_gn rfl rfl rfl hc53 rfl rfl rfl ?_
      refine V_ge rfl rfl rfl hc51 ?_
      refine V_y (Y_pick_te rfl hc53 rfl) rfl rfl rfl ?_
      exact V_end fun a ha => ⟨(), ha.sub ⟨rfl, rfl, rfl, rfl, rfl, (by rw [hc53]; rfl), trivial⟩, rfl⟩
     ·refine V_ge rfl rfl rfl hc53 ?_
      refine V_mv rfl rfl ?_
      refine V_ge rfl rfl rfl hc53 ?_
      refine V_y (Y_gtr rfl rfl) rfl rfl rfl ?_
      refine V_ge rfl rfl rfl hc51 ?_
      refine V_y (Y_pick_fe rfl hc53 rfl) rfl rfl rfl ?_
      exact V_end fun a ha => ⟨(), ha.sub ⟨rfl, rfl, rfl, rfl, rfl, (by rw [hc53]; rfl), trivial⟩, rfl⟩
    simp only [List.take, List.drop]
    rintro _ _ rfl
    refine V_y (Y_pick_te rfl hc51 rfl) rfl rfl rfl ?_
    exact V_end fun a ha => ⟨(), ha.sub ⟨rfl, rfl, rfl, rfl, (by rw [hc51]; rfl), trivial⟩, rfl⟩
   ·refine V_gn rfl rfl rfl hc51 rfl rfl rfl ?_
    refine V_gn rfl rfl rfl hc51 rfl rfl rfl ?_
    refine V_gn rfl rfl rfl hc51 rfl rfl rfl ?_
    refine V_gn rfl rfl rfl hc51 rfl rfl rfl ?_
    refine V_gn rfl rfl rfl hc51 rfl rfl rfl ?_
    refine V_gu rfl rfl rfl rfl rfl ?_
    refine V_gu rfl rfl rfl rfl rfl ?_
    refine V_gn rfl rfl rfl hc51 rfl rfl rfl ?_
    refine V_y (Y_pick_fe rfl hc51 rfl) rfl rfl rfl ?_
    exact V_end fun a ha => ⟨(), ha.sub ⟨rfl, rfl, rfl, rfl, (by rw [hc51]; rfl), trivial⟩, rfl⟩
  simp only [List.take, List.drop]
  rintro _ _ rfl
  refine V_to (fun _ _ => rfl) ?_
  refine C_cond rfl (fun hc55 => ?_) (fun hc55 => ?_)
  ·rw [if_pos hc55] at h45
   refine C_skip_to (fun _ _ => rfl) ?_
   refine C_seq ?_
   refine C_block ?_
   refine C_seq ?_
   refine C_region ?_
   refine V_mv rfl rfl ?_
   refine V_mv rfl rfl ?_
   obtain ⟨x56, hx56, h45⟩ := Option.bind_eq_some_iff.1 h45
   refine V_indexAddrH (α := Int) (e := 3) (v := v40) (l := s38.1) hH (i := 0) rfl hx56 Tryz.underlying31 Tryz.sizeOf3 rfl rfl rfl ?_
   intro b57 o58 h59 hl60
   refine V_y (Y_load (El.int h59) Tryz.isAgg3 rfl) rfl rfl rfl ?_
   refine V_mv rfl rfl ?_
   refine V_y (Y_addI rfl rfl) rfl rfl rfl ?_
   refine V_as rfl rfl ?_
   refine V_to (fun _ _ => rfl) ?_
   refine C_seq ?_
   refine C_seq ?_
   refine C_region ?_
   refine V_mv rfl rfl ?_
   refine V_mv rfl rfl ?_
   refine V_y (Y_lenSl h11 rfl Tryz.underlying31 rfl) rfl rfl rfl ?_
   refine V_y (Y_lss rfl rfl) rfl rfl rfl ?_
   refine V_to (fun _ _ => rfl) ?_
   obtain ⟨s62, ho61, h45⟩ := Option.bind_eq_some_iff.1 h45
   refine C_cutG (ι := Unit) (fun (_ : Unit) => [(1, v10), (5, v40), (7, .int .i64 s38.2.2), (8, .int .i64 s62)]) (fun (_ : Unit) => fun w' => w39 = w') ?_ ?_
   ·refine C_cond rfl (fun hc68 => ?_) (fun hc68 => ?_)
    ·rw [if_pos hc68] at ho61
     refine C_region ?_
     refine V_mv rfl rfl ?_
     refine V_mv rfl rfl ?_
     refine V_mv rfl rfl ?_
     obtain ⟨x69, hx69, ho61⟩ := Option.bind_eq_some_iff.1 ho61
     refine V_indexAddr h11 hx69 Tryz.underlying31 Tryz.sizeOf3 rfl rfl rfl ?_
     intro b70 o71 h72
     refine V_y (Y_load (El.int h72) Tryz.isAgg3 rfl) rfl rfl rfl ?_
     refine V_y (Y_addI rfl rfl) rfl rfl rfl ?_
     refine V_as rfl rfl ?_
     obtain rfl := Option.some.inj ho61
     refine V_end (fun a ha73 => ?_)
     exact ⟨(), ha73.sub ⟨rfl, rfl, rfl, rfl, trivial⟩, rfl⟩
    ·rw [if_neg (nt hc68)] at ho61
     obtain rfl := Option.some.inj ho61
     refine C_skip (fun a ha74 => ?_)
     exact ⟨(), ha74.sub ⟨rfl, rfl, rfl, rfl, trivial⟩, rfl⟩
   rintro _ _ rfl a ha67
   refine C_at (n := ⟨71, [], none⟩) (fun _ _ => rfl) ?_ ha67
   refine C_region ?_
   refine V_mv rfl rfl ?_
   refine V_mv rfl rfl ?_
   refine V_mv rfl rfl ?_
   refine V_y (Y_rem (by rw [rem, if_neg (by decide)]) rfl rfl) rfl rfl rfl ?_
   refine V_mv rfl rfl ?_
   refine V_y (Y_quo (by rw [quo, if_neg (by decide)]) rfl rfl) rfl rfl rfl ?_
   refine V_indexAddrH (α := Int) (e := 3) (v := v40) (l := s38.1) hH (i := 0) rfl hx56 Tryz.underlying31 Tryz.sizeOf3 rfl rfl rfl ?_
   intro b75 o76 h77 hl78
   obtain ⟨x79, hx79, h45⟩ := Option.bind_eq_some_iff.1 h45
   refine V_storeH (Dw := Dw) (α := Int) (e := 3) (v := v40) (l := s38.1) hH (i := 0) rfl hl78 hx79 rfl Tryz.sizeOf3 rfl hB hA rfl rfl ?_
   intro w80 hH81 ht82
   replace hr29 := Tr.trans hr29 ht82
   replace hH : Hp w.heap.size A42 w80 (obS (α := Int) 3 v40 x79 :: []) := hH81
   refine V_as rfl rfl ?_
   refine V_to (fun _ _ => rfl) ?_
   refine C_region ?_
   refine V_mv rfl rfl ?_
   refine V_y (Y_addI rfl rfl) rfl rfl rfl ?_
   refine V_as rfl rfl ?_
   obtain rfl := Option.some.inj h45
   refine V_end (fun a ha83 => ?_)
   exact ⟨(x79, w64 (Int.tdiv s62 1000000000), w64 (s38.2.2 + 1)), h46, ⟨(v40, A42), ha83.sub ⟨rfl, rfl, rfl, rfl, trivial⟩, ⟨hH, hr29⟩⟩⟩
  ·rw [if_neg (nt hc55)] at h45
   obtain rfl := Option.some.inj h45
   refine C_exit (fun a ha84 => ?_)
   exact ⟨((s38.1, s38.2.1, s38.2.2), v40, A42), ha84.sub ⟨rfl, rfl, trivial⟩, ⟨h46.symm, hH, hr29⟩⟩
 rintro ⟨s28, v34, A36⟩ w31 ⟨rfl, hH37, hk32⟩ a ha33
 rw [Lp.andThen_fin] at hm
 replace hK := Tr.trans hK hk32
 replace hB := Nat.le_trans hB hk32.ex.size
 replace hA := hk32.new
 replace hH : Hp w.heap.size A36 w31 (obS (α := Int) 3 v34 s28.1 :: []) := hH37
 refine C_at (n := ⟨71, [], none⟩) (fun _ _ => rfl) ?_ ha33
 refine C_seq ?_
 refine C_seq ?_
 refine C_region ?_
 refine V_mv rfl rfl ?_
 refine V_y (Y_gtr rfl rfl) rfl rfl rfl ?_
 refine V_to (fun _ _ => rfl) ?_
 obtain ⟨s87, ho86, hm⟩ := Option.bind_eq_some_iff.1 hm
 refine C_cutG (ι := (Value × (Nat → Prop))) (fun ⟨v89, A94⟩ => [(5, v89)]) (fun ⟨v89, A94⟩ => fun w' => Hp w.heap.size A94 w' (obS (α := Int) 3 v89 s87 :: []) ∧ Tr Dw w.heap.size A36 w31 A94 w') ?_ ?_
 ·have hr88 : Tr Dw w.heap.size A36 w31 A36 w31 := Tr.refl (Dw := Dw) hA
  refine C_cond rfl (fun hc96 => ?_) (fun hc96 => ?_)
  ·rw [if_pos hc96] at ho86
   refine C_region ?_
   refine V_mv rfl rfl ?_
   refine V_mv rfl rfl ?_
   refine V_buildSlice (Dw := Dw) (l := ([s28.2.1] : List Int)) (len := 1) Tryz.underlying31 Tryz.sizeOf3 Tryz.zeroValue3 rfl (by with_unfolding_all rfl) (show (1 * 1 : Nat) ≠ 0 by decide) (show (1 * 1 : Nat) ≤ 2 ^ 24 by decide) hA ⟨[.int .i64 s28.2.1], _, rfl, rfl, rfl⟩ rfl rfl ?_
   intro v97 w98 hk100 h99
   have ht101 := Kp.tr hk100 hA hB
   replace hH := Hp.kp hH hk100
   replace hr88 := Tr.trans hr88 ht101
   replace hB := Nat.le_trans hB ht101.ex.size
   replace hA := ht101.new
   obtain ⟨x102, hx102, ho86⟩ := Option.bind_eq_some_iff.1 ho86
   refine V_appendH (Dw := Dw) (e := 3) (v := v34) (l := s28.1) (ti := Tryz.t3) (bytes := 8) (lim := 17592186044416) hH (i := 0) rfl h99 hx102 Tryz.underlying31 Tryz_info3 rfl rfl rfl rfl (by decide) (by decide) (by decide) hB hA rfl rfl rfl ?_
   intro v103 w104 A105 hH106 ht107
   replace hr88 := Tr.trans hr88 ht107
   replace hH : Hp w.heap.size A105 w104 (obS (α := Int) 3 v103 x102 :: []) := hH106
   refine V_as rfl rfl ?_
   obtain rfl := Option.some.inj ho86
   refine V_end (fun a ha108 => ?_)
   exact ⟨(v103, A105), ha108.sub ⟨rfl, trivial⟩, ⟨hH, hr88⟩⟩
  ·rw [if_neg (nt hc96)] at ho86
   obtain rfl := Option.some.inj ho86
   refine C_skip (fun a ha109 => ?_)
   exact ⟨(v34, A36), ha109.sub ⟨rfl, trivial⟩, ⟨hH, hr88⟩⟩
 rintro ⟨v89, A94⟩ w91 ⟨hH95, hk92⟩ a ha93
 replace hK := Tr.trans hK hk92
 replace hA := hk92.new
 replace hH : Hp w.heap.size A94 w91 (obS (α := Int) 3 v89 s87 :: []) := hH95
 refine C_at (n := ⟨71, [], none⟩) (fun _ _ => rfl) ?_ ha93
 refine C_seq ?_
 refine C_region ?_
 refine V_mv rfl rfl ?_
 refine V_as rfl rfl ?_
 refine V_to (fun _ _ => rfl) ?_
 obtain rfl := Option.some.inj hm
 refine C_ret ?_
 try simp only [↓inBlock_ret, ↓then_ret]
 exact retQ rfl (Res.one Tryz.results19 rfl) ⟨v89, rfl, (Hp.ownd hH (i := 0) rfl), hK.kp⟩

set_option maxRecDepth 4000 in
set_option maxHeartbeats 4000000 in
theorem staff_Decimal_c (w : World) {A : Nat → Prop} (hA : ∀ b, w.heap.size ≤ b → A b) (hT : Fz Tryz_FR A w) (r_ : staff_Ratio) (digits : Int) {r : (ByteArray × Int)} (hm : staff_Decimal r_ digits = some r) : Ret Tryz.prog 6 #[.agg #[.string r_.num, .string r_.den], .int .i64 digits] w fun v w' => v = .tuple #[.string r.1, .int .i64 r.2] ∧ Kp False w w' := by
 unfold staff_Decimal at hm
 refine enter Tryz.func6 rfl Tryz.ntmps6 rfl ?_
 have hA0 := hA
 have hB := Nat.le_refl w.heap.size
 have hK : Tr False w.heap.size A w A w := Tr.refl (Dw := False) hA
 have hH : Hp w.heap.size A w [] := Hp.nil
 refine C_seq ?_
 refine C_region ?_
 refine V_box rfl rfl ?_
 intro b1 w2 h3
 have hk5 := h3.kp (Dw := False)
 have h4 : El (α := staff_Ratio) A w2 b1 0 r_ := h3.el hA ⟨[.string r_.num], _, rfl, rfl, rfl⟩
 have ht6 := Kp.tr (Dw := False) hk5 hA hB
 replace hH := Hp.kp (Dw := False) hH hk5
 replace hK := Tr.trans (Dw := False) hK ht6
 replace hB := Nat.le_trans hB ht6.ex.size
 replace hA := ht6.new
 refine V_as rfl rfl ?_
 refine V_as rfl rfl ?_
 refine V_to (fun _ _ => rfl) ?_
 refine C_seq ?_
 refine C_region ?_
 obtain ⟨h7, _⟩ := El_staff_Ratio h4
 refine V_y (Y_loadA h7 Tryz.isAgg23 Tryz.sizeOf23 rfl) rfl rfl rfl ?_
 obtain ⟨x8, hx8, hm⟩ := Option.bind_eq_some_iff.1 hm
 refine V_call Tryz.call13 rfl rfl rfl rfl (staff_read_c w2 hA (Fz.tr (Dw := False) hT hK) r_ hx8) ?_
 rintro _ w13 ⟨v9, v11, rfl, h10, h12, hk14⟩
 have ht15 := Kp.tr (Dw := False) hk14 hA hB
 replace hH := Hp.kp (Dw := False) hH hk14
 replace hK := Tr.trans (Dw := False) hK ht15
 replace hB := Nat.le_trans hB ht15.ex.size
 replace hA := ht15.new
 refine V_mv rfl rfl ?_
 refine V_y (Y_extract rfl rfl) rfl rfl rfl ?_
 refine V_y (Y_extract rfl rfl) rfl rfl rfl ?_
 refine V_alloc Tryz.zeroValue33 rfl ?_
 intro b16 w17 h18
 have h23 : (v9).oneCell' = true := by obtain ⟨_, _, e, _⟩ := Sl.form h10; rw [e]; rfl
 have h26 : (v11).oneCell' = true := by obtain ⟨_, _, e, _⟩ := Sl.form h12; rw [e]; rfl
 refine V_storeNew h18 Tryz.sizeOf33 rfl rfl rfl rfl (by exact (List.forall_mem_cons.2 ⟨h23, (List.forall_mem_cons.2 ⟨h26, (fun _ h => nomatch h)⟩)⟩)) ?_
 intro w19 h20
 have hk28 := h20.kp (Dw := False)
 have h27 : El (α := staff_ratio) A w19 b16 0 x8.1 := h20.el hA ⟨[v9], _, rfl, ⟨_, rfl, h10⟩, ⟨_, rfl, h12⟩⟩
 have ht29 := Kp.tr (Dw := False) hk28 hA hB
 replace hH := Hp.kp (Dw := False) hH hk28
 replace hK := Tr.trans (Dw := False) hK ht29
 replace hB := Nat.le_trans hB ht29.ex.size
 replace hA := ht29.new
 refine V_as rfl rfl ?_
 refine V_to (fun _ _ => rfl) ?_
 refine C_seq ?_
 refine C_seq ?_
 refine C_region ?_
 refine V_mv rfl rfl ?_
 refine V_y (Y_neq rfl rfl) rfl rfl rfl ?_
 refine V_to (fun _ _ => rfl) ?_
 refine C_cond rfl (fun hc30 => ?_) (fun hc30 => ?_)
 ·rw [if_pos hc30] at hm
  refine C_seq ?_
  refine C_region ?_
  refine V_mv rfl rfl ?_
  refine V_as rfl rfl ?_
  refine V_as rfl rfl ?_
  refine V_to (fun _ _ => rfl) ?_
  obtain rfl := Option.some.inj hm
  refine C_ret ?_
  try simp only [↓inBlock_ret, ↓then_ret]
  exact retQ rfl (Res.two Tryz.results6 rfl rfl) ⟨rfl, hK.kp⟩
 ·rw [if_neg (nt hc30)] at hm
  refine C_skip_to (fun _ _ => rfl) ?_
  refine C_seq ?_
  refine C_seq ?_
  refine C_region ?_
  refine V_mv rfl rfl ?_
  refine V_call Tryz.call14 rfl rfl rfl rfl (staff_within_c w19 digits 0 1000) ?_
  rintro _ _ ⟨rfl, rfl⟩
  refine V_y (Y_not rfl) rfl rfl rfl ?_
  refine V_to (fun _ _ => rfl) ?_
  refine C_cond rfl (fun hc31 => ?_) (fun hc31 => ?_)
  ·rw [if_pos hc31] at hm
   refine C_seq ?_
   refine C_region ?_
   refine V_as rfl rfl ?_
   refine V_as rfl rfl ?_
   refine V_to (fun _ _ => rfl) ?_
   obtain rfl := Option.some.inj hm
   refine C_ret ?_
   try simp only [↓inBlock_ret, ↓then_ret]
   exact retQ rfl (Res.two Tryz.results6 rfl rfl) ⟨rfl, hK.kp⟩
  ·rw [if_neg (nt hc31)] at hm
   refine C_skip_to (fun _ _ => rfl) ?_
   refine C_seq ?_
   refine C_region_ch (Dw := False) A 8 [(1, 0), (1, 1), (1, 2), (2, 3), (1, 4), (2, 5), (2, 6), (1, 7)] Tryz_mixed (by kernel_rfl) (fun w33 hk34 => ?_)
   have ht35 := Kp.tr (Dw := False) hk34 hA hB
   replace hH := Hp.kp (Dw := False) hH hk34
   replace h27 := El.tr (Dw := False) h27 ht35
   replace hK := Tr.trans (Dw := False) hK ht35
   replace hB := Nat.le_trans hB ht35.ex.size
   replace hA := ht35.new
   refine CH_q2 (Dw := False) rfl ?_
   have h36 := El_staff_ratio_0 h27
   refine VQ_y (fun w' hw' => Y_fieldAddr Tryz.underlying33 rfl Tryz.sizeOf31 (by decide) rfl) rfl rfl rfl ?_
   refine VQ_CH (Dw := False) ?_
   refine CH_q2 (Dw := False) rfl ?_
   obtain ⟨v37, h38, h39⟩ := El.list h36
   refine VQ_y (fun w' hw' => Y_load ((World.cell?_of_block (hw'.2 _ h36.2.1 h36.1)).trans h38) Tryz.isAgg31 rfl) rfl rfl rfl ?_
   refine VQ_CH (Dw := False) ?_
   refine CH_q2 (Dw := False) rfl ?_
   refine VQ_y (fun w' hw' => Y_move rfl) rfl rfl rfl ?_
   refine VQ_CH (Dw := False) ?_
   refine CH_l1 (Dw := False) (k := 0) rfl ?_
   obtain ⟨x40, hx40, hm⟩ := Option.bind_eq_some_iff.1 hm
   refine V_call Tryz.call17 rfl rfl rfl rfl (strings_Repeat_c w33 hA (⟨#[48]⟩ : ByteArray) digits hx40) ?_
   rintro _ w41 ⟨rfl, hk42⟩
   have ht43 := Kp.tr (Dw := False) hk42 hA hB
   replace hH := Hp.kp (Dw := False) hH hk42
   replace h27 := El.tr (Dw := False) h27 ht43
   replace h39 := Sl.tr (Dw := False) h39 ht43
   replace hK := Tr.trans (Dw := False) hK ht43
   replace hB := Nat.le_trans hB ht43.ex.size
   replace hA := ht43.new
   refine V_CH (Dw := False) (hk42) ?_
   refine CH_q2 (Dw := False) rfl ?_
   obtain ⟨x44, hx44, hm⟩ := Option.bind_eq_some_iff.1 hm
   refine VQ_y (fun w' hw' => Y_sadd hx44 rfl rfl) rfl rfl rfl ?_
   refine VQ_CH (Dw := False) ?_
   refine CH_l1 (Dw := False) (k := 0) rfl ?_
   obtain ⟨x45, hx45, hm⟩ := Option.bind_eq_some_iff.1 hm
   refine V_call Tryz.call16 rfl rfl rfl rfl (staff_readNat_c w41 hA (Fz.tr (Dw := False) hT hK) x44 hx45) ?_
   rintro v46 w48 ⟨_, rfl, h47, hk49⟩
   have ht50 := Kp.tr (Dw := False) hk49 hA hB
   replace hH := Hp.kp (Dw := False) hH hk49
   replace h27 := El.tr (Dw := False) h27 ht50
   replace h39 := Sl.tr (Dw := False) h39 ht50
   replace hK := Tr.trans (Dw := False) hK ht50
   replace hB := Nat.le_trans hB ht50.ex.size
   replace hA := ht50.new
   refine V_CH (Dw := False) (hk49) ?_
   refine CH_l1 (Dw := False) (k := 0) rfl ?_
   obtain ⟨x51, hx51, hm⟩ := Option.bind_eq_some_iff.1 hm
   refine V_call Tryz.call15 rfl rfl rfl rfl (staff_nat_times_c (Dw := False) w48 hA x8.1.num v37 h39 x45 v46 h47 hx51) ?_
   rintro v52 w54 ⟨_, rfl, h53, hk55⟩
   have ht56 := Kp.tr (Dw := False) hk55 hA hB
   replace hH := Hp.kp (Dw := False) hH hk55
   replace h27 := El.tr (Dw := False) h27 ht56
   replace hK := Tr.trans (Dw := False) hK ht56
   replace hB := Nat.le_trans hB ht56.ex.size
   replace hA := ht56.new
   refine V_CH (Dw := False) (hk55) ?_
   refine CH_q2 (Dw := False) rfl ?_
   refine VQ_y (fun w' hw' => Y_assign rfl) rfl rfl rfl ?_
   refine VQ_CH (Dw := False) ?_
   refine CH_tail (Dw := False) ?_
   show V _ _ _ _ [] _ _
   refine V_to (fun _ _ => rfl) ?_
   refine C_seq ?_
   refine C_region_ch (Dw := False) A 14 [(1, 0), (1, 2), (1, 3), (1, 5), (1, 6), (2, 1), (2, 4), (2, 7), (2, 8), (1, 9), (1, 10), (1, 11), (1, 12), (1, 13)] Tryz_mixed (by kernel_rfl) (fun w57 hk58 => ?_)
   have ht59 := Kp.tr (Dw := False) hk58 hA hB
   replace hH := Hp.kp (Dw := False) hH hk58
   replace h27 := El.tr (Dw := False) h27 ht59
   replace h53 := Sl.tr (Dw := False) h53 ht59
   replace hK := Tr.trans (Dw := False) hK ht59
   replace hB := Nat.le_trans hB ht59.ex.size
   replace hA := ht59.new
   refine CH_q2 (Dw := False) rfl ?_
   refine VQ_y (fun w' hw' => Y_move rfl) rfl rfl rfl ?_
   refine VQ_CH (Dw := False) ?_
   refine CH_q2 (Dw := False) rfl ?_
   have h60 := El_staff_ratio_1 h27
   refine VQ_y (fun w' hw' => Y_fieldAddr Tryz.underlying33 rfl Tryz.sizeOf31 (by decide) rfl) rfl rfl rfl ?_
   refine VQ_CH (Dw := False) ?_
   refine CH_q2 (Dw := False) rfl ?_
   obtain ⟨v61, h62, h63⟩ := El.list h60
   refine VQ_y (fun w' hw' => Y_load ((World.cell?_of_block (hw'.2 _ h60.2.1 h60.1)).trans h62) Tryz.isAgg31 rfl) rfl rfl rfl ?_
   refine VQ_CH (Dw := False) ?_
   refine CH_q2 (Dw := False) rfl ?_
   have h64 := El_staff_ratio_1 h27
   refine VQ_y (fun w' hw' => Y_fieldAddr Tryz.underlying33 rfl Tryz.sizeOf31 (by decide) rfl) rfl rfl rfl ?_
   refine VQ_CH (Dw := False) ?_
   refine CH_q2 (Dw := False) rfl ?_
   obtain ⟨v65, h66, h67⟩ := El.list h64
   refine VQ_y (fun w' hw' => Y_load ((World.cell?_of_block (hw'.2 _ h64.2.1 h64.1)).trans h66) Tryz.isAgg31 rfl) rfl rfl rfl ?_
   refine VQ_CH (Dw := False) ?_
   refine CH_l1 (Dw := False) (k := 0) rfl ?_
   obtain ⟨x68, hx68, hm⟩ := Option.bind_eq_some_iff.1 hm
   refine V_call Tryz.call18 rfl rfl rfl rfl (staff_nat_small_c (Dw := False) w57 hA x51 v52 h53 2 hx68) ?_
   rintro v69 w71 ⟨_, rfl, h70, hk72⟩
   have ht73 := Kp.tr (Dw := False) hk72 hA hB
   replace hH := Hp.kp (Dw := False) hH hk72
   replace h63 := Sl.tr (Dw := False) h63 ht73
   replace h67 := Sl.tr (Dw := False) h67 ht73
   replace hK := Tr.trans (Dw := False) hK ht73
   replace hB := Nat.le_trans hB ht73.ex.size
   replace hA := ht73.new
   refine V_CH (Dw := False) (hk72) ?_
   refine CH_l1 (Dw := False) (k := 0) rfl ?_
   obtain ⟨x74, hx74, hm⟩ := Option.bind_eq_some_iff.1 hm
   refine V_call Tryz.call19 rfl rfl rfl rfl (staff_nat_plus_c (Dw := False) w71 hA x68 v69 h70 x8.1.den v61 h63 hx74) ?_
   rintro v75 w77 ⟨_, rfl, h76, hk78⟩
   obtain ⟨A79, ht80, hH81⟩ := Hp.addOwnd (Dw := False) hH hB hA hk78 h76
   replace h67 := Sl.tr (Dw := False) h67 ht80
   replace hK := Tr.trans (Dw := False) hK ht80
   replace hB := Nat.le_trans hB ht80.ex.size
   replace hA := ht80.new
   replace hH : Hp w.heap.size A79 w77 (obS (α := Int) 3 v75 x74 :: []) := hH81
   refine V_CH (Dw := False) (hk78) ?_
   refine CH_l1 (Dw := False) (k := 0) rfl ?_
   obtain ⟨x82, hx82, hm⟩ := Option.bind_eq_some_iff.1 hm
   refine V_call Tryz.call18 rfl rfl rfl rfl (staff_nat_small_c (Dw := False) w77 hA x8.1.den v65 h67 2 hx82) ?_
   rintro v83 w85 ⟨_, rfl, h84, hk86⟩
   have ht87 := Kp.tr (Dw := False) hk86 hA hB
   replace hH := Hp.kp (Dw := False) hH hk86
   replace hK := Tr.trans (Dw := False) hK ht87
   replace hB := Nat.le_trans hB ht87.ex.size
   replace hA := ht87.new
   refine V_CH (Dw := False) (hk86) ?_
   refine CH_l1 (Dw := False) (k := 0) rfl ?_
   obtain ⟨A88, ht89, h90, hH91⟩ := Hp.freeze (Dw := False) (α := Int) (v := v75) (l := x74) hH (i := 0) rfl hA
   replace h84 := Sl.tr (Dw := False) h84 ht89
   replace hK := Tr.trans (Dw := False) hK ht89
   replace hB := Nat.le_trans hB ht89.ex.size
   replace hA := ht89.new
   replace hH : Hp w.heap.size A88 w85 ([]) := hH91
   obtain ⟨x93, hx93, hm⟩ := Option.bind_eq_some_iff.1 hm
   refine V_call Tryz.call20 rfl rfl rfl rfl (staff_nat_by_c (Dw := False) w85 hA x74 v75 h90 x82 v83 h84 hx93) ?_
   rintro _ w98 ⟨v94, v96, rfl, h95, h97, hk99⟩
   have ht100 := Kp.tr (Dw := False) hk99 hA hB
   replace hH := Hp.kp (Dw := False) hH hk99
   replace hK := Tr.trans (Dw := False) hK ht100
   replace hB := Nat.le_trans hB ht100.ex.size
   replace hA := ht100.new
   refine V_CH (Dw := False) (hk99) ?_
   refine CH_q2 (Dw := False) rfl ?_
   refine VQ_y (fun w' hw' => Y_move rfl) rfl rfl rfl ?_
   refine VQ_CH (Dw := False) ?_
   refine CH_q2 (Dw := False) rfl ?_
   refine VQ_y (fun w' hw' => Y_extract rfl rfl) rfl rfl rfl ?_
   refine VQ_CH (Dw := False) ?_
   refine CH_q2 (Dw := False) rfl ?_
   refine VQ_y (fun w' hw' => Y_extract rfl rfl) rfl rfl rfl ?_
   refine VQ_CH (Dw := False) ?_
   refine CH_q2 (Dw := False) rfl ?_
   refine VQ_y (fun w' hw' => Y_assign rfl) rfl rfl rfl ?_
   refine VQ_CH (Dw := False) ?_
   refine CH_q2 (Dw := False) rfl ?_
   refine VQ_y (fun w' hw' => Y_assign rfl) rfl rfl rfl ?_
   refine VQ_CH (Dw := False) ?_
   refine CH_tail (Dw := False) ?_
   show V _ _ _ _ [] _ _
   refine V_to (fun _ _ => rfl) ?_
   refine C_seq ?_
   refine C_region ?_
   refine V_mv rfl rfl ?_
   obtain ⟨x101, hx101, hm⟩ := Option.bind_eq_some_iff.1 hm
   refine V_call Tryz.call21 rfl rfl rfl rfl (staff_nat_text_c w98 hA (Fz.tr (Dw := False) hT hK) x93.1 v94 h95 hx101) ?_
   rintro _ w102 ⟨rfl, hk103⟩
   have ht104 := Kp.tr (Dw := False) hk103 hA hB
   replace hH := Hp.kp (Dw := False) hH hk103
   replace hK := Tr.trans (Dw := False) hK ht104
   replace hB := Nat.le_trans hB ht104.ex.size
   replace hA := ht104.new
   refine V_as rfl rfl ?_
   refine V_to (fun _ _ => rfl) ?_
   refine C_seq ?_
   refine C_seq ?_
   refine C_region ?_
   refine V_mv rfl rfl ?_
   refine V_y (Y_eql rfl rfl) rfl rfl rfl ?_
   refine V_to (fun _ _ => rfl) ?_
   refine C_cond rfl (fun hc105 => ?_) (fun hc105 => ?_)
   ·rw [if_pos hc105] at hm
    refine C_seq ?_
    refine C_region ?_
    refine V_mv rfl rfl ?_
    refine V_as rfl rfl ?_
    refine V_as rfl rfl ?_
    refine V_to (fun _ _ => rfl) ?_
    obtain rfl := Option.some.inj hm
    refine C_ret ?_
    try simp only [↓inBlock_ret, ↓then_ret]
    exact retQ rfl (Res.two Tryz.results6 rfl rfl) ⟨rfl, hK.kp⟩
   ·rw [if_neg (nt hc105)] at hm
    refine C_skip_to (fun _ _ => rfl) ?_
    refine C_seq ?_
    refine C_seq ?_
    refine C_region ?_
    refine V_mv rfl rfl ?_
    refine V_y (Y_lenStr rfl Tryz.underlying9 rfl) rfl rfl rfl ?_
    refine V_mv rfl rfl ?_
    refine V_y (Y_leq rfl rfl) rfl rfl rfl ?_
    refine V_to (fun _ _ => rfl) ?_
    obtain ⟨s107, ho106, hm⟩ := Option.bind_eq_some_iff.1 hm
    refine C_cutG (ι := (Nat → Prop)) (fun (A112 : (Nat → Prop)) => [(1, .int .i64 digits), (11, .string s107)]) (fun (A112 : (Nat → Prop)) => fun w' => Hp w.heap.size A112 w' ([]) ∧ Tr False w.heap.size A88 w102 A112 w') ?_ ?_
    ·have hr108 : Tr False w.heap.size A88 w102 A88 w102 := Tr.refl (Dw := False) hA
     refine C_cond rfl (fun hc114 => ?_) (fun hc114 => ?_)
     ·rw [if_pos hc114] at ho106
      refine C_region ?_
      refine V_mv rfl rfl ?_
      refine V_y (Y_addI rfl rfl) rfl rfl rfl ?_
      refine V_mv rfl rfl ?_
      refine V_y (Y_lenStr rfl Tryz.underlying9 rfl) rfl rfl rfl ?_
      refine V_y (Y_subI rfl rfl) rfl rfl rfl ?_
      obtain ⟨x115, hx115, ho106⟩ := Option.bind_eq_some_iff.1 ho106
      refine V_call Tryz.call17 rfl rfl rfl rfl (strings_Repeat_c w102 hA (⟨#[48]⟩ : ByteArray) (w64 ((w64 (digits + 1)) - (x101.size : Int))) hx115) ?_
      rintro _ w116 ⟨rfl, hk117⟩
      have ht118 := Kp.tr (Dw := False) hk117 hA hB
      replace hH := Hp.kp (Dw := False) hH hk117
      replace hr108 := Tr.trans (Dw := False) hr108 ht118
      refine V_mv rfl rfl ?_
      obtain ⟨x119, hx119, ho106⟩ := Option.bind_eq_some_iff.1 ho106
      refine V_y (Y_sadd hx119 rfl rfl) rfl rfl rfl ?_
      refine V_as rfl rfl ?_
      obtain rfl := Option.some.inj ho106
      refine V_end (fun a ha120 => ?_)
      exact ⟨A88, ha120.sub ⟨rfl, rfl, trivial⟩, ⟨hH, hr108⟩⟩
     ·rw [if_neg (nt hc114)] at ho106
      obtain rfl := Option.some.inj ho106
      refine C_skip (fun a ha121 => ?_)
      exact ⟨A88, ha121.sub ⟨rfl, rfl, trivial⟩, ⟨hH, hr108⟩⟩
    rintro A112 w109 ⟨hH113, hk110⟩ a ha111
    replace hK := Tr.trans (Dw := False) hK hk110
    replace hB := Nat.le_trans hB hk110.ex.size
    replace hA := hk110.new
    replace hH : Hp w.heap.size A112 w109 ([]) := hH113
    refine C_at (n := ⟨73, [], none⟩) (fun _ _ => rfl) ?_ ha111
    refine C_seq ?_
    refine C_region_q (Dw := False) Tryz_mixed (by kernel_rfl) ?_
    refine VQ_y (fun w' hw' => Y_move rfl) rfl rfl rfl ?_
    refine VQ_y (fun w' hw' => Y_move rfl) rfl rfl rfl ?_
    refine VQ_y (fun w' hw' => Y_lenStr rfl Tryz.underlying9 rfl) rfl rfl rfl ?_
    refine VQ_y (fun w' hw' => Y_move rfl) rfl rfl rfl ?_
    refine VQ_y (fun w' hw' => Y_subI rfl rfl) rfl rfl rfl ?_
    obtain ⟨x122, hx122, hm⟩ := Option.bind_eq_some_iff.1 hm
    refine VQ_y (fun w' hw' => Y_sliceSH hx122 Tryz.underlying9 rfl rfl) rfl rfl rfl ?_
    obtain ⟨x123, hx123, hm⟩ := Option.bind_eq_some_iff.1 hm
    refine VQ_y (fun w' hw' => Y_sadd hx123 rfl rfl) rfl rfl rfl ?_
    refine VQ_y (fun w' hw' => Y_move rfl) rfl rfl rfl ?_
    refine VQ_y (fun w' hw' => Y_move rfl) rfl rfl rfl ?_
    refine VQ_y (fun w' hw' => Y_lenStr rfl Tryz.underlying9 rfl) rfl rfl rfl ?_
    refine VQ_y (fun w' hw' => Y_move rfl) rfl rfl rfl ?_
    refine VQ_y (fun w' hw' => Y_subI rfl rfl) rfl rfl rfl ?_
    obtain ⟨x124, hx124, hm⟩ := Option.bind_eq_some_iff.1 hm
    refine VQ_y (fun w' hw' => Y_sliceSL hx124 Tryz.underlying9 rfl rfl) rfl rfl rfl ?_
    obtain ⟨x125, hx125, hm⟩ := Option.bind_eq_some_iff.1 hm
    refine VQ_y (fun w' hw' => Y_sadd hx125 rfl rfl) rfl rfl rfl ?_
    refine VQ_y (fun w' hw' => Y_assign rfl) rfl rfl rfl ?_
    refine VQ_y (fun w' hw' => Y_assign rfl) rfl rfl rfl ?_
    refine VQ_to (fun _ _ => rfl) (fun w126 hk127 => ?_)
    have ht128 := Kp.tr (Dw := False) hk127 hA hB
    replace hK := Tr.trans (Dw := False) hK ht128
    obtain rfl := Option.some.inj hm
    refine C_ret ?_
    try simp only [↓inBlock_ret, ↓then_ret]
    exact retQ rfl (Res.two Tryz.results6 rfl rfl) ⟨rfl, hK.kp⟩

def Tryz_strings_Trim_lay_ren : Go.Shelf.Ren := ⟨fun | 119 => 102 | 120 => 100 | 137 => 101 | 151 => 94 | 152 => 99 | 160 => 70 | 197 => 93 | 217 => 105 | 224 => 103 | 225 => 104 | 227 => 80 | 228 => 92 | 231 => 78 | 232 => 79 | 233 => 81 | 234 => 82 | 235 => 83 | 236 => 84 | 260 => 98 | 266 => 106 | 271 => 95 | n => n, fun | 0 => 0 | 1 => 1 | 2 => 2 | 3 => 3 | 4 => 4 | 5 => 5 | 6 => 6 | 7 => 7 | 8 => 8 | 9 => 9 | 10 => 10 | 11 => 11 | 12 => 12 | 13 => 13 | 14 => 14 | 15 => 15 | 16 => 16 | 17 => 17 | 18 => 18 | 19 => 19 | 20 => 20 | 21 => 21 | 22 => 72 | 23 => 109 | 26 => 48 | 27 => 151 | 28 => 30 | 37 => 74 | 40 => 150 | 41 => 138 | 46 => 69 | 47 => 137 | 51 => 86 | 52 => 89 | 53 => 85 | 54 => 117 | 55 => 149 | 63 => 141 | 64 => 142 | 69 => 112 | 70 => 73 | 71 => 75 | 72 => 76 | 73 => 77 | 74 => 65 | 75 => 66 | 76 => 67 | 77 => 68 | 80 => 51 | 81 => 78 | 83 => 83 | 84 => 108 | 85 => 100 | 86 => 101 | 104 => 84 | 105 => 139 | 106 => 140 | 108 => 115 | 109 => 70 | 110 => 71 | 111 => 136 | 114 => 132 | 115 => 122 | 116 => 123 | 117 => 124 | 118 => 125 | 119 => 145 | 122 => 121 | 123 => 126 | 124 => 127 | 127 => 97 | 128 => 92 | 137 => 146 | 138 => 147 | 139 => 148 | 143 => 129 | 144 => 130 | 145 => 131 | 146 => 93 | 147 => 94 | 148 => 95 | 149 => 96 | 164 => 105 | 165 => 106 | 166 => 107 | 167 => 99 | 168 => 102 | 169 => 103 | 170 => 104 | 171 => 116 | 172 => 118 | 173 => 119 | 174 => 120 | 175 => 110 | 176 => 111 | 209 => 113 | 210 => 114 | 211 => 133 | 212 => 134 | 213 => 135 | 214 => 128 | 232 => 143 | 233 => 144 | 236 => 38 | 238 => 152 | 239 => 153 | 240 => 154 | 241 => 155 | 242 => 156 | 243 => 157 | 244 => 158 | 245 => 159 | 246 => 160 | 247 => 161 | 248 => 162 | 249 => 163 | n => n, fun | 1 => 2 | 3 => 6 | 4 => 7 | 15 => 0 | 16 => 1 | 17 => 3 | 18 => 4 | 19 => 5 | n => n⟩
theorem Tryz_strings_Trim_lay : Go.Proofs.Lays.n160 Tryz.prog Tryz_strings_Trim_lay_ren := {
 mixed := by kernel_rfl,
 f119 := Tryz.func102.trans (congrArg some (by kernel_rfl)),
 f120 := Tryz.func100.trans (congrArg some (by kernel_rfl)),
 f137 := Tryz.func101.trans (congrArg some (by kernel_rfl)),
 f151 := Tryz.func94.trans (congrArg some (by kernel_rfl)),
 f152 := Tryz.func99.trans (congrArg some (by kernel_rfl)),
 f160 := Tryz.func70.trans (congrArg some (by kernel_rfl)),
 f197 := Tryz.func93.trans (congrArg some (by kernel_rfl)),
 f217 := Tryz.func105.trans (congrArg some (by kernel_rfl)),
 f224 := Tryz.func103.trans (congrArg some (by kernel_rfl)),
 f225 := Tryz.func104.trans (congrArg some (by kernel_rfl)),
 f227 := Tryz.func80.trans (congrArg some (by kernel_rfl)),
 f228 := Tryz.func92.trans (congrArg some (by kernel_rfl)),
 f231 := Tryz.func78.trans (congrArg some (by kernel_rfl)),
 f232 := Tryz.func79.trans (congrArg some (by kernel_rfl)),
 f233 := Tryz.func81.trans (congrArg some (by kernel_rfl)),
 f234 := Tryz.func82.trans (congrArg some (by kernel_rfl)),
 f235 := Tryz.func83.trans (congrArg some (by kernel_rfl)),
 f236 := Tryz.func84.trans (congrArg some (by kernel_rfl)),
 f260 := Tryz.func98.trans (congrArg some (by kernel_rfl)),
 f266 := Tryz.func106.trans (congrArg some (by kernel_rfl)),
 f271 := Tryz.func95.trans (congrArg some (by kernel_rfl)),
 t0 := Tryz.underlying0,
 a0 := Tryz.isAgg0,
 z0 := Tryz.sizeOf0,
 v0 := Tryz.zeroValue0,
 t3 := Tryz.underlying3,
 a3 := Tryz.isAgg3,
 z3 := Tryz.sizeOf3,
 v3 := Tryz.zeroValue3,
 t4 := Tryz.underlying4,
 a4 := Tryz.isAgg4,
 z4 := Tryz.sizeOf4,
 v4 := Tryz.zeroValue4,
 t5 := Tryz.underlying5,
 a5 := Tryz.isAgg5,
 z5 := Tryz.sizeOf5,
 v5 := Tryz.zeroValue5,
 t9 := Tryz.underlying9,
 a9 := Tryz.isAgg9,
 z9 := Tryz.sizeOf9,
 v9 := Tryz.zeroValue9,
 t21 := Tryz.underlying21,
 a21 := Tryz.isAgg21,
 z21 := Tryz.sizeOf21,
 v21 := Tryz.zeroValue21,
 t46 := Tryz.underlying69,
 a46 := Tryz.isAgg69,
 z46 := Tryz.sizeOf69,
 v46 := Tryz.zeroValue69,
 t105 := Tryz.underlying139,
 a105 := Tryz.isAgg139,
 z105 := Tryz.sizeOf139,
 v105 := Tryz.zeroValue139,
 t116 := Tryz.underlying123,
 a116 := Tryz.isAgg123,
 z116 := Tryz.sizeOf123,
 t117 := Tryz.underlying124,
 a117 := Tryz.isAgg124,
 z117 := Tryz.sizeOf124,
 v117 := Tryz.zeroValue124,
 t119 := Tryz.underlying145,
 a119 := Tryz.isAgg145,
 z119 := Tryz.sizeOf145,
 t124 := Tryz.underlying127,
 a124 := Tryz.isAgg127,
 z124 := Tryz.sizeOf127,
 v124 := Tryz.zeroValue127,
 t138 := Tryz.underlying147,
 a138 := Tryz.isAgg147,
 z138 := Tryz.sizeOf147,
 v138 := Tryz.zeroValue147,
 t139 := Tryz.underlying148,
 a139 := Tryz.isAgg148,
 z139 := Tryz.sizeOf148,
 v139 := Tryz.zeroValue148,
 g3 := by kernel_rfl,
 g4 := by kernel_rfl }
theorem strings_Trim_c (w : World) {A : Nat → Prop} (hA : ∀ b, w.heap.size ≤ b → A b) (s : ByteArray) (cutset : ByteArray) {r : ByteArray} (hm : strings_Trim s cutset = some r) : Ret Tryz.prog 70 #[.string s, .string cutset] w fun v w' => v = .string r ∧ Kp False w w' := by
 unfold strings_Trim at hm
 split at hm
 case isFalse => cases hm
 rename_i h
 obtain rfl := Option.some.inj hm
 refine Calls.mono (Go.Proofs.Any.strings_Trim_laid Tryz_strings_Trim_lay (by kernel_rfl) s cutset w h.1 h.2.1 (Go.Proofs.ascii_of_all h.2.2)) ?_
 rintro _ w' ⟨rfl, hk⟩
 exact ⟨_, rfl, rfl, .of hk⟩

end Go.Proofs.YtblcbjmgpacliaaGreatDoor.W
