/-
  Written by program (gen.py) from the IR of the dump: each function computes its model.
-/
import Derived.Test.YtfdhiclmjfkflaaDoorTemplateFillsW1
namespace Go.Proofs.YtfdhiclmjfkflaaDoor.W
open Go Go.RowKit Go.Pu Go.Gw Go.Proofs Go.Proofs.YtfdhiclmjfkflaaDoor.M
set_option linter.unusedVariables false
set_option linter.unusedSimpArgs false
variable {Dw : Prop}

def Tryd_strings_ReplaceAll_lay_ren : Go.Shelf.Ren := ⟨fun | 138 => 49 | 143 => 50 | 154 => 33 | 155 => 23 | 165 => 26 | 166 => 8 | 169 => 10 | 195 => 57 | 197 => 51 | 217 => 52 | 218 => 58 | 219 => 59 | 224 => 65 | 225 => 64 | 240 => 21 | 241 => 43 | 260 => 60 | 266 => 61 | 267 => 66 | 276 => 31 | 277 => 56 | 314 => 68 | n => n, fun | 0 => 0 | 1 => 1 | 2 => 2 | 3 => 3 | 4 => 4 | 5 => 5 | 6 => 6 | 7 => 7 | 8 => 8 | 9 => 9 | 10 => 10 | 11 => 11 | 12 => 12 | 13 => 13 | 14 => 14 | 15 => 15 | 16 => 16 | 17 => 17 | 18 => 18 | 19 => 19 | 20 => 20 | 21 => 21 | 23 => 68 | 24 => 39 | 27 => 92 | 31 => 52 | 37 => 34 | 40 => 63 | 41 => 62 | 46 => 100 | 51 => 105 | 55 => 78 | 63 => 95 | 64 => 98 | 65 => 77 | 66 => 65 | 67 => 55 | 69 => 88 | 70 => 33 | 71 => 35 | 72 => 36 | 73 => 69 | 74 => 40 | 75 => 41 | 76 => 42 | 77 => 43 | 78 => 89 | 80 => 45 | 81 => 44 | 103 => 97 | 104 => 51 | 105 => 93 | 106 => 94 | 114 => 99 | 115 => 82 | 116 => 83 | 117 => 84 | 118 => 85 | 119 => 101 | 122 => 81 | 123 => 86 | 124 => 87 | 127 => 64 | 137 => 102 | 138 => 103 | 139 => 104 | 146 => 106 | 151 => 107 | 155 => 91 | 164 => 75 | 165 => 76 | 166 => 96 | 238 => 108 | 239 => 109 | 240 => 110 | 241 => 111 | 242 => 112 | 243 => 113 | 244 => 114 | 245 => 115 | 246 => 116 | 247 => 117 | 248 => 118 | 249 => 119 | n => n, fun | 1 => 0 | 3 => 1 | 4 => 2 | n => n⟩
theorem Tryd_strings_ReplaceAll_lay : Go.Proofs.Lays.n155 Tryd.prog Tryd_strings_ReplaceAll_lay_ren := {
  mixed := by kernel_rfl,
  f138 := Tryd.func49.trans (congrArg some (by kernel_rfl)),
  f143 := Tryd.func50.trans (congrArg some (by kernel_rfl)),
  f154 := Tryd.func33.trans (congrArg some (by kernel_rfl)),
  f155 := Tryd.func23.trans (congrArg some (by kernel_rfl)),
  f165 := Tryd.func26.trans (congrArg some (by kernel_rfl)),
  f166 := Tryd.func8.trans (congrArg some (by kernel_rfl)),
  f169 := Tryd.func10.trans (congrArg some (by kernel_rfl)),
  f195 := Tryd.func57.trans (congrArg some (by kernel_rfl)),
  f197 := Tryd.func51.trans (congrArg some (by kernel_rfl)),
  f217 := Tryd.func52.trans (congrArg some (by kernel_rfl)),
  f218 := Tryd.func58.trans (congrArg some (by kernel_rfl)),
  f219 := Tryd.func59.trans (congrArg some (by kernel_rfl)),
  f224 := Tryd.func65.trans (congrArg some (by kernel_rfl)),
  f225 := Tryd.func64.trans (congrArg some (by kernel_rfl)),
  f240 := Tryd.func21.trans (congrArg some (by kernel_rfl)),
  f241 := Tryd.func43.trans (congrArg some (by kernel_rfl)),
  f260 := Tryd.func60.trans (congrArg some (by kernel_rfl)),
  f266 := Tryd.func61.trans (congrArg some (by kernel_rfl)),
  f267 := Tryd.func66.trans (congrArg some (by kernel_rfl)),
  f276 := Tryd.func31.trans (congrArg some (by kernel_rfl)),
  f277 := Tryd.func56.trans (congrArg some (by kernel_rfl)),
  f314 := Tryd.func68.trans (congrArg some (by kernel_rfl)),
  t0 := Tryd.underlying0,
  a0 := Tryd.isAgg0,
  z0 := Tryd.sizeOf0,
  v0 := Tryd.zeroValue0,
  t3 := Tryd.underlying3,
  a3 := Tryd.isAgg3,
  z3 := Tryd.sizeOf3,
  v3 := Tryd.zeroValue3,
  t4 := Tryd.underlying4,
  a4 := Tryd.isAgg4,
  z4 := Tryd.sizeOf4,
  v4 := Tryd.zeroValue4,
  t5 := Tryd.underlying5,
  a5 := Tryd.isAgg5,
  z5 := Tryd.sizeOf5,
  v5 := Tryd.zeroValue5,
  t9 := Tryd.underlying9,
  a9 := Tryd.isAgg9,
  z9 := Tryd.sizeOf9,
  v9 := Tryd.zeroValue9,
  t20 := Tryd.underlying20,
  a20 := Tryd.isAgg20,
  z20 := Tryd.sizeOf20,
  v20 := Tryd.zeroValue20,
  t21 := Tryd.underlying21,
  a21 := Tryd.isAgg21,
  z21 := Tryd.sizeOf21,
  v21 := Tryd.zeroValue21,
  t37 := Tryd.underlying34,
  a37 := Tryd.isAgg34,
  z37 := Tryd.sizeOf34,
  v37 := Tryd.zeroValue34,
  t46 := Tryd.underlying100,
  a46 := Tryd.isAgg100,
  z46 := Tryd.sizeOf100,
  v46 := Tryd.zeroValue100,
  t51 := Tryd.underlying105,
  a51 := Tryd.isAgg105,
  z51 := Tryd.sizeOf105,
  v51 := Tryd.zeroValue105,
  t70 := Tryd.underlying33,
  a70 := Tryd.isAgg33,
  z70 := Tryd.sizeOf33,
  v70 := Tryd.zeroValue33,
  t72 := Tryd.underlying36,
  a72 := Tryd.isAgg36,
  z72 := Tryd.sizeOf36,
  v72 := Tryd.zeroValue36,
  t75 := Tryd.underlying41,
  a75 := Tryd.isAgg41,
  z75 := Tryd.sizeOf41,
  v75 := Tryd.zeroValue41,
  t76 := Tryd.underlying42,
  a76 := Tryd.isAgg42,
  z76 := Tryd.sizeOf42,
  v76 := Tryd.zeroValue42,
  t105 := Tryd.underlying93,
  a105 := Tryd.isAgg93,
  z105 := Tryd.sizeOf93,
  v105 := Tryd.zeroValue93,
  t119 := Tryd.underlying101,
  a119 := Tryd.isAgg101,
  z119 := Tryd.sizeOf101,
  t127 := Tryd.underlying64,
  a127 := Tryd.isAgg64,
  z127 := Tryd.sizeOf64,
  v127 := Tryd.zeroValue64,
  t138 := Tryd.underlying103,
  a138 := Tryd.isAgg103,
  z138 := Tryd.sizeOf103,
  v138 := Tryd.zeroValue103,
  t139 := Tryd.underlying104,
  a139 := Tryd.isAgg104,
  z139 := Tryd.sizeOf104,
  v139 := Tryd.zeroValue104,
  t146 := Tryd.underlying106,
  a146 := Tryd.isAgg106,
  z146 := Tryd.sizeOf106,
  v146 := Tryd.zeroValue106,
  t164 := Tryd.underlying75,
  a164 := Tryd.isAgg75,
  z164 := Tryd.sizeOf75,
  v164 := Tryd.zeroValue75,
  g1 := by kernel_rfl,
  g3 := by kernel_rfl,
  g4 := by kernel_rfl }
theorem Tryd_strings_ReplaceAll_lay_x : Go.Proofs.Builder.Extra Tryd.prog Tryd_strings_ReplaceAll_lay_ren := {
  sizeBuilder := by kernel_rfl
  liesBuilder := by kernel_rfl
  t5 := Tryd.underlying5
  a5 := Tryd.isAgg5
  z5 := Tryd.sizeOf5
  v5 := Tryd.zeroValue5
  infoByte := by kernel_rfl
  cellsByte := by kernel_rfl
  sizeByte := by kernel_rfl
  neB5 := (by decide : (36 : Nat) ≠ 5) }
theorem strings_ReplaceAll_c (w : World) {A : Nat → Prop} (hA : ∀ b, w.heap.size ≤ b → A b) (hT : Mx Tryd.prog 0 A w) (s : ByteArray) (old : ByteArray) (new : ByteArray) {r : ByteArray} (hm : strings_ReplaceAll s old new = some r) : Ret Tryd.prog 23 #[.string s, .string old, .string new] w fun v w' => v = .string r ∧ Kp False w w' := by
  unfold strings_ReplaceAll at hm
  split at hm
  case isFalse => cases hm
  rename_i h
  obtain rfl := Option.some.inj hm
  obtain ⟨⟨m, hmx⟩, _, _⟩ := hT
  refine Calls.mono (Go.Proofs.Any.strings_ReplaceAll Tryd_strings_ReplaceAll_lay Tryd_strings_ReplaceAll_lay_x s old new m w h.1 hmx h.2.1 h.2.2) ?_
  rintro _ w' ⟨rfl, hk⟩
  exact ⟨_, rfl, rfl, .of hk⟩

set_option maxRecDepth 4000 in
set_option maxHeartbeats 4000000 in
theorem portref2_lowByte_1_c (w : World) (r_ : Int) : Ret Tryd.prog 32 #[.int .i32 r_] w fun v w' => v = .bool (portref2_lowByte_1 r_) ∧ w = w' := by
  generalize hm : portref2_lowByte_1 r_ = r
  unfold portref2_lowByte_1 at hm
  refine enter Tryd.func32 rfl Tryd.ntmps32 rfl ?_
  refine C_seq ?_
  refine C_region ?_
  refine V_y (Y_assign rfl) rfl rfl rfl ?_
  refine V_to (fun _ _ => rfl) ?_
  refine C_seq ?_
  refine C_region ?_
  refine V_y (Y_move rfl) rfl rfl rfl ?_
  refine V_y (Y_lss rfl rfl) rfl rfl rfl ?_
  refine V_y (Y_move rfl) rfl rfl rfl ?_
  refine V_cut 3 (fun _ : Unit => [(8, .bool ((decide (r_ < 32)) || (r_ == 127)))]) (fun _ w' => w = w') ?_ ?_
  · simp only [List.take, List.drop]
    rcases Bool.eq_false_or_eq_true (decide (r_ < 32)) with hc1 | hc1
    · refine V_gn rfl rfl rfl hc1 rfl rfl rfl ?_
      refine V_gn rfl rfl rfl hc1 rfl rfl rfl ?_
      refine V_y (Y_pick_te rfl hc1 rfl) rfl rfl rfl ?_
      exact V_end fun a ha => ⟨(), ha.sub ⟨(by rw [hc1]; rfl), trivial⟩, rfl⟩
    · refine V_ge rfl rfl rfl hc1 ?_
      refine V_y (Y_move rfl) rfl rfl rfl ?_
      refine V_ge rfl rfl rfl hc1 ?_
      refine V_y (Y_eql rfl rfl) rfl rfl rfl ?_
      refine V_y (Y_pick_fe rfl hc1 rfl) rfl rfl rfl ?_
      exact V_end fun a ha => ⟨(), ha.sub ⟨(by rw [hc1]; rfl), trivial⟩, rfl⟩
  simp only [List.take, List.drop]
  rintro _ _ rfl
  refine V_y (Y_assign rfl) rfl rfl rfl ?_
  refine V_to (fun _ _ => rfl) ?_
  obtain rfl := hm
  refine C_ret ?_
  try simp only [↓inBlock_ret, ↓then_ret]
  exact retQ rfl (Res.one Tryd.results32 rfl) ⟨rfl, rfl⟩

set_option maxRecDepth 4000 in
set_option maxHeartbeats 4000000 in
theorem portref2_lowByte_c (w : World) {A : Nat → Prop} (hA : ∀ b, w.heap.size ≤ b → A b) (s : ByteArray) {r : Bool} (hm : portref2_lowByte s = some r) : Ret Tryd.prog 22 #[.string s] w fun v w' => v = .bool r ∧ Kp False w w' := by
  unfold portref2_lowByte at hm
  refine enter Tryd.func22 rfl Tryd.ntmps22 rfl ?_
  have hA0 := hA
  have hB := Nat.le_refl w.heap.size
  have hK : Tr False w.heap.size A w A w := Tr.refl (Dw := False) hA
  have hH : Hp w.heap.size A w [] := Hp.nil
  refine C_seq ?_
  refine C_region ?_
  refine V_y (Y_assign rfl) rfl rfl rfl ?_
  refine V_to (fun _ _ => rfl) ?_
  refine C_seq ?_
  refine C_region ?_
  refine V_y (Y_move rfl) rfl rfl rfl ?_
  refine V_call Tryd.call18 rfl rfl rfl rfl (contains_wrap (Go.Proofs.Any.strings_ContainsFunc_grows Tryd_contains_lay 32 #[] (fun args w => Tryd.call32 args w) (fun y => portref2_lowByte_1 (y : Int)) s w (fun W x _ _ => Calls.mono (portref2_lowByte_1_c W (x : Int)) fun _ _ h => contains_fn h))) ?_
  rintro _ w1 ⟨rfl, hk2⟩
  have ht3 := Kp.tr (Dw := False) hk2 hA hB
  replace hH := Hp.kp (Dw := False) hH hk2
  replace hK := Tr.trans (Dw := False) hK ht3
  replace hB := Nat.le_trans hB ht3.ex.size
  replace hA := ht3.new
  refine V_y (Y_assign rfl) rfl rfl rfl ?_
  refine V_to (fun _ _ => rfl) ?_
  obtain rfl := Option.some.inj hm
  refine C_ret ?_
  try simp only [↓inBlock_ret, ↓then_ret]
  exact retQ rfl (Res.one Tryd.results22 rfl) ⟨rfl, hK.kp⟩

set_option maxRecDepth 4000 in
set_option maxHeartbeats 4000000 in
theorem portref2_fieldString_c (w : World) (s : ByteArray) (at_ : Int) (ends : ByteArray) {r : (ByteArray × Int × Bool)} (hm : portref2_fieldString s at_ ends = some r) : Ret Tryd.prog 35 #[.string s, .int .i64 at_, .string ends] w fun v w' => v = .tuple #[.string r.1, .int .i64 r.2.1, .bool r.2.2] ∧ w = w' := by
  unfold portref2_fieldString at hm
  refine enter Tryd.func35 rfl Tryd.ntmps35 rfl ?_
  refine C_seq ?_
  refine C_region ?_
  refine V_y (Y_assign rfl) rfl rfl rfl ?_
  refine V_y (Y_assign rfl) rfl rfl rfl ?_
  refine V_y (Y_assign rfl) rfl rfl rfl ?_
  refine V_to (fun _ _ => rfl) ?_
  refine C_seq ?_
  refine C_region ?_
  refine V_y (Y_assign rfl) rfl rfl rfl ?_
  refine V_to (fun _ _ => rfl) ?_
  refine C_seq ?_
  obtain ⟨o1, ho1, hm⟩ := Option.bind_eq_some_iff.1 hm
  refine C_cutG (ι := (Int × ByteArray)) (fun (s2 : (Int × ByteArray)) => [(1, .int .i64 s2.1)]) (fun (s2 : (Int × ByteArray)) => fun w' => o1 = .fin s2 ∧ w = w') ?_ ?_
  · refine C_block ?_
    refine C_while ho1 (fun s8 a w' => ∃ i : Unit, Has ⟨74, [], none⟩ a ([(0, .string s), (1, .int .i64 s8.1), (2, .string ends), (9, .string s8.2)]) ∧ w = w') (fun a ha => ⟨(), ha.sub ⟨rfl, rfl, rfl, rfl, trivial⟩, rfl⟩) ?_
    rintro K s8 a _ ⟨_, ha58, rfl⟩ K16
    refine C_of ?_ ha58
    obtain ⟨x10, h11, h12⟩ := K16
    refine C_seq ?_
    refine C_seq ?_
    refine C_region ?_
    refine V_y (Y_move rfl) rfl rfl rfl ?_
    refine V_y (Y_move rfl) rfl rfl rfl ?_
    refine V_y (Y_lenStr rfl Tryd.underlying9 rfl) rfl rfl rfl ?_
    refine V_y (Y_lss rfl rfl) rfl rfl rfl ?_
    refine V_to (fun _ _ => rfl) ?_
    refine C_cond rfl (fun hc17 => ?_) (fun hc17 => ?_)
    · rw [if_pos hc17] at h11
      refine C_skip_to (fun _ _ => rfl) ?_
      refine C_block ?_
      refine C_seq ?_
      refine C_region ?_
      refine V_y (Y_move rfl) rfl rfl rfl ?_
      refine V_y (Y_move rfl) rfl rfl rfl ?_
      obtain ⟨x18, hx18, h11⟩ := Option.bind_eq_some_iff.1 h11
      refine V_y (Y_indexS hx18 Tryd.underlying9 rfl rfl) rfl rfl rfl ?_
      refine V_y (Y_assign rfl) rfl rfl rfl ?_
      refine V_to (fun _ _ => rfl) ?_
      refine C_seq ?_
      obtain ⟨o19, ho19, h11⟩ := Option.bind_eq_some_iff.1 h11
      refine C_cutG (ι := (Int × ByteArray)) (fun (s20 : (Int × ByteArray)) => [(0, .string s), (1, .int .i64 s20.1), (2, .string ends), (9, .string s20.2)]) (fun (s20 : (Int × ByteArray)) => fun w' => o19 = .fin s20 ∧ w = w') ?_ ?_
      · refine C_block ?_
        refine C_seq ?_
        refine C_region ?_
        refine V_y (Y_move rfl) rfl rfl rfl ?_
        refine V_y (Y_move rfl) rfl rfl rfl ?_
        refine V_call Tryd.call34 rfl rfl rfl rfl (strings_IndexByte_c w ends (x18.toNat : Int)) ?_
        rintro _ _ ⟨rfl, rfl⟩
        refine V_y (Y_geq rfl rfl) rfl rfl rfl ?_
        refine V_y (Y_assign rfl) rfl rfl rfl ?_
        refine V_to (fun _ _ => rfl) ?_
        obtain ⟨o25, ho25, ho19⟩ := Option.bind_eq_some_iff.1 ho19
        refine C_cutG (ι := (Int × ByteArray)) (fun (s26 : (Int × ByteArray)) => [(0, .string s), (1, .int .i64 s26.1), (2, .string ends), (9, .string s26.2)]) (fun (s26 : (Int × ByteArray)) => fun w' => o25 = .fin s26 ∧ w = w') ?_ ?_
        · refine C_cond rfl (fun hc31 => ?_) (fun hc31 => ?_)
          · rw [if_pos hc31] at ho25
            refine C_seq ?_
            refine C_region ?_
            refine V_y (Y_move rfl) rfl rfl rfl ?_
            refine V_y (Y_move rfl) rfl rfl rfl ?_
            refine V_y (Y_assign rfl) rfl rfl rfl ?_
            refine V_y (Y_assign rfl) rfl rfl rfl ?_
            refine V_y (Y_assign rfl) rfl rfl rfl ?_
            refine V_to (fun _ _ => rfl) ?_
            obtain rfl := Option.some.inj ho25
            rw [Lp.andThen_rt] at ho19
            obtain rfl := Option.some.inj ho19
            rw [Lp.andThen_rt] at h11
            obtain rfl := Option.some.inj h11
            obtain rfl := (h12 : Lp.rt _ = _)
            rw [Lp.andThen_rt] at hm
            obtain rfl := Option.some.inj hm
            refine C_ret ?_
            try simp only [↓inBlock_ret, ↓then_ret]
            exact retQ rfl (Res.three Tryd.results35 rfl rfl rfl) ⟨rfl, rfl⟩
          · rw [if_neg (nt hc31)] at ho25
            refine C_seq ?_
            refine C_region ?_
            refine V_y (Y_move rfl) rfl rfl rfl ?_
            refine V_y (Y_eql rfl rfl) rfl rfl rfl ?_
            refine V_y (Y_assign rfl) rfl rfl rfl ?_
            refine V_to (fun _ _ => rfl) ?_
            obtain ⟨o32, ho32, ho25⟩ := Option.bind_eq_some_iff.1 ho25
            refine C_cutG (ι := (Int × ByteArray)) (fun (s33 : (Int × ByteArray)) => [(0, .string s), (1, .int .i64 s33.1), (2, .string ends), (9, .string s33.2)]) (fun (s33 : (Int × ByteArray)) => fun w' => o32 = .fin s33 ∧ w = w') ?_ ?_
            · refine C_cond rfl (fun hc38 => ?_) (fun hc38 => ?_)
              · rw [if_pos hc38] at ho32
                refine C_seq ?_
                refine C_seq ?_
                refine C_region ?_
                refine V_y (Y_move rfl) rfl rfl rfl ?_
                refine V_y (Y_addI rfl rfl) rfl rfl rfl ?_
                refine V_y (Y_move rfl) rfl rfl rfl ?_
                refine V_y (Y_lenStr rfl Tryd.underlying9 rfl) rfl rfl rfl ?_
                refine V_y (Y_eql rfl rfl) rfl rfl rfl ?_
                refine V_y (Y_move rfl) rfl rfl rfl ?_
                obtain ⟨s40, hs40, ho32⟩ := Option.bind_eq_some_iff.1 ho32
                refine V_cut 7 (fun _ : Unit => [(0, .string s), (1, .int .i64 s8.1), (2, .string ends), (9, .string s8.2), (47, .bool s40)]) (fun _ w' => w = w') ?_ ?_
                · simp only [List.take, List.drop]
                  rcases Bool.eq_false_or_eq_true ((w64 (s8.1 + 1)) == (s.size : Int)) with hc39 | hc39
                  · rw [if_pos hc39] at hs40
                    refine V_gn rfl rfl rfl hc39 rfl rfl rfl ?_
                    refine V_gn rfl rfl rfl hc39 rfl rfl rfl ?_
                    refine V_gn rfl rfl rfl hc39 rfl rfl rfl ?_
                    refine V_gn rfl rfl rfl hc39 rfl rfl rfl ?_
                    refine V_gn rfl rfl rfl hc39 rfl rfl rfl ?_
                    refine V_gn rfl rfl rfl hc39 rfl rfl rfl ?_
                    refine V_y (Y_pick_te rfl hc39 rfl) rfl rfl rfl ?_
                    obtain rfl := Option.some.inj hs40
                    exact V_end fun a ha => ⟨(), ha.sub ⟨rfl, rfl, rfl, rfl, rfl, trivial⟩, rfl⟩
                  · rw [if_neg (nt hc39)] at hs40
                    refine V_ge rfl rfl rfl hc39 ?_
                    refine V_y (Y_move rfl) rfl rfl rfl ?_
                    refine V_ge rfl rfl rfl hc39 ?_
                    refine V_y (Y_move rfl) rfl rfl rfl ?_
                    refine V_ge rfl rfl rfl hc39 ?_
                    refine V_y (Y_addI rfl rfl) rfl rfl rfl ?_
                    refine V_ge rfl rfl rfl hc39 ?_
                    obtain ⟨x41, hx41, hs40⟩ := Option.bind_eq_some_iff.1 hs40
                    refine V_y (Y_indexS hx41 Tryd.underlying9 rfl rfl) rfl rfl rfl ?_
                    refine V_ge rfl rfl rfl hc39 ?_
                    refine V_call Tryd.call34 rfl rfl rfl rfl (strings_IndexByte_c w (⟨#[125, 58, 124, 123, 92]⟩ : ByteArray) (x41.toNat : Int)) ?_
                    rintro _ _ ⟨rfl, rfl⟩
                    refine V_ge rfl rfl rfl hc39 ?_
                    refine V_y (Y_lss rfl rfl) rfl rfl rfl ?_
                    refine V_y (Y_pick_fe rfl hc39 rfl) rfl rfl rfl ?_
                    obtain rfl := Option.some.inj hs40
                    exact V_end fun a ha => ⟨(), ha.sub ⟨rfl, rfl, rfl, rfl, rfl, trivial⟩, rfl⟩
                simp only [List.take, List.drop]
                rintro _ _ rfl
                refine V_to (fun _ _ => rfl) ?_
                refine C_cond rfl (fun hc42 => ?_) (fun hc42 => ?_)
                · rw [if_pos hc42] at ho32
                  refine C_seq ?_
                  refine C_region ?_
                  refine V_y (Y_move rfl) rfl rfl rfl ?_
                  refine V_y (Y_addI rfl rfl) rfl rfl rfl ?_
                  refine V_y (Y_assign rfl) rfl rfl rfl ?_
                  refine V_y (Y_assign rfl) rfl rfl rfl ?_
                  refine V_y (Y_assign rfl) rfl rfl rfl ?_
                  refine V_to (fun _ _ => rfl) ?_
                  obtain rfl := Option.some.inj ho32
                  rw [Lp.andThen_rt] at ho25
                  obtain rfl := Option.some.inj ho25
                  rw [Lp.andThen_rt] at ho19
                  obtain rfl := Option.some.inj ho19
                  rw [Lp.andThen_rt] at h11
                  obtain rfl := Option.some.inj h11
                  obtain rfl := (h12 : Lp.rt _ = _)
                  rw [Lp.andThen_rt] at hm
                  obtain rfl := Option.some.inj hm
                  refine C_ret ?_
                  try simp only [↓inBlock_ret, ↓then_ret]
                  exact retQ rfl (Res.three Tryd.results35 rfl rfl rfl) ⟨rfl, rfl⟩
                · rw [if_neg (nt hc42)] at ho32
                  refine C_skip_to (fun _ _ => rfl) ?_
                  refine C_seq ?_
                  refine C_region ?_
                  refine V_y (Y_move rfl) rfl rfl rfl ?_
                  refine V_y (Y_addI rfl rfl) rfl rfl rfl ?_
                  refine V_y (Y_assign rfl) rfl rfl rfl ?_
                  refine V_to (fun _ _ => rfl) ?_
                  refine C_region ?_
                  refine V_y (Y_move rfl) rfl rfl rfl ?_
                  refine V_y (Y_move rfl) rfl rfl rfl ?_
                  refine V_y (Y_move rfl) rfl rfl rfl ?_
                  refine V_y (Y_move rfl) rfl rfl rfl ?_
                  refine V_y (Y_addI rfl rfl) rfl rfl rfl ?_
                  obtain ⟨x43, hx43, ho32⟩ := Option.bind_eq_some_iff.1 ho32
                  refine V_y (Y_sliceSLH hx43 Tryd.underlying9 rfl rfl rfl) rfl rfl rfl ?_
                  obtain ⟨x44, hx44, ho32⟩ := Option.bind_eq_some_iff.1 ho32
                  refine V_y (Y_sadd hx44 rfl rfl) rfl rfl rfl ?_
                  refine V_y (Y_assign rfl) rfl rfl rfl ?_
                  obtain rfl := Option.some.inj ho32
                  refine V_end (fun a ha45 => ?_)
                  exact ⟨(w64 (s8.1 + 1), x44), ha45.sub ⟨rfl, rfl, rfl, rfl, trivial⟩, ⟨rfl, rfl⟩⟩
              · rw [if_neg (nt hc38)] at ho32
                refine C_seq ?_
                refine C_region ?_
                refine V_y (Y_move rfl) rfl rfl rfl ?_
                refine V_y (Y_eql rfl rfl) rfl rfl rfl ?_
                refine V_y (Y_move rfl) rfl rfl rfl ?_
                refine V_cut 3 (fun _ : Unit => [(0, .string s), (1, .int .i64 s8.1), (2, .string ends), (9, .string s8.2), (10, .int .u8 (x18.toNat : Int)), (65, .bool (((x18.toNat : Int) == 123) || ((x18.toNat : Int) == 125)))]) (fun _ w' => w = w') ?_ ?_
                · simp only [List.take, List.drop]
                  rcases Bool.eq_false_or_eq_true ((x18.toNat : Int) == 123) with hc46 | hc46
                  · refine V_gn rfl rfl rfl hc46 rfl rfl rfl ?_
                    refine V_gn rfl rfl rfl hc46 rfl rfl rfl ?_
                    refine V_y (Y_pick_te rfl hc46 rfl) rfl rfl rfl ?_
                    exact V_end fun a ha => ⟨(), ha.sub ⟨rfl, rfl, rfl, rfl, rfl, (by rw [hc46]; rfl), trivial⟩, rfl⟩
                  · refine V_ge rfl rfl rfl hc46 ?_
                    refine V_y (Y_move rfl) rfl rfl rfl ?_
                    refine V_ge rfl rfl rfl hc46 ?_
                    refine V_y (Y_eql rfl rfl) rfl rfl rfl ?_
                    refine V_y (Y_pick_fe rfl hc46 rfl) rfl rfl rfl ?_
                    exact V_end fun a ha => ⟨(), ha.sub ⟨rfl, rfl, rfl, rfl, rfl, (by rw [hc46]; rfl), trivial⟩, rfl⟩
                simp only [List.take, List.drop]
                rintro _ _ rfl
                refine V_y (Y_move rfl) rfl rfl rfl ?_
                refine V_cut 3 (fun _ : Unit => [(0, .string s), (1, .int .i64 s8.1), (2, .string ends), (9, .string s8.2), (69, .bool ((((x18.toNat : Int) == 123) || ((x18.toNat : Int) == 125)) || ((x18.toNat : Int) == 10)))]) (fun _ w' => w = w') ?_ ?_
                · simp only [List.take, List.drop]
                  rcases Bool.eq_false_or_eq_true ((((x18.toNat : Int) == 123) || ((x18.toNat : Int) == 125))) with hc48 | hc48
                  · refine V_gn rfl rfl rfl hc48 rfl rfl rfl ?_
                    refine V_gn rfl rfl rfl hc48 rfl rfl rfl ?_
                    refine V_y (Y_pick_te rfl hc48 rfl) rfl rfl rfl ?_
                    exact V_end fun a ha => ⟨(), ha.sub ⟨rfl, rfl, rfl, rfl, (by rw [hc48]; rfl), trivial⟩, rfl⟩
                  · refine V_ge rfl rfl rfl hc48 ?_
                    refine V_y (Y_move rfl) rfl rfl rfl ?_
                    refine V_ge rfl rfl rfl hc48 ?_
                    refine V_y (Y_eql rfl rfl) rfl rfl rfl ?_
                    refine V_y (Y_pick_fe rfl hc48 rfl) rfl rfl rfl ?_
                    exact V_end fun a ha => ⟨(), ha.sub ⟨rfl, rfl, rfl, rfl, (by rw [hc48]; rfl), trivial⟩, rfl⟩
                simp only [List.take, List.drop]
                rintro _ _ rfl
                refine V_y (Y_assign rfl) rfl rfl rfl ?_
                refine V_to (fun _ _ => rfl) ?_
                refine C_cond rfl (fun hc50 => ?_) (fun hc50 => ?_)
                · rw [if_pos hc50] at ho32
                  refine C_seq ?_
                  refine C_region ?_
                  refine V_y (Y_move rfl) rfl rfl rfl ?_
                  refine V_y (Y_assign rfl) rfl rfl rfl ?_
                  refine V_y (Y_assign rfl) rfl rfl rfl ?_
                  refine V_y (Y_assign rfl) rfl rfl rfl ?_
                  refine V_to (fun _ _ => rfl) ?_
                  obtain rfl := Option.some.inj ho32
                  rw [Lp.andThen_rt] at ho25
                  obtain rfl := Option.some.inj ho25
                  rw [Lp.andThen_rt] at ho19
                  obtain rfl := Option.some.inj ho19
                  rw [Lp.andThen_rt] at h11
                  obtain rfl := Option.some.inj h11
                  obtain rfl := (h12 : Lp.rt _ = _)
                  rw [Lp.andThen_rt] at hm
                  obtain rfl := Option.some.inj hm
                  refine C_ret ?_
                  try simp only [↓inBlock_ret, ↓then_ret]
                  exact retQ rfl (Res.three Tryd.results35 rfl rfl rfl) ⟨rfl, rfl⟩
                · rw [if_neg (nt hc50)] at ho32
                  refine C_region ?_
                  refine V_y (Y_move rfl) rfl rfl rfl ?_
                  refine V_y (Y_move rfl) rfl rfl rfl ?_
                  refine V_y (Y_move rfl) rfl rfl rfl ?_
                  refine V_y (Y_move rfl) rfl rfl rfl ?_
                  refine V_y (Y_addI rfl rfl) rfl rfl rfl ?_
                  obtain ⟨x51, hx51, ho32⟩ := Option.bind_eq_some_iff.1 ho32
                  refine V_y (Y_sliceSLH hx51 Tryd.underlying9 rfl rfl rfl) rfl rfl rfl ?_
                  obtain ⟨x52, hx52, ho32⟩ := Option.bind_eq_some_iff.1 ho32
                  refine V_y (Y_sadd hx52 rfl rfl) rfl rfl rfl ?_
                  refine V_y (Y_assign rfl) rfl rfl rfl ?_
                  obtain rfl := Option.some.inj ho32
                  refine V_end (fun a ha53 => ?_)
                  exact ⟨(s8.1, x52), ha53.sub ⟨rfl, rfl, rfl, rfl, trivial⟩, ⟨rfl, rfl⟩⟩
            rintro s33 _ ⟨rfl, rfl⟩ a ha37
            rw [Lp.andThen_fin] at ho25
            obtain rfl := Option.some.inj ho25
            exact ⟨(s33.1, s33.2), ha37.sub ⟨rfl, rfl, rfl, rfl, trivial⟩, ⟨rfl, rfl⟩⟩
        rintro s26 _ ⟨rfl, rfl⟩ a ha30
        rw [Lp.andThen_fin] at ho19
        obtain rfl := Option.some.inj ho19
        exact ⟨(s26.1, s26.2), ha30.sub ⟨rfl, rfl, rfl, rfl, trivial⟩, ⟨rfl, rfl⟩⟩
      rintro s20 _ ⟨rfl, rfl⟩ a ha24
      rw [Lp.andThen_fin] at h11
      refine C_at (n := ⟨74, [], none⟩) (fun _ _ => rfl) ?_ ha24
      refine C_region ?_
      refine V_y (Y_move rfl) rfl rfl rfl ?_
      refine V_y (Y_addI rfl rfl) rfl rfl rfl ?_
      refine V_y (Y_assign rfl) rfl rfl rfl ?_
      obtain rfl := Option.some.inj h11
      refine V_end (fun a ha56 => ?_)
      exact ⟨(w64 (s20.1 + 1), s20.2), h12, ⟨(), ha56.sub ⟨rfl, rfl, rfl, rfl, trivial⟩, rfl⟩⟩
    · rw [if_neg (nt hc17)] at h11
      obtain rfl := Option.some.inj h11
      refine C_exit (fun a ha57 => ?_)
      exact ⟨(s8.1, s8.2), ha57.sub ⟨rfl, trivial⟩, ⟨h12.symm, rfl⟩⟩
  rintro s2 _ ⟨rfl, rfl⟩ a ha7
  rw [Lp.andThen_fin] at hm
  refine C_at (n := ⟨74, [], none⟩) (fun _ _ => rfl) ?_ ha7
  refine C_seq ?_
  refine C_region ?_
  refine V_y (Y_move rfl) rfl rfl rfl ?_
  refine V_y (Y_assign rfl) rfl rfl rfl ?_
  refine V_y (Y_assign rfl) rfl rfl rfl ?_
  refine V_y (Y_assign rfl) rfl rfl rfl ?_
  refine V_to (fun _ _ => rfl) ?_
  obtain rfl := Option.some.inj hm
  refine C_ret ?_
  try simp only [↓inBlock_ret, ↓then_ret]
  exact retQ rfl (Res.three Tryd.results35 rfl rfl rfl) ⟨rfl, rfl⟩

set_option maxRecDepth 4000 in
set_option maxHeartbeats 4000000 in
theorem portref2_templateOf_c (w : World) {A : Nat → Prop} (hA : ∀ b, w.heap.size ≤ b → A b) (s : ByteArray) {r : ((List portref2_piece) × Int × Bool)} (hm : portref2_templateOf s = some r) : Ret Tryd.prog 24 #[.string s] w fun v w' => ∃ s0, v = .tuple #[s0, .int .i64 r.2.1, .bool r.2.2] ∧ Ownd 54 w w' s0 r.1 ∧ Kp Dw w w' := by
  unfold portref2_templateOf at hm
  refine enter Tryd.func24 rfl Tryd.ntmps24 rfl ?_
  have hA0 := hA
  have hB := Nat.le_refl w.heap.size
  have hK : Tr Dw w.heap.size A w A w := Tr.refl (Dw := Dw) hA
  have hH : Hp w.heap.size A w [] := Hp.nil
  refine C_seq ?_
  refine C_region ?_
  refine V_y (Y_assign rfl) rfl rfl rfl ?_
  refine V_y (Y_assign rfl) rfl rfl rfl ?_
  refine V_y (Y_assign rfl) rfl rfl rfl ?_
  refine V_to (fun _ _ => rfl) ?_
  refine C_seq ?_
  refine C_region ?_
  refine V_y (Y_assign rfl) rfl rfl rfl ?_
  refine V_to (fun _ _ => rfl) ?_
  refine C_seq ?_
  refine C_region ?_
  refine V_y (Y_assign rfl) rfl rfl rfl ?_
  refine V_to (fun _ _ => rfl) ?_
  refine C_seq ?_
  replace hH : Hp w.heap.size A w (obS (α := portref2_piece) 54 (.slice none 0 0) ([] : (List portref2_piece)) :: []) := Hp.addNil (α := portref2_piece) (e := 54) hH
  obtain ⟨o1, ho1, hm⟩ := Option.bind_eq_some_iff.1 hm
  refine C_cutG (ι := (((List portref2_piece) × Int × ByteArray) × Value × (Nat → Prop))) (fun ⟨s2, v8, A10⟩ => [(2, v8), (6, .string s2.2.2)]) (fun ⟨s2, v8, A10⟩ => fun w' => o1 = .fin s2 ∧ Hp w.heap.size A10 w' (obS (α := portref2_piece) 54 v8 s2.1 :: []) ∧ Tr Dw w.heap.size A w A10 w') ?_ ?_
  · refine C_block ?_
    refine C_while ho1 (fun s12 a w' => ∃ i : (Value × (Nat → Prop)), Has ⟨220, [], none⟩ a ([(0, .string s), (2, i.1), (5, .int .i64 s12.2.1), (6, .string s12.2.2)]) ∧ Hp w.heap.size i.2 w' (obS (α := portref2_piece) 54 i.1 s12.1 :: []) ∧ Tr Dw w.heap.size A w i.2 w') (fun a ha => ⟨(.slice none 0 0, A), ha.sub ⟨rfl, rfl, rfl, rfl, trivial⟩, ⟨hH, Tr.refl (Dw := Dw) hA⟩⟩) ?_
    rintro K s12 a w13 ⟨⟨v14, A16⟩, ha209, hH17, hr3⟩ K24
    refine C_of ?_ ha209
    replace hK := Tr.trans (Dw := Dw) hK hr3
    replace hB := Nat.le_trans hB hr3.ex.size
    replace hA := hr3.new
    replace hH : Hp w.heap.size A16 w13 (obS (α := portref2_piece) 54 v14 s12.1 :: []) := hH17
    obtain ⟨x18, h19, h20⟩ := K24
    refine C_seq ?_
    refine C_seq ?_
    refine C_region ?_
    refine V_y (Y_move rfl) rfl rfl rfl ?_
    refine V_y (Y_move rfl) rfl rfl rfl ?_
    refine V_y (Y_lenStr rfl Tryd.underlying9 rfl) rfl rfl rfl ?_
    refine V_y (Y_lss rfl rfl) rfl rfl rfl ?_
    refine V_to (fun _ _ => rfl) ?_
    refine C_cond rfl (fun hc25 => ?_) (fun hc25 => ?_)
    · rw [if_pos hc25] at h19
      refine C_skip_to (fun _ _ => rfl) ?_
      obtain ⟨o26, ho26, h19⟩ := Option.bind_eq_some_iff.1 h19
      refine C_cutG (ι := (((List portref2_piece) × Int × ByteArray) × Value × (Nat → Prop))) (fun ⟨s27, v29, A34⟩ => [(0, .string s), (2, v29), (5, .int .i64 s27.2.1), (6, .string s27.2.2)]) (fun ⟨s27, v29, A34⟩ => fun w' => o26 = .fin s27 ∧ Hp w.heap.size A34 w' (obS (α := portref2_piece) 54 v29 s27.1 :: []) ∧ Tr Dw w.heap.size A16 w13 A34 w') ?_ ?_
      · have hr28 : Tr Dw w.heap.size A16 w13 A16 w13 := Tr.refl (Dw := Dw) hA
        refine C_block ?_
        obtain ⟨o36, ho36, ho26⟩ := Option.bind_eq_some_iff.1 ho26
        refine C_cutG (ι := (((List portref2_piece) × Int × ByteArray) × Value × (Nat → Prop))) (fun ⟨s37, v39, A44⟩ => [(0, .string s), (2, v39), (5, .int .i64 s37.2.1), (6, .string s37.2.2)]) (fun ⟨s37, v39, A44⟩ => fun w' => o36 = .fin s37 ∧ Hp w.heap.size A44 w' (obS (α := portref2_piece) 54 v39 s37.1 :: []) ∧ Tr Dw w.heap.size A16 w13 A44 w') ?_ ?_
        · have hr38 : Tr Dw w.heap.size A16 w13 A16 w13 := Tr.refl (Dw := Dw) hA
          refine C_block ?_
          refine C_seq ?_
          refine C_region ?_
          refine V_y (Y_move rfl) rfl rfl rfl ?_
          refine V_y (Y_move rfl) rfl rfl rfl ?_
          obtain ⟨x46, hx46, ho36⟩ := Option.bind_eq_some_iff.1 ho36
          refine V_y (Y_indexS hx46 Tryd.underlying9 rfl rfl) rfl rfl rfl ?_
          refine V_y (Y_eql rfl rfl) rfl rfl rfl ?_
          refine V_y (Y_assign rfl) rfl rfl rfl ?_
          refine V_to (fun _ _ => rfl) ?_
          obtain ⟨o47, ho47, ho36⟩ := Option.bind_eq_some_iff.1 ho36
          refine C_cutG (ι := (((List portref2_piece) × Int × ByteArray) × Value × (Nat → Prop))) (fun ⟨s48, v50, A55⟩ => [(0, .string s), (2, v50), (5, .int .i64 s48.2.1), (6, .string s48.2.2)]) (fun ⟨s48, v50, A55⟩ => fun w' => o47 = .fin s48 ∧ Hp w.heap.size A55 w' (obS (α := portref2_piece) 54 v50 s48.1 :: []) ∧ Tr Dw w.heap.size A16 w13 A55 w') ?_ ?_
          · have hr49 : Tr Dw w.heap.size A16 w13 A16 w13 := Tr.refl (Dw := Dw) hA
            refine C_cond rfl (fun hc57 => ?_) (fun hc57 => ?_)
            · rw [if_pos hc57] at ho47
              refine C_seq ?_
              refine C_seq ?_
              refine C_region ?_
              refine V_y (Y_move rfl) rfl rfl rfl ?_
              refine V_y (Y_addI rfl rfl) rfl rfl rfl ?_
              refine V_y (Y_move rfl) rfl rfl rfl ?_
              refine V_y (Y_lenStr rfl Tryd.underlying9 rfl) rfl rfl rfl ?_
              refine V_y (Y_eql rfl rfl) rfl rfl rfl ?_
              refine V_y (Y_move rfl) rfl rfl rfl ?_
              obtain ⟨s59, hs59, ho47⟩ := Option.bind_eq_some_iff.1 ho47
              refine V_cut 13 (fun _ : Unit => [(0, .string s), (2, v14), (5, .int .i64 s12.2.1), (6, .string s12.2.2), (188, .bool s59)]) (fun _ w' => w13 = w') ?_ ?_
              · simp only [List.take, List.drop]
                rcases Bool.eq_false_or_eq_true ((w64 (s12.2.1 + 1)) == (s.size : Int)) with hc58 | hc58
                · rw [if_pos hc58] at hs59
                  refine V_gn rfl rfl rfl hc58 rfl rfl rfl ?_
                  refine V_gn rfl rfl rfl hc58 rfl rfl rfl ?_
                  refine V_gn rfl rfl rfl hc58 rfl rfl rfl ?_
                  refine V_gn rfl rfl rfl hc58 rfl rfl rfl ?_
                  refine V_gn rfl rfl rfl hc58 rfl rfl rfl ?_
                  refine V_gn rfl rfl rfl hc58 rfl rfl rfl ?_
                  refine V_gu rfl rfl rfl rfl rfl ?_
                  refine V_gu rfl rfl rfl rfl rfl ?_
                  refine V_gu rfl rfl rfl rfl rfl ?_
                  refine V_gu rfl rfl rfl rfl rfl ?_
                  refine V_gu rfl rfl rfl rfl rfl ?_
                  refine V_gn rfl rfl rfl hc58 rfl rfl rfl ?_
                  refine V_y (Y_pick_te rfl hc58 rfl) rfl rfl rfl ?_
                  obtain rfl := Option.some.inj hs59
                  exact V_end fun a ha => ⟨(), ha.sub ⟨rfl, rfl, rfl, rfl, rfl, trivial⟩, rfl⟩
                · rw [if_neg (nt hc58)] at hs59
                  refine V_ge rfl rfl rfl hc58 ?_
                  refine V_y (Y_move rfl) rfl rfl rfl ?_
                  refine V_ge rfl rfl rfl hc58 ?_
                  refine V_y (Y_move rfl) rfl rfl rfl ?_
                  refine V_ge rfl rfl rfl hc58 ?_
                  refine V_y (Y_addI rfl rfl) rfl rfl rfl ?_
                  refine V_ge rfl rfl rfl hc58 ?_
                  obtain ⟨x60, hx60, hs59⟩ := Option.bind_eq_some_iff.1 hs59
                  refine V_y (Y_indexS hx60 Tryd.underlying9 rfl rfl) rfl rfl rfl ?_
                  refine V_ge rfl rfl rfl hc58 ?_
                  refine V_y (Y_neq rfl rfl) rfl rfl rfl ?_
                  refine V_ge rfl rfl rfl hc58 ?_
                  refine V_y (Y_move rfl) rfl rfl rfl ?_
                  obtain ⟨s62, hs62, hs59⟩ := Option.bind_eq_some_iff.1 hs59
                  refine V_cut 6 (fun _ : Unit => [(0, .string s), (2, v14), (5, .int .i64 s12.2.1), (6, .string s12.2.2), (175, .bool ((w64 (s12.2.1 + 1)) == (s.size : Int))), (187, .bool s62)]) (fun _ w' => w13 = w') ?_ ?_
                  · simp only [List.take, List.drop]
                    rcases Bool.eq_false_or_eq_true ((x60.toNat : Int) != 123) with hc61 | hc61
                    · rw [if_pos hc61] at hs62
                      refine V_ge rfl rfl rfl hc61 ?_
                      refine V_y (Y_move rfl) rfl rfl rfl ?_
                      refine V_ge rfl rfl rfl hc61 ?_
                      refine V_y (Y_move rfl) rfl rfl rfl ?_
                      refine V_ge rfl rfl rfl hc61 ?_
                      refine V_y (Y_addI rfl rfl) rfl rfl rfl ?_
                      refine V_ge rfl rfl rfl hc61 ?_
                      refine V_y (Y_indexS hx60 Tryd.underlying9 rfl rfl) rfl rfl rfl ?_
                      refine V_ge rfl rfl rfl hc61 ?_
                      refine V_y (Y_neq rfl rfl) rfl rfl rfl ?_
                      refine V_ge rfl rfl rfl hc58 ?_
                      refine V_y (Y_pick_te rfl hc61 rfl) rfl rfl rfl ?_
                      obtain rfl := Option.some.inj hs62
                      exact V_end fun a ha => ⟨(), ha.sub ⟨rfl, rfl, rfl, rfl, rfl, rfl, trivial⟩, rfl⟩
                    · rw [if_neg (nt hc61)] at hs62
                      refine V_gn rfl rfl rfl hc61 rfl rfl rfl ?_
                      refine V_gn rfl rfl rfl hc61 rfl rfl rfl ?_
                      refine V_gn rfl rfl rfl hc61 rfl rfl rfl ?_
                      refine V_gn rfl rfl rfl hc61 rfl rfl rfl ?_
                      refine V_gn rfl rfl rfl hc61 rfl rfl rfl ?_
                      refine V_ge rfl rfl rfl hc58 ?_
                      refine V_y (Y_pick_fe rfl hc61 rfl) rfl rfl rfl ?_
                      obtain rfl := Option.some.inj hs62
                      exact V_end fun a ha => ⟨(), ha.sub ⟨rfl, rfl, rfl, rfl, rfl, rfl, trivial⟩, rfl⟩
                  simp only [List.take, List.drop]
                  rintro _ _ rfl
                  refine V_y (Y_pick_fe rfl hc58 rfl) rfl rfl rfl ?_
                  obtain rfl := Option.some.inj hs59
                  exact V_end fun a ha => ⟨(), ha.sub ⟨rfl, rfl, rfl, rfl, rfl, trivial⟩, rfl⟩
              simp only [List.take, List.drop]
              rintro _ _ rfl
              refine V_to (fun _ _ => rfl) ?_
              refine C_cond rfl (fun hc63 => ?_) (fun hc63 => ?_)
              · rw [if_pos hc63] at ho47
                refine C_seq ?_
                refine C_region ?_
                refine V_y (Y_move rfl) rfl rfl rfl ?_
                refine V_y (Y_addI rfl rfl) rfl rfl rfl ?_
                refine V_y (Y_assign rfl) rfl rfl rfl ?_
                refine V_y (Y_assign rfl) rfl rfl rfl ?_
                refine V_y (Y_assign rfl) rfl rfl rfl ?_
                refine V_to (fun _ _ => rfl) ?_
                obtain rfl := Option.some.inj ho47
                rw [Lp.andThen_rt] at ho36
                obtain rfl := Option.some.inj ho36
                rw [Lp.andThen_rt] at ho26
                obtain rfl := Option.some.inj ho26
                rw [Lp.andThen_rt] at h19
                obtain rfl := Option.some.inj h19
                obtain rfl := (h20 : Lp.rt _ = _)
                rw [Lp.andThen_rt] at hm
                obtain rfl := Option.some.inj hm
                replace hH : Hp w.heap.size A16 w13 (obS (α := portref2_piece) 54 (.slice none 0 0) ([] : (List portref2_piece)) :: obS (α := portref2_piece) 54 v14 s12.1 :: []) := Hp.addNil (α := portref2_piece) (e := 54) hH
                refine C_ret ?_
                try simp only [↓inBlock_ret, ↓then_ret]
                exact retQ rfl (Res.three Tryd.results24 rfl rfl rfl) ⟨.slice none 0 0, rfl, (Hp.ownd hH (i := 0) rfl), hK.kp⟩
              · rw [if_neg (nt hc63)] at ho47
                refine C_skip_to (fun _ _ => rfl) ?_
                refine C_seq ?_
                refine C_region ?_
                refine V_y (Y_move rfl) rfl rfl rfl ?_
                refine V_y (Y_move rfl) rfl rfl rfl ?_
                refine V_y (Y_move rfl) rfl rfl rfl ?_
                refine V_y (Y_addI rfl rfl) rfl rfl rfl ?_
                refine V_y (Y_move rfl) rfl rfl rfl ?_
                refine V_y (Y_addI rfl rfl) rfl rfl rfl ?_
                obtain ⟨x64, hx64, ho47⟩ := Option.bind_eq_some_iff.1 ho47
                refine V_y (Y_sliceSLH hx64 Tryd.underlying9 rfl rfl rfl) rfl rfl rfl ?_
                obtain ⟨x65, hx65, ho47⟩ := Option.bind_eq_some_iff.1 ho47
                refine V_y (Y_sadd hx65 rfl rfl) rfl rfl rfl ?_
                refine V_y (Y_assign rfl) rfl rfl rfl ?_
                refine V_to (fun _ _ => rfl) ?_
                refine C_region ?_
                refine V_y (Y_move rfl) rfl rfl rfl ?_
                refine V_y (Y_addI rfl rfl) rfl rfl rfl ?_
                refine V_y (Y_assign rfl) rfl rfl rfl ?_
                obtain rfl := Option.some.inj ho47
                refine V_end (fun a ha66 => ?_)
                exact ⟨((s12.1, w64 (s12.2.1 + 2), x65), v14, A16), ha66.sub ⟨rfl, rfl, rfl, rfl, trivial⟩, ⟨rfl, hH, hr49⟩⟩
            · rw [if_neg (nt hc57)] at ho47
              refine C_seq ?_
              refine C_region ?_
              refine V_y (Y_move rfl) rfl rfl rfl ?_
              refine V_y (Y_move rfl) rfl rfl rfl ?_
              refine V_y (Y_indexS hx46 Tryd.underlying9 rfl rfl) rfl rfl rfl ?_
              refine V_y (Y_neq rfl rfl) rfl rfl rfl ?_
              refine V_y (Y_assign rfl) rfl rfl rfl ?_
              refine V_to (fun _ _ => rfl) ?_
              obtain ⟨o67, ho67, ho47⟩ := Option.bind_eq_some_iff.1 ho47
              refine C_cutG (ι := (((List portref2_piece) × Int × ByteArray) × Value × (Nat → Prop))) (fun ⟨s68, v70, A75⟩ => [(0, .string s), (2, v70), (5, .int .i64 s68.2.1), (6, .string s68.2.2)]) (fun ⟨s68, v70, A75⟩ => fun w' => o67 = .fin s68 ∧ Hp w.heap.size A75 w' (obS (α := portref2_piece) 54 v70 s68.1 :: []) ∧ Tr Dw w.heap.size A16 w13 A75 w') ?_ ?_
              · have hr69 : Tr Dw w.heap.size A16 w13 A16 w13 := Tr.refl (Dw := Dw) hA
                refine C_cond rfl (fun hc77 => ?_) (fun hc77 => ?_)
                · rw [if_pos hc77] at ho67
                  refine C_seq ?_
                  refine C_region ?_
                  refine V_y (Y_move rfl) rfl rfl rfl ?_
                  refine V_y (Y_move rfl) rfl rfl rfl ?_
                  refine V_y (Y_move rfl) rfl rfl rfl ?_
                  refine V_y (Y_move rfl) rfl rfl rfl ?_
                  refine V_y (Y_addI rfl rfl) rfl rfl rfl ?_
                  obtain ⟨x78, hx78, ho67⟩ := Option.bind_eq_some_iff.1 ho67
                  refine V_y (Y_sliceSLH hx78 Tryd.underlying9 rfl rfl rfl) rfl rfl rfl ?_
                  obtain ⟨x79, hx79, ho67⟩ := Option.bind_eq_some_iff.1 ho67
                  refine V_y (Y_sadd hx79 rfl rfl) rfl rfl rfl ?_
                  refine V_y (Y_assign rfl) rfl rfl rfl ?_
                  refine V_to (fun _ _ => rfl) ?_
                  refine C_region ?_
                  refine V_y (Y_move rfl) rfl rfl rfl ?_
                  refine V_y (Y_addI rfl rfl) rfl rfl rfl ?_
                  refine V_y (Y_assign rfl) rfl rfl rfl ?_
                  obtain rfl := Option.some.inj ho67
                  refine V_end (fun a ha80 => ?_)
                  exact ⟨((s12.1, w64 (s12.2.1 + 1), x79), v14, A16), ha80.sub ⟨rfl, rfl, rfl, rfl, trivial⟩, ⟨rfl, hH, hr69⟩⟩
                · rw [if_neg (nt hc77)] at ho67
                  refine C_seq ?_
                  refine C_seq ?_
                  refine C_region ?_
                  refine V_y (Y_move rfl) rfl rfl rfl ?_
                  refine V_y (Y_addI rfl rfl) rfl rfl rfl ?_
                  refine V_y (Y_move rfl) rfl rfl rfl ?_
                  refine V_y (Y_lenStr rfl Tryd.underlying9 rfl) rfl rfl rfl ?_
                  refine V_y (Y_eql rfl rfl) rfl rfl rfl ?_
                  refine V_y (Y_move rfl) rfl rfl rfl ?_
                  obtain ⟨s82, hs82, ho67⟩ := Option.bind_eq_some_iff.1 ho67
                  refine V_cut 6 (fun _ : Unit => [(0, .string s), (2, v14), (5, .int .i64 s12.2.1), (6, .string s12.2.2), (24, .bool s82)]) (fun _ w' => w13 = w') ?_ ?_
                  · simp only [List.take, List.drop]
                    rcases Bool.eq_false_or_eq_true ((w64 (s12.2.1 + 1)) == (s.size : Int)) with hc81 | hc81
                    · rw [if_pos hc81] at hs82
                      refine V_gn rfl rfl rfl hc81 rfl rfl rfl ?_
                      refine V_gn rfl rfl rfl hc81 rfl rfl rfl ?_
                      refine V_gn rfl rfl rfl hc81 rfl rfl rfl ?_
                      refine V_gn rfl rfl rfl hc81 rfl rfl rfl ?_
                      refine V_gn rfl rfl rfl hc81 rfl rfl rfl ?_
                      refine V_y (Y_pick_te rfl hc81 rfl) rfl rfl rfl ?_
                      obtain rfl := Option.some.inj hs82
                      exact V_end fun a ha => ⟨(), ha.sub ⟨rfl, rfl, rfl, rfl, rfl, trivial⟩, rfl⟩
                    · rw [if_neg (nt hc81)] at hs82
                      refine V_ge rfl rfl rfl hc81 ?_
                      refine V_y (Y_move rfl) rfl rfl rfl ?_
                      refine V_ge rfl rfl rfl hc81 ?_
                      refine V_y (Y_move rfl) rfl rfl rfl ?_
                      refine V_ge rfl rfl rfl hc81 ?_
                      refine V_y (Y_addI rfl rfl) rfl rfl rfl ?_
                      refine V_ge rfl rfl rfl hc81 ?_
                      obtain ⟨x83, hx83, hs82⟩ := Option.bind_eq_some_iff.1 hs82
                      refine V_y (Y_indexS hx83 Tryd.underlying9 rfl rfl) rfl rfl rfl ?_
                      refine V_ge rfl rfl rfl hc81 ?_
                      refine V_y (Y_neq rfl rfl) rfl rfl rfl ?_
                      refine V_y (Y_pick_fe rfl hc81 rfl) rfl rfl rfl ?_
                      obtain rfl := Option.some.inj hs82
                      exact V_end fun a ha => ⟨(), ha.sub ⟨rfl, rfl, rfl, rfl, rfl, trivial⟩, rfl⟩
                  simp only [List.take, List.drop]
                  rintro _ _ rfl
                  refine V_to (fun _ _ => rfl) ?_
                  refine C_cond rfl (fun hc84 => ?_) (fun hc84 => ?_)
                  · rw [if_pos hc84] at ho67
                    refine C_seq ?_
                    refine C_region ?_
                    refine V_y (Y_move rfl) rfl rfl rfl ?_
                    refine V_y (Y_addI rfl rfl) rfl rfl rfl ?_
                    refine V_y (Y_assign rfl) rfl rfl rfl ?_
                    refine V_y (Y_assign rfl) rfl rfl rfl ?_
                    refine V_y (Y_assign rfl) rfl rfl rfl ?_
                    refine V_to (fun _ _ => rfl) ?_
                    obtain rfl := Option.some.inj ho67
                    rw [Lp.andThen_rt] at ho47
                    obtain rfl := Option.some.inj ho47
                    rw [Lp.andThen_rt] at ho36
                    obtain rfl := Option.some.inj ho36
                    rw [Lp.andThen_rt] at ho26
                    obtain rfl := Option.some.inj ho26
                    rw [Lp.andThen_rt] at h19
                    obtain rfl := Option.some.inj h19
                    obtain rfl := (h20 : Lp.rt _ = _)
                    rw [Lp.andThen_rt] at hm
                    obtain rfl := Option.some.inj hm
                    replace hH : Hp w.heap.size A16 w13 (obS (α := portref2_piece) 54 (.slice none 0 0) ([] : (List portref2_piece)) :: obS (α := portref2_piece) 54 v14 s12.1 :: []) := Hp.addNil (α := portref2_piece) (e := 54) hH
                    refine C_ret ?_
                    try simp only [↓inBlock_ret, ↓then_ret]
                    exact retQ rfl (Res.three Tryd.results24 rfl rfl rfl) ⟨.slice none 0 0, rfl, (Hp.ownd hH (i := 0) rfl), hK.kp⟩
                  · rw [if_neg (nt hc84)] at ho67
                    refine C_skip_to (fun _ _ => rfl) ?_
                    refine C_seq ?_
                    refine C_region ?_
                    refine V_y (Y_move rfl) rfl rfl rfl ?_
                    refine V_y (Y_addI rfl rfl) rfl rfl rfl ?_
                    refine V_y (Y_assign rfl) rfl rfl rfl ?_
                    refine V_to (fun _ _ => rfl) ?_
                    refine C_seq ?_
                    obtain ⟨o85, ho85, ho67⟩ := Option.bind_eq_some_iff.1 ho67
                    refine C_cutG (ι := Int) (fun (s86 : Int) => [(0, .string s), (2, v14), (5, .int .i64 s12.2.1), (6, .string s12.2.2), (7, .int .i64 s86)]) (fun (s86 : Int) => fun w' => o85 = .fin s86 ∧ w13 = w') ?_ ?_
                    · refine C_block ?_
                      refine C_while ho85 (fun s92 a w' => ∃ i : Unit, Has ⟨220, [], none⟩ a ([(0, .string s), (2, v14), (5, .int .i64 s12.2.1), (6, .string s12.2.2), (7, .int .i64 s92)]) ∧ w13 = w') (fun a ha => ⟨(), ha.sub ⟨rfl, rfl, rfl, rfl, rfl, trivial⟩, rfl⟩) ?_
                      rintro K s92 a _ ⟨_, ha117, rfl⟩ K100
                      refine C_of ?_ ha117
                      obtain ⟨x94, h95, h96⟩ := K100
                      refine C_seq ?_
                      refine C_seq ?_
                      refine C_region ?_
                      refine V_y (Y_move rfl) rfl rfl rfl ?_
                      refine V_y (Y_move rfl) rfl rfl rfl ?_
                      refine V_y (Y_lenStr rfl Tryd.underlying9 rfl) rfl rfl rfl ?_
                      refine V_y (Y_lss rfl rfl) rfl rfl rfl ?_
                      refine V_y (Y_move rfl) rfl rfl rfl ?_
                      refine V_cut 6 (fun _ : Unit => [(0, .string s), (2, v14), (5, .int .i64 s12.2.1), (6, .string s12.2.2), (7, .int .i64 s92), (39, .bool ((decide (s92 < (s.size : Int))) && (decide ((w64 ((w64 (s92 - s12.2.1)) - 2)) < 20))))]) (fun _ w' => w13 = w') ?_ ?_
                      · simp only [List.take, List.drop]
                        rcases Bool.eq_false_or_eq_true (decide (s92 < (s.size : Int))) with hc101 | hc101
                        · refine V_ge rfl rfl rfl hc101 ?_
                          refine V_y (Y_move rfl) rfl rfl rfl ?_
                          refine V_ge rfl rfl rfl hc101 ?_
                          refine V_y (Y_move rfl) rfl rfl rfl ?_
                          refine V_ge rfl rfl rfl hc101 ?_
                          refine V_y (Y_subI rfl rfl) rfl rfl rfl ?_
                          refine V_ge rfl rfl rfl hc101 ?_
                          refine V_y (Y_subI rfl rfl) rfl rfl rfl ?_
                          refine V_ge rfl rfl rfl hc101 ?_
                          refine V_y (Y_lss rfl rfl) rfl rfl rfl ?_
                          refine V_y (Y_pick_te rfl hc101 rfl) rfl rfl rfl ?_
                          exact V_end fun a ha => ⟨(), ha.sub ⟨rfl, rfl, rfl, rfl, rfl, (by rw [hc101]; rfl), trivial⟩, rfl⟩
                        · refine V_gn rfl rfl rfl hc101 rfl rfl rfl ?_
                          refine V_gn rfl rfl rfl hc101 rfl rfl rfl ?_
                          refine V_gn rfl rfl rfl hc101 rfl rfl rfl ?_
                          refine V_gn rfl rfl rfl hc101 rfl rfl rfl ?_
                          refine V_gn rfl rfl rfl hc101 rfl rfl rfl ?_
                          refine V_y (Y_pick_fe rfl hc101 rfl) rfl rfl rfl ?_
                          exact V_end fun a ha => ⟨(), ha.sub ⟨rfl, rfl, rfl, rfl, rfl, (by rw [hc101]; rfl), trivial⟩, rfl⟩
                      simp only [List.take, List.drop]
                      rintro _ _ rfl
                      refine V_y (Y_move rfl) rfl rfl rfl ?_
                      obtain ⟨s104, hs104, h95⟩ := Option.bind_eq_some_iff.1 h95
                      refine V_cut 29 (fun _ : Unit => [(0, .string s), (2, v14), (5, .int .i64 s12.2.1), (6, .string s12.2.2), (7, .int .i64 s92), (69, .bool s104)]) (fun _ w' => w13 = w') ?_ ?_
                      · simp only [List.take, List.drop]
                        rcases Bool.eq_false_or_eq_true (((decide (s92 < (s.size : Int))) && (decide ((w64 ((w64 (s92 - s12.2.1)) - 2)) < 20)))) with hc103 | hc103
                        · rw [if_pos hc103] at hs104
                          refine V_ge rfl rfl rfl hc103 ?_
                          refine V_y (Y_move rfl) rfl rfl rfl ?_
                          refine V_ge rfl rfl rfl hc103 ?_
                          refine V_y (Y_move rfl) rfl rfl rfl ?_
                          refine V_ge rfl rfl rfl hc103 ?_
                          obtain ⟨x105, hx105, hs104⟩ := Option.bind_eq_some_iff.1 hs104
                          refine V_y (Y_indexS hx105 Tryd.underlying9 rfl rfl) rfl rfl rfl ?_
                          refine V_ge rfl rfl rfl hc103 ?_
                          refine V_y (Y_geq rfl rfl) rfl rfl rfl ?_
                          refine V_ge rfl rfl rfl hc103 ?_
                          refine V_y (Y_move rfl) rfl rfl rfl ?_
                          obtain ⟨s107, hs107, hs104⟩ := Option.bind_eq_some_iff.1 hs104
                          refine V_cut 5 (fun _ : Unit => [(0, .string s), (2, v14), (5, .int .i64 s12.2.1), (6, .string s12.2.2), (7, .int .i64 s92), (40, .bool ((decide (s92 < (s.size : Int))) && (decide ((w64 ((w64 (s92 - s12.2.1)) - 2)) < 20)))), (50, .bool s107)]) (fun _ w' => w13 = w') ?_ ?_
                          · simp only [List.take, List.drop]
                            rcases Bool.eq_false_or_eq_true (decide ((97 : Int) ≤ (x105.toNat : Int))) with hc106 | hc106
                            · rw [if_pos hc106] at hs107
                              refine V_ge rfl rfl rfl hc106 ?_
                              refine V_y (Y_move rfl) rfl rfl rfl ?_
                              refine V_ge rfl rfl rfl hc106 ?_
                              refine V_y (Y_move rfl) rfl rfl rfl ?_
                              refine V_ge rfl rfl rfl hc106 ?_
                              refine V_y (Y_indexS hx105 Tryd.underlying9 rfl rfl) rfl rfl rfl ?_
                              refine V_ge rfl rfl rfl hc106 ?_
                              refine V_y (Y_leq rfl rfl) rfl rfl rfl ?_
                              refine V_ge rfl rfl rfl hc103 ?_
                              refine V_y (Y_pick_te rfl hc106 rfl) rfl rfl rfl ?_
                              obtain rfl := Option.some.inj hs107
                              exact V_end fun a ha => ⟨(), ha.sub ⟨rfl, rfl, rfl, rfl, rfl, rfl, rfl, trivial⟩, rfl⟩
                            · rw [if_neg (nt hc106)] at hs107
                              refine V_gn rfl rfl rfl hc106 rfl rfl rfl ?_
                              refine V_gn rfl rfl rfl hc106 rfl rfl rfl ?_
                              refine V_gn rfl rfl rfl hc106 rfl rfl rfl ?_
                              refine V_gn rfl rfl rfl hc106 rfl rfl rfl ?_
                              refine V_ge rfl rfl rfl hc103 ?_
                              refine V_y (Y_pick_fe rfl hc106 rfl) rfl rfl rfl ?_
                              obtain rfl := Option.some.inj hs107
                              exact V_end fun a ha => ⟨(), ha.sub ⟨rfl, rfl, rfl, rfl, rfl, rfl, rfl, trivial⟩, rfl⟩
                          simp only [List.take, List.drop]
                          rintro _ _ rfl
                          refine V_ge rfl rfl rfl hc103 ?_
                          refine V_y (Y_move rfl) rfl rfl rfl ?_
                          obtain ⟨s109, hs109, hs104⟩ := Option.bind_eq_some_iff.1 hs104
                          refine V_cut 11 (fun _ : Unit => [(0, .string s), (2, v14), (5, .int .i64 s12.2.1), (6, .string s12.2.2), (7, .int .i64 s92), (40, .bool ((decide (s92 < (s.size : Int))) && (decide ((w64 ((w64 (s92 - s12.2.1)) - 2)) < 20)))), (62, .bool s109)]) (fun _ w' => w13 = w') ?_ ?_
                          · simp only [List.take, List.drop]
                            rcases Bool.eq_false_or_eq_true (s107) with hc108 | hc108
                            · rw [if_pos hc108] at hs109
                              refine V_gn rfl rfl rfl hc108 rfl rfl rfl ?_
                              refine V_gn rfl rfl rfl hc108 rfl rfl rfl ?_
                              refine V_gn rfl rfl rfl hc108 rfl rfl rfl ?_
                              refine V_gn rfl rfl rfl hc108 rfl rfl rfl ?_
                              refine V_gn rfl rfl rfl hc108 rfl rfl rfl ?_
                              refine V_gu rfl rfl rfl rfl rfl ?_
                              refine V_gu rfl rfl rfl rfl rfl ?_
                              refine V_gu rfl rfl rfl rfl rfl ?_
                              refine V_gu rfl rfl rfl rfl rfl ?_
                              refine V_gn rfl rfl rfl hc108 rfl rfl rfl ?_
                              refine V_ge rfl rfl rfl hc103 ?_
                              refine V_y (Y_pick_te rfl hc108 rfl) rfl rfl rfl ?_
                              obtain rfl := Option.some.inj hs109
                              exact V_end fun a ha => ⟨(), ha.sub ⟨rfl, rfl, rfl, rfl, rfl, rfl, rfl, trivial⟩, rfl⟩
                            · rw [if_neg (nt hc108)] at hs109
                              refine V_ge rfl rfl rfl hc108 ?_
                              refine V_y (Y_move rfl) rfl rfl rfl ?_
                              refine V_ge rfl rfl rfl hc108 ?_
                              refine V_y (Y_move rfl) rfl rfl rfl ?_
                              refine V_ge rfl rfl rfl hc108 ?_
                              refine V_y (Y_indexS hx105 Tryd.underlying9 rfl rfl) rfl rfl rfl ?_
                              refine V_ge rfl rfl rfl hc108 ?_
                              refine V_y (Y_geq rfl rfl) rfl rfl rfl ?_
                              refine V_ge rfl rfl rfl hc108 ?_
                              refine V_y (Y_move rfl) rfl rfl rfl ?_
                              obtain ⟨s111, hs111, hs109⟩ := Option.bind_eq_some_iff.1 hs109
                              refine V_cut 5 (fun _ : Unit => [(0, .string s), (2, v14), (5, .int .i64 s12.2.1), (6, .string s12.2.2), (7, .int .i64 s92), (40, .bool ((decide (s92 < (s.size : Int))) && (decide ((w64 ((w64 (s92 - s12.2.1)) - 2)) < 20)))), (51, .bool s107), (61, .bool s111)]) (fun _ w' => w13 = w') ?_ ?_
                              · simp only [List.take, List.drop]
                                rcases Bool.eq_false_or_eq_true (decide ((48 : Int) ≤ (x105.toNat : Int))) with hc110 | hc110
                                · rw [if_pos hc110] at hs111
                                  refine V_ge rfl rfl rfl hc110 ?_
                                  refine V_y (Y_move rfl) rfl rfl rfl ?_
                                  refine V_ge rfl rfl rfl hc110 ?_
                                  refine V_y (Y_move rfl) rfl rfl rfl ?_
                                  refine V_ge rfl rfl rfl hc110 ?_
                                  refine V_y (Y_indexS hx105 Tryd.underlying9 rfl rfl) rfl rfl rfl ?_
                                  refine V_ge rfl rfl rfl hc110 ?_
                                  refine V_y (Y_leq rfl rfl) rfl rfl rfl ?_
                                  refine V_ge rfl rfl rfl hc108 ?_
                                  refine V_y (Y_pick_te rfl hc110 rfl) rfl rfl rfl ?_
                                  obtain rfl := Option.some.inj hs111
                                  exact V_end fun a ha => ⟨(), ha.sub ⟨rfl, rfl, rfl, rfl, rfl, rfl, rfl, rfl, trivial⟩, rfl⟩
                                · rw [if_neg (nt hc110)] at hs111
                                  refine V_gn rfl rfl rfl hc110 rfl rfl rfl ?_
                                  refine V_gn rfl rfl rfl hc110 rfl rfl rfl ?_
                                  refine V_gn rfl rfl rfl hc110 rfl rfl rfl ?_
                                  refine V_gn rfl rfl rfl hc110 rfl rfl rfl ?_
                                  refine V_ge rfl rfl rfl hc108 ?_
                                  refine V_y (Y_pick_fe rfl hc110 rfl) rfl rfl rfl ?_
                                  obtain rfl := Option.some.inj hs111
                                  exact V_end fun a ha => ⟨(), ha.sub ⟨rfl, rfl, rfl, rfl, rfl, rfl, rfl, rfl, trivial⟩, rfl⟩
                              simp only [List.take, List.drop]
                              rintro _ _ rfl
                              refine V_ge rfl rfl rfl hc103 ?_
                              refine V_y (Y_pick_fe rfl hc108 rfl) rfl rfl rfl ?_
                              obtain rfl := Option.some.inj hs109
                              exact V_end fun a ha => ⟨(), ha.sub ⟨rfl, rfl, rfl, rfl, rfl, rfl, rfl, trivial⟩, rfl⟩
                          simp only [List.take, List.drop]
                          rintro _ _ rfl
                          refine V_ge rfl rfl rfl hc103 ?_
                          refine V_y (Y_move rfl) rfl rfl rfl ?_
                          obtain ⟨s113, hs113, hs104⟩ := Option.bind_eq_some_iff.1 hs104
                          refine V_cut 5 (fun _ : Unit => [(0, .string s), (2, v14), (5, .int .i64 s12.2.1), (6, .string s12.2.2), (7, .int .i64 s92), (40, .bool ((decide (s92 < (s.size : Int))) && (decide ((w64 ((w64 (s92 - s12.2.1)) - 2)) < 20)))), (68, .bool s113)]) (fun _ w' => w13 = w') ?_ ?_
                          · simp only [List.take, List.drop]
                            rcases Bool.eq_false_or_eq_true (s109) with hc112 | hc112
                            · rw [if_pos hc112] at hs113
                              refine V_gn rfl rfl rfl hc112 rfl rfl rfl ?_
                              refine V_gn rfl rfl rfl hc112 rfl rfl rfl ?_
                              refine V_gn rfl rfl rfl hc112 rfl rfl rfl ?_
                              refine V_gn rfl rfl rfl hc112 rfl rfl rfl ?_
                              refine V_ge rfl rfl rfl hc103 ?_
                              refine V_y (Y_pick_te rfl hc112 rfl) rfl rfl rfl ?_
                              obtain rfl := Option.some.inj hs113
                              exact V_end fun a ha => ⟨(), ha.sub ⟨rfl, rfl, rfl, rfl, rfl, rfl, rfl, trivial⟩, rfl⟩
                            · rw [if_neg (nt hc112)] at hs113
                              refine V_ge rfl rfl rfl hc112 ?_
                              refine V_y (Y_move rfl) rfl rfl rfl ?_
                              refine V_ge rfl rfl rfl hc112 ?_
                              refine V_y (Y_move rfl) rfl rfl rfl ?_
                              refine V_ge rfl rfl rfl hc112 ?_
                              refine V_y (Y_indexS hx105 Tryd.underlying9 rfl rfl) rfl rfl rfl ?_
                              refine V_ge rfl rfl rfl hc112 ?_
                              refine V_y (Y_eql rfl rfl) rfl rfl rfl ?_
                              refine V_ge rfl rfl rfl hc103 ?_
                              refine V_y (Y_pick_fe rfl hc112 rfl) rfl rfl rfl ?_
                              obtain rfl := Option.some.inj hs113
                              exact V_end fun a ha => ⟨(), ha.sub ⟨rfl, rfl, rfl, rfl, rfl, rfl, rfl, trivial⟩, rfl⟩
                          simp only [List.take, List.drop]
                          rintro _ _ rfl
                          refine V_y (Y_pick_te rfl hc103 rfl) rfl rfl rfl ?_
                          obtain rfl := Option.some.inj hs104
                          exact V_end fun a ha => ⟨(), ha.sub ⟨rfl, rfl, rfl, rfl, rfl, rfl, trivial⟩, rfl⟩
                        · rw [if_neg (nt hc103)] at hs104
                          refine V_gn rfl rfl rfl hc103 rfl rfl rfl ?_
                          refine V_gn rfl rfl rfl hc103 rfl rfl rfl ?_
                          refine V_gn rfl rfl rfl hc103 rfl rfl rfl ?_
                          refine V_gn rfl rfl rfl hc103 rfl rfl rfl ?_
                          refine V_gn rfl rfl rfl hc103 rfl rfl rfl ?_
                          refine V_gu rfl rfl rfl rfl rfl ?_
                          refine V_gu rfl rfl rfl rfl rfl ?_
                          refine V_gu rfl rfl rfl rfl rfl ?_
                          refine V_gu rfl rfl rfl rfl rfl ?_
                          refine V_gn rfl rfl rfl hc103 rfl rfl rfl ?_
                          refine V_gn rfl rfl rfl hc103 rfl rfl rfl ?_
                          refine V_gu rfl rfl rfl rfl rfl ?_
                          refine V_gu rfl rfl rfl rfl rfl ?_
                          refine V_gu rfl rfl rfl rfl rfl ?_
                          refine V_gu rfl rfl rfl rfl rfl ?_
                          refine V_gu rfl rfl rfl rfl rfl ?_
                          refine V_gu rfl rfl rfl rfl rfl ?_
                          refine V_gu rfl rfl rfl rfl rfl ?_
                          refine V_gu rfl rfl rfl rfl rfl ?_
                          refine V_gu rfl rfl rfl rfl rfl ?_
                          refine V_gu rfl rfl rfl rfl rfl ?_
                          refine V_gn rfl rfl rfl hc103 rfl rfl rfl ?_
                          refine V_gn rfl rfl rfl hc103 rfl rfl rfl ?_
                          refine V_gu rfl rfl rfl rfl rfl ?_
                          refine V_gu rfl rfl rfl rfl rfl ?_
                          refine V_gu rfl rfl rfl rfl rfl ?_
                          refine V_gu rfl rfl rfl rfl rfl ?_
                          refine V_gn rfl rfl rfl hc103 rfl rfl rfl ?_
                          refine V_y (Y_pick_fe rfl hc103 rfl) rfl rfl rfl ?_
                          obtain rfl := Option.some.inj hs104
                          exact V_end fun a ha => ⟨(), ha.sub ⟨rfl, rfl, rfl, rfl, rfl, rfl, trivial⟩, rfl⟩
                      simp only [List.take, List.drop]
                      rintro _ _ rfl
                      refine V_to (fun _ _ => rfl) ?_
                      refine C_cond rfl (fun hc114 => ?_) (fun hc114 => ?_)
                      · rw [if_pos hc114] at h95
                        refine C_skip_to (fun _ _ => rfl) ?_
                        refine C_block ?_
                        refine C_region ?_
                        refine V_y (Y_move rfl) rfl rfl rfl ?_
                        refine V_y (Y_addI rfl rfl) rfl rfl rfl ?_
                        refine V_y (Y_assign rfl) rfl rfl rfl ?_
                        obtain rfl := Option.some.inj h95
                        refine V_end (fun a ha115 => ?_)
                        exact ⟨w64 (s92 + 1), h96, ⟨(), ha115.sub ⟨rfl, rfl, rfl, rfl, rfl, trivial⟩, rfl⟩⟩
                      · rw [if_neg (nt hc114)] at h95
                        obtain rfl := Option.some.inj h95
                        refine C_exit (fun a ha116 => ?_)
                        exact ⟨s92, ha116.sub ⟨rfl, rfl, rfl, rfl, rfl, trivial⟩, ⟨h96.symm, rfl⟩⟩
                    rintro s86 _ ⟨rfl, rfl⟩ a ha91
                    rw [Lp.andThen_fin] at ho67
                    refine C_at (n := ⟨220, [], none⟩) (fun _ _ => rfl) ?_ ha91
                    refine C_seq ?_
                    refine C_seq ?_
                    refine C_region ?_
                    refine V_y (Y_move rfl) rfl rfl rfl ?_
                    refine V_y (Y_move rfl) rfl rfl rfl ?_
                    refine V_y (Y_addI rfl rfl) rfl rfl rfl ?_
                    refine V_y (Y_eql rfl rfl) rfl rfl rfl ?_
                    refine V_y (Y_move rfl) rfl rfl rfl ?_
                    refine V_cut 5 (fun _ : Unit => [(0, .string s), (2, v14), (5, .int .i64 s12.2.1), (6, .string s12.2.2), (7, .int .i64 s86), (81, .bool ((s86 == (w64 (s12.2.1 + 2))) || (s86 == (s.size : Int))))]) (fun _ w' => w13 = w') ?_ ?_
                    · simp only [List.take, List.drop]
                      rcases Bool.eq_false_or_eq_true (s86 == (w64 (s12.2.1 + 2))) with hc118 | hc118
                      · refine V_gn rfl rfl rfl hc118 rfl rfl rfl ?_
                        refine V_gn rfl rfl rfl hc118 rfl rfl rfl ?_
                        refine V_gn rfl rfl rfl hc118 rfl rfl rfl ?_
                        refine V_gn rfl rfl rfl hc118 rfl rfl rfl ?_
                        refine V_y (Y_pick_te rfl hc118 rfl) rfl rfl rfl ?_
                        exact V_end fun a ha => ⟨(), ha.sub ⟨rfl, rfl, rfl, rfl, rfl, (by rw [hc118]; rfl), trivial⟩, rfl⟩
                      · refine V_ge rfl rfl rfl hc118 ?_
                        refine V_y (Y_move rfl) rfl rfl rfl ?_
                        refine V_ge rfl rfl rfl hc118 ?_
                        refine V_y (Y_move rfl) rfl rfl rfl ?_
                        refine V_ge rfl rfl rfl hc118 ?_
                        refine V_y (Y_lenStr rfl Tryd.underlying9 rfl) rfl rfl rfl ?_
                        refine V_ge rfl rfl rfl hc118 ?_
                        refine V_y (Y_eql rfl rfl) rfl rfl rfl ?_
                        refine V_y (Y_pick_fe rfl hc118 rfl) rfl rfl rfl ?_
                        exact V_end fun a ha => ⟨(), ha.sub ⟨rfl, rfl, rfl, rfl, rfl, (by rw [hc118]; rfl), trivial⟩, rfl⟩
                    simp only [List.take, List.drop]
                    rintro _ _ rfl
                    refine V_y (Y_move rfl) rfl rfl rfl ?_
                    obtain ⟨s121, hs121, ho67⟩ := Option.bind_eq_some_iff.1 ho67
                    refine V_cut 6 (fun _ : Unit => [(0, .string s), (2, v14), (5, .int .i64 s12.2.1), (6, .string s12.2.2), (7, .int .i64 s86), (88, .bool s121)]) (fun _ w' => w13 = w') ?_ ?_
                    · simp only [List.take, List.drop]
                      rcases Bool.eq_false_or_eq_true (((s86 == (w64 (s12.2.1 + 2))) || (s86 == (s.size : Int)))) with hc120 | hc120
                      · rw [if_pos hc120] at hs121
                        refine V_gn rfl rfl rfl hc120 rfl rfl rfl ?_
                        refine V_gn rfl rfl rfl hc120 rfl rfl rfl ?_
                        refine V_gn rfl rfl rfl hc120 rfl rfl rfl ?_
                        refine V_gn rfl rfl rfl hc120 rfl rfl rfl ?_
                        refine V_gn rfl rfl rfl hc120 rfl rfl rfl ?_
                        refine V_y (Y_pick_te rfl hc120 rfl) rfl rfl rfl ?_
                        obtain rfl := Option.some.inj hs121
                        exact V_end fun a ha => ⟨(), ha.sub ⟨rfl, rfl, rfl, rfl, rfl, rfl, trivial⟩, rfl⟩
                      · rw [if_neg (nt hc120)] at hs121
                        refine V_ge rfl rfl rfl hc120 ?_
                        refine V_y (Y_move rfl) rfl rfl rfl ?_
                        refine V_ge rfl rfl rfl hc120 ?_
                        refine V_y (Y_move rfl) rfl rfl rfl ?_
                        refine V_ge rfl rfl rfl hc120 ?_
                        obtain ⟨x122, hx122, hs121⟩ := Option.bind_eq_some_iff.1 hs121
                        refine V_y (Y_indexS hx122 Tryd.underlying9 rfl rfl) rfl rfl rfl ?_
                        refine V_ge rfl rfl rfl hc120 ?_
                        refine V_call Tryd.call34 rfl rfl rfl rfl (strings_IndexByte_c w13 (⟨#[125, 124, 63]⟩ : ByteArray) (x122.toNat : Int)) ?_
                        rintro _ _ ⟨rfl, rfl⟩
                        refine V_ge rfl rfl rfl hc120 ?_
                        refine V_y (Y_lss rfl rfl) rfl rfl rfl ?_
                        refine V_y (Y_pick_fe rfl hc120 rfl) rfl rfl rfl ?_
                        obtain rfl := Option.some.inj hs121
                        exact V_end fun a ha => ⟨(), ha.sub ⟨rfl, rfl, rfl, rfl, rfl, rfl, trivial⟩, rfl⟩
                    simp only [List.take, List.drop]
                    rintro _ _ rfl
                    refine V_to (fun _ _ => rfl) ?_
                    refine C_cond rfl (fun hc123 => ?_) (fun hc123 => ?_)
                    · rw [if_pos hc123] at ho67
                      refine C_seq ?_
                      refine C_region ?_
                      refine V_y (Y_move rfl) rfl rfl rfl ?_
                      refine V_y (Y_assign rfl) rfl rfl rfl ?_
                      refine V_y (Y_assign rfl) rfl rfl rfl ?_
                      refine V_y (Y_assign rfl) rfl rfl rfl ?_
                      refine V_to (fun _ _ => rfl) ?_
                      obtain rfl := Option.some.inj ho67
                      rw [Lp.andThen_rt] at ho47
                      obtain rfl := Option.some.inj ho47
                      rw [Lp.andThen_rt] at ho36
                      obtain rfl := Option.some.inj ho36
                      rw [Lp.andThen_rt] at ho26
                      obtain rfl := Option.some.inj ho26
                      rw [Lp.andThen_rt] at h19
                      obtain rfl := Option.some.inj h19
                      obtain rfl := (h20 : Lp.rt _ = _)
                      rw [Lp.andThen_rt] at hm
                      obtain rfl := Option.some.inj hm
                      replace hH : Hp w.heap.size A16 w13 (obS (α := portref2_piece) 54 (.slice none 0 0) ([] : (List portref2_piece)) :: obS (α := portref2_piece) 54 v14 s12.1 :: []) := Hp.addNil (α := portref2_piece) (e := 54) hH
                      refine C_ret ?_
                      try simp only [↓inBlock_ret, ↓then_ret]
                      exact retQ rfl (Res.three Tryd.results24 rfl rfl rfl) ⟨.slice none 0 0, rfl, (Hp.ownd hH (i := 0) rfl), hK.kp⟩
                    · rw [if_neg (nt hc123)] at ho67
                      refine C_skip_to (fun _ _ => rfl) ?_
                      refine C_seq ?_
                      refine C_region_def (Dw := Dw) (B := w.heap.size) (k := 9) [(8, 54, .agg #[.string ByteArray.empty, .string ByteArray.empty, .int .u8 0, .string ByteArray.empty, .string ByteArray.empty])] [(98, 8)] Tryd_mixed (by kernel_rfl) rfl ⟨⟨_, _, _, rfl, by simp⟩, Tryd.zeroValue54, trivial⟩ ⟨⟨_, _, _, rfl, by decide, by decide⟩, by decide, rfl, Tryd.sizeOf54, trivial⟩ rfl rfl (by decide) hH hB hA ?_
                      simp only [List.take]
                      refine VQ_y (fun w' hw' => Y_move rfl) rfl rfl rfl ?_
                      refine VQ_y (fun w' hw' => Y_move rfl) rfl rfl rfl ?_
                      refine VQ_y (fun w' hw' => Y_addI rfl rfl) rfl rfl rfl ?_
                      refine VQ_y (fun w' hw' => Y_move rfl) rfl rfl rfl ?_
                      obtain ⟨x130, hx130, ho67⟩ := Option.bind_eq_some_iff.1 ho67
                      refine VQ_y (fun w' hw' => Y_sliceSLH hx130 Tryd.underlying9 rfl rfl rfl) rfl rfl rfl ?_
                      refine VQ_y (fun w' hw' => Y_move rfl) rfl rfl rfl ?_
                      refine VQ_y (fun w' hw' => Y_move rfl) rfl rfl rfl ?_
                      obtain ⟨x131, hx131, ho67⟩ := Option.bind_eq_some_iff.1 ho67
                      refine VQ_y (fun w' hw' => Y_indexS hx131 Tryd.underlying9 rfl rfl) rfl rfl rfl ?_
                      refine VQ_y (fun w' hw' => Y_build Tryd.underlying54 Tryd.zeroValue54 (Tryd_places54 _ Tryd.underlying54) rfl (by with_unfolding_all rfl)) rfl rfl rfl ?_
                      refine VQ_end fun a ha => ⟨_, [.agg #[.string ByteArray.empty, .string x130, .int .u8 (x131.toNat : Int), .string ByteArray.empty, .string ByteArray.empty]], ha, rfl, rfl, ⟨rfl, (by exact (List.forall_mem_cons.2 ⟨rfl, (List.forall_mem_cons.2 ⟨rfl, (List.forall_mem_cons.2 ⟨rfl, (List.forall_mem_cons.2 ⟨rfl, (List.forall_mem_cons.2 ⟨rfl, (fun _ h => nomatch h)⟩)⟩)⟩)⟩)⟩)), trivial⟩, fun b124 w125 A126 hH127 ht128 a ha129 => ?_⟩
                      replace hK := Tr.trans (Dw := Dw) hK ht128
                      replace hr3 := Tr.trans (Dw := Dw) hr3 ht128
                      replace hr28 := Tr.trans (Dw := Dw) hr28 ht128
                      replace hr38 := Tr.trans (Dw := Dw) hr38 ht128
                      replace hr49 := Tr.trans (Dw := Dw) hr49 ht128
                      replace hr69 := Tr.trans (Dw := Dw) hr69 ht128
                      replace hB := Nat.le_trans hB ht128.ex.size
                      replace hA := ht128.new
                      replace hH : Hp w.heap.size A126 w125 (obC (b124 0) [.string ByteArray.empty, .string x130, .int .u8 (x131.toNat : Int), .string ByteArray.empty, .string ByteArray.empty] 54 :: obS (α := portref2_piece) 54 v14 s12.1 :: []) := hH127
                      refine C_at (n := ⟨220, [], none⟩) (fun _ _ => rfl) ?_ ha129
                      refine C_seq ?_
                      refine C_seq ?_
                      refine C_region ?_
                      refine V_y (Y_move rfl) rfl rfl rfl ?_
                      refine V_y (Y_move rfl) rfl rfl rfl ?_
                      refine V_y (Y_indexS hx131 Tryd.underlying9 rfl rfl) rfl rfl rfl ?_
                      refine V_to (fun _ _ => rfl) ?_
                      obtain ⟨o132, ho132, ho67⟩ := Option.bind_eq_some_iff.1 ho67
                      refine C_cutG (ι := (((List portref2_piece) × Int × portref2_piece) × Value × (Nat → Prop))) (fun ⟨s133, v135, A140⟩ => [(0, .string s), (2, v135), (6, .string s12.2.2), (7, .int .i64 s133.2.1), (8, .pointer (some ⟨(b124 0), 0, none⟩))]) (fun ⟨s133, v135, A140⟩ => fun w' => o132 = .fin s133 ∧ Hp w.heap.size A140 w' (obC (b124 0) [.string s133.2.2.text, .string s133.2.2.name, .int .u8 (s133.2.2.kind.toNat : Int), .string s133.2.2.one, .string s133.2.2.both] 54 :: obS (α := portref2_piece) 54 v135 s133.1 :: []) ∧ Tr Dw w.heap.size A126 w125 A140 w') ?_ ?_
                      · have hr134 : Tr Dw w.heap.size A126 w125 A126 w125 := Tr.refl (Dw := Dw) hA
                        refine C_block ?_
                        refine C_seq ?_
                        refine C_region ?_
                        refine V_y (Y_eql rfl rfl) rfl rfl rfl ?_
                        refine V_y (Y_assign rfl) rfl rfl rfl ?_
                        refine V_to (fun _ _ => rfl) ?_
                        obtain ⟨o142, ho142, ho132⟩ := Option.bind_eq_some_iff.1 ho132
                        refine C_cutG (ι := (((List portref2_piece) × Int × portref2_piece) × Value × (Nat → Prop))) (fun ⟨s143, v145, A150⟩ => [(0, .string s), (2, v145), (6, .string s12.2.2), (7, .int .i64 s143.2.1), (8, .pointer (some ⟨(b124 0), 0, none⟩))]) (fun ⟨s143, v145, A150⟩ => fun w' => o142 = .fin s143 ∧ Hp w.heap.size A150 w' (obC (b124 0) [.string s143.2.2.text, .string s143.2.2.name, .int .u8 (s143.2.2.kind.toNat : Int), .string s143.2.2.one, .string s143.2.2.both] 54 :: obS (α := portref2_piece) 54 v145 s143.1 :: []) ∧ Tr Dw w.heap.size A126 w125 A150 w') ?_ ?_
                        · have hr144 : Tr Dw w.heap.size A126 w125 A126 w125 := Tr.refl (Dw := Dw) hA
                          refine C_cond rfl (fun hc152 => ?_) (fun hc152 => ?_)
                          · rw [if_pos hc152] at ho142
                            refine C_region ?_
                            refine V_y (Y_fieldAddrC (off2 := 2) Tryd.underlying54 rfl Tryd.sizeOf5 (by decide) rfl rfl) rfl rfl rfl ?_
                            refine V_storeC (Dw := Dw) (off := 2) (ds := [.string ByteArray.empty, .string x130, .int .u8 102, .string ByteArray.empty, .string ByteArray.empty]) hH (i := 0) rfl Tryd.sizeOf5 rfl (Nat.le_of_ble_eq_true rfl) (by simp [Value.cells, Value.oneCell']) rfl hB hA rfl rfl ?_
                            intro w153 hH154 ht155
                            replace hK := Tr.trans (Dw := Dw) hK ht155
                            replace hr3 := Tr.trans (Dw := Dw) hr3 ht155
                            replace hr28 := Tr.trans (Dw := Dw) hr28 ht155
                            replace hr38 := Tr.trans (Dw := Dw) hr38 ht155
                            replace hr49 := Tr.trans (Dw := Dw) hr49 ht155
                            replace hr69 := Tr.trans (Dw := Dw) hr69 ht155
                            replace hr134 := Tr.trans (Dw := Dw) hr134 ht155
                            replace hr144 := Tr.trans (Dw := Dw) hr144 ht155
                            replace hB := Nat.le_trans hB ht155.ex.size
                            replace hA := ht155.new
                            replace hH : Hp w.heap.size A126 w153 (obC (b124 0) [.string ByteArray.empty, .string x130, .int .u8 102, .string ByteArray.empty, .string ByteArray.empty] 54 :: obS (α := portref2_piece) 54 v14 s12.1 :: []) := hH154
                            obtain rfl := Option.some.inj ho142
                            refine V_end (fun a ha156 => ?_)
                            exact ⟨((s12.1, s86, (⟨ByteArray.empty, x130, (102 : UInt8), ByteArray.empty, ByteArray.empty⟩ : portref2_piece)), v14, A126), ha156.sub ⟨rfl, rfl, rfl, rfl, rfl, trivial⟩, ⟨rfl, hH, hr144⟩⟩
                          · rw [if_neg (nt hc152)] at ho142
                            refine C_seq ?_
                            refine C_region ?_
                            refine V_y (Y_eql rfl rfl) rfl rfl rfl ?_
                            refine V_y (Y_assign rfl) rfl rfl rfl ?_
                            refine V_to (fun _ _ => rfl) ?_
                            obtain ⟨o157, ho157, ho142⟩ := Option.bind_eq_some_iff.1 ho142
                            refine C_cutG (ι := (((List portref2_piece) × Int × portref2_piece) × Value × (Nat → Prop))) (fun ⟨s158, v160, A165⟩ => [(0, .string s), (2, v160), (6, .string s12.2.2), (7, .int .i64 s158.2.1), (8, .pointer (some ⟨(b124 0), 0, none⟩))]) (fun ⟨s158, v160, A165⟩ => fun w' => o157 = .fin s158 ∧ Hp w.heap.size A165 w' (obC (b124 0) [.string s158.2.2.text, .string s158.2.2.name, .int .u8 (s158.2.2.kind.toNat : Int), .string s158.2.2.one, .string s158.2.2.both] 54 :: obS (α := portref2_piece) 54 v160 s158.1 :: []) ∧ Tr Dw w.heap.size A126 w125 A165 w') ?_ ?_
                            · have hr159 : Tr Dw w.heap.size A126 w125 A126 w125 := Tr.refl (Dw := Dw) hA
                              refine C_cond rfl (fun hc167 => ?_) (fun hc167 => ?_)
                              · rw [if_pos hc167] at ho157
                                refine C_seq ?_
                                refine C_region ?_
                                refine V_y (Y_move rfl) rfl rfl rfl ?_
                                refine V_y (Y_move rfl) rfl rfl rfl ?_
                                refine V_y (Y_addI rfl rfl) rfl rfl rfl ?_
                                obtain ⟨x168, hx168, ho157⟩ := Option.bind_eq_some_iff.1 ho157
                                refine V_call Tryd.call35 rfl rfl rfl rfl (portref2_fieldString_c w125 s (w64 (s86 + 1)) (⟨#[125]⟩ : ByteArray) hx168) ?_
                                rintro _ _ ⟨rfl, rfl⟩
                                refine V_y (Y_move rfl) rfl rfl rfl ?_
                                refine V_y (Y_extract rfl rfl) rfl rfl rfl ?_
                                refine V_y (Y_extract rfl rfl) rfl rfl rfl ?_
                                refine V_y (Y_extract rfl rfl) rfl rfl rfl ?_
                                refine V_y (Y_fieldAddrC (off2 := 3) Tryd.underlying54 rfl Tryd.sizeOf9 (by decide) rfl rfl) rfl rfl rfl ?_
                                refine V_storeC (Dw := Dw) (off := 3) (ds := [.string ByteArray.empty, .string x130, .int .u8 (x131.toNat : Int), .string x168.1, .string ByteArray.empty]) hH (i := 0) rfl Tryd.sizeOf9 rfl (Nat.le_of_ble_eq_true rfl) (by simp [Value.cells, Value.oneCell']) rfl hB hA rfl rfl ?_
                                intro w169 hH170 ht171
                                replace hK := Tr.trans (Dw := Dw) hK ht171
                                replace hr3 := Tr.trans (Dw := Dw) hr3 ht171
                                replace hr28 := Tr.trans (Dw := Dw) hr28 ht171
                                replace hr38 := Tr.trans (Dw := Dw) hr38 ht171
                                replace hr49 := Tr.trans (Dw := Dw) hr49 ht171
                                replace hr69 := Tr.trans (Dw := Dw) hr69 ht171
                                replace hr134 := Tr.trans (Dw := Dw) hr134 ht171
                                replace hr144 := Tr.trans (Dw := Dw) hr144 ht171
                                replace hr159 := Tr.trans (Dw := Dw) hr159 ht171
                                replace hB := Nat.le_trans hB ht171.ex.size
                                replace hA := ht171.new
                                replace hH : Hp w.heap.size A126 w169 (obC (b124 0) [.string ByteArray.empty, .string x130, .int .u8 (x131.toNat : Int), .string x168.1, .string ByteArray.empty] 54 :: obS (α := portref2_piece) 54 v14 s12.1 :: []) := hH170
                                refine V_y (Y_assign rfl) rfl rfl rfl ?_
                                refine V_y (Y_assign rfl) rfl rfl rfl ?_
                                refine V_to (fun _ _ => rfl) ?_
                                refine C_seq ?_
                                refine C_region ?_
                                refine V_y (Y_move rfl) rfl rfl rfl ?_
                                refine V_y (Y_not rfl) rfl rfl rfl ?_
                                refine V_to (fun _ _ => rfl) ?_
                                refine C_cond rfl (fun hc172 => ?_) (fun hc172 => ?_)
                                · rw [if_pos hc172] at ho157
                                  refine C_seq ?_
                                  refine C_region ?_
                                  refine V_y (Y_move rfl) rfl rfl rfl ?_
                                  refine V_y (Y_assign rfl) rfl rfl rfl ?_
                                  refine V_y (Y_assign rfl) rfl rfl rfl ?_
                                  refine V_y (Y_assign rfl) rfl rfl rfl ?_
                                  refine V_to (fun _ _ => rfl) ?_
                                  obtain rfl := Option.some.inj ho157
                                  rw [Lp.andThen_rt] at ho142
                                  obtain rfl := Option.some.inj ho142
                                  rw [Lp.andThen_rt] at ho132
                                  obtain rfl := Option.some.inj ho132
                                  rw [Lp.andThen_rt] at ho67
                                  obtain rfl := Option.some.inj ho67
                                  rw [Lp.andThen_rt] at ho47
                                  obtain rfl := Option.some.inj ho47
                                  rw [Lp.andThen_rt] at ho36
                                  obtain rfl := Option.some.inj ho36
                                  rw [Lp.andThen_rt] at ho26
                                  obtain rfl := Option.some.inj ho26
                                  rw [Lp.andThen_rt] at h19
                                  obtain rfl := Option.some.inj h19
                                  obtain rfl := (h20 : Lp.rt _ = _)
                                  rw [Lp.andThen_rt] at hm
                                  obtain rfl := Option.some.inj hm
                                  replace hH : Hp w.heap.size A126 w169 (obS (α := portref2_piece) 54 (.slice none 0 0) ([] : (List portref2_piece)) :: obC (b124 0) [.string ByteArray.empty, .string x130, .int .u8 (x131.toNat : Int), .string x168.1, .string ByteArray.empty] 54 :: obS (α := portref2_piece) 54 v14 s12.1 :: []) := Hp.addNil (α := portref2_piece) (e := 54) hH
                                  refine C_ret ?_
                                  try simp only [↓inBlock_ret, ↓then_ret]
                                  exact retQ rfl (Res.three Tryd.results24 rfl rfl rfl) ⟨.slice none 0 0, rfl, (Hp.ownd hH (i := 0) rfl), hK.kp⟩
                                · rw [if_neg (nt hc172)] at ho157
                                  obtain rfl := Option.some.inj ho157
                                  refine C_skip (fun a ha173 => ?_)
                                  exact ⟨((s12.1, x168.2.1, (⟨ByteArray.empty, x130, x131, x168.1, ByteArray.empty⟩ : portref2_piece)), v14, A126), ha173.sub ⟨rfl, rfl, rfl, rfl, rfl, trivial⟩, ⟨rfl, hH, hr159⟩⟩
                              · rw [if_neg (nt hc167)] at ho157
                                refine C_seq ?_
                                refine C_seq ?_
                                refine C_region ?_
                                refine V_y (Y_move rfl) rfl rfl rfl ?_
                                refine V_y (Y_move rfl) rfl rfl rfl ?_
                                refine V_y (Y_addI rfl rfl) rfl rfl rfl ?_
                                obtain ⟨x174, hx174, ho157⟩ := Option.bind_eq_some_iff.1 ho157
                                refine V_call Tryd.call35 rfl rfl rfl rfl (portref2_fieldString_c w125 s (w64 (s86 + 1)) (⟨#[58]⟩ : ByteArray) hx174) ?_
                                rintro _ _ ⟨rfl, rfl⟩
                                refine V_y (Y_move rfl) rfl rfl rfl ?_
                                refine V_y (Y_extract rfl rfl) rfl rfl rfl ?_
                                refine V_y (Y_extract rfl rfl) rfl rfl rfl ?_
                                refine V_y (Y_extract rfl rfl) rfl rfl rfl ?_
                                refine V_y (Y_fieldAddrC (off2 := 3) Tryd.underlying54 rfl Tryd.sizeOf9 (by decide) rfl rfl) rfl rfl rfl ?_
                                refine V_storeC (Dw := Dw) (off := 3) (ds := [.string ByteArray.empty, .string x130, .int .u8 (x131.toNat : Int), .string x174.1, .string ByteArray.empty]) hH (i := 0) rfl Tryd.sizeOf9 rfl (Nat.le_of_ble_eq_true rfl) (by simp [Value.cells, Value.oneCell']) rfl hB hA rfl rfl ?_
                                intro w175 hH176 ht177
                                replace hK := Tr.trans (Dw := Dw) hK ht177
                                replace hr3 := Tr.trans (Dw := Dw) hr3 ht177
                                replace hr28 := Tr.trans (Dw := Dw) hr28 ht177
                                replace hr38 := Tr.trans (Dw := Dw) hr38 ht177
                                replace hr49 := Tr.trans (Dw := Dw) hr49 ht177
                                replace hr69 := Tr.trans (Dw := Dw) hr69 ht177
                                replace hr134 := Tr.trans (Dw := Dw) hr134 ht177
                                replace hr144 := Tr.trans (Dw := Dw) hr144 ht177
                                replace hr159 := Tr.trans (Dw := Dw) hr159 ht177
                                replace hB := Nat.le_trans hB ht177.ex.size
                                replace hA := ht177.new
                                replace hH : Hp w.heap.size A126 w175 (obC (b124 0) [.string ByteArray.empty, .string x130, .int .u8 (x131.toNat : Int), .string x174.1, .string ByteArray.empty] 54 :: obS (α := portref2_piece) 54 v14 s12.1 :: []) := hH176
                                refine V_y (Y_assign rfl) rfl rfl rfl ?_
                                refine V_y (Y_assign rfl) rfl rfl rfl ?_
                                refine V_to (fun _ _ => rfl) ?_
                                refine C_seq ?_
                                refine C_region ?_
                                refine V_y (Y_move rfl) rfl rfl rfl ?_
                                refine V_y (Y_not rfl) rfl rfl rfl ?_
                                refine V_to (fun _ _ => rfl) ?_
                                refine C_cond rfl (fun hc178 => ?_) (fun hc178 => ?_)
                                · rw [if_pos hc178] at ho157
                                  refine C_seq ?_
                                  refine C_region ?_
                                  refine V_y (Y_move rfl) rfl rfl rfl ?_
                                  refine V_y (Y_assign rfl) rfl rfl rfl ?_
                                  refine V_y (Y_assign rfl) rfl rfl rfl ?_
                                  refine V_y (Y_assign rfl) rfl rfl rfl ?_
                                  refine V_to (fun _ _ => rfl) ?_
                                  obtain rfl := Option.some.inj ho157
                                  rw [Lp.andThen_rt] at ho142
                                  obtain rfl := Option.some.inj ho142
                                  rw [Lp.andThen_rt] at ho132
                                  obtain rfl := Option.some.inj ho132
                                  rw [Lp.andThen_rt] at ho67
                                  obtain rfl := Option.some.inj ho67
                                  rw [Lp.andThen_rt] at ho47
                                  obtain rfl := Option.some.inj ho47
                                  rw [Lp.andThen_rt] at ho36
                                  obtain rfl := Option.some.inj ho36
                                  rw [Lp.andThen_rt] at ho26
                                  obtain rfl := Option.some.inj ho26
                                  rw [Lp.andThen_rt] at h19
                                  obtain rfl := Option.some.inj h19
                                  obtain rfl := (h20 : Lp.rt _ = _)
                                  rw [Lp.andThen_rt] at hm
                                  obtain rfl := Option.some.inj hm
                                  replace hH : Hp w.heap.size A126 w175 (obS (α := portref2_piece) 54 (.slice none 0 0) ([] : (List portref2_piece)) :: obC (b124 0) [.string ByteArray.empty, .string x130, .int .u8 (x131.toNat : Int), .string x174.1, .string ByteArray.empty] 54 :: obS (α := portref2_piece) 54 v14 s12.1 :: []) := Hp.addNil (α := portref2_piece) (e := 54) hH
                                  refine C_ret ?_
                                  try simp only [↓inBlock_ret, ↓then_ret]
                                  exact retQ rfl (Res.three Tryd.results24 rfl rfl rfl) ⟨.slice none 0 0, rfl, (Hp.ownd hH (i := 0) rfl), hK.kp⟩
                                · rw [if_neg (nt hc178)] at ho157
                                  refine C_skip_to (fun _ _ => rfl) ?_
                                  refine C_seq ?_
                                  refine C_region ?_
                                  refine V_y (Y_move rfl) rfl rfl rfl ?_
                                  refine V_y (Y_move rfl) rfl rfl rfl ?_
                                  refine V_y (Y_addI rfl rfl) rfl rfl rfl ?_
                                  obtain ⟨x179, hx179, ho157⟩ := Option.bind_eq_some_iff.1 ho157
                                  refine V_call Tryd.call35 rfl rfl rfl rfl (portref2_fieldString_c w175 s (w64 (x174.2.1 + 1)) (⟨#[125]⟩ : ByteArray) hx179) ?_
                                  rintro _ _ ⟨rfl, rfl⟩
                                  refine V_y (Y_move rfl) rfl rfl rfl ?_
                                  refine V_y (Y_extract rfl rfl) rfl rfl rfl ?_
                                  refine V_y (Y_extract rfl rfl) rfl rfl rfl ?_
                                  refine V_y (Y_extract rfl rfl) rfl rfl rfl ?_
                                  refine V_y (Y_fieldAddrC (off2 := 4) Tryd.underlying54 rfl Tryd.sizeOf9 (by decide) rfl rfl) rfl rfl rfl ?_
                                  refine V_storeC (Dw := Dw) (off := 4) (ds := [.string ByteArray.empty, .string x130, .int .u8 (x131.toNat : Int), .string x174.1, .string x179.1]) hH (i := 0) rfl Tryd.sizeOf9 rfl (Nat.le_of_ble_eq_true rfl) (by simp [Value.cells, Value.oneCell']) rfl hB hA rfl rfl ?_
                                  intro w180 hH181 ht182
                                  replace hK := Tr.trans (Dw := Dw) hK ht182
                                  replace hr3 := Tr.trans (Dw := Dw) hr3 ht182
                                  replace hr28 := Tr.trans (Dw := Dw) hr28 ht182
                                  replace hr38 := Tr.trans (Dw := Dw) hr38 ht182
                                  replace hr49 := Tr.trans (Dw := Dw) hr49 ht182
                                  replace hr69 := Tr.trans (Dw := Dw) hr69 ht182
                                  replace hr134 := Tr.trans (Dw := Dw) hr134 ht182
                                  replace hr144 := Tr.trans (Dw := Dw) hr144 ht182
                                  replace hr159 := Tr.trans (Dw := Dw) hr159 ht182
                                  replace hB := Nat.le_trans hB ht182.ex.size
                                  replace hA := ht182.new
                                  replace hH : Hp w.heap.size A126 w180 (obC (b124 0) [.string ByteArray.empty, .string x130, .int .u8 (x131.toNat : Int), .string x174.1, .string x179.1] 54 :: obS (α := portref2_piece) 54 v14 s12.1 :: []) := hH181
                                  refine V_y (Y_assign rfl) rfl rfl rfl ?_
                                  refine V_y (Y_assign rfl) rfl rfl rfl ?_
                                  refine V_to (fun _ _ => rfl) ?_
                                  refine C_seq ?_
                                  refine C_region ?_
                                  refine V_y (Y_move rfl) rfl rfl rfl ?_
                                  refine V_y (Y_not rfl) rfl rfl rfl ?_
                                  refine V_to (fun _ _ => rfl) ?_
                                  refine C_cond rfl (fun hc183 => ?_) (fun hc183 => ?_)
                                  · rw [if_pos hc183] at ho157
                                    refine C_seq ?_
                                    refine C_region ?_
                                    refine V_y (Y_move rfl) rfl rfl rfl ?_
                                    refine V_y (Y_assign rfl) rfl rfl rfl ?_
                                    refine V_y (Y_assign rfl) rfl rfl rfl ?_
                                    refine V_y (Y_assign rfl) rfl rfl rfl ?_
                                    refine V_to (fun _ _ => rfl) ?_
                                    obtain rfl := Option.some.inj ho157
                                    rw [Lp.andThen_rt] at ho142
                                    obtain rfl := Option.some.inj ho142
                                    rw [Lp.andThen_rt] at ho132
                                    obtain rfl := Option.some.inj ho132
                                    rw [Lp.andThen_rt] at ho67
                                    obtain rfl := Option.some.inj ho67
                                    rw [Lp.andThen_rt] at ho47
                                    obtain rfl := Option.some.inj ho47
                                    rw [Lp.andThen_rt] at ho36
                                    obtain rfl := Option.some.inj ho36
                                    rw [Lp.andThen_rt] at ho26
                                    obtain rfl := Option.some.inj ho26
                                    rw [Lp.andThen_rt] at h19
                                    obtain rfl := Option.some.inj h19
                                    obtain rfl := (h20 : Lp.rt _ = _)
                                    rw [Lp.andThen_rt] at hm
                                    obtain rfl := Option.some.inj hm
                                    replace hH : Hp w.heap.size A126 w180 (obS (α := portref2_piece) 54 (.slice none 0 0) ([] : (List portref2_piece)) :: obC (b124 0) [.string ByteArray.empty, .string x130, .int .u8 (x131.toNat : Int), .string x174.1, .string x179.1] 54 :: obS (α := portref2_piece) 54 v14 s12.1 :: []) := Hp.addNil (α := portref2_piece) (e := 54) hH
                                    refine C_ret ?_
                                    try simp only [↓inBlock_ret, ↓then_ret]
                                    exact retQ rfl (Res.three Tryd.results24 rfl rfl rfl) ⟨.slice none 0 0, rfl, (Hp.ownd hH (i := 0) rfl), hK.kp⟩
                                  · rw [if_neg (nt hc183)] at ho157
                                    obtain rfl := Option.some.inj ho157
                                    refine C_skip (fun a ha184 => ?_)
                                    exact ⟨((s12.1, x179.2.1, (⟨ByteArray.empty, x130, x131, x174.1, x179.1⟩ : portref2_piece)), v14, A126), ha184.sub ⟨rfl, rfl, rfl, rfl, rfl, trivial⟩, ⟨rfl, hH, hr159⟩⟩
                            rintro ⟨s158, v160, A165⟩ w162 ⟨rfl, hH166, hk163⟩ a ha164
                            rw [Lp.andThen_fin] at ho142
                            replace hK := Tr.trans (Dw := Dw) hK hk163
                            replace hr3 := Tr.trans (Dw := Dw) hr3 hk163
                            replace hr28 := Tr.trans (Dw := Dw) hr28 hk163
                            replace hr38 := Tr.trans (Dw := Dw) hr38 hk163
                            replace hr49 := Tr.trans (Dw := Dw) hr49 hk163
                            replace hr69 := Tr.trans (Dw := Dw) hr69 hk163
                            replace hr134 := Tr.trans (Dw := Dw) hr134 hk163
                            replace hr144 := Tr.trans (Dw := Dw) hr144 hk163
                            replace hB := Nat.le_trans hB hk163.ex.size
                            replace hA := hk163.new
                            replace hH : Hp w.heap.size A165 w162 (obC (b124 0) [.string s158.2.2.text, .string s158.2.2.name, .int .u8 (s158.2.2.kind.toNat : Int), .string s158.2.2.one, .string s158.2.2.both] 54 :: obS (α := portref2_piece) 54 v160 s158.1 :: []) := hH166
                            obtain rfl := Option.some.inj ho142
                            exact ⟨((s158.1, s158.2.1, s158.2.2), v160, A165), ha164.sub ⟨rfl, rfl, rfl, rfl, rfl, trivial⟩, ⟨rfl, hH, hr144⟩⟩
                        rintro ⟨s143, v145, A150⟩ w147 ⟨rfl, hH151, hk148⟩ a ha149
                        rw [Lp.andThen_fin] at ho132
                        replace hK := Tr.trans (Dw := Dw) hK hk148
                        replace hr3 := Tr.trans (Dw := Dw) hr3 hk148
                        replace hr28 := Tr.trans (Dw := Dw) hr28 hk148
                        replace hr38 := Tr.trans (Dw := Dw) hr38 hk148
                        replace hr49 := Tr.trans (Dw := Dw) hr49 hk148
                        replace hr69 := Tr.trans (Dw := Dw) hr69 hk148
                        replace hr134 := Tr.trans (Dw := Dw) hr134 hk148
                        replace hB := Nat.le_trans hB hk148.ex.size
                        replace hA := hk148.new
                        replace hH : Hp w.heap.size A150 w147 (obC (b124 0) [.string s143.2.2.text, .string s143.2.2.name, .int .u8 (s143.2.2.kind.toNat : Int), .string s143.2.2.one, .string s143.2.2.both] 54 :: obS (α := portref2_piece) 54 v145 s143.1 :: []) := hH151
                        obtain rfl := Option.some.inj ho132
                        exact ⟨((s143.1, s143.2.1, s143.2.2), v145, A150), ha149.sub ⟨rfl, rfl, rfl, rfl, rfl, trivial⟩, ⟨rfl, hH, hr134⟩⟩
                      rintro ⟨s133, v135, A140⟩ w137 ⟨rfl, hH141, hk138⟩ a ha139
                      rw [Lp.andThen_fin] at ho67
                      replace hK := Tr.trans (Dw := Dw) hK hk138
                      replace hr3 := Tr.trans (Dw := Dw) hr3 hk138
                      replace hr28 := Tr.trans (Dw := Dw) hr28 hk138
                      replace hr38 := Tr.trans (Dw := Dw) hr38 hk138
                      replace hr49 := Tr.trans (Dw := Dw) hr49 hk138
                      replace hr69 := Tr.trans (Dw := Dw) hr69 hk138
                      replace hB := Nat.le_trans hB hk138.ex.size
                      replace hA := hk138.new
                      replace hH : Hp w.heap.size A140 w137 (obC (b124 0) [.string s133.2.2.text, .string s133.2.2.name, .int .u8 (s133.2.2.kind.toNat : Int), .string s133.2.2.one, .string s133.2.2.both] 54 :: obS (α := portref2_piece) 54 v135 s133.1 :: []) := hH141
                      refine C_at (n := ⟨220, [], none⟩) (fun _ _ => rfl) ?_ ha139
                      refine C_seq ?_
                      refine C_seq ?_
                      refine C_region ?_
                      refine V_y (Y_move rfl) rfl rfl rfl ?_
                      refine V_y (Y_addI rfl rfl) rfl rfl rfl ?_
                      refine V_y (Y_move rfl) rfl rfl rfl ?_
                      refine V_y (Y_lenStr rfl Tryd.underlying9 rfl) rfl rfl rfl ?_
                      refine V_y (Y_eql rfl rfl) rfl rfl rfl ?_
                      refine V_y (Y_move rfl) rfl rfl rfl ?_
                      obtain ⟨s188, hs188, ho67⟩ := Option.bind_eq_some_iff.1 ho67
                      refine V_cut 6 (fun _ : Unit => [(0, .string s), (2, v135), (6, .string s12.2.2), (7, .int .i64 s133.2.1), (8, .pointer (some ⟨(b124 0), 0, none⟩)), (154, .bool s188)]) (fun _ w' => w137 = w') ?_ ?_
                      · simp only [List.take, List.drop]
                        rcases Bool.eq_false_or_eq_true ((w64 (s133.2.1 + 1)) == (s.size : Int)) with hc187 | hc187
                        · rw [if_pos hc187] at hs188
                          refine V_gn rfl rfl rfl hc187 rfl rfl rfl ?_
                          refine V_gn rfl rfl rfl hc187 rfl rfl rfl ?_
                          refine V_gn rfl rfl rfl hc187 rfl rfl rfl ?_
                          refine V_gn rfl rfl rfl hc187 rfl rfl rfl ?_
                          refine V_gn rfl rfl rfl hc187 rfl rfl rfl ?_
                          refine V_y (Y_pick_te rfl hc187 rfl) rfl rfl rfl ?_
                          obtain rfl := Option.some.inj hs188
                          exact V_end fun a ha => ⟨(), ha.sub ⟨rfl, rfl, rfl, rfl, rfl, rfl, trivial⟩, rfl⟩
                        · rw [if_neg (nt hc187)] at hs188
                          refine V_ge rfl rfl rfl hc187 ?_
                          refine V_y (Y_move rfl) rfl rfl rfl ?_
                          refine V_ge rfl rfl rfl hc187 ?_
                          refine V_y (Y_move rfl) rfl rfl rfl ?_
                          refine V_ge rfl rfl rfl hc187 ?_
                          refine V_y (Y_addI rfl rfl) rfl rfl rfl ?_
                          refine V_ge rfl rfl rfl hc187 ?_
                          obtain ⟨x189, hx189, hs188⟩ := Option.bind_eq_some_iff.1 hs188
                          refine V_y (Y_indexS hx189 Tryd.underlying9 rfl rfl) rfl rfl rfl ?_
                          refine V_ge rfl rfl rfl hc187 ?_
                          refine V_y (Y_neq rfl rfl) rfl rfl rfl ?_
                          refine V_y (Y_pick_fe rfl hc187 rfl) rfl rfl rfl ?_
                          obtain rfl := Option.some.inj hs188
                          exact V_end fun a ha => ⟨(), ha.sub ⟨rfl, rfl, rfl, rfl, rfl, rfl, trivial⟩, rfl⟩
                      simp only [List.take, List.drop]
                      rintro _ _ rfl
                      refine V_to (fun _ _ => rfl) ?_
                      refine C_cond rfl (fun hc190 => ?_) (fun hc190 => ?_)
                      · rw [if_pos hc190] at ho67
                        refine C_seq ?_
                        refine C_region ?_
                        refine V_y (Y_move rfl) rfl rfl rfl ?_
                        refine V_y (Y_addI rfl rfl) rfl rfl rfl ?_
                        refine V_y (Y_assign rfl) rfl rfl rfl ?_
                        refine V_y (Y_assign rfl) rfl rfl rfl ?_
                        refine V_y (Y_assign rfl) rfl rfl rfl ?_
                        refine V_to (fun _ _ => rfl) ?_
                        obtain rfl := Option.some.inj ho67
                        rw [Lp.andThen_rt] at ho47
                        obtain rfl := Option.some.inj ho47
                        rw [Lp.andThen_rt] at ho36
                        obtain rfl := Option.some.inj ho36
                        rw [Lp.andThen_rt] at ho26
                        obtain rfl := Option.some.inj ho26
                        rw [Lp.andThen_rt] at h19
                        obtain rfl := Option.some.inj h19
                        obtain rfl := (h20 : Lp.rt _ = _)
                        rw [Lp.andThen_rt] at hm
                        obtain rfl := Option.some.inj hm
                        replace hH : Hp w.heap.size A140 w137 (obS (α := portref2_piece) 54 (.slice none 0 0) ([] : (List portref2_piece)) :: obC (b124 0) [.string s133.2.2.text, .string s133.2.2.name, .int .u8 (s133.2.2.kind.toNat : Int), .string s133.2.2.one, .string s133.2.2.both] 54 :: obS (α := portref2_piece) 54 v135 s133.1 :: []) := Hp.addNil (α := portref2_piece) (e := 54) hH
                        refine C_ret ?_
                        try simp only [↓inBlock_ret, ↓then_ret]
                        exact retQ rfl (Res.three Tryd.results24 rfl rfl rfl) ⟨.slice none 0 0, rfl, (Hp.ownd hH (i := 0) rfl), hK.kp⟩
                      · rw [if_neg (nt hc190)] at ho67
                        refine C_skip_to (fun _ _ => rfl) ?_
                        refine C_seq ?_
                        refine C_region ?_
                        refine V_y (Y_move rfl) rfl rfl rfl ?_
                        refine V_y (Y_move rfl) rfl rfl rfl ?_
                        refine V_y (Y_build Tryd.underlying54 Tryd.zeroValue54 (Tryd_places54 _ Tryd.underlying54) rfl (by with_unfolding_all rfl)) rfl rfl rfl ?_
                        refine V_y (Y_loadA (Hp.part (off := 0) (n := 5) (ds := [.string s133.2.2.text, .string s133.2.2.name, .int .u8 (s133.2.2.kind.toNat : Int), .string s133.2.2.one, .string s133.2.2.both]) hH (i := 0) rfl rfl) Tryd.isAgg54 Tryd.sizeOf54 rfl) rfl rfl rfl ?_
                        refine V_buildSlice (Dw := Dw) (cells := #[.string s12.2.2, .string ByteArray.empty, .int .u8 0, .string ByteArray.empty, .string ByteArray.empty, .string s133.2.2.text, .string s133.2.2.name, .int .u8 (s133.2.2.kind.toNat : Int), .string s133.2.2.one, .string s133.2.2.both]) (l := ([(⟨s12.2.2, ByteArray.empty, 0, ByteArray.empty, ByteArray.empty⟩ : portref2_piece), s133.2.2] : List portref2_piece)) (len := 2) Tryd.underlying46 Tryd.sizeOf54 Tryd.zeroValue54 rfl (by generalize ((s133.2.2.kind.toNat : Int) : Int) = z195; kernel_rfl) (show (2 * 5 : Nat) ≠ 0 by decide) (show (2 * 5 : Nat) ≤ 2 ^ 24 by decide) hA ⟨[.string s12.2.2, .string ByteArray.empty, .int .u8 0, .string ByteArray.empty, .string ByteArray.empty], _, rfl, ⟨[.string s12.2.2], _, rfl, rfl, ⟨[.string ByteArray.empty], _, rfl, rfl, ⟨[.int .u8 0], _, rfl, rfl, ⟨[.string ByteArray.empty], _, rfl, rfl, rfl⟩⟩⟩⟩, ⟨[.string s133.2.2.text, .string s133.2.2.name, .int .u8 (s133.2.2.kind.toNat : Int), .string s133.2.2.one, .string s133.2.2.both], _, rfl, ⟨[.string s133.2.2.text], _, rfl, rfl, ⟨[.string s133.2.2.name], _, rfl, rfl, ⟨[.int .u8 (s133.2.2.kind.toNat : Int)], _, rfl, rfl, ⟨[.string s133.2.2.one], _, rfl, rfl, rfl⟩⟩⟩⟩, rfl⟩⟩ rfl rfl ?_
                        intro v191 w192 hk194 h193
                        have ht196 := Kp.tr (Dw := Dw) hk194 hA hB
                        replace hH := Hp.kp (Dw := Dw) hH hk194
                        replace hK := Tr.trans (Dw := Dw) hK ht196
                        replace hr3 := Tr.trans (Dw := Dw) hr3 ht196
                        replace hr28 := Tr.trans (Dw := Dw) hr28 ht196
                        replace hr38 := Tr.trans (Dw := Dw) hr38 ht196
                        replace hr49 := Tr.trans (Dw := Dw) hr49 ht196
                        replace hr69 := Tr.trans (Dw := Dw) hr69 ht196
                        replace hB := Nat.le_trans hB ht196.ex.size
                        replace hA := ht196.new
                        obtain ⟨x197, hx197, ho67⟩ := Option.bind_eq_some_iff.1 ho67
                        refine V_appendH (Dw := Dw) (e := 54) (v := v135) (l := s133.1) (ti := Tryd.t54) (bytes := 72) (lim := 1954687338268) hH (i := 1) rfl h193 hx197 Tryd.underlying46 Tryd_info54 rfl rfl rfl rfl (by decide) (by decide) (by decide) hB hA rfl rfl rfl ?_
                        intro v198 w199 A200 hH201 ht202
                        replace h193 := Sl.tr (Dw := Dw) h193 ht202
                        replace hK := Tr.trans (Dw := Dw) hK ht202
                        replace hr3 := Tr.trans (Dw := Dw) hr3 ht202
                        replace hr28 := Tr.trans (Dw := Dw) hr28 ht202
                        replace hr38 := Tr.trans (Dw := Dw) hr38 ht202
                        replace hr49 := Tr.trans (Dw := Dw) hr49 ht202
                        replace hr69 := Tr.trans (Dw := Dw) hr69 ht202
                        replace hB := Nat.le_trans hB ht202.ex.size
                        replace hA := ht202.new
                        replace hH : Hp w.heap.size A200 w199 (obC (b124 0) [.string s133.2.2.text, .string s133.2.2.name, .int .u8 (s133.2.2.kind.toNat : Int), .string s133.2.2.one, .string s133.2.2.both] 54 :: obS (α := portref2_piece) 54 v198 x197 :: []) := hH201
                        refine V_y (Y_assign rfl) rfl rfl rfl ?_
                        refine V_to (fun _ _ => rfl) ?_
                        refine C_seq ?_
                        refine C_region ?_
                        refine V_y (Y_assign rfl) rfl rfl rfl ?_
                        refine V_to (fun _ _ => rfl) ?_
                        refine C_region ?_
                        refine V_y (Y_move rfl) rfl rfl rfl ?_
                        refine V_y (Y_addI rfl rfl) rfl rfl rfl ?_
                        refine V_y (Y_assign rfl) rfl rfl rfl ?_
                        obtain rfl := Option.some.inj ho67
                        refine V_end (fun a ha203 => ?_)
                        replace hH : Hp w.heap.size A200 w199 (obS (α := portref2_piece) 54 v198 x197 :: obC (b124 0) [.string s133.2.2.text, .string s133.2.2.name, .int .u8 (s133.2.2.kind.toNat : Int), .string s133.2.2.one, .string s133.2.2.both] 54 :: []) := Hp.front hH (i := 1) rfl
                        replace hH : Hp w.heap.size A200 w199 (obS (α := portref2_piece) 54 v198 x197 :: []) := Hp.drop hH (i := 1) rfl
                        exact ⟨((x197, w64 (s133.2.1 + 2), (⟨#[]⟩ : ByteArray)), v198, A200), ha203.sub ⟨rfl, rfl, rfl, rfl, trivial⟩, ⟨rfl, hH, hr69⟩⟩
              rintro ⟨s68, v70, A75⟩ w72 ⟨rfl, hH76, hk73⟩ a ha74
              rw [Lp.andThen_fin] at ho47
              replace hK := Tr.trans (Dw := Dw) hK hk73
              replace hr3 := Tr.trans (Dw := Dw) hr3 hk73
              replace hr28 := Tr.trans (Dw := Dw) hr28 hk73
              replace hr38 := Tr.trans (Dw := Dw) hr38 hk73
              replace hr49 := Tr.trans (Dw := Dw) hr49 hk73
              replace hB := Nat.le_trans hB hk73.ex.size
              replace hA := hk73.new
              replace hH : Hp w.heap.size A75 w72 (obS (α := portref2_piece) 54 v70 s68.1 :: []) := hH76
              obtain rfl := Option.some.inj ho47
              exact ⟨((s68.1, s68.2.1, s68.2.2), v70, A75), ha74.sub ⟨rfl, rfl, rfl, rfl, trivial⟩, ⟨rfl, hH, hr49⟩⟩
          rintro ⟨s48, v50, A55⟩ w52 ⟨rfl, hH56, hk53⟩ a ha54
          rw [Lp.andThen_fin] at ho36
          replace hK := Tr.trans (Dw := Dw) hK hk53
          replace hr3 := Tr.trans (Dw := Dw) hr3 hk53
          replace hr28 := Tr.trans (Dw := Dw) hr28 hk53
          replace hr38 := Tr.trans (Dw := Dw) hr38 hk53
          replace hB := Nat.le_trans hB hk53.ex.size
          replace hA := hk53.new
          replace hH : Hp w.heap.size A55 w52 (obS (α := portref2_piece) 54 v50 s48.1 :: []) := hH56
          obtain rfl := Option.some.inj ho36
          exact ⟨((s48.1, s48.2.1, s48.2.2), v50, A55), ha54.sub ⟨rfl, rfl, rfl, rfl, trivial⟩, ⟨rfl, hH, hr38⟩⟩
        rintro ⟨s37, v39, A44⟩ w41 ⟨rfl, hH45, hk42⟩ a ha43
        rw [Lp.andThen_fin] at ho26
        replace hK := Tr.trans (Dw := Dw) hK hk42
        replace hr3 := Tr.trans (Dw := Dw) hr3 hk42
        replace hr28 := Tr.trans (Dw := Dw) hr28 hk42
        replace hB := Nat.le_trans hB hk42.ex.size
        replace hA := hk42.new
        replace hH : Hp w.heap.size A44 w41 (obS (α := portref2_piece) 54 v39 s37.1 :: []) := hH45
        obtain rfl := Option.some.inj ho26
        exact ⟨((s37.1, s37.2.1, s37.2.2), v39, A44), ha43.sub ⟨rfl, rfl, rfl, rfl, trivial⟩, ⟨rfl, hH, hr28⟩⟩
      rintro ⟨s27, v29, A34⟩ w31 ⟨rfl, hH35, hk32⟩ a ha33
      rw [Lp.andThen_fin] at h19
      replace hK := Tr.trans (Dw := Dw) hK hk32
      replace hr3 := Tr.trans (Dw := Dw) hr3 hk32
      replace hB := Nat.le_trans hB hk32.ex.size
      replace hA := hk32.new
      replace hH : Hp w.heap.size A34 w31 (obS (α := portref2_piece) 54 v29 s27.1 :: []) := hH35
      obtain rfl := Option.some.inj h19
      exact ⟨(s27.1, s27.2.1, s27.2.2), h20, ⟨(v29, A34), ha33.sub ⟨rfl, rfl, rfl, rfl, trivial⟩, ⟨hH, hr3⟩⟩⟩
    · rw [if_neg (nt hc25)] at h19
      obtain rfl := Option.some.inj h19
      refine C_exit (fun a ha208 => ?_)
      exact ⟨((s12.1, s12.2.1, s12.2.2), v14, A16), ha208.sub ⟨rfl, rfl, trivial⟩, ⟨h20.symm, hH, hr3⟩⟩
  rintro ⟨s2, v8, A10⟩ w5 ⟨rfl, hH11, hk6⟩ a ha7
  rw [Lp.andThen_fin] at hm
  replace hK := Tr.trans (Dw := Dw) hK hk6
  replace hB := Nat.le_trans hB hk6.ex.size
  replace hA := hk6.new
  replace hH : Hp w.heap.size A10 w5 (obS (α := portref2_piece) 54 v8 s2.1 :: []) := hH11
  refine C_at (n := ⟨220, [], none⟩) (fun _ _ => rfl) ?_ ha7
  refine C_seq ?_
  refine C_region ?_
  refine V_y (Y_move rfl) rfl rfl rfl ?_
  refine V_y (Y_move rfl) rfl rfl rfl ?_
  refine V_y (Y_build Tryd.underlying54 Tryd.zeroValue54 (Tryd_places54 _ Tryd.underlying54) rfl (by with_unfolding_all rfl)) rfl rfl rfl ?_
  refine V_buildSlice (Dw := Dw) (cells := #[.string s2.2.2, .string ByteArray.empty, .int .u8 0, .string ByteArray.empty, .string ByteArray.empty]) (l := ([(⟨s2.2.2, ByteArray.empty, 0, ByteArray.empty, ByteArray.empty⟩ : portref2_piece)] : List portref2_piece)) (len := 1) Tryd.underlying46 Tryd.sizeOf54 Tryd.zeroValue54 rfl (by kernel_rfl) (show (1 * 5 : Nat) ≠ 0 by decide) (show (1 * 5 : Nat) ≤ 2 ^ 24 by decide) hA ⟨[.string s2.2.2, .string ByteArray.empty, .int .u8 0, .string ByteArray.empty, .string ByteArray.empty], _, rfl, ⟨[.string s2.2.2], _, rfl, rfl, ⟨[.string ByteArray.empty], _, rfl, rfl, ⟨[.int .u8 0], _, rfl, rfl, ⟨[.string ByteArray.empty], _, rfl, rfl, rfl⟩⟩⟩⟩, rfl⟩ rfl rfl ?_
  intro v210 w211 hk213 h212
  have ht214 := Kp.tr (Dw := Dw) hk213 hA hB
  replace hH := Hp.kp (Dw := Dw) hH hk213
  replace hK := Tr.trans (Dw := Dw) hK ht214
  replace hB := Nat.le_trans hB ht214.ex.size
  replace hA := ht214.new
  obtain ⟨x215, hx215, hm⟩ := Option.bind_eq_some_iff.1 hm
  refine V_appendH (Dw := Dw) (e := 54) (v := v8) (l := s2.1) (ti := Tryd.t54) (bytes := 72) (lim := 1954687338268) hH (i := 0) rfl h212 hx215 Tryd.underlying46 Tryd_info54 rfl rfl rfl rfl (by decide) (by decide) (by decide) hB hA rfl rfl rfl ?_
  intro v216 w217 A218 hH219 ht220
  replace h212 := Sl.tr (Dw := Dw) h212 ht220
  replace hK := Tr.trans (Dw := Dw) hK ht220
  replace hB := Nat.le_trans hB ht220.ex.size
  replace hA := ht220.new
  replace hH : Hp w.heap.size A218 w217 (obS (α := portref2_piece) 54 v216 x215 :: []) := hH219
  refine V_y (Y_assign rfl) rfl rfl rfl ?_
  refine V_y (Y_assign rfl) rfl rfl rfl ?_
  refine V_y (Y_assign rfl) rfl rfl rfl ?_
  refine V_to (fun _ _ => rfl) ?_
  obtain rfl := Option.some.inj hm
  refine C_ret ?_
  try simp only [↓inBlock_ret, ↓then_ret]
  exact retQ rfl (Res.three Tryd.results24 rfl rfl rfl) ⟨v216, rfl, (Hp.ownd hH (i := 0) rfl), hK.kp⟩

set_option maxRecDepth 4000 in
set_option maxHeartbeats 4000000 in
theorem portref2_TemplateFault_c (w : World) {A : Nat → Prop} (hA : ∀ b, w.heap.size ≤ b → A b) (hT : Mx Tryd.prog 0 A w) (s : ByteArray) {r : ((List portref2_piece) × Int × Int)} (hm : portref2_TemplateFault s = some r) : Ret Tryd.prog 11 #[.string s] w fun v w' => ∃ s0, v = .tuple #[s0, .int .i64 r.2.1, .int .i64 r.2.2] ∧ Sl A w' s0 r.1 ∧ Kp False w w' := by
  unfold portref2_TemplateFault at hm
  refine enter Tryd.func11 rfl Tryd.ntmps11 rfl ?_
  have hA0 := hA
  have hB := Nat.le_refl w.heap.size
  have hK : Tr False w.heap.size A w A w := Tr.refl (Dw := False) hA
  have hH : Hp w.heap.size A w [] := Hp.nil
  refine C_seq ?_
  refine C_region ?_
  refine V_y (Y_assign rfl) rfl rfl rfl ?_
  refine V_y (Y_assign rfl) rfl rfl rfl ?_
  refine V_y (Y_assign rfl) rfl rfl rfl ?_
  refine V_to (fun _ _ => rfl) ?_
  refine C_seq ?_
  refine C_seq ?_
  refine C_region ?_
  refine V_y (Y_move rfl) rfl rfl rfl ?_
  refine V_y (Y_lenStr rfl Tryd.underlying9 rfl) rfl rfl rfl ?_
  refine V_y (Y_gtr rfl rfl) rfl rfl rfl ?_
  refine V_to (fun _ _ => rfl) ?_
  refine C_cond rfl (fun hc1 => ?_) (fun hc1 => ?_)
  · rw [if_pos hc1] at hm
    refine C_seq ?_
    refine C_region ?_
    refine V_y (Y_assign rfl) rfl rfl rfl ?_
    refine V_y (Y_assign rfl) rfl rfl rfl ?_
    refine V_y (Y_assign rfl) rfl rfl rfl ?_
    refine V_to (fun _ _ => rfl) ?_
    obtain rfl := Option.some.inj hm
    refine C_ret ?_
    try simp only [↓inBlock_ret, ↓then_ret]
    exact retQ rfl (Res.three Tryd.results11 rfl rfl rfl) ⟨.slice none 0 0, rfl, Sl.nil, hK.kp⟩
  · rw [if_neg (nt hc1)] at hm
    refine C_skip_to (fun _ _ => rfl) ?_
    refine C_seq ?_
    refine C_seq ?_
    refine C_region ?_
    refine V_y (Y_move rfl) rfl rfl rfl ?_
    obtain ⟨x2, hx2, hm⟩ := Option.bind_eq_some_iff.1 hm
    refine V_call Tryd.call23 rfl rfl rfl rfl (strings_ReplaceAll_c w hA (Mx.tr (Dw := False) hT hK) s (⟨#[10]⟩ : ByteArray) (⟨#[]⟩ : ByteArray) hx2) ?_
    rintro _ w3 ⟨rfl, hk4⟩
    have ht5 := Kp.tr (Dw := False) hk4 hA hB
    replace hH := Hp.kp (Dw := False) hH hk4
    replace hK := Tr.trans (Dw := False) hK ht5
    replace hB := Nat.le_trans hB ht5.ex.size
    replace hA := ht5.new
    obtain ⟨x6, hx6, hm⟩ := Option.bind_eq_some_iff.1 hm
    refine V_call Tryd.call22 rfl rfl rfl rfl (portref2_lowByte_c w3 hA x2 hx6) ?_
    rintro _ w7 ⟨rfl, hk8⟩
    have ht9 := Kp.tr (Dw := False) hk8 hA hB
    replace hH := Hp.kp (Dw := False) hH hk8
    replace hK := Tr.trans (Dw := False) hK ht9
    replace hB := Nat.le_trans hB ht9.ex.size
    replace hA := ht9.new
    refine V_to (fun _ _ => rfl) ?_
    refine C_cond rfl (fun hc10 => ?_) (fun hc10 => ?_)
    · rw [if_pos hc10] at hm
      refine C_seq ?_
      refine C_region ?_
      refine V_y (Y_assign rfl) rfl rfl rfl ?_
      refine V_y (Y_assign rfl) rfl rfl rfl ?_
      refine V_y (Y_assign rfl) rfl rfl rfl ?_
      refine V_to (fun _ _ => rfl) ?_
      obtain rfl := Option.some.inj hm
      refine C_ret ?_
      try simp only [↓inBlock_ret, ↓then_ret]
      exact retQ rfl (Res.three Tryd.results11 rfl rfl rfl) ⟨.slice none 0 0, rfl, Sl.nil, hK.kp⟩
    · rw [if_neg (nt hc10)] at hm
      refine C_skip_to (fun _ _ => rfl) ?_
      refine C_seq ?_
      refine C_region ?_
      refine V_y (Y_move rfl) rfl rfl rfl ?_
      obtain ⟨x11, hx11, hm⟩ := Option.bind_eq_some_iff.1 hm
      refine V_call Tryd.call24 rfl rfl rfl rfl (portref2_templateOf_c (Dw := False) w7 hA s hx11) ?_
      rintro _ w14 ⟨v12, rfl, h13, hk15⟩
      obtain ⟨A16, ht17, hH18⟩ := Hp.addOwnd (Dw := False) hH hB hA hk15 h13
      replace hK := Tr.trans (Dw := False) hK ht17
      replace hB := Nat.le_trans hB ht17.ex.size
      replace hA := ht17.new
      replace hH : Hp w.heap.size A16 w14 (obS (α := portref2_piece) 54 v12 x11.1 :: []) := hH18
      refine V_y (Y_move rfl) rfl rfl rfl ?_
      refine V_y (Y_extract rfl rfl) rfl rfl rfl ?_
      refine V_y (Y_extract rfl rfl) rfl rfl rfl ?_
      refine V_y (Y_extract rfl rfl) rfl rfl rfl ?_
      refine V_y (Y_assign rfl) rfl rfl rfl ?_
      refine V_y (Y_assign rfl) rfl rfl rfl ?_
      refine V_y (Y_assign rfl) rfl rfl rfl ?_
      refine V_to (fun _ _ => rfl) ?_
      refine C_seq ?_
      refine C_seq ?_
      refine C_region ?_
      refine V_y (Y_move rfl) rfl rfl rfl ?_
      refine V_y (Y_not rfl) rfl rfl rfl ?_
      refine V_to (fun _ _ => rfl) ?_
      refine C_cond rfl (fun hc19 => ?_) (fun hc19 => ?_)
      · rw [if_pos hc19] at hm
        refine C_seq ?_
        refine C_region ?_
        refine V_y (Y_move rfl) rfl rfl rfl ?_
        refine V_y (Y_assign rfl) rfl rfl rfl ?_
        refine V_y (Y_assign rfl) rfl rfl rfl ?_
        refine V_y (Y_assign rfl) rfl rfl rfl ?_
        refine V_to (fun _ _ => rfl) ?_
        obtain rfl := Option.some.inj hm
        refine C_ret ?_
        try simp only [↓inBlock_ret, ↓then_ret]
        exact retQ rfl (Res.three Tryd.results11 rfl rfl rfl) ⟨.slice none 0 0, rfl, Sl.nil, hK.kp⟩
      · rw [if_neg (nt hc19)] at hm
        refine C_skip_to (fun _ _ => rfl) ?_
        refine C_seq ?_
        refine C_seq ?_
        refine C_region ?_
        refine V_y (Y_move rfl) rfl rfl rfl ?_
        refine V_y (Y_lenSl (Hp.any (α := portref2_piece) (e := 54) (v := v12) (l := x11.1) hH (i := 0) rfl) rfl Tryd.underlying46 rfl) rfl rfl rfl ?_
        refine V_y (Y_quo (by rw [quo, if_neg (by decide)]) rfl rfl) rfl rfl rfl ?_
        refine V_y (Y_gtr rfl rfl) rfl rfl rfl ?_
        refine V_to (fun _ _ => rfl) ?_
        refine C_cond rfl (fun hc20 => ?_) (fun hc20 => ?_)
        · rw [if_pos hc20] at hm
          refine C_seq ?_
          refine C_region ?_
          refine V_y (Y_assign rfl) rfl rfl rfl ?_
          refine V_y (Y_assign rfl) rfl rfl rfl ?_
          refine V_y (Y_assign rfl) rfl rfl rfl ?_
          refine V_to (fun _ _ => rfl) ?_
          obtain rfl := Option.some.inj hm
          refine C_ret ?_
          try simp only [↓inBlock_ret, ↓then_ret]
          exact retQ rfl (Res.three Tryd.results11 rfl rfl rfl) ⟨.slice none 0 0, rfl, Sl.nil, hK.kp⟩
        · rw [if_neg (nt hc20)] at hm
          refine C_skip_to (fun _ _ => rfl) ?_
          refine C_seq ?_
          refine C_region ?_
          refine V_y (Y_move rfl) rfl rfl rfl ?_
          refine V_y (Y_assign rfl) rfl rfl rfl ?_
          refine V_y (Y_assign rfl) rfl rfl rfl ?_
          refine V_y (Y_assign rfl) rfl rfl rfl ?_
          refine V_to (fun _ _ => rfl) ?_
          obtain rfl := Option.some.inj hm
          obtain ⟨A21, ht22, h23, hH24⟩ := Hp.freeze (Dw := False) (α := portref2_piece) (v := v12) (l := x11.1) hH (i := 0) rfl hA
          replace hK := Tr.trans (Dw := False) hK ht22
          replace hB := Nat.le_trans hB ht22.ex.size
          replace hA := ht22.new
          replace hH : Hp w.heap.size A21 w14 ([]) := hH24
          refine C_ret ?_
          try simp only [↓inBlock_ret, ↓then_ret]
          exact retQ rfl (Res.three Tryd.results11 rfl rfl rfl) ⟨v12, rfl, (Sl.out (Dw := False) h23 hA0 hK), hK.kp⟩

def Tryd_strings_Trim_lay_ren : Go.Shelf.Ren := ⟨fun | 119 => 67 | 120 => 63 | 137 => 34 | 151 => 54 | 152 => 62 | 160 => 25 | 197 => 51 | 217 => 52 | 224 => 65 | 225 => 64 | 227 => 38 | 228 => 53 | 231 => 36 | 232 => 37 | 233 => 39 | 234 => 40 | 235 => 41 | 236 => 42 | 260 => 60 | 266 => 61 | 271 => 55 | n => n, fun | 0 => 0 | 1 => 1 | 2 => 2 | 3 => 3 | 4 => 4 | 5 => 5 | 6 => 6 | 7 => 7 | 8 => 8 | 9 => 9 | 10 => 10 | 11 => 11 | 12 => 12 | 13 => 13 | 14 => 14 | 15 => 15 | 16 => 16 | 17 => 17 | 18 => 18 | 19 => 19 | 20 => 20 | 21 => 21 | 23 => 68 | 24 => 39 | 27 => 92 | 31 => 52 | 37 => 34 | 40 => 63 | 41 => 62 | 46 => 100 | 51 => 105 | 55 => 78 | 63 => 95 | 64 => 98 | 65 => 77 | 66 => 65 | 67 => 55 | 69 => 88 | 70 => 33 | 71 => 35 | 72 => 36 | 73 => 69 | 74 => 40 | 75 => 41 | 76 => 42 | 77 => 43 | 78 => 89 | 80 => 45 | 81 => 44 | 103 => 97 | 104 => 51 | 105 => 93 | 106 => 94 | 114 => 99 | 115 => 82 | 116 => 83 | 117 => 84 | 118 => 85 | 119 => 101 | 122 => 81 | 123 => 86 | 124 => 87 | 127 => 64 | 137 => 102 | 138 => 103 | 139 => 104 | 146 => 106 | 151 => 107 | 155 => 91 | 164 => 75 | 165 => 76 | 166 => 96 | 238 => 108 | 239 => 109 | 240 => 110 | 241 => 111 | 242 => 112 | 243 => 113 | 244 => 114 | 245 => 115 | 246 => 116 | 247 => 117 | 248 => 118 | 249 => 119 | n => n, fun | 1 => 0 | 3 => 1 | 4 => 2 | n => n⟩
theorem Tryd_strings_Trim_lay : Go.Proofs.Lays.n160 Tryd.prog Tryd_strings_Trim_lay_ren := {
  mixed := by kernel_rfl,
  f119 := Tryd.func67.trans (congrArg some (by kernel_rfl)),
  f120 := Tryd.func63.trans (congrArg some (by kernel_rfl)),
  f137 := Tryd.func34.trans (congrArg some (by kernel_rfl)),
  f151 := Tryd.func54.trans (congrArg some (by kernel_rfl)),
  f152 := Tryd.func62.trans (congrArg some (by kernel_rfl)),
  f160 := Tryd.func25.trans (congrArg some (by kernel_rfl)),
  f197 := Tryd.func51.trans (congrArg some (by kernel_rfl)),
  f217 := Tryd.func52.trans (congrArg some (by kernel_rfl)),
  f224 := Tryd.func65.trans (congrArg some (by kernel_rfl)),
  f225 := Tryd.func64.trans (congrArg some (by kernel_rfl)),
  f227 := Tryd.func38.trans (congrArg some (by kernel_rfl)),
  f228 := Tryd.func53.trans (congrArg some (by kernel_rfl)),
  f231 := Tryd.func36.trans (congrArg some (by kernel_rfl)),
  f232 := Tryd.func37.trans (congrArg some (by kernel_rfl)),
  f233 := Tryd.func39.trans (congrArg some (by kernel_rfl)),
  f234 := Tryd.func40.trans (congrArg some (by kernel_rfl)),
  f235 := Tryd.func41.trans (congrArg some (by kernel_rfl)),
  f236 := Tryd.func42.trans (congrArg some (by kernel_rfl)),
  f260 := Tryd.func60.trans (congrArg some (by kernel_rfl)),
  f266 := Tryd.func61.trans (congrArg some (by kernel_rfl)),
  f271 := Tryd.func55.trans (congrArg some (by kernel_rfl)),
  t0 := Tryd.underlying0,
  a0 := Tryd.isAgg0,
  z0 := Tryd.sizeOf0,
  v0 := Tryd.zeroValue0,
  t3 := Tryd.underlying3,
  a3 := Tryd.isAgg3,
  z3 := Tryd.sizeOf3,
  v3 := Tryd.zeroValue3,
  t4 := Tryd.underlying4,
  a4 := Tryd.isAgg4,
  z4 := Tryd.sizeOf4,
  v4 := Tryd.zeroValue4,
  t5 := Tryd.underlying5,
  a5 := Tryd.isAgg5,
  z5 := Tryd.sizeOf5,
  v5 := Tryd.zeroValue5,
  t9 := Tryd.underlying9,
  a9 := Tryd.isAgg9,
  z9 := Tryd.sizeOf9,
  v9 := Tryd.zeroValue9,
  t21 := Tryd.underlying21,
  a21 := Tryd.isAgg21,
  z21 := Tryd.sizeOf21,
  v21 := Tryd.zeroValue21,
  t46 := Tryd.underlying100,
  a46 := Tryd.isAgg100,
  z46 := Tryd.sizeOf100,
  v46 := Tryd.zeroValue100,
  t105 := Tryd.underlying93,
  a105 := Tryd.isAgg93,
  z105 := Tryd.sizeOf93,
  v105 := Tryd.zeroValue93,
  t116 := Tryd.underlying83,
  a116 := Tryd.isAgg83,
  z116 := Tryd.sizeOf83,
  t117 := Tryd.underlying84,
  a117 := Tryd.isAgg84,
  z117 := Tryd.sizeOf84,
  v117 := Tryd.zeroValue84,
  t119 := Tryd.underlying101,
  a119 := Tryd.isAgg101,
  z119 := Tryd.sizeOf101,
  t124 := Tryd.underlying87,
  a124 := Tryd.isAgg87,
  z124 := Tryd.sizeOf87,
  v124 := Tryd.zeroValue87,
  t138 := Tryd.underlying103,
  a138 := Tryd.isAgg103,
  z138 := Tryd.sizeOf103,
  v138 := Tryd.zeroValue103,
  t139 := Tryd.underlying104,
  a139 := Tryd.isAgg104,
  z139 := Tryd.sizeOf104,
  v139 := Tryd.zeroValue104,
  g3 := by kernel_rfl,
  g4 := by kernel_rfl }
theorem strings_Trim_c (w : World) {A : Nat → Prop} (hA : ∀ b, w.heap.size ≤ b → A b) (s : ByteArray) (cutset : ByteArray) {r : ByteArray} (hm : strings_Trim s cutset = some r) : Ret Tryd.prog 25 #[.string s, .string cutset] w fun v w' => v = .string r ∧ Kp False w w' := by
  unfold strings_Trim at hm
  split at hm
  case isFalse => cases hm
  rename_i h
  obtain rfl := Option.some.inj hm
  refine Calls.mono (Go.Proofs.Any.strings_Trim_laid Tryd_strings_Trim_lay (by kernel_rfl) s cutset w h.1 h.2.1 (Go.Proofs.ascii_of_all h.2.2)) ?_
  rintro _ w' ⟨rfl, hk⟩
  exact ⟨_, rfl, rfl, .of hk⟩

set_option maxRecDepth 4000 in
set_option maxHeartbeats 4000000 in
theorem portref2_IsName_c (w : World) {A : Nat → Prop} (hA : ∀ b, w.heap.size ≤ b → A b) (s : ByteArray) {r : Bool} (hm : portref2_IsName s = some r) : Ret Tryd.prog 12 #[.string s] w fun v w' => v = .bool r ∧ Kp False w w' := by
  unfold portref2_IsName at hm
  refine enter Tryd.func12 rfl Tryd.ntmps12 rfl ?_
  have hA0 := hA
  have hB := Nat.le_refl w.heap.size
  have hK : Tr False w.heap.size A w A w := Tr.refl (Dw := False) hA
  have hH : Hp w.heap.size A w [] := Hp.nil
  refine C_seq ?_
  refine C_region ?_
  refine V_y (Y_assign rfl) rfl rfl rfl ?_
  refine V_to (fun _ _ => rfl) ?_
  refine C_seq ?_
  obtain ⟨s2, ho1, hm⟩ := Option.bind_eq_some_iff.1 hm
  refine C_cutG (ι := (Nat → Prop)) (fun (A7 : (Nat → Prop)) => [(2, .bool s2)]) (fun (A7 : (Nat → Prop)) => fun w' => Hp w.heap.size A7 w' ([]) ∧ Tr False w.heap.size A w A7 w') ?_ ?_
  · have hr3 : Tr False w.heap.size A w A w := Tr.refl (Dw := False) hA
    refine C_region ?_
    refine V_y (Y_move rfl) rfl rfl rfl ?_
    refine V_y (Y_lenStr rfl Tryd.underlying9 rfl) rfl rfl rfl ?_
    refine V_y (Y_geq rfl rfl) rfl rfl rfl ?_
    refine V_y (Y_move rfl) rfl rfl rfl ?_
    rcases Bool.eq_false_or_eq_true (decide ((1 : Int) ≤ (s.size : Int))) with hc9 | hc9
    · rw [if_pos hc9] at ho1
      refine V_ge rfl rfl rfl hc9 ?_
      refine V_y (Y_move rfl) rfl rfl rfl ?_
      refine V_ge rfl rfl rfl hc9 ?_
      refine V_y (Y_lenStr rfl Tryd.underlying9 rfl) rfl rfl rfl ?_
      refine V_ge rfl rfl rfl hc9 ?_
      refine V_y (Y_leq rfl rfl) rfl rfl rfl ?_
      refine V_y (Y_pick_te rfl hc9 rfl) rfl rfl rfl ?_
      refine V_y (Y_move rfl) rfl rfl rfl ?_
      rcases Bool.eq_false_or_eq_true (decide ((s.size : Int) ≤ 20)) with hc10 | hc10
      · rw [if_pos hc10] at ho1
        refine V_ge rfl rfl rfl hc10 ?_
        refine V_y (Y_move rfl) rfl rfl rfl ?_
        refine V_ge rfl rfl rfl hc10 ?_
        obtain ⟨x11, hx11, ho1⟩ := Option.bind_eq_some_iff.1 ho1
        refine V_call Tryd.call25 rfl rfl rfl rfl (strings_Trim_c w hA s (⟨#[97, 98, 99, 100, 101, 102, 103, 104, 105, 106, 107, 108, 109, 110, 111, 112, 113, 114, 115, 116, 117, 118, 119, 120, 121, 122, 48, 49, 50, 51, 52, 53, 54, 55, 56, 57, 95]⟩ : ByteArray) hx11) ?_
        rintro _ w12 ⟨rfl, hk13⟩
        have ht14 := Kp.tr (Dw := False) hk13 hA hB
        replace hH := Hp.kp (Dw := False) hH hk13
        replace hK := Tr.trans (Dw := False) hK ht14
        replace hr3 := Tr.trans (Dw := False) hr3 ht14
        replace hB := Nat.le_trans hB ht14.ex.size
        replace hA := ht14.new
        refine V_ge rfl rfl rfl hc10 ?_
        refine V_y (Y_seql rfl rfl) rfl rfl rfl ?_
        refine V_y (Y_pick_te rfl hc10 rfl) rfl rfl rfl ?_
        refine V_y (Y_assign rfl) rfl rfl rfl ?_
        obtain rfl := Option.some.inj ho1
        refine V_end (fun a ha15 => ?_)
        exact ⟨A, ha15.sub ⟨rfl, trivial⟩, ⟨hH, hr3⟩⟩
      · rw [if_neg (nt hc10)] at ho1
        refine V_gn rfl rfl rfl hc10 rfl rfl rfl ?_
        refine V_gn rfl rfl rfl hc10 rfl rfl rfl ?_
        refine V_gn rfl rfl rfl hc10 rfl rfl rfl ?_
        refine V_y (Y_pick_fe rfl hc10 rfl) rfl rfl rfl ?_
        refine V_y (Y_assign rfl) rfl rfl rfl ?_
        obtain rfl := Option.some.inj ho1
        refine V_end (fun a ha16 => ?_)
        exact ⟨A, ha16.sub ⟨rfl, trivial⟩, ⟨hH, hr3⟩⟩
    · rw [if_neg (nt hc9)] at ho1
      refine V_gn rfl rfl rfl hc9 rfl rfl rfl ?_
      refine V_gn rfl rfl rfl hc9 rfl rfl rfl ?_
      refine V_gn rfl rfl rfl hc9 rfl rfl rfl ?_
      refine V_y (Y_pick_fe rfl hc9 rfl) rfl rfl rfl ?_
      refine V_y (Y_move rfl) rfl rfl rfl ?_
      rcases Bool.eq_false_or_eq_true (false) with hc17 | hc17
      · rw [if_pos hc17] at ho1
        refine V_ge rfl rfl rfl hc17 ?_
        refine V_y (Y_move rfl) rfl rfl rfl ?_
        refine V_ge rfl rfl rfl hc17 ?_
        obtain ⟨x18, hx18, ho1⟩ := Option.bind_eq_some_iff.1 ho1
        refine V_call Tryd.call25 rfl rfl rfl rfl (strings_Trim_c w hA s (⟨#[97, 98, 99, 100, 101, 102, 103, 104, 105, 106, 107, 108, 109, 110, 111, 112, 113, 114, 115, 116, 117, 118, 119, 120, 121, 122, 48, 49, 50, 51, 52, 53, 54, 55, 56, 57, 95]⟩ : ByteArray) hx18) ?_
        rintro _ w19 ⟨rfl, hk20⟩
        have ht21 := Kp.tr (Dw := False) hk20 hA hB
        replace hH := Hp.kp (Dw := False) hH hk20
        replace hK := Tr.trans (Dw := False) hK ht21
        replace hr3 := Tr.trans (Dw := False) hr3 ht21
        replace hB := Nat.le_trans hB ht21.ex.size
        replace hA := ht21.new
        refine V_ge rfl rfl rfl hc17 ?_
        refine V_y (Y_seql rfl rfl) rfl rfl rfl ?_
        refine V_y (Y_pick_te rfl hc17 rfl) rfl rfl rfl ?_
        refine V_y (Y_assign rfl) rfl rfl rfl ?_
        obtain rfl := Option.some.inj ho1
        refine V_end (fun a ha22 => ?_)
        exact ⟨A, ha22.sub ⟨rfl, trivial⟩, ⟨hH, hr3⟩⟩
      · rw [if_neg (nt hc17)] at ho1
        refine V_gn rfl rfl rfl hc17 rfl rfl rfl ?_
        refine V_gn rfl rfl rfl hc17 rfl rfl rfl ?_
        refine V_gn rfl rfl rfl hc17 rfl rfl rfl ?_
        refine V_y (Y_pick_fe rfl hc17 rfl) rfl rfl rfl ?_
        refine V_y (Y_assign rfl) rfl rfl rfl ?_
        obtain rfl := Option.some.inj ho1
        refine V_end (fun a ha23 => ?_)
        exact ⟨A, ha23.sub ⟨rfl, trivial⟩, ⟨hH, hr3⟩⟩
  rintro A7 w4 ⟨hH8, hk5⟩ a ha6
  replace hK := Tr.trans (Dw := False) hK hk5
  replace hB := Nat.le_trans hB hk5.ex.size
  replace hA := hk5.new
  replace hH : Hp w.heap.size A7 w4 ([]) := hH8
  refine C_at (n := ⟨16, [], none⟩) (fun _ _ => rfl) ?_ ha6
  obtain rfl := Option.some.inj hm
  refine C_ret ?_
  try simp only [↓inBlock_ret, ↓then_ret]
  exact retQ rfl (Res.one Tryd.results12 rfl) ⟨rfl, hK.kp⟩

def Tryd_strings_Join_lay_ren : Go.Shelf.Ren := ⟨fun | 156 => 13 | 165 => 26 | 166 => 8 | 169 => 10 | 240 => 21 | 241 => 43 | 276 => 31 | 277 => 56 | n => n, fun | 0 => 0 | 1 => 1 | 2 => 2 | 3 => 3 | 4 => 4 | 5 => 5 | 6 => 6 | 7 => 7 | 8 => 8 | 9 => 9 | 10 => 10 | 11 => 11 | 12 => 12 | 13 => 13 | 14 => 14 | 15 => 15 | 16 => 16 | 17 => 17 | 18 => 18 | 19 => 19 | 20 => 20 | 21 => 21 | 23 => 68 | 24 => 39 | 27 => 92 | 31 => 52 | 37 => 34 | 40 => 63 | 41 => 62 | 46 => 100 | 51 => 105 | 55 => 78 | 63 => 95 | 64 => 98 | 65 => 77 | 66 => 65 | 67 => 55 | 69 => 88 | 70 => 33 | 71 => 35 | 72 => 36 | 73 => 69 | 74 => 40 | 75 => 41 | 76 => 42 | 77 => 43 | 78 => 89 | 80 => 45 | 81 => 44 | 103 => 97 | 104 => 51 | 105 => 93 | 106 => 94 | 114 => 99 | 115 => 82 | 116 => 83 | 117 => 84 | 118 => 85 | 119 => 101 | 122 => 81 | 123 => 86 | 124 => 87 | 127 => 64 | 137 => 102 | 138 => 103 | 139 => 104 | 146 => 106 | 151 => 107 | 155 => 91 | 164 => 75 | 165 => 76 | 166 => 96 | 238 => 108 | 239 => 109 | 240 => 110 | 241 => 111 | 242 => 112 | 243 => 113 | 244 => 114 | 245 => 115 | 246 => 116 | 247 => 117 | 248 => 118 | 249 => 119 | n => n, fun | 1 => 0 | 3 => 1 | 4 => 2 | n => n⟩
theorem Tryd_strings_Join_lay : Go.Proofs.Lays.n156 Tryd.prog Tryd_strings_Join_lay_ren := {
  mixed := by kernel_rfl,
  f156 := Tryd.func13.trans (congrArg some (by kernel_rfl)),
  f165 := Tryd.func26.trans (congrArg some (by kernel_rfl)),
  f166 := Tryd.func8.trans (congrArg some (by kernel_rfl)),
  f169 := Tryd.func10.trans (congrArg some (by kernel_rfl)),
  f240 := Tryd.func21.trans (congrArg some (by kernel_rfl)),
  f241 := Tryd.func43.trans (congrArg some (by kernel_rfl)),
  f276 := Tryd.func31.trans (congrArg some (by kernel_rfl)),
  f277 := Tryd.func56.trans (congrArg some (by kernel_rfl)),
  t0 := Tryd.underlying0,
  a0 := Tryd.isAgg0,
  z0 := Tryd.sizeOf0,
  v0 := Tryd.zeroValue0,
  t3 := Tryd.underlying3,
  a3 := Tryd.isAgg3,
  z3 := Tryd.sizeOf3,
  v3 := Tryd.zeroValue3,
  t4 := Tryd.underlying4,
  a4 := Tryd.isAgg4,
  z4 := Tryd.sizeOf4,
  v4 := Tryd.zeroValue4,
  t9 := Tryd.underlying9,
  a9 := Tryd.isAgg9,
  z9 := Tryd.sizeOf9,
  v9 := Tryd.zeroValue9,
  t20 := Tryd.underlying20,
  a20 := Tryd.isAgg20,
  z20 := Tryd.sizeOf20,
  v20 := Tryd.zeroValue20,
  t31 := Tryd.underlying52,
  a31 := Tryd.isAgg52,
  z31 := Tryd.sizeOf52,
  v31 := Tryd.zeroValue52,
  t37 := Tryd.underlying34,
  a37 := Tryd.isAgg34,
  z37 := Tryd.sizeOf34,
  v37 := Tryd.zeroValue34,
  t70 := Tryd.underlying33,
  a70 := Tryd.isAgg33,
  z70 := Tryd.sizeOf33,
  v70 := Tryd.zeroValue33,
  t72 := Tryd.underlying36,
  a72 := Tryd.isAgg36,
  z72 := Tryd.sizeOf36,
  v72 := Tryd.zeroValue36,
  t75 := Tryd.underlying41,
  a75 := Tryd.isAgg41,
  z75 := Tryd.sizeOf41,
  v75 := Tryd.zeroValue41,
  t76 := Tryd.underlying42,
  a76 := Tryd.isAgg42,
  z76 := Tryd.sizeOf42,
  v76 := Tryd.zeroValue42,
  t127 := Tryd.underlying64,
  a127 := Tryd.isAgg64,
  z127 := Tryd.sizeOf64,
  v127 := Tryd.zeroValue64,
  t164 := Tryd.underlying75,
  a164 := Tryd.isAgg75,
  z164 := Tryd.sizeOf75,
  v164 := Tryd.zeroValue75 }
theorem Tryd_strings_Join_lay_x : Go.Proofs.Builder.Extra Tryd.prog Tryd_strings_Join_lay_ren := {
  sizeBuilder := by kernel_rfl
  liesBuilder := by kernel_rfl
  t5 := Tryd.underlying5
  a5 := Tryd.isAgg5
  z5 := Tryd.sizeOf5
  v5 := Tryd.zeroValue5
  infoByte := by kernel_rfl
  cellsByte := by kernel_rfl
  sizeByte := by kernel_rfl
  neB5 := (by decide : (36 : Nat) ≠ 5) }
theorem strings_Join_c (w : World) {A : Nat → Prop} (hA : ∀ b, w.heap.size ≤ b → A b) (elems : List ByteArray) (v_e : Value) (h_e : Sl A w v_e elems) (sep : ByteArray) {r : ByteArray} (hm : strings_Join elems sep = some r) : Ret Tryd.prog 13 #[v_e, .string sep] w fun v w' => v = .string r ∧ Kp False w w' := by
  unfold strings_Join at hm
  split at hm
  case isFalse => cases hm
  rename_i h
  obtain rfl := Option.some.inj hm
  exact join_wrap h_e (fun a c => Go.Proofs.Any.strings_Join_none Tryd_strings_Join_lay Tryd_strings_Join_lay_x a c sep w) (fun bk o c h1 h2 h3 => Go.Proofs.Any.strings_Join Tryd_strings_Join_lay Tryd_strings_Join_lay_x bk o c elems sep w h1 h2 h.1 h3 h.2)

end Go.Proofs.YtfdhiclmjfkflaaDoor.W
