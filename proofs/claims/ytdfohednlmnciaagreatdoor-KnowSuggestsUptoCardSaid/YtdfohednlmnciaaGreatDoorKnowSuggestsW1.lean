/-
  Written by program (gen.py) from the IR of the dump: each function computes its model.
-/
import Derived.Test.YtdfohednlmnciaaGreatDoorKnowSuggestsW0
namespace Go.Proofs.YtdfohednlmnciaaGreatDoor.W
open Go Go.RowKit Go.Pu Go.Gw Go.Proofs Go.Proofs.YtdfohednlmnciaaGreatDoor.M
set_option linter.unusedVariables false
set_option linter.unusedSimpArgs false
variable {Dw : Prop}

def Tryz_strings_Compare_lay_ren : Go.Shelf.Ren := ⟨fun | 106 => 25 | 213 => 50 | 265 => 79 | n => n, fun | 0 => 0 | 1 => 1 | 2 => 2 | 3 => 3 | 4 => 4 | 5 => 5 | 6 => 6 | 7 => 7 | 8 => 8 | 9 => 9 | 10 => 10 | 11 => 11 | 12 => 12 | 13 => 13 | 14 => 14 | 15 => 15 | 16 => 16 | 17 => 17 | 18 => 18 | 19 => 19 | 20 => 20 | 21 => 21 | 22 => 63 | 23 => 79 | 27 => 59 | 28 => 22 | 29 => 53 | 30 => 73 | 31 => 37 | 37 => 85 | 40 => 133 | 41 => 65 | 43 => 46 | 46 => 68 | 47 => 67 | 51 => 94 | 52 => 93 | 53 => 96 | 54 => 95 | 55 => 132 | 63 => 120 | 64 => 126 | 68 => 38 | 69 => 56 | 80 => 135 | 81 => 141 | 104 => 80 | 105 => 118 | 106 => 119 | 111 => 69 | 112 => 105 | 114 => 134 | 115 => 99 | 116 => 100 | 117 => 101 | 118 => 102 | 119 => 128 | 122 => 98 | 123 => 103 | 124 => 104 | 127 => 145 | 131 => 70 | 137 => 129 | 138 => 130 | 139 => 131 | 164 => 151 | 182 => 87 | 183 => 88 | 218 => 107 | 219 => 108 | 220 => 109 | 222 => 111 | 228 => 121 | 229 => 122 | 238 => 136 | 239 => 137 | 240 => 138 | 241 => 139 | 242 => 140 | 243 => 142 | 244 => 143 | 245 => 144 | 246 => 146 | 247 => 147 | 248 => 148 | 249 => 149 | n => n, fun | 1 => 0 | 3 => 1 | 4 => 2 | n => n⟩
theorem Tryz_strings_Compare_lay : Go.Proofs.Lays.n106 Tryz.prog Tryz_strings_Compare_lay_ren := {
  mixed := by kernel_rfl,
  f106 := Tryz.func25.trans (congrArg some (by kernel_rfl)),
  f213 := Tryz.func50.trans (congrArg some (by kernel_rfl)),
  f265 := Tryz.func79.trans (congrArg some (by kernel_rfl)),
  t3 := Tryz.underlying3,
  a3 := Tryz.isAgg3,
  z3 := Tryz.sizeOf3,
  v3 := Tryz.zeroValue3,
  t9 := Tryz.underlying9,
  a9 := Tryz.isAgg9,
  z9 := Tryz.sizeOf9,
  v9 := Tryz.zeroValue9 }
theorem strings_Compare_c (w : World) {A : Nat → Prop} (hA : ∀ b, w.heap.size ≤ b → A b) (a : ByteArray) (b : ByteArray) {r : Int} (hm : strings_Compare a b = some r) : Ret Tryz.prog 25 #[.string a, .string b] w fun v w' => v = .int .i64 r ∧ Kp Dw w w' := by
  unfold strings_Compare at hm
  obtain rfl := Option.some.inj hm
  refine Calls.mono (Go.Proofs.Any.strings_Compare Tryz_strings_Compare_lay a b w) ?_
  rintro _ w' ⟨rfl, rfl⟩
  exact ⟨_, rfl, rfl, Kp.refl (Dw := Dw) _⟩

set_option maxRecDepth 4000 in
set_option maxHeartbeats 4000000 in
theorem know_Index_term_1_c (w : World) {A : Nat → Prop} (hA : ∀ b, w.heap.size ≤ b → A b) (t : know_Term) (v_t : Value) (h_t : Sl A w v_t t.list_) (w_ : ByteArray) {r : Int} (hm : know_Index_term_1 t w_ = some r) : Ret Tryz.prog 57 #[.agg #[.string t.word, v_t], .string w_] w fun v w' => v = .int .i64 r ∧ Kp Dw w w' := by
  unfold know_Index_term_1 at hm
  refine enter Tryz.func57 rfl Tryz.ntmps57 rfl ?_
  have hA0 := hA
  have hB := Nat.le_refl w.heap.size
  have hK : Tr Dw w.heap.size A w A w := Tr.refl (Dw := Dw) hA
  have hH : Hp w.heap.size A w [] := Hp.nil
  refine C_seq ?_
  refine C_region ?_
  refine V_box rfl rfl ?_
  intro b3 w4 h5
  have hk7 := h5.kp (Dw := Dw)
  have h6 : El (α := know_Term) A w4 b3 0 t := h5.el hA ⟨[.string t.word], _, rfl, rfl, ⟨_, rfl, h_t⟩⟩
  have ht8 := Kp.tr (Dw := Dw) hk7 hA hB
  replace hH := Hp.kp (Dw := Dw) hH hk7
  replace h_t := Sl.tr (Dw := Dw) h_t ht8
  replace hK := Tr.trans (Dw := Dw) hK ht8
  replace hB := Nat.le_trans hB ht8.ex.size
  replace hA := ht8.new
  refine V_y (Y_assign rfl) rfl rfl rfl ?_
  refine V_to (fun _ _ => rfl) ?_
  refine C_seq ?_
  refine C_region ?_
  have h9 := El_know_Term_0 h6
  refine V_y (Y_fieldAddr Tryz.underlying44 rfl Tryz.sizeOf9 (by decide) rfl) rfl rfl rfl ?_
  refine V_y (Y_load (El.str h9) Tryz.isAgg9 rfl) rfl rfl rfl ?_
  refine V_y (Y_move rfl) rfl rfl rfl ?_
  obtain ⟨x10, hx10, hm⟩ := Option.bind_eq_some_iff.1 hm
  refine V_call Tryz.call25 rfl rfl rfl rfl (strings_Compare_c (Dw := Dw) w4 hA t.word w_ hx10) ?_
  rintro _ w11 ⟨rfl, hk12⟩
  have ht13 := Kp.tr (Dw := Dw) hk12 hA hB
  replace hH := Hp.kp (Dw := Dw) hH hk12
  replace h6 := El.tr (Dw := Dw) h6 ht13
  replace h9 := El.tr (Dw := Dw) h9 ht13
  replace hK := Tr.trans (Dw := Dw) hK ht13
  replace hB := Nat.le_trans hB ht13.ex.size
  replace hA := ht13.new
  refine V_y (Y_assign rfl) rfl rfl rfl ?_
  refine V_to (fun _ _ => rfl) ?_
  obtain rfl := Option.some.inj hm
  refine C_ret ?_
  try simp only [↓inBlock_ret, ↓then_ret]
  exact retQ rfl (Res.one Tryz.results57 rfl) ⟨rfl, hK.kp⟩

set_option maxRecDepth 4000 in
set_option maxHeartbeats 4000000 in
theorem know_Index_term_c (w : World) {A : Nat → Prop} (hA : ∀ b, w.heap.size ≤ b → A b) (x : know_Index) (v_x0 : Value) (h_x0 : Sl A w v_x0 x.ids) (v_x1 : Value) (h_x1 : Sl A w v_x1 x.sizes) (v_x2 : Value) (h_x2 : Sl A w v_x2 x.terms) (word : ByteArray) {r : (know_Term × Bool)} (hm : know_Index_term x word = some r) : Ret Tryz.prog 32 #[.agg #[v_x0, v_x1, v_x2], .string word] w fun v w' => ∃ s0, v = .tuple #[.agg #[.string r.1.word, s0], .bool r.2] ∧ Sl A w' s0 r.1.list_ ∧ Kp Dw w w' := by
  unfold know_Index_term at hm
  refine enter Tryz.func32 rfl Tryz.ntmps32 rfl ?_
  have hA0 := hA
  have hB := Nat.le_refl w.heap.size
  have hK : Tr Dw w.heap.size A w A w := Tr.refl (Dw := Dw) hA
  have hH : Hp w.heap.size A w [] := Hp.nil
  refine C_seq ?_
  refine C_region ?_
  refine V_box rfl rfl ?_
  intro b7 w9 h10
  have hk12 := h10.kp (Dw := Dw)
  have h11 : El (α := know_Index) A w9 b7 0 x := h10.el hA ⟨[v_x0], _, rfl, ⟨_, rfl, h_x0⟩, ⟨[v_x1], _, rfl, ⟨_, rfl, h_x1⟩, ⟨_, rfl, h_x2⟩⟩⟩
  have ht13 := Kp.tr (Dw := Dw) hk12 hA hB
  replace hH := Hp.kp (Dw := Dw) hH hk12
  replace h_x0 := Sl.tr (Dw := Dw) h_x0 ht13
  replace h_x1 := Sl.tr (Dw := Dw) h_x1 ht13
  replace h_x2 := Sl.tr (Dw := Dw) h_x2 ht13
  replace hK := Tr.trans (Dw := Dw) hK ht13
  replace hB := Nat.le_trans hB ht13.ex.size
  replace hA := ht13.new
  refine V_allocH (Dw := Dw) (B := w.heap.size) hH Tryz.zeroValue44 hB hA rfl ?_
  intro b14 w15 A16 hH17 ht18
  replace h_x0 := Sl.tr (Dw := Dw) h_x0 ht18
  replace h_x1 := Sl.tr (Dw := Dw) h_x1 ht18
  replace h_x2 := Sl.tr (Dw := Dw) h_x2 ht18
  replace h11 := El.tr (Dw := Dw) h11 ht18
  replace hK := Tr.trans (Dw := Dw) hK ht18
  replace hB := Nat.le_trans hB ht18.ex.size
  replace hA := ht18.new
  replace hH : Hp w.heap.size A16 w15 (obC b14 [.string ByteArray.empty, .slice none 0 0] 44 :: []) := hH17
  refine V_y (Y_assign rfl) rfl rfl rfl ?_
  refine V_to (fun _ _ => rfl) ?_
  refine C_seq ?_
  refine C_region ?_
  have h19 := El_know_Index_2 h11
  refine V_y (Y_fieldAddr Tryz.underlying25 rfl Tryz.sizeOf23 (by decide) rfl) rfl rfl rfl ?_
  obtain ⟨v20, h21, h22⟩ := El.list h19
  refine V_y (Y_load h21 Tryz.isAgg23 rfl) rfl rfl rfl ?_
  refine V_y (Y_move rfl) rfl rfl rfl ?_
  obtain ⟨x25, hx25, hm⟩ := Option.bind_eq_some_iff.1 hm
  refine V_call Tryz.call56 rfl rfl rfl rfl (slices_BinarySearchFunc_Lknow_Term_know_Term_string_c (Dw := Dw) w15 hA x.terms v20 h22 word (fun y37 y38 => know_Index_term_1 y37 y38) 57 #[] #[] Tryz.call57 (fun w33 A34 ht35 h36 y26 v27 h28 y29 r30 h31 => (know_Index_term_1_c (Dw := Dw) w33 h36 y26 v27 h28 y29  h31).mono (fun _ _ h => ⟨h.1, h.2⟩)) hx25) ?_
  rintro _ w39 ⟨rfl, hk40⟩
  have ht41 := Kp.tr (Dw := Dw) hk40 hA hB
  replace hH := Hp.kp (Dw := Dw) hH hk40
  replace h11 := El.tr (Dw := Dw) h11 ht41
  replace h19 := El.tr (Dw := Dw) h19 ht41
  replace h22 := Sl.tr (Dw := Dw) h22 ht41
  replace hK := Tr.trans (Dw := Dw) hK ht41
  replace hB := Nat.le_trans hB ht41.ex.size
  replace hA := ht41.new
  refine V_y (Y_move rfl) rfl rfl rfl ?_
  refine V_y (Y_extract rfl rfl) rfl rfl rfl ?_
  refine V_y (Y_extract rfl rfl) rfl rfl rfl ?_
  refine V_y (Y_assign rfl) rfl rfl rfl ?_
  refine V_y (Y_assign rfl) rfl rfl rfl ?_
  refine V_to (fun _ _ => rfl) ?_
  refine C_seq ?_
  refine C_seq ?_
  refine C_region ?_
  refine V_y (Y_move rfl) rfl rfl rfl ?_
  refine V_y (Y_not rfl) rfl rfl rfl ?_
  refine V_to (fun _ _ => rfl) ?_
  refine C_cond rfl (fun hc42 => ?_) (fun hc42 => ?_)
  · rw [if_pos hc42] at hm
    refine C_seq ?_
    refine C_region ?_
    refine V_y (Y_build Tryz.underlying44 Tryz.zeroValue44 (Tryz_places44 _ Tryz.underlying44) rfl (by with_unfolding_all rfl)) rfl rfl rfl ?_
    refine V_storeC (Dw := Dw) (off := 0) (ds := [.string ByteArray.empty, .slice none 0 0]) hH (i := 0) rfl Tryz.sizeOf44 rfl (Nat.le_of_ble_eq_true rfl) (by exact (List.forall_mem_cons.2 ⟨rfl, (List.forall_mem_cons.2 ⟨rfl, (fun _ h => nomatch h)⟩)⟩)) rfl hB hA rfl rfl ?_
    intro w43 hH44 ht45
    replace h11 := El.tr (Dw := Dw) h11 ht45
    replace hK := Tr.trans (Dw := Dw) hK ht45
    replace hB := Nat.le_trans hB ht45.ex.size
    replace hA := ht45.new
    replace hH : Hp w.heap.size A16 w43 (obC b14 [.string ByteArray.empty, .slice none 0 0] 44 :: []) := hH44
    refine V_y (Y_assign rfl) rfl rfl rfl ?_
    refine V_to (fun _ _ => rfl) ?_
    obtain rfl := Option.some.inj hm
    refine C_ret ?_
    try simp only [↓inBlock_ret, ↓then_ret]
    exact retQ rfl (Res.l2 Tryz.results32 (RL.cell rfl (loadVar_agg (Hp.part (off := 0) (n := 2) (ds := [.string ByteArray.empty, .slice none 0 0]) hH (i := 0) rfl rfl) Tryz.isAgg44 Tryz.sizeOf44)) (RL.tmp rfl)) ⟨.slice none 0 0, rfl, Sl.nil, hK.kp⟩
  · rw [if_neg (nt hc42)] at hm
    refine C_skip_to (fun _ _ => rfl) ?_
    refine C_seq ?_
    refine C_region ?_
    have h46 := El_know_Index_2 h11
    refine V_y (Y_fieldAddr Tryz.underlying25 rfl Tryz.sizeOf23 (by decide) rfl) rfl rfl rfl ?_
    obtain ⟨v47, h48, h49⟩ := El.list h46
    refine V_y (Y_load h48 Tryz.isAgg23 rfl) rfl rfl rfl ?_
    refine V_y (Y_move rfl) rfl rfl rfl ?_
    obtain ⟨x50, hx50, hm⟩ := Option.bind_eq_some_iff.1 hm
    refine V_indexAddr h49 hx50 Tryz.underlying23 Tryz.sizeOf44 rfl rfl rfl ?_
    intro b51 o52 h53
    obtain ⟨v54, h56, h55⟩ := El_know_Term h53
    refine V_y (Y_loadA h56 Tryz.isAgg44 Tryz.sizeOf44 rfl) rfl rfl rfl ?_
    have h62 : (v54).oneCell' = true := by obtain ⟨_, _, e, _⟩ := Sl.form h55; rw [e]; rfl
    refine V_storeC (Dw := Dw) (off := 0) (ds := [.string x50.word, v54]) hH (i := 0) rfl Tryz.sizeOf44 rfl (Nat.le_of_ble_eq_true rfl) (by exact (List.forall_mem_cons.2 ⟨rfl, (List.forall_mem_cons.2 ⟨h62, (fun _ h => nomatch h)⟩)⟩)) rfl hB hA rfl rfl ?_
    intro w57 hH58 ht59
    replace h11 := El.tr (Dw := Dw) h11 ht59
    replace h46 := El.tr (Dw := Dw) h46 ht59
    replace h49 := Sl.tr (Dw := Dw) h49 ht59
    replace h53 := El.tr (Dw := Dw) h53 ht59
    replace h55 := Sl.tr (Dw := Dw) h55 ht59
    replace hK := Tr.trans (Dw := Dw) hK ht59
    replace hB := Nat.le_trans hB ht59.ex.size
    replace hA := ht59.new
    replace hH : Hp w.heap.size A16 w57 (obC b14 [.string x50.word, v54] 44 :: []) := hH58
    refine V_y (Y_assign rfl) rfl rfl rfl ?_
    refine V_to (fun _ _ => rfl) ?_
    obtain rfl := Option.some.inj hm
    refine C_ret ?_
    try simp only [↓inBlock_ret, ↓then_ret]
    exact retQ rfl (Res.l2 Tryz.results32 (RL.cell rfl (loadVar_agg (Hp.part (off := 0) (n := 2) (ds := [.string x50.word, v54]) hH (i := 0) rfl rfl) Tryz.isAgg44 Tryz.sizeOf44)) (RL.tmp rfl)) ⟨v54, rfl, (Sl.out (Dw := Dw) h55 hA0 hK), hK.kp⟩

set_option maxRecDepth 4000 in
set_option maxHeartbeats 4000000 in
theorem know_Index_named_c (w : World) {A : Nat → Prop} {B : Nat} (hB : B ≤ w.heap.size) (hA : ∀ b, w.heap.size ≤ b → A b) (x : know_Index) (v_x0 : Value) (h_x0 : Sl A w v_x0 x.ids) (v_x1 : Value) (h_x1 : Sl A w v_x1 x.sizes) (v_x2 : Value) (h_x2 : Sl A w v_x2 x.terms) (p : know_Part) (v_p : Value) (h_p : Sl A w v_p p.words) {L : List Ob} (hH : Hp B A w (L)) {r : (List know_Term)} (hm : know_Index_named x p = some r) : Ret Tryz.prog 9 #[.agg #[v_x0, v_x1, v_x2], .agg #[.int .i64 p.kind, .bool p.not_, v_p]] w fun v w' => ∃ s0, ∃ A1 : Nat → Prop, v = s0 ∧ Hp B A1 w' (obS (α := know_Term) 44 s0 r :: L) ∧ Tr Dw B A w A1 w' := by
  unfold know_Index_named at hm
  refine enter Tryz.func9 rfl Tryz.ntmps9 rfl ?_
  have hK : Tr Dw B A w A w := Tr.refl (Dw := Dw) hA
  refine C_seq ?_
  refine C_region ?_
  refine V_box rfl rfl ?_
  intro b9 w10 h11
  have hk13 := h11.kp (Dw := Dw)
  have h12 : El (α := know_Index) A w10 b9 0 x := h11.el hA ⟨[v_x0], _, rfl, ⟨_, rfl, h_x0⟩, ⟨[v_x1], _, rfl, ⟨_, rfl, h_x1⟩, ⟨_, rfl, h_x2⟩⟩⟩
  have ht14 := Kp.tr (Dw := Dw) hk13 hA hB
  replace hH := Hp.kp (Dw := Dw) hH hk13
  replace h_x0 := Sl.tr (Dw := Dw) h_x0 ht14
  replace h_x1 := Sl.tr (Dw := Dw) h_x1 ht14
  replace h_x2 := Sl.tr (Dw := Dw) h_x2 ht14
  replace h_p := Sl.tr (Dw := Dw) h_p ht14
  replace hK := Tr.trans (Dw := Dw) hK ht14
  replace hB := Nat.le_trans hB ht14.ex.size
  replace hA := ht14.new
  refine V_box rfl rfl ?_
  intro b15 w17 h18
  have hk20 := h18.kp (Dw := Dw)
  have h19 : El (α := know_Part) A w17 b15 0 p := h18.el hA ⟨[.int .i64 p.kind], _, rfl, rfl, ⟨[.bool p.not_], _, rfl, rfl, ⟨_, rfl, h_p⟩⟩⟩
  have ht21 := Kp.tr (Dw := Dw) hk20 hA hB
  replace hH := Hp.kp (Dw := Dw) hH hk20
  replace h_x0 := Sl.tr (Dw := Dw) h_x0 ht21
  replace h_x1 := Sl.tr (Dw := Dw) h_x1 ht21
  replace h_x2 := Sl.tr (Dw := Dw) h_x2 ht21
  replace h_p := Sl.tr (Dw := Dw) h_p ht21
  replace h12 := El.tr (Dw := Dw) h12 ht21
  replace hK := Tr.trans (Dw := Dw) hK ht21
  replace hB := Nat.le_trans hB ht21.ex.size
  replace hA := ht21.new
  refine V_y (Y_assign rfl) rfl rfl rfl ?_
  refine V_to (fun _ _ => rfl) ?_
  refine C_seq ?_
  refine C_region ?_
  refine V_y (Y_assign rfl) rfl rfl rfl ?_
  refine V_to (fun _ _ => rfl) ?_
  refine C_seq ?_
  refine C_seq ?_
  refine C_region ?_
  have h22 := El_know_Part_0 h19
  refine V_y (Y_fieldAddr Tryz.underlying40 rfl Tryz.sizeOf3 (by decide) rfl) rfl rfl rfl ?_
  refine V_y (Y_load (El.int h22) Tryz.isAgg3 rfl) rfl rfl rfl ?_
  refine V_y (Y_eql rfl rfl) rfl rfl rfl ?_
  refine V_to (fun _ _ => rfl) ?_
  refine C_cond rfl (fun hc23 => ?_) (fun hc23 => ?_)
  · rw [if_pos hc23] at hm
    refine C_seq ?_
    refine C_seq ?_
    refine C_region ?_
    have h24 := El_know_Index_2 h12
    refine V_y (Y_fieldAddr Tryz.underlying25 rfl Tryz.sizeOf23 (by decide) rfl) rfl rfl rfl ?_
    obtain ⟨v25, h26, h27⟩ := El.list h24
    refine V_y (Y_load h26 Tryz.isAgg23 rfl) rfl rfl rfl ?_
    refine V_y (Y_lenSl h27 rfl Tryz.underlying23 rfl) rfl rfl rfl ?_
    refine V_y (Y_move rfl) rfl rfl rfl ?_
    refine V_to (fun _ _ => rfl) ?_
    replace hH : Hp B A w17 (obS (α := know_Term) 44 (.slice none 0 0) ([] : (List know_Term)) :: L) := Hp.addNil (α := know_Term) (e := 44) hH
    have hn53 := Sl.le h27
    obtain ⟨o28, ho28, hm⟩ := Option.bind_eq_some_iff.1 hm
    refine C_cutG (ι := ((List know_Term) × Value × (Nat → Prop))) (fun ⟨s29, v36, A38⟩ => [(5, v36)]) (fun ⟨s29, v36, A38⟩ => fun w' => o28 = .fin s29 ∧ Hp B A38 w' (obS (α := know_Term) 44 v36 s29 :: L) ∧ Tr Dw B A w17 A38 w') ?_ ?_
    · refine C_block ?_
      refine C_range ho28 (fun k31 s40 a w' => ∃ i : (Value × (Nat → Prop)), Has ⟨68, [], none⟩ a ([(3, .pointer (some ⟨b15, 0, none⟩)), (5, i.1), (18, v25), (19, .int .i64 (x.terms.length : Int)), (20, .int .i64 (k31 : Int))]) ∧ Hp B i.2 w' (obS (α := know_Term) 44 i.1 s40 :: L) ∧ Tr Dw B A w17 i.2 w') (fun a ha => ⟨(.slice none 0 0, A), ha.sub ⟨rfl, rfl, rfl, rfl, rfl, trivial⟩, ⟨hH, Tr.refl (Dw := Dw) hA⟩⟩) ?_
      rintro K k31 s40 a w41 ⟨⟨v42, A44⟩, ha129, hH45, hr30⟩ hle49 K52 h51
      refine C_of ?_ ha129
      replace h19 := El.tr (Dw := Dw) h19 hr30
      replace h27 := Sl.tr (Dw := Dw) h27 hr30
      replace hK := Tr.trans (Dw := Dw) hK hr30
      replace hB := Nat.le_trans hB hr30.ex.size
      replace hA := hr30.new
      replace hH : Hp B A44 w41 (obS (α := know_Term) 44 v42 s40 :: L) := hH45
      refine C_seq (C_region (V_y (Y_lss rfl rfl) rfl rfl rfl (V_to (fun _ _ => rfl) ?_)))
      refine C_seq ?_
      refine C_cond rfl (fun hc54 => ?_) (fun hc54 => ?_)
      · have hlt50 := lt_of_dec hc54
        obtain ⟨x46, h47, h48⟩ := K52 hlt50
        refine C_skip_to (fun _ _ => rfl) ?_
        refine C_seq ?_
        obtain ⟨s56, ho55, h47⟩ := Option.bind_eq_some_iff.1 h47
        refine C_cutG (ι := (Value × (Nat → Prop))) (fun ⟨v58, A63⟩ => [(3, .pointer (some ⟨b15, 0, none⟩)), (5, v58), (18, v25), (19, .int .i64 (x.terms.length : Int)), (20, .int .i64 (k31 : Int))]) (fun ⟨v58, A63⟩ => fun w' => Hp B A63 w' (obS (α := know_Term) 44 v58 s56 :: L) ∧ Tr Dw B A44 w41 A63 w') ?_ ?_
        · have hr57 : Tr Dw B A44 w41 A44 w41 := Tr.refl (Dw := Dw) hA
          refine C_block ?_
          refine C_seq ?_
          refine C_region ?_
          obtain ⟨x65, hx65, ho55⟩ := Option.bind_eq_some_iff.1 ho55
          refine V_indexAddr h27 hx65 Tryz.underlying23 Tryz.sizeOf44 rfl rfl rfl ?_
          intro b66 o67 h68
          obtain ⟨v69, h71, h70⟩ := El_know_Term h68
          refine V_y (Y_loadA h71 Tryz.isAgg44 Tryz.sizeOf44 rfl) rfl rfl rfl ?_
          refine V_alloc Tryz.zeroValue44 rfl ?_
          intro b72 w73 h74
          have h79 : (v69).oneCell' = true := by obtain ⟨_, _, e, _⟩ := Sl.form h70; rw [e]; rfl
          refine V_storeNew h74 Tryz.sizeOf44 rfl rfl rfl rfl (by exact (List.forall_mem_cons.2 ⟨rfl, (List.forall_mem_cons.2 ⟨h79, (fun _ h => nomatch h)⟩)⟩)) ?_
          intro w75 h76
          have hk81 := h76.kp (Dw := Dw)
          have h80 : El (α := know_Term) A44 w75 b72 0 x65 := h76.el hA ⟨[.string x65.word], _, rfl, rfl, ⟨_, rfl, h70⟩⟩
          have ht82 := Kp.tr (Dw := Dw) hk81 hA hB
          replace hH := Hp.kp (Dw := Dw) hH hk81
          replace h19 := El.tr (Dw := Dw) h19 ht82
          replace h27 := Sl.tr (Dw := Dw) h27 ht82
          replace h68 := El.tr (Dw := Dw) h68 ht82
          replace h70 := Sl.tr (Dw := Dw) h70 ht82
          replace hK := Tr.trans (Dw := Dw) hK ht82
          replace hr30 := Tr.trans (Dw := Dw) hr30 ht82
          replace hr57 := Tr.trans (Dw := Dw) hr57 ht82
          replace hB := Nat.le_trans hB ht82.ex.size
          replace hA := ht82.new
          refine V_to (fun _ _ => rfl) ?_
          refine C_seq ?_
          refine C_region_q (Dw := Dw) Tryz_mixed (by kernel_rfl) ?_
          have h83 := El_know_Term_0 h80
          refine VQ_y (fun w' hw' => Y_fieldAddr Tryz.underlying44 rfl Tryz.sizeOf9 (by decide) rfl) rfl rfl rfl ?_
          refine VQ_y (fun w' hw' => Y_load (El.str (El.kp (Dw := Dw) h83 hw')) Tryz.isAgg9 rfl) rfl rfl rfl ?_
          have h84 := El_know_Part_2 h19
          refine VQ_y (fun w' hw' => Y_fieldAddr Tryz.underlying40 rfl Tryz.sizeOf37 (by decide) rfl) rfl rfl rfl ?_
          obtain ⟨v85, h86, h87⟩ := El.list h84
          refine VQ_y (fun w' hw' => Y_load ((World.cell?_of_block (hw'.block _ (World.block_lt_of_cell? _ _ h86))).trans h86) Tryz.isAgg37 rfl) rfl rfl rfl ?_
          obtain ⟨x88, hx88, ho55⟩ := Option.bind_eq_some_iff.1 ho55
          refine VQ_indexAddr h87 hx88 Tryz.underlying37 Tryz.sizeOf9 rfl rfl rfl ?_
          intro b89 o90 h91
          refine VQ_y (fun w' hw' => Y_load (El.str (El.kp (Dw := Dw) h91 hw')) Tryz.isAgg9 rfl) rfl rfl rfl ?_
          obtain ⟨x92, hx92, ho55⟩ := Option.bind_eq_some_iff.1 ho55
          refine VQ_call (.bool x92) Tryz.call30 rfl rfl rfl rfl (fun w' hw' => (strings_HasPrefix_c w' x65.word x88 hx92).mono (fun _ _ h => ⟨h.1, h.2 ▸ hw'⟩)) ?_
          refine VQ_to (fun _ _ => rfl) (fun w93 hk94 => ?_)
          have ht95 := Kp.tr (Dw := Dw) hk94 hA hB
          replace hH := Hp.kp (Dw := Dw) hH hk94
          replace h19 := El.tr (Dw := Dw) h19 ht95
          replace h27 := Sl.tr (Dw := Dw) h27 ht95
          replace h80 := El.tr (Dw := Dw) h80 ht95
          replace hK := Tr.trans (Dw := Dw) hK ht95
          replace hr30 := Tr.trans (Dw := Dw) hr30 ht95
          replace hr57 := Tr.trans (Dw := Dw) hr57 ht95
          replace hB := Nat.le_trans hB ht95.ex.size
          replace hA := ht95.new
          obtain ⟨s97, ho96, ho55⟩ := Option.bind_eq_some_iff.1 ho55
          refine C_cutG (ι := (Value × (Nat → Prop))) (fun ⟨v99, A104⟩ => [(3, .pointer (some ⟨b15, 0, none⟩)), (5, v99), (18, v25), (19, .int .i64 (x.terms.length : Int)), (20, .int .i64 (k31 : Int))]) (fun ⟨v99, A104⟩ => fun w' => Hp B A104 w' (obS (α := know_Term) 44 v99 s97 :: L) ∧ Tr Dw B A44 w93 A104 w') ?_ ?_
          · have hr98 : Tr Dw B A44 w93 A44 w93 := Tr.refl (Dw := Dw) hA
            refine C_cond rfl (fun hc106 => ?_) (fun hc106 => ?_)
            · rw [if_pos hc106] at ho96
              refine C_region ?_
              refine V_y (Y_move rfl) rfl rfl rfl ?_
              obtain ⟨v107, h109, h108⟩ := El_know_Term h80
              refine V_y (Y_loadA h109 Tryz.isAgg44 Tryz.sizeOf44 rfl) rfl rfl rfl ?_
              refine V_buildSlice (Dw := Dw) (cells := #[.string x65.word, v107]) (l := ([x65] : List know_Term)) (len := 1) Tryz.underlying23 Tryz.sizeOf44 Tryz.zeroValue44 rfl (by obtain ⟨a114, c115, e116, _⟩ := Sl.form h108; subst e116; kernel_rfl) (show (1 * 2 : Nat) ≠ 0 by decide) (show (1 * 2 : Nat) ≤ 2 ^ 24 by decide) hA ⟨[.string x65.word, v107], _, rfl, ⟨[.string x65.word], _, rfl, rfl, ⟨_, rfl, h108⟩⟩, rfl⟩ rfl rfl ?_
              intro v110 w111 hk113 h112
              have ht117 := Kp.tr (Dw := Dw) hk113 hA hB
              replace hH := Hp.kp (Dw := Dw) hH hk113
              replace h19 := El.tr (Dw := Dw) h19 ht117
              replace h27 := Sl.tr (Dw := Dw) h27 ht117
              replace h80 := El.tr (Dw := Dw) h80 ht117
              replace h108 := Sl.tr (Dw := Dw) h108 ht117
              replace hK := Tr.trans (Dw := Dw) hK ht117
              replace hr30 := Tr.trans (Dw := Dw) hr30 ht117
              replace hr57 := Tr.trans (Dw := Dw) hr57 ht117
              replace hr98 := Tr.trans (Dw := Dw) hr98 ht117
              replace hB := Nat.le_trans hB ht117.ex.size
              replace hA := ht117.new
              obtain ⟨x118, hx118, ho96⟩ := Option.bind_eq_some_iff.1 ho96
              refine V_appendH (Dw := Dw) (e := 44) (v := v42) (l := s40) (ti := Tryz.t44) (bytes := 40) (lim := 3518437208883) hH (i := 0) rfl h112 hx118 Tryz.underlying23 Tryz_info44 rfl rfl rfl rfl (by decide) (by decide) (by decide) hB hA rfl rfl rfl ?_
              intro v119 w120 A121 hH122 ht123
              replace h19 := El.tr (Dw := Dw) h19 ht123
              replace h27 := Sl.tr (Dw := Dw) h27 ht123
              replace h80 := El.tr (Dw := Dw) h80 ht123
              replace h108 := Sl.tr (Dw := Dw) h108 ht123
              replace h112 := Sl.tr (Dw := Dw) h112 ht123
              replace hK := Tr.trans (Dw := Dw) hK ht123
              replace hr30 := Tr.trans (Dw := Dw) hr30 ht123
              replace hr57 := Tr.trans (Dw := Dw) hr57 ht123
              replace hr98 := Tr.trans (Dw := Dw) hr98 ht123
              replace hB := Nat.le_trans hB ht123.ex.size
              replace hA := ht123.new
              replace hH : Hp B A121 w120 (obS (α := know_Term) 44 v119 x118 :: L) := hH122
              refine V_y (Y_assign rfl) rfl rfl rfl ?_
              obtain rfl := Option.some.inj ho96
              refine V_end (fun a ha124 => ?_)
              exact ⟨(v119, A121), ha124.sub ⟨rfl, rfl, rfl, rfl, rfl, trivial⟩, ⟨hH, hr98⟩⟩
            · rw [if_neg (nt hc106)] at ho96
              obtain rfl := Option.some.inj ho96
              refine C_skip (fun a ha125 => ?_)
              exact ⟨(v42, A44), ha125.sub ⟨rfl, rfl, rfl, rfl, rfl, trivial⟩, ⟨hH, hr98⟩⟩
          rintro ⟨v99, A104⟩ w101 ⟨hH105, hk102⟩ a ha103
          replace h19 := El.tr (Dw := Dw) h19 hk102
          replace h27 := Sl.tr (Dw := Dw) h27 hk102
          replace hK := Tr.trans (Dw := Dw) hK hk102
          replace hr30 := Tr.trans (Dw := Dw) hr30 hk102
          replace hr57 := Tr.trans (Dw := Dw) hr57 hk102
          replace hB := Nat.le_trans hB hk102.ex.size
          replace hA := hk102.new
          replace hH : Hp B A104 w101 (obS (α := know_Term) 44 v99 s97 :: L) := hH105
          obtain rfl := Option.some.inj ho55
          exact ⟨(v99, A104), ha103.sub ⟨rfl, rfl, rfl, rfl, rfl, trivial⟩, ⟨hH, hr57⟩⟩
        rintro ⟨v58, A63⟩ w60 ⟨hH64, hk61⟩ a ha62
        replace h19 := El.tr (Dw := Dw) h19 hk61
        replace h27 := Sl.tr (Dw := Dw) h27 hk61
        replace hK := Tr.trans (Dw := Dw) hK hk61
        replace hr30 := Tr.trans (Dw := Dw) hr30 hk61
        replace hB := Nat.le_trans hB hk61.ex.size
        replace hA := hk61.new
        replace hH : Hp B A63 w60 (obS (α := know_Term) 44 v58 s56 :: L) := hH64
        refine C_at (n := ⟨68, [], none⟩) (fun _ _ => rfl) ?_ ha62
        refine C_region ?_
        refine V_y (Y_addI rfl rfl) rfl rfl rfl ?_
        refine V_y (Y_move rfl) rfl rfl rfl ?_
        obtain rfl := Option.some.inj h47
        refine V_end (fun a ha127 => ?_)
        exact ⟨s56, hlt50, h48, ⟨(v58, A63), ha127.sub ⟨rfl, rfl, rfl, rfl, (congrArg (fun z => some (Value.int .i64 z)) (w64_succ hlt50 hn53)), trivial⟩, ⟨hH, hr30⟩⟩⟩
      · refine C_exit (fun a ha128 => ?_)
        exact ⟨(s40, v42, A44), ha128.sub ⟨rfl, trivial⟩, ⟨(h51 (eq_of_dec hle49 hc54)).symm, hH, hr30⟩⟩
    rintro ⟨s29, v36, A38⟩ w33 ⟨rfl, hH39, hk34⟩ a ha35
    rw [Lp.andThen_fin] at hm
    replace hK := Tr.trans (Dw := Dw) hK hk34
    replace hB := Nat.le_trans hB hk34.ex.size
    replace hA := hk34.new
    replace hH : Hp B A38 w33 (obS (α := know_Term) 44 v36 s29 :: L) := hH39
    refine C_at (n := ⟨68, [], none⟩) (fun _ _ => rfl) ?_ ha35
    refine C_seq ?_
    refine C_region ?_
    refine V_y (Y_move rfl) rfl rfl rfl ?_
    refine V_y (Y_assign rfl) rfl rfl rfl ?_
    refine V_to (fun _ _ => rfl) ?_
    obtain rfl := Option.some.inj hm
    refine C_ret ?_
    try simp only [↓inBlock_ret, ↓then_ret]
    exact retQ rfl (Res.one Tryz.results9 rfl) ⟨v36, A38, rfl, hH, hK⟩
  · rw [if_neg (nt hc23)] at hm
    refine C_skip_to (fun _ _ => rfl) ?_
    refine C_seq ?_
    refine C_region ?_
    refine V_makeMapS (Dw := Dw) (B := B) ByteArray Bool hH hB hA rfl ?_
    intro b130 w131 A132 hH133 ht134
    replace h12 := El.tr (Dw := Dw) h12 ht134
    replace h19 := El.tr (Dw := Dw) h19 ht134
    replace hK := Tr.trans (Dw := Dw) hK ht134
    replace hB := Nat.le_trans hB ht134.ex.size
    replace hA := ht134.new
    replace hH : Hp B A132 w131 (obSM (κ := ByteArray) (α := Bool) b130 ([] : List (ByteArray × Bool)) :: L) := hH133
    refine V_y (Y_assign rfl) rfl rfl rfl ?_
    refine V_to (fun _ _ => rfl) ?_
    refine C_seq ?_
    refine C_seq ?_
    refine C_region ?_
    have h135 := El_know_Part_2 h19
    refine V_y (Y_fieldAddr Tryz.underlying40 rfl Tryz.sizeOf37 (by decide) rfl) rfl rfl rfl ?_
    obtain ⟨v136, h137, h138⟩ := El.list h135
    refine V_y (Y_load h137 Tryz.isAgg37 rfl) rfl rfl rfl ?_
    refine V_y (Y_lenSl h138 rfl Tryz.underlying37 rfl) rfl rfl rfl ?_
    refine V_y (Y_move rfl) rfl rfl rfl ?_
    refine V_to (fun _ _ => rfl) ?_
    replace hH : Hp B A132 w131 (obS (α := know_Term) 44 (.slice none 0 0) ([] : (List know_Term)) :: obSM (κ := ByteArray) (α := Bool) b130 ([] : List (ByteArray × Bool)) :: L) := Hp.addNil (α := know_Term) (e := 44) hH
    have hn163 := Sl.le h138
    obtain ⟨o139, ho139, hm⟩ := Option.bind_eq_some_iff.1 hm
    refine C_cutG (ι := (((List know_Term) × (List (ByteArray × Bool))) × Value × (Nat → Prop))) (fun ⟨s140, v146, A148⟩ => [(5, v146)]) (fun ⟨s140, v146, A148⟩ => fun w' => o139 = .fin s140 ∧ Hp B A148 w' (obS (α := know_Term) 44 v146 s140.1 :: obSM (κ := ByteArray) (α := Bool) b130 s140.2 :: L) ∧ Tr Dw B A132 w131 A148 w') ?_ ?_
    · refine C_block ?_
      refine C_range ho139 (fun k142 s150 a w' => ∃ i : (Value × (Nat → Prop)), Has ⟨68, [], none⟩ a ([(2, .pointer (some ⟨b9, 0, none⟩)), (5, i.1), (8, .map (some b130)), (39, v136), (40, .int .i64 (p.words.length : Int)), (41, .int .i64 (k142 : Int))]) ∧ Hp B i.2 w' (obS (α := know_Term) 44 i.1 s150.1 :: obSM (κ := ByteArray) (α := Bool) b130 s150.2 :: L) ∧ Tr Dw B A132 w131 i.2 w') (fun a ha => ⟨(.slice none 0 0, A132), ha.sub ⟨rfl, rfl, rfl, rfl, rfl, rfl, trivial⟩, ⟨hH, Tr.refl (Dw := Dw) hA⟩⟩) ?_
      rintro K k142 s150 a w151 ⟨⟨v152, A154⟩, ha242, hH155, hr141⟩ hle159 K162 h161
      refine C_of ?_ ha242
      replace h12 := El.tr (Dw := Dw) h12 hr141
      replace h138 := Sl.tr (Dw := Dw) h138 hr141
      replace hK := Tr.trans (Dw := Dw) hK hr141
      replace hB := Nat.le_trans hB hr141.ex.size
      replace hA := hr141.new
      replace hH : Hp B A154 w151 (obS (α := know_Term) 44 v152 s150.1 :: obSM (κ := ByteArray) (α := Bool) b130 s150.2 :: L) := hH155
      refine C_seq (C_region (V_y (Y_lss rfl rfl) rfl rfl rfl (V_to (fun _ _ => rfl) ?_)))
      refine C_seq ?_
      refine C_cond rfl (fun hc164 => ?_) (fun hc164 => ?_)
      · have hlt160 := lt_of_dec hc164
        obtain ⟨x156, h157, h158⟩ := K162 hlt160
        refine C_skip_to (fun _ _ => rfl) ?_
        refine C_seq ?_
        obtain ⟨s166, ho165, h157⟩ := Option.bind_eq_some_iff.1 h157
        refine C_cutG (ι := (Value × (Nat → Prop))) (fun ⟨v168, A173⟩ => [(2, .pointer (some ⟨b9, 0, none⟩)), (5, v168), (8, .map (some b130)), (39, v136), (40, .int .i64 (p.words.length : Int)), (41, .int .i64 (k142 : Int))]) (fun ⟨v168, A173⟩ => fun w' => Hp B A173 w' (obS (α := know_Term) 44 v168 s166.1 :: obSM (κ := ByteArray) (α := Bool) b130 s166.2 :: L) ∧ Tr Dw B A154 w151 A173 w') ?_ ?_
        · have hr167 : Tr Dw B A154 w151 A154 w151 := Tr.refl (Dw := Dw) hA
          refine C_block ?_
          refine C_seq ?_
          refine C_region ?_
          obtain ⟨x175, hx175, ho165⟩ := Option.bind_eq_some_iff.1 ho165
          refine V_indexAddr h138 hx175 Tryz.underlying37 Tryz.sizeOf9 rfl rfl rfl ?_
          intro b176 o177 h178
          refine V_y (Y_load (El.str h178) Tryz.isAgg9 rfl) rfl rfl rfl ?_
          refine V_y (Y_assign rfl) rfl rfl rfl ?_
          refine V_to (fun _ _ => rfl) ?_
          refine C_seq ?_
          refine C_region ?_
          refine V_y (Y_move rfl) rfl rfl rfl ?_
          obtain ⟨x179, hx179, ho165⟩ := Option.bind_eq_some_iff.1 ho165
          refine V_call Tryz.call31 rfl rfl rfl rfl (know_Stem_c w151 x175 hx179) ?_
          rintro _ _ ⟨rfl, rfl⟩
          refine V_y (Y_assign rfl) rfl rfl rfl ?_
          refine V_to (fun _ _ => rfl) ?_
          refine C_seq ?_
          refine C_region ?_
          obtain ⟨v180, v182, v184, h186, h181, h183, h185⟩ := El_know_Index h12
          refine V_y (Y_loadA h186 Tryz.isAgg25 Tryz.sizeOf25 rfl) rfl rfl rfl ?_
          refine V_y (Y_move rfl) rfl rfl rfl ?_
          obtain ⟨x187, hx187, ho165⟩ := Option.bind_eq_some_iff.1 ho165
          refine V_call Tryz.call32 rfl rfl rfl rfl (know_Index_term_c (Dw := Dw) w151 hA x v180 h181 v182 h183 v184 h185 x179 hx187) ?_
          rintro _ w190 ⟨v188, rfl, h189, hk191⟩
          have ht192 := Kp.tr (Dw := Dw) hk191 hA hB
          replace hH := Hp.kp (Dw := Dw) hH hk191
          replace h12 := El.tr (Dw := Dw) h12 ht192
          replace h138 := Sl.tr (Dw := Dw) h138 ht192
          replace h181 := Sl.tr (Dw := Dw) h181 ht192
          replace h183 := Sl.tr (Dw := Dw) h183 ht192
          replace h185 := Sl.tr (Dw := Dw) h185 ht192
          replace hK := Tr.trans (Dw := Dw) hK ht192
          replace hr141 := Tr.trans (Dw := Dw) hr141 ht192
          replace hr167 := Tr.trans (Dw := Dw) hr167 ht192
          replace hB := Nat.le_trans hB ht192.ex.size
          replace hA := ht192.new
          refine V_y (Y_move rfl) rfl rfl rfl ?_
          refine V_y (Y_extract rfl rfl) rfl rfl rfl ?_
          refine V_y (Y_extract rfl rfl) rfl rfl rfl ?_
          refine V_alloc Tryz.zeroValue44 rfl ?_
          intro b193 w194 h195
          have h200 : (v188).oneCell' = true := by obtain ⟨_, _, e, _⟩ := Sl.form h189; rw [e]; rfl
          refine V_storeNew h195 Tryz.sizeOf44 rfl rfl rfl rfl (by exact (List.forall_mem_cons.2 ⟨rfl, (List.forall_mem_cons.2 ⟨h200, (fun _ h => nomatch h)⟩)⟩)) ?_
          intro w196 h197
          have hk202 := h197.kp (Dw := Dw)
          have h201 : El (α := know_Term) A154 w196 b193 0 x187.1 := h197.el hA ⟨[.string x187.1.word], _, rfl, rfl, ⟨_, rfl, h189⟩⟩
          have ht203 := Kp.tr (Dw := Dw) hk202 hA hB
          replace hH := Hp.kp (Dw := Dw) hH hk202
          replace h12 := El.tr (Dw := Dw) h12 ht203
          replace h138 := Sl.tr (Dw := Dw) h138 ht203
          replace h181 := Sl.tr (Dw := Dw) h181 ht203
          replace h183 := Sl.tr (Dw := Dw) h183 ht203
          replace h185 := Sl.tr (Dw := Dw) h185 ht203
          replace h189 := Sl.tr (Dw := Dw) h189 ht203
          replace hK := Tr.trans (Dw := Dw) hK ht203
          replace hr141 := Tr.trans (Dw := Dw) hr141 ht203
          replace hr167 := Tr.trans (Dw := Dw) hr167 ht203
          replace hB := Nat.le_trans hB ht203.ex.size
          replace hA := ht203.new
          refine V_y (Y_assign rfl) rfl rfl rfl ?_
          refine V_to (fun _ _ => rfl) ?_
          refine C_seq ?_
          refine C_region ?_
          refine V_y (Y_move rfl) rfl rfl rfl ?_
          refine V_y (Y_move rfl) rfl rfl rfl ?_
          refine V_cut 5 (fun _ : Unit => [(2, .pointer (some ⟨b9, 0, none⟩)), (5, v152), (8, .map (some b130)), (11, .string x179), (12, .pointer (some ⟨b193, 0, none⟩)), (39, v136), (40, .int .i64 (p.words.length : Int)), (41, .int .i64 (k142 : Int)), (59, .bool (x187.2 && (!((mapGet s150.2 x179).getD false))))]) (fun _ w' => w196 = w') ?_ ?_
          · simp only [List.take, List.drop]
            rcases Bool.eq_false_or_eq_true (x187.2) with hc204 | hc204
            · refine V_ge rfl rfl rfl hc204 ?_
              refine V_y (Y_move rfl) rfl rfl rfl ?_
              refine V_ge rfl rfl rfl hc204 ?_
              refine V_y (Y_move rfl) rfl rfl rfl ?_
              refine V_ge rfl rfl rfl hc204 ?_
              refine V_y (Y_lookupS (κ := ByteArray) (α := Bool) (z := false) (l := s150.2) hH (i := 1) rfl Tryz.underlying55 Tryz.underlying9 Tryz.zeroValue4 rfl rfl rfl) rfl rfl rfl ?_
              refine V_ge rfl rfl rfl hc204 ?_
              refine V_y (Y_not rfl) rfl rfl rfl ?_
              refine V_y (Y_pick_te rfl hc204 rfl) rfl rfl rfl ?_
              exact V_end fun a ha => ⟨(), ha.sub ⟨rfl, rfl, rfl, rfl, rfl, rfl, rfl, rfl, (by rw [hc204]; rfl), trivial⟩, rfl⟩
            · refine V_gn rfl rfl rfl hc204 rfl rfl rfl ?_
              refine V_gn rfl rfl rfl hc204 rfl rfl rfl ?_
              refine V_gn rfl rfl rfl hc204 rfl rfl rfl ?_
              refine V_gn rfl rfl rfl hc204 rfl rfl rfl ?_
              refine V_y (Y_pick_fe rfl hc204 rfl) rfl rfl rfl ?_
              exact V_end fun a ha => ⟨(), ha.sub ⟨rfl, rfl, rfl, rfl, rfl, rfl, rfl, rfl, (by rw [hc204]; rfl), trivial⟩, rfl⟩
          simp only [List.take, List.drop]
          rintro _ _ rfl
          refine V_to (fun _ _ => rfl) ?_
          obtain ⟨s207, ho206, ho165⟩ := Option.bind_eq_some_iff.1 ho165
          refine C_cutG (ι := (Value × (Nat → Prop))) (fun ⟨v209, A214⟩ => [(2, .pointer (some ⟨b9, 0, none⟩)), (5, v209), (8, .map (some b130)), (39, v136), (40, .int .i64 (p.words.length : Int)), (41, .int .i64 (k142 : Int))]) (fun ⟨v209, A214⟩ => fun w' => Hp B A214 w' (obS (α := know_Term) 44 v209 s207.1 :: obSM (κ := ByteArray) (α := Bool) b130 s207.2 :: L) ∧ Tr Dw B A154 w196 A214 w') ?_ ?_
          · have hr208 : Tr Dw B A154 w196 A154 w196 := Tr.refl (Dw := Dw) hA
            refine C_cond rfl (fun hc216 => ?_) (fun hc216 => ?_)
            · rw [if_pos hc216] at ho206
              refine C_seq ?_
              refine C_region ?_
              refine V_y (Y_move rfl) rfl rfl rfl ?_
              refine V_y (Y_move rfl) rfl rfl rfl ?_
              refine V_mapUpdateS (Dw := Dw) (κ := ByteArray) (α := Bool) (l := s150.2) (c := true) hH (i := 1) rfl Tryz.underlying55 Tryz.underlying9 rfl rfl rfl hB hA ?_
              intro w217 hH218 ht219
              replace h12 := El.tr (Dw := Dw) h12 ht219
              replace h138 := Sl.tr (Dw := Dw) h138 ht219
              replace h201 := El.tr (Dw := Dw) h201 ht219
              replace hK := Tr.trans (Dw := Dw) hK ht219
              replace hr141 := Tr.trans (Dw := Dw) hr141 ht219
              replace hr167 := Tr.trans (Dw := Dw) hr167 ht219
              replace hr208 := Tr.trans (Dw := Dw) hr208 ht219
              replace hB := Nat.le_trans hB ht219.ex.size
              replace hA := ht219.new
              replace hH : Hp B A154 w217 (obS (α := know_Term) 44 v152 s150.1 :: obSM (κ := ByteArray) (α := Bool) b130 (mapPut s150.2 x179 true) :: L) := hH218
              refine V_to (fun _ _ => rfl) ?_
              refine C_region ?_
              refine V_y (Y_move rfl) rfl rfl rfl ?_
              obtain ⟨v220, h222, h221⟩ := El_know_Term h201
              refine V_y (Y_loadA h222 Tryz.isAgg44 Tryz.sizeOf44 rfl) rfl rfl rfl ?_
              refine V_buildSlice (Dw := Dw) (cells := #[.string x187.1.word, v220]) (l := ([x187.1] : List know_Term)) (len := 1) Tryz.underlying23 Tryz.sizeOf44 Tryz.zeroValue44 rfl (by obtain ⟨a227, c228, e229, _⟩ := Sl.form h221; subst e229; kernel_rfl) (show (1 * 2 : Nat) ≠ 0 by decide) (show (1 * 2 : Nat) ≤ 2 ^ 24 by decide) hA ⟨[.string x187.1.word, v220], _, rfl, ⟨[.string x187.1.word], _, rfl, rfl, ⟨_, rfl, h221⟩⟩, rfl⟩ rfl rfl ?_
              intro v223 w224 hk226 h225
              have ht230 := Kp.tr (Dw := Dw) hk226 hA hB
              replace hH := Hp.kp (Dw := Dw) hH hk226
              replace h12 := El.tr (Dw := Dw) h12 ht230
              replace h138 := Sl.tr (Dw := Dw) h138 ht230
              replace h201 := El.tr (Dw := Dw) h201 ht230
              replace h221 := Sl.tr (Dw := Dw) h221 ht230
              replace hK := Tr.trans (Dw := Dw) hK ht230
              replace hr141 := Tr.trans (Dw := Dw) hr141 ht230
              replace hr167 := Tr.trans (Dw := Dw) hr167 ht230
              replace hr208 := Tr.trans (Dw := Dw) hr208 ht230
              replace hB := Nat.le_trans hB ht230.ex.size
              replace hA := ht230.new
              obtain ⟨x231, hx231, ho206⟩ := Option.bind_eq_some_iff.1 ho206
              refine V_appendH (Dw := Dw) (e := 44) (v := v152) (l := s150.1) (ti := Tryz.t44) (bytes := 40) (lim := 3518437208883) hH (i := 0) rfl h225 hx231 Tryz.underlying23 Tryz_info44 rfl rfl rfl rfl (by decide) (by decide) (by decide) hB hA rfl rfl rfl ?_
              intro v232 w233 A234 hH235 ht236
              replace h12 := El.tr (Dw := Dw) h12 ht236
              replace h138 := Sl.tr (Dw := Dw) h138 ht236
              replace h201 := El.tr (Dw := Dw) h201 ht236
              replace h221 := Sl.tr (Dw := Dw) h221 ht236
              replace h225 := Sl.tr (Dw := Dw) h225 ht236
              replace hK := Tr.trans (Dw := Dw) hK ht236
              replace hr141 := Tr.trans (Dw := Dw) hr141 ht236
              replace hr167 := Tr.trans (Dw := Dw) hr167 ht236
              replace hr208 := Tr.trans (Dw := Dw) hr208 ht236
              replace hB := Nat.le_trans hB ht236.ex.size
              replace hA := ht236.new
              replace hH : Hp B A234 w233 (obS (α := know_Term) 44 v232 x231 :: obSM (κ := ByteArray) (α := Bool) b130 (mapPut s150.2 x179 true) :: L) := hH235
              refine V_y (Y_assign rfl) rfl rfl rfl ?_
              obtain rfl := Option.some.inj ho206
              refine V_end (fun a ha237 => ?_)
              exact ⟨(v232, A234), ha237.sub ⟨rfl, rfl, rfl, rfl, rfl, rfl, trivial⟩, ⟨hH, hr208⟩⟩
            · rw [if_neg (nt hc216)] at ho206
              obtain rfl := Option.some.inj ho206
              refine C_skip (fun a ha238 => ?_)
              exact ⟨(v152, A154), ha238.sub ⟨rfl, rfl, rfl, rfl, rfl, rfl, trivial⟩, ⟨hH, hr208⟩⟩
          rintro ⟨v209, A214⟩ w211 ⟨hH215, hk212⟩ a ha213
          replace h12 := El.tr (Dw := Dw) h12 hk212
          replace h138 := Sl.tr (Dw := Dw) h138 hk212
          replace hK := Tr.trans (Dw := Dw) hK hk212
          replace hr141 := Tr.trans (Dw := Dw) hr141 hk212
          replace hr167 := Tr.trans (Dw := Dw) hr167 hk212
          replace hB := Nat.le_trans hB hk212.ex.size
          replace hA := hk212.new
          replace hH : Hp B A214 w211 (obS (α := know_Term) 44 v209 s207.1 :: obSM (κ := ByteArray) (α := Bool) b130 s207.2 :: L) := hH215
          obtain rfl := Option.some.inj ho165
          exact ⟨(v209, A214), ha213.sub ⟨rfl, rfl, rfl, rfl, rfl, rfl, trivial⟩, ⟨hH, hr167⟩⟩
        rintro ⟨v168, A173⟩ w170 ⟨hH174, hk171⟩ a ha172
        replace h12 := El.tr (Dw := Dw) h12 hk171
        replace h138 := Sl.tr (Dw := Dw) h138 hk171
        replace hK := Tr.trans (Dw := Dw) hK hk171
        replace hr141 := Tr.trans (Dw := Dw) hr141 hk171
        replace hB := Nat.le_trans hB hk171.ex.size
        replace hA := hk171.new
        replace hH : Hp B A173 w170 (obS (α := know_Term) 44 v168 s166.1 :: obSM (κ := ByteArray) (α := Bool) b130 s166.2 :: L) := hH174
        refine C_at (n := ⟨68, [], none⟩) (fun _ _ => rfl) ?_ ha172
        refine C_region ?_
        refine V_y (Y_addI rfl rfl) rfl rfl rfl ?_
        refine V_y (Y_move rfl) rfl rfl rfl ?_
        obtain rfl := Option.some.inj h157
        refine V_end (fun a ha240 => ?_)
        exact ⟨(s166.1, s166.2), hlt160, h158, ⟨(v168, A173), ha240.sub ⟨rfl, rfl, rfl, rfl, rfl, (congrArg (fun z => some (Value.int .i64 z)) (w64_succ hlt160 hn163)), trivial⟩, ⟨hH, hr141⟩⟩⟩
      · refine C_exit (fun a ha241 => ?_)
        exact ⟨((s150.1, s150.2), v152, A154), ha241.sub ⟨rfl, trivial⟩, ⟨(h161 (eq_of_dec hle159 hc164)).symm, hH, hr141⟩⟩
    rintro ⟨s140, v146, A148⟩ w143 ⟨rfl, hH149, hk144⟩ a ha145
    rw [Lp.andThen_fin] at hm
    replace hK := Tr.trans (Dw := Dw) hK hk144
    replace hB := Nat.le_trans hB hk144.ex.size
    replace hA := hk144.new
    replace hH : Hp B A148 w143 (obS (α := know_Term) 44 v146 s140.1 :: obSM (κ := ByteArray) (α := Bool) b130 s140.2 :: L) := hH149
    refine C_at (n := ⟨68, [], none⟩) (fun _ _ => rfl) ?_ ha145
    refine C_seq ?_
    refine C_region ?_
    refine V_y (Y_move rfl) rfl rfl rfl ?_
    refine V_y (Y_assign rfl) rfl rfl rfl ?_
    refine V_to (fun _ _ => rfl) ?_
    obtain rfl := Option.some.inj hm
    replace hH : Hp B A148 w143 (obS (α := know_Term) 44 v146 s140.1 :: L) := Hp.drop hH (i := 1) rfl
    refine C_ret ?_
    try simp only [↓inBlock_ret, ↓then_ret]
    exact retQ rfl (Res.one Tryz.results9 rfl) ⟨v146, A148, rfl, hH, hK⟩

set_option maxRecDepth 4000 in
set_option maxHeartbeats 4000000 in
theorem cmp_Compare_int_c (w : World) (x : Int) (y : Int) : Ret Tryz.prog 14 #[.int .i64 x, .int .i64 y] w fun v w' => v = .int .i64 (cmp_Compare_int x y) ∧ w = w' := by
  generalize hm : cmp_Compare_int x y = r
  unfold cmp_Compare_int at hm
  refine enter Tryz.func14 rfl Tryz.ntmps14 rfl ?_
  refine C_seq ?_
  refine C_region ?_
  refine V_y (Y_assign rfl) rfl rfl rfl ?_
  refine V_to (fun _ _ => rfl) ?_
  refine C_seq ?_
  refine C_region ?_
  refine V_y (Y_move rfl) rfl rfl rfl ?_
  refine V_call Tryz.call37 rfl rfl rfl rfl (cmp_isNaN_int_c w x) ?_
  rintro _ _ ⟨rfl, rfl⟩
  refine V_y (Y_assign rfl) rfl rfl rfl ?_
  refine V_to (fun _ _ => rfl) ?_
  refine C_seq ?_
  refine C_region ?_
  refine V_y (Y_move rfl) rfl rfl rfl ?_
  refine V_call Tryz.call37 rfl rfl rfl rfl (cmp_isNaN_int_c w y) ?_
  rintro _ _ ⟨rfl, rfl⟩
  refine V_y (Y_assign rfl) rfl rfl rfl ?_
  refine V_to (fun _ _ => rfl) ?_
  refine C_seq ?_
  refine C_seq ?_
  refine C_region ?_
  refine V_y (Y_move rfl) rfl rfl rfl ?_
  refine V_to (fun _ _ => rfl) ?_
  refine C_cond rfl (fun hc1 => ?_) (fun hc1 => ?_)
  · rw [if_pos hc1] at hm
    refine C_seq ?_
    refine C_seq ?_
    refine C_region ?_
    refine V_y (Y_move rfl) rfl rfl rfl ?_
    refine V_to (fun _ _ => rfl) ?_
    refine C_cond rfl (fun hc2 => ?_) (fun hc2 => ?_)
    · rw [if_pos hc2] at hm
      refine C_seq ?_
      refine C_region ?_
      refine V_y (Y_assign rfl) rfl rfl rfl ?_
      refine V_to (fun _ _ => rfl) ?_
      obtain rfl := hm
      refine C_ret ?_
      try simp only [↓inBlock_ret, ↓then_ret]
      exact retQ rfl (Res.one Tryz.results14 rfl) ⟨rfl, rfl⟩
    · rw [if_neg (nt hc2)] at hm
      refine C_skip_to (fun _ _ => rfl) ?_
      refine C_seq ?_
      refine C_region ?_
      refine V_y (Y_assign rfl) rfl rfl rfl ?_
      refine V_to (fun _ _ => rfl) ?_
      obtain rfl := hm
      refine C_ret ?_
      try simp only [↓inBlock_ret, ↓then_ret]
      exact retQ rfl (Res.one Tryz.results14 rfl) ⟨rfl, rfl⟩
  · rw [if_neg (nt hc1)] at hm
    refine C_skip_to (fun _ _ => rfl) ?_
    refine C_seq ?_
    refine C_seq ?_
    refine C_region ?_
    refine V_y (Y_move rfl) rfl rfl rfl ?_
    refine V_to (fun _ _ => rfl) ?_
    refine C_cond rfl (fun hc3 => ?_) (fun hc3 => ?_)
    · rw [if_pos hc3] at hm
      refine C_seq ?_
      refine C_region ?_
      refine V_y (Y_assign rfl) rfl rfl rfl ?_
      refine V_to (fun _ _ => rfl) ?_
      obtain rfl := hm
      refine C_ret ?_
      try simp only [↓inBlock_ret, ↓then_ret]
      exact retQ rfl (Res.one Tryz.results14 rfl) ⟨rfl, rfl⟩
    · rw [if_neg (nt hc3)] at hm
      refine C_skip_to (fun _ _ => rfl) ?_
      refine C_seq ?_
      refine C_seq ?_
      refine C_region ?_
      refine V_y (Y_move rfl) rfl rfl rfl ?_
      refine V_y (Y_move rfl) rfl rfl rfl ?_
      refine V_y (Y_lss rfl rfl) rfl rfl rfl ?_
      refine V_to (fun _ _ => rfl) ?_
      refine C_cond rfl (fun hc4 => ?_) (fun hc4 => ?_)
      · rw [if_pos hc4] at hm
        refine C_seq ?_
        refine C_region ?_
        refine V_y (Y_assign rfl) rfl rfl rfl ?_
        refine V_to (fun _ _ => rfl) ?_
        obtain rfl := hm
        refine C_ret ?_
        try simp only [↓inBlock_ret, ↓then_ret]
        exact retQ rfl (Res.one Tryz.results14 rfl) ⟨rfl, rfl⟩
      · rw [if_neg (nt hc4)] at hm
        refine C_skip_to (fun _ _ => rfl) ?_
        refine C_seq ?_
        refine C_seq ?_
        refine C_region ?_
        refine V_y (Y_move rfl) rfl rfl rfl ?_
        refine V_y (Y_move rfl) rfl rfl rfl ?_
        refine V_y (Y_gtr rfl rfl) rfl rfl rfl ?_
        refine V_to (fun _ _ => rfl) ?_
        refine C_cond rfl (fun hc5 => ?_) (fun hc5 => ?_)
        · rw [if_pos hc5] at hm
          refine C_seq ?_
          refine C_region ?_
          refine V_y (Y_assign rfl) rfl rfl rfl ?_
          refine V_to (fun _ _ => rfl) ?_
          obtain rfl := hm
          refine C_ret ?_
          try simp only [↓inBlock_ret, ↓then_ret]
          exact retQ rfl (Res.one Tryz.results14 rfl) ⟨rfl, rfl⟩
        · rw [if_neg (nt hc5)] at hm
          refine C_skip_to (fun _ _ => rfl) ?_
          refine C_seq ?_
          refine C_region ?_
          refine V_y (Y_assign rfl) rfl rfl rfl ?_
          refine V_to (fun _ _ => rfl) ?_
          obtain rfl := hm
          refine C_ret ?_
          try simp only [↓inBlock_ret, ↓then_ret]
          exact retQ rfl (Res.one Tryz.results14 rfl) ⟨rfl, rfl⟩

set_option maxRecDepth 4000 in
set_option maxHeartbeats 4000000 in
theorem know_byWord_c (w : World) {A : Nat → Prop} (hA : ∀ b, w.heap.size ≤ b → A b) (a_ : know_Term) (v_a_ : Value) (h_a_ : Sl A w v_a_ a_.list_) (b : know_Term) (v_b : Value) (h_b : Sl A w v_b b.list_) {r : Int} (hm : know_byWord a_ b = some r) : Ret Tryz.prog 15 #[.agg #[.string a_.word, v_a_], .agg #[.string b.word, v_b]] w fun v w' => v = .int .i64 r ∧ Kp Dw w w' := by
  unfold know_byWord at hm
  refine enter Tryz.func15 rfl Tryz.ntmps15 rfl ?_
  have hA0 := hA
  have hB := Nat.le_refl w.heap.size
  have hK : Tr Dw w.heap.size A w A w := Tr.refl (Dw := Dw) hA
  have hH : Hp w.heap.size A w [] := Hp.nil
  refine C_seq ?_
  refine C_region ?_
  refine V_box rfl rfl ?_
  intro b5 w6 h7
  have hk9 := h7.kp (Dw := Dw)
  have h8 : El (α := know_Term) A w6 b5 0 a_ := h7.el hA ⟨[.string a_.word], _, rfl, rfl, ⟨_, rfl, h_a_⟩⟩
  have ht10 := Kp.tr (Dw := Dw) hk9 hA hB
  replace hH := Hp.kp (Dw := Dw) hH hk9
  replace h_a_ := Sl.tr (Dw := Dw) h_a_ ht10
  replace h_b := Sl.tr (Dw := Dw) h_b ht10
  replace hK := Tr.trans (Dw := Dw) hK ht10
  replace hB := Nat.le_trans hB ht10.ex.size
  replace hA := ht10.new
  refine V_box rfl rfl ?_
  intro b11 w12 h13
  have hk15 := h13.kp (Dw := Dw)
  have h14 : El (α := know_Term) A w12 b11 0 b := h13.el hA ⟨[.string b.word], _, rfl, rfl, ⟨_, rfl, h_b⟩⟩
  have ht16 := Kp.tr (Dw := Dw) hk15 hA hB
  replace hH := Hp.kp (Dw := Dw) hH hk15
  replace h_a_ := Sl.tr (Dw := Dw) h_a_ ht16
  replace h_b := Sl.tr (Dw := Dw) h_b ht16
  replace h8 := El.tr (Dw := Dw) h8 ht16
  replace hK := Tr.trans (Dw := Dw) hK ht16
  replace hB := Nat.le_trans hB ht16.ex.size
  replace hA := ht16.new
  refine V_y (Y_assign rfl) rfl rfl rfl ?_
  refine V_to (fun _ _ => rfl) ?_
  refine C_seq ?_
  refine C_region ?_
  have h17 := El_know_Term_0 h8
  refine V_y (Y_fieldAddr Tryz.underlying44 rfl Tryz.sizeOf9 (by decide) rfl) rfl rfl rfl ?_
  refine V_y (Y_load (El.str h17) Tryz.isAgg9 rfl) rfl rfl rfl ?_
  have h18 := El_know_Term_0 h14
  refine V_y (Y_fieldAddr Tryz.underlying44 rfl Tryz.sizeOf9 (by decide) rfl) rfl rfl rfl ?_
  refine V_y (Y_load (El.str h18) Tryz.isAgg9 rfl) rfl rfl rfl ?_
  obtain ⟨x19, hx19, hm⟩ := Option.bind_eq_some_iff.1 hm
  refine V_call Tryz.call25 rfl rfl rfl rfl (strings_Compare_c (Dw := Dw) w12 hA a_.word b.word hx19) ?_
  rintro _ w20 ⟨rfl, hk21⟩
  have ht22 := Kp.tr (Dw := Dw) hk21 hA hB
  replace hH := Hp.kp (Dw := Dw) hH hk21
  replace h8 := El.tr (Dw := Dw) h8 ht22
  replace h14 := El.tr (Dw := Dw) h14 ht22
  replace h17 := El.tr (Dw := Dw) h17 ht22
  replace h18 := El.tr (Dw := Dw) h18 ht22
  replace hK := Tr.trans (Dw := Dw) hK ht22
  replace hB := Nat.le_trans hB ht22.ex.size
  replace hA := ht22.new
  refine V_y (Y_assign rfl) rfl rfl rfl ?_
  refine V_to (fun _ _ => rfl) ?_
  obtain rfl := Option.some.inj hm
  refine C_ret ?_
  try simp only [↓inBlock_ret, ↓then_ret]
  exact retQ rfl (Res.one Tryz.results15 rfl) ⟨rfl, hK.kp⟩

set_option maxRecDepth 4000 in
set_option maxHeartbeats 4000000 in
theorem cmp_Or_int_c (w : World) {A : Nat → Prop} (vals : (List Int)) (v_vals : Value) (h_vals : Sl A w v_vals vals) {r : Int} (hm : cmp_Or_int vals = some r) : Ret Tryz.prog 13 #[v_vals] w fun v w' => v = .int .i64 r ∧ w = w' := by
  unfold cmp_Or_int at hm
  refine enter Tryz.func13 rfl Tryz.ntmps13 rfl ?_
  refine C_seq ?_
  refine C_region ?_
  refine V_y (Y_assign rfl) rfl rfl rfl ?_
  refine V_to (fun _ _ => rfl) ?_
  refine C_seq ?_
  refine C_region ?_
  refine V_y (Y_assign rfl) rfl rfl rfl ?_
  refine V_to (fun _ _ => rfl) ?_
  refine C_seq ?_
  refine C_seq ?_
  refine C_region ?_
  refine V_y (Y_move rfl) rfl rfl rfl ?_
  refine V_y (Y_lenSl h_vals rfl Tryz.underlying22 rfl) rfl rfl rfl ?_
  refine V_y (Y_move rfl) rfl rfl rfl ?_
  refine V_to (fun _ _ => rfl) ?_
  have hn19 := Sl.le h_vals
  obtain ⟨o3, ho3, hm⟩ := Option.bind_eq_some_iff.1 hm
  refine C_cutG (ι := Unit) (fun (s4 : Unit) => [(3, .int .i64 0)]) (fun (s4 : Unit) => fun w' => o3 = .fin s4 ∧ w = w') ?_ ?_
  · refine C_block ?_
    refine C_range ho3 (fun k6 _ a w' => ∃ i : Unit, Has ⟨18, [], none⟩ a ([(3, .int .i64 0), (6, v_vals), (7, .int .i64 (vals.length : Int)), (8, .int .i64 (k6 : Int))]) ∧ w = w') (fun a ha => ⟨(), ha.sub ⟨rfl, rfl, rfl, rfl, trivial⟩, rfl⟩) ?_
    rintro K k6 _ a _ ⟨_, ha28, rfl⟩ hle15 K18 h17
    refine C_of ?_ ha28
    refine C_seq (C_region (V_y (Y_lss rfl rfl) rfl rfl rfl (V_to (fun _ _ => rfl) ?_)))
    refine C_seq ?_
    refine C_cond rfl (fun hc20 => ?_) (fun hc20 => ?_)
    · have hlt16 := lt_of_dec hc20
      obtain ⟨x12, h13, h14⟩ := K18 hlt16
      refine C_skip_to (fun _ _ => rfl) ?_
      refine C_seq ?_
      refine C_block ?_
      refine C_seq ?_
      refine C_region ?_
      obtain ⟨x21, hx21, h13⟩ := Option.bind_eq_some_iff.1 h13
      refine V_indexAddr h_vals hx21 Tryz.underlying22 Tryz.sizeOf3 rfl rfl rfl ?_
      intro b22 o23 h24
      refine V_y (Y_load (El.int h24) Tryz.isAgg3 rfl) rfl rfl rfl ?_
      refine V_y (Y_assign rfl) rfl rfl rfl ?_
      refine V_to (fun _ _ => rfl) ?_
      refine C_seq ?_
      refine C_region ?_
      refine V_y (Y_move rfl) rfl rfl rfl ?_
      refine V_y (Y_move rfl) rfl rfl rfl ?_
      refine V_y (Y_neq rfl rfl) rfl rfl rfl ?_
      refine V_to (fun _ _ => rfl) ?_
      refine C_cond rfl (fun hc25 => ?_) (fun hc25 => ?_)
      · rw [if_pos hc25] at h13
        refine C_seq ?_
        refine C_region ?_
        refine V_y (Y_move rfl) rfl rfl rfl ?_
        refine V_y (Y_assign rfl) rfl rfl rfl ?_
        refine V_to (fun _ _ => rfl) ?_
        obtain rfl := Option.some.inj h13
        obtain rfl := (h14 : Lp.rt _ = _)
        rw [Lp.andThen_rt] at hm
        obtain rfl := Option.some.inj hm
        refine C_ret ?_
        try simp only [↓inBlock_ret, ↓then_ret]
        exact retQ rfl (Res.one Tryz.results13 rfl) ⟨rfl, rfl⟩
      · rw [if_neg (nt hc25)] at h13
        refine C_skip_to (fun _ _ => rfl) ?_
        refine C_region ?_
        refine V_y (Y_addI rfl rfl) rfl rfl rfl ?_
        refine V_y (Y_move rfl) rfl rfl rfl ?_
        obtain rfl := Option.some.inj h13
        refine V_end (fun a ha26 => ?_)
        exact ⟨(), hlt16, h14, ⟨(), ha26.sub ⟨rfl, rfl, rfl, (congrArg (fun z => some (Value.int .i64 z)) (w64_succ hlt16 hn19)), trivial⟩, rfl⟩⟩
    · refine C_exit (fun a ha27 => ?_)
      exact ⟨(), ha27.sub ⟨rfl, trivial⟩, ⟨(h17 (eq_of_dec hle15 hc20)).symm, rfl⟩⟩
  rintro s4 _ ⟨rfl, rfl⟩ a ha9
  rw [Lp.andThen_fin] at hm
  refine C_at (n := ⟨18, [], none⟩) (fun _ _ => rfl) ?_ ha9
  refine C_seq ?_
  refine C_region ?_
  refine V_y (Y_move rfl) rfl rfl rfl ?_
  refine V_y (Y_assign rfl) rfl rfl rfl ?_
  refine V_to (fun _ _ => rfl) ?_
  obtain rfl := Option.some.inj hm
  refine C_ret ?_
  try simp only [↓inBlock_ret, ↓then_ret]
  exact retQ rfl (Res.one Tryz.results13 rfl) ⟨rfl, rfl⟩

set_option maxRecDepth 4000 in
set_option maxHeartbeats 4000000 in
theorem know_Suggest_1_c (w : World) {A : Nat → Prop} (hA : ∀ b, w.heap.size ≤ b → A b) (a_ : know_Term) (v_a_ : Value) (h_a_ : Sl A w v_a_ a_.list_) (b : know_Term) (v_b : Value) (h_b : Sl A w v_b b.list_) {r : Int} (hm : know_Suggest_1 a_ b = some r) : Ret Tryz.prog 12 #[.agg #[.string a_.word, v_a_], .agg #[.string b.word, v_b]] w fun v w' => v = .int .i64 r ∧ Kp Dw w w' := by
  unfold know_Suggest_1 at hm
  refine enter Tryz.func12 rfl Tryz.ntmps12 rfl ?_
  have hA0 := hA
  have hB := Nat.le_refl w.heap.size
  have hK : Tr Dw w.heap.size A w A w := Tr.refl (Dw := Dw) hA
  have hH : Hp w.heap.size A w [] := Hp.nil
  refine C_seq ?_
  refine C_region ?_
  refine V_box rfl rfl ?_
  intro b5 w6 h7
  have hk9 := h7.kp (Dw := Dw)
  have h8 : El (α := know_Term) A w6 b5 0 a_ := h7.el hA ⟨[.string a_.word], _, rfl, rfl, ⟨_, rfl, h_a_⟩⟩
  have ht10 := Kp.tr (Dw := Dw) hk9 hA hB
  replace hH := Hp.kp (Dw := Dw) hH hk9
  replace h_a_ := Sl.tr (Dw := Dw) h_a_ ht10
  replace h_b := Sl.tr (Dw := Dw) h_b ht10
  replace hK := Tr.trans (Dw := Dw) hK ht10
  replace hB := Nat.le_trans hB ht10.ex.size
  replace hA := ht10.new
  refine V_box rfl rfl ?_
  intro b11 w12 h13
  have hk15 := h13.kp (Dw := Dw)
  have h14 : El (α := know_Term) A w12 b11 0 b := h13.el hA ⟨[.string b.word], _, rfl, rfl, ⟨_, rfl, h_b⟩⟩
  have ht16 := Kp.tr (Dw := Dw) hk15 hA hB
  replace hH := Hp.kp (Dw := Dw) hH hk15
  replace h_a_ := Sl.tr (Dw := Dw) h_a_ ht16
  replace h_b := Sl.tr (Dw := Dw) h_b ht16
  replace h8 := El.tr (Dw := Dw) h8 ht16
  replace hK := Tr.trans (Dw := Dw) hK ht16
  replace hB := Nat.le_trans hB ht16.ex.size
  replace hA := ht16.new
  refine V_y (Y_assign rfl) rfl rfl rfl ?_
  refine V_to (fun _ _ => rfl) ?_
  refine C_seq ?_
  refine C_region_qt (Dw := Dw) 10 Tryz_mixed (by kernel_rfl) ?_
  simp only [List.take, List.drop]
  have h17 := El_know_Term_1 h8
  refine VQ_y (fun w' hw' => Y_fieldAddr Tryz.underlying44 rfl Tryz.sizeOf42 (by decide) rfl) rfl rfl rfl ?_
  obtain ⟨v18, h19, h20⟩ := El.list h17
  refine VQ_y (fun w' hw' => Y_load ((World.cell?_of_block (hw'.block _ (World.block_lt_of_cell? _ _ h19))).trans h19) Tryz.isAgg42 rfl) rfl rfl rfl ?_
  refine VQ_y (fun w' hw' => Y_lenSl h20 rfl Tryz.underlying42 rfl) rfl rfl rfl ?_
  have h21 := El_know_Term_1 h14
  refine VQ_y (fun w' hw' => Y_fieldAddr Tryz.underlying44 rfl Tryz.sizeOf42 (by decide) rfl) rfl rfl rfl ?_
  obtain ⟨v22, h23, h24⟩ := El.list h21
  refine VQ_y (fun w' hw' => Y_load ((World.cell?_of_block (hw'.block _ (World.block_lt_of_cell? _ _ h23))).trans h23) Tryz.isAgg42 rfl) rfl rfl rfl ?_
  refine VQ_y (fun w' hw' => Y_lenSl h24 rfl Tryz.underlying42 rfl) rfl rfl rfl ?_
  refine VQ_call (.int .i64 (cmp_Compare_int (a_.list_.length : Int) (b.list_.length : Int))) Tryz.call14 rfl rfl rfl rfl (fun w' hw' => (cmp_Compare_int_c w' (a_.list_.length : Int) (b.list_.length : Int)).mono (fun _ _ h => ⟨h.1, h.2 ▸ hw'⟩)) ?_
  obtain ⟨v25, h27, h26⟩ := El_know_Term h8
  refine VQ_y (fun w' hw' => Y_loadA (At.kp (Dw := Dw) h27 hw' h8.2.1) Tryz.isAgg44 Tryz.sizeOf44 rfl) rfl rfl rfl ?_
  obtain ⟨v28, h30, h29⟩ := El_know_Term h14
  refine VQ_y (fun w' hw' => Y_loadA (At.kp (Dw := Dw) h30 hw' h14.2.1) Tryz.isAgg44 Tryz.sizeOf44 rfl) rfl rfl rfl ?_
  obtain ⟨x31, hx31, hm⟩ := Option.bind_eq_some_iff.1 hm
  refine VQ_call (.int .i64 x31) Tryz.call15 rfl rfl rfl rfl (fun w' hw' => (know_byWord_c (Dw := Dw) w' (fun b hb => hA b (Nat.le_trans hw'.size hb)) a_ v25 (Sl.kp (Dw := Dw) h26 hw') b v28 (Sl.kp (Dw := Dw) h29 hw') hx31).mono (fun _ _ h => ⟨h.1, Kp.trans (Dw := Dw) hw' h.2⟩)) ?_
  refine VQ_tail (fun w33 hk34 => ?_)
  try simp only [List.take, List.drop]
  have ht35 := Kp.tr (Dw := Dw) hk34 hA hB
  replace hH := Hp.kp (Dw := Dw) hH hk34
  replace h8 := El.tr (Dw := Dw) h8 ht35
  replace h14 := El.tr (Dw := Dw) h14 ht35
  replace h17 := El.tr (Dw := Dw) h17 ht35
  replace h20 := Sl.tr (Dw := Dw) h20 ht35
  replace h21 := El.tr (Dw := Dw) h21 ht35
  replace h24 := Sl.tr (Dw := Dw) h24 ht35
  replace h26 := Sl.tr (Dw := Dw) h26 ht35
  replace h29 := Sl.tr (Dw := Dw) h29 ht35
  replace hK := Tr.trans (Dw := Dw) hK ht35
  replace hB := Nat.le_trans hB ht35.ex.size
  replace hA := ht35.new
  refine V_buildSlice (Dw := Dw) (cells := #[.int .i64 (cmp_Compare_int (a_.list_.length : Int) (b.list_.length : Int)), .int .i64 x31]) (l := ([(cmp_Compare_int (a_.list_.length : Int) (b.list_.length : Int)), x31] : List Int)) (len := 2) Tryz.underlying22 Tryz.sizeOf3 Tryz.zeroValue3 rfl (by generalize ((cmp_Compare_int (a_.list_.length : Int) (b.list_.length : Int)) : Int) = z40; kernel_rfl) (show (2 * 1 : Nat) ≠ 0 by decide) (show (2 * 1 : Nat) ≤ 2 ^ 24 by decide) hA ⟨[.int .i64 (cmp_Compare_int (a_.list_.length : Int) (b.list_.length : Int))], _, rfl, rfl, ⟨[.int .i64 x31], _, rfl, rfl, rfl⟩⟩ rfl rfl ?_
  intro v36 w37 hk39 h38
  have ht41 := Kp.tr (Dw := Dw) hk39 hA hB
  replace hH := Hp.kp (Dw := Dw) hH hk39
  replace h8 := El.tr (Dw := Dw) h8 ht41
  replace h14 := El.tr (Dw := Dw) h14 ht41
  replace h17 := El.tr (Dw := Dw) h17 ht41
  replace h20 := Sl.tr (Dw := Dw) h20 ht41
  replace h21 := El.tr (Dw := Dw) h21 ht41
  replace h24 := Sl.tr (Dw := Dw) h24 ht41
  replace h26 := Sl.tr (Dw := Dw) h26 ht41
  replace h29 := Sl.tr (Dw := Dw) h29 ht41
  replace hK := Tr.trans (Dw := Dw) hK ht41
  replace hB := Nat.le_trans hB ht41.ex.size
  replace hA := ht41.new
  obtain ⟨x42, hx42, hm⟩ := Option.bind_eq_some_iff.1 hm
  refine V_call Tryz.call13 rfl rfl rfl rfl (cmp_Or_int_c w37 ([(cmp_Compare_int (a_.list_.length : Int) (b.list_.length : Int)), x31] : List Int) v36 h38 hx42) ?_
  rintro _ _ ⟨rfl, rfl⟩
  refine V_y (Y_assign rfl) rfl rfl rfl ?_
  refine V_to (fun _ _ => rfl) ?_
  obtain rfl := Option.some.inj hm
  refine C_ret ?_
  try simp only [↓inBlock_ret, ↓then_ret]
  exact retQ rfl (Res.one Tryz.results12 rfl) ⟨rfl, hK.kp⟩

def Tryz_sf11_ren : Go.Shelf.Ren := ⟨fun | 6 => 11 | 14 => 35 | 15 => 36 | 20 => 60 | 21 => 61 | 22 => 62 | 23 => 63 | 24 => 64 | 25 => 65 | 26 => 66 | 27 => 67 | 28 => 68 | 29 => 69 | 46 => 82 | 47 => 83 | 48 => 84 | 49 => 85 | 50 => 86 | 57 => 99 | n => n, fun | 0 => 0 | 1 => 1 | 2 => 2 | 3 => 3 | 4 => 4 | 5 => 5 | 6 => 6 | 7 => 7 | 8 => 8 | 9 => 9 | 10 => 10 | 11 => 11 | 12 => 12 | 13 => 13 | 14 => 14 | 15 => 15 | 16 => 16 | 17 => 17 | 18 => 18 | 19 => 19 | 20 => 20 | 21 => 21 | 22 => 23 | 23 => 41 | 24 => 44 | 25 => 47 | 27 => 22 | 29 => 46 | 37 => 66 | 38 => 67 | 39 => 68 | 42 => 69 | 44 => 86 | 45 => 87 | 46 => 88 | 47 => 89 | 48 => 90 | 49 => 91 | 50 => 70 | 51 => 92 | 52 => 93 | 53 => 94 | 54 => 95 | 55 => 96 | 66 => 107 | 67 => 108 | 68 => 109 | 69 => 110 | 70 => 111 | 71 => 112 | 76 => 121 | 77 => 122 | 78 => 123 | 81 => 135 | 82 => 136 | 83 => 137 | 84 => 138 | 85 => 139 | 86 => 140 | 87 => 141 | 88 => 142 | 89 => 143 | 90 => 144 | 91 => 145 | 92 => 146 | 93 => 147 | 94 => 148 | 95 => 149 | 96 => 151 | n => n, fun n => n⟩
theorem Tryz_sf11_lay : Go.Proofs.SlLaysF0.n6 Tryz.prog Tryz_sf11_ren := {
  mixed := by kernel_rfl,
  f6 := ⟨ "slices.SortFunc[[]porterslodge/know.Term,porterslodge/know.Term]", by kernel_rfl, Tryz.func11.trans (congrArg some (by kernel_rfl))⟩,
  f14 := ⟨ "slices.pdqsortCmpFunc[porterslodge/know.Term]", by kernel_rfl, Tryz.func35.trans (congrArg some (by kernel_rfl))⟩,
  f15 := Tryz.func36.trans (congrArg some (by kernel_rfl)),
  f20 := ⟨ "slices.insertionSortCmpFunc[porterslodge/know.Term]", by kernel_rfl, Tryz.func60.trans (congrArg some (by kernel_rfl))⟩,
  f21 := ⟨ "slices.heapSortCmpFunc[porterslodge/know.Term]", by kernel_rfl, Tryz.func61.trans (congrArg some (by kernel_rfl))⟩,
  f22 := ⟨ "slices.breakPatternsCmpFunc[porterslodge/know.Term]", by kernel_rfl, Tryz.func62.trans (congrArg some (by kernel_rfl))⟩,
  f23 := ⟨ "slices.choosePivotCmpFunc[porterslodge/know.Term]", by kernel_rfl, Tryz.func63.trans (congrArg some (by kernel_rfl))⟩,
  f24 := ⟨ "slices.reverseRangeCmpFunc[porterslodge/know.Term]", by kernel_rfl, Tryz.func64.trans (congrArg some (by kernel_rfl))⟩,
  f25 := ⟨ "slices.partialInsertionSortCmpFunc[porterslodge/know.Term]", by kernel_rfl, Tryz.func65.trans (congrArg some (by kernel_rfl))⟩,
  f26 := ⟨ "slices.partitionEqualCmpFunc[porterslodge/know.Term]", by kernel_rfl, Tryz.func66.trans (congrArg some (by kernel_rfl))⟩,
  f27 := ⟨ "slices.partitionCmpFunc[porterslodge/know.Term]", by kernel_rfl, Tryz.func67.trans (congrArg some (by kernel_rfl))⟩,
  f28 := Tryz.func68.trans (congrArg some (by kernel_rfl)),
  f29 := Tryz.func69.trans (congrArg some (by kernel_rfl)),
  f46 := ⟨ "slices.siftDownCmpFunc[porterslodge/know.Term]", by kernel_rfl, Tryz.func82.trans (congrArg some (by kernel_rfl))⟩,
  f47 := Tryz.func83.trans (congrArg some (by kernel_rfl)),
  f48 := Tryz.func84.trans (congrArg some (by kernel_rfl)),
  f49 := ⟨ "slices.medianAdjacentCmpFunc[porterslodge/know.Term]", by kernel_rfl, Tryz.func85.trans (congrArg some (by kernel_rfl))⟩,
  f50 := ⟨ "slices.medianCmpFunc[porterslodge/know.Term]", by kernel_rfl, Tryz.func86.trans (congrArg some (by kernel_rfl))⟩,
  f57 := ⟨ "slices.order2CmpFunc[porterslodge/know.Term]", by kernel_rfl, Tryz.func99.trans (congrArg some (by kernel_rfl))⟩,
  t0 := Tryz.underlying0,
  a0 := Tryz.isAgg0,
  z0 := Tryz.sizeOf0,
  v0 := Tryz.zeroValue0,
  t3 := Tryz.underlying3,
  a3 := Tryz.isAgg3,
  z3 := Tryz.sizeOf3,
  v3 := Tryz.zeroValue3,
  t4 := Tryz.underlying4,
  a4 := Tryz.isAgg4,
  z4 := Tryz.sizeOf4,
  v4 := Tryz.zeroValue4,
  t5 := Tryz.underlying5,
  a5 := Tryz.isAgg5,
  z5 := Tryz.sizeOf5,
  v5 := Tryz.zeroValue5,
  t9 := Tryz.underlying9,
  a9 := Tryz.isAgg9,
  z9 := Tryz.sizeOf9,
  v9 := Tryz.zeroValue9,
  t22 := Tryz.underlying23,
  a22 := Tryz.isAgg23,
  z22 := Tryz.sizeOf23,
  v22 := Tryz.zeroValue23,
  t25 := Tryz.underlying47,
  a25 := Tryz.isAgg47,
  z25 := Tryz.sizeOf47,
  v25 := Tryz.zeroValue47,
  t39 := Tryz.underlying68,
  a39 := Tryz.isAgg68,
  z39 := Tryz.sizeOf68,
  v39 := Tryz.zeroValue68,
  t45 := Tryz.underlying87,
  a45 := Tryz.isAgg87,
  z45 := Tryz.sizeOf87,
  v45 := Tryz.zeroValue87,
  t46 := Tryz.underlying88,
  a46 := Tryz.isAgg88,
  z46 := Tryz.sizeOf88,
  v46 := Tryz.zeroValue88,
  t50 := Tryz.underlying70,
  a50 := Tryz.isAgg70,
  z50 := Tryz.sizeOf70,
  v50 := Tryz.zeroValue70,
  t53 := Tryz.underlying94,
  a53 := Tryz.isAgg94,
  z53 := Tryz.sizeOf94,
  v53 := Tryz.zeroValue94,
  t55 := Tryz.underlying96,
  a55 := Tryz.isAgg96,
  z55 := Tryz.sizeOf96,
  v55 := Tryz.zeroValue96,
  t66 := Tryz.underlying107,
  a66 := Tryz.isAgg107,
  z66 := Tryz.sizeOf107,
  v66 := Tryz.zeroValue107,
  t70 := Tryz.underlying111,
  a70 := Tryz.isAgg111,
  z70 := Tryz.sizeOf111,
  v70 := Tryz.zeroValue111,
  t76 := Tryz.underlying121,
  a76 := Tryz.isAgg121,
  z76 := Tryz.sizeOf121,
  v76 := Tryz.zeroValue121,
  t77 := Tryz.underlying122,
  a77 := Tryz.isAgg122,
  z77 := Tryz.sizeOf122,
  v77 := Tryz.zeroValue122 }
theorem Tryz_sf11 {cmp : know_Term → know_Term → Option Int} {l r : List know_Term} {g : FuncId} {cb : Array Value} {B : Nat} {A : Nat → Prop} {w : World} {L : List Ob} {i : Nat} {v : Value} (eg : ∀ (args : Array Value) (w : World), (callFunc g args).run Tryz.prog w = .ok (.enter g args) w) (hcl : ∀ (w1 : World), Tr True B A w A w1 → (∀ b, w1.heap.size ≤ b → A b) → ∀ (x y : know_Term) (cx cy : List Value) (c : Int), GoT.rep A w1 cx x → GoT.rep A w1 cy y → cmp x y = some c → Ret Tryz.prog g (#[.agg cx.toArray, .agg cy.toArray] ++ cb) w1 fun v w' => v = .int .i64 c ∧ Kp True w1 w') (hH : Hp B A w L) (hi : L[i]? = some (obS (α := know_Term) 44 v l)) (hB : B ≤ w.heap.size) (hA : ∀ b, w.heap.size ≤ b → A b) (hr : sortFuncL cmp l = some r) : Ret Tryz.prog 11 #[v, .func (.func g) #[] cb] w fun u w' => u = .tuple #[] ∧ Hp B A w' (L.set i (obS (α := know_Term) 44 v r)) ∧ Tr Dw B A w A w' :=
  Hp.sortFuncK (Dw := Dw) (fun p c w => Go.Proofs.AnyF.slices_SortFunc_none Tryz_sf11_lay p c _ w) (fun enc hk hone cf hO blk off cap d w hc hh hb hs => Go.Proofs.AnyQ.slices_SortFunc Tryz_sf11_lay _ Tryz.isAgg44 Tryz.sizeOf44 enc hk hone cf hO g cb blk off cap d w eg hc hh hb hs) hcl hH hi hB hA hr

set_option maxRecDepth 4000 in
set_option maxHeartbeats 4000000 in
theorem slices_BinarySearchFunc_Lknow_Posting_know_Posting_int_c (w : World) {A : Nat → Prop} (hA : ∀ b, w.heap.size ≤ b → A b) (x : (List know_Posting)) (v_x : Value) (h_x : Sl A w v_x x) (target : Int) (cmp : know_Posting → Int → Option Int) (cmp_f : FuncId) (cmp_a cmp_c : Array Value) (cmp_call : ∀ (args : Array Value) (w : World), (callFunc cmp_f args).run Tryz.prog w = .ok (.enter cmp_f args) w) (cmp_spec : ∀ (w1 : World) (A1 : Nat → Prop), Tr Dw w.heap.size A w A1 w1 → (∀ b, w1.heap.size ≤ b → A1 b) → ∀ (y0 : know_Posting) (v1 : Value) (h2 : Sl A1 w1 v1 y0.title) (v3 : Value) (h4 : Sl A1 w1 v3 y0.body) (y1 : Int) (r : Int), cmp y0 y1 = some r → Ret Tryz.prog cmp_f (cmp_a ++ #[.agg #[.int .i64 y0.id_, v1, v3], .int .i64 y1] ++ cmp_c) w1 fun v w' => v = .int .i64 r ∧ Kp Dw w1 w') {r : (Int × Bool)} (hm : slices_BinarySearchFunc_Lknow_Posting_know_Posting_int x target cmp = some r) : Ret Tryz.prog 38 #[v_x, .int .i64 target, .func (.func cmp_f) cmp_a cmp_c] w fun v w' => v = .tuple #[.int .i64 r.1, .bool r.2] ∧ Kp Dw w w' := by
  unfold slices_BinarySearchFunc_Lknow_Posting_know_Posting_int at hm
  refine enter Tryz.func38 rfl Tryz.ntmps38 rfl ?_
  have hA0 := hA
  have hB := Nat.le_refl w.heap.size
  have hK : Tr Dw w.heap.size A w A w := Tr.refl (Dw := Dw) hA
  have hH : Hp w.heap.size A w [] := Hp.nil
  refine C_seq ?_
  refine C_region ?_
  refine V_y (Y_assign rfl) rfl rfl rfl ?_
  refine V_y (Y_assign rfl) rfl rfl rfl ?_
  refine V_to (fun _ _ => rfl) ?_
  refine C_seq ?_
  refine C_region ?_
  refine V_y (Y_move rfl) rfl rfl rfl ?_
  refine V_y (Y_lenSl h_x rfl Tryz.underlying42 rfl) rfl rfl rfl ?_
  refine V_y (Y_assign rfl) rfl rfl rfl ?_
  refine V_to (fun _ _ => rfl) ?_
  refine C_seq ?_
  refine C_region ?_
  refine V_y (Y_move rfl) rfl rfl rfl ?_
  refine V_y (Y_assign rfl) rfl rfl rfl ?_
  refine V_y (Y_assign rfl) rfl rfl rfl ?_
  refine V_to (fun _ _ => rfl) ?_
  refine C_seq ?_
  obtain ⟨o3, ho3, hm⟩ := Option.bind_eq_some_iff.1 hm
  refine C_cutG (ι := ((Int × Int) × (Nat → Prop))) (fun ⟨s4, A10⟩ => [(0, v_x), (1, .int .i64 target), (2, .func (.func cmp_f) cmp_a cmp_c), (8, .int .i64 (x.length : Int)), (9, .int .i64 s4.1)]) (fun ⟨s4, A10⟩ => fun w' => o3 = .fin s4 ∧ Hp w.heap.size A10 w' ([]) ∧ Tr Dw w.heap.size A w A10 w') ?_ ?_
  · refine C_block ?_
    refine C_while ho3 (fun s12 a w' => ∃ i : (Nat → Prop), Has ⟨49, [], none⟩ a ([(0, v_x), (1, .int .i64 target), (2, .func (.func cmp_f) cmp_a cmp_c), (8, .int .i64 (x.length : Int)), (9, .int .i64 s12.1), (10, .int .i64 s12.2)]) ∧ Hp w.heap.size i w' ([]) ∧ Tr Dw w.heap.size A w i w') (fun a ha => ⟨A, ha.sub ⟨rfl, rfl, rfl, rfl, rfl, rfl, trivial⟩, ⟨hH, Tr.refl (Dw := Dw) hA⟩⟩) ?_
    rintro K s12 a w13 ⟨A14, ha58, hH15, hr5⟩ K22
    refine C_of ?_ ha58
    replace h_x := Sl.tr (Dw := Dw) h_x hr5
    replace hK := Tr.trans (Dw := Dw) hK hr5
    replace hB := Nat.le_trans hB hr5.ex.size
    replace hA := hr5.new
    replace hH : Hp w.heap.size A14 w13 ([]) := hH15
    obtain ⟨x16, h17, h18⟩ := K22
    refine C_seq ?_
    refine C_seq ?_
    refine C_region ?_
    refine V_y (Y_move rfl) rfl rfl rfl ?_
    refine V_y (Y_move rfl) rfl rfl rfl ?_
    refine V_y (Y_lss rfl rfl) rfl rfl rfl ?_
    refine V_to (fun _ _ => rfl) ?_
    refine C_cond rfl (fun hc23 => ?_) (fun hc23 => ?_)
    · rw [if_pos hc23] at h17
      refine C_skip_to (fun _ _ => rfl) ?_
      obtain ⟨s25, ho24, h17⟩ := Option.bind_eq_some_iff.1 h17
      refine C_cutG (ι := (Nat → Prop)) (fun (A30 : (Nat → Prop)) => [(0, v_x), (1, .int .i64 target), (2, .func (.func cmp_f) cmp_a cmp_c), (8, .int .i64 (x.length : Int)), (9, .int .i64 s25.1), (10, .int .i64 s25.2)]) (fun (A30 : (Nat → Prop)) => fun w' => Hp w.heap.size A30 w' ([]) ∧ Tr Dw w.heap.size A14 w13 A30 w') ?_ ?_
      · have hr26 : Tr Dw w.heap.size A14 w13 A14 w13 := Tr.refl (Dw := Dw) hA
        refine C_block ?_
        refine C_seq ?_
        refine C_region ?_
        refine V_y (Y_move rfl) rfl rfl rfl ?_
        refine V_y (Y_move rfl) rfl rfl rfl ?_
        refine V_y (Y_addI rfl rfl) rfl rfl rfl ?_
        refine V_y (Y_convI Tryz.underlying3 Tryz.underlying68 rfl) rfl rfl rfl ?_
        obtain ⟨x32, hx32, ho24⟩ := Option.bind_eq_some_iff.1 ho24
        refine V_y (Y_shr hx32 rfl rfl) rfl rfl rfl ?_
        refine V_y (Y_convI Tryz.underlying68 Tryz.underlying3 rfl) rfl rfl rfl ?_
        refine V_y (Y_assign rfl) rfl rfl rfl ?_
        refine V_to (fun _ _ => rfl) ?_
        refine C_seq ?_
        refine C_region ?_
        refine V_y (Y_move rfl) rfl rfl rfl ?_
        refine V_y (Y_move rfl) rfl rfl rfl ?_
        refine V_y (Y_move rfl) rfl rfl rfl ?_
        obtain ⟨x33, hx33, ho24⟩ := Option.bind_eq_some_iff.1 ho24
        refine V_indexAddr h_x hx33 Tryz.underlying42 Tryz.sizeOf49 rfl rfl rfl ?_
        intro b34 o35 h36
        obtain ⟨v37, v39, h41, h38, h40⟩ := El_know_Posting h36
        refine V_y (Y_loadA h41 Tryz.isAgg49 Tryz.sizeOf49 rfl) rfl rfl rfl ?_
        refine V_y (Y_move rfl) rfl rfl rfl ?_
        obtain ⟨x42, hx42, ho24⟩ := Option.bind_eq_some_iff.1 ho24
        refine V_call cmp_call rfl rfl rfl rfl (cmp_spec w13 _ hK hA x33 v37 h38 v39 h40 target _ hx42) ?_
        rintro _ w43 ⟨rfl, hk44⟩
        have ht45 := Kp.tr (Dw := Dw) hk44 hA hB
        replace hH := Hp.kp (Dw := Dw) hH hk44
        replace h_x := Sl.tr (Dw := Dw) h_x ht45
        replace h36 := El.tr (Dw := Dw) h36 ht45
        replace h38 := Sl.tr (Dw := Dw) h38 ht45
        replace h40 := Sl.tr (Dw := Dw) h40 ht45
        replace hK := Tr.trans (Dw := Dw) hK ht45
        replace hr5 := Tr.trans (Dw := Dw) hr5 ht45
        replace hr26 := Tr.trans (Dw := Dw) hr26 ht45
        replace hB := Nat.le_trans hB ht45.ex.size
        replace hA := ht45.new
        refine V_y (Y_lss rfl rfl) rfl rfl rfl ?_
        refine V_to (fun _ _ => rfl) ?_
        obtain ⟨s47, ho46, ho24⟩ := Option.bind_eq_some_iff.1 ho24
        refine C_cutG (ι := Unit) (fun (_ : Unit) => [(0, v_x), (1, .int .i64 target), (2, .func (.func cmp_f) cmp_a cmp_c), (8, .int .i64 (x.length : Int)), (9, .int .i64 s47.1), (10, .int .i64 s47.2)]) (fun (_ : Unit) => fun w' => w43 = w') ?_ ?_
        · refine C_cond rfl (fun hc52 => ?_) (fun hc52 => ?_)
          · rw [if_pos hc52] at ho46
            refine C_region ?_
            refine V_y (Y_move rfl) rfl rfl rfl ?_
            refine V_y (Y_addI rfl rfl) rfl rfl rfl ?_
            refine V_y (Y_assign rfl) rfl rfl rfl ?_
            obtain rfl := Option.some.inj ho46
            refine V_end (fun a ha53 => ?_)
            exact ⟨(), ha53.sub ⟨rfl, rfl, rfl, rfl, rfl, rfl, trivial⟩, rfl⟩
          · rw [if_neg (nt hc52)] at ho46
            refine C_region ?_
            refine V_y (Y_move rfl) rfl rfl rfl ?_
            refine V_y (Y_assign rfl) rfl rfl rfl ?_
            obtain rfl := Option.some.inj ho46
            refine V_end (fun a ha54 => ?_)
            exact ⟨(), ha54.sub ⟨rfl, rfl, rfl, rfl, rfl, rfl, trivial⟩, rfl⟩
        rintro _ _ rfl a ha51
        obtain rfl := Option.some.inj ho24
        exact ⟨A14, ha51.sub ⟨rfl, rfl, rfl, rfl, rfl, rfl, trivial⟩, ⟨hH, hr26⟩⟩
      rintro A30 w27 ⟨hH31, hk28⟩ a ha29
      replace h_x := Sl.tr (Dw := Dw) h_x hk28
      replace hK := Tr.trans (Dw := Dw) hK hk28
      replace hr5 := Tr.trans (Dw := Dw) hr5 hk28
      replace hB := Nat.le_trans hB hk28.ex.size
      replace hA := hk28.new
      replace hH : Hp w.heap.size A30 w27 ([]) := hH31
      obtain rfl := Option.some.inj h17
      exact ⟨(s25.1, s25.2), h18, ⟨A30, ha29.sub ⟨rfl, rfl, rfl, rfl, rfl, rfl, trivial⟩, ⟨hH, hr5⟩⟩⟩
    · rw [if_neg (nt hc23)] at h17
      obtain rfl := Option.some.inj h17
      refine C_exit (fun a ha57 => ?_)
      exact ⟨((s12.1, s12.2), A14), ha57.sub ⟨rfl, rfl, rfl, rfl, rfl, trivial⟩, ⟨h18.symm, hH, hr5⟩⟩
  rintro ⟨s4, A10⟩ w7 ⟨rfl, hH11, hk8⟩ a ha9
  rw [Lp.andThen_fin] at hm
  replace h_x := Sl.tr (Dw := Dw) h_x hk8
  replace hK := Tr.trans (Dw := Dw) hK hk8
  replace hB := Nat.le_trans hB hk8.ex.size
  replace hA := hk8.new
  replace hH : Hp w.heap.size A10 w7 ([]) := hH11
  refine C_at (n := ⟨49, [], none⟩) (fun _ _ => rfl) ?_ ha9
  refine C_seq ?_
  obtain ⟨s60, ho59, hm⟩ := Option.bind_eq_some_iff.1 hm
  refine C_cutG (ι := (Nat → Prop)) (fun (A65 : (Nat → Prop)) => [(6, .int .i64 s60.1), (7, .bool s60.2)]) (fun (A65 : (Nat → Prop)) => fun w' => Hp w.heap.size A65 w' ([]) ∧ Tr Dw w.heap.size A10 w7 A65 w') ?_ ?_
  · have hr61 : Tr Dw w.heap.size A10 w7 A10 w7 := Tr.refl (Dw := Dw) hA
    refine C_region ?_
    refine V_y (Y_move rfl) rfl rfl rfl ?_
    refine V_y (Y_move rfl) rfl rfl rfl ?_
    refine V_y (Y_move rfl) rfl rfl rfl ?_
    refine V_y (Y_lss rfl rfl) rfl rfl rfl ?_
    refine V_y (Y_move rfl) rfl rfl rfl ?_
    rcases Bool.eq_false_or_eq_true (decide (s4.1 < (x.length : Int))) with hc67 | hc67
    · rw [if_pos hc67] at ho59
      refine V_ge rfl rfl rfl hc67 ?_
      refine V_y (Y_move rfl) rfl rfl rfl ?_
      refine V_ge rfl rfl rfl hc67 ?_
      refine V_y (Y_move rfl) rfl rfl rfl ?_
      refine V_ge rfl rfl rfl hc67 ?_
      refine V_y (Y_move rfl) rfl rfl rfl ?_
      refine V_ge rfl rfl rfl hc67 ?_
      obtain ⟨x68, hx68, ho59⟩ := Option.bind_eq_some_iff.1 ho59
      refine V_indexAddr h_x hx68 Tryz.underlying42 Tryz.sizeOf49 rfl rfl rfl ?_
      intro b69 o70 h71
      refine V_ge rfl rfl rfl hc67 ?_
      obtain ⟨v72, v74, h76, h73, h75⟩ := El_know_Posting h71
      refine V_y (Y_loadA h76 Tryz.isAgg49 Tryz.sizeOf49 rfl) rfl rfl rfl ?_
      refine V_ge rfl rfl rfl hc67 ?_
      refine V_y (Y_move rfl) rfl rfl rfl ?_
      refine V_ge rfl rfl rfl hc67 ?_
      obtain ⟨x77, hx77, ho59⟩ := Option.bind_eq_some_iff.1 ho59
      refine V_call cmp_call rfl rfl rfl rfl (cmp_spec w7 _ hK hA x68 v72 h73 v74 h75 target _ hx77) ?_
      rintro _ w78 ⟨rfl, hk79⟩
      have ht80 := Kp.tr (Dw := Dw) hk79 hA hB
      replace hH := Hp.kp (Dw := Dw) hH hk79
      replace h_x := Sl.tr (Dw := Dw) h_x ht80
      replace h71 := El.tr (Dw := Dw) h71 ht80
      replace h73 := Sl.tr (Dw := Dw) h73 ht80
      replace h75 := Sl.tr (Dw := Dw) h75 ht80
      replace hK := Tr.trans (Dw := Dw) hK ht80
      replace hr61 := Tr.trans (Dw := Dw) hr61 ht80
      replace hB := Nat.le_trans hB ht80.ex.size
      replace hA := ht80.new
      refine V_ge rfl rfl rfl hc67 ?_
      refine V_y (Y_eql rfl rfl) rfl rfl rfl ?_
      refine V_y (Y_pick_te rfl hc67 rfl) rfl rfl rfl ?_
      refine V_y (Y_assign rfl) rfl rfl rfl ?_
      refine V_y (Y_assign rfl) rfl rfl rfl ?_
      obtain rfl := Option.some.inj ho59
      refine V_end (fun a ha81 => ?_)
      exact ⟨A10, ha81.sub ⟨rfl, rfl, trivial⟩, ⟨hH, hr61⟩⟩
    · rw [if_neg (nt hc67)] at ho59
      refine V_gn rfl rfl rfl hc67 rfl rfl rfl ?_
      refine V_gn rfl rfl rfl hc67 rfl rfl rfl ?_
      refine V_gn rfl rfl rfl hc67 rfl rfl rfl ?_
      refine V_gn rfl rfl rfl hc67 rfl rfl rfl ?_
      refine V_gn rfl rfl rfl hc67 rfl rfl rfl ?_
      refine V_gn rfl rfl rfl hc67 rfl rfl rfl ?_
      refine V_gn rfl rfl rfl hc67 rfl rfl rfl ?_
      refine V_gn rfl rfl rfl hc67 rfl rfl rfl ?_
      refine V_y (Y_pick_fe rfl hc67 rfl) rfl rfl rfl ?_
      refine V_y (Y_assign rfl) rfl rfl rfl ?_
      refine V_y (Y_assign rfl) rfl rfl rfl ?_
      obtain rfl := Option.some.inj ho59
      refine V_end (fun a ha82 => ?_)
      exact ⟨A10, ha82.sub ⟨rfl, rfl, trivial⟩, ⟨hH, hr61⟩⟩
  rintro A65 w62 ⟨hH66, hk63⟩ a ha64
  replace hK := Tr.trans (Dw := Dw) hK hk63
  replace hB := Nat.le_trans hB hk63.ex.size
  replace hA := hk63.new
  replace hH : Hp w.heap.size A65 w62 ([]) := hH66
  refine C_at (n := ⟨49, [], none⟩) (fun _ _ => rfl) ?_ ha64
  obtain rfl := Option.some.inj hm
  refine C_ret ?_
  try simp only [↓inBlock_ret, ↓then_ret]
  exact retQ rfl (Res.two Tryz.results38 rfl rfl) ⟨rfl, hK.kp⟩

set_option maxRecDepth 4000 in
set_option maxHeartbeats 4000000 in
theorem know_Term_posting_1_c (w : World) {A : Nat → Prop} (hA : ∀ b, w.heap.size ≤ b → A b) (p : know_Posting) (v_p0 : Value) (h_p0 : Sl A w v_p0 p.title) (v_p1 : Value) (h_p1 : Sl A w v_p1 p.body) (id_ : Int) {r : Int} (hm : know_Term_posting_1 p id_ = some r) : Ret Tryz.prog 39 #[.agg #[.int .i64 p.id_, v_p0, v_p1], .int .i64 id_] w fun v w' => v = .int .i64 r ∧ Kp Dw w w' := by
  unfold know_Term_posting_1 at hm
  refine enter Tryz.func39 rfl Tryz.ntmps39 rfl ?_
  have hA0 := hA
  have hB := Nat.le_refl w.heap.size
  have hK : Tr Dw w.heap.size A w A w := Tr.refl (Dw := Dw) hA
  have hH : Hp w.heap.size A w [] := Hp.nil
  refine C_seq ?_
  refine C_region ?_
  refine V_box rfl rfl ?_
  intro b5 w6 h7
  have hk9 := h7.kp (Dw := Dw)
  have h8 : El (α := know_Posting) A w6 b5 0 p := h7.el hA ⟨[.int .i64 p.id_], _, rfl, rfl, ⟨[v_p0], _, rfl, ⟨_, rfl, h_p0⟩, ⟨_, rfl, h_p1⟩⟩⟩
  have ht10 := Kp.tr (Dw := Dw) hk9 hA hB
  replace hH := Hp.kp (Dw := Dw) hH hk9
  replace h_p0 := Sl.tr (Dw := Dw) h_p0 ht10
  replace h_p1 := Sl.tr (Dw := Dw) h_p1 ht10
  replace hK := Tr.trans (Dw := Dw) hK ht10
  replace hB := Nat.le_trans hB ht10.ex.size
  replace hA := ht10.new
  refine V_y (Y_assign rfl) rfl rfl rfl ?_
  refine V_to (fun _ _ => rfl) ?_
  refine C_seq ?_
  refine C_region ?_
  have h11 := El_know_Posting_0 h8
  refine V_y (Y_fieldAddr Tryz.underlying49 rfl Tryz.sizeOf3 (by decide) rfl) rfl rfl rfl ?_
  refine V_y (Y_load (El.int h11) Tryz.isAgg3 rfl) rfl rfl rfl ?_
  refine V_y (Y_move rfl) rfl rfl rfl ?_
  refine V_call Tryz.call14 rfl rfl rfl rfl (cmp_Compare_int_c w6 p.id_ id_) ?_
  rintro _ _ ⟨rfl, rfl⟩
  refine V_y (Y_assign rfl) rfl rfl rfl ?_
  refine V_to (fun _ _ => rfl) ?_
  obtain rfl := Option.some.inj hm
  refine C_ret ?_
  try simp only [↓inBlock_ret, ↓then_ret]
  exact retQ rfl (Res.one Tryz.results39 rfl) ⟨rfl, hK.kp⟩

set_option maxRecDepth 4000 in
set_option maxHeartbeats 4000000 in
theorem know_Term_posting_c (w : World) {A : Nat → Prop} (hA : ∀ b, w.heap.size ≤ b → A b) (t : know_Term) (v_t : Value) (h_t : Sl A w v_t t.list_) (id_ : Int) {r : (know_Posting × Bool)} (hm : know_Term_posting t id_ = some r) : Ret Tryz.prog 16 #[.agg #[.string t.word, v_t], .int .i64 id_] w fun v w' => ∃ s0 s1, v = .tuple #[.agg #[.int .i64 r.1.id_, s0, s1], .bool r.2] ∧ Sl A w' s0 r.1.title ∧ Sl A w' s1 r.1.body ∧ Kp Dw w w' := by
  unfold know_Term_posting at hm
  refine enter Tryz.func16 rfl Tryz.ntmps16 rfl ?_
  have hA0 := hA
  have hB := Nat.le_refl w.heap.size
  have hK : Tr Dw w.heap.size A w A w := Tr.refl (Dw := Dw) hA
  have hH : Hp w.heap.size A w [] := Hp.nil
  refine C_seq ?_
  refine C_region ?_
  refine V_box rfl rfl ?_
  intro b3 w4 h5
  have hk7 := h5.kp (Dw := Dw)
  have h6 : El (α := know_Term) A w4 b3 0 t := h5.el hA ⟨[.string t.word], _, rfl, rfl, ⟨_, rfl, h_t⟩⟩
  have ht8 := Kp.tr (Dw := Dw) hk7 hA hB
  replace hH := Hp.kp (Dw := Dw) hH hk7
  replace h_t := Sl.tr (Dw := Dw) h_t ht8
  replace hK := Tr.trans (Dw := Dw) hK ht8
  replace hB := Nat.le_trans hB ht8.ex.size
  replace hA := ht8.new
  refine V_allocH (Dw := Dw) (B := w.heap.size) hH Tryz.zeroValue49 hB hA rfl ?_
  intro b9 w10 A11 hH12 ht13
  replace h_t := Sl.tr (Dw := Dw) h_t ht13
  replace h6 := El.tr (Dw := Dw) h6 ht13
  replace hK := Tr.trans (Dw := Dw) hK ht13
  replace hB := Nat.le_trans hB ht13.ex.size
  replace hA := ht13.new
  replace hH : Hp w.heap.size A11 w10 (obC b9 [.int .i64 0, .slice none 0 0, .slice none 0 0] 49 :: []) := hH12
  refine V_y (Y_assign rfl) rfl rfl rfl ?_
  refine V_to (fun _ _ => rfl) ?_
  refine C_seq ?_
  refine C_region ?_
  have h14 := El_know_Term_1 h6
  refine V_y (Y_fieldAddr Tryz.underlying44 rfl Tryz.sizeOf42 (by decide) rfl) rfl rfl rfl ?_
  obtain ⟨v15, h16, h17⟩ := El.list h14
  refine V_y (Y_load h16 Tryz.isAgg42 rfl) rfl rfl rfl ?_
  refine V_y (Y_move rfl) rfl rfl rfl ?_
  obtain ⟨x20, hx20, hm⟩ := Option.bind_eq_some_iff.1 hm
  refine V_call Tryz.call38 rfl rfl rfl rfl (slices_BinarySearchFunc_Lknow_Posting_know_Posting_int_c (Dw := Dw) w10 hA t.list_ v15 h17 id_ (fun y33 y34 => know_Term_posting_1 y33 y34) 39 #[] #[] Tryz.call39 (fun w29 A30 ht31 h32 y21 v22 h23 v24 h25 y26 r27 h28 => (know_Term_posting_1_c (Dw := Dw) w29 h32 y21 v22 h23 v24 h25 y26  h28).mono (fun _ _ h => ⟨h.1, h.2⟩)) hx20) ?_
  rintro _ w35 ⟨rfl, hk36⟩
  have ht37 := Kp.tr (Dw := Dw) hk36 hA hB
  replace hH := Hp.kp (Dw := Dw) hH hk36
  replace h6 := El.tr (Dw := Dw) h6 ht37
  replace h14 := El.tr (Dw := Dw) h14 ht37
  replace h17 := Sl.tr (Dw := Dw) h17 ht37
  replace hK := Tr.trans (Dw := Dw) hK ht37
  replace hB := Nat.le_trans hB ht37.ex.size
  replace hA := ht37.new
  refine V_y (Y_move rfl) rfl rfl rfl ?_
  refine V_y (Y_extract rfl rfl) rfl rfl rfl ?_
  refine V_y (Y_extract rfl rfl) rfl rfl rfl ?_
  refine V_y (Y_assign rfl) rfl rfl rfl ?_
  refine V_y (Y_assign rfl) rfl rfl rfl ?_
  refine V_to (fun _ _ => rfl) ?_
  refine C_seq ?_
  refine C_seq ?_
  refine C_region ?_
  refine V_y (Y_move rfl) rfl rfl rfl ?_
  refine V_y (Y_not rfl) rfl rfl rfl ?_
  refine V_to (fun _ _ => rfl) ?_
  refine C_cond rfl (fun hc38 => ?_) (fun hc38 => ?_)
  · rw [if_pos hc38] at hm
    refine C_seq ?_
    refine C_region ?_
    refine V_y (Y_build Tryz.underlying49 Tryz.zeroValue49 (Tryz_places49 _ Tryz.underlying49) rfl (by with_unfolding_all rfl)) rfl rfl rfl ?_
    refine V_storeC (Dw := Dw) (off := 0) (ds := [.int .i64 0, .slice none 0 0, .slice none 0 0]) hH (i := 0) rfl Tryz.sizeOf49 rfl (Nat.le_of_ble_eq_true rfl) (by exact (List.forall_mem_cons.2 ⟨rfl, (List.forall_mem_cons.2 ⟨rfl, (List.forall_mem_cons.2 ⟨rfl, (fun _ h => nomatch h)⟩)⟩)⟩)) rfl hB hA rfl rfl ?_
    intro w39 hH40 ht41
    replace h6 := El.tr (Dw := Dw) h6 ht41
    replace hK := Tr.trans (Dw := Dw) hK ht41
    replace hB := Nat.le_trans hB ht41.ex.size
    replace hA := ht41.new
    replace hH : Hp w.heap.size A11 w39 (obC b9 [.int .i64 0, .slice none 0 0, .slice none 0 0] 49 :: []) := hH40
    refine V_y (Y_assign rfl) rfl rfl rfl ?_
    refine V_to (fun _ _ => rfl) ?_
    obtain rfl := Option.some.inj hm
    refine C_ret ?_
    try simp only [↓inBlock_ret, ↓then_ret]
    exact retQ rfl (Res.l2 Tryz.results16 (RL.cell rfl (loadVar_agg (Hp.part (off := 0) (n := 3) (ds := [.int .i64 0, .slice none 0 0, .slice none 0 0]) hH (i := 0) rfl rfl) Tryz.isAgg49 Tryz.sizeOf49)) (RL.tmp rfl)) ⟨.slice none 0 0, .slice none 0 0, rfl, Sl.nil, Sl.nil, hK.kp⟩
  · rw [if_neg (nt hc38)] at hm
    refine C_skip_to (fun _ _ => rfl) ?_
    refine C_seq ?_
    refine C_region ?_
    have h42 := El_know_Term_1 h6
    refine V_y (Y_fieldAddr Tryz.underlying44 rfl Tryz.sizeOf42 (by decide) rfl) rfl rfl rfl ?_
    obtain ⟨v43, h44, h45⟩ := El.list h42
    refine V_y (Y_load h44 Tryz.isAgg42 rfl) rfl rfl rfl ?_
    refine V_y (Y_move rfl) rfl rfl rfl ?_
    obtain ⟨x46, hx46, hm⟩ := Option.bind_eq_some_iff.1 hm
    refine V_indexAddr h45 hx46 Tryz.underlying42 Tryz.sizeOf49 rfl rfl rfl ?_
    intro b47 o48 h49
    obtain ⟨v50, v52, h54, h51, h53⟩ := El_know_Posting h49
    refine V_y (Y_loadA h54 Tryz.isAgg49 Tryz.sizeOf49 rfl) rfl rfl rfl ?_
    have h60 : (v50).oneCell' = true := by obtain ⟨_, _, e, _⟩ := Sl.form h51; rw [e]; rfl
    have h63 : (v52).oneCell' = true := by obtain ⟨_, _, e, _⟩ := Sl.form h53; rw [e]; rfl
    refine V_storeC (Dw := Dw) (off := 0) (ds := [.int .i64 x46.id_, v50, v52]) hH (i := 0) rfl Tryz.sizeOf49 rfl (Nat.le_of_ble_eq_true rfl) (by exact (List.forall_mem_cons.2 ⟨rfl, (List.forall_mem_cons.2 ⟨h60, (List.forall_mem_cons.2 ⟨h63, (fun _ h => nomatch h)⟩)⟩)⟩)) rfl hB hA rfl rfl ?_
    intro w55 hH56 ht57
    replace h6 := El.tr (Dw := Dw) h6 ht57
    replace h42 := El.tr (Dw := Dw) h42 ht57
    replace h45 := Sl.tr (Dw := Dw) h45 ht57
    replace h49 := El.tr (Dw := Dw) h49 ht57
    replace h51 := Sl.tr (Dw := Dw) h51 ht57
    replace h53 := Sl.tr (Dw := Dw) h53 ht57
    replace hK := Tr.trans (Dw := Dw) hK ht57
    replace hB := Nat.le_trans hB ht57.ex.size
    replace hA := ht57.new
    replace hH : Hp w.heap.size A11 w55 (obC b9 [.int .i64 x46.id_, v50, v52] 49 :: []) := hH56
    refine V_y (Y_assign rfl) rfl rfl rfl ?_
    refine V_to (fun _ _ => rfl) ?_
    obtain rfl := Option.some.inj hm
    refine C_ret ?_
    try simp only [↓inBlock_ret, ↓then_ret]
    exact retQ rfl (Res.l2 Tryz.results16 (RL.cell rfl (loadVar_agg (Hp.part (off := 0) (n := 3) (ds := [.int .i64 x46.id_, v50, v52]) hH (i := 0) rfl rfl) Tryz.isAgg49 Tryz.sizeOf49)) (RL.tmp rfl)) ⟨v50, v52, rfl, (Sl.out (Dw := Dw) h51 hA0 hK), (Sl.out (Dw := Dw) h53 hA0 hK), hK.kp⟩

set_option maxRecDepth 4000 in
set_option maxHeartbeats 4000000 in
theorem math_bits_Len64_c (w : World) (x : Int) {r : Int} (hm : math_bits_Len64 x = some r) : Ret Tryz.prog 69 #[.int .u64 x] w fun v w' => v = .int .i64 r ∧ w = w' := by
  unfold math_bits_Len64 at hm
  refine enter Tryz.func69 rfl Tryz.ntmps69 rfl ?_
  refine C_seq ?_
  refine C_region ?_
  refine V_y (Y_assign rfl) rfl rfl rfl ?_
  refine V_to (fun _ _ => rfl) ?_
  refine C_seq ?_
  refine C_seq ?_
  refine C_region ?_
  refine V_y (Y_move rfl) rfl rfl rfl ?_
  refine V_y (Y_geq rfl rfl) rfl rfl rfl ?_
  refine V_to (fun _ _ => rfl) ?_
  obtain ⟨s2, ho1, hm⟩ := Option.bind_eq_some_iff.1 hm
  refine C_cutG (ι := Unit) (fun (_ : Unit) => [(0, .int .u64 s2.1), (2, .int .i64 s2.2)]) (fun (_ : Unit) => fun w' => w = w') ?_ ?_
  · refine C_cond rfl (fun hc7 => ?_) (fun hc7 => ?_)
    · rw [if_pos hc7] at ho1
      refine C_seq ?_
      refine C_region ?_
      refine V_y (Y_move rfl) rfl rfl rfl ?_
      obtain ⟨x8, hx8, ho1⟩ := Option.bind_eq_some_iff.1 ho1
      refine V_y (Y_shr hx8 rfl rfl) rfl rfl rfl ?_
      refine V_y (Y_assign rfl) rfl rfl rfl ?_
      refine V_to (fun _ _ => rfl) ?_
      refine C_region ?_
      refine V_y (Y_assign rfl) rfl rfl rfl ?_
      obtain rfl := Option.some.inj ho1
      refine V_end (fun a ha9 => ?_)
      exact ⟨(), ha9.sub ⟨rfl, rfl, trivial⟩, rfl⟩
    · rw [if_neg (nt hc7)] at ho1
      obtain rfl := Option.some.inj ho1
      refine C_skip (fun a ha10 => ?_)
      exact ⟨(), ha10.sub ⟨rfl, rfl, trivial⟩, rfl⟩
  rintro _ _ rfl a ha6
  refine C_at (n := ⟨25, [], none⟩) (fun _ _ => rfl) ?_ ha6
  refine C_seq ?_
  refine C_seq ?_
  refine C_region ?_
  refine V_y (Y_move rfl) rfl rfl rfl ?_
  refine V_y (Y_geq rfl rfl) rfl rfl rfl ?_
  refine V_to (fun _ _ => rfl) ?_
  obtain ⟨s12, ho11, hm⟩ := Option.bind_eq_some_iff.1 hm
  refine C_cutG (ι := Unit) (fun (_ : Unit) => [(0, .int .u64 s12.1), (2, .int .i64 s12.2)]) (fun (_ : Unit) => fun w' => w = w') ?_ ?_
  · refine C_cond rfl (fun hc17 => ?_) (fun hc17 => ?_)
    · rw [if_pos hc17] at ho11
      refine C_seq ?_
      refine C_region ?_
      refine V_y (Y_move rfl) rfl rfl rfl ?_
      obtain ⟨x18, hx18, ho11⟩ := Option.bind_eq_some_iff.1 ho11
      refine V_y (Y_shr hx18 rfl rfl) rfl rfl rfl ?_
      refine V_y (Y_assign rfl) rfl rfl rfl ?_
      refine V_to (fun _ _ => rfl) ?_
      refine C_region ?_
      refine V_y (Y_move rfl) rfl rfl rfl ?_
      refine V_y (Y_addI rfl rfl) rfl rfl rfl ?_
      refine V_y (Y_assign rfl) rfl rfl rfl ?_
      obtain rfl := Option.some.inj ho11
      refine V_end (fun a ha19 => ?_)
      exact ⟨(), ha19.sub ⟨rfl, rfl, trivial⟩, rfl⟩
    · rw [if_neg (nt hc17)] at ho11
      obtain rfl := Option.some.inj ho11
      refine C_skip (fun a ha20 => ?_)
      exact ⟨(), ha20.sub ⟨rfl, rfl, trivial⟩, rfl⟩
  rintro _ _ rfl a ha16
  refine C_at (n := ⟨25, [], none⟩) (fun _ _ => rfl) ?_ ha16
  refine C_seq ?_
  refine C_seq ?_
  refine C_region ?_
  refine V_y (Y_move rfl) rfl rfl rfl ?_
  refine V_y (Y_geq rfl rfl) rfl rfl rfl ?_
  refine V_to (fun _ _ => rfl) ?_
  obtain ⟨s22, ho21, hm⟩ := Option.bind_eq_some_iff.1 hm
  refine C_cutG (ι := Unit) (fun (_ : Unit) => [(0, .int .u64 s22.1), (2, .int .i64 s22.2)]) (fun (_ : Unit) => fun w' => w = w') ?_ ?_
  · refine C_cond rfl (fun hc27 => ?_) (fun hc27 => ?_)
    · rw [if_pos hc27] at ho21
      refine C_seq ?_
      refine C_region ?_
      refine V_y (Y_move rfl) rfl rfl rfl ?_
      obtain ⟨x28, hx28, ho21⟩ := Option.bind_eq_some_iff.1 ho21
      refine V_y (Y_shr hx28 rfl rfl) rfl rfl rfl ?_
      refine V_y (Y_assign rfl) rfl rfl rfl ?_
      refine V_to (fun _ _ => rfl) ?_
      refine C_region ?_
      refine V_y (Y_move rfl) rfl rfl rfl ?_
      refine V_y (Y_addI rfl rfl) rfl rfl rfl ?_
      refine V_y (Y_assign rfl) rfl rfl rfl ?_
      obtain rfl := Option.some.inj ho21
      refine V_end (fun a ha29 => ?_)
      exact ⟨(), ha29.sub ⟨rfl, rfl, trivial⟩, rfl⟩
    · rw [if_neg (nt hc27)] at ho21
      obtain rfl := Option.some.inj ho21
      refine C_skip (fun a ha30 => ?_)
      exact ⟨(), ha30.sub ⟨rfl, rfl, trivial⟩, rfl⟩
  rintro _ _ rfl a ha26
  refine C_at (n := ⟨25, [], none⟩) (fun _ _ => rfl) ?_ ha26
  refine C_seq ?_
  refine C_region ?_
  refine V_y (Y_move rfl) rfl rfl rfl ?_
  refine V_y (Y_move rfl) rfl rfl rfl ?_
  refine V_y (Y_convU8 Tryz.underlying96 Tryz.underlying5 rfl) rfl rfl rfl ?_
  obtain ⟨x31, hx31, hm⟩ := Option.bind_eq_some_iff.1 hm
  refine V_y (Y_indexS hx31 Tryz.underlying9 rfl rfl) rfl rfl rfl ?_
  refine V_y (Y_convI Tryz.underlying5 Tryz.underlying3 rfl) rfl rfl rfl ?_
  refine V_y (Y_addI rfl rfl) rfl rfl rfl ?_
  refine V_y (Y_assign rfl) rfl rfl rfl ?_
  refine V_to (fun _ _ => rfl) ?_
  obtain rfl := Option.some.inj hm
  refine C_ret ?_
  try simp only [↓inBlock_ret, ↓then_ret]
  exact retQ rfl (Res.one Tryz.results69 rfl) ⟨rfl, rfl⟩

set_option maxRecDepth 4000 in
set_option maxHeartbeats 4000000 in
theorem math_bits_Len_c (w : World) (x : Int) {r : Int} (hm : math_bits_Len x = some r) : Ret Tryz.prog 36 #[.int .u64 x] w fun v w' => v = .int .i64 r ∧ w = w' := by
  unfold math_bits_Len at hm
  refine enter Tryz.func36 rfl Tryz.ntmps36 rfl ?_
  refine C_seq ?_
  refine C_region ?_
  refine V_y (Y_assign rfl) rfl rfl rfl ?_
  refine V_to (fun _ _ => rfl) ?_
  refine C_seq ?_
  refine C_cond rfl (fun hc => ?_) (fun hc => ?_)
  · exact absurd hc (by decide)
  · refine C_skip_to (fun _ _ => rfl) ?_
    refine C_seq ?_
    refine C_region ?_
    refine V_y (Y_move rfl) rfl rfl rfl ?_
    obtain ⟨x1, hx1, hm⟩ := Option.bind_eq_some_iff.1 hm
    refine V_call Tryz.call69 rfl rfl rfl rfl (math_bits_Len64_c w x hx1) ?_
    rintro _ _ ⟨rfl, rfl⟩
    refine V_y (Y_assign rfl) rfl rfl rfl ?_
    refine V_to (fun _ _ => rfl) ?_
    obtain rfl := Option.some.inj hm
    refine C_ret ?_
    try simp only [↓inBlock_ret, ↓then_ret]
    exact retQ rfl (Res.one Tryz.results36 rfl) ⟨rfl, rfl⟩

set_option maxRecDepth 4000 in
set_option maxHeartbeats 4000000 in
theorem know_Index_score_c (w : World) {A : Nat → Prop} (hA : ∀ b, w.heap.size ≤ b → A b) (x : know_Index) (v_x0 : Value) (h_x0 : Sl A w v_x0 x.ids) (v_x1 : Value) (h_x1 : Sl A w v_x1 x.sizes) (v_x2 : Value) (h_x2 : Sl A w v_x2 x.terms) (t : know_Term) (v_t : Value) (h_t : Sl A w v_t t.list_) (k_ : Int) {r : Int} (hm : know_Index_score x t k_ = some r) : Ret Tryz.prog 17 #[.agg #[v_x0, v_x1, v_x2], .agg #[.string t.word, v_t], .int .i64 k_] w fun v w' => v = .int .i64 r ∧ Kp Dw w w' := by
  unfold know_Index_score at hm
  refine enter Tryz.func17 rfl Tryz.ntmps17 rfl ?_
  have hA0 := hA
  have hB := Nat.le_refl w.heap.size
  have hK : Tr Dw w.heap.size A w A w := Tr.refl (Dw := Dw) hA
  have hH : Hp w.heap.size A w [] := Hp.nil
  refine C_seq ?_
  refine C_region ?_
  refine V_box rfl rfl ?_
  intro b9 w10 h11
  have hk13 := h11.kp (Dw := Dw)
  have h12 : El (α := know_Index) A w10 b9 0 x := h11.el hA ⟨[v_x0], _, rfl, ⟨_, rfl, h_x0⟩, ⟨[v_x1], _, rfl, ⟨_, rfl, h_x1⟩, ⟨_, rfl, h_x2⟩⟩⟩
  have ht14 := Kp.tr (Dw := Dw) hk13 hA hB
  replace hH := Hp.kp (Dw := Dw) hH hk13
  replace h_x0 := Sl.tr (Dw := Dw) h_x0 ht14
  replace h_x1 := Sl.tr (Dw := Dw) h_x1 ht14
  replace h_x2 := Sl.tr (Dw := Dw) h_x2 ht14
  replace h_t := Sl.tr (Dw := Dw) h_t ht14
  replace hK := Tr.trans (Dw := Dw) hK ht14
  replace hB := Nat.le_trans hB ht14.ex.size
  replace hA := ht14.new
  refine V_box rfl rfl ?_
  intro b15 w17 h18
  have hk20 := h18.kp (Dw := Dw)
  have h19 : El (α := know_Term) A w17 b15 0 t := h18.el hA ⟨[.string t.word], _, rfl, rfl, ⟨_, rfl, h_t⟩⟩
  have ht21 := Kp.tr (Dw := Dw) hk20 hA hB
  replace hH := Hp.kp (Dw := Dw) hH hk20
  replace h_x0 := Sl.tr (Dw := Dw) h_x0 ht21
  replace h_x1 := Sl.tr (Dw := Dw) h_x1 ht21
  replace h_x2 := Sl.tr (Dw := Dw) h_x2 ht21
  replace h_t := Sl.tr (Dw := Dw) h_t ht21
  replace h12 := El.tr (Dw := Dw) h12 ht21
  replace hK := Tr.trans (Dw := Dw) hK ht21
  replace hB := Nat.le_trans hB ht21.ex.size
  replace hA := ht21.new
  refine V_y (Y_assign rfl) rfl rfl rfl ?_
  refine V_to (fun _ _ => rfl) ?_
  refine C_seq ?_
  refine C_region_chz (Dw := Dw) A 10 [(1, 0), (1, 1), (1, 2), (1, 3), (1, 4), (1, 5), (2, 6), (1, 7), (1, 8), (1, 9)] [(4, 11), (1, 12)] Tryz_mixed (by kernel_rfl) (fun w22 hk23 => ?_)
  have ht24 := Kp.tr (Dw := Dw) hk23 hA hB
  replace hH := Hp.kp (Dw := Dw) hH hk23
  replace h12 := El.tr (Dw := Dw) h12 ht24
  replace h19 := El.tr (Dw := Dw) h19 ht24
  replace hK := Tr.trans (Dw := Dw) hK ht24
  replace hB := Nat.le_trans hB ht24.ex.size
  replace hA := ht24.new
  refine CHZ_q2 (Dw := Dw) rfl ?_
  obtain ⟨v25, h27, h26⟩ := El_know_Term h19
  refine VQ_y (fun w' hw' => Y_loadA (At.same h27 (hw'.2 _ h19.2.1 h19.1)) Tryz.isAgg44 Tryz.sizeOf44 rfl) rfl rfl rfl ?_
  refine VQ_CHZ (Dw := Dw) ?_
  refine CHZ_q2 (Dw := Dw) rfl ?_
  have h28 := El_know_Index_0 h12
  refine VQ_y (fun w' hw' => Y_fieldAddr Tryz.underlying25 rfl Tryz.sizeOf22 (by decide) rfl) rfl rfl rfl ?_
  refine VQ_CHZ (Dw := Dw) ?_
  refine CHZ_q2 (Dw := Dw) rfl ?_
  obtain ⟨v29, h30, h31⟩ := El.list h28
  refine VQ_y (fun w' hw' => Y_load ((World.cell?_of_block (hw'.2 _ h28.2.1 h28.1)).trans h30) Tryz.isAgg22 rfl) rfl rfl rfl ?_
  refine VQ_CHZ (Dw := Dw) ?_
  refine CHZ_q2 (Dw := Dw) rfl ?_
  refine VQ_y (fun w' hw' => Y_move rfl) rfl rfl rfl ?_
  refine VQ_CHZ (Dw := Dw) ?_
  refine CHZ_q2 (Dw := Dw) rfl ?_
  obtain ⟨x32, hx32, hm⟩ := Option.bind_eq_some_iff.1 hm
  refine VQ_indexAddr h31 hx32 Tryz.underlying22 Tryz.sizeOf3 rfl rfl rfl ?_
  intro b33 o34 h35
  refine VQ_CHZ (Dw := Dw) ?_
  refine CHZ_q2 (Dw := Dw) rfl ?_
  refine VQ_y (fun w' hw' => Y_load (El.int (El.keep h35 (XA.ex hw'))) Tryz.isAgg3 rfl) rfl rfl rfl ?_
  refine VQ_CHZ (Dw := Dw) ?_
  refine CHZ_l1 (Dw := Dw) (k := 0) [(2, 10), (2, 6), (1, 7), (1, 8), (1, 9), (4, 11), (1, 12)] rfl ?_ rfl ?_
  · refine CH_l1 (Dw := Dw) (k := 0) rfl ?_
    refine V_allocHk (Dw := Dw) (B := w.heap.size) hH Tryz.zeroValue49 hB hA rfl ?_
    intro b36 w37 A38 hk41 hH39 ht40
    replace h12 := El.tr (Dw := Dw) h12 ht40
    replace h19 := El.tr (Dw := Dw) h19 ht40
    replace h26 := Sl.tr (Dw := Dw) h26 ht40
    replace h28 := El.tr (Dw := Dw) h28 ht40
    replace h31 := Sl.tr (Dw := Dw) h31 ht40
    replace h35 := El.tr (Dw := Dw) h35 ht40
    replace hK := Tr.trans (Dw := Dw) hK ht40
    replace hB := Nat.le_trans hB ht40.ex.size
    replace hA := ht40.new
    replace hH : Hp w.heap.size A38 w37 (obC b36 [.int .i64 0, .slice none 0 0, .slice none 0 0] 49 :: []) := hH39
    refine V_CH (Dw := Dw) (hk41) ?_
    refine CH_l1 (Dw := Dw) (k := 0) rfl ?_
    obtain ⟨x42, hx42, hm⟩ := Option.bind_eq_some_iff.1 hm
    refine V_call Tryz.call16 rfl rfl rfl rfl (know_Term_posting_c (Dw := Dw) w37 hA t v25 h26 x32 hx42) ?_
    rintro _ w47 ⟨v43, v45, rfl, h44, h46, hk48⟩
    have ht49 := Kp.tr (Dw := Dw) hk48 hA hB
    replace hH := Hp.kp (Dw := Dw) hH hk48
    replace h12 := El.tr (Dw := Dw) h12 ht49
    replace h19 := El.tr (Dw := Dw) h19 ht49
    replace h26 := Sl.tr (Dw := Dw) h26 ht49
    replace h28 := El.tr (Dw := Dw) h28 ht49
    replace h31 := Sl.tr (Dw := Dw) h31 ht49
    replace h35 := El.tr (Dw := Dw) h35 ht49
    replace hK := Tr.trans (Dw := Dw) hK ht49
    replace hB := Nat.le_trans hB ht49.ex.size
    replace hA := ht49.new
    refine V_CH (Dw := Dw) (hk48) ?_
    refine CH_q2 (Dw := Dw) rfl ?_
    refine VQ_y (fun w' hw' => Y_move rfl) rfl rfl rfl ?_
    refine VQ_CH (Dw := Dw) ?_
    refine CH_q2 (Dw := Dw) rfl ?_
    refine VQ_y (fun w' hw' => Y_extract rfl rfl) rfl rfl rfl ?_
    refine VQ_CH (Dw := Dw) ?_
    refine CH_q2 (Dw := Dw) rfl ?_
    refine VQ_y (fun w' hw' => Y_extract rfl rfl) rfl rfl rfl ?_
    refine VQ_CH (Dw := Dw) ?_
    refine CH_l1 (Dw := Dw) (k := 2) rfl ?_
    have h55 : (v43).oneCell' = true := by obtain ⟨_, _, e, _⟩ := Sl.form h44; rw [e]; rfl
    have h58 : (v45).oneCell' = true := by obtain ⟨_, _, e, _⟩ := Sl.form h46; rw [e]; rfl
    refine V_storeC (Dw := Dw) (off := 0) (ds := [.int .i64 x42.1.id_, v43, v45]) hH (i := 0) rfl Tryz.sizeOf49 rfl (Nat.le_of_ble_eq_true rfl) (by exact (List.forall_mem_cons.2 ⟨rfl, (List.forall_mem_cons.2 ⟨h55, (List.forall_mem_cons.2 ⟨h58, (fun _ h => nomatch h)⟩)⟩)⟩)) rfl hB hA rfl rfl ?_
    intro w50 hH51 ht52
    replace h12 := El.tr (Dw := Dw) h12 ht52
    replace h19 := El.tr (Dw := Dw) h19 ht52
    replace h26 := Sl.tr (Dw := Dw) h26 ht52
    replace h28 := El.tr (Dw := Dw) h28 ht52
    replace h31 := Sl.tr (Dw := Dw) h31 ht52
    replace h35 := El.tr (Dw := Dw) h35 ht52
    replace h44 := Sl.tr (Dw := Dw) h44 ht52
    replace h46 := Sl.tr (Dw := Dw) h46 ht52
    replace hK := Tr.trans (Dw := Dw) hK ht52
    replace hB := Nat.le_trans hB ht52.ex.size
    replace hA := ht52.new
    replace hH : Hp w.heap.size A38 w50 (obC b36 [.int .i64 x42.1.id_, v43, v45] 49 :: []) := hH51
    obtain ⟨A59, ht60, h61, hH62⟩ := Hp.freezeC (Dw := Dw) (α := know_Posting) (x := x42.1) hH (i := 0) rfl hA (by exact ⟨[.int .i64 x42.1.id_], _, rfl, rfl, ⟨[v43], _, rfl, ⟨_, rfl, h44⟩, ⟨_, rfl, h46⟩⟩⟩)
    replace h12 := El.tr (Dw := Dw) h12 ht60
    replace h19 := El.tr (Dw := Dw) h19 ht60
    replace h26 := Sl.tr (Dw := Dw) h26 ht60
    replace h28 := El.tr (Dw := Dw) h28 ht60
    replace h31 := Sl.tr (Dw := Dw) h31 ht60
    replace h35 := El.tr (Dw := Dw) h35 ht60
    replace h44 := Sl.tr (Dw := Dw) h44 ht60
    replace h46 := Sl.tr (Dw := Dw) h46 ht60
    replace hK := Tr.trans (Dw := Dw) hK ht60
    replace hB := Nat.le_trans hB ht60.ex.size
    replace hA := ht60.new
    replace hH : Hp w.heap.size A59 w50 ([]) := hH62
    refine V_CHw (Dw := Dw) ?_
    refine CH_q2 (Dw := Dw) rfl ?_
    refine VQ_y (fun w' hw' => Y_assign rfl) rfl rfl rfl ?_
    refine VQ_CH (Dw := Dw) ?_
    refine CH_tail (Dw := Dw) ?_
    show V _ _ _ _ [] _ _
    refine V_to (fun _ _ => rfl) ?_
    refine C_seq ?_
    refine C_seq ?_
    refine C_region ?_
    refine V_y (Y_move rfl) rfl rfl rfl ?_
    refine V_y (Y_not rfl) rfl rfl rfl ?_
    refine V_to (fun _ _ => rfl) ?_
    refine C_cond rfl (fun hc63 => ?_) (fun hc63 => ?_)
    · rw [if_pos hc63] at hm
      refine C_seq ?_
      refine C_region ?_
      refine V_y (Y_assign rfl) rfl rfl rfl ?_
      refine V_to (fun _ _ => rfl) ?_
      obtain rfl := Option.some.inj hm
      refine C_ret ?_
      try simp only [↓inBlock_ret, ↓then_ret]
      exact retQ rfl (Res.one Tryz.results17 rfl) ⟨rfl, hK.kp⟩
    · rw [if_neg (nt hc63)] at hm
      refine C_skip_to (fun _ _ => rfl) ?_
      refine C_seq ?_
      refine C_region ?_
      have h64 := El_know_Index_0 h12
      refine V_y (Y_fieldAddr Tryz.underlying25 rfl Tryz.sizeOf22 (by decide) rfl) rfl rfl rfl ?_
      obtain ⟨v65, h66, h67⟩ := El.list h64
      refine V_y (Y_load h66 Tryz.isAgg22 rfl) rfl rfl rfl ?_
      refine V_y (Y_lenSl h67 rfl Tryz.underlying22 rfl) rfl rfl rfl ?_
      have h68 := El_know_Term_1 h19
      refine V_y (Y_fieldAddr Tryz.underlying44 rfl Tryz.sizeOf42 (by decide) rfl) rfl rfl rfl ?_
      obtain ⟨v69, h70, h71⟩ := El.list h68
      refine V_y (Y_load h70 Tryz.isAgg42 rfl) rfl rfl rfl ?_
      refine V_y (Y_lenSl h71 rfl Tryz.underlying42 rfl) rfl rfl rfl ?_
      obtain ⟨x72, hx72, hm⟩ := Option.bind_eq_some_iff.1 hm
      refine V_y (Y_quo hx72 rfl rfl) rfl rfl rfl ?_
      refine V_y (Y_convI Tryz.underlying3 Tryz.underlying68 rfl) rfl rfl rfl ?_
      obtain ⟨x73, hx73, hm⟩ := Option.bind_eq_some_iff.1 hm
      refine V_call Tryz.call36 rfl rfl rfl rfl (math_bits_Len_c w50 (IntKind.wrap .u64 x72) hx73) ?_
      rintro _ _ ⟨rfl, rfl⟩
      refine V_y (Y_assign rfl) rfl rfl rfl ?_
      refine V_to (fun _ _ => rfl) ?_
      refine C_seq ?_
      refine C_region_q (Dw := Dw) Tryz_mixed (by kernel_rfl) ?_
      have h74 := El_know_Posting_1 h61
      refine VQ_y (fun w' hw' => Y_fieldAddr Tryz.underlying49 rfl Tryz.sizeOf22 (by decide) rfl) rfl rfl rfl ?_
      obtain ⟨v75, h76, h77⟩ := El.list h74
      refine VQ_y (fun w' hw' => Y_load ((World.cell?_of_block (hw'.block _ (World.block_lt_of_cell? _ _ h76))).trans h76) Tryz.isAgg22 rfl) rfl rfl rfl ?_
      refine VQ_y (fun w' hw' => Y_lenSl h77 rfl Tryz.underlying22 rfl) rfl rfl rfl ?_
      refine VQ_y (fun w' hw' => Y_mulI rfl rfl) rfl rfl rfl ?_
      have h78 := El_know_Posting_2 h61
      refine VQ_y (fun w' hw' => Y_fieldAddr Tryz.underlying49 rfl Tryz.sizeOf22 (by decide) rfl) rfl rfl rfl ?_
      obtain ⟨v79, h80, h81⟩ := El.list h78
      refine VQ_y (fun w' hw' => Y_load ((World.cell?_of_block (hw'.block _ (World.block_lt_of_cell? _ _ h80))).trans h80) Tryz.isAgg22 rfl) rfl rfl rfl ?_
      refine VQ_y (fun w' hw' => Y_lenSl h81 rfl Tryz.underlying22 rfl) rfl rfl rfl ?_
      refine VQ_y (fun w' hw' => Y_addI rfl rfl) rfl rfl rfl ?_
      refine VQ_y (fun w' hw' => Y_mulI rfl rfl) rfl rfl rfl ?_
      refine VQ_y (fun w' hw' => Y_move rfl) rfl rfl rfl ?_
      refine VQ_y (fun w' hw' => Y_mulI rfl rfl) rfl rfl rfl ?_
      have h82 := El_know_Index_1 h12
      refine VQ_y (fun w' hw' => Y_fieldAddr Tryz.underlying25 rfl Tryz.sizeOf22 (by decide) rfl) rfl rfl rfl ?_
      obtain ⟨v83, h84, h85⟩ := El.list h82
      refine VQ_y (fun w' hw' => Y_load ((World.cell?_of_block (hw'.block _ (World.block_lt_of_cell? _ _ h84))).trans h84) Tryz.isAgg22 rfl) rfl rfl rfl ?_
      refine VQ_y (fun w' hw' => Y_move rfl) rfl rfl rfl ?_
      obtain ⟨x86, hx86, hm⟩ := Option.bind_eq_some_iff.1 hm
      refine VQ_indexAddr h85 hx86 Tryz.underlying22 Tryz.sizeOf3 rfl rfl rfl ?_
      intro b87 o88 h89
      refine VQ_y (fun w' hw' => Y_load (El.int (El.kp (Dw := Dw) h89 hw')) Tryz.isAgg3 rfl) rfl rfl rfl ?_
      refine VQ_y (fun w' hw' => Y_addI rfl rfl) rfl rfl rfl ?_
      obtain ⟨x90, hx90, hm⟩ := Option.bind_eq_some_iff.1 hm
      refine VQ_y (fun w' hw' => Y_quo hx90 rfl rfl) rfl rfl rfl ?_
      refine VQ_y (fun w' hw' => Y_assign rfl) rfl rfl rfl ?_
      refine VQ_to (fun _ _ => rfl) (fun w91 hk92 => ?_)
      have ht93 := Kp.tr (Dw := Dw) hk92 hA hB
      replace hH := Hp.kp (Dw := Dw) hH hk92
      replace hK := Tr.trans (Dw := Dw) hK ht93
      replace hB := Nat.le_trans hB ht93.ex.size
      replace hA := ht93.new
      obtain rfl := Option.some.inj hm
      refine C_ret ?_
      try simp only [↓inBlock_ret, ↓then_ret]
      exact retQ rfl (Res.one Tryz.results17 rfl) ⟨rfl, hK.kp⟩
  obtain ⟨x94, hx94, hm⟩ := Option.bind_eq_some_iff.1 hm
  refine V_call Tryz.call16 rfl rfl rfl rfl (know_Term_posting_c (Dw := Dw) w22 hA t v25 h26 x32 hx94) ?_
  rintro _ w99 ⟨v95, v97, rfl, h96, h98, hk100⟩
  have ht101 := Kp.tr (Dw := Dw) hk100 hA hB
  replace hH := Hp.kp (Dw := Dw) hH hk100
  replace h12 := El.tr (Dw := Dw) h12 ht101
  replace h19 := El.tr (Dw := Dw) h19 ht101
  replace h26 := Sl.tr (Dw := Dw) h26 ht101
  replace h28 := El.tr (Dw := Dw) h28 ht101
  replace h31 := Sl.tr (Dw := Dw) h31 ht101
  replace h35 := El.tr (Dw := Dw) h35 ht101
  replace hK := Tr.trans (Dw := Dw) hK ht101
  replace hB := Nat.le_trans hB ht101.ex.size
  replace hA := ht101.new
  refine V_CHZ (Dw := Dw) (hk100) ?_
  refine CHZ_q2 (Dw := Dw) rfl ?_
  refine VQ_y (fun w' hw' => Y_move rfl) rfl rfl rfl ?_
  refine VQ_CHZ (Dw := Dw) ?_
  refine CHZ_q2 (Dw := Dw) rfl ?_
  refine VQ_y (fun w' hw' => Y_extract rfl rfl) rfl rfl rfl ?_
  refine VQ_CHZ (Dw := Dw) ?_
  refine CHZ_q2 (Dw := Dw) rfl ?_
  refine VQ_y (fun w' hw' => Y_extract rfl rfl) rfl rfl rfl ?_
  refine VQ_CHZ (Dw := Dw) ?_
  refine CHZ_nil (Dw := Dw) ?_
  refine CH_l1 (Dw := Dw) (k := 0) rfl ?_
  refine V_allocHk (Dw := Dw) (B := w.heap.size) hH Tryz.zeroValue49 hB hA rfl ?_
  intro b102 w103 A104 hk107 hH105 ht106
  replace h12 := El.tr (Dw := Dw) h12 ht106
  replace h19 := El.tr (Dw := Dw) h19 ht106
  replace h26 := Sl.tr (Dw := Dw) h26 ht106
  replace h28 := El.tr (Dw := Dw) h28 ht106
  replace h31 := Sl.tr (Dw := Dw) h31 ht106
  replace h35 := El.tr (Dw := Dw) h35 ht106
  replace h96 := Sl.tr (Dw := Dw) h96 ht106
  replace h98 := Sl.tr (Dw := Dw) h98 ht106
  replace hK := Tr.trans (Dw := Dw) hK ht106
  replace hB := Nat.le_trans hB ht106.ex.size
  replace hA := ht106.new
  replace hH : Hp w.heap.size A104 w103 (obC b102 [.int .i64 0, .slice none 0 0, .slice none 0 0] 49 :: []) := hH105
  refine V_CH (Dw := Dw) (hk107) ?_
  refine CH_l1 (Dw := Dw) (k := 2) rfl ?_
  have h113 : (v95).oneCell' = true := by obtain ⟨_, _, e, _⟩ := Sl.form h96; rw [e]; rfl
  have h116 : (v97).oneCell' = true := by obtain ⟨_, _, e, _⟩ := Sl.form h98; rw [e]; rfl
  refine V_storeC (Dw := Dw) (off := 0) (ds := [.int .i64 x94.1.id_, v95, v97]) hH (i := 0) rfl Tryz.sizeOf49 rfl (Nat.le_of_ble_eq_true rfl) (by exact (List.forall_mem_cons.2 ⟨rfl, (List.forall_mem_cons.2 ⟨h113, (List.forall_mem_cons.2 ⟨h116, (fun _ h => nomatch h)⟩)⟩)⟩)) rfl hB hA rfl rfl ?_
  intro w108 hH109 ht110
  replace h12 := El.tr (Dw := Dw) h12 ht110
  replace h19 := El.tr (Dw := Dw) h19 ht110
  replace h26 := Sl.tr (Dw := Dw) h26 ht110
  replace h28 := El.tr (Dw := Dw) h28 ht110
  replace h31 := Sl.tr (Dw := Dw) h31 ht110
  replace h35 := El.tr (Dw := Dw) h35 ht110
  replace h96 := Sl.tr (Dw := Dw) h96 ht110
  replace h98 := Sl.tr (Dw := Dw) h98 ht110
  replace hK := Tr.trans (Dw := Dw) hK ht110
  replace hB := Nat.le_trans hB ht110.ex.size
  replace hA := ht110.new
  replace hH : Hp w.heap.size A104 w108 (obC b102 [.int .i64 x94.1.id_, v95, v97] 49 :: []) := hH109
  obtain ⟨A117, ht118, h119, hH120⟩ := Hp.freezeC (Dw := Dw) (α := know_Posting) (x := x94.1) hH (i := 0) rfl hA (by exact ⟨[.int .i64 x94.1.id_], _, rfl, rfl, ⟨[v95], _, rfl, ⟨_, rfl, h96⟩, ⟨_, rfl, h98⟩⟩⟩)
  replace h12 := El.tr (Dw := Dw) h12 ht118
  replace h19 := El.tr (Dw := Dw) h19 ht118
  replace h26 := Sl.tr (Dw := Dw) h26 ht118
  replace h28 := El.tr (Dw := Dw) h28 ht118
  replace h31 := Sl.tr (Dw := Dw) h31 ht118
  replace h35 := El.tr (Dw := Dw) h35 ht118
  replace h96 := Sl.tr (Dw := Dw) h96 ht118
  replace h98 := Sl.tr (Dw := Dw) h98 ht118
  replace hK := Tr.trans (Dw := Dw) hK ht118
  replace hB := Nat.le_trans hB ht118.ex.size
  replace hA := ht118.new
  replace hH : Hp w.heap.size A117 w108 ([]) := hH120
  refine V_CHw (Dw := Dw) ?_
  refine CH_q2 (Dw := Dw) rfl ?_
  refine VQ_y (fun w' hw' => Y_assign rfl) rfl rfl rfl ?_
  refine VQ_CH (Dw := Dw) ?_
  refine CH_tail (Dw := Dw) ?_
  show V _ _ _ _ [] _ _
  refine V_to (fun _ _ => rfl) ?_
  refine C_seq ?_
  refine C_seq ?_
  refine C_region ?_
  refine V_y (Y_move rfl) rfl rfl rfl ?_
  refine V_y (Y_not rfl) rfl rfl rfl ?_
  refine V_to (fun _ _ => rfl) ?_
  refine C_cond rfl (fun hc121 => ?_) (fun hc121 => ?_)
  · rw [if_pos hc121] at hm
    refine C_seq ?_
    refine C_region ?_
    refine V_y (Y_assign rfl) rfl rfl rfl ?_
    refine V_to (fun _ _ => rfl) ?_
    obtain rfl := Option.some.inj hm
    refine C_ret ?_
    try simp only [↓inBlock_ret, ↓then_ret]
    exact retQ rfl (Res.one Tryz.results17 rfl) ⟨rfl, hK.kp⟩
  · rw [if_neg (nt hc121)] at hm
    refine C_skip_to (fun _ _ => rfl) ?_
    refine C_seq ?_
    refine C_region ?_
    have h122 := El_know_Index_0 h12
    refine V_y (Y_fieldAddr Tryz.underlying25 rfl Tryz.sizeOf22 (by decide) rfl) rfl rfl rfl ?_
    obtain ⟨v123, h124, h125⟩ := El.list h122
    refine V_y (Y_load h124 Tryz.isAgg22 rfl) rfl rfl rfl ?_
    refine V_y (Y_lenSl h125 rfl Tryz.underlying22 rfl) rfl rfl rfl ?_
    have h126 := El_know_Term_1 h19
    refine V_y (Y_fieldAddr Tryz.underlying44 rfl Tryz.sizeOf42 (by decide) rfl) rfl rfl rfl ?_
    obtain ⟨v127, h128, h129⟩ := El.list h126
    refine V_y (Y_load h128 Tryz.isAgg42 rfl) rfl rfl rfl ?_
    refine V_y (Y_lenSl h129 rfl Tryz.underlying42 rfl) rfl rfl rfl ?_
    obtain ⟨x130, hx130, hm⟩ := Option.bind_eq_some_iff.1 hm
    refine V_y (Y_quo hx130 rfl rfl) rfl rfl rfl ?_
    refine V_y (Y_convI Tryz.underlying3 Tryz.underlying68 rfl) rfl rfl rfl ?_
    obtain ⟨x131, hx131, hm⟩ := Option.bind_eq_some_iff.1 hm
    refine V_call Tryz.call36 rfl rfl rfl rfl (math_bits_Len_c w108 (IntKind.wrap .u64 x130) hx131) ?_
    rintro _ _ ⟨rfl, rfl⟩
    refine V_y (Y_assign rfl) rfl rfl rfl ?_
    refine V_to (fun _ _ => rfl) ?_
    refine C_seq ?_
    refine C_region_q (Dw := Dw) Tryz_mixed (by kernel_rfl) ?_
    have h132 := El_know_Posting_1 h119
    refine VQ_y (fun w' hw' => Y_fieldAddr Tryz.underlying49 rfl Tryz.sizeOf22 (by decide) rfl) rfl rfl rfl ?_
    obtain ⟨v133, h134, h135⟩ := El.list h132
    refine VQ_y (fun w' hw' => Y_load ((World.cell?_of_block (hw'.block _ (World.block_lt_of_cell? _ _ h134))).trans h134) Tryz.isAgg22 rfl) rfl rfl rfl ?_
    refine VQ_y (fun w' hw' => Y_lenSl h135 rfl Tryz.underlying22 rfl) rfl rfl rfl ?_
    refine VQ_y (fun w' hw' => Y_mulI rfl rfl) rfl rfl rfl ?_
    have h136 := El_know_Posting_2 h119
    refine VQ_y (fun w' hw' => Y_fieldAddr Tryz.underlying49 rfl Tryz.sizeOf22 (by decide) rfl) rfl rfl rfl ?_
    obtain ⟨v137, h138, h139⟩ := El.list h136
    refine VQ_y (fun w' hw' => Y_load ((World.cell?_of_block (hw'.block _ (World.block_lt_of_cell? _ _ h138))).trans h138) Tryz.isAgg22 rfl) rfl rfl rfl ?_
    refine VQ_y (fun w' hw' => Y_lenSl h139 rfl Tryz.underlying22 rfl) rfl rfl rfl ?_
    refine VQ_y (fun w' hw' => Y_addI rfl rfl) rfl rfl rfl ?_
    refine VQ_y (fun w' hw' => Y_mulI rfl rfl) rfl rfl rfl ?_
    refine VQ_y (fun w' hw' => Y_move rfl) rfl rfl rfl ?_
    refine VQ_y (fun w' hw' => Y_mulI rfl rfl) rfl rfl rfl ?_
    have h140 := El_know_Index_1 h12
    refine VQ_y (fun w' hw' => Y_fieldAddr Tryz.underlying25 rfl Tryz.sizeOf22 (by decide) rfl) rfl rfl rfl ?_
    obtain ⟨v141, h142, h143⟩ := El.list h140
    refine VQ_y (fun w' hw' => Y_load ((World.cell?_of_block (hw'.block _ (World.block_lt_of_cell? _ _ h142))).trans h142) Tryz.isAgg22 rfl) rfl rfl rfl ?_
    refine VQ_y (fun w' hw' => Y_move rfl) rfl rfl rfl ?_
    obtain ⟨x144, hx144, hm⟩ := Option.bind_eq_some_iff.1 hm
    refine VQ_indexAddr h143 hx144 Tryz.underlying22 Tryz.sizeOf3 rfl rfl rfl ?_
    intro b145 o146 h147
    refine VQ_y (fun w' hw' => Y_load (El.int (El.kp (Dw := Dw) h147 hw')) Tryz.isAgg3 rfl) rfl rfl rfl ?_
    refine VQ_y (fun w' hw' => Y_addI rfl rfl) rfl rfl rfl ?_
    obtain ⟨x148, hx148, hm⟩ := Option.bind_eq_some_iff.1 hm
    refine VQ_y (fun w' hw' => Y_quo hx148 rfl rfl) rfl rfl rfl ?_
    refine VQ_y (fun w' hw' => Y_assign rfl) rfl rfl rfl ?_
    refine VQ_to (fun _ _ => rfl) (fun w149 hk150 => ?_)
    have ht151 := Kp.tr (Dw := Dw) hk150 hA hB
    replace hH := Hp.kp (Dw := Dw) hH hk150
    replace hK := Tr.trans (Dw := Dw) hK ht151
    replace hB := Nat.le_trans hB ht151.ex.size
    replace hA := ht151.new
    obtain rfl := Option.some.inj hm
    refine C_ret ?_
    try simp only [↓inBlock_ret, ↓then_ret]
    exact retQ rfl (Res.one Tryz.results17 rfl) ⟨rfl, hK.kp⟩

set_option maxRecDepth 4000 in
set_option maxHeartbeats 4000000 in
theorem slices_Index_Lint_int_c (w : World) {A : Nat → Prop} (s : (List Int)) (v_s : Value) (h_s : Sl A w v_s s) (v : Int) {r : Int} (hm : slices_Index_Lint_int s v = some r) : Ret Tryz.prog 40 #[v_s, .int .i64 v] w fun v w' => v = .int .i64 r ∧ w = w' := by
  unfold slices_Index_Lint_int at hm
  refine enter Tryz.func40 rfl Tryz.ntmps40 rfl ?_
  refine C_seq ?_
  refine C_region ?_
  refine V_y (Y_assign rfl) rfl rfl rfl ?_
  refine V_to (fun _ _ => rfl) ?_
  refine C_seq ?_
  refine C_seq ?_
  refine C_region ?_
  refine V_y (Y_move rfl) rfl rfl rfl ?_
  refine V_y (Y_lenSl h_s rfl Tryz.underlying22 rfl) rfl rfl rfl ?_
  refine V_y (Y_move rfl) rfl rfl rfl ?_
  refine V_to (fun _ _ => rfl) ?_
  have hn19 := Sl.le h_s
  obtain ⟨o3, ho3, hm⟩ := Option.bind_eq_some_iff.1 hm
  refine C_cutG (ι := Unit) (fun (s4 : Unit) => []) (fun (s4 : Unit) => fun w' => o3 = .fin s4 ∧ w = w') ?_ ?_
  · refine C_block ?_
    refine C_range ho3 (fun k6 _ a w' => ∃ i : Unit, Has ⟨19, [], none⟩ a ([(0, v_s), (1, .int .i64 v), (7, .int .i64 (s.length : Int)), (8, .int .i64 (k6 : Int))]) ∧ w = w') (fun a ha => ⟨(), ha.sub ⟨rfl, rfl, rfl, rfl, trivial⟩, rfl⟩) ?_
    rintro K k6 _ a _ ⟨_, ha28, rfl⟩ hle15 K18 h17
    refine C_of ?_ ha28
    refine C_seq (C_region (V_y (Y_lss rfl rfl) rfl rfl rfl (V_to (fun _ _ => rfl) ?_)))
    refine C_seq ?_
    refine C_cond rfl (fun hc20 => ?_) (fun hc20 => ?_)
    · have hlt16 := lt_of_dec hc20
      obtain ⟨x12, h13, h14⟩ := K18 hlt16
      refine C_skip_to (fun _ _ => rfl) ?_
      refine C_seq ?_
      refine C_block ?_
      refine C_seq ?_
      refine C_region ?_
      refine V_y (Y_move rfl) rfl rfl rfl ?_
      refine V_y (Y_assign rfl) rfl rfl rfl ?_
      refine V_to (fun _ _ => rfl) ?_
      refine C_seq ?_
      refine C_region ?_
      refine V_y (Y_move rfl) rfl rfl rfl ?_
      refine V_y (Y_move rfl) rfl rfl rfl ?_
      refine V_y (Y_move rfl) rfl rfl rfl ?_
      obtain ⟨x21, hx21, h13⟩ := Option.bind_eq_some_iff.1 h13
      refine V_indexAddr h_s hx21 Tryz.underlying22 Tryz.sizeOf3 rfl rfl rfl ?_
      intro b22 o23 h24
      refine V_y (Y_load (El.int h24) Tryz.isAgg3 rfl) rfl rfl rfl ?_
      refine V_y (Y_eql rfl rfl) rfl rfl rfl ?_
      refine V_to (fun _ _ => rfl) ?_
      refine C_cond rfl (fun hc25 => ?_) (fun hc25 => ?_)
      · rw [if_pos hc25] at h13
        refine C_seq ?_
        refine C_region ?_
        refine V_y (Y_move rfl) rfl rfl rfl ?_
        refine V_y (Y_assign rfl) rfl rfl rfl ?_
        refine V_to (fun _ _ => rfl) ?_
        obtain rfl := Option.some.inj h13
        obtain rfl := (h14 : Lp.rt _ = _)
        rw [Lp.andThen_rt] at hm
        obtain rfl := Option.some.inj hm
        refine C_ret ?_
        try simp only [↓inBlock_ret, ↓then_ret]
        exact retQ rfl (Res.one Tryz.results40 rfl) ⟨rfl, rfl⟩
      · rw [if_neg (nt hc25)] at h13
        refine C_skip_to (fun _ _ => rfl) ?_
        refine C_region ?_
        refine V_y (Y_addI rfl rfl) rfl rfl rfl ?_
        refine V_y (Y_move rfl) rfl rfl rfl ?_
        obtain rfl := Option.some.inj h13
        refine V_end (fun a ha26 => ?_)
        exact ⟨(), hlt16, h14, ⟨(), ha26.sub ⟨rfl, rfl, rfl, (congrArg (fun z => some (Value.int .i64 z)) (w64_succ hlt16 hn19)), trivial⟩, rfl⟩⟩
    · refine C_exit (fun a ha27 => ?_)
      exact ⟨(), ha27.sub trivial, ⟨(h17 (eq_of_dec hle15 hc20)).symm, rfl⟩⟩
  rintro s4 _ ⟨rfl, rfl⟩ a ha9
  rw [Lp.andThen_fin] at hm
  refine C_at (n := ⟨19, [], none⟩) (fun _ _ => rfl) ?_ ha9
  refine C_seq ?_
  refine C_region ?_
  refine V_y (Y_assign rfl) rfl rfl rfl ?_
  refine V_to (fun _ _ => rfl) ?_
  obtain rfl := Option.some.inj hm
  refine C_ret ?_
  try simp only [↓inBlock_ret, ↓then_ret]
  exact retQ rfl (Res.one Tryz.results40 rfl) ⟨rfl, rfl⟩

set_option maxRecDepth 4000 in
set_option maxHeartbeats 4000000 in
theorem slices_Contains_Lint_int_c (w : World) {A : Nat → Prop} (s : (List Int)) (v_s : Value) (h_s : Sl A w v_s s) (v : Int) {r : Bool} (hm : slices_Contains_Lint_int s v = some r) : Ret Tryz.prog 18 #[v_s, .int .i64 v] w fun v w' => v = .bool r ∧ w = w' := by
  unfold slices_Contains_Lint_int at hm
  refine enter Tryz.func18 rfl Tryz.ntmps18 rfl ?_
  refine C_seq ?_
  refine C_region ?_
  refine V_y (Y_assign rfl) rfl rfl rfl ?_
  refine V_to (fun _ _ => rfl) ?_
  refine C_seq ?_
  refine C_region ?_
  refine V_y (Y_move rfl) rfl rfl rfl ?_
  refine V_y (Y_move rfl) rfl rfl rfl ?_
  obtain ⟨x3, hx3, hm⟩ := Option.bind_eq_some_iff.1 hm
  refine V_call Tryz.call40 rfl rfl rfl rfl (slices_Index_Lint_int_c w s v_s h_s v hx3) ?_
  rintro _ _ ⟨rfl, rfl⟩
  refine V_y (Y_geq rfl rfl) rfl rfl rfl ?_
  refine V_y (Y_assign rfl) rfl rfl rfl ?_
  refine V_to (fun _ _ => rfl) ?_
  obtain rfl := Option.some.inj hm
  refine C_ret ?_
  try simp only [↓inBlock_ret, ↓then_ret]
  exact retQ rfl (Res.one Tryz.results18 rfl) ⟨rfl, rfl⟩

set_option maxRecDepth 4000 in
set_option maxHeartbeats 4000000 in
theorem know_ranked_1_c (w : World) {A : Nat → Prop} (hA : ∀ b, w.heap.size ≤ b → A b) (a_ : know_Hit) (b : know_Hit) {r : Int} (hm : know_ranked_1 a_ b = some r) : Ret Tryz.prog 42 #[.agg #[.int .i64 a_.id_, .int .i64 a_.score], .agg #[.int .i64 b.id_, .int .i64 b.score]] w fun v w' => v = .int .i64 r ∧ Kp Dw w w' := by
  unfold know_ranked_1 at hm
  refine enter Tryz.func42 rfl Tryz.ntmps42 rfl ?_
  have hA0 := hA
  have hB := Nat.le_refl w.heap.size
  have hK : Tr Dw w.heap.size A w A w := Tr.refl (Dw := Dw) hA
  have hH : Hp w.heap.size A w [] := Hp.nil
  refine C_seq ?_
  refine C_region ?_
  refine V_box rfl rfl ?_
  intro b1 w2 h3
  have hk5 := h3.kp (Dw := Dw)
  have h4 : El (α := know_Hit) A w2 b1 0 a_ := h3.el hA ⟨[.int .i64 a_.id_], _, rfl, rfl, rfl⟩
  have ht6 := Kp.tr (Dw := Dw) hk5 hA hB
  replace hH := Hp.kp (Dw := Dw) hH hk5
  replace hK := Tr.trans (Dw := Dw) hK ht6
  replace hB := Nat.le_trans hB ht6.ex.size
  replace hA := ht6.new
  refine V_box rfl rfl ?_
  intro b7 w9 h10
  have hk12 := h10.kp (Dw := Dw)
  have h11 : El (α := know_Hit) A w9 b7 0 b := h10.el hA ⟨[.int .i64 b.id_], _, rfl, rfl, rfl⟩
  have ht13 := Kp.tr (Dw := Dw) hk12 hA hB
  replace hH := Hp.kp (Dw := Dw) hH hk12
  replace h4 := El.tr (Dw := Dw) h4 ht13
  replace hK := Tr.trans (Dw := Dw) hK ht13
  replace hB := Nat.le_trans hB ht13.ex.size
  replace hA := ht13.new
  refine V_y (Y_assign rfl) rfl rfl rfl ?_
  refine V_to (fun _ _ => rfl) ?_
  refine C_seq ?_
  refine C_region_qt (Dw := Dw) 10 Tryz_mixed (by kernel_rfl) ?_
  simp only [List.take, List.drop]
  have h14 := El_know_Hit_1 h11
  refine VQ_y (fun w' hw' => Y_fieldAddr Tryz.underlying32 rfl Tryz.sizeOf3 (by decide) rfl) rfl rfl rfl ?_
  refine VQ_y (fun w' hw' => Y_load (El.int (El.kp (Dw := Dw) h14 hw')) Tryz.isAgg3 rfl) rfl rfl rfl ?_
  have h15 := El_know_Hit_1 h4
  refine VQ_y (fun w' hw' => Y_fieldAddr Tryz.underlying32 rfl Tryz.sizeOf3 (by decide) rfl) rfl rfl rfl ?_
  refine VQ_y (fun w' hw' => Y_load (El.int (El.kp (Dw := Dw) h15 hw')) Tryz.isAgg3 rfl) rfl rfl rfl ?_
  refine VQ_call (.int .i64 (cmp_Compare_int b.score a_.score)) Tryz.call14 rfl rfl rfl rfl (fun w' hw' => (cmp_Compare_int_c w' b.score a_.score).mono (fun _ _ h => ⟨h.1, h.2 ▸ hw'⟩)) ?_
  have h16 := El_know_Hit_0 h4
  refine VQ_y (fun w' hw' => Y_fieldAddr Tryz.underlying32 rfl Tryz.sizeOf3 (by decide) rfl) rfl rfl rfl ?_
  refine VQ_y (fun w' hw' => Y_load (El.int (El.kp (Dw := Dw) h16 hw')) Tryz.isAgg3 rfl) rfl rfl rfl ?_
  have h17 := El_know_Hit_0 h11
  refine VQ_y (fun w' hw' => Y_fieldAddr Tryz.underlying32 rfl Tryz.sizeOf3 (by decide) rfl) rfl rfl rfl ?_
  refine VQ_y (fun w' hw' => Y_load (El.int (El.kp (Dw := Dw) h17 hw')) Tryz.isAgg3 rfl) rfl rfl rfl ?_
  refine VQ_call (.int .i64 (cmp_Compare_int a_.id_ b.id_)) Tryz.call14 rfl rfl rfl rfl (fun w' hw' => (cmp_Compare_int_c w' a_.id_ b.id_).mono (fun _ _ h => ⟨h.1, h.2 ▸ hw'⟩)) ?_
  refine VQ_tail (fun w18 hk19 => ?_)
  try simp only [List.take, List.drop]
  have ht20 := Kp.tr (Dw := Dw) hk19 hA hB
  replace hH := Hp.kp (Dw := Dw) hH hk19
  replace h4 := El.tr (Dw := Dw) h4 ht20
  replace h11 := El.tr (Dw := Dw) h11 ht20
  replace h14 := El.tr (Dw := Dw) h14 ht20
  replace h15 := El.tr (Dw := Dw) h15 ht20
  replace h16 := El.tr (Dw := Dw) h16 ht20
  replace h17 := El.tr (Dw := Dw) h17 ht20
  replace hK := Tr.trans (Dw := Dw) hK ht20
  replace hB := Nat.le_trans hB ht20.ex.size
  replace hA := ht20.new
  refine V_buildSlice (Dw := Dw) (cells := #[.int .i64 (cmp_Compare_int b.score a_.score), .int .i64 (cmp_Compare_int a_.id_ b.id_)]) (l := ([(cmp_Compare_int b.score a_.score), (cmp_Compare_int a_.id_ b.id_)] : List Int)) (len := 2) Tryz.underlying22 Tryz.sizeOf3 Tryz.zeroValue3 rfl (by generalize ((cmp_Compare_int b.score a_.score) : Int) = z25; generalize ((cmp_Compare_int a_.id_ b.id_) : Int) = z26; kernel_rfl) (show (2 * 1 : Nat) ≠ 0 by decide) (show (2 * 1 : Nat) ≤ 2 ^ 24 by decide) hA ⟨[.int .i64 (cmp_Compare_int b.score a_.score)], _, rfl, rfl, ⟨[.int .i64 (cmp_Compare_int a_.id_ b.id_)], _, rfl, rfl, rfl⟩⟩ rfl rfl ?_
  intro v21 w22 hk24 h23
  have ht27 := Kp.tr (Dw := Dw) hk24 hA hB
  replace hH := Hp.kp (Dw := Dw) hH hk24
  replace h4 := El.tr (Dw := Dw) h4 ht27
  replace h11 := El.tr (Dw := Dw) h11 ht27
  replace h14 := El.tr (Dw := Dw) h14 ht27
  replace h15 := El.tr (Dw := Dw) h15 ht27
  replace h16 := El.tr (Dw := Dw) h16 ht27
  replace h17 := El.tr (Dw := Dw) h17 ht27
  replace hK := Tr.trans (Dw := Dw) hK ht27
  replace hB := Nat.le_trans hB ht27.ex.size
  replace hA := ht27.new
  obtain ⟨x28, hx28, hm⟩ := Option.bind_eq_some_iff.1 hm
  refine V_call Tryz.call13 rfl rfl rfl rfl (cmp_Or_int_c w22 ([(cmp_Compare_int b.score a_.score), (cmp_Compare_int a_.id_ b.id_)] : List Int) v21 h23 hx28) ?_
  rintro _ _ ⟨rfl, rfl⟩
  refine V_y (Y_assign rfl) rfl rfl rfl ?_
  refine V_to (fun _ _ => rfl) ?_
  obtain rfl := Option.some.inj hm
  refine C_ret ?_
  try simp only [↓inBlock_ret, ↓then_ret]
  exact retQ rfl (Res.one Tryz.results42 rfl) ⟨rfl, hK.kp⟩

def Tryz_sf41_ren : Go.Shelf.Ren := ⟨fun | 6 => 41 | 14 => 70 | 15 => 36 | 20 => 87 | 21 => 88 | 22 => 89 | 23 => 90 | 24 => 91 | 25 => 92 | 26 => 93 | 27 => 94 | 28 => 68 | 29 => 69 | 46 => 100 | 47 => 83 | 48 => 84 | 49 => 101 | 50 => 102 | 57 => 106 | n => n, fun | 0 => 0 | 1 => 1 | 2 => 2 | 3 => 3 | 4 => 4 | 5 => 5 | 6 => 6 | 7 => 7 | 8 => 8 | 9 => 9 | 10 => 10 | 11 => 11 | 12 => 12 | 13 => 13 | 14 => 14 | 15 => 15 | 16 => 16 | 17 => 17 | 18 => 18 | 19 => 19 | 20 => 20 | 21 => 21 | 22 => 26 | 23 => 74 | 24 => 32 | 25 => 75 | 27 => 22 | 29 => 46 | 37 => 97 | 38 => 67 | 39 => 68 | 42 => 69 | 44 => 113 | 45 => 87 | 46 => 88 | 47 => 114 | 48 => 115 | 49 => 116 | 50 => 70 | 51 => 117 | 52 => 93 | 53 => 94 | 54 => 95 | 55 => 96 | 66 => 107 | 67 => 108 | 68 => 109 | 69 => 124 | 70 => 111 | 71 => 125 | 76 => 121 | 77 => 122 | 78 => 127 | 81 => 135 | 82 => 136 | 83 => 137 | 84 => 138 | 85 => 139 | 86 => 140 | 87 => 141 | 88 => 142 | 89 => 143 | 90 => 144 | 91 => 145 | 92 => 146 | 93 => 147 | 94 => 148 | 95 => 149 | 96 => 151 | n => n, fun n => n⟩
theorem Tryz_sf41_lay : Go.Proofs.SlLaysF0.n6 Tryz.prog Tryz_sf41_ren := {
  mixed := by kernel_rfl,
  f6 := ⟨ "slices.SortFunc[[]porterslodge/know.Hit,porterslodge/know.Hit]", by kernel_rfl, Tryz.func41.trans (congrArg some (by kernel_rfl))⟩,
  f14 := ⟨ "slices.pdqsortCmpFunc[porterslodge/know.Hit]", by kernel_rfl, Tryz.func70.trans (congrArg some (by kernel_rfl))⟩,
  f15 := Tryz.func36.trans (congrArg some (by kernel_rfl)),
  f20 := ⟨ "slices.insertionSortCmpFunc[porterslodge/know.Hit]", by kernel_rfl, Tryz.func87.trans (congrArg some (by kernel_rfl))⟩,
  f21 := ⟨ "slices.heapSortCmpFunc[porterslodge/know.Hit]", by kernel_rfl, Tryz.func88.trans (congrArg some (by kernel_rfl))⟩,
  f22 := ⟨ "slices.breakPatternsCmpFunc[porterslodge/know.Hit]", by kernel_rfl, Tryz.func89.trans (congrArg some (by kernel_rfl))⟩,
  f23 := ⟨ "slices.choosePivotCmpFunc[porterslodge/know.Hit]", by kernel_rfl, Tryz.func90.trans (congrArg some (by kernel_rfl))⟩,
  f24 := ⟨ "slices.reverseRangeCmpFunc[porterslodge/know.Hit]", by kernel_rfl, Tryz.func91.trans (congrArg some (by kernel_rfl))⟩,
  f25 := ⟨ "slices.partialInsertionSortCmpFunc[porterslodge/know.Hit]", by kernel_rfl, Tryz.func92.trans (congrArg some (by kernel_rfl))⟩,
  f26 := ⟨ "slices.partitionEqualCmpFunc[porterslodge/know.Hit]", by kernel_rfl, Tryz.func93.trans (congrArg some (by kernel_rfl))⟩,
  f27 := ⟨ "slices.partitionCmpFunc[porterslodge/know.Hit]", by kernel_rfl, Tryz.func94.trans (congrArg some (by kernel_rfl))⟩,
  f28 := Tryz.func68.trans (congrArg some (by kernel_rfl)),
  f29 := Tryz.func69.trans (congrArg some (by kernel_rfl)),
  f46 := ⟨ "slices.siftDownCmpFunc[porterslodge/know.Hit]", by kernel_rfl, Tryz.func100.trans (congrArg some (by kernel_rfl))⟩,
  f47 := Tryz.func83.trans (congrArg some (by kernel_rfl)),
  f48 := Tryz.func84.trans (congrArg some (by kernel_rfl)),
  f49 := ⟨ "slices.medianAdjacentCmpFunc[porterslodge/know.Hit]", by kernel_rfl, Tryz.func101.trans (congrArg some (by kernel_rfl))⟩,
  f50 := ⟨ "slices.medianCmpFunc[porterslodge/know.Hit]", by kernel_rfl, Tryz.func102.trans (congrArg some (by kernel_rfl))⟩,
  f57 := ⟨ "slices.order2CmpFunc[porterslodge/know.Hit]", by kernel_rfl, Tryz.func106.trans (congrArg some (by kernel_rfl))⟩,
  t0 := Tryz.underlying0,
  a0 := Tryz.isAgg0,
  z0 := Tryz.sizeOf0,
  v0 := Tryz.zeroValue0,
  t3 := Tryz.underlying3,
  a3 := Tryz.isAgg3,
  z3 := Tryz.sizeOf3,
  v3 := Tryz.zeroValue3,
  t4 := Tryz.underlying4,
  a4 := Tryz.isAgg4,
  z4 := Tryz.sizeOf4,
  v4 := Tryz.zeroValue4,
  t5 := Tryz.underlying5,
  a5 := Tryz.isAgg5,
  z5 := Tryz.sizeOf5,
  v5 := Tryz.zeroValue5,
  t9 := Tryz.underlying9,
  a9 := Tryz.isAgg9,
  z9 := Tryz.sizeOf9,
  v9 := Tryz.zeroValue9,
  t22 := Tryz.underlying26,
  a22 := Tryz.isAgg26,
  z22 := Tryz.sizeOf26,
  v22 := Tryz.zeroValue26,
  t25 := Tryz.underlying75,
  a25 := Tryz.isAgg75,
  z25 := Tryz.sizeOf75,
  v25 := Tryz.zeroValue75,
  t39 := Tryz.underlying68,
  a39 := Tryz.isAgg68,
  z39 := Tryz.sizeOf68,
  v39 := Tryz.zeroValue68,
  t45 := Tryz.underlying87,
  a45 := Tryz.isAgg87,
  z45 := Tryz.sizeOf87,
  v45 := Tryz.zeroValue87,
  t46 := Tryz.underlying88,
  a46 := Tryz.isAgg88,
  z46 := Tryz.sizeOf88,
  v46 := Tryz.zeroValue88,
  t50 := Tryz.underlying70,
  a50 := Tryz.isAgg70,
  z50 := Tryz.sizeOf70,
  v50 := Tryz.zeroValue70,
  t53 := Tryz.underlying94,
  a53 := Tryz.isAgg94,
  z53 := Tryz.sizeOf94,
  v53 := Tryz.zeroValue94,
  t55 := Tryz.underlying96,
  a55 := Tryz.isAgg96,
  z55 := Tryz.sizeOf96,
  v55 := Tryz.zeroValue96,
  t66 := Tryz.underlying107,
  a66 := Tryz.isAgg107,
  z66 := Tryz.sizeOf107,
  v66 := Tryz.zeroValue107,
  t70 := Tryz.underlying111,
  a70 := Tryz.isAgg111,
  z70 := Tryz.sizeOf111,
  v70 := Tryz.zeroValue111,
  t76 := Tryz.underlying121,
  a76 := Tryz.isAgg121,
  z76 := Tryz.sizeOf121,
  v76 := Tryz.zeroValue121,
  t77 := Tryz.underlying122,
  a77 := Tryz.isAgg122,
  z77 := Tryz.sizeOf122,
  v77 := Tryz.zeroValue122 }
theorem Tryz_sf41 {cmp : know_Hit → know_Hit → Option Int} {l r : List know_Hit} {g : FuncId} {cb : Array Value} {B : Nat} {A : Nat → Prop} {w : World} {L : List Ob} {i : Nat} {v : Value} (eg : ∀ (args : Array Value) (w : World), (callFunc g args).run Tryz.prog w = .ok (.enter g args) w) (hcl : ∀ (w1 : World), Tr True B A w A w1 → (∀ b, w1.heap.size ≤ b → A b) → ∀ (x y : know_Hit) (cx cy : List Value) (c : Int), GoT.rep A w1 cx x → GoT.rep A w1 cy y → cmp x y = some c → Ret Tryz.prog g (#[.agg cx.toArray, .agg cy.toArray] ++ cb) w1 fun v w' => v = .int .i64 c ∧ Kp True w1 w') (hH : Hp B A w L) (hi : L[i]? = some (obS (α := know_Hit) 32 v l)) (hB : B ≤ w.heap.size) (hA : ∀ b, w.heap.size ≤ b → A b) (hr : sortFuncL cmp l = some r) : Ret Tryz.prog 41 #[v, .func (.func g) #[] cb] w fun u w' => u = .tuple #[] ∧ Hp B A w' (L.set i (obS (α := know_Hit) 32 v r)) ∧ Tr Dw B A w A w' :=
  Hp.sortFuncK (Dw := Dw) (fun p c w => Go.Proofs.AnyF.slices_SortFunc_none Tryz_sf41_lay p c _ w) (fun enc hk hone cf hO blk off cap d w hc hh hb hs => Go.Proofs.AnyQ.slices_SortFunc Tryz_sf41_lay _ Tryz.isAgg32 Tryz.sizeOf32 enc hk hone cf hO g cb blk off cap d w eg hc hh hb hs) hcl hH hi hB hA hr

set_option maxRecDepth 4000 in
set_option maxHeartbeats 4000000 in
theorem slices_Clone_Lknow_Hit_know_Hit_c (w : World) {A : Nat → Prop} (hA : ∀ b, w.heap.size ≤ b → A b) (s : (List know_Hit)) (v_s : Value) (h_s : Sl A w v_s s) {r : (List know_Hit)} (hm : slices_Clone_Lknow_Hit_know_Hit s = some r) : Ret Tryz.prog 43 #[v_s] w fun v w' => ∃ s0, v = s0 ∧ Ownd 32 w w' s0 r ∧ Kp Dw w w' := by
  unfold slices_Clone_Lknow_Hit_know_Hit at hm
  refine enter Tryz.func43 rfl Tryz.ntmps43 rfl ?_
  have hA0 := hA
  have hB := Nat.le_refl w.heap.size
  have hK : Tr Dw w.heap.size A w A w := Tr.refl (Dw := Dw) hA
  have hH : Hp w.heap.size A w [] := Hp.nil
  rcases Sl.split h_s with ⟨rfl, rfl⟩ | ⟨a0, n0, c0, rfl⟩
  · replace hm : some ([] : (List know_Hit)) = some r := by simpa [appendL] using hm
    refine C_seq ?_
    refine C_region ?_
    refine V_y (Y_assign rfl) rfl rfl rfl ?_
    refine V_to (fun _ _ => rfl) ?_
    refine C_seq ?_
    refine C_seq ?_
    refine C_region ?_
    refine V_y (Y_move rfl) rfl rfl rfl ?_
    refine V_y (Y_eqlNilT rfl rfl Tryz.underlying26) rfl rfl rfl ?_
    refine V_to (fun _ _ => rfl) ?_
    refine C_cond rfl (fun hc => ?_) (fun hc => ?_)
    · refine C_seq ?_
      refine C_region ?_
      refine V_y (Y_assign rfl) rfl rfl rfl ?_
      refine V_to (fun _ _ => rfl) ?_
      obtain rfl := Option.some.inj hm
      replace hH : Hp w.heap.size A w (obS (α := know_Hit) 32 (.slice none 0 0) ([] : (List know_Hit)) :: []) := Hp.addNil (α := know_Hit) (e := 32) hH
      refine C_ret ?_
      try simp only [↓inBlock_ret, ↓then_ret]
      exact retQ rfl (Res.one Tryz.results43 rfl) ⟨.slice none 0 0, rfl, (Hp.ownd hH (i := 0) rfl), hK.kp⟩
    · exact absurd hc (by decide)
  · refine C_seq ?_
    refine C_region ?_
    refine V_y (Y_assign rfl) rfl rfl rfl ?_
    refine V_to (fun _ _ => rfl) ?_
    refine C_seq ?_
    refine C_seq ?_
    refine C_region ?_
    refine V_y (Y_move rfl) rfl rfl rfl ?_
    refine V_y (Y_eqlNilF rfl rfl Tryz.underlying26) rfl rfl rfl ?_
    refine V_to (fun _ _ => rfl) ?_
    refine C_cond rfl (fun hc => ?_) (fun hc => ?_)
    · exact absurd hc (by decide)
    · refine C_skip_to (fun _ _ => rfl) ?_
      refine C_seq ?_
      refine C_region ?_
      refine V_buildOwn0H (Dw := Dw) (α := know_Hit) hH Tryz.underlying26 Tryz.sizeOf32 hB hA rfl ?_
      intro v3 w4 A5 hH6 ht7
      replace h_s := Sl.tr (Dw := Dw) h_s ht7
      replace hK := Tr.trans (Dw := Dw) hK ht7
      replace hB := Nat.le_trans hB ht7.ex.size
      replace hA := ht7.new
      replace hH : Hp w.heap.size A5 w4 (obS (α := know_Hit) 32 v3 ([] : List know_Hit) :: []) := hH6
      refine V_y (Y_move rfl) rfl rfl rfl ?_
      obtain ⟨x8, hx8, hm⟩ := Option.bind_eq_some_iff.1 hm
      refine V_appendH (Dw := Dw) (e := 32) (v := v3) (l := ([] : List know_Hit)) (ti := Tryz.t32) (bytes := 16) (lim := 8796093022208) hH (i := 0) rfl h_s hx8 Tryz.underlying26 Tryz_info32 rfl rfl rfl rfl (by decide) (by decide) (by decide) hB hA rfl rfl rfl ?_
      intro v9 w10 A11 hH12 ht13
      replace h_s := Sl.tr (Dw := Dw) h_s ht13
      replace hK := Tr.trans (Dw := Dw) hK ht13
      replace hB := Nat.le_trans hB ht13.ex.size
      replace hA := ht13.new
      replace hH : Hp w.heap.size A11 w10 (obS (α := know_Hit) 32 v9 x8 :: []) := hH12
      refine V_y (Y_assign rfl) rfl rfl rfl ?_
      refine V_to (fun _ _ => rfl) ?_
      obtain rfl := Option.some.inj hm
      refine C_ret ?_
      try simp only [↓inBlock_ret, ↓then_ret]
      exact retQ rfl (Res.one Tryz.results43 rfl) ⟨v9, rfl, (Hp.ownd hH (i := 0) rfl), hK.kp⟩

set_option maxRecDepth 4000 in
set_option maxHeartbeats 4000000 in
theorem know_ranked_c (w : World) {A : Nat → Prop} {B : Nat} (hB : B ≤ w.heap.size) (hA : ∀ b, w.heap.size ≤ b → A b) (l : (List know_Hit)) (v_l : Value) (most : Int) {L : List Ob} (hH : Hp B A w (obS (α := know_Hit) 32 v_l l :: L)) {r : (List know_Hit)} (hm : know_ranked l most = some r) : Ret Tryz.prog 19 #[v_l, .int .i64 most] w fun v w' => ∃ s0, ∃ A1 : Nat → Prop, v = s0 ∧ Hp B A1 w' (obS (α := know_Hit) 32 s0 r :: L) ∧ Tr Dw B A w A1 w' := by
  unfold know_ranked at hm
  refine enter Tryz.func19 rfl Tryz.ntmps19 rfl ?_
  have hK : Tr Dw B A w A w := Tr.refl (Dw := Dw) hA
  refine C_seq ?_
  refine C_region ?_
  refine V_y (Y_assign rfl) rfl rfl rfl ?_
  refine V_to (fun _ _ => rfl) ?_
  refine C_seq ?_
  refine C_region ?_
  refine V_y (Y_move rfl) rfl rfl rfl ?_
  obtain ⟨x1, hx1, hm⟩ := Option.bind_eq_some_iff.1 hm
  refine V_call Tryz.call41 rfl rfl rfl rfl (Tryz_sf41 (Dw := Dw) Tryz.call42 (fun w7 ht8 h9 p11 q14 c12 c15 c17 h13 h16 h10 => by obtain ⟨rfl, _⟩ := Rep_know_Hit h13; obtain ⟨rfl, _⟩ := Rep_know_Hit h16; exact (know_ranked_1_c (Dw := True) w7 h9 p11 q14 h10).mono fun _ _ h => ⟨h.1, h.2⟩) hH (i := 0) rfl hB hA hx1) ?_
  rintro _ w2 ⟨rfl, hH3, ht4⟩
  replace hK := Tr.trans (Dw := Dw) hK ht4
  replace hB := Nat.le_trans hB ht4.ex.size
  replace hA := ht4.new
  replace hH : Hp B A w2 (obS (α := know_Hit) 32 v_l x1 :: L) := hH3
  refine V_to (fun _ _ => rfl) ?_
  refine C_seq ?_
  refine C_region ?_
  refine V_y (Y_move rfl) rfl rfl rfl ?_
  refine V_y (Y_move rfl) rfl rfl rfl ?_
  refine V_y (Y_move rfl) rfl rfl rfl ?_
  refine V_y (Y_lenSl (Hp.any (α := know_Hit) (e := 32) (v := v_l) (l := x1) hH (i := 0) rfl) rfl Tryz.underlying26 rfl) rfl rfl rfl ?_
  refine V_y (Y_min2 rfl rfl) rfl rfl rfl ?_
  obtain ⟨A18, ht19, h20, hH21⟩ := Hp.freeze (Dw := Dw) (α := know_Hit) (v := v_l) (l := x1) hH (i := 0) rfl hA
  replace hK := Tr.trans (Dw := Dw) hK ht19
  replace hB := Nat.le_trans hB ht19.ex.size
  replace hA := ht19.new
  replace hH : Hp B A18 w2 (L) := hH21
  obtain ⟨x23, hx23, hm⟩ := Option.bind_eq_some_iff.1 hm
  obtain ⟨v24, h25, h25y⟩ := sliceL_val hx23 h20
  refine V_y (Y_sliceLH h25y Tryz.underlying26 Tryz.sizeOf32 rfl rfl) rfl rfl rfl ?_
  obtain ⟨x26, hx26, hm⟩ := Option.bind_eq_some_iff.1 hm
  refine V_call Tryz.call43 rfl rfl rfl rfl (slices_Clone_Lknow_Hit_know_Hit_c (Dw := Dw) w2 hA x23 v24 h25 hx26) ?_
  rintro v27 w29 ⟨_, rfl, h28, hk30⟩
  obtain ⟨A31, ht32, hH33⟩ := Hp.addOwnd (Dw := Dw) hH hB hA hk30 h28
  replace h20 := Sl.tr (Dw := Dw) h20 ht32
  replace h25 := Sl.tr (Dw := Dw) h25 ht32
  replace hK := Tr.trans (Dw := Dw) hK ht32
  replace hB := Nat.le_trans hB ht32.ex.size
  replace hA := ht32.new
  replace hH : Hp B A31 w29 (obS (α := know_Hit) 32 v27 x26 :: L) := hH33
  refine V_y (Y_assign rfl) rfl rfl rfl ?_
  refine V_to (fun _ _ => rfl) ?_
  obtain rfl := Option.some.inj hm
  refine C_ret ?_
  try simp only [↓inBlock_ret, ↓then_ret]
  exact retQ rfl (Res.one Tryz.results19 rfl) ⟨v27, A31, rfl, hH, hK⟩

end Go.Proofs.YtdfohednlmnciaaGreatDoor.W
