import Derived.Test.YtldkdabcdbgpbaaGreatDoorIndexChangesW1
namespace Go.Proofs.YtldkdabcdbgpbaaGreatDoor.W
open Go Go.RowKit Go.Pu Go.Gw Go.Proofs Go.Proofs.YtldkdabcdbgpbaaGreatDoor.M
set_option linter.unusedVariables false
set_option linter.unusedSimpArgs false
variable {Dw : Prop}
set_option maxHeartbeats 4000000
set_option maxRecDepth 4000
open Tryz
theorem slices_BinarySearchFunc_Lknow_Term_know_Term_know_Term_c (w : World) {A : Nat → Prop} (hA : ∀ b, w.heap.size ≤ b → A b) (x : (List know_Term)) (v_x : Value) (h_x : Sl A w v_x x) (target : know_Term) (v_target : Value) (h_target : Sl A w v_target target.list_) (cmp : know_Term → know_Term → Option Int) (cmp_f : FuncId) (cmp_a cmp_c : Array Value) (cmp_call : ∀ (args : Array Value) (w : World), (callFunc cmp_f args).run prog w = .ok (.enter cmp_f args) w) (cmp_spec : ∀ (w1 : World) (A1 : Nat → Prop), Tr Dw w.heap.size A w A1 w1 → (∀ b, w1.heap.size ≤ b → A1 b) → ∀ (y0 : know_Term) (v1 : Value) (h2 : Sl A1 w1 v1 y0.list_) (y1 : know_Term) (v3 : Value) (h4 : Sl A1 w1 v3 y1.list_) (r : Int), cmp y0 y1 = some r → Ret prog cmp_f (cmp_a ++ #[.agg #[.string y0.word, v1], .agg #[.string y1.word, v3]] ++ cmp_c) w1 fun v w' => v = Ii r ∧ Kp Dw w1 w') {r : (Int × Bool)} (hm : slices_BinarySearchFunc_Lknow_Term_know_Term_know_Term x target cmp = some r) : Ret prog 72 #[v_x, .agg #[.string target.word, v_target], .func (.func cmp_f) cmp_a cmp_c] w fun v w' => v = .tuple #[Ii r.1, .bool r.2] ∧ Kp Dw w w' := by
 unfold slices_BinarySearchFunc_Lknow_Term_know_Term_know_Term at hm
 refine enter func72 rfl ntmps72 rfl ?_
 have hA0 := hA
 obtain ⟨hB, hK, hH⟩ := St (Dw := Dw) hA
 refine Sr ?_
 refine V_box rfl rfl ?_
 intro b5 w6 h7
 have hk9 := h7.kp (Dw := Dw)
 have h8 : El (α := know_Term) A w6 b5 0 target := h7.el hA ⟨[.string target.word], _, rfl, rfl, ⟨_, rfl, h_target⟩⟩
 have ht10 := Kp.tr hk9 hA hB; replace hH := Hp.kp hH hk9; replace h_x := Sl.tr h_x ht10; replace hK := Tt hK ht10; replace hB := Bx hB ht10; replace hA := ht10.new
 refine As (As (To ?_))
 refine Sr (Mm (Vy (Y_lenSl h_x rfl underlying24 rfl) (As (To ?_))))
 refine Sr (Mm (As (As (To ?_))))
 refine C_seq ?_
 obtain ⟨o11, ho11, hm⟩ := Bs hm
 refine C_cutG (ι := ((Int × Int) × (Nat → Prop))) (fun ⟨s12, A18⟩ => [(0, v_x), (2, .func (.func cmp_f) cmp_a cmp_c), (4, Pt b5), (8, Ii (x.length : Int)), (9, Ii s12.1)]) (fun ⟨s12, A18⟩ => fun w' => o11 = .fin s12 ∧ Hp w.heap.size A18 w' ([]) ∧ Tr Dw w.heap.size A w6 A18 w') ?_ ?_
 ·refine C_block ?_
  refine C_while ho11 (fun s20 a w' => ∃ i : (Nat → Prop), Has ⟨49, [], none⟩ a ([(0, v_x), (2, .func (.func cmp_f) cmp_a cmp_c), (4, Pt b5), (8, Ii (x.length : Int)), (9, Ii s20.1), (10, Ii s20.2)]) ∧ Hp w.heap.size i w' ([]) ∧ Tr Dw w.heap.size A w6 i w') (fun a ha => ⟨A, ha.sb, ⟨hH, Tr.refl (Dw := Dw) hA⟩⟩) ?_
  rintro K s20 a w21 ⟨A22, ha67, hH23, hr13⟩ K30
  refine C_of ?_ ha67
  replace h_x := Sl.tr h_x hr13; replace h8 := El.tr h8 hr13; replace hK := Tt hK hr13; replace hB := Bx hB hr13; replace hA := hr13.new; replace hH := hH23
  obtain ⟨x24, h25, h26⟩ := K30
  refine C_seq (Sr (Mm (Mm (Vy (Y_lss rfl rfl) (To ?_)))))
  refine Cc (fun hc31 => ?_) fun hc31 => ?_
  ·rw [if_pos hc31] at h25
   refine Sk ?_
   obtain ⟨s33, ho32, h25⟩ := Bs h25
   refine C_cutG (ι := (Nat → Prop)) (fun (A38 : (Nat → Prop)) => [(0, v_x), (2, .func (.func cmp_f) cmp_a cmp_c), (4, Pt b5), (8, Ii (x.length : Int)), (9, Ii s33.1), (10, Ii s33.2)]) (fun (A38 : (Nat → Prop)) => fun w' => Hp w.heap.size A38 w' ([]) ∧ Tr Dw w.heap.size A22 w21 A38 w') ?_ ?_
   ·have hr34 : Tr Dw w.heap.size A22 w21 A22 w21 := Tr.refl (Dw := Dw) hA
    refine C_block (Sr (Mm (Mm (Vy (Y_addI rfl rfl) (Vy (Y_convI underlying3 underlying191 rfl) ?_)))))
    obtain ⟨x40, hx40, ho32⟩ := Bs ho32
    refine Vy (Y_shr hx40 rfl rfl) (Vy (Y_convI underlying191 underlying3 rfl) (As (To ?_)))
    refine C_seq ?_
    refine C_region_q (Dw := Dw) Tryz_mixed (by kernel_rfl) ?_
    refine Qm (Qm (Qm ?_))
    obtain ⟨x41, hx41, ho32⟩ := Bs ho32
    refine VQ_indexAddr h_x hx41 underlying24 sizeOf83 rfl rfl rfl ?_
    intro b42 o43 h44
    obtain ⟨v45, h47, h46⟩ := El_know_Term h44
    refine Qv (fun w' hw' => Y_loadA (At.kp h47 hw' h44.2.1) isAgg83 sizeOf83 rfl) ?_
    obtain ⟨v48, h50, h49⟩ := El_know_Term h8
    refine Qv (fun w' hw' => Y_loadA (At.kp h50 hw' h8.2.1) isAgg83 sizeOf83 rfl) ?_
    obtain ⟨x51, hx51, ho32⟩ := Bs ho32
    refine VQ_call (Ii x51) cmp_call rfl rfl rfl rfl (fun w' hw' => (cmp_spec w' _ (Tr.trans hK (Kp.tr (Dw := Dw) hw' hA hB)) (fun b hb => hA b (Nat.le_trans hw'.size hb)) x41 v45 (Sl.kp h46 hw') target v48 (Sl.kp h49 hw') _ hx51).mono fun _ _ h => ⟨h.1, Kp.trans (Dw := Dw) hw' h.2⟩) ?_
    refine Qv (fun w' hw' => Y_lss rfl rfl) ?_
    refine VQ_to (fun _ _ => rfl) (fun w52 hk53 => ?_)
    have ht54 := Kp.tr hk53 hA hB; replace hH := Hp.kp hH hk53; replace hr34 := Tt hr34 ht54
    obtain ⟨s56, ho55, ho32⟩ := Bs ho32
    refine C_cutG (ι := Unit) (fun (_ : Unit) => [(0, v_x), (2, .func (.func cmp_f) cmp_a cmp_c), (4, Pt b5), (8, Ii (x.length : Int)), (9, Ii s56.1), (10, Ii s56.2)]) (fun (_ : Unit) => fun w' => w52 = w') ?_ ?_
    ·refine Cc (fun hc61 => ?_) fun hc61 => ?_
     ·rw [if_pos hc61] at ho55
      refine C_region (Mm (Vy (Y_addI rfl rfl) (As ?_)))
      obtain rfl := Oi ho55
      refine V_end (fun a ha62 => ?_)
      exact ⟨(), ha62.sb, rfl⟩
     rw [if_neg (nt hc61)] at ho55
     refine C_region (Mm (As ?_))
     obtain rfl := Oi ho55
     refine V_end (fun a ha63 => ?_)
     exact ⟨(), ha63.sb, rfl⟩
    rintro _ _ rfl a ha60
    obtain rfl := Oi ho32
    exact ⟨A22, ha60.sb, ⟨hH, hr34⟩⟩
   rintro A38 w35 ⟨hH39, hk36⟩ a ha37
   replace hr13 := Tr.trans hr13 hk36; replace hA := hk36.new; replace hH := hH39
   obtain rfl := Oi h25
   exact ⟨(s33.1, s33.2), h26, ⟨A38, ha37.sb, ⟨hH, hr13⟩⟩⟩
  rw [if_neg (nt hc31)] at h25
  obtain rfl := Oi h25
  refine C_exit (fun a ha66 => ?_)
  exact ⟨((s20.1, s20.2), A22), ha66.sb, ⟨h26.symm, hH, hr13⟩⟩
 rintro ⟨s12, A18⟩ w15 ⟨rfl, hH19, hk16⟩ a ha17
 rw [Lp.andThen_fin] at hm
 replace h_x := Sl.tr h_x hk16; replace h8 := El.tr h8 hk16; replace hK := Tr.trans hK hk16; replace hB := Nat.le_trans hB hk16.ex.size; replace hA := hk16.new; replace hH := hH19
 refine C_at (n := ⟨49, [], none⟩) (fun _ _ => rfl) ?_ ha17
 refine C_seq ?_
 refine C_region_q (Dw := Dw) Tryz_mixed (by kernel_rfl) ?_
 refine Qm (Qm (Qm (Qv (fun w' hw' => Y_lss rfl rfl) (Qm ?_))))
 obtain ⟨s69, hs69, hm⟩ := Bs hm
 refine VQ_cut 9 (fun _ : Unit => [(35, Ii s12.1), (48, .bool s69)]) (fun _ => True) ?_ ?_
 ·simp only [List.take, List.drop]
  rcases Be (decide (s12.1 < (x.length : Int))) with hc68 | hc68
  ·rw [if_pos hc68] at hs69
   refine Qh hc68 (Qm (Qh hc68 (Qm (Qh hc68 (Qm (Qh hc68 ?_))))))
   obtain ⟨x70, hx70, hs69⟩ := Bs hs69
   refine VQ_indexAddr h_x hx70 underlying24 sizeOf83 rfl rfl rfl ?_
   intro b71 o72 h73
   refine Qh hc68 ?_
   obtain ⟨v74, h76, h75⟩ := El_know_Term h73
   refine Qv (fun w' hw' => Y_loadA (At.kp h76 hw' h73.2.1) isAgg83 sizeOf83 rfl) (Qh hc68 ?_)
   obtain ⟨v77, h79, h78⟩ := El_know_Term h8
   refine Qv (fun w' hw' => Y_loadA (At.kp h79 hw' h8.2.1) isAgg83 sizeOf83 rfl) (Qh hc68 ?_)
   obtain ⟨x80, hx80, hs69⟩ := Bs hs69
   refine VQ_call (Ii x80) cmp_call rfl rfl rfl rfl (fun w' hw' => (cmp_spec w' _ (Tr.trans hK (Kp.tr (Dw := Dw) hw' hA hB)) (fun b hb => hA b (Nat.le_trans hw'.size hb)) x70 v74 (Sl.kp h75 hw') target v77 (Sl.kp h78 hw') _ hx80).mono fun _ _ h => ⟨h.1, Kp.trans (Dw := Dw) hw' h.2⟩) ?_
   refine Qh hc68 (Qv (fun w' hw' => Y_eql rfl rfl) ?_)
   refine VQ_y (fun _ _ => Y_pick_te rfl hc68 rfl) rfl rfl rfl ?_
   obtain rfl := Oi hs69
   exact VQ_end fun a ha => ⟨(), ha.sb, trivial⟩
  rw [if_neg (nt hc68)] at hs69
  refine Qg hc68 (Qg hc68 (Qg hc68 (Qg hc68 (Qg hc68 (Qg hc68 (Qg hc68 (Qg hc68 ?_)))))))
  refine VQ_y (fun _ _ => Y_pick_fe rfl hc68 rfl) rfl rfl rfl ?_
  obtain rfl := Oi hs69
  exact VQ_end fun a ha => ⟨(), ha.sb, trivial⟩
 simp only [List.take, List.drop]
 rintro _ _
 refine Qa (Qa ?_)
 refine VQ_to (fun _ _ => rfl) (fun w81 hk82 => ?_)
 have ht83 := Kp.tr hk82 hA hB; replace hK := Tt hK ht83
 obtain rfl := Oi hm
 refine Rt (Res.two results72 rfl rfl) ?_
 exact ⟨rfl, hK.kp⟩
def Tryz_strings_Compare_lay_ren : Go.Shelf.Ren := ⟨fun | 106 => 62 | 213 => 96 | 265 => 134 | n => n, fun | 0 => 0 | 1 => 1 | 2 => 2 | 3 => 3 | 4 => 4 | 5 => 5 | 6 => 6 | 7 => 7 | 8 => 8 | 9 => 9 | 10 => 10 | 11 => 11 | 12 => 12 | 13 => 13 | 14 => 14 | 15 => 15 | 16 => 16 | 17 => 17 | 18 => 18 | 19 => 19 | 20 => 20 | 21 => 21 | 22 => 208 | 23 => 207 | 27 => 160 | 28 => 23 | 29 => 162 | 30 => 166 | 31 => 73 | 34 => 79 | 35 => 252 | 37 => 227 | 40 => 205 | 41 => 198 | 43 => 157 | 46 => 191 | 47 => 196 | 51 => 219 | 52 => 218 | 53 => 221 | 54 => 220 | 55 => 263 | 63 => 265 | 64 => 280 | 65 => 206 | 66 => 177 | 68 => 164 | 69 => 182 | 70 => 229 | 71 => 230 | 72 => 231 | 73 => 232 | 74 => 233 | 75 => 234 | 76 => 235 | 77 => 236 | 80 => 239 | 81 => 289 | 100 => 183 | 101 => 76 | 103 => 262 | 104 => 176 | 105 => 237 | 106 => 238 | 111 => 193 | 112 => 192 | 114 => 275 | 115 => 241 | 116 => 242 | 117 => 243 | 118 => 244 | 119 => 276 | 122 => 240 | 123 => 245 | 124 => 246 | 127 => 264 | 131 => 150 | 135 => 209 | 137 => 277 | 138 => 278 | 139 => 279 | 146 => 282 | 151 => 283 | 155 => 261 | 164 => 272 | 165 => 273 | 166 => 274 | 182 => 212 | 183 => 213 | 188 => 247 | 189 => 248 | 190 => 249 | 191 => 250 | 192 => 251 | 218 => 253 | 219 => 254 | 220 => 255 | 222 => 257 | 224 => 266 | 225 => 267 | 228 => 268 | 229 => 269 | 231 => 281 | 238 => 284 | 239 => 285 | 240 => 286 | 241 => 287 | 242 => 288 | 243 => 290 | 244 => 291 | 245 => 292 | 246 => 293 | 247 => 294 | 248 => 295 | 249 => 296 | n => n, fun | 1 => 0 | 3 => 1 | 4 => 2 | n => n⟩
theorem Tryz_strings_Compare_lay : Go.Proofs.Lays.n106 Tryz.prog Tryz_strings_Compare_lay_ren := {
  mixed := by kernel_rfl,
  f106 := Tryz.func62.trans (congrArg some (by kernel_rfl)),
  f213 := Tryz.func96.trans (congrArg some (by kernel_rfl)),
  f265 := Tryz.func134.trans (congrArg some (by kernel_rfl)),
  t3 := Tryz.underlying3,
  a3 := Tryz.isAgg3,
  z3 := Tryz.sizeOf3,
  v3 := Tryz.zeroValue3,
  t9 := Tryz.underlying9,
  a9 := Tryz.isAgg9,
  z9 := Tryz.sizeOf9,
  v9 := Tryz.zeroValue9 }
theorem strings_Compare_c (w : World) {A : Nat → Prop} (hA : ∀ b, w.heap.size ≤ b → A b) (a : ByteArray) (b : ByteArray) {r : Int} (hm : strings_Compare a b = some r) : Ret Tryz.prog 62 #[.string a, .string b] w fun v w' => v = .int .i64 r ∧ Kp Dw w w' := by
  unfold strings_Compare at hm
  obtain rfl := Option.some.inj hm
  refine Calls.mono (Go.Proofs.Any.strings_Compare Tryz_strings_Compare_lay a b w) ?_
  rintro _ w' ⟨rfl, rfl⟩
  exact ⟨_, rfl, rfl, Kp.refl (Dw := Dw) _⟩
theorem know_byWord_c (w : World) {A : Nat → Prop} (hA : ∀ b, w.heap.size ≤ b → A b) (a_ : know_Term) (v_a_ : Value) (h_a_ : Sl A w v_a_ a_.list_) (b : know_Term) (v_b : Value) (h_b : Sl A w v_b b.list_) {r : Int} (hm : know_byWord a_ b = some r) : Ret prog 73 #[.agg #[.string a_.word, v_a_], .agg #[.string b.word, v_b]] w fun v w' => v = Ii r ∧ Kp Dw w w' := by
 unfold know_byWord at hm
 refine enter func73 rfl ntmps73 rfl ?_
 have hA0 := hA
 obtain ⟨hB, hK, hH⟩ := St (Dw := Dw) hA
 refine Sr ?_
 refine V_box rfl rfl ?_
 intro b5 w6 h7
 have hk9 := h7.kp (Dw := Dw)
 have h8 : El (α := know_Term) A w6 b5 0 a_ := h7.el hA ⟨[.string a_.word], _, rfl, rfl, ⟨_, rfl, h_a_⟩⟩
 have ht10 := Kp.tr hk9 hA hB; replace h_b := Sl.tr h_b ht10; replace hK := Tt hK ht10; replace hB := Bx hB ht10; replace hA := ht10.new
 refine V_box rfl rfl ?_
 intro b11 w12 h13
 have hk15 := h13.kp (Dw := Dw)
 have h14 : El (α := know_Term) A w12 b11 0 b := h13.el hA ⟨[.string b.word], _, rfl, rfl, ⟨_, rfl, h_b⟩⟩
 have ht16 := Kp.tr hk15 hA hB; replace h8 := El.tr h8 ht16; replace hK := Tt hK ht16; replace hB := Bx hB ht16; replace hA := ht16.new
 refine As (To ?_)
 refine Sr ?_
 have h17 := El_know_Term_0 h8
 refine Fa underlying83 rfl sizeOf9 (Ld (El.str h17) isAgg9 ?_)
 have h18 := El_know_Term_0 h14
 refine Fa underlying83 rfl sizeOf9 (Ld (El.str h18) isAgg9 ?_)
 obtain ⟨x19, hx19, hm⟩ := Bs hm
 refine Vc call62 (strings_Compare_c (Dw := Dw) w12 hA a_.word b.word hx19) ?_
 rintro _ w20 ⟨rfl, hk21⟩
 have ht22 := Kp.tr hk21 hA hB; replace hK := Tt hK ht22
 refine As (To ?_)
 obtain rfl := Oi hm
 refine Rt (Res.one results73 rfl) ?_
 exact ⟨rfl, hK.kp⟩
theorem know_merged_know_Posting_c (w : World) {A : Nat → Prop} {B : Nat} (hB : B ≤ w.heap.size) (hA : ∀ b, w.heap.size ≤ b → A b) (a_ : (List know_Posting)) (v_a_ : Value) (h_a_ : Sl A w v_a_ a_) (b : (List know_Posting)) (v_b : Value) (h_b : Sl A w v_b b) (compare : know_Posting → know_Posting → Option Int) (compare_f : FuncId) (compare_a compare_c : Array Value) (compare_call : ∀ (args : Array Value) (w : World), (callFunc compare_f args).run prog w = .ok (.enter compare_f args) w) (compare_spec : ∀ (w1 : World) (A1 : Nat → Prop), Tr Dw B A w A1 w1 → (∀ b, w1.heap.size ≤ b → A1 b) → ∀ (y0 : know_Posting) (v1 : Value) (h2 : Sl A1 w1 v1 y0.title) (v3 : Value) (h4 : Sl A1 w1 v3 y0.body) (y1 : know_Posting) (v5 : Value) (h6 : Sl A1 w1 v5 y1.title) (v7 : Value) (h8 : Sl A1 w1 v7 y1.body) (r : Int), compare y0 y1 = some r → Ret prog compare_f (compare_a ++ #[.agg #[Ii y0.id_, v1, v3], .agg #[Ii y1.id_, v5, v7]] ++ compare_c) w1 fun v w' => v = Ii r ∧ Kp Dw w1 w') {L : List Ob} (hH : Hp B A w (L)) {r : (List know_Posting)} (hm : know_merged_know_Posting a_ b compare = some r) : Ret prog 74 #[v_a_, v_b, .func (.func compare_f) compare_a compare_c] w fun v w' => ∃ s0, ∃ A1 : Nat → Prop, v = s0 ∧ Hp B A1 w' (o_86 s0 r :: L) ∧ Tr Dw B A w A1 w' := by
 unfold know_merged_know_Posting at hm
 refine enter func74 rfl ntmps74 rfl ?_
 have hK : Tr Dw B A w A w := Tr.refl (Dw := Dw) hA
 refine Sr (As (To ?_))
 refine Sr (As (To ?_))
 refine C_seq ?_
 replace hH : Hp B A w (o_86 (.slice none 0 0) ([] : (List know_Posting)) :: L) := Hp.addNil (α := know_Posting) (e := 86) hH
 obtain ⟨o5, ho5, hm⟩ := Bs hm
 refine C_cutG (ι := (((List know_Posting) × (List know_Posting) × (List know_Posting)) × Value × Value × Value × (Nat → Prop))) (fun ⟨s6, v12, v14, v16, A18⟩ => [(0, v12), (1, v14), (7, v16)]) (fun ⟨s6, v12, v14, v16, A18⟩ => fun w' => o5 = .fin s6 ∧ Sl A18 w' v12 s6.1 ∧ Sl A18 w' v14 s6.2.1 ∧ Hp B A18 w' (o_86 v16 s6.2.2 :: L) ∧ Tr Dw B A w A18 w') ?_ ?_
 ·refine C_block ?_
  refine C_while ho5 (fun s20 a w' => ∃ i : (Value × Value × Value × (Nat → Prop)), Has ⟨52, [], none⟩ a ([(0, i.1), (1, i.2.1), (2, .func (.func compare_f) compare_a compare_c), (7, i.2.2.1)]) ∧ Sl i.2.2.2 w' i.1 s20.1 ∧ Sl i.2.2.2 w' i.2.1 s20.2.1 ∧ Hp B i.2.2.2 w' (o_86 i.2.2.1 s20.2.2 :: L) ∧ Tr Dw B A w i.2.2.2 w') (fun a ha => ⟨(v_a_, v_b, .slice none 0 0, A), ha.sb, ⟨h_a_, h_b, hH, Tr.refl (Dw := Dw) hA⟩⟩) ?_
  rintro K s20 a w21 ⟨⟨v22, v24, v26, A28⟩, ha151, h23, h25, hH29, hr7⟩ K36
  refine C_of ?_ ha151
  replace hK := Tt hK hr7; replace hB := Bx hB hr7; replace hA := hr7.new
  replace hH : Hp _ _ _ (o_86 v26 s20.2.2 :: L) := hH29
  obtain ⟨x30, h31, h32⟩ := K36
  refine C_seq (Sr (Mm (Vy (Y_lenSl h23 rfl underlying81 rfl) (Vy (Y_gtr rfl rfl) (Mm ?_)))))
  refine V_cut 4 (fun _ : Unit => [(0, v22), (1, v24), (2, .func (.func compare_f) compare_a compare_c), (7, v26), (16, .bool ((decide ((0 : Int) < (s20.1.length : Int))) && (decide ((0 : Int) < (s20.2.1.length : Int)))))]) (fun _ w' => w21 = w') ?_ ?_
  ·simp only [List.take, List.drop]
   rcases Be (decide ((0 : Int) < (s20.1.length : Int))) with hc37 | hc37
   ·refine Gf hc37 (Mm (Gf hc37 (Vy (Y_lenSl h25 rfl underlying81 rfl) (Gf hc37 (Vy (Y_gtr rfl rfl) (Vy (Y_pick_te rfl hc37 rfl) ?_))))))
    exact V_end fun a ha => ⟨(), ha.sub ⟨rfl, rfl, rfl, rfl, (by rw [hc37]; rfl), trivial⟩, rfl⟩
   refine Gm hc37 (Gm hc37 (Gm hc37 (Vy (Y_pick_fe rfl hc37 rfl) ?_)))
   exact V_end fun a ha => ⟨(), ha.sub ⟨rfl, rfl, rfl, rfl, (by rw [hc37]; rfl), trivial⟩, rfl⟩
  simp only [List.take, List.drop]
  rintro _ _ rfl
  refine To ?_
  refine Cc (fun hc39 => ?_) fun hc39 => ?_
  ·rw [if_pos hc39] at h31
   refine Sk ?_
   obtain ⟨s41, ho40, h31⟩ := Bs h31
   refine C_cutG (ι := (Value × Value × Value × (Nat → Prop))) (fun ⟨v43, v45, v47, A52⟩ => [(0, v43), (1, v45), (2, .func (.func compare_f) compare_a compare_c), (7, v47)]) (fun ⟨v43, v45, v47, A52⟩ => fun w' => Sl A52 w' v43 s41.1 ∧ Sl A52 w' v45 s41.2.1 ∧ Hp B A52 w' (o_86 v47 s41.2.2 :: L) ∧ Tr Dw B A28 w21 A52 w') ?_ ?_
   ·have hr42 : Tr Dw B A28 w21 A28 w21 := Tr.refl (Dw := Dw) hA
    refine C_block (C_seq ?_)
    refine C_region_q (Dw := Dw) Tryz_mixed (by kernel_rfl) ?_
    refine Qm (Qm ?_)
    obtain ⟨x54, hx54, ho40⟩ := Bs ho40
    refine VQ_indexAddr h23 hx54 underlying81 sizeOf86 rfl rfl rfl ?_
    intro b55 o56 h57
    obtain ⟨v58, v60, h62, h59, h61⟩ := El_know_Posting h57
    refine Qv (fun w' hw' => Y_loadA (At.kp h62 hw' h57.2.1) isAgg86 sizeOf86 rfl) (Qm ?_)
    obtain ⟨x63, hx63, ho40⟩ := Bs ho40
    refine VQ_indexAddr h25 hx63 underlying81 sizeOf86 rfl rfl rfl ?_
    intro b64 o65 h66
    obtain ⟨v67, v69, h71, h68, h70⟩ := El_know_Posting h66
    refine Qv (fun w' hw' => Y_loadA (At.kp h71 hw' h66.2.1) isAgg86 sizeOf86 rfl) ?_
    obtain ⟨x72, hx72, ho40⟩ := Bs ho40
    refine VQ_call (Ii x72) compare_call rfl rfl rfl rfl (fun w' hw' => (compare_spec w' _ (Tr.trans hK (Kp.tr (Dw := Dw) hw' hA hB)) (fun b hb => hA b (Nat.le_trans hw'.size hb)) x54 v58 (Sl.kp h59 hw') v60 (Sl.kp h61 hw') x63 v67 (Sl.kp h68 hw') v69 (Sl.kp h70 hw') _ hx72).mono fun _ _ h => ⟨h.1, Kp.trans (Dw := Dw) hw' h.2⟩) ?_
    refine Qa ?_
    refine VQ_to (fun _ _ => rfl) (fun w73 hk74 => ?_)
    have ht75 := Kp.tr hk74 hA hB; replace hH := Hp.kp hH hk74; replace h23 := Sl.tr h23 ht75; replace h25 := Sl.tr h25 ht75; replace hr42 := Tt hr42 ht75; replace hB := Bx hB ht75; replace hA := ht75.new
    refine C_seq (Sr (Mm (Vy (Y_lss rfl rfl) (To ?_))))
    refine Cc (fun hc76 => ?_) fun hc76 => ?_
    ·rw [if_pos hc76] at ho40
     refine Sr (Mm (Mm ?_))
     refine V_indexAddr h23 hx54 underlying81 sizeOf86 rfl rfl rfl ?_
     intro b77 o78 h79
     obtain ⟨v80, v82, h84, h81, h83⟩ := El_know_Posting h79
     refine Vy (Y_loadA h84 isAgg86 sizeOf86 rfl) ?_
     refine V_buildSlice (Dw := Dw) (cells := #[Ii x54.id_, v80, v82]) (l := ([x54] : List know_Posting)) (len := 1) underlying81 sizeOf86 zeroValue86 rfl (by obtain ⟨a89, c90, e91, _⟩ := Sl.form h81; subst e91; obtain ⟨a92, c93, e94, _⟩ := Sl.form h83; subst e94; kernel_rfl) (show (1 * 3 : Nat) ≠ 0 by decide) (show (1 * 3 : Nat) ≤ 2 ^ 24 by decide) hA ⟨[Ii x54.id_, v80, v82], _, rfl, ⟨[Ii x54.id_], _, rfl, rfl, ⟨[v80], _, rfl, ⟨_, rfl, h81⟩, ⟨_, rfl, h83⟩⟩⟩, rfl⟩ rfl rfl ?_
     intro v85 w86 hk88 h87
     have ht95 := Kp.tr hk88 hA hB; replace hH := Hp.kp hH hk88; replace h23 := Sl.tr h23 ht95; replace h25 := Sl.tr h25 ht95; replace hr42 := Tt hr42 ht95; replace hB := Bx hB ht95; replace hA := ht95.new
     obtain ⟨x96, hx96, ho40⟩ := Bs ho40
     refine V_appendH (Dw := Dw) (e := 86) (v := v26) (l := s20.2.2) (ti := t86) (bytes := 56) (lim := 2513169434916) hH (i := 0) rfl h87 hx96 underlying81 Tryz_info86 rfl rfl rfl rfl (by decide) (by decide) (by decide) hB hA rfl rfl rfl ?_
     intro v97 w98 A99 hH100 ht101
     replace h23 := Sl.tr h23 ht101; replace h25 := Sl.tr h25 ht101; replace hr42 := Tt hr42 ht101
     replace hH : Hp _ _ _ (o_86 v97 x96 :: L) := hH100
     refine As (To ?_)
     refine Sr (Mm ?_)
     obtain ⟨x102, hx102, ho40⟩ := Bs ho40
     obtain ⟨v103, h104, h104y⟩ := sliceL_val hx102 h23
     refine Vy (Y_sliceLL h104y underlying81 sizeOf86 rfl rfl) (As (To ?_))
     obtain rfl := Oi ho40
     refine C_exit (fun a ha105 => ?_)
     exact ⟨(v103, v24, v97, A99), ha105.sb, ⟨h104, h25, hH, hr42⟩⟩
    rw [if_neg (nt hc76)] at ho40
    refine Sk ?_
    refine C_seq (Sr (Mm (Vy (Y_eql rfl rfl) (To ?_))))
    obtain ⟨s107, ho106, ho40⟩ := Bs ho40
    refine C_cutG (ι := Value) (fun (v109 : Value) => [(0, v109), (1, v24), (2, .func (.func compare_f) compare_a compare_c), (7, v26)]) (fun (v109 : Value) => fun w' => Sl A28 w' v109 s107 ∧ w73 = w') ?_ ?_
    ·refine Cc (fun hc114 => ?_) fun hc114 => ?_
     ·rw [if_pos hc114] at ho106
      refine C_region (Mm ?_)
      obtain ⟨x115, hx115, ho106⟩ := Bs ho106
      obtain ⟨v116, h117, h117y⟩ := sliceL_val hx115 h23
      refine Vy (Y_sliceLL h117y underlying81 sizeOf86 rfl rfl) (As ?_)
      obtain rfl := Oi ho106
      refine V_end (fun a ha118 => ?_)
      exact ⟨v116, ha118.sb, ⟨h117, rfl⟩⟩
     rw [if_neg (nt hc114)] at ho106
     obtain rfl := Oi ho106
     refine C_skip (fun a ha119 => ?_)
     exact ⟨v22, ha119.sb, ⟨h23, rfl⟩⟩
    rintro v109 _ ⟨h110, rfl⟩ a ha113
    refine C_at (n := ⟨52, [], none⟩) (fun _ _ => rfl) ?_ ha113
    refine Sr (Mm (Mm ?_))
    refine V_indexAddr h25 hx63 underlying81 sizeOf86 rfl rfl rfl ?_
    intro b120 o121 h122
    obtain ⟨v123, v125, h127, h124, h126⟩ := El_know_Posting h122
    refine Vy (Y_loadA h127 isAgg86 sizeOf86 rfl) ?_
    refine V_buildSlice (Dw := Dw) (cells := #[Ii x63.id_, v123, v125]) (l := ([x63] : List know_Posting)) (len := 1) underlying81 sizeOf86 zeroValue86 rfl (by obtain ⟨a132, c133, e134, _⟩ := Sl.form h124; subst e134; obtain ⟨a135, c136, e137, _⟩ := Sl.form h126; subst e137; kernel_rfl) (show (1 * 3 : Nat) ≠ 0 by decide) (show (1 * 3 : Nat) ≤ 2 ^ 24 by decide) hA ⟨[Ii x63.id_, v123, v125], _, rfl, ⟨[Ii x63.id_], _, rfl, rfl, ⟨[v123], _, rfl, ⟨_, rfl, h124⟩, ⟨_, rfl, h126⟩⟩⟩, rfl⟩ rfl rfl ?_
    intro v128 w129 hk131 h130
    have ht138 := Kp.tr hk131 hA hB; replace hH := Hp.kp hH hk131; replace h25 := Sl.tr h25 ht138; replace h110 := Sl.tr h110 ht138; replace hr42 := Tt hr42 ht138; replace hB := Bx hB ht138; replace hA := ht138.new
    obtain ⟨x139, hx139, ho40⟩ := Bs ho40
    refine V_appendH (Dw := Dw) (e := 86) (v := v26) (l := s20.2.2) (ti := t86) (bytes := 56) (lim := 2513169434916) hH (i := 0) rfl h130 hx139 underlying81 Tryz_info86 rfl rfl rfl rfl (by decide) (by decide) (by decide) hB hA rfl rfl rfl ?_
    intro v140 w141 A142 hH143 ht144
    replace h25 := Sl.tr h25 ht144; replace h110 := Sl.tr h110 ht144; replace hr42 := Tt hr42 ht144
    replace hH : Hp _ _ _ (o_86 v140 x139 :: L) := hH143
    refine As (To ?_)
    refine C_region (Mm ?_)
    obtain ⟨x145, hx145, ho40⟩ := Bs ho40
    obtain ⟨v146, h147, h147y⟩ := sliceL_val hx145 h25
    refine Vy (Y_sliceLL h147y underlying81 sizeOf86 rfl rfl) (As ?_)
    obtain rfl := Oi ho40
    refine V_end (fun a ha148 => ?_)
    exact ⟨(v109, v146, v140, A142), ha148.sb, ⟨h110, h147, hH, hr42⟩⟩
   rintro ⟨v43, v45, v47, A52⟩ w49 ⟨h44, h46, hH53, hk50⟩ a ha51
   replace hr7 := Tr.trans hr7 hk50; replace hA := hk50.new
   replace hH : Hp _ _ _ (o_86 v47 s41.2.2 :: L) := hH53
   obtain rfl := Oi h31
   exact ⟨(s41.1, s41.2.1, s41.2.2), h32, ⟨(v43, v45, v47, A52), ha51.sb, ⟨h44, h46, hH, hr7⟩⟩⟩
  rw [if_neg (nt hc39)] at h31
  obtain rfl := Oi h31
  refine C_exit (fun a ha150 => ?_)
  exact ⟨((s20.1, s20.2.1, s20.2.2), v22, v24, v26, A28), ha150.sb, ⟨h32.symm, h23, h25, hH, hr7⟩⟩
 rintro ⟨s6, v12, v14, v16, A18⟩ w9 ⟨rfl, h13, h15, hH19, hk10⟩ a ha11
 rw [Lp.andThen_fin] at hm
 replace hK := Tr.trans hK hk10; replace hB := Nat.le_trans hB hk10.ex.size; replace hA := hk10.new
 replace hH : Hp _ _ _ (o_86 v16 s6.2.2 :: L) := hH19
 refine C_at (n := ⟨52, [], none⟩) (fun _ _ => rfl) ?_ ha11
 refine Sr (Mm (Mm ?_))
 obtain ⟨x152, hx152, hm⟩ := Bs hm
 refine V_appendH (Dw := Dw) (e := 86) (v := v16) (l := s6.2.2) (ti := t86) (bytes := 56) (lim := 2513169434916) hH (i := 0) rfl h13 hx152 underlying81 Tryz_info86 rfl rfl rfl rfl (by decide) (by decide) (by decide) hB hA rfl rfl rfl ?_
 intro v153 w154 A155 hH156 ht157
 replace h15 := Sl.tr h15 ht157; replace hK := Tt hK ht157; replace hB := Bx hB ht157; replace hA := ht157.new
 replace hH : Hp _ _ _ (o_86 v153 x152 :: L) := hH156
 refine Mm ?_
 obtain ⟨x158, hx158, hm⟩ := Bs hm
 refine V_appendH (Dw := Dw) (e := 86) (v := v153) (l := x152) (ti := t86) (bytes := 56) (lim := 2513169434916) hH (i := 0) rfl h15 hx158 underlying81 Tryz_info86 rfl rfl rfl rfl (by decide) (by decide) (by decide) hB hA rfl rfl rfl ?_
 intro v159 w160 A161 hH162 ht163
 replace hK := Tt hK ht163
 replace hH : Hp _ _ _ (o_86 v159 x158 :: L) := hH162
 refine As (To ?_)
 obtain rfl := Oi hm
 refine Rt (Res.one results74 rfl) ?_
 exact ⟨v159, A161, rfl, hH, hK⟩
theorem cmp_Compare_int_c (w : World) (x : Int) (y : Int) : Ret prog 59 #[Ii x, Ii y] w fun v w' => v = Ii (cmp_Compare_int x y) ∧ w = w' := by
 generalize hm : cmp_Compare_int x y = r
 unfold cmp_Compare_int at hm
 refine enter func59 rfl ntmps59 rfl ?_
 refine Sr (As (To ?_))
 refine Sr (Mm ?_)
 refine Vc call94 (cmp_isNaN_int_c w x) ?_
 rintro _ _ ⟨rfl, rfl⟩
 refine As (To ?_)
 refine Sr (Mm ?_)
 refine Vc call94 (cmp_isNaN_int_c w y) ?_
 rintro _ _ ⟨rfl, rfl⟩
 refine As (To ?_)
 refine C_seq (Sr (Mm (To ?_)))
 refine Cc (fun hc1 => ?_) fun hc1 => ?_
 ·rw [if_pos hc1] at hm
  refine C_seq (Sr (Mm (To ?_)))
  refine Cc (fun hc2 => ?_) fun hc2 => ?_
  ·rw [if_pos hc2] at hm
   refine Sr (As (To ?_))
   obtain rfl := hm
   refine Rt (Res.one results59 rfl) ?_
   exact ⟨rfl, rfl⟩
  rw [if_neg (nt hc2)] at hm
  refine Sk ?_
  refine Sr (As (To ?_))
  obtain rfl := hm
  refine Rt (Res.one results59 rfl) ?_
  exact ⟨rfl, rfl⟩
 rw [if_neg (nt hc1)] at hm
 refine Sk ?_
 refine C_seq (Sr (Mm (To ?_)))
 refine Cc (fun hc3 => ?_) fun hc3 => ?_
 ·rw [if_pos hc3] at hm
  refine Sr (As (To ?_))
  obtain rfl := hm
  refine Rt (Res.one results59 rfl) ?_
  exact ⟨rfl, rfl⟩
 rw [if_neg (nt hc3)] at hm
 refine Sk ?_
 refine C_seq (Sr (Mm (Mm (Vy (Y_lss rfl rfl) (To ?_)))))
 refine Cc (fun hc4 => ?_) fun hc4 => ?_
 ·rw [if_pos hc4] at hm
  refine Sr (As (To ?_))
  obtain rfl := hm
  refine Rt (Res.one results59 rfl) ?_
  exact ⟨rfl, rfl⟩
 rw [if_neg (nt hc4)] at hm
 refine Sk ?_
 refine C_seq (Sr (Mm (Mm (Vy (Y_gtr rfl rfl) (To ?_)))))
 refine Cc (fun hc5 => ?_) fun hc5 => ?_
 ·rw [if_pos hc5] at hm
  refine Sr (As (To ?_))
  obtain rfl := hm
  refine Rt (Res.one results59 rfl) ?_
  exact ⟨rfl, rfl⟩
 rw [if_neg (nt hc5)] at hm
 refine Sk ?_
 refine Sr (As (To ?_))
 obtain rfl := hm
 refine Rt (Res.one results59 rfl) ?_
 exact ⟨rfl, rfl⟩
theorem know_byId_c (w : World) {A : Nat → Prop} (hA : ∀ b, w.heap.size ≤ b → A b) (a_ : know_Posting) (v_a_0 : Value) (h_a_0 : Sl A w v_a_0 a_.title) (v_a_1 : Value) (h_a_1 : Sl A w v_a_1 a_.body) (b : know_Posting) (v_b0 : Value) (h_b0 : Sl A w v_b0 b.title) (v_b1 : Value) (h_b1 : Sl A w v_b1 b.body) {r : Int} (hm : know_byId a_ b = some r) : Ret prog 75 #[.agg #[Ii a_.id_, v_a_0, v_a_1], .agg #[Ii b.id_, v_b0, v_b1]] w fun v w' => v = Ii r ∧ Kp Dw w w' := by
 unfold know_byId at hm
 refine enter func75 rfl ntmps75 rfl ?_
 have hA0 := hA
 obtain ⟨hB, hK, hH⟩ := St (Dw := Dw) hA
 refine Sr ?_
 refine V_box rfl rfl ?_
 intro b9 w10 h11
 have hk13 := h11.kp (Dw := Dw)
 have h12 : El (α := know_Posting) A w10 b9 0 a_ := h11.el hA ⟨[Ii a_.id_], _, rfl, rfl, ⟨[v_a_0], _, rfl, ⟨_, rfl, h_a_0⟩, ⟨_, rfl, h_a_1⟩⟩⟩
 have ht14 := Kp.tr hk13 hA hB; replace h_b0 := Sl.tr h_b0 ht14; replace h_b1 := Sl.tr h_b1 ht14; replace hK := Tt hK ht14; replace hB := Bx hB ht14; replace hA := ht14.new
 refine V_box rfl rfl ?_
 intro b15 w17 h18
 have hk20 := h18.kp (Dw := Dw)
 have h19 : El (α := know_Posting) A w17 b15 0 b := h18.el hA ⟨[Ii b.id_], _, rfl, rfl, ⟨[v_b0], _, rfl, ⟨_, rfl, h_b0⟩, ⟨_, rfl, h_b1⟩⟩⟩
 have ht21 := Kp.tr hk20 hA hB; replace h12 := El.tr h12 ht21; replace hK := Tt hK ht21
 refine As (To ?_)
 refine Sr ?_
 have h22 := El_know_Posting_0 h12
 refine Fa underlying86 rfl sizeOf3 (Li h22 isAgg3 ?_)
 have h23 := El_know_Posting_0 h19
 refine Fa underlying86 rfl sizeOf3 (Li h23 isAgg3 ?_)
 refine Vc call59 (cmp_Compare_int_c w17 a_.id_ b.id_) ?_
 rintro _ _ ⟨rfl, rfl⟩
 refine As (To ?_)
 obtain rfl := Oi hm
 refine Rt (Res.one results75 rfl) ?_
 exact ⟨rfl, hK.kp⟩
theorem Tryz_ovl90 : prog.funcs[90]? = some f90 := by kernel_rfl
theorem Tryz_ovln90 : Extern.findNext f90 = none := by kernel_rfl
theorem Tryz_ovlf90 : Extern.find f90 = some (Extern.SlicesOverlaps.overlaps #[23, 23] #[4]) := by kernel_rfl
theorem Tryz_ovlb90 : (f90.name == "runtime.NumGoroutine") = false ∧ f90.body.isNone = true := by constructor <;> kernel_rfl
theorem slices_Insert_Lint_int_c (w : World) {A : Nat → Prop} {B : Nat} {L : List Ob} {i : Nat} {v v_vs : Value} {l vs r : List Int} (k : Int) (hH : Hp B A w (o_3 v_vs vs :: L)) (hi : L[i]? = some (o_3 v l)) (hB : B ≤ w.heap.size) (hA : ∀ b, w.heap.size ≤ b → A b) (hr : slices_Insert_Lint_int l k vs = some r) :
  Ret prog 53 #[v, Ii k, v_vs] w fun u w' => ∃ v' A1, u = v' ∧ Hp B A1 w' (L.set i (o_3 v' r)) ∧ Tr Dw B A w A1 w' := by
 unfold slices_Insert_Lint_int at hr
 split at hr
 case isFalse => cases hr
 rename_i hcond
 obtain ⟨hk0, hkl, hne, hlim⟩ := hcond
 obtain rfl := Oi hr
 obtain ⟨i0, rfl⟩ : ∃ i0 : Nat, k = (i0 : Int) := ⟨k.toNat, by omega⟩
 rw [Int.toNat_natCast]
 have hil : i0 ≤ l.length := by omega
 have hm0 : 0 < vs.length := List.length_pos_iff.2 hne
 have hmax : l.length + vs.length ≤ maxLen := Nat.le_trans hlim (by decide)
 have hbytes : (l.length + vs.length) * 8 ≤ 140737488355328 := Nat.le_trans (Nat.mul_le_mul_right _ hlim) (by decide)
 have e1 : w64 ((l.length : Int) + (vs.length : Int)) = ((l.length + vs.length : Nat) : Int) := by rw [w64_id (by omega) (by omega)]; omega
 have e2 : w64 (((l.length + vs.length : Nat) : Int) - (i0 : Int)) = ((l.length + vs.length - i0 : Nat) : Int) := by rw [w64_id (by omega) (by omega)]; omega
 have e3 : w64 ((i0 : Int) + (vs.length : Int)) = ((i0 + vs.length : Nat) : Int) := by rw [w64_id (by omega) (by omega)]; omega
 have hiL : i < L.length := (List.getElem?_eq_some_iff.1 hi).1
 have hi1 : (o_3 v_vs vs :: L)[i + 1]? = some (o_3 v l) := by simpa using hi
 obtain ⟨a, cap, rfl, hlc, hlm⟩ := Hp.formS hH hi1
 obtain ⟨b, capv, _, hvv, _⟩ := Hp.openS hH (i := 0) rfl hne hA
 subst hvv
 refine enter func53 rfl ntmps53 rfl ?_
 refine Sr (As (To ?_))
 refine Sr (Mm (Mm (Vy (Y_sliceLL (sz := 1) (lo := (i0 : Int)) (k := .i64) ⟨a, l.length, cap, i0, l.length, rfl, rfl, rfl, hil, Nat.le_refl _, hlc, rfl⟩ underlying23 sizeOf3 rfl rfl) (To ?_))))
 refine Sr (Mm (Vy (Y_lenS (a := some ⟨b, 0, none⟩) (len := vs.length) (cap := capv) rfl underlying23 rfl) (As (To ?_))))
 refine C_seq (Sr (Mm (Vy (Y_eql rfl rfl) (To ?_))))
 refine Cc (fun hc => ?_) fun _ => ?_
 ·have : ((vs.length : Int) == 0) = true := hc
  rw [beq_iff_eq] at this
  omega
 refine Sk ?_
 refine Sr (Mm (Vy (Y_lenS (a := a) (len := l.length) (cap := cap) rfl underlying23 rfl) (As (To ?_))))
 refine C_seq (Sr (Mm (Mm (Vy (Y_eql rfl rfl) (To ?_)))))
 refine Cc (fun hc => ?_) fun hc => ?_
 ·have hil2 : i0 = l.length := by
   have : ((i0 : Int) == (l.length : Int)) = true := hc
   rw [beq_iff_eq] at this
   omega
  obtain ⟨A1, ht1, h_vs, hH1⟩ := Hp.freeze (Dw := Dw) hH (i := 0) rfl hA
  replace hH1 : Hp B A1 w L := hH1
  refine Sr (Mm (Mm ?_))
  refine V_appendH (Dw := Dw) (e := 3) (l := l) (m := vs) (r := l ++ vs) (ti := t3) (bytes := 8) (lim := 17592186044416) hH1 hi h_vs (by unfold appendL; rw [if_pos hlim]) underlying23 Tryz_info3 rfl rfl rfl rfl (by decide) (by decide) (by decide) hB ht1.new rfl rfl rfl ?_
  intro v2 w2 A2 hH2 ht2
  refine As (To ?_)
  refine C_ret ?_
  try simp only [↓ib, ↓th]
  refine retQ rfl (Res.one results53 rfl) ⟨v2, A2, rfl, ?_, ht1.trans ht2⟩
  rw [hil2, List.take_length, List.drop_length, List.append_nil]
  exact hH2
 have hil2 : i0 < l.length := by
  have : ((i0 : Int) == (l.length : Int)) = false := hc
  rw [beq_eq_false_iff_ne] at this
  omega
 have hlne : l ≠ [] := fun h => by rw [h] at hil2; cases hil2
 refine Sk ?_
 obtain ⟨g, cap', cur, hv, hH1, h5, h6, h7, h8⟩ := Hp.openS hH hi1 hlne hA
 simp only [Value.slice.injEq, true_and] at hv
 obtain ⟨rfl, rfl⟩ := hv
 have hbg := Hp.rowsApart hH hi1 (j := 0) rfl (Nat.succ_ne_zero i)
 obtain ⟨curv, hgv, hcv, hrv, hlv⟩ := Hp.rowAt hH (j := 0) rfl
 have hls := h8.len
 rw [List.length_take, show (GoT.cells Int) = 1 from rfl] at hls
 have hlsv := hrv.len
 rw [show (GoT.cells Int) = 1 from rfl] at h7 h8 hlsv hcv hrv
 have hcurl : cur.toList.length = cap * 1 := by rw [Array.length_toList]; exact h7
 replace hH1 : Hp B A w (o_3 (.slice (some ⟨b, 0, none⟩) vs.length capv) vs :: L.set i (obO g (.cells cur 3 (0, 0)))) := hH1
 have hgx : ∀ (X : Ob), (o_3 (.slice (some ⟨b, 0, none⟩) vs.length capv) vs :: L.set i X)[i + 1]? = some X := fun X => by simp [hiL]
 have htail : ((cur.toList.drop (i0 * 1)).take (l.length * 1 - i0 * 1)).length = (l.length - i0) * 1 := by
  rw [List.length_take, List.length_drop, hcurl, Nat.sub_mul]
  have : l.length * 1 ≤ cap * 1 := Nat.mul_le_mul_right _ h5
  omega
 have hone : ∀ u ∈ (cur.toList.drop (i0 * 1)).take (l.length * 1 - i0 * 1), u.oneCell' = true := fun u hu => by
  refine h8.one u ?_
  rw [← List.drop_take] at hu
  exact List.mem_of_mem_drop hu
 have hi6 : i0 * 1 ≤ l.length * 1 := Nat.mul_le_mul_right _ hil
 have hc6 : l.length * 1 ≤ cap * 1 := Nat.mul_le_mul_right _ h5
 refine C_seq (Sr (Mm (Mm (Vy (Y_addI rfl rfl) ?_))))
 rw [e1]
 refine Mm (Vy (Y_cap (a := some ⟨g, 0, none⟩) (len := l.length) (cap := cap) rfl underlying23 rfl) (Vy (Y_gtr rfl rfl) (To ?_)))
 refine Cc (fun hc2 => ?_) fun hc2 => ?_
 ·have hroom : cap < l.length + vs.length := by
   have : decide ((cap : Int) < ((l.length + vs.length : Nat) : Int)) = true := hc2
   have := of_decide_eq_true this
   omega
  have hsz : i0 + (l.length + vs.length - i0) = l.length + vs.length := by omega
  refine Sr (Mm (Mm ?_))
  refine Vy (Y_slHi (sz := 1) (g := g) (len := l.length) (cap := cap) (hi := i0) (k := .i64) (by omega) underlying23 sizeOf3 rfl rfl) (Mm (Mm (Vy (Y_addI rfl rfl) ?_)))
  rw [e1]
  refine Mm (Vy (Y_subI rfl rfl) ?_)
  rw [e2]
  refine V_appendZ (Dw := Dw) (g := g) (sLen := i0) (sCap := cap) (k := l.length + vs.length - i0) (size := 1) (bytes := 8) (ti := t3) (olds := cur.toList.take (i0 * 1)) hH1 underlying23 underlying3 Tryz_info3 rfl rfl rfl rfl (by decide) (by omega) (by omega) (by omega) (by rw [hsz]; exact hbytes) (by rw [List.length_take, hcurl]; omega) (fun j u hj => by
   rw [List.getElem?_take] at hj
   split at hj
   case isFalse => cases hj
   rw [Nat.zero_add]
   exact row_cell (Hp.objAt hH1 (hgx _)) hj) hB hA rfl rfl rfl ?_
  rw [hsz]
  intro g2 cap2 row w1 A1 hH2 ht1 hc2' hm2 hrs hrt
  have hrl : row.toList.length = cap2 * 1 := by rw [Array.length_toList]; exact hrs
  have hc26 : (l.length + vs.length) * 1 ≤ cap2 * 1 := Nat.mul_le_mul_right _ hc2'
  rw [Nat.add_mul] at hc26
  have hB1 := Bx hB ht1
  have hA1 := ht1.new
  refine As (To ?_)
  refine Sr (Mm (Mm ?_))
  refine Vy (Y_slLo (sz := 1) (g := g2) (o := 0) (len := l.length + vs.length) (cap := cap2) (lo := i0) (k := .i64) (by omega) (by omega) hc2' underlying23 sizeOf3 rfl rfl) (Mm ?_)
  obtain ⟨curw, hgw, hcw, hrw, _⟩ := Hp.rowAt hH2 (j := 1) rfl
  have hlsw := hrw.len
  rw [show (GoT.cells Int) = 1 from rfl] at hrw hlsw
  refine V_copyO (Dw := Dw) (g := g2) (o := 0 + i0 * 1) (N := vs.length) (size := 1) (a := ⟨b, 0, none⟩) (ii := t3) (cs := curw.toList.take (vs.length * 1)) hH2 (i := 0) rfl underlying23 Tryz_info3 rfl rfl rfl (Nat.min_eq_left (by omega)) hlsw (fun j u hj => by
   rw [List.getElem?_take] at hj
   split at hj
   case isFalse => cases hj
   rw [add_none, Nat.zero_add]
   exact row_cell hgw hj) (by rw [hlsw, ← Array.length_toList, hrl]; omega) hrw.one hB1 hA1 rfl ?_
  intro w2 hH3 ht2
  replace hH3 : Hp B A1 w2 (obO g2 (.cells (row.toList.take (0 + i0 * 1) ++ curw.toList.take (vs.length * 1) ++ row.toList.drop (0 + i0 * 1 + (curw.toList.take (vs.length * 1)).length)).toArray 3 (0, 0)) :: o_3 (.slice (some ⟨b, 0, none⟩) vs.length capv) vs :: L.set i (obO g (.cells cur 3 (0, 0)))) := hH3
  rw [hlsw, Nat.zero_add] at hH3
  have hB2 := Nat.le_trans hB1 ht2.ex.size
  have hA2 := ht2.new
  have hx1 := ins_grow (X := cur.toList) (R := row.toList) (p := i0 * 1) (q := vs.length * 1) (nn := l.length * 1) (ds := curw.toList.take (vs.length * 1)) (R1 := row.toList.take (i0 * 1) ++ curw.toList.take (vs.length * 1) ++ row.toList.drop (i0 * 1 + vs.length * 1)) hi6 (by omega) (by omega) hrt hlsw rfl
  generalize row.toList.take (i0 * 1) ++ curw.toList.take (vs.length * 1) ++ row.toList.drop (i0 * 1 + vs.length * 1) = R1 at hH3 hx1
  refine To ?_
  refine C_seq ?_
  refine C_region_qt (Dw := Dw) 8 Tryz_mixed (by kernel_rfl) ?_
  refine Qm (Qm (Qm (Qv (fun w' hw' => Y_addI rfl rfl) ?_)))
  rw [e3]
  refine Qv (fun w' hw' => Y_slLo (sz := 1) (g := g2) (o := 0) (len := l.length + vs.length) (cap := cap2) (lo := i0 + vs.length) (k := .i64) (by omega) (by omega) hc2' underlying23 sizeOf3 rfl rfl) (Qm (Qm ?_))
  refine Qv (fun w' hw' => Y_slLo (sz := 1) (g := g) (o := 0) (len := l.length) (cap := cap) (lo := i0) (k := .i64) (by omega) (by omega) h5 underlying23 sizeOf3 rfl rfl) ?_
  refine VQ_tail (fun w3 hk3 => ?_)
  have ht3 := Kp.tr hk3 hA2 hB2
  replace hH3 := Hp.kp (Dw := Dw) hH3 hk3
  have hB3 := Nat.le_trans hB2 ht3.ex.size
  have hA3 := ht3.new
  refine V_copyO (Dw := Dw) (g := g2) (o := 0 + (i0 + vs.length) * 1) (N := l.length - i0) (size := 1) (a := ⟨g, 0 + i0 * 1, none⟩) (ii := t3) (cs := (cur.toList.drop (i0 * 1)).take (l.length * 1 - i0 * 1)) hH3 (i := 0) rfl underlying23 Tryz_info3 rfl rfl rfl (by rw [show l.length + vs.length - (i0 + vs.length) = l.length - i0 by omega]; exact Nat.min_eq_left (Nat.le_refl _)) htail (fun j u hj => by
   rw [List.getElem?_take] at hj
   split at hj
   case isFalse => cases hj
   rw [List.getElem?_drop] at hj
   rw [add_none, Nat.zero_add]
   exact row_cell (Hp.objAt hH3 (i := i + 2) (g := g) (o := .cells cur 3 (0, 0)) (by simp [hiL])) hj) (by rw [htail, ← Array.length_toList, List.toList_toArray, hx1.2, hrl, Nat.add_mul, Nat.sub_mul]; omega) hone hB3 hA3 rfl ?_
  intro w4 hH4 ht4
  rw [Nat.zero_add, List.toList_toArray, Nat.add_mul] at hH4
  replace hH4 : Hp B A1 w4 (obO g2 (.cells (R1.take (i0 * 1 + vs.length * 1) ++ (cur.toList.drop (i0 * 1)).take (l.length * 1 - i0 * 1) ++ R1.drop (i0 * 1 + vs.length * 1 + ((cur.toList.drop (i0 * 1)).take (l.length * 1 - i0 * 1)).length)).toArray 3 (0, 0)) :: o_3 (.slice (some ⟨b, 0, none⟩) vs.length capv) vs :: L.set i (obO g (.cells cur 3 (0, 0)))) := hH4
  have hA4 := ht4.new
  have htAll := ((ht1.trans ht2).trans ht3).trans ht4
  have hrep := rows_insert (i0 := i0) (h8.keep htAll.ex) (hrw.keep ((ht2.trans ht3).trans ht4).ex)
  rw [show (GoT.cells Int) = 1 from rfl, ← hx1.1] at hrep
  have hlr : (l.take i0 ++ vs ++ l.drop i0).length = l.length + vs.length := by simp only [List.length_append, List.length_take, List.length_drop]; omega
  have hH5 := Hp.closeS (α := Int) (e := 3) (l := l.take i0 ++ vs ++ l.drop i0) (cap := cap2) hH4 (i := 0) rfl hA4 (by rw [hlr]; exact hc2') hm2 (by
   rw [← Array.length_toList, List.toList_toArray, List.length_append, List.length_append, List.length_take, List.length_drop, htail, hx1.2, hrl, show (GoT.cells Int) = 1 from rfl, Nat.sub_mul]
   omega) (by rw [hlr, List.toList_toArray, show (GoT.cells Int) = 1 from rfl, Nat.add_mul]; exact hrep)
  rw [hlr] at hH5
  have hH6 := (Hp.drop hH5 (i := 1) rfl).takes hiL
  refine To ?_
  refine Sr (Mm (As (To ?_)))
  refine Rt (Res.one results53 rfl) ?_
  exact ⟨_, A1, rfl, hH6, htAll⟩
 have hroom : l.length + vs.length ≤ cap := by
  have : decide ((cap : Int) < ((l.length + vs.length : Nat) : Int)) = false := hc2
  have := of_decide_eq_false this
  omega
 have hr6 : (l.length + vs.length) * 1 ≤ cap * 1 := Nat.mul_le_mul_right _ hroom
 rw [Nat.add_mul] at hr6
 have hx1 := fun (ds : List Value) (hd : ds.length = vs.length * 1) => ins_place (X := cur.toList) (p := i0 * 1) (q := vs.length * 1) (nn := l.length * 1) (ds := ds) (X1 := cur.toList.take (i0 * 1 + vs.length * 1) ++ (cur.toList.drop (i0 * 1)).take (l.length * 1 - i0 * 1) ++ cur.toList.drop (i0 * 1 + vs.length * 1 + ((cur.toList.drop (i0 * 1)).take (l.length * 1 - i0 * 1)).length)) hi6 (by omega) hd rfl
 refine Sk ?_
 refine Sr (Mm (Mm (Mm (Vy (Y_addI rfl rfl) ?_))))
 rw [e1]
 refine Vy (Y_slHi (sz := 1) (g := g) (len := l.length) (cap := cap) (hi := l.length + vs.length) (k := .i64) hroom underlying23 sizeOf3 rfl rfl) (As (To ?_))
 refine C_seq (Sr (Mm (Mm (Mm (Mm (Vy (Y_addI rfl rfl) ?_))))))
 rw [e3]
 refine Vy (Y_slLo (sz := 1) (g := g) (o := 0) (len := l.length + vs.length) (cap := cap) (lo := i0 + vs.length) (k := .i64) (by omega) (by omega) hroom underlying23 sizeOf3 rfl rfl) ?_
 refine Vy (Y_ext Tryz_ovl90 Tryz_ovlb90.1 Tryz_ovlb90.2 Tryz_ovln90 Tryz_ovlf90 rfl rfl (Go.Lib.run_overlaps_apart w 23 4 3 underlying23 1 sizeOf3 ⟨b, 0, none⟩ ⟨g, 0 + (i0 + vs.length) * 1, none⟩ vs.length capv (l.length + vs.length - (i0 + vs.length)) (cap - (i0 + vs.length)) hbg 3 3 (capv * 1) (cap * 1) (by simp [World.shape?, hgv, hcv]) (by simp [World.shape?, Hp.objAt hH1 (hgx _), h7]) (by omega) (by simp [World.frozen?, hgv]) (by simp [World.frozen?, hgv]))) (Vy (Y_not rfl) (To ?_))
 refine C_true rfl ?_
 refine C_seq ?_
 refine C_region_qt (Dw := Dw) 8 Tryz_mixed (by kernel_rfl) ?_
 refine Qm (Qm (Qm (Qv (fun w' hw' => Y_addI rfl rfl) ?_)))
 rw [e3]
 refine Qv (fun w' hw' => Y_slLo (sz := 1) (g := g) (o := 0) (len := l.length + vs.length) (cap := cap) (lo := i0 + vs.length) (k := .i64) (by omega) (by omega) hroom underlying23 sizeOf3 rfl rfl) (Qm (Qm ?_))
 refine Qv (fun w' hw' => Y_slLo (sz := 1) (g := g) (o := 0) (len := l.length + vs.length) (cap := cap) (lo := i0) (k := .i64) (by omega) (by omega) hroom underlying23 sizeOf3 rfl rfl) ?_
 refine VQ_tail (fun w1 hk1 => ?_)
 have ht1 := Kp.tr hk1 hA hB
 replace hH1 := Hp.kp (Dw := Dw) hH1 hk1
 have hB1 := Bx hB ht1
 have hA1 := ht1.new
 refine V_copyO (Dw := Dw) (g := g) (o := 0 + (i0 + vs.length) * 1) (N := l.length - i0) (size := 1) (a := ⟨g, 0 + i0 * 1, none⟩) (ii := t3) (cs := (cur.toList.drop (i0 * 1)).take (l.length * 1 - i0 * 1)) hH1 (i := i + 1) (hgx _) underlying23 Tryz_info3 rfl rfl rfl (by rw [show l.length + vs.length - (i0 + vs.length) = l.length - i0 by omega]; exact Nat.min_eq_right (by omega)) htail (fun j u hj => by
  rw [List.getElem?_take] at hj
  split at hj
  case isFalse => cases hj
  rw [List.getElem?_drop] at hj
  rw [add_none, Nat.zero_add]
  exact row_cell (Hp.objAt hH1 (hgx _)) hj) (by rw [htail, ← Array.length_toList, hcurl, Nat.add_mul, Nat.sub_mul]; omega) hone hB1 hA1 rfl ?_
 intro w2 hH2 ht2
 rw [Nat.zero_add, Nat.add_mul, List.set_cons_succ, List.set_set] at hH2
 generalize cur.toList.take (i0 * 1 + vs.length * 1) ++ (cur.toList.drop (i0 * 1)).take (l.length * 1 - i0 * 1) ++ cur.toList.drop (i0 * 1 + vs.length * 1 + ((cur.toList.drop (i0 * 1)).take (l.length * 1 - i0 * 1)).length) = X1 at hH2 hx1
 have hB2 := Nat.le_trans hB1 ht2.ex.size
 have hA2 := ht2.new
 refine To ?_
 refine Sr (Mm (Mm ?_))
 refine Vy (Y_slLo (sz := 1) (g := g) (o := 0) (len := l.length + vs.length) (cap := cap) (lo := i0) (k := .i64) (by omega) (by omega) hroom underlying23 sizeOf3 rfl rfl) (Mm ?_)
 obtain ⟨curw, hgw, hcw, hrw, _⟩ := Hp.rowAt hH2 (j := 0) rfl
 have hlsw := hrw.len
 rw [show (GoT.cells Int) = 1 from rfl] at hrw hlsw
 replace hx1 := hx1 _ hlsw
 refine V_copyO (Dw := Dw) (g := g) (o := 0 + i0 * 1) (N := vs.length) (size := 1) (a := ⟨b, 0, none⟩) (ii := t3) (cs := curw.toList.take (vs.length * 1)) hH2 (i := i + 1) (hgx _) underlying23 Tryz_info3 rfl rfl rfl (Nat.min_eq_left (by omega)) hlsw (fun j u hj => by
  rw [List.getElem?_take] at hj
  split at hj
  case isFalse => cases hj
  rw [add_none, Nat.zero_add]
  exact row_cell hgw hj) (by rw [hlsw, ← Array.length_toList, List.toList_toArray, hx1.2, hcurl]; omega) hrw.one hB2 hA2 rfl ?_
 intro w3 hH3 ht3
 rw [hlsw, Nat.zero_add, List.toList_toArray, List.set_cons_succ, List.set_set] at hH3
 have hA3 := ht3.new
 have htAll := (ht1.trans ht2).trans ht3
 have hrep := rows_insert (i0 := i0) (h8.keep htAll.ex) (hrw.keep ht3.ex)
 rw [show (GoT.cells Int) = 1 from rfl, ← hx1.1] at hrep
 have hlr : (l.take i0 ++ vs ++ l.drop i0).length = l.length + vs.length := by simp only [List.length_append, List.length_take, List.length_drop]; omega
 have hH5 := Hp.closeS (α := Int) (e := 3) (l := l.take i0 ++ vs ++ l.drop i0) (cap := cap) hH3 (i := i + 1) (hgx _) hA3 (by rw [hlr]; exact hroom) h6 (by
  rw [← Array.length_toList, List.toList_toArray, List.length_append, List.length_append, List.length_take, List.length_drop, hlsw, hx1.2, hcurl, show (GoT.cells Int) = 1 from rfl]
  omega) (by rw [hlr, List.toList_toArray, show (GoT.cells Int) = 1 from rfl, Nat.add_mul]; exact hrep)
 rw [hlr, List.set_cons_succ, List.set_set] at hH5
 have hH6 := Hp.drop hH5 (i := 0) rfl
 refine To ?_
 refine Sr (Mm (As (To ?_)))
 refine Rt (Res.one results53 rfl) ?_
 exact ⟨_, A, rfl, hH6, htAll⟩
theorem know_merged_know_Term_c (w : World) {A : Nat → Prop} {B : Nat} (hB : B ≤ w.heap.size) (hA : ∀ b, w.heap.size ≤ b → A b) (a_ : (List know_Term)) (v_a_ : Value) (h_a_ : Sl A w v_a_ a_) (b : (List know_Term)) (v_b : Value) (h_b : Sl A w v_b b) (compare : know_Term → know_Term → Option Int) (compare_f : FuncId) (compare_a compare_c : Array Value) (compare_call : ∀ (args : Array Value) (w : World), (callFunc compare_f args).run prog w = .ok (.enter compare_f args) w) (compare_spec : ∀ (w1 : World) (A1 : Nat → Prop), Tr Dw B A w A1 w1 → (∀ b, w1.heap.size ≤ b → A1 b) → ∀ (y0 : know_Term) (v1 : Value) (h2 : Sl A1 w1 v1 y0.list_) (y1 : know_Term) (v3 : Value) (h4 : Sl A1 w1 v3 y1.list_) (r : Int), compare y0 y1 = some r → Ret prog compare_f (compare_a ++ #[.agg #[.string y0.word, v1], .agg #[.string y1.word, v3]] ++ compare_c) w1 fun v w' => v = Ii r ∧ Kp Dw w1 w') {L : List Ob} (hH : Hp B A w (L)) {r : (List know_Term)} (hm : know_merged_know_Term a_ b compare = some r) : Ret prog 77 #[v_a_, v_b, .func (.func compare_f) compare_a compare_c] w fun v w' => ∃ s0, ∃ A1 : Nat → Prop, v = s0 ∧ Hp B A1 w' (o_83 s0 r :: L) ∧ Tr Dw B A w A1 w' := by
 unfold know_merged_know_Term at hm
 refine enter func77 rfl ntmps77 rfl ?_
 have hK : Tr Dw B A w A w := Tr.refl (Dw := Dw) hA
 refine Sr (As (To ?_))
 refine Sr (As (To ?_))
 refine C_seq ?_
 replace hH : Hp B A w (o_83 (.slice none 0 0) ([] : (List know_Term)) :: L) := Hp.addNil (α := know_Term) (e := 83) hH
 obtain ⟨o5, ho5, hm⟩ := Bs hm
 refine C_cutG (ι := (((List know_Term) × (List know_Term) × (List know_Term)) × Value × Value × Value × (Nat → Prop))) (fun ⟨s6, v12, v14, v16, A18⟩ => [(0, v12), (1, v14), (7, v16)]) (fun ⟨s6, v12, v14, v16, A18⟩ => fun w' => o5 = .fin s6 ∧ Sl A18 w' v12 s6.1 ∧ Sl A18 w' v14 s6.2.1 ∧ Hp B A18 w' (o_83 v16 s6.2.2 :: L) ∧ Tr Dw B A w A18 w') ?_ ?_
 ·refine C_block ?_
  refine C_while ho5 (fun s20 a w' => ∃ i : (Value × Value × Value × (Nat → Prop)), Has ⟨52, [], none⟩ a ([(0, i.1), (1, i.2.1), (2, .func (.func compare_f) compare_a compare_c), (7, i.2.2.1)]) ∧ Sl i.2.2.2 w' i.1 s20.1 ∧ Sl i.2.2.2 w' i.2.1 s20.2.1 ∧ Hp B i.2.2.2 w' (o_83 i.2.2.1 s20.2.2 :: L) ∧ Tr Dw B A w i.2.2.2 w') (fun a ha => ⟨(v_a_, v_b, .slice none 0 0, A), ha.sb, ⟨h_a_, h_b, hH, Tr.refl (Dw := Dw) hA⟩⟩) ?_
  rintro K s20 a w21 ⟨⟨v22, v24, v26, A28⟩, ha137, h23, h25, hH29, hr7⟩ K36
  refine C_of ?_ ha137
  replace hK := Tt hK hr7; replace hB := Bx hB hr7; replace hA := hr7.new
  replace hH : Hp _ _ _ (o_83 v26 s20.2.2 :: L) := hH29
  obtain ⟨x30, h31, h32⟩ := K36
  refine C_seq (Sr (Mm (Vy (Y_lenSl h23 rfl underlying24 rfl) (Vy (Y_gtr rfl rfl) (Mm ?_)))))
  refine V_cut 4 (fun _ : Unit => [(0, v22), (1, v24), (2, .func (.func compare_f) compare_a compare_c), (7, v26), (16, .bool ((decide ((0 : Int) < (s20.1.length : Int))) && (decide ((0 : Int) < (s20.2.1.length : Int)))))]) (fun _ w' => w21 = w') ?_ ?_
  ·simp only [List.take, List.drop]
   rcases Be (decide ((0 : Int) < (s20.1.length : Int))) with hc37 | hc37
   ·refine Gf hc37 (Mm (Gf hc37 (Vy (Y_lenSl h25 rfl underlying24 rfl) (Gf hc37 (Vy (Y_gtr rfl rfl) (Vy (Y_pick_te rfl hc37 rfl) ?_))))))
    exact V_end fun a ha => ⟨(), ha.sub ⟨rfl, rfl, rfl, rfl, (by rw [hc37]; rfl), trivial⟩, rfl⟩
   refine Gm hc37 (Gm hc37 (Gm hc37 (Vy (Y_pick_fe rfl hc37 rfl) ?_)))
   exact V_end fun a ha => ⟨(), ha.sub ⟨rfl, rfl, rfl, rfl, (by rw [hc37]; rfl), trivial⟩, rfl⟩
  simp only [List.take, List.drop]
  rintro _ _ rfl
  refine To ?_
  refine Cc (fun hc39 => ?_) fun hc39 => ?_
  ·rw [if_pos hc39] at h31
   refine Sk ?_
   obtain ⟨s41, ho40, h31⟩ := Bs h31
   refine C_cutG (ι := (Value × Value × Value × (Nat → Prop))) (fun ⟨v43, v45, v47, A52⟩ => [(0, v43), (1, v45), (2, .func (.func compare_f) compare_a compare_c), (7, v47)]) (fun ⟨v43, v45, v47, A52⟩ => fun w' => Sl A52 w' v43 s41.1 ∧ Sl A52 w' v45 s41.2.1 ∧ Hp B A52 w' (o_83 v47 s41.2.2 :: L) ∧ Tr Dw B A28 w21 A52 w') ?_ ?_
   ·have hr42 : Tr Dw B A28 w21 A28 w21 := Tr.refl (Dw := Dw) hA
    refine C_block (C_seq ?_)
    refine C_region_q (Dw := Dw) Tryz_mixed (by kernel_rfl) ?_
    refine Qm (Qm ?_)
    obtain ⟨x54, hx54, ho40⟩ := Bs ho40
    refine VQ_indexAddr h23 hx54 underlying24 sizeOf83 rfl rfl rfl ?_
    intro b55 o56 h57
    obtain ⟨v58, h60, h59⟩ := El_know_Term h57
    refine Qv (fun w' hw' => Y_loadA (At.kp h60 hw' h57.2.1) isAgg83 sizeOf83 rfl) (Qm ?_)
    obtain ⟨x61, hx61, ho40⟩ := Bs ho40
    refine VQ_indexAddr h25 hx61 underlying24 sizeOf83 rfl rfl rfl ?_
    intro b62 o63 h64
    obtain ⟨v65, h67, h66⟩ := El_know_Term h64
    refine Qv (fun w' hw' => Y_loadA (At.kp h67 hw' h64.2.1) isAgg83 sizeOf83 rfl) ?_
    obtain ⟨x68, hx68, ho40⟩ := Bs ho40
    refine VQ_call (Ii x68) compare_call rfl rfl rfl rfl (fun w' hw' => (compare_spec w' _ (Tr.trans hK (Kp.tr (Dw := Dw) hw' hA hB)) (fun b hb => hA b (Nat.le_trans hw'.size hb)) x54 v58 (Sl.kp h59 hw') x61 v65 (Sl.kp h66 hw') _ hx68).mono fun _ _ h => ⟨h.1, Kp.trans (Dw := Dw) hw' h.2⟩) ?_
    refine Qa ?_
    refine VQ_to (fun _ _ => rfl) (fun w69 hk70 => ?_)
    have ht71 := Kp.tr hk70 hA hB; replace hH := Hp.kp hH hk70; replace h23 := Sl.tr h23 ht71; replace h25 := Sl.tr h25 ht71; replace hr42 := Tt hr42 ht71; replace hB := Bx hB ht71; replace hA := ht71.new
    refine C_seq (Sr (Mm (Vy (Y_lss rfl rfl) (To ?_))))
    refine Cc (fun hc72 => ?_) fun hc72 => ?_
    ·rw [if_pos hc72] at ho40
     refine Sr (Mm (Mm ?_))
     refine V_indexAddr h23 hx54 underlying24 sizeOf83 rfl rfl rfl ?_
     intro b73 o74 h75
     obtain ⟨v76, h78, h77⟩ := El_know_Term h75
     refine Vy (Y_loadA h78 isAgg83 sizeOf83 rfl) ?_
     refine V_buildSlice (Dw := Dw) (cells := #[.string x54.word, v76]) (l := ([x54] : List know_Term)) (len := 1) underlying24 sizeOf83 zeroValue83 rfl (by obtain ⟨a83, c84, e85, _⟩ := Sl.form h77; subst e85; kernel_rfl) (show (1 * 2 : Nat) ≠ 0 by decide) (show (1 * 2 : Nat) ≤ 2 ^ 24 by decide) hA ⟨[.string x54.word, v76], _, rfl, ⟨[.string x54.word], _, rfl, rfl, ⟨_, rfl, h77⟩⟩, rfl⟩ rfl rfl ?_
     intro v79 w80 hk82 h81
     have ht86 := Kp.tr hk82 hA hB; replace hH := Hp.kp hH hk82; replace h23 := Sl.tr h23 ht86; replace h25 := Sl.tr h25 ht86; replace hr42 := Tt hr42 ht86; replace hB := Bx hB ht86; replace hA := ht86.new
     obtain ⟨x87, hx87, ho40⟩ := Bs ho40
     refine V_appendH (Dw := Dw) (e := 83) (v := v26) (l := s20.2.2) (ti := t83) (bytes := 40) (lim := 3518437208883) hH (i := 0) rfl h81 hx87 underlying24 Tryz_info83 rfl rfl rfl rfl (by decide) (by decide) (by decide) hB hA rfl rfl rfl ?_
     intro v88 w89 A90 hH91 ht92
     replace h23 := Sl.tr h23 ht92; replace h25 := Sl.tr h25 ht92; replace hr42 := Tt hr42 ht92
     replace hH : Hp _ _ _ (o_83 v88 x87 :: L) := hH91
     refine As (To ?_)
     refine Sr (Mm ?_)
     obtain ⟨x93, hx93, ho40⟩ := Bs ho40
     obtain ⟨v94, h95, h95y⟩ := sliceL_val hx93 h23
     refine Vy (Y_sliceLL h95y underlying24 sizeOf83 rfl rfl) (As (To ?_))
     obtain rfl := Oi ho40
     refine C_exit (fun a ha96 => ?_)
     exact ⟨(v94, v24, v88, A90), ha96.sb, ⟨h95, h25, hH, hr42⟩⟩
    rw [if_neg (nt hc72)] at ho40
    refine Sk ?_
    refine C_seq (Sr (Mm (Vy (Y_eql rfl rfl) (To ?_))))
    obtain ⟨s98, ho97, ho40⟩ := Bs ho40
    refine C_cutG (ι := Value) (fun (v100 : Value) => [(0, v100), (1, v24), (2, .func (.func compare_f) compare_a compare_c), (7, v26)]) (fun (v100 : Value) => fun w' => Sl A28 w' v100 s98 ∧ w69 = w') ?_ ?_
    ·refine Cc (fun hc105 => ?_) fun hc105 => ?_
     ·rw [if_pos hc105] at ho97
      refine C_region (Mm ?_)
      obtain ⟨x106, hx106, ho97⟩ := Bs ho97
      obtain ⟨v107, h108, h108y⟩ := sliceL_val hx106 h23
      refine Vy (Y_sliceLL h108y underlying24 sizeOf83 rfl rfl) (As ?_)
      obtain rfl := Oi ho97
      refine V_end (fun a ha109 => ?_)
      exact ⟨v107, ha109.sb, ⟨h108, rfl⟩⟩
     rw [if_neg (nt hc105)] at ho97
     obtain rfl := Oi ho97
     refine C_skip (fun a ha110 => ?_)
     exact ⟨v22, ha110.sb, ⟨h23, rfl⟩⟩
    rintro v100 _ ⟨h101, rfl⟩ a ha104
    refine C_at (n := ⟨52, [], none⟩) (fun _ _ => rfl) ?_ ha104
    refine Sr (Mm (Mm ?_))
    refine V_indexAddr h25 hx61 underlying24 sizeOf83 rfl rfl rfl ?_
    intro b111 o112 h113
    obtain ⟨v114, h116, h115⟩ := El_know_Term h113
    refine Vy (Y_loadA h116 isAgg83 sizeOf83 rfl) ?_
    refine V_buildSlice (Dw := Dw) (cells := #[.string x61.word, v114]) (l := ([x61] : List know_Term)) (len := 1) underlying24 sizeOf83 zeroValue83 rfl (by obtain ⟨a121, c122, e123, _⟩ := Sl.form h115; subst e123; kernel_rfl) (show (1 * 2 : Nat) ≠ 0 by decide) (show (1 * 2 : Nat) ≤ 2 ^ 24 by decide) hA ⟨[.string x61.word, v114], _, rfl, ⟨[.string x61.word], _, rfl, rfl, ⟨_, rfl, h115⟩⟩, rfl⟩ rfl rfl ?_
    intro v117 w118 hk120 h119
    have ht124 := Kp.tr hk120 hA hB; replace hH := Hp.kp hH hk120; replace h25 := Sl.tr h25 ht124; replace h101 := Sl.tr h101 ht124; replace hr42 := Tt hr42 ht124; replace hB := Bx hB ht124; replace hA := ht124.new
    obtain ⟨x125, hx125, ho40⟩ := Bs ho40
    refine V_appendH (Dw := Dw) (e := 83) (v := v26) (l := s20.2.2) (ti := t83) (bytes := 40) (lim := 3518437208883) hH (i := 0) rfl h119 hx125 underlying24 Tryz_info83 rfl rfl rfl rfl (by decide) (by decide) (by decide) hB hA rfl rfl rfl ?_
    intro v126 w127 A128 hH129 ht130
    replace h25 := Sl.tr h25 ht130; replace h101 := Sl.tr h101 ht130; replace hr42 := Tt hr42 ht130
    replace hH : Hp _ _ _ (o_83 v126 x125 :: L) := hH129
    refine As (To ?_)
    refine C_region (Mm ?_)
    obtain ⟨x131, hx131, ho40⟩ := Bs ho40
    obtain ⟨v132, h133, h133y⟩ := sliceL_val hx131 h25
    refine Vy (Y_sliceLL h133y underlying24 sizeOf83 rfl rfl) (As ?_)
    obtain rfl := Oi ho40
    refine V_end (fun a ha134 => ?_)
    exact ⟨(v100, v132, v126, A128), ha134.sb, ⟨h101, h133, hH, hr42⟩⟩
   rintro ⟨v43, v45, v47, A52⟩ w49 ⟨h44, h46, hH53, hk50⟩ a ha51
   replace hr7 := Tr.trans hr7 hk50; replace hA := hk50.new
   replace hH : Hp _ _ _ (o_83 v47 s41.2.2 :: L) := hH53
   obtain rfl := Oi h31
   exact ⟨(s41.1, s41.2.1, s41.2.2), h32, ⟨(v43, v45, v47, A52), ha51.sb, ⟨h44, h46, hH, hr7⟩⟩⟩
  rw [if_neg (nt hc39)] at h31
  obtain rfl := Oi h31
  refine C_exit (fun a ha136 => ?_)
  exact ⟨((s20.1, s20.2.1, s20.2.2), v22, v24, v26, A28), ha136.sb, ⟨h32.symm, h23, h25, hH, hr7⟩⟩
 rintro ⟨s6, v12, v14, v16, A18⟩ w9 ⟨rfl, h13, h15, hH19, hk10⟩ a ha11
 rw [Lp.andThen_fin] at hm
 replace hK := Tr.trans hK hk10; replace hB := Nat.le_trans hB hk10.ex.size; replace hA := hk10.new
 replace hH : Hp _ _ _ (o_83 v16 s6.2.2 :: L) := hH19
 refine C_at (n := ⟨52, [], none⟩) (fun _ _ => rfl) ?_ ha11
 refine Sr (Mm (Mm ?_))
 obtain ⟨x138, hx138, hm⟩ := Bs hm
 refine V_appendH (Dw := Dw) (e := 83) (v := v16) (l := s6.2.2) (ti := t83) (bytes := 40) (lim := 3518437208883) hH (i := 0) rfl h13 hx138 underlying24 Tryz_info83 rfl rfl rfl rfl (by decide) (by decide) (by decide) hB hA rfl rfl rfl ?_
 intro v139 w140 A141 hH142 ht143
 replace h15 := Sl.tr h15 ht143; replace hK := Tt hK ht143; replace hB := Bx hB ht143; replace hA := ht143.new
 replace hH : Hp _ _ _ (o_83 v139 x138 :: L) := hH142
 refine Mm ?_
 obtain ⟨x144, hx144, hm⟩ := Bs hm
 refine V_appendH (Dw := Dw) (e := 83) (v := v139) (l := x138) (ti := t83) (bytes := 40) (lim := 3518437208883) hH (i := 0) rfl h15 hx144 underlying24 Tryz_info83 rfl rfl rfl rfl (by decide) (by decide) (by decide) hB hA rfl rfl rfl ?_
 intro v145 w146 A147 hH148 ht149
 replace hK := Tt hK ht149
 replace hH : Hp _ _ _ (o_83 v145 x144 :: L) := hH148
 refine As (To ?_)
 obtain rfl := Oi hm
 refine Rt (Res.one results77 rfl) ?_
 exact ⟨v145, A147, rfl, hH, hK⟩
theorem know_Index_with_c (w : World) {A : Nat → Prop} (hA : ∀ b, w.heap.size ≤ b → A b) (x : know_Index) (v_x0 : Value) (h_x0 : Sl A w v_x0 x.ids) (v_x1 : Value) (h_x1 : Sl A w v_x1 x.sizes) (v_x2 : Value) (h_x2 : Sl A w v_x2 x.terms) (v : know_Entry) {r : know_Index} (hm : know_Index_with x v = some r) : Ret prog 15 #[.agg #[v_x0, v_x1, v_x2], .agg #[Ii v.id_, .string v.title, .string v.body]] w fun v w' => ∃ s0 s1 s2, v = .agg #[s0, s1, s2] ∧ Sl A w' s0 r.ids ∧ Sl A w' s1 r.sizes ∧ Sl A w' s2 r.terms ∧ Kp Dw w w' := by
 unfold know_Index_with at hm
 refine enter func15 rfl ntmps15 rfl ?_
 have hA0 := hA
 obtain ⟨hB, hK, hH⟩ := St (Dw := Dw) hA
 refine Sr ?_
 refine V_boxH (Dw := Dw) (B := w.heap.size) hH rfl hB hA rfl ?_
 intro b7 w9 A10 hH11 ht12
 replace h_x0 := Sl.tr h_x0 ht12; replace h_x1 := Sl.tr h_x1 ht12; replace h_x2 := Sl.tr h_x2 ht12; replace hK := Tt hK ht12; replace hB := Bx hB ht12; replace hA := ht12.new
 replace hH : Hp _ _ _ (obC b7 [v_x0, v_x1, v_x2] 26 :: []) := hH11
 refine V_box rfl rfl ?_
 intro b13 w14 h15
 have hk17 := h15.kp (Dw := Dw)
 have h16 : El (α := know_Entry) A10 w14 b13 0 v := h15.el hA ⟨[Ii v.id_], _, rfl, rfl, ⟨[.string v.title], _, rfl, rfl, rfl⟩⟩
 have ht18 := Kp.tr hk17 hA hB; replace hH := Hp.kp hH hk17; replace h_x0 := Sl.tr h_x0 ht18; replace h_x1 := Sl.tr h_x1 ht18; replace h_x2 := Sl.tr h_x2 ht18; replace hK := Tt hK ht18; replace hB := Bx hB ht18; replace hA := ht18.new
 refine V_allocH (Dw := Dw) (B := w.heap.size) hH zeroValue26 hB hA rfl ?_
 intro b19 w20 A21 hH22 ht23
 replace h_x0 := Sl.tr h_x0 ht23; replace h_x1 := Sl.tr h_x1 ht23; replace h_x2 := Sl.tr h_x2 ht23; replace h16 := El.tr h16 ht23; replace hK := Tt hK ht23; replace hB := Bx hB ht23; replace hA := ht23.new
 replace hH : Hp _ _ _ (obC b19 [.slice none 0 0, .slice none 0 0, .slice none 0 0] 26 :: obC b7 [v_x0, v_x1, v_x2] 26 :: []) := hH22
 refine To ?_
 refine Sr ?_
 obtain ⟨h24, _⟩ := El_know_Entry h16
 refine Vy (Y_loadA h24 isAgg33 sizeOf33 rfl) ?_
 obtain ⟨x25, hx25, hm⟩ := Bs hm
 refine Vc call71 (know_postings_c (Dw := Dw) w20 hB hA v hH hx25) ?_
 rintro _ w28 ⟨v26, A29, rfl, hH30, ht31⟩
 replace h16 := El.tr h16 ht31; replace h_x0 := Sl.tr h_x0 ht31; replace h_x1 := Sl.tr h_x1 ht31; replace h_x2 := Sl.tr h_x2 ht31; replace hK := Tt hK ht31; replace hB := Bx hB ht31; replace hA := ht31.new
 replace hH : Hp _ _ _ (o_83 v26 x25.1 :: obC b19 [.slice none 0 0, .slice none 0 0, .slice none 0 0] 26 :: obC b7 [v_x0, v_x1, v_x2] 26 :: []) := hH30
 refine Mm (Vy (Y_extract rfl rfl) (Vy (Y_extract rfl rfl) (As (As (To ?_)))))
 refine C_seq (Sr (Mm (Vy (Y_lenSl (Hp.any (α := know_Term) (e := 83) (v := v26) (l := x25.1) hH (i := 0) rfl) rfl underlying24 rfl) (Mm (To ?_)))))
 have hn56 := Hp.le (α := know_Term) (e := 83) (v := v26) (l := x25.1) hH (i := 0) rfl
 obtain ⟨o32, ho32, hm⟩ := Bs hm
 refine C_cutG (ι := ((List know_Term) × Value × (Nat → Prop))) (fun ⟨s33, v39, A41⟩ => [(2, Pt b7), (3, Pt b13), (4, Pt b19), (5, v39), (6, Ii x25.2)]) (fun ⟨s33, v39, A41⟩ => fun w' => o32 = .fin s33 ∧ Hp w.heap.size A41 w' (o_83 v39 s33 :: obC b19 [.slice none 0 0, .slice none 0 0, .slice none 0 0] 26 :: obC b7 [v_x0, v_x1, v_x2] 26 :: []) ∧ Tr Dw w.heap.size A29 w28 A41 w') ?_ ?_
 ·refine C_block ?_
  refine C_range ho32 (fun k35 s43 a w' => ∃ i : (Value × (Nat → Prop)), Has ⟨78, [], none⟩ a ([(2, Pt b7), (3, Pt b13), (4, Pt b19), (5, i.1), (6, Ii x25.2), (18, i.1), (19, Ii (x25.1.length : Int)), (20, Ii (k35 : Int))]) ∧ Hp w.heap.size i.2 w' (o_83 i.1 s43 :: obC b19 [.slice none 0 0, .slice none 0 0, .slice none 0 0] 26 :: obC b7 [v_x0, v_x1, v_x2] 26 :: []) ∧ Tr Dw w.heap.size A29 w28 i.2 w') (fun a ha => ⟨(v26, A29), ha.sb, ⟨hH, Tr.refl (Dw := Dw) hA⟩⟩) ?_
  rintro K k35 s43 a w44 ⟨⟨v45, A47⟩, ha188, hH48, hr34⟩ hle52 K55 h54
  refine C_of ?_ ha188
  replace h_x2 := Sl.tr h_x2 hr34; replace hB := Bx hB hr34; replace hA := hr34.new
  replace hH : Hp _ _ _ (o_83 v45 s43 :: obC b19 [.slice none 0 0, .slice none 0 0, .slice none 0 0] 26 :: obC b7 [v_x0, v_x1, v_x2] 26 :: []) := hH48
  refine Sr (Vy (Y_lss rfl rfl) (To ?_))
  refine C_seq ?_
  refine Cc (fun hc57 => ?_) fun hc57 => ?_
  ·have hlt53 := lt_of_dec hc57
   obtain ⟨x49, h50, h51⟩ := K55 hlt53
   refine Sk ?_
   refine C_seq ?_
   obtain ⟨s59, ho58, h50⟩ := Bs h50
   refine C_cutG (ι := (Value × (Nat → Prop))) (fun ⟨v61, A66⟩ => [(2, Pt b7), (3, Pt b13), (4, Pt b19), (5, v61), (6, Ii x25.2), (18, v61), (19, Ii (x25.1.length : Int)), (20, Ii (k35 : Int))]) (fun ⟨v61, A66⟩ => fun w' => Hp w.heap.size A66 w' (o_83 v61 s59 :: obC b19 [.slice none 0 0, .slice none 0 0, .slice none 0 0] 26 :: obC b7 [v_x0, v_x1, v_x2] 26 :: []) ∧ Tr Dw w.heap.size A47 w44 A66 w') ?_ ?_
   ·have hr60 : Tr Dw w.heap.size A47 w44 A47 w44 := Tr.refl (Dw := Dw) hA
    refine C_block (Sr (Mm ?_))
    obtain ⟨x68, hx68, ho58⟩ := Bs ho58
    refine V_indexAddrH (α := know_Term) (e := 83) (v := v45) (l := s43) hH (i := 0) rfl hx68 underlying24 sizeOf83 rfl rfl rfl ?_
    intro b69 o70 h71 hl72
    obtain ⟨v73, h75, h74⟩ := ElR_know_Term (Hp.elemRep (e := 83) (v := v45) (l := s43) hH (i := 0) rfl hl72 hx68)
    refine Vy (Y_loadA h75 isAgg83 sizeOf83 rfl) ?_
    refine V_alloc zeroValue83 rfl ?_
    intro b76 w77 h78
    refine As ?_
    have h83 : (v73).oneCell' = true := by obtain ⟨_, _, e, _⟩ := Sl.form h74; rw [e]; rfl
    refine Sn h78 sizeOf83 ?_
    intro w79 h80
    have hk85 := h80.kp (Dw := Dw)
    have h84 : El (α := know_Term) A47 w79 b76 0 x68 := h80.el hA ⟨[.string x68.word], _, rfl, rfl, ⟨_, rfl, h74⟩⟩
    have ht86 := Kp.tr hk85 hA hB; replace hH := Hp.kp hH hk85; replace h_x2 := Sl.tr h_x2 ht86; replace hr60 := Tt hr60 ht86; replace hB := Bx hB ht86; replace hA := ht86.new
    refine To ?_
    refine Sr (Vy (Y_fieldAddrC (off2 := 2) underlying26 rfl sizeOf24 (by decide) rfl rfl) (Ld (Hp.cell (j := 2) hH (i := 2) rfl rfl) isAgg24 ?_))
    obtain ⟨v87, h89, h88⟩ := El_know_Term h84
    refine Vy (Y_loadA h89 isAgg83 sizeOf83 rfl) ?_
    obtain ⟨x92, hx92, ho58⟩ := Bs ho58
    refine Vc call72 (slices_BinarySearchFunc_Lknow_Term_know_Term_know_Term_c (Dw := Dw) w79 hA x.terms v_x2 h_x2 x68 v87 h88 (fun y105 y106 => know_byWord y105 y106) 73 #[] #[] call73 (fun w101 A102 ht103 h104 y93 v94 h95 y96 v97 h98 r99 h100 => (know_byWord_c (Dw := Dw) w101 h104 y93 v94 h95 y96 v97 h98  h100).mono (fun _ _ h => ⟨h.1, h.2⟩)) hx92) ?_
    rintro _ w107 ⟨rfl, hk108⟩
    have ht109 := Kp.tr hk108 hA hB; replace hH := Hp.kp hH hk108; replace h84 := El.tr h84 ht109; replace h_x2 := Sl.tr h_x2 ht109; replace hr60 := Tt hr60 ht109; replace hB := Bx hB ht109; replace hA := ht109.new
    refine Mm (Vy (Y_extract rfl rfl) (Vy (Y_extract rfl rfl) (As (As (To ?_)))))
    refine Sr (Mm (To ?_))
    obtain ⟨s111, ho110, ho58⟩ := Bs ho58
    refine C_cutG (ι := (Value × (Nat → Prop))) (fun ⟨v113, A118⟩ => [(2, Pt b7), (3, Pt b13), (4, Pt b19), (5, v113), (6, Ii x25.2), (18, v113), (19, Ii (x25.1.length : Int)), (20, Ii (k35 : Int))]) (fun ⟨v113, A118⟩ => fun w' => Hp w.heap.size A118 w' (o_83 v113 s111 :: obC b19 [.slice none 0 0, .slice none 0 0, .slice none 0 0] 26 :: obC b7 [v_x0, v_x1, v_x2] 26 :: []) ∧ Tr Dw w.heap.size A47 w107 A118 w') ?_ ?_
    ·have hr112 : Tr Dw w.heap.size A47 w107 A47 w107 := Tr.refl (Dw := Dw) hA
     refine Cc (fun hc120 => ?_) fun hc120 => ?_
     ·rw [if_pos hc120] at ho110
      refine C_region_ch (Dw := Dw) A47 14 [(1, 0), (1, 1), (1, 2), (0, 3), (1, 4), (0, 5), (1, 6), (0, 7), (1, 8), (1, 9), (2, 10), (0, 11), (1, 12), (4, 13)] Tryz_mixed (by kernel_rfl) (fun w121 hk122 => ?_)
      have ht123 := Kp.tr hk122 hA hB; replace hH := Hp.kp hH hk122; replace h84 := El.tr h84 ht123; replace h_x2 := Sl.tr h_x2 ht123; replace hr112 := Tt hr112 ht123; replace hB := Bx hB ht123; replace hA := ht123.new
      refine CH_q2 rfl (Qm (VQ_CH (CH_q2 rfl (Qm (VQ_CH (CH_q2 rfl (Qv (fun w' hw' => Y_fieldAddrC (off2 := 2) underlying26 rfl sizeOf24 (by decide) rfl rfl) (VQ_CH (CH_q1 rfl ?_)))))))))
      refine VQ_y (fun w' hw' => Y_load ((World.cell?_of_block (hw'.block _ (World.block_lt_of_cell? _ _ (Hp.cell (j := 2) hH (i := 2) rfl rfl)))).trans (Hp.cell (j := 2) hH (i := 2) rfl rfl)) isAgg24 rfl) rfl rfl rfl ?_
      refine VQ_CH (CH_q2 rfl (Qm (VQ_CH (CH_q1 rfl ?_))))
      obtain ⟨x124, hx124, ho110⟩ := Bs ho110
      refine VQ_indexAddr h_x2 hx124 underlying24 sizeOf83 rfl rfl rfl ?_
      intro b125 o126 h127
      refine VQ_CH (CH_q2 rfl ?_)
      have h128 := El_know_Term_1 h127
      refine Qf underlying83 rfl sizeOf81 (VQ_CH (CH_q1 rfl ?_))
      obtain ⟨v129, h130, h131⟩ := El.list h128
      refine Qc h130 isAgg81 (VQ_CH (CH_q2 rfl ?_))
      have h132 := El_know_Term_1 h84
      refine Qf underlying83 rfl sizeOf81 (VQ_CH (CH_q2 rfl ?_))
      obtain ⟨v133, h134, h135⟩ := El.list h132
      refine Ql (fun w' hw' => ((World.cell?_of_block (hw'.2 _ h132.2.1 h132.1)).trans h134)) isAgg81 (VQ_CH ?_)
      refine CH_l1 (k := 0) rfl ?_
      obtain ⟨x138, hx138, ho110⟩ := Bs ho110
      refine Vc call74 (know_merged_know_Posting_c (Dw := Dw) w121 (B := w121.heap.size) (Nat.le_refl _) hA x124.list_ v129 h131 x68.list_ v133 h135 (fun y157 y158 => know_byId y157 y158) 75 #[] #[] call75 (fun w153 A154 ht155 h156 y141 v142 h143 v144 h145 y146 v147 h148 v149 h150 r151 h152 => (know_byId_c (Dw := Dw) w153 h156 y141 v142 h143 v144 h145 y146 v147 h148 v149 h150  h152).mono (fun _ _ h => ⟨h.1, h.2⟩)) Hp.nil hx138) ?_
      rintro v139 w159 ⟨_, A160, rfl, hH161, ht162⟩
      have hk163 : Kp Dw w121 w159 := ht162.below
      have hH164 := Hp.join (Dw := Dw) hH hB ht162 hH161
      have ht165 := Tr.lower (Dw := Dw) ht162 hB
      replace hr112 := Tt hr112 ht165; replace hB := Bx hB ht165; replace hA := ht165.new
      replace hH : Hp _ _ _ (o_86 v139 x138 :: o_83 v45 s43 :: obC b19 [.slice none 0 0, .slice none 0 0, .slice none 0 0] 26 :: obC b7 [v_x0, v_x1, v_x2] 26 :: []) := hH164
      refine V_CH (hk163) ?_
      refine CH_q1 rfl ?_
      refine VQ_indexAddrH (α := know_Term) (e := 83) (v := v45) (l := s43) hH (i := 1) rfl hx68 underlying24 sizeOf83 rfl rfl rfl ?_
      intro b166 o167 h168 hl169
      refine VQ_CH (CH_q2 rfl ?_)
      have h170 := El_know_Term_1 h168
      refine Qf underlying83 rfl sizeOf81 (VQ_CH ?_)
      refine CH_l1 (k := 2) rfl ?_
      obtain ⟨A171, ht172, h173, hH174⟩ := Hp.freeze (Dw := Dw) (α := know_Posting) (v := v139) (l := x138) hH (i := 0) rfl hA
      replace hr112 := Tt hr112 ht172; replace hB := Bx hB ht172; replace hA := ht172.new
      replace hH : Hp _ _ _ (o_83 v45 s43 :: obC b19 [.slice none 0 0, .slice none 0 0, .slice none 0 0] 26 :: obC b7 [v_x0, v_x1, v_x2] 26 :: []) := hH174
      obtain ⟨x176, hx176, ho110⟩ := Bs ho110
      have h182 : (v139).oneCell' = true := by obtain ⟨_, _, e, _⟩ := Sl.form h173; rw [e]; rfl
      refine V_storeFH (Dw := Dw) (α := know_Term) (e := 83) (v := v45) (l := s43) (foff := 1) hH (i := 0) rfl hl169 hx68 hx176 (fun _ h => by obtain ⟨_, _, rfl, rfl, ⟨v1, rfl, h1⟩⟩ := h; rw [Value.cells_one h182]; exact ⟨[_], _, rfl, rfl, ⟨_, rfl, h173⟩⟩) sizeOf81 (by rw [← Array.length_toList, Value.cells_one h182]; rfl) (by intro u hu; rw [Value.cells_one h182] at hu; simp at hu; subst hu; exact h182) (by decide) hB hA (congrArg (fun z => some (Value.pointer (some ⟨_, z, none⟩))) (by simp [Nat.add_assoc])) rfl ?_
      intro w177 hH178 ht179
      replace hr112 := Tt hr112 ht179
      replace hH : Hp _ _ _ (o_83 v45 x176 :: obC b19 [.slice none 0 0, .slice none 0 0, .slice none 0 0] 26 :: obC b7 [v_x0, v_x1, v_x2] 26 :: []) := hH178
      refine V_CHw ?_
      refine CH_tail ?_
      show V _ _ _ _ [] _ _
      obtain rfl := Oi ho110
      refine V_end (fun a ha183 => ?_)
      exact ⟨(v45, A171), ha183.sb, ⟨hH, hr112⟩⟩
     rw [if_neg (nt hc120)] at ho110
     obtain rfl := Oi ho110
     refine C_skip (fun a ha184 => ?_)
     exact ⟨(v45, A47), ha184.sb, ⟨hH, hr112⟩⟩
    rintro ⟨v113, A118⟩ w115 ⟨hH119, hk116⟩ a ha117
    replace hr60 := Tr.trans hr60 hk116; replace hA := hk116.new
    replace hH : Hp _ _ _ (o_83 v113 s111 :: obC b19 [.slice none 0 0, .slice none 0 0, .slice none 0 0] 26 :: obC b7 [v_x0, v_x1, v_x2] 26 :: []) := hH119
    obtain rfl := Oi ho58
    exact ⟨(v113, A118), ha117.sb, ⟨hH, hr60⟩⟩
   rintro ⟨v61, A66⟩ w63 ⟨hH67, hk64⟩ a ha65
   replace hr34 := Tr.trans hr34 hk64; replace hA := hk64.new
   replace hH : Hp _ _ _ (o_83 v61 s59 :: obC b19 [.slice none 0 0, .slice none 0 0, .slice none 0 0] 26 :: obC b7 [v_x0, v_x1, v_x2] 26 :: []) := hH67
   refine C_at (n := ⟨78, [], none⟩) (fun _ _ => rfl) ?_ ha65
   refine C_region (Vy (Y_addI rfl rfl) (Mm ?_))
   obtain rfl := Oi h50
   refine V_end (fun a ha186 => ?_)
   exact ⟨s59, hlt53, h51, ⟨(v61, A66), ha186.sub ⟨rfl, rfl, rfl, rfl, rfl, rfl, rfl, Ws hlt53 hn56, trivial⟩, ⟨hH, hr34⟩⟩⟩
  refine C_exit (fun a ha187 => ?_)
  exact ⟨(s43, v45, A47), ha187.sb, ⟨(h54 (eq_of_dec hle52 hc57)).symm, hH, hr34⟩⟩
 rintro ⟨s33, v39, A41⟩ w36 ⟨rfl, hH42, hk37⟩ a ha38
 rw [Lp.andThen_fin] at hm
 replace h16 := El.tr h16 hk37; replace h_x0 := Sl.tr h_x0 hk37; replace h_x1 := Sl.tr h_x1 hk37; replace h_x2 := Sl.tr h_x2 hk37; replace hK := Tr.trans hK hk37; replace hB := Nat.le_trans hB hk37.ex.size; replace hA := hk37.new
 replace hH : Hp _ _ _ (o_83 v39 s33 :: obC b19 [.slice none 0 0, .slice none 0 0, .slice none 0 0] 26 :: obC b7 [v_x0, v_x1, v_x2] 26 :: []) := hH42
 refine C_at (n := ⟨78, [], none⟩) (fun _ _ => rfl) ?_ ha38
 refine Sr (Vy (Y_fieldAddrC (off2 := 0) underlying26 rfl sizeOf23 (by decide) rfl rfl) (Ld (Hp.cell (j := 0) hH (i := 2) rfl rfl) isAgg23 ?_))
 have h189 := El_know_Entry_0 h16
 refine Fa underlying33 rfl sizeOf3 (Li h189 isAgg3 ?_)
 obtain ⟨x190, hx190, hm⟩ := Bs hm
 refine Vc call52 (slices_BinarySearch_Lint_int_c w36 x.ids v_x0 h_x0 v.id_ hx190) ?_
 rintro _ _ ⟨rfl, rfl⟩
 refine Mm (Vy (Y_extract rfl rfl) (Vy (Y_extract rfl rfl) (As (As (To ?_)))))
 refine C_seq ?_
 refine C_region_chy (Dw := Dw) A41 6 [5, 4] [(1, 0), (0, 1), (1, 3), (1, 4), (1, 5), (2, 2)] [(4, 7), (1, 8), (4, 9)] Tryz_mixed (by kernel_rfl) (fun w191 hk192 => ?_)
 have ht193 := Kp.tr hk192 hA hB; replace hH := Hp.kp hH hk192; replace h16 := El.tr h16 ht193; replace h_x0 := Sl.tr h_x0 ht193; replace h_x1 := Sl.tr h_x1 ht193; replace h_x2 := Sl.tr h_x2 ht193; replace hK := Tt hK ht193; replace hB := Bx hB ht193; replace hA := ht193.new
 refine CHZ_q2 rfl (Qv (fun w' hw' => Y_fieldAddrC (off2 := 0) underlying26 rfl sizeOf23 (by decide) rfl rfl) (VQ_CHZ (CHZ_q1 rfl ?_)))
 refine VQ_y (fun w' hw' => Y_load ((World.cell?_of_block (hw'.block _ (World.block_lt_of_cell? _ _ (Hp.cell (j := 0) hH (i := 2) rfl rfl)))).trans (Hp.cell (j := 0) hH (i := 2) rfl rfl)) isAgg23 rfl) rfl rfl rfl ?_
 refine VQ_CHZ (CHZ_q2 rfl (Qm (VQ_CHZ (CHZ_q2 rfl ?_))))
 have h194 := El_know_Entry_0 h16
 refine Qf underlying33 rfl sizeOf3 (VQ_CHZ (CHZ_q2 rfl (Ql (fun w' hw' => (El.int (El.keep h194 (XA.ex hw')))) isAgg3 (VQ_CHZ ?_))))
 refine CHZ_l1 (k := 0) [(2, 6), (2, 2), (4, 7), (1, 8), (4, 9)] rfl ?_ rfl ?_
 ·refine CH_l1 (k := 0) rfl ?_
  refine V_buildOwnHk (Dw := Dw) (l := ([v.id_] : List Int)) (len := 1) hH underlying23 sizeOf3 zeroValue3 rfl (by with_unfolding_all rfl) (show (1 * 1 : Nat) ≠ 0 by decide) (show (1 * 1 : Nat) ≤ 2 ^ 24 by decide) hB hA ⟨[Ii v.id_], _, rfl, rfl, rfl⟩ rfl rfl ?_
  intro v195 w196 A199 hk198 hH201 ht200
  replace h_x0 := Sl.tr h_x0 ht200; replace h_x1 := Sl.tr h_x1 ht200; replace h_x2 := Sl.tr h_x2 ht200; replace hK := Tt hK ht200; replace hB := Bx hB ht200; replace hA := ht200.new
  replace hH : Hp _ _ _ (o_3 v195 ([v.id_] : List Int) :: o_83 v39 s33 :: obC b19 [.slice none 0 0, .slice none 0 0, .slice none 0 0] 26 :: obC b7 [v_x0, v_x1, v_x2] 26 :: []) := hH201
  refine V_CH (hk198) ?_
  refine CH_l1 (k := 0) rfl ?_
  obtain ⟨x202, hx202, hm⟩ := Bs hm
  refine Vc call76 (slices_Clone_Lint_int_c (Dw := Dw) w196 hA x.ids v_x0 h_x0 hx202) ?_
  rintro v203 w205 ⟨_, rfl, h204, hk206⟩
  obtain ⟨A207, ht208, hH209⟩ := Hp.addOwnd (Dw := Dw) hH hB hA hk206 h204
  replace h_x1 := Sl.tr h_x1 ht208; replace h_x2 := Sl.tr h_x2 ht208; replace hK := Tt hK ht208; replace hB := Bx hB ht208; replace hA := ht208.new
  replace hH : Hp _ _ _ (o_3 v203 x202 :: o_3 v195 ([v.id_] : List Int) :: o_83 v39 s33 :: obC b19 [.slice none 0 0, .slice none 0 0, .slice none 0 0] 26 :: obC b7 [v_x0, v_x1, v_x2] 26 :: []) := hH209
  refine V_CH (hk206) ?_
  refine CH_l1 (k := 2) rfl ?_
  replace hH : Hp w.heap.size A207 w205 (o_3 v195 ([v.id_] : List Int) :: o_3 v203 x202 :: o_83 v39 s33 :: obC b19 [.slice none 0 0, .slice none 0 0, .slice none 0 0] 26 :: obC b7 [v_x0, v_x1, v_x2] 26 :: []) := Hp.front hH (i := 1) rfl
  obtain ⟨x210, hx210, hm⟩ := Bs hm
  refine Vc call53 (slices_Insert_Lint_int_c (Dw := Dw) w205 x190.1 hH (i := 0) rfl hB hA hx210) ?_
  rintro v211 w212 ⟨_, A213, rfl, hH214, ht215⟩
  replace h_x1 := Sl.tr h_x1 ht215; replace h_x2 := Sl.tr h_x2 ht215; replace hK := Tt hK ht215; replace hB := Bx hB ht215; replace hA := ht215.new
  replace hH : Hp _ _ _ (o_3 v211 x210 :: o_83 v39 s33 :: obC b19 [.slice none 0 0, .slice none 0 0, .slice none 0 0] 26 :: obC b7 [v_x0, v_x1, v_x2] 26 :: []) := hH214
  refine V_CHw ?_
  refine CH_q2 rfl (Qv (fun w' hw' => Y_fieldAddrC (off2 := 0) underlying26 rfl sizeOf23 (by decide) rfl rfl) (VQ_CH ?_))
  refine CH_l1 (k := 2) rfl ?_
  obtain ⟨A216, ht217, h218, hH219⟩ := Hp.freeze (Dw := Dw) (α := Int) (v := v211) (l := x210) hH (i := 0) rfl hA
  replace h_x1 := Sl.tr h_x1 ht217; replace h_x2 := Sl.tr h_x2 ht217; replace hK := Tt hK ht217; replace hB := Bx hB ht217; replace hA := ht217.new
  replace hH : Hp _ _ _ (o_83 v39 s33 :: obC b19 [.slice none 0 0, .slice none 0 0, .slice none 0 0] 26 :: obC b7 [v_x0, v_x1, v_x2] 26 :: []) := hH219
  have h226 : (v211).oneCell' = true := by obtain ⟨_, _, e, _⟩ := Sl.form h218; rw [e]; rfl
  refine V_storeC (Dw := Dw) (off := 0) (ds := [v211, v_x1, v_x2]) hH (i := 2) rfl sizeOf23 (by show (v211 : Value).cells.size = _; rw [← Array.length_toList, Value.cells_one h226]; rfl) (Nat.le_of_ble_eq_true rfl) (by intro u hu; change u ∈ (v211 : Value).cells.toList at hu; rw [Value.cells_one h226] at hu; simp at hu; subst hu; assumption) (by show _ ++ (v211 : Value).cells.toList ++ _ = _; rw [Value.cells_one h226]; rfl) hB hA rfl rfl ?_
  intro w221 hH222 ht223
  replace h218 := Sl.tr h218 ht223; replace h_x1 := Sl.tr h_x1 ht223; replace h_x2 := Sl.tr h_x2 ht223; replace hK := Tt hK ht223; replace hB := Bx hB ht223; replace hA := ht223.new
  replace hH : Hp _ _ _ (o_83 v39 s33 :: obC b19 [.slice none 0 0, .slice none 0 0, .slice none 0 0] 26 :: obC b7 [v211, v_x1, v_x2] 26 :: []) := hH222
  refine V_CHw ?_
  refine CH_tail ?_
  show V _ _ _ _ [] _ _
  refine To ?_
  refine Sr (Vy (Y_fieldAddrC (off2 := 1) underlying26 rfl sizeOf23 (by decide) rfl rfl) (Ld (Hp.cell (j := 1) hH (i := 2) rfl rfl) isAgg23 ?_))
  obtain ⟨x227, hx227, hm⟩ := Bs hm
  refine Vc call76 (slices_Clone_Lint_int_c (Dw := Dw) w221 hA x.sizes v_x1 h_x1 hx227) ?_
  rintro v228 w230 ⟨_, rfl, h229, hk231⟩
  obtain ⟨A232, ht233, hH234⟩ := Hp.addOwnd (Dw := Dw) hH hB hA hk231 h229
  replace h218 := Sl.tr h218 ht233; replace h_x2 := Sl.tr h_x2 ht233; replace hK := Tt hK ht233; replace hB := Bx hB ht233; replace hA := ht233.new
  replace hH : Hp _ _ _ (o_3 v228 x227 :: o_83 v39 s33 :: obC b19 [.slice none 0 0, .slice none 0 0, .slice none 0 0] 26 :: obC b7 [v211, v_x1, v_x2] 26 :: []) := hH234
  refine Mm (Mm ?_)
  refine V_buildOwnH (Dw := Dw) (l := ([x25.2] : List Int)) (len := 1) hH underlying23 sizeOf3 zeroValue3 rfl (by with_unfolding_all rfl) (show (1 * 1 : Nat) ≠ 0 by decide) (show (1 * 1 : Nat) ≤ 2 ^ 24 by decide) hB hA ⟨[Ii x25.2], _, rfl, rfl, rfl⟩ rfl rfl ?_
  intro v235 w236 A239 hH241 ht240
  replace h218 := Sl.tr h218 ht240; replace h_x2 := Sl.tr h_x2 ht240; replace hK := Tt hK ht240; replace hB := Bx hB ht240; replace hA := ht240.new
  replace hH : Hp _ _ _ (o_3 v235 ([x25.2] : List Int) :: o_3 v228 x227 :: o_83 v39 s33 :: obC b19 [.slice none 0 0, .slice none 0 0, .slice none 0 0] 26 :: obC b7 [v211, v_x1, v_x2] 26 :: []) := hH241
  obtain ⟨x242, hx242, hm⟩ := Bs hm
  refine Vc call53 (slices_Insert_Lint_int_c (Dw := Dw) w236 x190.1 hH (i := 0) rfl hB hA hx242) ?_
  rintro v243 w244 ⟨_, A245, rfl, hH246, ht247⟩
  replace h218 := Sl.tr h218 ht247; replace h_x2 := Sl.tr h_x2 ht247; replace hK := Tt hK ht247; replace hB := Bx hB ht247; replace hA := ht247.new
  replace hH : Hp _ _ _ (o_3 v243 x242 :: o_83 v39 s33 :: obC b19 [.slice none 0 0, .slice none 0 0, .slice none 0 0] 26 :: obC b7 [v211, v_x1, v_x2] 26 :: []) := hH246
  refine Vy (Y_fieldAddrC (off2 := 1) underlying26 rfl sizeOf23 (by decide) rfl rfl) ?_
  obtain ⟨A248, ht249, h250, hH251⟩ := Hp.freeze (Dw := Dw) (α := Int) (v := v243) (l := x242) hH (i := 0) rfl hA
  replace h218 := Sl.tr h218 ht249; replace h_x2 := Sl.tr h_x2 ht249; replace hK := Tt hK ht249; replace hB := Bx hB ht249; replace hA := ht249.new
  replace hH : Hp _ _ _ (o_83 v39 s33 :: obC b19 [.slice none 0 0, .slice none 0 0, .slice none 0 0] 26 :: obC b7 [v211, v_x1, v_x2] 26 :: []) := hH251
  have h258 : (v243).oneCell' = true := by obtain ⟨_, _, e, _⟩ := Sl.form h250; rw [e]; rfl
  refine V_storeC (Dw := Dw) (off := 1) (ds := [v211, v243, v_x2]) hH (i := 2) rfl sizeOf23 (by show (v243 : Value).cells.size = _; rw [← Array.length_toList, Value.cells_one h258]; rfl) (Nat.le_of_ble_eq_true rfl) (by intro u hu; change u ∈ (v243 : Value).cells.toList at hu; rw [Value.cells_one h258] at hu; simp at hu; subst hu; assumption) (by show _ ++ (v243 : Value).cells.toList ++ _ = _; rw [Value.cells_one h258]; rfl) hB hA rfl rfl ?_
  intro w253 hH254 ht255
  replace h250 := Sl.tr h250 ht255; replace h218 := Sl.tr h218 ht255; replace h_x2 := Sl.tr h_x2 ht255; replace hK := Tt hK ht255; replace hB := Bx hB ht255; replace hA := ht255.new
  replace hH : Hp _ _ _ (o_83 v39 s33 :: obC b19 [.slice none 0 0, .slice none 0 0, .slice none 0 0] 26 :: obC b7 [v211, v243, v_x2] 26 :: []) := hH254
  refine To ?_
  refine Sr (Vy (Y_fieldAddrC (off2 := 2) underlying26 rfl sizeOf24 (by decide) rfl rfl) (Ld (Hp.cell (j := 2) hH (i := 2) rfl rfl) isAgg24 (Mm ?_)))
  obtain ⟨A259, ht260, h261, hH262⟩ := Hp.freeze (Dw := Dw) (α := know_Term) (v := v39) (l := s33) hH (i := 0) rfl hA
  replace h_x2 := Sl.tr h_x2 ht260; replace h218 := Sl.tr h218 ht260; replace h250 := Sl.tr h250 ht260; replace hK := Tt hK ht260; replace hB := Bx hB ht260; replace hA := ht260.new
  replace hH : Hp _ _ _ (obC b19 [.slice none 0 0, .slice none 0 0, .slice none 0 0] 26 :: obC b7 [v211, v243, v_x2] 26 :: []) := hH262
  obtain ⟨x266, hx266, hm⟩ := Bs hm
  refine Vc call77 (know_merged_know_Term_c (Dw := Dw) w253 hB hA x.terms v_x2 h_x2 s33 v39 h261 (fun y281 y282 => know_byWord y281 y282) 73 #[] #[] call73 (fun w277 A278 ht279 h280 y269 v270 h271 y272 v273 h274 r275 h276 => (know_byWord_c (Dw := Dw) w277 h280 y269 v270 h271 y272 v273 h274  h276).mono (fun _ _ h => ⟨h.1, h.2⟩)) hH hx266) ?_
  rintro v267 w283 ⟨_, A284, rfl, hH285, ht286⟩
  replace h218 := Sl.tr h218 ht286; replace h250 := Sl.tr h250 ht286; replace hK := Tt hK ht286; replace hB := Bx hB ht286; replace hA := ht286.new
  replace hH : Hp _ _ _ (o_83 v267 x266 :: obC b19 [.slice none 0 0, .slice none 0 0, .slice none 0 0] 26 :: obC b7 [v211, v243, v_x2] 26 :: []) := hH285
  refine Vy (Y_fieldAddrC (off2 := 2) underlying26 rfl sizeOf24 (by decide) rfl rfl) ?_
  obtain ⟨A287, ht288, h289, hH290⟩ := Hp.freeze (Dw := Dw) (α := know_Term) (v := v267) (l := x266) hH (i := 0) rfl hA
  replace h218 := Sl.tr h218 ht288; replace h250 := Sl.tr h250 ht288; replace hK := Tt hK ht288; replace hB := Bx hB ht288; replace hA := ht288.new
  replace hH : Hp _ _ _ (obC b19 [.slice none 0 0, .slice none 0 0, .slice none 0 0] 26 :: obC b7 [v211, v243, v_x2] 26 :: []) := hH290
  have h297 : (v267).oneCell' = true := by obtain ⟨_, _, e, _⟩ := Sl.form h289; rw [e]; rfl
  refine V_storeC (Dw := Dw) (off := 2) (ds := [v211, v243, v267]) hH (i := 1) rfl sizeOf24 (by show (v267 : Value).cells.size = _; rw [← Array.length_toList, Value.cells_one h297]; rfl) (Nat.le_of_ble_eq_true rfl) (by intro u hu; change u ∈ (v267 : Value).cells.toList at hu; rw [Value.cells_one h297] at hu; simp at hu; subst hu; assumption) (by show _ ++ (v267 : Value).cells.toList ++ _ = _; rw [Value.cells_one h297]; rfl) hB hA rfl rfl ?_
  intro w292 hH293 ht294
  replace h289 := Sl.tr h289 ht294; replace h218 := Sl.tr h218 ht294; replace h250 := Sl.tr h250 ht294; replace hK := Tt hK ht294; replace hB := Bx hB ht294; replace hA := ht294.new
  replace hH : Hp _ _ _ (obC b19 [.slice none 0 0, .slice none 0 0, .slice none 0 0] 26 :: obC b7 [v211, v243, v267] 26 :: []) := hH293
  refine To ?_
  refine Sr (Vy (Y_loadA (Hp.part (off := 0) (n := 3) (ds := [v211, v243, v267]) hH (i := 1) rfl rfl) isAgg26 sizeOf26 rfl) ?_)
  have h303 : (v211).oneCell' = true := by obtain ⟨_, _, e, _⟩ := Sl.form h218; rw [e]; rfl
  have h306 : (v243).oneCell' = true := by obtain ⟨_, _, e, _⟩ := Sl.form h250; rw [e]; rfl
  have h309 : (v267).oneCell' = true := by obtain ⟨_, _, e, _⟩ := Sl.form h289; rw [e]; rfl
  refine V_storeC (Dw := Dw) (off := 0) (ds := [v211, v243, v267]) hH (i := 0) rfl sizeOf26 rfl (Nat.le_of_ble_eq_true rfl) (by exact (List.forall_mem_cons.2 ⟨h303, (List.forall_mem_cons.2 ⟨h306, (List.forall_mem_cons.2 ⟨h309, (fun _ h => nomatch h)⟩)⟩)⟩)) rfl hB hA rfl rfl ?_
  intro w298 hH299 ht300
  replace h218 := Sl.tr h218 ht300; replace h250 := Sl.tr h250 ht300; replace h289 := Sl.tr h289 ht300; replace hK := Tt hK ht300
  replace hH : Hp _ _ _ (obC b19 [v211, v243, v267] 26 :: obC b7 [v211, v243, v267] 26 :: []) := hH299
  refine To ?_
  obtain rfl := Oi hm
  refine C_ret ?_
  try simp only [↓ib, ↓th]
  exact retQ rfl (Res.l1 results15 (RL.cell rfl (loadVar_agg (Hp.part (off := 0) (n := 3) (ds := [v211, v243, v267]) hH (i := 0) rfl rfl) isAgg26 sizeOf26))) ⟨v211, v243, v267, rfl, (Sl.out (Dw := Dw) h218 hA0 hK), (Sl.out (Dw := Dw) h250 hA0 hK), (Sl.out (Dw := Dw) h289 hA0 hK), hK.kp⟩
 obtain ⟨x310, hx310, hm⟩ := Bs hm
 refine Vc call76 (slices_Clone_Lint_int_c (Dw := Dw) w191 hA x.ids v_x0 h_x0 hx310) ?_
 rintro v311 w313 ⟨_, rfl, h312, hk314⟩
 obtain ⟨A315, ht316, hH317⟩ := Hp.addOwnd (Dw := Dw) hH hB hA hk314 h312
 replace h_x1 := Sl.tr h_x1 ht316; replace h_x2 := Sl.tr h_x2 ht316; replace hK := Tt hK ht316; replace hB := Bx hB ht316; replace hA := ht316.new
 replace hH : Hp _ _ _ (o_3 v311 x310 :: o_83 v39 s33 :: obC b19 [.slice none 0 0, .slice none 0 0, .slice none 0 0] 26 :: obC b7 [v_x0, v_x1, v_x2] 26 :: []) := hH317
 refine V_CHZ (hk314) ?_
 refine CHZ_nil ?_
 refine CH_l1 (k := 0) rfl ?_
 refine V_buildOwnHk (Dw := Dw) (l := ([v.id_] : List Int)) (len := 1) hH underlying23 sizeOf3 zeroValue3 rfl (by with_unfolding_all rfl) (show (1 * 1 : Nat) ≠ 0 by decide) (show (1 * 1 : Nat) ≤ 2 ^ 24 by decide) hB hA ⟨[Ii v.id_], _, rfl, rfl, rfl⟩ rfl rfl ?_
 intro v318 w319 A322 hk321 hH324 ht323
 replace h_x1 := Sl.tr h_x1 ht323; replace h_x2 := Sl.tr h_x2 ht323; replace hK := Tt hK ht323; replace hB := Bx hB ht323; replace hA := ht323.new
 replace hH : Hp _ _ _ (o_3 v318 ([v.id_] : List Int) :: o_3 v311 x310 :: o_83 v39 s33 :: obC b19 [.slice none 0 0, .slice none 0 0, .slice none 0 0] 26 :: obC b7 [v_x0, v_x1, v_x2] 26 :: []) := hH324
 refine V_CH (hk321) ?_
 refine CH_l1 (k := 2) rfl ?_
 obtain ⟨x325, hx325, hm⟩ := Bs hm
 refine Vc call53 (slices_Insert_Lint_int_c (Dw := Dw) w319 x190.1 hH (i := 0) rfl hB hA hx325) ?_
 rintro v326 w327 ⟨_, A328, rfl, hH329, ht330⟩
 replace h_x1 := Sl.tr h_x1 ht330; replace h_x2 := Sl.tr h_x2 ht330; replace hK := Tt hK ht330; replace hB := Bx hB ht330; replace hA := ht330.new
 replace hH : Hp _ _ _ (o_3 v326 x325 :: o_83 v39 s33 :: obC b19 [.slice none 0 0, .slice none 0 0, .slice none 0 0] 26 :: obC b7 [v_x0, v_x1, v_x2] 26 :: []) := hH329
 refine V_CHw ?_
 refine CH_q2 rfl (Qv (fun w' hw' => Y_fieldAddrC (off2 := 0) underlying26 rfl sizeOf23 (by decide) rfl rfl) (VQ_CH ?_))
 refine CH_l1 (k := 2) rfl ?_
 obtain ⟨A331, ht332, h333, hH334⟩ := Hp.freeze (Dw := Dw) (α := Int) (v := v326) (l := x325) hH (i := 0) rfl hA
 replace h_x1 := Sl.tr h_x1 ht332; replace h_x2 := Sl.tr h_x2 ht332; replace hK := Tt hK ht332; replace hB := Bx hB ht332; replace hA := ht332.new
 replace hH : Hp _ _ _ (o_83 v39 s33 :: obC b19 [.slice none 0 0, .slice none 0 0, .slice none 0 0] 26 :: obC b7 [v_x0, v_x1, v_x2] 26 :: []) := hH334
 have h341 : (v326).oneCell' = true := by obtain ⟨_, _, e, _⟩ := Sl.form h333; rw [e]; rfl
 refine V_storeC (Dw := Dw) (off := 0) (ds := [v326, v_x1, v_x2]) hH (i := 2) rfl sizeOf23 (by show (v326 : Value).cells.size = _; rw [← Array.length_toList, Value.cells_one h341]; rfl) (Nat.le_of_ble_eq_true rfl) (by intro u hu; change u ∈ (v326 : Value).cells.toList at hu; rw [Value.cells_one h341] at hu; simp at hu; subst hu; assumption) (by show _ ++ (v326 : Value).cells.toList ++ _ = _; rw [Value.cells_one h341]; rfl) hB hA rfl rfl ?_
 intro w336 hH337 ht338
 replace h333 := Sl.tr h333 ht338; replace h_x1 := Sl.tr h_x1 ht338; replace h_x2 := Sl.tr h_x2 ht338; replace hK := Tt hK ht338; replace hB := Bx hB ht338; replace hA := ht338.new
 replace hH : Hp _ _ _ (o_83 v39 s33 :: obC b19 [.slice none 0 0, .slice none 0 0, .slice none 0 0] 26 :: obC b7 [v326, v_x1, v_x2] 26 :: []) := hH337
 refine V_CHw ?_
 refine CH_tail ?_
 show V _ _ _ _ [] _ _
 refine To ?_
 refine Sr (Vy (Y_fieldAddrC (off2 := 1) underlying26 rfl sizeOf23 (by decide) rfl rfl) (Ld (Hp.cell (j := 1) hH (i := 2) rfl rfl) isAgg23 ?_))
 obtain ⟨x342, hx342, hm⟩ := Bs hm
 refine Vc call76 (slices_Clone_Lint_int_c (Dw := Dw) w336 hA x.sizes v_x1 h_x1 hx342) ?_
 rintro v343 w345 ⟨_, rfl, h344, hk346⟩
 obtain ⟨A347, ht348, hH349⟩ := Hp.addOwnd (Dw := Dw) hH hB hA hk346 h344
 replace h333 := Sl.tr h333 ht348; replace h_x2 := Sl.tr h_x2 ht348; replace hK := Tt hK ht348; replace hB := Bx hB ht348; replace hA := ht348.new
 replace hH : Hp _ _ _ (o_3 v343 x342 :: o_83 v39 s33 :: obC b19 [.slice none 0 0, .slice none 0 0, .slice none 0 0] 26 :: obC b7 [v326, v_x1, v_x2] 26 :: []) := hH349
 refine Mm (Mm ?_)
 refine V_buildOwnH (Dw := Dw) (l := ([x25.2] : List Int)) (len := 1) hH underlying23 sizeOf3 zeroValue3 rfl (by with_unfolding_all rfl) (show (1 * 1 : Nat) ≠ 0 by decide) (show (1 * 1 : Nat) ≤ 2 ^ 24 by decide) hB hA ⟨[Ii x25.2], _, rfl, rfl, rfl⟩ rfl rfl ?_
 intro v350 w351 A354 hH356 ht355
 replace h333 := Sl.tr h333 ht355; replace h_x2 := Sl.tr h_x2 ht355; replace hK := Tt hK ht355; replace hB := Bx hB ht355; replace hA := ht355.new
 replace hH : Hp _ _ _ (o_3 v350 ([x25.2] : List Int) :: o_3 v343 x342 :: o_83 v39 s33 :: obC b19 [.slice none 0 0, .slice none 0 0, .slice none 0 0] 26 :: obC b7 [v326, v_x1, v_x2] 26 :: []) := hH356
 obtain ⟨x357, hx357, hm⟩ := Bs hm
 refine Vc call53 (slices_Insert_Lint_int_c (Dw := Dw) w351 x190.1 hH (i := 0) rfl hB hA hx357) ?_
 rintro v358 w359 ⟨_, A360, rfl, hH361, ht362⟩
 replace h333 := Sl.tr h333 ht362; replace h_x2 := Sl.tr h_x2 ht362; replace hK := Tt hK ht362; replace hB := Bx hB ht362; replace hA := ht362.new
 replace hH : Hp _ _ _ (o_3 v358 x357 :: o_83 v39 s33 :: obC b19 [.slice none 0 0, .slice none 0 0, .slice none 0 0] 26 :: obC b7 [v326, v_x1, v_x2] 26 :: []) := hH361
 refine Vy (Y_fieldAddrC (off2 := 1) underlying26 rfl sizeOf23 (by decide) rfl rfl) ?_
 obtain ⟨A363, ht364, h365, hH366⟩ := Hp.freeze (Dw := Dw) (α := Int) (v := v358) (l := x357) hH (i := 0) rfl hA
 replace h333 := Sl.tr h333 ht364; replace h_x2 := Sl.tr h_x2 ht364; replace hK := Tt hK ht364; replace hB := Bx hB ht364; replace hA := ht364.new
 replace hH : Hp _ _ _ (o_83 v39 s33 :: obC b19 [.slice none 0 0, .slice none 0 0, .slice none 0 0] 26 :: obC b7 [v326, v_x1, v_x2] 26 :: []) := hH366
 have h373 : (v358).oneCell' = true := by obtain ⟨_, _, e, _⟩ := Sl.form h365; rw [e]; rfl
 refine V_storeC (Dw := Dw) (off := 1) (ds := [v326, v358, v_x2]) hH (i := 2) rfl sizeOf23 (by show (v358 : Value).cells.size = _; rw [← Array.length_toList, Value.cells_one h373]; rfl) (Nat.le_of_ble_eq_true rfl) (by intro u hu; change u ∈ (v358 : Value).cells.toList at hu; rw [Value.cells_one h373] at hu; simp at hu; subst hu; assumption) (by show _ ++ (v358 : Value).cells.toList ++ _ = _; rw [Value.cells_one h373]; rfl) hB hA rfl rfl ?_
 intro w368 hH369 ht370
 replace h365 := Sl.tr h365 ht370; replace h333 := Sl.tr h333 ht370; replace h_x2 := Sl.tr h_x2 ht370; replace hK := Tt hK ht370; replace hB := Bx hB ht370; replace hA := ht370.new
 replace hH : Hp _ _ _ (o_83 v39 s33 :: obC b19 [.slice none 0 0, .slice none 0 0, .slice none 0 0] 26 :: obC b7 [v326, v358, v_x2] 26 :: []) := hH369
 refine To ?_
 refine Sr (Vy (Y_fieldAddrC (off2 := 2) underlying26 rfl sizeOf24 (by decide) rfl rfl) (Ld (Hp.cell (j := 2) hH (i := 2) rfl rfl) isAgg24 (Mm ?_)))
 obtain ⟨A374, ht375, h376, hH377⟩ := Hp.freeze (Dw := Dw) (α := know_Term) (v := v39) (l := s33) hH (i := 0) rfl hA
 replace h_x2 := Sl.tr h_x2 ht375; replace h333 := Sl.tr h333 ht375; replace h365 := Sl.tr h365 ht375; replace hK := Tt hK ht375; replace hB := Bx hB ht375; replace hA := ht375.new
 replace hH : Hp _ _ _ (obC b19 [.slice none 0 0, .slice none 0 0, .slice none 0 0] 26 :: obC b7 [v326, v358, v_x2] 26 :: []) := hH377
 obtain ⟨x381, hx381, hm⟩ := Bs hm
 refine Vc call77 (know_merged_know_Term_c (Dw := Dw) w368 hB hA x.terms v_x2 h_x2 s33 v39 h376 (fun y396 y397 => know_byWord y396 y397) 73 #[] #[] call73 (fun w392 A393 ht394 h395 y384 v385 h386 y387 v388 h389 r390 h391 => (know_byWord_c (Dw := Dw) w392 h395 y384 v385 h386 y387 v388 h389  h391).mono (fun _ _ h => ⟨h.1, h.2⟩)) hH hx381) ?_
 rintro v382 w398 ⟨_, A399, rfl, hH400, ht401⟩
 replace h333 := Sl.tr h333 ht401; replace h365 := Sl.tr h365 ht401; replace hK := Tt hK ht401; replace hB := Bx hB ht401; replace hA := ht401.new
 replace hH : Hp _ _ _ (o_83 v382 x381 :: obC b19 [.slice none 0 0, .slice none 0 0, .slice none 0 0] 26 :: obC b7 [v326, v358, v_x2] 26 :: []) := hH400
 refine Vy (Y_fieldAddrC (off2 := 2) underlying26 rfl sizeOf24 (by decide) rfl rfl) ?_
 obtain ⟨A402, ht403, h404, hH405⟩ := Hp.freeze (Dw := Dw) (α := know_Term) (v := v382) (l := x381) hH (i := 0) rfl hA
 replace h333 := Sl.tr h333 ht403; replace h365 := Sl.tr h365 ht403; replace hK := Tt hK ht403; replace hB := Bx hB ht403; replace hA := ht403.new
 replace hH : Hp _ _ _ (obC b19 [.slice none 0 0, .slice none 0 0, .slice none 0 0] 26 :: obC b7 [v326, v358, v_x2] 26 :: []) := hH405
 have h412 : (v382).oneCell' = true := by obtain ⟨_, _, e, _⟩ := Sl.form h404; rw [e]; rfl
 refine V_storeC (Dw := Dw) (off := 2) (ds := [v326, v358, v382]) hH (i := 1) rfl sizeOf24 (by show (v382 : Value).cells.size = _; rw [← Array.length_toList, Value.cells_one h412]; rfl) (Nat.le_of_ble_eq_true rfl) (by intro u hu; change u ∈ (v382 : Value).cells.toList at hu; rw [Value.cells_one h412] at hu; simp at hu; subst hu; assumption) (by show _ ++ (v382 : Value).cells.toList ++ _ = _; rw [Value.cells_one h412]; rfl) hB hA rfl rfl ?_
 intro w407 hH408 ht409
 replace h404 := Sl.tr h404 ht409; replace h333 := Sl.tr h333 ht409; replace h365 := Sl.tr h365 ht409; replace hK := Tt hK ht409; replace hB := Bx hB ht409; replace hA := ht409.new
 replace hH : Hp _ _ _ (obC b19 [.slice none 0 0, .slice none 0 0, .slice none 0 0] 26 :: obC b7 [v326, v358, v382] 26 :: []) := hH408
 refine To ?_
 refine Sr (Vy (Y_loadA (Hp.part (off := 0) (n := 3) (ds := [v326, v358, v382]) hH (i := 1) rfl rfl) isAgg26 sizeOf26 rfl) ?_)
 have h418 : (v326).oneCell' = true := by obtain ⟨_, _, e, _⟩ := Sl.form h333; rw [e]; rfl
 have h421 : (v358).oneCell' = true := by obtain ⟨_, _, e, _⟩ := Sl.form h365; rw [e]; rfl
 have h424 : (v382).oneCell' = true := by obtain ⟨_, _, e, _⟩ := Sl.form h404; rw [e]; rfl
 refine V_storeC (Dw := Dw) (off := 0) (ds := [v326, v358, v382]) hH (i := 0) rfl sizeOf26 rfl (Nat.le_of_ble_eq_true rfl) (by exact (List.forall_mem_cons.2 ⟨h418, (List.forall_mem_cons.2 ⟨h421, (List.forall_mem_cons.2 ⟨h424, (fun _ h => nomatch h)⟩)⟩)⟩)) rfl hB hA rfl rfl ?_
 intro w413 hH414 ht415
 replace h333 := Sl.tr h333 ht415; replace h365 := Sl.tr h365 ht415; replace h404 := Sl.tr h404 ht415; replace hK := Tt hK ht415
 replace hH : Hp _ _ _ (obC b19 [v326, v358, v382] 26 :: obC b7 [v326, v358, v382] 26 :: []) := hH414
 refine To ?_
 obtain rfl := Oi hm
 refine C_ret ?_
 try simp only [↓ib, ↓th]
 exact retQ rfl (Res.l1 results15 (RL.cell rfl (loadVar_agg (Hp.part (off := 0) (n := 3) (ds := [v326, v358, v382]) hH (i := 0) rfl rfl) isAgg26 sizeOf26))) ⟨v326, v358, v382, rfl, (Sl.out (Dw := Dw) h333 hA0 hK), (Sl.out (Dw := Dw) h365 hA0 hK), (Sl.out (Dw := Dw) h404 hA0 hK), hK.kp⟩
theorem know_Put_c (w : World) {A : Nat → Prop} (hA : ∀ b, w.heap.size ≤ b → A b) (x : know_Index) (v_x0 : Value) (h_x0 : Sl A w v_x0 x.ids) (v_x1 : Value) (h_x1 : Sl A w v_x1 x.sizes) (v_x2 : Value) (h_x2 : Sl A w v_x2 x.terms) (v : know_Entry) {r : (know_Index × Int)} (hm : know_Put x v = some r) : Ret prog 8 #[.agg #[v_x0, v_x1, v_x2], .agg #[Ii v.id_, .string v.title, .string v.body]] w fun v w' => ∃ s0 s1 s2, v = .tuple #[.agg #[s0, s1, s2], Ii r.2] ∧ Sl A w' s0 r.1.ids ∧ Sl A w' s1 r.1.sizes ∧ Sl A w' s2 r.1.terms ∧ Kp Dw w w' := by
 unfold know_Put at hm
 refine enter func8 rfl ntmps8 rfl ?_
 have hA0 := hA
 obtain ⟨hB, hK, hH⟩ := St (Dw := Dw) hA
 refine Sr ?_
 refine V_box rfl rfl ?_
 intro b7 w9 h10
 have hk12 := h10.kp (Dw := Dw)
 have h11 : El (α := know_Index) A w9 b7 0 x := h10.el hA ⟨[v_x0], _, rfl, ⟨_, rfl, h_x0⟩, ⟨[v_x1], _, rfl, ⟨_, rfl, h_x1⟩, ⟨_, rfl, h_x2⟩⟩⟩
 have ht13 := Kp.tr hk12 hA hB; replace hH := Hp.kp hH hk12; replace hK := Tt hK ht13; replace hB := Bx hB ht13; replace hA := ht13.new
 refine V_box rfl rfl ?_
 intro b14 w15 h16
 have hk18 := h16.kp (Dw := Dw)
 have h17 : El (α := know_Entry) A w15 b14 0 v := h16.el hA ⟨[Ii v.id_], _, rfl, rfl, ⟨[.string v.title], _, rfl, rfl, rfl⟩⟩
 have ht19 := Kp.tr hk18 hA hB; replace hH := Hp.kp hH hk18; replace h11 := El.tr h11 ht19; replace hK := Tt hK ht19; replace hB := Bx hB ht19; replace hA := ht19.new
 refine V_allocH (Dw := Dw) (B := w.heap.size) hH zeroValue26 hB hA rfl ?_
 intro b20 w21 A22 hH23 ht24
 replace h11 := El.tr h11 ht24; replace h17 := El.tr h17 ht24; replace hK := Tt hK ht24; replace hB := Bx hB ht24; replace hA := ht24.new
 replace hH : Hp _ _ _ (obC b20 [.slice none 0 0, .slice none 0 0, .slice none 0 0] 26 :: []) := hH23
 refine As (To ?_)
 refine C_seq (C_seq ?_)
 refine C_region_qt (Dw := Dw) 4 Tryz_mixed (by kernel_rfl) ?_
 simp only [List.take, List.drop]
 obtain ⟨v25, v27, v29, h31, h26, h28, h30⟩ := El_know_Index h11
 refine Qv (fun w' hw' => Y_loadA (At.kp h31 hw' h11.2.1) isAgg26 sizeOf26 rfl) ?_
 obtain ⟨x32, hx32, hm⟩ := Bs hm
 refine VQ_call (Ii x32) call12 rfl rfl rfl rfl (fun w' hw' => (know_CheckIndex_c (Dw := Dw) w' (fun b hb => hA b (Nat.le_trans hw'.size hb)) x v25 (Sl.kp h26 hw') v27 (Sl.kp h28 hw') v29 (Sl.kp h30 hw') hx32).mono (fun _ _ h => ⟨h.1, Kp.trans (Dw := Dw) hw' h.2⟩)) ?_
 obtain ⟨h33, _⟩ := El_know_Entry h17
 refine Qv (fun w' hw' => Y_loadA (At.kp h33 hw' h17.2.1) isAgg33 sizeOf33 rfl) ?_
 obtain ⟨x34, hx34, hm⟩ := Bs hm
 refine VQ_call (Ii x34) call14 rfl rfl rfl rfl (fun w' hw' => (know_checkEntry_c (Dw := Dw) w' (fun b hb => hA b (Nat.le_trans hw'.size hb)) v 0 hx34).mono (fun _ _ h => ⟨h.1, Kp.trans (Dw := Dw) hw' h.2⟩)) ?_
 refine VQ_tail (fun w35 hk36 => ?_)
 try simp only [List.take, List.drop]
 have ht37 := Kp.tr hk36 hA hB; replace hH := Hp.kp hH hk36; replace h11 := El.tr h11 ht37; replace h17 := El.tr h17 ht37; replace hK := Tt hK ht37; replace hB := Bx hB ht37; replace hA := ht37.new
 refine V_buildSlice (Dw := Dw) (l := ([x32, x34] : List Int)) (len := 2) underlying187 sizeOf27 zeroValue27 rfl (by with_unfolding_all rfl) (show (2 * 1 : Nat) ≠ 0 by decide) (show (2 * 1 : Nat) ≤ 2 ^ 24 by decide) hA ⟨[Ii x32], _, rfl, rfl, ⟨[Ii x34], _, rfl, rfl, rfl⟩⟩ rfl rfl ?_
 intro v38 w39 hk41 h40
 have ht42 := Kp.tr hk41 hA hB; replace hH := Hp.kp hH hk41; replace h11 := El.tr h11 ht42; replace h17 := El.tr h17 ht42; replace hK := Tt hK ht42; replace hB := Bx hB ht42; replace hA := ht42.new
 obtain ⟨x43, hx43, hm⟩ := Bs hm
 refine Vc call49 (cmp_Or_api_Errno_c w39 ([x32, x34] : List Int) v38 h40 hx43) ?_
 rintro _ _ ⟨rfl, rfl⟩
 refine As (To ?_)
 refine Sr (Mm (Vy (Y_neq rfl rfl) (To ?_)))
 refine Cc (fun hc44 => ?_) fun hc44 => ?_
 ·rw [if_pos hc44] at hm
  refine Sr ?_
  refine Vy (Y_build underlying26 zeroValue26 (Tryz_places26 _ underlying26) rfl (by with_unfolding_all rfl)) (Mm ?_)
  refine V_storeC (Dw := Dw) (off := 0) (ds := [.slice none 0 0, .slice none 0 0, .slice none 0 0]) hH (i := 0) rfl sizeOf26 rfl (Nat.le_of_ble_eq_true rfl) (by exact (List.forall_mem_cons.2 ⟨rfl, (List.forall_mem_cons.2 ⟨rfl, (List.forall_mem_cons.2 ⟨rfl, (fun _ h => nomatch h)⟩)⟩)⟩)) rfl hB hA rfl rfl ?_
  intro w45 hH46 ht47
  replace hK := Tt hK ht47
  replace hH : Hp _ _ _ (obC b20 [.slice none 0 0, .slice none 0 0, .slice none 0 0] 26 :: []) := hH46
  refine As (To ?_)
  obtain rfl := Oi hm
  refine C_ret ?_
  try simp only [↓ib, ↓th]
  exact retQ rfl (Res.l2 results8 (RL.cell rfl (loadVar_agg (Hp.part (off := 0) (n := 3) (ds := [.slice none 0 0, .slice none 0 0, .slice none 0 0]) hH (i := 0) rfl rfl) isAgg26 sizeOf26)) (RL.tmp rfl)) ⟨.slice none 0 0, .slice none 0 0, .slice none 0 0, rfl, Sl.nil, Sl.nil, Sl.nil, hK.kp⟩
 rw [if_neg (nt hc44)] at hm
 refine Sk ?_
 refine C_seq ?_
 refine C_region_chz (Dw := Dw) A22 6 [(1, 0), (1, 1), (1, 2), (1, 4), (2, 3), (2, 5)] [(4, 7)] Tryz_mixed (by kernel_rfl) (fun w48 hk49 => ?_)
 have ht50 := Kp.tr hk49 hA hB; replace hH := Hp.kp hH hk49; replace h11 := El.tr h11 ht50; replace h17 := El.tr h17 ht50; replace hK := Tt hK ht50; replace hB := Bx hB ht50; replace hA := ht50.new
 refine CHZ_q2 rfl ?_
 obtain ⟨v51, v53, v55, h57, h52, h54, h56⟩ := El_know_Index h11
 refine Qv (fun w' hw' => Y_loadA (At.same h57 (hw'.2 _ h11.2.1 h11.1)) isAgg26 sizeOf26 rfl) (VQ_CHZ (CHZ_q2 rfl ?_))
 have h58 := El_know_Entry_0 h17
 refine Qf underlying33 rfl sizeOf3 (VQ_CHZ (CHZ_q2 rfl (Ql (fun w' hw' => (El.int (El.keep h58 (XA.ex hw')))) isAgg3 (VQ_CHZ (CHZ_q2 rfl ?_)))))
 obtain ⟨h59, _⟩ := El_know_Entry h17
 refine Qv (fun w' hw' => Y_loadA (At.same h59 (hw'.2 _ h17.2.1 h17.1)) isAgg33 sizeOf33 rfl) (VQ_CHZ ?_)
 refine CHZ_l1 (k := 0) [(2, 6), (2, 3), (2, 5), (4, 7)] rfl ?_ rfl ?_
 ·refine CH_l1 (k := 0) rfl ?_
  refine V_allocHk (Dw := Dw) (B := w.heap.size) hH zeroValue26 hB hA rfl ?_
  intro b60 w61 A62 hk65 hH63 ht64
  replace h52 := Sl.tr h52 ht64; replace h54 := Sl.tr h54 ht64; replace h56 := Sl.tr h56 ht64; replace hK := Tt hK ht64; replace hB := Bx hB ht64; replace hA := ht64.new
  replace hH : Hp _ _ _ (obC b60 [.slice none 0 0, .slice none 0 0, .slice none 0 0] 26 :: obC b20 [.slice none 0 0, .slice none 0 0, .slice none 0 0] 26 :: []) := hH63
  refine V_CH (hk65) ?_
  refine CH_l1 (k := 0) rfl ?_
  obtain ⟨x66, hx66, hm⟩ := Bs hm
  refine Vc call50 (know_Index_without_c (Dw := Dw) w61 hA x v51 h52 v53 h54 v55 h56 v.id_ hx66) ?_
  rintro _ w73 ⟨v67, v69, v71, rfl, h68, h70, h72, hk74⟩
  have ht75 := Kp.tr hk74 hA hB; replace hH := Hp.kp hH hk74; replace hK := Tt hK ht75; replace hB := Bx hB ht75; replace hA := ht75.new
  refine V_CH (hk74) ?_
  refine CH_l1 (k := 0) rfl ?_
  obtain ⟨x76, hx76, hm⟩ := Bs hm
  refine Vc call15 (know_Index_with_c (Dw := Dw) w73 hA x66 v67 h68 v69 h70 v71 h72 v hx76) ?_
  rintro _ w83 ⟨v77, v79, v81, rfl, h78, h80, h82, hk84⟩
  have ht85 := Kp.tr hk84 hA hB; replace hH := Hp.kp hH hk84; replace hK := Tt hK ht85; replace hB := Bx hB ht85; replace hA := ht85.new
  refine V_CH (hk84) ?_
  refine CH_l1 (k := 2) rfl ?_
  have h91 : (v77).oneCell' = true := by obtain ⟨_, _, e, _⟩ := Sl.form h78; rw [e]; rfl
  have h94 : (v79).oneCell' = true := by obtain ⟨_, _, e, _⟩ := Sl.form h80; rw [e]; rfl
  have h97 : (v81).oneCell' = true := by obtain ⟨_, _, e, _⟩ := Sl.form h82; rw [e]; rfl
  refine V_storeC (Dw := Dw) (off := 0) (ds := [v77, v79, v81]) hH (i := 0) rfl sizeOf26 rfl (Nat.le_of_ble_eq_true rfl) (by exact (List.forall_mem_cons.2 ⟨h91, (List.forall_mem_cons.2 ⟨h94, (List.forall_mem_cons.2 ⟨h97, (fun _ h => nomatch h)⟩)⟩)⟩)) rfl hB hA rfl rfl ?_
  intro w86 hH87 ht88
  replace h78 := Sl.tr h78 ht88; replace h80 := Sl.tr h80 ht88; replace h82 := Sl.tr h82 ht88; replace hK := Tt hK ht88; replace hB := Bx hB ht88; replace hA := ht88.new
  replace hH : Hp _ _ _ (obC b60 [v77, v79, v81] 26 :: obC b20 [.slice none 0 0, .slice none 0 0, .slice none 0 0] 26 :: []) := hH87
  obtain ⟨A98, ht99, h100, hH101⟩ := Hp.freezeC (Dw := Dw) (α := know_Index) (x := x76) hH (i := 0) rfl hA (by exact ⟨[v77], _, rfl, ⟨_, rfl, h78⟩, ⟨[v79], _, rfl, ⟨_, rfl, h80⟩, ⟨_, rfl, h82⟩⟩⟩)
  replace hK := Tt hK ht99; replace hB := Bx hB ht99; replace hA := ht99.new
  replace hH : Hp _ _ _ (obC b20 [.slice none 0 0, .slice none 0 0, .slice none 0 0] 26 :: []) := hH101
  refine V_CHw ?_
  refine CH_tail ?_
  show V _ _ _ _ [] _ _
  refine To ?_
  refine C_seq (Sr ?_)
  have h102 := El_know_Index_0 h100
  refine Fa underlying26 rfl sizeOf23 ?_
  obtain ⟨v103, h104, h105⟩ := El.list h102
  refine Ld h104 isAgg23 (Vy (Y_lenSl h105 rfl underlying23 rfl) (Vy (Y_gtr rfl rfl) (To ?_)))
  refine Cc (fun hc106 => ?_) fun hc106 => ?_
  ·rw [if_pos hc106] at hm
   refine Sr ?_
   refine Vy (Y_build underlying26 zeroValue26 (Tryz_places26 _ underlying26) rfl (by with_unfolding_all rfl)) ?_
   refine V_storeC (Dw := Dw) (off := 0) (ds := [.slice none 0 0, .slice none 0 0, .slice none 0 0]) hH (i := 0) rfl sizeOf26 rfl (Nat.le_of_ble_eq_true rfl) (by exact (List.forall_mem_cons.2 ⟨rfl, (List.forall_mem_cons.2 ⟨rfl, (List.forall_mem_cons.2 ⟨rfl, (fun _ h => nomatch h)⟩)⟩)⟩)) rfl hB hA rfl rfl ?_
   intro w107 hH108 ht109
   replace hK := Tt hK ht109
   replace hH : Hp _ _ _ (obC b20 [.slice none 0 0, .slice none 0 0, .slice none 0 0] 26 :: []) := hH108
   refine As (To ?_)
   obtain rfl := Oi hm
   refine C_ret ?_
   try simp only [↓ib, ↓th]
   exact retQ rfl (Res.l2 results8 (RL.cell rfl (loadVar_agg (Hp.part (off := 0) (n := 3) (ds := [.slice none 0 0, .slice none 0 0, .slice none 0 0]) hH (i := 0) rfl rfl) isAgg26 sizeOf26)) (RL.tmp rfl)) ⟨.slice none 0 0, .slice none 0 0, .slice none 0 0, rfl, Sl.nil, Sl.nil, Sl.nil, hK.kp⟩
  rw [if_neg (nt hc106)] at hm
  refine Sk ?_
  refine Sr ?_
  obtain ⟨v110, v112, v114, h116, h111, h113, h115⟩ := El_know_Index h100
  refine Vy (Y_loadA h116 isAgg26 sizeOf26 rfl) ?_
  have h122 : (v110).oneCell' = true := by obtain ⟨_, _, e, _⟩ := Sl.form h111; rw [e]; rfl
  have h125 : (v112).oneCell' = true := by obtain ⟨_, _, e, _⟩ := Sl.form h113; rw [e]; rfl
  have h128 : (v114).oneCell' = true := by obtain ⟨_, _, e, _⟩ := Sl.form h115; rw [e]; rfl
  refine V_storeC (Dw := Dw) (off := 0) (ds := [v110, v112, v114]) hH (i := 0) rfl sizeOf26 rfl (Nat.le_of_ble_eq_true rfl) (by exact (List.forall_mem_cons.2 ⟨h122, (List.forall_mem_cons.2 ⟨h125, (List.forall_mem_cons.2 ⟨h128, (fun _ h => nomatch h)⟩)⟩)⟩)) rfl hB hA rfl rfl ?_
  intro w117 hH118 ht119
  replace h111 := Sl.tr h111 ht119; replace h113 := Sl.tr h113 ht119; replace h115 := Sl.tr h115 ht119; replace hK := Tt hK ht119
  replace hH : Hp _ _ _ (obC b20 [v110, v112, v114] 26 :: []) := hH118
  refine As (To ?_)
  obtain rfl := Oi hm
  refine C_ret ?_
  try simp only [↓ib, ↓th]
  exact retQ rfl (Res.l2 results8 (RL.cell rfl (loadVar_agg (Hp.part (off := 0) (n := 3) (ds := [v110, v112, v114]) hH (i := 0) rfl rfl) isAgg26 sizeOf26)) (RL.tmp rfl)) ⟨v110, v112, v114, rfl, (Sl.out (Dw := Dw) h111 hA0 hK), (Sl.out (Dw := Dw) h113 hA0 hK), (Sl.out (Dw := Dw) h115 hA0 hK), hK.kp⟩
 obtain ⟨x129, hx129, hm⟩ := Bs hm
 refine Vc call50 (know_Index_without_c (Dw := Dw) w48 hA x v51 h52 v53 h54 v55 h56 v.id_ hx129) ?_
 rintro _ w136 ⟨v130, v132, v134, rfl, h131, h133, h135, hk137⟩
 have ht138 := Kp.tr hk137 hA hB; replace hH := Hp.kp hH hk137; replace hK := Tt hK ht138; replace hB := Bx hB ht138; replace hA := ht138.new
 refine V_CHZ (hk137) ?_
 refine CHZ_l1 (k := 0) [(2, 6), (2, 5), (4, 7)] rfl ?_ rfl ?_
 ·refine CH_l1 (k := 0) rfl ?_
  refine V_allocHk (Dw := Dw) (B := w.heap.size) hH zeroValue26 hB hA rfl ?_
  intro b139 w140 A141 hk144 hH142 ht143
  replace h131 := Sl.tr h131 ht143; replace h133 := Sl.tr h133 ht143; replace h135 := Sl.tr h135 ht143; replace hK := Tt hK ht143; replace hB := Bx hB ht143; replace hA := ht143.new
  replace hH : Hp _ _ _ (obC b139 [.slice none 0 0, .slice none 0 0, .slice none 0 0] 26 :: obC b20 [.slice none 0 0, .slice none 0 0, .slice none 0 0] 26 :: []) := hH142
  refine V_CH (hk144) ?_
  refine CH_l1 (k := 0) rfl ?_
  obtain ⟨x145, hx145, hm⟩ := Bs hm
  refine Vc call15 (know_Index_with_c (Dw := Dw) w140 hA x129 v130 h131 v132 h133 v134 h135 v hx145) ?_
  rintro _ w152 ⟨v146, v148, v150, rfl, h147, h149, h151, hk153⟩
  have ht154 := Kp.tr hk153 hA hB; replace hH := Hp.kp hH hk153; replace hK := Tt hK ht154; replace hB := Bx hB ht154; replace hA := ht154.new
  refine V_CH (hk153) ?_
  refine CH_l1 (k := 2) rfl ?_
  have h160 : (v146).oneCell' = true := by obtain ⟨_, _, e, _⟩ := Sl.form h147; rw [e]; rfl
  have h163 : (v148).oneCell' = true := by obtain ⟨_, _, e, _⟩ := Sl.form h149; rw [e]; rfl
  have h166 : (v150).oneCell' = true := by obtain ⟨_, _, e, _⟩ := Sl.form h151; rw [e]; rfl
  refine V_storeC (Dw := Dw) (off := 0) (ds := [v146, v148, v150]) hH (i := 0) rfl sizeOf26 rfl (Nat.le_of_ble_eq_true rfl) (by exact (List.forall_mem_cons.2 ⟨h160, (List.forall_mem_cons.2 ⟨h163, (List.forall_mem_cons.2 ⟨h166, (fun _ h => nomatch h)⟩)⟩)⟩)) rfl hB hA rfl rfl ?_
  intro w155 hH156 ht157
  replace h147 := Sl.tr h147 ht157; replace h149 := Sl.tr h149 ht157; replace h151 := Sl.tr h151 ht157; replace hK := Tt hK ht157; replace hB := Bx hB ht157; replace hA := ht157.new
  replace hH : Hp _ _ _ (obC b139 [v146, v148, v150] 26 :: obC b20 [.slice none 0 0, .slice none 0 0, .slice none 0 0] 26 :: []) := hH156
  obtain ⟨A167, ht168, h169, hH170⟩ := Hp.freezeC (Dw := Dw) (α := know_Index) (x := x145) hH (i := 0) rfl hA (by exact ⟨[v146], _, rfl, ⟨_, rfl, h147⟩, ⟨[v148], _, rfl, ⟨_, rfl, h149⟩, ⟨_, rfl, h151⟩⟩⟩)
  replace hK := Tt hK ht168; replace hB := Bx hB ht168; replace hA := ht168.new
  replace hH : Hp _ _ _ (obC b20 [.slice none 0 0, .slice none 0 0, .slice none 0 0] 26 :: []) := hH170
  refine V_CHw ?_
  refine CH_tail ?_
  show V _ _ _ _ [] _ _
  refine To ?_
  refine C_seq (Sr ?_)
  have h171 := El_know_Index_0 h169
  refine Fa underlying26 rfl sizeOf23 ?_
  obtain ⟨v172, h173, h174⟩ := El.list h171
  refine Ld h173 isAgg23 (Vy (Y_lenSl h174 rfl underlying23 rfl) (Vy (Y_gtr rfl rfl) (To ?_)))
  refine Cc (fun hc175 => ?_) fun hc175 => ?_
  ·rw [if_pos hc175] at hm
   refine Sr ?_
   refine Vy (Y_build underlying26 zeroValue26 (Tryz_places26 _ underlying26) rfl (by with_unfolding_all rfl)) ?_
   refine V_storeC (Dw := Dw) (off := 0) (ds := [.slice none 0 0, .slice none 0 0, .slice none 0 0]) hH (i := 0) rfl sizeOf26 rfl (Nat.le_of_ble_eq_true rfl) (by exact (List.forall_mem_cons.2 ⟨rfl, (List.forall_mem_cons.2 ⟨rfl, (List.forall_mem_cons.2 ⟨rfl, (fun _ h => nomatch h)⟩)⟩)⟩)) rfl hB hA rfl rfl ?_
   intro w176 hH177 ht178
   replace hK := Tt hK ht178
   replace hH : Hp _ _ _ (obC b20 [.slice none 0 0, .slice none 0 0, .slice none 0 0] 26 :: []) := hH177
   refine As (To ?_)
   obtain rfl := Oi hm
   refine C_ret ?_
   try simp only [↓ib, ↓th]
   exact retQ rfl (Res.l2 results8 (RL.cell rfl (loadVar_agg (Hp.part (off := 0) (n := 3) (ds := [.slice none 0 0, .slice none 0 0, .slice none 0 0]) hH (i := 0) rfl rfl) isAgg26 sizeOf26)) (RL.tmp rfl)) ⟨.slice none 0 0, .slice none 0 0, .slice none 0 0, rfl, Sl.nil, Sl.nil, Sl.nil, hK.kp⟩
  rw [if_neg (nt hc175)] at hm
  refine Sk ?_
  refine Sr ?_
  obtain ⟨v179, v181, v183, h185, h180, h182, h184⟩ := El_know_Index h169
  refine Vy (Y_loadA h185 isAgg26 sizeOf26 rfl) ?_
  have h191 : (v179).oneCell' = true := by obtain ⟨_, _, e, _⟩ := Sl.form h180; rw [e]; rfl
  have h194 : (v181).oneCell' = true := by obtain ⟨_, _, e, _⟩ := Sl.form h182; rw [e]; rfl
  have h197 : (v183).oneCell' = true := by obtain ⟨_, _, e, _⟩ := Sl.form h184; rw [e]; rfl
  refine V_storeC (Dw := Dw) (off := 0) (ds := [v179, v181, v183]) hH (i := 0) rfl sizeOf26 rfl (Nat.le_of_ble_eq_true rfl) (by exact (List.forall_mem_cons.2 ⟨h191, (List.forall_mem_cons.2 ⟨h194, (List.forall_mem_cons.2 ⟨h197, (fun _ h => nomatch h)⟩)⟩)⟩)) rfl hB hA rfl rfl ?_
  intro w186 hH187 ht188
  replace h180 := Sl.tr h180 ht188; replace h182 := Sl.tr h182 ht188; replace h184 := Sl.tr h184 ht188; replace hK := Tt hK ht188
  replace hH : Hp _ _ _ (obC b20 [v179, v181, v183] 26 :: []) := hH187
  refine As (To ?_)
  obtain rfl := Oi hm
  refine C_ret ?_
  try simp only [↓ib, ↓th]
  exact retQ rfl (Res.l2 results8 (RL.cell rfl (loadVar_agg (Hp.part (off := 0) (n := 3) (ds := [v179, v181, v183]) hH (i := 0) rfl rfl) isAgg26 sizeOf26)) (RL.tmp rfl)) ⟨v179, v181, v183, rfl, (Sl.out (Dw := Dw) h180 hA0 hK), (Sl.out (Dw := Dw) h182 hA0 hK), (Sl.out (Dw := Dw) h184 hA0 hK), hK.kp⟩
 obtain ⟨x198, hx198, hm⟩ := Bs hm
 refine Vc call15 (know_Index_with_c (Dw := Dw) w136 hA x129 v130 h131 v132 h133 v134 h135 v hx198) ?_
 rintro _ w205 ⟨v199, v201, v203, rfl, h200, h202, h204, hk206⟩
 have ht207 := Kp.tr hk206 hA hB; replace hH := Hp.kp hH hk206; replace hK := Tt hK ht207; replace hB := Bx hB ht207; replace hA := ht207.new
 refine V_CHZ (hk206) ?_
 refine CHZ_nil ?_
 refine CH_l1 (k := 0) rfl ?_
 refine V_allocHk (Dw := Dw) (B := w.heap.size) hH zeroValue26 hB hA rfl ?_
 intro b208 w209 A210 hk213 hH211 ht212
 replace h200 := Sl.tr h200 ht212; replace h202 := Sl.tr h202 ht212; replace h204 := Sl.tr h204 ht212; replace hK := Tt hK ht212; replace hB := Bx hB ht212; replace hA := ht212.new
 replace hH : Hp _ _ _ (obC b208 [.slice none 0 0, .slice none 0 0, .slice none 0 0] 26 :: obC b20 [.slice none 0 0, .slice none 0 0, .slice none 0 0] 26 :: []) := hH211
 refine V_CH (hk213) ?_
 refine CH_l1 (k := 2) rfl ?_
 have h219 : (v199).oneCell' = true := by obtain ⟨_, _, e, _⟩ := Sl.form h200; rw [e]; rfl
 have h222 : (v201).oneCell' = true := by obtain ⟨_, _, e, _⟩ := Sl.form h202; rw [e]; rfl
 have h225 : (v203).oneCell' = true := by obtain ⟨_, _, e, _⟩ := Sl.form h204; rw [e]; rfl
 refine V_storeC (Dw := Dw) (off := 0) (ds := [v199, v201, v203]) hH (i := 0) rfl sizeOf26 rfl (Nat.le_of_ble_eq_true rfl) (by exact (List.forall_mem_cons.2 ⟨h219, (List.forall_mem_cons.2 ⟨h222, (List.forall_mem_cons.2 ⟨h225, (fun _ h => nomatch h)⟩)⟩)⟩)) rfl hB hA rfl rfl ?_
 intro w214 hH215 ht216
 replace h200 := Sl.tr h200 ht216; replace h202 := Sl.tr h202 ht216; replace h204 := Sl.tr h204 ht216; replace hK := Tt hK ht216; replace hB := Bx hB ht216; replace hA := ht216.new
 replace hH : Hp _ _ _ (obC b208 [v199, v201, v203] 26 :: obC b20 [.slice none 0 0, .slice none 0 0, .slice none 0 0] 26 :: []) := hH215
 obtain ⟨A226, ht227, h228, hH229⟩ := Hp.freezeC (Dw := Dw) (α := know_Index) (x := x198) hH (i := 0) rfl hA (by exact ⟨[v199], _, rfl, ⟨_, rfl, h200⟩, ⟨[v201], _, rfl, ⟨_, rfl, h202⟩, ⟨_, rfl, h204⟩⟩⟩)
 replace hK := Tt hK ht227; replace hB := Bx hB ht227; replace hA := ht227.new
 replace hH : Hp _ _ _ (obC b20 [.slice none 0 0, .slice none 0 0, .slice none 0 0] 26 :: []) := hH229
 refine V_CHw ?_
 refine CH_tail ?_
 show V _ _ _ _ [] _ _
 refine To ?_
 refine C_seq (Sr ?_)
 have h230 := El_know_Index_0 h228
 refine Fa underlying26 rfl sizeOf23 ?_
 obtain ⟨v231, h232, h233⟩ := El.list h230
 refine Ld h232 isAgg23 (Vy (Y_lenSl h233 rfl underlying23 rfl) (Vy (Y_gtr rfl rfl) (To ?_)))
 refine Cc (fun hc234 => ?_) fun hc234 => ?_
 ·rw [if_pos hc234] at hm
  refine Sr ?_
  refine Vy (Y_build underlying26 zeroValue26 (Tryz_places26 _ underlying26) rfl (by with_unfolding_all rfl)) ?_
  refine V_storeC (Dw := Dw) (off := 0) (ds := [.slice none 0 0, .slice none 0 0, .slice none 0 0]) hH (i := 0) rfl sizeOf26 rfl (Nat.le_of_ble_eq_true rfl) (by exact (List.forall_mem_cons.2 ⟨rfl, (List.forall_mem_cons.2 ⟨rfl, (List.forall_mem_cons.2 ⟨rfl, (fun _ h => nomatch h)⟩)⟩)⟩)) rfl hB hA rfl rfl ?_
  intro w235 hH236 ht237
  replace hK := Tt hK ht237
  replace hH : Hp _ _ _ (obC b20 [.slice none 0 0, .slice none 0 0, .slice none 0 0] 26 :: []) := hH236
  refine As (To ?_)
  obtain rfl := Oi hm
  refine C_ret ?_
  try simp only [↓ib, ↓th]
  exact retQ rfl (Res.l2 results8 (RL.cell rfl (loadVar_agg (Hp.part (off := 0) (n := 3) (ds := [.slice none 0 0, .slice none 0 0, .slice none 0 0]) hH (i := 0) rfl rfl) isAgg26 sizeOf26)) (RL.tmp rfl)) ⟨.slice none 0 0, .slice none 0 0, .slice none 0 0, rfl, Sl.nil, Sl.nil, Sl.nil, hK.kp⟩
 rw [if_neg (nt hc234)] at hm
 refine Sk ?_
 refine Sr ?_
 obtain ⟨v238, v240, v242, h244, h239, h241, h243⟩ := El_know_Index h228
 refine Vy (Y_loadA h244 isAgg26 sizeOf26 rfl) ?_
 have h250 : (v238).oneCell' = true := by obtain ⟨_, _, e, _⟩ := Sl.form h239; rw [e]; rfl
 have h253 : (v240).oneCell' = true := by obtain ⟨_, _, e, _⟩ := Sl.form h241; rw [e]; rfl
 have h256 : (v242).oneCell' = true := by obtain ⟨_, _, e, _⟩ := Sl.form h243; rw [e]; rfl
 refine V_storeC (Dw := Dw) (off := 0) (ds := [v238, v240, v242]) hH (i := 0) rfl sizeOf26 rfl (Nat.le_of_ble_eq_true rfl) (by exact (List.forall_mem_cons.2 ⟨h250, (List.forall_mem_cons.2 ⟨h253, (List.forall_mem_cons.2 ⟨h256, (fun _ h => nomatch h)⟩)⟩)⟩)) rfl hB hA rfl rfl ?_
 intro w245 hH246 ht247
 replace h239 := Sl.tr h239 ht247; replace h241 := Sl.tr h241 ht247; replace h243 := Sl.tr h243 ht247; replace hK := Tt hK ht247
 replace hH : Hp _ _ _ (obC b20 [v238, v240, v242] 26 :: []) := hH246
 refine As (To ?_)
 obtain rfl := Oi hm
 refine C_ret ?_
 try simp only [↓ib, ↓th]
 exact retQ rfl (Res.l2 results8 (RL.cell rfl (loadVar_agg (Hp.part (off := 0) (n := 3) (ds := [v238, v240, v242]) hH (i := 0) rfl rfl) isAgg26 sizeOf26)) (RL.tmp rfl)) ⟨v238, v240, v242, rfl, (Sl.out (Dw := Dw) h239 hA0 hK), (Sl.out (Dw := Dw) h241 hA0 hK), (Sl.out (Dw := Dw) h243 hA0 hK), hK.kp⟩
theorem portref2_isWordByte_c (w : World) (b : Int) : Ret prog 100 #[.int .u8 b] w fun v w' => v = .bool (portref2_isWordByte b) ∧ w = w' := by
 generalize hm : portref2_isWordByte b = r
 unfold portref2_isWordByte at hm
 refine enter func100 rfl ntmps100 rfl ?_
 refine Sr (As (To ?_))
 refine Sr (Mm (Vy (Y_geq rfl rfl) (Mm ?_)))
 refine V_cut 3 (fun _ : Unit => [(0, .int .u8 b), (8, .bool ((decide ((97 : Int) ≤ b)) && (decide (b ≤ 122))))]) (fun _ w' => w = w') ?_ ?_
 ·simp only [List.take, List.drop]
  rcases Be (decide ((97 : Int) ≤ b)) with hc1 | hc1
  ·refine Gf hc1 (Mm (Gf hc1 (Vy (Y_leq rfl rfl) (Vy (Y_pick_te rfl hc1 rfl) ?_))))
   exact V_end fun a ha => ⟨(), ha.sub ⟨rfl, (by rw [hc1]; rfl), trivial⟩, rfl⟩
  refine Gm hc1 (Gm hc1 (Vy (Y_pick_fe rfl hc1 rfl) ?_))
  exact V_end fun a ha => ⟨(), ha.sub ⟨rfl, (by rw [hc1]; rfl), trivial⟩, rfl⟩
 simp only [List.take, List.drop]
 rintro _ _ rfl
 refine Mm ?_
 refine V_cut 7 (fun _ : Unit => [(0, .int .u8 b), (16, .bool (((decide ((97 : Int) ≤ b)) && (decide (b ≤ 122))) || ((decide ((65 : Int) ≤ b)) && (decide (b ≤ 90)))))]) (fun _ w' => w = w') ?_ ?_
 ·simp only [List.take, List.drop]
  rcases Be (((decide ((97 : Int) ≤ b)) && (decide (b ≤ 122)))) with hc3 | hc3
  ·refine Gm hc3 (Gm hc3 (Gm hc3 ?_))
   refine V_gu rfl rfl rfl rfl rfl ?_
   refine V_gu rfl rfl rfl rfl rfl ?_
   refine Gm hc3 (Vy (Y_pick_te rfl hc3 rfl) ?_)
   exact V_end fun a ha => ⟨(), ha.sub ⟨rfl, (by rw [hc3]; rfl), trivial⟩, rfl⟩
  refine Gf hc3 (Mm (Gf hc3 (Vy (Y_geq rfl rfl) (Gf hc3 (Mm ?_)))))
  refine V_cut 3 (fun _ : Unit => [(0, .int .u8 b), (9, .bool ((decide ((97 : Int) ≤ b)) && (decide (b ≤ 122)))), (15, .bool ((decide ((65 : Int) ≤ b)) && (decide (b ≤ 90))))]) (fun _ w' => w = w') ?_ ?_
  ·simp only [List.take, List.drop]
   rcases Be (decide ((65 : Int) ≤ b)) with hc5 | hc5
   ·refine Gf hc5 (Mm (Gf hc5 (Vy (Y_leq rfl rfl) (Gf hc3 (Vy (Y_pick_te rfl hc5 rfl) ?_)))))
    exact V_end fun a ha => ⟨(), ha.sub ⟨rfl, rfl, (by rw [hc5]; rfl), trivial⟩, rfl⟩
   refine Gm hc5 (Gm hc5 (Gf hc3 (Vy (Y_pick_fe rfl hc5 rfl) ?_)))
   exact V_end fun a ha => ⟨(), ha.sub ⟨rfl, rfl, (by rw [hc5]; rfl), trivial⟩, rfl⟩
  simp only [List.take, List.drop]
  rintro _ _ rfl
  refine Vy (Y_pick_fe rfl hc3 rfl) ?_
  exact V_end fun a ha => ⟨(), ha.sub ⟨rfl, (by rw [hc3]; rfl), trivial⟩, rfl⟩
 simp only [List.take, List.drop]
 rintro _ _ rfl
 refine Mm ?_
 refine V_cut 7 (fun _ : Unit => [(0, .int .u8 b), (24, .bool ((((decide ((97 : Int) ≤ b)) && (decide (b ≤ 122))) || ((decide ((65 : Int) ≤ b)) && (decide (b ≤ 90)))) || ((decide ((48 : Int) ≤ b)) && (decide (b ≤ 57)))))]) (fun _ w' => w = w') ?_ ?_
 ·simp only [List.take, List.drop]
  rcases Be ((((decide ((97 : Int) ≤ b)) && (decide (b ≤ 122))) || ((decide ((65 : Int) ≤ b)) && (decide (b ≤ 90))))) with hc7 | hc7
  ·refine Gm hc7 (Gm hc7 (Gm hc7 ?_))
   refine V_gu rfl rfl rfl rfl rfl ?_
   refine V_gu rfl rfl rfl rfl rfl ?_
   refine Gm hc7 (Vy (Y_pick_te rfl hc7 rfl) ?_)
   exact V_end fun a ha => ⟨(), ha.sub ⟨rfl, (by rw [hc7]; rfl), trivial⟩, rfl⟩
  refine Gf hc7 (Mm (Gf hc7 (Vy (Y_geq rfl rfl) (Gf hc7 (Mm ?_)))))
  refine V_cut 3 (fun _ : Unit => [(0, .int .u8 b), (17, .bool (((decide ((97 : Int) ≤ b)) && (decide (b ≤ 122))) || ((decide ((65 : Int) ≤ b)) && (decide (b ≤ 90))))), (23, .bool ((decide ((48 : Int) ≤ b)) && (decide (b ≤ 57))))]) (fun _ w' => w = w') ?_ ?_
  ·simp only [List.take, List.drop]
   rcases Be (decide ((48 : Int) ≤ b)) with hc9 | hc9
   ·refine Gf hc9 (Mm (Gf hc9 (Vy (Y_leq rfl rfl) (Gf hc7 (Vy (Y_pick_te rfl hc9 rfl) ?_)))))
    exact V_end fun a ha => ⟨(), ha.sub ⟨rfl, rfl, (by rw [hc9]; rfl), trivial⟩, rfl⟩
   refine Gm hc9 (Gm hc9 (Gf hc7 (Vy (Y_pick_fe rfl hc9 rfl) ?_)))
   exact V_end fun a ha => ⟨(), ha.sub ⟨rfl, rfl, (by rw [hc9]; rfl), trivial⟩, rfl⟩
  simp only [List.take, List.drop]
  rintro _ _ rfl
  refine Vy (Y_pick_fe rfl hc7 rfl) ?_
  exact V_end fun a ha => ⟨(), ha.sub ⟨rfl, (by rw [hc7]; rfl), trivial⟩, rfl⟩
 simp only [List.take, List.drop]
 rintro _ _ rfl
 refine Mm ?_
 refine V_cut 3 (fun _ : Unit => [(28, .bool (((((decide ((97 : Int) ≤ b)) && (decide (b ≤ 122))) || ((decide ((65 : Int) ≤ b)) && (decide (b ≤ 90)))) || ((decide ((48 : Int) ≤ b)) && (decide (b ≤ 57)))) || (decide ((128 : Int) ≤ b))))]) (fun _ w' => w = w') ?_ ?_
 ·simp only [List.take, List.drop]
  rcases Be (((((decide ((97 : Int) ≤ b)) && (decide (b ≤ 122))) || ((decide ((65 : Int) ≤ b)) && (decide (b ≤ 90)))) || ((decide ((48 : Int) ≤ b)) && (decide (b ≤ 57))))) with hc11 | hc11
  ·refine Gm hc11 (Gm hc11 (Vy (Y_pick_te rfl hc11 rfl) ?_))
   exact V_end fun a ha => ⟨(), ha.sub ⟨(by rw [hc11]; rfl), trivial⟩, rfl⟩
  refine Gf hc11 (Mm (Gf hc11 (Vy (Y_geq rfl rfl) (Vy (Y_pick_fe rfl hc11 rfl) ?_))))
  exact V_end fun a ha => ⟨(), ha.sub ⟨(by rw [hc11]; rfl), trivial⟩, rfl⟩
 simp only [List.take, List.drop]
 rintro _ _ rfl
 refine As (To ?_)
 obtain rfl := hm
 refine Rt (Res.one results100 rfl) ?_
 exact ⟨rfl, rfl⟩
theorem portref2_lower_c (w : World) {A : Nat → Prop} (hA : ∀ b, w.heap.size ≤ b → A b) (s : ByteArray) {r : ByteArray} (hm : portref2_lower s = some r) : Ret prog 101 #[.string s] w fun v w' => v = .string r ∧ Kp Dw w w' := by
 unfold portref2_lower at hm
 refine enter func101 rfl ntmps101 rfl ?_
 have hA0 := hA
 obtain ⟨hB, hK, hH⟩ := St (Dw := Dw) hA
 refine Sr (As (To ?_))
 refine Sr (Mm ?_)
 obtain ⟨x1, hx1, hm⟩ := Bs hm
 refine V_convU (Dw := Dw) (e := 5) hH hx1 underlying9 underlying227 underlying5 hB hA rfl rfl ?_
 intro v2 w3 A4 hH5 ht6
 replace hK := Tt hK ht6; replace hB := Bx hB ht6; replace hA := ht6.new
 replace hH : Hp _ _ _ (obU 5 v2 x1 :: []) := hH5
 refine As (To ?_)
 refine C_seq (Sr (Mm (Vy (Y_lenSl (Hp.anyU (e := 5) (v := v2) (l := x1) hH (i := 0) rfl) rfl underlying227 rfl) (Mm (To ?_)))))
 have hn31 := Hp.leU (e := 5) (v := v2) (l := x1) hH (i := 0) rfl
 obtain ⟨o7, ho7, hm⟩ := Bs hm
 refine C_cutG (ι := ((List UInt8) × Value × (Nat → Prop))) (fun ⟨s8, v14, A16⟩ => [(3, v14)]) (fun ⟨s8, v14, A16⟩ => fun w' => o7 = .fin s8 ∧ Hp w.heap.size A16 w' (obU 5 v14 s8 :: []) ∧ Tr Dw w.heap.size A4 w3 A16 w') ?_ ?_
 ·refine C_block ?_
  refine C_range ho7 (fun k10 s18 a w' => ∃ i : (Value × (Nat → Prop)), Has ⟨29, [], none⟩ a ([(3, i.1), (8, i.1), (9, Ii (x1.length : Int)), (10, Ii (k10 : Int))]) ∧ Hp w.heap.size i.2 w' (obU 5 i.1 s18 :: []) ∧ Tr Dw w.heap.size A4 w3 i.2 w') (fun a ha => ⟨(v2, A4), ha.sb, ⟨hH, Tr.refl (Dw := Dw) hA⟩⟩) ?_
  rintro K k10 s18 a w19 ⟨⟨v20, A22⟩, ha74, hH23, hr9⟩ hle27 K30 h29
  refine C_of ?_ ha74
  replace hB := Bx hB hr9; replace hA := hr9.new
  replace hH : Hp _ _ _ (obU 5 v20 s18 :: []) := hH23
  refine Sr (Vy (Y_lss rfl rfl) (To ?_))
  refine C_seq ?_
  refine Cc (fun hc32 => ?_) fun hc32 => ?_
  ·have hlt28 := lt_of_dec hc32
   obtain ⟨x24, h25, h26⟩ := K30 hlt28
   refine Sk ?_
   refine C_seq ?_
   obtain ⟨s34, ho33, h25⟩ := Bs h25
   refine C_cutG (ι := (Value × (Nat → Prop))) (fun ⟨v36, A41⟩ => [(3, v36), (8, v36), (9, Ii (x1.length : Int)), (10, Ii (k10 : Int))]) (fun ⟨v36, A41⟩ => fun w' => Hp w.heap.size A41 w' (obU 5 v36 s34 :: []) ∧ Tr Dw w.heap.size A22 w19 A41 w') ?_ ?_
   ·have hr35 : Tr Dw w.heap.size A22 w19 A22 w19 := Tr.refl (Dw := Dw) hA
    refine C_block (Sr (Mm ?_))
    obtain ⟨x43, hx43, ho33⟩ := Bs ho33
    refine V_indexAddrU (e := 5) (v := v20) (l := s18) hH (i := 0) rfl hx43 underlying227 sizeOf5 rfl rfl rfl ?_
    intro b44 o45 h46 hl47
    refine Ld (El.u8 h46) isAgg5 (As (As (To ?_)))
    refine Sr (Mm (Vy (Y_geq rfl rfl) (Mm ?_)))
    refine V_cut 3 (fun _ : Unit => [(3, v20), (4, Ii (k10 : Int)), (5, .int .u8 (x43.toNat : Int)), (8, v20), (9, Ii (x1.length : Int)), (10, Ii (k10 : Int)), (20, .bool ((decide ((65 : Int) ≤ (x43.toNat : Int))) && (decide ((x43.toNat : Int) ≤ 90))))]) (fun _ w' => w19 = w') ?_ ?_
    ·simp only [List.take, List.drop]
     rcases Be (decide ((65 : Int) ≤ (x43.toNat : Int))) with hc48 | hc48
     ·refine Gf hc48 (Mm (Gf hc48 (Vy (Y_leq rfl rfl) (Vy (Y_pick_te rfl hc48 rfl) ?_))))
      exact V_end fun a ha => ⟨(), ha.sub ⟨rfl, rfl, rfl, rfl, rfl, rfl, (by rw [hc48]; rfl), trivial⟩, rfl⟩
     refine Gm hc48 (Gm hc48 (Vy (Y_pick_fe rfl hc48 rfl) ?_))
     exact V_end fun a ha => ⟨(), ha.sub ⟨rfl, rfl, rfl, rfl, rfl, rfl, (by rw [hc48]; rfl), trivial⟩, rfl⟩
    simp only [List.take, List.drop]
    rintro _ _ rfl
    refine To ?_
    obtain ⟨s51, ho50, ho33⟩ := Bs ho33
    refine C_cutG (ι := (Value × (Nat → Prop))) (fun ⟨v53, A58⟩ => [(3, v53), (8, v53), (9, Ii (x1.length : Int)), (10, Ii (k10 : Int))]) (fun ⟨v53, A58⟩ => fun w' => Hp w.heap.size A58 w' (obU 5 v53 s51 :: []) ∧ Tr Dw w.heap.size A22 w19 A58 w') ?_ ?_
    ·have hr52 : Tr Dw w.heap.size A22 w19 A22 w19 := Tr.refl (Dw := Dw) hA
     refine Cc (fun hc60 => ?_) fun hc60 => ?_
     ·rw [if_pos hc60] at ho50
      refine C_region (Mm (Mm (Mm (Vy (Y_addB rfl rfl) ?_))))
      refine V_indexAddrU (e := 5) (v := v20) (l := s18) hH (i := 0) rfl hx43 underlying227 sizeOf5 rfl rfl rfl ?_
      intro b61 o62 h63 hl64
      obtain ⟨x65, hx65, ho50⟩ := Bs ho50
      refine V_storeU (Dw := Dw) (e := 5) (v := v20) (l := s18) hH (i := 0) rfl hl64 hx65 rfl sizeOf5 rfl hB hA rfl rfl ?_
      intro w66 hH67 ht68
      replace hr52 := Tt hr52 ht68
      replace hH : Hp _ _ _ (obU 5 v20 x65 :: []) := hH67
      obtain rfl := Oi ho50
      refine V_end (fun a ha69 => ?_)
      exact ⟨(v20, A22), ha69.sb, ⟨hH, hr52⟩⟩
     rw [if_neg (nt hc60)] at ho50
     obtain rfl := Oi ho50
     refine C_skip (fun a ha70 => ?_)
     exact ⟨(v20, A22), ha70.sb, ⟨hH, hr52⟩⟩
    rintro ⟨v53, A58⟩ w55 ⟨hH59, hk56⟩ a ha57
    replace hr35 := Tr.trans hr35 hk56; replace hA := hk56.new
    replace hH : Hp _ _ _ (obU 5 v53 s51 :: []) := hH59
    obtain rfl := Oi ho33
    exact ⟨(v53, A58), ha57.sb, ⟨hH, hr35⟩⟩
   rintro ⟨v36, A41⟩ w38 ⟨hH42, hk39⟩ a ha40
   replace hr9 := Tr.trans hr9 hk39; replace hA := hk39.new
   replace hH : Hp _ _ _ (obU 5 v36 s34 :: []) := hH42
   refine C_at (n := ⟨29, [], none⟩) (fun _ _ => rfl) ?_ ha40
   refine C_region (Vy (Y_addI rfl rfl) (Mm ?_))
   obtain rfl := Oi h25
   refine V_end (fun a ha72 => ?_)
   exact ⟨s34, hlt28, h26, ⟨(v36, A41), ha72.sub ⟨rfl, rfl, rfl, Ws hlt28 hn31, trivial⟩, ⟨hH, hr9⟩⟩⟩
  refine C_exit (fun a ha73 => ?_)
  exact ⟨(s18, v20, A22), ha73.sb, ⟨(h29 (eq_of_dec hle27 hc32)).symm, hH, hr9⟩⟩
 rintro ⟨s8, v14, A16⟩ w11 ⟨rfl, hH17, hk12⟩ a ha13
 rw [Lp.andThen_fin] at hm
 replace hK := Tr.trans hK hk12; replace hA := hk12.new
 replace hH : Hp _ _ _ (obU 5 v14 s8 :: []) := hH17
 refine C_at (n := ⟨29, [], none⟩) (fun _ _ => rfl) ?_ ha13
 refine Sr (Mm ?_)
 obtain ⟨A75, ht76, h77, hH78⟩ := Hp.freezeU (Dw := Dw) (v := v14) (l := s8) hH (i := 0) rfl hA
 replace hK := Tt hK ht76; replace hH := hH78
 refine Vy (Y_convBS (l := s8) h77 underlying227 underlying5 underlying9 rfl) (As (To ?_))
 obtain rfl := Oi hm
 refine Rt (Res.one results101 rfl) ?_
 exact ⟨rfl, hK.kp⟩
theorem portref2_WordsOf_c (w : World) {A : Nat → Prop} (hA : ∀ b, w.heap.size ≤ b → A b) (s : ByteArray) {r : (List ByteArray)} (hm : portref2_WordsOf s = some r) : Ret prog 67 #[.string s] w fun v w' => ∃ s0, v = s0 ∧ Ownd 9 w w' s0 r ∧ Kp Dw w w' := by
 unfold portref2_WordsOf at hm
 refine enter func67 rfl ntmps67 rfl ?_
 have hA0 := hA
 obtain ⟨hB, hK, hH⟩ := St (Dw := Dw) hA
 refine Sr (As (To ?_))
 refine Sr (As (To ?_))
 refine C_seq (Sr (As (To ?_)))
 replace hH : Hp w.heap.size A w (o_9 (.slice none 0 0) ([] : (List ByteArray)) :: []) := Hp.addNil (α := ByteArray) (e := 9) hH
 obtain ⟨o1, ho1, hm⟩ := Bs hm
 refine C_cutG (ι := (((List ByteArray) × Int) × Value × (Nat → Prop))) (fun ⟨s2, v8, A10⟩ => [(3, v8)]) (fun ⟨s2, v8, A10⟩ => fun w' => o1 = .fin s2 ∧ Hp w.heap.size A10 w' (o_9 v8 s2.1 :: []) ∧ Tr Dw w.heap.size A w A10 w') ?_ ?_
 ·refine C_block ?_
  refine C_while ho1 (fun s12 a w' => ∃ i : (Value × (Nat → Prop)), Has ⟨45, [], none⟩ a ([(0, .string s), (3, i.1), (4, Ii s12.2)]) ∧ Hp w.heap.size i.2 w' (o_9 i.1 s12.1 :: []) ∧ Tr Dw w.heap.size A w i.2 w') (fun a ha => ⟨(.slice none 0 0, A), ha.sb, ⟨hH, Tr.refl (Dw := Dw) hA⟩⟩) ?_
  rintro K s12 a w13 ⟨⟨v14, A16⟩, ha83, hH17, hr3⟩ K24
  refine C_of ?_ ha83
  replace hB := Bx hB hr3; replace hA := hr3.new
  replace hH : Hp _ _ _ (o_9 v14 s12.1 :: []) := hH17
  obtain ⟨x18, h19, h20⟩ := K24
  refine C_seq (Sr (Mm (Mm (Vy (Y_lenStr rfl underlying9 rfl) (Vy (Y_lss rfl rfl) (To ?_))))))
  refine Cc (fun hc25 => ?_) fun hc25 => ?_
  ·rw [if_pos hc25] at h19
   refine Sk ?_
   refine C_block (Sr (Mm (As (To ?_))))
   refine C_seq ?_
   obtain ⟨o26, ho26, h19⟩ := Bs h19
   refine C_cutG (ι := Int) (fun (s27 : Int) => [(0, .string s), (3, v14), (4, Ii s12.2), (5, Ii s27)]) (fun (s27 : Int) => fun w' => o26 = .fin s27 ∧ w13 = w') ?_ ?_
   ·refine C_block ?_
    refine C_while ho26 (fun s33 a w' => ∃ i : Unit, Has ⟨45, [], none⟩ a ([(0, .string s), (3, v14), (4, Ii s12.2), (5, Ii s33)]) ∧ w13 = w') (fun a ha => ⟨(), ha.sb, rfl⟩) ?_
    rintro K s33 a _ ⟨_, ha48, rfl⟩ K41
    refine C_of ?_ ha48
    obtain ⟨x35, h36, h37⟩ := K41
    refine C_seq (Sr (Mm (Mm (Vy (Y_lenStr rfl underlying9 rfl) (Vy (Y_lss rfl rfl) (Mm ?_))))))
    obtain ⟨s43, hs43, h36⟩ := Bs h36
    refine V_cut 5 (fun _ : Unit => [(0, .string s), (3, v14), (4, Ii s12.2), (5, Ii s33), (20, .bool s43)]) (fun _ w' => w13 = w') ?_ ?_
    ·simp only [List.take, List.drop]
     rcases Be (decide (s33 < (s.size : Int))) with hc42 | hc42
     ·rw [if_pos hc42] at hs43
      refine Gf hc42 (Mm (Gf hc42 (Mm (Gf hc42 ?_))))
      obtain ⟨x44, hx44, hs43⟩ := Bs hs43
      refine Vy (Y_indexS hx44 underlying9 rfl rfl) (Gf hc42 ?_)
      refine Vc call100 (portref2_isWordByte_c w13 (x44.toNat : Int)) ?_
      rintro _ _ ⟨rfl, rfl⟩
      refine Vy (Y_pick_te rfl hc42 rfl) ?_
      obtain rfl := Oi hs43
      exact V_end fun a ha => ⟨(), ha.sb, rfl⟩
     rw [if_neg (nt hc42)] at hs43
     refine Gm hc42 (Gm hc42 (Gm hc42 (Gm hc42 (Vy (Y_pick_fe rfl hc42 rfl) ?_))))
     obtain rfl := Oi hs43
     exact V_end fun a ha => ⟨(), ha.sb, rfl⟩
    simp only [List.take, List.drop]
    rintro _ _ rfl
    refine To ?_
    refine Cc (fun hc45 => ?_) fun hc45 => ?_
    ·rw [if_pos hc45] at h36
     refine Sk ?_
     refine C_block (C_region (Mm (Vy (Y_addI rfl rfl) (As ?_))))
     obtain rfl := Oi h36
     refine V_end (fun a ha46 => ?_)
     exact ⟨w64 (s33 + 1), h37, ⟨(), ha46.sb, rfl⟩⟩
    rw [if_neg (nt hc45)] at h36
    obtain rfl := Oi h36
    refine C_exit (fun a ha47 => ?_)
    exact ⟨s33, ha47.sb, ⟨h37.symm, rfl⟩⟩
   rintro s27 _ ⟨rfl, rfl⟩ a ha32
   rw [Lp.andThen_fin] at h19
   refine C_at (n := ⟨45, [], none⟩) (fun _ _ => rfl) ?_ ha32
   refine C_seq (Sr (Mm (Mm (Vy (Y_gtr rfl rfl) (Mm ?_)))))
   refine V_cut 5 (fun _ : Unit => [(0, .string s), (3, v14), (4, Ii s12.2), (5, Ii s27), (31, .bool ((decide (s12.2 < s27)) && (decide ((w64 (s27 - s12.2)) ≤ 30))))]) (fun _ w' => w13 = w') ?_ ?_
   ·simp only [List.take, List.drop]
    rcases Be (decide (s12.2 < s27)) with hc49 | hc49
    ·refine Gf hc49 (Mm (Gf hc49 (Mm (Gf hc49 (Vy (Y_subI rfl rfl) (Gf hc49 (Vy (Y_leq rfl rfl) (Vy (Y_pick_te rfl hc49 rfl) ?_))))))))
     exact V_end fun a ha => ⟨(), ha.sub ⟨rfl, rfl, rfl, rfl, (by rw [hc49]; rfl), trivial⟩, rfl⟩
    refine Gm hc49 (Gm hc49 (Gm hc49 (Gm hc49 (Vy (Y_pick_fe rfl hc49 rfl) ?_))))
    exact V_end fun a ha => ⟨(), ha.sub ⟨rfl, rfl, rfl, rfl, (by rw [hc49]; rfl), trivial⟩, rfl⟩
   simp only [List.take, List.drop]
   rintro _ _ rfl
   refine To ?_
   obtain ⟨s52, ho51, h19⟩ := Bs h19
   refine C_cutG (ι := (Value × (Nat → Prop))) (fun ⟨v54, A59⟩ => [(0, .string s), (3, v54), (4, Ii s12.2), (5, Ii s27)]) (fun ⟨v54, A59⟩ => fun w' => Hp w.heap.size A59 w' (o_9 v54 s52 :: []) ∧ Tr Dw w.heap.size A16 w13 A59 w') ?_ ?_
   ·have hr53 : Tr Dw w.heap.size A16 w13 A16 w13 := Tr.refl (Dw := Dw) hA
    refine Cc (fun hc61 => ?_) fun hc61 => ?_
    ·rw [if_pos hc61] at ho51
     refine C_region (Mm (Mm (Mm (Mm ?_))))
     obtain ⟨x62, hx62, ho51⟩ := Bs ho51
     refine Vy (Y_sliceSLH hx62 underlying9 rfl rfl rfl) ?_
     obtain ⟨x63, hx63, ho51⟩ := Bs ho51
     refine Vc call101 (portref2_lower_c (Dw := Dw) w13 hA x62 hx63) ?_
     rintro _ w65 ⟨rfl, hk66⟩
     have ht67 := Kp.tr hk66 hA hB; replace hH := Hp.kp hH hk66; replace hr53 := Tt hr53 ht67; replace hB := Bx hB ht67; replace hA := ht67.new
     refine V_buildSlice (Dw := Dw) (l := ([x63] : List ByteArray)) (len := 1) underlying73 sizeOf9 zeroValue9 rfl (by with_unfolding_all rfl) (show (1 * 1 : Nat) ≠ 0 by decide) (show (1 * 1 : Nat) ≤ 2 ^ 24 by decide) hA ⟨[.string x63], _, rfl, rfl, rfl⟩ rfl rfl ?_
     intro v68 w69 hk71 h70
     have ht72 := Kp.tr hk71 hA hB; replace hH := Hp.kp hH hk71; replace hr53 := Tt hr53 ht72; replace hB := Bx hB ht72; replace hA := ht72.new
     obtain ⟨x73, hx73, ho51⟩ := Bs ho51
     refine V_appendH (Dw := Dw) (e := 9) (v := v14) (l := s12.1) (ti := t9) (bytes := 16) (lim := 8796093022208) hH (i := 0) rfl h70 hx73 underlying73 Tryz_info9 rfl rfl rfl rfl (by decide) (by decide) (by decide) hB hA rfl rfl rfl ?_
     intro v74 w75 A76 hH77 ht78
     replace hr53 := Tt hr53 ht78
     replace hH : Hp _ _ _ (o_9 v74 x73 :: []) := hH77
     refine As ?_
     obtain rfl := Oi ho51
     refine V_end (fun a ha79 => ?_)
     exact ⟨(v74, A76), ha79.sb, ⟨hH, hr53⟩⟩
    rw [if_neg (nt hc61)] at ho51
    obtain rfl := Oi ho51
    refine C_skip (fun a ha80 => ?_)
    exact ⟨(v14, A16), ha80.sb, ⟨hH, hr53⟩⟩
   rintro ⟨v54, A59⟩ w56 ⟨hH60, hk57⟩ a ha58
   replace hr3 := Tr.trans hr3 hk57; replace hA := hk57.new
   replace hH : Hp _ _ _ (o_9 v54 s52 :: []) := hH60
   refine C_at (n := ⟨45, [], none⟩) (fun _ _ => rfl) ?_ ha58
   refine C_region (Mm (Mm (Vy (Y_addI rfl rfl) (Vy (Y_max2 rfl rfl) (As ?_)))))
   obtain rfl := Oi h19
   refine V_end (fun a ha81 => ?_)
   exact ⟨(s52, (if s27 < w64 (s12.2 + 1) then w64 (s12.2 + 1) else s27)), h20, ⟨(v54, A59), ha81.sb, ⟨hH, hr3⟩⟩⟩
  rw [if_neg (nt hc25)] at h19
  obtain rfl := Oi h19
  refine C_exit (fun a ha82 => ?_)
  exact ⟨((s12.1, s12.2), v14, A16), ha82.sb, ⟨h20.symm, hH, hr3⟩⟩
 rintro ⟨s2, v8, A10⟩ w5 ⟨rfl, hH11, hk6⟩ a ha7
 rw [Lp.andThen_fin] at hm
 replace hK := Tr.trans hK hk6; replace hA := hk6.new
 replace hH : Hp _ _ _ (o_9 v8 s2.1 :: []) := hH11
 refine C_at (n := ⟨45, [], none⟩) (fun _ _ => rfl) ?_ ha7
 refine Sr (Mm (As (To ?_)))
 obtain rfl := Oi hm
 refine Rt (Res.one results67 rfl) ?_
 exact ⟨v8, rfl, (Hp.ownd hH (i := 0) rfl), hK.kp⟩
theorem slices_Index_Lint_int_c (w : World) {A : Nat → Prop} (s : (List Int)) (v_s : Value) (h_s : Sl A w v_s s) (v : Int) {r : Int} (hm : slices_Index_Lint_int s v = some r) : Ret prog 68 #[v_s, Ii v] w fun v w' => v = Ii r ∧ w = w' := by
 unfold slices_Index_Lint_int at hm
 refine enter func68 rfl ntmps68 rfl ?_
 refine Sr (As (To ?_))
 refine C_seq (Sr (Mm (Vy (Y_lenSl h_s rfl underlying23 rfl) (Mm (To ?_)))))
 have hn19 := Sl.le h_s
 obtain ⟨o3, ho3, hm⟩ := Bs hm
 refine C_cutG (ι := Unit) (fun (s4 : Unit) => []) (fun (s4 : Unit) => fun w' => o3 = .fin s4 ∧ w = w') ?_ ?_
 ·refine C_block ?_
  refine C_range ho3 (fun k6 _ a w' => ∃ i : Unit, Has ⟨19, [], none⟩ a ([(0, v_s), (1, Ii v), (7, Ii (s.length : Int)), (8, Ii (k6 : Int))]) ∧ w = w') (fun a ha => ⟨(), ha.sb, rfl⟩) ?_
  rintro K k6 _ a _ ⟨_, ha28, rfl⟩ hle15 K18 h17
  refine C_of ?_ ha28
  refine Sr (Vy (Y_lss rfl rfl) (To ?_))
  refine C_seq ?_
  refine Cc (fun hc20 => ?_) fun hc20 => ?_
  ·have hlt16 := lt_of_dec hc20
   obtain ⟨x12, h13, h14⟩ := K18 hlt16
   refine Sk ?_
   refine C_seq (C_block (Sr (Mm (As (To ?_)))))
   refine Sr (Mm (Mm (Mm ?_)))
   obtain ⟨x21, hx21, h13⟩ := Bs h13
   refine V_indexAddr h_s hx21 underlying23 sizeOf3 rfl rfl rfl ?_
   intro b22 o23 h24
   refine Li h24 isAgg3 (Vy (Y_eql rfl rfl) (To ?_))
   refine Cc (fun hc25 => ?_) fun hc25 => ?_
   ·rw [if_pos hc25] at h13
    refine Sr (Mm (As (To ?_)))
    obtain rfl := Oi h13
    obtain rfl := (h14 : Lp.rt _ = _)
    rw [Lp.andThen_rt] at hm
    obtain rfl := Oi hm
    refine Rt (Res.one results68 rfl) ?_
    exact ⟨rfl, rfl⟩
   rw [if_neg (nt hc25)] at h13
   refine Sk ?_
   refine C_region (Vy (Y_addI rfl rfl) (Mm ?_))
   obtain rfl := Oi h13
   refine V_end (fun a ha26 => ?_)
   exact ⟨(), hlt16, h14, ⟨(), ha26.sub ⟨rfl, rfl, rfl, Ws hlt16 hn19, trivial⟩, rfl⟩⟩
  refine C_exit (fun a ha27 => ?_)
  exact ⟨(), ha27.sub trivial, ⟨(h17 (eq_of_dec hle15 hc20)).symm, rfl⟩⟩
 rintro s4 _ ⟨rfl, rfl⟩ a ha9
 rw [Lp.andThen_fin] at hm
 refine C_at (n := ⟨19, [], none⟩) (fun _ _ => rfl) ?_ ha9
 refine Sr (As (To ?_))
 obtain rfl := Oi hm
 refine Rt (Res.one results68 rfl) ?_
 exact ⟨rfl, rfl⟩
theorem portref2_positionsFault_c (w : World) {A : Nat → Prop} (l : (List Int)) (v_l : Value) (h_l : Sl A w v_l l) (size : Int) {r : Int} (hm : portref2_positionsFault l size = some r) : Ret prog 69 #[v_l, Ii size] w fun v w' => v = Ii r ∧ w = w' := by
 unfold portref2_positionsFault at hm
 refine enter func69 rfl ntmps69 rfl ?_
 refine Sr (As (To ?_))
 refine C_seq (Sr (Mm (Vy (Y_lenSl h_l rfl underlying23 rfl) (Mm (To ?_)))))
 have hn19 := Sl.le h_l
 obtain ⟨o3, ho3, hm⟩ := Bs hm
 refine C_cutG (ι := Unit) (fun (s4 : Unit) => [(0, v_l)]) (fun (s4 : Unit) => fun w' => o3 = .fin s4 ∧ w = w') ?_ ?_
 ·refine C_block ?_
  refine C_range ho3 (fun k6 _ a w' => ∃ i : Unit, Has ⟨42, [], none⟩ a ([(0, v_l), (1, Ii size), (9, v_l), (10, Ii (l.length : Int)), (11, Ii (k6 : Int))]) ∧ w = w') (fun a ha => ⟨(), ha.sb, rfl⟩) ?_
  rintro K k6 _ a _ ⟨_, ha30, rfl⟩ hle15 K18 h17
  refine C_of ?_ ha30
  refine Sr (Vy (Y_lss rfl rfl) (To ?_))
  refine C_seq ?_
  refine Cc (fun hc20 => ?_) fun hc20 => ?_
  ·have hlt16 := lt_of_dec hc20
   obtain ⟨x12, h13, h14⟩ := K18 hlt16
   refine Sk ?_
   refine C_seq (C_block (Sr ?_))
   obtain ⟨x21, hx21, h13⟩ := Bs h13
   refine V_indexAddr h_l hx21 underlying23 sizeOf3 rfl rfl rfl ?_
   intro b22 o23 h24
   refine Li h24 isAgg3 (As (To ?_))
   refine Sr (Mm (Vy (Y_lss rfl rfl) (Mm ?_)))
   refine V_cut 4 (fun _ : Unit => [(0, v_l), (1, Ii size), (9, v_l), (10, Ii (l.length : Int)), (11, Ii (k6 : Int)), (21, .bool ((decide (x21 < 0)) || (decide (size ≤ x21))))]) (fun _ w' => w = w') ?_ ?_
   ·simp only [List.take, List.drop]
    rcases Be (decide (x21 < 0)) with hc25 | hc25
    ·refine Gm hc25 (Gm hc25 (Gm hc25 (Vy (Y_pick_te rfl hc25 rfl) ?_)))
     exact V_end fun a ha => ⟨(), ha.sub ⟨rfl, rfl, rfl, rfl, rfl, (by rw [hc25]; rfl), trivial⟩, rfl⟩
    refine Gf hc25 (Mm (Gf hc25 (Mm (Gf hc25 (Vy (Y_geq rfl rfl) (Vy (Y_pick_fe rfl hc25 rfl) ?_))))))
    exact V_end fun a ha => ⟨(), ha.sub ⟨rfl, rfl, rfl, rfl, rfl, (by rw [hc25]; rfl), trivial⟩, rfl⟩
   simp only [List.take, List.drop]
   rintro _ _ rfl
   refine To ?_
   refine Cc (fun hc27 => ?_) fun hc27 => ?_
   ·rw [if_pos hc27] at h13
    refine Sr (As (To ?_))
    obtain rfl := Oi h13
    obtain rfl := (h14 : Lp.rt _ = _)
    rw [Lp.andThen_rt] at hm
    obtain rfl := Oi hm
    refine Rt (Res.one results69 rfl) ?_
    exact ⟨rfl, rfl⟩
   rw [if_neg (nt hc27)] at h13
   refine Sk ?_
   refine C_region (Vy (Y_addI rfl rfl) (Mm ?_))
   obtain rfl := Oi h13
   refine V_end (fun a ha28 => ?_)
   exact ⟨(), hlt16, h14, ⟨(), ha28.sub ⟨rfl, rfl, rfl, rfl, Ws hlt16 hn19, trivial⟩, rfl⟩⟩
  refine C_exit (fun a ha29 => ?_)
  exact ⟨(), ha29.sb, ⟨(h17 (eq_of_dec hle15 hc20)).symm, rfl⟩⟩
 rintro s4 _ ⟨rfl, rfl⟩ a ha9
 rw [Lp.andThen_fin] at hm
 refine C_at (n := ⟨42, [], none⟩) (fun _ _ => rfl) ?_ ha9
 refine C_seq (Sr (Mm (Vy (Y_lenSl h_l rfl underlying23 rfl) (Mm (To ?_)))))
 have hn47 := Sl.le h_l
 obtain ⟨o31, ho31, hm⟩ := Bs hm
 refine C_cutG (ι := Unit) (fun (s32 : Unit) => []) (fun (s32 : Unit) => fun w' => o31 = .fin s32 ∧ w = w') ?_ ?_
 ·refine C_block ?_
  refine C_range ho31 (fun k34 _ a w' => ∃ i : Unit, Has ⟨42, [], none⟩ a ([(0, v_l), (23, v_l), (24, Ii (l.length : Int)), (25, Ii (k34 : Int))]) ∧ w = w') (fun a ha => ⟨(), ha.sb, rfl⟩) ?_
  rintro K k34 _ a _ ⟨_, ha62, rfl⟩ hle43 K46 h45
  refine C_of ?_ ha62
  refine Sr (Vy (Y_lss rfl rfl) (To ?_))
  refine C_seq ?_
  refine Cc (fun hc48 => ?_) fun hc48 => ?_
  ·have hlt44 := lt_of_dec hc48
   obtain ⟨x40, h41, h42⟩ := K46 hlt44
   refine Sk ?_
   refine C_seq (C_block (Sr (Mm ?_)))
   obtain ⟨x49, hx49, h41⟩ := Bs h41
   refine V_indexAddr h_l hx49 underlying23 sizeOf3 rfl rfl rfl ?_
   intro b50 o51 h52
   refine Li h52 isAgg3 (As (As (To ?_)))
   refine Sr (Mm (Vy (Y_gtr rfl rfl) (Mm ?_)))
   obtain ⟨s54, hs54, h41⟩ := Bs h41
   refine V_cut 8 (fun _ : Unit => [(0, v_l), (23, v_l), (24, Ii (l.length : Int)), (25, Ii (k34 : Int)), (40, .bool s54)]) (fun _ w' => w = w') ?_ ?_
   ·simp only [List.take, List.drop]
    rcases Be (decide ((0 : Int) < (k34 : Int))) with hc53 | hc53
    ·rw [if_pos hc53] at hs54
     refine Gf hc53 (Mm (Gf hc53 (Mm (Gf hc53 (Mm (Gf hc53 (Vy (Y_subI rfl rfl) (Gf hc53 ?_))))))))
     obtain ⟨x55, hx55, hs54⟩ := Bs hs54
     refine V_indexAddr h_l hx55 underlying23 sizeOf3 rfl rfl rfl ?_
     intro b56 o57 h58
     refine Gf hc53 (Li h58 isAgg3 (Gf hc53 (Vy (Y_leq rfl rfl) (Vy (Y_pick_te rfl hc53 rfl) ?_))))
     obtain rfl := Oi hs54
     exact V_end fun a ha => ⟨(), ha.sb, rfl⟩
    rw [if_neg (nt hc53)] at hs54
    refine Gm hc53 (Gm hc53 (Gm hc53 (Gm hc53 (Gm hc53 (Gm hc53 (Gm hc53 (Vy (Y_pick_fe rfl hc53 rfl) ?_)))))))
    obtain rfl := Oi hs54
    exact V_end fun a ha => ⟨(), ha.sb, rfl⟩
   simp only [List.take, List.drop]
   rintro _ _ rfl
   refine To ?_
   refine Cc (fun hc59 => ?_) fun hc59 => ?_
   ·rw [if_pos hc59] at h41
    refine Sr (As (To ?_))
    obtain rfl := Oi h41
    obtain rfl := (h42 : Lp.rt _ = _)
    rw [Lp.andThen_rt] at hm
    obtain rfl := Oi hm
    refine Rt (Res.one results69 rfl) ?_
    exact ⟨rfl, rfl⟩
   rw [if_neg (nt hc59)] at h41
   refine Sk ?_
   refine C_region (Vy (Y_addI rfl rfl) (Mm ?_))
   obtain rfl := Oi h41
   refine V_end (fun a ha60 => ?_)
   exact ⟨(), hlt44, h42, ⟨(), ha60.sub ⟨rfl, rfl, rfl, Ws hlt44 hn47, trivial⟩, rfl⟩⟩
  refine C_exit (fun a ha61 => ?_)
  exact ⟨(), ha61.sub trivial, ⟨(h45 (eq_of_dec hle43 hc48)).symm, rfl⟩⟩
 rintro s32 _ ⟨rfl, rfl⟩ a ha37
 rw [Lp.andThen_fin] at hm
 refine C_at (n := ⟨42, [], none⟩) (fun _ _ => rfl) ?_ ha37
 refine Sr (As (To ?_))
 obtain rfl := Oi hm
 refine Rt (Res.one results69 rfl) ?_
 exact ⟨rfl, rfl⟩
end Go.Proofs.YtldkdabcdbgpbaaGreatDoor.W
