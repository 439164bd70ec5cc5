/-
  Written by program (gen.py) from the IR of the dump: each function computes its model.
-/
import Derived.Test.YtnnbhehaplphiaaGreatDoorRatioSumsW1
namespace Go.Proofs.YtnnbhehaplphiaaGreatDoor.W
open Go Go.RowKit Go.Pu Go.Gw Go.Proofs Go.Proofs.YtnnbhehaplphiaaGreatDoor.M
set_option linter.unusedVariables false
set_option linter.unusedSimpArgs false
variable {Dw : Prop}

set_option maxRecDepth 4000 in
set_option maxHeartbeats 4000000 in
theorem math_bits_Len32_c (w : World) (x : Int) {r : Int} (hm : math_bits_Len32 x = some r) : Ret Tryz.prog 64 #[.int .u32 x] w fun v w' => v = .int .i64 r ∧ w = w' := by
 unfold math_bits_Len32 at hm
 refine enter Tryz.func64 rfl Tryz.ntmps64 rfl ?_
 refine C_seq ?_
 refine C_region ?_
 refine V_as rfl rfl ?_
 refine V_to (fun _ _ => rfl) ?_
 refine C_seq ?_
 refine C_seq ?_
 refine C_region ?_
 refine V_mv rfl rfl ?_
 refine V_y (Y_geq rfl rfl) rfl rfl rfl ?_
 refine V_to (fun _ _ => rfl) ?_
 obtain ⟨s2, ho1, hm⟩ := Option.bind_eq_some_iff.1 hm
 refine C_cutG (ι := Unit) (fun (_ : Unit) => [(0, .int .u32 s2.1), (2, .int .i64 s2.2)]) (fun (_ : Unit) => fun w' => w = w') ?_ ?_
 ·refine C_cond rfl (fun hc7 => ?_) (fun hc7 => ?_)
  ·rw [if_pos hc7] at ho1
   refine C_seq ?_
   refine C_region ?_
   refine V_mv rfl rfl ?_
   obtain ⟨x8, hx8, ho1⟩ := Option.bind_eq_some_iff.1 ho1
   refine V_y (Y_shr hx8 rfl rfl) rfl rfl rfl ?_
   refine V_as rfl rfl ?_
   refine V_to (fun _ _ => rfl) ?_
   refine C_region ?_
   refine V_as rfl rfl ?_
   obtain rfl := Option.some.inj ho1
   refine V_end (fun a ha9 => ?_)
   exact ⟨(), ha9.sub ⟨rfl, rfl, trivial⟩, rfl⟩
  ·rw [if_neg (nt hc7)] at ho1
   obtain rfl := Option.some.inj ho1
   refine C_skip (fun a ha10 => ?_)
   exact ⟨(), ha10.sub ⟨rfl, rfl, trivial⟩, rfl⟩
 rintro _ _ rfl a ha6
 refine C_at (n := ⟨19, [], none⟩) (fun _ _ => rfl) ?_ ha6
 refine C_seq ?_
 refine C_seq ?_
 refine C_region ?_
 refine V_mv rfl rfl ?_
 refine V_y (Y_geq rfl rfl) rfl rfl rfl ?_
 refine V_to (fun _ _ => rfl) ?_
 obtain ⟨s12, ho11, hm⟩ := Option.bind_eq_some_iff.1 hm
 refine C_cutG (ι := Unit) (fun (_ : Unit) => [(0, .int .u32 s12.1), (2, .int .i64 s12.2)]) (fun (_ : Unit) => fun w' => w = w') ?_ ?_
 ·refine C_cond rfl (fun hc17 => ?_) (fun hc17 => ?_)
  ·rw [if_pos hc17] at ho11
   refine C_seq ?_
   refine C_region ?_
   refine V_mv rfl rfl ?_
   obtain ⟨x18, hx18, ho11⟩ := Option.bind_eq_some_iff.1 ho11
   refine V_y (Y_shr hx18 rfl rfl) rfl rfl rfl ?_
   refine V_as rfl rfl ?_
   refine V_to (fun _ _ => rfl) ?_
   refine C_region ?_
   refine V_mv rfl rfl ?_
   refine V_y (Y_addI rfl rfl) rfl rfl rfl ?_
   refine V_as rfl rfl ?_
   obtain rfl := Option.some.inj ho11
   refine V_end (fun a ha19 => ?_)
   exact ⟨(), ha19.sub ⟨rfl, rfl, trivial⟩, rfl⟩
  ·rw [if_neg (nt hc17)] at ho11
   obtain rfl := Option.some.inj ho11
   refine C_skip (fun a ha20 => ?_)
   exact ⟨(), ha20.sub ⟨rfl, rfl, trivial⟩, rfl⟩
 rintro _ _ rfl a ha16
 refine C_at (n := ⟨19, [], none⟩) (fun _ _ => rfl) ?_ ha16
 refine C_seq ?_
 refine C_region ?_
 refine V_mv rfl rfl ?_
 refine V_mv rfl rfl ?_
 refine V_y (Y_convU8 Tryz.underlying77 Tryz.underlying5 rfl) rfl rfl rfl ?_
 obtain ⟨x21, hx21, hm⟩ := Option.bind_eq_some_iff.1 hm
 refine V_y (Y_indexS hx21 Tryz.underlying9 rfl rfl) rfl rfl rfl ?_
 refine V_y (Y_convI Tryz.underlying5 Tryz.underlying3 rfl) rfl rfl rfl ?_
 refine V_y (Y_addI rfl rfl) rfl rfl rfl ?_
 refine V_as rfl rfl ?_
 refine V_to (fun _ _ => rfl) ?_
 obtain rfl := Option.some.inj hm
 refine C_ret ?_
 try simp only [↓inBlock_ret, ↓then_ret]
 exact retQ rfl (Res.one Tryz.results64 rfl) ⟨rfl, rfl⟩

set_option maxRecDepth 4000 in
set_option maxHeartbeats 4000000 in
theorem math_bits_LeadingZeros32_c (w : World) (x : Int) {r : Int} (hm : math_bits_LeadingZeros32 x = some r) : Ret Tryz.prog 50 #[.int .u32 x] w fun v w' => v = .int .i64 r ∧ w = w' := by
 unfold math_bits_LeadingZeros32 at hm
 refine enter Tryz.func50 rfl Tryz.ntmps50 rfl ?_
 refine C_seq ?_
 refine C_region ?_
 refine V_as rfl rfl ?_
 refine V_to (fun _ _ => rfl) ?_
 refine C_seq ?_
 refine C_region ?_
 refine V_mv rfl rfl ?_
 obtain ⟨x1, hx1, hm⟩ := Option.bind_eq_some_iff.1 hm
 refine V_call Tryz.call64 rfl rfl rfl rfl (math_bits_Len32_c w x hx1) ?_
 rintro _ _ ⟨rfl, rfl⟩
 refine V_y (Y_subI rfl rfl) rfl rfl rfl ?_
 refine V_as rfl rfl ?_
 refine V_to (fun _ _ => rfl) ?_
 obtain rfl := Option.some.inj hm
 refine C_ret ?_
 try simp only [↓inBlock_ret, ↓then_ret]
 exact retQ rfl (Res.one Tryz.results50 rfl) ⟨rfl, rfl⟩

set_option maxRecDepth 4000 in
set_option maxHeartbeats 4000000 in
theorem portref2_whole_up_c (w : World) {A : Nat → Prop} (hA : ∀ b, w.heap.size ≤ b → A b) (a_ : (List UInt32)) (v_a_ : Value) (h_a_ : Sl A w v_a_ a_) (shift : Int) {r : (List UInt32)} (hm : portref2_whole_up a_ shift = some r) : Ret Tryz.prog 51 #[v_a_, .int .u64 shift] w fun v w' => ∃ s0, v = s0 ∧ Ownd 77 w w' s0 r ∧ Kp Dw w w' := by
 unfold portref2_whole_up at hm
 refine enter Tryz.func51 rfl Tryz.ntmps51 rfl ?_
 have hA0 := hA
 have hB := Nat.le_refl w.heap.size
 have hK : Tr Dw w.heap.size A w A w := Tr.refl (Dw := Dw) hA
 have hH : Hp w.heap.size A w [] := Hp.nil
 refine C_seq ?_
 refine C_region ?_
 refine V_as rfl rfl ?_
 refine V_to (fun _ _ => rfl) ?_
 refine C_seq ?_
 refine C_region ?_
 refine V_mv rfl rfl ?_
 refine V_y (Y_lenSl h_a_ rfl Tryz.underlying41 rfl) rfl rfl rfl ?_
 refine V_y (Y_addI rfl rfl) rfl rfl rfl ?_
 obtain ⟨x3, hx3, hm⟩ := Option.bind_eq_some_iff.1 hm
 refine V_makeH (Dw := Dw) (e := 77) (ti := Tryz.t77) hH hx3 (fun _ _ => rfl) Tryz.underlying41 Tryz_info77 rfl rfl rfl (by decide) (by decide) hB hA rfl rfl rfl ?_
 intro v4 w5 A6 hH7 ht8
 replace h_a_ := Sl.tr h_a_ ht8
 replace hK := Tr.trans hK ht8
 replace hB := Nat.le_trans hB ht8.ex.size
 replace hA := ht8.new
 replace hH : Hp w.heap.size A6 w5 (obS (α := UInt32) 77 v4 x3 :: []) := hH7
 refine V_as rfl rfl ?_
 refine V_to (fun _ _ => rfl) ?_
 refine C_seq ?_
 refine C_seq ?_
 refine C_region ?_
 refine V_mv rfl rfl ?_
 refine V_y (Y_lenSl h_a_ rfl Tryz.underlying41 rfl) rfl rfl rfl ?_
 refine V_mv rfl rfl ?_
 refine V_to (fun _ _ => rfl) ?_
 have hn33 := Sl.le h_a_
 obtain ⟨o9, ho9, hm⟩ := Option.bind_eq_some_iff.1 hm
 refine C_cutG (ι := ((List UInt32) × Value × (Nat → Prop))) (fun ⟨s10, v16, A18⟩ => [(5, v16)]) (fun ⟨s10, v16, A18⟩ => fun w' => o9 = .fin s10 ∧ Hp w.heap.size A18 w' (obS (α := UInt32) 77 v16 s10 :: []) ∧ Tr Dw w.heap.size A6 w5 A18 w') ?_ ?_
 ·refine C_block ?_
  refine C_range ho9 (fun k12 s20 a w' => ∃ i : (Value × (Nat → Prop)), Has ⟨41, [], none⟩ a ([(0, v_a_), (1, .int .u64 shift), (5, i.1), (13, .int .i64 (a_.length : Int)), (14, .int .i64 (k12 : Int))]) ∧ Hp w.heap.size i.2 w' (obS (α := UInt32) 77 i.1 s20 :: []) ∧ Tr Dw w.heap.size A6 w5 i.2 w') (fun a ha => ⟨(v4, A6), ha.sub ⟨rfl, rfl, rfl, rfl, rfl, trivial⟩, ⟨hH, Tr.refl (Dw := Dw) hA⟩⟩) ?_
  rintro K k12 s20 a w21 ⟨⟨v22, A24⟩, ha65, hH25, hr11⟩ hle29 K32 h31
  refine C_of ?_ ha65
  replace h_a_ := Sl.tr h_a_ hr11
  replace hB := Nat.le_trans hB hr11.ex.size
  replace hA := hr11.new
  replace hH : Hp w.heap.size A24 w21 (obS (α := UInt32) 77 v22 s20 :: []) := hH25
  refine C_seq (C_region (V_y (Y_lss rfl rfl) rfl rfl rfl (V_to (fun _ _ => rfl) ?_)))
  refine C_seq ?_
  refine C_cond rfl (fun hc34 => ?_) (fun hc34 => ?_)
  ·have hlt30 := lt_of_dec hc34
   obtain ⟨x26, h27, h28⟩ := K32 hlt30
   refine C_skip_to (fun _ _ => rfl) ?_
   refine C_seq ?_
   refine C_block ?_
   refine C_seq ?_
   refine C_region ?_
   refine V_mv rfl rfl ?_
   refine V_as rfl rfl ?_
   refine V_to (fun _ _ => rfl) ?_
   refine C_seq ?_
   refine C_region ?_
   refine V_mv rfl rfl ?_
   refine V_mv rfl rfl ?_
   obtain ⟨x35, hx35, h27⟩ := Option.bind_eq_some_iff.1 h27
   refine V_indexAddr h_a_ hx35 Tryz.underlying41 Tryz.sizeOf77 rfl rfl rfl ?_
   intro b36 o37 h38
   refine V_y (Y_load (El.u32 h38) Tryz.isAgg77 rfl) rfl rfl rfl ?_
   refine V_y (Y_convI Tryz.underlying77 Tryz.underlying76 rfl) rfl rfl rfl ?_
   refine V_mv rfl rfl ?_
   obtain ⟨x39, hx39, h27⟩ := Option.bind_eq_some_iff.1 h27
   refine V_y (Y_shl hx39 rfl rfl) rfl rfl rfl ?_
   refine V_as rfl rfl ?_
   refine V_to (fun _ _ => rfl) ?_
   refine C_seq ?_
   refine C_region ?_
   refine V_mv rfl rfl ?_
   refine V_mv rfl rfl ?_
   obtain ⟨x40, hx40, h27⟩ := Option.bind_eq_some_iff.1 h27
   refine V_indexAddrH (α := UInt32) (e := 77) (v := v22) (l := s20) hH (i := 0) rfl hx40 Tryz.underlying41 Tryz.sizeOf77 rfl rfl rfl ?_
   intro b41 o42 h43 hl44
   refine V_y (Y_load (El.u32 h43) Tryz.isAgg77 rfl) rfl rfl rfl ?_
   refine V_mv rfl rfl ?_
   refine V_y (Y_convU32 Tryz.underlying76 Tryz.underlying77 rfl) rfl rfl rfl ?_
   refine V_y (Y_orW rfl rfl) rfl rfl rfl ?_
   refine V_indexAddrH (α := UInt32) (e := 77) (v := v22) (l := s20) hH (i := 0) rfl hx40 Tryz.underlying41 Tryz.sizeOf77 rfl rfl rfl ?_
   intro b45 o46 h47 hl48
   obtain ⟨x49, hx49, h27⟩ := Option.bind_eq_some_iff.1 h27
   refine V_storeH (Dw := Dw) (α := UInt32) (e := 77) (v := v22) (l := s20) hH (i := 0) rfl hl48 hx49 rfl Tryz.sizeOf77 rfl hB hA rfl rfl ?_
   intro w50 hH51 ht52
   replace hr11 := Tr.trans hr11 ht52
   replace hB := Nat.le_trans hB ht52.ex.size
   replace hA := ht52.new
   replace hH : Hp w.heap.size A24 w50 (obS (α := UInt32) 77 v22 x49 :: []) := hH51
   refine V_to (fun _ _ => rfl) ?_
   refine C_region ?_
   refine V_mv rfl rfl ?_
   refine V_mv rfl rfl ?_
   refine V_y (Y_addI rfl rfl) rfl rfl rfl ?_
   refine V_mv rfl rfl ?_
   obtain ⟨x53, hx53, h27⟩ := Option.bind_eq_some_iff.1 h27
   refine V_y (Y_shr hx53 rfl rfl) rfl rfl rfl ?_
   refine V_y (Y_convU32 Tryz.underlying76 Tryz.underlying77 rfl) rfl rfl rfl ?_
   obtain ⟨x54, hx54, h27⟩ := Option.bind_eq_some_iff.1 h27
   refine V_indexAddrH (α := UInt32) (e := 77) (v := v22) (l := x49) hH (i := 0) rfl hx54 Tryz.underlying41 Tryz.sizeOf77 rfl rfl rfl ?_
   intro b55 o56 h57 hl58
   obtain ⟨x59, hx59, h27⟩ := Option.bind_eq_some_iff.1 h27
   refine V_storeH (Dw := Dw) (α := UInt32) (e := 77) (v := v22) (l := x49) hH (i := 0) rfl hl58 hx59 rfl Tryz.sizeOf77 rfl hB hA rfl rfl ?_
   intro w60 hH61 ht62
   replace hr11 := Tr.trans hr11 ht62
   replace hH : Hp w.heap.size A24 w60 (obS (α := UInt32) 77 v22 x59 :: []) := hH61
   refine V_to (fun _ _ => rfl) ?_
   refine C_region ?_
   refine V_y (Y_addI rfl rfl) rfl rfl rfl ?_
   refine V_mv rfl rfl ?_
   obtain rfl := Option.some.inj h27
   refine V_end (fun a ha63 => ?_)
   exact ⟨x59, hlt30, h28, ⟨(v22, A24), ha63.sub ⟨rfl, rfl, rfl, rfl, (congrArg (fun z => some (Value.int .i64 z)) (w64_succ hlt30 hn33)), trivial⟩, ⟨hH, hr11⟩⟩⟩
  ·refine C_exit (fun a ha64 => ?_)
   exact ⟨(s20, v22, A24), ha64.sub ⟨rfl, trivial⟩, ⟨(h31 (eq_of_dec hle29 hc34)).symm, hH, hr11⟩⟩
 rintro ⟨s10, v16, A18⟩ w13 ⟨rfl, hH19, hk14⟩ a ha15
 rw [Lp.andThen_fin] at hm
 replace hK := Tr.trans hK hk14
 replace hA := hk14.new
 replace hH : Hp w.heap.size A18 w13 (obS (α := UInt32) 77 v16 s10 :: []) := hH19
 refine C_at (n := ⟨41, [], none⟩) (fun _ _ => rfl) ?_ ha15
 refine C_seq ?_
 refine C_region ?_
 refine V_mv rfl rfl ?_
 refine V_as rfl rfl ?_
 refine V_to (fun _ _ => rfl) ?_
 obtain rfl := Option.some.inj hm
 refine C_ret ?_
 try simp only [↓inBlock_ret, ↓then_ret]
 exact retQ rfl (Res.one Tryz.results51 rfl) ⟨v16, rfl, (Hp.ownd hH (i := 0) rfl), hK.kp⟩

set_option maxRecDepth 4000 in
set_option maxHeartbeats 4000000 in
theorem portref2_whole_by_c (w : World) {A : Nat → Prop} {B : Nat} (hB : B ≤ w.heap.size) (hA : ∀ b, w.heap.size ≤ b → A b) (a_ : (List UInt32)) (v_a_ : Value) (h_a_ : Sl A w v_a_ a_) (b : (List UInt32)) (v_b : Value) (h_b : Sl A w v_b b) {L : List Ob} (hH : Hp B A w (L)) {r : ((List UInt32) × (List UInt32))} (hm : portref2_whole_by a_ b = some r) : Ret Tryz.prog 45 #[v_a_, v_b] w fun v w' => ∃ s0, ∃ s1, ∃ A1 : Nat → Prop, v = .tuple #[s0, s1] ∧ Hp B A1 w' (obS (α := UInt32) 77 s0 r.1 :: obS (α := UInt32) 77 s1 r.2 :: L) ∧ Tr Dw B A w A1 w' := by
 unfold portref2_whole_by at hm
 refine enter Tryz.func45 rfl Tryz.ntmps45 rfl ?_
 have hK : Tr Dw B A w A w := Tr.refl (Dw := Dw) hA
 refine C_seq ?_
 refine C_region ?_
 refine V_as rfl rfl ?_
 refine V_as rfl rfl ?_
 refine V_to (fun _ _ => rfl) ?_
 refine C_seq ?_
 refine C_seq ?_
 refine C_region ?_
 refine V_mv rfl rfl ?_
 refine V_mv rfl rfl ?_
 obtain ⟨x5, hx5, hm⟩ := Option.bind_eq_some_iff.1 hm
 refine V_call Tryz.call31 rfl rfl rfl rfl (portref2_whole_cmp_c (Dw := Dw) w hA a_ v_a_ h_a_ b v_b h_b hx5) ?_
 rintro _ w6 ⟨rfl, hk7⟩
 have ht8 := Kp.tr hk7 hA hB
 replace hH := Hp.kp hH hk7
 replace h_a_ := Sl.tr h_a_ ht8
 replace h_b := Sl.tr h_b ht8
 replace hK := Tr.trans hK ht8
 replace hB := Nat.le_trans hB ht8.ex.size
 replace hA := ht8.new
 refine V_y (Y_lss rfl rfl) rfl rfl rfl ?_
 refine V_to (fun _ _ => rfl) ?_
 refine C_cond rfl (fun hc9 => ?_) (fun hc9 => ?_)
 ·rw [if_pos hc9] at hm
  refine C_seq ?_
  refine C_region ?_
  refine V_mv rfl rfl ?_
  replace hH : Hp B A w6 (obS (α := UInt32) 77 (.slice none 0 0) ([] : (List UInt32)) :: L) := Hp.addNil (α := UInt32) (e := 77) hH
  obtain ⟨x10, hx10, hm⟩ := Option.bind_eq_some_iff.1 hm
  refine V_appendH (Dw := Dw) (e := 77) (v := .slice none 0 0) (l := ([] : (List UInt32))) (ti := Tryz.t77) (bytes := 4) (lim := 35184372088832) hH (i := 0) rfl h_a_ hx10 Tryz.underlying41 Tryz_info77 rfl rfl rfl rfl (by decide) (by decide) (by decide) hB hA rfl rfl rfl ?_
  intro v11 w12 A13 hH14 ht15
  replace hK := Tr.trans hK ht15
  replace hH : Hp B A13 w12 (obS (α := UInt32) 77 v11 x10 :: L) := hH14
  refine V_as rfl rfl ?_
  refine V_as rfl rfl ?_
  refine V_to (fun _ _ => rfl) ?_
  obtain rfl := Option.some.inj hm
  replace hH : Hp B A13 w12 (obS (α := UInt32) 77 (.slice none 0 0) ([] : (List UInt32)) :: obS (α := UInt32) 77 v11 x10 :: L) := Hp.addNil (α := UInt32) (e := 77) hH
  refine C_ret ?_
  try simp only [↓inBlock_ret, ↓then_ret]
  exact retQ rfl (Res.two Tryz.results45 rfl rfl) ⟨.slice none 0 0, v11, A13, rfl, hH, hK⟩
 ·rw [if_neg (nt hc9)] at hm
  refine C_skip_to (fun _ _ => rfl) ?_
  refine C_seq ?_
  refine C_seq ?_
  refine C_region ?_
  refine V_mv rfl rfl ?_
  refine V_y (Y_lenSl h_b rfl Tryz.underlying41 rfl) rfl rfl rfl ?_
  refine V_y (Y_eql rfl rfl) rfl rfl rfl ?_
  refine V_to (fun _ _ => rfl) ?_
  refine C_cond rfl (fun hc16 => ?_) (fun hc16 => ?_)
  ·rw [if_pos hc16] at hm
   refine C_seq ?_
   refine C_region ?_
   refine V_mv rfl rfl ?_
   refine V_y (Y_lenSl h_a_ rfl Tryz.underlying41 rfl) rfl rfl rfl ?_
   obtain ⟨x17, hx17, hm⟩ := Option.bind_eq_some_iff.1 hm
   refine V_makeH (Dw := Dw) (e := 77) (ti := Tryz.t77) hH hx17 (fun _ _ => rfl) Tryz.underlying41 Tryz_info77 rfl rfl rfl (by decide) (by decide) hB hA rfl rfl rfl ?_
   intro v18 w19 A20 hH21 ht22
   replace h_a_ := Sl.tr h_a_ ht22
   replace h_b := Sl.tr h_b ht22
   replace hK := Tr.trans hK ht22
   replace hB := Nat.le_trans hB ht22.ex.size
   replace hA := ht22.new
   replace hH : Hp B A20 w19 (obS (α := UInt32) 77 v18 x17 :: L) := hH21
   refine V_as rfl rfl ?_
   refine V_to (fun _ _ => rfl) ?_
   refine C_seq ?_
   refine C_region ?_
   refine V_as rfl rfl ?_
   refine V_to (fun _ _ => rfl) ?_
   refine C_seq ?_
   refine C_seq ?_
   refine C_region ?_
   refine V_mv rfl rfl ?_
   refine V_y (Y_lenSl h_a_ rfl Tryz.underlying41 rfl) rfl rfl rfl ?_
   refine V_y (Y_subI rfl rfl) rfl rfl rfl ?_
   refine V_as rfl rfl ?_
   refine V_to (fun _ _ => rfl) ?_
   obtain ⟨o23, ho23, hm⟩ := Option.bind_eq_some_iff.1 hm
   refine C_cutG (ι := (((List UInt32) × Int × Int) × Value × (Nat → Prop))) (fun ⟨s24, v30, A32⟩ => [(6, v30), (7, .int .u64 s24.2.1)]) (fun ⟨s24, v30, A32⟩ => fun w' => o23 = .fin s24 ∧ Hp B A32 w' (obS (α := UInt32) 77 v30 s24.1 :: L) ∧ Tr Dw B A20 w19 A32 w') ?_ ?_
   ·refine C_block ?_
    refine C_while ho23 (fun s34 a w' => ∃ i : (Value × (Nat → Prop)), Has ⟨308, [], none⟩ a ([(0, v_a_), (1, v_b), (6, i.1), (7, .int .u64 s34.2.1), (8, .int .i64 s34.2.2)]) ∧ Hp B i.2 w' (obS (α := UInt32) 77 i.1 s34.1 :: L) ∧ Tr Dw B A20 w19 i.2 w') (fun a ha => ⟨(v18, A20), ha.sub ⟨rfl, rfl, rfl, rfl, rfl, trivial⟩, ⟨hH, Tr.refl (Dw := Dw) hA⟩⟩) ?_
    rintro K s34 a w35 ⟨⟨v36, A38⟩, ha74, hH39, hr25⟩ K46
    refine C_of ?_ ha74
    replace h_a_ := Sl.tr h_a_ hr25
    replace h_b := Sl.tr h_b hr25
    replace hB := Nat.le_trans hB hr25.ex.size
    replace hA := hr25.new
    replace hH : Hp B A38 w35 (obS (α := UInt32) 77 v36 s34.1 :: L) := hH39
    obtain ⟨x40, h41, h42⟩ := K46
    refine C_seq ?_
    refine C_seq ?_
    refine C_region ?_
    refine V_mv rfl rfl ?_
    refine V_y (Y_geq rfl rfl) rfl rfl rfl ?_
    refine V_to (fun _ _ => rfl) ?_
    refine C_cond rfl (fun hc47 => ?_) (fun hc47 => ?_)
    ·rw [if_pos hc47] at h41
     refine C_skip_to (fun _ _ => rfl) ?_
     refine C_seq ?_
     refine C_block ?_
     refine C_seq ?_
     refine C_region ?_
     refine V_mv rfl rfl ?_
     obtain ⟨x48, hx48, h41⟩ := Option.bind_eq_some_iff.1 h41
     refine V_y (Y_shl hx48 rfl rfl) rfl rfl rfl ?_
     refine V_mv rfl rfl ?_
     refine V_mv rfl rfl ?_
     obtain ⟨x49, hx49, h41⟩ := Option.bind_eq_some_iff.1 h41
     refine V_indexAddr h_a_ hx49 Tryz.underlying41 Tryz.sizeOf77 rfl rfl rfl ?_
     intro b50 o51 h52
     refine V_y (Y_load (El.u32 h52) Tryz.isAgg77 rfl) rfl rfl rfl ?_
     refine V_y (Y_convI Tryz.underlying77 Tryz.underlying76 rfl) rfl rfl rfl ?_
     refine V_y (Y_or rfl rfl) rfl rfl rfl ?_
     refine V_as rfl rfl ?_
     refine V_to (fun _ _ => rfl) ?_
     refine C_seq ?_
     refine C_region ?_
     refine V_mv rfl rfl ?_
     refine V_mv rfl rfl ?_
     refine V_mv rfl rfl ?_
     refine V_mv rfl rfl ?_
     obtain ⟨x53, hx53, h41⟩ := Option.bind_eq_some_iff.1 h41
     refine V_indexAddr h_b hx53 Tryz.underlying41 Tryz.sizeOf77 rfl rfl rfl ?_
     intro b54 o55 h56
     refine V_y (Y_load (El.u32 h56) Tryz.isAgg77 rfl) rfl rfl rfl ?_
     refine V_y (Y_convI Tryz.underlying77 Tryz.underlying76 rfl) rfl rfl rfl ?_
     obtain ⟨x57, hx57, h41⟩ := Option.bind_eq_some_iff.1 h41
     refine V_y (Y_quoK hx57 rfl rfl) rfl rfl rfl ?_
     refine V_y (Y_convU32 Tryz.underlying76 Tryz.underlying77 rfl) rfl rfl rfl ?_
     obtain ⟨x58, hx58, h41⟩ := Option.bind_eq_some_iff.1 h41
     refine V_indexAddrH (α := UInt32) (e := 77) (v := v36) (l := s34.1) hH (i := 0) rfl hx58 Tryz.underlying41 Tryz.sizeOf77 rfl rfl rfl ?_
     intro b59 o60 h61 hl62
     obtain ⟨x63, hx63, h41⟩ := Option.bind_eq_some_iff.1 h41
     refine V_storeH (Dw := Dw) (α := UInt32) (e := 77) (v := v36) (l := s34.1) hH (i := 0) rfl hl62 hx63 rfl Tryz.sizeOf77 rfl hB hA rfl rfl ?_
     intro w65 hH66 ht67
     replace h_b := Sl.tr h_b ht67
     replace hr25 := Tr.trans hr25 ht67
     replace hH : Hp B A38 w65 (obS (α := UInt32) 77 v36 x63 :: L) := hH66
     refine V_to (fun _ _ => rfl) ?_
     refine C_region ?_
     refine V_mv rfl rfl ?_
     refine V_mv rfl rfl ?_
     refine V_indexAddr h_b hx53 Tryz.underlying41 Tryz.sizeOf77 rfl rfl rfl ?_
     intro b68 o69 h70
     refine V_y (Y_load (El.u32 h70) Tryz.isAgg77 rfl) rfl rfl rfl ?_
     refine V_y (Y_convI Tryz.underlying77 Tryz.underlying76 rfl) rfl rfl rfl ?_
     obtain ⟨x71, hx71, h41⟩ := Option.bind_eq_some_iff.1 h41
     refine V_y (Y_remK hx71 rfl rfl) rfl rfl rfl ?_
     refine V_as rfl rfl ?_
     refine V_to (fun _ _ => rfl) ?_
     refine C_region ?_
     refine V_mv rfl rfl ?_
     refine V_y (Y_subI rfl rfl) rfl rfl rfl ?_
     refine V_as rfl rfl ?_
     obtain rfl := Option.some.inj h41
     refine V_end (fun a ha72 => ?_)
     exact ⟨(x63, x71, w64 (s34.2.2 - 1)), h42, ⟨(v36, A38), ha72.sub ⟨rfl, rfl, rfl, rfl, rfl, trivial⟩, ⟨hH, hr25⟩⟩⟩
    ·rw [if_neg (nt hc47)] at h41
     obtain rfl := Option.some.inj h41
     refine C_exit (fun a ha73 => ?_)
     exact ⟨((s34.1, s34.2.1, s34.2.2), v36, A38), ha73.sub ⟨rfl, rfl, trivial⟩, ⟨h42.symm, hH, hr25⟩⟩
   rintro ⟨s24, v30, A32⟩ w27 ⟨rfl, hH33, hk28⟩ a ha29
   rw [Lp.andThen_fin] at hm
   replace hK := Tr.trans hK hk28
   replace hB := Nat.le_trans hB hk28.ex.size
   replace hA := hk28.new
   replace hH : Hp B A32 w27 (obS (α := UInt32) 77 v30 s24.1 :: L) := hH33
   refine C_at (n := ⟨308, [], none⟩) (fun _ _ => rfl) ?_ ha29
   refine C_seq ?_
   refine C_region ?_
   refine V_mv rfl rfl ?_
   obtain ⟨x75, hx75, hm⟩ := Option.bind_eq_some_iff.1 hm
   refine V_call Tryz.call46 rfl rfl rfl rfl (portref2_whole_trim_c (Dw := Dw) w27 hB hA s24.1 v30 hH hx75) ?_
   rintro v76 w78 ⟨_, A79, rfl, hH80, ht81⟩
   replace hK := Tr.trans hK ht81
   replace hB := Nat.le_trans hB ht81.ex.size
   replace hA := ht81.new
   replace hH : Hp B A79 w78 (obS (α := UInt32) 77 v76 x75 :: L) := hH80
   refine V_mv rfl rfl ?_
   refine V_y (Y_convU32 Tryz.underlying76 Tryz.underlying77 rfl) rfl rfl rfl ?_
   refine V_buildOwnH (Dw := Dw) (cells := #[.int .u32 ((toU32 s24.2.1).toNat : Int)]) (l := ([(toU32 s24.2.1)] : List UInt32)) (len := 1) hH Tryz.underlying41 Tryz.sizeOf77 Tryz.zeroValue77 rfl (by generalize (((toU32 s24.2.1).toNat : Int) : Int) = z86; kernel_rfl) (show (1 * 1 : Nat) ≠ 0 by decide) (show (1 * 1 : Nat) ≤ 2 ^ 24 by decide) hB hA ⟨[.int .u32 ((toU32 s24.2.1).toNat : Int)], _, rfl, rfl, rfl⟩ rfl rfl ?_
   intro v82 w83 A87 hH89 ht88
   replace hK := Tr.trans hK ht88
   replace hB := Nat.le_trans hB ht88.ex.size
   replace hA := ht88.new
   replace hH : Hp B A87 w83 (obS (α := UInt32) 77 v82 ([(toU32 s24.2.1)] : List UInt32) :: obS (α := UInt32) 77 v76 x75 :: L) := hH89
   obtain ⟨x90, hx90, hm⟩ := Option.bind_eq_some_iff.1 hm
   refine V_call Tryz.call46 rfl rfl rfl rfl (portref2_whole_trim_c (Dw := Dw) w83 hB hA ([(toU32 s24.2.1)] : List UInt32) v82 hH hx90) ?_
   rintro v91 w93 ⟨_, A94, rfl, hH95, ht96⟩
   replace hK := Tr.trans hK ht96
   replace hH : Hp B A94 w93 (obS (α := UInt32) 77 v91 x90 :: obS (α := UInt32) 77 v76 x75 :: L) := hH95
   refine V_as rfl rfl ?_
   refine V_as rfl rfl ?_
   refine V_to (fun _ _ => rfl) ?_
   obtain rfl := Option.some.inj hm
   replace hH : Hp B A94 w93 (obS (α := UInt32) 77 v76 x75 :: obS (α := UInt32) 77 v91 x90 :: L) := Hp.front hH (i := 1) rfl
   refine C_ret ?_
   try simp only [↓inBlock_ret, ↓then_ret]
   exact retQ rfl (Res.two Tryz.results45 rfl rfl) ⟨v76, v91, A94, rfl, hH, hK⟩
  ·rw [if_neg (nt hc16)] at hm
   refine C_skip_to (fun _ _ => rfl) ?_
   refine C_seq ?_
   refine C_region ?_
   refine V_mv rfl rfl ?_
   refine V_mv rfl rfl ?_
   refine V_y (Y_lenSl h_b rfl Tryz.underlying41 rfl) rfl rfl rfl ?_
   refine V_y (Y_subI rfl rfl) rfl rfl rfl ?_
   obtain ⟨x97, hx97, hm⟩ := Option.bind_eq_some_iff.1 hm
   refine V_indexAddr h_b hx97 Tryz.underlying41 Tryz.sizeOf77 rfl rfl rfl ?_
   intro b98 o99 h100
   refine V_y (Y_load (El.u32 h100) Tryz.isAgg77 rfl) rfl rfl rfl ?_
   obtain ⟨x101, hx101, hm⟩ := Option.bind_eq_some_iff.1 hm
   refine V_call Tryz.call50 rfl rfl rfl rfl (math_bits_LeadingZeros32_c w6 (x97.toNat : Int) hx101) ?_
   rintro _ _ ⟨rfl, rfl⟩
   refine V_y (Y_convI Tryz.underlying3 Tryz.underlying78 rfl) rfl rfl rfl ?_
   refine V_as rfl rfl ?_
   refine V_to (fun _ _ => rfl) ?_
   refine C_seq ?_
   refine C_region ?_
   refine V_mv rfl rfl ?_
   refine V_y (Y_lenSl h_b rfl Tryz.underlying41 rfl) rfl rfl rfl ?_
   refine V_as rfl rfl ?_
   refine V_to (fun _ _ => rfl) ?_
   refine C_seq ?_
   refine C_region ?_
   refine V_mv rfl rfl ?_
   refine V_mv rfl rfl ?_
   obtain ⟨x102, hx102, hm⟩ := Option.bind_eq_some_iff.1 hm
   refine V_call Tryz.call51 rfl rfl rfl rfl (portref2_whole_up_c (Dw := Dw) w6 hA a_ v_a_ h_a_ (IntKind.wrap .u64 x101) hx102) ?_
   rintro v103 w105 ⟨_, rfl, h104, hk106⟩
   obtain ⟨A107, ht108, hH109⟩ := Hp.addOwnd (Dw := Dw) hH hB hA hk106 h104
   replace h_a_ := Sl.tr h_a_ ht108
   replace h_b := Sl.tr h_b ht108
   replace hK := Tr.trans hK ht108
   replace hB := Nat.le_trans hB ht108.ex.size
   replace hA := ht108.new
   replace hH : Hp B A107 w105 (obS (α := UInt32) 77 v103 x102 :: L) := hH109
   refine V_mv rfl rfl ?_
   refine V_mv rfl rfl ?_
   obtain ⟨x110, hx110, hm⟩ := Option.bind_eq_some_iff.1 hm
   refine V_call Tryz.call51 rfl rfl rfl rfl (portref2_whole_up_c (Dw := Dw) w105 hA b v_b h_b (IntKind.wrap .u64 x101) hx110) ?_
   rintro v111 w113 ⟨_, rfl, h112, hk114⟩
   obtain ⟨A115, ht116, hH117⟩ := Hp.addOwnd (Dw := Dw) hH hB hA hk114 h112
   replace h_a_ := Sl.tr h_a_ ht116
   replace hK := Tr.trans hK ht116
   replace hB := Nat.le_trans hB ht116.ex.size
   replace hA := ht116.new
   replace hH : Hp B A115 w113 (obS (α := UInt32) 77 v111 x110 :: obS (α := UInt32) 77 v103 x102 :: L) := hH117
   refine V_as rfl rfl ?_
   refine V_as rfl rfl ?_
   refine V_to (fun _ _ => rfl) ?_
   refine C_seq ?_
   refine C_region ?_
   refine V_mv rfl rfl ?_
   refine V_y (Y_lenSl h_a_ rfl Tryz.underlying41 rfl) rfl rfl rfl ?_
   refine V_mv rfl rfl ?_
   refine V_y (Y_subI rfl rfl) rfl rfl rfl ?_
   refine V_y (Y_addI rfl rfl) rfl rfl rfl ?_
   obtain ⟨x118, hx118, hm⟩ := Option.bind_eq_some_iff.1 hm
   refine V_makeH (Dw := Dw) (e := 77) (ti := Tryz.t77) hH hx118 (fun _ _ => rfl) Tryz.underlying41 Tryz_info77 rfl rfl rfl (by decide) (by decide) hB hA rfl rfl rfl ?_
   intro v119 w120 A121 hH122 ht123
   replace h_a_ := Sl.tr h_a_ ht123
   replace hK := Tr.trans hK ht123
   replace hB := Nat.le_trans hB ht123.ex.size
   replace hA := ht123.new
   replace hH : Hp B A121 w120 (obS (α := UInt32) 77 v119 x118 :: obS (α := UInt32) 77 v111 x110 :: obS (α := UInt32) 77 v103 x102 :: L) := hH122
   refine V_as rfl rfl ?_
   refine V_to (fun _ _ => rfl) ?_
   refine C_seq ?_
   refine C_seq ?_
   refine C_region ?_
   refine V_mv rfl rfl ?_
   refine V_y (Y_lenSl h_a_ rfl Tryz.underlying41 rfl) rfl rfl rfl ?_
   refine V_mv rfl rfl ?_
   refine V_y (Y_subI rfl rfl) rfl rfl rfl ?_
   refine V_as rfl rfl ?_
   refine V_to (fun _ _ => rfl) ?_
   obtain ⟨o124, ho124, hm⟩ := Option.bind_eq_some_iff.1 hm
   refine C_cutG (ι := (((List UInt32) × (List UInt32) × Int) × Value × Value × (Nat → Prop))) (fun ⟨s125, v131, v133, A135⟩ => [(9, .int .u64 (IntKind.wrap .u64 x101)), (10, .int .i64 (b.length : Int)), (11, v131), (13, v133)]) (fun ⟨s125, v131, v133, A135⟩ => fun w' => o124 = .fin s125 ∧ Hp B A135 w' (obS (α := UInt32) 77 v133 s125.2.1 :: obS (α := UInt32) 77 v111 x110 :: obS (α := UInt32) 77 v131 s125.1 :: L) ∧ Tr Dw B A121 w120 A135 w') ?_ ?_
   ·refine C_block ?_
    refine C_while ho124 (fun s137 a w' => ∃ i : (Value × Value × (Nat → Prop)), Has ⟨308, [], none⟩ a ([(9, .int .u64 (IntKind.wrap .u64 x101)), (10, .int .i64 (b.length : Int)), (11, i.1), (12, v111), (13, i.2.1), (14, .int .i64 s137.2.2)]) ∧ Hp B i.2.2 w' (obS (α := UInt32) 77 i.2.1 s137.2.1 :: obS (α := UInt32) 77 v111 x110 :: obS (α := UInt32) 77 i.1 s137.1 :: L) ∧ Tr Dw B A121 w120 i.2.2 w') (fun a ha => ⟨(v103, v119, A121), ha.sub ⟨rfl, rfl, rfl, rfl, rfl, rfl, trivial⟩, ⟨hH, Tr.refl (Dw := Dw) hA⟩⟩) ?_
    rintro K s137 a w138 ⟨⟨v139, v141, A143⟩, ha375, hH144, hr126⟩ K151
    refine C_of ?_ ha375
    replace hB := Nat.le_trans hB hr126.ex.size
    replace hA := hr126.new
    replace hH : Hp B A143 w138 (obS (α := UInt32) 77 v141 s137.2.1 :: obS (α := UInt32) 77 v111 x110 :: obS (α := UInt32) 77 v139 s137.1 :: L) := hH144
    obtain ⟨x145, h146, h147⟩ := K151
    refine C_seq ?_
    refine C_seq ?_
    refine C_region ?_
    refine V_mv rfl rfl ?_
    refine V_y (Y_geq rfl rfl) rfl rfl rfl ?_
    refine V_to (fun _ _ => rfl) ?_
    refine C_cond rfl (fun hc152 => ?_) (fun hc152 => ?_)
    ·rw [if_pos hc152] at h146
     refine C_skip_to (fun _ _ => rfl) ?_
     refine C_seq ?_
     refine C_block ?_
     refine C_seq ?_
     refine C_region_q (Dw := Dw) Tryz_mixed (by kernel_rfl) ?_
     refine VQ_y (fun w' hw' => Y_move rfl) rfl rfl rfl ?_
     refine VQ_y (fun w' hw' => Y_move rfl) rfl rfl rfl ?_
     refine VQ_y (fun w' hw' => Y_move rfl) rfl rfl rfl ?_
     refine VQ_y (fun w' hw' => Y_addI rfl rfl) rfl rfl rfl ?_
     obtain ⟨x153, hx153, h146⟩ := Option.bind_eq_some_iff.1 h146
     refine VQ_indexAddrH (α := UInt32) (e := 77) (v := v139) (l := s137.1) hH (i := 2) rfl hx153 Tryz.underlying41 Tryz.sizeOf77 rfl rfl rfl ?_
     intro b154 o155 h156 hl157
     refine VQ_y (fun w' hw' => Y_load (El.u32 (El.kp (Dw := Dw) h156 hw')) Tryz.isAgg77 rfl) rfl rfl rfl ?_
     refine VQ_y (fun w' hw' => Y_convI Tryz.underlying77 Tryz.underlying76 rfl) rfl rfl rfl ?_
     obtain ⟨x158, hx158, h146⟩ := Option.bind_eq_some_iff.1 h146
     refine VQ_y (fun w' hw' => Y_shl hx158 rfl rfl) rfl rfl rfl ?_
     refine VQ_y (fun w' hw' => Y_move rfl) rfl rfl rfl ?_
     refine VQ_y (fun w' hw' => Y_move rfl) rfl rfl rfl ?_
     refine VQ_y (fun w' hw' => Y_move rfl) rfl rfl rfl ?_
     refine VQ_y (fun w' hw' => Y_addI rfl rfl) rfl rfl rfl ?_
     refine VQ_y (fun w' hw' => Y_subI rfl rfl) rfl rfl rfl ?_
     obtain ⟨x159, hx159, h146⟩ := Option.bind_eq_some_iff.1 h146
     refine VQ_indexAddrH (α := UInt32) (e := 77) (v := v139) (l := s137.1) hH (i := 2) rfl hx159 Tryz.underlying41 Tryz.sizeOf77 rfl rfl rfl ?_
     intro b160 o161 h162 hl163
     refine VQ_y (fun w' hw' => Y_load (El.u32 (El.kp (Dw := Dw) h162 hw')) Tryz.isAgg77 rfl) rfl rfl rfl ?_
     refine VQ_y (fun w' hw' => Y_convI Tryz.underlying77 Tryz.underlying76 rfl) rfl rfl rfl ?_
     refine VQ_y (fun w' hw' => Y_or rfl rfl) rfl rfl rfl ?_
     refine VQ_y (fun w' hw' => Y_assign rfl) rfl rfl rfl ?_
     refine VQ_to (fun _ _ => rfl) (fun w164 hk165 => ?_)
     have ht166 := Kp.tr hk165 hA hB
     replace hH := Hp.kp hH hk165
     replace hr126 := Tr.trans hr126 ht166
     replace hB := Nat.le_trans hB ht166.ex.size
     replace hA := ht166.new
     refine C_seq ?_
     refine C_region_q (Dw := Dw) Tryz_mixed (by kernel_rfl) ?_
     refine VQ_y (fun w' hw' => Y_move rfl) rfl rfl rfl ?_
     refine VQ_y (fun w' hw' => Y_move rfl) rfl rfl rfl ?_
     refine VQ_y (fun w' hw' => Y_move rfl) rfl rfl rfl ?_
     refine VQ_y (fun w' hw' => Y_subI rfl rfl) rfl rfl rfl ?_
     obtain ⟨x167, hx167, h146⟩ := Option.bind_eq_some_iff.1 h146
     refine VQ_indexAddrH (α := UInt32) (e := 77) (v := v111) (l := x110) hH (i := 1) rfl hx167 Tryz.underlying41 Tryz.sizeOf77 rfl rfl rfl ?_
     intro b168 o169 h170 hl171
     refine VQ_y (fun w' hw' => Y_load (El.u32 (El.kp (Dw := Dw) h170 hw')) Tryz.isAgg77 rfl) rfl rfl rfl ?_
     refine VQ_y (fun w' hw' => Y_convI Tryz.underlying77 Tryz.underlying76 rfl) rfl rfl rfl ?_
     obtain ⟨x172, hx172, h146⟩ := Option.bind_eq_some_iff.1 h146
     refine VQ_y (fun w' hw' => Y_quoK hx172 rfl rfl) rfl rfl rfl ?_
     refine VQ_y (fun w' hw' => Y_move rfl) rfl rfl rfl ?_
     refine VQ_y (fun w' hw' => Y_move rfl) rfl rfl rfl ?_
     refine VQ_y (fun w' hw' => Y_move rfl) rfl rfl rfl ?_
     refine VQ_y (fun w' hw' => Y_subI rfl rfl) rfl rfl rfl ?_
     refine VQ_indexAddrH (α := UInt32) (e := 77) (v := v111) (l := x110) hH (i := 1) rfl hx167 Tryz.underlying41 Tryz.sizeOf77 rfl rfl rfl ?_
     intro b173 o174 h175 hl176
     refine VQ_y (fun w' hw' => Y_load (El.u32 (El.kp (Dw := Dw) h175 hw')) Tryz.isAgg77 rfl) rfl rfl rfl ?_
     refine VQ_y (fun w' hw' => Y_convI Tryz.underlying77 Tryz.underlying76 rfl) rfl rfl rfl ?_
     obtain ⟨x177, hx177, h146⟩ := Option.bind_eq_some_iff.1 h146
     refine VQ_y (fun w' hw' => Y_remK hx177 rfl rfl) rfl rfl rfl ?_
     refine VQ_y (fun w' hw' => Y_assign rfl) rfl rfl rfl ?_
     refine VQ_y (fun w' hw' => Y_assign rfl) rfl rfl rfl ?_
     refine VQ_to (fun _ _ => rfl) (fun w178 hk179 => ?_)
     have ht180 := Kp.tr hk179 hA hB
     replace hH := Hp.kp hH hk179
     replace hr126 := Tr.trans hr126 ht180
     replace hB := Nat.le_trans hB ht180.ex.size
     replace hA := ht180.new
     refine C_seq ?_
     obtain ⟨o181, ho181, h146⟩ := Option.bind_eq_some_iff.1 h146
     refine C_cutG (ι := ((Int × Int) × (Nat → Prop))) (fun ⟨s182, A188⟩ => [(9, .int .u64 (IntKind.wrap .u64 x101)), (10, .int .i64 (b.length : Int)), (11, v139), (12, v111), (13, v141), (14, .int .i64 s137.2.2), (16, .int .u64 s182.1)]) (fun ⟨s182, A188⟩ => fun w' => o181 = .fin s182 ∧ Hp B A188 w' (obS (α := UInt32) 77 v141 s137.2.1 :: obS (α := UInt32) 77 v111 x110 :: obS (α := UInt32) 77 v139 s137.1 :: L) ∧ Tr Dw B A143 w178 A188 w') ?_ ?_
     ·refine C_block ?_
      refine C_while ho181 (fun s190 a w' => ∃ i : (Nat → Prop), Has ⟨308, [], none⟩ a ([(9, .int .u64 (IntKind.wrap .u64 x101)), (10, .int .i64 (b.length : Int)), (11, v139), (12, v111), (13, v141), (14, .int .i64 s137.2.2), (16, .int .u64 s190.1), (17, .int .u64 s190.2)]) ∧ Hp B i w' (obS (α := UInt32) 77 v141 s137.2.1 :: obS (α := UInt32) 77 v111 x110 :: obS (α := UInt32) 77 v139 s137.1 :: L) ∧ Tr Dw B A143 w178 i w') (fun a ha => ⟨A143, ha.sub ⟨rfl, rfl, rfl, rfl, rfl, rfl, rfl, rfl, trivial⟩, ⟨hH, Tr.refl (Dw := Dw) hA⟩⟩) ?_
      rintro K s190 a w191 ⟨A192, ha226, hH193, hr183⟩ K200
      refine C_of ?_ ha226
      replace hB := Nat.le_trans hB hr183.ex.size
      replace hA := hr183.new
      replace hH : Hp B A192 w191 (obS (α := UInt32) 77 v141 s137.2.1 :: obS (α := UInt32) 77 v111 x110 :: obS (α := UInt32) 77 v139 s137.1 :: L) := hH193
      obtain ⟨x194, h195, h196⟩ := K200
      refine C_seq ?_
      refine C_seq ?_
      refine C_region_q (Dw := Dw) Tryz_mixed (by kernel_rfl) ?_
      refine VQ_y (fun w' hw' => Y_move rfl) rfl rfl rfl ?_
      refine VQ_y (fun w' hw' => Y_geq rfl rfl) rfl rfl rfl ?_
      refine VQ_y (fun w' hw' => Y_move rfl) rfl rfl rfl ?_
      obtain ⟨s202, hs202, h195⟩ := Option.bind_eq_some_iff.1 h195
      refine VQ_cut 21 (fun _ : Unit => [(9, .int .u64 (IntKind.wrap .u64 x101)), (10, .int .i64 (b.length : Int)), (11, v139), (12, v111), (13, v141), (14, .int .i64 s137.2.2), (16, .int .u64 s190.1), (17, .int .u64 s190.2), (162, .bool s202)]) (fun _ => True) ?_ ?_
      ·simp only [List.take, List.drop]
       rcases Bool.eq_false_or_eq_true (decide ((4294967296 : Int) ≤ s190.1)) with hc201 | hc201
       ·rw [if_pos hc201] at hs202
        refine VQ_gn rfl rfl rfl hc201 rfl rfl rfl ?_
        refine VQ_gn rfl rfl rfl hc201 rfl rfl rfl ?_
        refine VQ_gn rfl rfl rfl hc201 rfl rfl rfl ?_
        refine VQ_gn rfl rfl rfl hc201 rfl rfl rfl ?_
        refine VQ_gn rfl rfl rfl hc201 rfl rfl rfl ?_
        refine VQ_gn rfl rfl rfl hc201 rfl rfl rfl ?_
        refine VQ_gn rfl rfl rfl hc201 rfl rfl rfl ?_
        refine VQ_gn rfl rfl rfl hc201 rfl rfl rfl ?_
        refine VQ_gn rfl rfl rfl hc201 rfl rfl rfl ?_
        refine VQ_gn rfl rfl rfl hc201 rfl rfl rfl ?_
        refine VQ_gn rfl rfl rfl hc201 rfl rfl rfl ?_
        refine VQ_gn rfl rfl rfl hc201 rfl rfl rfl ?_
        refine VQ_gn rfl rfl rfl hc201 rfl rfl rfl ?_
        refine VQ_gn rfl rfl rfl hc201 rfl rfl rfl ?_
        refine VQ_gn rfl rfl rfl hc201 rfl rfl rfl ?_
        refine VQ_gn rfl rfl rfl hc201 rfl rfl rfl ?_
        refine VQ_gn rfl rfl rfl hc201 rfl rfl rfl ?_
        refine VQ_gn rfl rfl rfl hc201 rfl rfl rfl ?_
        refine VQ_gn rfl rfl rfl hc201 rfl rfl rfl ?_
        refine VQ_gn rfl rfl rfl hc201 rfl rfl rfl ?_
        refine VQ_y (fun _ _ => Y_pick_te rfl hc201 rfl) rfl rfl rfl ?_
        obtain rfl := Option.some.inj hs202
        exact VQ_end fun a ha => ⟨(), ha.sub ⟨rfl, rfl, rfl, rfl, rfl, rfl, rfl, rfl, rfl, trivial⟩, trivial⟩
       ·rw [if_neg (nt hc201)] at hs202
        refine VQ_ge rfl rfl rfl hc201 ?_
        refine VQ_y (fun w' hw' => Y_move rfl) rfl rfl rfl ?_
        refine VQ_ge rfl rfl rfl hc201 ?_
        refine VQ_y (fun w' hw' => Y_move rfl) rfl rfl rfl ?_
        refine VQ_ge rfl rfl rfl hc201 ?_
        refine VQ_y (fun w' hw' => Y_move rfl) rfl rfl rfl ?_
        refine VQ_ge rfl rfl rfl hc201 ?_
        refine VQ_y (fun w' hw' => Y_subI rfl rfl) rfl rfl rfl ?_
        refine VQ_ge rfl rfl rfl hc201 ?_
        obtain ⟨x203, hx203, hs202⟩ := Option.bind_eq_some_iff.1 hs202
        refine VQ_indexAddrH (α := UInt32) (e := 77) (v := v111) (l := x110) hH (i := 1) rfl hx203 Tryz.underlying41 Tryz.sizeOf77 rfl rfl rfl ?_
        intro b204 o205 h206 hl207
        refine VQ_ge rfl rfl rfl hc201 ?_
        refine VQ_y (fun w' hw' => Y_load (El.u32 (El.kp (Dw := Dw) h206 hw')) Tryz.isAgg77 rfl) rfl rfl rfl ?_
        refine VQ_ge rfl rfl rfl hc201 ?_
        refine VQ_y (fun w' hw' => Y_convI Tryz.underlying77 Tryz.underlying76 rfl) rfl rfl rfl ?_
        refine VQ_ge rfl rfl rfl hc201 ?_
        refine VQ_y (fun w' hw' => Y_mul rfl rfl) rfl rfl rfl ?_
        refine VQ_ge rfl rfl rfl hc201 ?_
        refine VQ_y (fun w' hw' => Y_move rfl) rfl rfl rfl ?_
        refine VQ_ge rfl rfl rfl hc201 ?_
        obtain ⟨x208, hx208, hs202⟩ := Option.bind_eq_some_iff.1 hs202
        refine VQ_y (fun w' hw' => Y_shl hx208 rfl rfl) rfl rfl rfl ?_
        refine VQ_ge rfl rfl rfl hc201 ?_
        refine VQ_y (fun w' hw' => Y_move rfl) rfl rfl rfl ?_
        refine VQ_ge rfl rfl rfl hc201 ?_
        refine VQ_y (fun w' hw' => Y_move rfl) rfl rfl rfl ?_
        refine VQ_ge rfl rfl rfl hc201 ?_
        refine VQ_y (fun w' hw' => Y_move rfl) rfl rfl rfl ?_
        refine VQ_ge rfl rfl rfl hc201 ?_
        refine VQ_y (fun w' hw' => Y_addI rfl rfl) rfl rfl rfl ?_
        refine VQ_ge rfl rfl rfl hc201 ?_
        refine VQ_y (fun w' hw' => Y_subI rfl rfl) rfl rfl rfl ?_
        refine VQ_ge rfl rfl rfl hc201 ?_
        obtain ⟨x209, hx209, hs202⟩ := Option.bind_eq_some_iff.1 hs202
        refine VQ_indexAddrH (α := UInt32) (e := 77) (v := v139) (l := s137.1) hH (i := 2) rfl hx209 Tryz.underlying41 Tryz.sizeOf77 rfl rfl rfl ?_
        intro b210 o211 h212 hl213
        refine VQ_ge rfl rfl rfl hc201 ?_
        refine VQ_y (fun w' hw' => Y_load (El.u32 (El.kp (Dw := Dw) h212 hw')) Tryz.isAgg77 rfl) rfl rfl rfl ?_
        refine VQ_ge rfl rfl rfl hc201 ?_
        refine VQ_y (fun w' hw' => Y_convI Tryz.underlying77 Tryz.underlying76 rfl) rfl rfl rfl ?_
        refine VQ_ge rfl rfl rfl hc201 ?_
        refine VQ_y (fun w' hw' => Y_or rfl rfl) rfl rfl rfl ?_
        refine VQ_ge rfl rfl rfl hc201 ?_
        refine VQ_y (fun w' hw' => Y_gtr rfl rfl) rfl rfl rfl ?_
        refine VQ_y (fun _ _ => Y_pick_fe rfl hc201 rfl) rfl rfl rfl ?_
        obtain rfl := Option.some.inj hs202
        exact VQ_end fun a ha => ⟨(), ha.sub ⟨rfl, rfl, rfl, rfl, rfl, rfl, rfl, rfl, rfl, trivial⟩, trivial⟩
      simp only [List.take, List.drop]
      rintro _ _
      refine VQ_to (fun _ _ => rfl) (fun w214 hk215 => ?_)
      have ht216 := Kp.tr hk215 hA hB
      replace hH := Hp.kp hH hk215
      replace hr183 := Tr.trans hr183 ht216
      refine C_cond rfl (fun hc217 => ?_) (fun hc217 => ?_)
      ·rw [if_pos hc217] at h195
       refine C_skip_to (fun _ _ => rfl) ?_
       refine C_block ?_
       refine C_seq ?_
       refine C_region ?_
       refine V_mv rfl rfl ?_
       refine V_y (Y_sub rfl rfl) rfl rfl rfl ?_
       refine V_as rfl rfl ?_
       refine V_to (fun _ _ => rfl) ?_
       refine C_seq ?_
       refine C_region ?_
       refine V_mv rfl rfl ?_
       refine V_mv rfl rfl ?_
       refine V_mv rfl rfl ?_
       refine V_y (Y_subI rfl rfl) rfl rfl rfl ?_
       refine V_indexAddrH (α := UInt32) (e := 77) (v := v111) (l := x110) hH (i := 1) rfl hx167 Tryz.underlying41 Tryz.sizeOf77 rfl rfl rfl ?_
       intro b218 o219 h220 hl221
       refine V_y (Y_load (El.u32 h220) Tryz.isAgg77 rfl) rfl rfl rfl ?_
       refine V_y (Y_convI Tryz.underlying77 Tryz.underlying76 rfl) rfl rfl rfl ?_
       refine V_y (Y_add rfl rfl) rfl rfl rfl ?_
       refine V_as rfl rfl ?_
       refine V_to (fun _ _ => rfl) ?_
       refine C_seq ?_
       refine C_region ?_
       refine V_mv rfl rfl ?_
       refine V_y (Y_geq rfl rfl) rfl rfl rfl ?_
       refine V_to (fun _ _ => rfl) ?_
       refine C_cond rfl (fun hc222 => ?_) (fun hc222 => ?_)
       ·rw [if_pos hc222] at h195
        obtain rfl := Option.some.inj h195
        refine C_exit (fun a ha223 => ?_)
        exact ⟨((IntKind.wrap .u64 (s190.1 - 1), IntKind.wrap .u64 (s190.2 + (IntKind.wrap .u64 (x167.toNat : Int)))), A192), ha223.sub ⟨rfl, rfl, rfl, rfl, rfl, rfl, rfl, trivial⟩, ⟨h196.symm, hH, hr183⟩⟩
       ·rw [if_neg (nt hc222)] at h195
        obtain rfl := Option.some.inj h195
        refine C_skip (fun a ha224 => ?_)
        exact ⟨(IntKind.wrap .u64 (s190.1 - 1), IntKind.wrap .u64 (s190.2 + (IntKind.wrap .u64 (x167.toNat : Int)))), h196, ⟨A192, ha224.sub ⟨rfl, rfl, rfl, rfl, rfl, rfl, rfl, rfl, trivial⟩, ⟨hH, hr183⟩⟩⟩
      ·rw [if_neg (nt hc217)] at h195
       obtain rfl := Option.some.inj h195
       refine C_exit (fun a ha225 => ?_)
       exact ⟨((s190.1, s190.2), A192), ha225.sub ⟨rfl, rfl, rfl, rfl, rfl, rfl, rfl, trivial⟩, ⟨h196.symm, hH, hr183⟩⟩
     rintro ⟨s182, A188⟩ w185 ⟨rfl, hH189, hk186⟩ a ha187
     rw [Lp.andThen_fin] at h146
     replace hr126 := Tr.trans hr126 hk186
     replace hB := Nat.le_trans hB hk186.ex.size
     replace hA := hk186.new
     replace hH : Hp B A188 w185 (obS (α := UInt32) 77 v141 s137.2.1 :: obS (α := UInt32) 77 v111 x110 :: obS (α := UInt32) 77 v139 s137.1 :: L) := hH189
     refine C_at (n := ⟨308, [], none⟩) (fun _ _ => rfl) ?_ ha187
     refine C_seq ?_
     refine C_region ?_
     refine V_as rfl rfl ?_
     refine V_to (fun _ _ => rfl) ?_
     refine C_seq ?_
     refine C_seq ?_
     refine C_region ?_
     refine V_mv rfl rfl ?_
     refine V_mv rfl rfl ?_
     refine V_to (fun _ _ => rfl) ?_
     obtain ⟨o227, ho227, h146⟩ := Option.bind_eq_some_iff.1 h146
     refine C_cutG (ι := (((List UInt32) × Int × Int) × Value × (Nat → Prop))) (fun ⟨s228, v234, A236⟩ => [(9, .int .u64 (IntKind.wrap .u64 x101)), (10, .int .i64 (b.length : Int)), (11, v234), (12, v111), (13, v141), (14, .int .i64 s137.2.2), (16, .int .u64 s182.1), (18, .int .i64 s228.2.1)]) (fun ⟨s228, v234, A236⟩ => fun w' => o227 = .fin s228 ∧ Hp B A236 w' (obS (α := UInt32) 77 v141 s137.2.1 :: obS (α := UInt32) 77 v111 x110 :: obS (α := UInt32) 77 v234 s228.1 :: L) ∧ Tr Dw B A188 w185 A236 w') ?_ ?_
     ·refine C_block ?_
      refine C_while ho227 (fun s238 a w' => ∃ i : (Value × (Nat → Prop)), Has ⟨308, [], none⟩ a ([(9, .int .u64 (IntKind.wrap .u64 x101)), (10, .int .i64 (b.length : Int)), (11, i.1), (12, v111), (13, v141), (14, .int .i64 s137.2.2), (16, .int .u64 s182.1), (18, .int .i64 s238.2.1), (175, .int .i64 (b.length : Int)), (176, .int .i64 s238.2.2)]) ∧ Hp B i.2 w' (obS (α := UInt32) 77 v141 s137.2.1 :: obS (α := UInt32) 77 v111 x110 :: obS (α := UInt32) 77 i.1 s238.1 :: L) ∧ Tr Dw B A188 w185 i.2 w') (fun a ha => ⟨(v139, A188), ha.sub ⟨rfl, rfl, rfl, rfl, rfl, rfl, rfl, rfl, rfl, rfl, trivial⟩, ⟨hH, Tr.refl (Dw := Dw) hA⟩⟩) ?_
      rintro K s238 a w239 ⟨⟨v240, A242⟩, ha274, hH243, hr229⟩ K250
      refine C_of ?_ ha274
      replace hB := Nat.le_trans hB hr229.ex.size
      replace hA := hr229.new
      replace hH : Hp B A242 w239 (obS (α := UInt32) 77 v141 s137.2.1 :: obS (α := UInt32) 77 v111 x110 :: obS (α := UInt32) 77 v240 s238.1 :: L) := hH243
      obtain ⟨x244, h245, h246⟩ := K250
      refine C_seq ?_
      refine C_region ?_
      refine V_y (Y_lss rfl rfl) rfl rfl rfl ?_
      refine V_to (fun _ _ => rfl) ?_
      refine C_seq ?_
      refine C_cond rfl (fun hc251 => ?_) (fun hc251 => ?_)
      ·rw [if_pos hc251] at h245
       refine C_skip_to (fun _ _ => rfl) ?_
       refine C_seq ?_
       refine C_block ?_
       refine C_seq ?_
       refine C_region ?_
       refine V_mv rfl rfl ?_
       refine V_as rfl rfl ?_
       refine V_to (fun _ _ => rfl) ?_
       refine C_seq ?_
       refine C_region ?_
       refine V_mv rfl rfl ?_
       refine V_mv rfl rfl ?_
       refine V_mv rfl rfl ?_
       obtain ⟨x252, hx252, h245⟩ := Option.bind_eq_some_iff.1 h245
       refine V_indexAddrH (α := UInt32) (e := 77) (v := v111) (l := x110) hH (i := 1) rfl hx252 Tryz.underlying41 Tryz.sizeOf77 rfl rfl rfl ?_
       intro b253 o254 h255 hl256
       refine V_y (Y_load (El.u32 h255) Tryz.isAgg77 rfl) rfl rfl rfl ?_
       refine V_y (Y_convI Tryz.underlying77 Tryz.underlying76 rfl) rfl rfl rfl ?_
       refine V_y (Y_mul rfl rfl) rfl rfl rfl ?_
       refine V_as rfl rfl ?_
       refine V_to (fun _ _ => rfl) ?_
       refine C_seq ?_
       refine C_region ?_
       refine V_mv rfl rfl ?_
       refine V_mv rfl rfl ?_
       refine V_mv rfl rfl ?_
       refine V_y (Y_addI rfl rfl) rfl rfl rfl ?_
       obtain ⟨x257, hx257, h245⟩ := Option.bind_eq_some_iff.1 h245
       refine V_indexAddrH (α := UInt32) (e := 77) (v := v240) (l := s238.1) hH (i := 2) rfl hx257 Tryz.underlying41 Tryz.sizeOf77 rfl rfl rfl ?_
       intro b258 o259 h260 hl261
       refine V_y (Y_load (El.u32 h260) Tryz.isAgg77 rfl) rfl rfl rfl ?_
       refine V_y (Y_convI Tryz.underlying77 Tryz.underlying2 rfl) rfl rfl rfl ?_
       refine V_mv rfl rfl ?_
       refine V_y (Y_subI rfl rfl) rfl rfl rfl ?_
       refine V_mv rfl rfl ?_
       refine V_y (Y_and rfl rfl) rfl rfl rfl ?_
       refine V_y (Y_convI Tryz.underlying76 Tryz.underlying2 rfl) rfl rfl rfl ?_
       refine V_y (Y_subI rfl rfl) rfl rfl rfl ?_
       refine V_as rfl rfl ?_
       refine V_to (fun _ _ => rfl) ?_
       refine C_seq ?_
       refine C_region ?_
       refine V_mv rfl rfl ?_
       refine V_mv rfl rfl ?_
       refine V_mv rfl rfl ?_
       refine V_y (Y_addI rfl rfl) rfl rfl rfl ?_
       refine V_mv rfl rfl ?_
       refine V_y (Y_convU32 Tryz.underlying2 Tryz.underlying77 rfl) rfl rfl rfl ?_
       refine V_indexAddrH (α := UInt32) (e := 77) (v := v240) (l := s238.1) hH (i := 2) rfl hx257 Tryz.underlying41 Tryz.sizeOf77 rfl rfl rfl ?_
       intro b262 o263 h264 hl265
       obtain ⟨x266, hx266, h245⟩ := Option.bind_eq_some_iff.1 h245
       refine V_storeH (Dw := Dw) (α := UInt32) (e := 77) (v := v240) (l := s238.1) hH (i := 2) rfl hl265 hx266 rfl Tryz.sizeOf77 rfl hB hA rfl rfl ?_
       intro w267 hH268 ht269
       replace hr229 := Tr.trans hr229 ht269
       replace hH : Hp B A242 w267 (obS (α := UInt32) 77 v141 s137.2.1 :: obS (α := UInt32) 77 v111 x110 :: obS (α := UInt32) 77 v240 x266 :: L) := hH268
       refine V_to (fun _ _ => rfl) ?_
       refine C_region ?_
       refine V_mv rfl rfl ?_
       obtain ⟨x270, hx270, h245⟩ := Option.bind_eq_some_iff.1 h245
       refine V_y (Y_shr hx270 rfl rfl) rfl rfl rfl ?_
       refine V_y (Y_convI Tryz.underlying76 Tryz.underlying2 rfl) rfl rfl rfl ?_
       refine V_mv rfl rfl ?_
       obtain ⟨x271, hx271, h245⟩ := Option.bind_eq_some_iff.1 h245
       refine V_y (Y_shr hx271 rfl rfl) rfl rfl rfl ?_
       refine V_y (Y_subI rfl rfl) rfl rfl rfl ?_
       refine V_as rfl rfl ?_
       refine V_to (fun _ _ => rfl) ?_
       refine C_region ?_
       refine V_y (Y_addI rfl rfl) rfl rfl rfl ?_
       refine V_mv rfl rfl ?_
       obtain rfl := Option.some.inj h245
       refine V_end (fun a ha272 => ?_)
       exact ⟨(x266, w64 ((IntKind.wrap .i64 x270) - x271), w64 (s238.2.2 + 1)), h246, ⟨(v240, A242), ha272.sub ⟨rfl, rfl, rfl, rfl, rfl, rfl, rfl, rfl, rfl, rfl, trivial⟩, ⟨hH, hr229⟩⟩⟩
      ·rw [if_neg (nt hc251)] at h245
       obtain rfl := Option.some.inj h245
       refine C_exit (fun a ha273 => ?_)
       exact ⟨((s238.1, s238.2.1, s238.2.2), v240, A242), ha273.sub ⟨rfl, rfl, rfl, rfl, rfl, rfl, rfl, rfl, trivial⟩, ⟨h246.symm, hH, hr229⟩⟩
     rintro ⟨s228, v234, A236⟩ w231 ⟨rfl, hH237, hk232⟩ a ha233
     rw [Lp.andThen_fin] at h146
     replace hr126 := Tr.trans hr126 hk232
     replace hB := Nat.le_trans hB hk232.ex.size
     replace hA := hk232.new
     replace hH : Hp B A236 w231 (obS (α := UInt32) 77 v141 s137.2.1 :: obS (α := UInt32) 77 v111 x110 :: obS (α := UInt32) 77 v234 s228.1 :: L) := hH237
     refine C_at (n := ⟨308, [], none⟩) (fun _ _ => rfl) ?_ ha233
     refine C_seq ?_
     refine C_region ?_
     refine V_mv rfl rfl ?_
     refine V_mv rfl rfl ?_
     refine V_mv rfl rfl ?_
     refine V_y (Y_addI rfl rfl) rfl rfl rfl ?_
     obtain ⟨x275, hx275, h146⟩ := Option.bind_eq_some_iff.1 h146
     refine V_indexAddrH (α := UInt32) (e := 77) (v := v234) (l := s228.1) hH (i := 2) rfl hx275 Tryz.underlying41 Tryz.sizeOf77 rfl rfl rfl ?_
     intro b276 o277 h278 hl279
     refine V_y (Y_load (El.u32 h278) Tryz.isAgg77 rfl) rfl rfl rfl ?_
     refine V_y (Y_convI Tryz.underlying77 Tryz.underlying2 rfl) rfl rfl rfl ?_
     refine V_mv rfl rfl ?_
     refine V_y (Y_subI rfl rfl) rfl rfl rfl ?_
     refine V_as rfl rfl ?_
     refine V_to (fun _ _ => rfl) ?_
     refine C_seq ?_
     refine C_region ?_
     refine V_mv rfl rfl ?_
     refine V_mv rfl rfl ?_
     refine V_mv rfl rfl ?_
     refine V_y (Y_addI rfl rfl) rfl rfl rfl ?_
     refine V_mv rfl rfl ?_
     refine V_y (Y_convU32 Tryz.underlying2 Tryz.underlying77 rfl) rfl rfl rfl ?_
     refine V_indexAddrH (α := UInt32) (e := 77) (v := v234) (l := s228.1) hH (i := 2) rfl hx275 Tryz.underlying41 Tryz.sizeOf77 rfl rfl rfl ?_
     intro b280 o281 h282 hl283
     obtain ⟨x284, hx284, h146⟩ := Option.bind_eq_some_iff.1 h146
     refine V_storeH (Dw := Dw) (α := UInt32) (e := 77) (v := v234) (l := s228.1) hH (i := 2) rfl hl283 hx284 rfl Tryz.sizeOf77 rfl hB hA rfl rfl ?_
     intro w285 hH286 ht287
     replace hr126 := Tr.trans hr126 ht287
     replace hB := Nat.le_trans hB ht287.ex.size
     replace hA := ht287.new
     replace hH : Hp B A236 w285 (obS (α := UInt32) 77 v141 s137.2.1 :: obS (α := UInt32) 77 v111 x110 :: obS (α := UInt32) 77 v234 x284 :: L) := hH286
     refine V_to (fun _ _ => rfl) ?_
     refine C_seq ?_
     refine C_seq ?_
     refine C_region ?_
     refine V_mv rfl rfl ?_
     refine V_y (Y_lss rfl rfl) rfl rfl rfl ?_
     refine V_to (fun _ _ => rfl) ?_
     obtain ⟨s289, ho288, h146⟩ := Option.bind_eq_some_iff.1 h146
     refine C_cutG (ι := (Value × (Nat → Prop))) (fun ⟨v291, A296⟩ => [(9, .int .u64 (IntKind.wrap .u64 x101)), (10, .int .i64 (b.length : Int)), (11, v291), (12, v111), (13, v141), (14, .int .i64 s137.2.2), (16, .int .u64 s289.2)]) (fun ⟨v291, A296⟩ => fun w' => Hp B A296 w' (obS (α := UInt32) 77 v141 s137.2.1 :: obS (α := UInt32) 77 v111 x110 :: obS (α := UInt32) 77 v291 s289.1 :: L) ∧ Tr Dw B A236 w285 A296 w') ?_ ?_
     ·have hr290 : Tr Dw B A236 w285 A236 w285 := Tr.refl (Dw := Dw) hA
      refine C_cond rfl (fun hc298 => ?_) (fun hc298 => ?_)
      ·rw [if_pos hc298] at ho288
       refine C_seq ?_
       refine C_region ?_
       refine V_mv rfl rfl ?_
       refine V_y (Y_sub rfl rfl) rfl rfl rfl ?_
       refine V_as rfl rfl ?_
       refine V_to (fun _ _ => rfl) ?_
       refine C_seq ?_
       refine C_region ?_
       refine V_as rfl rfl ?_
       refine V_to (fun _ _ => rfl) ?_
       refine C_seq ?_
       refine C_seq ?_
       refine C_region ?_
       refine V_mv rfl rfl ?_
       refine V_mv rfl rfl ?_
       refine V_to (fun _ _ => rfl) ?_
       obtain ⟨o299, ho299, ho288⟩ := Option.bind_eq_some_iff.1 ho288
       refine C_cutG (ι := (((List UInt32) × Int × Int) × Value × (Nat → Prop))) (fun ⟨s300, v306, A308⟩ => [(9, .int .u64 (IntKind.wrap .u64 x101)), (10, .int .i64 (b.length : Int)), (11, v306), (12, v111), (13, v141), (14, .int .i64 s137.2.2), (16, .int .u64 (IntKind.wrap .u64 (s182.1 - 1))), (23, .int .u64 s300.2.1)]) (fun ⟨s300, v306, A308⟩ => fun w' => o299 = .fin s300 ∧ Hp B A308 w' (obS (α := UInt32) 77 v141 s137.2.1 :: obS (α := UInt32) 77 v111 x110 :: obS (α := UInt32) 77 v306 s300.1 :: L) ∧ Tr Dw B A236 w285 A308 w') ?_ ?_
       ·refine C_block ?_
        refine C_while ho299 (fun s310 a w' => ∃ i : (Value × (Nat → Prop)), Has ⟨308, [], none⟩ a ([(9, .int .u64 (IntKind.wrap .u64 x101)), (10, .int .i64 (b.length : Int)), (11, i.1), (12, v111), (13, v141), (14, .int .i64 s137.2.2), (16, .int .u64 (IntKind.wrap .u64 (s182.1 - 1))), (23, .int .u64 s310.2.1), (233, .int .i64 (b.length : Int)), (234, .int .i64 s310.2.2)]) ∧ Hp B i.2 w' (obS (α := UInt32) 77 v141 s137.2.1 :: obS (α := UInt32) 77 v111 x110 :: obS (α := UInt32) 77 i.1 s310.1 :: L) ∧ Tr Dw B A236 w285 i.2 w') (fun a ha => ⟨(v234, A236), ha.sub ⟨rfl, rfl, rfl, rfl, rfl, rfl, rfl, rfl, rfl, rfl, trivial⟩, ⟨hH, Tr.refl (Dw := Dw) hA⟩⟩) ?_
        rintro K s310 a w311 ⟨⟨v312, A314⟩, ha348, hH315, hr301⟩ K322
        refine C_of ?_ ha348
        replace hB := Nat.le_trans hB hr301.ex.size
        replace hA := hr301.new
        replace hH : Hp B A314 w311 (obS (α := UInt32) 77 v141 s137.2.1 :: obS (α := UInt32) 77 v111 x110 :: obS (α := UInt32) 77 v312 s310.1 :: L) := hH315
        obtain ⟨x316, h317, h318⟩ := K322
        refine C_seq ?_
        refine C_region ?_
        refine V_y (Y_lss rfl rfl) rfl rfl rfl ?_
        refine V_to (fun _ _ => rfl) ?_
        refine C_seq ?_
        refine C_cond rfl (fun hc323 => ?_) (fun hc323 => ?_)
        ·rw [if_pos hc323] at h317
         refine C_skip_to (fun _ _ => rfl) ?_
         refine C_seq ?_
         refine C_block ?_
         refine C_seq ?_
         refine C_region ?_
         refine V_mv rfl rfl ?_
         refine V_as rfl rfl ?_
         refine V_to (fun _ _ => rfl) ?_
         refine C_seq ?_
         refine C_region_q (Dw := Dw) Tryz_mixed (by kernel_rfl) ?_
         refine VQ_y (fun w' hw' => Y_move rfl) rfl rfl rfl ?_
         refine VQ_y (fun w' hw' => Y_move rfl) rfl rfl rfl ?_
         refine VQ_y (fun w' hw' => Y_move rfl) rfl rfl rfl ?_
         refine VQ_y (fun w' hw' => Y_move rfl) rfl rfl rfl ?_
         refine VQ_y (fun w' hw' => Y_addI rfl rfl) rfl rfl rfl ?_
         obtain ⟨x324, hx324, h317⟩ := Option.bind_eq_some_iff.1 h317
         refine VQ_indexAddrH (α := UInt32) (e := 77) (v := v312) (l := s310.1) hH (i := 2) rfl hx324 Tryz.underlying41 Tryz.sizeOf77 rfl rfl rfl ?_
         intro b325 o326 h327 hl328
         refine VQ_y (fun w' hw' => Y_load (El.u32 (El.kp (Dw := Dw) h327 hw')) Tryz.isAgg77 rfl) rfl rfl rfl ?_
         refine VQ_y (fun w' hw' => Y_convI Tryz.underlying77 Tryz.underlying76 rfl) rfl rfl rfl ?_
         refine VQ_y (fun w' hw' => Y_move rfl) rfl rfl rfl ?_
         refine VQ_y (fun w' hw' => Y_move rfl) rfl rfl rfl ?_
         obtain ⟨x329, hx329, h317⟩ := Option.bind_eq_some_iff.1 h317
         refine VQ_indexAddrH (α := UInt32) (e := 77) (v := v111) (l := x110) hH (i := 1) rfl hx329 Tryz.underlying41 Tryz.sizeOf77 rfl rfl rfl ?_
         intro b330 o331 h332 hl333
         refine VQ_y (fun w' hw' => Y_load (El.u32 (El.kp (Dw := Dw) h332 hw')) Tryz.isAgg77 rfl) rfl rfl rfl ?_
         refine VQ_y (fun w' hw' => Y_convI Tryz.underlying77 Tryz.underlying76 rfl) rfl rfl rfl ?_
         refine VQ_y (fun w' hw' => Y_add rfl rfl) rfl rfl rfl ?_
         refine VQ_y (fun w' hw' => Y_add rfl rfl) rfl rfl rfl ?_
         refine VQ_y (fun w' hw' => Y_assign rfl) rfl rfl rfl ?_
         refine VQ_to (fun _ _ => rfl) (fun w334 hk335 => ?_)
         have ht336 := Kp.tr hk335 hA hB
         replace hH := Hp.kp hH hk335
         replace hr301 := Tr.trans hr301 ht336
         replace hB := Nat.le_trans hB ht336.ex.size
         replace hA := ht336.new
         refine C_seq ?_
         refine C_region ?_
         refine V_mv rfl rfl ?_
         refine V_mv rfl rfl ?_
         refine V_mv rfl rfl ?_
         refine V_y (Y_addI rfl rfl) rfl rfl rfl ?_
         refine V_mv rfl rfl ?_
         refine V_y (Y_convU32 Tryz.underlying76 Tryz.underlying77 rfl) rfl rfl rfl ?_
         refine V_indexAddrH (α := UInt32) (e := 77) (v := v312) (l := s310.1) hH (i := 2) rfl hx324 Tryz.underlying41 Tryz.sizeOf77 rfl rfl rfl ?_
         intro b337 o338 h339 hl340
         obtain ⟨x341, hx341, h317⟩ := Option.bind_eq_some_iff.1 h317
         refine V_storeH (Dw := Dw) (α := UInt32) (e := 77) (v := v312) (l := s310.1) hH (i := 2) rfl hl340 hx341 rfl Tryz.sizeOf77 rfl hB hA rfl rfl ?_
         intro w342 hH343 ht344
         replace hr301 := Tr.trans hr301 ht344
         replace hH : Hp B A314 w342 (obS (α := UInt32) 77 v141 s137.2.1 :: obS (α := UInt32) 77 v111 x110 :: obS (α := UInt32) 77 v312 x341 :: L) := hH343
         refine V_to (fun _ _ => rfl) ?_
         refine C_region ?_
         refine V_mv rfl rfl ?_
         obtain ⟨x345, hx345, h317⟩ := Option.bind_eq_some_iff.1 h317
         refine V_y (Y_shr hx345 rfl rfl) rfl rfl rfl ?_
         refine V_as rfl rfl ?_
         refine V_to (fun _ _ => rfl) ?_
         refine C_region ?_
         refine V_y (Y_addI rfl rfl) rfl rfl rfl ?_
         refine V_mv rfl rfl ?_
         obtain rfl := Option.some.inj h317
         refine V_end (fun a ha346 => ?_)
         exact ⟨(x341, x345, w64 (s310.2.2 + 1)), h318, ⟨(v312, A314), ha346.sub ⟨rfl, rfl, rfl, rfl, rfl, rfl, rfl, rfl, rfl, rfl, trivial⟩, ⟨hH, hr301⟩⟩⟩
        ·rw [if_neg (nt hc323)] at h317
         obtain rfl := Option.some.inj h317
         refine C_exit (fun a ha347 => ?_)
         exact ⟨((s310.1, s310.2.1, s310.2.2), v312, A314), ha347.sub ⟨rfl, rfl, rfl, rfl, rfl, rfl, rfl, rfl, trivial⟩, ⟨h318.symm, hH, hr301⟩⟩
       rintro ⟨s300, v306, A308⟩ w303 ⟨rfl, hH309, hk304⟩ a ha305
       rw [Lp.andThen_fin] at ho288
       replace hr290 := Tr.trans hr290 hk304
       replace hB := Nat.le_trans hB hk304.ex.size
       replace hA := hk304.new
       replace hH : Hp B A308 w303 (obS (α := UInt32) 77 v141 s137.2.1 :: obS (α := UInt32) 77 v111 x110 :: obS (α := UInt32) 77 v306 s300.1 :: L) := hH309
       refine C_at (n := ⟨308, [], none⟩) (fun _ _ => rfl) ?_ ha305
       refine C_region ?_
       refine V_mv rfl rfl ?_
       refine V_mv rfl rfl ?_
       refine V_mv rfl rfl ?_
       refine V_y (Y_addI rfl rfl) rfl rfl rfl ?_
       obtain ⟨x349, hx349, ho288⟩ := Option.bind_eq_some_iff.1 ho288
       refine V_indexAddrH (α := UInt32) (e := 77) (v := v306) (l := s300.1) hH (i := 2) rfl hx349 Tryz.underlying41 Tryz.sizeOf77 rfl rfl rfl ?_
       intro b350 o351 h352 hl353
       refine V_y (Y_load (El.u32 h352) Tryz.isAgg77 rfl) rfl rfl rfl ?_
       refine V_mv rfl rfl ?_
       refine V_y (Y_convU32 Tryz.underlying76 Tryz.underlying77 rfl) rfl rfl rfl ?_
       refine V_y (Y_addW rfl rfl) rfl rfl rfl ?_
       refine V_indexAddrH (α := UInt32) (e := 77) (v := v306) (l := s300.1) hH (i := 2) rfl hx349 Tryz.underlying41 Tryz.sizeOf77 rfl rfl rfl ?_
       intro b354 o355 h356 hl357
       obtain ⟨x358, hx358, ho288⟩ := Option.bind_eq_some_iff.1 ho288
       refine V_storeH (Dw := Dw) (α := UInt32) (e := 77) (v := v306) (l := s300.1) hH (i := 2) rfl hl357 hx358 rfl Tryz.sizeOf77 rfl hB hA rfl rfl ?_
       intro w359 hH360 ht361
       replace hr290 := Tr.trans hr290 ht361
       replace hH : Hp B A308 w359 (obS (α := UInt32) 77 v141 s137.2.1 :: obS (α := UInt32) 77 v111 x110 :: obS (α := UInt32) 77 v306 x358 :: L) := hH360
       obtain rfl := Option.some.inj ho288
       refine V_end (fun a ha362 => ?_)
       exact ⟨(v306, A308), ha362.sub ⟨rfl, rfl, rfl, rfl, rfl, rfl, rfl, trivial⟩, ⟨hH, hr290⟩⟩
      ·rw [if_neg (nt hc298)] at ho288
       obtain rfl := Option.some.inj ho288
       refine C_skip (fun a ha363 => ?_)
       exact ⟨(v234, A236), ha363.sub ⟨rfl, rfl, rfl, rfl, rfl, rfl, rfl, trivial⟩, ⟨hH, hr290⟩⟩
     rintro ⟨v291, A296⟩ w293 ⟨hH297, hk294⟩ a ha295
     replace hr126 := Tr.trans hr126 hk294
     replace hB := Nat.le_trans hB hk294.ex.size
     replace hA := hk294.new
     replace hH : Hp B A296 w293 (obS (α := UInt32) 77 v141 s137.2.1 :: obS (α := UInt32) 77 v111 x110 :: obS (α := UInt32) 77 v291 s289.1 :: L) := hH297
     refine C_at (n := ⟨308, [], none⟩) (fun _ _ => rfl) ?_ ha295
     refine C_region ?_
     refine V_mv rfl rfl ?_
     refine V_mv rfl rfl ?_
     refine V_mv rfl rfl ?_
     refine V_y (Y_convU32 Tryz.underlying76 Tryz.underlying77 rfl) rfl rfl rfl ?_
     obtain ⟨x364, hx364, h146⟩ := Option.bind_eq_some_iff.1 h146
     refine V_indexAddrH (α := UInt32) (e := 77) (v := v141) (l := s137.2.1) hH (i := 0) rfl hx364 Tryz.underlying41 Tryz.sizeOf77 rfl rfl rfl ?_
     intro b365 o366 h367 hl368
     obtain ⟨x369, hx369, h146⟩ := Option.bind_eq_some_iff.1 h146
     refine V_storeH (Dw := Dw) (α := UInt32) (e := 77) (v := v141) (l := s137.2.1) hH (i := 0) rfl hl368 hx369 rfl Tryz.sizeOf77 rfl hB hA rfl rfl ?_
     intro w370 hH371 ht372
     replace hr126 := Tr.trans hr126 ht372
     replace hH : Hp B A296 w370 (obS (α := UInt32) 77 v141 x369 :: obS (α := UInt32) 77 v111 x110 :: obS (α := UInt32) 77 v291 s289.1 :: L) := hH371
     refine V_to (fun _ _ => rfl) ?_
     refine C_region ?_
     refine V_mv rfl rfl ?_
     refine V_y (Y_subI rfl rfl) rfl rfl rfl ?_
     refine V_as rfl rfl ?_
     obtain rfl := Option.some.inj h146
     refine V_end (fun a ha373 => ?_)
     exact ⟨(s289.1, x369, w64 (s137.2.2 - 1)), h147, ⟨(v291, v141, A296), ha373.sub ⟨rfl, rfl, rfl, rfl, rfl, rfl, trivial⟩, ⟨hH, hr126⟩⟩⟩
    ·rw [if_neg (nt hc152)] at h146
     obtain rfl := Option.some.inj h146
     refine C_exit (fun a ha374 => ?_)
     exact ⟨((s137.1, s137.2.1, s137.2.2), v139, v141, A143), ha374.sub ⟨rfl, rfl, rfl, rfl, trivial⟩, ⟨h147.symm, hH, hr126⟩⟩
   rintro ⟨s125, v131, v133, A135⟩ w128 ⟨rfl, hH136, hk129⟩ a ha130
   rw [Lp.andThen_fin] at hm
   replace hK := Tr.trans hK hk129
   replace hB := Nat.le_trans hB hk129.ex.size
   replace hA := hk129.new
   replace hH : Hp B A135 w128 (obS (α := UInt32) 77 v133 s125.2.1 :: obS (α := UInt32) 77 v111 x110 :: obS (α := UInt32) 77 v131 s125.1 :: L) := hH136
   refine C_at (n := ⟨308, [], none⟩) (fun _ _ => rfl) ?_ ha130
   refine C_seq ?_
   refine C_region ?_
   refine V_mv rfl rfl ?_
   obtain ⟨x376, hx376, hm⟩ := Option.bind_eq_some_iff.1 hm
   refine V_makeH (Dw := Dw) (e := 77) (ti := Tryz.t77) hH hx376 (fun _ _ => rfl) Tryz.underlying41 Tryz_info77 rfl rfl rfl (by decide) (by decide) hB hA rfl rfl rfl ?_
   intro v377 w378 A379 hH380 ht381
   replace hK := Tr.trans hK ht381
   replace hB := Nat.le_trans hB ht381.ex.size
   replace hA := ht381.new
   replace hH : Hp B A379 w378 (obS (α := UInt32) 77 v377 x376 :: obS (α := UInt32) 77 v133 s125.2.1 :: obS (α := UInt32) 77 v111 x110 :: obS (α := UInt32) 77 v131 s125.1 :: L) := hH380
   refine V_as rfl rfl ?_
   refine V_to (fun _ _ => rfl) ?_
   refine C_seq ?_
   refine C_seq ?_
   refine C_region ?_
   refine V_mv rfl rfl ?_
   refine V_mv rfl rfl ?_
   refine V_to (fun _ _ => rfl) ?_
   obtain ⟨o382, ho382, hm⟩ := Option.bind_eq_some_iff.1 hm
   refine C_cutG (ι := (((List UInt32) × Int) × Value × (Nat → Prop))) (fun ⟨s383, v389, A391⟩ => [(13, v133), (25, v389)]) (fun ⟨s383, v389, A391⟩ => fun w' => o382 = .fin s383 ∧ Hp B A391 w' (obS (α := UInt32) 77 v389 s383.1 :: obS (α := UInt32) 77 v133 s125.2.1 :: obS (α := UInt32) 77 v111 x110 :: obS (α := UInt32) 77 v131 s125.1 :: L) ∧ Tr Dw B A379 w378 A391 w') ?_ ?_
   ·refine C_block ?_
    refine C_while ho382 (fun s393 a w' => ∃ i : (Value × (Nat → Prop)), Has ⟨308, [], none⟩ a ([(9, .int .u64 (IntKind.wrap .u64 x101)), (11, v131), (13, v133), (25, i.1), (279, .int .i64 (b.length : Int)), (280, .int .i64 s393.2)]) ∧ Hp B i.2 w' (obS (α := UInt32) 77 i.1 s393.1 :: obS (α := UInt32) 77 v133 s125.2.1 :: obS (α := UInt32) 77 v111 x110 :: obS (α := UInt32) 77 v131 s125.1 :: L) ∧ Tr Dw B A379 w378 i.2 w') (fun a ha => ⟨(v377, A379), ha.sub ⟨rfl, rfl, rfl, rfl, rfl, rfl, trivial⟩, ⟨hH, Tr.refl (Dw := Dw) hA⟩⟩) ?_
    rintro K s393 a w394 ⟨⟨v395, A397⟩, ha433, hH398, hr384⟩ K405
    refine C_of ?_ ha433
    replace hB := Nat.le_trans hB hr384.ex.size
    replace hA := hr384.new
    replace hH : Hp B A397 w394 (obS (α := UInt32) 77 v395 s393.1 :: obS (α := UInt32) 77 v133 s125.2.1 :: obS (α := UInt32) 77 v111 x110 :: obS (α := UInt32) 77 v131 s125.1 :: L) := hH398
    obtain ⟨x399, h400, h401⟩ := K405
    refine C_seq ?_
    refine C_region ?_
    refine V_y (Y_lss rfl rfl) rfl rfl rfl ?_
    refine V_to (fun _ _ => rfl) ?_
    refine C_seq ?_
    refine C_cond rfl (fun hc406 => ?_) (fun hc406 => ?_)
    ·rw [if_pos hc406] at h400
     refine C_skip_to (fun _ _ => rfl) ?_
     refine C_seq ?_
     refine C_block ?_
     refine C_seq ?_
     refine C_region ?_
     refine V_mv rfl rfl ?_
     refine V_as rfl rfl ?_
     refine V_to (fun _ _ => rfl) ?_
     refine C_region_qt (Dw := Dw) 20 Tryz_mixed (by kernel_rfl) ?_
     simp only [List.take, List.drop]
     refine VQ_y (fun w' hw' => Y_move rfl) rfl rfl rfl ?_
     refine VQ_y (fun w' hw' => Y_move rfl) rfl rfl rfl ?_
     refine VQ_y (fun w' hw' => Y_move rfl) rfl rfl rfl ?_
     refine VQ_y (fun w' hw' => Y_move rfl) rfl rfl rfl ?_
     obtain ⟨x407, hx407, h400⟩ := Option.bind_eq_some_iff.1 h400
     refine VQ_indexAddrH (α := UInt32) (e := 77) (v := v131) (l := s125.1) hH (i := 3) rfl hx407 Tryz.underlying41 Tryz.sizeOf77 rfl rfl rfl ?_
     intro b408 o409 h410 hl411
     refine VQ_y (fun w' hw' => Y_load (El.u32 (El.kp (Dw := Dw) h410 hw')) Tryz.isAgg77 rfl) rfl rfl rfl ?_
     refine VQ_y (fun w' hw' => Y_move rfl) rfl rfl rfl ?_
     obtain ⟨x412, hx412, h400⟩ := Option.bind_eq_some_iff.1 h400
     refine VQ_y (fun w' hw' => Y_shr hx412 rfl rfl) rfl rfl rfl ?_
     refine VQ_y (fun w' hw' => Y_move rfl) rfl rfl rfl ?_
     refine VQ_y (fun w' hw' => Y_move rfl) rfl rfl rfl ?_
     refine VQ_y (fun w' hw' => Y_addI rfl rfl) rfl rfl rfl ?_
     obtain ⟨x413, hx413, h400⟩ := Option.bind_eq_some_iff.1 h400
     refine VQ_indexAddrH (α := UInt32) (e := 77) (v := v131) (l := s125.1) hH (i := 3) rfl hx413 Tryz.underlying41 Tryz.sizeOf77 rfl rfl rfl ?_
     intro b414 o415 h416 hl417
     refine VQ_y (fun w' hw' => Y_load (El.u32 (El.kp (Dw := Dw) h416 hw')) Tryz.isAgg77 rfl) rfl rfl rfl ?_
     refine VQ_y (fun w' hw' => Y_convI Tryz.underlying77 Tryz.underlying76 rfl) rfl rfl rfl ?_
     refine VQ_y (fun w' hw' => Y_move rfl) rfl rfl rfl ?_
     refine VQ_y (fun w' hw' => Y_sub rfl rfl) rfl rfl rfl ?_
     obtain ⟨x418, hx418, h400⟩ := Option.bind_eq_some_iff.1 h400
     refine VQ_y (fun w' hw' => Y_shl hx418 rfl rfl) rfl rfl rfl ?_
     refine VQ_y (fun w' hw' => Y_convU32 Tryz.underlying76 Tryz.underlying77 rfl) rfl rfl rfl ?_
     refine VQ_y (fun w' hw' => Y_orW rfl rfl) rfl rfl rfl ?_
     obtain ⟨x419, hx419, h400⟩ := Option.bind_eq_some_iff.1 h400
     refine VQ_indexAddrH (α := UInt32) (e := 77) (v := v395) (l := s393.1) hH (i := 0) rfl hx419 Tryz.underlying41 Tryz.sizeOf77 rfl rfl rfl ?_
     intro b420 o421 h422 hl423
     refine VQ_tail (fun w424 hk425 => ?_)
     try simp only [List.take, List.drop]
     have ht426 := Kp.tr hk425 hA hB
     replace hH := Hp.kp hH hk425
     replace hr384 := Tr.trans hr384 ht426
     replace hB := Nat.le_trans hB ht426.ex.size
     replace hA := ht426.new
     obtain ⟨x427, hx427, h400⟩ := Option.bind_eq_some_iff.1 h400
     refine V_storeH (Dw := Dw) (α := UInt32) (e := 77) (v := v395) (l := s393.1) hH (i := 0) rfl hl423 hx427 rfl Tryz.sizeOf77 rfl hB hA rfl rfl ?_
     intro w428 hH429 ht430
     replace hr384 := Tr.trans hr384 ht430
     replace hH : Hp B A397 w428 (obS (α := UInt32) 77 v395 x427 :: obS (α := UInt32) 77 v133 s125.2.1 :: obS (α := UInt32) 77 v111 x110 :: obS (α := UInt32) 77 v131 s125.1 :: L) := hH429
     refine V_to (fun _ _ => rfl) ?_
     refine C_region ?_
     refine V_y (Y_addI rfl rfl) rfl rfl rfl ?_
     refine V_mv rfl rfl ?_
     obtain rfl := Option.some.inj h400
     refine V_end (fun a ha431 => ?_)
     exact ⟨(x427, w64 (s393.2 + 1)), h401, ⟨(v395, A397), ha431.sub ⟨rfl, rfl, rfl, rfl, rfl, rfl, trivial⟩, ⟨hH, hr384⟩⟩⟩
    ·rw [if_neg (nt hc406)] at h400
     obtain rfl := Option.some.inj h400
     refine C_exit (fun a ha432 => ?_)
     exact ⟨((s393.1, s393.2), v395, A397), ha432.sub ⟨rfl, rfl, trivial⟩, ⟨h401.symm, hH, hr384⟩⟩
   rintro ⟨s383, v389, A391⟩ w386 ⟨rfl, hH392, hk387⟩ a ha388
   rw [Lp.andThen_fin] at hm
   replace hK := Tr.trans hK hk387
   replace hB := Nat.le_trans hB hk387.ex.size
   replace hA := hk387.new
   replace hH : Hp B A391 w386 (obS (α := UInt32) 77 v389 s383.1 :: obS (α := UInt32) 77 v133 s125.2.1 :: obS (α := UInt32) 77 v111 x110 :: obS (α := UInt32) 77 v131 s125.1 :: L) := hH392
   refine C_at (n := ⟨308, [], none⟩) (fun _ _ => rfl) ?_ ha388
   refine C_seq ?_
   refine C_region ?_
   refine V_mv rfl rfl ?_
   replace hH : Hp B A391 w386 (obS (α := UInt32) 77 v133 s125.2.1 :: obS (α := UInt32) 77 v389 s383.1 :: obS (α := UInt32) 77 v111 x110 :: obS (α := UInt32) 77 v131 s125.1 :: L) := Hp.front hH (i := 1) rfl
   obtain ⟨x434, hx434, hm⟩ := Option.bind_eq_some_iff.1 hm
   refine V_call Tryz.call46 rfl rfl rfl rfl (portref2_whole_trim_c (Dw := Dw) w386 hB hA s125.2.1 v133 hH hx434) ?_
   rintro v435 w437 ⟨_, A438, rfl, hH439, ht440⟩
   replace hK := Tr.trans hK ht440
   replace hB := Nat.le_trans hB ht440.ex.size
   replace hA := ht440.new
   replace hH : Hp B A438 w437 (obS (α := UInt32) 77 v435 x434 :: obS (α := UInt32) 77 v389 s383.1 :: obS (α := UInt32) 77 v111 x110 :: obS (α := UInt32) 77 v131 s125.1 :: L) := hH439
   refine V_mv rfl rfl ?_
   replace hH : Hp B A438 w437 (obS (α := UInt32) 77 v389 s383.1 :: obS (α := UInt32) 77 v435 x434 :: obS (α := UInt32) 77 v111 x110 :: obS (α := UInt32) 77 v131 s125.1 :: L) := Hp.front hH (i := 1) rfl
   obtain ⟨x441, hx441, hm⟩ := Option.bind_eq_some_iff.1 hm
   refine V_call Tryz.call46 rfl rfl rfl rfl (portref2_whole_trim_c (Dw := Dw) w437 hB hA s383.1 v389 hH hx441) ?_
   rintro v442 w444 ⟨_, A445, rfl, hH446, ht447⟩
   replace hK := Tr.trans hK ht447
   replace hH : Hp B A445 w444 (obS (α := UInt32) 77 v442 x441 :: obS (α := UInt32) 77 v435 x434 :: obS (α := UInt32) 77 v111 x110 :: obS (α := UInt32) 77 v131 s125.1 :: L) := hH446
   refine V_as rfl rfl ?_
   refine V_as rfl rfl ?_
   refine V_to (fun _ _ => rfl) ?_
   obtain rfl := Option.some.inj hm
   replace hH : Hp B A445 w444 (obS (α := UInt32) 77 v435 x434 :: obS (α := UInt32) 77 v442 x441 :: obS (α := UInt32) 77 v111 x110 :: obS (α := UInt32) 77 v131 s125.1 :: L) := Hp.front hH (i := 1) rfl
   replace hH : Hp B A445 w444 (obS (α := UInt32) 77 v435 x434 :: obS (α := UInt32) 77 v442 x441 :: obS (α := UInt32) 77 v131 s125.1 :: L) := Hp.drop hH (i := 2) rfl
   replace hH : Hp B A445 w444 (obS (α := UInt32) 77 v435 x434 :: obS (α := UInt32) 77 v442 x441 :: L) := Hp.drop hH (i := 2) rfl
   refine C_ret ?_
   try simp only [↓inBlock_ret, ↓then_ret]
   exact retQ rfl (Res.two Tryz.results45 rfl rfl) ⟨v435, v442, A445, rfl, hH, hK⟩

set_option maxRecDepth 4000 in
set_option maxHeartbeats 4000000 in
theorem portref2_lowest_c (w : World) {A : Nat → Prop} (hA : ∀ b, w.heap.size ≤ b → A b) (num : (List UInt32)) (v_num : Value) (h_num : Sl A w v_num num) (den : (List UInt32)) (v_den : Value) (h_den : Sl A w v_den den) {r : portref2_ratio} (hm : portref2_lowest num den = some r) : Ret Tryz.prog 28 #[v_num, v_den] w fun v w' => ∃ s0 s1, v = .agg #[s0, s1] ∧ Sl A w' s0 r.num ∧ Sl A w' s1 r.den ∧ Kp Dw w w' := by
 unfold portref2_lowest at hm
 refine enter Tryz.func28 rfl Tryz.ntmps28 rfl ?_
 have hA0 := hA
 have hB := Nat.le_refl w.heap.size
 have hK : Tr Dw w.heap.size A w A w := Tr.refl (Dw := Dw) hA
 have hH : Hp w.heap.size A w [] := Hp.nil
 refine C_seq ?_
 refine C_region ?_
 refine V_allocH (Dw := Dw) (B := w.heap.size) hH Tryz.zeroValue43 hB hA rfl ?_
 intro b5 w6 A7 hH8 ht9
 replace h_num := Sl.tr h_num ht9
 replace h_den := Sl.tr h_den ht9
 replace hK := Tr.trans hK ht9
 replace hB := Nat.le_trans hB ht9.ex.size
 replace hA := ht9.new
 replace hH : Hp w.heap.size A7 w6 (obC b5 [.slice none 0 0, .slice none 0 0] 43 :: []) := hH8
 refine V_to (fun _ _ => rfl) ?_
 refine C_seq ?_
 refine C_region ?_
 refine V_mv rfl rfl ?_
 refine V_mv rfl rfl ?_
 refine V_as rfl rfl ?_
 refine V_as rfl rfl ?_
 refine V_to (fun _ _ => rfl) ?_
 refine C_seq ?_
 obtain ⟨o10, ho10, hm⟩ := Option.bind_eq_some_iff.1 hm
 refine C_cutG (ι := (((List UInt32) × (List UInt32)) × Value × Value × (Nat → Prop))) (fun ⟨s11, v17, v19, A21⟩ => [(0, v_num), (1, v_den), (4, .pointer (some ⟨b5, 0, none⟩)), (5, v17)]) (fun ⟨s11, v17, v19, A21⟩ => fun w' => o10 = .fin s11 ∧ Sl A21 w' v17 s11.1 ∧ Sl A21 w' v19 s11.2 ∧ Hp w.heap.size A21 w' (obC b5 [.slice none 0 0, .slice none 0 0] 43 :: []) ∧ Tr Dw w.heap.size A7 w6 A21 w') ?_ ?_
 ·refine C_block ?_
  refine C_while ho10 (fun s23 a w' => ∃ i : (Value × Value × (Nat → Prop)), Has ⟨41, [], none⟩ a ([(0, v_num), (1, v_den), (4, .pointer (some ⟨b5, 0, none⟩)), (5, i.1), (6, i.2.1)]) ∧ Sl i.2.2 w' i.1 s23.1 ∧ Sl i.2.2 w' i.2.1 s23.2 ∧ Hp w.heap.size i.2.2 w' (obC b5 [.slice none 0 0, .slice none 0 0] 43 :: []) ∧ Tr Dw w.heap.size A7 w6 i.2.2 w') (fun a ha => ⟨(v_num, v_den, A7), ha.sub ⟨rfl, rfl, rfl, rfl, rfl, trivial⟩, ⟨h_num, h_den, hH, Tr.refl (Dw := Dw) hA⟩⟩) ?_
  rintro K s23 a w24 ⟨⟨v25, v27, A29⟩, ha55, h26, h28, hH30, hr12⟩ K37
  refine C_of ?_ ha55
  replace hB := Nat.le_trans hB hr12.ex.size
  replace hA := hr12.new
  replace hH : Hp w.heap.size A29 w24 (obC b5 [.slice none 0 0, .slice none 0 0] 43 :: []) := hH30
  obtain ⟨x31, h32, h33⟩ := K37
  refine C_seq ?_
  refine C_seq ?_
  refine C_region ?_
  refine V_mv rfl rfl ?_
  refine V_y (Y_lenSl h28 rfl Tryz.underlying41 rfl) rfl rfl rfl ?_
  refine V_y (Y_gtr rfl rfl) rfl rfl rfl ?_
  refine V_to (fun _ _ => rfl) ?_
  refine C_cond rfl (fun hc38 => ?_) (fun hc38 => ?_)
  ·rw [if_pos hc38] at h32
   refine C_skip_to (fun _ _ => rfl) ?_
   refine C_block ?_
   refine C_seq ?_
   refine C_region ?_
   refine V_mv rfl rfl ?_
   refine V_mv rfl rfl ?_
   obtain ⟨x39, hx39, h32⟩ := Option.bind_eq_some_iff.1 h32
   refine V_call Tryz.call45 rfl rfl rfl rfl (portref2_whole_by_c (Dw := Dw) w24 hB hA s23.1 v25 h26 s23.2 v27 h28 hH hx39) ?_
   rintro _ w44 ⟨v40, v42, A45, rfl, hH46, ht47⟩
   replace h28 := Sl.tr h28 ht47
   replace hr12 := Tr.trans hr12 ht47
   replace hA := ht47.new
   replace hH : Hp w.heap.size A45 w44 (obS (α := UInt32) 77 v40 x39.1 :: obS (α := UInt32) 77 v42 x39.2 :: obC b5 [.slice none 0 0, .slice none 0 0] 43 :: []) := hH46
   refine V_mv rfl rfl ?_
   refine V_y (Y_extract rfl rfl) rfl rfl rfl ?_
   refine V_y (Y_extract rfl rfl) rfl rfl rfl ?_
   refine V_as rfl rfl ?_
   refine V_as rfl rfl ?_
   refine V_to (fun _ _ => rfl) ?_
   refine C_region ?_
   refine V_mv rfl rfl ?_
   refine V_mv rfl rfl ?_
   refine V_as rfl rfl ?_
   refine V_as rfl rfl ?_
   obtain rfl := Option.some.inj h32
   refine V_end (fun a ha48 => ?_)
   obtain ⟨A49, ht50, h51, hH52⟩ := Hp.freeze (Dw := Dw) (α := UInt32) (v := v42) (l := x39.2) hH (i := 1) rfl hA
   replace h28 := Sl.tr h28 ht50
   replace hr12 := Tr.trans hr12 ht50
   replace hH : Hp w.heap.size A49 w44 (obS (α := UInt32) 77 v40 x39.1 :: obC b5 [.slice none 0 0, .slice none 0 0] 43 :: []) := hH52
   replace hH : Hp w.heap.size A49 w44 (obC b5 [.slice none 0 0, .slice none 0 0] 43 :: obS (α := UInt32) 77 v40 x39.1 :: []) := Hp.front hH (i := 1) rfl
   replace hH : Hp w.heap.size A49 w44 (obC b5 [.slice none 0 0, .slice none 0 0] 43 :: []) := Hp.drop hH (i := 1) rfl
   exact ⟨(s23.2, x39.2), h33, ⟨(v27, v42, A49), ha48.sub ⟨rfl, rfl, rfl, rfl, rfl, trivial⟩, ⟨h28, h51, hH, hr12⟩⟩⟩
  ·rw [if_neg (nt hc38)] at h32
   obtain rfl := Option.some.inj h32
   refine C_exit (fun a ha54 => ?_)
   exact ⟨((s23.1, s23.2), v25, v27, A29), ha54.sub ⟨rfl, rfl, rfl, rfl, trivial⟩, ⟨h33.symm, h26, h28, hH, hr12⟩⟩
 rintro ⟨s11, v17, v19, A21⟩ w14 ⟨rfl, h18, h20, hH22, hk15⟩ a ha16
 rw [Lp.andThen_fin] at hm
 replace h_num := Sl.tr h_num hk15
 replace h_den := Sl.tr h_den hk15
 replace hK := Tr.trans hK hk15
 replace hB := Nat.le_trans hB hk15.ex.size
 replace hA := hk15.new
 replace hH : Hp w.heap.size A21 w14 (obC b5 [.slice none 0 0, .slice none 0 0] 43 :: []) := hH22
 refine C_at (n := ⟨41, [], none⟩) (fun _ _ => rfl) ?_ ha16
 refine C_seq ?_
 refine C_region ?_
 refine V_mv rfl rfl ?_
 refine V_mv rfl rfl ?_
 obtain ⟨x56, hx56, hm⟩ := Option.bind_eq_some_iff.1 hm
 refine V_call Tryz.call45 rfl rfl rfl rfl (portref2_whole_by_c (Dw := Dw) w14 hB hA num v_num h_num s11.1 v17 h18 hH hx56) ?_
 rintro _ w61 ⟨v57, v59, A62, rfl, hH63, ht64⟩
 replace h_den := Sl.tr h_den ht64
 replace h18 := Sl.tr h18 ht64
 replace hK := Tr.trans hK ht64
 replace hB := Nat.le_trans hB ht64.ex.size
 replace hA := ht64.new
 replace hH : Hp w.heap.size A62 w61 (obS (α := UInt32) 77 v57 x56.1 :: obS (α := UInt32) 77 v59 x56.2 :: obC b5 [.slice none 0 0, .slice none 0 0] 43 :: []) := hH63
 refine V_mv rfl rfl ?_
 refine V_y (Y_extract rfl rfl) rfl rfl rfl ?_
 refine V_y (Y_extract rfl rfl) rfl rfl rfl ?_
 refine V_as rfl rfl ?_
 refine V_as rfl rfl ?_
 refine V_to (fun _ _ => rfl) ?_
 refine C_seq ?_
 refine C_region ?_
 refine V_mv rfl rfl ?_
 refine V_mv rfl rfl ?_
 obtain ⟨x65, hx65, hm⟩ := Option.bind_eq_some_iff.1 hm
 refine V_call Tryz.call45 rfl rfl rfl rfl (portref2_whole_by_c (Dw := Dw) w61 hB hA den v_den h_den s11.1 v17 h18 hH hx65) ?_
 rintro _ w70 ⟨v66, v68, A71, rfl, hH72, ht73⟩
 replace hK := Tr.trans hK ht73
 replace hB := Nat.le_trans hB ht73.ex.size
 replace hA := ht73.new
 replace hH : Hp w.heap.size A71 w70 (obS (α := UInt32) 77 v66 x65.1 :: obS (α := UInt32) 77 v68 x65.2 :: obS (α := UInt32) 77 v57 x56.1 :: obS (α := UInt32) 77 v59 x56.2 :: obC b5 [.slice none 0 0, .slice none 0 0] 43 :: []) := hH72
 refine V_mv rfl rfl ?_
 refine V_y (Y_extract rfl rfl) rfl rfl rfl ?_
 refine V_y (Y_extract rfl rfl) rfl rfl rfl ?_
 refine V_as rfl rfl ?_
 refine V_as rfl rfl ?_
 refine V_to (fun _ _ => rfl) ?_
 refine C_seq ?_
 refine C_region ?_
 refine V_mv rfl rfl ?_
 refine V_mv rfl rfl ?_
 refine V_y (Y_build (cells := #[v57, v66]) Tryz.underlying43 Tryz.zeroValue43 (Tryz_places43 _ Tryz.underlying43) rfl (by obtain ⟨a74, c75, e76, _⟩ := Sl.form (Hp.any (α := UInt32) (e := 77) (v := v57) (l := x56.1) hH (i := 2) rfl); subst e76; obtain ⟨a77, c78, e79, _⟩ := Sl.form (Hp.any (α := UInt32) (e := 77) (v := v66) (l := x65.1) hH (i := 0) rfl); subst e79; with_unfolding_all rfl)) rfl rfl rfl ?_
 obtain ⟨A80, ht81, h82, hH83⟩ := Hp.freeze (Dw := Dw) (α := UInt32) (v := v57) (l := x56.1) hH (i := 2) rfl hA
 replace hK := Tr.trans hK ht81
 replace hB := Nat.le_trans hB ht81.ex.size
 replace hA := ht81.new
 replace hH : Hp w.heap.size A80 w70 (obS (α := UInt32) 77 v66 x65.1 :: obS (α := UInt32) 77 v68 x65.2 :: obS (α := UInt32) 77 v59 x56.2 :: obC b5 [.slice none 0 0, .slice none 0 0] 43 :: []) := hH83
 obtain ⟨A85, ht86, h87, hH88⟩ := Hp.freeze (Dw := Dw) (α := UInt32) (v := v66) (l := x65.1) hH (i := 0) rfl hA
 replace h82 := Sl.tr h82 ht86
 replace hK := Tr.trans hK ht86
 replace hB := Nat.le_trans hB ht86.ex.size
 replace hA := ht86.new
 replace hH : Hp w.heap.size A85 w70 (obS (α := UInt32) 77 v68 x65.2 :: obS (α := UInt32) 77 v59 x56.2 :: obC b5 [.slice none 0 0, .slice none 0 0] 43 :: []) := hH88
 have h95 : (v57).oneCell' = true := by obtain ⟨_, _, e, _⟩ := Sl.form h82; rw [e]; rfl
 have h98 : (v66).oneCell' = true := by obtain ⟨_, _, e, _⟩ := Sl.form h87; rw [e]; rfl
 refine V_storeC (Dw := Dw) (off := 0) (ds := [v57, v66]) hH (i := 2) rfl Tryz.sizeOf43 rfl (Nat.le_of_ble_eq_true rfl) (by exact (List.forall_mem_cons.2 ⟨h95, (List.forall_mem_cons.2 ⟨h98, (fun _ h => nomatch h)⟩)⟩)) rfl hB hA rfl rfl ?_
 intro w90 hH91 ht92
 replace h82 := Sl.tr h82 ht92
 replace h87 := Sl.tr h87 ht92
 replace hK := Tr.trans hK ht92
 replace hH : Hp w.heap.size A85 w90 (obS (α := UInt32) 77 v68 x65.2 :: obS (α := UInt32) 77 v59 x56.2 :: obC b5 [v57, v66] 43 :: []) := hH91
 refine V_to (fun _ _ => rfl) ?_
 obtain rfl := Option.some.inj hm
 refine C_ret ?_
 try simp only [↓inBlock_ret, ↓then_ret]
 exact retQ rfl (Res.l1 Tryz.results28 (RL.cell rfl (loadVar_agg (Hp.part (off := 0) (n := 2) (ds := [v57, v66]) hH (i := 2) rfl rfl) Tryz.isAgg43 Tryz.sizeOf43))) ⟨v57, v66, rfl, (Sl.out (Dw := Dw) h82 hA0 hK), (Sl.out (Dw := Dw) h87 hA0 hK), hK.kp⟩

set_option maxRecDepth 4000 in
set_option maxHeartbeats 4000000 in
theorem portref2_ratOf_c (w : World) {A : Nat → Prop} (hA : ∀ b, w.heap.size ≤ b → A b) (r_ : staff_Ratio) {r : portref2_ratio} (hm : portref2_ratOf r_ = some r) : Ret Tryz.prog 14 #[.agg #[.string r_.num, .string r_.den]] w fun v w' => ∃ s0 s1, v = .agg #[s0, s1] ∧ Sl A w' s0 r.num ∧ Sl A w' s1 r.den ∧ Kp Dw w w' := by
 unfold portref2_ratOf at hm
 refine enter Tryz.func14 rfl Tryz.ntmps14 rfl ?_
 have hA0 := hA
 have hB := Nat.le_refl w.heap.size
 have hK : Tr Dw w.heap.size A w A w := Tr.refl (Dw := Dw) hA
 have hH : Hp w.heap.size A w [] := Hp.nil
 refine C_seq ?_
 refine C_region ?_
 refine V_box rfl rfl ?_
 intro b1 w2 h3
 have hk5 := h3.kp (Dw := Dw)
 have h4 : El (α := staff_Ratio) A w2 b1 0 r_ := h3.el hA ⟨[.string r_.num], _, rfl, rfl, rfl⟩
 have ht6 := Kp.tr hk5 hA hB
 replace hH := Hp.kp hH hk5
 replace hK := Tr.trans hK ht6
 replace hB := Nat.le_trans hB ht6.ex.size
 replace hA := ht6.new
 refine V_allocH (Dw := Dw) (B := w.heap.size) hH Tryz.zeroValue43 hB hA rfl ?_
 intro b7 w9 A10 hH11 ht12
 replace h4 := El.tr h4 ht12
 replace hK := Tr.trans hK ht12
 replace hB := Nat.le_trans hB ht12.ex.size
 replace hA := ht12.new
 replace hH : Hp w.heap.size A10 w9 (obC b7 [.slice none 0 0, .slice none 0 0] 43 :: []) := hH11
 refine V_to (fun _ _ => rfl) ?_
 refine C_seq ?_
 refine C_region_ch (Dw := Dw) A10 8 [(1, 0), (1, 1), (1, 3), (1, 4), (2, 2), (2, 5), (2, 6), (4, 7)] Tryz_mixed (by kernel_rfl) (fun w13 hk14 => ?_)
 have ht15 := Kp.tr hk14 hA hB
 replace hH := Hp.kp hH hk14
 replace h4 := El.tr h4 ht15
 replace hK := Tr.trans hK ht15
 replace hB := Nat.le_trans hB ht15.ex.size
 replace hA := ht15.new
 refine CH_q2 (Dw := Dw) rfl ?_
 have h16 := El_staff_Ratio_0 h4
 refine VQ_y (fun w' hw' => Y_fieldAddr Tryz.underlying23 rfl Tryz.sizeOf9 (by decide) rfl) rfl rfl rfl ?_
 refine VQ_CH (Dw := Dw) ?_
 refine CH_q2 (Dw := Dw) rfl ?_
 refine VQ_y (fun w' hw' => Y_load (El.str (El.keep h16 (XA.ex hw'))) Tryz.isAgg9 rfl) rfl rfl rfl ?_
 refine VQ_CH (Dw := Dw) ?_
 refine CH_q2 (Dw := Dw) rfl ?_
 have h17 := El_staff_Ratio_1 h4
 refine VQ_y (fun w' hw' => Y_fieldAddr Tryz.underlying23 rfl Tryz.sizeOf9 (by decide) rfl) rfl rfl rfl ?_
 refine VQ_CH (Dw := Dw) ?_
 refine CH_q2 (Dw := Dw) rfl ?_
 refine VQ_y (fun w' hw' => Y_load (El.str (El.keep h17 (XA.ex hw'))) Tryz.isAgg9 rfl) rfl rfl rfl ?_
 refine VQ_CH (Dw := Dw) ?_
 refine CH_l1 (Dw := Dw) (k := 0) rfl ?_
 obtain ⟨x18, hx18, hm⟩ := Option.bind_eq_some_iff.1 hm
 refine V_call Tryz.call29 rfl rfl rfl rfl (portref2_wholeText_c (Dw := Dw) w13 hA r_.num hx18) ?_
 rintro v19 w21 ⟨_, rfl, h20, hk22⟩
 obtain ⟨A23, ht24, hH25⟩ := Hp.addOwnd (Dw := Dw) hH hB hA hk22 h20
 replace hK := Tr.trans hK ht24
 replace hB := Nat.le_trans hB ht24.ex.size
 replace hA := ht24.new
 replace hH : Hp w.heap.size A23 w21 (obS (α := UInt32) 77 v19 x18 :: obC b7 [.slice none 0 0, .slice none 0 0] 43 :: []) := hH25
 refine V_CH (Dw := Dw) (hk22) ?_
 refine CH_l1 (Dw := Dw) (k := 0) rfl ?_
 obtain ⟨x26, hx26, hm⟩ := Option.bind_eq_some_iff.1 hm
 refine V_call Tryz.call29 rfl rfl rfl rfl (portref2_wholeText_c (Dw := Dw) w21 hA r_.den hx26) ?_
 rintro v27 w29 ⟨_, rfl, h28, hk30⟩
 obtain ⟨A31, ht32, hH33⟩ := Hp.addOwnd (Dw := Dw) hH hB hA hk30 h28
 replace hK := Tr.trans hK ht32
 replace hB := Nat.le_trans hB ht32.ex.size
 replace hA := ht32.new
 replace hH : Hp w.heap.size A31 w29 (obS (α := UInt32) 77 v27 x26 :: obS (α := UInt32) 77 v19 x18 :: obC b7 [.slice none 0 0, .slice none 0 0] 43 :: []) := hH33
 refine V_CH (Dw := Dw) (hk30) ?_
 refine CH_l1 (Dw := Dw) (k := 0) rfl ?_
 obtain ⟨A34, ht35, h36, hH37⟩ := Hp.freeze (Dw := Dw) (α := UInt32) (v := v19) (l := x18) hH (i := 1) rfl hA
 replace hK := Tr.trans hK ht35
 replace hB := Nat.le_trans hB ht35.ex.size
 replace hA := ht35.new
 replace hH : Hp w.heap.size A34 w29 (obS (α := UInt32) 77 v27 x26 :: obC b7 [.slice none 0 0, .slice none 0 0] 43 :: []) := hH37
 obtain ⟨A39, ht40, h41, hH42⟩ := Hp.freeze (Dw := Dw) (α := UInt32) (v := v27) (l := x26) hH (i := 0) rfl hA
 replace h36 := Sl.tr h36 ht40
 replace hK := Tr.trans hK ht40
 replace hB := Nat.le_trans hB ht40.ex.size
 replace hA := ht40.new
 replace hH : Hp w.heap.size A39 w29 (obC b7 [.slice none 0 0, .slice none 0 0] 43 :: []) := hH42
 obtain ⟨x44, hx44, hm⟩ := Option.bind_eq_some_iff.1 hm
 refine V_call Tryz.call28 rfl rfl rfl rfl (portref2_lowest_c (Dw := Dw) w29 hA x18 v19 h36 x26 v27 h41 hx44) ?_
 rintro _ w49 ⟨v45, v47, rfl, h46, h48, hk50⟩
 have ht51 := Kp.tr hk50 hA hB
 replace hH := Hp.kp hH hk50
 replace hK := Tr.trans hK ht51
 replace hB := Nat.le_trans hB ht51.ex.size
 replace hA := ht51.new
 refine V_CH (Dw := Dw) (hk50) ?_
 refine CH_l1 (Dw := Dw) (k := 2) rfl ?_
 have h57 : (v45).oneCell' = true := by obtain ⟨_, _, e, _⟩ := Sl.form h46; rw [e]; rfl
 have h60 : (v47).oneCell' = true := by obtain ⟨_, _, e, _⟩ := Sl.form h48; rw [e]; rfl
 refine V_storeC (Dw := Dw) (off := 0) (ds := [v45, v47]) hH (i := 0) rfl Tryz.sizeOf43 rfl (Nat.le_of_ble_eq_true rfl) (by exact (List.forall_mem_cons.2 ⟨h57, (List.forall_mem_cons.2 ⟨h60, (fun _ h => nomatch h)⟩)⟩)) rfl hB hA rfl rfl ?_
 intro w52 hH53 ht54
 replace h46 := Sl.tr h46 ht54
 replace h48 := Sl.tr h48 ht54
 replace hK := Tr.trans hK ht54
 replace hH : Hp w.heap.size A39 w52 (obC b7 [v45, v47] 43 :: []) := hH53
 refine V_CHw (Dw := Dw) ?_
 refine CH_tail (Dw := Dw) ?_
 show V _ _ _ _ [] _ _
 refine V_to (fun _ _ => rfl) ?_
 obtain rfl := Option.some.inj hm
 refine C_ret ?_
 try simp only [↓inBlock_ret, ↓then_ret]
 exact retQ rfl (Res.l1 Tryz.results14 (RL.cell rfl (loadVar_agg (Hp.part (off := 0) (n := 2) (ds := [v45, v47]) hH (i := 0) rfl rfl) Tryz.isAgg43 Tryz.sizeOf43))) ⟨v45, v47, rfl, (Sl.out (Dw := Dw) h46 hA0 hK), (Sl.out (Dw := Dw) h48 hA0 hK), hK.kp⟩

set_option maxRecDepth 4000 in
set_option maxHeartbeats 4000000 in
theorem portref2_whole_text_c (w : World) {A : Nat → Prop} (hA : ∀ b, w.heap.size ≤ b → A b) (a_ : (List UInt32)) (v_a_ : Value) (h_a_ : Sl A w v_a_ a_) {r : ByteArray} (hm : portref2_whole_text a_ = some r) : Ret Tryz.prog 40 #[v_a_] w fun v w' => v = .string r ∧ Kp Dw w w' := by
 unfold portref2_whole_text at hm
 refine enter Tryz.func40 rfl Tryz.ntmps40 rfl ?_
 have hA0 := hA
 have hB := Nat.le_refl w.heap.size
 have hK : Tr Dw w.heap.size A w A w := Tr.refl (Dw := Dw) hA
 have hH : Hp w.heap.size A w [] := Hp.nil
 refine C_seq ?_
 refine C_region ?_
 refine V_as rfl rfl ?_
 refine V_to (fun _ _ => rfl) ?_
 refine C_seq ?_
 refine C_seq ?_
 refine C_region ?_
 refine V_mv rfl rfl ?_
 refine V_y (Y_lenSl h_a_ rfl Tryz.underlying41 rfl) rfl rfl rfl ?_
 refine V_y (Y_eql rfl rfl) rfl rfl rfl ?_
 refine V_to (fun _ _ => rfl) ?_
 refine C_cond rfl (fun hc3 => ?_) (fun hc3 => ?_)
 ·rw [if_pos hc3] at hm
  refine C_seq ?_
  refine C_region ?_
  refine V_as rfl rfl ?_
  refine V_to (fun _ _ => rfl) ?_
  obtain rfl := Option.some.inj hm
  refine C_ret ?_
  try simp only [↓inBlock_ret, ↓then_ret]
  exact retQ rfl (Res.one Tryz.results40 rfl) ⟨rfl, hK.kp⟩
 ·rw [if_neg (nt hc3)] at hm
  refine C_skip_to (fun _ _ => rfl) ?_
  refine C_seq ?_
  refine C_region ?_
  refine V_as rfl rfl ?_
  refine V_to (fun _ _ => rfl) ?_
  refine C_seq ?_
  refine C_region ?_
  refine V_mv rfl rfl ?_
  replace hH : Hp w.heap.size A w (obS (α := UInt32) 77 (.slice none 0 0) ([] : (List UInt32)) :: []) := Hp.addNil (α := UInt32) (e := 77) hH
  obtain ⟨x4, hx4, hm⟩ := Option.bind_eq_some_iff.1 hm
  refine V_appendH (Dw := Dw) (e := 77) (v := .slice none 0 0) (l := ([] : (List UInt32))) (ti := Tryz.t77) (bytes := 4) (lim := 35184372088832) hH (i := 0) rfl h_a_ hx4 Tryz.underlying41 Tryz_info77 rfl rfl rfl rfl (by decide) (by decide) (by decide) hB hA rfl rfl rfl ?_
  intro v5 w6 A7 hH8 ht9
  replace hK := Tr.trans hK ht9
  replace hB := Nat.le_trans hB ht9.ex.size
  replace hA := ht9.new
  replace hH : Hp w.heap.size A7 w6 (obS (α := UInt32) 77 v5 x4 :: []) := hH8
  refine V_as rfl rfl ?_
  refine V_to (fun _ _ => rfl) ?_
  refine C_seq ?_
  replace hH : Hp w.heap.size A7 w6 (obS (α := UInt8) 5 (.slice none 0 0) ([] : (List UInt8)) :: obS (α := UInt32) 77 v5 x4 :: []) := Hp.addNil (α := UInt8) (e := 5) hH
  obtain ⟨o10, ho10, hm⟩ := Option.bind_eq_some_iff.1 hm
  refine C_cutG (ι := (((List UInt8) × (List UInt32)) × Value × Value × (Nat → Prop))) (fun ⟨s11, v17, v19, A21⟩ => [(3, v17)]) (fun ⟨s11, v17, v19, A21⟩ => fun w' => o10 = .fin s11 ∧ Hp w.heap.size A21 w' (obS (α := UInt8) 5 v17 s11.1 :: obS (α := UInt32) 77 v19 s11.2 :: []) ∧ Tr Dw w.heap.size A7 w6 A21 w') ?_ ?_
  ·refine C_block ?_
   refine C_while ho10 (fun s23 a w' => ∃ i : (Value × Value × (Nat → Prop)), Has ⟨91, [], none⟩ a ([(3, i.1), (4, i.2.1)]) ∧ Hp w.heap.size i.2.2 w' (obS (α := UInt8) 5 i.1 s23.1 :: obS (α := UInt32) 77 i.2.1 s23.2 :: []) ∧ Tr Dw w.heap.size A7 w6 i.2.2 w') (fun a ha => ⟨(.slice none 0 0, v5, A7), ha.sub ⟨rfl, rfl, trivial⟩, ⟨hH, Tr.refl (Dw := Dw) hA⟩⟩) ?_
   rintro K s23 a w24 ⟨⟨v25, v27, A29⟩, ha151, hH30, hr12⟩ K37
   refine C_of ?_ ha151
   replace hB := Nat.le_trans hB hr12.ex.size
   replace hA := hr12.new
   replace hH : Hp w.heap.size A29 w24 (obS (α := UInt8) 5 v25 s23.1 :: obS (α := UInt32) 77 v27 s23.2 :: []) := hH30
   obtain ⟨x31, h32, h33⟩ := K37
   refine C_seq ?_
   refine C_seq ?_
   refine C_region ?_
   refine V_mv rfl rfl ?_
   refine V_y (Y_lenSl (Hp.any (α := UInt32) (e := 77) (v := v27) (l := s23.2) hH (i := 1) rfl) rfl Tryz.underlying41 rfl) rfl rfl rfl ?_
   refine V_y (Y_gtr rfl rfl) rfl rfl rfl ?_
   refine V_to (fun _ _ => rfl) ?_
   refine C_cond rfl (fun hc38 => ?_) (fun hc38 => ?_)
   ·rw [if_pos hc38] at h32
    refine C_skip_to (fun _ _ => rfl) ?_
    obtain ⟨s40, ho39, h32⟩ := Option.bind_eq_some_iff.1 h32
    refine C_cutG (ι := (Value × Value × (Nat → Prop))) (fun ⟨v42, v44, A49⟩ => [(3, v42), (4, v44)]) (fun ⟨v42, v44, A49⟩ => fun w' => Hp w.heap.size A49 w' (obS (α := UInt8) 5 v42 s40.1 :: obS (α := UInt32) 77 v44 s40.2 :: []) ∧ Tr Dw w.heap.size A29 w24 A49 w') ?_ ?_
    ·have hr41 : Tr Dw w.heap.size A29 w24 A29 w24 := Tr.refl (Dw := Dw) hA
     refine C_block ?_
     refine C_seq ?_
     refine C_region ?_
     refine V_as rfl rfl ?_
     refine V_to (fun _ _ => rfl) ?_
     refine C_seq ?_
     refine C_seq ?_
     refine C_region ?_
     refine V_mv rfl rfl ?_
     refine V_y (Y_lenSl (Hp.any (α := UInt32) (e := 77) (v := v27) (l := s23.2) hH (i := 1) rfl) rfl Tryz.underlying41 rfl) rfl rfl rfl ?_
     refine V_y (Y_subI rfl rfl) rfl rfl rfl ?_
     refine V_as rfl rfl ?_
     refine V_to (fun _ _ => rfl) ?_
     obtain ⟨o51, ho51, ho39⟩ := Option.bind_eq_some_iff.1 ho39
     refine C_cutG (ι := (((List UInt32) × Int × Int) × Value × (Nat → Prop))) (fun ⟨s52, v58, A60⟩ => [(3, v25), (4, v58), (5, .int .u64 s52.2.1)]) (fun ⟨s52, v58, A60⟩ => fun w' => o51 = .fin s52 ∧ Hp w.heap.size A60 w' (obS (α := UInt8) 5 v25 s23.1 :: obS (α := UInt32) 77 v58 s52.1 :: []) ∧ Tr Dw w.heap.size A29 w24 A60 w') ?_ ?_
     ·refine C_block ?_
      refine C_while ho51 (fun s62 a w' => ∃ i : (Value × (Nat → Prop)), Has ⟨91, [], none⟩ a ([(3, v25), (4, i.1), (5, .int .u64 s62.2.1), (6, .int .i64 s62.2.2)]) ∧ Hp w.heap.size i.2 w' (obS (α := UInt8) 5 v25 s23.1 :: obS (α := UInt32) 77 i.1 s62.1 :: []) ∧ Tr Dw w.heap.size A29 w24 i.2 w') (fun a ha => ⟨(v27, A29), ha.sub ⟨rfl, rfl, rfl, rfl, trivial⟩, ⟨hH, Tr.refl (Dw := Dw) hA⟩⟩) ?_
      rintro K s62 a w63 ⟨⟨v64, A66⟩, ha94, hH67, hr53⟩ K74
      refine C_of ?_ ha94
      replace hB := Nat.le_trans hB hr53.ex.size
      replace hA := hr53.new
      replace hH : Hp w.heap.size A66 w63 (obS (α := UInt8) 5 v25 s23.1 :: obS (α := UInt32) 77 v64 s62.1 :: []) := hH67
      obtain ⟨x68, h69, h70⟩ := K74
      refine C_seq ?_
      refine C_seq ?_
      refine C_region ?_
      refine V_mv rfl rfl ?_
      refine V_y (Y_geq rfl rfl) rfl rfl rfl ?_
      refine V_to (fun _ _ => rfl) ?_
      refine C_cond rfl (fun hc75 => ?_) (fun hc75 => ?_)
      ·rw [if_pos hc75] at h69
       refine C_skip_to (fun _ _ => rfl) ?_
       refine C_seq ?_
       refine C_block ?_
       refine C_seq ?_
       refine C_region ?_
       refine V_mv rfl rfl ?_
       obtain ⟨x76, hx76, h69⟩ := Option.bind_eq_some_iff.1 h69
       refine V_y (Y_shl hx76 rfl rfl) rfl rfl rfl ?_
       refine V_mv rfl rfl ?_
       refine V_mv rfl rfl ?_
       obtain ⟨x77, hx77, h69⟩ := Option.bind_eq_some_iff.1 h69
       refine V_indexAddrH (α := UInt32) (e := 77) (v := v64) (l := s62.1) hH (i := 1) rfl hx77 Tryz.underlying41 Tryz.sizeOf77 rfl rfl rfl ?_
       intro b78 o79 h80 hl81
       refine V_y (Y_load (El.u32 h80) Tryz.isAgg77 rfl) rfl rfl rfl ?_
       refine V_y (Y_convI Tryz.underlying77 Tryz.underlying76 rfl) rfl rfl rfl ?_
       refine V_y (Y_or rfl rfl) rfl rfl rfl ?_
       refine V_as rfl rfl ?_
       refine V_to (fun _ _ => rfl) ?_
       refine C_seq ?_
       refine C_region ?_
       refine V_mv rfl rfl ?_
       refine V_mv rfl rfl ?_
       refine V_mv rfl rfl ?_
       obtain ⟨x82, hx82, h69⟩ := Option.bind_eq_some_iff.1 h69
       refine V_y (Y_quoK hx82 rfl rfl) rfl rfl rfl ?_
       refine V_y (Y_convU32 Tryz.underlying76 Tryz.underlying77 rfl) rfl rfl rfl ?_
       refine V_indexAddrH (α := UInt32) (e := 77) (v := v64) (l := s62.1) hH (i := 1) rfl hx77 Tryz.underlying41 Tryz.sizeOf77 rfl rfl rfl ?_
       intro b83 o84 h85 hl86
       obtain ⟨x87, hx87, h69⟩ := Option.bind_eq_some_iff.1 h69
       refine V_storeH (Dw := Dw) (α := UInt32) (e := 77) (v := v64) (l := s62.1) hH (i := 1) rfl hl86 hx87 rfl Tryz.sizeOf77 rfl hB hA rfl rfl ?_
       intro w88 hH89 ht90
       replace hr53 := Tr.trans hr53 ht90
       replace hH : Hp w.heap.size A66 w88 (obS (α := UInt8) 5 v25 s23.1 :: obS (α := UInt32) 77 v64 x87 :: []) := hH89
       refine V_to (fun _ _ => rfl) ?_
       refine C_region ?_
       refine V_mv rfl rfl ?_
       obtain ⟨x91, hx91, h69⟩ := Option.bind_eq_some_iff.1 h69
       refine V_y (Y_remK hx91 rfl rfl) rfl rfl rfl ?_
       refine V_as rfl rfl ?_
       refine V_to (fun _ _ => rfl) ?_
       refine C_region ?_
       refine V_mv rfl rfl ?_
       refine V_y (Y_subI rfl rfl) rfl rfl rfl ?_
       refine V_as rfl rfl ?_
       obtain rfl := Option.some.inj h69
       refine V_end (fun a ha92 => ?_)
       exact ⟨(x87, x91, w64 (s62.2.2 - 1)), h70, ⟨(v64, A66), ha92.sub ⟨rfl, rfl, rfl, rfl, trivial⟩, ⟨hH, hr53⟩⟩⟩
      ·rw [if_neg (nt hc75)] at h69
       obtain rfl := Option.some.inj h69
       refine C_exit (fun a ha93 => ?_)
       exact ⟨((s62.1, s62.2.1, s62.2.2), v64, A66), ha93.sub ⟨rfl, rfl, rfl, trivial⟩, ⟨h70.symm, hH, hr53⟩⟩
     rintro ⟨s52, v58, A60⟩ w55 ⟨rfl, hH61, hk56⟩ a ha57
     rw [Lp.andThen_fin] at ho39
     replace hr41 := Tr.trans hr41 hk56
     replace hB := Nat.le_trans hB hk56.ex.size
     replace hA := hk56.new
     replace hH : Hp w.heap.size A60 w55 (obS (α := UInt8) 5 v25 s23.1 :: obS (α := UInt32) 77 v58 s52.1 :: []) := hH61
     refine C_at (n := ⟨91, [], none⟩) (fun _ _ => rfl) ?_ ha57
     refine C_seq ?_
     refine C_region ?_
     refine V_mv rfl rfl ?_
     replace hH : Hp w.heap.size A60 w55 (obS (α := UInt32) 77 v58 s52.1 :: obS (α := UInt8) 5 v25 s23.1 :: []) := Hp.front hH (i := 1) rfl
     obtain ⟨x95, hx95, ho39⟩ := Option.bind_eq_some_iff.1 ho39
     refine V_call Tryz.call46 rfl rfl rfl rfl (portref2_whole_trim_c (Dw := Dw) w55 hB hA s52.1 v58 hH hx95) ?_
     rintro v96 w98 ⟨_, A99, rfl, hH100, ht101⟩
     replace hr41 := Tr.trans hr41 ht101
     replace hB := Nat.le_trans hB ht101.ex.size
     replace hA := ht101.new
     replace hH : Hp w.heap.size A99 w98 (obS (α := UInt32) 77 v96 x95 :: obS (α := UInt8) 5 v25 s23.1 :: []) := hH100
     refine V_as rfl rfl ?_
     refine V_to (fun _ _ => rfl) ?_
     refine C_seq ?_
     refine C_region ?_
     refine V_as rfl rfl ?_
     refine V_to (fun _ _ => rfl) ?_
     obtain ⟨o102, ho102, ho39⟩ := Option.bind_eq_some_iff.1 ho39
     refine C_cutG (ι := (((List UInt8) × Int × Int) × Value × (Nat → Prop))) (fun ⟨s103, v109, A111⟩ => [(3, v109), (4, v96)]) (fun ⟨s103, v109, A111⟩ => fun w' => o102 = .fin s103 ∧ Hp w.heap.size A111 w' (obS (α := UInt32) 77 v96 x95 :: obS (α := UInt8) 5 v109 s103.1 :: []) ∧ Tr Dw w.heap.size A99 w98 A111 w') ?_ ?_
     ·refine C_block ?_
      refine C_while ho102 (fun s113 a w' => ∃ i : (Value × (Nat → Prop)), Has ⟨91, [], none⟩ a ([(3, i.1), (4, v96), (5, .int .u64 s113.2.1), (7, .int .i64 s113.2.2)]) ∧ Hp w.heap.size i.2 w' (obS (α := UInt32) 77 v96 x95 :: obS (α := UInt8) 5 i.1 s113.1 :: []) ∧ Tr Dw w.heap.size A99 w98 i.2 w') (fun a ha => ⟨(v25, A99), ha.sub ⟨rfl, rfl, rfl, rfl, trivial⟩, ⟨hH, Tr.refl (Dw := Dw) hA⟩⟩) ?_
      rintro K s113 a w114 ⟨⟨v115, A117⟩, ha147, hH118, hr104⟩ K125
      refine C_of ?_ ha147
      replace hB := Nat.le_trans hB hr104.ex.size
      replace hA := hr104.new
      replace hH : Hp w.heap.size A117 w114 (obS (α := UInt32) 77 v96 x95 :: obS (α := UInt8) 5 v115 s113.1 :: []) := hH118
      obtain ⟨x119, h120, h121⟩ := K125
      refine C_seq ?_
      refine C_seq ?_
      refine C_region ?_
      refine V_mv rfl rfl ?_
      refine V_y (Y_lss rfl rfl) rfl rfl rfl ?_
      refine V_mv rfl rfl ?_
      refine V_cut 8 (fun _ : Unit => [(3, v115), (4, v96), (5, .int .u64 s113.2.1), (7, .int .i64 s113.2.2), (53, .bool ((decide (s113.2.2 < 9)) && ((decide ((0 : Int) < (x95.length : Int))) || (decide ((0 : Int) < s113.2.1)))))]) (fun _ w' => w114 = w') ?_ ?_
      ·simp only [List.take, List.drop]
       rcases Bool.eq_false_or_eq_true (decide (s113.2.2 < 9)) with hc126 | hc126
       ·refine V_ge rfl rfl rfl hc126 ?_
        refine V_mv rfl rfl ?_
        refine V_ge rfl rfl rfl hc126 ?_
        refine V_y (Y_lenSl (Hp.any (α := UInt32) (e := 77) (v := v96) (l := x95) hH (i := 0) rfl) rfl Tryz.underlying41 rfl) rfl rfl rfl ?_
        refine V_ge rfl rfl rfl hc126 ?_
        refine V_y (Y_gtr rfl rfl) rfl rfl rfl ?_
        refine V_ge rfl rfl rfl hc126 ?_
        refine V_mv rfl rfl ?_
        refine V_cut 3 (fun _ : Unit => [(3, v115), (4, v96), (5, .int .u64 s113.2.1), (7, .int .i64 s113.2.2), (45, .bool (decide (s113.2.2 < 9))), (52, .bool ((decide ((0 : Int) < (x95.length : Int))) || (decide ((0 : Int) < s113.2.1))))]) (fun _ w' => w114 = w') ?_ ?_
        ·simp only [List.take, List.drop]
         rcases Bool.eq_false_or_eq_true (decide ((0 : Int) < (x95.length : Int))) with hc128 | hc128
         ·refine V_gn rfl rfl rfl hc128 rfl rfl rfl ?_
          refine V_gn rfl rfl rfl hc128 rfl rfl rfl ?_
          refine V_ge rfl rfl rfl hc126 ?_
          refine V_y (Y_pick_te rfl hc128 rfl) rfl rfl rfl ?_
          exact V_end fun a ha => ⟨(), ha.sub ⟨rfl, rfl, rfl, rfl, rfl, (by rw [hc128]; rfl), trivial⟩, rfl⟩
         ·refine V_ge rfl rfl rfl hc128 ?_
          refine V_mv rfl rfl ?_
          refine V_ge rfl rfl rfl hc128 ?_
          refine V_y (Y_gtr rfl rfl) rfl rfl rfl ?_
          refine V_ge rfl rfl rfl hc126 ?_
          refine V_y (Y_pick_fe rfl hc128 rfl) rfl rfl rfl ?_
          exact V_end fun a ha => ⟨(), ha.sub ⟨rfl, rfl, rfl, rfl, rfl, (by rw [hc128]; rfl), trivial⟩, rfl⟩
        simp only [List.take, List.drop]
        rintro _ _ rfl
        refine V_y (Y_pick_te rfl hc126 rfl) rfl rfl rfl ?_
        exact V_end fun a ha => ⟨(), ha.sub ⟨rfl, rfl, rfl, rfl, (by rw [hc126]; rfl), trivial⟩, rfl⟩
       ·refine V_gn rfl rfl rfl hc126 rfl rfl rfl ?_
        refine V_gn rfl rfl rfl hc126 rfl rfl rfl ?_
        refine V_gn rfl rfl rfl hc126 rfl rfl rfl ?_
        refine V_gn rfl rfl rfl hc126 rfl rfl rfl ?_
        refine V_gu rfl rfl rfl rfl rfl ?_
        refine V_gu rfl rfl rfl rfl rfl ?_
        refine V_gn rfl rfl rfl hc126 rfl rfl rfl ?_
        refine V_y (Y_pick_fe rfl hc126 rfl) rfl rfl rfl ?_
        exact V_end fun a ha => ⟨(), ha.sub ⟨rfl, rfl, rfl, rfl, (by rw [hc126]; rfl), trivial⟩, rfl⟩
      simp only [List.take, List.drop]
      rintro _ _ rfl
      refine V_to (fun _ _ => rfl) ?_
      refine C_cond rfl (fun hc130 => ?_) (fun hc130 => ?_)
      ·rw [if_pos hc130] at h120
       refine C_skip_to (fun _ _ => rfl) ?_
       refine C_seq ?_
       refine C_block ?_
       refine C_seq ?_
       refine C_region ?_
       refine V_mv rfl rfl ?_
       refine V_mv rfl rfl ?_
       obtain ⟨x131, hx131, h120⟩ := Option.bind_eq_some_iff.1 h120
       refine V_y (Y_remK hx131 rfl rfl) rfl rfl rfl ?_
       refine V_y (Y_add rfl rfl) rfl rfl rfl ?_
       refine V_y (Y_convU8 Tryz.underlying76 Tryz.underlying5 rfl) rfl rfl rfl ?_
       refine V_buildSlice (Dw := Dw) (cells := #[.int .u8 ((toU8 (IntKind.wrap .u64 (48 + x131))).toNat : Int)]) (l := ([(toU8 (IntKind.wrap .u64 (48 + x131)))] : List UInt8)) (len := 1) Tryz.underlying80 Tryz.sizeOf5 Tryz.zeroValue5 rfl (by generalize (((toU8 (IntKind.wrap .u64 (48 + x131))).toNat : Int) : Int) = z136; kernel_rfl) (show (1 * 1 : Nat) ≠ 0 by decide) (show (1 * 1 : Nat) ≤ 2 ^ 24 by decide) hA ⟨[.int .u8 ((toU8 (IntKind.wrap .u64 (48 + x131))).toNat : Int)], _, rfl, rfl, rfl⟩ rfl rfl ?_
       intro v132 w133 hk135 h134
       have ht137 := Kp.tr hk135 hA hB
       replace hH := Hp.kp hH hk135
       replace hr104 := Tr.trans hr104 ht137
       replace hB := Nat.le_trans hB ht137.ex.size
       replace hA := ht137.new
       obtain ⟨x138, hx138, h120⟩ := Option.bind_eq_some_iff.1 h120
       refine V_appendH (Dw := Dw) (e := 5) (v := v115) (l := s113.1) (ti := Tryz.t5) (bytes := 1) (lim := 140737488355328) hH (i := 1) rfl h134 hx138 Tryz.underlying80 Tryz_info5 rfl rfl rfl rfl (by decide) (by decide) (by decide) hB hA rfl rfl rfl ?_
       intro v139 w140 A141 hH142 ht143
       replace hr104 := Tr.trans hr104 ht143
       replace hH : Hp w.heap.size A141 w140 (obS (α := UInt32) 77 v96 x95 :: obS (α := UInt8) 5 v139 x138 :: []) := hH142
       refine V_as rfl rfl ?_
       refine V_to (fun _ _ => rfl) ?_
       refine C_region ?_
       refine V_mv rfl rfl ?_
       obtain ⟨x144, hx144, h120⟩ := Option.bind_eq_some_iff.1 h120
       refine V_y (Y_quoK hx144 rfl rfl) rfl rfl rfl ?_
       refine V_as rfl rfl ?_
       refine V_to (fun _ _ => rfl) ?_
       refine C_region ?_
       refine V_mv rfl rfl ?_
       refine V_y (Y_addI rfl rfl) rfl rfl rfl ?_
       refine V_as rfl rfl ?_
       obtain rfl := Option.some.inj h120
       refine V_end (fun a ha145 => ?_)
       exact ⟨(x138, x144, w64 (s113.2.2 + 1)), h121, ⟨(v139, A141), ha145.sub ⟨rfl, rfl, rfl, rfl, trivial⟩, ⟨hH, hr104⟩⟩⟩
      ·rw [if_neg (nt hc130)] at h120
       obtain rfl := Option.some.inj h120
       refine C_exit (fun a ha146 => ?_)
       exact ⟨((s113.1, s113.2.1, s113.2.2), v115, A117), ha146.sub ⟨rfl, rfl, trivial⟩, ⟨h121.symm, hH, hr104⟩⟩
     rintro ⟨s103, v109, A111⟩ w106 ⟨rfl, hH112, hk107⟩ a ha108
     rw [Lp.andThen_fin] at ho39
     replace hr41 := Tr.trans hr41 hk107
     replace hA := hk107.new
     replace hH : Hp w.heap.size A111 w106 (obS (α := UInt32) 77 v96 x95 :: obS (α := UInt8) 5 v109 s103.1 :: []) := hH112
     obtain rfl := Option.some.inj ho39
     replace hH : Hp w.heap.size A111 w106 (obS (α := UInt8) 5 v109 s103.1 :: obS (α := UInt32) 77 v96 x95 :: []) := Hp.front hH (i := 1) rfl
     exact ⟨(v109, v96, A111), ha108.sub ⟨rfl, rfl, trivial⟩, ⟨hH, hr41⟩⟩
    rintro ⟨v42, v44, A49⟩ w46 ⟨hH50, hk47⟩ a ha48
    replace hr12 := Tr.trans hr12 hk47
    replace hA := hk47.new
    replace hH : Hp w.heap.size A49 w46 (obS (α := UInt8) 5 v42 s40.1 :: obS (α := UInt32) 77 v44 s40.2 :: []) := hH50
    obtain rfl := Option.some.inj h32
    exact ⟨(s40.1, s40.2), h33, ⟨(v42, v44, A49), ha48.sub ⟨rfl, rfl, trivial⟩, ⟨hH, hr12⟩⟩⟩
   ·rw [if_neg (nt hc38)] at h32
    obtain rfl := Option.some.inj h32
    refine C_exit (fun a ha150 => ?_)
    exact ⟨((s23.1, s23.2), v25, v27, A29), ha150.sub ⟨rfl, trivial⟩, ⟨h33.symm, hH, hr12⟩⟩
  rintro ⟨s11, v17, v19, A21⟩ w14 ⟨rfl, hH22, hk15⟩ a ha16
  rw [Lp.andThen_fin] at hm
  replace hK := Tr.trans hK hk15
  replace hB := Nat.le_trans hB hk15.ex.size
  replace hA := hk15.new
  replace hH : Hp w.heap.size A21 w14 (obS (α := UInt8) 5 v17 s11.1 :: obS (α := UInt32) 77 v19 s11.2 :: []) := hH22
  refine C_at (n := ⟨91, [], none⟩) (fun _ _ => rfl) ?_ ha16
  refine C_seq ?_
  refine C_seq ?_
  refine C_region ?_
  refine V_mv rfl rfl ?_
  refine V_y (Y_lenSl (Hp.any (α := UInt8) (e := 5) (v := v17) (l := s11.1) hH (i := 0) rfl) rfl Tryz.underlying80 rfl) rfl rfl rfl ?_
  refine V_y (Y_subI rfl rfl) rfl rfl rfl ?_
  refine V_as rfl rfl ?_
  refine V_as rfl rfl ?_
  refine V_to (fun _ _ => rfl) ?_
  obtain ⟨o152, ho152, hm⟩ := Option.bind_eq_some_iff.1 hm
  refine C_cutG (ι := (((List UInt8) × Int × Int) × Value × (Nat → Prop))) (fun ⟨s153, v159, A161⟩ => [(3, v159)]) (fun ⟨s153, v159, A161⟩ => fun w' => o152 = .fin s153 ∧ Hp w.heap.size A161 w' (obS (α := UInt8) 5 v159 s153.1 :: obS (α := UInt32) 77 v19 s11.2 :: []) ∧ Tr Dw w.heap.size A21 w14 A161 w') ?_ ?_
  ·refine C_block ?_
   refine C_while ho152 (fun s163 a w' => ∃ i : (Value × (Nat → Prop)), Has ⟨91, [], none⟩ a ([(3, i.1), (8, .int .i64 s163.2.1), (9, .int .i64 s163.2.2)]) ∧ Hp w.heap.size i.2 w' (obS (α := UInt8) 5 i.1 s163.1 :: obS (α := UInt32) 77 v19 s11.2 :: []) ∧ Tr Dw w.heap.size A21 w14 i.2 w') (fun a ha => ⟨(v17, A21), ha.sub ⟨rfl, rfl, rfl, trivial⟩, ⟨hH, Tr.refl (Dw := Dw) hA⟩⟩) ?_
   rintro K s163 a w164 ⟨⟨v165, A167⟩, ha209, hH168, hr154⟩ K175
   refine C_of ?_ ha209
   replace hB := Nat.le_trans hB hr154.ex.size
   replace hA := hr154.new
   replace hH : Hp w.heap.size A167 w164 (obS (α := UInt8) 5 v165 s163.1 :: obS (α := UInt32) 77 v19 s11.2 :: []) := hH168
   obtain ⟨x169, h170, h171⟩ := K175
   refine C_seq ?_
   refine C_seq ?_
   refine C_region ?_
   refine V_mv rfl rfl ?_
   refine V_mv rfl rfl ?_
   refine V_y (Y_lss rfl rfl) rfl rfl rfl ?_
   refine V_to (fun _ _ => rfl) ?_
   refine C_cond rfl (fun hc176 => ?_) (fun hc176 => ?_)
   ·rw [if_pos hc176] at h170
    refine C_skip_to (fun _ _ => rfl) ?_
    refine C_seq ?_
    refine C_block ?_
    refine C_region_ch (Dw := Dw) A167 16 [(1, 0), (1, 1), (1, 2), (1, 3), (1, 4), (1, 5), (0, 6), (0, 7), (1, 8), (1, 9), (0, 10), (0, 11), (0, 12), (4, 13), (0, 14), (4, 15)] Tryz_mixed (by kernel_rfl) (fun w177 hk178 => ?_)
    have ht179 := Kp.tr hk178 hA hB
    replace hH := Hp.kp hH hk178
    replace hr154 := Tr.trans hr154 ht179
    replace hB := Nat.le_trans hB ht179.ex.size
    replace hA := ht179.new
    refine CH_q2 (Dw := Dw) rfl ?_
    refine VQ_y (fun w' hw' => Y_move rfl) rfl rfl rfl ?_
    refine VQ_CH (Dw := Dw) ?_
    refine CH_q2 (Dw := Dw) rfl ?_
    refine VQ_y (fun w' hw' => Y_move rfl) rfl rfl rfl ?_
    refine VQ_CH (Dw := Dw) ?_
    refine CH_q2 (Dw := Dw) rfl ?_
    refine VQ_y (fun w' hw' => Y_move rfl) rfl rfl rfl ?_
    refine VQ_CH (Dw := Dw) ?_
    refine CH_q2 (Dw := Dw) rfl ?_
    refine VQ_y (fun w' hw' => Y_move rfl) rfl rfl rfl ?_
    refine VQ_CH (Dw := Dw) ?_
    refine CH_q2 (Dw := Dw) rfl ?_
    refine VQ_y (fun w' hw' => Y_move rfl) rfl rfl rfl ?_
    refine VQ_CH (Dw := Dw) ?_
    refine CH_q2 (Dw := Dw) rfl ?_
    refine VQ_y (fun w' hw' => Y_move rfl) rfl rfl rfl ?_
    refine VQ_CH (Dw := Dw) ?_
    refine CH_q1 (Dw := Dw) rfl ?_
    obtain ⟨x180, hx180, h170⟩ := Option.bind_eq_some_iff.1 h170
    refine VQ_indexAddrH (α := UInt8) (e := 5) (v := v165) (l := s163.1) hH (i := 0) rfl hx180 Tryz.underlying80 Tryz.sizeOf5 rfl rfl rfl ?_
    intro b181 o182 h183 hl184
    refine VQ_CH (Dw := Dw) ?_
    refine CH_q1 (Dw := Dw) rfl ?_
    refine VQ_y (fun w' hw' => Y_load (El.u8 (El.kp (Dw := Dw) h183 hw')) Tryz.isAgg5 rfl) rfl rfl rfl ?_
    refine VQ_CH (Dw := Dw) ?_
    refine CH_q2 (Dw := Dw) rfl ?_
    refine VQ_y (fun w' hw' => Y_move rfl) rfl rfl rfl ?_
    refine VQ_CH (Dw := Dw) ?_
    refine CH_q2 (Dw := Dw) rfl ?_
    refine VQ_y (fun w' hw' => Y_move rfl) rfl rfl rfl ?_
    refine VQ_CH (Dw := Dw) ?_
    refine CH_q1 (Dw := Dw) rfl ?_
    obtain ⟨x185, hx185, h170⟩ := Option.bind_eq_some_iff.1 h170
    refine VQ_indexAddrH (α := UInt8) (e := 5) (v := v165) (l := s163.1) hH (i := 0) rfl hx185 Tryz.underlying80 Tryz.sizeOf5 rfl rfl rfl ?_
    intro b186 o187 h188 hl189
    refine VQ_CH (Dw := Dw) ?_
    refine CH_q1 (Dw := Dw) rfl ?_
    refine VQ_y (fun w' hw' => Y_load (El.u8 (El.kp (Dw := Dw) h188 hw')) Tryz.isAgg5 rfl) rfl rfl rfl ?_
    refine VQ_CH (Dw := Dw) ?_
    refine CH_q1 (Dw := Dw) rfl ?_
    refine VQ_indexAddrH (α := UInt8) (e := 5) (v := v165) (l := s163.1) hH (i := 0) rfl hx185 Tryz.underlying80 Tryz.sizeOf5 rfl rfl rfl ?_
    intro b190 o191 h192 hl193
    refine VQ_CH (Dw := Dw) ?_
    refine CH_l1 (Dw := Dw) (k := 2) rfl ?_
    obtain ⟨x194, hx194, h170⟩ := Option.bind_eq_some_iff.1 h170
    refine V_storeH (Dw := Dw) (α := UInt8) (e := 5) (v := v165) (l := s163.1) hH (i := 0) rfl hl193 hx194 rfl Tryz.sizeOf5 rfl hB hA rfl rfl ?_
    intro w195 hH196 ht197
    replace hr154 := Tr.trans hr154 ht197
    replace hB := Nat.le_trans hB ht197.ex.size
    replace hA := ht197.new
    replace hH : Hp w.heap.size A167 w195 (obS (α := UInt8) 5 v165 x194 :: obS (α := UInt32) 77 v19 s11.2 :: []) := hH196
    refine V_CHw (Dw := Dw) ?_
    refine CH_q1 (Dw := Dw) rfl ?_
    obtain ⟨x198, hx198, h170⟩ := Option.bind_eq_some_iff.1 h170
    refine VQ_indexAddrH (α := UInt8) (e := 5) (v := v165) (l := x194) hH (i := 0) rfl hx198 Tryz.underlying80 Tryz.sizeOf5 rfl rfl rfl ?_
    intro b199 o200 h201 hl202
    refine VQ_CH (Dw := Dw) ?_
    refine CH_l1 (Dw := Dw) (k := 2) rfl ?_
    obtain ⟨x203, hx203, h170⟩ := Option.bind_eq_some_iff.1 h170
    refine V_storeH (Dw := Dw) (α := UInt8) (e := 5) (v := v165) (l := x194) hH (i := 0) rfl hl202 hx203 rfl Tryz.sizeOf5 rfl hB hA rfl rfl ?_
    intro w204 hH205 ht206
    replace hr154 := Tr.trans hr154 ht206
    replace hH : Hp w.heap.size A167 w204 (obS (α := UInt8) 5 v165 x203 :: obS (α := UInt32) 77 v19 s11.2 :: []) := hH205
    refine V_CHw (Dw := Dw) ?_
    refine CH_tail (Dw := Dw) ?_
    show V _ _ _ _ [] _ _
    refine V_to (fun _ _ => rfl) ?_
    refine C_region ?_
    refine V_mv rfl rfl ?_
    refine V_y (Y_addI rfl rfl) rfl rfl rfl ?_
    refine V_mv rfl rfl ?_
    refine V_y (Y_subI rfl rfl) rfl rfl rfl ?_
    refine V_as rfl rfl ?_
    refine V_as rfl rfl ?_
    obtain rfl := Option.some.inj h170
    refine V_end (fun a ha207 => ?_)
    exact ⟨(x203, w64 (s163.2.1 + 1), w64 (s163.2.2 - 1)), h171, ⟨(v165, A167), ha207.sub ⟨rfl, rfl, rfl, trivial⟩, ⟨hH, hr154⟩⟩⟩
   ·rw [if_neg (nt hc176)] at h170
    obtain rfl := Option.some.inj h170
    refine C_exit (fun a ha208 => ?_)
    exact ⟨((s163.1, s163.2.1, s163.2.2), v165, A167), ha208.sub ⟨rfl, trivial⟩, ⟨h171.symm, hH, hr154⟩⟩
  rintro ⟨s153, v159, A161⟩ w156 ⟨rfl, hH162, hk157⟩ a ha158
  rw [Lp.andThen_fin] at hm
  replace hK := Tr.trans hK hk157
  replace hA := hk157.new
  replace hH : Hp w.heap.size A161 w156 (obS (α := UInt8) 5 v159 s153.1 :: obS (α := UInt32) 77 v19 s11.2 :: []) := hH162
  refine C_at (n := ⟨91, [], none⟩) (fun _ _ => rfl) ?_ ha158
  refine C_seq ?_
  refine C_region ?_
  refine V_mv rfl rfl ?_
  obtain ⟨A210, ht211, h212, hH213⟩ := Hp.freeze (Dw := Dw) (α := UInt8) (v := v159) (l := s153.1) hH (i := 0) rfl hA
  replace hK := Tr.trans hK ht211
  replace hH : Hp w.heap.size A210 w156 (obS (α := UInt32) 77 v19 s11.2 :: []) := hH213
  refine V_y (Y_convBS (l := s153.1) h212 Tryz.underlying80 Tryz.underlying5 Tryz.underlying9 rfl) rfl rfl rfl ?_
  refine V_as rfl rfl ?_
  refine V_to (fun _ _ => rfl) ?_
  obtain rfl := Option.some.inj hm
  refine C_ret ?_
  try simp only [↓inBlock_ret, ↓then_ret]
  exact retQ rfl (Res.one Tryz.results40 rfl) ⟨rfl, hK.kp⟩

set_option maxRecDepth 4000 in
set_option maxHeartbeats 4000000 in
theorem portref2_ratioOf_c (w : World) {A : Nat → Prop} (hA : ∀ b, w.heap.size ≤ b → A b) (x : portref2_ratio) (v_x0 : Value) (h_x0 : Sl A w v_x0 x.num) (v_x1 : Value) (h_x1 : Sl A w v_x1 x.den) {r : staff_Ratio} (hm : portref2_ratioOf x = some r) : Ret Tryz.prog 23 #[.agg #[v_x0, v_x1]] w fun v w' => v = .agg #[.string r.num, .string r.den] ∧ Kp Dw w w' := by
 unfold portref2_ratioOf at hm
 refine enter Tryz.func23 rfl Tryz.ntmps23 rfl ?_
 have hA0 := hA
 have hB := Nat.le_refl w.heap.size
 have hK : Tr Dw w.heap.size A w A w := Tr.refl (Dw := Dw) hA
 have hH : Hp w.heap.size A w [] := Hp.nil
 refine C_seq ?_
 refine C_region ?_
 refine V_box rfl rfl ?_
 intro b5 w6 h7
 have hk9 := h7.kp (Dw := Dw)
 have h8 : El (α := portref2_ratio) A w6 b5 0 x := h7.el hA ⟨[v_x0], _, rfl, ⟨_, rfl, h_x0⟩, ⟨_, rfl, h_x1⟩⟩
 have ht10 := Kp.tr hk9 hA hB
 replace hH := Hp.kp hH hk9
 replace hK := Tr.trans hK ht10
 replace hB := Nat.le_trans hB ht10.ex.size
 replace hA := ht10.new
 refine V_allocH (Dw := Dw) (B := w.heap.size) hH Tryz.zeroValue23 hB hA rfl ?_
 intro b11 w12 A13 hH14 ht15
 replace h8 := El.tr h8 ht15
 replace hK := Tr.trans hK ht15
 replace hB := Nat.le_trans hB ht15.ex.size
 replace hA := ht15.new
 replace hH : Hp w.heap.size A13 w12 (obC b11 [.string ByteArray.empty, .string ByteArray.empty] 23 :: []) := hH14
 refine V_to (fun _ _ => rfl) ?_
 refine C_seq ?_
 refine C_region_qt (Dw := Dw) 7 Tryz_mixed (by kernel_rfl) ?_
 simp only [List.take, List.drop]
 have h16 := El_portref2_ratio_0 h8
 refine VQ_y (fun w' hw' => Y_fieldAddr Tryz.underlying43 rfl Tryz.sizeOf41 (by decide) rfl) rfl rfl rfl ?_
 obtain ⟨v17, h18, h19⟩ := El.list h16
 refine VQ_y (fun w' hw' => Y_load ((World.cell?_of_block (hw'.block _ (World.block_lt_of_cell? _ _ h18))).trans h18) Tryz.isAgg41 rfl) rfl rfl rfl ?_
 obtain ⟨x20, hx20, hm⟩ := Option.bind_eq_some_iff.1 hm
 refine VQ_call (.string x20) Tryz.call40 rfl rfl rfl rfl (fun w' hw' => (portref2_whole_text_c (Dw := Dw) w' (fun b hb => hA b (Nat.le_trans hw'.size hb)) x.num v17 (Sl.kp (Dw := Dw) h19 hw') hx20).mono (fun _ _ h => ⟨h.1, Kp.trans (Dw := Dw) hw' h.2⟩)) ?_
 have h21 := El_portref2_ratio_1 h8
 refine VQ_y (fun w' hw' => Y_fieldAddr Tryz.underlying43 rfl Tryz.sizeOf41 (by decide) rfl) rfl rfl rfl ?_
 obtain ⟨v22, h23, h24⟩ := El.list h21
 refine VQ_y (fun w' hw' => Y_load ((World.cell?_of_block (hw'.block _ (World.block_lt_of_cell? _ _ h23))).trans h23) Tryz.isAgg41 rfl) rfl rfl rfl ?_
 obtain ⟨x25, hx25, hm⟩ := Option.bind_eq_some_iff.1 hm
 refine VQ_call (.string x25) Tryz.call40 rfl rfl rfl rfl (fun w' hw' => (portref2_whole_text_c (Dw := Dw) w' (fun b hb => hA b (Nat.le_trans hw'.size hb)) x.den v22 (Sl.kp (Dw := Dw) h24 hw') hx25).mono (fun _ _ h => ⟨h.1, Kp.trans (Dw := Dw) hw' h.2⟩)) ?_
 refine VQ_y (fun w' hw' => Y_build Tryz.underlying23 Tryz.zeroValue23 (Tryz_places23 _ Tryz.underlying23) rfl (by with_unfolding_all rfl)) rfl rfl rfl ?_
 refine VQ_tail (fun w26 hk27 => ?_)
 try simp only [List.take, List.drop]
 have ht28 := Kp.tr hk27 hA hB
 replace hH := Hp.kp hH hk27
 replace hK := Tr.trans hK ht28
 replace hB := Nat.le_trans hB ht28.ex.size
 replace hA := ht28.new
 refine V_storeC (Dw := Dw) (off := 0) (ds := [.string x20, .string x25]) hH (i := 0) rfl Tryz.sizeOf23 rfl (Nat.le_of_ble_eq_true rfl) (by simp [Value.cells, Value.oneCell']) rfl hB hA rfl rfl ?_
 intro w29 hH30 ht31
 replace hK := Tr.trans hK ht31
 replace hH : Hp w.heap.size A13 w29 (obC b11 [.string x20, .string x25] 23 :: []) := hH30
 refine V_to (fun _ _ => rfl) ?_
 obtain rfl := Option.some.inj hm
 refine C_ret ?_
 try simp only [↓inBlock_ret, ↓then_ret]
 exact retQ rfl (Res.l1 Tryz.results23 (RL.cell rfl (loadVar_agg (Hp.part (off := 0) (n := 2) (ds := [.string x20, .string x25]) hH (i := 0) rfl rfl) Tryz.isAgg23 Tryz.sizeOf23))) ⟨rfl, hK.kp⟩

set_option maxRecDepth 4000 in
set_option maxHeartbeats 4000000 in
theorem portref2_RatioFault_c (w : World) {A : Nat → Prop} (hA : ∀ b, w.heap.size ≤ b → A b) (r_ : staff_Ratio) {r : Int} (hm : portref2_RatioFault r_ = some r) : Ret Tryz.prog 10 #[.agg #[.string r_.num, .string r_.den]] w fun v w' => v = .int .i64 r ∧ Kp False w w' := by
 unfold portref2_RatioFault at hm
 refine enter Tryz.func10 rfl Tryz.ntmps10 rfl ?_
 have hA0 := hA
 have hB := Nat.le_refl w.heap.size
 have hK : Tr False w.heap.size A w A w := Tr.refl (Dw := False) hA
 have hH : Hp w.heap.size A w [] := Hp.nil
 refine C_seq ?_
 refine C_region ?_
 refine V_box rfl rfl ?_
 intro b1 w2 h3
 have hk5 := h3.kp (Dw := False)
 have h4 : El (α := staff_Ratio) A w2 b1 0 r_ := h3.el hA ⟨[.string r_.num], _, rfl, rfl, rfl⟩
 have ht6 := Kp.tr (Dw := False) hk5 hA hB
 replace hH := Hp.kp (Dw := False) hH hk5
 replace hK := Tr.trans (Dw := False) hK ht6
 replace hB := Nat.le_trans hB ht6.ex.size
 replace hA := ht6.new
 refine V_as rfl rfl ?_
 refine V_to (fun _ _ => rfl) ?_
 refine C_seq ?_
 refine C_block ?_
 refine C_seq ?_
 refine C_region ?_
 have h7 := El_staff_Ratio_0 h4
 refine V_y (Y_fieldAddr Tryz.underlying23 rfl Tryz.sizeOf9 (by decide) rfl) rfl rfl rfl ?_
 refine V_y (Y_load (El.str h7) Tryz.isAgg9 rfl) rfl rfl rfl ?_
 refine V_y (Y_lenStr rfl Tryz.underlying9 rfl) rfl rfl rfl ?_
 refine V_y (Y_gtr rfl rfl) rfl rfl rfl ?_
 refine V_mv rfl rfl ?_
 refine V_cut 5 (fun _ : Unit => [(1, .pointer (some ⟨b1, 0, none⟩)), (13, .bool ((decide ((20000 : Int) < (r_.num.size : Int))) || (decide ((20000 : Int) < (r_.den.size : Int)))))]) (fun _ w' => w2 = w') ?_ ?_
 ·simp only [List.take, List.drop]
  rcases Bool.eq_false_or_eq_true (decide ((20000 : Int) < (r_.num.size : Int))) with hc8 | hc8
  ·refine V_gn rfl rfl rfl hc8 rfl rfl rfl ?_
   refine V_gn rfl rfl rfl hc8 rfl rfl rfl ?_
   refine V_gn rfl rfl rfl hc8 rfl rfl rfl ?_
   refine V_gn rfl rfl rfl hc8 rfl rfl rfl ?_
   refine V_y (Y_pick_te rfl hc8 rfl) rfl rfl rfl ?_
   exact V_end fun a ha => ⟨(), ha.sub ⟨rfl, (by rw [hc8]; rfl), trivial⟩, rfl⟩
  ·refine V_ge rfl rfl rfl hc8 ?_
   have h10 := El_staff_Ratio_1 h4
   refine V_y (Y_fieldAddr Tryz.underlying23 rfl Tryz.sizeOf9 (by decide) rfl) rfl rfl rfl ?_
   refine V_ge rfl rfl rfl hc8 ?_
   refine V_y (Y_load (El.str h10) Tryz.isAgg9 rfl) rfl rfl rfl ?_
   refine V_ge rfl rfl rfl hc8 ?_
   refine V_y (Y_lenStr rfl Tryz.underlying9 rfl) rfl rfl rfl ?_
   refine V_ge rfl rfl rfl hc8 ?_
   refine V_y (Y_gtr rfl rfl) rfl rfl rfl ?_
   refine V_y (Y_pick_fe rfl hc8 rfl) rfl rfl rfl ?_
   exact V_end fun a ha => ⟨(), ha.sub ⟨rfl, (by rw [hc8]; rfl), trivial⟩, rfl⟩
 simp only [List.take, List.drop]
 rintro _ _ rfl
 refine V_as rfl rfl ?_
 refine V_to (fun _ _ => rfl) ?_
 refine C_cond rfl (fun hc11 => ?_) (fun hc11 => ?_)
 ·rw [if_pos hc11] at hm
  refine C_seq ?_
  refine C_region ?_
  refine V_as rfl rfl ?_
  refine V_to (fun _ _ => rfl) ?_
  obtain rfl := Option.some.inj hm
  refine C_ret ?_
  try simp only [↓inBlock_ret, ↓then_ret]
  exact retQ rfl (Res.one Tryz.results10 rfl) ⟨rfl, hK.kp⟩
 ·rw [if_neg (nt hc11)] at hm
  refine C_seq ?_
  obtain ⟨s13, ho12, hm⟩ := Option.bind_eq_some_iff.1 hm
  refine C_cutG (ι := (Nat → Prop)) (fun (A18 : (Nat → Prop)) => [(1, .pointer (some ⟨b1, 0, none⟩)), (14, .bool s13)]) (fun (A18 : (Nat → Prop)) => fun w' => Hp w.heap.size A18 w' ([]) ∧ Tr False w.heap.size A w2 A18 w') ?_ ?_
  ·have hr14 : Tr False w.heap.size A w2 A w2 := Tr.refl (Dw := False) hA
   refine C_region ?_
   have h20 := El_staff_Ratio_0 h4
   refine V_y (Y_fieldAddr Tryz.underlying23 rfl Tryz.sizeOf9 (by decide) rfl) rfl rfl rfl ?_
   refine V_y (Y_load (El.str h20) Tryz.isAgg9 rfl) rfl rfl rfl ?_
   obtain ⟨x21, hx21, ho12⟩ := Option.bind_eq_some_iff.1 ho12
   refine V_call Tryz.call26 rfl rfl rfl rfl (portref2_digitString_c w2 hA r_.num hx21) ?_
   rintro _ w22 ⟨rfl, hk23⟩
   have ht24 := Kp.tr (Dw := False) hk23 hA hB
   replace hH := Hp.kp (Dw := False) hH hk23
   replace h4 := El.tr (Dw := False) h4 ht24
   replace hr14 := Tr.trans (Dw := False) hr14 ht24
   replace hB := Nat.le_trans hB ht24.ex.size
   replace hA := ht24.new
   refine V_y (Y_not rfl) rfl rfl rfl ?_
   refine V_mv rfl rfl ?_
   rcases Bool.eq_false_or_eq_true (!x21) with hc25 | hc25
   ·rw [if_pos hc25] at ho12
    refine V_gn rfl rfl rfl hc25 rfl rfl rfl ?_
    refine V_gn rfl rfl rfl hc25 rfl rfl rfl ?_
    refine V_gn rfl rfl rfl hc25 rfl rfl rfl ?_
    refine V_gn rfl rfl rfl hc25 rfl rfl rfl ?_
    refine V_y (Y_pick_te rfl hc25 rfl) rfl rfl rfl ?_
    refine V_as rfl rfl ?_
    obtain rfl := Option.some.inj ho12
    refine V_end (fun a ha26 => ?_)
    exact ⟨A, ha26.sub ⟨rfl, rfl, trivial⟩, ⟨hH, hr14⟩⟩
   ·rw [if_neg (nt hc25)] at ho12
    refine V_ge rfl rfl rfl hc25 ?_
    have h27 := El_staff_Ratio_1 h4
    refine V_y (Y_fieldAddr Tryz.underlying23 rfl Tryz.sizeOf9 (by decide) rfl) rfl rfl rfl ?_
    refine V_ge rfl rfl rfl hc25 ?_
    refine V_y (Y_load (El.str h27) Tryz.isAgg9 rfl) rfl rfl rfl ?_
    refine V_ge rfl rfl rfl hc25 ?_
    obtain ⟨x28, hx28, ho12⟩ := Option.bind_eq_some_iff.1 ho12
    refine V_call Tryz.call26 rfl rfl rfl rfl (portref2_digitString_c w22 hA r_.den hx28) ?_
    rintro _ w29 ⟨rfl, hk30⟩
    have ht31 := Kp.tr (Dw := False) hk30 hA hB
    replace hH := Hp.kp (Dw := False) hH hk30
    replace hr14 := Tr.trans (Dw := False) hr14 ht31
    refine V_ge rfl rfl rfl hc25 ?_
    refine V_y (Y_not rfl) rfl rfl rfl ?_
    refine V_y (Y_pick_fe rfl hc25 rfl) rfl rfl rfl ?_
    refine V_as rfl rfl ?_
    obtain rfl := Option.some.inj ho12
    refine V_end (fun a ha32 => ?_)
    exact ⟨A, ha32.sub ⟨rfl, rfl, trivial⟩, ⟨hH, hr14⟩⟩
  rintro A18 w15 ⟨hH19, hk16⟩ a ha17
  replace h4 := El.tr (Dw := False) h4 hk16
  replace hK := Tr.trans (Dw := False) hK hk16
  replace hB := Nat.le_trans hB hk16.ex.size
  replace hA := hk16.new
  replace hH : Hp w.heap.size A18 w15 ([]) := hH19
  refine C_at (n := ⟨35, [], none⟩) (fun _ _ => rfl) ?_ ha17
  refine C_cond rfl (fun hc33 => ?_) (fun hc33 => ?_)
  ·rw [if_pos hc33] at hm
   refine C_seq ?_
   refine C_region ?_
   refine V_as rfl rfl ?_
   refine V_to (fun _ _ => rfl) ?_
   obtain rfl := Option.some.inj hm
   refine C_ret ?_
   try simp only [↓inBlock_ret, ↓then_ret]
   exact retQ rfl (Res.one Tryz.results10 rfl) ⟨rfl, hK.kp⟩
  ·rw [if_neg (nt hc33)] at hm
   refine C_seq ?_
   refine C_region ?_
   have h34 := El_staff_Ratio_1 h4
   refine V_y (Y_fieldAddr Tryz.underlying23 rfl Tryz.sizeOf9 (by decide) rfl) rfl rfl rfl ?_
   refine V_y (Y_load (El.str h34) Tryz.isAgg9 rfl) rfl rfl rfl ?_
   refine V_y (Y_seql rfl rfl) rfl rfl rfl ?_
   refine V_as rfl rfl ?_
   refine V_to (fun _ _ => rfl) ?_
   refine C_cond rfl (fun hc35 => ?_) (fun hc35 => ?_)
   ·rw [if_pos hc35] at hm
    refine C_seq ?_
    refine C_region ?_
    refine V_as rfl rfl ?_
    refine V_to (fun _ _ => rfl) ?_
    obtain rfl := Option.some.inj hm
    refine C_ret ?_
    try simp only [↓inBlock_ret, ↓then_ret]
    exact retQ rfl (Res.one Tryz.results10 rfl) ⟨rfl, hK.kp⟩
   ·rw [if_neg (nt hc35)] at hm
    refine C_seq ?_
    refine C_region_ch (Dw := False) A18 6 [(1, 0), (1, 3), (2, 1), (2, 2), (1, 4), (1, 5)] Tryz_mixed (by kernel_rfl) (fun w36 hk37 => ?_)
    have ht38 := Kp.tr (Dw := False) hk37 hA hB
    replace h4 := El.tr (Dw := False) h4 ht38
    replace hK := Tr.trans (Dw := False) hK ht38
    replace hB := Nat.le_trans hB ht38.ex.size
    replace hA := ht38.new
    refine CH_q2 (Dw := False) rfl ?_
    obtain ⟨h39, _⟩ := El_staff_Ratio h4
    refine VQ_y (fun w' hw' => Y_loadA (At.same h39 (hw'.2 _ h4.2.1 h4.1)) Tryz.isAgg23 Tryz.sizeOf23 rfl) rfl rfl rfl ?_
    refine VQ_CH (Dw := False) ?_
    refine CH_q2 (Dw := False) rfl ?_
    obtain ⟨h40, _⟩ := El_staff_Ratio h4
    refine VQ_y (fun w' hw' => Y_loadA (At.same h40 (hw'.2 _ h4.2.1 h4.1)) Tryz.isAgg23 Tryz.sizeOf23 rfl) rfl rfl rfl ?_
    refine VQ_CH (Dw := False) ?_
    refine CH_l1 (Dw := False) (k := 0) rfl ?_
    obtain ⟨x41, hx41, hm⟩ := Option.bind_eq_some_iff.1 hm
    refine V_call Tryz.call14 rfl rfl rfl rfl (portref2_ratOf_c (Dw := False) w36 hA r_ hx41) ?_
    rintro _ w46 ⟨v42, v44, rfl, h43, h45, hk47⟩
    have ht48 := Kp.tr (Dw := False) hk47 hA hB
    replace hK := Tr.trans (Dw := False) hK ht48
    replace hB := Nat.le_trans hB ht48.ex.size
    replace hA := ht48.new
    refine V_CH (Dw := False) (hk47) ?_
    refine CH_l1 (Dw := False) (k := 0) rfl ?_
    obtain ⟨x49, hx49, hm⟩ := Option.bind_eq_some_iff.1 hm
    refine V_call Tryz.call23 rfl rfl rfl rfl (portref2_ratioOf_c (Dw := False) w46 hA x41 v42 h43 v44 h45 hx49) ?_
    rintro _ w50 ⟨rfl, hk51⟩
    have ht52 := Kp.tr (Dw := False) hk51 hA hB
    replace hK := Tr.trans (Dw := False) hK ht52
    refine V_CH (Dw := False) (hk51) ?_
    refine CH_q2 (Dw := False) rfl ?_
    refine VQ_y (fun w' hw' => Y_neqA (fun w => Tryz_eqt23_10000 x49.num x49.den r_.num r_.den w) Tryz_eqg23 rfl rfl) rfl rfl rfl ?_
    refine VQ_CH (Dw := False) ?_
    refine CH_q2 (Dw := False) rfl ?_
    refine VQ_y (fun w' hw' => Y_assign rfl) rfl rfl rfl ?_
    refine VQ_CH (Dw := False) ?_
    refine CH_tail (Dw := False) ?_
    show V _ _ _ _ [] _ _
    refine V_to (fun _ _ => rfl) ?_
    refine C_cond rfl (fun hc53 => ?_) (fun hc53 => ?_)
    ·rw [if_pos hc53] at hm
     refine C_seq ?_
     refine C_region ?_
     refine V_as rfl rfl ?_
     refine V_to (fun _ _ => rfl) ?_
     obtain rfl := Option.some.inj hm
     refine C_ret ?_
     try simp only [↓inBlock_ret, ↓then_ret]
     exact retQ rfl (Res.one Tryz.results10 rfl) ⟨rfl, hK.kp⟩
    ·rw [if_neg (nt hc53)] at hm
     refine C_skip_to (fun _ _ => rfl) ?_
     refine C_seq ?_
     refine C_region ?_
     refine V_as rfl rfl ?_
     refine V_to (fun _ _ => rfl) ?_
     obtain rfl := Option.some.inj hm
     refine C_ret ?_
     try simp only [↓inBlock_ret, ↓then_ret]
     exact retQ rfl (Res.one Tryz.results10 rfl) ⟨rfl, hK.kp⟩

set_option maxRecDepth 4000 in
set_option maxHeartbeats 4000000 in
theorem portref2_twoRatios_c (w : World) {A : Nat → Prop} (hA : ∀ b, w.heap.size ≤ b → A b) (a_ : staff_Ratio) (b : staff_Ratio) {r : Int} (hm : portref2_twoRatios a_ b = some r) : Ret Tryz.prog 13 #[.agg #[.string a_.num, .string a_.den], .agg #[.string b.num, .string b.den]] w fun v w' => v = .int .i64 r ∧ Kp False w w' := by
 unfold portref2_twoRatios at hm
 refine enter Tryz.func13 rfl Tryz.ntmps13 rfl ?_
 have hA0 := hA
 have hB := Nat.le_refl w.heap.size
 have hK : Tr False w.heap.size A w A w := Tr.refl (Dw := False) hA
 have hH : Hp w.heap.size A w [] := Hp.nil
 refine C_seq ?_
 refine C_region ?_
 refine V_box rfl rfl ?_
 intro b1 w2 h3
 have hk5 := h3.kp (Dw := False)
 have h4 : El (α := staff_Ratio) A w2 b1 0 a_ := h3.el hA ⟨[.string a_.num], _, rfl, rfl, rfl⟩
 have ht6 := Kp.tr (Dw := False) hk5 hA hB
 replace hK := Tr.trans (Dw := False) hK ht6
 replace hB := Nat.le_trans hB ht6.ex.size
 replace hA := ht6.new
 refine V_box rfl rfl ?_
 intro b7 w9 h10
 have hk12 := h10.kp (Dw := False)
 have h11 : El (α := staff_Ratio) A w9 b7 0 b := h10.el hA ⟨[.string b.num], _, rfl, rfl, rfl⟩
 have ht13 := Kp.tr (Dw := False) hk12 hA hB
 replace h4 := El.tr (Dw := False) h4 ht13
 replace hK := Tr.trans (Dw := False) hK ht13
 replace hB := Nat.le_trans hB ht13.ex.size
 replace hA := ht13.new
 refine V_as rfl rfl ?_
 refine V_to (fun _ _ => rfl) ?_
 refine C_seq ?_
 refine C_seq ?_
 refine C_region ?_
 obtain ⟨h14, _⟩ := El_staff_Ratio h4
 refine V_y (Y_loadA h14 Tryz.isAgg23 Tryz.sizeOf23 rfl) rfl rfl rfl ?_
 obtain ⟨x15, hx15, hm⟩ := Option.bind_eq_some_iff.1 hm
 refine V_call Tryz.call10 rfl rfl rfl rfl (portref2_RatioFault_c w9 hA a_ hx15) ?_
 rintro _ w17 ⟨rfl, hk18⟩
 have ht19 := Kp.tr (Dw := False) hk18 hA hB
 replace h11 := El.tr (Dw := False) h11 ht19
 replace hK := Tr.trans (Dw := False) hK ht19
 replace hB := Nat.le_trans hB ht19.ex.size
 replace hA := ht19.new
 refine V_as rfl rfl ?_
 refine V_to (fun _ _ => rfl) ?_
 refine C_seq ?_
 refine C_region ?_
 refine V_mv rfl rfl ?_
 refine V_y (Y_neq rfl rfl) rfl rfl rfl ?_
 refine V_to (fun _ _ => rfl) ?_
 refine C_cond rfl (fun hc20 => ?_) (fun hc20 => ?_)
 ·rw [if_pos hc20] at hm
  refine C_seq ?_
  refine C_region ?_
  refine V_mv rfl rfl ?_
  refine V_as rfl rfl ?_
  refine V_to (fun _ _ => rfl) ?_
  obtain rfl := Option.some.inj hm
  refine C_ret ?_
  try simp only [↓inBlock_ret, ↓then_ret]
  exact retQ rfl (Res.one Tryz.results13 rfl) ⟨rfl, hK.kp⟩
 ·rw [if_neg (nt hc20)] at hm
  refine C_skip_to (fun _ _ => rfl) ?_
  refine C_seq ?_
  refine C_region ?_
  obtain ⟨h21, _⟩ := El_staff_Ratio h11
  refine V_y (Y_loadA h21 Tryz.isAgg23 Tryz.sizeOf23 rfl) rfl rfl rfl ?_
  obtain ⟨x22, hx22, hm⟩ := Option.bind_eq_some_iff.1 hm
  refine V_call Tryz.call10 rfl rfl rfl rfl (portref2_RatioFault_c w17 hA b hx22) ?_
  rintro _ w23 ⟨rfl, hk24⟩
  have ht25 := Kp.tr (Dw := False) hk24 hA hB
  replace hK := Tr.trans (Dw := False) hK ht25
  refine V_as rfl rfl ?_
  refine V_to (fun _ _ => rfl) ?_
  obtain rfl := Option.some.inj hm
  refine C_ret ?_
  try simp only [↓inBlock_ret, ↓then_ret]
  exact retQ rfl (Res.one Tryz.results13 rfl) ⟨rfl, hK.kp⟩

end Go.Proofs.YtnnbhehaplphiaaGreatDoor.W
