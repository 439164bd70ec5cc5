import Derived.Test.YtabkhhpkibbheaaClockRanksW5
namespace Go.Proofs.Ytabkhhpkibbheaa.W
open Go Go.RowKit Go.Pu Go.Gw Go.Proofs Go.Proofs.Ytabkhhpkibbheaa.M
set_option linter.unusedVariables false
set_option linter.unusedSimpArgs false
variable {Dw : Prop}
set_option maxRecDepth 4000 in
set_option maxHeartbeats 4000000 in
theorem slices_symMergeCmpFunc_intF_c (REC : ((List Int)) → (Int) → (Int) → (Int) → ((Int × Int) → Option Int) → Option (List Int)) (REC_c : ∀ (w : World) {A : Nat → Prop} {B : Nat} (hB : B ≤ w.heap.size) (hA : ∀ b, w.heap.size ≤ b → A b) (data : (List Int)) (v_data : Value) (a_ : Int) (m : Int) (b : Int) (cmp : (Int × Int) → Option Int) (cmp_Y : Ob) (cmp_v : Value) (cmp_one : cmp_v.cells.toList = [cmp_v]) (cmp_spec : ∀ (w2 : World) (A2 : Nat → Prop) (L2 : List Ob) (x : (Int × Int)) (b : Int), B ≤ w2.heap.size → (∀ b, w2.heap.size ≤ b → A2 b) → Tr Dw B A w A2 w2 → Hp B A2 w2 (cmp_Y :: L2) → cmp x = some b → CallV Try.prog cmp_v [.int .i64 x.1, .int .i64 x.2] w2 fun v w3 => v = .int .i64 b ∧ ∃ A3, Tr Dw B A2 w2 A3 w3 ∧ Hp B A3 w3 (cmp_Y :: L2)) {L : List Ob} (hH : Hp B A w (obS (α := Int) 3 v_data data :: cmp_Y :: L)) {r : (List Int)} (hm : REC data a_ m b cmp = some r), Ret Try.prog 64 #[v_data, .int .i64 a_, .int .i64 m, .int .i64 b, cmp_v] w fun v w' => ∃ A1 : Nat → Prop, v = .tuple #[] ∧ Hp B A1 w' (obS (α := Int) 3 v_data r :: cmp_Y :: L) ∧ Tr Dw B A w A1 w') (w : World) {A : Nat → Prop} {B : Nat} (hB : B ≤ w.heap.size) (hA : ∀ b, w.heap.size ≤ b → A b) (data : (List Int)) (v_data : Value) (a_ : Int) (m : Int) (b : Int) (cmp : (Int × Int) → Option Int) (cmp_Y : Ob) (cmp_v : Value) (cmp_one : cmp_v.cells.toList = [cmp_v]) (cmp_spec : ∀ (w2 : World) (A2 : Nat → Prop) (L2 : List Ob) (x : (Int × Int)) (b : Int), B ≤ w2.heap.size → (∀ b, w2.heap.size ≤ b → A2 b) → Tr Dw B A w A2 w2 → Hp B A2 w2 (cmp_Y :: L2) → cmp x = some b → CallV Try.prog cmp_v [.int .i64 x.1, .int .i64 x.2] w2 fun v w3 => v = .int .i64 b ∧ ∃ A3, Tr Dw B A2 w2 A3 w3 ∧ Hp B A3 w3 (cmp_Y :: L2)) {L : List Ob} (hH : Hp B A w (obS (α := Int) 3 v_data data :: cmp_Y :: L)) {r : (List Int)} (hm : slices_symMergeCmpFunc_intF REC data a_ m b cmp = some r) : Ret Try.prog 64 #[v_data, .int .i64 a_, .int .i64 m, .int .i64 b, cmp_v] w fun v w' => ∃ A1 : Nat → Prop, v = .tuple #[] ∧ Hp B A1 w' (obS (α := Int) 3 v_data r :: cmp_Y :: L) ∧ Tr Dw B A w A1 w' := by
 unfold slices_symMergeCmpFunc_intF at hm
 refine enter Try.func64 rfl Try.ntmps64 rfl ?_
 have hK : Tr Dw B A w A w := Tr.refl (Dw := Dw) hA
 refine C_seq ?_
 refine C_seq ?_
 refine C_region ?_
 refine V_y (Y_move rfl) rfl rfl rfl ?_
 refine V_y (Y_move rfl) rfl rfl rfl ?_
 refine V_y (Y_subI rfl rfl) rfl rfl rfl ?_
 refine V_y (Y_eql rfl rfl) rfl rfl rfl ?_
 refine V_to (fun _ _ => rfl) ?_
 refine C_cond rfl (fun hc1 => ?_) (fun hc1 => ?_)
 ·rw [if_pos hc1] at hm
  refine C_seq ?_
  refine C_region ?_
  refine V_y (Y_move rfl) rfl rfl rfl ?_
  refine V_y (Y_assign rfl) rfl rfl rfl ?_
  refine V_to (fun _ _ => rfl) ?_
  refine C_seq ?_
  refine C_region ?_
  refine V_y (Y_move rfl) rfl rfl rfl ?_
  refine V_y (Y_assign rfl) rfl rfl rfl ?_
  refine V_to (fun _ _ => rfl) ?_
  refine C_seq ?_
  obtain ⟨o2, ho2, hm⟩ := Option.bind_eq_some_iff.1 hm
  refine C_cutG (ι := ((Int × Int) × (Nat → Prop))) (fun ⟨s3, A9⟩ => [(0, v_data), (1, .int .i64 a_), (10, .int .i64 s3.1)]) (fun ⟨s3, A9⟩ => fun w' => o2 = .fin s3 ∧ Hp B A9 w' (obS (α := Int) 3 v_data data :: cmp_Y :: L) ∧ Tr Dw B A w A9 w') ?_ ?_
  ·refine C_block ?_
   refine C_while ho2 (fun s11 a w' => ∃ i : (Nat → Prop), Has ⟨220, [], none⟩ a ([(0, v_data), (1, .int .i64 a_), (4, cmp_v), (10, .int .i64 s11.1), (11, .int .i64 s11.2)]) ∧ Hp B i w' (obS (α := Int) 3 v_data data :: cmp_Y :: L) ∧ Tr Dw B A w i w') (fun a ha => ⟨A, ha.sub ⟨rfl, rfl, rfl, rfl, rfl, trivial⟩, ⟨hH, Tr.refl (Dw := Dw) hA⟩⟩) ?_
   rintro K s11 a w12 ⟨A13, ha62, hH14, hr4⟩ K21
   refine C_of ?_ ha62
   replace hK := Tr.trans (Dw := Dw) hK hr4
   replace hB := Nat.le_trans hB hr4.ex.size
   replace hA := hr4.new
   replace hH : Hp B A13 w12 (obS (α := Int) 3 v_data data :: cmp_Y :: L) := hH14
   obtain ⟨x15, h16, h17⟩ := K21
   refine C_seq ?_
   refine C_seq ?_
   refine C_region ?_
   refine V_y (Y_move rfl) rfl rfl rfl ?_
   refine V_y (Y_move rfl) rfl rfl rfl ?_
   refine V_y (Y_lss rfl rfl) rfl rfl rfl ?_
   refine V_to (fun _ _ => rfl) ?_
   refine C_cond rfl (fun hc22 => ?_) (fun hc22 => ?_)
   ·rw [if_pos hc22] at h16
    refine C_skip_to (fun _ _ => rfl) ?_
    obtain ⟨s24, ho23, h16⟩ := Option.bind_eq_some_iff.1 h16
    refine C_cutG (ι := (Nat → Prop)) (fun (A29 : (Nat → Prop)) => [(0, v_data), (1, .int .i64 a_), (4, cmp_v), (10, .int .i64 s24.1), (11, .int .i64 s24.2)]) (fun (A29 : (Nat → Prop)) => fun w' => Hp B A29 w' (obS (α := Int) 3 v_data data :: cmp_Y :: L) ∧ Tr Dw B A13 w12 A29 w') ?_ ?_
    ·have hr25 : Tr Dw B A13 w12 A13 w12 := Tr.refl (Dw := Dw) hA
     refine C_block ?_
     refine C_seq ?_
     refine C_region ?_
     refine V_y (Y_move rfl) rfl rfl rfl ?_
     refine V_y (Y_move rfl) rfl rfl rfl ?_
     refine V_y (Y_addI rfl rfl) rfl rfl rfl ?_
     refine V_y (Y_convI Try.underlying3 Try.underlying71 rfl) rfl rfl rfl ?_
     obtain ⟨x31, hx31, ho23⟩ := Option.bind_eq_some_iff.1 ho23
     refine V_y (Y_shr hx31 rfl rfl) rfl rfl rfl ?_
     refine V_y (Y_convI Try.underlying71 Try.underlying3 rfl) rfl rfl rfl ?_
     refine V_y (Y_assign rfl) rfl rfl rfl ?_
     refine V_to (fun _ _ => rfl) ?_
     refine C_seq ?_
     refine C_region_qt (Dw := Dw) 9 Try_mixed (by kernel_rfl) ?_
     simp only [List.take, List.drop]
     refine VQ_y (fun w' hw' => Y_move rfl) rfl rfl rfl ?_
     refine VQ_y (fun w' hw' => Y_move rfl) rfl rfl rfl ?_
     refine VQ_y (fun w' hw' => Y_move rfl) rfl rfl rfl ?_
     obtain ⟨x32, hx32, ho23⟩ := Option.bind_eq_some_iff.1 ho23
     refine VQ_indexAddrH (α := Int) (e := 3) (v := v_data) (l := data) hH (i := 0) rfl hx32 Try.underlying27 Try.sizeOf3 rfl rfl rfl ?_
     intro b33 o34 h35 hl36
     refine VQ_y (fun w' hw' => Y_load (El.int (El.kp (Dw := Dw) h35 hw')) Try.isAgg3 rfl) rfl rfl rfl ?_
     refine VQ_y (fun w' hw' => Y_move rfl) rfl rfl rfl ?_
     refine VQ_y (fun w' hw' => Y_move rfl) rfl rfl rfl ?_
     obtain ⟨x37, hx37, ho23⟩ := Option.bind_eq_some_iff.1 ho23
     refine VQ_indexAddrH (α := Int) (e := 3) (v := v_data) (l := data) hH (i := 0) rfl hx37 Try.underlying27 Try.sizeOf3 rfl rfl rfl ?_
     intro b38 o39 h40 hl41
     refine VQ_y (fun w' hw' => Y_load (El.int (El.kp (Dw := Dw) h40 hw')) Try.isAgg3 rfl) rfl rfl rfl ?_
     refine VQ_tail (fun w42 hk43 => ?_)
     try simp only [List.take, List.drop]
     have ht44 := Kp.tr (Dw := Dw) hk43 hA hB
     replace hH := Hp.kp (Dw := Dw) hH hk43
     replace hK := Tr.trans (Dw := Dw) hK ht44
     replace hr25 := Tr.trans (Dw := Dw) hr25 ht44
     replace hB := Nat.le_trans hB ht44.ex.size
     replace hA := ht44.new
     obtain ⟨x45, hx45, ho23⟩ := Option.bind_eq_some_iff.1 ho23
     replace hH : Hp B A13 w42 (cmp_Y :: obS (α := Int) 3 v_data data :: L) := Hp.front hH (i := 1) rfl
     refine V_callV rfl rfl rfl (cmp_spec w42 _ _ (x32, x37) x45 hB hA hK hH hx45) ?_
     rintro _ w46 ⟨rfl, A47, ht49, hH48⟩
     replace hr25 := Tr.trans (Dw := Dw) hr25 ht49
     replace hH : Hp B A47 w46 (cmp_Y :: obS (α := Int) 3 v_data data :: L) := hH48
     refine V_y (Y_lss rfl rfl) rfl rfl rfl ?_
     refine V_to (fun _ _ => rfl) ?_
     obtain ⟨s51, ho50, ho23⟩ := Option.bind_eq_some_iff.1 ho23
     refine C_cutG (ι := Unit) (fun (_ : Unit) => [(0, v_data), (1, .int .i64 a_), (4, cmp_v), (10, .int .i64 s51.1), (11, .int .i64 s51.2)]) (fun (_ : Unit) => fun w' => w46 = w') ?_ ?_
     ·refine C_cond rfl (fun hc56 => ?_) (fun hc56 => ?_)
      ·rw [if_pos hc56] at ho50
       refine C_region ?_
       refine V_y (Y_move rfl) rfl rfl rfl ?_
       refine V_y (Y_addI rfl rfl) rfl rfl rfl ?_
       refine V_y (Y_assign rfl) rfl rfl rfl ?_
       obtain rfl := Option.some.inj ho50
       refine V_end (fun a ha57 => ?_)
       exact ⟨(), ha57.sub ⟨rfl, rfl, rfl, rfl, rfl, trivial⟩, rfl⟩
      ·rw [if_neg (nt hc56)] at ho50
       refine C_region ?_
       refine V_y (Y_move rfl) rfl rfl rfl ?_
       refine V_y (Y_assign rfl) rfl rfl rfl ?_
       obtain rfl := Option.some.inj ho50
       refine V_end (fun a ha58 => ?_)
       exact ⟨(), ha58.sub ⟨rfl, rfl, rfl, rfl, rfl, trivial⟩, rfl⟩
     rintro _ _ rfl a ha55
     obtain rfl := Option.some.inj ho23
     replace hH : Hp B A47 w46 (obS (α := Int) 3 v_data data :: cmp_Y :: L) := Hp.front hH (i := 1) rfl
     exact ⟨A47, ha55.sub ⟨rfl, rfl, rfl, rfl, rfl, trivial⟩, ⟨hH, hr25⟩⟩
    rintro A29 w26 ⟨hH30, hk27⟩ a ha28
    replace hr4 := Tr.trans (Dw := Dw) hr4 hk27
    replace hA := hk27.new
    replace hH : Hp B A29 w26 (obS (α := Int) 3 v_data data :: cmp_Y :: L) := hH30
    obtain rfl := Option.some.inj h16
    exact ⟨(s24.1, s24.2), h17, ⟨A29, ha28.sub ⟨rfl, rfl, rfl, rfl, rfl, trivial⟩, ⟨hH, hr4⟩⟩⟩
   ·rw [if_neg (nt hc22)] at h16
    obtain rfl := Option.some.inj h16
    refine C_exit (fun a ha61 => ?_)
    exact ⟨((s11.1, s11.2), A13), ha61.sub ⟨rfl, rfl, rfl, trivial⟩, ⟨h17.symm, hH, hr4⟩⟩
  rintro ⟨s3, A9⟩ w6 ⟨rfl, hH10, hk7⟩ a ha8
  rw [Lp.andThen_fin] at hm
  replace hK := Tr.trans (Dw := Dw) hK hk7
  replace hB := Nat.le_trans hB hk7.ex.size
  replace hA := hk7.new
  replace hH : Hp B A9 w6 (obS (α := Int) 3 v_data data :: cmp_Y :: L) := hH10
  refine C_at (n := ⟨220, [], none⟩) (fun _ _ => rfl) ?_ ha8
  refine C_seq ?_
  refine C_seq ?_
  refine C_region ?_
  refine V_y (Y_move rfl) rfl rfl rfl ?_
  refine V_y (Y_assign rfl) rfl rfl rfl ?_
  refine V_to (fun _ _ => rfl) ?_
  obtain ⟨o63, ho63, hm⟩ := Option.bind_eq_some_iff.1 hm
  refine C_cutG (ι := ((Int × (List Int)) × (Nat → Prop))) (fun ⟨s64, A70⟩ => []) (fun ⟨s64, A70⟩ => fun w' => o63 = .fin s64 ∧ Hp B A70 w' (obS (α := Int) 3 v_data s64.2 :: cmp_Y :: L) ∧ Tr Dw B A9 w6 A70 w') ?_ ?_
  ·refine C_block ?_
   refine C_while ho63 (fun s72 a w' => ∃ i : (Nat → Prop), Has ⟨220, [], none⟩ a ([(0, v_data), (10, .int .i64 s3.1), (13, .int .i64 s72.1)]) ∧ Hp B i w' (obS (α := Int) 3 v_data s72.2 :: cmp_Y :: L) ∧ Tr Dw B A9 w6 i w') (fun a ha => ⟨A9, ha.sub ⟨rfl, rfl, rfl, trivial⟩, ⟨hH, Tr.refl (Dw := Dw) hA⟩⟩) ?_
   rintro K s72 a w73 ⟨A74, ha116, hH75, hr65⟩ K82
   refine C_of ?_ ha116
   replace hB := Nat.le_trans hB hr65.ex.size
   replace hA := hr65.new
   replace hH : Hp B A74 w73 (obS (α := Int) 3 v_data s72.2 :: cmp_Y :: L) := hH75
   obtain ⟨x76, h77, h78⟩ := K82
   refine C_seq ?_
   refine C_seq ?_
   refine C_region ?_
   refine V_y (Y_move rfl) rfl rfl rfl ?_
   refine V_y (Y_move rfl) rfl rfl rfl ?_
   refine V_y (Y_subI rfl rfl) rfl rfl rfl ?_
   refine V_y (Y_lss rfl rfl) rfl rfl rfl ?_
   refine V_to (fun _ _ => rfl) ?_
   refine C_cond rfl (fun hc83 => ?_) (fun hc83 => ?_)
   ·rw [if_pos hc83] at h77
    refine C_skip_to (fun _ _ => rfl) ?_
    refine C_seq ?_
    refine C_block ?_
    refine C_region_ch (Dw := Dw) A74 18 [(1, 0), (1, 1), (1, 2), (1, 3), (1, 4), (1, 5), (1, 6), (1, 7), (0, 8), (0, 9), (1, 10), (1, 11), (0, 12), (0, 13), (0, 14), (3, 15), (0, 16), (4, 17)] Try_mixed (by kernel_rfl) (fun w84 hk85 => ?_)
    have ht86 := Kp.tr (Dw := Dw) hk85 hA hB
    replace hH := Hp.kp (Dw := Dw) hH hk85
    replace hr65 := Tr.trans (Dw := Dw) hr65 ht86
    replace hB := Nat.le_trans hB ht86.ex.size
    replace hA := ht86.new
    refine CH_q2 (Dw := Dw) rfl ?_
    refine VQ_y (fun w' hw' => Y_move rfl) rfl rfl rfl ?_
    refine VQ_CH (Dw := Dw) ?_
    refine CH_q2 (Dw := Dw) rfl ?_
    refine VQ_y (fun w' hw' => Y_move rfl) rfl rfl rfl ?_
    refine VQ_CH (Dw := Dw) ?_
    refine CH_q2 (Dw := Dw) rfl ?_
    refine VQ_y (fun w' hw' => Y_move rfl) rfl rfl rfl ?_
    refine VQ_CH (Dw := Dw) ?_
    refine CH_q2 (Dw := Dw) rfl ?_
    refine VQ_y (fun w' hw' => Y_move rfl) rfl rfl rfl ?_
    refine VQ_CH (Dw := Dw) ?_
    refine CH_q2 (Dw := Dw) rfl ?_
    refine VQ_y (fun w' hw' => Y_addI rfl rfl) rfl rfl rfl ?_
    refine VQ_CH (Dw := Dw) ?_
    refine CH_q2 (Dw := Dw) rfl ?_
    refine VQ_y (fun w' hw' => Y_move rfl) rfl rfl rfl ?_
    refine VQ_CH (Dw := Dw) ?_
    refine CH_q2 (Dw := Dw) rfl ?_
    refine VQ_y (fun w' hw' => Y_move rfl) rfl rfl rfl ?_
    refine VQ_CH (Dw := Dw) ?_
    refine CH_q2 (Dw := Dw) rfl ?_
    refine VQ_y (fun w' hw' => Y_addI rfl rfl) rfl rfl rfl ?_
    refine VQ_CH (Dw := Dw) ?_
    refine CH_q1 (Dw := Dw) rfl ?_
    obtain ⟨x87, hx87, h77⟩ := Option.bind_eq_some_iff.1 h77
    refine VQ_indexAddrH (α := Int) (e := 3) (v := v_data) (l := s72.2) hH (i := 0) rfl hx87 Try.underlying27 Try.sizeOf3 rfl rfl rfl ?_
    intro b88 o89 h90 hl91
    refine VQ_CH (Dw := Dw) ?_
    refine CH_q1 (Dw := Dw) rfl ?_
    refine VQ_y (fun w' hw' => Y_load (El.int (El.kp (Dw := Dw) h90 hw')) Try.isAgg3 rfl) rfl rfl rfl ?_
    refine VQ_CH (Dw := Dw) ?_
    refine CH_q2 (Dw := Dw) rfl ?_
    refine VQ_y (fun w' hw' => Y_move rfl) rfl rfl rfl ?_
    refine VQ_CH (Dw := Dw) ?_
    refine CH_q2 (Dw := Dw) rfl ?_
    refine VQ_y (fun w' hw' => Y_move rfl) rfl rfl rfl ?_
    refine VQ_CH (Dw := Dw) ?_
    refine CH_q1 (Dw := Dw) rfl ?_
    obtain ⟨x92, hx92, h77⟩ := Option.bind_eq_some_iff.1 h77
    refine VQ_indexAddrH (α := Int) (e := 3) (v := v_data) (l := s72.2) hH (i := 0) rfl hx92 Try.underlying27 Try.sizeOf3 rfl rfl rfl ?_
    intro b93 o94 h95 hl96
    refine VQ_CH (Dw := Dw) ?_
    refine CH_q1 (Dw := Dw) rfl ?_
    refine VQ_y (fun w' hw' => Y_load (El.int (El.kp (Dw := Dw) h95 hw')) Try.isAgg3 rfl) rfl rfl rfl ?_
    refine VQ_CH (Dw := Dw) ?_
    refine CH_q1 (Dw := Dw) rfl ?_
    refine VQ_indexAddrH (α := Int) (e := 3) (v := v_data) (l := s72.2) hH (i := 0) rfl hx92 Try.underlying27 Try.sizeOf3 rfl rfl rfl ?_
    intro b97 o98 h99 hl100
    refine VQ_CH (Dw := Dw) ?_
    refine CH_l1 (Dw := Dw) (k := 1) rfl ?_
    obtain ⟨x101, hx101, h77⟩ := Option.bind_eq_some_iff.1 h77
    refine V_storeH (Dw := Dw) (α := Int) (e := 3) (v := v_data) (l := s72.2) hH (i := 0) rfl hl100 hx101 rfl Try.sizeOf3 rfl hB hA rfl rfl ?_
    intro w102 hH103 ht104
    replace hr65 := Tr.trans (Dw := Dw) hr65 ht104
    replace hB := Nat.le_trans hB ht104.ex.size
    replace hA := ht104.new
    replace hH : Hp B A74 w102 (obS (α := Int) 3 v_data x101 :: cmp_Y :: L) := hH103
    refine V_CHx (Dw := Dw) (XA.tr (Dw := Dw) ht104) ?_
    refine CH_q1 (Dw := Dw) rfl ?_
    obtain ⟨x105, hx105, h77⟩ := Option.bind_eq_some_iff.1 h77
    refine VQ_indexAddrH (α := Int) (e := 3) (v := v_data) (l := x101) hH (i := 0) rfl hx105 Try.underlying27 Try.sizeOf3 rfl rfl rfl ?_
    intro b106 o107 h108 hl109
    refine VQ_CH (Dw := Dw) ?_
    refine CH_l1 (Dw := Dw) (k := 2) rfl ?_
    obtain ⟨x110, hx110, h77⟩ := Option.bind_eq_some_iff.1 h77
    refine V_storeH (Dw := Dw) (α := Int) (e := 3) (v := v_data) (l := x101) hH (i := 0) rfl hl109 hx110 rfl Try.sizeOf3 rfl hB hA rfl rfl ?_
    intro w111 hH112 ht113
    replace hr65 := Tr.trans (Dw := Dw) hr65 ht113
    replace hH : Hp B A74 w111 (obS (α := Int) 3 v_data x110 :: cmp_Y :: L) := hH112
    refine V_CHw (Dw := Dw) ?_
    refine CH_tail (Dw := Dw) ?_
    show V _ _ _ _ [] _ _
    refine V_to (fun _ _ => rfl) ?_
    refine C_region ?_
    refine V_y (Y_move rfl) rfl rfl rfl ?_
    refine V_y (Y_addI rfl rfl) rfl rfl rfl ?_
    refine V_y (Y_assign rfl) rfl rfl rfl ?_
    obtain rfl := Option.some.inj h77
    refine V_end (fun a ha114 => ?_)
    exact ⟨(w64 (s72.1 + 1), x110), h78, ⟨A74, ha114.sub ⟨rfl, rfl, rfl, trivial⟩, ⟨hH, hr65⟩⟩⟩
   ·rw [if_neg (nt hc83)] at h77
    obtain rfl := Option.some.inj h77
    refine C_exit (fun a ha115 => ?_)
    exact ⟨((s72.1, s72.2), A74), ha115.sub trivial, ⟨h78.symm, hH, hr65⟩⟩
  rintro ⟨s64, A70⟩ w67 ⟨rfl, hH71, hk68⟩ a ha69
  rw [Lp.andThen_fin] at hm
  replace hK := Tr.trans (Dw := Dw) hK hk68
  replace hA := hk68.new
  replace hH : Hp B A70 w67 (obS (α := Int) 3 v_data s64.2 :: cmp_Y :: L) := hH71
  refine C_at (n := ⟨220, [], none⟩) (fun _ _ => rfl) ?_ ha69
  obtain rfl := Option.some.inj hm
  refine C_ret ?_
  try simp only [↓inBlock_ret, ↓then_ret]
  exact retQ rfl (Res.zero Try.results64) ⟨A70, rfl, hH, hK⟩
 ·rw [if_neg (nt hc1)] at hm
  refine C_skip_to (fun _ _ => rfl) ?_
  refine C_seq ?_
  refine C_seq ?_
  refine C_region ?_
  refine V_y (Y_move rfl) rfl rfl rfl ?_
  refine V_y (Y_move rfl) rfl rfl rfl ?_
  refine V_y (Y_subI rfl rfl) rfl rfl rfl ?_
  refine V_y (Y_eql rfl rfl) rfl rfl rfl ?_
  refine V_to (fun _ _ => rfl) ?_
  refine C_cond rfl (fun hc117 => ?_) (fun hc117 => ?_)
  ·rw [if_pos hc117] at hm
   refine C_seq ?_
   refine C_region ?_
   refine V_y (Y_move rfl) rfl rfl rfl ?_
   refine V_y (Y_assign rfl) rfl rfl rfl ?_
   refine V_to (fun _ _ => rfl) ?_
   refine C_seq ?_
   refine C_region ?_
   refine V_y (Y_move rfl) rfl rfl rfl ?_
   refine V_y (Y_assign rfl) rfl rfl rfl ?_
   refine V_to (fun _ _ => rfl) ?_
   refine C_seq ?_
   obtain ⟨o118, ho118, hm⟩ := Option.bind_eq_some_iff.1 hm
   refine C_cutG (ι := ((Int × Int) × (Nat → Prop))) (fun ⟨s119, A125⟩ => [(0, v_data), (2, .int .i64 m), (14, .int .i64 s119.1)]) (fun ⟨s119, A125⟩ => fun w' => o118 = .fin s119 ∧ Hp B A125 w' (obS (α := Int) 3 v_data data :: cmp_Y :: L) ∧ Tr Dw B A w A125 w') ?_ ?_
   ·refine C_block ?_
    refine C_while ho118 (fun s127 a w' => ∃ i : (Nat → Prop), Has ⟨220, [], none⟩ a ([(0, v_data), (2, .int .i64 m), (4, cmp_v), (14, .int .i64 s127.1), (15, .int .i64 s127.2)]) ∧ Hp B i w' (obS (α := Int) 3 v_data data :: cmp_Y :: L) ∧ Tr Dw B A w i w') (fun a ha => ⟨A, ha.sub ⟨rfl, rfl, rfl, rfl, rfl, trivial⟩, ⟨hH, Tr.refl (Dw := Dw) hA⟩⟩) ?_
    rintro K s127 a w128 ⟨A129, ha178, hH130, hr120⟩ K137
    refine C_of ?_ ha178
    replace hK := Tr.trans (Dw := Dw) hK hr120
    replace hB := Nat.le_trans hB hr120.ex.size
    replace hA := hr120.new
    replace hH : Hp B A129 w128 (obS (α := Int) 3 v_data data :: cmp_Y :: L) := hH130
    obtain ⟨x131, h132, h133⟩ := K137
    refine C_seq ?_
    refine C_seq ?_
    refine C_region ?_
    refine V_y (Y_move rfl) rfl rfl rfl ?_
    refine V_y (Y_move rfl) rfl rfl rfl ?_
    refine V_y (Y_lss rfl rfl) rfl rfl rfl ?_
    refine V_to (fun _ _ => rfl) ?_
    refine C_cond rfl (fun hc138 => ?_) (fun hc138 => ?_)
    ·rw [if_pos hc138] at h132
     refine C_skip_to (fun _ _ => rfl) ?_
     obtain ⟨s140, ho139, h132⟩ := Option.bind_eq_some_iff.1 h132
     refine C_cutG (ι := (Nat → Prop)) (fun (A145 : (Nat → Prop)) => [(0, v_data), (2, .int .i64 m), (4, cmp_v), (14, .int .i64 s140.1), (15, .int .i64 s140.2)]) (fun (A145 : (Nat → Prop)) => fun w' => Hp B A145 w' (obS (α := Int) 3 v_data data :: cmp_Y :: L) ∧ Tr Dw B A129 w128 A145 w') ?_ ?_
     ·have hr141 : Tr Dw B A129 w128 A129 w128 := Tr.refl (Dw := Dw) hA
      refine C_block ?_
      refine C_seq ?_
      refine C_region ?_
      refine V_y (Y_move rfl) rfl rfl rfl ?_
      refine V_y (Y_move rfl) rfl rfl rfl ?_
      refine V_y (Y_addI rfl rfl) rfl rfl rfl ?_
      refine V_y (Y_convI Try.underlying3 Try.underlying71 rfl) rfl rfl rfl ?_
      obtain ⟨x147, hx147, ho139⟩ := Option.bind_eq_some_iff.1 ho139
      refine V_y (Y_shr hx147 rfl rfl) rfl rfl rfl ?_
      refine V_y (Y_convI Try.underlying71 Try.underlying3 rfl) rfl rfl rfl ?_
      refine V_y (Y_assign rfl) rfl rfl rfl ?_
      refine V_to (fun _ _ => rfl) ?_
      refine C_seq ?_
      refine C_region_qt (Dw := Dw) 9 Try_mixed (by kernel_rfl) ?_
      simp only [List.take, List.drop]
      refine VQ_y (fun w' hw' => Y_move rfl) rfl rfl rfl ?_
      refine VQ_y (fun w' hw' => Y_move rfl) rfl rfl rfl ?_
      refine VQ_y (fun w' hw' => Y_move rfl) rfl rfl rfl ?_
      obtain ⟨x148, hx148, ho139⟩ := Option.bind_eq_some_iff.1 ho139
      refine VQ_indexAddrH (α := Int) (e := 3) (v := v_data) (l := data) hH (i := 0) rfl hx148 Try.underlying27 Try.sizeOf3 rfl rfl rfl ?_
      intro b149 o150 h151 hl152
      refine VQ_y (fun w' hw' => Y_load (El.int (El.kp (Dw := Dw) h151 hw')) Try.isAgg3 rfl) rfl rfl rfl ?_
      refine VQ_y (fun w' hw' => Y_move rfl) rfl rfl rfl ?_
      refine VQ_y (fun w' hw' => Y_move rfl) rfl rfl rfl ?_
      obtain ⟨x153, hx153, ho139⟩ := Option.bind_eq_some_iff.1 ho139
      refine VQ_indexAddrH (α := Int) (e := 3) (v := v_data) (l := data) hH (i := 0) rfl hx153 Try.underlying27 Try.sizeOf3 rfl rfl rfl ?_
      intro b154 o155 h156 hl157
      refine VQ_y (fun w' hw' => Y_load (El.int (El.kp (Dw := Dw) h156 hw')) Try.isAgg3 rfl) rfl rfl rfl ?_
      refine VQ_tail (fun w158 hk159 => ?_)
      try simp only [List.take, List.drop]
      have ht160 := Kp.tr (Dw := Dw) hk159 hA hB
      replace hH := Hp.kp (Dw := Dw) hH hk159
      replace hK := Tr.trans (Dw := Dw) hK ht160
      replace hr141 := Tr.trans (Dw := Dw) hr141 ht160
      replace hB := Nat.le_trans hB ht160.ex.size
      replace hA := ht160.new
      obtain ⟨x161, hx161, ho139⟩ := Option.bind_eq_some_iff.1 ho139
      replace hH : Hp B A129 w158 (cmp_Y :: obS (α := Int) 3 v_data data :: L) := Hp.front hH (i := 1) rfl
      refine V_callV rfl rfl rfl (cmp_spec w158 _ _ (x148, x153) x161 hB hA hK hH hx161) ?_
      rintro _ w162 ⟨rfl, A163, ht165, hH164⟩
      replace hr141 := Tr.trans (Dw := Dw) hr141 ht165
      replace hH : Hp B A163 w162 (cmp_Y :: obS (α := Int) 3 v_data data :: L) := hH164
      refine V_y (Y_lss rfl rfl) rfl rfl rfl ?_
      refine V_y (Y_not rfl) rfl rfl rfl ?_
      refine V_to (fun _ _ => rfl) ?_
      obtain ⟨s167, ho166, ho139⟩ := Option.bind_eq_some_iff.1 ho139
      refine C_cutG (ι := Unit) (fun (_ : Unit) => [(0, v_data), (2, .int .i64 m), (4, cmp_v), (14, .int .i64 s167.1), (15, .int .i64 s167.2)]) (fun (_ : Unit) => fun w' => w162 = w') ?_ ?_
      ·refine C_cond rfl (fun hc172 => ?_) (fun hc172 => ?_)
       ·rw [if_pos hc172] at ho166
        refine C_region ?_
        refine V_y (Y_move rfl) rfl rfl rfl ?_
        refine V_y (Y_addI rfl rfl) rfl rfl rfl ?_
        refine V_y (Y_assign rfl) rfl rfl rfl ?_
        obtain rfl := Option.some.inj ho166
        refine V_end (fun a ha173 => ?_)
        exact ⟨(), ha173.sub ⟨rfl, rfl, rfl, rfl, rfl, trivial⟩, rfl⟩
       ·rw [if_neg (nt hc172)] at ho166
        refine C_region ?_
        refine V_y (Y_move rfl) rfl rfl rfl ?_
        refine V_y (Y_assign rfl) rfl rfl rfl ?_
        obtain rfl := Option.some.inj ho166
        refine V_end (fun a ha174 => ?_)
        exact ⟨(), ha174.sub ⟨rfl, rfl, rfl, rfl, rfl, trivial⟩, rfl⟩
      rintro _ _ rfl a ha171
      obtain rfl := Option.some.inj ho139
      replace hH : Hp B A163 w162 (obS (α := Int) 3 v_data data :: cmp_Y :: L) := Hp.front hH (i := 1) rfl
      exact ⟨A163, ha171.sub ⟨rfl, rfl, rfl, rfl, rfl, trivial⟩, ⟨hH, hr141⟩⟩
     rintro A145 w142 ⟨hH146, hk143⟩ a ha144
     replace hr120 := Tr.trans (Dw := Dw) hr120 hk143
     replace hA := hk143.new
     replace hH : Hp B A145 w142 (obS (α := Int) 3 v_data data :: cmp_Y :: L) := hH146
     obtain rfl := Option.some.inj h132
     exact ⟨(s140.1, s140.2), h133, ⟨A145, ha144.sub ⟨rfl, rfl, rfl, rfl, rfl, trivial⟩, ⟨hH, hr120⟩⟩⟩
    ·rw [if_neg (nt hc138)] at h132
     obtain rfl := Option.some.inj h132
     refine C_exit (fun a ha177 => ?_)
     exact ⟨((s127.1, s127.2), A129), ha177.sub ⟨rfl, rfl, rfl, trivial⟩, ⟨h133.symm, hH, hr120⟩⟩
   rintro ⟨s119, A125⟩ w122 ⟨rfl, hH126, hk123⟩ a ha124
   rw [Lp.andThen_fin] at hm
   replace hK := Tr.trans (Dw := Dw) hK hk123
   replace hB := Nat.le_trans hB hk123.ex.size
   replace hA := hk123.new
   replace hH : Hp B A125 w122 (obS (α := Int) 3 v_data data :: cmp_Y :: L) := hH126
   refine C_at (n := ⟨220, [], none⟩) (fun _ _ => rfl) ?_ ha124
   refine C_seq ?_
   refine C_seq ?_
   refine C_region ?_
   refine V_y (Y_move rfl) rfl rfl rfl ?_
   refine V_y (Y_assign rfl) rfl rfl rfl ?_
   refine V_to (fun _ _ => rfl) ?_
   obtain ⟨o179, ho179, hm⟩ := Option.bind_eq_some_iff.1 hm
   refine C_cutG (ι := ((Int × (List Int)) × (Nat → Prop))) (fun ⟨s180, A186⟩ => []) (fun ⟨s180, A186⟩ => fun w' => o179 = .fin s180 ∧ Hp B A186 w' (obS (α := Int) 3 v_data s180.2 :: cmp_Y :: L) ∧ Tr Dw B A125 w122 A186 w') ?_ ?_
   ·refine C_block ?_
    refine C_while ho179 (fun s188 a w' => ∃ i : (Nat → Prop), Has ⟨220, [], none⟩ a ([(0, v_data), (14, .int .i64 s119.1), (17, .int .i64 s188.1)]) ∧ Hp B i w' (obS (α := Int) 3 v_data s188.2 :: cmp_Y :: L) ∧ Tr Dw B A125 w122 i w') (fun a ha => ⟨A125, ha.sub ⟨rfl, rfl, rfl, trivial⟩, ⟨hH, Tr.refl (Dw := Dw) hA⟩⟩) ?_
    rintro K s188 a w189 ⟨A190, ha232, hH191, hr181⟩ K198
    refine C_of ?_ ha232
    replace hB := Nat.le_trans hB hr181.ex.size
    replace hA := hr181.new
    replace hH : Hp B A190 w189 (obS (α := Int) 3 v_data s188.2 :: cmp_Y :: L) := hH191
    obtain ⟨x192, h193, h194⟩ := K198
    refine C_seq ?_
    refine C_seq ?_
    refine C_region ?_
    refine V_y (Y_move rfl) rfl rfl rfl ?_
    refine V_y (Y_move rfl) rfl rfl rfl ?_
    refine V_y (Y_gtr rfl rfl) rfl rfl rfl ?_
    refine V_to (fun _ _ => rfl) ?_
    refine C_cond rfl (fun hc199 => ?_) (fun hc199 => ?_)
    ·rw [if_pos hc199] at h193
     refine C_skip_to (fun _ _ => rfl) ?_
     refine C_seq ?_
     refine C_block ?_
     refine C_region_ch (Dw := Dw) A190 18 [(1, 0), (1, 1), (1, 2), (1, 3), (1, 4), (1, 5), (1, 6), (1, 7), (0, 8), (0, 9), (1, 10), (1, 11), (0, 12), (0, 13), (0, 14), (3, 15), (0, 16), (4, 17)] Try_mixed (by kernel_rfl) (fun w200 hk201 => ?_)
     have ht202 := Kp.tr (Dw := Dw) hk201 hA hB
     replace hH := Hp.kp (Dw := Dw) hH hk201
     replace hr181 := Tr.trans (Dw := Dw) hr181 ht202
     replace hB := Nat.le_trans hB ht202.ex.size
     replace hA := ht202.new
     refine CH_q2 (Dw := Dw) rfl ?_
     refine VQ_y (fun w' hw' => Y_move rfl) rfl rfl rfl ?_
     refine VQ_CH (Dw := Dw) ?_
     refine CH_q2 (Dw := Dw) rfl ?_
     refine VQ_y (fun w' hw' => Y_move rfl) rfl rfl rfl ?_
     refine VQ_CH (Dw := Dw) ?_
     refine CH_q2 (Dw := Dw) rfl ?_
     refine VQ_y (fun w' hw' => Y_move rfl) rfl rfl rfl ?_
     refine VQ_CH (Dw := Dw) ?_
     refine CH_q2 (Dw := Dw) rfl ?_
     refine VQ_y (fun w' hw' => Y_move rfl) rfl rfl rfl ?_
     refine VQ_CH (Dw := Dw) ?_
     refine CH_q2 (Dw := Dw) rfl ?_
     refine VQ_y (fun w' hw' => Y_subI rfl rfl) rfl rfl rfl ?_
     refine VQ_CH (Dw := Dw) ?_
     refine CH_q2 (Dw := Dw) rfl ?_
     refine VQ_y (fun w' hw' => Y_move rfl) rfl rfl rfl ?_
     refine VQ_CH (Dw := Dw) ?_
     refine CH_q2 (Dw := Dw) rfl ?_
     refine VQ_y (fun w' hw' => Y_move rfl) rfl rfl rfl ?_
     refine VQ_CH (Dw := Dw) ?_
     refine CH_q2 (Dw := Dw) rfl ?_
     refine VQ_y (fun w' hw' => Y_subI rfl rfl) rfl rfl rfl ?_
     refine VQ_CH (Dw := Dw) ?_
     refine CH_q1 (Dw := Dw) rfl ?_
     obtain ⟨x203, hx203, h193⟩ := Option.bind_eq_some_iff.1 h193
     refine VQ_indexAddrH (α := Int) (e := 3) (v := v_data) (l := s188.2) hH (i := 0) rfl hx203 Try.underlying27 Try.sizeOf3 rfl rfl rfl ?_
     intro b204 o205 h206 hl207
     refine VQ_CH (Dw := Dw) ?_
     refine CH_q1 (Dw := Dw) rfl ?_
     refine VQ_y (fun w' hw' => Y_load (El.int (El.kp (Dw := Dw) h206 hw')) Try.isAgg3 rfl) rfl rfl rfl ?_
     refine VQ_CH (Dw := Dw) ?_
     refine CH_q2 (Dw := Dw) rfl ?_
     refine VQ_y (fun w' hw' => Y_move rfl) rfl rfl rfl ?_
     refine VQ_CH (Dw := Dw) ?_
     refine CH_q2 (Dw := Dw) rfl ?_
     refine VQ_y (fun w' hw' => Y_move rfl) rfl rfl rfl ?_
     refine VQ_CH (Dw := Dw) ?_
     refine CH_q1 (Dw := Dw) rfl ?_
     obtain ⟨x208, hx208, h193⟩ := Option.bind_eq_some_iff.1 h193
     refine VQ_indexAddrH (α := Int) (e := 3) (v := v_data) (l := s188.2) hH (i := 0) rfl hx208 Try.underlying27 Try.sizeOf3 rfl rfl rfl ?_
     intro b209 o210 h211 hl212
     refine VQ_CH (Dw := Dw) ?_
     refine CH_q1 (Dw := Dw) rfl ?_
     refine VQ_y (fun w' hw' => Y_load (El.int (El.kp (Dw := Dw) h211 hw')) Try.isAgg3 rfl) rfl rfl rfl ?_
     refine VQ_CH (Dw := Dw) ?_
     refine CH_q1 (Dw := Dw) rfl ?_
     refine VQ_indexAddrH (α := Int) (e := 3) (v := v_data) (l := s188.2) hH (i := 0) rfl hx208 Try.underlying27 Try.sizeOf3 rfl rfl rfl ?_
     intro b213 o214 h215 hl216
     refine VQ_CH (Dw := Dw) ?_
     refine CH_l1 (Dw := Dw) (k := 1) rfl ?_
     obtain ⟨x217, hx217, h193⟩ := Option.bind_eq_some_iff.1 h193
     refine V_storeH (Dw := Dw) (α := Int) (e := 3) (v := v_data) (l := s188.2) hH (i := 0) rfl hl216 hx217 rfl Try.sizeOf3 rfl hB hA rfl rfl ?_
     intro w218 hH219 ht220
     replace hr181 := Tr.trans (Dw := Dw) hr181 ht220
     replace hB := Nat.le_trans hB ht220.ex.size
     replace hA := ht220.new
     replace hH : Hp B A190 w218 (obS (α := Int) 3 v_data x217 :: cmp_Y :: L) := hH219
     refine V_CHx (Dw := Dw) (XA.tr (Dw := Dw) ht220) ?_
     refine CH_q1 (Dw := Dw) rfl ?_
     obtain ⟨x221, hx221, h193⟩ := Option.bind_eq_some_iff.1 h193
     refine VQ_indexAddrH (α := Int) (e := 3) (v := v_data) (l := x217) hH (i := 0) rfl hx221 Try.underlying27 Try.sizeOf3 rfl rfl rfl ?_
     intro b222 o223 h224 hl225
     refine VQ_CH (Dw := Dw) ?_
     refine CH_l1 (Dw := Dw) (k := 2) rfl ?_
     obtain ⟨x226, hx226, h193⟩ := Option.bind_eq_some_iff.1 h193
     refine V_storeH (Dw := Dw) (α := Int) (e := 3) (v := v_data) (l := x217) hH (i := 0) rfl hl225 hx226 rfl Try.sizeOf3 rfl hB hA rfl rfl ?_
     intro w227 hH228 ht229
     replace hr181 := Tr.trans (Dw := Dw) hr181 ht229
     replace hH : Hp B A190 w227 (obS (α := Int) 3 v_data x226 :: cmp_Y :: L) := hH228
     refine V_CHw (Dw := Dw) ?_
     refine CH_tail (Dw := Dw) ?_
     show V _ _ _ _ [] _ _
     refine V_to (fun _ _ => rfl) ?_
     refine C_region ?_
     refine V_y (Y_move rfl) rfl rfl rfl ?_
     refine V_y (Y_subI rfl rfl) rfl rfl rfl ?_
     refine V_y (Y_assign rfl) rfl rfl rfl ?_
     obtain rfl := Option.some.inj h193
     refine V_end (fun a ha230 => ?_)
     exact ⟨(w64 (s188.1 - 1), x226), h194, ⟨A190, ha230.sub ⟨rfl, rfl, rfl, trivial⟩, ⟨hH, hr181⟩⟩⟩
    ·rw [if_neg (nt hc199)] at h193
     obtain rfl := Option.some.inj h193
     refine C_exit (fun a ha231 => ?_)
     exact ⟨((s188.1, s188.2), A190), ha231.sub trivial, ⟨h194.symm, hH, hr181⟩⟩
   rintro ⟨s180, A186⟩ w183 ⟨rfl, hH187, hk184⟩ a ha185
   rw [Lp.andThen_fin] at hm
   replace hK := Tr.trans (Dw := Dw) hK hk184
   replace hA := hk184.new
   replace hH : Hp B A186 w183 (obS (α := Int) 3 v_data s180.2 :: cmp_Y :: L) := hH187
   refine C_at (n := ⟨220, [], none⟩) (fun _ _ => rfl) ?_ ha185
   obtain rfl := Option.some.inj hm
   refine C_ret ?_
   try simp only [↓inBlock_ret, ↓then_ret]
   exact retQ rfl (Res.zero Try.results64) ⟨A186, rfl, hH, hK⟩
  ·rw [if_neg (nt hc117)] at hm
   refine C_skip_to (fun _ _ => rfl) ?_
   refine C_seq ?_
   refine C_region ?_
   refine V_y (Y_move rfl) rfl rfl rfl ?_
   refine V_y (Y_move rfl) rfl rfl rfl ?_
   refine V_y (Y_addI rfl rfl) rfl rfl rfl ?_
   refine V_y (Y_convI Try.underlying3 Try.underlying71 rfl) rfl rfl rfl ?_
   obtain ⟨x233, hx233, hm⟩ := Option.bind_eq_some_iff.1 hm
   refine V_y (Y_shr hx233 rfl rfl) rfl rfl rfl ?_
   refine V_y (Y_convI Try.underlying71 Try.underlying3 rfl) rfl rfl rfl ?_
   refine V_y (Y_assign rfl) rfl rfl rfl ?_
   refine V_to (fun _ _ => rfl) ?_
   refine C_seq ?_
   refine C_region ?_
   refine V_y (Y_move rfl) rfl rfl rfl ?_
   refine V_y (Y_move rfl) rfl rfl rfl ?_
   refine V_y (Y_addI rfl rfl) rfl rfl rfl ?_
   refine V_y (Y_assign rfl) rfl rfl rfl ?_
   refine V_to (fun _ _ => rfl) ?_
   refine C_seq ?_
   refine C_region ?_
   refine V_y (Y_assign rfl) rfl rfl rfl ?_
   refine V_y (Y_assign rfl) rfl rfl rfl ?_
   refine V_to (fun _ _ => rfl) ?_
   refine C_seq ?_
   refine C_seq ?_
   refine C_region ?_
   refine V_y (Y_move rfl) rfl rfl rfl ?_
   refine V_y (Y_move rfl) rfl rfl rfl ?_
   refine V_y (Y_gtr rfl rfl) rfl rfl rfl ?_
   refine V_to (fun _ _ => rfl) ?_
   obtain ⟨s235, ho234, hm⟩ := Option.bind_eq_some_iff.1 hm
   refine C_cutG (ι := Unit) (fun (_ : Unit) => [(0, v_data), (1, .int .i64 a_), (2, .int .i64 m), (3, .int .i64 b), (4, cmp_v), (18, .int .i64 (IntKind.wrap .i64 x233)), (19, .int .i64 (w64 ((IntKind.wrap .i64 x233) + m))), (20, .int .i64 s235.1), (21, .int .i64 s235.2)]) (fun (_ : Unit) => fun w' => w = w') ?_ ?_
   ·refine C_cond rfl (fun hc240 => ?_) (fun hc240 => ?_)
    ·rw [if_pos hc240] at ho234
     refine C_seq ?_
     refine C_region ?_
     refine V_y (Y_move rfl) rfl rfl rfl ?_
     refine V_y (Y_move rfl) rfl rfl rfl ?_
     refine V_y (Y_subI rfl rfl) rfl rfl rfl ?_
     refine V_y (Y_assign rfl) rfl rfl rfl ?_
     refine V_to (fun _ _ => rfl) ?_
     refine C_region ?_
     refine V_y (Y_move rfl) rfl rfl rfl ?_
     refine V_y (Y_assign rfl) rfl rfl rfl ?_
     obtain rfl := Option.some.inj ho234
     refine V_end (fun a ha241 => ?_)
     exact ⟨(), ha241.sub ⟨rfl, rfl, rfl, rfl, rfl, rfl, rfl, rfl, rfl, trivial⟩, rfl⟩
    ·rw [if_neg (nt hc240)] at ho234
     refine C_seq ?_
     refine C_region ?_
     refine V_y (Y_move rfl) rfl rfl rfl ?_
     refine V_y (Y_assign rfl) rfl rfl rfl ?_
     refine V_to (fun _ _ => rfl) ?_
     refine C_region ?_
     refine V_y (Y_move rfl) rfl rfl rfl ?_
     refine V_y (Y_assign rfl) rfl rfl rfl ?_
     obtain rfl := Option.some.inj ho234
     refine V_end (fun a ha242 => ?_)
     exact ⟨(), ha242.sub ⟨rfl, rfl, rfl, rfl, rfl, rfl, rfl, rfl, rfl, trivial⟩, rfl⟩
   rintro _ _ rfl a ha239
   refine C_at (n := ⟨220, [], none⟩) (fun _ _ => rfl) ?_ ha239
   refine C_seq ?_
   refine C_region ?_
   refine V_y (Y_move rfl) rfl rfl rfl ?_
   refine V_y (Y_subI rfl rfl) rfl rfl rfl ?_
   refine V_y (Y_assign rfl) rfl rfl rfl ?_
   refine V_to (fun _ _ => rfl) ?_
   refine C_seq ?_
   obtain ⟨o243, ho243, hm⟩ := Option.bind_eq_some_iff.1 hm
   refine C_cutG (ι := ((Int × Int) × (Nat → Prop))) (fun ⟨s244, A250⟩ => [(0, v_data), (1, .int .i64 a_), (2, .int .i64 m), (3, .int .i64 b), (4, cmp_v), (18, .int .i64 (IntKind.wrap .i64 x233)), (19, .int .i64 (w64 ((IntKind.wrap .i64 x233) + m))), (20, .int .i64 s244.1)]) (fun ⟨s244, A250⟩ => fun w' => o243 = .fin s244 ∧ Hp B A250 w' (obS (α := Int) 3 v_data data :: cmp_Y :: L) ∧ Tr Dw B A w A250 w') ?_ ?_
   ·refine C_block ?_
    refine C_while ho243 (fun s252 a w' => ∃ i : (Nat → Prop), Has ⟨220, [], none⟩ a ([(0, v_data), (1, .int .i64 a_), (2, .int .i64 m), (3, .int .i64 b), (4, cmp_v), (18, .int .i64 (IntKind.wrap .i64 x233)), (19, .int .i64 (w64 ((IntKind.wrap .i64 x233) + m))), (20, .int .i64 s252.1), (21, .int .i64 s252.2), (22, .int .i64 (w64 ((w64 ((IntKind.wrap .i64 x233) + m)) - 1)))]) ∧ Hp B i w' (obS (α := Int) 3 v_data data :: cmp_Y :: L) ∧ Tr Dw B A w i w') (fun a ha => ⟨A, ha.sub ⟨rfl, rfl, rfl, rfl, rfl, rfl, rfl, rfl, rfl, rfl, trivial⟩, ⟨hH, Tr.refl (Dw := Dw) hA⟩⟩) ?_
    rintro K s252 a w253 ⟨A254, ha303, hH255, hr245⟩ K262
    refine C_of ?_ ha303
    replace hK := Tr.trans (Dw := Dw) hK hr245
    replace hB := Nat.le_trans hB hr245.ex.size
    replace hA := hr245.new
    replace hH : Hp B A254 w253 (obS (α := Int) 3 v_data data :: cmp_Y :: L) := hH255
    obtain ⟨x256, h257, h258⟩ := K262
    refine C_seq ?_
    refine C_seq ?_
    refine C_region ?_
    refine V_y (Y_move rfl) rfl rfl rfl ?_
    refine V_y (Y_move rfl) rfl rfl rfl ?_
    refine V_y (Y_lss rfl rfl) rfl rfl rfl ?_
    refine V_to (fun _ _ => rfl) ?_
    refine C_cond rfl (fun hc263 => ?_) (fun hc263 => ?_)
    ·rw [if_pos hc263] at h257
     refine C_skip_to (fun _ _ => rfl) ?_
     obtain ⟨s265, ho264, h257⟩ := Option.bind_eq_some_iff.1 h257
     refine C_cutG (ι := (Nat → Prop)) (fun (A270 : (Nat → Prop)) => [(0, v_data), (1, .int .i64 a_), (2, .int .i64 m), (3, .int .i64 b), (4, cmp_v), (18, .int .i64 (IntKind.wrap .i64 x233)), (19, .int .i64 (w64 ((IntKind.wrap .i64 x233) + m))), (20, .int .i64 s265.1), (21, .int .i64 s265.2), (22, .int .i64 (w64 ((w64 ((IntKind.wrap .i64 x233) + m)) - 1)))]) (fun (A270 : (Nat → Prop)) => fun w' => Hp B A270 w' (obS (α := Int) 3 v_data data :: cmp_Y :: L) ∧ Tr Dw B A254 w253 A270 w') ?_ ?_
     ·have hr266 : Tr Dw B A254 w253 A254 w253 := Tr.refl (Dw := Dw) hA
      refine C_block ?_
      refine C_seq ?_
      refine C_region ?_
      refine V_y (Y_move rfl) rfl rfl rfl ?_
      refine V_y (Y_move rfl) rfl rfl rfl ?_
      refine V_y (Y_addI rfl rfl) rfl rfl rfl ?_
      refine V_y (Y_convI Try.underlying3 Try.underlying71 rfl) rfl rfl rfl ?_
      obtain ⟨x272, hx272, ho264⟩ := Option.bind_eq_some_iff.1 ho264
      refine V_y (Y_shr hx272 rfl rfl) rfl rfl rfl ?_
      refine V_y (Y_convI Try.underlying71 Try.underlying3 rfl) rfl rfl rfl ?_
      refine V_y (Y_assign rfl) rfl rfl rfl ?_
      refine V_to (fun _ _ => rfl) ?_
      refine C_seq ?_
      refine C_region_qt (Dw := Dw) 11 Try_mixed (by kernel_rfl) ?_
      simp only [List.take, List.drop]
      refine VQ_y (fun w' hw' => Y_move rfl) rfl rfl rfl ?_
      refine VQ_y (fun w' hw' => Y_move rfl) rfl rfl rfl ?_
      refine VQ_y (fun w' hw' => Y_move rfl) rfl rfl rfl ?_
      refine VQ_y (fun w' hw' => Y_move rfl) rfl rfl rfl ?_
      refine VQ_y (fun w' hw' => Y_subI rfl rfl) rfl rfl rfl ?_
      obtain ⟨x273, hx273, ho264⟩ := Option.bind_eq_some_iff.1 ho264
      refine VQ_indexAddrH (α := Int) (e := 3) (v := v_data) (l := data) hH (i := 0) rfl hx273 Try.underlying27 Try.sizeOf3 rfl rfl rfl ?_
      intro b274 o275 h276 hl277
      refine VQ_y (fun w' hw' => Y_load (El.int (El.kp (Dw := Dw) h276 hw')) Try.isAgg3 rfl) rfl rfl rfl ?_
      refine VQ_y (fun w' hw' => Y_move rfl) rfl rfl rfl ?_
      refine VQ_y (fun w' hw' => Y_move rfl) rfl rfl rfl ?_
      obtain ⟨x278, hx278, ho264⟩ := Option.bind_eq_some_iff.1 ho264
      refine VQ_indexAddrH (α := Int) (e := 3) (v := v_data) (l := data) hH (i := 0) rfl hx278 Try.underlying27 Try.sizeOf3 rfl rfl rfl ?_
      intro b279 o280 h281 hl282
      refine VQ_y (fun w' hw' => Y_load (El.int (El.kp (Dw := Dw) h281 hw')) Try.isAgg3 rfl) rfl rfl rfl ?_
      refine VQ_tail (fun w283 hk284 => ?_)
      try simp only [List.take, List.drop]
      have ht285 := Kp.tr (Dw := Dw) hk284 hA hB
      replace hH := Hp.kp (Dw := Dw) hH hk284
      replace hK := Tr.trans (Dw := Dw) hK ht285
      replace hr266 := Tr.trans (Dw := Dw) hr266 ht285
      replace hB := Nat.le_trans hB ht285.ex.size
      replace hA := ht285.new
      obtain ⟨x286, hx286, ho264⟩ := Option.bind_eq_some_iff.1 ho264
      replace hH : Hp B A254 w283 (cmp_Y :: obS (α := Int) 3 v_data data :: L) := Hp.front hH (i := 1) rfl
      refine V_callV rfl rfl rfl (cmp_spec w283 _ _ (x273, x278) x286 hB hA hK hH hx286) ?_
      rintro _ w287 ⟨rfl, A288, ht290, hH289⟩
      replace hr266 := Tr.trans (Dw := Dw) hr266 ht290
      replace hH : Hp B A288 w287 (cmp_Y :: obS (α := Int) 3 v_data data :: L) := hH289
      refine V_y (Y_lss rfl rfl) rfl rfl rfl ?_
      refine V_y (Y_not rfl) rfl rfl rfl ?_
      refine V_to (fun _ _ => rfl) ?_
      obtain ⟨s292, ho291, ho264⟩ := Option.bind_eq_some_iff.1 ho264
      refine C_cutG (ι := Unit) (fun (_ : Unit) => [(0, v_data), (1, .int .i64 a_), (2, .int .i64 m), (3, .int .i64 b), (4, cmp_v), (18, .int .i64 (IntKind.wrap .i64 x233)), (19, .int .i64 (w64 ((IntKind.wrap .i64 x233) + m))), (20, .int .i64 s292.1), (21, .int .i64 s292.2), (22, .int .i64 (w64 ((w64 ((IntKind.wrap .i64 x233) + m)) - 1)))]) (fun (_ : Unit) => fun w' => w287 = w') ?_ ?_
      ·refine C_cond rfl (fun hc297 => ?_) (fun hc297 => ?_)
       ·rw [if_pos hc297] at ho291
        refine C_region ?_
        refine V_y (Y_move rfl) rfl rfl rfl ?_
        refine V_y (Y_addI rfl rfl) rfl rfl rfl ?_
        refine V_y (Y_assign rfl) rfl rfl rfl ?_
        obtain rfl := Option.some.inj ho291
        refine V_end (fun a ha298 => ?_)
        exact ⟨(), ha298.sub ⟨rfl, rfl, rfl, rfl, rfl, rfl, rfl, rfl, rfl, rfl, trivial⟩, rfl⟩
       ·rw [if_neg (nt hc297)] at ho291
        refine C_region ?_
        refine V_y (Y_move rfl) rfl rfl rfl ?_
        refine V_y (Y_assign rfl) rfl rfl rfl ?_
        obtain rfl := Option.some.inj ho291
        refine V_end (fun a ha299 => ?_)
        exact ⟨(), ha299.sub ⟨rfl, rfl, rfl, rfl, rfl, rfl, rfl, rfl, rfl, rfl, trivial⟩, rfl⟩
      rintro _ _ rfl a ha296
      obtain rfl := Option.some.inj ho264
      replace hH : Hp B A288 w287 (obS (α := Int) 3 v_data data :: cmp_Y :: L) := Hp.front hH (i := 1) rfl
      exact ⟨A288, ha296.sub ⟨rfl, rfl, rfl, rfl, rfl, rfl, rfl, rfl, rfl, rfl, trivial⟩, ⟨hH, hr266⟩⟩
     rintro A270 w267 ⟨hH271, hk268⟩ a ha269
     replace hr245 := Tr.trans (Dw := Dw) hr245 hk268
     replace hA := hk268.new
     replace hH : Hp B A270 w267 (obS (α := Int) 3 v_data data :: cmp_Y :: L) := hH271
     obtain rfl := Option.some.inj h257
     exact ⟨(s265.1, s265.2), h258, ⟨A270, ha269.sub ⟨rfl, rfl, rfl, rfl, rfl, rfl, rfl, rfl, rfl, rfl, trivial⟩, ⟨hH, hr245⟩⟩⟩
    ·rw [if_neg (nt hc263)] at h257
     obtain rfl := Option.some.inj h257
     refine C_exit (fun a ha302 => ?_)
     exact ⟨((s252.1, s252.2), A254), ha302.sub ⟨rfl, rfl, rfl, rfl, rfl, rfl, rfl, rfl, trivial⟩, ⟨h258.symm, hH, hr245⟩⟩
   rintro ⟨s244, A250⟩ w247 ⟨rfl, hH251, hk248⟩ a ha249
   rw [Lp.andThen_fin] at hm
   replace hK := Tr.trans (Dw := Dw) hK hk248
   replace hB := Nat.le_trans hB hk248.ex.size
   replace hA := hk248.new
   replace hH : Hp B A250 w247 (obS (α := Int) 3 v_data data :: cmp_Y :: L) := hH251
   refine C_at (n := ⟨220, [], none⟩) (fun _ _ => rfl) ?_ ha249
   refine C_seq ?_
   refine C_region ?_
   refine V_y (Y_move rfl) rfl rfl rfl ?_
   refine V_y (Y_move rfl) rfl rfl rfl ?_
   refine V_y (Y_subI rfl rfl) rfl rfl rfl ?_
   refine V_y (Y_assign rfl) rfl rfl rfl ?_
   refine V_to (fun _ _ => rfl) ?_
   refine C_seq ?_
   refine C_seq ?_
   refine C_region ?_
   refine V_y (Y_move rfl) rfl rfl rfl ?_
   refine V_y (Y_move rfl) rfl rfl rfl ?_
   refine V_y (Y_lss rfl rfl) rfl rfl rfl ?_
   refine V_y (Y_move rfl) rfl rfl rfl ?_
   refine V_cut 4 (fun _ : Unit => [(0, v_data), (1, .int .i64 a_), (2, .int .i64 m), (3, .int .i64 b), (4, cmp_v), (18, .int .i64 (IntKind.wrap .i64 x233)), (20, .int .i64 s244.1), (24, .int .i64 (w64 ((w64 ((IntKind.wrap .i64 x233) + m)) - s244.1))), (185, .bool ((decide (s244.1 < m)) && (decide (m < (w64 ((w64 ((IntKind.wrap .i64 x233) + m)) - s244.1))))))]) (fun _ w' => w247 = w') ?_ ?_
   ·simp only [List.take, List.drop]
    rcases Bool.eq_false_or_eq_true (decide (s244.1 < m)) with hc304 | hc304
    ·refine V_ge rfl rfl rfl hc304 ?_
     refine V_y (Y_move rfl) rfl rfl rfl ?_
     refine V_ge rfl rfl rfl hc304 ?_
     refine V_y (Y_move rfl) rfl rfl rfl ?_
     refine V_ge rfl rfl rfl hc304 ?_
     refine V_y (Y_lss rfl rfl) rfl rfl rfl ?_
     refine V_y (Y_pick_te rfl hc304 rfl) rfl rfl rfl ?_
     exact V_end fun a ha => ⟨(), ha.sub ⟨rfl, rfl, rfl, rfl, rfl, rfl, rfl, rfl, (by rw [hc304]; rfl), trivial⟩, rfl⟩
    ·refine V_gn rfl rfl rfl hc304 rfl rfl rfl ?_
     refine V_gn rfl rfl rfl hc304 rfl rfl rfl ?_
     refine V_gn rfl rfl rfl hc304 rfl rfl rfl ?_
     refine V_y (Y_pick_fe rfl hc304 rfl) rfl rfl rfl ?_
     exact V_end fun a ha => ⟨(), ha.sub ⟨rfl, rfl, rfl, rfl, rfl, rfl, rfl, rfl, (by rw [hc304]; rfl), trivial⟩, rfl⟩
   simp only [List.take, List.drop]
   rintro _ _ rfl
   refine V_to (fun _ _ => rfl) ?_
   obtain ⟨s307, ho306, hm⟩ := Option.bind_eq_some_iff.1 hm
   refine C_cutG (ι := (Nat → Prop)) (fun (A312 : (Nat → Prop)) => [(0, v_data), (1, .int .i64 a_), (3, .int .i64 b), (4, cmp_v), (18, .int .i64 (IntKind.wrap .i64 x233)), (20, .int .i64 s244.1), (24, .int .i64 (w64 ((w64 ((IntKind.wrap .i64 x233) + m)) - s244.1)))]) (fun (A312 : (Nat → Prop)) => fun w' => Hp B A312 w' (obS (α := Int) 3 v_data s307 :: cmp_Y :: L) ∧ Tr Dw B A250 w247 A312 w') ?_ ?_
   ·have hr308 : Tr Dw B A250 w247 A250 w247 := Tr.refl (Dw := Dw) hA
    refine C_cond rfl (fun hc314 => ?_) (fun hc314 => ?_)
    ·rw [if_pos hc314] at ho306
     refine C_region ?_
     refine V_y (Y_move rfl) rfl rfl rfl ?_
     refine V_y (Y_move rfl) rfl rfl rfl ?_
     refine V_y (Y_move rfl) rfl rfl rfl ?_
     refine V_y (Y_move rfl) rfl rfl rfl ?_
     refine V_y (Y_move rfl) rfl rfl rfl ?_
     replace hH : Hp B A250 w247 (cmp_Y :: obS (α := Int) 3 v_data data :: L) := Hp.front hH (i := 1) rfl
     replace hH : Hp B A250 w247 (obS (α := Int) 3 v_data data :: cmp_Y :: L) := Hp.front hH (i := 1) rfl
     obtain ⟨x315, hx315, ho306⟩ := Option.bind_eq_some_iff.1 ho306
     refine V_call Try.call79 rfl rfl rfl rfl (slices_rotateCmpFunc_int_c (Dw := Dw) w247 hB hA data v_data s244.1 m (w64 ((w64 ((IntKind.wrap .i64 x233) + m)) - s244.1)) cmp cmp_Y cmp_v cmp_one (fun w2 A2 L2 x2 r2 h1 h2 h3 => cmp_spec w2 A2 L2 x2 r2 h1 h2 (Tr.trans (Dw := Dw) hK h3)) hH hx315) ?_
     rintro _ w316 ⟨A317, rfl, hH318, ht319⟩
     replace hr308 := Tr.trans (Dw := Dw) hr308 ht319
     replace hH : Hp B A317 w316 (obS (α := Int) 3 v_data x315 :: cmp_Y :: L) := hH318
     obtain rfl := Option.some.inj ho306
     refine V_end (fun a ha320 => ?_)
     exact ⟨A317, ha320.sub ⟨rfl, rfl, rfl, rfl, rfl, rfl, rfl, trivial⟩, ⟨hH, hr308⟩⟩
    ·rw [if_neg (nt hc314)] at ho306
     obtain rfl := Option.some.inj ho306
     refine C_skip (fun a ha321 => ?_)
     exact ⟨A250, ha321.sub ⟨rfl, rfl, rfl, rfl, rfl, rfl, rfl, trivial⟩, ⟨hH, hr308⟩⟩
   rintro A312 w309 ⟨hH313, hk310⟩ a ha311
   replace hK := Tr.trans (Dw := Dw) hK hk310
   replace hB := Nat.le_trans hB hk310.ex.size
   replace hA := hk310.new
   replace hH : Hp B A312 w309 (obS (α := Int) 3 v_data s307 :: cmp_Y :: L) := hH313
   refine C_at (n := ⟨220, [], none⟩) (fun _ _ => rfl) ?_ ha311
   refine C_seq ?_
   refine C_seq ?_
   refine C_region ?_
   refine V_y (Y_move rfl) rfl rfl rfl ?_
   refine V_y (Y_move rfl) rfl rfl rfl ?_
   refine V_y (Y_lss rfl rfl) rfl rfl rfl ?_
   refine V_y (Y_move rfl) rfl rfl rfl ?_
   refine V_cut 4 (fun _ : Unit => [(0, v_data), (1, .int .i64 a_), (3, .int .i64 b), (4, cmp_v), (18, .int .i64 (IntKind.wrap .i64 x233)), (20, .int .i64 s244.1), (24, .int .i64 (w64 ((w64 ((IntKind.wrap .i64 x233) + m)) - s244.1))), (199, .bool ((decide (a_ < s244.1)) && (decide (s244.1 < (IntKind.wrap .i64 x233)))))]) (fun _ w' => w309 = w') ?_ ?_
   ·simp only [List.take, List.drop]
    rcases Bool.eq_false_or_eq_true (decide (a_ < s244.1)) with hc322 | hc322
    ·refine V_ge rfl rfl rfl hc322 ?_
     refine V_y (Y_move rfl) rfl rfl rfl ?_
     refine V_ge rfl rfl rfl hc322 ?_
     refine V_y (Y_move rfl) rfl rfl rfl ?_
     refine V_ge rfl rfl rfl hc322 ?_
     refine V_y (Y_lss rfl rfl) rfl rfl rfl ?_
     refine V_y (Y_pick_te rfl hc322 rfl) rfl rfl rfl ?_
     exact V_end fun a ha => ⟨(), ha.sub ⟨rfl, rfl, rfl, rfl, rfl, rfl, rfl, (by rw [hc322]; rfl), trivial⟩, rfl⟩
    ·refine V_gn rfl rfl rfl hc322 rfl rfl rfl ?_
     refine V_gn rfl rfl rfl hc322 rfl rfl rfl ?_
     refine V_gn rfl rfl rfl hc322 rfl rfl rfl ?_
     refine V_y (Y_pick_fe rfl hc322 rfl) rfl rfl rfl ?_
     exact V_end fun a ha => ⟨(), ha.sub ⟨rfl, rfl, rfl, rfl, rfl, rfl, rfl, (by rw [hc322]; rfl), trivial⟩, rfl⟩
   simp only [List.take, List.drop]
   rintro _ _ rfl
   refine V_to (fun _ _ => rfl) ?_
   obtain ⟨s325, ho324, hm⟩ := Option.bind_eq_some_iff.1 hm
   refine C_cutG (ι := (Nat → Prop)) (fun (A330 : (Nat → Prop)) => [(0, v_data), (3, .int .i64 b), (4, cmp_v), (18, .int .i64 (IntKind.wrap .i64 x233)), (24, .int .i64 (w64 ((w64 ((IntKind.wrap .i64 x233) + m)) - s244.1)))]) (fun (A330 : (Nat → Prop)) => fun w' => Hp B A330 w' (obS (α := Int) 3 v_data s325 :: cmp_Y :: L) ∧ Tr Dw B A312 w309 A330 w') ?_ ?_
   ·have hr326 : Tr Dw B A312 w309 A312 w309 := Tr.refl (Dw := Dw) hA
    refine C_cond rfl (fun hc332 => ?_) (fun hc332 => ?_)
    ·rw [if_pos hc332] at ho324
     refine C_region ?_
     refine V_y (Y_move rfl) rfl rfl rfl ?_
     refine V_y (Y_move rfl) rfl rfl rfl ?_
     refine V_y (Y_move rfl) rfl rfl rfl ?_
     refine V_y (Y_move rfl) rfl rfl rfl ?_
     refine V_y (Y_move rfl) rfl rfl rfl ?_
     replace hH : Hp B A312 w309 (cmp_Y :: obS (α := Int) 3 v_data s307 :: L) := Hp.front hH (i := 1) rfl
     replace hH : Hp B A312 w309 (obS (α := Int) 3 v_data s307 :: cmp_Y :: L) := Hp.front hH (i := 1) rfl
     obtain ⟨x333, hx333, ho324⟩ := Option.bind_eq_some_iff.1 ho324
     refine V_call Try.call64 rfl rfl rfl rfl (REC_c w309 hB hA s307 v_data a_ s244.1 (IntKind.wrap .i64 x233) cmp cmp_Y cmp_v cmp_one (fun w2 A2 L2 x2 r2 h1 h2 h3 => cmp_spec w2 A2 L2 x2 r2 h1 h2 (Tr.trans (Dw := Dw) hK h3)) hH hx333) ?_
     rintro _ w334 ⟨A335, rfl, hH336, ht337⟩
     replace hr326 := Tr.trans (Dw := Dw) hr326 ht337
     replace hH : Hp B A335 w334 (obS (α := Int) 3 v_data x333 :: cmp_Y :: L) := hH336
     obtain rfl := Option.some.inj ho324
     refine V_end (fun a ha338 => ?_)
     exact ⟨A335, ha338.sub ⟨rfl, rfl, rfl, rfl, rfl, trivial⟩, ⟨hH, hr326⟩⟩
    ·rw [if_neg (nt hc332)] at ho324
     obtain rfl := Option.some.inj ho324
     refine C_skip (fun a ha339 => ?_)
     exact ⟨A312, ha339.sub ⟨rfl, rfl, rfl, rfl, rfl, trivial⟩, ⟨hH, hr326⟩⟩
   rintro A330 w327 ⟨hH331, hk328⟩ a ha329
   replace hK := Tr.trans (Dw := Dw) hK hk328
   replace hB := Nat.le_trans hB hk328.ex.size
   replace hA := hk328.new
   replace hH : Hp B A330 w327 (obS (α := Int) 3 v_data s325 :: cmp_Y :: L) := hH331
   refine C_at (n := ⟨220, [], none⟩) (fun _ _ => rfl) ?_ ha329
   refine C_seq ?_
   refine C_region ?_
   refine V_y (Y_move rfl) rfl rfl rfl ?_
   refine V_y (Y_move rfl) rfl rfl rfl ?_
   refine V_y (Y_lss rfl rfl) rfl rfl rfl ?_
   refine V_y (Y_move rfl) rfl rfl rfl ?_
   refine V_cut 4 (fun _ : Unit => [(0, v_data), (3, .int .i64 b), (4, cmp_v), (18, .int .i64 (IntKind.wrap .i64 x233)), (24, .int .i64 (w64 ((w64 ((IntKind.wrap .i64 x233) + m)) - s244.1))), (213, .bool ((decide ((IntKind.wrap .i64 x233) < (w64 ((w64 ((IntKind.wrap .i64 x233) + m)) - s244.1)))) && (decide ((w64 ((w64 ((IntKind.wrap .i64 x233) + m)) - s244.1)) < b))))]) (fun _ w' => w327 = w') ?_ ?_
   ·simp only [List.take, List.drop]
    rcases Bool.eq_false_or_eq_true (decide ((IntKind.wrap .i64 x233) < (w64 ((w64 ((IntKind.wrap .i64 x233) + m)) - s244.1)))) with hc340 | hc340
    ·refine V_ge rfl rfl rfl hc340 ?_
     refine V_y (Y_move rfl) rfl rfl rfl ?_
     refine V_ge rfl rfl rfl hc340 ?_
     refine V_y (Y_move rfl) rfl rfl rfl ?_
     refine V_ge rfl rfl rfl hc340 ?_
     refine V_y (Y_lss rfl rfl) rfl rfl rfl ?_
     refine V_y (Y_pick_te rfl hc340 rfl) rfl rfl rfl ?_
     exact V_end fun a ha => ⟨(), ha.sub ⟨rfl, rfl, rfl, rfl, rfl, (by rw [hc340]; rfl), trivial⟩, rfl⟩
    ·refine V_gn rfl rfl rfl hc340 rfl rfl rfl ?_
     refine V_gn rfl rfl rfl hc340 rfl rfl rfl ?_
     refine V_gn rfl rfl rfl hc340 rfl rfl rfl ?_
     refine V_y (Y_pick_fe rfl hc340 rfl) rfl rfl rfl ?_
     exact V_end fun a ha => ⟨(), ha.sub ⟨rfl, rfl, rfl, rfl, rfl, (by rw [hc340]; rfl), trivial⟩, rfl⟩
   simp only [List.take, List.drop]
   rintro _ _ rfl
   refine V_to (fun _ _ => rfl) ?_
   obtain ⟨s343, ho342, hm⟩ := Option.bind_eq_some_iff.1 hm
   refine C_cutG (ι := (Nat → Prop)) (fun (A348 : (Nat → Prop)) => []) (fun (A348 : (Nat → Prop)) => fun w' => Hp B A348 w' (obS (α := Int) 3 v_data s343 :: cmp_Y :: L) ∧ Tr Dw B A330 w327 A348 w') ?_ ?_
   ·have hr344 : Tr Dw B A330 w327 A330 w327 := Tr.refl (Dw := Dw) hA
    refine C_cond rfl (fun hc350 => ?_) (fun hc350 => ?_)
    ·rw [if_pos hc350] at ho342
     refine C_region ?_
     refine V_y (Y_move rfl) rfl rfl rfl ?_
     refine V_y (Y_move rfl) rfl rfl rfl ?_
     refine V_y (Y_move rfl) rfl rfl rfl ?_
     refine V_y (Y_move rfl) rfl rfl rfl ?_
     refine V_y (Y_move rfl) rfl rfl rfl ?_
     replace hH : Hp B A330 w327 (cmp_Y :: obS (α := Int) 3 v_data s325 :: L) := Hp.front hH (i := 1) rfl
     replace hH : Hp B A330 w327 (obS (α := Int) 3 v_data s325 :: cmp_Y :: L) := Hp.front hH (i := 1) rfl
     obtain ⟨x351, hx351, ho342⟩ := Option.bind_eq_some_iff.1 ho342
     refine V_call Try.call64 rfl rfl rfl rfl (REC_c w327 hB hA s325 v_data (IntKind.wrap .i64 x233) (w64 ((w64 ((IntKind.wrap .i64 x233) + m)) - s244.1)) b cmp cmp_Y cmp_v cmp_one (fun w2 A2 L2 x2 r2 h1 h2 h3 => cmp_spec w2 A2 L2 x2 r2 h1 h2 (Tr.trans (Dw := Dw) hK h3)) hH hx351) ?_
     rintro _ w352 ⟨A353, rfl, hH354, ht355⟩
     replace hr344 := Tr.trans (Dw := Dw) hr344 ht355
     replace hH : Hp B A353 w352 (obS (α := Int) 3 v_data x351 :: cmp_Y :: L) := hH354
     obtain rfl := Option.some.inj ho342
     refine V_end (fun a ha356 => ?_)
     exact ⟨A353, ha356.sub trivial, ⟨hH, hr344⟩⟩
    ·rw [if_neg (nt hc350)] at ho342
     obtain rfl := Option.some.inj ho342
     refine C_skip (fun a ha357 => ?_)
     exact ⟨A330, ha357.sub trivial, ⟨hH, hr344⟩⟩
   rintro A348 w345 ⟨hH349, hk346⟩ a ha347
   replace hK := Tr.trans (Dw := Dw) hK hk346
   replace hA := hk346.new
   replace hH : Hp B A348 w345 (obS (α := Int) 3 v_data s343 :: cmp_Y :: L) := hH349
   obtain rfl := Option.some.inj hm
   try simp only [↓inBlock_ret, ↓then_ret]
   exact normQ (retQ rfl (Res.zero Try.results64) ⟨A348, rfl, hH, hK⟩ a ha347)
theorem slices_symMergeCmpFunc_intN_c (n : Nat) : ∀ (w : World) {A : Nat → Prop} {B : Nat} (hB : B ≤ w.heap.size) (hA : ∀ b, w.heap.size ≤ b → A b) (data : (List Int)) (v_data : Value) (a_ : Int) (m : Int) (b : Int) (cmp : (Int × Int) → Option Int) (cmp_Y : Ob) (cmp_v : Value) (cmp_one : cmp_v.cells.toList = [cmp_v]) (cmp_spec : ∀ (w2 : World) (A2 : Nat → Prop) (L2 : List Ob) (x : (Int × Int)) (b : Int), B ≤ w2.heap.size → (∀ b, w2.heap.size ≤ b → A2 b) → Tr Dw B A w A2 w2 → Hp B A2 w2 (cmp_Y :: L2) → cmp x = some b → CallV Try.prog cmp_v [.int .i64 x.1, .int .i64 x.2] w2 fun v w3 => v = .int .i64 b ∧ ∃ A3, Tr Dw B A2 w2 A3 w3 ∧ Hp B A3 w3 (cmp_Y :: L2)) {L : List Ob} (hH : Hp B A w (obS (α := Int) 3 v_data data :: cmp_Y :: L)) {r : (List Int)} (hm : slices_symMergeCmpFunc_intN n data a_ m b cmp = some r), Ret Try.prog 64 #[v_data, .int .i64 a_, .int .i64 m, .int .i64 b, cmp_v] w fun v w' => ∃ A1 : Nat → Prop, v = .tuple #[] ∧ Hp B A1 w' (obS (α := Int) 3 v_data r :: cmp_Y :: L) ∧ Tr Dw B A w A1 w' := by
 induction n with
 | zero =>
  intros
  rename_i hm
  exact absurd hm (fun h => by cases (show (none : Option (List Int)) = some _ from h))
 | succ n ih => exact slices_symMergeCmpFunc_intF_c (slices_symMergeCmpFunc_intN n) ih
theorem slices_symMergeCmpFunc_int_c (w : World) {A : Nat → Prop} {B : Nat} (hB : B ≤ w.heap.size) (hA : ∀ b, w.heap.size ≤ b → A b) (data : (List Int)) (v_data : Value) (a_ : Int) (m : Int) (b : Int) (cmp : (Int × Int) → Option Int) (cmp_Y : Ob) (cmp_v : Value) (cmp_one : cmp_v.cells.toList = [cmp_v]) (cmp_spec : ∀ (w2 : World) (A2 : Nat → Prop) (L2 : List Ob) (x : (Int × Int)) (b : Int), B ≤ w2.heap.size → (∀ b, w2.heap.size ≤ b → A2 b) → Tr Dw B A w A2 w2 → Hp B A2 w2 (cmp_Y :: L2) → cmp x = some b → CallV Try.prog cmp_v [.int .i64 x.1, .int .i64 x.2] w2 fun v w3 => v = .int .i64 b ∧ ∃ A3, Tr Dw B A2 w2 A3 w3 ∧ Hp B A3 w3 (cmp_Y :: L2)) {L : List Ob} (hH : Hp B A w (obS (α := Int) 3 v_data data :: cmp_Y :: L)) {r : (List Int)} (hm : slices_symMergeCmpFunc_int data a_ m b cmp = some r) : Ret Try.prog 64 #[v_data, .int .i64 a_, .int .i64 m, .int .i64 b, cmp_v] w fun v w' => ∃ A1 : Nat → Prop, v = .tuple #[] ∧ Hp B A1 w' (obS (α := Int) 3 v_data r :: cmp_Y :: L) ∧ Tr Dw B A w A1 w' := slices_symMergeCmpFunc_intN_c _ w hB hA data v_data a_ m b cmp cmp_Y cmp_v cmp_one cmp_spec hH hm
set_option maxRecDepth 4000 in
set_option maxHeartbeats 4000000 in
theorem slices_stableCmpFunc_int_c (w : World) {A : Nat → Prop} {B : Nat} (hB : B ≤ w.heap.size) (hA : ∀ b, w.heap.size ≤ b → A b) (data : (List Int)) (v_data : Value) (n : Int) (cmp : (Int × Int) → Option Int) (cmp_Y : Ob) (cmp_v : Value) (cmp_one : cmp_v.cells.toList = [cmp_v]) (cmp_spec : ∀ (w2 : World) (A2 : Nat → Prop) (L2 : List Ob) (x : (Int × Int)) (b : Int), B ≤ w2.heap.size → (∀ b, w2.heap.size ≤ b → A2 b) → Tr Dw B A w A2 w2 → Hp B A2 w2 (cmp_Y :: L2) → cmp x = some b → CallV Try.prog cmp_v [.int .i64 x.1, .int .i64 x.2] w2 fun v w3 => v = .int .i64 b ∧ ∃ A3, Tr Dw B A2 w2 A3 w3 ∧ Hp B A3 w3 (cmp_Y :: L2)) {L : List Ob} (hH : Hp B A w (obS (α := Int) 3 v_data data :: cmp_Y :: L)) {r : (List Int)} (hm : slices_stableCmpFunc_int data n cmp = some r) : Ret Try.prog 44 #[v_data, .int .i64 n, cmp_v] w fun v w' => ∃ A1 : Nat → Prop, v = .tuple #[] ∧ Hp B A1 w' (obS (α := Int) 3 v_data r :: cmp_Y :: L) ∧ Tr Dw B A w A1 w' := by
 unfold slices_stableCmpFunc_int at hm
 refine enter Try.func44 rfl Try.ntmps44 rfl ?_
 have hK : Tr Dw B A w A w := Tr.refl (Dw := Dw) hA
 refine C_seq ?_
 refine C_region ?_
 refine V_y (Y_assign rfl) rfl rfl rfl ?_
 refine V_to (fun _ _ => rfl) ?_
 refine C_seq ?_
 refine C_region ?_
 refine V_y (Y_move rfl) rfl rfl rfl ?_
 refine V_y (Y_assign rfl) rfl rfl rfl ?_
 refine V_y (Y_assign rfl) rfl rfl rfl ?_
 refine V_to (fun _ _ => rfl) ?_
 refine C_seq ?_
 obtain ⟨o1, ho1, hm⟩ := Option.bind_eq_some_iff.1 hm
 refine C_cutG (ι := ((Int × Int × (List Int)) × (Nat → Prop))) (fun ⟨s2, A8⟩ => [(0, v_data), (1, .int .i64 n), (2, cmp_v), (6, .int .i64 20), (7, .int .i64 s2.1)]) (fun ⟨s2, A8⟩ => fun w' => o1 = .fin s2 ∧ Hp B A8 w' (obS (α := Int) 3 v_data s2.2.2 :: cmp_Y :: L) ∧ Tr Dw B A w A8 w') ?_ ?_
 ·refine C_block ?_
  refine C_while ho1 (fun s10 a w' => ∃ i : (Nat → Prop), Has ⟨63, [], none⟩ a ([(0, v_data), (1, .int .i64 n), (2, cmp_v), (6, .int .i64 20), (7, .int .i64 s10.1), (8, .int .i64 s10.2.1)]) ∧ Hp B i w' (obS (α := Int) 3 v_data s10.2.2 :: cmp_Y :: L) ∧ Tr Dw B A w i w') (fun a ha => ⟨A, ha.sub ⟨rfl, rfl, rfl, rfl, rfl, rfl, trivial⟩, ⟨hH, Tr.refl (Dw := Dw) hA⟩⟩) ?_
  rintro K s10 a w11 ⟨A12, ha29, hH13, hr3⟩ K20
  refine C_of ?_ ha29
  replace hK := Tr.trans (Dw := Dw) hK hr3
  replace hB := Nat.le_trans hB hr3.ex.size
  replace hA := hr3.new
  replace hH : Hp B A12 w11 (obS (α := Int) 3 v_data s10.2.2 :: cmp_Y :: L) := hH13
  obtain ⟨x14, h15, h16⟩ := K20
  refine C_seq ?_
  refine C_seq ?_
  refine C_region ?_
  refine V_y (Y_move rfl) rfl rfl rfl ?_
  refine V_y (Y_move rfl) rfl rfl rfl ?_
  refine V_y (Y_leq rfl rfl) rfl rfl rfl ?_
  refine V_to (fun _ _ => rfl) ?_
  refine C_cond rfl (fun hc21 => ?_) (fun hc21 => ?_)
  ·rw [if_pos hc21] at h15
   refine C_skip_to (fun _ _ => rfl) ?_
   refine C_block ?_
   refine C_seq ?_
   refine C_region ?_
   refine V_y (Y_move rfl) rfl rfl rfl ?_
   refine V_y (Y_move rfl) rfl rfl rfl ?_
   refine V_y (Y_move rfl) rfl rfl rfl ?_
   refine V_y (Y_move rfl) rfl rfl rfl ?_
   replace hH : Hp B A12 w11 (cmp_Y :: obS (α := Int) 3 v_data s10.2.2 :: L) := Hp.front hH (i := 1) rfl
   replace hH : Hp B A12 w11 (obS (α := Int) 3 v_data s10.2.2 :: cmp_Y :: L) := Hp.front hH (i := 1) rfl
   obtain ⟨x22, hx22, h15⟩ := Option.bind_eq_some_iff.1 h15
   refine V_call Try.call52 rfl rfl rfl rfl (slices_insertionSortCmpFunc_int_c (Dw := Dw) w11 hB hA s10.2.2 v_data s10.1 s10.2.1 cmp cmp_Y cmp_v cmp_one (fun w2 A2 L2 x2 r2 h1 h2 h3 => cmp_spec w2 A2 L2 x2 r2 h1 h2 (Tr.trans (Dw := Dw) hK h3)) hH hx22) ?_
   rintro _ w23 ⟨A24, rfl, hH25, ht26⟩
   replace hr3 := Tr.trans (Dw := Dw) hr3 ht26
   replace hH : Hp B A24 w23 (obS (α := Int) 3 v_data x22 :: cmp_Y :: L) := hH25
   refine V_to (fun _ _ => rfl) ?_
   refine C_seq ?_
   refine C_region ?_
   refine V_y (Y_move rfl) rfl rfl rfl ?_
   refine V_y (Y_assign rfl) rfl rfl rfl ?_
   refine V_to (fun _ _ => rfl) ?_
   refine C_region ?_
   refine V_y (Y_move rfl) rfl rfl rfl ?_
   refine V_y (Y_move rfl) rfl rfl rfl ?_
   refine V_y (Y_addI rfl rfl) rfl rfl rfl ?_
   refine V_y (Y_assign rfl) rfl rfl rfl ?_
   obtain rfl := Option.some.inj h15
   refine V_end (fun a ha27 => ?_)
   exact ⟨(s10.2.1, w64 (s10.2.1 + 20), x22), h16, ⟨A24, ha27.sub ⟨rfl, rfl, rfl, rfl, rfl, rfl, trivial⟩, ⟨hH, hr3⟩⟩⟩
  ·rw [if_neg (nt hc21)] at h15
   obtain rfl := Option.some.inj h15
   refine C_exit (fun a ha28 => ?_)
   exact ⟨((s10.1, s10.2.1, s10.2.2), A12), ha28.sub ⟨rfl, rfl, rfl, rfl, rfl, trivial⟩, ⟨h16.symm, hH, hr3⟩⟩
 rintro ⟨s2, A8⟩ w5 ⟨rfl, hH9, hk6⟩ a ha7
 rw [Lp.andThen_fin] at hm
 replace hK := Tr.trans (Dw := Dw) hK hk6
 replace hB := Nat.le_trans hB hk6.ex.size
 replace hA := hk6.new
 replace hH : Hp B A8 w5 (obS (α := Int) 3 v_data s2.2.2 :: cmp_Y :: L) := hH9
 refine C_at (n := ⟨63, [], none⟩) (fun _ _ => rfl) ?_ ha7
 refine C_seq ?_
 refine C_region ?_
 refine V_y (Y_move rfl) rfl rfl rfl ?_
 refine V_y (Y_move rfl) rfl rfl rfl ?_
 refine V_y (Y_move rfl) rfl rfl rfl ?_
 refine V_y (Y_move rfl) rfl rfl rfl ?_
 replace hH : Hp B A8 w5 (cmp_Y :: obS (α := Int) 3 v_data s2.2.2 :: L) := Hp.front hH (i := 1) rfl
 replace hH : Hp B A8 w5 (obS (α := Int) 3 v_data s2.2.2 :: cmp_Y :: L) := Hp.front hH (i := 1) rfl
 obtain ⟨x30, hx30, hm⟩ := Option.bind_eq_some_iff.1 hm
 refine V_call Try.call52 rfl rfl rfl rfl (slices_insertionSortCmpFunc_int_c (Dw := Dw) w5 hB hA s2.2.2 v_data s2.1 n cmp cmp_Y cmp_v cmp_one (fun w2 A2 L2 x2 r2 h1 h2 h3 => cmp_spec w2 A2 L2 x2 r2 h1 h2 (Tr.trans (Dw := Dw) hK h3)) hH hx30) ?_
 rintro _ w31 ⟨A32, rfl, hH33, ht34⟩
 replace hK := Tr.trans (Dw := Dw) hK ht34
 replace hB := Nat.le_trans hB ht34.ex.size
 replace hA := ht34.new
 replace hH : Hp B A32 w31 (obS (α := Int) 3 v_data x30 :: cmp_Y :: L) := hH33
 refine V_to (fun _ _ => rfl) ?_
 obtain ⟨o35, ho35, hm⟩ := Option.bind_eq_some_iff.1 hm
 refine C_cutG (ι := ((Int × (List Int)) × (Nat → Prop))) (fun ⟨s36, A42⟩ => []) (fun ⟨s36, A42⟩ => fun w' => o35 = .fin s36 ∧ Hp B A42 w' (obS (α := Int) 3 v_data s36.2 :: cmp_Y :: L) ∧ Tr Dw B A32 w31 A42 w') ?_ ?_
 ·refine C_block ?_
  refine C_while ho35 (fun s44 a w' => ∃ i : (Nat → Prop), Has ⟨63, [], none⟩ a ([(0, v_data), (1, .int .i64 n), (2, cmp_v), (6, .int .i64 s44.1)]) ∧ Hp B i w' (obS (α := Int) 3 v_data s44.2 :: cmp_Y :: L) ∧ Tr Dw B A32 w31 i w') (fun a ha => ⟨A32, ha.sub ⟨rfl, rfl, rfl, rfl, trivial⟩, ⟨hH, Tr.refl (Dw := Dw) hA⟩⟩) ?_
  rintro K s44 a w45 ⟨A46, ha103, hH47, hr37⟩ K54
  refine C_of ?_ ha103
  replace hK := Tr.trans (Dw := Dw) hK hr37
  replace hB := Nat.le_trans hB hr37.ex.size
  replace hA := hr37.new
  replace hH : Hp B A46 w45 (obS (α := Int) 3 v_data s44.2 :: cmp_Y :: L) := hH47
  obtain ⟨x48, h49, h50⟩ := K54
  refine C_seq ?_
  refine C_seq ?_
  refine C_region ?_
  refine V_y (Y_move rfl) rfl rfl rfl ?_
  refine V_y (Y_move rfl) rfl rfl rfl ?_
  refine V_y (Y_lss rfl rfl) rfl rfl rfl ?_
  refine V_to (fun _ _ => rfl) ?_
  refine C_cond rfl (fun hc55 => ?_) (fun hc55 => ?_)
  ·rw [if_pos hc55] at h49
   refine C_skip_to (fun _ _ => rfl) ?_
   refine C_block ?_
   refine C_seq ?_
   refine C_region ?_
   refine V_y (Y_move rfl) rfl rfl rfl ?_
   refine V_y (Y_mulI rfl rfl) rfl rfl rfl ?_
   refine V_y (Y_assign rfl) rfl rfl rfl ?_
   refine V_y (Y_assign rfl) rfl rfl rfl ?_
   refine V_to (fun _ _ => rfl) ?_
   refine C_seq ?_
   obtain ⟨o56, ho56, h49⟩ := Option.bind_eq_some_iff.1 h49
   refine C_cutG (ι := ((Int × Int × (List Int)) × (Nat → Prop))) (fun ⟨s57, A63⟩ => [(0, v_data), (1, .int .i64 n), (2, cmp_v), (6, .int .i64 s44.1), (7, .int .i64 s57.1)]) (fun ⟨s57, A63⟩ => fun w' => o56 = .fin s57 ∧ Hp B A63 w' (obS (α := Int) 3 v_data s57.2.2 :: cmp_Y :: L) ∧ Tr Dw B A46 w45 A63 w') ?_ ?_
   ·refine C_block ?_
    refine C_while ho56 (fun s65 a w' => ∃ i : (Nat → Prop), Has ⟨63, [], none⟩ a ([(0, v_data), (1, .int .i64 n), (2, cmp_v), (6, .int .i64 s44.1), (7, .int .i64 s65.1), (8, .int .i64 s65.2.1)]) ∧ Hp B i w' (obS (α := Int) 3 v_data s65.2.2 :: cmp_Y :: L) ∧ Tr Dw B A46 w45 i w') (fun a ha => ⟨A46, ha.sub ⟨rfl, rfl, rfl, rfl, rfl, rfl, trivial⟩, ⟨hH, Tr.refl (Dw := Dw) hA⟩⟩) ?_
    rintro K s65 a w66 ⟨A67, ha84, hH68, hr58⟩ K75
    refine C_of ?_ ha84
    replace hK := Tr.trans (Dw := Dw) hK hr58
    replace hB := Nat.le_trans hB hr58.ex.size
    replace hA := hr58.new
    replace hH : Hp B A67 w66 (obS (α := Int) 3 v_data s65.2.2 :: cmp_Y :: L) := hH68
    obtain ⟨x69, h70, h71⟩ := K75
    refine C_seq ?_
    refine C_seq ?_
    refine C_region ?_
    refine V_y (Y_move rfl) rfl rfl rfl ?_
    refine V_y (Y_move rfl) rfl rfl rfl ?_
    refine V_y (Y_leq rfl rfl) rfl rfl rfl ?_
    refine V_to (fun _ _ => rfl) ?_
    refine C_cond rfl (fun hc76 => ?_) (fun hc76 => ?_)
    ·rw [if_pos hc76] at h70
     refine C_skip_to (fun _ _ => rfl) ?_
     refine C_block ?_
     refine C_seq ?_
     refine C_region ?_
     refine V_y (Y_move rfl) rfl rfl rfl ?_
     refine V_y (Y_move rfl) rfl rfl rfl ?_
     refine V_y (Y_move rfl) rfl rfl rfl ?_
     refine V_y (Y_move rfl) rfl rfl rfl ?_
     refine V_y (Y_addI rfl rfl) rfl rfl rfl ?_
     refine V_y (Y_move rfl) rfl rfl rfl ?_
     refine V_y (Y_move rfl) rfl rfl rfl ?_
     replace hH : Hp B A67 w66 (cmp_Y :: obS (α := Int) 3 v_data s65.2.2 :: L) := Hp.front hH (i := 1) rfl
     replace hH : Hp B A67 w66 (obS (α := Int) 3 v_data s65.2.2 :: cmp_Y :: L) := Hp.front hH (i := 1) rfl
     obtain ⟨x77, hx77, h70⟩ := Option.bind_eq_some_iff.1 h70
     refine V_call Try.call64 rfl rfl rfl rfl (slices_symMergeCmpFunc_int_c (Dw := Dw) w66 hB hA s65.2.2 v_data s65.1 (w64 (s65.1 + s44.1)) s65.2.1 cmp cmp_Y cmp_v cmp_one (fun w2 A2 L2 x2 r2 h1 h2 h3 => cmp_spec w2 A2 L2 x2 r2 h1 h2 (Tr.trans (Dw := Dw) hK h3)) hH hx77) ?_
     rintro _ w78 ⟨A79, rfl, hH80, ht81⟩
     replace hr58 := Tr.trans (Dw := Dw) hr58 ht81
     replace hH : Hp B A79 w78 (obS (α := Int) 3 v_data x77 :: cmp_Y :: L) := hH80
     refine V_to (fun _ _ => rfl) ?_
     refine C_seq ?_
     refine C_region ?_
     refine V_y (Y_move rfl) rfl rfl rfl ?_
     refine V_y (Y_assign rfl) rfl rfl rfl ?_
     refine V_to (fun _ _ => rfl) ?_
     refine C_region ?_
     refine V_y (Y_move rfl) rfl rfl rfl ?_
     refine V_y (Y_move rfl) rfl rfl rfl ?_
     refine V_y (Y_mulI rfl rfl) rfl rfl rfl ?_
     refine V_y (Y_addI rfl rfl) rfl rfl rfl ?_
     refine V_y (Y_assign rfl) rfl rfl rfl ?_
     obtain rfl := Option.some.inj h70
     refine V_end (fun a ha82 => ?_)
     exact ⟨(s65.2.1, w64 (s65.2.1 + (w64 (2 * s44.1))), x77), h71, ⟨A79, ha82.sub ⟨rfl, rfl, rfl, rfl, rfl, rfl, trivial⟩, ⟨hH, hr58⟩⟩⟩
    ·rw [if_neg (nt hc76)] at h70
     obtain rfl := Option.some.inj h70
     refine C_exit (fun a ha83 => ?_)
     exact ⟨((s65.1, s65.2.1, s65.2.2), A67), ha83.sub ⟨rfl, rfl, rfl, rfl, rfl, trivial⟩, ⟨h71.symm, hH, hr58⟩⟩
   rintro ⟨s57, A63⟩ w60 ⟨rfl, hH64, hk61⟩ a ha62
   rw [Lp.andThen_fin] at h49
   replace hK := Tr.trans (Dw := Dw) hK hk61
   replace hr37 := Tr.trans (Dw := Dw) hr37 hk61
   replace hB := Nat.le_trans hB hk61.ex.size
   replace hA := hk61.new
   replace hH : Hp B A63 w60 (obS (α := Int) 3 v_data s57.2.2 :: cmp_Y :: L) := hH64
   refine C_at (n := ⟨63, [], none⟩) (fun _ _ => rfl) ?_ ha62
   refine C_seq ?_
   refine C_seq ?_
   refine C_region ?_
   refine V_y (Y_move rfl) rfl rfl rfl ?_
   refine V_y (Y_move rfl) rfl rfl rfl ?_
   refine V_y (Y_addI rfl rfl) rfl rfl rfl ?_
   refine V_y (Y_assign rfl) rfl rfl rfl ?_
   refine V_to (fun _ _ => rfl) ?_
   refine C_seq ?_
   refine C_region ?_
   refine V_y (Y_move rfl) rfl rfl rfl ?_
   refine V_y (Y_move rfl) rfl rfl rfl ?_
   refine V_y (Y_lss rfl rfl) rfl rfl rfl ?_
   refine V_to (fun _ _ => rfl) ?_
   obtain ⟨s86, ho85, h49⟩ := Option.bind_eq_some_iff.1 h49
   refine C_cutG (ι := (Nat → Prop)) (fun (A91 : (Nat → Prop)) => [(0, v_data), (1, .int .i64 n), (2, cmp_v), (6, .int .i64 s44.1)]) (fun (A91 : (Nat → Prop)) => fun w' => Hp B A91 w' (obS (α := Int) 3 v_data s86 :: cmp_Y :: L) ∧ Tr Dw B A63 w60 A91 w') ?_ ?_
   ·have hr87 : Tr Dw B A63 w60 A63 w60 := Tr.refl (Dw := Dw) hA
    refine C_cond rfl (fun hc93 => ?_) (fun hc93 => ?_)
    ·rw [if_pos hc93] at ho85
     refine C_region ?_
     refine V_y (Y_move rfl) rfl rfl rfl ?_
     refine V_y (Y_move rfl) rfl rfl rfl ?_
     refine V_y (Y_move rfl) rfl rfl rfl ?_
     refine V_y (Y_move rfl) rfl rfl rfl ?_
     refine V_y (Y_move rfl) rfl rfl rfl ?_
     replace hH : Hp B A63 w60 (cmp_Y :: obS (α := Int) 3 v_data s57.2.2 :: L) := Hp.front hH (i := 1) rfl
     replace hH : Hp B A63 w60 (obS (α := Int) 3 v_data s57.2.2 :: cmp_Y :: L) := Hp.front hH (i := 1) rfl
     obtain ⟨x94, hx94, ho85⟩ := Option.bind_eq_some_iff.1 ho85
     refine V_call Try.call64 rfl rfl rfl rfl (slices_symMergeCmpFunc_int_c (Dw := Dw) w60 hB hA s57.2.2 v_data s57.1 (w64 (s57.1 + s44.1)) n cmp cmp_Y cmp_v cmp_one (fun w2 A2 L2 x2 r2 h1 h2 h3 => cmp_spec w2 A2 L2 x2 r2 h1 h2 (Tr.trans (Dw := Dw) hK h3)) hH hx94) ?_
     rintro _ w95 ⟨A96, rfl, hH97, ht98⟩
     replace hr87 := Tr.trans (Dw := Dw) hr87 ht98
     replace hH : Hp B A96 w95 (obS (α := Int) 3 v_data x94 :: cmp_Y :: L) := hH97
     obtain rfl := Option.some.inj ho85
     refine V_end (fun a ha99 => ?_)
     exact ⟨A96, ha99.sub ⟨rfl, rfl, rfl, rfl, trivial⟩, ⟨hH, hr87⟩⟩
    ·rw [if_neg (nt hc93)] at ho85
     obtain rfl := Option.some.inj ho85
     refine C_skip (fun a ha100 => ?_)
     exact ⟨A63, ha100.sub ⟨rfl, rfl, rfl, rfl, trivial⟩, ⟨hH, hr87⟩⟩
   rintro A91 w88 ⟨hH92, hk89⟩ a ha90
   replace hr37 := Tr.trans (Dw := Dw) hr37 hk89
   replace hA := hk89.new
   replace hH : Hp B A91 w88 (obS (α := Int) 3 v_data s86 :: cmp_Y :: L) := hH92
   refine C_at (n := ⟨63, [], none⟩) (fun _ _ => rfl) ?_ ha90
   refine C_region ?_
   refine V_y (Y_move rfl) rfl rfl rfl ?_
   refine V_y (Y_mulI rfl rfl) rfl rfl rfl ?_
   refine V_y (Y_assign rfl) rfl rfl rfl ?_
   obtain rfl := Option.some.inj h49
   refine V_end (fun a ha101 => ?_)
   exact ⟨(w64 (s44.1 * 2), s86), h50, ⟨A91, ha101.sub ⟨rfl, rfl, rfl, rfl, trivial⟩, ⟨hH, hr37⟩⟩⟩
  ·rw [if_neg (nt hc55)] at h49
   obtain rfl := Option.some.inj h49
   refine C_exit (fun a ha102 => ?_)
   exact ⟨((s44.1, s44.2), A46), ha102.sub trivial, ⟨h50.symm, hH, hr37⟩⟩
 rintro ⟨s36, A42⟩ w39 ⟨rfl, hH43, hk40⟩ a ha41
 rw [Lp.andThen_fin] at hm
 replace hK := Tr.trans (Dw := Dw) hK hk40
 replace hA := hk40.new
 replace hH : Hp B A42 w39 (obS (α := Int) 3 v_data s36.2 :: cmp_Y :: L) := hH43
 obtain rfl := Option.some.inj hm
 try simp only [↓inBlock_ret, ↓then_ret]
 exact normQ (retQ rfl (Res.zero Try.results44) ⟨A42, rfl, hH, hK⟩ a ha41)
set_option maxRecDepth 4000 in
set_option maxHeartbeats 4000000 in
theorem slices_SortStableFunc_Lint_int_c (w : World) {A : Nat → Prop} {B : Nat} (hB : B ≤ w.heap.size) (hA : ∀ b, w.heap.size ≤ b → A b) (x : (List Int)) (v_x : Value) (cmp : (Int × Int) → Option Int) (cmp_Y : Ob) (cmp_v : Value) (cmp_one : cmp_v.cells.toList = [cmp_v]) (cmp_spec : ∀ (w2 : World) (A2 : Nat → Prop) (L2 : List Ob) (x : (Int × Int)) (b : Int), B ≤ w2.heap.size → (∀ b, w2.heap.size ≤ b → A2 b) → Tr Dw B A w A2 w2 → Hp B A2 w2 (cmp_Y :: L2) → cmp x = some b → CallV Try.prog cmp_v [.int .i64 x.1, .int .i64 x.2] w2 fun v w3 => v = .int .i64 b ∧ ∃ A3, Tr Dw B A2 w2 A3 w3 ∧ Hp B A3 w3 (cmp_Y :: L2)) {L : List Ob} (hH : Hp B A w (obS (α := Int) 3 v_x x :: cmp_Y :: L)) {r : (List Int)} (hm : slices_SortStableFunc_Lint_int x cmp = some r) : Ret Try.prog 26 #[v_x, cmp_v] w fun v w' => ∃ A1 : Nat → Prop, v = .tuple #[] ∧ Hp B A1 w' (obS (α := Int) 3 v_x r :: cmp_Y :: L) ∧ Tr Dw B A w A1 w' := by
 unfold slices_SortStableFunc_Lint_int at hm
 refine enter Try.func26 rfl Try.ntmps26 rfl ?_
 have hK : Tr Dw B A w A w := Tr.refl (Dw := Dw) hA
 refine C_region ?_
 refine V_y (Y_move rfl) rfl rfl rfl ?_
 refine V_y (Y_move rfl) rfl rfl rfl ?_
 refine V_y (Y_lenSl (Hp.any (α := Int) (e := 3) (v := v_x) (l := x) hH (i := 0) rfl) rfl Try.underlying27 rfl) rfl rfl rfl ?_
 refine V_y (Y_move rfl) rfl rfl rfl ?_
 replace hH : Hp B A w (cmp_Y :: obS (α := Int) 3 v_x x :: L) := Hp.front hH (i := 1) rfl
 replace hH : Hp B A w (obS (α := Int) 3 v_x x :: cmp_Y :: L) := Hp.front hH (i := 1) rfl
 obtain ⟨x1, hx1, hm⟩ := Option.bind_eq_some_iff.1 hm
 refine V_call Try.call44 rfl rfl rfl rfl (slices_stableCmpFunc_int_c (Dw := Dw) w hB hA x v_x (x.length : Int) cmp cmp_Y cmp_v cmp_one (fun w2 A2 L2 x2 r2 h1 h2 h3 => cmp_spec w2 A2 L2 x2 r2 h1 h2 (Tr.trans (Dw := Dw) hK h3)) hH hx1) ?_
 rintro _ w2 ⟨A3, rfl, hH4, ht5⟩
 replace hK := Tr.trans (Dw := Dw) hK ht5
 replace hH : Hp B A3 w2 (obS (α := Int) 3 v_x x1 :: cmp_Y :: L) := hH4
 refine V_end (fun a ha6 => ?_)
 obtain rfl := Option.some.inj hm
 try simp only [↓inBlock_ret, ↓then_ret]
 exact normQ (retQ rfl (Res.zero Try.results26) ⟨A3, rfl, hH, hK⟩ a ha6)
set_option maxRecDepth 4000 in
set_option maxHeartbeats 4000000 in
theorem portref2_Clock_Worked_c (w : World) {A : Nat → Prop} {B : Nat} (hB : B ≤ w.heap.size) (hA : ∀ b, w.heap.size ≤ b → A b) (k_ : cal_Calendar) (b_k_ : Nat) (from_ : Int) (to_ : Int) {L : List Ob} (hH : Hp B A w (obCk 102 portref2_ShiftsIn b_k_ k_ :: L)) {r : Int} (hm : portref2_Clock_Worked k_ from_ to_ = some r) : Ret Try.prog 43 #[.pointer (some ⟨b_k_, 0, none⟩), .int .i64 from_, .int .i64 to_] w fun v w' => ∃ A1 : Nat → Prop, v = .int .i64 r ∧ Hp B A1 w' (obCk 102 portref2_ShiftsIn b_k_ k_ :: L) ∧ Tr Dw B A w A1 w' := by
 unfold portref2_Clock_Worked at hm
 refine enter Try.func43 rfl Try.ntmps43 rfl ?_
 have hK : Tr Dw B A w A w := Tr.refl (Dw := Dw) hA
 refine C_seq ?_
 refine C_region ?_
 refine V_y (Y_assign rfl) rfl rfl rfl ?_
 refine V_to (fun _ _ => rfl) ?_
 refine C_seq ?_
 refine C_region ?_
 refine V_y (Y_assign rfl) rfl rfl rfl ?_
 refine V_to (fun _ _ => rfl) ?_
 refine C_seq ?_
 refine C_seq ?_
 refine C_region ?_
 refine V_y (Y_move rfl) rfl rfl rfl ?_
 refine V_y (Y_assign rfl) rfl rfl rfl ?_
 refine V_to (fun _ _ => rfl) ?_
 obtain ⟨o1, ho1, hm⟩ := Option.bind_eq_some_iff.1 hm
 refine C_cutG (ι := ((Int × Int) × (Nat → Prop))) (fun ⟨s2, A8⟩ => [(7, .int .i64 s2.1)]) (fun ⟨s2, A8⟩ => fun w' => o1 = .fin s2 ∧ Hp B A8 w' (obCk 102 portref2_ShiftsIn b_k_ k_ :: L) ∧ Tr Dw B A w A8 w') ?_ ?_
 ·refine C_block ?_
  refine C_while ho1 (fun s10 a w' => ∃ i : (Nat → Prop), Has ⟨21, [], none⟩ a ([(0, .pointer (some ⟨b_k_, 0, none⟩)), (2, .int .i64 to_), (7, .int .i64 s10.1), (8, .int .i64 s10.2)]) ∧ Hp B i w' (obCk 102 portref2_ShiftsIn b_k_ k_ :: L) ∧ Tr Dw B A w i w') (fun a ha => ⟨A, ha.sub ⟨rfl, rfl, rfl, rfl, trivial⟩, ⟨hH, Tr.refl (Dw := Dw) hA⟩⟩) ?_
  rintro K s10 a w11 ⟨A12, ha47, hH13, hr3⟩ K20
  refine C_of ?_ ha47
  replace hB := Nat.le_trans hB hr3.ex.size
  replace hA := hr3.new
  replace hH : Hp B A12 w11 (obCk 102 portref2_ShiftsIn b_k_ k_ :: L) := hH13
  obtain ⟨x14, h15, h16⟩ := K20
  refine C_seq ?_
  refine C_seq ?_
  refine C_region ?_
  refine V_y (Y_move rfl) rfl rfl rfl ?_
  refine V_y (Y_move rfl) rfl rfl rfl ?_
  refine V_y (Y_lss rfl rfl) rfl rfl rfl ?_
  refine V_to (fun _ _ => rfl) ?_
  refine C_cond rfl (fun hc21 => ?_) (fun hc21 => ?_)
  ·rw [if_pos hc21] at h15
   refine C_skip_to (fun _ _ => rfl) ?_
   refine C_seq ?_
   obtain ⟨s23, ho22, h15⟩ := Option.bind_eq_some_iff.1 h15
   refine C_cutG (ι := (Nat → Prop)) (fun (A28 : (Nat → Prop)) => [(0, .pointer (some ⟨b_k_, 0, none⟩)), (2, .int .i64 to_), (7, .int .i64 s23), (8, .int .i64 s10.2)]) (fun (A28 : (Nat → Prop)) => fun w' => Hp B A28 w' (obCk 102 portref2_ShiftsIn b_k_ k_ :: L) ∧ Tr Dw B A12 w11 A28 w') ?_ ?_
   ·have hr24 : Tr Dw B A12 w11 A12 w11 := Tr.refl (Dw := Dw) hA
    refine C_block ?_
    refine C_seq ?_
    refine C_region ?_
    refine V_y (Y_move rfl) rfl rfl rfl ?_
    refine V_y (Y_move rfl) rfl rfl rfl ?_
    obtain ⟨x30, hx30, ho22⟩ := Option.bind_eq_some_iff.1 ho22
    refine V_call Try.call63 rfl rfl rfl rfl (portref2_Clock_Open_c (Dw := Dw) w11 hB hA k_ b_k_ s10.2 hH hx30) ?_
    rintro _ w31 ⟨A32, rfl, hH33, ht34⟩
    replace hr24 := Tr.trans (Dw := Dw) hr24 ht34
    replace hH : Hp B A32 w31 (obCk 102 portref2_ShiftsIn b_k_ k_ :: L) := hH33
    refine V_to (fun _ _ => rfl) ?_
    obtain ⟨s36, ho35, ho22⟩ := Option.bind_eq_some_iff.1 ho22
    refine C_cutG (ι := Unit) (fun (_ : Unit) => [(0, .pointer (some ⟨b_k_, 0, none⟩)), (2, .int .i64 to_), (7, .int .i64 s36), (8, .int .i64 s10.2)]) (fun (_ : Unit) => fun w' => w31 = w') ?_ ?_
    ·refine C_cond rfl (fun hc41 => ?_) (fun hc41 => ?_)
     ·rw [if_pos hc41] at ho35
      refine C_region ?_
      refine V_y (Y_move rfl) rfl rfl rfl ?_
      refine V_y (Y_addI rfl rfl) rfl rfl rfl ?_
      refine V_y (Y_assign rfl) rfl rfl rfl ?_
      obtain rfl := Option.some.inj ho35
      refine V_end (fun a ha42 => ?_)
      exact ⟨(), ha42.sub ⟨rfl, rfl, rfl, rfl, trivial⟩, rfl⟩
     ·rw [if_neg (nt hc41)] at ho35
      obtain rfl := Option.some.inj ho35
      refine C_skip (fun a ha43 => ?_)
      exact ⟨(), ha43.sub ⟨rfl, rfl, rfl, rfl, trivial⟩, rfl⟩
    rintro _ _ rfl a ha40
    obtain rfl := Option.some.inj ho22
    exact ⟨A32, ha40.sub ⟨rfl, rfl, rfl, rfl, trivial⟩, ⟨hH, hr24⟩⟩
   rintro A28 w25 ⟨hH29, hk26⟩ a ha27
   replace hr3 := Tr.trans (Dw := Dw) hr3 hk26
   replace hA := hk26.new
   replace hH : Hp B A28 w25 (obCk 102 portref2_ShiftsIn b_k_ k_ :: L) := hH29
   refine C_at (n := ⟨21, [], none⟩) (fun _ _ => rfl) ?_ ha27
   refine C_region ?_
   refine V_y (Y_move rfl) rfl rfl rfl ?_
   refine V_y (Y_addI rfl rfl) rfl rfl rfl ?_
   refine V_y (Y_assign rfl) rfl rfl rfl ?_
   obtain rfl := Option.some.inj h15
   refine V_end (fun a ha45 => ?_)
   exact ⟨(s23, w64 (s10.2 + 1)), h16, ⟨A28, ha45.sub ⟨rfl, rfl, rfl, rfl, trivial⟩, ⟨hH, hr3⟩⟩⟩
  ·rw [if_neg (nt hc21)] at h15
   obtain rfl := Option.some.inj h15
   refine C_exit (fun a ha46 => ?_)
   exact ⟨((s10.1, s10.2), A12), ha46.sub ⟨rfl, trivial⟩, ⟨h16.symm, hH, hr3⟩⟩
 rintro ⟨s2, A8⟩ w5 ⟨rfl, hH9, hk6⟩ a ha7
 rw [Lp.andThen_fin] at hm
 replace hK := Tr.trans (Dw := Dw) hK hk6
 replace hA := hk6.new
 replace hH : Hp B A8 w5 (obCk 102 portref2_ShiftsIn b_k_ k_ :: L) := hH9
 refine C_at (n := ⟨21, [], none⟩) (fun _ _ => rfl) ?_ ha7
 refine C_seq ?_
 refine C_region ?_
 refine V_y (Y_move rfl) rfl rfl rfl ?_
 refine V_y (Y_assign rfl) rfl rfl rfl ?_
 refine V_to (fun _ _ => rfl) ?_
 obtain rfl := Option.some.inj hm
 refine C_ret ?_
 try simp only [↓inBlock_ret, ↓then_ret]
 exact retQ rfl (Res.one Try.results43 rfl) ⟨A8, rfl, hH, hK⟩
set_option maxRecDepth 4000 in
set_option maxHeartbeats 4000000 in
theorem portref2_meter_elapsed_c (w : World) {A : Nat → Prop} {B : Nat} (hB : B ≤ w.heap.size) (hA : ∀ b, w.heap.size ≤ b → A b) (x : portref2_meter) (b_x : Nat) (v_x : Value) (c : level_Clock) (v_c : Value) (h_c : Sl A w v_c c.pieces) (m : Int) {L : List Ob} (hH : Hp B A w (obC b_x [v_x] 75 :: obPS (obCk 102 portref2_ShiftsIn) 76 v_x x.clocks :: L)) {r : Int} (hm : portref2_meter_elapsed x c m = some r) : Ret Try.prog 25 #[.pointer (some ⟨b_x, 0, none⟩), .agg #[.int .i64 c.kind, .int .i64 c.level, .int .i64 c.minutes, .int .i64 c.start, .int .i64 c.stop, .int .i64 c.end_, v_c], .int .i64 m] w fun v w' => ∃ A1 : Nat → Prop, v = .int .i64 r ∧ Hp B A1 w' (obC b_x [v_x] 75 :: obPS (obCk 102 portref2_ShiftsIn) 76 v_x x.clocks :: L) ∧ Tr Dw B A w A1 w' := by
 unfold portref2_meter_elapsed at hm
 refine enter Try.func25 rfl Try.ntmps25 rfl ?_
 have hK : Tr Dw B A w A w := Tr.refl (Dw := Dw) hA
 refine C_seq ?_
 refine C_region ?_
 refine V_box rfl rfl ?_
 intro b5 w6 h7
 have hk9 := h7.kp (Dw := Dw)
 have h8 : El (α := level_Clock) A w6 b5 0 c := h7.el hA ⟨[.int .i64 c.kind], _, rfl, rfl, ⟨[.int .i64 c.level], _, rfl, rfl, ⟨[.int .i64 c.minutes], _, rfl, rfl, ⟨[.int .i64 c.start], _, rfl, rfl, ⟨[.int .i64 c.stop], _, rfl, rfl, ⟨[.int .i64 c.end_], _, rfl, rfl, ⟨_, rfl, h_c⟩⟩⟩⟩⟩⟩⟩
 have ht10 := Kp.tr (Dw := Dw) hk9 hA hB
 replace hH := Hp.kp (Dw := Dw) hH hk9
 replace hK := Tr.trans (Dw := Dw) hK ht10
 replace hB := Nat.le_trans hB ht10.ex.size
 replace hA := ht10.new
 refine V_y (Y_assign rfl) rfl rfl rfl ?_
 refine V_to (fun _ _ => rfl) ?_
 refine C_seq ?_
 refine C_region ?_
 refine V_y (Y_assign rfl) rfl rfl rfl ?_
 refine V_to (fun _ _ => rfl) ?_
 refine C_seq ?_
 refine C_seq ?_
 refine C_region ?_
 have h11 := El_level_Clock_6 h8
 refine V_y (Y_fieldAddr Try.underlying37 rfl Try.sizeOf35 (by decide) rfl) rfl rfl rfl ?_
 obtain ⟨v12, h13, h14⟩ := El.list h11
 refine V_y (Y_load h13 Try.isAgg35 rfl) rfl rfl rfl ?_
 refine V_y (Y_lenSl h14 rfl Try.underlying35 rfl) rfl rfl rfl ?_
 refine V_y (Y_move rfl) rfl rfl rfl ?_
 refine V_to (fun _ _ => rfl) ?_
 have hn35 := Sl.le h14
 obtain ⟨o15, ho15, hm⟩ := Option.bind_eq_some_iff.1 hm
 refine C_cutG (ι := (Int × (Nat → Prop))) (fun ⟨s16, A22⟩ => [(7, .int .i64 s16)]) (fun ⟨s16, A22⟩ => fun w' => o15 = .fin s16 ∧ Hp B A22 w' (obC b_x [v_x] 75 :: obPS (obCk 102 portref2_ShiftsIn) 76 v_x x.clocks :: L) ∧ Tr Dw B A w6 A22 w') ?_ ?_
 ·refine C_block ?_
  refine C_range ho15 (fun k18 s24 a w' => ∃ i : (Nat → Prop), Has ⟨42, [], none⟩ a ([(0, .pointer (some ⟨b_x, 0, none⟩)), (2, .int .i64 m), (7, .int .i64 s24), (12, v12), (13, .int .i64 (c.pieces.length : Int)), (14, .int .i64 (k18 : Int))]) ∧ Hp B i w' (obC b_x [v_x] 75 :: obPS (obCk 102 portref2_ShiftsIn) 76 v_x x.clocks :: L) ∧ Tr Dw B A w6 i w') (fun a ha => ⟨A, ha.sub ⟨rfl, rfl, rfl, rfl, rfl, rfl, trivial⟩, ⟨hH, Tr.refl (Dw := Dw) hA⟩⟩) ?_
  rintro K k18 s24 a w25 ⟨A26, ha79, hH27, hr17⟩ hle31 K34 h33
  refine C_of ?_ ha79
  replace h14 := Sl.tr (Dw := Dw) h14 hr17
  replace hB := Nat.le_trans hB hr17.ex.size
  replace hA := hr17.new
  replace hH : Hp B A26 w25 (obC b_x [v_x] 75 :: obPS (obCk 102 portref2_ShiftsIn) 76 v_x x.clocks :: L) := hH27
  refine C_seq (C_region (V_y (Y_lss rfl rfl) rfl rfl rfl (V_to (fun _ _ => rfl) ?_)))
  refine C_seq ?_
  refine C_cond rfl (fun hc36 => ?_) (fun hc36 => ?_)
  ·have hlt32 := lt_of_dec hc36
   obtain ⟨x28, h29, h30⟩ := K34 hlt32
   refine C_skip_to (fun _ _ => rfl) ?_
   refine C_seq ?_
   refine C_block ?_
   refine C_seq ?_
   refine C_region ?_
   obtain ⟨x37, hx37, h29⟩ := Option.bind_eq_some_iff.1 h29
   refine V_indexAddr h14 hx37 Try.underlying35 Try.sizeOf62 rfl rfl rfl ?_
   intro b38 o39 h40
   obtain ⟨h41, _⟩ := El_level_Piece h40
   refine V_y (Y_loadA h41 Try.isAgg62 Try.sizeOf62 rfl) rfl rfl rfl ?_
   refine V_alloc Try.zeroValue62 rfl ?_
   intro b42 w43 h44
   refine V_storeNew h44 Try.sizeOf62 rfl rfl rfl rfl (by exact (List.forall_mem_cons.2 ⟨rfl, (List.forall_mem_cons.2 ⟨rfl, (List.forall_mem_cons.2 ⟨rfl, (fun _ h => nomatch h)⟩)⟩)⟩)) ?_
   intro w45 h46
   have hk48 := h46.kp (Dw := Dw)
   have h47 : El (α := level_Piece) A26 w45 b42 0 x37 := h46.el hA ⟨[.int .i64 x37.from_], _, rfl, rfl, ⟨[.int .i64 x37.to_], _, rfl, rfl, rfl⟩⟩
   have ht49 := Kp.tr (Dw := Dw) hk48 hA hB
   replace hH := Hp.kp (Dw := Dw) hH hk48
   replace hr17 := Tr.trans (Dw := Dw) hr17 ht49
   replace hB := Nat.le_trans hB ht49.ex.size
   replace hA := ht49.new
   refine V_to (fun _ _ => rfl) ?_
   refine C_seq ?_
   refine C_region ?_
   refine V_y (Y_move rfl) rfl rfl rfl ?_
   refine V_y (Y_assign rfl) rfl rfl rfl ?_
   refine V_to (fun _ _ => rfl) ?_
   refine C_seq ?_
   refine C_seq ?_
   refine C_region ?_
   have h50 := El_level_Piece_1 h47
   refine V_y (Y_fieldAddr Try.underlying62 rfl Try.sizeOf3 (by decide) rfl) rfl rfl rfl ?_
   refine V_y (Y_load (El.int h50) Try.isAgg3 rfl) rfl rfl rfl ?_
   refine V_y (Y_geq rfl rfl) rfl rfl rfl ?_
   refine V_to (fun _ _ => rfl) ?_
   obtain ⟨s52, ho51, h29⟩ := Option.bind_eq_some_iff.1 h29
   refine C_cutG (ι := Unit) (fun (_ : Unit) => [(0, .pointer (some ⟨b_x, 0, none⟩)), (2, .int .i64 m), (7, .int .i64 s24), (9, .pointer (some ⟨b42, 0, none⟩)), (10, .int .i64 s52), (12, v12), (13, .int .i64 (c.pieces.length : Int)), (14, .int .i64 (k18 : Int))]) (fun (_ : Unit) => fun w' => w45 = w') ?_ ?_
   ·refine C_cond rfl (fun hc57 => ?_) (fun hc57 => ?_)
    ·rw [if_pos hc57] at ho51
     refine C_region ?_
     refine V_y (Y_move rfl) rfl rfl rfl ?_
     have h58 := El_level_Piece_1 h47
     refine V_y (Y_fieldAddr Try.underlying62 rfl Try.sizeOf3 (by decide) rfl) rfl rfl rfl ?_
     refine V_y (Y_load (El.int h58) Try.isAgg3 rfl) rfl rfl rfl ?_
     refine V_y (Y_min2 rfl rfl) rfl rfl rfl ?_
     refine V_y (Y_assign rfl) rfl rfl rfl ?_
     obtain rfl := Option.some.inj ho51
     refine V_end (fun a ha59 => ?_)
     exact ⟨(), ha59.sub ⟨rfl, rfl, rfl, rfl, rfl, rfl, rfl, rfl, trivial⟩, rfl⟩
    ·rw [if_neg (nt hc57)] at ho51
     obtain rfl := Option.some.inj ho51
     refine C_skip (fun a ha60 => ?_)
     exact ⟨(), ha60.sub ⟨rfl, rfl, rfl, rfl, rfl, rfl, rfl, rfl, trivial⟩, rfl⟩
   rintro _ _ rfl a ha56
   refine C_at (n := ⟨42, [], none⟩) (fun _ _ => rfl) ?_ ha56
   refine C_region_ch (Dw := Dw) A26 15 [(1, 0), (1, 1), (1, 2), (1, 3), (0, 4), (1, 5), (1, 6), (0, 7), (0, 8), (1, 9), (1, 10), (1, 11), (3, 12), (1, 13), (1, 14)] Try_mixed (by kernel_rfl) (fun w61 hk62 => ?_)
   have ht63 := Kp.tr (Dw := Dw) hk62 hA hB
   replace hH := Hp.kp (Dw := Dw) hH hk62
   replace h47 := El.tr (Dw := Dw) h47 ht63
   replace hr17 := Tr.trans (Dw := Dw) hr17 ht63
   replace hB := Nat.le_trans hB ht63.ex.size
   replace hA := ht63.new
   refine CH_q2 (Dw := Dw) rfl ?_
   refine VQ_y (fun w' hw' => Y_move rfl) rfl rfl rfl ?_
   refine VQ_CH (Dw := Dw) ?_
   refine CH_q2 (Dw := Dw) rfl ?_
   refine VQ_y (fun w' hw' => Y_move rfl) rfl rfl rfl ?_
   refine VQ_CH (Dw := Dw) ?_
   refine CH_q2 (Dw := Dw) rfl ?_
   refine VQ_y (fun w' hw' => Y_nilCheck rfl) rfl rfl rfl ?_
   refine VQ_CH (Dw := Dw) ?_
   refine CH_q2 (Dw := Dw) rfl ?_
   refine VQ_y (fun w' hw' => Y_fieldAddrC (off2 := 0) Try.underlying75 rfl Try.sizeOf73 (by decide) rfl rfl) rfl rfl rfl ?_
   refine VQ_CH (Dw := Dw) ?_
   refine CH_q1 (Dw := Dw) rfl ?_
   refine VQ_y (fun w' hw' => Y_load ((World.cell?_of_block (hw'.block _ (World.block_lt_of_cell? _ _ (Hp.cell (j := 0) hH (i := 0) rfl rfl)))).trans (Hp.cell (j := 0) hH (i := 0) rfl rfl)) Try.isAgg73 rfl) rfl rfl rfl ?_
   refine VQ_CH (Dw := Dw) ?_
   refine CH_q2 (Dw := Dw) rfl ?_
   have h64 := El_level_Piece_2 h47
   refine VQ_y (fun w' hw' => Y_fieldAddr Try.underlying62 rfl Try.sizeOf3 (by decide) rfl) rfl rfl rfl ?_
   refine VQ_CH (Dw := Dw) ?_
   refine CH_q2 (Dw := Dw) rfl ?_
   refine VQ_y (fun w' hw' => Y_load (El.int (El.keep h64 (XA.ex hw'))) Try.isAgg3 rfl) rfl rfl rfl ?_
   refine VQ_CH (Dw := Dw) ?_
   refine CH_q1 (Dw := Dw) rfl ?_
   obtain ⟨x65, hx65, h29⟩ := Option.bind_eq_some_iff.1 h29
   refine VQ_indexAddrPS (f := obCk 102 portref2_ShiftsIn) (e := 76) (v := v_x) (cs := x.clocks) hH (i := 1) rfl hx65 Try.underlying73 Try.sizeOf76 rfl rfl rfl ?_
   intro b66 o67 b69 hk70 h68 hH
   replace hH : Hp B A26 w61 (obCk 102 portref2_ShiftsIn b69 x65 :: obC b_x [v_x] 75 :: obPX (obCk 102 portref2_ShiftsIn) 76 v_x x.clocks (Int.toNat x37.calendar) b69 :: L) := hH
   refine VQ_CH (Dw := Dw) ?_
   refine CH_q1 (Dw := Dw) rfl ?_
   refine VQ_y (fun w' hw' => Y_load ((World.cell?_of_block (hw'.block _ (World.block_lt_of_cell? _ _ (h68)))).trans (h68)) Try.isAgg76 rfl) rfl rfl rfl ?_
   refine VQ_CH (Dw := Dw) ?_
   refine CH_q2 (Dw := Dw) rfl ?_
   have h71 := El_level_Piece_0 h47
   refine VQ_y (fun w' hw' => Y_fieldAddr Try.underlying62 rfl Try.sizeOf3 (by decide) rfl) rfl rfl rfl ?_
   refine VQ_CH (Dw := Dw) ?_
   refine CH_q2 (Dw := Dw) rfl ?_
   refine VQ_y (fun w' hw' => Y_load (El.int (El.keep h71 (XA.ex hw'))) Try.isAgg3 rfl) rfl rfl rfl ?_
   refine VQ_CH (Dw := Dw) ?_
   refine CH_q2 (Dw := Dw) rfl ?_
   refine VQ_y (fun w' hw' => Y_move rfl) rfl rfl rfl ?_
   refine VQ_CH (Dw := Dw) ?_
   refine CH_l1 (Dw := Dw) (k := 1) rfl ?_
   obtain ⟨x72, hx72, h29⟩ := Option.bind_eq_some_iff.1 h29
   refine V_call Try.call43 rfl rfl rfl rfl (portref2_Clock_Worked_c (Dw := Dw) w61 hB hA x65 b69 x37.from_ s52 hH hx72) ?_
   rintro _ w73 ⟨A74, rfl, hH75, ht76⟩
   replace hr17 := Tr.trans (Dw := Dw) hr17 ht76
   replace hH : Hp B A74 w73 (obCk 102 portref2_ShiftsIn b69 x65 :: obC b_x [v_x] 75 :: obPX (obCk 102 portref2_ShiftsIn) 76 v_x x.clocks (Int.toNat x37.calendar) b69 :: L) := hH75
   replace hH : Hp B A74 w73 (obC b_x [v_x] 75 :: obPS (obCk 102 portref2_ShiftsIn) 76 v_x x.clocks :: L) := Hp.psBack hH (i := 1) rfl hk70
   refine V_CHx (Dw := Dw) (XA.tr (Dw := Dw) ht76) ?_
   refine CH_q2 (Dw := Dw) rfl ?_
   refine VQ_y (fun w' hw' => Y_addI rfl rfl) rfl rfl rfl ?_
   refine VQ_CH (Dw := Dw) ?_
   refine CH_q2 (Dw := Dw) rfl ?_
   refine VQ_y (fun w' hw' => Y_assign rfl) rfl rfl rfl ?_
   refine VQ_CH (Dw := Dw) ?_
   refine CH_tail (Dw := Dw) ?_
   show V _ _ _ _ [] _ _
   refine V_to (fun _ _ => rfl) ?_
   refine C_region ?_
   refine V_y (Y_addI rfl rfl) rfl rfl rfl ?_
   refine V_y (Y_move rfl) rfl rfl rfl ?_
   obtain rfl := Option.some.inj h29
   refine V_end (fun a ha77 => ?_)
   exact ⟨w64 (s24 + x72), hlt32, h30, ⟨A74, ha77.sub ⟨rfl, rfl, rfl, rfl, rfl, (congrArg (fun z => some (Value.int .i64 z)) (w64_succ hlt32 hn35)), trivial⟩, ⟨hH, hr17⟩⟩⟩
  ·refine C_exit (fun a ha78 => ?_)
   exact ⟨(s24, A26), ha78.sub ⟨rfl, trivial⟩, ⟨(h33 (eq_of_dec hle31 hc36)).symm, hH, hr17⟩⟩
 rintro ⟨s16, A22⟩ w19 ⟨rfl, hH23, hk20⟩ a ha21
 rw [Lp.andThen_fin] at hm
 replace hK := Tr.trans (Dw := Dw) hK hk20
 replace hA := hk20.new
 replace hH : Hp B A22 w19 (obC b_x [v_x] 75 :: obPS (obCk 102 portref2_ShiftsIn) 76 v_x x.clocks :: L) := hH23
 refine C_at (n := ⟨42, [], none⟩) (fun _ _ => rfl) ?_ ha21
 refine C_seq ?_
 refine C_region ?_
 refine V_y (Y_move rfl) rfl rfl rfl ?_
 refine V_y (Y_assign rfl) rfl rfl rfl ?_
 refine V_to (fun _ _ => rfl) ?_
 obtain rfl := Option.some.inj hm
 refine C_ret ?_
 try simp only [↓inBlock_ret, ↓then_ret]
 exact retQ rfl (Res.one Try.results25 rfl) ⟨A22, rfl, hH, hK⟩
set_option maxRecDepth 4000 in
set_option maxHeartbeats 4000000 in
theorem portref2_RankOf_1_c (w : World) {A : Nat → Prop} {B : Nat} (hB : B ≤ w.heap.size) (hA : ∀ b, w.heap.size ≤ b → A b) (i_ : Int) (p1 : (List level_Clock)) (b_p1 : Nat) (h_p1 : El A w b_p1 0 p1) (p2 : portref2_meter) (b_p2 c_p2 : Nat) (v_p20 : Value) (k_p2 : Vb A w c_p2 (.pointer (some ⟨b_p2, 0, none⟩))) (p3 : Int) (b_p3 : Nat) (h_p3 : El A w b_p3 0 p3) {L : List Ob} (hH : Hp B A w (obC b_p2 [v_p20] 75 :: obPS (obCk 102 portref2_ShiftsIn) 76 v_p20 p2.clocks :: L)) {r : Int} (hm : portref2_RankOf_1 i_ p1 p2 p3 = some r) : Ret Try.prog 24 #[.int .i64 i_, .pointer (some ⟨b_p1, 0, none⟩), .pointer (some ⟨c_p2, 0, none⟩), .pointer (some ⟨b_p3, 0, none⟩)] w fun v w' => ∃ A1 : Nat → Prop, v = .int .i64 r ∧ Hp B A1 w' (obC b_p2 [v_p20] 75 :: obPS (obCk 102 portref2_ShiftsIn) 76 v_p20 p2.clocks :: L) ∧ Tr Dw B A w A1 w' := by
 unfold portref2_RankOf_1 at hm
 refine enter Try.func24 rfl Try.ntmps24 rfl ?_
 have hK : Tr Dw B A w A w := Tr.refl (Dw := Dw) hA
 refine C_seq ?_
 refine C_region ?_
 refine V_y (Y_assign rfl) rfl rfl rfl ?_
 refine V_to (fun _ _ => rfl) ?_
 refine C_seq ?_
 refine C_region_ch (Dw := Dw) A 14 [(1, 0), (1, 1), (1, 2), (1, 3), (1, 4), (0, 5), (1, 6), (1, 7), (1, 8), (1, 9), (1, 10), (3, 11), (1, 12), (1, 13)] Try_mixed (by kernel_rfl) (fun w3 hk4 => ?_)
 have ht5 := Kp.tr (Dw := Dw) hk4 hA hB
 replace hH := Hp.kp (Dw := Dw) hH hk4
 replace h_p1 := El.tr (Dw := Dw) h_p1 ht5
 replace k_p2 := Vb.tr (Dw := Dw) k_p2 ht5
 replace h_p3 := El.tr (Dw := Dw) h_p3 ht5
 replace hK := Tr.trans (Dw := Dw) hK ht5
 replace hB := Nat.le_trans hB ht5.ex.size
 replace hA := ht5.new
 refine CH_q2 (Dw := Dw) rfl ?_
 obtain ⟨v6, h7, h8⟩ := El.list h_p1
 refine VQ_y (fun w' hw' => Y_load ((World.cell?_of_block (hw'.2 _ h_p1.2.1 h_p1.1)).trans h7) Try.isAgg22 rfl) rfl rfl rfl ?_
 refine VQ_CH (Dw := Dw) ?_
 refine CH_q2 (Dw := Dw) rfl ?_
 refine VQ_y (fun w' hw' => Y_move rfl) rfl rfl rfl ?_
 refine VQ_CH (Dw := Dw) ?_
 refine CH_q2 (Dw := Dw) rfl ?_
 obtain ⟨x9, hx9, hm⟩ := Option.bind_eq_some_iff.1 hm
 refine VQ_indexAddr h8 hx9 Try.underlying22 Try.sizeOf37 rfl rfl rfl ?_
 intro b10 o11 h12
 refine VQ_CH (Dw := Dw) ?_
 refine CH_q2 (Dw := Dw) rfl ?_
 have h13 := El_level_Clock_2 h12
 refine VQ_y (fun w' hw' => Y_fieldAddr Try.underlying37 rfl Try.sizeOf3 (by decide) rfl) rfl rfl rfl ?_
 refine VQ_CH (Dw := Dw) ?_
 refine CH_q2 (Dw := Dw) rfl ?_
 refine VQ_y (fun w' hw' => Y_load (El.int (El.keep h13 (XA.ex hw'))) Try.isAgg3 rfl) rfl rfl rfl ?_
 refine VQ_CH (Dw := Dw) ?_
 refine CH_q1 (Dw := Dw) rfl ?_
 refine VQ_y (fun w' hw' => Y_load ((Vb.kp (Dw := Dw) k_p2 hw').2.2) Try.isAgg45 rfl) rfl rfl rfl ?_
 refine VQ_CH (Dw := Dw) ?_
 refine CH_q2 (Dw := Dw) rfl ?_
 obtain ⟨v14, h15, h16⟩ := El.list h_p1
 refine VQ_y (fun w' hw' => Y_load ((World.cell?_of_block (hw'.2 _ h_p1.2.1 h_p1.1)).trans h15) Try.isAgg22 rfl) rfl rfl rfl ?_
 refine VQ_CH (Dw := Dw) ?_
 refine CH_q2 (Dw := Dw) rfl ?_
 refine VQ_y (fun w' hw' => Y_move rfl) rfl rfl rfl ?_
 refine VQ_CH (Dw := Dw) ?_
 refine CH_q2 (Dw := Dw) rfl ?_
 refine VQ_indexAddr h16 hx9 Try.underlying22 Try.sizeOf37 rfl rfl rfl ?_
 intro b17 o18 h19
 refine VQ_CH (Dw := Dw) ?_
 refine CH_q2 (Dw := Dw) rfl ?_
 obtain ⟨v20, h22, h21⟩ := El_level_Clock h19
 refine VQ_y (fun w' hw' => Y_loadA (At.same h22 (hw'.2 _ h19.2.1 h19.1)) Try.isAgg37 Try.sizeOf37 rfl) rfl rfl rfl ?_
 refine VQ_CH (Dw := Dw) ?_
 refine CH_q2 (Dw := Dw) rfl ?_
 refine VQ_y (fun w' hw' => Y_load (El.int (El.keep h_p3 (XA.ex hw'))) Try.isAgg3 rfl) rfl rfl rfl ?_
 refine VQ_CH (Dw := Dw) ?_
 refine CH_l1 (Dw := Dw) (k := 1) rfl ?_
 replace hH : Hp B A w3 (obPS (obCk 102 portref2_ShiftsIn) 76 v_p20 p2.clocks :: obC b_p2 [v_p20] 75 :: L) := Hp.front hH (i := 1) rfl
 replace hH : Hp B A w3 (obC b_p2 [v_p20] 75 :: obPS (obCk 102 portref2_ShiftsIn) 76 v_p20 p2.clocks :: L) := Hp.front hH (i := 1) rfl
 obtain ⟨x23, hx23, hm⟩ := Option.bind_eq_some_iff.1 hm
 refine V_call Try.call25 rfl rfl rfl rfl (portref2_meter_elapsed_c (Dw := Dw) w3 hB hA p2 b_p2 v_p20 x9 v20 h21 p3 hH hx23) ?_
 rintro _ w24 ⟨A25, rfl, hH26, ht27⟩
 replace k_p2 := Vb.tr (Dw := Dw) k_p2 ht27
 replace hK := Tr.trans (Dw := Dw) hK ht27
 replace hH : Hp B A25 w24 (obC b_p2 [v_p20] 75 :: obPS (obCk 102 portref2_ShiftsIn) 76 v_p20 p2.clocks :: L) := hH26
 refine V_CHx (Dw := Dw) (XA.tr (Dw := Dw) ht27) ?_
 refine CH_q2 (Dw := Dw) rfl ?_
 refine VQ_y (fun w' hw' => Y_subI rfl rfl) rfl rfl rfl ?_
 refine VQ_CH (Dw := Dw) ?_
 refine CH_q2 (Dw := Dw) rfl ?_
 refine VQ_y (fun w' hw' => Y_assign rfl) rfl rfl rfl ?_
 refine VQ_CH (Dw := Dw) ?_
 refine CH_tail (Dw := Dw) ?_
 show V _ _ _ _ [] _ _
 refine V_to (fun _ _ => rfl) ?_
 obtain rfl := Option.some.inj hm
 refine C_ret ?_
 try simp only [↓inBlock_ret, ↓then_ret]
 exact retQ rfl (Res.one Try.results24 rfl) ⟨A25, rfl, hH, hK⟩
theorem XA.of {A : Nat → Prop} {w w1 w' : World} (hk : Kp Dw w w1) (hw : XA (fun k => A k ∧ k < w.heap.size) w1 w') : Ex A w (fun _ => True) w' := ⟨Nat.le_trans hk.size hw.1, fun b hb ha => ⟨trivial, (hw.2 b (Nat.lt_of_lt_of_le hb hk.size) ⟨ha, hb⟩).trans (hk.block b hb)⟩⟩
set_option maxRecDepth 4000 in
set_option maxHeartbeats 4000000 in
theorem portref2_RankOf_2_c (w : World) {A : Nat → Prop} {B : Nat} (hB : B ≤ w.heap.size) (hA : ∀ b, w.heap.size ≤ b → A b) (a_ : Int) (b : Int) (p2 : Int → Option Int) (p2_Y : Ob) (p2_v : Value) (p2_one : p2_v.cells.toList = [p2_v]) (p2_spec : ∀ (w2 : World) (A2 : Nat → Prop) (L2 : List Ob) (x : Int) (b : Int), B ≤ w2.heap.size → (∀ b, w2.heap.size ≤ b → A2 b) → Tr Dw B A w A2 w2 → Hp B A2 w2 (p2_Y :: L2) → p2 x = some b → CallV Try.prog p2_v [.int .i64 x] w2 fun v w3 => v = .int .i64 b ∧ ∃ A3, Tr Dw B A2 w2 A3 w3 ∧ Hp B A3 w3 (p2_Y :: L2)) (b_p2 : Nat) (h_p2 : Vb A w b_p2 p2_v) (p3 : (List level_Clock)) (b_p3 : Nat) (h_p3 : El A w b_p3 0 p3) {L : List Ob} (hH : Hp B A w (p2_Y :: L)) {r : Int} (hm : portref2_RankOf_2 a_ b p2 p3 = some r) : Ret Try.prog 27 #[.int .i64 a_, .int .i64 b, .pointer (some ⟨b_p2, 0, none⟩), .pointer (some ⟨b_p3, 0, none⟩)] w fun v w' => ∃ A1 : Nat → Prop, v = .int .i64 r ∧ Hp B A1 w' (p2_Y :: L) ∧ Tr Dw B A w A1 w' := by
 unfold portref2_RankOf_2 at hm
 refine enter Try.func27 rfl Try.ntmps27 rfl ?_
 have hK : Tr Dw B A w A w := Tr.refl (Dw := Dw) hA
 obtain ⟨x4, hx4, hm⟩ := Option.bind_eq_some_iff.1 hm
 obtain ⟨x9, hx9, hm⟩ := Option.bind_eq_some_iff.1 hm
 obtain ⟨x17, hx17, hm⟩ := Option.bind_eq_some_iff.1 hm
 obtain ⟨x25, hx25, hm⟩ := Option.bind_eq_some_iff.1 hm
 obtain ⟨x37, hx37, hm⟩ := Option.bind_eq_some_iff.1 hm
 obtain rfl := Option.some.inj hm
 refine C_seq ?_
 refine C_region ?_
 refine V_y (Y_assign rfl) rfl rfl rfl ?_
 refine V_to (fun _ _ => rfl) ?_
 refine C_seq ?_
 refine C_region_ch (Dw := Dw) (fun k => A k ∧ k < w.heap.size) 20 [(1, 0), (1, 1), (1, 3), (1, 4), (1, 7), (1, 8), (1, 9), (1, 10), (1, 11), (1, 12), (1, 13), (1, 14), (1, 15), (1, 16), (3, 2), (3, 5), (2, 6), (2, 17), (2, 18), (2, 19)] Try_mixed (by kernel_rfl) (fun w1 hk1 => ?_)
 obtain ⟨v14, h15, h16⟩ := El.list h_p3
 have rdF : ∀ w', XA (fun k => A k ∧ k < w.heap.size) w1 w' → w'.cell? ⟨b_p2, 0, none⟩ = some p2_v := fun w' hw' => (World.cell?_of_block (a := ⟨b_p2, 0, none⟩) ((XA.of hk1 hw').block _ h_p2.2.1 h_p2.1).2).trans h_p2.2.2
 have rdL : ∀ w', XA (fun k => A k ∧ k < w.heap.size) w1 w' → w'.cell? ⟨b_p3, 0, none⟩ = some v14 := fun w' hw' => (World.cell?_of_block (a := ⟨b_p3, 0, none⟩) ((XA.of hk1 hw').block _ h_p3.2.1 h_p3.1).2).trans h15
 refine CH_q2 (Dw := Dw) rfl ?_
 refine VQ_y (fun w' hw' => Y_load (rdF w' hw') Try.isAgg49 rfl) rfl rfl rfl ?_
 refine VQ_CH (Dw := Dw) ?_
 refine CH_q2 (Dw := Dw) rfl ?_
 refine VQ_y (fun w' hw' => Y_move rfl) rfl rfl rfl ?_
 refine VQ_CH (Dw := Dw) ?_
 refine CH_q2 (Dw := Dw) rfl ?_
 refine VQ_y (fun w' hw' => Y_load (rdF w' hw') Try.isAgg49 rfl) rfl rfl rfl ?_
 refine VQ_CH (Dw := Dw) ?_
 refine CH_q2 (Dw := Dw) rfl ?_
 refine VQ_y (fun w' hw' => Y_move rfl) rfl rfl rfl ?_
 refine VQ_CH (Dw := Dw) ?_
 refine CH_q2 (Dw := Dw) rfl ?_
 refine VQ_y (fun w' hw' => Y_load (rdL w' hw') Try.isAgg22 rfl) rfl rfl rfl ?_
 refine VQ_CH (Dw := Dw) ?_
 refine CH_q2 (Dw := Dw) rfl ?_
 refine VQ_y (fun w' hw' => Y_move rfl) rfl rfl rfl ?_
 refine VQ_CH (Dw := Dw) ?_
 refine CH_q2 (Dw := Dw) rfl ?_
 refine VQ_indexAddr h16 hx17 Try.underlying22 Try.sizeOf37 rfl rfl rfl ?_
 intro b18 o19 h20
 have h21 := El_level_Clock_3 h20
 refine VQ_CH (Dw := Dw) ?_
 refine CH_q2 (Dw := Dw) rfl ?_
 refine VQ_y (fun w' hw' => Y_fieldAddr Try.underlying37 rfl Try.sizeOf3 (by decide) rfl) rfl rfl rfl ?_
 refine VQ_CH (Dw := Dw) ?_
 refine CH_q2 (Dw := Dw) rfl ?_
 refine VQ_y (fun w' hw' => Y_load (El.int (El.keep h21 (XA.of hk1 hw'))) Try.isAgg3 rfl) rfl rfl rfl ?_
 refine VQ_CH (Dw := Dw) ?_
 refine CH_q2 (Dw := Dw) rfl ?_
 refine VQ_y (fun w' hw' => Y_load (rdL w' hw') Try.isAgg22 rfl) rfl rfl rfl ?_
 refine VQ_CH (Dw := Dw) ?_
 refine CH_q2 (Dw := Dw) rfl ?_
 refine VQ_y (fun w' hw' => Y_move rfl) rfl rfl rfl ?_
 refine VQ_CH (Dw := Dw) ?_
 refine CH_q2 (Dw := Dw) rfl ?_
 refine VQ_indexAddr h16 hx25 Try.underlying22 Try.sizeOf37 rfl rfl rfl ?_
 intro b26 o27 h28
 have h29 := El_level_Clock_3 h28
 refine VQ_CH (Dw := Dw) ?_
 refine CH_q2 (Dw := Dw) rfl ?_
 refine VQ_y (fun w' hw' => Y_fieldAddr Try.underlying37 rfl Try.sizeOf3 (by decide) rfl) rfl rfl rfl ?_
 refine VQ_CH (Dw := Dw) ?_
 refine CH_q2 (Dw := Dw) rfl ?_
 refine VQ_y (fun w' hw' => Y_load (El.int (El.keep h29 (XA.of hk1 hw'))) Try.isAgg3 rfl) rfl rfl rfl ?_
 refine VQ_CH (Dw := Dw) ?_
 have ht3 := Kp.tr (Dw := Dw) hk1 hA hB
 replace hH := Hp.kp (Dw := Dw) hH hk1
 replace hK := Tr.trans (Dw := Dw) hK ht3
 replace hB := Nat.le_trans hB ht3.ex.size
 replace hA := ht3.new
 refine CH_l1 (Dw := Dw) (k := 1) rfl ?_
 refine V_callV rfl rfl rfl (p2_spec w1 _ _ a_ x4 hB hA hK hH hx4) ?_
 rintro _ w5 ⟨rfl, A6, ht8, hH7⟩
 replace hK := Tr.trans (Dw := Dw) hK ht8
 replace hB := Nat.le_trans hB ht8.ex.size
 replace hA := ht8.new
 refine V_CHx (Dw := Dw) (XA.less (XA.tr (Dw := Dw) ht8) (fun k hk ha => ha.1)) ?_
 refine CH_l1 (Dw := Dw) (k := 1) rfl ?_
 refine V_callV rfl rfl rfl (p2_spec w5 _ _ b x9 hB hA hK hH7 hx9) ?_
 rintro _ w10 ⟨rfl, A11, ht13, hH12⟩
 replace hK := Tr.trans (Dw := Dw) hK ht13
 replace hB := Nat.le_trans hB ht13.ex.size
 replace hA := ht13.new
 refine V_CHx (Dw := Dw) (XA.less (XA.tr (Dw := Dw) ht13) (fun k hk ha => (ht8.ex.block k (Nat.lt_of_lt_of_le ha.2 hk1.size) ha.1).1)) ?_
 refine CH_l1 (Dw := Dw) (k := 0) rfl ?_
 refine V_call Try.call18 rfl rfl rfl rfl (cmp_Compare_int_c w10 x4 x9) ?_
 rintro _ _ ⟨rfl, rfl⟩
 refine V_CH (Dw := Dw) (Kp.refl (Dw := Dw) _) ?_
 refine CH_l1 (Dw := Dw) (k := 0) rfl ?_
 refine V_call Try.call18 rfl rfl rfl rfl (cmp_Compare_int_c w10 x17.start x25.start) ?_
 rintro _ _ ⟨rfl, rfl⟩
 refine V_CH (Dw := Dw) (Kp.refl (Dw := Dw) _) ?_
 refine CH_l1 (Dw := Dw) (k := 0) rfl ?_
 refine V_buildSlice (Dw := Dw) (cells := #[.int .i64 (cmp_Compare_int x4 x9), .int .i64 (cmp_Compare_int x17.start x25.start)]) (l := ([(cmp_Compare_int x4 x9), (cmp_Compare_int x17.start x25.start)] : List Int)) (len := 2) Try.underlying27 Try.sizeOf3 Try.zeroValue3 rfl (by generalize ((cmp_Compare_int x17.start x25.start) : Int) = z34; generalize ((cmp_Compare_int x4 x9) : Int) = z35; kernel_rfl) (show (2 * 1 : Nat) ≠ 0 by decide) (show (2 * 1 : Nat) ≤ 2 ^ 24 by decide) hA ⟨[.int .i64 (cmp_Compare_int x4 x9)], _, rfl, rfl, ⟨[.int .i64 (cmp_Compare_int x17.start x25.start)], _, rfl, rfl, rfl⟩⟩ rfl rfl ?_
 intro v30 w31 hk33 h32
 have ht36 := Kp.tr (Dw := Dw) hk33 hA hB
 replace hH12 := Hp.kp (Dw := Dw) hH12 hk33
 replace hK := Tr.trans (Dw := Dw) hK ht36
 refine V_CH (Dw := Dw) hk33 ?_
 refine CH_l1 (Dw := Dw) (k := 0) rfl ?_
 refine V_call Try.call17 rfl rfl rfl rfl (cmp_Or_int_c w31 ([(cmp_Compare_int x4 x9), (cmp_Compare_int x17.start x25.start)] : List Int) v30 h32 hx37) ?_
 rintro _ _ ⟨rfl, rfl⟩
 refine V_CH (Dw := Dw) (Kp.refl (Dw := Dw) _) ?_
 refine CH_tail (Dw := Dw) ?_
 show V _ _ _ _ [_] _ _
 refine V_y (Y_assign rfl) rfl rfl rfl ?_
 refine V_to (fun _ _ => rfl) ?_
 refine C_ret ?_
 try simp only [↓inBlock_ret, ↓then_ret]
 exact retQ rfl (Res.one Try.results27 rfl) ⟨A11, rfl, hH12, hK⟩
set_option maxRecDepth 4000 in
set_option maxHeartbeats 4000000 in
theorem portref2_RankOf_c (w : World) {A : Nat → Prop} (hA : ∀ b, w.heap.size ≤ b → A b) (l : (List level_Clock)) (v_l : Value) (h_l : Sl A w v_l l) (cals : (List cal_Calendar)) (v_cals : Value) (h_cals : Sl A w v_cals cals) (m : Int) {r : ((List Int) × Int)} (hm : portref2_RankOf l cals m = some r) : Ret Try.prog 7 #[v_l, v_cals, .int .i64 m] w fun v w' => ∃ s0, v = .tuple #[s0, .int .i64 r.2] ∧ Ownd 3 w w' s0 r.1 ∧ Kp Dw w w' := by
 unfold portref2_RankOf at hm
 refine enter Try.func7 rfl Try.ntmps7 rfl ?_
 have hA0 := hA
 have hB := Nat.le_refl w.heap.size
 have hK : Tr Dw w.heap.size A w A w := Tr.refl (Dw := Dw) hA
 have hH : Hp w.heap.size A w [] := Hp.nil
 refine C_seq ?_
 refine C_region ?_
 refine V_box rfl rfl ?_
 intro b5 w6 h7
 have h12 : (v_l).oneCell' = true := by obtain ⟨_, _, e, _⟩ := Sl.form h_l; rw [e]; rfl
 have hk9 := h7.kp (Dw := Dw)
 have h8 : El (α := (List level_Clock)) A w6 b5 0 l := h7.el hA (by rw [Value.cells_one h12]; exact ⟨_, rfl, h_l⟩)
 have ht13 := Kp.tr (Dw := Dw) hk9 hA hB
 replace hH := Hp.kp (Dw := Dw) hH hk9
 replace h_cals := Sl.tr (Dw := Dw) h_cals ht13
 replace hK := Tr.trans (Dw := Dw) hK ht13
 replace hB := Nat.le_trans hB ht13.ex.size
 replace hA := ht13.new
 refine V_box rfl rfl ?_
 intro b14 w15 h16
 have hk18 := h16.kp (Dw := Dw)
 have h17 : El (α := Int) A w15 b14 0 m := h16.el hA rfl
 have ht19 := Kp.tr (Dw := Dw) hk18 hA hB
 replace hH := Hp.kp (Dw := Dw) hH hk18
 replace h_cals := Sl.tr (Dw := Dw) h_cals ht19
 replace h8 := El.tr (Dw := Dw) h8 ht19
 replace hK := Tr.trans (Dw := Dw) hK ht19
 replace hB := Nat.le_trans hB ht19.ex.size
 replace hA := ht19.new
 refine V_y (Y_assign rfl) rfl rfl rfl ?_
 refine V_y (Y_assign rfl) rfl rfl rfl ?_
 refine V_to (fun _ _ => rfl) ?_
 refine C_seq ?_
 refine C_seq ?_
 refine C_region ?_
 obtain ⟨v20, h21, h22⟩ := El.list h8
 refine V_y (Y_load h21 Try.isAgg22 rfl) rfl rfl rfl ?_
 refine V_y (Y_move rfl) rfl rfl rfl ?_
 obtain ⟨x23, hx23, hm⟩ := Option.bind_eq_some_iff.1 hm
 refine V_call Try.call19 rfl rfl rfl rfl (portref2_clocksFault_c (Dw := Dw) w15 hA l v20 h22 cals v_cals h_cals hx23) ?_
 rintro _ w24 ⟨rfl, hk25⟩
 have ht26 := Kp.tr (Dw := Dw) hk25 hA hB
 replace hH := Hp.kp (Dw := Dw) hH hk25
 replace h_cals := Sl.tr (Dw := Dw) h_cals ht26
 replace h8 := El.tr (Dw := Dw) h8 ht26
 replace h17 := El.tr (Dw := Dw) h17 ht26
 replace hK := Tr.trans (Dw := Dw) hK ht26
 replace hB := Nat.le_trans hB ht26.ex.size
 replace hA := ht26.new
 refine V_y (Y_assign rfl) rfl rfl rfl ?_
 refine V_to (fun _ _ => rfl) ?_
 refine C_seq ?_
 refine C_region ?_
 refine V_y (Y_move rfl) rfl rfl rfl ?_
 refine V_y (Y_neq rfl rfl) rfl rfl rfl ?_
 refine V_to (fun _ _ => rfl) ?_
 refine C_cond rfl (fun hc27 => ?_) (fun hc27 => ?_)
 ·rw [if_pos hc27] at hm
  refine C_seq ?_
  refine C_region ?_
  refine V_y (Y_move rfl) rfl rfl rfl ?_
  refine V_y (Y_assign rfl) rfl rfl rfl ?_
  refine V_y (Y_assign rfl) rfl rfl rfl ?_
  refine V_to (fun _ _ => rfl) ?_
  obtain rfl := Option.some.inj hm
  replace hH : Hp w.heap.size A w24 (obS (α := Int) 3 (.slice none 0 0) ([] : (List Int)) :: []) := Hp.addNil (α := Int) (e := 3) hH
  refine C_ret ?_
  try simp only [↓inBlock_ret, ↓then_ret]
  exact retQ rfl (Res.two Try.results7 rfl rfl) ⟨.slice none 0 0, rfl, (Hp.ownd hH (i := 0) rfl), hK.kp⟩
 ·rw [if_neg (nt hc27)] at hm
  refine C_skip_to (fun _ _ => rfl) ?_
  refine C_seq ?_
  refine C_seq ?_
  refine C_region ?_
  refine V_y (Y_load (El.int h17) Try.isAgg3 rfl) rfl rfl rfl ?_
  refine V_call Try.call20 rfl rfl rfl rfl (portref2_IsMoment_c w24 m) ?_
  rintro _ _ ⟨rfl, rfl⟩
  refine V_y (Y_not rfl) rfl rfl rfl ?_
  refine V_to (fun _ _ => rfl) ?_
  refine C_cond rfl (fun hc28 => ?_) (fun hc28 => ?_)
  ·rw [if_pos hc28] at hm
   refine C_seq ?_
   refine C_region ?_
   refine V_y (Y_assign rfl) rfl rfl rfl ?_
   refine V_y (Y_assign rfl) rfl rfl rfl ?_
   refine V_to (fun _ _ => rfl) ?_
   obtain rfl := Option.some.inj hm
   replace hH : Hp w.heap.size A w24 (obS (α := Int) 3 (.slice none 0 0) ([] : (List Int)) :: []) := Hp.addNil (α := Int) (e := 3) hH
   refine C_ret ?_
   try simp only [↓inBlock_ret, ↓then_ret]
   exact retQ rfl (Res.two Try.results7 rfl rfl) ⟨.slice none 0 0, rfl, (Hp.ownd hH (i := 0) rfl), hK.kp⟩
  ·rw [if_neg (nt hc28)] at hm
   refine C_skip_to (fun _ _ => rfl) ?_
   refine C_seq ?_
   refine C_region ?_
   refine V_y (Y_move rfl) rfl rfl rfl ?_
   obtain ⟨x29, hx29, hm⟩ := Option.bind_eq_some_iff.1 hm
   refine V_call Try.call21 rfl rfl rfl rfl (portref2_newMeter_c (Dw := Dw) w24 hB hA cals v_cals h_cals hH hx29) ?_
   rintro _ w33 ⟨b30, v31, A34, rfl, hH35, ht36⟩
   replace h8 := El.tr (Dw := Dw) h8 ht36
   replace h17 := El.tr (Dw := Dw) h17 ht36
   replace hK := Tr.trans (Dw := Dw) hK ht36
   replace hB := Nat.le_trans hB ht36.ex.size
   replace hA := ht36.new
   replace hH : Hp w.heap.size A34 w33 (obC b30 [v31] 75 :: obPS (obCk 102 portref2_ShiftsIn) 76 v31 x29.clocks :: []) := hH35
   refine V_alloc Try.zeroValue45 rfl ?_
   intro b37 w38 h39
   refine V_storeNew h39 Try.sizeOf45 rfl rfl rfl rfl (by simp [Value.cells, Value.oneCell']) ?_
   intro w40 h41
   have hk42 := h41.kp (Dw := Dw)
   have h43 : Vb A34 w40 b37 (.pointer (some ⟨b30, 0, none⟩)) := h41.vb hA rfl
   have ht44 := Kp.tr (Dw := Dw) hk42 hA hB
   replace hH := Hp.kp (Dw := Dw) hH hk42
   replace h8 := El.tr (Dw := Dw) h8 ht44
   replace h17 := El.tr (Dw := Dw) h17 ht44
   replace hK := Tr.trans (Dw := Dw) hK ht44
   replace hB := Nat.le_trans hB ht44.ex.size
   replace hA := ht44.new
   refine V_to (fun _ _ => rfl) ?_
   refine C_seq ?_
   refine C_region ?_
   refine V_y (Y_assign rfl) rfl rfl rfl ?_
   refine V_to (fun _ _ => rfl) ?_
   refine C_seq ?_
   refine C_seq ?_
   refine C_region ?_
   obtain ⟨v45, h46, h47⟩ := El.list h8
   refine V_y (Y_load h46 Try.isAgg22 rfl) rfl rfl rfl ?_
   refine V_y (Y_lenSl h47 rfl Try.underlying22 rfl) rfl rfl rfl ?_
   refine V_y (Y_move rfl) rfl rfl rfl ?_
   refine V_to (fun _ _ => rfl) ?_
   replace hH : Hp w.heap.size A34 w40 (obS (α := Int) 3 (.slice none 0 0) ([] : (List Int)) :: obC b30 [v31] 75 :: obPS (obCk 102 portref2_ShiftsIn) 76 v31 x29.clocks :: []) := Hp.addNil (α := Int) (e := 3) hH
   have hn72 := Sl.le h47
   obtain ⟨o48, ho48, hm⟩ := Option.bind_eq_some_iff.1 hm
   refine C_cutG (ι := ((List Int) × Value × (Nat → Prop))) (fun ⟨s49, v55, A57⟩ => [(3, .pointer (some ⟨b5, 0, none⟩)), (5, .pointer (some ⟨b14, 0, none⟩)), (9, .pointer (some ⟨b37, 0, none⟩)), (10, v55)]) (fun ⟨s49, v55, A57⟩ => fun w' => o48 = .fin s49 ∧ Hp w.heap.size A57 w' (obS (α := Int) 3 v55 s49 :: obC b30 [v31] 75 :: obPS (obCk 102 portref2_ShiftsIn) 76 v31 x29.clocks :: []) ∧ Tr Dw w.heap.size A34 w40 A57 w') ?_ ?_
   ·refine C_block ?_
    refine C_range ho48 (fun k51 s59 a w' => ∃ i : (Value × (Nat → Prop)), Has ⟨45, [], none⟩ a ([(3, .pointer (some ⟨b5, 0, none⟩)), (5, .pointer (some ⟨b14, 0, none⟩)), (9, .pointer (some ⟨b37, 0, none⟩)), (10, i.1), (25, v45), (26, .int .i64 (l.length : Int)), (27, .int .i64 (k51 : Int))]) ∧ Hp w.heap.size i.2 w' (obS (α := Int) 3 i.1 s59 :: obC b30 [v31] 75 :: obPS (obCk 102 portref2_ShiftsIn) 76 v31 x29.clocks :: []) ∧ Tr Dw w.heap.size A34 w40 i.2 w') (fun a ha => ⟨(.slice none 0 0, A34), ha.sub ⟨rfl, rfl, rfl, rfl, rfl, rfl, rfl, trivial⟩, ⟨hH, Tr.refl (Dw := Dw) hA⟩⟩) ?_
    rintro K k51 s59 a w60 ⟨⟨v61, A63⟩, ha131, hH64, hr50⟩ hle68 K71 h70
    refine C_of ?_ ha131
    replace h43 := Vb.tr (Dw := Dw) h43 hr50
    replace h47 := Sl.tr (Dw := Dw) h47 hr50
    replace hB := Nat.le_trans hB hr50.ex.size
    replace hA := hr50.new
    replace hH : Hp w.heap.size A63 w60 (obS (α := Int) 3 v61 s59 :: obC b30 [v31] 75 :: obPS (obCk 102 portref2_ShiftsIn) 76 v31 x29.clocks :: []) := hH64
    refine C_seq (C_region (V_y (Y_lss rfl rfl) rfl rfl rfl (V_to (fun _ _ => rfl) ?_)))
    refine C_seq ?_
    refine C_cond rfl (fun hc73 => ?_) (fun hc73 => ?_)
    ·have hlt69 := lt_of_dec hc73
     obtain ⟨x65, h66, h67⟩ := K71 hlt69
     refine C_skip_to (fun _ _ => rfl) ?_
     refine C_seq ?_
     obtain ⟨s75, ho74, h66⟩ := Option.bind_eq_some_iff.1 h66
     refine C_cutG (ι := (Value × (Nat → Prop))) (fun ⟨v77, A82⟩ => [(3, .pointer (some ⟨b5, 0, none⟩)), (5, .pointer (some ⟨b14, 0, none⟩)), (9, .pointer (some ⟨b37, 0, none⟩)), (10, v77), (25, v45), (26, .int .i64 (l.length : Int)), (27, .int .i64 (k51 : Int))]) (fun ⟨v77, A82⟩ => fun w' => Hp w.heap.size A82 w' (obS (α := Int) 3 v77 s75 :: obC b30 [v31] 75 :: obPS (obCk 102 portref2_ShiftsIn) 76 v31 x29.clocks :: []) ∧ Tr Dw w.heap.size A63 w60 A82 w') ?_ ?_
     ·have hr76 : Tr Dw w.heap.size A63 w60 A63 w60 := Tr.refl (Dw := Dw) hA
      refine C_block ?_
      refine C_seq ?_
      refine C_region ?_
      refine V_y (Y_move rfl) rfl rfl rfl ?_
      obtain ⟨x84, hx84, ho74⟩ := Option.bind_eq_some_iff.1 ho74
      refine V_indexAddr h47 hx84 Try.underlying22 Try.sizeOf37 rfl rfl rfl ?_
      intro b85 o86 h87
      obtain ⟨v88, h90, h89⟩ := El_level_Clock h87
      refine V_y (Y_loadA h90 Try.isAgg37 Try.sizeOf37 rfl) rfl rfl rfl ?_
      refine V_alloc Try.zeroValue37 rfl ?_
      intro b91 w92 h93
      refine V_y (Y_assign rfl) rfl rfl rfl ?_
      have h98 : (v88).oneCell' = true := by obtain ⟨_, _, e, _⟩ := Sl.form h89; rw [e]; rfl
      refine V_storeNew h93 Try.sizeOf37 rfl rfl rfl rfl (by exact (List.forall_mem_cons.2 ⟨rfl, (List.forall_mem_cons.2 ⟨rfl, (List.forall_mem_cons.2 ⟨rfl, (List.forall_mem_cons.2 ⟨rfl, (List.forall_mem_cons.2 ⟨rfl, (List.forall_mem_cons.2 ⟨rfl, (List.forall_mem_cons.2 ⟨h98, (fun _ h => nomatch h)⟩)⟩)⟩)⟩)⟩)⟩)⟩)) ?_
      intro w94 h95
      have hk100 := h95.kp (Dw := Dw)
      have h99 : El (α := level_Clock) A63 w94 b91 0 x84 := h95.el hA ⟨[.int .i64 x84.kind], _, rfl, rfl, ⟨[.int .i64 x84.level], _, rfl, rfl, ⟨[.int .i64 x84.minutes], _, rfl, rfl, ⟨[.int .i64 x84.start], _, rfl, rfl, ⟨[.int .i64 x84.stop], _, rfl, rfl, ⟨[.int .i64 x84.end_], _, rfl, rfl, ⟨_, rfl, h89⟩⟩⟩⟩⟩⟩⟩
      have ht101 := Kp.tr (Dw := Dw) hk100 hA hB
      replace hH := Hp.kp (Dw := Dw) hH hk100
      replace h43 := Vb.tr (Dw := Dw) h43 ht101
      replace hr76 := Tr.trans (Dw := Dw) hr76 ht101
      replace hB := Nat.le_trans hB ht101.ex.size
      replace hA := ht101.new
      refine V_to (fun _ _ => rfl) ?_
      refine C_seq ?_
      refine C_region ?_
      have h102 := El_level_Clock_4 h99
      refine V_y (Y_fieldAddr Try.underlying37 rfl Try.sizeOf3 (by decide) rfl) rfl rfl rfl ?_
      refine V_y (Y_load (El.int h102) Try.isAgg3 rfl) rfl rfl rfl ?_
      refine V_y (Y_lss rfl rfl) rfl rfl rfl ?_
      refine V_to (fun _ _ => rfl) ?_
      obtain ⟨s104, ho103, ho74⟩ := Option.bind_eq_some_iff.1 ho74
      refine C_cutG (ι := (Value × (Nat → Prop))) (fun ⟨v106, A111⟩ => [(3, .pointer (some ⟨b5, 0, none⟩)), (5, .pointer (some ⟨b14, 0, none⟩)), (9, .pointer (some ⟨b37, 0, none⟩)), (10, v106), (25, v45), (26, .int .i64 (l.length : Int)), (27, .int .i64 (k51 : Int))]) (fun ⟨v106, A111⟩ => fun w' => Hp w.heap.size A111 w' (obS (α := Int) 3 v106 s104 :: obC b30 [v31] 75 :: obPS (obCk 102 portref2_ShiftsIn) 76 v31 x29.clocks :: []) ∧ Tr Dw w.heap.size A63 w94 A111 w') ?_ ?_
      ·have hr105 : Tr Dw w.heap.size A63 w94 A63 w94 := Tr.refl (Dw := Dw) hA
       refine C_cond rfl (fun hc113 => ?_) (fun hc113 => ?_)
       ·rw [if_pos hc113] at ho103
        refine C_region ?_
        refine V_y (Y_move rfl) rfl rfl rfl ?_
        refine V_y (Y_move rfl) rfl rfl rfl ?_
        refine V_buildSlice (Dw := Dw) (cells := #[.int .i64 (k51 : Int)]) (l := ([(k51 : Int)] : List Int)) (len := 1) Try.underlying27 Try.sizeOf3 Try.zeroValue3 rfl (by generalize ((k51 : Int) : Int) = z118; kernel_rfl) (show (1 * 1 : Nat) ≠ 0 by decide) (show (1 * 1 : Nat) ≤ 2 ^ 24 by decide) hA ⟨[.int .i64 (k51 : Int)], _, rfl, rfl, rfl⟩ rfl rfl ?_
        intro v114 w115 hk117 h116
        have ht119 := Kp.tr (Dw := Dw) hk117 hA hB
        replace hH := Hp.kp (Dw := Dw) hH hk117
        replace h43 := Vb.tr (Dw := Dw) h43 ht119
        replace hr105 := Tr.trans (Dw := Dw) hr105 ht119
        replace hB := Nat.le_trans hB ht119.ex.size
        replace hA := ht119.new
        obtain ⟨x120, hx120, ho103⟩ := Option.bind_eq_some_iff.1 ho103
        refine V_appendH (Dw := Dw) (e := 3) (v := v61) (l := s59) (ti := Try.t3) (bytes := 8) (lim := 17592186044416) hH (i := 0) rfl h116 hx120 Try.underlying27 Try_info3 rfl rfl rfl rfl (by decide) (by decide) (by decide) hB hA rfl rfl rfl ?_
        intro v121 w122 A123 hH124 ht125
        replace h43 := Vb.tr (Dw := Dw) h43 ht125
        replace hr105 := Tr.trans (Dw := Dw) hr105 ht125
        replace hH : Hp w.heap.size A123 w122 (obS (α := Int) 3 v121 x120 :: obC b30 [v31] 75 :: obPS (obCk 102 portref2_ShiftsIn) 76 v31 x29.clocks :: []) := hH124
        refine V_y (Y_assign rfl) rfl rfl rfl ?_
        obtain rfl := Option.some.inj ho103
        refine V_end (fun a ha126 => ?_)
        exact ⟨(v121, A123), ha126.sub ⟨rfl, rfl, rfl, rfl, rfl, rfl, rfl, trivial⟩, ⟨hH, hr105⟩⟩
       ·rw [if_neg (nt hc113)] at ho103
        obtain rfl := Option.some.inj ho103
        refine C_skip (fun a ha127 => ?_)
        exact ⟨(v61, A63), ha127.sub ⟨rfl, rfl, rfl, rfl, rfl, rfl, rfl, trivial⟩, ⟨hH, hr105⟩⟩
      rintro ⟨v106, A111⟩ w108 ⟨hH112, hk109⟩ a ha110
      replace h43 := Vb.tr (Dw := Dw) h43 hk109
      replace hr76 := Tr.trans (Dw := Dw) hr76 hk109
      replace hA := hk109.new
      replace hH : Hp w.heap.size A111 w108 (obS (α := Int) 3 v106 s104 :: obC b30 [v31] 75 :: obPS (obCk 102 portref2_ShiftsIn) 76 v31 x29.clocks :: []) := hH112
      obtain rfl := Option.some.inj ho74
      exact ⟨(v106, A111), ha110.sub ⟨rfl, rfl, rfl, rfl, rfl, rfl, rfl, trivial⟩, ⟨hH, hr76⟩⟩
     rintro ⟨v77, A82⟩ w79 ⟨hH83, hk80⟩ a ha81
     replace h43 := Vb.tr (Dw := Dw) h43 hk80
     replace hr50 := Tr.trans (Dw := Dw) hr50 hk80
     replace hA := hk80.new
     replace hH : Hp w.heap.size A82 w79 (obS (α := Int) 3 v77 s75 :: obC b30 [v31] 75 :: obPS (obCk 102 portref2_ShiftsIn) 76 v31 x29.clocks :: []) := hH83
     refine C_at (n := ⟨45, [], none⟩) (fun _ _ => rfl) ?_ ha81
     refine C_region ?_
     refine V_y (Y_addI rfl rfl) rfl rfl rfl ?_
     refine V_y (Y_move rfl) rfl rfl rfl ?_
     obtain rfl := Option.some.inj h66
     refine V_end (fun a ha129 => ?_)
     exact ⟨s75, hlt69, h67, ⟨(v77, A82), ha129.sub ⟨rfl, rfl, rfl, rfl, rfl, rfl, (congrArg (fun z => some (Value.int .i64 z)) (w64_succ hlt69 hn72)), trivial⟩, ⟨hH, hr50⟩⟩⟩
    ·refine C_exit (fun a ha130 => ?_)
     exact ⟨(s59, v61, A63), ha130.sub ⟨rfl, rfl, rfl, rfl, trivial⟩, ⟨(h70 (eq_of_dec hle68 hc73)).symm, hH, hr50⟩⟩
   rintro ⟨s49, v55, A57⟩ w52 ⟨rfl, hH58, hk53⟩ a ha54
   rw [Lp.andThen_fin] at hm
   replace h8 := El.tr (Dw := Dw) h8 hk53
   replace h17 := El.tr (Dw := Dw) h17 hk53
   replace h43 := Vb.tr (Dw := Dw) h43 hk53
   replace hK := Tr.trans (Dw := Dw) hK hk53
   replace hB := Nat.le_trans hB hk53.ex.size
   replace hA := hk53.new
   replace hH : Hp w.heap.size A57 w52 (obS (α := Int) 3 v55 s49 :: obC b30 [v31] 75 :: obPS (obCk 102 portref2_ShiftsIn) 76 v31 x29.clocks :: []) := hH58
   refine C_at (n := ⟨45, [], none⟩) (fun _ _ => rfl) ?_ ha54
   refine C_seq ?_
   refine C_region ?_
   refine V_y (Y_makeFunc rfl rfl) rfl rfl rfl ?_
   refine V_alloc Try.zeroValue49 rfl ?_
   intro b132 w133 h134
   refine V_storeNew h134 Try.sizeOf49 rfl rfl rfl rfl (by simp [Value.cells, Value.oneCell']) ?_
   intro w135 h136
   have hk137 := h136.kp (Dw := Dw)
   have h138 : Vb A57 w135 b132 (.func (.func 24) #[] #[.pointer (some ⟨b5, 0, none⟩), .pointer (some ⟨b37, 0, none⟩), .pointer (some ⟨b14, 0, none⟩)]) := h136.vb hA rfl
   have ht139 := Kp.tr (Dw := Dw) hk137 hA hB
   replace hH := Hp.kp (Dw := Dw) hH hk137
   replace h8 := El.tr (Dw := Dw) h8 ht139
   replace h17 := El.tr (Dw := Dw) h17 ht139
   replace h43 := Vb.tr (Dw := Dw) h43 ht139
   replace hK := Tr.trans (Dw := Dw) hK ht139
   replace hB := Nat.le_trans hB ht139.ex.size
   replace hA := ht139.new
   refine V_to (fun _ _ => rfl) ?_
   refine C_seq ?_
   refine C_region ?_
   refine V_y (Y_move rfl) rfl rfl rfl ?_
   refine V_y (Y_makeFunc rfl rfl) rfl rfl rfl ?_
   replace hH : Hp w.heap.size A57 w135 (obPS (obCk 102 portref2_ShiftsIn) 76 v31 x29.clocks :: obS (α := Int) 3 v55 s49 :: obC b30 [v31] 75 :: []) := Hp.front hH (i := 2) rfl
   replace hH : Hp w.heap.size A57 w135 (obC b30 [v31] 75 :: obPS (obCk 102 portref2_ShiftsIn) 76 v31 x29.clocks :: obS (α := Int) 3 v55 s49 :: []) := Hp.front hH (i := 2) rfl
   replace hH : Hp w.heap.size A57 w135 (obE (fun _ : Unit => [obC b30 [v31] 75, obPS (obCk 102 portref2_ShiftsIn) 76 v31 x29.clocks]) :: obS (α := Int) 3 v55 s49 :: []) := Hp.pack (F := fun _ : Unit => [obC b30 [v31] 75, obPS (obCk 102 portref2_ShiftsIn) 76 v31 x29.clocks]) () hH
   replace hH : Hp w.heap.size A57 w135 (obS (α := Int) 3 v55 s49 :: obE (fun _ : Unit => [obC b30 [v31] 75, obPS (obCk 102 portref2_ShiftsIn) 76 v31 x29.clocks]) :: []) := Hp.front hH (i := 1) rfl
   obtain ⟨x143, hx143, hm⟩ := Option.bind_eq_some_iff.1 hm
   refine V_call Try.call26 rfl rfl rfl rfl (slices_SortStableFunc_Lint_int_c (Dw := Dw) w135 hB hA s49 v55 (fun y145 => portref2_RankOf_2 y145.1 y145.2 (fun y147 => portref2_RankOf_1 y147 l x29 m) l) (obE (fun _ : Unit => [obC b30 [v31] 75, obPS (obCk 102 portref2_ShiftsIn) 76 v31 x29.clocks])) (.func (.func 27) #[] #[.pointer (some ⟨b132, 0, none⟩), .pointer (some ⟨b5, 0, none⟩)]) rfl (fun w2 A2 L2 x2 r2 h1 h2 h3 h4 h5 => CallV.func Try.call27 rfl ((portref2_RankOf_2_c (Dw := Dw) w2 h1 h2 x2.1 x2.2 (fun y144 => portref2_RankOf_1 y144 l x29 m) (obE (fun _ : Unit => [obC b30 [v31] 75, obPS (obCk 102 portref2_ShiftsIn) 76 v31 x29.clocks])) (.func (.func 24) #[] #[.pointer (some ⟨b5, 0, none⟩), .pointer (some ⟨b37, 0, none⟩), .pointer (some ⟨b14, 0, none⟩)]) rfl (fun w2_1 A2_1 L2_1 x2_1 r2_1 h1_1 h2_1 h3_1 h4_1 h5_1 => CallV.func Try.call24 rfl ((portref2_RankOf_1_c (Dw := Dw) w2_1 h1_1 h2_1 x2_1 l b5 (El.tr (Dw := Dw) h8 (Tr.trans (Dw := Dw) h3 h3_1)) x29 b30 b37 v31 (Vb.tr (Dw := Dw) h43 (Tr.trans (Dw := Dw) h3 h3_1)) m b14 (El.tr (Dw := Dw) h17 (Tr.trans (Dw := Dw) h3 h3_1)) (Hp.un h4_1) h5_1).mono fun _ _ ⟨A3, e, hh, tt⟩ => ⟨e, A3, tt, Hp.pack () hh⟩)) b132 (Vb.tr (Dw := Dw) h138 h3) l b5 (El.tr (Dw := Dw) h8 h3) h4 h5).mono fun _ _ ⟨A3, e, hh, tt⟩ => ⟨e, A3, tt, hh⟩)) hH hx143) ?_
   rintro _ w148 ⟨A149, rfl, hH150, ht151⟩
   replace h138 := Vb.tr (Dw := Dw) h138 ht151
   replace h43 := Vb.tr (Dw := Dw) h43 ht151
   replace hK := Tr.trans (Dw := Dw) hK ht151
   replace hH : Hp w.heap.size A149 w148 (obS (α := Int) 3 v55 x143 :: obE (fun _ : Unit => [obC b30 [v31] 75, obPS (obCk 102 portref2_ShiftsIn) 76 v31 x29.clocks]) :: []) := hH150
   replace hH : Hp w.heap.size A149 w148 (obE (fun _ : Unit => [obC b30 [v31] 75, obPS (obCk 102 portref2_ShiftsIn) 76 v31 x29.clocks]) :: obS (α := Int) 3 v55 x143 :: []) := Hp.front hH (i := 1) rfl
   replace hH : Hp w.heap.size A149 w148 (obC b30 [v31] 75 :: obPS (obCk 102 portref2_ShiftsIn) 76 v31 x29.clocks :: obS (α := Int) 3 v55 x143 :: []) := Hp.un hH
   refine V_to (fun _ _ => rfl) ?_
   refine C_seq ?_
   refine C_region ?_
   refine V_y (Y_move rfl) rfl rfl rfl ?_
   refine V_y (Y_assign rfl) rfl rfl rfl ?_
   refine V_y (Y_assign rfl) rfl rfl rfl ?_
   refine V_to (fun _ _ => rfl) ?_
   obtain rfl := Option.some.inj hm
   refine C_ret ?_
   try simp only [↓inBlock_ret, ↓then_ret]
   exact retQ rfl (Res.two Try.results7 rfl rfl) ⟨v55, rfl, (Hp.ownd hH (i := 2) rfl), hK.kp⟩
set_option maxRecDepth 4000 in
set_option maxHeartbeats 4000000 in
theorem slices_Equal_Lint_int_c (w : World) {A : Nat → Prop} (hA : ∀ b, w.heap.size ≤ b → A b) (s1 : (List Int)) (v_s1 : Value) (h_s1 : Sl A w v_s1 s1) (s2 : (List Int)) (v_s2 : Value) (h_s2 : Sl A w v_s2 s2) {r : Bool} (hm : slices_Equal_Lint_int s1 s2 = some r) : Ret Try.prog 8 #[v_s1, v_s2] w fun v w' => v = .bool r ∧ Kp Dw w w' := by
 unfold slices_Equal_Lint_int at hm
 refine enter Try.func8 rfl Try.ntmps8 rfl ?_
 have hA0 := hA
 have hB := Nat.le_refl w.heap.size
 have hK : Tr Dw w.heap.size A w A w := Tr.refl (Dw := Dw) hA
 have hH : Hp w.heap.size A w [] := Hp.nil
 refine C_seq ?_
 refine C_region ?_
 refine V_y (Y_assign rfl) rfl rfl rfl ?_
 refine V_to (fun _ _ => rfl) ?_
 refine C_seq ?_
 refine C_seq ?_
 refine C_region ?_
 refine V_y (Y_move rfl) rfl rfl rfl ?_
 refine V_y (Y_lenSl h_s1 rfl Try.underlying27 rfl) rfl rfl rfl ?_
 refine V_y (Y_move rfl) rfl rfl rfl ?_
 refine V_y (Y_lenSl h_s2 rfl Try.underlying27 rfl) rfl rfl rfl ?_
 refine V_y (Y_neq rfl rfl) rfl rfl rfl ?_
 refine V_to (fun _ _ => rfl) ?_
 refine C_cond rfl (fun hc5 => ?_) (fun hc5 => ?_)
 ·rw [if_pos hc5] at hm
  refine C_seq ?_
  refine C_region ?_
  refine V_y (Y_assign rfl) rfl rfl rfl ?_
  refine V_to (fun _ _ => rfl) ?_
  obtain rfl := Option.some.inj hm
  refine C_ret ?_
  try simp only [↓inBlock_ret, ↓then_ret]
  exact retQ rfl (Res.one Try.results8 rfl) ⟨rfl, hK.kp⟩
 ·rw [if_neg (nt hc5)] at hm
  refine C_skip_to (fun _ _ => rfl) ?_
  refine C_seq ?_
  refine C_seq ?_
  refine C_region ?_
  refine V_y (Y_move rfl) rfl rfl rfl ?_
  refine V_y (Y_lenSl h_s1 rfl Try.underlying27 rfl) rfl rfl rfl ?_
  refine V_y (Y_move rfl) rfl rfl rfl ?_
  refine V_to (fun _ _ => rfl) ?_
  have hn27 := Sl.le h_s1
  obtain ⟨o6, ho6, hm⟩ := Option.bind_eq_some_iff.1 hm
  refine C_cutG (ι := (Unit × (Nat → Prop))) (fun ⟨s7, A13⟩ => []) (fun ⟨s7, A13⟩ => fun w' => o6 = .fin s7 ∧ Hp w.heap.size A13 w' ([]) ∧ Tr Dw w.heap.size A w A13 w') ?_ ?_
  ·refine C_block ?_
   refine C_range ho6 (fun k9 _ a w' => ∃ i : (Nat → Prop), Has ⟨26, [], none⟩ a ([(0, v_s1), (1, v_s2), (12, .int .i64 (s1.length : Int)), (13, .int .i64 (k9 : Int))]) ∧ Hp w.heap.size i w' ([]) ∧ Tr Dw w.heap.size A w i w') (fun a ha => ⟨A, ha.sub ⟨rfl, rfl, rfl, rfl, trivial⟩, ⟨hH, Tr.refl (Dw := Dw) hA⟩⟩) ?_
   rintro K k9 _ a w17 ⟨A18, ha43, hH19, hr8⟩ hle23 K26 h25
   refine C_of ?_ ha43
   replace h_s1 := Sl.tr (Dw := Dw) h_s1 hr8
   replace h_s2 := Sl.tr (Dw := Dw) h_s2 hr8
   replace hK := Tr.trans (Dw := Dw) hK hr8
   replace hB := Nat.le_trans hB hr8.ex.size
   replace hA := hr8.new
   replace hH : Hp w.heap.size A18 w17 ([]) := hH19
   refine C_seq (C_region (V_y (Y_lss rfl rfl) rfl rfl rfl (V_to (fun _ _ => rfl) ?_)))
   refine C_seq ?_
   refine C_cond rfl (fun hc28 => ?_) (fun hc28 => ?_)
   ·have hlt24 := lt_of_dec hc28
    obtain ⟨x20, h21, h22⟩ := K26 hlt24
    refine C_skip_to (fun _ _ => rfl) ?_
    refine C_seq ?_
    refine C_block ?_
    refine C_seq ?_
    refine C_region ?_
    refine V_y (Y_move rfl) rfl rfl rfl ?_
    refine V_y (Y_assign rfl) rfl rfl rfl ?_
    refine V_to (fun _ _ => rfl) ?_
    refine C_seq ?_
    refine C_region_q (Dw := Dw) Try_mixed (by kernel_rfl) ?_
    refine VQ_y (fun w' hw' => Y_move rfl) rfl rfl rfl ?_
    refine VQ_y (fun w' hw' => Y_move rfl) rfl rfl rfl ?_
    obtain ⟨x29, hx29, h21⟩ := Option.bind_eq_some_iff.1 h21
    refine VQ_indexAddr h_s1 hx29 Try.underlying27 Try.sizeOf3 rfl rfl rfl ?_
    intro b30 o31 h32
    refine VQ_y (fun w' hw' => Y_load (El.int (El.kp (Dw := Dw) h32 hw')) Try.isAgg3 rfl) rfl rfl rfl ?_
    refine VQ_y (fun w' hw' => Y_move rfl) rfl rfl rfl ?_
    refine VQ_y (fun w' hw' => Y_move rfl) rfl rfl rfl ?_
    obtain ⟨x33, hx33, h21⟩ := Option.bind_eq_some_iff.1 h21
    refine VQ_indexAddr h_s2 hx33 Try.underlying27 Try.sizeOf3 rfl rfl rfl ?_
    intro b34 o35 h36
    refine VQ_y (fun w' hw' => Y_load (El.int (El.kp (Dw := Dw) h36 hw')) Try.isAgg3 rfl) rfl rfl rfl ?_
    refine VQ_y (fun w' hw' => Y_neq rfl rfl) rfl rfl rfl ?_
    refine VQ_to (fun _ _ => rfl) (fun w37 hk38 => ?_)
    have ht39 := Kp.tr (Dw := Dw) hk38 hA hB
    replace hH := Hp.kp (Dw := Dw) hH hk38
    replace hK := Tr.trans (Dw := Dw) hK ht39
    replace hr8 := Tr.trans (Dw := Dw) hr8 ht39
    refine C_cond rfl (fun hc40 => ?_) (fun hc40 => ?_)
    ·rw [if_pos hc40] at h21
     refine C_seq ?_
     refine C_region ?_
     refine V_y (Y_assign rfl) rfl rfl rfl ?_
     refine V_to (fun _ _ => rfl) ?_
     obtain rfl := Option.some.inj h21
     obtain rfl := (h22 : Lp.rt _ = _)
     rw [Lp.andThen_rt] at hm
     obtain rfl := Option.some.inj hm
     refine C_ret ?_
     try simp only [↓inBlock_ret, ↓then_ret]
     exact retQ rfl (Res.one Try.results8 rfl) ⟨rfl, hK.kp⟩
    ·rw [if_neg (nt hc40)] at h21
     refine C_skip_to (fun _ _ => rfl) ?_
     refine C_region ?_
     refine V_y (Y_addI rfl rfl) rfl rfl rfl ?_
     refine V_y (Y_move rfl) rfl rfl rfl ?_
     obtain rfl := Option.some.inj h21
     refine V_end (fun a ha41 => ?_)
     exact ⟨(), hlt24, h22, ⟨A18, ha41.sub ⟨rfl, rfl, rfl, (congrArg (fun z => some (Value.int .i64 z)) (w64_succ hlt24 hn27)), trivial⟩, ⟨hH, hr8⟩⟩⟩
   ·refine C_exit (fun a ha42 => ?_)
    exact ⟨((), A18), ha42.sub trivial, ⟨(h25 (eq_of_dec hle23 hc28)).symm, hH, hr8⟩⟩
  rintro ⟨s7, A13⟩ w10 ⟨rfl, hH14, hk11⟩ a ha12
  rw [Lp.andThen_fin] at hm
  replace hK := Tr.trans (Dw := Dw) hK hk11
  replace hA := hk11.new
  replace hH : Hp w.heap.size A13 w10 ([]) := hH14
  refine C_at (n := ⟨26, [], none⟩) (fun _ _ => rfl) ?_ ha12
  refine C_seq ?_
  refine C_region ?_
  refine V_y (Y_assign rfl) rfl rfl rfl ?_
  refine V_to (fun _ _ => rfl) ?_
  obtain rfl := Option.some.inj hm
  refine C_ret ?_
  try simp only [↓inBlock_ret, ↓then_ret]
  exact retQ rfl (Res.one Try.results8 rfl) ⟨rfl, hK.kp⟩
end Go.Proofs.Ytabkhhpkibbheaa.W
